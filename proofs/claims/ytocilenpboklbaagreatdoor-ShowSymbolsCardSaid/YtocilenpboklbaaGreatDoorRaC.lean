import Derived.Test.YtocilenpboklbaaGreatDoorRaB
set_option maxRecDepth 100000
set_option linter.all false
namespace Go.Ev
abbrev ao1 : AL := .i (.c 0) .nil
abbrev w9 : AL := .g (.s 0) (.i (.v 1) (.g (.s 4) ao1))
abbrev aec : GE := .app 44 w9
abbrev aal : SE := .len aec
abbrev lm : List SA := [.mk true (.bin 7 .i64 (.c 4) (.v 1)) (.len (.s 4)) false]
abbrev axi : SE := .app 44 w9
abbrev bcb : SE := .app 46 w9
abbrev axj : List SA := [.mk false axi (.c 0) true, .mk false bcb (.c 0) true]
abbrev axk : List SA := [.mk false axi (.c 0) true, .mk false bcb (.c 1) true]
abbrev ao2 : List SA := [.mk false axi (.c 0) false]
abbrev af7 : AL := .i (.c 1) .nil
abbrev yh : AL := .g (.s 0) (.i (.v 1) (.g (.s 4) af7))
abbrev ab9 : GE := .app 44 yh
abbrev aca : SE := .len ab9
abbrev a0u : SE := .app 44 yh
abbrev ao3 : List SA := [.mk false a0u (.c 0) true, .mk false (.app 46 yh) (.c 1) true]
abbrev ao4 : List SA := [.mk false a0u (.c 0) false]
abbrev rj : AL := .g (.s 0) (.i (.v 1) (.g .nil ao1))
abbrev af8 : GE := .app 44 rj
abbrev acb : SE := .len af8
abbrev acd : List SA := [.mk false (.app 108 (.g (.s 0) (.i (.v 1) .nil))) (.c 0) true]
abbrev ao5 : SE := .app 44 rj
abbrev a0v : SE := .app 46 rj
abbrev a0w : List SA := [.mk false ao5 (.c 0) true, .mk false a0v (.c 0) true]
abbrev a0x : List SA := [.mk false ao5 (.c 0) true, .mk false a0v (.c 1) true]
abbrev a0y : List SA := [.mk false ao5 (.c 0) false]
abbrev np : SE := .bin 0 .i64 (.v 1) (.c 0)
abbrev rm : SE := .rd (.s 0) np
abbrev ao6 : SE := .app 41 (.i rm .nil)
abbrev ace : SE := .app 45 w9
abbrev gz : SE := .bin 0 .i64 (.v 1) (.c 1)
abbrev nq : SE := .bin 0 .i64 gz (.c 0)
abbrev af9 : SE := .rd (.s 0) nq
abbrev nr : SE := .bin 0 .i32 af9 (.c 0)
abbrev j9 : SE := .bin 0 .i64 gz (.c 1)
abbrev ao7 : SE := .bin 7 .i64 (.c 4) j9
abbrev aga : GE := .app 40 (.i nr .nil)
abbrev a0z : SE := .len aga
abbrev a00 : SE := .bin 6 .i64 (.len (.s 4)) a0z
abbrev ao8 : GE := .cat (.s 4) aga
abbrev agb : AL := .g (.s 0) (.i j9 (.g ao8 af7))
abbrev a01 : SE := .app 44 agb
abbrev a02 : SE := .app 46 agb
abbrev rn : SE := .bin 6 .i64 (.len (.s 0)) (.bin 7 .i64 (.c (-1)) j9)
abbrev o6 : SE := .bin 6 .i64 (.len (.s 0)) (.bin 7 .i64 (.c (-1)) (.v 1))
abbrev a03 : SE := .app 45 agb
abbrev ao9 : GE := .app 44 agb
abbrev a04 : SE := .len ao9
abbrev nu : SE := .bin 0 .i32 rm (.c 0)
abbrev apa : SE := .bin 7 .i64 (.c 4) gz
abbrev agc : GE := .app 40 (.i nu .nil)
abbrev a05 : SE := .len agc
abbrev a06 : SE := .bin 6 .i64 (.len (.s 4)) a05
abbrev agd : GE := .cat (.s 4) agc
abbrev age : AL := .g (.s 0) (.i gz (.g agd ao1))
abbrev a07 : SE := .app 46 age
abbrev nv : SE := .bin 6 .i64 (.len (.s 0)) (.bin 7 .i64 (.c (-1)) gz)
abbrev a08 : SE := .app 45 age
abbrev apb : GE := .app 44 age
abbrev a09 : SE := .len apb
abbrev agf : SE := .app 45 yh
abbrev agh : AL := .g (.s 0) (.i gz (.g agd af7))
abbrev a1a : GE := .app 44 agh
abbrev agi : AL := .g (.s 0) (.i j9 (.g aga af7))
abbrev apc : SE := .app 45 rj
abbrev a1b : GE := .app 44 agi
abbrev agj : AL := .g (.s 0) (.i gz (.g agc ao1))
abbrev a1c : SE := .app 46 agj
abbrev a1d : SE := .app 45 agj
abbrev apd : GE := .app 44 agj
abbrev a1e : SE := .len apd
noncomputable section
def aor : List AV := [.ptr (K.of 256) 0, .top, .ptr (K.of 260) 0, .sym .i64 (.v 3) [], .bool false, .ptr (K.of 261) 0] ++ tps 59
def aoq : List HO := [rdO 256 258 259 257 (.v 1) (.v 2), rwO 257] ++ buO 261 262 (.s 4) (.len (.s 4))
def awp : List HO := [rdO 256 258 259 257 (.app 45 w9) (.v 2), rwO 257] ++ buO 261 263 (.app 44 w9) aal
def awq : LR := (.x 0 ([.ptr (K.of 256) 0, .top, .ptr (K.of 260) 0, .sym .i64 (.v 3) [], .bool false, .ptr (K.of 261) 0] ++ tps 59))
def bas (m : SE) : LT := .mk 111 7 aor 263 aoq ((pI ++ lm) ++ axj) (some (mLn, m)) awq 264 awp
def bat : LT := .mk 111 7 aor 263 aoq ((pI ++ lm) ++ axj) none awq 264 awp
def awr : List HO := [rdO 256 258 259 257 (.app 45 w9) (.v 2), rwO 257] ++ buO 261 263 (.app 44 w9) aal
def aws : LR := (.x 0 ([.ptr (K.of 256) 0, .top, .ptr (K.of 260) 0, .sym .i64 (.v 3) [], .bool true, .ptr (K.of 261) 0] ++ tps 59))
def bav (m : SE) : LT := .mk 111 7 aor 263 aoq ((pI ++ lm) ++ axk) (some (mLn, m)) aws 264 awr
def baw : LT := .mk 111 7 aor 263 aoq ((pI ++ lm) ++ axk) none aws 264 awr
def baq : List HO := []
def bar : LR := (.p [.mk (.iface 46 (.agg [.int .i64 5, .sym .i64 (.len (.s 0)) []])) false] (tps 65))
def bm5 (m : SE) : LT := .mk 111 7 aor 263 aoq ((pI ++ lm) ++ ao2) (some (mLn, m)) bar 264 baq
def bj7 : LT := .mk 111 7 aor 263 aoq ((pI ++ lm) ++ ao2) none bar 264 baq
def a51 : List AV := [.ptr (K.of 256) 0, .top, .ptr (K.of 260) 0, .sym .i64 (.v 3) [], .bool true, .ptr (K.of 261) 0] ++ tps 59
def a50 : List HO := [rdO 256 258 259 257 (.v 1) (.v 2), rwO 257] ++ buO 261 262 (.s 4) (.len (.s 4))
def awt : List HO := [rdO 256 258 259 257 (.app 45 yh) (.v 2), rwO 257] ++ buO 261 263 (.app 44 yh) aca
def awu : LR := (.x 0 ([.ptr (K.of 256) 0, .top, .ptr (K.of 260) 0, .sym .i64 (.v 3) [], .bool true, .ptr (K.of 261) 0] ++ tps 59))
def ba0 (m : SE) : LT := .mk 111 7 a51 263 a50 ((pI ++ lm) ++ ao3) (some (mLn, m)) awu 264 awt
def ba1 : LT := .mk 111 7 a51 263 a50 ((pI ++ lm) ++ ao3) none awu 264 awt
def bay : List HO := []
def baz : LR := (.p [.mk (.iface 46 (.agg [.int .i64 5, .sym .i64 (.len (.s 0)) []])) false] (tps 65))
def bm7 (m : SE) : LT := .mk 111 7 a51 263 a50 ((pI ++ lm) ++ ao4) (some (mLn, m)) baz 264 bay
def bj8 : LT := .mk 111 7 a51 263 a50 ((pI ++ lm) ++ ao4) none baz 264 bay
def a54 : List AV := [.ptr (K.of 256) 0, .top, .ptr (K.of 260) 0, .sym .i64 (.v 3) [], .bool false, .ptr (K.of 261) 0] ++ tps 59
def a52 : List HO := [rdO 256 258 259 257 (.v 1) (.v 2), rwO 257] ++ [.mk 261 (.cells 96 false 0 0 [.nilPtr, .nilSlice])]
def ba4 : List HO := [rdO 256 258 259 257 (.app 45 rj) (.v 2), rwO 257] ++ buO 261 262 (.app 44 rj) acb
def ba5 : LR := (.x 0 ([.ptr (K.of 256) 0, .top, .ptr (K.of 260) 0, .sym .i64 (.v 3) [], .bool false, .ptr (K.of 261) 0] ++ tps 59))
def ba3 : LT := .mk 111 7 a54 262 a52 ((pI ++ acd) ++ a0w) none ba5 263 ba4
def ba8 : List HO := [rdO 256 258 259 257 (.app 45 rj) (.v 2), rwO 257] ++ buO 261 262 (.app 44 rj) acb
def ba9 : LR := (.x 0 ([.ptr (K.of 256) 0, .top, .ptr (K.of 260) 0, .sym .i64 (.v 3) [], .bool true, .ptr (K.of 261) 0] ++ tps 59))
def ba7 : LT := .mk 111 7 a54 262 a52 ((pI ++ acd) ++ a0x) none ba9 263 ba8
def bka : List HO := []
def bkb : LR := (.p [.mk (.iface 46 (.agg [.int .i64 5, .sym .i64 (.len (.s 0)) []])) false] (tps 65))
def bj9 : LT := .mk 111 7 a54 262 a52 ((pI ++ acd) ++ a0y) none bkb 263 bka
end
theorem aue (R : List Int) : ∀ (n : Nat) (p : Int) (b : List Int) (q : Int), ((R.length : Int) - p).toNat ≤ n → p ≤ (R.length : Int) → ((cu R p b q).f = 0 ∨ (cu R p b q).f = 5) ∧ ((cu R p b q).f = 0 → p ≤ (cu R p b q).p ∧ (cu R p b q).p ≤ (R.length : Int) ∧ ((cu R p b q).b.length : Int) ≤ (b.length : Int) + 4 * ((cu R p b q).p - p) ∧ (q = 1 → (cu R p b q).q = 1) ∧ (q = 0 → (cu R p b q).q = 0 ∨ (cu R p b q).q = 1))
 | 0, p, b, q, h, hp => by
   rw [dl, if_neg (by omega)]; dsimp only; exact ⟨.inl rfl, fun _ => ⟨by omega, by omega, by omega, id, .inl⟩⟩
 | n + 1, p, b, q, h, hp => by
   have e4 : ∀ c, ((dh c).length : Int) ≤ 4 := by
    intro c
    unfold dh
    repeat' split
    all_goals (simp only [zO, zS]; omega)
   rw [dl]
   split
   ·split
    ·dsimp only; exact ⟨.inl rfl, fun _ => ⟨by omega, by omega, by omega, id, .inl⟩⟩
    ·split
     ·split
      ·obtain ⟨h1, h2⟩ := aue R n (p + 2) (b ++ dh (R.getD (p + 1).toNat 0)) 1 (by omega) (by omega)
       refine ⟨h1, fun h0 => ?_⟩
       obtain ⟨a1, a2, a3, a4, a5⟩ := h2 h0
       have := e4 (R.getD (p + 1).toNat 0)
       rw [zP] at a3
       exact ⟨by omega, a2, by omega, fun _ => a4 rfl, fun _ => .inr (a4 rfl)⟩
      ·exact ⟨.inr rfl, fun h0 => absurd h0 (by decide)⟩
     ·obtain ⟨h1, h2⟩ := aue R n (p + 1) (b ++ dh (R.getD p.toNat 0)) q (by omega) (by omega)
      refine ⟨h1, fun h0 => ?_⟩
      obtain ⟨a1, a2, a3, a4, a5⟩ := h2 h0
      have := e4 (R.getD p.toNat 0)
      rw [zP] at a3
      exact ⟨by omega, a2, by omega, a4, a5⟩
   ·dsimp only; exact ⟨.inl rfl, fun _ => ⟨by omega, by omega, by omega, id, .inl⟩⟩
theorem f44 {σ : Nat → List Int} (a : SE) (g : GE) (q : SE) : a.eval σ ≤ (SE.len (.s 0)).eval σ → ((SE.app 44 (.g (.s 0) (.i a (.g g (.i q .nil))))).eval σ = 0 ∨ (SE.app 44 (.g (.s 0) (.i a (.g g (.i q .nil))))).eval σ = 5) ∧
  ((SE.app 44 (.g (.s 0) (.i a (.g g (.i q .nil))))).eval σ = 0 → a.eval σ ≤ (SE.app 45 (.g (.s 0) (.i a (.g g (.i q .nil))))).eval σ ∧ (SE.app 45 (.g (.s 0) (.i a (.g g (.i q .nil))))).eval σ ≤ (SE.len (.s 0)).eval σ ∧ (SE.len (.app 44 (.g (.s 0) (.i a (.g g (.i q .nil)))))).eval σ ≤ (SE.len g).eval σ + 4 * ((SE.app 45 (.g (.s 0) (.i a (.g g (.i q .nil))))).eval σ - a.eval σ) ∧
  (q.eval σ = 1 → (SE.app 46 (.g (.s 0) (.i a (.g g (.i q .nil))))).eval σ = 1) ∧ (q.eval σ = 0 → (SE.app 46 (.g (.s 0) (.i a (.g g (.i q .nil))))).eval σ = 0 ∨ (SE.app 46 (.g (.s 0) (.i a (.g g (.i q .nil))))).eval σ = 1)) :=
 fun h => aue _ _ _ _ _ (zY _) h
theorem awv {σ : Nat → List Int} (h : SAll σ (pI ++ lm)) : (ae9 (σ 0) ∧ 0 ≤ (σ 1).headD 0 ∧ (σ 1).headD 0 ≤ ((σ 0).length : Int) ∧ (σ 0).length ≤ 4000) ∧ ((σ 4).length : Int) ≤ 4 * (σ 1).headD 0 := by
 refine ⟨al5 (ap h).1, ?_⟩
 have := (ap h).2
 simp only [sall_cons, sF, evs] at this
 exact this.1
theorem hk4 [Gv] : ∀ t ∈ [boi, bdy, bdx, bnr, bnq], bj t := by
 intro t ht
 simp only [List.mem_cons, zH, or_false] at ht
 rcases ht with rfl | rfl | rfl | rfl | rfl
 ·exact bk1
 ·exact ave
 ·exact avd
 ·exact bbq
 ·exact bbp
def bm4 [Gv] : Prop := (SAll Gv.σ axj → b8 111 7 aor 263 aoq awq 264 awp) ∧ (SAll Gv.σ axk → b8 111 7 aor 263 aoq aws 264 awr) ∧ (SAll Gv.σ ao2 → b8 111 7 aor 263 aoq bar 264 baq)
theorem bpi [Gv] (hh : ∀ t ∈ [bas (mLn), bav (mLn), bm5 (mLn), ba0 (mLn), bm7 (mLn)], be t) (hI : SAll Gv.σ (pI ++ lm)) : bm4 := by
 obtain ⟨⟨hR, hp0, hpl, hL⟩, h4⟩ := awv hI
 rcases zl1 hI np (.len (.s 0)) with ⟨hI, k1⟩ | ⟨hI, k1⟩
 ·have hI := zF1 hI np (.c 0)
  have := zf1 (asj hR np)
  have hI := zF1 hI rm (.c 0)
  rcases zq1 hI ao6 (.c 1) with ⟨hI, k4⟩ | ⟨hI, k4⟩
  ·have := zf1 (f44 (σ := Gv.σ) (.v 1) (.s 4) (.c 0))
   have u := zf4 (dl (Gv.σ 0) ((Gv.σ 1).headD 0) (Gv.σ 4) 0)
   exact ⟨zt [(262, 263)] (.i (.v 1) ace (.i (.len (.s 4)) aal (.g (.s 4) aec .nil))) (zh hI hk4) (zp hI hh) hI ze1,
    zn1,
    zn1⟩
  ·rcases zq1 hI rm (.c 92) with ⟨hI, k5⟩ | ⟨hI, k5⟩
   ·rcases zl1 hI nq (.len (.s 0)) with ⟨hI, k6⟩ | ⟨hI, k6⟩
    ·have hI := zF1 hI nq (.c 0)
     have := zf1 (asj hR nq)
     have hI := zF1 hI af9 (.c 0)
     have hI := zF1 hI nr (.c 0)
     have hI := zT1 hI nr (.c 1114112)
     have hI := zF1 hI (.c 50000) (.len (.s 4))
     have hI := zF1 hI j9 (.c 0)
     have hI := zF1 hI (.len (.s 0)) j9
     have := zf1 (f40 (σ := Gv.σ) nr)
     have hI := zF1 hI ao7 a00
     have := zf1 (f44 (σ := Gv.σ) j9 ao8 (.c 1))
     rcases zq1 hI a01 (.c 0) with ⟨hI, k15⟩ | ⟨hI, k15⟩
     ·have hI := zE1 hI a02 (.c 1)
      have hI := zT1 hI rn o6
      have hI := zF1 hI rn (.c 0)
      have := zf1 (f44 (σ := Gv.σ) (.v 1) (.s 4) (.c 0))
      have u := zf4 (dl (Gv.σ 0) ((Gv.σ 1).headD 0) (Gv.σ 4) 0)
      exact ⟨zn1,
       zt [(264, 263)] (.i a03 ace (.i a04 aal (.g ao9 aec .nil))) (zh hI hk4) (zp hI hh) hI ze1,
       zn1⟩
     ·have hI := zT1 hI rn o6
      have hI := zF1 hI rn (.c 0)
      have := zf1 (f44 (σ := Gv.σ) (.v 1) (.s 4) (.c 0))
      have u := zf4 (dl (Gv.σ 0) ((Gv.σ 1).headD 0) (Gv.σ 4) 0)
      exact ⟨zn1,
       zn1,
       zt0 [] (zh hI hk4) (zp hI hh) hI⟩
    ·have := zf1 (f44 (σ := Gv.σ) (.v 1) (.s 4) (.c 0))
     have u := zf4 (dl (Gv.σ 0) ((Gv.σ 1).headD 0) (Gv.σ 4) 0)
     exact ⟨zn1,
      zn1,
      zt0 [] (zh hI hk4) (zp hI hh) hI⟩
   ·have hI := zF1 hI nu (.c 0)
    have hI := zT1 hI nu (.c 1114112)
    have hI := zF1 hI (.c 50000) (.len (.s 4))
    have hI := zF1 hI gz (.c 0)
    have hI := zF1 hI (.len (.s 0)) gz
    have := zf1 (f40 (σ := Gv.σ) nu)
    have hI := zF1 hI apa a06
    have := zf1 (f44 (σ := Gv.σ) gz agd (.c 0))
    rcases zq1 hI (.app 44 age) (.c 0) with ⟨hI, k12⟩ | ⟨hI, k12⟩
    ·rcases zq1 hI a07 (.c 0) with ⟨hI, k13⟩ | ⟨hI, k13⟩
     ·have hI := zT1 hI nv o6
      have hI := zF1 hI nv (.c 0)
      have := zf1 (f44 (σ := Gv.σ) (.v 1) (.s 4) (.c 0))
      have u := zf4 (dl (Gv.σ 0) ((Gv.σ 1).headD 0) (Gv.σ 4) 0)
      exact ⟨zt [(264, 263)] (.i a08 ace (.i a09 aal (.g apb aec .nil))) (zh hI hk4) (zp hI hh) hI ze1,
       zn1,
       zn1⟩
     ·have hI := zE1 hI a07 (.c 1)
      have hI := zT1 hI nv o6
      have hI := zF1 hI nv (.c 0)
      have := zf1 (f44 (σ := Gv.σ) (.v 1) (.s 4) (.c 0))
      have u := zf4 (dl (Gv.σ 0) ((Gv.σ 1).headD 0) (Gv.σ 4) 0)
      exact ⟨zn1,
       zt [(264, 263)] (.i a08 ace (.i a09 aal (.g apb aec .nil))) (zh hI hk4) (zp hI hh) hI ze1,
       zn1⟩
    ·have hI := zT1 hI nv o6
     have hI := zF1 hI nv (.c 0)
     have := zf1 (f44 (σ := Gv.σ) (.v 1) (.s 4) (.c 0))
     have u := zf4 (dl (Gv.σ 0) ((Gv.σ 1).headD 0) (Gv.σ 4) 0)
     exact ⟨zn1,
      zn1,
      zt0 [] (zh hI hk4) (zp hI hh) hI⟩
 ·have := zf1 (f44 (σ := Gv.σ) (.v 1) (.s 4) (.c 0))
  have u := zf4 (dl (Gv.σ 0) ((Gv.σ 1).headD 0) (Gv.σ 4) 0)
  exact ⟨zt [(262, 263)] (.i (.v 1) ace (.i (.len (.s 4)) aal (.g (.s 4) aec .nil))) (zh hI hk4) (zp hI hh) hI ze1,
   zn1,
   zn1⟩
def bm6 [Gv] : Prop := (SAll Gv.σ ao3 → b8 111 7 a51 263 a50 awu 264 awt) ∧ (SAll Gv.σ ao4 → b8 111 7 a51 263 a50 baz 264 bay)
theorem bpj [Gv] (hh : ∀ t ∈ [bas (mLn), bav (mLn), bm5 (mLn), ba0 (mLn), bm7 (mLn)], be t) (hI : SAll Gv.σ (pI ++ lm)) : bm6 := by
 obtain ⟨⟨hR, hp0, hpl, hL⟩, h4⟩ := awv hI
 rcases zl1 hI np (.len (.s 0)) with ⟨hI, k1⟩ | ⟨hI, k1⟩
 ·have hI := zF1 hI np (.c 0)
  have := zf1 (asj hR np)
  have hI := zF1 hI rm (.c 0)
  rcases zq1 hI ao6 (.c 1) with ⟨hI, k4⟩ | ⟨hI, k4⟩
  ·have := zf1 (f44 (σ := Gv.σ) (.v 1) (.s 4) (.c 1))
   have u := zf4 (dl (Gv.σ 0) ((Gv.σ 1).headD 0) (Gv.σ 4) 1)
   exact ⟨zt [(262, 263)] (.i (.v 1) agf (.i (.len (.s 4)) aca (.g (.s 4) ab9 .nil))) (zh hI hk4) (zp hI hh) hI ze1,
    zn1⟩
  ·rcases zq1 hI rm (.c 92) with ⟨hI, k5⟩ | ⟨hI, k5⟩
   ·rcases zl1 hI nq (.len (.s 0)) with ⟨hI, k6⟩ | ⟨hI, k6⟩
    ·have hI := zF1 hI nq (.c 0)
     have := zf1 (asj hR nq)
     have hI := zF1 hI af9 (.c 0)
     have hI := zF1 hI nr (.c 0)
     have hI := zT1 hI nr (.c 1114112)
     have hI := zF1 hI (.c 50000) (.len (.s 4))
     have hI := zF1 hI j9 (.c 0)
     have hI := zF1 hI (.len (.s 0)) j9
     have := zf1 (f40 (σ := Gv.σ) nr)
     have hI := zF1 hI ao7 a00
     have := zf1 (f44 (σ := Gv.σ) j9 ao8 (.c 1))
     rcases zq1 hI a01 (.c 0) with ⟨hI, k15⟩ | ⟨hI, k15⟩
     ·have hI := zE1 hI a02 (.c 1)
      have hI := zT1 hI rn o6
      have hI := zF1 hI rn (.c 0)
      have := zf1 (f44 (σ := Gv.σ) (.v 1) (.s 4) (.c 1))
      have u := zf4 (dl (Gv.σ 0) ((Gv.σ 1).headD 0) (Gv.σ 4) 1)
      exact ⟨zt [(264, 263)] (.i a03 agf (.i a04 aca (.g ao9 ab9 .nil))) (zh hI hk4) (zp hI hh) hI ze1,
       zn1⟩
     ·have hI := zT1 hI rn o6
      have hI := zF1 hI rn (.c 0)
      have := zf1 (f44 (σ := Gv.σ) (.v 1) (.s 4) (.c 1))
      have u := zf4 (dl (Gv.σ 0) ((Gv.σ 1).headD 0) (Gv.σ 4) 1)
      exact ⟨zn1,
       zt0 [] (zh hI hk4) (zp hI hh) hI⟩
    ·have := zf1 (f44 (σ := Gv.σ) (.v 1) (.s 4) (.c 1))
     have u := zf4 (dl (Gv.σ 0) ((Gv.σ 1).headD 0) (Gv.σ 4) 1)
     exact ⟨zn1,
      zt0 [] (zh hI hk4) (zp hI hh) hI⟩
   ·have hI := zF1 hI nu (.c 0)
    have hI := zT1 hI nu (.c 1114112)
    have hI := zF1 hI (.c 50000) (.len (.s 4))
    have hI := zF1 hI gz (.c 0)
    have hI := zF1 hI (.len (.s 0)) gz
    have := zf1 (f40 (σ := Gv.σ) nu)
    have hI := zF1 hI apa a06
    have := zf1 (f44 (σ := Gv.σ) gz agd (.c 1))
    rcases zq1 hI (.app 44 agh) (.c 0) with ⟨hI, k12⟩ | ⟨hI, k12⟩
    ·have hI := zE1 hI (.app 46 agh) (.c 1)
     have hI := zT1 hI nv o6
     have hI := zF1 hI nv (.c 0)
     have := zf1 (f44 (σ := Gv.σ) (.v 1) (.s 4) (.c 1))
     have u := zf4 (dl (Gv.σ 0) ((Gv.σ 1).headD 0) (Gv.σ 4) 1)
     exact ⟨zt [(264, 263)] (.i (.app 45 agh) agf (.i (.len a1a) aca (.g a1a ab9 .nil))) (zh hI hk4) (zp hI hh) hI ze1,
      zn1⟩
    ·have hI := zT1 hI nv o6
     have hI := zF1 hI nv (.c 0)
     have := zf1 (f44 (σ := Gv.σ) (.v 1) (.s 4) (.c 1))
     have u := zf4 (dl (Gv.σ 0) ((Gv.σ 1).headD 0) (Gv.σ 4) 1)
     exact ⟨zn1,
      zt0 [] (zh hI hk4) (zp hI hh) hI⟩
 ·have := zf1 (f44 (σ := Gv.σ) (.v 1) (.s 4) (.c 1))
  have u := zf4 (dl (Gv.σ 0) ((Gv.σ 1).headD 0) (Gv.σ 4) 1)
  exact ⟨zt [(262, 263)] (.i (.v 1) agf (.i (.len (.s 4)) aca (.g (.s 4) ab9 .nil))) (zh hI hk4) (zp hI hh) hI ze1,
   zn1⟩
theorem ad8 : ∀ (B : Nat) (σ : Nat → List Int), SAll σ (pI ++ lm) → (mLn).eval σ < (B : Int) → @bm4 ⟨σ⟩ ∧ @bm6 ⟨σ⟩
 | 0, σ, hI, hb => by obtain ⟨⟨h1, h2, h3, h4⟩, _⟩ := awv hI; simp only [mLn, evs, wr] at hb; omega
 | B + 1, σ, hI, hb => by
   have ih : ∀ σ' : Nat → List Int, SAll σ' (pI ++ lm) → 0 ≤ (mLn).eval σ' ∧ (mLn).eval σ' < (mLn).eval σ → @bm4 ⟨σ'⟩ ∧ @bm6 ⟨σ'⟩ := fun σ' h h' => ad8 B σ' h (by omega)
   have hh : ∀ t ∈ [bas (mLn), bav (mLn), bm5 (mLn), ba0 (mLn), bm7 (mLn)], @be ⟨σ⟩ t := by
    intro t ht
    simp only [List.mem_cons, zH, or_false] at ht
    rcases ht with rfl | rfl | rfl | rfl | rfl
    ·exact fun σ' _ hA hb => (ih σ' (ap hA).1 hb).1.1 (ap hA).2
    ·exact fun σ' _ hA hb => (ih σ' (ap hA).1 hb).1.2.1 (ap hA).2
    ·exact fun σ' _ hA hb => (ih σ' (ap hA).1 hb).1.2.2 (ap hA).2
    ·exact fun σ' _ hA hb => (ih σ' (ap hA).1 hb).2.1 (ap hA).2
    ·exact fun σ' _ hA hb => (ih σ' (ap hA).1 hb).2.2 (ap hA).2
   exact ⟨@bpi ⟨σ⟩ hh hI, @bpj ⟨σ⟩ hh hI⟩
theorem bau [Gv] : be bat := fun σ _ hA _ => (ad8 (((mLn).eval σ).toNat + 1) σ (ap hA).1 (by omega)).1.1 (ap hA).2
theorem bax [Gv] : be baw := fun σ _ hA _ => (ad8 (((mLn).eval σ).toNat + 1) σ (ap hA).1 (by omega)).1.2.1 (ap hA).2
theorem bf6 [Gv] : be bj7 := fun σ _ hA _ => (ad8 (((mLn).eval σ).toNat + 1) σ (ap hA).1 (by omega)).1.2.2 (ap hA).2
theorem ba2 [Gv] : be ba1 := fun σ _ hA _ => (ad8 (((mLn).eval σ).toNat + 1) σ (ap hA).1 (by omega)).2.1 (ap hA).2
theorem bf7 [Gv] : be bj8 := fun σ _ hA _ => (ad8 (((mLn).eval σ).toNat + 1) σ (ap hA).1 (by omega)).2.2 (ap hA).2
theorem tk5 [Gv] : ∀ t ∈ [bat, baw, bj7, ba1, bj8], be t := by
 intro t ht
 simp only [List.mem_cons, zH, or_false] at ht
 rcases ht with rfl | rfl | rfl | rfl | rfl
 ·exact bau
 ·exact bax
 ·exact bf6
 ·exact ba2
 ·exact bf7
theorem bm8 {σ : Nat → List Int} (h : SAll σ (pI ++ acd)) : (ae9 (σ 0) ∧ 0 ≤ (σ 1).headD 0 ∧ (σ 1).headD 0 ≤ ((σ 0).length : Int) ∧ (σ 0).length ≤ 4000) ∧ (σ 1).headD 0 < ((σ 0).length : Int) ∧ ¬ jo ((σ 0).getD ((σ 1).headD 0).toNat 0) = 1 := by
 refine ⟨al5 (ap h).1, ?_⟩
 have := (ap h).2
 simp only [sall_cons, sE, evs, bd1] at this
 have := this.1
 split at this
 ·exact ⟨by assumption, by omega⟩
 ·omega
def b0d [Gv] : Prop := (SAll Gv.σ a0w → b8 111 7 a54 262 a52 ba5 263 ba4) ∧ (SAll Gv.σ a0x → b8 111 7 a54 262 a52 ba9 263 ba8) ∧ (SAll Gv.σ a0y → b8 111 7 a54 262 a52 bkb 263 bka)
theorem a7r [Gv] (hI : SAll Gv.σ (pI ++ acd)) : b0d := by
 obtain ⟨⟨hR, hp0, hpl, hL⟩, hlt, hdl⟩ := bm8 hI
 have hI := zT1 hI np (.len (.s 0))
 have hI := zF1 hI np (.c 0)
 have := zf1 (asj hR np)
 have hI := zF1 hI rm (.c 0)
 have hI := zN1 hI ao6 (.c 1)
 rcases zq1 hI rm (.c 92) with ⟨hI, k5⟩ | ⟨hI, k5⟩
 ·rcases zl1 hI nq (.len (.s 0)) with ⟨hI, k6⟩ | ⟨hI, k6⟩
  ·have hI := zF1 hI nq (.c 0)
   have := zf1 (asj hR nq)
   have hI := zF1 hI af9 (.c 0)
   have hI := zF1 hI nr (.c 0)
   have hI := zT1 hI nr (.c 1114112)
   have hI := zF1 hI j9 (.c 0)
   have hI := zF1 hI (.len (.s 0)) j9
   have := zf1 (f40 (σ := Gv.σ) nr)
   have hI := zF1 hI ao7 a0z
   have := zf1 (f44 (σ := Gv.σ) j9 aga (.c 1))
   rcases zq1 hI (.app 44 agi) (.c 0) with ⟨hI, k14⟩ | ⟨hI, k14⟩
   ·have hI := zE1 hI (.app 46 agi) (.c 1)
    have := zf1 (f44 (σ := Gv.σ) (.v 1) .nil (.c 0))
    have u := zf5 (dl (Gv.σ 0) ((Gv.σ 1).headD 0) [] 0)
    exact ⟨zn1,
     zt [(263, 262)] (.i (.app 45 agi) apc (.i (.len a1b) acb (.g a1b af8 .nil))) (zh hI hk4) (zp hI tk5) hI ze3,
     zn1⟩
   ·have := zf1 (f44 (σ := Gv.σ) (.v 1) .nil (.c 0))
    have u := zf5 (dl (Gv.σ 0) ((Gv.σ 1).headD 0) [] 0)
    exact ⟨zn1,
     zn1,
     zt0 [] (zh hI hk4) (zp hI tk5) hI⟩
  ·have := zf1 (f44 (σ := Gv.σ) (.v 1) .nil (.c 0))
   have u := zf5 (dl (Gv.σ 0) ((Gv.σ 1).headD 0) [] 0)
   exact ⟨zn1,
    zn1,
    zt0 [] (zh hI hk4) (zp hI tk5) hI⟩
 ·have hI := zF1 hI nu (.c 0)
  have hI := zT1 hI nu (.c 1114112)
  have hI := zF1 hI gz (.c 0)
  have hI := zF1 hI (.len (.s 0)) gz
  have := zf1 (f40 (σ := Gv.σ) nu)
  have hI := zF1 hI apa a05
  have := zf1 (f44 (σ := Gv.σ) gz agc (.c 0))
  rcases zq1 hI (.app 44 agj) (.c 0) with ⟨hI, k11⟩ | ⟨hI, k11⟩
  ·rcases zq1 hI a1c (.c 0) with ⟨hI, k12⟩ | ⟨hI, k12⟩
   ·have := zf1 (f44 (σ := Gv.σ) (.v 1) .nil (.c 0))
    have u := zf5 (dl (Gv.σ 0) ((Gv.σ 1).headD 0) [] 0)
    exact ⟨zt [(263, 262)] (.i a1d apc (.i a1e acb (.g apd af8 .nil))) (zh hI hk4) (zp hI tk5) hI ze3,
     zn1,
     zn1⟩
   ·have hI := zE1 hI a1c (.c 1)
    have := zf1 (f44 (σ := Gv.σ) (.v 1) .nil (.c 0))
    have u := zf5 (dl (Gv.σ 0) ((Gv.σ 1).headD 0) [] 0)
    exact ⟨zn1,
     zt [(263, 262)] (.i a1d apc (.i a1e acb (.g apd af8 .nil))) (zh hI hk4) (zp hI tk5) hI ze3,
     zn1⟩
  ·have := zf1 (f44 (σ := Gv.σ) (.v 1) .nil (.c 0))
   have u := zf5 (dl (Gv.σ 0) ((Gv.σ 1).headD 0) [] 0)
   exact ⟨zn1,
    zn1,
    zt0 [] (zh hI hk4) (zp hI tk5) hI⟩
theorem ba6 [Gv] : be ba3 := fun σ _ hA _ => (@a7r ⟨σ⟩  (ap hA).1).1 (ap hA).2
theorem bba [Gv] : be ba7 := fun σ _ hA _ => (@a7r ⟨σ⟩  (ap hA).1).2.1 (ap hA).2
theorem bf8 [Gv] : be bj9 := fun σ _ hA _ => (@a7r ⟨σ⟩  (ap hA).1).2.2 (ap hA).2
end Go.Ev
