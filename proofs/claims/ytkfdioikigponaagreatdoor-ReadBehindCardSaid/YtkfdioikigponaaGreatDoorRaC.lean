import Derived.Test.YtkfdioikigponaaGreatDoorRaB
set_option maxRecDepth 100000
set_option linter.all false
namespace Go.Ev
abbrev axz : AL := .i (.c 0) .nil
abbrev abu : AL := .g (.s 0) (.i (.v 1) (.g (.s 4) axz))
abbrev aiz : GE := .app 44 abu
abbrev ae1 : SE := .len aiz
abbrev o5 : List SA := [.mk true (.bin 7 .i64 (.c 4) (.v 1)) (.len (.s 4)) false]
abbrev a6l : SE := .app 44 abu
abbrev bn2 : SE := .app 46 abu
abbrev a7n : List SA := [.mk false a6l (.c 0) true, .mk false bn2 (.c 0) true]
abbrev a65 : List SA := [.mk false a6l (.c 0) true, .mk false bn2 (.c 1) true]
abbrev azb : List SA := [.mk false a6l (.c 0) false]
abbrev alk : AL := .i (.c 1) .nil
abbrev ac2 : AL := .g (.s 0) (.i (.v 1) (.g (.s 4) alk))
abbrev aif : GE := .app 44 ac2
abbrev ag4 : SE := .len aif
abbrev a9k : SE := .app 44 ac2
abbrev aw8 : List SA := [.mk false a9k (.c 0) true, .mk false (.app 46 ac2) (.c 1) true]
abbrev axn : List SA := [.mk false a9k (.c 0) false]
abbrev xg : AL := .g (.s 0) (.i (.v 1) (.g .nil axz))
abbrev alr : GE := .app 44 xg
abbrev ahd : SE := .len alr
abbrev ag0 : List SA := [.mk false (.app 108 (.g (.s 0) (.i (.v 1) .nil))) (.c 0) true]
abbrev ayk : SE := .app 44 xg
abbrev bag : SE := .app 46 xg
abbrev a8j : List SA := [.mk false ayk (.c 0) true, .mk false bag (.c 0) true]
abbrev bee : List SA := [.mk false ayk (.c 0) true, .mk false bag (.c 1) true]
abbrev bdn : List SA := [.mk false ayk (.c 0) false]
abbrev sh : SE := .bin 0 .i64 (.v 1) (.c 0)
abbrev xb : SE := .rd (.s 0) sh
abbrev ayn : SE := .app 41 (.i xb .nil)
abbrev ah1 : SE := .app 45 abu
abbrev j7 : SE := .bin 0 .i64 (.v 1) (.c 1)
abbrev sp : SE := .bin 0 .i64 j7 (.c 0)
abbrev am5 : SE := .rd (.s 0) sp
abbrev s6 : SE := .bin 0 .i32 am5 (.c 0)
abbrev nk : SE := .bin 0 .i64 j7 (.c 1)
abbrev axd : SE := .bin 7 .i64 (.c 4) nk
abbrev alo : GE := .app 40 (.i s6 .nil)
abbrev bbz : SE := .len alo
abbrev a99 : SE := .bin 6 .i64 (.len (.s 4)) bbz
abbrev awx : GE := .cat (.s 4) alo
abbrev amf : AL := .g (.s 0) (.i nk (.g awx alk))
abbrev a9v : SE := .app 44 amf
abbrev bcs : SE := .app 46 amf
abbrev wp : SE := .bin 6 .i64 (.len (.s 0)) (.bin 7 .i64 (.c (-1)) nk)
abbrev tw : SE := .bin 6 .i64 (.len (.s 0)) (.bin 7 .i64 (.c (-1)) (.v 1))
abbrev a8z : SE := .app 45 amf
abbrev ayd : GE := .app 44 amf
abbrev bb0 : SE := .len ayd
abbrev ss : SE := .bin 0 .i32 xb (.c 0)
abbrev aw6 : SE := .bin 7 .i64 (.c 4) j7
abbrev alv : GE := .app 40 (.i ss .nil)
abbrev bd7 : SE := .len alv
abbrev a9n : SE := .bin 6 .i64 (.len (.s 4)) bd7
abbrev amo : GE := .cat (.s 4) alv
abbrev ann : AL := .g (.s 0) (.i j7 (.g amo axz))
abbrev a96 : SE := .app 46 ann
abbrev sm : SE := .bin 6 .i64 (.len (.s 0)) (.bin 7 .i64 (.c (-1)) j7)
abbrev bbi : SE := .app 45 ann
abbrev av2 : GE := .app 44 ann
abbrev a7r : SE := .len av2
abbrev alm : SE := .app 45 ac2
abbrev am6 : AL := .g (.s 0) (.i j7 (.g amo alk))
abbrev bbd : GE := .app 44 am6
abbrev anb : AL := .g (.s 0) (.i nk (.g alo alk))
abbrev aze : SE := .app 45 xg
abbrev a8l : GE := .app 44 anb
abbrev ams : AL := .g (.s 0) (.i j7 (.g alv axz))
abbrev ba2 : SE := .app 46 ams
abbrev bdf : SE := .app 45 ams
abbrev au0 : GE := .app 44 ams
abbrev beg : SE := .len au0
noncomputable section
def azw : List AV := [.ptr (K.of 256) 0, .top, .ptr (K.of 260) 0, .sym .i64 (.v 3) [], .bool false, .ptr (K.of 261) 0] ++ tps 59
def ax4 : List HO := [rdO 256 258 259 257 (.v 1) (.v 2), rwO 257] ++ buO 261 262 (.s 4) (.len (.s 4))
def a4p : List HO := [rdO 256 258 259 257 (.app 45 abu) (.v 2), rwO 257] ++ buO 261 263 (.app 44 abu) ae1
def a55 : LR := (.x 0 ([.ptr (K.of 256) 0, .top, .ptr (K.of 260) 0, .sym .i64 (.v 3) [], .bool false, .ptr (K.of 261) 0] ++ tps 59))
def bi4 (m : SE) : LT := .mk 53 7 azw 263 ax4 ((pI ++ o5) ++ a7n) (some (mLn, m)) a55 264 a4p
def bli : LT := .mk 53 7 azw 263 ax4 ((pI ++ o5) ++ a7n) none a55 264 a4p
def a7a : List HO := [rdO 256 258 259 257 (.app 45 abu) (.v 2), rwO 257] ++ buO 261 263 (.app 44 abu) ae1
def a6y : LR := (.x 0 ([.ptr (K.of 256) 0, .top, .ptr (K.of 260) 0, .sym .i64 (.v 3) [], .bool true, .ptr (K.of 261) 0] ++ tps 59))
def bls (m : SE) : LT := .mk 53 7 azw 263 ax4 ((pI ++ o5) ++ a65) (some (mLn, m)) a6y 264 a7a
def bjo : LT := .mk 53 7 azw 263 ax4 ((pI ++ o5) ++ a65) none a6y 264 a7a
def bil : List HO := []
def bj4 : LR := (.p [.mk (.iface 34 (.agg [.int .i64 5, .sym .i64 (.len (.s 0)) []])) false] (tps 65))
def b3z (m : SE) : LT := .mk 53 7 azw 263 ax4 ((pI ++ o5) ++ azb) (some (mLn, m)) bj4 264 bil
def by9 : LT := .mk 53 7 azw 263 ax4 ((pI ++ o5) ++ azb) none bj4 264 bil
def bf4 : List AV := [.ptr (K.of 256) 0, .top, .ptr (K.of 260) 0, .sym .i64 (.v 3) [], .bool true, .ptr (K.of 261) 0] ++ tps 59
def bfw : List HO := [rdO 256 258 259 257 (.v 1) (.v 2), rwO 257] ++ buO 261 262 (.s 4) (.len (.s 4))
def a45 : List HO := [rdO 256 258 259 257 (.app 45 ac2) (.v 2), rwO 257] ++ buO 261 263 (.app 44 ac2) ag4
def a5k : LR := (.x 0 ([.ptr (K.of 256) 0, .top, .ptr (K.of 260) 0, .sym .i64 (.v 3) [], .bool true, .ptr (K.of 261) 0] ++ tps 59))
def bnl (m : SE) : LT := .mk 53 7 bf4 263 bfw ((pI ++ o5) ++ aw8) (some (mLn, m)) a5k 264 a45
def bn0 : LT := .mk 53 7 bf4 263 bfw ((pI ++ o5) ++ aw8) none a5k 264 a45
def bnd : List HO := []
def bm0 : LR := (.p [.mk (.iface 34 (.agg [.int .i64 5, .sym .i64 (.len (.s 0)) []])) false] (tps 65))
def b3b (m : SE) : LT := .mk 53 7 bf4 263 bfw ((pI ++ o5) ++ axn) (some (mLn, m)) bm0 264 bnd
def bu6 : LT := .mk 53 7 bf4 263 bfw ((pI ++ o5) ++ axn) none bm0 264 bnd
def bey : List AV := [.ptr (K.of 256) 0, .top, .ptr (K.of 260) 0, .sym .i64 (.v 3) [], .bool false, .ptr (K.of 261) 0] ++ tps 59
def bfo : List HO := [rdO 256 258 259 257 (.v 1) (.v 2), rwO 257] ++ [.mk 261 (.cells 108 false 0 0 [.nilPtr, .nilSlice])]
def bk6 : List HO := [rdO 256 258 259 257 (.app 45 xg) (.v 2), rwO 257] ++ buO 261 262 (.app 44 xg) ahd
def bkk : LR := (.x 0 ([.ptr (K.of 256) 0, .top, .ptr (K.of 260) 0, .sym .i64 (.v 3) [], .bool false, .ptr (K.of 261) 0] ++ tps 59))
def an6 : LT := .mk 53 7 bey 262 bfo ((pI ++ ag0) ++ a8j) none bkk 263 bk6
def bjp : List HO := [rdO 256 258 259 257 (.app 45 xg) (.v 2), rwO 257] ++ buO 261 262 (.app 44 xg) ahd
def bnm : LR := (.x 0 ([.ptr (K.of 256) 0, .top, .ptr (K.of 260) 0, .sym .i64 (.v 3) [], .bool true, .ptr (K.of 261) 0] ++ tps 59))
def ar6 : LT := .mk 53 7 bey 262 bfo ((pI ++ ag0) ++ bee) none bnm 263 bjp
def bz3 : List HO := []
def bzf : LR := (.p [.mk (.iface 34 (.agg [.int .i64 5, .sym .i64 (.len (.s 0)) []])) false] (tps 65))
def a2w : LT := .mk 53 7 bey 262 bfo ((pI ++ ag0) ++ bdn) none bzf 263 bz3
end
theorem akn (R : List Int) : ∀ (n : Nat) (p : Int) (b : List Int) (q : Int), ((R.length : Int) - p).toNat ≤ n → p ≤ (R.length : Int) → ((lg R p b q).f = 0 ∨ (lg R p b q).f = 5) ∧ ((lg R p b q).f = 0 → p ≤ (lg R p b q).p ∧ (lg R p b q).p ≤ (R.length : Int) ∧ ((lg R p b q).b.length : Int) ≤ (b.length : Int) + 4 * ((lg R p b q).p - p) ∧ (q = 1 → (lg R p b q).q = 1) ∧ (q = 0 → (lg R p b q).q = 0 ∨ (lg R p b q).q = 1))
 | 0, p, b, q, h, hp => by
   rw [c7, if_neg (by omega)]; dsimp only; exact ⟨.inl rfl, fun _ => ⟨by omega, by omega, by omega, id, .inl⟩⟩
 | n + 1, p, b, q, h, hp => by
   have e4 : ∀ c, ((ll c).length : Int) ≤ 4 := by
    intro c
    unfold ll
    repeat' split
    all_goals (simp only [zO, zS]; omega)
   rw [c7]
   split
   ·split
    ·dsimp only; exact ⟨.inl rfl, fun _ => ⟨by omega, by omega, by omega, id, .inl⟩⟩
    ·split
     ·split
      ·obtain ⟨h1, h2⟩ := akn R n (p + 2) (b ++ ll (R.getD (p + 1).toNat 0)) 1 (by omega) (by omega)
       refine ⟨h1, fun h0 => ?_⟩
       obtain ⟨a1, a2, a3, a4, a5⟩ := h2 h0
       have := e4 (R.getD (p + 1).toNat 0)
       rw [zP] at a3
       exact ⟨by omega, a2, by omega, fun _ => a4 rfl, fun _ => .inr (a4 rfl)⟩
      ·exact ⟨.inr rfl, fun h0 => absurd h0 (by decide)⟩
     ·obtain ⟨h1, h2⟩ := akn R n (p + 1) (b ++ ll (R.getD p.toNat 0)) q (by omega) (by omega)
      refine ⟨h1, fun h0 => ?_⟩
      obtain ⟨a1, a2, a3, a4, a5⟩ := h2 h0
      have := e4 (R.getD p.toNat 0)
      rw [zP] at a3
      exact ⟨by omega, a2, by omega, a4, a5⟩
   ·dsimp only; exact ⟨.inl rfl, fun _ => ⟨by omega, by omega, by omega, id, .inl⟩⟩
theorem f44 {σ : Nat → List Int} (a : SE) (g : GE) (q : SE) : a.eval σ ≤ (SE.len (.s 0)).eval σ → ((SE.app 44 (.g (.s 0) (.i a (.g g (.i q .nil))))).eval σ = 0 ∨ (SE.app 44 (.g (.s 0) (.i a (.g g (.i q .nil))))).eval σ = 5) ∧
  ((SE.app 44 (.g (.s 0) (.i a (.g g (.i q .nil))))).eval σ = 0 → a.eval σ ≤ (SE.app 45 (.g (.s 0) (.i a (.g g (.i q .nil))))).eval σ ∧ (SE.app 45 (.g (.s 0) (.i a (.g g (.i q .nil))))).eval σ ≤ (SE.len (.s 0)).eval σ ∧ (SE.len (.app 44 (.g (.s 0) (.i a (.g g (.i q .nil)))))).eval σ ≤ (SE.len g).eval σ + 4 * ((SE.app 45 (.g (.s 0) (.i a (.g g (.i q .nil))))).eval σ - a.eval σ) ∧
  (q.eval σ = 1 → (SE.app 46 (.g (.s 0) (.i a (.g g (.i q .nil))))).eval σ = 1) ∧ (q.eval σ = 0 → (SE.app 46 (.g (.s 0) (.i a (.g g (.i q .nil))))).eval σ = 0 ∨ (SE.app 46 (.g (.s 0) (.i a (.g g (.i q .nil))))).eval σ = 1)) :=
 fun h => akn _ _ _ _ _ (zY _) h
theorem a6g {σ : Nat → List Int} (h : SAll σ (pI ++ o5)) : (gn (σ 0) ∧ 0 ≤ (σ 1).headD 0 ∧ (σ 1).headD 0 ≤ ((σ 0).length : Int) ∧ (σ 0).length ≤ 4000) ∧ ((σ 4).length : Int) ≤ 4 * (σ 1).headD 0 := by
 refine ⟨qx (aj h).1, ?_⟩
 have := (aj h).2
 simp only [sall_cons, sF, evs] at this
 exact this.1
theorem hk4 [Gv] : ∀ t ∈ [bes, aen, aeh, b0u, b2o], am t := by
 intro t ht
 simp only [List.mem_cons, zH, or_false] at ht
 rcases ht with rfl | rfl | rfl | rfl | rfl
 ·exact bje
 ·exact avt
 ·exact ay0
 ·exact bjx
 ·exact bmg
def b1t [Gv] : Prop := (SAll Gv.σ a7n → b7 53 7 azw 263 ax4 a55 264 a4p) ∧ (SAll Gv.σ a65 → b7 53 7 azw 263 ax4 a6y 264 a7a) ∧ (SAll Gv.σ azb → b7 53 7 azw 263 ax4 bj4 264 bil)
theorem b5t [Gv] (hh : ∀ t ∈ [bi4 (mLn), bls (mLn), b3z (mLn), bnl (mLn), b3b (mLn)], au t) (hI : SAll Gv.σ (pI ++ o5)) : b1t := by
 obtain ⟨⟨hR, hp0, hpl, hL⟩, h4⟩ := a6g hI
 rcases zl1 hI sh (.len (.s 0)) with ⟨hI, k1⟩ | ⟨hI, k1⟩
 ·have hI := zF1 hI sh (.c 0)
  have := zf1 (qc hR sh)
  have hI := zF1 hI xb (.c 0)
  rcases zq1 hI ayn (.c 1) with ⟨hI, k4⟩ | ⟨hI, k4⟩
  ·have := zf1 (f44 (σ := Gv.σ) (.v 1) (.s 4) (.c 0))
   have u := zf4 (c7 (Gv.σ 0) ((Gv.σ 1).headD 0) (Gv.σ 4) 0)
   exact ⟨zt [(262, 263)] (.i (.v 1) ah1 (.i (.len (.s 4)) ae1 (.g (.s 4) aiz .nil))) (zh hI hk4) (zp hI hh) hI ze1,
    zn1,
    zn1⟩
  ·rcases zq1 hI xb (.c 92) with ⟨hI, k5⟩ | ⟨hI, k5⟩
   ·rcases zl1 hI sp (.len (.s 0)) with ⟨hI, k6⟩ | ⟨hI, k6⟩
    ·have hI := zF1 hI sp (.c 0)
     have := zf1 (qc hR sp)
     have hI := zF1 hI am5 (.c 0)
     have hI := zF1 hI s6 (.c 0)
     have hI := zT1 hI s6 (.c 1114112)
     have hI := zF1 hI (.c 50000) (.len (.s 4))
     have hI := zF1 hI nk (.c 0)
     have hI := zF1 hI (.len (.s 0)) nk
     have := zf1 (f40 (σ := Gv.σ) s6)
     have hI := zF1 hI axd a99
     have := zf1 (f44 (σ := Gv.σ) nk awx (.c 1))
     rcases zq1 hI a9v (.c 0) with ⟨hI, k15⟩ | ⟨hI, k15⟩
     ·have hI := zE1 hI bcs (.c 1)
      have hI := zT1 hI wp tw
      have hI := zF1 hI wp (.c 0)
      have := zf1 (f44 (σ := Gv.σ) (.v 1) (.s 4) (.c 0))
      have u := zf4 (c7 (Gv.σ 0) ((Gv.σ 1).headD 0) (Gv.σ 4) 0)
      exact ⟨zn1,
       zt [(264, 263)] (.i a8z ah1 (.i bb0 ae1 (.g ayd aiz .nil))) (zh hI hk4) (zp hI hh) hI ze1,
       zn1⟩
     ·have hI := zT1 hI wp tw
      have hI := zF1 hI wp (.c 0)
      have := zf1 (f44 (σ := Gv.σ) (.v 1) (.s 4) (.c 0))
      have u := zf4 (c7 (Gv.σ 0) ((Gv.σ 1).headD 0) (Gv.σ 4) 0)
      exact ⟨zn1,
       zn1,
       zt0 [] (zh hI hk4) (zp hI hh) hI⟩
    ·have := zf1 (f44 (σ := Gv.σ) (.v 1) (.s 4) (.c 0))
     have u := zf4 (c7 (Gv.σ 0) ((Gv.σ 1).headD 0) (Gv.σ 4) 0)
     exact ⟨zn1,
      zn1,
      zt0 [] (zh hI hk4) (zp hI hh) hI⟩
   ·have hI := zF1 hI ss (.c 0)
    have hI := zT1 hI ss (.c 1114112)
    have hI := zF1 hI (.c 50000) (.len (.s 4))
    have hI := zF1 hI j7 (.c 0)
    have hI := zF1 hI (.len (.s 0)) j7
    have := zf1 (f40 (σ := Gv.σ) ss)
    have hI := zF1 hI aw6 a9n
    have := zf1 (f44 (σ := Gv.σ) j7 amo (.c 0))
    rcases zq1 hI (.app 44 ann) (.c 0) with ⟨hI, k12⟩ | ⟨hI, k12⟩
    ·rcases zq1 hI a96 (.c 0) with ⟨hI, k13⟩ | ⟨hI, k13⟩
     ·have hI := zT1 hI sm tw
      have hI := zF1 hI sm (.c 0)
      have := zf1 (f44 (σ := Gv.σ) (.v 1) (.s 4) (.c 0))
      have u := zf4 (c7 (Gv.σ 0) ((Gv.σ 1).headD 0) (Gv.σ 4) 0)
      exact ⟨zt [(264, 263)] (.i bbi ah1 (.i a7r ae1 (.g av2 aiz .nil))) (zh hI hk4) (zp hI hh) hI ze1,
       zn1,
       zn1⟩
     ·have hI := zE1 hI a96 (.c 1)
      have hI := zT1 hI sm tw
      have hI := zF1 hI sm (.c 0)
      have := zf1 (f44 (σ := Gv.σ) (.v 1) (.s 4) (.c 0))
      have u := zf4 (c7 (Gv.σ 0) ((Gv.σ 1).headD 0) (Gv.σ 4) 0)
      exact ⟨zn1,
       zt [(264, 263)] (.i bbi ah1 (.i a7r ae1 (.g av2 aiz .nil))) (zh hI hk4) (zp hI hh) hI ze1,
       zn1⟩
    ·have hI := zT1 hI sm tw
     have hI := zF1 hI sm (.c 0)
     have := zf1 (f44 (σ := Gv.σ) (.v 1) (.s 4) (.c 0))
     have u := zf4 (c7 (Gv.σ 0) ((Gv.σ 1).headD 0) (Gv.σ 4) 0)
     exact ⟨zn1,
      zn1,
      zt0 [] (zh hI hk4) (zp hI hh) hI⟩
 ·have := zf1 (f44 (σ := Gv.σ) (.v 1) (.s 4) (.c 0))
  have u := zf4 (c7 (Gv.σ 0) ((Gv.σ 1).headD 0) (Gv.σ 4) 0)
  exact ⟨zt [(262, 263)] (.i (.v 1) ah1 (.i (.len (.s 4)) ae1 (.g (.s 4) aiz .nil))) (zh hI hk4) (zp hI hh) hI ze1,
   zn1,
   zn1⟩
def b0v [Gv] : Prop := (SAll Gv.σ aw8 → b7 53 7 bf4 263 bfw a5k 264 a45) ∧ (SAll Gv.σ axn → b7 53 7 bf4 263 bfw bm0 264 bnd)
theorem b8c [Gv] (hh : ∀ t ∈ [bi4 (mLn), bls (mLn), b3z (mLn), bnl (mLn), b3b (mLn)], au t) (hI : SAll Gv.σ (pI ++ o5)) : b0v := by
 obtain ⟨⟨hR, hp0, hpl, hL⟩, h4⟩ := a6g hI
 rcases zl1 hI sh (.len (.s 0)) with ⟨hI, k1⟩ | ⟨hI, k1⟩
 ·have hI := zF1 hI sh (.c 0)
  have := zf1 (qc hR sh)
  have hI := zF1 hI xb (.c 0)
  rcases zq1 hI ayn (.c 1) with ⟨hI, k4⟩ | ⟨hI, k4⟩
  ·have := zf1 (f44 (σ := Gv.σ) (.v 1) (.s 4) (.c 1))
   have u := zf4 (c7 (Gv.σ 0) ((Gv.σ 1).headD 0) (Gv.σ 4) 1)
   exact ⟨zt [(262, 263)] (.i (.v 1) alm (.i (.len (.s 4)) ag4 (.g (.s 4) aif .nil))) (zh hI hk4) (zp hI hh) hI ze1,
    zn1⟩
  ·rcases zq1 hI xb (.c 92) with ⟨hI, k5⟩ | ⟨hI, k5⟩
   ·rcases zl1 hI sp (.len (.s 0)) with ⟨hI, k6⟩ | ⟨hI, k6⟩
    ·have hI := zF1 hI sp (.c 0)
     have := zf1 (qc hR sp)
     have hI := zF1 hI am5 (.c 0)
     have hI := zF1 hI s6 (.c 0)
     have hI := zT1 hI s6 (.c 1114112)
     have hI := zF1 hI (.c 50000) (.len (.s 4))
     have hI := zF1 hI nk (.c 0)
     have hI := zF1 hI (.len (.s 0)) nk
     have := zf1 (f40 (σ := Gv.σ) s6)
     have hI := zF1 hI axd a99
     have := zf1 (f44 (σ := Gv.σ) nk awx (.c 1))
     rcases zq1 hI a9v (.c 0) with ⟨hI, k15⟩ | ⟨hI, k15⟩
     ·have hI := zE1 hI bcs (.c 1)
      have hI := zT1 hI wp tw
      have hI := zF1 hI wp (.c 0)
      have := zf1 (f44 (σ := Gv.σ) (.v 1) (.s 4) (.c 1))
      have u := zf4 (c7 (Gv.σ 0) ((Gv.σ 1).headD 0) (Gv.σ 4) 1)
      exact ⟨zt [(264, 263)] (.i a8z alm (.i bb0 ag4 (.g ayd aif .nil))) (zh hI hk4) (zp hI hh) hI ze1,
       zn1⟩
     ·have hI := zT1 hI wp tw
      have hI := zF1 hI wp (.c 0)
      have := zf1 (f44 (σ := Gv.σ) (.v 1) (.s 4) (.c 1))
      have u := zf4 (c7 (Gv.σ 0) ((Gv.σ 1).headD 0) (Gv.σ 4) 1)
      exact ⟨zn1,
       zt0 [] (zh hI hk4) (zp hI hh) hI⟩
    ·have := zf1 (f44 (σ := Gv.σ) (.v 1) (.s 4) (.c 1))
     have u := zf4 (c7 (Gv.σ 0) ((Gv.σ 1).headD 0) (Gv.σ 4) 1)
     exact ⟨zn1,
      zt0 [] (zh hI hk4) (zp hI hh) hI⟩
   ·have hI := zF1 hI ss (.c 0)
    have hI := zT1 hI ss (.c 1114112)
    have hI := zF1 hI (.c 50000) (.len (.s 4))
    have hI := zF1 hI j7 (.c 0)
    have hI := zF1 hI (.len (.s 0)) j7
    have := zf1 (f40 (σ := Gv.σ) ss)
    have hI := zF1 hI aw6 a9n
    have := zf1 (f44 (σ := Gv.σ) j7 amo (.c 1))
    rcases zq1 hI (.app 44 am6) (.c 0) with ⟨hI, k12⟩ | ⟨hI, k12⟩
    ·have hI := zE1 hI (.app 46 am6) (.c 1)
     have hI := zT1 hI sm tw
     have hI := zF1 hI sm (.c 0)
     have := zf1 (f44 (σ := Gv.σ) (.v 1) (.s 4) (.c 1))
     have u := zf4 (c7 (Gv.σ 0) ((Gv.σ 1).headD 0) (Gv.σ 4) 1)
     exact ⟨zt [(264, 263)] (.i (.app 45 am6) alm (.i (.len bbd) ag4 (.g bbd aif .nil))) (zh hI hk4) (zp hI hh) hI ze1,
      zn1⟩
    ·have hI := zT1 hI sm tw
     have hI := zF1 hI sm (.c 0)
     have := zf1 (f44 (σ := Gv.σ) (.v 1) (.s 4) (.c 1))
     have u := zf4 (c7 (Gv.σ 0) ((Gv.σ 1).headD 0) (Gv.σ 4) 1)
     exact ⟨zn1,
      zt0 [] (zh hI hk4) (zp hI hh) hI⟩
 ·have := zf1 (f44 (σ := Gv.σ) (.v 1) (.s 4) (.c 1))
  have u := zf4 (c7 (Gv.σ 0) ((Gv.σ 1).headD 0) (Gv.σ 4) 1)
  exact ⟨zt [(262, 263)] (.i (.v 1) alm (.i (.len (.s 4)) ag4 (.g (.s 4) aif .nil))) (zh hI hk4) (zp hI hh) hI ze1,
   zn1⟩
theorem aj1 : ∀ (B : Nat) (σ : Nat → List Int), SAll σ (pI ++ o5) → (mLn).eval σ < (B : Int) → @b1t ⟨σ⟩ ∧ @b0v ⟨σ⟩
 | 0, σ, hI, hb => by obtain ⟨⟨h1, h2, h3, h4⟩, _⟩ := a6g hI; simp only [mLn, evs, wr] at hb; omega
 | B + 1, σ, hI, hb => by
   have ih : ∀ σ' : Nat → List Int, SAll σ' (pI ++ o5) → 0 ≤ (mLn).eval σ' ∧ (mLn).eval σ' < (mLn).eval σ → @b1t ⟨σ'⟩ ∧ @b0v ⟨σ'⟩ := fun σ' h h' => aj1 B σ' h (by omega)
   have hh : ∀ t ∈ [bi4 (mLn), bls (mLn), b3z (mLn), bnl (mLn), b3b (mLn)], @au ⟨σ⟩ t := by
    intro t ht
    simp only [List.mem_cons, zH, or_false] at ht
    rcases ht with rfl | rfl | rfl | rfl | rfl
    ·exact fun σ' _ hA hb => (ih σ' (aj hA).1 hb).1.1 (aj hA).2
    ·exact fun σ' _ hA hb => (ih σ' (aj hA).1 hb).1.2.1 (aj hA).2
    ·exact fun σ' _ hA hb => (ih σ' (aj hA).1 hb).1.2.2 (aj hA).2
    ·exact fun σ' _ hA hb => (ih σ' (aj hA).1 hb).2.1 (aj hA).2
    ·exact fun σ' _ hA hb => (ih σ' (aj hA).1 hb).2.2 (aj hA).2
   exact ⟨@b5t ⟨σ⟩ hh hI, @b8c ⟨σ⟩ hh hI⟩
theorem bg4 [Gv] : au bli := fun σ _ hA _ => (aj1 (((mLn).eval σ).toNat + 1) σ (aj hA).1 (by omega)).1.1 (aj hA).2
theorem bl3 [Gv] : au bjo := fun σ _ hA _ => (aj1 (((mLn).eval σ).toNat + 1) σ (aj hA).1 (by omega)).1.2.1 (aj hA).2
theorem bpc [Gv] : au by9 := fun σ _ hA _ => (aj1 (((mLn).eval σ).toNat + 1) σ (aj hA).1 (by omega)).1.2.2 (aj hA).2
theorem bkb [Gv] : au bn0 := fun σ _ hA _ => (aj1 (((mLn).eval σ).toNat + 1) σ (aj hA).1 (by omega)).2.1 (aj hA).2
theorem bq4 [Gv] : au bu6 := fun σ _ hA _ => (aj1 (((mLn).eval σ).toNat + 1) σ (aj hA).1 (by omega)).2.2 (aj hA).2
theorem tk5 [Gv] : ∀ t ∈ [bli, bjo, by9, bn0, bu6], au t := by
 intro t ht
 simp only [List.mem_cons, zH, or_false] at ht
 rcases ht with rfl | rfl | rfl | rfl | rfl
 ·exact bg4
 ·exact bl3
 ·exact bpc
 ·exact bkb
 ·exact bq4
theorem b1z {σ : Nat → List Int} (h : SAll σ (pI ++ ag0)) : (gn (σ 0) ∧ 0 ≤ (σ 1).headD 0 ∧ (σ 1).headD 0 ≤ ((σ 0).length : Int) ∧ (σ 0).length ≤ 4000) ∧ (σ 1).headD 0 < ((σ 0).length : Int) ∧ ¬ v6 ((σ 0).getD ((σ 1).headD 0).toNat 0) = 1 := by
 refine ⟨qx (aj h).1, ?_⟩
 have := (aj h).2
 simp only [sall_cons, sE, evs, ay] at this
 have := this.1
 split at this
 ·exact ⟨by assumption, by omega⟩
 ·omega
def ccn [Gv] : Prop := (SAll Gv.σ a8j → b7 53 7 bey 262 bfo bkk 263 bk6) ∧ (SAll Gv.σ bee → b7 53 7 bey 262 bfo bnm 263 bjp) ∧ (SAll Gv.σ bdn → b7 53 7 bey 262 bfo bzf 263 bz3)
theorem bh6 [Gv] (hI : SAll Gv.σ (pI ++ ag0)) : ccn := by
 obtain ⟨⟨hR, hp0, hpl, hL⟩, hlt, hdl⟩ := b1z hI
 have hI := zT1 hI sh (.len (.s 0))
 have hI := zF1 hI sh (.c 0)
 have := zf1 (qc hR sh)
 have hI := zF1 hI xb (.c 0)
 have hI := zN1 hI ayn (.c 1)
 rcases zq1 hI xb (.c 92) with ⟨hI, k5⟩ | ⟨hI, k5⟩
 ·rcases zl1 hI sp (.len (.s 0)) with ⟨hI, k6⟩ | ⟨hI, k6⟩
  ·have hI := zF1 hI sp (.c 0)
   have := zf1 (qc hR sp)
   have hI := zF1 hI am5 (.c 0)
   have hI := zF1 hI s6 (.c 0)
   have hI := zT1 hI s6 (.c 1114112)
   have hI := zF1 hI nk (.c 0)
   have hI := zF1 hI (.len (.s 0)) nk
   have := zf1 (f40 (σ := Gv.σ) s6)
   have hI := zF1 hI axd bbz
   have := zf1 (f44 (σ := Gv.σ) nk alo (.c 1))
   rcases zq1 hI (.app 44 anb) (.c 0) with ⟨hI, k14⟩ | ⟨hI, k14⟩
   ·have hI := zE1 hI (.app 46 anb) (.c 1)
    have := zf1 (f44 (σ := Gv.σ) (.v 1) .nil (.c 0))
    have u := zf5 (c7 (Gv.σ 0) ((Gv.σ 1).headD 0) [] 0)
    exact ⟨zn1,
     zt [(263, 262)] (.i (.app 45 anb) aze (.i (.len a8l) ahd (.g a8l alr .nil))) (zh hI hk4) (zp hI tk5) hI ze3,
     zn1⟩
   ·have := zf1 (f44 (σ := Gv.σ) (.v 1) .nil (.c 0))
    have u := zf5 (c7 (Gv.σ 0) ((Gv.σ 1).headD 0) [] 0)
    exact ⟨zn1,
     zn1,
     zt0 [] (zh hI hk4) (zp hI tk5) hI⟩
  ·have := zf1 (f44 (σ := Gv.σ) (.v 1) .nil (.c 0))
   have u := zf5 (c7 (Gv.σ 0) ((Gv.σ 1).headD 0) [] 0)
   exact ⟨zn1,
    zn1,
    zt0 [] (zh hI hk4) (zp hI tk5) hI⟩
 ·have hI := zF1 hI ss (.c 0)
  have hI := zT1 hI ss (.c 1114112)
  have hI := zF1 hI j7 (.c 0)
  have hI := zF1 hI (.len (.s 0)) j7
  have := zf1 (f40 (σ := Gv.σ) ss)
  have hI := zF1 hI aw6 bd7
  have := zf1 (f44 (σ := Gv.σ) j7 alv (.c 0))
  rcases zq1 hI (.app 44 ams) (.c 0) with ⟨hI, k11⟩ | ⟨hI, k11⟩
  ·rcases zq1 hI ba2 (.c 0) with ⟨hI, k12⟩ | ⟨hI, k12⟩
   ·have := zf1 (f44 (σ := Gv.σ) (.v 1) .nil (.c 0))
    have u := zf5 (c7 (Gv.σ 0) ((Gv.σ 1).headD 0) [] 0)
    exact ⟨zt [(263, 262)] (.i bdf aze (.i beg ahd (.g au0 alr .nil))) (zh hI hk4) (zp hI tk5) hI ze3,
     zn1,
     zn1⟩
   ·have hI := zE1 hI ba2 (.c 1)
    have := zf1 (f44 (σ := Gv.σ) (.v 1) .nil (.c 0))
    have u := zf5 (c7 (Gv.σ 0) ((Gv.σ 1).headD 0) [] 0)
    exact ⟨zn1,
     zt [(263, 262)] (.i bdf aze (.i beg ahd (.g au0 alr .nil))) (zh hI hk4) (zp hI tk5) hI ze3,
     zn1⟩
  ·have := zf1 (f44 (σ := Gv.σ) (.v 1) .nil (.c 0))
   have u := zf5 (c7 (Gv.σ 0) ((Gv.σ 1).headD 0) [] 0)
   exact ⟨zn1,
    zn1,
    zt0 [] (zh hI hk4) (zp hI tk5) hI⟩
theorem bl4 [Gv] : au an6 := fun σ _ hA _ => (@bh6 ⟨σ⟩  (aj hA).1).1 (aj hA).2
theorem bm6 [Gv] : au ar6 := fun σ _ hA _ => (@bh6 ⟨σ⟩  (aj hA).1).2.1 (aj hA).2
theorem br0 [Gv] : au a2w := fun σ _ hA _ => (@bh6 ⟨σ⟩  (aj hA).1).2.2 (aj hA).2
end Go.Ev
