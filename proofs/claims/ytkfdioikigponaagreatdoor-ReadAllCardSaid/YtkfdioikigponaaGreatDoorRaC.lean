import Derived.Test.YtkfdioikigponaaGreatDoorRaB
set_option maxRecDepth 100000
set_option linter.all false
namespace Go.Ev
abbrev azf : AL := .i (.c 0) .nil
abbrev aca : AL := .g (.s 0) (.i (.v 1) (.g (.s 4) azf))
abbrev ajh : GE := .app 44 aca
abbrev afq : SE := .len ajh
abbrev oz : List SA := [.mk true (.bin 7 .i64 (.c 4) (.v 1)) (.len (.s 4)) false]
abbrev a5i : SE := .app 44 aca
abbrev bow : SE := .app 46 aca
abbrev a79 : List SA := [.mk false a5i (.c 0) true, .mk false bow (.c 0) true]
abbrev a6m : List SA := [.mk false a5i (.c 0) true, .mk false bow (.c 1) true]
abbrev ay1 : List SA := [.mk false a5i (.c 0) false]
abbrev amn : AL := .i (.c 1) .nil
abbrev aep : AL := .g (.s 0) (.i (.v 1) (.g (.s 4) amn))
abbrev ajb : GE := .app 44 aep
abbrev ags : SE := .len ajb
abbrev bat : SE := .app 44 aep
abbrev azm : List SA := [.mk false bat (.c 0) true, .mk false (.app 46 aep) (.c 1) true]
abbrev ay2 : List SA := [.mk false bat (.c 0) false]
abbrev w7 : AL := .g (.s 0) (.i (.v 1) (.g .nil azf))
abbrev al5 : GE := .app 44 w7
abbrev aic : SE := .len al5
abbrev ail : List SA := [.mk false (.app 108 (.g (.s 0) (.i (.v 1) .nil))) (.c 0) true]
abbrev az2 : SE := .app 44 w7
abbrev bc2 : SE := .app 46 w7
abbrev bey : List SA := [.mk false az2 (.c 0) true, .mk false bc2 (.c 0) true]
abbrev bdv : List SA := [.mk false az2 (.c 0) true, .mk false bc2 (.c 1) true]
abbrev a85 : List SA := [.mk false az2 (.c 0) false]
abbrev s5 : SE := .bin 0 .i64 (.v 1) (.c 0)
abbrev xi : SE := .rd (.s 0) s5
abbrev av7 : SE := .app 41 (.i xi .nil)
abbrev ag3 : SE := .app 45 aca
abbrev jz : SE := .bin 0 .i64 (.v 1) (.c 1)
abbrev sm : SE := .bin 0 .i64 jz (.c 0)
abbrev amj : SE := .rd (.s 0) sm
abbrev s7 : SE := .bin 0 .i32 amj (.c 0)
abbrev ng : SE := .bin 0 .i64 jz (.c 1)
abbrev awp : SE := .bin 7 .i64 (.c 4) ng
abbrev anq : GE := .app 40 (.i s7 .nil)
abbrev a84 : SE := .len anq
abbrev a9r : SE := .bin 6 .i64 (.len (.s 4)) a84
abbrev aym : GE := .cat (.s 4) anq
abbrev an1 : AL := .g (.s 0) (.i ng (.g aym amn))
abbrev baf : SE := .app 44 an1
abbrev bal : SE := .app 46 an1
abbrev wx : SE := .bin 6 .i64 (.len (.s 0)) (.bin 7 .i64 (.c (-1)) ng)
abbrev uy : SE := .bin 6 .i64 (.len (.s 0)) (.bin 7 .i64 (.c (-1)) (.v 1))
abbrev bb1 : SE := .app 45 an1
abbrev avx : GE := .app 44 an1
abbrev baq : SE := .len avx
abbrev sq : SE := .bin 0 .i32 xi (.c 0)
abbrev az8 : SE := .bin 7 .i64 (.c 4) jz
abbrev amc : GE := .app 40 (.i sq .nil)
abbrev bcf : SE := .len amc
abbrev a96 : SE := .bin 6 .i64 (.len (.s 4)) bcf
abbrev anr : GE := .cat (.s 4) amc
abbrev anl : AL := .g (.s 0) (.i jz (.g anr azf))
abbrev bdn : SE := .app 46 anl
abbrev sv : SE := .bin 6 .i64 (.len (.s 0)) (.bin 7 .i64 (.c (-1)) jz)
abbrev bac : SE := .app 45 anl
abbrev aww : GE := .app 44 anl
abbrev a81 : SE := .len aww
abbrev an5 : SE := .app 45 aep
abbrev anz : AL := .g (.s 0) (.i jz (.g anr amn))
abbrev bcm : GE := .app 44 anz
abbrev amg : AL := .g (.s 0) (.i ng (.g anq amn))
abbrev a0j : SE := .app 45 w7
abbrev beo : GE := .app 44 amg
abbrev al2 : AL := .g (.s 0) (.i jz (.g amc azf))
abbrev bbl : SE := .app 46 al2
abbrev bdy : SE := .app 45 al2
abbrev axu : GE := .app 44 al2
abbrev a9j : SE := .len axu
noncomputable section
def azo : List AV := [.ptr (K.of 256) 0, .top, .ptr (K.of 260) 0, .sym .i64 (.v 3) [], .bool false, .ptr (K.of 261) 0] ++ tps 59
def axc : List HO := [rdO 256 258 259 257 (.v 1) (.v 2), rwO 257] ++ buO 261 262 (.s 4) (.len (.s 4))
def a64 : List HO := [rdO 256 258 259 257 (.app 45 aca) (.v 2), rwO 257] ++ buO 261 263 (.app 44 aca) afq
def a5z : LR := (.x 0 ([.ptr (K.of 256) 0, .top, .ptr (K.of 260) 0, .sym .i64 (.v 3) [], .bool false, .ptr (K.of 261) 0] ++ tps 59))
def bo1 (m : SE) : LT := .mk 53 7 azo 263 axc ((pI ++ oz) ++ a79) (some (mLn, m)) a5z 264 a64
def bn5 : LT := .mk 53 7 azo 263 axc ((pI ++ oz) ++ a79) none a5z 264 a64
def a5x : List HO := [rdO 256 258 259 257 (.app 45 aca) (.v 2), rwO 257] ++ buO 261 263 (.app 44 aca) afq
def a5p : LR := (.x 0 ([.ptr (K.of 256) 0, .top, .ptr (K.of 260) 0, .sym .i64 (.v 3) [], .bool true, .ptr (K.of 261) 0] ++ tps 59))
def bld (m : SE) : LT := .mk 53 7 azo 263 axc ((pI ++ oz) ++ a6m) (some (mLn, m)) a5p 264 a5x
def bia : LT := .mk 53 7 azo 263 axc ((pI ++ oz) ++ a6m) none a5p 264 a5x
def bi7 : List HO := []
def bpc : LR := (.p [.mk (.iface 34 (.agg [.int .i64 5, .sym .i64 (.len (.s 0)) []])) false] (tps 65))
def b03 (m : SE) : LT := .mk 53 7 azo 263 axc ((pI ++ oz) ++ ay1) (some (mLn, m)) bpc 264 bi7
def bus : LT := .mk 53 7 azo 263 axc ((pI ++ oz) ++ ay1) none bpc 264 bi7
def bgh : List AV := [.ptr (K.of 256) 0, .top, .ptr (K.of 260) 0, .sym .i64 (.v 3) [], .bool true, .ptr (K.of 261) 0] ++ tps 59
def bhr : List HO := [rdO 256 258 259 257 (.v 1) (.v 2), rwO 257] ++ buO 261 262 (.s 4) (.len (.s 4))
def a63 : List HO := [rdO 256 258 259 257 (.app 45 aep) (.v 2), rwO 257] ++ buO 261 263 (.app 44 aep) ags
def a49 : LR := (.x 0 ([.ptr (K.of 256) 0, .top, .ptr (K.of 260) 0, .sym .i64 (.v 3) [], .bool true, .ptr (K.of 261) 0] ++ tps 59))
def bo6 (m : SE) : LT := .mk 53 7 bgh 263 bhr ((pI ++ oz) ++ azm) (some (mLn, m)) a49 264 a63
def bnm : LT := .mk 53 7 bgh 263 bhr ((pI ++ oz) ++ azm) none a49 264 a63
def bjd : List HO := []
def bjz : LR := (.p [.mk (.iface 34 (.agg [.int .i64 5, .sym .i64 (.len (.s 0)) []])) false] (tps 65))
def b3e (m : SE) : LT := .mk 53 7 bgh 263 bhr ((pI ++ oz) ++ ay2) (some (mLn, m)) bjz 264 bjd
def bwi : LT := .mk 53 7 bgh 263 bhr ((pI ++ oz) ++ ay2) none bjz 264 bjd
def bf9 : List AV := [.ptr (K.of 256) 0, .top, .ptr (K.of 260) 0, .sym .i64 (.v 3) [], .bool false, .ptr (K.of 261) 0] ++ tps 59
def bfk : List HO := [rdO 256 258 259 257 (.v 1) (.v 2), rwO 257] ++ [.mk 261 (.cells 108 false 0 0 [.nilPtr, .nilSlice])]
def bn6 : List HO := [rdO 256 258 259 257 (.app 45 w7) (.v 2), rwO 257] ++ buO 261 262 (.app 44 w7) aic
def bmt : LR := (.x 0 ([.ptr (K.of 256) 0, .top, .ptr (K.of 260) 0, .sym .i64 (.v 3) [], .bool false, .ptr (K.of 261) 0] ++ tps 59))
def ar4 : LT := .mk 53 7 bf9 262 bfk ((pI ++ ail) ++ bey) none bmt 263 bn6
def bnn : List HO := [rdO 256 258 259 257 (.app 45 w7) (.v 2), rwO 257] ++ buO 261 262 (.app 44 w7) aic
def bi6 : LR := (.x 0 ([.ptr (K.of 256) 0, .top, .ptr (K.of 260) 0, .sym .i64 (.v 3) [], .bool true, .ptr (K.of 261) 0] ++ tps 59))
def aoz : LT := .mk 53 7 bf9 262 bfk ((pI ++ ail) ++ bdv) none bi6 263 bnn
def bwp : List HO := []
def bvq : LR := (.p [.mk (.iface 34 (.agg [.int .i64 5, .sym .i64 (.len (.s 0)) []])) false] (tps 65))
def a0x : LT := .mk 53 7 bf9 262 bfk ((pI ++ ail) ++ a85) none bvq 263 bwp
end
theorem bcl (R : List Int) : ∀ (n : Nat) (p : Int) (b : List Int) (q : Int), ((R.length : Int) - p).toNat ≤ n → p ≤ (R.length : Int) → ((nw R p b q).f = 0 ∨ (nw R p b q).f = 5) ∧ ((nw R p b q).f = 0 → p ≤ (nw R p b q).p ∧ (nw R p b q).p ≤ (R.length : Int) ∧ ((nw R p b q).b.length : Int) ≤ (b.length : Int) + 4 * ((nw R p b q).p - p) ∧ (q = 1 → (nw R p b q).q = 1) ∧ (q = 0 → (nw R p b q).q = 0 ∨ (nw R p b q).q = 1))
 | 0, p, b, q, h, hp => by
   rw [dg, if_neg (by omega)]; dsimp only; exact ⟨.inl rfl, fun _ => ⟨by omega, by omega, by omega, id, .inl⟩⟩
 | n + 1, p, b, q, h, hp => by
   have e4 : ∀ c, ((uj c).length : Int) ≤ 4 := by
    intro c
    unfold uj
    repeat' split
    all_goals (simp only [List.length_cons, List.length_nil]; omega)
   rw [dg]
   split
   ·split
    ·dsimp only; exact ⟨.inl rfl, fun _ => ⟨by omega, by omega, by omega, id, .inl⟩⟩
    ·split
     ·split
      ·obtain ⟨h1, h2⟩ := bcl R n (p + 2) (b ++ uj (R.getD (p + 1).toNat 0)) 1 (by omega) (by omega)
       refine ⟨h1, fun h0 => ?_⟩
       obtain ⟨a1, a2, a3, a4, a5⟩ := h2 h0
       have := e4 (R.getD (p + 1).toNat 0)
       rw [List.length_append] at a3
       exact ⟨by omega, a2, by omega, fun _ => a4 rfl, fun _ => .inr (a4 rfl)⟩
      ·exact ⟨.inr rfl, fun h0 => absurd h0 (by decide)⟩
     ·obtain ⟨h1, h2⟩ := bcl R n (p + 1) (b ++ uj (R.getD p.toNat 0)) q (by omega) (by omega)
      refine ⟨h1, fun h0 => ?_⟩
      obtain ⟨a1, a2, a3, a4, a5⟩ := h2 h0
      have := e4 (R.getD p.toNat 0)
      rw [List.length_append] at a3
      exact ⟨by omega, a2, by omega, a4, a5⟩
   ·dsimp only; exact ⟨.inl rfl, fun _ => ⟨by omega, by omega, by omega, id, .inl⟩⟩
theorem f44 {σ : Nat → List Int} (a : SE) (g : GE) (q : SE) : a.eval σ ≤ (SE.len (.s 0)).eval σ → ((SE.app 44 (.g (.s 0) (.i a (.g g (.i q .nil))))).eval σ = 0 ∨ (SE.app 44 (.g (.s 0) (.i a (.g g (.i q .nil))))).eval σ = 5) ∧
  ((SE.app 44 (.g (.s 0) (.i a (.g g (.i q .nil))))).eval σ = 0 → a.eval σ ≤ (SE.app 45 (.g (.s 0) (.i a (.g g (.i q .nil))))).eval σ ∧ (SE.app 45 (.g (.s 0) (.i a (.g g (.i q .nil))))).eval σ ≤ (SE.len (.s 0)).eval σ ∧ (SE.len (.app 44 (.g (.s 0) (.i a (.g g (.i q .nil)))))).eval σ ≤ (SE.len g).eval σ + 4 * ((SE.app 45 (.g (.s 0) (.i a (.g g (.i q .nil))))).eval σ - a.eval σ) ∧
  (q.eval σ = 1 → (SE.app 46 (.g (.s 0) (.i a (.g g (.i q .nil))))).eval σ = 1) ∧ (q.eval σ = 0 → (SE.app 46 (.g (.s 0) (.i a (.g g (.i q .nil))))).eval σ = 0 ∨ (SE.app 46 (.g (.s 0) (.i a (.g g (.i q .nil))))).eval σ = 1)) :=
 fun h => bcl _ _ _ _ _ (Nat.le_refl _) h
theorem a5e {σ : Nat → List Int} (h : SAll σ (pI ++ oz)) : (gd (σ 0) ∧ 0 ≤ (σ 1).headD 0 ∧ (σ 1).headD 0 ≤ ((σ 0).length : Int) ∧ (σ 0).length ≤ 4000) ∧ ((σ 4).length : Int) ≤ 4 * (σ 1).headD 0 := by
 refine ⟨qj (aj h).1, ?_⟩
 have := (aj h).2
 simp only [sall_cons, sF, evs] at this
 exact this.1
theorem hk4 [Gv] : ∀ t ∈ [bfm, aey, ae4, b2u, b1n], ap t := by
 intro t ht
 simp only [List.mem_cons, List.not_mem_nil, or_false] at ht
 rcases ht with rfl | rfl | rfl | rfl | rfl
 ·exact bms
 ·exact avj
 ·exact axm
 ·exact bjv
 ·exact bk5
def b1r [Gv] : Prop := (SAll Gv.σ a79 → cg 53 7 azo 263 axc a5z 264 a64) ∧ (SAll Gv.σ a6m → cg 53 7 azo 263 axc a5p 264 a5x) ∧ (SAll Gv.σ ay1 → cg 53 7 azo 263 axc bpc 264 bi7)
theorem b7w [Gv] (hh : ∀ t ∈ [bo1 (mLn), bld (mLn), b03 (mLn), bo6 (mLn), b3e (mLn)], ba t) (hI : SAll Gv.σ (pI ++ oz)) : b1r := by
 obtain ⟨⟨hR, hp0, hpl, hL⟩, h4⟩ := a5e hI
 rcases zl1 hI s5 (.len (.s 0)) with ⟨hI, k1⟩ | ⟨hI, k1⟩
 ·have hI := zF1 hI s5 (.c 0)
  have := zf1 (pz hR s5)
  have hI := zF1 hI xi (.c 0)
  rcases zq1 hI av7 (.c 1) with ⟨hI, k4⟩ | ⟨hI, k4⟩
  ·have := zf1 (f44 (σ := Gv.σ) (.v 1) (.s 4) (.c 0))
   have u := zf4 (dg (Gv.σ 0) ((Gv.σ 1).headD 0) (Gv.σ 4) 0)
   exact ⟨zt [(262, 263)] (.i (.v 1) ag3 (.i (.len (.s 4)) afq (.g (.s 4) ajh .nil))) (ag _ hk4) (ao _ hh) hI ze1,
    zn1,
    zn1⟩
  ·rcases zq1 hI xi (.c 92) with ⟨hI, k5⟩ | ⟨hI, k5⟩
   ·rcases zl1 hI sm (.len (.s 0)) with ⟨hI, k6⟩ | ⟨hI, k6⟩
    ·have hI := zF1 hI sm (.c 0)
     have := zf1 (pz hR sm)
     have hI := zF1 hI amj (.c 0)
     have hI := zF1 hI s7 (.c 0)
     have hI := zT1 hI s7 (.c 1114112)
     have hI := zF1 hI (.c 50000) (.len (.s 4))
     have hI := zF1 hI ng (.c 0)
     have hI := zF1 hI (.len (.s 0)) ng
     have := zf1 (f40 (σ := Gv.σ) s7)
     have hI := zF1 hI awp a9r
     have := zf1 (f44 (σ := Gv.σ) ng aym (.c 1))
     rcases zq1 hI baf (.c 0) with ⟨hI, k15⟩ | ⟨hI, k15⟩
     ·have hI := zE1 hI bal (.c 1)
      have hI := zT1 hI wx uy
      have hI := zF1 hI wx (.c 0)
      have := zf1 (f44 (σ := Gv.σ) (.v 1) (.s 4) (.c 0))
      have u := zf4 (dg (Gv.σ 0) ((Gv.σ 1).headD 0) (Gv.σ 4) 0)
      exact ⟨zn1,
       zt [(264, 263)] (.i bb1 ag3 (.i baq afq (.g avx ajh .nil))) (ag _ hk4) (ao _ hh) hI ze1,
       zn1⟩
     ·have hI := zT1 hI wx uy
      have hI := zF1 hI wx (.c 0)
      have := zf1 (f44 (σ := Gv.σ) (.v 1) (.s 4) (.c 0))
      have u := zf4 (dg (Gv.σ 0) ((Gv.σ 1).headD 0) (Gv.σ 4) 0)
      exact ⟨zn1,
       zn1,
       zt0 [] (ag _ hk4) (ao _ hh) hI⟩
    ·have := zf1 (f44 (σ := Gv.σ) (.v 1) (.s 4) (.c 0))
     have u := zf4 (dg (Gv.σ 0) ((Gv.σ 1).headD 0) (Gv.σ 4) 0)
     exact ⟨zn1,
      zn1,
      zt0 [] (ag _ hk4) (ao _ hh) hI⟩
   ·have hI := zF1 hI sq (.c 0)
    have hI := zT1 hI sq (.c 1114112)
    have hI := zF1 hI (.c 50000) (.len (.s 4))
    have hI := zF1 hI jz (.c 0)
    have hI := zF1 hI (.len (.s 0)) jz
    have := zf1 (f40 (σ := Gv.σ) sq)
    have hI := zF1 hI az8 a96
    have := zf1 (f44 (σ := Gv.σ) jz anr (.c 0))
    rcases zq1 hI (.app 44 anl) (.c 0) with ⟨hI, k12⟩ | ⟨hI, k12⟩
    ·rcases zq1 hI bdn (.c 0) with ⟨hI, k13⟩ | ⟨hI, k13⟩
     ·have hI := zT1 hI sv uy
      have hI := zF1 hI sv (.c 0)
      have := zf1 (f44 (σ := Gv.σ) (.v 1) (.s 4) (.c 0))
      have u := zf4 (dg (Gv.σ 0) ((Gv.σ 1).headD 0) (Gv.σ 4) 0)
      exact ⟨zt [(264, 263)] (.i bac ag3 (.i a81 afq (.g aww ajh .nil))) (ag _ hk4) (ao _ hh) hI ze1,
       zn1,
       zn1⟩
     ·have hI := zE1 hI bdn (.c 1)
      have hI := zT1 hI sv uy
      have hI := zF1 hI sv (.c 0)
      have := zf1 (f44 (σ := Gv.σ) (.v 1) (.s 4) (.c 0))
      have u := zf4 (dg (Gv.σ 0) ((Gv.σ 1).headD 0) (Gv.σ 4) 0)
      exact ⟨zn1,
       zt [(264, 263)] (.i bac ag3 (.i a81 afq (.g aww ajh .nil))) (ag _ hk4) (ao _ hh) hI ze1,
       zn1⟩
    ·have hI := zT1 hI sv uy
     have hI := zF1 hI sv (.c 0)
     have := zf1 (f44 (σ := Gv.σ) (.v 1) (.s 4) (.c 0))
     have u := zf4 (dg (Gv.σ 0) ((Gv.σ 1).headD 0) (Gv.σ 4) 0)
     exact ⟨zn1,
      zn1,
      zt0 [] (ag _ hk4) (ao _ hh) hI⟩
 ·have := zf1 (f44 (σ := Gv.σ) (.v 1) (.s 4) (.c 0))
  have u := zf4 (dg (Gv.σ 0) ((Gv.σ 1).headD 0) (Gv.σ 4) 0)
  exact ⟨zt [(262, 263)] (.i (.v 1) ag3 (.i (.len (.s 4)) afq (.g (.s 4) ajh .nil))) (ag _ hk4) (ao _ hh) hI ze1,
   zn1,
   zn1⟩
def b3j [Gv] : Prop := (SAll Gv.σ azm → cg 53 7 bgh 263 bhr a49 264 a63) ∧ (SAll Gv.σ ay2 → cg 53 7 bgh 263 bhr bjz 264 bjd)
theorem b4e [Gv] (hh : ∀ t ∈ [bo1 (mLn), bld (mLn), b03 (mLn), bo6 (mLn), b3e (mLn)], ba t) (hI : SAll Gv.σ (pI ++ oz)) : b3j := by
 obtain ⟨⟨hR, hp0, hpl, hL⟩, h4⟩ := a5e hI
 rcases zl1 hI s5 (.len (.s 0)) with ⟨hI, k1⟩ | ⟨hI, k1⟩
 ·have hI := zF1 hI s5 (.c 0)
  have := zf1 (pz hR s5)
  have hI := zF1 hI xi (.c 0)
  rcases zq1 hI av7 (.c 1) with ⟨hI, k4⟩ | ⟨hI, k4⟩
  ·have := zf1 (f44 (σ := Gv.σ) (.v 1) (.s 4) (.c 1))
   have u := zf4 (dg (Gv.σ 0) ((Gv.σ 1).headD 0) (Gv.σ 4) 1)
   exact ⟨zt [(262, 263)] (.i (.v 1) an5 (.i (.len (.s 4)) ags (.g (.s 4) ajb .nil))) (ag _ hk4) (ao _ hh) hI ze1,
    zn1⟩
  ·rcases zq1 hI xi (.c 92) with ⟨hI, k5⟩ | ⟨hI, k5⟩
   ·rcases zl1 hI sm (.len (.s 0)) with ⟨hI, k6⟩ | ⟨hI, k6⟩
    ·have hI := zF1 hI sm (.c 0)
     have := zf1 (pz hR sm)
     have hI := zF1 hI amj (.c 0)
     have hI := zF1 hI s7 (.c 0)
     have hI := zT1 hI s7 (.c 1114112)
     have hI := zF1 hI (.c 50000) (.len (.s 4))
     have hI := zF1 hI ng (.c 0)
     have hI := zF1 hI (.len (.s 0)) ng
     have := zf1 (f40 (σ := Gv.σ) s7)
     have hI := zF1 hI awp a9r
     have := zf1 (f44 (σ := Gv.σ) ng aym (.c 1))
     rcases zq1 hI baf (.c 0) with ⟨hI, k15⟩ | ⟨hI, k15⟩
     ·have hI := zE1 hI bal (.c 1)
      have hI := zT1 hI wx uy
      have hI := zF1 hI wx (.c 0)
      have := zf1 (f44 (σ := Gv.σ) (.v 1) (.s 4) (.c 1))
      have u := zf4 (dg (Gv.σ 0) ((Gv.σ 1).headD 0) (Gv.σ 4) 1)
      exact ⟨zt [(264, 263)] (.i bb1 an5 (.i baq ags (.g avx ajb .nil))) (ag _ hk4) (ao _ hh) hI ze1,
       zn1⟩
     ·have hI := zT1 hI wx uy
      have hI := zF1 hI wx (.c 0)
      have := zf1 (f44 (σ := Gv.σ) (.v 1) (.s 4) (.c 1))
      have u := zf4 (dg (Gv.σ 0) ((Gv.σ 1).headD 0) (Gv.σ 4) 1)
      exact ⟨zn1,
       zt0 [] (ag _ hk4) (ao _ hh) hI⟩
    ·have := zf1 (f44 (σ := Gv.σ) (.v 1) (.s 4) (.c 1))
     have u := zf4 (dg (Gv.σ 0) ((Gv.σ 1).headD 0) (Gv.σ 4) 1)
     exact ⟨zn1,
      zt0 [] (ag _ hk4) (ao _ hh) hI⟩
   ·have hI := zF1 hI sq (.c 0)
    have hI := zT1 hI sq (.c 1114112)
    have hI := zF1 hI (.c 50000) (.len (.s 4))
    have hI := zF1 hI jz (.c 0)
    have hI := zF1 hI (.len (.s 0)) jz
    have := zf1 (f40 (σ := Gv.σ) sq)
    have hI := zF1 hI az8 a96
    have := zf1 (f44 (σ := Gv.σ) jz anr (.c 1))
    rcases zq1 hI (.app 44 anz) (.c 0) with ⟨hI, k12⟩ | ⟨hI, k12⟩
    ·have hI := zE1 hI (.app 46 anz) (.c 1)
     have hI := zT1 hI sv uy
     have hI := zF1 hI sv (.c 0)
     have := zf1 (f44 (σ := Gv.σ) (.v 1) (.s 4) (.c 1))
     have u := zf4 (dg (Gv.σ 0) ((Gv.σ 1).headD 0) (Gv.σ 4) 1)
     exact ⟨zt [(264, 263)] (.i (.app 45 anz) an5 (.i (.len bcm) ags (.g bcm ajb .nil))) (ag _ hk4) (ao _ hh) hI ze1,
      zn1⟩
    ·have hI := zT1 hI sv uy
     have hI := zF1 hI sv (.c 0)
     have := zf1 (f44 (σ := Gv.σ) (.v 1) (.s 4) (.c 1))
     have u := zf4 (dg (Gv.σ 0) ((Gv.σ 1).headD 0) (Gv.σ 4) 1)
     exact ⟨zn1,
      zt0 [] (ag _ hk4) (ao _ hh) hI⟩
 ·have := zf1 (f44 (σ := Gv.σ) (.v 1) (.s 4) (.c 1))
  have u := zf4 (dg (Gv.σ 0) ((Gv.σ 1).headD 0) (Gv.σ 4) 1)
  exact ⟨zt [(262, 263)] (.i (.v 1) an5 (.i (.len (.s 4)) ags (.g (.s 4) ajb .nil))) (ag _ hk4) (ao _ hh) hI ze1,
   zn1⟩
theorem akf : ∀ (B : Nat) (σ : Nat → List Int), SAll σ (pI ++ oz) → (mLn).eval σ < (B : Int) → @b1r ⟨σ⟩ ∧ @b3j ⟨σ⟩
 | 0, σ, hI, hb => by obtain ⟨⟨h1, h2, h3, h4⟩, _⟩ := a5e hI; simp only [mLn, evs, wr] at hb; omega
 | B + 1, σ, hI, hb => by
   have ih : ∀ σ' : Nat → List Int, SAll σ' (pI ++ oz) → 0 ≤ (mLn).eval σ' ∧ (mLn).eval σ' < (mLn).eval σ → @b1r ⟨σ'⟩ ∧ @b3j ⟨σ'⟩ := fun σ' h h' => akf B σ' h (by omega)
   have hh : ∀ t ∈ [bo1 (mLn), bld (mLn), b03 (mLn), bo6 (mLn), b3e (mLn)], @ba ⟨σ⟩ t := by
    intro t ht
    simp only [List.mem_cons, List.not_mem_nil, or_false] at ht
    rcases ht with rfl | rfl | rfl | rfl | rfl
    ·exact fun σ' _ hA hb => (ih σ' (aj hA).1 hb).1.1 (aj hA).2
    ·exact fun σ' _ hA hb => (ih σ' (aj hA).1 hb).1.2.1 (aj hA).2
    ·exact fun σ' _ hA hb => (ih σ' (aj hA).1 hb).1.2.2 (aj hA).2
    ·exact fun σ' _ hA hb => (ih σ' (aj hA).1 hb).2.1 (aj hA).2
    ·exact fun σ' _ hA hb => (ih σ' (aj hA).1 hb).2.2 (aj hA).2
   exact ⟨@b7w ⟨σ⟩ hh hI, @b4e ⟨σ⟩ hh hI⟩
theorem bna [Gv] : ba bn5 := fun σ _ hA _ => (akf (((mLn).eval σ).toNat + 1) σ (aj hA).1 (by omega)).1.1 (aj hA).2
theorem bl2 [Gv] : ba bia := fun σ _ hA _ => (akf (((mLn).eval σ).toNat + 1) σ (aj hA).1 (by omega)).1.2.1 (aj hA).2
theorem bq8 [Gv] : ba bus := fun σ _ hA _ => (akf (((mLn).eval σ).toNat + 1) σ (aj hA).1 (by omega)).1.2.2 (aj hA).2
theorem bi0 [Gv] : ba bnm := fun σ _ hA _ => (akf (((mLn).eval σ).toNat + 1) σ (aj hA).1 (by omega)).2.1 (aj hA).2
theorem bq0 [Gv] : ba bwi := fun σ _ hA _ => (akf (((mLn).eval σ).toNat + 1) σ (aj hA).1 (by omega)).2.2 (aj hA).2
theorem tk5 [Gv] : ∀ t ∈ [bn5, bia, bus, bnm, bwi], ba t := by
 intro t ht
 simp only [List.mem_cons, List.not_mem_nil, or_false] at ht
 rcases ht with rfl | rfl | rfl | rfl | rfl
 ·exact bna
 ·exact bl2
 ·exact bq8
 ·exact bi0
 ·exact bq0
theorem b2g {σ : Nat → List Int} (h : SAll σ (pI ++ ail)) : (gd (σ 0) ∧ 0 ≤ (σ 1).headD 0 ∧ (σ 1).headD 0 ≤ ((σ 0).length : Int) ∧ (σ 0).length ≤ 4000) ∧ (σ 1).headD 0 < ((σ 0).length : Int) ∧ ¬ xu ((σ 0).getD ((σ 1).headD 0).toNat 0) = 1 := by
 refine ⟨qj (aj h).1, ?_⟩
 have := (aj h).2
 simp only [sall_cons, sE, evs, bg] at this
 have := this.1
 split at this
 ·exact ⟨by assumption, by omega⟩
 ·omega
def ca3 [Gv] : Prop := (SAll Gv.σ bey → cg 53 7 bf9 262 bfk bmt 263 bn6) ∧ (SAll Gv.σ bdv → cg 53 7 bf9 262 bfk bi6 263 bnn) ∧ (SAll Gv.σ a85 → cg 53 7 bf9 262 bfk bvq 263 bwp)
theorem bio [Gv] (hI : SAll Gv.σ (pI ++ ail)) : ca3 := by
 obtain ⟨⟨hR, hp0, hpl, hL⟩, hlt, hdl⟩ := b2g hI
 have hI := zT1 hI s5 (.len (.s 0))
 have hI := zF1 hI s5 (.c 0)
 have := zf1 (pz hR s5)
 have hI := zF1 hI xi (.c 0)
 have hI := zN1 hI av7 (.c 1)
 rcases zq1 hI xi (.c 92) with ⟨hI, k5⟩ | ⟨hI, k5⟩
 ·rcases zl1 hI sm (.len (.s 0)) with ⟨hI, k6⟩ | ⟨hI, k6⟩
  ·have hI := zF1 hI sm (.c 0)
   have := zf1 (pz hR sm)
   have hI := zF1 hI amj (.c 0)
   have hI := zF1 hI s7 (.c 0)
   have hI := zT1 hI s7 (.c 1114112)
   have hI := zF1 hI ng (.c 0)
   have hI := zF1 hI (.len (.s 0)) ng
   have := zf1 (f40 (σ := Gv.σ) s7)
   have hI := zF1 hI awp a84
   have := zf1 (f44 (σ := Gv.σ) ng anq (.c 1))
   rcases zq1 hI (.app 44 amg) (.c 0) with ⟨hI, k14⟩ | ⟨hI, k14⟩
   ·have hI := zE1 hI (.app 46 amg) (.c 1)
    have := zf1 (f44 (σ := Gv.σ) (.v 1) .nil (.c 0))
    have u := zf5 (dg (Gv.σ 0) ((Gv.σ 1).headD 0) [] 0)
    exact ⟨zn1,
     zt [(263, 262)] (.i (.app 45 amg) a0j (.i (.len beo) aic (.g beo al5 .nil))) (ag _ hk4) (ao _ tk5) hI ze3,
     zn1⟩
   ·have := zf1 (f44 (σ := Gv.σ) (.v 1) .nil (.c 0))
    have u := zf5 (dg (Gv.σ 0) ((Gv.σ 1).headD 0) [] 0)
    exact ⟨zn1,
     zn1,
     zt0 [] (ag _ hk4) (ao _ tk5) hI⟩
  ·have := zf1 (f44 (σ := Gv.σ) (.v 1) .nil (.c 0))
   have u := zf5 (dg (Gv.σ 0) ((Gv.σ 1).headD 0) [] 0)
   exact ⟨zn1,
    zn1,
    zt0 [] (ag _ hk4) (ao _ tk5) hI⟩
 ·have hI := zF1 hI sq (.c 0)
  have hI := zT1 hI sq (.c 1114112)
  have hI := zF1 hI jz (.c 0)
  have hI := zF1 hI (.len (.s 0)) jz
  have := zf1 (f40 (σ := Gv.σ) sq)
  have hI := zF1 hI az8 bcf
  have := zf1 (f44 (σ := Gv.σ) jz amc (.c 0))
  rcases zq1 hI (.app 44 al2) (.c 0) with ⟨hI, k11⟩ | ⟨hI, k11⟩
  ·rcases zq1 hI bbl (.c 0) with ⟨hI, k12⟩ | ⟨hI, k12⟩
   ·have := zf1 (f44 (σ := Gv.σ) (.v 1) .nil (.c 0))
    have u := zf5 (dg (Gv.σ 0) ((Gv.σ 1).headD 0) [] 0)
    exact ⟨zt [(263, 262)] (.i bdy a0j (.i a9j aic (.g axu al5 .nil))) (ag _ hk4) (ao _ tk5) hI ze3,
     zn1,
     zn1⟩
   ·have hI := zE1 hI bbl (.c 1)
    have := zf1 (f44 (σ := Gv.σ) (.v 1) .nil (.c 0))
    have u := zf5 (dg (Gv.σ 0) ((Gv.σ 1).headD 0) [] 0)
    exact ⟨zn1,
     zt [(263, 262)] (.i bdy a0j (.i a9j aic (.g axu al5 .nil))) (ag _ hk4) (ao _ tk5) hI ze3,
     zn1⟩
  ·have := zf1 (f44 (σ := Gv.σ) (.v 1) .nil (.c 0))
   have u := zf5 (dg (Gv.σ 0) ((Gv.σ 1).headD 0) [] 0)
   exact ⟨zn1,
    zn1,
    zt0 [] (ag _ hk4) (ao _ tk5) hI⟩
theorem bnz [Gv] : ba ar4 := fun σ _ hA _ => (@bio ⟨σ⟩  (aj hA).1).1 (aj hA).2
theorem bim [Gv] : ba aoz := fun σ _ hA _ => (@bio ⟨σ⟩  (aj hA).1).2.1 (aj hA).2
theorem bqr [Gv] : ba a0x := fun σ _ hA _ => (@bio ⟨σ⟩  (aj hA).1).2.2 (aj hA).2
end Go.Ev
