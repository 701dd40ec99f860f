import Derived.Test.YtocilenpboklbaaGreatDoorRaB
set_option maxRecDepth 100000
set_option linter.all false
namespace Go.Ev
abbrev apr : AL := .i (.c 0) .nil
abbrev xi : AL := .g (.s 0) (.i (.v 1) (.g (.s 4) apr))
abbrev aes : GE := .app 44 xi
abbrev aau : SE := .len aes
abbrev li : List SA := [.mk true (.bin 7 .i64 (.c 4) (.v 1)) (.len (.s 4)) false]
abbrev ax8 : SE := .app 44 xi
abbrev bdi : SE := .app 46 xi
abbrev ax9 : List SA := [.mk false ax8 (.c 0) true, .mk false bdi (.c 0) true]
abbrev aya : List SA := [.mk false ax8 (.c 0) true, .mk false bdi (.c 1) true]
abbrev aps : List SA := [.mk false ax8 (.c 0) false]
abbrev agb : AL := .i (.c 1) .nil
abbrev yp : AL := .g (.s 0) (.i (.v 1) (.g (.s 4) agb))
abbrev acn : GE := .app 44 yp
abbrev aco : SE := .len acn
abbrev a09 : SE := .app 44 yp
abbrev apu : List SA := [.mk false a09 (.c 0) true, .mk false (.app 46 yp) (.c 1) true]
abbrev apv : List SA := [.mk false a09 (.c 0) false]
abbrev rv : AL := .g (.s 0) (.i (.v 1) (.g .nil apr))
abbrev agc : GE := .app 44 rv
abbrev acp : SE := .len agc
abbrev acq : List SA := [.mk false (.app 108 (.g (.s 0) (.i (.v 1) .nil))) (.c 0) true]
abbrev apw : SE := .app 44 rv
abbrev a1a : SE := .app 46 rv
abbrev a1b : List SA := [.mk false apw (.c 0) true, .mk false a1a (.c 0) true]
abbrev a1c : List SA := [.mk false apw (.c 0) true, .mk false a1a (.c 1) true]
abbrev a1d : List SA := [.mk false apw (.c 0) false]
abbrev nl : SE := .bin 0 .i64 (.v 1) (.c 0)
abbrev rz : SE := .rd (.s 0) nl
abbrev apx : SE := .app 41 (.i rz .nil)
abbrev acr : SE := .app 45 xi
abbrev ic : SE := .bin 0 .i64 (.v 1) (.c 1)
abbrev nn : SE := .bin 0 .i64 ic (.c 0)
abbrev agd : SE := .rd (.s 0) nn
abbrev np : SE := .bin 0 .i32 agd (.c 0)
abbrev ke : SE := .bin 0 .i64 ic (.c 1)
abbrev apy : SE := .bin 7 .i64 (.c 4) ke
abbrev age : GE := .app 40 (.i np .nil)
abbrev a1e : SE := .len age
abbrev a1f : SE := .bin 6 .i64 (.len (.s 4)) a1e
abbrev apz : GE := .cat (.s 4) age
abbrev agf : AL := .g (.s 0) (.i ke (.g apz agb))
abbrev a1g : SE := .app 44 agf
abbrev a1h : SE := .app 46 agf
abbrev sa : SE := .bin 6 .i64 (.len (.s 0)) (.bin 7 .i64 (.c (-1)) ke)
abbrev pa : SE := .bin 6 .i64 (.len (.s 0)) (.bin 7 .i64 (.c (-1)) (.v 1))
abbrev a1i : SE := .app 45 agf
abbrev ap0 : GE := .app 44 agf
abbrev a1j : SE := .len ap0
abbrev nq : SE := .bin 0 .i32 rz (.c 0)
abbrev ap1 : SE := .bin 7 .i64 (.c 4) ic
abbrev agh : GE := .app 40 (.i nq .nil)
abbrev a1k : SE := .len agh
abbrev a1l : SE := .bin 6 .i64 (.len (.s 4)) a1k
abbrev agi : GE := .cat (.s 4) agh
abbrev agj : AL := .g (.s 0) (.i ic (.g agi apr))
abbrev a1m : SE := .app 46 agj
abbrev nr : SE := .bin 6 .i64 (.len (.s 0)) (.bin 7 .i64 (.c (-1)) ic)
abbrev a1n : SE := .app 45 agj
abbrev ap2 : GE := .app 44 agj
abbrev a1o : SE := .len ap2
abbrev agk : SE := .app 45 yp
abbrev agl : AL := .g (.s 0) (.i ic (.g agi agb))
abbrev a1p : GE := .app 44 agl
abbrev agm : AL := .g (.s 0) (.i ke (.g age agb))
abbrev ap3 : SE := .app 45 rv
abbrev a1q : GE := .app 44 agm
abbrev agn : AL := .g (.s 0) (.i ic (.g agh apr))
abbrev a1r : SE := .app 46 agn
abbrev a1s : SE := .app 45 agn
abbrev ap4 : GE := .app 44 agn
abbrev a1t : SE := .len ap4
noncomputable section
def apf : List AV := [.ptr (K.of 256) 0, .top, .ptr (K.of 260) 0, .sym .i64 (.v 3) [], .bool false, .ptr (K.of 261) 0] ++ tps 59
def ape : List HO := [rdO 256 258 259 257 (.v 1) (.v 2), rwO 257] ++ buO 261 262 (.s 4) (.len (.s 4))
def axp : List HO := [rdO 256 258 259 257 (.app 45 xi) (.v 2), rwO 257] ++ buO 261 263 (.app 44 xi) aau
def axq : LR := (.x 0 ([.ptr (K.of 256) 0, .top, .ptr (K.of 260) 0, .sym .i64 (.v 3) [], .bool false, .ptr (K.of 261) 0] ++ tps 59))
def bby (m : SE) : LT := .mk 111 7 apf 263 ape ((pI ++ li) ++ ax9) (some (mLn, m)) axq 264 axp
def bbz : LT := .mk 111 7 apf 263 ape ((pI ++ li) ++ ax9) none axq 264 axp
def axr : List HO := [rdO 256 258 259 257 (.app 45 xi) (.v 2), rwO 257] ++ buO 261 263 (.app 44 xi) aau
def axs : LR := (.x 0 ([.ptr (K.of 256) 0, .top, .ptr (K.of 260) 0, .sym .i64 (.v 3) [], .bool true, .ptr (K.of 261) 0] ++ tps 59))
def bb1 (m : SE) : LT := .mk 111 7 apf 263 ape ((pI ++ li) ++ aya) (some (mLn, m)) axs 264 axr
def bb2 : LT := .mk 111 7 apf 263 ape ((pI ++ li) ++ aya) none axs 264 axr
def bbw : List HO := []
def bbx : LR := (.p [.mk (.iface 46 (.agg [.int .i64 5, .sym .i64 (.len (.s 0)) []])) false] (tps 65))
def bqv (m : SE) : LT := .mk 111 7 apf 263 ape ((pI ++ li) ++ aps) (some (mLn, m)) bbx 264 bbw
def bng : LT := .mk 111 7 apf 263 ape ((pI ++ li) ++ aps) none bbx 264 bbw
def a65 : List AV := [.ptr (K.of 256) 0, .top, .ptr (K.of 260) 0, .sym .i64 (.v 3) [], .bool true, .ptr (K.of 261) 0] ++ tps 59
def a64 : List HO := [rdO 256 258 259 257 (.v 1) (.v 2), rwO 257] ++ buO 261 262 (.s 4) (.len (.s 4))
def axt : List HO := [rdO 256 258 259 257 (.app 45 yp) (.v 2), rwO 257] ++ buO 261 263 (.app 44 yp) aco
def axu : LR := (.x 0 ([.ptr (K.of 256) 0, .top, .ptr (K.of 260) 0, .sym .i64 (.v 3) [], .bool true, .ptr (K.of 261) 0] ++ tps 59))
def bb6 (m : SE) : LT := .mk 111 7 a65 263 a64 ((pI ++ li) ++ apu) (some (mLn, m)) axu 264 axt
def bb7 : LT := .mk 111 7 a65 263 a64 ((pI ++ li) ++ apu) none axu 264 axt
def bb4 : List HO := []
def bb5 : LR := (.p [.mk (.iface 46 (.agg [.int .i64 5, .sym .i64 (.len (.s 0)) []])) false] (tps 65))
def bqx (m : SE) : LT := .mk 111 7 a65 263 a64 ((pI ++ li) ++ apv) (some (mLn, m)) bb5 264 bb4
def bnh : LT := .mk 111 7 a65 263 a64 ((pI ++ li) ++ apv) none bb5 264 bb4
def a67 : List AV := [.ptr (K.of 256) 0, .top, .ptr (K.of 260) 0, .sym .i64 (.v 3) [], .bool false, .ptr (K.of 261) 0] ++ tps 59
def a66 : List HO := [rdO 256 258 259 257 (.v 1) (.v 2), rwO 257] ++ [.mk 261 (.cells 96 false 0 0 [.nilPtr, .nilSlice])]
def bcb : List HO := [rdO 256 258 259 257 (.app 45 rv) (.v 2), rwO 257] ++ buO 261 262 (.app 44 rv) acp
def bcc : LR := (.x 0 ([.ptr (K.of 256) 0, .top, .ptr (K.of 260) 0, .sym .i64 (.v 3) [], .bool false, .ptr (K.of 261) 0] ++ tps 59))
def bb9 : LT := .mk 111 7 a67 262 a66 ((pI ++ acq) ++ a1b) none bcc 263 bcb
def bcf : List HO := [rdO 256 258 259 257 (.app 45 rv) (.v 2), rwO 257] ++ buO 261 262 (.app 44 rv) acp
def bcg : LR := (.x 0 ([.ptr (K.of 256) 0, .top, .ptr (K.of 260) 0, .sym .i64 (.v 3) [], .bool true, .ptr (K.of 261) 0] ++ tps 59))
def bce : LT := .mk 111 7 a67 262 a66 ((pI ++ acq) ++ a1c) none bcg 263 bcf
def bnj : List HO := []
def bnk : LR := (.p [.mk (.iface 46 (.agg [.int .i64 5, .sym .i64 (.len (.s 0)) []])) false] (tps 65))
def bni : LT := .mk 111 7 a67 262 a66 ((pI ++ acq) ++ a1d) none bnk 263 bnj
end
theorem a0m (R : List Int) : ∀ (n : Nat) (p : Int) (b : List Int) (q : Int), ((R.length : Int) - p).toNat ≤ n → p ≤ (R.length : Int) → ((kk R p b q).f = 0 ∨ (kk R p b q).f = 5) ∧ ((kk R p b q).f = 0 → p ≤ (kk R p b q).p ∧ (kk R p b q).p ≤ (R.length : Int) ∧ ((kk R p b q).b.length : Int) ≤ (b.length : Int) + 4 * ((kk R p b q).p - p) ∧ (q = 1 → (kk R p b q).q = 1) ∧ (q = 0 → (kk R p b q).q = 0 ∨ (kk R p b q).q = 1))
 | 0, p, b, q, h, hp => by
   rw [da, if_neg (by omega)]; dsimp only; exact ⟨.inl rfl, fun _ => ⟨by omega, by omega, by omega, id, .inl⟩⟩
 | n + 1, p, b, q, h, hp => by
   have e4 : ∀ c, ((c9 c).length : Int) ≤ 4 := by
    intro c
    unfold c9
    repeat' split
    all_goals (simp only [zO, zS]; omega)
   rw [da]
   split
   ·split
    ·dsimp only; exact ⟨.inl rfl, fun _ => ⟨by omega, by omega, by omega, id, .inl⟩⟩
    ·split
     ·split
      ·obtain ⟨h1, h2⟩ := a0m R n (p + 2) (b ++ c9 (R.getD (p + 1).toNat 0)) 1 (by omega) (by omega)
       refine ⟨h1, fun h0 => ?_⟩
       obtain ⟨a1, a2, a3, a4, a5⟩ := h2 h0
       have := e4 (R.getD (p + 1).toNat 0)
       rw [zP] at a3
       exact ⟨by omega, a2, by omega, fun _ => a4 rfl, fun _ => .inr (a4 rfl)⟩
      ·exact ⟨.inr rfl, fun h0 => absurd h0 (by decide)⟩
     ·obtain ⟨h1, h2⟩ := a0m R n (p + 1) (b ++ c9 (R.getD p.toNat 0)) q (by omega) (by omega)
      refine ⟨h1, fun h0 => ?_⟩
      obtain ⟨a1, a2, a3, a4, a5⟩ := h2 h0
      have := e4 (R.getD p.toNat 0)
      rw [zP] at a3
      exact ⟨by omega, a2, by omega, a4, a5⟩
   ·dsimp only; exact ⟨.inl rfl, fun _ => ⟨by omega, by omega, by omega, id, .inl⟩⟩
theorem f44 {σ : Nat → List Int} (a : SE) (g : GE) (q : SE) : a.eval σ ≤ (SE.len (.s 0)).eval σ → ((SE.app 44 (.g (.s 0) (.i a (.g g (.i q .nil))))).eval σ = 0 ∨ (SE.app 44 (.g (.s 0) (.i a (.g g (.i q .nil))))).eval σ = 5) ∧
  ((SE.app 44 (.g (.s 0) (.i a (.g g (.i q .nil))))).eval σ = 0 → a.eval σ ≤ (SE.app 45 (.g (.s 0) (.i a (.g g (.i q .nil))))).eval σ ∧ (SE.app 45 (.g (.s 0) (.i a (.g g (.i q .nil))))).eval σ ≤ (SE.len (.s 0)).eval σ ∧ (SE.len (.app 44 (.g (.s 0) (.i a (.g g (.i q .nil)))))).eval σ ≤ (SE.len g).eval σ + 4 * ((SE.app 45 (.g (.s 0) (.i a (.g g (.i q .nil))))).eval σ - a.eval σ) ∧
  (q.eval σ = 1 → (SE.app 46 (.g (.s 0) (.i a (.g g (.i q .nil))))).eval σ = 1) ∧ (q.eval σ = 0 → (SE.app 46 (.g (.s 0) (.i a (.g g (.i q .nil))))).eval σ = 0 ∨ (SE.app 46 (.g (.s 0) (.i a (.g g (.i q .nil))))).eval σ = 1)) :=
 fun h => a0m _ _ _ _ _ (zY _) h
theorem axv {σ : Nat → List Int} (h : SAll σ (pI ++ li)) : (ou (σ 0) ∧ 0 ≤ (σ 1).headD 0 ∧ (σ 1).headD 0 ≤ ((σ 0).length : Int) ∧ (σ 0).length ≤ 4000) ∧ ((σ 4).length : Int) ≤ 4 * (σ 1).headD 0 := by
 refine ⟨tw (ai h).1, ?_⟩
 have := (ai h).2
 simp only [sall_cons, sF, evs] at this
 exact this.1
theorem hk4 [Gv] : ∀ t ∈ [br8, be9, be8, bie, bid], ax t := by
 intro t ht
 simp only [List.mem_cons, zH, or_false] at ht
 rcases ht with rfl | rfl | rfl | rfl | rfl
 ·exact bow
 ·exact awf
 ·exact awe
 ·exact ax3
 ·exact ax2
def bqu [Gv] : Prop := (SAll Gv.σ ax9 → bw 111 7 apf 263 ape axq 264 axp) ∧ (SAll Gv.σ aya → bw 111 7 apf 263 ape axs 264 axr) ∧ (SAll Gv.σ aps → bw 111 7 apf 263 ape bbx 264 bbw)
theorem bs2 [Gv] (hh : ∀ t ∈ [bby (mLn), bb1 (mLn), bqv (mLn), bb6 (mLn), bqx (mLn)], au t) (hI : SAll Gv.σ (pI ++ li)) : bqu := by
 obtain ⟨⟨hR, hp0, hpl, hL⟩, h4⟩ := axv hI
 rcases zl1 hI nl (.len (.s 0)) with ⟨hI, k1⟩ | ⟨hI, k1⟩
 ·have hI := zF1 hI nl (.c 0)
  have := zf1 (adu hR nl)
  have hI := zF1 hI rz (.c 0)
  rcases zq1 hI apx (.c 1) with ⟨hI, k4⟩ | ⟨hI, k4⟩
  ·have := zf1 (f44 (σ := Gv.σ) (.v 1) (.s 4) (.c 0))
   have u := zf4 (da (Gv.σ 0) ((Gv.σ 1).headD 0) (Gv.σ 4) 0)
   exact ⟨zt [(262, 263)] (.i (.v 1) acr (.i (.len (.s 4)) aau (.g (.s 4) aes .nil))) (zh hI hk4) (zp hI hh) hI ze1,
    zn1,
    zn1⟩
  ·rcases zq1 hI rz (.c 92) with ⟨hI, k5⟩ | ⟨hI, k5⟩
   ·rcases zl1 hI nn (.len (.s 0)) with ⟨hI, k6⟩ | ⟨hI, k6⟩
    ·have hI := zF1 hI nn (.c 0)
     have := zf1 (adu hR nn)
     have hI := zF1 hI agd (.c 0)
     have hI := zF1 hI np (.c 0)
     have hI := zT1 hI np (.c 1114112)
     have hI := zF1 hI (.c 50000) (.len (.s 4))
     have hI := zF1 hI ke (.c 0)
     have hI := zF1 hI (.len (.s 0)) ke
     have := zf1 (f40 (σ := Gv.σ) np)
     have hI := zF1 hI apy a1f
     have := zf1 (f44 (σ := Gv.σ) ke apz (.c 1))
     rcases zq1 hI a1g (.c 0) with ⟨hI, k15⟩ | ⟨hI, k15⟩
     ·have hI := zE1 hI a1h (.c 1)
      have hI := zT1 hI sa pa
      have hI := zF1 hI sa (.c 0)
      have := zf1 (f44 (σ := Gv.σ) (.v 1) (.s 4) (.c 0))
      have u := zf4 (da (Gv.σ 0) ((Gv.σ 1).headD 0) (Gv.σ 4) 0)
      exact ⟨zn1,
       zt [(264, 263)] (.i a1i acr (.i a1j aau (.g ap0 aes .nil))) (zh hI hk4) (zp hI hh) hI ze1,
       zn1⟩
     ·have hI := zT1 hI sa pa
      have hI := zF1 hI sa (.c 0)
      have := zf1 (f44 (σ := Gv.σ) (.v 1) (.s 4) (.c 0))
      have u := zf4 (da (Gv.σ 0) ((Gv.σ 1).headD 0) (Gv.σ 4) 0)
      exact ⟨zn1,
       zn1,
       zt0 [] (zh hI hk4) (zp hI hh) hI⟩
    ·have := zf1 (f44 (σ := Gv.σ) (.v 1) (.s 4) (.c 0))
     have u := zf4 (da (Gv.σ 0) ((Gv.σ 1).headD 0) (Gv.σ 4) 0)
     exact ⟨zn1,
      zn1,
      zt0 [] (zh hI hk4) (zp hI hh) hI⟩
   ·have hI := zF1 hI nq (.c 0)
    have hI := zT1 hI nq (.c 1114112)
    have hI := zF1 hI (.c 50000) (.len (.s 4))
    have hI := zF1 hI ic (.c 0)
    have hI := zF1 hI (.len (.s 0)) ic
    have := zf1 (f40 (σ := Gv.σ) nq)
    have hI := zF1 hI ap1 a1l
    have := zf1 (f44 (σ := Gv.σ) ic agi (.c 0))
    rcases zq1 hI (.app 44 agj) (.c 0) with ⟨hI, k12⟩ | ⟨hI, k12⟩
    ·rcases zq1 hI a1m (.c 0) with ⟨hI, k13⟩ | ⟨hI, k13⟩
     ·have hI := zT1 hI nr pa
      have hI := zF1 hI nr (.c 0)
      have := zf1 (f44 (σ := Gv.σ) (.v 1) (.s 4) (.c 0))
      have u := zf4 (da (Gv.σ 0) ((Gv.σ 1).headD 0) (Gv.σ 4) 0)
      exact ⟨zt [(264, 263)] (.i a1n acr (.i a1o aau (.g ap2 aes .nil))) (zh hI hk4) (zp hI hh) hI ze1,
       zn1,
       zn1⟩
     ·have hI := zE1 hI a1m (.c 1)
      have hI := zT1 hI nr pa
      have hI := zF1 hI nr (.c 0)
      have := zf1 (f44 (σ := Gv.σ) (.v 1) (.s 4) (.c 0))
      have u := zf4 (da (Gv.σ 0) ((Gv.σ 1).headD 0) (Gv.σ 4) 0)
      exact ⟨zn1,
       zt [(264, 263)] (.i a1n acr (.i a1o aau (.g ap2 aes .nil))) (zh hI hk4) (zp hI hh) hI ze1,
       zn1⟩
    ·have hI := zT1 hI nr pa
     have hI := zF1 hI nr (.c 0)
     have := zf1 (f44 (σ := Gv.σ) (.v 1) (.s 4) (.c 0))
     have u := zf4 (da (Gv.σ 0) ((Gv.σ 1).headD 0) (Gv.σ 4) 0)
     exact ⟨zn1,
      zn1,
      zt0 [] (zh hI hk4) (zp hI hh) hI⟩
 ·have := zf1 (f44 (σ := Gv.σ) (.v 1) (.s 4) (.c 0))
  have u := zf4 (da (Gv.σ 0) ((Gv.σ 1).headD 0) (Gv.σ 4) 0)
  exact ⟨zt [(262, 263)] (.i (.v 1) acr (.i (.len (.s 4)) aau (.g (.s 4) aes .nil))) (zh hI hk4) (zp hI hh) hI ze1,
   zn1,
   zn1⟩
def bqw [Gv] : Prop := (SAll Gv.σ apu → bw 111 7 a65 263 a64 axu 264 axt) ∧ (SAll Gv.σ apv → bw 111 7 a65 263 a64 bb5 264 bb4)
theorem bs3 [Gv] (hh : ∀ t ∈ [bby (mLn), bb1 (mLn), bqv (mLn), bb6 (mLn), bqx (mLn)], au t) (hI : SAll Gv.σ (pI ++ li)) : bqw := by
 obtain ⟨⟨hR, hp0, hpl, hL⟩, h4⟩ := axv hI
 rcases zl1 hI nl (.len (.s 0)) with ⟨hI, k1⟩ | ⟨hI, k1⟩
 ·have hI := zF1 hI nl (.c 0)
  have := zf1 (adu hR nl)
  have hI := zF1 hI rz (.c 0)
  rcases zq1 hI apx (.c 1) with ⟨hI, k4⟩ | ⟨hI, k4⟩
  ·have := zf1 (f44 (σ := Gv.σ) (.v 1) (.s 4) (.c 1))
   have u := zf4 (da (Gv.σ 0) ((Gv.σ 1).headD 0) (Gv.σ 4) 1)
   exact ⟨zt [(262, 263)] (.i (.v 1) agk (.i (.len (.s 4)) aco (.g (.s 4) acn .nil))) (zh hI hk4) (zp hI hh) hI ze1,
    zn1⟩
  ·rcases zq1 hI rz (.c 92) with ⟨hI, k5⟩ | ⟨hI, k5⟩
   ·rcases zl1 hI nn (.len (.s 0)) with ⟨hI, k6⟩ | ⟨hI, k6⟩
    ·have hI := zF1 hI nn (.c 0)
     have := zf1 (adu hR nn)
     have hI := zF1 hI agd (.c 0)
     have hI := zF1 hI np (.c 0)
     have hI := zT1 hI np (.c 1114112)
     have hI := zF1 hI (.c 50000) (.len (.s 4))
     have hI := zF1 hI ke (.c 0)
     have hI := zF1 hI (.len (.s 0)) ke
     have := zf1 (f40 (σ := Gv.σ) np)
     have hI := zF1 hI apy a1f
     have := zf1 (f44 (σ := Gv.σ) ke apz (.c 1))
     rcases zq1 hI a1g (.c 0) with ⟨hI, k15⟩ | ⟨hI, k15⟩
     ·have hI := zE1 hI a1h (.c 1)
      have hI := zT1 hI sa pa
      have hI := zF1 hI sa (.c 0)
      have := zf1 (f44 (σ := Gv.σ) (.v 1) (.s 4) (.c 1))
      have u := zf4 (da (Gv.σ 0) ((Gv.σ 1).headD 0) (Gv.σ 4) 1)
      exact ⟨zt [(264, 263)] (.i a1i agk (.i a1j aco (.g ap0 acn .nil))) (zh hI hk4) (zp hI hh) hI ze1,
       zn1⟩
     ·have hI := zT1 hI sa pa
      have hI := zF1 hI sa (.c 0)
      have := zf1 (f44 (σ := Gv.σ) (.v 1) (.s 4) (.c 1))
      have u := zf4 (da (Gv.σ 0) ((Gv.σ 1).headD 0) (Gv.σ 4) 1)
      exact ⟨zn1,
       zt0 [] (zh hI hk4) (zp hI hh) hI⟩
    ·have := zf1 (f44 (σ := Gv.σ) (.v 1) (.s 4) (.c 1))
     have u := zf4 (da (Gv.σ 0) ((Gv.σ 1).headD 0) (Gv.σ 4) 1)
     exact ⟨zn1,
      zt0 [] (zh hI hk4) (zp hI hh) hI⟩
   ·have hI := zF1 hI nq (.c 0)
    have hI := zT1 hI nq (.c 1114112)
    have hI := zF1 hI (.c 50000) (.len (.s 4))
    have hI := zF1 hI ic (.c 0)
    have hI := zF1 hI (.len (.s 0)) ic
    have := zf1 (f40 (σ := Gv.σ) nq)
    have hI := zF1 hI ap1 a1l
    have := zf1 (f44 (σ := Gv.σ) ic agi (.c 1))
    rcases zq1 hI (.app 44 agl) (.c 0) with ⟨hI, k12⟩ | ⟨hI, k12⟩
    ·have hI := zE1 hI (.app 46 agl) (.c 1)
     have hI := zT1 hI nr pa
     have hI := zF1 hI nr (.c 0)
     have := zf1 (f44 (σ := Gv.σ) (.v 1) (.s 4) (.c 1))
     have u := zf4 (da (Gv.σ 0) ((Gv.σ 1).headD 0) (Gv.σ 4) 1)
     exact ⟨zt [(264, 263)] (.i (.app 45 agl) agk (.i (.len a1p) aco (.g a1p acn .nil))) (zh hI hk4) (zp hI hh) hI ze1,
      zn1⟩
    ·have hI := zT1 hI nr pa
     have hI := zF1 hI nr (.c 0)
     have := zf1 (f44 (σ := Gv.σ) (.v 1) (.s 4) (.c 1))
     have u := zf4 (da (Gv.σ 0) ((Gv.σ 1).headD 0) (Gv.σ 4) 1)
     exact ⟨zn1,
      zt0 [] (zh hI hk4) (zp hI hh) hI⟩
 ·have := zf1 (f44 (σ := Gv.σ) (.v 1) (.s 4) (.c 1))
  have u := zf4 (da (Gv.σ 0) ((Gv.σ 1).headD 0) (Gv.σ 4) 1)
  exact ⟨zt [(262, 263)] (.i (.v 1) agk (.i (.len (.s 4)) aco (.g (.s 4) acn .nil))) (zh hI hk4) (zp hI hh) hI ze1,
   zn1⟩
theorem aem : ∀ (B : Nat) (σ : Nat → List Int), SAll σ (pI ++ li) → (mLn).eval σ < (B : Int) → @bqu ⟨σ⟩ ∧ @bqw ⟨σ⟩
 | 0, σ, hI, hb => by obtain ⟨⟨h1, h2, h3, h4⟩, _⟩ := axv hI; simp only [mLn, evs, wr] at hb; omega
 | B + 1, σ, hI, hb => by
   have ih : ∀ σ' : Nat → List Int, SAll σ' (pI ++ li) → 0 ≤ (mLn).eval σ' ∧ (mLn).eval σ' < (mLn).eval σ → @bqu ⟨σ'⟩ ∧ @bqw ⟨σ'⟩ := fun σ' h h' => aem B σ' h (by omega)
   have hh : ∀ t ∈ [bby (mLn), bb1 (mLn), bqv (mLn), bb6 (mLn), bqx (mLn)], @au ⟨σ⟩ t := by
    intro t ht
    simp only [List.mem_cons, zH, or_false] at ht
    rcases ht with rfl | rfl | rfl | rfl | rfl
    ·exact fun σ' _ hA hb => (ih σ' (ai hA).1 hb).1.1 (ai hA).2
    ·exact fun σ' _ hA hb => (ih σ' (ai hA).1 hb).1.2.1 (ai hA).2
    ·exact fun σ' _ hA hb => (ih σ' (ai hA).1 hb).1.2.2 (ai hA).2
    ·exact fun σ' _ hA hb => (ih σ' (ai hA).1 hb).2.1 (ai hA).2
    ·exact fun σ' _ hA hb => (ih σ' (ai hA).1 hb).2.2 (ai hA).2
   exact ⟨@bs2 ⟨σ⟩ hh hI, @bs3 ⟨σ⟩ hh hI⟩
theorem bb0 [Gv] : au bbz := fun σ _ hA _ => (aem (((mLn).eval σ).toNat + 1) σ (ai hA).1 (by omega)).1.1 (ai hA).2
theorem bb3 [Gv] : au bb2 := fun σ _ hA _ => (aem (((mLn).eval σ).toNat + 1) σ (ai hA).1 (by omega)).1.2.1 (ai hA).2
theorem bhx [Gv] : au bng := fun σ _ hA _ => (aem (((mLn).eval σ).toNat + 1) σ (ai hA).1 (by omega)).1.2.2 (ai hA).2
theorem bb8 [Gv] : au bb7 := fun σ _ hA _ => (aem (((mLn).eval σ).toNat + 1) σ (ai hA).1 (by omega)).2.1 (ai hA).2
theorem bhy [Gv] : au bnh := fun σ _ hA _ => (aem (((mLn).eval σ).toNat + 1) σ (ai hA).1 (by omega)).2.2 (ai hA).2
theorem tk5 [Gv] : ∀ t ∈ [bbz, bb2, bng, bb7, bnh], au t := by
 intro t ht
 simp only [List.mem_cons, zH, or_false] at ht
 rcases ht with rfl | rfl | rfl | rfl | rfl
 ·exact bb0
 ·exact bb3
 ·exact bhx
 ·exact bb8
 ·exact bhy
theorem bqy {σ : Nat → List Int} (h : SAll σ (pI ++ acq)) : (ou (σ 0) ∧ 0 ≤ (σ 1).headD 0 ∧ (σ 1).headD 0 ≤ ((σ 0).length : Int) ∧ (σ 0).length ≤ 4000) ∧ (σ 1).headD 0 < ((σ 0).length : Int) ∧ ¬ sj ((σ 0).getD ((σ 1).headD 0).toNat 0) = 1 := by
 refine ⟨tw (ai h).1, ?_⟩
 have := (ai h).2
 simp only [sall_cons, sE, evs, bfc] at this
 have := this.1
 split at this
 ·exact ⟨by assumption, by omega⟩
 ·omega
def b1g [Gv] : Prop := (SAll Gv.σ a1b → bw 111 7 a67 262 a66 bcc 263 bcb) ∧ (SAll Gv.σ a1c → bw 111 7 a67 262 a66 bcg 263 bcf) ∧ (SAll Gv.σ a1d → bw 111 7 a67 262 a66 bnk 263 bnj)
theorem a82 [Gv] (hI : SAll Gv.σ (pI ++ acq)) : b1g := by
 obtain ⟨⟨hR, hp0, hpl, hL⟩, hlt, hdl⟩ := bqy hI
 have hI := zT1 hI nl (.len (.s 0))
 have hI := zF1 hI nl (.c 0)
 have := zf1 (adu hR nl)
 have hI := zF1 hI rz (.c 0)
 have hI := zN1 hI apx (.c 1)
 rcases zq1 hI rz (.c 92) with ⟨hI, k5⟩ | ⟨hI, k5⟩
 ·rcases zl1 hI nn (.len (.s 0)) with ⟨hI, k6⟩ | ⟨hI, k6⟩
  ·have hI := zF1 hI nn (.c 0)
   have := zf1 (adu hR nn)
   have hI := zF1 hI agd (.c 0)
   have hI := zF1 hI np (.c 0)
   have hI := zT1 hI np (.c 1114112)
   have hI := zF1 hI ke (.c 0)
   have hI := zF1 hI (.len (.s 0)) ke
   have := zf1 (f40 (σ := Gv.σ) np)
   have hI := zF1 hI apy a1e
   have := zf1 (f44 (σ := Gv.σ) ke age (.c 1))
   rcases zq1 hI (.app 44 agm) (.c 0) with ⟨hI, k14⟩ | ⟨hI, k14⟩
   ·have hI := zE1 hI (.app 46 agm) (.c 1)
    have := zf1 (f44 (σ := Gv.σ) (.v 1) .nil (.c 0))
    have u := zf5 (da (Gv.σ 0) ((Gv.σ 1).headD 0) [] 0)
    exact ⟨zn1,
     zt [(263, 262)] (.i (.app 45 agm) ap3 (.i (.len a1q) acp (.g a1q agc .nil))) (zh hI hk4) (zp hI tk5) hI ze3,
     zn1⟩
   ·have := zf1 (f44 (σ := Gv.σ) (.v 1) .nil (.c 0))
    have u := zf5 (da (Gv.σ 0) ((Gv.σ 1).headD 0) [] 0)
    exact ⟨zn1,
     zn1,
     zt0 [] (zh hI hk4) (zp hI tk5) hI⟩
  ·have := zf1 (f44 (σ := Gv.σ) (.v 1) .nil (.c 0))
   have u := zf5 (da (Gv.σ 0) ((Gv.σ 1).headD 0) [] 0)
   exact ⟨zn1,
    zn1,
    zt0 [] (zh hI hk4) (zp hI tk5) hI⟩
 ·have hI := zF1 hI nq (.c 0)
  have hI := zT1 hI nq (.c 1114112)
  have hI := zF1 hI ic (.c 0)
  have hI := zF1 hI (.len (.s 0)) ic
  have := zf1 (f40 (σ := Gv.σ) nq)
  have hI := zF1 hI ap1 a1k
  have := zf1 (f44 (σ := Gv.σ) ic agh (.c 0))
  rcases zq1 hI (.app 44 agn) (.c 0) with ⟨hI, k11⟩ | ⟨hI, k11⟩
  ·rcases zq1 hI a1r (.c 0) with ⟨hI, k12⟩ | ⟨hI, k12⟩
   ·have := zf1 (f44 (σ := Gv.σ) (.v 1) .nil (.c 0))
    have u := zf5 (da (Gv.σ 0) ((Gv.σ 1).headD 0) [] 0)
    exact ⟨zt [(263, 262)] (.i a1s ap3 (.i a1t acp (.g ap4 agc .nil))) (zh hI hk4) (zp hI tk5) hI ze3,
     zn1,
     zn1⟩
   ·have hI := zE1 hI a1r (.c 1)
    have := zf1 (f44 (σ := Gv.σ) (.v 1) .nil (.c 0))
    have u := zf5 (da (Gv.σ 0) ((Gv.σ 1).headD 0) [] 0)
    exact ⟨zn1,
     zt [(263, 262)] (.i a1s ap3 (.i a1t acp (.g ap4 agc .nil))) (zh hI hk4) (zp hI tk5) hI ze3,
     zn1⟩
  ·have := zf1 (f44 (σ := Gv.σ) (.v 1) .nil (.c 0))
   have u := zf5 (da (Gv.σ 0) ((Gv.σ 1).headD 0) [] 0)
   exact ⟨zn1,
    zn1,
    zt0 [] (zh hI hk4) (zp hI tk5) hI⟩
theorem bcd [Gv] : au bb9 := fun σ _ hA _ => (@a82 ⟨σ⟩  (ai hA).1).1 (ai hA).2
theorem bch [Gv] : au bce := fun σ _ hA _ => (@a82 ⟨σ⟩  (ai hA).1).2.1 (ai hA).2
theorem bhz [Gv] : au bni := fun σ _ hA _ => (@a82 ⟨σ⟩  (ai hA).1).2.2 (ai hA).2
end Go.Ev
