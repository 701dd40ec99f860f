import Derived.Test.YtkfdioikigponaaGreatDoorRaB
set_option maxRecDepth 100000
set_option linter.all false
namespace Go.Ev
abbrev ayf : SE := .bin 7 .i64 (.c (-1)) (.v 1)
abbrev avc : SE := .bin 6 .i64 (.v 2) (.app 49 (.g (.s 3) (.i (.v 1) .nil)))
abbrev ads : List SA := [.mk true (.v 1) (.c 0) false, .mk true (.len (.s 3)) (.v 1) false, .mk true (.c 20000) (.len (.s 3)) false, .mk true (.v 2) (.c 0) false, .mk true (.v 1) (.v 2) false]
abbrev avh : List SA := [.mk true (.c 20000) (.len (.s 3)) false]
abbrev awd : GE := .app 47 (.g (.s 3) .nil)
abbrev a90 : SE := .c 2305843009213693952
abbrev b4r : List SA := [.mk true (.v 1) (.c 0) false, .mk true (.len (.s 4)) (.v 1) false, .mk true (.c 20000) (.len (.s 4)) false, .mk true (.v 2) (.c 0) false, .mk true (.v 5) (.v 2) false, .mk true a90 (.v 5) false]
abbrev bah : AL := .g (.s 4) (.i (.v 1) (.i (.v 2) (.i (.v 5) (.i (.c 1) .nil))))
abbrev axh : SE := .app 51 bah
abbrev by5 : List SA := [.mk false axh (.c 0) true]
abbrev b2y : SE := .app 52 bah
abbrev b0u : List SA := [.mk false axh (.c 1) true]
abbrev bx4 : List SA := [.mk false axh (.c 2) true]
abbrev apy : AL := .i (.v 5) (.i (.c 0) .nil)
abbrev a29 : AL := .g (.s 4) (.i (.v 1) (.i (.v 2) apy))
abbrev azn : SE := .app 51 a29
abbrev b1b : List SA := [.mk false azn (.c 0) true]
abbrev bx7 : SE := .app 52 a29
abbrev b0e : List SA := [.mk false azn (.c 2) true]
abbrev anq : SE := .app 47 (.g (.s 3) .nil)
abbrev bzl : List SA := [.mk false anq (.c 0) true]
abbrev bzq : SE := .app 48 (.g (.s 3) .nil)
abbrev bxj : List SA := [.mk false anq (.c 1) true]
abbrev bzp : List SA := [.mk false anq (.c 2) true]
abbrev ac0 : SE := .bin 6 .i64 (.v 1) (.dw (.s 3) (.v 1))
abbrev aqq : SE := .bin 0 .i64 (.v 2) (.c 1)
abbrev a4g : SE := .bin 6 .i64 (.len (.s 3)) (.bin 7 .i64 (.c (-1)) ac0)
abbrev bg8 : SE := .dr (.s 4) (.v 1)
abbrev a0z : SE := .bin 0 .u64 (.bin 2 .u64 (.v 2) (.c 10)) (.bin 0 .u64 (.bin 1 .i32 bg8 (.c 48)) (.c 0))
abbrev agw : SE := .bin 6 .i64 (.v 1) (.dw (.s 4) (.v 1))
abbrev a4j : AL := .g (.s 4) (.i agw (.i (.v 5) apy))
abbrev bxp : SE := .app 51 a4j
abbrev bx8 : SE := .bin 6 .i64 (.len (.s 4)) (.bin 7 .i64 (.c (-1)) agw)
abbrev b12 : SE := .bin 6 .i64 (.len (.s 4)) ayf
abbrev bxg : SE := .app 52 a4j
abbrev ayt : AL := .g (.s 4) (.i agw (.i a0z (.i (.v 5) (.i (.c 1) .nil))))
abbrev bxr : SE := .app 51 ayt
abbrev b2g : SE := .app 52 ayt
abbrev bfl : AL := .g (.s 4) (.i agw (.i a0z apy))
abbrev byy : SE := .app 51 bfl
abbrev b1q : SE := .len awd
abbrev bep : AL := .g awd (.i (.c 0) (.i (.c 0) (.i a90 (.i (.c 1) .nil))))
abbrev byp : SE := .app 51 bep
abbrev bhs : AL := .g awd (.i (.c 0) (.i (.c 0) (.i (.c 2305843009213693951) (.i (.c 1) .nil))))
abbrev bxk : SE := .app 51 bhs
noncomputable section
def mL3 : SE := .bin 6 .i64 (.len (.s 3)) ayf
def bqe : List AV := [.top, .top, .sym .i64 (.v 2) [], .gv (.str (.s 3) []), .ptr (K.of 256) 0] ++ tps 5
def bqu : List HO := [.mk 256 (.gob (.iter (.s 3) (.v 1) []))]
def bnc : List HO := []
def bqn : LR := (.x 0 ([.top, .top, .sym .i64 avc []] ++ tps 7))
def rcl (m : SE) : LT := .mk 71 5 bqe 257 bqu (ads ++ []) (some (mL3, m)) bqn 257 bnc
def b5b : LT := .mk 71 5 bqe 257 bqu (ads ++ []) none bqn 257 bnc
def rcU : List AV := [.gv (.str (.s 3) [])]
def rcI : List HO := []
def rcO : List HO := []
def rcR : TR := .ret (.sym .i64 (.app 49 (.g (.s 3) (.i (.c 0) .nil))) [])
def rcF : TM := .mk 71 rcU 256 rcI (avh ++ []) none rcR 257 rcO
end
theorem bpy {σ : Nat → List Int} (g : GE) (e : SE) : 0 ≤ e.eval σ → e.eval σ < (SE.len g).eval σ → 1 ≤ (SE.dw g e).eval σ ∧ e.eval σ + (SE.dw g e).eval σ ≤ (SE.len g).eval σ ∧ 0 ≤ (SE.dr g e).eval σ ∧ (SE.dr g e).eval σ ≤ 1114111 := by
 intro h0 h1
 have h1 : e.eval σ < ((g.eval σ).length : Int) := h1
 obtain ⟨b1, b2, b3⟩ := np (g.eval σ) (e.eval σ).toNat (by omega)
 show 1 ≤ ((Utf8.decode (aj (g.eval σ)) (e.eval σ).toNat).2 : Int) ∧ e.eval σ + ((Utf8.decode (aj (g.eval σ)) (e.eval σ).toNat).2 : Int) ≤ ((g.eval σ).length : Int) ∧ 0 ≤ ((Utf8.decode (aj (g.eval σ)) (e.eval σ).toNat).1 : Int) ∧ ((Utf8.decode (aj (g.eval σ)) (e.eval σ).toNat).1 : Int) ≤ 1114111
 omega
theorem a88 {σ : Nat → List Int} (h : SAll σ ads) : 0 ≤ (σ 1).headD 0 ∧ (σ 1).headD 0 ≤ ((σ 3).length : Int) ∧ ((σ 3).length : Int) ≤ 20000 ∧ 0 ≤ (σ 2).headD 0 ∧ (σ 2).headD 0 ≤ (σ 1).headD 0 := by
 simp only [sall_cons, sF, evs] at h
 exact ⟨h.1, h.2.1, h.2.2.1, h.2.2.2.1, h.2.2.2.2.1⟩
theorem au7 {σ : Nat → List Int} (h : SAll σ avh) : ((σ 3).length : Int) ≤ 20000 := by
 simp only [sall_cons, sF, evs] at h
 exact h.1
def bo0 [Gv] : Prop := (SAll Gv.σ [] → di 71 5 bqe 257 bqu bqn 257 bnc)
theorem buo [Gv] (hh : ∀ t ∈ [rcl (mL3)], bh t) (hI : SAll Gv.σ ads) : bo0 := by
 obtain ⟨hp0, hpl, hL, hn0, hnl⟩ := a88 hI
 rcases zl1 hI (.v 1) (.len (.s 3)) with ⟨hI, k1⟩ | ⟨hI, k1⟩
 ·have := zf1 (bpy (σ := Gv.σ) (.s 3) (.v 1))
  have hI := zF1 hI ac0 (.c 0)
  have hI := zF1 hI (.len (.s 3)) ac0
  have hI := zF1 hI aqq (.c 0)
  have hI := zF1 hI ac0 aqq
  have hI := zT1 hI a4g (.bin 6 .i64 (.len (.s 3)) ayf)
  have hI := zF1 hI a4g (.c 0)
  have u := zf4 (ac6 (Gv.σ 3) ((Gv.σ 1).headD 0))
  exact zt [] (.i (.bin 6 .i64 aqq (.app 49 (.g (.s 3) (.i ac0 .nil)))) avc .nil) ac (zp hI hh) hI ze1
 ·have u := zf4 (ac6 (Gv.σ 3) ((Gv.σ 1).headD 0))
  exact zt [] (.i (.v 2) avc .nil) ac (zp hI hh) hI ze1
theorem a2k : ∀ (B : Nat) (σ : Nat → List Int), SAll σ ads → (mL3).eval σ < (B : Int) → @bo0 ⟨σ⟩
 | 0, σ, hI, hb => by have := a88 hI; simp only [mL3, evs, wr] at hb; omega
 | B + 1, σ, hI, hb => by
   have ih : ∀ σ' : Nat → List Int, SAll σ' ads → 0 ≤ (mL3).eval σ' ∧ (mL3).eval σ' < (mL3).eval σ → @bo0 ⟨σ'⟩ := fun σ' h h' => a2k B σ' h (by omega)
   have hh : ∀ t ∈ [rcl (mL3)], @bh ⟨σ⟩ t := by
    intro t ht
    simp only [List.mem_cons, zH, or_false] at ht
    rcases ht with rfl
    ·exact fun σ' _ hA hb => (ih σ' (ak hA).1 hb) (ak hA).2
   exact @buo ⟨σ⟩ hh hI
theorem bps [Gv] : bh b5b := fun σ _ hA _ => (a2k (((mL3).eval σ).toNat + 1) σ (ak hA).1 (by omega)) (ak hA).2
def rcG [Gv] : Prop := (SAll Gv.σ [] → cz 71 rcU 256 rcI rcR 257 rcO)
theorem b5s [Gv] (hI : SAll Gv.σ avh) : rcG := by
 have h20 := au7 hI
 have hI := zF1 hI (.len (.s 3)) (.c 0)
 have u := trivial
 exact zm0 [] ac (zp hI (j5 bps)) hI
theorem buf [Gv] : bn rcF := fun σ _ hA _ => (@b5s ⟨σ⟩  (ak hA).1) (ak hA).2
noncomputable section
end
end Go.Ev
