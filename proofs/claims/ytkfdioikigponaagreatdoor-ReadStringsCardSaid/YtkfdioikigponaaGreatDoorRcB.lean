import Derived.Test.YtkfdioikigponaaGreatDoorRcA
set_option maxRecDepth 100000
set_option linter.all false
namespace Go.Ev
abbrev my : GE := .cat (.s 4) (.app 116 (.g (.s 10) (.g (.s 16) (.i (.v 11) .nil))))
abbrev adp : List SA := [.mk false (.v 13) (.len (.s 10)) true, .mk true (.v 13) (.c 1) false, .mk true (.c 300) (.v 13) false, .mk false (.v 15) (.len (.s 16)) true, .mk true (.v 15) (.v 13) false, .mk true (.v 12) (.c 0) false, .mk true (.v 11) (.c 0) false, .mk true (.v 13) (.v 11) false, .mk false (.app 115 (.g (.s 10) (.i (.v 11) .nil))) (.c 1) true, .mk true (.bin 6 .i64 (.bin 7 .i64 (.c 9) (.v 11)) (.c 1)) (.len (.s 4)) false]
abbrev ec : SE := .bin 0 .i64 (.v 11) (.c 1)
abbrev cv : SE := .rd (.s 10) (.v 11)
abbrev aki : SE := .rd (.s 16) (.v 11)
abbrev ez : SE := .c 9223372036854775807
abbrev a7i : SE := .bin 6 .i64 (.c 2) (.len (.app 115 (.i (.c 34) .nil)))
abbrev a83 : SE := .bin 6 .i64 a7i (.c 1)
abbrev bch : SE := .bin 6 .i64 (.len (.s 4)) a83
abbrev a23 : AL := .i ec .nil
abbrev lb : SE := .app 115 (.g (.s 10) a23)
abbrev ld : SE := .bin 6 .i64 (.bin 7 .i64 (.c 9) ec) (.c 1)
abbrev dv : SE := .bin 6 .i64 (.v 13) (.bin 7 .i64 (.c (-1)) ec)
abbrev lg : SE := .bin 6 .i64 (.v 13) (.bin 7 .i64 (.c (-1)) (.v 11))
abbrev up : GE := .app 116 (.g (.s 10) (.g (.s 16) a23))
abbrev aze : SE := .bin 6 .i64 (.c 2) (.len (.app 115 (.i (.c 92) .nil)))
abbrev a3w : SE := .bin 6 .i64 aze (.c 1)
abbrev a3k : SE := .bin 6 .i64 (.len (.s 4)) a3w
abbrev azl : SE := .bin 6 .i64 (.len (.s 4)) (.c 1)
abbrev a2m : GE := .app 115 (.i cv .nil)
abbrev yg : SE := .bin 6 .i64 (.c 2) (.len a2m)
abbrev x7 : SE := .bin 6 .i64 yg (.c 1)
abbrev nw : SE := .bin 6 .i64 (.len (.s 4)) x7
abbrev aa3 : GE := .cat (.cat (.s 4) (.cat (.cat (.lit 2 23672) a2m) (.lit 1 92))) up
abbrev a19 : SE := .bin 6 .i64 (.len (.s 4)) (.c 2)
abbrev a05 : SE := .bin 3 .i64 cv (.c 64)
abbrev azh : GE := .one (.bin 0 .u8 (.bin 0 .i64 (.c 128) (.bin 4 .i64 cv (.c 64))) (.c 0))
abbrev ag0 : SE := .bin 6 .i64 (.len (.s 4)) (.c 3)
abbrev azv : SE := .bin 3 .i64 cv (.c 4096)
abbrev a1d : GE := .cat (.one (.bin 0 .u8 (.bin 0 .i64 (.c 128) (.bin 4 .i64 a05 (.c 64))) (.c 0))) azh
abbrev a1q : GE := .cat (.cat (.s 4) (.cat (.one (.bin 0 .u8 (.bin 0 .i64 (.c 224) azv) (.c 0))) a1d)) up
abbrev a1t : SE := .bin 6 .i64 (.len (.s 4)) (.c 4)
noncomputable section
def rbI (k : Nat) : HO := .mk k (.gob (.rb (.v 14) (.v 15) (.s 16)))
def brl : List AV := (.gv (.sr (K.of 256) (.v 12) (.v 13) []) :: .gv (.sr (K.of 257) (.v 14) (.v 15) []) :: .top :: .top :: .top :: .gv (.str (.s 17) []) :: .top :: .gv (.str (.s 4) []) :: sy 11 :: tps 129)
def bpx : List HO := [roI 256, rbI 257]
def boz : List HO := [roI 256, rbI 257]
def brg : LR := (.x 0 (.gv (.sr (K.of 256) (.v 12) (.v 13) []) :: .gv (.sr (K.of 257) (.v 14) (.v 15) []) :: .top :: .top :: .top :: .gv (.str (.s 17) []) :: .top :: .gv (.str my []) :: tps 130))
def slo (m : SE) : LT := .mk 6 17 brl 258 bpx (adp ++ []) (some (mT, m)) brg 270 boz
def btj : LT := .mk 6 17 brl 258 bpx (adp ++ []) none brg 270 boz
end
section
variable {σ : Nat → List Int}
theorem blw (h : SAll σ adp) : ((σ 13).headD 0 = ((σ 10).length : Int) ∧ 1 ≤ (σ 13).headD 0 ∧ (σ 13).headD 0 ≤ 300) ∧ (σ 15).headD 0 = ((σ 16).length : Int) ∧ (σ 13).headD 0 ≤ (σ 15).headD 0 ∧ 0 ≤ (σ 12).headD 0 ∧ 0 ≤ (σ 11).headD 0 ∧ (σ 11).headD 0 ≤ (σ 13).headD 0 ∧ sv (σ 10) ((σ 11).headD 0) = 1 ∧ ((σ 4).length : Int) ≤ 9 * (σ 11).headD 0 + 1 := by
 simp only [sall_cons, sF, sE, evs, evS] at h
 exact ⟨⟨h.1, h.2.1, h.2.2.1⟩, h.2.2.2.1, h.2.2.2.2.1, h.2.2.2.2.2.1, h.2.2.2.2.2.2.1, h.2.2.2.2.2.2.2.1, h.2.2.2.2.2.2.2.2.1, h.2.2.2.2.2.2.2.2.2.1⟩
theorem ala (a : SE) : 0 ≤ a.eval σ → a.eval σ < 16777216 → (SE.len (.app 115 (.i a .nil))).eval σ ≤ 6 := fun h0 h1 => by
 have := (ag7 h0 h1).2.2.2
 show ((kr (a.eval σ)).length : Int) ≤ 6
 omega
end
theorem evT : (∀ σ : Nat → List Int, (GE.lit 2 23672).eval σ = [92, 120]) ∧ (∀ σ : Nat → List Int, (GE.lit 1 92).eval σ = [92]) ∧ (∀ σ : Nat → List Int, (GE.lit 1 34).eval σ = [34]) :=
 ⟨fun σ => by simp only [GE.eval]; decide +kernel, fun σ => by simp only [GE.eval]; decide +kernel, fun σ => by simp only [GE.eval]; decide +kernel⟩
theorem b3g (c b : Int) : ¬ b = 0 → vp c b = 92 :: 120 :: (kr c ++ [92]) := fun h => by unfold vp; rw [if_pos (.inl h)]; rfl
theorem b4a (c b : Int) : b = 0 → c = 34 → vp c b = 92 :: 120 :: (kr 34 ++ [92]) := fun _ h => by unfold vp; rw [h, if_pos (.inr (.inl rfl))]; rfl
theorem b3e (c b : Int) : b = 0 → c = 92 → vp c b = 92 :: 120 :: (kr 92 ++ [92]) := fun _ h => by unfold vp; rw [h, if_pos (.inr (.inr rfl))]; rfl
theorem b3m (c b : Int) : b = 0 → ¬ c = 34 → ¬ c = 92 → vp c b = ee c := fun h0 h1 h2 => by
 unfold vp
 rw [if_neg]
 rintro (h | h | h)
 ·exact h h0
 ·exact h1 h
 ·exact h2 h
theorem ad3 [Gv] : ∀ t ∈ [bvn], bn t := j5 bp0
def bqf [Gv] : Prop := (SAll Gv.σ [] → di 6 17 brl 258 bpx brg 270 boz)
theorem buh [Gv] (hh : ∀ t ∈ [slo mT], bh t) (hI : SAll Gv.σ adp) : bqf := by
 obtain ⟨⟨l1, l2, l3⟩, l4, l5, l6, i0, i1, i2, i3⟩ := blw hI
 have cs := aa2 (Gv.σ 10) ((Gv.σ 11).headD 0) i0
 have un := fun (h : ((Gv.σ 10).length : Int) ≤ (Gv.σ 11).headD 0) => bes (Gv.σ 10) (Gv.σ 16) ((Gv.σ 11).headD 0) h
 rcases a7l hI (.v 11) (.v 13) with ⟨hI, k1⟩ | ⟨hI, k1⟩
 ·have hI := cg hI ec (.v 11)
  have hI := cg hI cv (.c 0)
  have hI := cg hI (.c 1114111) cv
  rcases a7l hI cv (.c 55296) with ⟨hI, k5⟩ | ⟨hI, k5⟩
  ·rcases a7l hI cv (.c 128) with ⟨hI, k6⟩ | ⟨hI, k6⟩
   ·have hI := pc hI (.v 11) (.v 15)
    rcases ayj hI aki (.c 0) with ⟨hI, k8⟩ | ⟨hI, k8⟩
    ·rcases ayj hI cv (.c 34) with ⟨hI, k9⟩ | ⟨hI, k9⟩
     ·have t1 := awn (ala (σ := Gv.σ) (.c 34))
      have hI := cg hI ez a7i
      have hI := cg hI ez a83
      have hI := cg hI ez bch
      have hI := cg hI ec (.c 0)
      have hI := cg hI (.v 13) ec
      have hI := afm hI lb (.c 1)
      have hI := cg hI ld bch
      have hI := pc hI dv lg
      have hI := cg hI dv (.c 0)
      have u := fun (h : (Gv.σ 11).headD 0 < ((Gv.σ 10).length : Int)) => ij (Gv.σ 10) (Gv.σ 16) ((Gv.σ 11).headD 0) i0 h (by omega)
      exact zt [] (.g (.cat (.cat (.s 4) (.cat (.cat (.lit 2 23672) (.app 115 (.i (.c 34) .nil))) (.lit 1 92))) up) my .nil) (zh hI ad3) (zp hI hh) hI ad2
     ·rcases ayj hI cv (.c 92) with ⟨hI, k10⟩ | ⟨hI, k10⟩
      ·have t2 := awn (ala (σ := Gv.σ) (.c 92))
       have hI := cg hI ez aze
       have hI := cg hI ez a3w
       have hI := cg hI ez a3k
       have hI := cg hI ec (.c 0)
       have hI := cg hI (.v 13) ec
       have hI := afm hI lb (.c 1)
       have hI := cg hI ld a3k
       have hI := pc hI dv lg
       have hI := cg hI dv (.c 0)
       have u := fun (h : (Gv.σ 11).headD 0 < ((Gv.σ 10).length : Int)) => ij (Gv.σ 10) (Gv.σ 16) ((Gv.σ 11).headD 0) i0 h (by omega)
       exact zt [] (.g (.cat (.cat (.s 4) (.cat (.cat (.lit 2 23672) (.app 115 (.i (.c 92) .nil))) (.lit 1 92))) up) my .nil) (zh hI ad3) (zp hI hh) hI ad2
      ·have hI := cg hI ez azl
       have hI := cg hI ec (.c 0)
       have hI := cg hI (.v 13) ec
       have hI := afm hI lb (.c 1)
       have hI := cg hI ld azl
       have hI := pc hI dv lg
       have hI := cg hI dv (.c 0)
       have u := fun (h : (Gv.σ 11).headD 0 < ((Gv.σ 10).length : Int)) => ij (Gv.σ 10) (Gv.σ 16) ((Gv.σ 11).headD 0) i0 h (by omega)
       exact zt [] (.g (.cat (.cat (.s 4) (.one (.bin 0 .u8 cv (.c 0)))) up) my .nil) (zh hI ad3) (zp hI hh) hI ad2
    ·have hI := pc hI cv (.c 16777216)
     have t3 := awn (ala (σ := Gv.σ) cv)
     have hI := cg hI ez yg
     have hI := cg hI ez x7
     have hI := cg hI ez nw
     have hI := cg hI ec (.c 0)
     have hI := cg hI (.v 13) ec
     have hI := afm hI lb (.c 1)
     have hI := cg hI ld nw
     have hI := pc hI dv lg
     have hI := cg hI dv (.c 0)
     have u := fun (h : (Gv.σ 11).headD 0 < ((Gv.σ 10).length : Int)) => ij (Gv.σ 10) (Gv.σ 16) ((Gv.σ 11).headD 0) i0 h (by omega)
     exact zt [] (.g aa3 my .nil) (zh hI ad3) (zp hI hh) hI ad2
   ·rcases a7l hI cv (.c 2048) with ⟨hI, k7⟩ | ⟨hI, k7⟩
    ·have hI := pc hI (.v 11) (.v 15)
     rcases ayj hI aki (.c 0) with ⟨hI, k9⟩ | ⟨hI, k9⟩
     ·have hI := atw hI cv (.c 34)
      have hI := atw hI cv (.c 92)
      have hI := cg hI ez a19
      have hI := cg hI ec (.c 0)
      have hI := cg hI (.v 13) ec
      have hI := afm hI lb (.c 1)
      have hI := cg hI ld a19
      have hI := pc hI dv lg
      have hI := cg hI dv (.c 0)
      have u := fun (h : (Gv.σ 11).headD 0 < ((Gv.σ 10).length : Int)) => ij (Gv.σ 10) (Gv.σ 16) ((Gv.σ 11).headD 0) i0 h (by omega)
      exact zt [] (.g (.cat (.cat (.s 4) (.cat (.one (.bin 0 .u8 (.bin 0 .i64 (.c 192) a05) (.c 0))) azh)) up) my .nil) (zh hI ad3) (zp hI hh) hI ad2
     ·have hI := pc hI cv (.c 16777216)
      have t4 := awn (ala (σ := Gv.σ) cv)
      have hI := cg hI ez yg
      have hI := cg hI ez x7
      have hI := cg hI ez nw
      have hI := cg hI ec (.c 0)
      have hI := cg hI (.v 13) ec
      have hI := afm hI lb (.c 1)
      have hI := cg hI ld nw
      have hI := pc hI dv lg
      have hI := cg hI dv (.c 0)
      have u := fun (h : (Gv.σ 11).headD 0 < ((Gv.σ 10).length : Int)) => ij (Gv.σ 10) (Gv.σ 16) ((Gv.σ 11).headD 0) i0 h (by omega)
      exact zt [] (.g aa3 my .nil) (zh hI ad3) (zp hI hh) hI ad2
    ·have hI := pc hI cv (.c 65536)
     have hI := pc hI (.v 11) (.v 15)
     rcases ayj hI aki (.c 0) with ⟨hI, k10⟩ | ⟨hI, k10⟩
     ·have hI := atw hI cv (.c 34)
      have hI := atw hI cv (.c 92)
      have hI := cg hI ez ag0
      have hI := cg hI ec (.c 0)
      have hI := cg hI (.v 13) ec
      have hI := afm hI lb (.c 1)
      have hI := cg hI ld ag0
      have hI := pc hI dv lg
      have hI := cg hI dv (.c 0)
      have u := fun (h : (Gv.σ 11).headD 0 < ((Gv.σ 10).length : Int)) => ij (Gv.σ 10) (Gv.σ 16) ((Gv.σ 11).headD 0) i0 h (by omega)
      exact zt [] (.g a1q my .nil) (zh hI ad3) (zp hI hh) hI ad2
     ·have hI := pc hI cv (.c 16777216)
      have t5 := awn (ala (σ := Gv.σ) cv)
      have hI := cg hI ez yg
      have hI := cg hI ez x7
      have hI := cg hI ez nw
      have hI := cg hI ec (.c 0)
      have hI := cg hI (.v 13) ec
      have hI := afm hI lb (.c 1)
      have hI := cg hI ld nw
      have hI := pc hI dv lg
      have hI := cg hI dv (.c 0)
      have u := fun (h : (Gv.σ 11).headD 0 < ((Gv.σ 10).length : Int)) => ij (Gv.σ 10) (Gv.σ 16) ((Gv.σ 11).headD 0) i0 h (by omega)
      exact zt [] (.g aa3 my .nil) (zh hI ad3) (zp hI hh) hI ad2
  ·have hI := pc hI (.c 57343) cv
   have hI := cg hI cv (.c 128)
   have hI := cg hI cv (.c 2048)
   rcases a7l hI cv (.c 65536) with ⟨hI, k9⟩ | ⟨hI, k9⟩
   ·have hI := pc hI (.v 11) (.v 15)
    rcases ayj hI aki (.c 0) with ⟨hI, k11⟩ | ⟨hI, k11⟩
    ·have hI := atw hI cv (.c 34)
     have hI := atw hI cv (.c 92)
     have hI := cg hI ez ag0
     have hI := cg hI ec (.c 0)
     have hI := cg hI (.v 13) ec
     have hI := afm hI lb (.c 1)
     have hI := cg hI ld ag0
     have hI := pc hI dv lg
     have hI := cg hI dv (.c 0)
     have u := fun (h : (Gv.σ 11).headD 0 < ((Gv.σ 10).length : Int)) => ij (Gv.σ 10) (Gv.σ 16) ((Gv.σ 11).headD 0) i0 h (by omega)
     exact zt [] (.g a1q my .nil) (zh hI ad3) (zp hI hh) hI ad2
    ·have hI := pc hI cv (.c 16777216)
     have t6 := awn (ala (σ := Gv.σ) cv)
     have hI := cg hI ez yg
     have hI := cg hI ez x7
     have hI := cg hI ez nw
     have hI := cg hI ec (.c 0)
     have hI := cg hI (.v 13) ec
     have hI := afm hI lb (.c 1)
     have hI := cg hI ld nw
     have hI := pc hI dv lg
     have hI := cg hI dv (.c 0)
     have u := fun (h : (Gv.σ 11).headD 0 < ((Gv.σ 10).length : Int)) => ij (Gv.σ 10) (Gv.σ 16) ((Gv.σ 11).headD 0) i0 h (by omega)
     exact zt [] (.g aa3 my .nil) (zh hI ad3) (zp hI hh) hI ad2
   ·have hI := pc hI (.v 11) (.v 15)
    rcases ayj hI aki (.c 0) with ⟨hI, k11⟩ | ⟨hI, k11⟩
    ·have hI := atw hI cv (.c 34)
     have hI := atw hI cv (.c 92)
     have hI := cg hI ez a1t
     have hI := cg hI ec (.c 0)
     have hI := cg hI (.v 13) ec
     have hI := afm hI lb (.c 1)
     have hI := cg hI ld a1t
     have hI := pc hI dv lg
     have hI := cg hI dv (.c 0)
     have u := fun (h : (Gv.σ 11).headD 0 < ((Gv.σ 10).length : Int)) => ij (Gv.σ 10) (Gv.σ 16) ((Gv.σ 11).headD 0) i0 h (by omega)
     exact zt [] (.g (.cat (.cat (.s 4) (.cat (.one (.bin 0 .u8 (.bin 0 .i64 (.c 240) (.bin 3 .i64 cv (.c 262144))) (.c 0))) (.cat (.one (.bin 0 .u8 (.bin 0 .i64 (.c 128) (.bin 4 .i64 azv (.c 64))) (.c 0))) a1d))) up) my .nil) (zh hI ad3) (zp hI hh) hI ad2
    ·have hI := pc hI cv (.c 16777216)
     have t7 := awn (ala (σ := Gv.σ) cv)
     have hI := cg hI ez yg
     have hI := cg hI ez x7
     have hI := cg hI ez nw
     have hI := cg hI ec (.c 0)
     have hI := cg hI (.v 13) ec
     have hI := afm hI lb (.c 1)
     have hI := cg hI ld nw
     have hI := pc hI dv lg
     have hI := cg hI dv (.c 0)
     have u := fun (h : (Gv.σ 11).headD 0 < ((Gv.σ 10).length : Int)) => ij (Gv.σ 10) (Gv.σ 16) ((Gv.σ 11).headD 0) i0 h (by omega)
     exact zt [] (.g aa3 my .nil) (zh hI ad3) (zp hI hh) hI ad2
 ·have u := fun (h : (Gv.σ 11).headD 0 < ((Gv.σ 10).length : Int)) => ij (Gv.σ 10) (Gv.σ 16) ((Gv.σ 11).headD 0) i0 h (by omega)
  exact zt [] (.g (.s 4) my .nil) (zh hI ad3) (zp hI hh) hI ad2
theorem a0m : ∀ (B : Nat) (σ : Nat → List Int), SAll σ adp → (mT).eval σ < (B : Int) → @bqf ⟨σ⟩
 | 0, σ, hI, hb => by obtain ⟨⟨l1, _⟩, _, _, _, i0, i1, _⟩ := blw hI; simp only [mT, evs, wr] at hb; omega
 | B + 1, σ, hI, hb => by
   have ih : ∀ σ' : Nat → List Int, SAll σ' adp → 0 ≤ (mT).eval σ' ∧ (mT).eval σ' < (mT).eval σ → @bqf ⟨σ'⟩ := fun σ' h h' => a0m B σ' h (by omega)
   have hh : ∀ t ∈ [slo (mT)], @bh ⟨σ⟩ t := by
    intro t ht
    simp only [List.mem_cons, zH, or_false] at ht
    rcases ht with rfl
    ·exact fun σ' _ hA hb => (ih σ' (ak hA).1 hb) (ak hA).2
   exact @buh ⟨σ⟩ hh hI
theorem bnk [Gv] : bh btj := fun σ _ hA _ => (a0m (((mT).eval σ).toNat + 1) σ (ak hA).1 (by omega)) (ak hA).2
end Go.Ev
