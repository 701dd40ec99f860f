import Derived.Test.YtkfdioikigponaaGreatDoorRbH
set_option maxRecDepth 100000
set_option linter.all false
namespace Go.Ev
abbrev aqp : GE := .app 6 (.g (.s 3) (.i (.c 0) .nil))
abbrev ark : SE := .len aqp
abbrev ajy : GE := .cat (.s 4) (.app 110 (.g aqp (.i (.v 11) (.i (.v 2) .nil))))
abbrev ai2 : List SA := [.mk false (.app 50 (.g (.s 3) .nil)) (.c 1) true, .mk true (.len (.s 3)) (.c 1) false, .mk true (.c 3900) (.len (.s 3)) false, .mk true (.v 2) (.c 0) false, .mk true ark (.v 2) false, .mk true (.v 11) (.c 0) false, .mk true (.v 2) (.v 11) false, .mk true (.bin 7 .i64 (.c 4) (.v 11)) (.len (.s 4)) false]
abbrev a48 : GE := .app 110 (.g aqp (.i (.c 0) (.i (.v 2) .nil)))
abbrev a63 : List SA := [.mk false (.app 50 (.g (.s 3) .nil)) (.c 1) true, .mk true (.len (.s 3)) (.c 1) false, .mk true (.c 3900) (.len (.s 3)) false, .mk true (.v 2) (.c 0) false, .mk true ark (.v 2) false]
abbrev abz : SE := .rd aqp (.v 11)
abbrev ayp : SE := .c 9223372036854775807
abbrev bns : SE := .bin 6 .i64 (.len (.s 4)) (.c 1)
abbrev qj : SE := .bin 0 .i64 (.v 11) (.c 1)
abbrev amw : SE := .bin 7 .i64 (.c 4) qj
abbrev ww : SE := .bin 6 .i64 (.v 2) (.bin 7 .i64 (.c (-1)) qj)
abbrev al7 : SE := .bin 6 .i64 (.v 2) (.bin 7 .i64 (.c (-1)) (.v 11))
abbrev amv : GE := .app 110 (.g aqp (.i qj (.i (.v 2) .nil)))
abbrev a9t : SE := .bin 6 .i64 (.len (.s 4)) (.c 2)
abbrev bbp : SE := .bin 3 .i64 abz (.c 64)
abbrev a8w : GE := .one (.bin 0 .u8 (.bin 0 .i64 (.c 128) (.bin 4 .i64 abz (.c 64))) (.c 0))
abbrev a81 : SE := .bin 6 .i64 (.len (.s 4)) (.c 3)
abbrev bce : SE := .bin 3 .i64 abz (.c 4096)
abbrev a9s : GE := .cat (.one (.bin 0 .u8 (.bin 0 .i64 (.c 128) (.bin 4 .i64 bbp (.c 64))) (.c 0))) a8w
abbrev baa : SE := .bin 6 .i64 (.len (.s 4)) (.c 4)
noncomputable section
def ayh : SE := .bin 6 .i64 (.v 2) (.bin 7 .i64 (.c (-1)) (.v 11))
def cuU : List AV := (.gv (.str (.s 3) []) :: .top :: sy 2 :: tps 5 ++ (.gv (.sl (K.of 256) 1 ark []) :: .top :: .gv (.str (.s 4) []) :: sy 11 :: tps 36))
def cuI : List HO := [ro3 256 ark (.app 6 (.g (.s 3) (.i (.c 0) .nil)))]
def cuO : List HO := []
def cuR : LR := (.x 0 (tps 10 ++ (.gv (.str ajy []) :: tps 37)))
def cu (m : SE) : LT := .mk 14 17 cuU 257 cuI (ai2 ++ []) (some (ayh, m)) cuR 257 cuO
def cuF : LT := .mk 14 17 cuU 257 cuI (ai2 ++ []) none cuR 257 cuO
def b92 : List AV := [.gv (.str (.s 3) []), .int .i64 0, .sym .i64 (.v 2) []]
def b5o : List HO := []
def b6g : List HO := []
def b5i : TR := .ret (.tuple [.gv (.str a48 []), .int .i64 0])
def b8d : TM := .mk 14 b92 256 b5o (a63 ++ []) none b5i 258 b6g
end
section
variable {σ : Nat → List Int}
theorem b1o (h : SAll σ a63) : b9 (σ 3) = 1 ∧ 1 ≤ ((σ 3).length : Int) ∧ ((σ 3).length : Int) ≤ 3900 ∧ 0 ≤ (σ 2).headD 0 ∧ (σ 2).headD 0 ≤ ((ai (σ 3) 0).length : Int) := by
 simp only [sall_cons, sF, sE, evs, evx] at h
 exact ⟨h.1, h.2.1, h.2.2.1, h.2.2.2.1, h.2.2.2.2.1⟩
theorem bn3 (h : SAll σ ai2) : (b9 (σ 3) = 1 ∧ 1 ≤ ((σ 3).length : Int) ∧ ((σ 3).length : Int) ≤ 3900 ∧ 0 ≤ (σ 2).headD 0 ∧ (σ 2).headD 0 ≤ ((ai (σ 3) 0).length : Int)) ∧ 0 ≤ (σ 11).headD 0 ∧ (σ 11).headD 0 ≤ (σ 2).headD 0 ∧ ((σ 4).length : Int) ≤ 4 * (σ 11).headD 0 := by
 simp only [sall_cons, sF, sE, evs, evx] at h
 exact ⟨⟨h.1, h.2.1, h.2.2.1, h.2.2.2.1, h.2.2.2.2.1⟩, h.2.2.2.2.2.1, h.2.2.2.2.2.2.1, h.2.2.2.2.2.2.2.1⟩
end
theorem ev3 : (∀ (σ : Nat → List Int) (k : IntKind) (a b : SE), (SE.bin 3 k a b).eval σ = k.wrap ((a.eval σ).tdiv (b.eval σ))) ∧ (∀ x : Int, 0 ≤ x → x.tdiv 64 = x / 64) ∧ (∀ x : Int, 0 ≤ x → x.tdiv 4096 = x / 4096) ∧ (∀ x : Int, 0 ≤ x → x.tdiv 262144 = x / 262144) ∧ (∀ x : Int, 0 ≤ x → x.tmod 64 = x % 64) ∧
  (∀ σ : Nat → List Int, (GE.lit 1 32).eval σ = [32]) :=
 ⟨fun _ _ _ _ => rfl, fun x h => Int.tdiv_eq_ediv_of_nonneg h, fun x h => Int.tdiv_eq_ediv_of_nonneg h, fun x h => Int.tdiv_eq_ediv_of_nonneg h, fun x h => Int.tmod_eq_emod_of_nonneg h, fun σ => by simp only [GE.eval]; decide +kernel⟩
def cuG [Gv] : Prop := (SAll Gv.σ [] → b7 14 17 cuU 257 cuI cuR 257 cuO)
theorem ccv [Gv] (hh : ∀ t ∈ [cu ayh], au t) (hI : SAll Gv.σ ai2) : cuG := by
 obtain ⟨⟨hv, l1, l2, l3, l4⟩, i0, i1, i2⟩ := bn3 hI
 have vr := bjq hv ((Gv.σ 11).headD 0).toNat
 have hdl := f8 (Gv.σ 3)
 have un := fun (h : (Gv.σ 2).headD 0 ≤ (Gv.σ 11).headD 0) => bpw (ai (Gv.σ 3) 0) ((Gv.σ 11).headD 0) ((Gv.σ 2).headD 0) h
 rcases bru hI (.v 11) (.v 2) with ⟨hI, k1⟩ | ⟨hI, k1⟩
 ·have hI := bm3 hI (.v 11) ark
  rcases bru hI abz (.c 128) with ⟨hI, k3⟩ | ⟨hI, k3⟩
  ·have hI := xy hI ayp bns
   have hI := xy hI qj (.c 0)
   have hI := xy hI (.v 2) qj
   have hI := xy hI amw bns
   have hI := bm3 hI ww al7
   have hI := xy hI ww (.c 0)
   have u := fun (h : (Gv.σ 11).headD 0 < (Gv.σ 2).headD 0) => ab1 (ai (Gv.σ 3) 0) ((Gv.σ 11).headD 0) ((Gv.σ 2).headD 0) (by omega) h (by omega)
   exact zt [] (.g (.cat (.cat (.s 4) (.one (.bin 0 .u8 abz (.c 0)))) amv) ajy .nil) aa (zp hI hh) hI blj
  ·rcases bru hI abz (.c 2048) with ⟨hI, k4⟩ | ⟨hI, k4⟩
   ·have hI := xy hI ayp a9t
    have hI := xy hI qj (.c 0)
    have hI := xy hI (.v 2) qj
    have hI := xy hI amw a9t
    have hI := bm3 hI ww al7
    have hI := xy hI ww (.c 0)
    have u := fun (h : (Gv.σ 11).headD 0 < (Gv.σ 2).headD 0) => ab1 (ai (Gv.σ 3) 0) ((Gv.σ 11).headD 0) ((Gv.σ 2).headD 0) (by omega) h (by omega)
    exact zt [] (.g (.cat (.cat (.s 4) (.cat (.one (.bin 0 .u8 (.bin 0 .i64 (.c 192) bbp) (.c 0))) a8w)) amv) ajy .nil) aa (zp hI hh) hI blj
   ·rcases bru hI abz (.c 65536) with ⟨hI, k5⟩ | ⟨hI, k5⟩
    ·have hI := xy hI ayp a81
     have hI := xy hI qj (.c 0)
     have hI := xy hI (.v 2) qj
     have hI := xy hI amw a81
     have hI := bm3 hI ww al7
     have hI := xy hI ww (.c 0)
     have u := fun (h : (Gv.σ 11).headD 0 < (Gv.σ 2).headD 0) => ab1 (ai (Gv.σ 3) 0) ((Gv.σ 11).headD 0) ((Gv.σ 2).headD 0) (by omega) h (by omega)
     exact zt [] (.g (.cat (.cat (.s 4) (.cat (.one (.bin 0 .u8 (.bin 0 .i64 (.c 224) bce) (.c 0))) a9s)) amv) ajy .nil) aa (zp hI hh) hI blj
    ·have hI := xy hI ayp baa
     have hI := xy hI qj (.c 0)
     have hI := xy hI (.v 2) qj
     have hI := xy hI amw baa
     have hI := bm3 hI ww al7
     have hI := xy hI ww (.c 0)
     have u := fun (h : (Gv.σ 11).headD 0 < (Gv.σ 2).headD 0) => ab1 (ai (Gv.σ 3) 0) ((Gv.σ 11).headD 0) ((Gv.σ 2).headD 0) (by omega) h (by omega)
     exact zt [] (.g (.cat (.cat (.s 4) (.cat (.one (.bin 0 .u8 (.bin 0 .i64 (.c 240) (.bin 3 .i64 abz (.c 262144))) (.c 0))) (.cat (.one (.bin 0 .u8 (.bin 0 .i64 (.c 128) (.bin 4 .i64 bce (.c 64))) (.c 0))) a9s))) amv) ajy .nil) aa (zp hI hh) hI blj
 ·have u := fun (h : (Gv.σ 11).headD 0 < (Gv.σ 2).headD 0) => ab1 (ai (Gv.σ 3) 0) ((Gv.σ 11).headD 0) ((Gv.σ 2).headD 0) (by omega) h (by omega)
  exact zt [] (.g (.s 4) ajy .nil) aa (zp hI hh) hI blj
theorem bh5 : ∀ (B : Nat) (σ : Nat → List Int), SAll σ ai2 → (ayh).eval σ < (B : Int) → @cuG ⟨σ⟩
 | 0, σ, hI, hb => by obtain ⟨_, i0, i1, i2⟩ := bn3 hI; simp only [ayh, evs, wr] at hb; omega
 | B + 1, σ, hI, hb => by
   have ih : ∀ σ' : Nat → List Int, SAll σ' ai2 → 0 ≤ (ayh).eval σ' ∧ (ayh).eval σ' < (ayh).eval σ → @cuG ⟨σ'⟩ := fun σ' h h' => bh5 B σ' h (by omega)
   have hh : ∀ t ∈ [cu (ayh)], @au ⟨σ⟩ t := by
    intro t ht
    simp only [List.mem_cons, zH, or_false] at ht
    rcases ht with rfl
    ·exact fun σ' _ hA hb => (ih σ' (aj hA).1 hb) (aj hA).2
   exact @ccv ⟨σ⟩ hh hI
theorem b9h [Gv] : au cuF := fun σ _ hA _ => (bh5 (((ayh).eval σ).toNat + 1) σ (aj hA).1 (by omega)) (aj hA).2
theorem hcu [Gv] : ∀ t ∈ [cuF], au t := cg b9h
def ca9 [Gv] : Prop := (SAll Gv.σ [] → ba 14 b92 256 b5o b5i 258 b6g)
theorem b6b [Gv] (hI : SAll Gv.σ a63) : ca9 := by
 obtain ⟨hv, l1, l2, l3, l4⟩ := b1o hI
 have hdl := f8 (Gv.σ 3)
 have hI := xy hI (.c 4000) (.len (.s 3))
 have u := hdl
 exact zm [] (.g (.cat (.lit 0 0) a48) a48 .nil) (zh hI bo4) (zp hI hcu) hI cb4
theorem b2a [Gv] : am b8d := fun σ _ hA _ => (@b6b ⟨σ⟩  (aj hA).1) (aj hA).2
end Go.Ev
