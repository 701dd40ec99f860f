import Derived.Test.YtkfdioikigponaaGreatDoorRaJ
set_option maxRecDepth 100000
set_option linter.all false
namespace Go.Ev
abbrev a77 : SE := .bin 6 .i64 (.len (.s 2)) (.c 1)
noncomputable section
def lI : SA := .mk false (.app 11 (.g (.s 0) (.i (.v 1) (.g (.s 2) .nil)))) (.c 1) true
def lM : SE := .bin 6 .i64 (.len (.s 0)) (.bin 7 .i64 (.c (-1)) (.v 1))
def lP : SE := .bin 6 .i64 (.v 1) (.dw (.s 0) (.v 1))
def lM' : SE := .bin 6 .i64 (.len (.s 0)) (.bin 7 .i64 (.c (-1)) lP)
def lX : SE := .bin 0 .i64 (.dr (.s 0) (.v 1)) (.c 0)
def lA : List SA := [lI, .mk true (.v 1) (.len (.s 0)) true, .mk true (.c 400000) a77 false,
 .mk false (.app 11 (.g (.s 0) (.i lP (.g (.cat (.s 2) (.one lX)) .nil)))) (.c 1) true, .mk true lM' lM true, .mk true lM' (.c 0) false]
def lB : List SA := [lI, .mk true (.v 1) (.len (.s 0)) false]
def lUs : List AV := [.top, .top, .top, .top, .gv (.sl (K.of 257) 1 (.len (.s 2)) []), .top, .top, .top, .top, .top, .gv (.str (.s 0) []), .ptr (K.of 256) 0, .top, .top, .top, .top, .top, .top, .top, .top, .top]
def lLi : List HO := [.mk 256 (.gob (.iter (.s 0) (.v 1) [])), .mk 257 (.gob (.gh 3 [.i64] (.len (.s 2)) (.s 2)))]
def lD : GE := .app 6 (.g (.s 0) (.i (.v 1) .nil))
def lN : SE := .bin 6 .i64 (.len (.s 2)) (.len lD)
def lR : GE := .cat (.s 2) lD
def lUo : List AV := [.top, .top, .top, .top, .gv (.sl (K.of 258) 1 lN []), .top, .top, .top, .top, .top, .top, .ptr (K.of 256) 0, .top, .top, .top, .top, .top, .top, .top, .top, .top]
def lLo : List HO := [.mk 258 (.gob (.gh 3 [.i64] lN lR))]
def lLt : LT := .mk 49 11 lUs 258 lLi [lI] (some (lM, lM)) (.x 0 lUo) 259 lLo
def lD1 : GE := .app 6 (.g (.s 0) (.i lP .nil))
def lE1 : EqL := .g (.cat (.cat (.s 2) (.one lX)) lD1) lR (.i (.bin 6 .i64 a77 (.len lD1)) lN .nil)
def lE2 : EqL := .g (.s 2) lR (.i (.len (.s 2)) lN .nil)
end
section
variable {σ : Nat → List Int}
open Classical in
theorem l_inv {e : SE} {g h : GE} : (SA.mk false (.app 11 (.g g (.i e (.g h .nil)))) (.c 1) true).holds σ ↔ a7b (g.eval σ) (e.eval σ) (h.eval σ) := by
 show decide (bom 11 [g.eval σ, [e.eval σ], h.eval σ] = 1) = true ↔ _
 rw [decide_eq_true_iff]
 exact btu
theorem boq (h : a7b (σ 0) ((σ 1).headD 0) (σ 2)) (hp : (σ 1).headD 0 < ((σ 0).length : Int)) : ∃ (x : Int) (w : Nat), 0 ≤ x ∧ x ≤ 1114111 ∧ 1 ≤ w ∧ (σ 1).headD 0 + w ≤ ((σ 0).length : Int) ∧ (SE.dr (.s 0) (.v 1)).eval σ = x ∧ (SE.dw (.s 0) (.v 1)).eval σ = (w : Int) ∧ lX.eval σ = x ∧
  lP.eval σ = (σ 1).headD 0 + w ∧ av (σ 0) ((σ 1).headD 0).toNat = x :: av (σ 0) ((σ 1).headD 0 + w).toNat := by
 obtain ⟨h1, h2, h3, h4⟩ := h
 have hi : ((σ 1).headD 0).toNat < (σ 0).length := by omega
 obtain ⟨b1, b2, b3⟩ := np (σ 0) _ hi
 refine ⟨((Utf8.decode (aj (σ 0)) ((σ 1).headD 0).toNat).1 : Int), (Utf8.decode (aj (σ 0)) ((σ 1).headD 0).toNat).2, by omega, by omega, b1, by omega, rfl, rfl, ?_, rfl, ?_⟩
 ·show IntKind.i64.wrap ((SE.dr (.s 0) (.v 1)).eval σ + 0) = (SE.dr (.s 0) (.v 1)).eval σ
  have e : (SE.dr (.s 0) (.v 1)).eval σ = ((Utf8.decode (aj (σ 0)) ((σ 1).headD 0).toNat).1 : Int) := rfl
  rw [Int.add_zero, a78 (by omega)]
 ·rw [rr hi]
  congr 2
  omega
end
section
variable [Gv]
theorem bs1 (hL : bh lLt) (h : a7b (Gv.σ 0) ((Gv.σ 1).headD 0) (Gv.σ 2)) : di 49 11 lUs 258 lLi (.x 0 lUo) 259 lLo := by
 have hl : ∀ t ∈ [lLt], bh t := by intro t ht; rw [List.mem_singleton] at ht; subst ht; exact hL
 by_cases hp : (Gv.σ 1).headD 0 < ((Gv.σ 0).length : Int)
 ·obtain ⟨x, w, x1, x2, w1, w2, hd, hw, hX, hP, hdec⟩ := boq h hp
  have hinv := h
  obtain ⟨h1, h2, h3, h4⟩ := h
  refine yj (n := 2000) (A := lA) (T := [(260, 258)]) (E := lE1) ac (bbh [lLt] hl) ?_ ⟨?_, ?_, trivial⟩ rfl rfl (by kernel_rfl)
  ·unfold lA
   simp only [sall_cons]
   refine ⟨l_inv.2 hinv, anu hp, aey ?_, l_inv.2 ?_, anu ?_, aey ?_, SAll.nil⟩
   ·simp only [SE.eval, rn, GE.eval]; omega
   ·rw [hP]; simp only [GE.eval]; exact ⟨by omega, by omega, by rw [zP, List.length_singleton]; omega, h4⟩
   ·simp only [lM, lM', SE.eval, rn, GE.eval] at hP ⊢; rw [hP]; omega
   ·simp only [lM', SE.eval, rn, GE.eval] at hP ⊢; rw [hP]; omega
  ·show (Gv.σ 2 ++ [lX.eval Gv.σ]) ++ av (Gv.σ 0) (lP.eval Gv.σ).toNat = Gv.σ 2 ++ av (Gv.σ 0) ((Gv.σ 1).headD 0).toNat
   rw [hX, hP, hdec, List.append_assoc]; rfl
  ·show ((Gv.σ 2).length : Int) + 1 + ((av (Gv.σ 0) (lP.eval Gv.σ).toNat).length : Int) = ((Gv.σ 2).length : Int) + ((av (Gv.σ 0) ((Gv.σ 1).headD 0).toNat).length : Int)
   rw [hP, hdec, zO]; omega
 ·have hinv := h
  obtain ⟨h1, h2, h3, h4⟩ := h
  have e : av (Gv.σ 0) ((Gv.σ 1).headD 0).toNat = [] := axv (by omega)
  refine yj (n := 2000) (A := lB) (T := [(257, 258)]) (E := lE2) ac (bbh [lLt] hl) ?_ ⟨?_, ?_, trivial⟩ rfl rfl (by kernel_rfl)
  ·unfold lB
   simp only [sall_cons]
   exact ⟨l_inv.2 hinv, aey hp, SAll.nil⟩
  ·show Gv.σ 2 = Gv.σ 2 ++ av (Gv.σ 0) ((Gv.σ 1).headD 0).toNat
   rw [e, List.append_nil]
  ·show ((Gv.σ 2).length : Int) = ((Gv.σ 2).length : Int) + ((av (Gv.σ 0) ((Gv.σ 1).headD 0).toNat).length : Int)
   rw [e]; rfl
end
theorem blf : ∀ (B : Nat) (σ : Nat → List Int), a7b (σ 0) ((σ 1).headD 0) (σ 2) → lM.eval σ < (B : Int) → @di ⟨σ⟩ 49 11 lUs 258 lLi (.x 0 lUo) 259 lLo
 | 0, σ, h, hb => by
   obtain ⟨h1, h2, h3, h4⟩ := h
   simp only [lM, SE.eval, rn, GE.eval] at hb
   omega
 | B + 1, σ, h, hb => by
   refine @bs1 ⟨σ⟩ ?_ h
   intro σ' _ hA hbd
   refine blf B σ' (l_inv.1 (hA _ (List.mem_singleton.2 rfl))) ?_
   have hbd : 0 ≤ lM.eval σ' ∧ lM.eval σ' < lM.eval σ := hbd
   omega
noncomputable section
def b3w : LT := .mk 49 11 lUs 258 lLi [lI] none (.x 0 lUo) 259 lLo
end
theorem bvq [Gv] : bh b3w := fun σ _ hA _ => blf ((lM.eval σ).toNat + 1) σ (l_inv.1 (hA _ (List.mem_singleton.2 rfl))) (by omega)
end Go.Ev
set_option maxRecDepth 100000
set_option linter.all false
namespace Go.Ev
abbrev a76 : GE := .app 6 (.g (.s 0) (.i (.v 1) .nil))
abbrev baz : SE := .bin 6 .i64 (.len (.s 2)) (.len a76)
abbrev aix : List SA := [.mk true (.c 3900) (.len (.s 3)) false]
abbrev apn : SE := .app 50 (.g (.s 3) .nil)
abbrev ba2 : List SA := [.mk false apn (.c 1) true, .mk true (.len (.s 3)) (.c 1) true]
abbrev ava : GE := .app 6 (.g (.s 3) (.i (.c 0) .nil))
abbrev avj : SE := .len ava
abbrev bc6 : List SA := [.mk false apn (.c 1) true, .mk true (.len (.s 3)) (.c 1) false]
abbrev a7k : List SA := [.mk false apn (.c 1) false]
abbrev a4i : SE := .bin 0 .i64 (.dr (.s 3) (.c 0)) (.c 0)
abbrev a31 : GE := .one a4i
abbrev a3l : GE := .app 6 (.g (.s 3) (.i (.dw (.s 3) (.c 0)) .nil))
noncomputable section
def b4f : LT := .mk 49 11 [.top, .top, .top, .top, .gv (.sl (K.of 257) 1 (.len (.s 2)) []), .top, .top, .top, .top, .top, .gv (.str (.s 0) []), .ptr (K.of 256) 0, .top, .top, .top, .top, .top, .top, .top, .top, .top] 258 [.mk 256 (.gob (.iter (.s 0) (.v 1) [])), .mk 257 (.gob (.gh 3 [.i64] (.len (.s 2)) (.s 2)))]
 [.mk false (.app 11 (.g (.s 0) (.i (.v 1) (.g (.s 2) .nil)))) (.c 1) true] none (.x 0 [.top, .top, .top, .top, .gv (.sl (K.of 258) 1 baz []), .top, .top, .top, .top, .top, .top, .ptr (K.of 256) 0, .top, .top, .top, .top, .top, .top, .top, .top, .top]) 259
 [.mk 258 (.gob (.gh 3 [.i64] baz (.cat (.s 2) a76)))]
def a4o : List AV := [.gv (.str (.s 3) [])]
def a5c : List HO := []
def bkq : List HO := []
def bkg : TR := .ret (.tuple [.nilSlice, .int .i64 0])
def bmh : TM := .mk 49 a4o 256 a5c (aix ++ ba2) none bkg 257 bkq
def bmn : List HO := [.mk 256 (.gob (.gh 3 [.i64] avj ava))]
def bjx : TR := .ret (.tuple [.gv (.sl (K.of 256) 1 avj []), .int .i64 0])
def bl6 : TM := .mk 49 a4o 256 a5c (aix ++ bc6) none bjx 257 bmn
def bl5 : List HO := []
def bk4 : TR := .ret (.tuple [.nilSlice, .int .i64 5])
def bka : TM := .mk 49 a4o 256 a5c (aix ++ a7k) none bk4 257 bl5
end
theorem a94 [Gv] : bh b4f := bvq
theorem bcq (s : List Int) (h : 0 < (s.length : Int)) : av s 0 = drJ s 0 :: av s (dwJ s 0).toNat := by
 have e := rr (s := s) (p := 0) (by omega)
 rw [Nat.zero_add] at e
 exact e
theorem f11 {σ : Nat → List Int} (x : SE) (h0 : 0 < ((σ 3).length : Int)) (h1 : ((σ 3).length : Int) ≤ 3900) : (SE.app 11 (.g (.s 3) (.i (.dw (.s 3) (.c 0)) (.g (.one x) .nil)))).eval σ = 1 := by
 have h := (bpy (σ := σ) (.s 3) (.c 0)) (Int.le_refl _) h0
 refine of_decide_eq_true ((l_inv (g := .s 3) (e := .dw (.s 3) (.c 0)) (h := .one x)).2 ?_)
 have h2 : (SE.c 0).eval σ + (SE.dw (.s 3) (.c 0)).eval σ ≤ ((σ 3).length : Int) := h.2.1
 have h3 : (SE.c 0).eval σ = 0 := rfl
 have h4 := h.1
 exact ⟨by omega, by show _ ≤ ((σ 3).length : Int); omega, by show ((1 : Nat) : Int) ≤ _; omega, by show (σ 3).length ≤ 4000; omega⟩
theorem bri {σ : Nat → List Int} (h : SAll σ aix) : ((σ 3).length : Int) ≤ 3900 := by
 simp only [sall_cons, sF, evs] at h
 exact h.1
theorem vl2 [Gv] : ∀ t ∈ [bpl, bn1], bn t := by
 intro t ht
 simp only [List.mem_cons, zH, or_false] at ht
 rcases ht with rfl | rfl
 ·exact a7f
 ·exact a91
def b4o [Gv] : Prop := (SAll Gv.σ ba2 → cz 49 a4o 256 a5c bkg 257 bkq) ∧ (SAll Gv.σ bc6 → cz 49 a4o 256 a5c bjx 257 bmn) ∧ (SAll Gv.σ a7k → cz 49 a4o 256 a5c bk4 257 bl5)
theorem a9g [Gv] (hI : SAll Gv.σ aix) : b4o := by
 have h15 := bri hI
 have hI := zF1 hI (.c 20000) (.len (.s 3))
 have t1 := zf1 (bm3 (σ := Gv.σ) (.s 3))
 rcases zq1 hI apn (.c 1) with ⟨hI, k2⟩ | ⟨hI, k2⟩
 ·rcases zl1 hI (.c 0) (.len (.s 3)) with ⟨hI, k3⟩ | ⟨hI, k3⟩
  ·have t2 := zf1 (bpy (σ := Gv.σ) (.s 3) (.c 0))
   have t3 := zf1 (f11 (σ := Gv.σ) a4i (by omega) (by omega))
   have hI := zE1 hI (.app 11 (.g (.s 3) (.i (.dw (.s 3) (.c 0)) (.g a31 .nil)))) (.c 1)
   have u := fun h => bcq (Gv.σ 3) h
   exact ⟨a6s,
    zm [(259, 256)] (.i (.bin 6 .i64 (.c 1) (.len a3l)) avj (.g (.cat a31 a3l) ava .nil)) (zh hI vl2) (zp hI (j5 a94)) hI b56,
    a6s⟩
  ·have u := fun h => bcq (Gv.σ 3) h
   exact ⟨zm0 [] (zh hI vl2) (zp hI (j5 a94)) hI,
    a6s,
    a6s⟩
 ·have u := fun h => bcq (Gv.σ 3) h
  exact ⟨a6s,
   a6s,
   zm0 [] (zh hI vl2) (zp hI (j5 a94)) hI⟩
theorem bd4 [Gv] : bn bmh := fun σ _ hA _ => (@a9g ⟨σ⟩  (ak hA).1).1 (ak hA).2
theorem bdc [Gv] : bn bl6 := fun σ _ hA _ => (@a9g ⟨σ⟩  (ak hA).1).2.1 (ak hA).2
theorem bh5 [Gv] : bn bka := fun σ _ hA _ => (@a9g ⟨σ⟩  (ak hA).1).2.2 (ak hA).2
end Go.Ev
set_option maxRecDepth 100000
set_option linter.all false
namespace Go.Ev
section
variable [Gv]
end
end Go.Ev
set_option maxRecDepth 100000
set_option linter.all false
namespace Go.Ev
abbrev bo4 : GE := .cat (.one (.c 0)) (.one (.c 0))
abbrev b4v : GE := .cat (.one (.c 3200)) bo4
noncomputable section
def g0E : GE := .app 109 .nil
end
end Go.Ev
