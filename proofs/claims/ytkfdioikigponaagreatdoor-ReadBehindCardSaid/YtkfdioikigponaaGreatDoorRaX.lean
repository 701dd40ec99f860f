import Derived.Test.YtkfdioikigponaaGreatDoorRaR
set_option maxRecDepth 100000
set_option linter.all false
namespace Go.Ev
abbrev bh8 : SE := .bin 6 .i64 (.len (.s 2)) (.c 1)
noncomputable section
def lI : SA := .mk false (.app 11 (.g (.s 0) (.i (.v 1) (.g (.s 2) .nil)))) (.c 1) true
def lM : SE := .bin 6 .i64 (.len (.s 0)) (.bin 7 .i64 (.c (-1)) (.v 1))
def lP : SE := .bin 6 .i64 (.v 1) (.dw (.s 0) (.v 1))
def lM' : SE := .bin 6 .i64 (.len (.s 0)) (.bin 7 .i64 (.c (-1)) lP)
def lX : SE := .bin 0 .i64 (.dr (.s 0) (.v 1)) (.c 0)
def lA : List SA := [lI, .mk true (.v 1) (.len (.s 0)) true, .mk true (.c 60000) bh8 false,
 .mk false (.app 11 (.g (.s 0) (.i lP (.g (.cat (.s 2) (.one lX)) .nil)))) (.c 1) true, .mk true lM' lM true, .mk true lM' (.c 0) false]
def lB : List SA := [lI, .mk true (.v 1) (.len (.s 0)) false]
def lUs : List AV := [.top, .top, .top, .top, .gv (.sl (K.of 257) 1 (.len (.s 2)) []), .top, .top, .top, .top, .top, .gv (.str (.s 0) []), .ptr (K.of 256) 0, .top, .top, .top, .top, .top, .top, .top, .top, .top]
def lLi : List HO := [.mk 256 (.gob (.iter (.s 0) (.v 1) [])), .mk 257 (.gob (.gh 3 [.i64] (.len (.s 2)) (.s 2)))]
def lD : GE := .app 6 (.g (.s 0) (.i (.v 1) .nil))
def lN : SE := .bin 6 .i64 (.len (.s 2)) (.len lD)
def lR : GE := .cat (.s 2) lD
def lUo : List AV := [.top, .top, .top, .top, .gv (.sl (K.of 258) 1 lN []), .top, .top, .top, .top, .top, .top, .ptr (K.of 256) 0, .top, .top, .top, .top, .top, .top, .top, .top, .top]
def lLo : List HO := [.mk 258 (.gob (.gh 3 [.i64] lN lR))]
def lLt : LT := .mk 49 11 lUs 258 lLi [lI] (some (lM, lM)) (.x 0 lUo) 259 lLo
def lD1 : GE := .app 6 (.g (.s 0) (.i lP .nil))
def lE1 : EqL := .g (.cat (.cat (.s 2) (.one lX)) lD1) lR (.i (.bin 6 .i64 bh8 (.len lD1)) lN .nil)
def lE2 : EqL := .g (.s 2) lR (.i (.len (.s 2)) lN .nil)
end
section
variable {σ : Nat → List Int}
open Classical in
theorem l_inv {e : SE} {g h : GE} : (SA.mk false (.app 11 (.g g (.i e (.g h .nil)))) (.c 1) true).holds σ ↔ bmb (g.eval σ) (e.eval σ) (h.eval σ) := by
 show decide (bqi 11 [g.eval σ, [e.eval σ], h.eval σ] = 1) = true ↔ _
 rw [decide_eq_true_iff]
 exact b2y
theorem b2j (h : bmb (σ 0) ((σ 1).headD 0) (σ 2)) (hp : (σ 1).headD 0 < ((σ 0).length : Int)) : ∃ (x : Int) (w : Nat), 0 ≤ x ∧ x ≤ 1114111 ∧ 1 ≤ w ∧ (σ 1).headD 0 + w ≤ ((σ 0).length : Int) ∧ (SE.dr (.s 0) (.v 1)).eval σ = x ∧ (SE.dw (.s 0) (.v 1)).eval σ = (w : Int) ∧ lX.eval σ = x ∧
  lP.eval σ = (σ 1).headD 0 + w ∧ ai (σ 0) ((σ 1).headD 0).toNat = x :: ai (σ 0) ((σ 1).headD 0 + w).toNat := by
 obtain ⟨h1, h2, h3, h4⟩ := h
 have hi : ((σ 1).headD 0).toNat < (σ 0).length := by omega
 obtain ⟨b1, b2, b3⟩ := rn (σ 0) _ hi
 refine ⟨((Utf8.decode (ao (σ 0)) ((σ 1).headD 0).toNat).1 : Int), (Utf8.decode (ao (σ 0)) ((σ 1).headD 0).toNat).2, by omega, by omega, b1, by omega, rfl, rfl, ?_, rfl, ?_⟩
 ·show IntKind.i64.wrap ((SE.dr (.s 0) (.v 1)).eval σ + 0) = (SE.dr (.s 0) (.v 1)).eval σ
  have e : (SE.dr (.s 0) (.v 1)).eval σ = ((Utf8.decode (ao (σ 0)) ((σ 1).headD 0).toNat).1 : Int) := rfl
  rw [Int.add_zero, bh7 (by omega)]
 ·rw [wj hi]
  congr 2
  omega
end
section
variable [Gv]
theorem b5q (hL : au lLt) (h : bmb (Gv.σ 0) ((Gv.σ 1).headD 0) (Gv.σ 2)) : b7 49 11 lUs 258 lLi (.x 0 lUo) 259 lLo := by
 have hl : ∀ t ∈ [lLt], au t := by intro t ht; rw [List.mem_singleton] at ht; subst ht; exact hL
 by_cases hp : (Gv.σ 1).headD 0 < ((Gv.σ 0).length : Int)
 ·obtain ⟨x, w, x1, x2, w1, w2, hd, hw, hX, hP, hdec⟩ := b2j h hp
  have hinv := h
  obtain ⟨h1, h2, h3, h4⟩ := h
  refine rq (n := 2000) (A := lA) (T := [(260, 258)]) (E := lE1) aa (au9 [lLt] hl) ?_ ⟨?_, ?_, trivial⟩ rfl rfl (by kernel_rfl)
  ·unfold lA
   simp only [sall_cons]
   refine ⟨l_inv.2 hinv, ax5 hp, akm ?_, l_inv.2 ?_, ax5 ?_, akm ?_, SAll.nil⟩
   ·simp only [SE.eval, yw, GE.eval]; omega
   ·rw [hP]; simp only [GE.eval]; exact ⟨by omega, by omega, by rw [zP, List.length_singleton]; omega, h4⟩
   ·simp only [lM, lM', SE.eval, yw, GE.eval] at hP ⊢; rw [hP]; omega
   ·simp only [lM', SE.eval, yw, GE.eval] at hP ⊢; rw [hP]; omega
  ·show (Gv.σ 2 ++ [lX.eval Gv.σ]) ++ ai (Gv.σ 0) (lP.eval Gv.σ).toNat = Gv.σ 2 ++ ai (Gv.σ 0) ((Gv.σ 1).headD 0).toNat
   rw [hX, hP, hdec, List.append_assoc]; rfl
  ·show ((Gv.σ 2).length : Int) + 1 + ((ai (Gv.σ 0) (lP.eval Gv.σ).toNat).length : Int) = ((Gv.σ 2).length : Int) + ((ai (Gv.σ 0) ((Gv.σ 1).headD 0).toNat).length : Int)
   rw [hP, hdec, zO]; omega
 ·have hinv := h
  obtain ⟨h1, h2, h3, h4⟩ := h
  have e : ai (Gv.σ 0) ((Gv.σ 1).headD 0).toNat = [] := a5q (by omega)
  refine rq (n := 2000) (A := lB) (T := [(257, 258)]) (E := lE2) aa (au9 [lLt] hl) ?_ ⟨?_, ?_, trivial⟩ rfl rfl (by kernel_rfl)
  ·unfold lB
   simp only [sall_cons]
   exact ⟨l_inv.2 hinv, akm hp, SAll.nil⟩
  ·show Gv.σ 2 = Gv.σ 2 ++ ai (Gv.σ 0) ((Gv.σ 1).headD 0).toNat
   rw [e, List.append_nil]
  ·show ((Gv.σ 2).length : Int) = ((Gv.σ 2).length : Int) + ((ai (Gv.σ 0) ((Gv.σ 1).headD 0).toNat).length : Int)
   rw [e]; rfl
end
theorem bxq : ∀ (B : Nat) (σ : Nat → List Int), bmb (σ 0) ((σ 1).headD 0) (σ 2) → lM.eval σ < (B : Int) → @b7 ⟨σ⟩ 49 11 lUs 258 lLi (.x 0 lUo) 259 lLo
 | 0, σ, h, hb => by
   obtain ⟨h1, h2, h3, h4⟩ := h
   simp only [lM, SE.eval, yw, GE.eval] at hb
   omega
 | B + 1, σ, h, hb => by
   refine @b5q ⟨σ⟩ ?_ h
   intro σ' _ hA hbd
   refine bxq B σ' (l_inv.1 (hA _ (List.mem_singleton.2 rfl))) ?_
   have hbd : 0 ≤ lM.eval σ' ∧ lM.eval σ' < lM.eval σ := hbd
   omega
noncomputable section
def ca7 : LT := .mk 49 11 lUs 258 lLi [lI] none (.x 0 lUo) 259 lLo
end
theorem b9y [Gv] : au ca7 := fun σ _ hA _ => bxq ((lM.eval σ).toNat + 1) σ (l_inv.1 (hA _ (List.mem_singleton.2 rfl))) (by omega)
end Go.Ev
set_option maxRecDepth 100000
set_option linter.all false
namespace Go.Ev
abbrev bjl : GE := .app 6 (.g (.s 0) (.i (.v 1) .nil))
abbrev bny : SE := .bin 6 .i64 (.len (.s 2)) (.len bjl)
abbrev aql : List SA := [.mk true (.c 3900) (.len (.s 3)) false]
abbrev auy : SE := .app 50 (.g (.s 3) .nil)
abbrev bij : List SA := [.mk false auy (.c 1) true, .mk true (.len (.s 3)) (.c 1) true]
abbrev a4x : GE := .app 6 (.g (.s 3) (.i (.c 0) .nil))
abbrev a5s : SE := .len a4x
abbrev blf : List SA := [.mk false auy (.c 1) true, .mk true (.len (.s 3)) (.c 1) false]
abbrev bhl : List SA := [.mk false auy (.c 1) false]
abbrev bav : SE := .bin 0 .i64 (.dr (.s 3) (.c 0)) (.c 0)
abbrev ba6 : GE := .one bav
abbrev bbl : GE := .app 6 (.g (.s 3) (.i (.dw (.s 3) (.c 0)) .nil))
noncomputable section
def ca1 : LT := .mk 49 11 [.top, .top, .top, .top, .gv (.sl (K.of 257) 1 (.len (.s 2)) []), .top, .top, .top, .top, .top, .gv (.str (.s 0) []), .ptr (K.of 256) 0, .top, .top, .top, .top, .top, .top, .top, .top, .top] 258 [.mk 256 (.gob (.iter (.s 0) (.v 1) [])), .mk 257 (.gob (.gh 3 [.i64] (.len (.s 2)) (.s 2)))]
 [.mk false (.app 11 (.g (.s 0) (.i (.v 1) (.g (.s 2) .nil)))) (.c 1) true] none (.x 0 [.top, .top, .top, .top, .gv (.sl (K.of 258) 1 bny []), .top, .top, .top, .top, .top, .top, .ptr (K.of 256) 0, .top, .top, .top, .top, .top, .top, .top, .top, .top]) 259
 [.mk 258 (.gob (.gh 3 [.i64] bny (.cat (.s 2) bjl)))]
def deA : GE := .app 6 (.g (.s 3) (.i (.c 0) .nil))
def bg1 : List AV := [.gv (.str (.s 3) [])]
def bf7 : List HO := []
def bx4 : List HO := []
def bz7 : TR := .ret (.tuple [.nilSlice, .int .i64 0])
def bwu : TM := .mk 49 bg1 256 bf7 (aql ++ bij) none bz7 257 bx4
def bty : List HO := [.mk 256 (.gob (.gh 3 [.i64] a5s a4x))]
def bxl : TR := .ret (.tuple [.gv (.sl (K.of 256) 1 a5s []), .int .i64 0])
def byv : TM := .mk 49 bg1 256 bf7 (aql ++ blf) none bxl 257 bty
def bwa : List HO := []
def bv3 : TR := .ret (.tuple [.nilSlice, .int .i64 5])
def bul : TM := .mk 49 bg1 256 bf7 (aql ++ bhl) none bv3 257 bwa
end
theorem bj2 [Gv] : au ca1 := b9y
theorem bll (s : List Int) (h : 0 < (s.length : Int)) : ai s 0 = drJ s 0 :: ai s (dwJ s 0).toNat := by
 have e := wj (s := s) (p := 0) (by omega)
 rw [Nat.zero_add] at e
 exact e
theorem f11 {σ : Nat → List Int} (x : SE) (h0 : 0 < ((σ 3).length : Int)) (h1 : ((σ 3).length : Int) ≤ 3900) : (SE.app 11 (.g (.s 3) (.i (.dw (.s 3) (.c 0)) (.g (.one x) .nil)))).eval σ = 1 := by
 have h := (bhf (σ := σ) (.s 3) (.c 0)) (Int.le_refl _) h0
 refine of_decide_eq_true ((l_inv (g := .s 3) (e := .dw (.s 3) (.c 0)) (h := .one x)).2 ?_)
 have h2 : (SE.c 0).eval σ + (SE.dw (.s 3) (.c 0)).eval σ ≤ ((σ 3).length : Int) := h.2.1
 have h3 : (SE.c 0).eval σ = 0 := rfl
 have h4 := h.1
 exact ⟨by omega, by show _ ≤ ((σ 3).length : Int); omega, by show ((1 : Nat) : Int) ≤ _; omega, by show (σ 3).length ≤ 4000; omega⟩
theorem b11 {σ : Nat → List Int} (h : SAll σ aql) : ((σ 3).length : Int) ≤ 3900 := by
 simp only [sall_cons, sF, evs] at h
 exact h.1
theorem vl2 [Gv] : ∀ t ∈ [bq0, brr], am t := by
 intro t ht
 simp only [List.mem_cons, zH, or_false] at ht
 rcases ht with rfl | rfl
 ·exact a6p
 ·exact a7o
def cb6 [Gv] : Prop := (SAll Gv.σ bij → ba 49 bg1 256 bf7 bz7 257 bx4) ∧ (SAll Gv.σ blf → ba 49 bg1 256 bf7 bxl 257 bty) ∧ (SAll Gv.σ bhl → ba 49 bg1 256 bf7 bv3 257 bwa)
theorem bmm [Gv] (hI : SAll Gv.σ aql) : cb6 := by
 have h15 := b11 hI
 have hI := zF1 hI (.c 20000) (.len (.s 3))
 have t1 := zf1 (br9 (σ := Gv.σ) (.s 3))
 rcases zq1 hI auy (.c 1) with ⟨hI, k2⟩ | ⟨hI, k2⟩
 ·rcases zl1 hI (.c 0) (.len (.s 3)) with ⟨hI, k3⟩ | ⟨hI, k3⟩
  ·have t2 := zf1 (bhf (σ := Gv.σ) (.s 3) (.c 0))
   have t3 := zf1 (f11 (σ := Gv.σ) bav (by omega) (by omega))
   have hI := zE1 hI (.app 11 (.g (.s 3) (.i (.dw (.s 3) (.c 0)) (.g ba6 .nil)))) (.c 1)
   have u := fun h => bll (Gv.σ 3) h
   exact ⟨bfu,
    zm [(259, 256)] (.i (.bin 6 .i64 (.c 1) (.len bbl)) a5s (.g (.cat ba6 bbl) a4x .nil)) (zh hI vl2) (zp hI (cg bj2)) hI ca5,
    bfu⟩
  ·have u := fun h => bll (Gv.σ 3) h
   exact ⟨zm0 [] (zh hI vl2) (zp hI (cg bj2)) hI,
    bfu,
    bfu⟩
 ·have u := fun h => bll (Gv.σ 3) h
  exact ⟨bfu,
   bfu,
   zm0 [] (zh hI vl2) (zp hI (cg bj2)) hI⟩
theorem bpn [Gv] : am bwu := fun σ _ hA _ => (@bmm ⟨σ⟩  (aj hA).1).1 (aj hA).2
theorem bn9 [Gv] : am byv := fun σ _ hA _ => (@bmm ⟨σ⟩  (aj hA).1).2.1 (aj hA).2
theorem boe [Gv] : am bul := fun σ _ hA _ => (@bmm ⟨σ⟩  (aj hA).1).2.2 (aj hA).2
end Go.Ev
set_option maxRecDepth 100000
set_option linter.all false
namespace Go.Ev
section
variable [Gv]
theorem bpi {kd f nxi nxo kx : Nat} {g : GE} {us : List AV} {Li : List HO} {r : TR} {Lo : List HO} {pN pS : Prop} {loN : LO} {oS : K → AObj} {oB : AObj} (hk : GhK kd (g.eval Gv.σ) pN pS (co loN) oS oB) (hp : pN)
  (h1 : nxi ≤ kx) (h2 : kx ≤ 65535) (hro : (co loN).isRo = false) (hLo : ∀ k, bu (ac k (ae Lo)) = none) (hlN : bu (co loN) = none)
  (hf : ba f us nxi Li r nxo (.mk kx loN :: Lo)) : ba f us nxi Li r nxo (.mk kx (.gob (.lh kd g)) :: Lo) := by
 intro ρ args w hg hw hc hv
 have fin : ∀ (ρ' : Env) (w' : World), Adv ρ (ax Li nxi) w ρ' (ax (.mk kx loN :: Lo) nxo) w' → ∃ ρ3, Adv ρ (ax Li nxi) w ρ3 (ax (.mk kx (.gob (.lh kd g)) :: Lo) nxo) w' ∧ ρ'.le ρ3 := by
  intro ρ' w' hA
  have at0 : ac (K.of kx) (ae (.mk kx loN :: Lo)) = co loN := by rw [bv, if_pos rfl]
  have at1 : ac (K.of kx) (ae (.mk kx (.gob (.lh kd g)) :: Lo)) = .gob (.lh kd g) := by rw [bv, if_pos rfl]; rfl
  have side0 : ∀ k, k ≠ K.of kx → ac k (ae (.mk kx loN :: Lo)) = ac k (ae Lo) := fun k h => by rw [bv, if_neg h]
  have side1 : ∀ k, k ≠ K.of kx → ac k (ae (.mk kx (.gob (.lh kd g)) :: Lo)) = ac k (ae Lo) := fun k h => by rw [bv, if_neg h]
  have live0 : ac (K.of kx) (ax (.mk kx loN :: Lo) nxo).h ≠ .none := by
   show ac _ (ae _) ≠ _
   rw [at0]; exact nd _
  have back : ∀ k, ac k (ax (.mk kx (.gob (.lh kd g)) :: Lo) nxo).h ≠ .none → ac k (ax (.mk kx loN :: Lo) nxo).h ≠ .none := by
   intro k h
   by_cases e : k = K.of kx
   ·subst e; exact live0
   ·have h : ac k (ae _) ≠ .none := h
    show ac k (ae _) ≠ .none
    rw [side1 k e] at h; rw [side0 k e]; exact h
  obtain ⟨c0, hc0, ho0⟩ := hA.rel.dom _ live0
  have ho0 : ORel ρ' (ac (K.of kx) (ae (.mk kx loN :: Lo))) w'.heap[c0]? := ho0
  rw [at0] at ho0
  have hrel := hk.clN hp ρ' c0 w'.heap ho0
  have lt0 : c0 < w'.heap.size := by
   obtain ⟨y, hy⟩ := ho0.some (nd _)
   exact (zI.1 hy).1
  have nolh : ∀ k, k ≠ K.of kx → bu (ac k (ae (.mk kx (.gob (.lh kd g)) :: Lo))) = none := fun k h => by rw [side1 k h]; exact hLo k
  have hle3 : ρ'.le { ρ' with ft := fun l => if l = K.of kx then (fun x => x = c0) else ρ'.ft l } := fun k c h => ⟨h, rfl⟩
  have numi : (ax Li nxi).nx.num = nxi ∨ True := .inr trivial
  refine ⟨{ ρ' with ft := fun l => if l = K.of kx then (fun x => x = c0) else ρ'.ft l }, ⟨⟨?_, ?_, ?_, ?_⟩, Env.le_trans hA.le hle3, ?_, hA.nx, hA.size, ?_, ?_, hA.frame, ?_, hA.os, hA.tape, hA.output⟩, hle3⟩
  ·intro k l a b e
   exact hA.rel.inj k l (back k a) (back l b) e
  ·intro k a
   obtain ⟨c, hc, ho⟩ := hA.rel.dom k (back k a)
   refine ⟨c, hc, ?_⟩
   show ORel _ (ac k (ae _)) _
   by_cases e : k = K.of kx
   ·subst e
    rw [at1]
    have hc : ρ' (K.of kx) = some c := hc
    rw [hc0] at hc
    obtain rfl := Option.some.inj hc
    obtain ⟨y, hy⟩ := ho0.some (nd _)
    exact ⟨y, hy⟩
   ·have ho : ORel ρ' (ac k (ae _)) _ := ho
    rw [side0 k e] at ho
    rw [side1 k e]
    exact ho.mono hle3
  ·intro k c arr t fz a e1 e2
   exact hA.rel.len k c arr t fz (back k a) e1 e2
  ·intro k kd' gg a
   have a : bu (ac k (ae (.mk kx (.gob (.lh kd g)) :: Lo))) = some (kd', gg) := a
   by_cases e : k = K.of kx
   ·subst e
    rw [at1] at a
    injection a with a
    injection a with e1 e2
    subst e1 e2
    have ft0 : ({ ρ' with ft := fun l => if l = K.of kx then (fun x => x = c0) else ρ'.ft l } : Env).ft (K.of kx) = fun x => x = c0 := by show (if K.of kx = K.of kx then _ else _) = _; rw [if_pos rfl]
    refine ⟨?_, ?_, ?_, ?_, ?_⟩
    ·intro c hc
     have hc : ρ' (K.of kx) = some c := hc
     rw [hc0] at hc
     obtain rfl := Option.some.inj hc
     rw [ft0]
    ·intro c hc
     have hc : ρ' (K.of kx) = some c := hc
     rw [hc0] at hc
     obtain rfl := Option.some.inj hc
     rw [ft0]; exact hrel
    ·rw [ft0]; rintro c rfl; exact lt0
    ·intro l hl hn c hlc
     rw [ft0]
     rintro rfl
     have hlc : ρ' l = some c := hlc
     exact hn (hA.rel.inj l _ (back l hl) live0 (by rw [hlc, hc0]))
    ·intro l hl hn
     exact absurd (nolh l hn) hl
   ·rw [nolh k e] at a; cases a
  ·exact hA.rng
  ·rintro c ⟨k, k1, k2, k3⟩
   have k2 : (ac k (ae (.mk kx (.gob (.lh kd g)) :: Lo))).isRo = false := k2
   by_cases e : k = K.of kx
   ·subst e
    have fin0 : c = c0 → Own ρ (ax Li nxi) c ∨ w.heap.size ≤ c := by
     rintro rfl
     refine hA.own c ⟨K.of kx, live0, ?_, .inl hc0⟩
     show (ac _ (ae _)).isRo = false
     rw [at0]; exact hro
    rcases k3 with k3 | ⟨_, k3⟩
    ·have k3 : ρ' (K.of kx) = some c := k3
     rw [hc0] at k3
     exact fin0 (Option.some.inj k3).symm
    ·have k3 : (if K.of kx = K.of kx then (fun x => x = c0) else ρ'.ft (K.of kx)) c := k3
     rw [if_pos rfl] at k3
     exact fin0 k3
   ·rcases k3 with k3 | ⟨k3, _⟩
    ·refine hA.own c ⟨k, back k k1, ?_, .inl k3⟩
     show (ac _ (ae _)).isRo = false
     rw [side1 k e] at k2; rw [side0 k e]; exact k2
    ·exact absurd (nolh k e) k3
  ·intro k c a hc
   exact hA.keep k c (back k a) hc
  ·intro k hkk hl
   have n0 : k ≠ K.of kx := by
    rintro rfl
    have numi : (ax Li nxi).nx = K.of nxi := rfl
    rw [numi] at hkk
    have q : (K.of nxi).num ≤ nxi := by
     by_cases q : nxi < 65536
     ·rw [ci q]; exact zY _
     ·have := (K.of nxi); exact Nat.le_trans (Nat.le_of_lt (by omega)) (Nat.le_of_not_lt q)
    rw [ci (by omega)] at hkk
    omega
   have q := hA.fts k hkk hl
   refine ⟨?_, nolh k n0⟩
   show (if k = K.of kx then _ else ρ'.ft k) = _
   rw [if_neg n0]; exact q.1
 refine Calls.mono (hf ρ args w hg hw hc hv) fun e w' hp' => ?_
 cases r with
 | ret v =>
   obtain ⟨v', ρ2, e1, e2, hA⟩ := hp'
   obtain ⟨ρ3, hA3, hle⟩ := fin ρ2 w' hA
   exact ⟨v', ρ3, e1, e2.mono hle, hA3⟩
 | pan ch =>
   obtain ⟨ch', ρ2, e1, e2, hA⟩ := hp'
   obtain ⟨ρ3, hA3, hle⟩ := fin ρ2 w' hA
   exact ⟨ch', ρ3, e1, e2.mono hle, hA3⟩
end
end Go.Ev
set_option maxRecDepth 100000
set_option linter.all false
namespace Go.Ev
abbrev bik : GE := .cat (.one (.c 0)) (.one (.c 0))
abbrev a56 : GE := .cat (.one (.c 3200)) bik
noncomputable section
def g0E : GE := .app 109 .nil
def h0E : GE := .cat (.one (.c 3200)) bik
def cc4 : List AV := [.int .i64 3200]
def cbl : List HO := []
def ccw : List HO := ([hpO 256 h0E .nilSlice] ++ akf 257 258 259 g0E)
def cc7 : TR := .ret (.tuple [.ptr (K.of 256) 0, .ptr (K.of 257) 0])
def b6c : List AV := [.int .i64 3200]
def b5h : List HO := []
def ccy : List HO := ([hpG 256 h0E] ++ akf 257 258 259 g0E)
def b6f : TR := .ret (.tuple [.ptr (K.of 256) 0, .ptr (K.of 257) 0])
def b8r : TM := .mk 11 b6c 256 b5h ([] ++ []) none b6f 260 ccy
end
def cc1 [Gv] : Prop := (SAll Gv.σ [] → ba 11 cc4 256 cbl cc7 260 ccw)
theorem b9e [Gv] (hI : SAll Gv.σ []) : cc1 := by
 exact fun hC => br (n := 2000) (T := [(256, 256), (257, 259), (258, 257), (383, 258)]) (E := (.i (.c 3200) (.rd a56 (.c 0)) (.i (.c 0) (.rd a56 (.c 1)) (.i (.c 0) (.rd a56 (.c 2)) (.i (.c 62) (.app 53 (.g (.app 109 .nil) .nil)) (.g (.cat (.one (.c 61)) (.cat (.one (.c 27)) (.cat (.lit 27 40921301388373393901266083601415623805023030494395681591402262382) (.cat (.one (.c 60)) (.cat (.one (.c 16)) (.cat (.lit 16 130873919237818497454574540560026987641) (.cat (.one (.c 59)) (.cat (.one (.c 10)) (.cat (.lit 10 554645564019283999223666) (.cat (.one (.c 58)) (.cat (.one (.c 14)) (.cat (.lit 14 2138404743268917599816109472970864) (.cat (.one (.c 57)) (.cat (.one (.c 13)) (.cat (.lit 13 9142614481120370773387966702948) (.cat (.one (.c 56)) (.cat (.one (.c 13)) (.cat (.lit 13 8036208872164450487963119674738) (.cat (.one (.c 55)) (.cat (.one (.c 19)) (.cat (.lit 19 2194306559561233339480094508905273046698714482) (.cat (.one (.c 54)) (.cat (.one (.c 14)) (.cat (.lit 14 2360798837088724829763814128774265) (.cat (.one (.c 53)) (.cat (.one (.c 11)) (.cat (.lit 11 132251892078482770005159020) (.cat (.one (.c 52)) (.cat (.one (.c 22)) (.cat (.lit 22 37964533983826296352995798791071340672472487022915175) (.cat (.one (.c 51)) (.cat (.one (.c 13)) (.cat (.lit 13 7876222302167207231190018388852) (.cat (.one (.c 50)) (.cat (.one (.c 11)) (.cat (.lit 11 122622816042548377873378405) (.cat (.one (.c 49)) (.cat (.one (.c 19)) (.cat (.lit 19 2351200880115526969479425374119979311791628664) (.cat (.one (.c 48)) (.cat (.one (.c 16)) (.cat (.lit 16 140142493254871783820688370579714699118) (.cat (.one (.c 47)) (.cat (.one (.c 8)) (.cat (.lit 8 7957628971446985576) (.cat (.one (.c 46)) (.cat (.one (.c 16)) (.cat (.lit 16 153388003480587613335266858083767381620) (.cat (.one (.c 45)) (.cat (.one (.c 14)) (.cat (.lit 14 2260727785469235662364888815267698) (.cat (.one (.c 44)) (.cat (.one (.c 11)) (.cat (.lit 11 117806099577798128716377970) (.cat (.one (.c 43)) (.cat (.one (.c 17)) (.cat (.lit 17 33159458725503807014831810376311545685861) (.cat (.one (.c 42)) (.cat (.one (.c 25)) (.cat (.lit 25 749781051372049293057386538801311032636779409818639984915571) (.cat (.one (.c 41)) (.cat (.one (.c 19)) (.cat (.lit 19 2663757397314901095382322954879158356550184564) (.cat (.one (.c 40)) (.cat (.one (.c 13)) (.cat (.lit 13 9383403423058555373549009858414) (.cat (.one (.c 39)) (.cat (.one (.c 13)) (.cat (.lit 13 9383403423059702669977579580517) (.cat (.one (.c 38)) (.cat (.one (.c 4)) (.cat (.lit 4 1903520116) (.cat (.one (.c 37)) (.cat (.one (.c 5)) (.cat (.lit 5 435711799154) (.cat (.one (.c 36)) (.cat (.one (.c 6)) (.cat (.lit 6 126896544047468) (.cat (.one (.c 35)) (.cat (.one (.c 5)) (.cat (.lit 5 499968536439) (.cat (.one (.c 34)) (.cat (.one (.c 4)) (.cat (.lit 4 1702257004) (.cat (.one (.c 33)) (.cat (.one (.c 4)) (.cat (.lit 4 1835102307) (.cat (.one (.c 32)) (.cat (.one (.c 6)) (.cat (.lit 6 120265264816498) (.cat (.one (.c 31)) (.cat (.one (.c 5)) (.cat (.lit 5 418498243705) (.cat (.one (.c 30)) (.cat (.one (.c 7)) (.cat (.lit 7 28839564598668396) (.cat (.one (.c 29)) (.cat (.one (.c 11)) (.cat (.lit 11 127458818504976499584104037) (.cat (.one (.c 28)) (.cat (.one (.c 8)) (.cat (.lit 8 7234300996411945583) (.cat (.one (.c 27)) (.cat (.one (.c 5)) (.cat (.lit 5 431197943150) (.cat (.one (.c 26)) (.cat (.one (.c 8)) (.cat (.lit 8 7234300953697874804) (.cat (.one (.c 25)) (.cat (.one (.c 6)) (.cat (.lit 6 110386673508722) (.cat (.one (.c 24)) (.cat (.one (.c 14)) (.cat (.lit 14 2016787041542256923290239124992869) (.cat (.one (.c 23)) (.cat (.one (.c 14)) (.cat (.lit 14 2381793977678502578102143874851700) (.cat (.one (.c 22)) (.cat (.one (.c 5)) (.cat (.lit 5 426836779880) (.cat (.one (.c 21)) (.cat (.one (.c 4)) (.cat (.lit 4 1818588202) (.cat (.one (.c 20)) (.cat (.one (.c 3)) (.cat (.lit 3 7103860) (.cat (.one (.c 19)) (.cat (.one (.c 4)) (.cat (.lit 4 1936028785) (.cat (.one (.c 18)) (.cat (.one (.c 5)) (.cat (.lit 5 482956240689) (.cat (.one (.c 17)) (.cat (.one (.c 5)) (.cat (.lit 5 482956240750) (.cat (.one (.c 16)) (.cat (.one (.c 5)) (.cat (.lit 5 512852847717) (.cat (.one (.c 15)) (.cat (.one (.c 2)) (.cat (.lit 2 28530) (.cat (.one (.c 14)) (.cat (.one (.c 3)) (.cat (.lit 3 6385252) (.cat (.one (.c 13)) (.cat (.one (.c 4)) (.cat (.lit 4 1668247140) (.cat (.one (.c 12)) (.cat (.one (.c 2)) (.cat (.lit 2 26982) (.cat (.one (.c 11)) (.cat (.one (.c 9)) (.cat (.lit 9 709006320932754448748) (.cat (.one (.c 10)) (.cat (.one (.c 5)) (.cat (.lit 5 165128008564) (.cat (.one (.c 9)) (.cat (.one (.c 5)) (.cat (.lit 5 469785342575) (.cat (.one (.c 8)) (.cat (.one (.c 7)) (.cat (.lit 7 27985248628601445) (.cat (.one (.c 7)) (.cat (.one (.c 6)) (.cat (.lit 6 119165702792289) (.cat (.one (.c 6)) (.cat (.one (.c 2)) (.cat (.lit 2 11328) (.cat (.one (.c 5)) (.cat (.one (.c 1)) (.cat (.lit 1 44) (.cat (.one (.c 4)) (.cat (.one (.c 1)) (.cat (.lit 1 96) (.cat (.one (.c 3)) (.cat (.one (.c 8)) (.cat (.lit 8 7382928537577680750) (.cat (.one (.c 2)) (.cat (.one (.c 5)) (.cat (.lit 5 487301543013) (.cat (.one (.c 1)) (.cat (.one (.c 1)) (.cat (.lit 1 116) (.cat (.one (.c 0)) (.cat (.one (.c 3)) (.lit 3 7235948)))))))))))))))))))))))))))))))))))))))))))))))))))))))))))))))))))))))))))))))))))))))))))))))))))))))))))))))))))))))))))))))))))))))))))))))))))))))))))))))))))))))))))))))))))))))))) (.app 109 .nil) .nil)))))) aa ag hI (by exact ⟨by kernel_rfl, by kernel_rfl, by kernel_rfl, by kernel_rfl, by kernel_rfl, trivial⟩) rfl rfl (by kernel_rfl)
theorem b04 [Gv] : am b8r := by
 intro σ _ hA _
 have hr : jr (h0E.eval σ) := by
  show jr [3200, 0, 0]
  exact ⟨rfl, by decide⟩
 refine @bpi ⟨σ⟩ 1 11 256 260 256 h0E b6c b5h b6f (akf 257 258 259 g0E) _ _ (vq h0E .nilSlice) _ _ (@d7 ⟨σ⟩ h0E) ⟨hr, rfl⟩ (by omega) (by omega) rfl ?_ rfl ((@b9e ⟨σ⟩ (fun _ h => by simp at h)) (fun _ h => by simp at h))
 intro k
 by_cases h : ac k (ae (akf 257 258 259 g0E)) = .none
 ·rw [h]; rfl
 ·rcases jm k (akf 257 258 259 g0E) h with ⟨n, o, q1, q2, q3⟩ | ⟨g, cs, q1, q2, q3⟩
  ·rw [q3]
   simp only [akf, List.mem_cons, zH, or_false, HO.mk.injEq] at q1
   rcases q1 with ⟨_, rfl⟩ | ⟨_, rfl⟩ | ⟨_, rfl⟩ <;> rfl
  ·rw [q3]; rfl
end Go.Ev
