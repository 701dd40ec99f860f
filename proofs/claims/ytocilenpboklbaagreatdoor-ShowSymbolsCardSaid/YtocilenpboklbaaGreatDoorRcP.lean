import Derived.Test.YtocilenpboklbaaGreatDoorRaK
import Derived.Test.YtocilenpboklbaaGreatDoorEvGh
import Derived.Lib.MapLaws
import Derived.Lib.ValidLaws
set_option maxRecDepth 100000
set_option linter.all false
namespace Go.Ev
abbrev bcr : SE := .bin 6 .i64 (.len (.s 2)) (.c 1)
noncomputable section
def lI : SA := .mk false (.app 11 (.g (.s 0) (.i (.v 1) (.g (.s 2) .nil)))) (.c 1) true
def lM : SE := .bin 6 .i64 (.len (.s 0)) (.bin 7 .i64 (.c (-1)) (.v 1))
def lP : SE := .bin 6 .i64 (.v 1) (.dw (.s 0) (.v 1))
def lM' : SE := .bin 6 .i64 (.len (.s 0)) (.bin 7 .i64 (.c (-1)) lP)
def lX : SE := .bin 0 .i64 (.dr (.s 0) (.v 1)) (.c 0)
def lA : List SA := [lI, .mk true (.v 1) (.len (.s 0)) true, .mk true (.c 400000) bcr false,
 .mk false (.app 11 (.g (.s 0) (.i lP (.g (.cat (.s 2) (.one lX)) .nil)))) (.c 1) true, .mk true lM' lM true, .mk true lM' (.c 0) false]
def lB : List SA := [lI, .mk true (.v 1) (.len (.s 0)) false]
def lUs : List AV := [.top, .top, .top, .top, .gv (.sl (K.of 257) 1 (.len (.s 2)) []), .top, .top, .top, .top, .top, .gv (.str (.s 0) []), .ptr (K.of 256) 0, .top, .top, .top, .top, .top, .top, .top, .top, .top]
def lLi : List HO := [.mk 256 (.gob (.iter (.s 0) (.v 1) [])), .mk 257 (.gob (.gh 3 [.i64] (.len (.s 2)) (.s 2)))]
def lD : GE := .app 6 (.g (.s 0) (.i (.v 1) .nil))
def lN : SE := .bin 6 .i64 (.len (.s 2)) (.len lD)
def lR : GE := .cat (.s 2) lD
def lUo : List AV := [.top, .top, .top, .top, .gv (.sl (K.of 258) 1 lN []), .top, .top, .top, .top, .top, .top, .ptr (K.of 256) 0, .top, .top, .top, .top, .top, .top, .top, .top, .top]
def lLo : List HO := [.mk 258 (.gob (.gh 3 [.i64] lN lR))]
def lLt : LT := .mk 106 11 lUs 258 lLi [lI] (some (lM, lM)) (.x 0 lUo) 259 lLo
def lD1 : GE := .app 6 (.g (.s 0) (.i lP .nil))
def lE1 : EqL := .g (.cat (.cat (.s 2) (.one lX)) lD1) lR (.i (.bin 6 .i64 bcr (.len lD1)) lN .nil)
def lE2 : EqL := .g (.s 2) lR (.i (.len (.s 2)) lN .nil)
end
section
variable {σ : Nat → List Int}
open Classical in
theorem l_inv {e : SE} {g h : GE} : (SA.mk false (.app 11 (.g g (.i e (.g h .nil)))) (.c 1) true).holds σ ↔ a8e (g.eval σ) (e.eval σ) (h.eval σ) := by
 show decide (bl9 11 [g.eval σ, [e.eval σ], h.eval σ] = 1) = true ↔ _
 rw [decide_eq_true_iff]
 exact bqa
theorem bln (h : a8e (σ 0) ((σ 1).headD 0) (σ 2)) (hp : (σ 1).headD 0 < ((σ 0).length : Int)) : ∃ (x : Int) (w : Nat), 0 ≤ x ∧ x ≤ 1114111 ∧ 1 ≤ w ∧ (σ 1).headD 0 + w ≤ ((σ 0).length : Int) ∧ (SE.dr (.s 0) (.v 1)).eval σ = x ∧ (SE.dw (.s 0) (.v 1)).eval σ = (w : Int) ∧ lX.eval σ = x ∧
  lP.eval σ = (σ 1).headD 0 + w ∧ ae (σ 0) ((σ 1).headD 0).toNat = x :: ae (σ 0) ((σ 1).headD 0 + w).toNat := by
 obtain ⟨h1, h2, h3, h4⟩ := h
 have hi : ((σ 1).headD 0).toNat < (σ 0).length := by omega
 obtain ⟨b1, b2, b3⟩ := mz (σ 0) _ hi
 refine ⟨((Utf8.decode (al (σ 0)) ((σ 1).headD 0).toNat).1 : Int), (Utf8.decode (al (σ 0)) ((σ 1).headD 0).toNat).2, by omega, by omega, b1, by omega, rfl, rfl, ?_, rfl, ?_⟩
 ·show IntKind.i64.wrap ((SE.dr (.s 0) (.v 1)).eval σ + 0) = (SE.dr (.s 0) (.v 1)).eval σ
  have e : (SE.dr (.s 0) (.v 1)).eval σ = ((Utf8.decode (al (σ 0)) ((σ 1).headD 0).toNat).1 : Int) := rfl
  rw [Int.add_zero, bbr (by omega)]
 ·rw [vq hi]
  congr 2
  omega
end
section
variable [Gv]
theorem bqi (hL : be lLt) (h : a8e (Gv.σ 0) ((Gv.σ 1).headD 0) (Gv.σ 2)) : b8 106 11 lUs 258 lLi (.x 0 lUo) 259 lLo := by
 have hl : ∀ t ∈ [lLt], be t := by intro t ht; rw [List.mem_singleton] at ht; subst ht; exact hL
 by_cases hp : (Gv.σ 1).headD 0 < ((Gv.σ 0).length : Int)
 ·obtain ⟨x, w, x1, x2, w1, w2, hd, hw, hX, hP, hdec⟩ := bln h hp
  have hinv := h
  obtain ⟨h1, h2, h3, h4⟩ := h
  refine fj (n := 2000) (A := lA) (T := [(260, 258)]) (E := lE1) ab (adu [lLt] hl) ?_ ⟨?_, ?_, trivial⟩ rfl rfl (by kernel_rfl)
  ·unfold lA
   simp only [sall_cons]
   refine ⟨l_inv.2 hinv, anf hp, adl ?_, l_inv.2 ?_, anf ?_, adl ?_, SAll.nil⟩
   ·simp only [SE.eval, qr, GE.eval]; omega
   ·rw [hP]; simp only [GE.eval]; exact ⟨by omega, by omega, by rw [zP, List.length_singleton]; omega, h4⟩
   ·simp only [lM, lM', SE.eval, qr, GE.eval] at hP ⊢; rw [hP]; omega
   ·simp only [lM', SE.eval, qr, GE.eval] at hP ⊢; rw [hP]; omega
  ·show (Gv.σ 2 ++ [lX.eval Gv.σ]) ++ ae (Gv.σ 0) (lP.eval Gv.σ).toNat = Gv.σ 2 ++ ae (Gv.σ 0) ((Gv.σ 1).headD 0).toNat
   rw [hX, hP, hdec, List.append_assoc]; rfl
  ·show ((Gv.σ 2).length : Int) + 1 + ((ae (Gv.σ 0) (lP.eval Gv.σ).toNat).length : Int) = ((Gv.σ 2).length : Int) + ((ae (Gv.σ 0) ((Gv.σ 1).headD 0).toNat).length : Int)
   rw [hP, hdec, zO]; omega
 ·have hinv := h
  obtain ⟨h1, h2, h3, h4⟩ := h
  have e : ae (Gv.σ 0) ((Gv.σ 1).headD 0).toNat = [] := avc (by omega)
  refine fj (n := 2000) (A := lB) (T := [(257, 258)]) (E := lE2) ab (adu [lLt] hl) ?_ ⟨?_, ?_, trivial⟩ rfl rfl (by kernel_rfl)
  ·unfold lB
   simp only [sall_cons]
   exact ⟨l_inv.2 hinv, adl hp, SAll.nil⟩
  ·show Gv.σ 2 = Gv.σ 2 ++ ae (Gv.σ 0) ((Gv.σ 1).headD 0).toNat
   rw [e, List.append_nil]
  ·show ((Gv.σ 2).length : Int) = ((Gv.σ 2).length : Int) + ((ae (Gv.σ 0) ((Gv.σ 1).headD 0).toNat).length : Int)
   rw [e]; rfl
end
theorem bid : ∀ (B : Nat) (σ : Nat → List Int), a8e (σ 0) ((σ 1).headD 0) (σ 2) → lM.eval σ < (B : Int) → @b8 ⟨σ⟩ 106 11 lUs 258 lLi (.x 0 lUo) 259 lLo
 | 0, σ, h, hb => by
   obtain ⟨h1, h2, h3, h4⟩ := h
   simp only [lM, SE.eval, qr, GE.eval] at hb
   omega
 | B + 1, σ, h, hb => by
   refine @bqi ⟨σ⟩ ?_ h
   intro σ' _ hA hbd
   refine bid B σ' (l_inv.1 (hA _ (List.mem_singleton.2 rfl))) ?_
   have hbd : 0 ≤ lM.eval σ' ∧ lM.eval σ' < lM.eval σ := hbd
   omega
noncomputable section
def bzf : LT := .mk 106 11 lUs 258 lLi [lI] none (.x 0 lUo) 259 lLo
end
theorem bqh [Gv] : be bzf := fun σ _ hA _ => bid ((lM.eval σ).toNat + 1) σ (l_inv.1 (hA _ (List.mem_singleton.2 rfl))) (by omega)
end Go.Ev
set_option maxRecDepth 100000
set_option linter.all false
namespace Go.Ev
abbrev bcs : GE := .app 6 (.g (.s 0) (.i (.v 1) .nil))
abbrev bct : SE := .bin 6 .i64 (.len (.s 2)) (.len bcs)
abbrev aka : List SA := [.mk true (.c 3900) (.len (.s 3)) false]
abbrev ap7 : SE := .app 50 (.g (.s 3) .nil)
abbrev bcu : List SA := [.mk false ap7 (.c 1) true, .mk true (.len (.s 3)) (.c 1) true]
abbrev axs : GE := .app 6 (.g (.s 3) (.i (.c 0) .nil))
abbrev axt : SE := .len axs
abbrev bcv : List SA := [.mk false ap7 (.c 1) true, .mk true (.len (.s 3)) (.c 1) false]
abbrev bcw : List SA := [.mk false ap7 (.c 1) false]
abbrev a2p : SE := .bin 0 .i64 (.dr (.s 3) (.c 0)) (.c 0)
abbrev a2q : GE := .one a2p
abbrev a2r : GE := .app 6 (.g (.s 3) (.i (.dw (.s 3) (.c 0)) .nil))
noncomputable section
def bzg : LT := .mk 106 11 [.top, .top, .top, .top, .gv (.sl (K.of 257) 1 (.len (.s 2)) []), .top, .top, .top, .top, .top, .gv (.str (.s 0) []), .ptr (K.of 256) 0, .top, .top, .top, .top, .top, .top, .top, .top, .top] 258 [.mk 256 (.gob (.iter (.s 0) (.v 1) [])), .mk 257 (.gob (.gh 3 [.i64] (.len (.s 2)) (.s 2)))]
 [.mk false (.app 11 (.g (.s 0) (.i (.v 1) (.g (.s 2) .nil)))) (.c 1) true] none (.x 0 [.top, .top, .top, .top, .gv (.sl (K.of 258) 1 bct []), .top, .top, .top, .top, .top, .top, .ptr (K.of 256) 0, .top, .top, .top, .top, .top, .top, .top, .top, .top]) 259
 [.mk 258 (.gob (.gh 3 [.i64] bct (.cat (.s 2) bcs)))]
def a5p : List AV := [.gv (.str (.s 3) [])]
def a5o : List HO := []
def bjj : List HO := []
def bjk : TR := .ret (.tuple [.nilSlice, .int .i64 0])
def bji : TM := .mk 106 a5p 256 a5o (aka ++ bcu) none bjk 257 bjj
def bjg : List HO := [.mk 256 (.gob (.gh 3 [.i64] axt axs))]
def bjh : TR := .ret (.tuple [.gv (.sl (K.of 256) 1 axt []), .int .i64 0])
def bjf : TM := .mk 106 a5p 256 a5o (aka ++ bcv) none bjh 257 bjg
def bjd : List HO := []
def bje : TR := .ret (.tuple [.nilSlice, .int .i64 5])
def bjc : TM := .mk 106 a5p 256 a5o (aka ++ bcw) none bje 257 bjd
end
theorem a8f [Gv] : be bzg := bqh
theorem a7b (s : List Int) (h : 0 < (s.length : Int)) : ae s 0 = drJ s 0 :: ae s (dwJ s 0).toNat := by
 have e := vq (s := s) (p := 0) (by omega)
 rw [Nat.zero_add] at e
 exact e
theorem f11 {σ : Nat → List Int} (x : SE) (h0 : 0 < ((σ 3).length : Int)) (h1 : ((σ 3).length : Int) ≤ 3900) : (SE.app 11 (.g (.s 3) (.i (.dw (.s 3) (.c 0)) (.g (.one x) .nil)))).eval σ = 1 := by
 have h := (aie (σ := σ) (.s 3) (.c 0)) (Int.le_refl _) h0
 refine of_decide_eq_true ((l_inv (g := .s 3) (e := .dw (.s 3) (.c 0)) (h := .one x)).2 ?_)
 have h2 : (SE.c 0).eval σ + (SE.dw (.s 3) (.c 0)).eval σ ≤ ((σ 3).length : Int) := h.2.1
 have h3 : (SE.c 0).eval σ = 0 := rfl
 have h4 := h.1
 exact ⟨by omega, by show _ ≤ ((σ 3).length : Int); omega, by show ((1 : Nat) : Int) ≤ _; omega, by show (σ 3).length ≤ 4000; omega⟩
theorem bli {σ : Nat → List Int} (h : SAll σ aka) : ((σ 3).length : Int) ≤ 3900 := by
 simp only [sall_cons, sF, evs] at h
 exact h.1
theorem vl2 [Gv] : ∀ t ∈ [bge, bgd], bj t := by
 intro t ht
 simp only [List.mem_cons, zH, or_false] at ht
 rcases ht with rfl | rfl
 ·exact axc
 ·exact axb
def bz4 [Gv] : Prop := (SAll Gv.σ bcu → aq 106 a5p 256 a5o bjk 257 bjj) ∧ (SAll Gv.σ bcv → aq 106 a5p 256 a5o bjh 257 bjg) ∧ (SAll Gv.σ bcw → aq 106 a5p 256 a5o bje 257 bjd)
theorem a7q [Gv] (hI : SAll Gv.σ aka) : bz4 := by
 have h15 := bli hI
 have hI := zF1 hI (.c 20000) (.len (.s 3))
 have t1 := zf1 (bor (σ := Gv.σ) (.s 3))
 rcases zq1 hI ap7 (.c 1) with ⟨hI, k2⟩ | ⟨hI, k2⟩
 ·rcases zl1 hI (.c 0) (.len (.s 3)) with ⟨hI, k3⟩ | ⟨hI, k3⟩
  ·have t2 := zf1 (aie (σ := Gv.σ) (.s 3) (.c 0))
   have t3 := zf1 (f11 (σ := Gv.σ) a2p (by omega) (by omega))
   have hI := zE1 hI (.app 11 (.g (.s 3) (.i (.dw (.s 3) (.c 0)) (.g a2q .nil)))) (.c 1)
   have u := fun h => a7b (Gv.σ 3) h
   exact ⟨a6j,
    zm [(259, 256)] (.i (.bin 6 .i64 (.c 1) (.len a2r)) axt (.g (.cat a2q a2r) axs .nil)) (zh hI vl2) (zp hI (gg a8f)) hI b04,
    a6j⟩
  ·have u := fun h => a7b (Gv.σ 3) h
   exact ⟨zm0 [] (zh hI vl2) (zp hI (gg a8f)) hI,
    a6j,
    a6j⟩
 ·have u := fun h => a7b (Gv.σ 3) h
  exact ⟨a6j,
   a6j,
   zm0 [] (zh hI vl2) (zp hI (gg a8f)) hI⟩
theorem bfn [Gv] : bj bji := fun σ _ hA _ => (@a7q ⟨σ⟩  (ap hA).1).1 (ap hA).2
theorem bfm [Gv] : bj bjf := fun σ _ hA _ => (@a7q ⟨σ⟩  (ap hA).1).2.1 (ap hA).2
theorem bfl [Gv] : bj bjc := fun σ _ hA _ => (@a7q ⟨σ⟩  (ap hA).1).2.2 (ap hA).2
end Go.Ev
set_option maxRecDepth 100000
set_option linter.all false
namespace Go.Ev
theorem zg : ∀ (f : Nat) (s : List Int) (p : Nat), p ≤ s.length → (gx f s p).length ≤ s.length - p ∧ ∀ x ∈ gx f s p, 0 ≤ x ∧ x < 1114112
 | 0, s, p, _ => ⟨Nat.zero_le _, fun x h => by cases h⟩
 | f + 1, s, p, hp => by
   unfold gx
   split
   ·rename_i h
    have hb := mz s p h
    have hb' : 1 ≤ (Utf8.decode (pw s) p).2 ∧ p + (Utf8.decode (pw s) p).2 ≤ s.length ∧ (Utf8.decode (pw s) p).1 ≤ 1114111 := hb
    obtain ⟨i1, i2⟩ := zg f s (p + (Utf8.decode (pw s) p).2) hb'.2.1
    refine ⟨by simp only [zO]; omega, fun x hx => ?_⟩
    rcases List.mem_cons.1 hx with rfl | hx
    ·omega
    ·exact i2 x hx
   ·exact ⟨Nat.zero_le _, fun x h => by cases h⟩
theorem zf (s : List Int) : (ae s 0).length ≤ s.length := by have := (zg s.length s 0 (Nat.zero_le _)).1; exact this
theorem a5q {s : List Int} (h : s.length ≤ 4000) : ae9 (ae s 0) := ⟨Nat.le_trans (zf s) h, (zg s.length s 0 (Nat.zero_le _)).2⟩
open Classical in
noncomputable def bz2 (s : List Int) (p i : Int) (L : List Int) (n : Int) (h1 G1 h G : List Int) : Int := if brs s p i L n h1 G1 h G then 1 else 0
open Classical in
noncomputable def bz3 (s : List Int) (p i f a : Int) (h G : List Int) : Int := if brt s p i f a h G then 1 else 0
theorem evx : (∀ (σ : Nat → List Int) (R l h G : GE) (p : SE), (SE.app 110 (.g R (.i p (.g l (.g h (.g G .nil)))))).eval σ = ((tl (R.eval σ) (p.eval σ) (l.eval σ) (h.eval σ) (G.eval σ)).l.length : Int) / 2) ∧
  (∀ (σ : Nat → List Int) (s L h1 G1 h G : GE) (p i n : SE), (SE.app 111 (.g s (.i p (.i i (.g L (.i n (.g h1 (.g G1 (.g h (.g G .nil)))))))))).eval σ = bz2 (s.eval σ) (p.eval σ) (i.eval σ) (L.eval σ) (n.eval σ) (h1.eval σ) (G1.eval σ) (h.eval σ) (G.eval σ)) ∧
  (∀ (σ : Nat → List Int) (s h G : GE) (p i f a : SE), (SE.app 112 (.g s (.i p (.i i (.i f (.i a (.g h (.g G .nil)))))))).eval σ = bz3 (s.eval σ) (p.eval σ) (i.eval σ) (f.eval σ) (a.eval σ) (h.eval σ) (G.eval σ)) ∧
  (∀ (σ : Nat → List Int) (k : IntKind) (a b : SE), (SE.bin 5 k a b).eval σ = a.eval σ % b.eval σ) ∧
  (∀ (σ : Nat → List Int), (GE.app 109 .nil).eval σ = g0L) ∧ (Int.toNat 0 = 0) ∧ (∀ (σ : Nat → List Int) (s : GE), (SE.app 113 (.g s .nil)).eval σ = ptN (s.eval σ)) ∧ (∀ (σ : Nat → List Int) (s : GE), (SE.app 114 (.g s .nil)).eval σ = ptC (s.eval σ)) ∧
  (∀ (σ : Nat → List Int) (l : GE) (i n : SE), (GE.app 110 (.g l (.i i (.i n .nil)))).eval σ = boo (l.eval σ) (i.eval σ) (n.eval σ)) :=
 ⟨fun _ _ _ _ _ _ => rfl, fun _ _ _ _ _ _ _ _ _ _ => rfl, fun _ _ _ _ _ _ _ _ => rfl, fun _ _ _ _ => rfl, fun _ => rfl, rfl, fun _ _ => rfl, fun _ _ => rfl, fun _ _ _ _ => rfl⟩
theorem vo : yr g0L = 62 := by decide +kernel
end Go.Ev
set_option maxRecDepth 100000
set_option linter.all false
namespace Go.Ev
theorem ads : ∀ x : Int, 0 ≤ x → x < 256 → lo8 x = 128 + x % 64 := by
 have h : ∀ x : Fin 256, lo8 ((x.val : Nat) : Int) = 128 + ((x.val : Nat) : Int) % 64 := by decide +kernel
 intro x h0 h1
 have := h ⟨x.toNat, by omega⟩
 rw [show ((x.toNat : Nat) : Int) = x by omega] at this
 exact this
theorem bq6 : ∀ x : Int, 0 ≤ x → x < 16 → kg 9 .u8 224 x = 224 + x := by
 have h : ∀ x : Fin 16, kg 9 .u8 224 ((x.val : Nat) : Int) = 224 + ((x.val : Nat) : Int) := by decide +kernel
 intro x h0 h1
 have := h ⟨x.toNat, by omega⟩
 rw [show ((x.toNat : Nat) : Int) = x by omega] at this
 exact this
theorem bq7 : ∀ x : Int, 0 ≤ x → x < 8 → kg 9 .u8 240 x = 240 + x := by
 have h : ∀ x : Fin 8, kg 9 .u8 240 ((x.val : Nat) : Int) = 240 + ((x.val : Nat) : Int) := by decide +kernel
 intro x h0 h1
 have := h ⟨x.toNat, by omega⟩
 rw [show ((x.toNat : Nat) : Int) = x by omega] at this
 exact this
theorem bq5 : ∀ x : Int, 0 ≤ x → x < 32 → kg 9 .u8 192 x = 192 + x := by
 have h : ∀ x : Fin 32, kg 9 .u8 192 ((x.val : Nat) : Int) = 192 + ((x.val : Nat) : Int) := by decide +kernel
 intro x h0 h1
 have := h ⟨x.toNat, by omega⟩
 rw [show ((x.toNat : Nat) : Int) = x by omega] at this
 exact this
theorem aj2 (x : Int) : IntKind.u8.wrap x = x % 256 := by
 simp only [IntKind.wrap, IntKind.bits, IntKind.signed]; simp
theorem bfq (c : Int) : sh8 c 6 = c / 64 % 256 := by
 show IntKind.u8.wrap (c.fdiv 64) = _
 rw [aj2, Int.fdiv_eq_ediv_of_nonneg _ (by omega)]
theorem baj (c : Int) : sh8 c 12 = c / 4096 % 256 := by
 show IntKind.u8.wrap (c.fdiv 4096) = _
 rw [aj2, Int.fdiv_eq_ediv_of_nonneg _ (by omega)]
theorem bse (c : Int) : sh8 c 18 = c / 262144 % 256 := by
 show IntKind.u8.wrap (c.fdiv 262144) = _
 rw [aj2, Int.fdiv_eq_ediv_of_nonneg _ (by omega)]
theorem amz {c : Int} (h0 : 0 ≤ c) (h1 : c < 1114112) : dh c = Lib.encodeRuneZ c := by
 unfold dh
 by_cases a1 : 127 < c
 ·rw [if_pos a1]
  by_cases a2 : 2047 < c
  ·rw [if_pos a2]
   have e3 : [kg 9 .u8 224 (c / 4096 % 256), lo8 (c / 64 % 256), lo8 (c % 256)] = [224 + c / 4096 % 256, 128 + c / 64 % 64, 128 + c % 64] ∨ 65535 < c := by
    by_cases h : 65535 < c
    ·exact .inr h
    ·refine .inl ?_
     rw [bq6 _ (by omega) (by omega), ads _ (by omega) (by omega), ads _ (by omega) (by omega)]
     congr 2
     ·omega
     ·congr 1; omega
   by_cases a3 : c < 55296
   ·rw [if_pos a3, baj, bfq, aj2, Lib.encodeRuneZ_three (.inl ⟨by omega, a3⟩)]
    rcases e3 with e | e
    ·rw [e]; congr 1; omega
    ·omega
   ·rw [if_neg a3]
    by_cases a4 : 57343 < c
    ·rw [if_pos a4]
     by_cases a5 : 65535 < c
     ·rw [if_pos a5, bse, baj, bfq, aj2, Lib.encodeRuneZ_four (by omega) (by omega), bq7 _ (by omega) (by omega), ads _ (by omega) (by omega), ads _ (by omega) (by omega), ads _ (by omega) (by omega)]
      congr 1
      ·omega
      ·congr 1
       ·omega
       ·congr 1
        ·omega
        ·congr 1; omega
     ·rw [if_neg a5, baj, bfq, aj2, Lib.encodeRuneZ_three (.inr ⟨by omega, by omega⟩)]
      rcases e3 with e | e
      ·rw [e]; congr 1; omega
      ·omega
    ·rw [if_neg a4, Lib.encodeRuneZ_bad (.inr (.inl ⟨by omega, by omega⟩))]
  ·rw [if_neg a2, bfq, aj2, Lib.encodeRuneZ_two (by omega) (by omega), bq5 _ (by omega) (by omega), ads _ (by omega) (by omega)]
   congr 1
   ·omega
   ·congr 1; omega
 ·rw [if_neg a1, Lib.encodeRuneZ_one h0 (by omega)]
def u8L (s : List Int) : List UInt8 := s.map fun x => UInt8.ofNat x.toNat
theorem bnp {l m : List Int} (hl : ax l) (hm : ax m) (h : u8L l = u8L m) : l = m := by
 refine ahi hl hm ?_
 show ByteArray.mk (u8L l).toArray = ByteArray.mk (u8L m).toArray
 rw [h]
theorem a4g (s : List Int) : drJ s 0 = ((Lib.decodeL (u8L s)).1 : Int) := rfl
theorem avf (s : List Int) : dwJ s 0 = ((Lib.decodeL (u8L s)).2 : Int) := rfl
theorem bfc {s : List Int} (h : ax s) (n : Nat) : ax (s.take n) := fun x hx => h x (List.mem_of_mem_take hx)
theorem bfb {s : List Int} (h : ax s) (n : Nat) : ax (s.drop n) := fun x hx => h x (List.mem_of_mem_drop hx)
theorem av3 {s t : List Int} (h : ax s) (h' : ax t) : ax (s ++ t) := fun x hx => (List.mem_append.1 hx).elim (h x) (h' x)
def akm (s : List Int) : Prop := (Lib.decodeL (u8L s)).1 = 65533 ∧ (Lib.decodeL (u8L s)).2 = 1
theorem a7h {s : List Int} (hb : ax s) (hs : s ≠ []) (hv : ¬ akm s) : dh (drJ s 0) = s.take (Lib.decodeL (u8L s)).2 := by
 have e := Lib.encode_decode (u8L s) (by simpa [u8L] using hs) hv
 have hr := Lib.decodeL_rune (u8L s)
 rw [a4g, amz (by omega) (by omega)]
 refine bnp (fun x hx => Lib.encodeRuneZ_byte _ x hx) (bfc hb _) ?_
 have e2 : u8L (Lib.encodeRuneZ ((Lib.decodeL (u8L s)).1 : Int)) = Lib.encodeRune ((Lib.decodeL (u8L s)).1 : Int) := rfl
 rw [e2, e]
 unfold u8L
 rw [List.map_take]
theorem a0e (s : List Int) (n : Nat) : u8L (s.drop n) = (u8L s).drop n := by unfold u8L; rw [List.map_drop]
theorem ajz (s : List Int) : (u8L s).length = s.length := by unfold u8L; rw [List.length_map]
theorem a4o (s : List Int) (i : Nat) : (al s).get! i = (u8L s).getD i 0 := by
 show ((u8L s).toArray).getD i default = _
 rw [Array.getD_eq_getD_getElem?, List.getD_eq_getElem?_getD, zL]; rfl
theorem asb (s : List Int) (p q : Nat) : Utf8.decode (al s) (p + q) = Utf8.decode (al (s.drop p)) q := by
 rw [Lib.decode_at, Lib.decode_at]
 simp only [a4o, a0e]
 have e : ∀ i, ((u8L s).drop p).getD i 0 = (u8L s).getD (p + i) 0 := fun i => by rw [List.getD_eq_getElem?_getD, List.getD_eq_getElem?_getD, List.getElem?_drop]
 rw [e, e, e, e]
 have e2 : (al s).size - (p + q) = (al (s.drop p)).size - q := by
  rw [cy, cy, List.length_drop]; omega
 rw [e2]
 simp only [Nat.add_assoc]
theorem ak7 (s : List Int) (p : Nat) : ∀ (f q : Nat), gx f s (p + q) = gx f (s.drop p) q
 | 0, _ => rfl
 | f + 1, q => by
   unfold gx
   have e : Utf8.decode (pw s) (p + q) = Utf8.decode (pw (s.drop p)) q := asb s p q
   have hl : p + q < s.length ↔ q < (s.drop p).length := by rw [List.length_drop]; omega
   by_cases h : p + q < s.length
   ·rw [if_pos h, if_pos (hl.1 h), e, Nat.add_assoc, ak7 s p f]
   ·rw [if_neg h, if_neg (fun x => h (hl.2 x))]
theorem asa (s : List Int) (p : Nat) : ae s p = ae (s.drop p) 0 := by
 unfold ae
 have := ak7 s p s.length 0
 rw [Nat.add_zero] at this
 rw [this, ada s.length (s.drop p).length (s.drop p) 0 (by rw [List.length_drop]; omega) (by omega)]
theorem ir {s : List Int} (hs : s ≠ []) : ae s 0 = drJ s 0 :: ae (s.drop (Lib.decodeL (u8L s)).2) 0 := by
 have h : 0 < s.length := List.length_pos_iff.2 hs
 have e := vq h
 rw [Nat.zero_add] at e
 rw [e]
 congr 1
 exact asa s _
theorem aml (s : List Int) : ar s = 1 ↔ Lib.validD (u8L s) = true := by
 show (if Lib.validD (u8L s) = true then (1 : Int) else 0) = 1 ↔ _
 by_cases h : Lib.validD (u8L s) = true
 ·rw [if_pos h]; exact ⟨fun _ => h, fun _ => rfl⟩
 ·rw [if_neg h]; exact ⟨fun e => absurd e (by decide), fun e => absurd e h⟩
theorem ut {s : List Int} (hs : s ≠ []) : ar s = 1 ↔ ¬ akm s ∧ ar (s.drop (Lib.decodeL (u8L s)).2) = 1 := by
 rw [aml, aml, a0e, Lib.validD_step (u8L s) (by simpa [u8L] using hs)]
 unfold akm
 by_cases h : (Lib.decodeL (u8L s)).1 = 65533 ∧ (Lib.decodeL (u8L s)).2 = 1
 ·rw [if_pos h]; exact ⟨fun x => absurd x (by decide), fun x => absurd h x.1⟩
 ·rw [if_neg h]; exact ⟨fun x => ⟨h, x⟩, fun x => x.2⟩
end Go.Ev
set_option maxRecDepth 100000
set_option linter.all false
namespace Go.Ev
theorem a7s [Gv] {f nxi nxo i : Nat} {us : List AV} {Li Lo : List HO} {r : TR} (h : ax (Gv.σ i) → aq f (.gv (.str (.s i) []) :: us) nxi Li r nxo Lo) : aq f (.gv (.str (.s i) []) :: us) nxi Li r nxo Lo := by
 intro ρ args w hg hw hc hv
 refine h ?_ ρ args w hg hw hc hv
 have hv2 := hv
 simp only [VRels] at hv2
 obtain ⟨v, vs, e, h1, _⟩ := hv2
 simp only [VRel, GVRel] at h1
 exact h1.2.2
theorem o0 {s : List Int} (h : ax s) (i : Nat) : 0 ≤ s.getD i 0 ∧ s.getD i 0 < 256 := by
 rw [List.getD_eq_getElem?_getD]
 cases hx : s[i]? with
 | none => exact ⟨by decide, by decide⟩
 | some x => exact h x (List.mem_of_getElem? hx)
theorem wy (s : List Int) (h : ax s) (i : Nat) : (((u8L s).getD i 0).toNat : Int) = s.getD i 0 := by
 have hb := o0 h i
 have e : (u8L s).getD i 0 = UInt8.ofNat (s.getD i 0).toNat := by
  unfold u8L
  rw [List.getD_eq_getElem?_getD, List.getD_eq_getElem?_getD, List.getElem?_map]
  cases s[i]? <;> rfl
 rw [e]
 generalize s.getD i 0 = x at *
 have : (UInt8.ofNat x.toNat).toNat = x.toNat := by simp; omega
 rw [this]; omega
theorem cj {s : List Int} (h : ax s) (hs : 0 < s.length) :
  (s.getD 0 0 < 128 → ptN s = 1 ∧ ptC s = s.getD 0 0) ∧
  (194 ≤ s.getD 0 0 ∧ s.getD 0 0 < 224 ∧ 1 < (s.length : Int) ∧ 128 ≤ s.getD 1 0 ∧ s.getD 1 0 < 192 → ptN s = 2 ∧ ptC s = (s.getD 0 0 - 192) * 64 + s.getD 1 0 - 128) ∧
  (224 ≤ s.getD 0 0 ∧ s.getD 0 0 < 240 ∧ 2 < (s.length : Int) ∧ 128 ≤ s.getD 1 0 ∧ s.getD 1 0 < 192 ∧ 128 ≤ s.getD 2 0 ∧ s.getD 2 0 < 192 →
    (2048 ≤ ((s.getD 0 0 - 224) * 64 + s.getD 1 0 - 128) * 64 + s.getD 2 0 - 128 ∧ (((s.getD 0 0 - 224) * 64 + s.getD 1 0 - 128) * 64 + s.getD 2 0 - 128 < 55296 ∨ 57344 ≤ ((s.getD 0 0 - 224) * 64 + s.getD 1 0 - 128) * 64 + s.getD 2 0 - 128) →
      ptN s = 3 ∧ ptC s = ((s.getD 0 0 - 224) * 64 + s.getD 1 0 - 128) * 64 + s.getD 2 0 - 128) ∧
    (¬ (2048 ≤ ((s.getD 0 0 - 224) * 64 + s.getD 1 0 - 128) * 64 + s.getD 2 0 - 128 ∧ (((s.getD 0 0 - 224) * 64 + s.getD 1 0 - 128) * 64 + s.getD 2 0 - 128 < 55296 ∨ 57344 ≤ ((s.getD 0 0 - 224) * 64 + s.getD 1 0 - 128) * 64 + s.getD 2 0 - 128)) → ptN s = 0 ∧ ptC s = 0)) ∧
  (240 ≤ s.getD 0 0 ∧ s.getD 0 0 < 245 ∧ 3 < (s.length : Int) ∧ 128 ≤ s.getD 1 0 ∧ s.getD 1 0 < 192 ∧ 128 ≤ s.getD 2 0 ∧ s.getD 2 0 < 192 ∧ 128 ≤ s.getD 3 0 ∧ s.getD 3 0 < 192 →
    (65536 ≤ (((s.getD 0 0 - 240) * 64 + s.getD 1 0 - 128) * 64 + s.getD 2 0 - 128) * 64 + s.getD 3 0 - 128 ∧ (((s.getD 0 0 - 240) * 64 + s.getD 1 0 - 128) * 64 + s.getD 2 0 - 128) * 64 + s.getD 3 0 - 128 ≤ 1114111 →
      ptN s = 4 ∧ ptC s = (((s.getD 0 0 - 240) * 64 + s.getD 1 0 - 128) * 64 + s.getD 2 0 - 128) * 64 + s.getD 3 0 - 128) ∧
    (¬ (65536 ≤ (((s.getD 0 0 - 240) * 64 + s.getD 1 0 - 128) * 64 + s.getD 2 0 - 128) * 64 + s.getD 3 0 - 128 ∧ (((s.getD 0 0 - 240) * 64 + s.getD 1 0 - 128) * 64 + s.getD 2 0 - 128) * 64 + s.getD 3 0 - 128 ≤ 1114111) → ptN s = 0 ∧ ptC s = 0)) ∧
  (¬ s.getD 0 0 < 128 → ¬ (194 ≤ s.getD 0 0 ∧ s.getD 0 0 < 224 ∧ 1 < (s.length : Int) ∧ 128 ≤ s.getD 1 0 ∧ s.getD 1 0 < 192) → ¬ (224 ≤ s.getD 0 0 ∧ s.getD 0 0 < 240 ∧ 2 < (s.length : Int) ∧ 128 ≤ s.getD 1 0 ∧ s.getD 1 0 < 192 ∧ 128 ≤ s.getD 2 0 ∧ s.getD 2 0 < 192) →
    ¬ (240 ≤ s.getD 0 0 ∧ s.getD 0 0 < 245 ∧ 3 < (s.length : Int) ∧ 128 ≤ s.getD 1 0 ∧ s.getD 1 0 < 192 ∧ 128 ≤ s.getD 2 0 ∧ s.getD 2 0 < 192 ∧ 128 ≤ s.getD 3 0 ∧ s.getD 3 0 < 192) → ptN s = 0 ∧ ptC s = 0) := by
 have g0 := wy s h 0; have g1 := wy s h 1; have g2 := wy s h 2; have g3 := wy s h 3
 have r0 := o0 h 0; have r1 := o0 h 1; have r2 := o0 h 2; have r3 := o0 h 3
 unfold ptN ptC
 rw [a4g, avf, Lib.decodeL_N, ajz]
 generalize ((u8L s).getD 0 0).toNat = b0 at *
 generalize ((u8L s).getD 1 0).toNat = b1 at *
 generalize ((u8L s).getD 2 0).toNat = b2 at *
 generalize ((u8L s).getD 3 0).toNat = b3 at *
 generalize s.length = n at *
 have nob : ∀ c w : Nat, ¬ ((c : Int) = 65533 ∧ (w : Int) ≤ 1) → Lib.decodeN n b0 b1 b2 b3 = (c, w) →
   (if ((Lib.decodeN n b0 b1 b2 b3).1 : Int) = 65533 ∧ ((Lib.decodeN n b0 b1 b2 b3).2 : Int) ≤ 1 then (0 : Int) else ((Lib.decodeN n b0 b1 b2 b3).2 : Int)) = (w : Int) ∧
   (if ((Lib.decodeN n b0 b1 b2 b3).1 : Int) = 65533 ∧ ((Lib.decodeN n b0 b1 b2 b3).2 : Int) ≤ 1 then (0 : Int) else ((Lib.decodeN n b0 b1 b2 b3).1 : Int)) = (c : Int) := fun c w hn e => by
  rw [e]; dsimp only; rw [if_neg hn, if_neg hn]; exact ⟨rfl, rfl⟩
 have bad : Lib.decodeN n b0 b1 b2 b3 = (65533, 1) →
   (if ((Lib.decodeN n b0 b1 b2 b3).1 : Int) = 65533 ∧ ((Lib.decodeN n b0 b1 b2 b3).2 : Int) ≤ 1 then (0 : Int) else ((Lib.decodeN n b0 b1 b2 b3).2 : Int)) = 0 ∧
   (if ((Lib.decodeN n b0 b1 b2 b3).1 : Int) = 65533 ∧ ((Lib.decodeN n b0 b1 b2 b3).2 : Int) ≤ 1 then (0 : Int) else ((Lib.decodeN n b0 b1 b2 b3).1 : Int)) = 0 := fun e => by
  rw [e]; exact ⟨if_pos ⟨rfl, by decide⟩, if_pos ⟨rfl, by decide⟩⟩
 refine ⟨fun c => ?_, fun c => ?_, fun c => ⟨fun d => ?_, fun d => ?_⟩, fun c => ⟨fun d => ?_, fun d => ?_⟩, fun c1 c2 c3 c4 => ?_⟩
 ·have := nob b0 1 (by omega) (by unfold Lib.decodeN; rw [if_pos (by omega)])
  exact ⟨this.1, this.2.trans g0⟩
 ·have := nob (b0 % 32 * 64 + b1 % 64) 2 (by omega) (by unfold Lib.decodeN; rw [if_neg (by omega), if_pos (by omega), if_pos (by omega)])
  exact ⟨this.1, this.2.trans (by omega)⟩
 ·have := nob (b0 % 16 * 4096 + b1 % 64 * 64 + b2 % 64) 3 (by omega) (by unfold Lib.decodeN; rw [if_neg (by omega), if_neg (by omega), if_pos (by omega), if_pos (by omega)])
  exact ⟨this.1, this.2.trans (by omega)⟩
 ·exact bad (by unfold Lib.decodeN; rw [if_neg (by omega), if_neg (by omega), if_pos (by omega), if_neg (by omega)])
 ·have := nob (b0 % 8 * 262144 + b1 % 64 * 4096 + b2 % 64 * 64 + b3 % 64) 4 (by omega) (by unfold Lib.decodeN; rw [if_neg (by omega), if_neg (by omega), if_neg (by omega), if_pos (by omega), if_pos (by omega)])
  exact ⟨this.1, this.2.trans (by omega)⟩
 ·exact bad (by unfold Lib.decodeN; rw [if_neg (by omega), if_neg (by omega), if_neg (by omega), if_pos (by omega), if_neg (by omega)])
 ·refine bad ?_
  unfold Lib.decodeN
  rw [if_neg (by omega)]
  by_cases d1 : b0 / 32 = 6 ∧ (1 < n ∧ b1 / 64 = 2)
  ·rw [if_pos d1, if_neg (by omega)]
  ·rw [if_neg d1]
   by_cases d2 : b0 / 16 = 14 ∧ (1 < n ∧ b1 / 64 = 2) ∧ (2 < n ∧ b2 / 64 = 2)
   ·exfalso; omega
   ·rw [if_neg d2]
    by_cases d3 : b0 / 8 = 30 ∧ (1 < n ∧ b1 / 64 = 2) ∧ (2 < n ∧ b2 / 64 = 2) ∧ (3 < n ∧ b3 / 64 = 2)
    ·rw [if_pos d3, if_neg (by omega)]
    ·rw [if_neg d3]
theorem aag : ∀ (n : Nat) (s : List Int), s.length ≤ n → ar s = 1 → ∀ x ∈ ae s 0, 0 ≤ x ∧ x < 1114112 ∧ ¬ (55296 ≤ x ∧ x ≤ 57343)
 | n, s, hn, hv, x, hx => by
   by_cases hs : s = []
   ·subst hs; cases hx
   ·obtain ⟨v1, v2⟩ := (ut hs).1 hv
    rw [ir hs] at hx
    have hw := Lib.decodeL_width (u8L s)
    have hl := List.length_pos_iff.2 hs
    rcases List.mem_cons.1 hx with rfl | hx
    ·rw [a4g]
     unfold akm at v1
     rw [Lib.decodeL_N] at v1 ⊢
     rcases Lib.decodeN_shape (u8L s).length ((u8L s).getD 0 0).toNat ((u8L s).getD 1 0).toNat ((u8L s).getD 2 0).toNat ((u8L s).getD 3 0).toNat with ⟨c, e⟩ | ⟨c1, c2, c3, cv, e⟩ | ⟨c1, c2, c3, c4, cv, cs, e⟩ | ⟨c1, c2, c3, c4, c5, cv, cw, e⟩ | e
     ·rw [e]; dsimp only; omega
     ·rw [e]; dsimp only; omega
     ·rw [e]; dsimp only; omega
     ·rw [e]; dsimp only; omega
     ·rw [e] at v1; exact absurd ⟨rfl, rfl⟩ v1
    ·cases n with
     | zero => omega
     | succ n => exact aag n _ (by rw [List.length_drop]; omega) v2 x hx
theorem aj0 {s : List Int} (hv : ar s = 1) (i : Nat) (hi : i < (ae s 0).length) : 0 ≤ (ae s 0).getD i 0 ∧ (ae s 0).getD i 0 < 1114112 ∧ ¬ (55296 ≤ (ae s 0).getD i 0 ∧ (ae s 0).getD i 0 ≤ 57343) := by
 have : (ae s 0).getD i 0 ∈ ae s 0 := by
  rw [List.getD_eq_getElem?_getD, zK hi]; exact List.getElem_mem _
 exact aag _ s (zY _) hv _ this
end Go.Ev
set_option maxRecDepth 100000
set_option linter.all false
namespace Go.Ev
def isC (c : Int) : Prop := 0 ≤ c ∧ c ≤ 1114111 ∧ ¬ (55296 ≤ c ∧ c ≤ 57343)
theorem ay8 (c : Int) (h : isC c) : ax (dh c) := by
 obtain ⟨h0, h1, h2⟩ := h
 rw [amz h0 (by omega)]
 exact fun x hx => Lib.encodeRuneZ_byte _ x hx
theorem ay2 {c : Int} (h : isC c) {t : List Int} (ht : ax t) : Lib.decodeL (u8L (dh c ++ t)) = (c.toNat, (dh c).length) := by
 have hb := av3 (ay8 c h) ht
 obtain ⟨h0, h1, h2⟩ := h
 have g0 := wy _ hb 0
 have g1 := wy _ hb 1
 have g2 := wy _ hb 2
 have g3 := wy _ hb 3
 have hl := ajz (dh c ++ t)
 rw [Lib.decodeL_N, hl]
 generalize ((u8L (dh c ++ t)).getD 0 0).toNat = n0 at *
 generalize ((u8L (dh c ++ t)).getD 1 0).toNat = n1 at *
 generalize ((u8L (dh c ++ t)).getD 2 0).toNat = n2 at *
 generalize ((u8L (dh c ++ t)).getD 3 0).toNat = n3 at *
 clear hb hl
 rw [amz h0 (by omega)] at *
 by_cases a1 : c ≤ 127
 ·rw [Lib.encodeRuneZ_one h0 a1] at *
  have g0 : (n0 : Int) = c := g0
  unfold Lib.decodeN
  rw [if_pos (by omega)]
  exact Prod.ext (by show n0 = c.toNat; omega) rfl
 by_cases a2 : c ≤ 2047
 ·rw [Lib.encodeRuneZ_two (by omega) a2] at *
  have g0 : (n0 : Int) = 192 + c / 64 := g0
  have g1 : (n1 : Int) = 128 + c % 64 := g1
  simp only [zJ, zD, zO, zS]
  unfold Lib.decodeN
  rw [if_neg (by omega), if_pos (by omega), if_pos (by omega)]
  exact Prod.ext (by show n0 % 32 * 64 + n1 % 64 = c.toNat; omega) rfl
 by_cases a3 : c ≤ 65535
 ·rw [Lib.encodeRuneZ_three (by omega)] at *
  have g0 : (n0 : Int) = 224 + c / 4096 := g0
  have g1 : (n1 : Int) = 128 + c / 64 % 64 := g1
  have g2 : (n2 : Int) = 128 + c % 64 := g2
  simp only [zJ, zD, zO, zS]
  unfold Lib.decodeN
  rw [if_neg (by omega), if_neg (by omega), if_pos (by omega), if_pos (by omega)]
  exact Prod.ext (by show n0 % 16 * 4096 + n1 % 64 * 64 + n2 % 64 = c.toNat; omega) rfl
 ·rw [Lib.encodeRuneZ_four (by omega) (by omega)] at *
  have g0 : (n0 : Int) = 240 + c / 262144 := g0
  have g1 : (n1 : Int) = 128 + c / 4096 % 64 := g1
  have g2 : (n2 : Int) = 128 + c / 64 % 64 := g2
  have g3 : (n3 : Int) = 128 + c % 64 := g3
  simp only [zJ, zD, zO, zS]
  unfold Lib.decodeN
  rw [if_neg (by omega), if_neg (by omega), if_neg (by omega), if_pos (by omega), if_pos (by omega)]
  exact Prod.ext (by show n0 % 8 * 262144 + n1 % 64 * 4096 + n2 % 64 * 64 + n3 % 64 = c.toNat; omega) rfl
theorem a7g {c : Int} (h : isC c) : 1 ≤ (dh c).length ∧ (dh c).length ≤ 4 := by
 obtain ⟨h0, h1, h2⟩ := h
 rw [amz h0 (by omega)]; exact Lib.encodeRuneZ_length c
theorem ay9 {c : Int} (h : isC c) {t : List Int} (ht : ax t) : ae (dh c ++ t) 0 = c :: ae t 0 ∧ (ar t = 1 → ar (dh c ++ t) = 1) := by
 have hl := a7g h
 have hne : dh c ++ t ≠ [] := by
  intro e
  have := congrArg List.length e
  rw [zP, zS] at this
  omega
 have e := ay2 h ht
 have hd : (dh c ++ t).drop (dh c).length = t := List.drop_left
 have h0 := h.1
 constructor
 ·rw [ir hne, a4g, e, hd]
  congr 1
  show ((c.toNat : Nat) : Int) = c
  omega
 ·intro hv
  rw [ut hne]
  unfold akm
  rw [e, hd]
  refine ⟨?_, hv⟩
  rintro ⟨e1, e2⟩
  have e1 : c.toNat = 65533 := e1
  have e2 : (dh c).length = 1 := e2
  have : c = 65533 := by omega
  subst this
  exact absurd e2 (by decide +kernel)
def Asc (l : List Int) : Prop := ∀ x ∈ l, 0 ≤ x ∧ x < 128
theorem vu {c : Int} (h : c ≤ 127) : dh c = [c] := by unfold dh; rw [if_neg (by omega)]
theorem aat : ∀ (a : List Int), Asc a → ∀ {t : List Int}, ax t → ax (a ++ t) ∧ ae (a ++ t) 0 = a ++ ae t 0 ∧ (ar t = 1 → ar (a ++ t) = 1)
 | [], _, t, ht => ⟨ht, rfl, fun h => h⟩
 | c :: a, ha, t, ht => by
   obtain ⟨i0, i1, i2⟩ := aat a (fun x hx => ha x (zA _ hx)) ht
   obtain ⟨c0, c1⟩ := ha c (List.mem_cons_self ..)
   have hc : isC c := ⟨c0, by omega, by omega⟩
   obtain ⟨k1, k2⟩ := ay9 hc i0
   rw [vu (by omega)] at k1 k2
   refine ⟨?_, ?_, fun h => k2 (i2 h)⟩
   ·exact av3 (s := [c]) (fun x hx => by rw [List.mem_singleton.1 hx]; omega) i0
   ·show ae ([c] ++ (a ++ t)) 0 = _
    rw [k1, i1]; rfl
theorem ue (A X : List Int) (d : Int) : (A ++ d :: X).getD (A.length : Int).toNat 0 = d := by
 rw [Int.toNat_natCast, List.getD_eq_getElem?_getD, List.getElem?_append_right (zY _), Nat.sub_self]; rfl
end Go.Ev
