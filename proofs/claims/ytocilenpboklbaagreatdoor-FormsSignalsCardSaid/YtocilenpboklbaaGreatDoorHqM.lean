import Derived.Test.YtocilenpboklbaaGreatDoorHqE
set_option maxRecDepth 100000
set_option linter.all false
namespace Go.Ev
noncomputable section
noncomputable def a0o : List AV := [hpp, .ptr (K.of 257) 0, .agg [.int .i64 1, vI 3, vI 1, vI 2]]
noncomputable def a0l : List HO := [hH 256 (.s 5), bx 257 111 [.gv (.sl (K.of 258) 6 (.c 62) []), .map (K.of 259)], .mk 258 (.gob (.junk 171)), .mk 259 (.gob (.gmap (.s 4)))]
noncomputable def a0m : List HO := [hH 256 (.s 5), bx 257 111 [.gv (.sl (K.of 258) 6 (.c 62) []), .map (K.of 259)], .mk 258 (.gob (.junk 171)), .mk 259 (.gob (.gmap (.s 4)))]
noncomputable def a0n : TR := .ret (.tuple [.gv (.str (.cat (.app 224 (.i (.v 3) .nil)) (.app 227 (.g (.app 213 (.g (.s 5) (.i (.v 1) (.i (.v 2) .nil)))) (.i (.c 0) .nil)))) []), .int .i64 0])
noncomputable def bl4 : TM := .mk 43 a0o 260 a0l ([.mk false (.app 221 (.g (.s 5) .nil)) (.c 1) true, .mk false (.app 231 (.g (.s 5) .nil)) (.c 1) true, .mk true (.app 213 (.g (.s 5) (.i (.v 1) (.i (.v 2) .nil)))) (.c 0) false, .mk true (.c 20) (.app 213 (.g (.s 5) (.i (.v 1) (.i (.v 2) .nil)))) false, .mk false (.app 232 (.g (.app 213 (.g (.s 5) (.i (.v 1) (.i (.v 2) .nil)))) .nil)) (.c 1) true, .mk true (.v 3) (.c 37) false, .mk true (.c 61) (.v 3) false] ++ []) none a0n 300 a0m
end
noncomputable section
def mLN : SE := .app 213 (.g (.s 5) (.i (.v 1) (.i (.v 2) .nil)))
def mWs : GE := .app 213 (.g (.s 5) (.i (.v 1) (.i (.v 2) .nil)))
def mZ (i : Nat) : SE := .rd mWs (.bin 6 .i64 (.bin 7 .i64 (.c 2) (.c (.ofNat i))) (.c 1))
def mD (i : Nat) : GE := .app 121 (.i (mZ i) .nil)
def mWD : GE := .app 224 (.i (.v 3) .nil)
def mN : Nat → SE
 | 0 => .len mWD
 | i + 1 => .bin 0 .i64 (mN i) (.bin 0 .i64 (.c 2) (.len (mD i)))
def mJ : Nat → SE
 | 0 => .len (mD 0)
 | i + 1 => .bin 6 .i64 (.bin 6 .i64 (mJ i) (.c 2)) (.len (mD (i + 1)))
def bkt (i : Nat) : List SA := [.mk true (.c (.ofNat i)) mLN true, .mk false (.rd mWs (.bin 7 .i64 (.c 2) (.c (.ofNat i)))) (.c 0) true, .mk true (mZ i) (.c (-9223372036854775808)) false, .mk true (.c 9223372036854775807) (mZ i) false,
 .mk true (.c 20000) (.len (mD i)) false, .mk false (.app 228 (.g (mD i) .nil)) (.c 1) true, .mk true (.c 65536) (mN (i + 1)) false]
def mUp : Nat → List SA
 | 0 => []
 | i + 1 => mUp i ++ bkt i
def bbq : Nat → List SA
 | 0 => [.mk false mLN (.c 0) true]
 | L + 1 => [.mk false mLN (.c 0) false, .mk true (.c 9223372036854775807) (.bin 6 .i64 (.c 2) (mJ L)) false, .mk true (.c 9223372036854775807) (.bin 6 .i64 (.len mWD) (.bin 6 .i64 (.c 2) (mJ L))) false]
def mA (L : Nat) (k : List SA) : List SA := [.mk false (.app 221 (.g (.s 5) .nil)) (.c 1) true, .mk false (.app 231 (.g (.s 5) .nil)) (.c 1) true, .mk true (.app 213 (.g (.s 5) (.i (.v 1) (.i (.v 2) .nil)))) (.c 0) false, .mk true (.c 20) (.app 213 (.g (.s 5) (.i (.v 1) (.i (.v 2) .nil)))) false, .mk false (.app 232 (.g (.app 213 (.g (.s 5) (.i (.v 1) (.i (.v 2) .nil)))) .nil)) (.c 1) true, .mk true (.v 3) (.c 37) false, .mk true (.c 61) (.v 3) false] ++ (k ++ ([.mk false (.rd (.s 5) (.c 0)) (.c 0) false, .mk true (.c 1000) mLN false, .mk true (.c 20000) (.len mWD) false, .mk false (.app 228 (.g mWD .nil)) (.c 1) true, .mk true (.c (.ofNat L)) mLN false] ++ (mUp L ++ bbq L)))
def aqx : Nat → List GE
 | 0 => []
 | i + 1 => aqx i ++ [mD (i + 1)]
def mE : Nat → EqL
 | 0 => .g mWD (.cat mWD (.app 227 (.g mWs (.i (.c 0) .nil)))) .nil
 | L + 1 => .g (.cat mWD (.cat (.lit 2 14880) (joG (mD 0) (aqx L)))) (.cat mWD (.app 227 (.g mWs (.i (.c 0) .nil)))) .nil
def kE : List SA := [.mk false (.v 3) (.c 37) true]
def kU : List SA := [.mk false (.v 3) (.c 37) false, .mk false (.v 3) (.c 59) true]
def kN : List SA := [.mk false (.v 3) (.c 37) false, .mk false (.v 3) (.c 59) false]
def mHs : List TM := [a0f, a6e, a6d, bog, bm6, bno, boa, joT 0, joT 1, joT 2, joT 3, joT 4, joT 5, joT 6, joT 7, joT 8, joT 9, joT 10, joT 11, joT 12, joT 13, joT 14, joT 15, joT 16, joT 17, joT 18, joT 19]
def mC (L : Nat) (k : List SA) : Bool := pl [] 260 300 (mE L) a0m a0n (enter (aby (pq (mA L k) mHs) bfl 2000) 43 (aVs (mA L k) a0o) (ai (aHO (mA L k) a0l) 260))
end
theorem hms [Gv] : ∀ t ∈ mHs, bo t := by
 intro t ht
 unfold mHs at ht
 simp only [List.mem_cons, zH, or_false] at ht
 rcases ht with rfl | rfl | rfl | rfl | rfl | rfl | rfl | rfl | rfl | rfl | rfl | rfl | rfl | rfl | rfl | rfl | rfl | rfl | rfl | rfl | rfl | rfl | rfl | rfl | rfl | rfl | rfl
 ·exact abo
 ·exact axi
 ·exact axh
 ·exact bgn
 ·exact bfy
 ·exact bf7
 ·exact bgi
 ·exact jc 0 (by decide)
 ·exact jc 1 (by decide)
 ·exact jc 2 (by decide)
 ·exact jc 3 (by decide)
 ·exact jc 4 (by decide)
 ·exact jc 5 (by decide)
 ·exact jc 6 (by decide)
 ·exact jc 7 (by decide)
 ·exact jc 8 (by decide)
 ·exact jc 9 (by decide)
 ·exact jc 10 (by decide)
 ·exact jc 11 (by decide)
 ·exact jc 12 (by decide)
 ·exact jc 13 (by decide)
 ·exact jc 14 (by decide)
 ·exact jc 15 (by decide)
 ·exact jc 16 (by decide)
 ·exact jc 17 (by decide)
 ·exact jc 18 (by decide)
 ·exact jc 19 (by decide)
theorem boy {σ : Nat → List Int} {g h : GE} (e : (SE.eqg g h).eval σ = 1) : g.eval σ = h.eval σ := by
 by_cases q : g.eval σ = h.eval σ
 ·exact q
 ·have z : (SE.eqg g h).eval σ = 0 := if_neg q
  rw [z] at e; cases e
theorem bbx {σ : Nat → List Int} (h : SAll σ [.mk false (.app 221 (.g (.s 5) .nil)) (.c 1) true, .mk false (.app 231 (.g (.s 5) .nil)) (.c 1) true, .mk true (.app 213 (.g (.s 5) (.i (.v 1) (.i (.v 2) .nil)))) (.c 0) false, .mk true (.c 20) (.app 213 (.g (.s 5) (.i (.v 1) (.i (.v 2) .nil)))) false, .mk false (.app 232 (.g (.app 213 (.g (.s 5) (.i (.v 1) (.i (.v 2) .nil)))) .nil)) (.c 1) true, .mk true (.v 3) (.c 37) false, .mk true (.c 61) (.v 3) false]) : (km (σ 5) ∧ ach (σ 5)) ∧ 0 ≤ jv (σ 5) ((σ 1).headD 0) ((σ 2).headD 0) ∧ jv (σ 5) ((σ 1).headD 0) ((σ 2).headD 0) ≤ 20 ∧
  bbc (ug (σ 5) ((σ 1).headD 0) ((σ 2).headD 0)) ∧ 37 ≤ (σ 3).headD 0 ∧ (σ 3).headD 0 ≤ 61 := by
 obtain ⟨a1, h⟩ := sall_cons.1 h
 obtain ⟨a2, h⟩ := sall_cons.1 h
 obtain ⟨a3, h⟩ := sall_cons.1 h
 obtain ⟨a4, h⟩ := sall_cons.1 h
 obtain ⟨a5, h⟩ := sall_cons.1 h
 obtain ⟨a8, h⟩ := sall_cons.1 h
 obtain ⟨a9, h⟩ := sall_cons.1 h
 exact ⟨⟨s221.1 (sE.1 a1), ite1.1 (sE.1 a2)⟩, sF.1 a3, sF.1 a4, ite1.1 (sE.1 a5), sF.1 a8, sF.1 a9⟩
section
variable [Gv]
structure MsQ (l : List Int) : Prop where
 n : mLN.eval Gv.σ = (l.length : Int)
 m : l.length ≤ 20
 w : mWs.eval Gv.σ = lg l
 r : abw l
theorem a42 {l : List Int} (h : MsQ l) (i : Nat) : (mZ i).eval Gv.σ = l.getD i 0 := by
 show (mWs.eval Gv.σ).getD (2 * ((i : Nat) : Int) + 1).toNat 0 = _
 rw [h.w, show (2 * ((i : Nat) : Int) + 1).toNat = 2 * i + 1 by omega, aqb]
theorem a4x {l : List Int} (h : MsQ l) (i : Nat) : (mD i).eval Gv.σ = ja (l.getD i 0) := by
 show ja ((mZ i).eval Gv.σ) = _
 rw [a42 h]
theorem amt (i : Nat) : 1 ≤ (SE.len (mD i)).eval Gv.σ ∧ (SE.len (mD i)).eval Gv.σ ≤ 21 := acv (mZ i)
theorem bbp : ∀ i : Nat, i ≤ 20 → 0 ≤ (mN i).eval Gv.σ ∧ (mN i).eval Gv.σ ≤ 60 + 23 * (i : Int)
 | 0, _ => by
   have h1 : (mN 0).eval Gv.σ = ((mWD.eval Gv.σ).length : Int) := rfl
   have h2 : ((mWD.eval Gv.σ).length : Int) ≤ 60 := nh (.v 3)
   rw [h1]; omega
 | i + 1, hi => by
   have ih := bbp i (by omega)
   have h2 := amt i
   show 0 ≤ IntKind.i64.wrap ((mN i).eval Gv.σ + IntKind.i64.wrap (2 + (SE.len (mD i)).eval Gv.σ)) ∧ IntKind.i64.wrap ((mN i).eval Gv.σ + IntKind.i64.wrap (2 + (SE.len (mD i)).eval Gv.σ)) ≤ _
   rw [aiw (x := 2 + (SE.len (mD i)).eval Gv.σ) (by omega), aiw (by omega)]
   omega
theorem bbo : ∀ i : Nat, i ≤ 20 → 0 ≤ (mJ i).eval Gv.σ ∧ (mJ i).eval Gv.σ ≤ 21 + 23 * (i : Int)
 | 0, _ => by
   have h1 : (mJ 0).eval Gv.σ = (SE.len (mD 0)).eval Gv.σ := rfl
   have h2 := amt 0
   rw [h1]; omega
 | i + 1, hi => by
   have ih := bbo i (by omega)
   have h2 := amt (i + 1)
   show 0 ≤ (mJ i).eval Gv.σ + 2 + (SE.len (mD (i + 1))).eval Gv.σ ∧ (mJ i).eval Gv.σ + 2 + (SE.len (mD (i + 1))).eval Gv.σ ≤ _
   omega
theorem a9j {l : List Int} (h : MsQ l) {i : Nat} (hi : i < l.length) : SAll Gv.σ (bkt i) := by
 have r := axb h.r i
 have d := amt i
 have n := bbp (i + 1) (by have := h.m; omega)
 have hk : (SE.rd mWs (.bin 7 .i64 (.c 2) (.c (.ofNat i)))).eval Gv.σ = 0 := by
  show (mWs.eval Gv.σ).getD (2 * ((i : Nat) : Int)).toNat 0 = _
  rw [h.w, show (2 * ((i : Nat) : Int)).toNat = 2 * i by omega, akc]
 refine sc (ata ?_) (sc (wy hk) (sc (ow ?_) (sc (ow ?_) (sc (ow ?_) (sc (wy ?_) (sc (ow ?_) SAll.nil))))))
 ·rw [h.n]; show ((i : Nat) : Int) < _; omega
 ·rw [a42 h]; simp only [SE.eval]; omega
 ·rw [a42 h]; simp only [SE.eval]; omega
 ·simp only [evs] at d ⊢; omega
 ·show azq ((mD i).eval Gv.σ) = 1
  rw [a4x h]; exact ao _
 ·have e : (SE.c 65536).eval Gv.σ = 65536 := rfl
  rw [e]; have := h.m; omega
theorem a40 {l : List Int} (h : MsQ l) : ∀ L : Nat, L ≤ l.length → SAll Gv.σ (mUp L)
 | 0, _ => SAll.nil
 | L + 1, hL => ka (a40 h L (by omega)) (a9j h (by omega))
theorem a4z {l : List Int} (h : MsQ l) : ∀ L : Nat, L = l.length → SAll Gv.σ (bbq L)
 | 0, hL => sc (wy (by rw [h.n, ← hL]; rfl)) SAll.nil
 | L + 1, hL => by
   have j := bbo L (by have := h.m; omega)
   have h2 : (SE.len mWD).eval Gv.σ ≤ 60 := nh (.v 3)
   have m := h.m
   refine sc (zu ?_) (sc (ow ?_) (sc (ow ?_) SAll.nil))
   ·rw [h.n]; simp only [SE.eval]; omega
   ·show ¬ (9223372036854775807 : Int) < 2 + (mJ L).eval Gv.σ; omega
   ·show ¬ (9223372036854775807 : Int) < (SE.len mWD).eval Gv.σ + (2 + (mJ L).eval Gv.σ); omega
theorem bkr {l : List Int} (h : MsQ l) (hI : SAll Gv.σ [.mk false (.app 221 (.g (.s 5) .nil)) (.c 1) true, .mk false (.app 231 (.g (.s 5) .nil)) (.c 1) true, .mk true (.app 213 (.g (.s 5) (.i (.v 1) (.i (.v 2) .nil)))) (.c 0) false, .mk true (.c 20) (.app 213 (.g (.s 5) (.i (.v 1) (.i (.v 2) .nil)))) false, .mk false (.app 232 (.g (.app 213 (.g (.s 5) (.i (.v 1) (.i (.v 2) .nil)))) .nil)) (.c 1) true, .mk true (.v 3) (.c 37) false, .mk true (.c 61) (.v 3) false]) {k : List SA} (hk : SAll Gv.σ k) (L : Nat) (hL : L = l.length) : SAll Gv.σ (mA L k) := by
 have h2 : (SE.len mWD).eval Gv.σ ≤ 60 := nh (.v 3)
 have m := h.m
 obtain ⟨⟨hP, _⟩, _⟩ := bbx hI
 obtain ⟨p1, p2, p3, p4⟩ := oz hP
 refine ka hI (ka hk (ka (sc (zu ?_) (sc (ow ?_) (sc (ow ?_) (sc (wy ?_) (sc (ow ?_) SAll.nil))))) (ka (a40 h L (by omega)) (a4z h L hL))))
 ·simp only [evs]; omega
 ·rw [h.n]; simp only [SE.eval]; omega
 ·simp only [evs] at h2 ⊢; omega
 ·show azq (gc _) = 1; exact av _
 ·rw [h.n]; show ¬ ((L : Nat) : Int) < _; omega
theorem aqf : ∀ l : List Int, jnF false l = (l.map fun z => [44, 32] ++ ja z).flatten
 | [] => rfl
 | z :: l => by
   rw [List.map_cons, List.flatten_cons, ← aqf l, List.append_assoc]; rfl
theorem aqy {z : Int} {l : List Int} (h : MsQ (z :: l)) : ∀ j : Nat, j ≤ l.length → ((aqx j).map fun g => [44, 32] ++ g.eval Gv.σ) = (l.take j).map fun z => [44, 32] ++ ja z
 | 0, _ => rfl
 | j + 1, hj => by
   have e : l.take (j + 1) = l.take j ++ [l.getD j 0] := by
    rw [List.take_add_one, zK (by omega), List.getD_eq_getElem?_getD, zK (by omega)]; rfl
   rw [aqx, List.map_append, aqy h j (by omega), e, List.map_append]
   congr 1
   show [[44, 32] ++ (mD (j + 1)).eval Gv.σ] = [[44, 32] ++ ja (l.getD j 0)]
   rw [a4x h]; rfl
theorem bbr {l : List Int} (h : MsQ l) : (GE.app 227 (.g mWs (.i (.c 0) .nil))).eval Gv.σ = jnF true l := by
 show jnW true ((mWs.eval Gv.σ).drop 0) = _
 rw [List.drop_zero, h.w, aml]
theorem bks {l : List Int} (h : MsQ l) : ∀ L : Nat, L = l.length → (mE L).all Gv.σ
 | 0, hL => by
   refine ⟨?_, trivial⟩
   show mWD.eval Gv.σ = mWD.eval Gv.σ ++ (GE.app 227 (.g mWs (.i (.c 0) .nil))).eval Gv.σ
   rw [bbr h, List.eq_nil_of_length_eq_zero hL.symm]
   show _ = _ ++ []
   rw [List.append_nil]
 | L + 1, hL => by
   refine ⟨?_, trivial⟩
   show mWD.eval Gv.σ ++ ((GE.lit 2 14880).eval Gv.σ ++ (joG (mD 0) (aqx L)).eval Gv.σ) = mWD.eval Gv.σ ++ (GE.app 227 (.g mWs (.i (.c 0) .nil))).eval Gv.σ
   congr 1
   rw [bbr h, wz]
   cases l with
   | nil => cases hL
   | cons z l =>
     have hL : L = l.length := by simpa using hL
     rw [aqy h L (by omega), a4x h, hL, List.take_length, ← aqf]
     rfl
theorem bku {L : Nat} {k : List SA} (h : mC L k = true) (hA : SAll Gv.σ (mA L k)) (hE : (mE L).all Gv.σ) : br 43 a0o 260 a0l a0n 300 a0m :=
 ak (n := 2000) (cv hA _ hms) al hA hE rfl rfl h
end
end Go.Ev
