import Derived.Test.YtocilenpboklbaaGreatDoorHpY
set_option maxRecDepth 100000
set_option linter.all false
namespace Go.Ev
abbrev ei : SE := .c (-9223372036854775808)
abbrev ej : SE := .c 9223372036854775807
abbrev ec : GE := .one (.c 300)
abbrev arw : GE := .cat (.one (.c 1)) (.cat (.one (.c 10)) (.cat (.one (.c 1)) ec))
abbrev bt : AL := .i (.c 1) (.i (.c 0) .nil)
abbrev bn : AL := .i (.c 0) (.g .nil (.g .nil (.i (.c (-1)) (.i (.c 0) .nil))))
abbrev yw : GE := .cat (.one (.c 1)) (.one (.c 100))
abbrev tz : AL := .g ec .nil
abbrev wu : SE := .rd ec (.c 0)
abbrev tr : SE := .app 201 tz
abbrev ahw : GE := .cat (.one (.c 1)) (.one (.c 11))
abbrev arv : GE := .app 214 (.i (.c 200) (.i (.c 0) .nil))
abbrev ahx : SE := .len arv
abbrev ahy : AL := .g ec bt
abbrev aar : AL := .g (.app 213 ahy) bn
noncomputable section
def xA : SE := (.bin 5 .i64 (.v 1) (.c 61))
def xB : SE := (.bin 5 .i64 (.v 2) (.c 61))
def xC : SE := (.bin 5 .i64 (.v 4) (.c 300))
end
theorem ax6 (x : Int) {n : Int} (h : 0 < n) : 0 ≤ x.emod n ∧ x.emod n < n := ⟨Int.emod_nonneg x (by omega), Int.emod_lt_of_pos x h⟩
theorem fxC {σ : Nat → List Int} : 0 ≤ xC.eval σ ∧ xC.eval σ < 300 := by
 show 0 ≤ ((σ 4).headD 0).emod 300 ∧ ((σ 4).headD 0).emod 300 < 300
 exact ax6 _ (by omega)
theorem fxA {σ : Nat → List Int} : 0 ≤ xA.eval σ ∧ xA.eval σ ≤ 60 := by
 have h := ax6 ((σ 1).headD 0) (n := 61) (by omega)
 have e : xA.eval σ = ((σ 1).headD 0).emod 61 := rfl
 omega
theorem fxB {σ : Nat → List Int} : 0 ≤ xB.eval σ ∧ xB.eval σ ≤ 60 := by
 have h := ax6 ((σ 2).headD 0) (n := 61) (by omega)
 have e : xB.eval σ = ((σ 2).headD 0).emod 61 := rfl
 omega
theorem av3 {σ : Nat → List Int} {a b : Bool} (h : SAll σ [.mk true (.v 1) ei false, .mk true ej (.v 1) false, .mk true (.v 2) ei false, .mk true ej (.v 2) false, .mk true (.v 4) ei false, .mk true ej (.v 4) false, .mk false xA (.c 0) a, .mk false xB (.c 0) b, .mk true xA (.c 0) false, .mk true (.c 60) xA false, .mk true xB (.c 0) false, .mk true (.c 60) xB false]) : -9223372036854775808 ≤ (σ 1).headD 0 ∧ (σ 1).headD 0 ≤ 9223372036854775807 ∧ -9223372036854775808 ≤ (σ 2).headD 0 ∧ (σ 2).headD 0 ≤ 9223372036854775807 ∧ -9223372036854775808 ≤ (σ 4).headD 0 ∧ (σ 4).headD 0 ≤ 9223372036854775807 ∧ decide (xA.eval σ = 0) = a ∧ decide (xB.eval σ = 0) = b ∧ True := by
 obtain ⟨a1, h⟩ := sall_cons.1 h
 obtain ⟨a2, h⟩ := sall_cons.1 h
 obtain ⟨a3, h⟩ := sall_cons.1 h
 obtain ⟨a4, h⟩ := sall_cons.1 h
 obtain ⟨a5, h⟩ := sall_cons.1 h
 obtain ⟨a6, h⟩ := sall_cons.1 h
 obtain ⟨a7, h⟩ := sall_cons.1 h
 obtain ⟨a8, h⟩ := sall_cons.1 h
 exact ⟨sF.1 a1, sF.1 a2, sF.1 a3, sF.1 a4, sF.1 a5, sF.1 a6, a7, a8, trivial⟩
theorem al5 {σ : Nat → List Int} (b n : SE) : 0 ≤ n.eval σ → ((fj (b.eval σ) (n.eval σ)).length : Int) = 2 * n.eval σ := fun h => pj h
theorem af : ∀ b n : Int, 0 ≤ n → ((fj b n).length : Int) = 2 * n := fun _ _ h => pj h
theorem ev0 : ((0 : Nat) : Int) = 0 ∧ (∀ a b : Nat, ((a + b : Nat) : Int) = (a : Int) + b) := ⟨rfl, fun _ _ => rfl⟩
theorem hlw [Gv] : ∀ t ∈ [bnk, bm7, bnd, bm9, bm8, be6, be4, be5, ay0, ay1, ay2, ay3], de t := by
 intro t ht
 simp only [List.mem_cons, zJ, or_false] at ht
 rcases ht with rfl | rfl | rfl | rfl | rfl | rfl | rfl | rfl | rfl | rfl | rfl | rfl
 ·exact bej
 ·exact bdr
 ·exact bd8
 ·exact bdv
 ·exact bdu
 ·exact a21
 ·exact a2y
 ·exact a2z
 ·exact au7
 ·exact au8
 ·exact au9
 ·exact ava
theorem hlo [Gv] : ∀ t ∈ [bef, bnk, bm7, bnd, bm9, bm8, be6, be4, be5, ay0, ay1, ay2, ay3], de t := by
 intro t ht
 simp only [List.mem_cons, zJ, or_false] at ht
 rcases ht with rfl | rfl | rfl | rfl | rfl | rfl | rfl | rfl | rfl | rfl | rfl | rfl | rfl
 ·exact bni
 ·exact bej
 ·exact bdr
 ·exact bd8
 ·exact bdv
 ·exact bdu
 ·exact a21
 ·exact a2y
 ·exact a2z
 ·exact au7
 ·exact au8
 ·exact au9
 ·exact ava
theorem hlt [Gv] : ∀ t ∈ [bbx, bbt, bct, bcp, bb7, bc3, bjs, bju, bjo, bjq], ar t := by
 intro t ht
 simp only [List.mem_cons, zJ, or_false] at ht
 rcases ht with rfl | rfl | rfl | rfl | rfl | rfl | rfl | rfl | rfl | rfl
 ·exact bb0
 ·exact bbw
 ·exact bcw
 ·exact bcs
 ·exact a09
 ·exact a1h
 ·exact bgz
 ·exact bg1
 ·exact bgv
 ·exact bgx
theorem hlf [Gv] : ∀ t ∈ [bbp, bbl, bcl, bch, bb1, bcx, bjr, bjt, bjn, bjp], ar t := by
 intro t ht
 simp only [List.mem_cons, zJ, or_false] at ht
 rcases ht with rfl | rfl | rfl | rfl | rfl | rfl | rfl | rfl | rfl | rfl
 ·exact bbs
 ·exact bbo
 ·exact bco
 ·exact bck
 ·exact a08
 ·exact a1g
 ·exact bgy
 ·exact bg0
 ·exact bgu
 ·exact bgw
noncomputable def w00t_R1 : GE := arw
noncomputable def w00t_H1 : GE := (.app 210 (.i (.c 2) (.g ec (.g w00t_R1 bt))))
noncomputable def ap1 : SE := (.app 211 (.i (.c 2) (.g ec (.g w00t_R1 bt))))
noncomputable def ap3 : SE := (.app 212 (.i (.c 2) (.g ec (.g w00t_R1 bt))))
noncomputable def aad : GE := (.app 213 (.g w00t_H1 (.i ap1 (.i ap3 .nil))))
noncomputable def agq : SE := (.app 213 (.g w00t_H1 (.i ap1 (.i ap3 .nil))))
noncomputable def a3k : SE := (.app 218 (.g aad bn))
noncomputable def a3n : SE := (.app 219 (.g aad bn))
noncomputable def a3m : SE := (.app 220 (.g aad bn))
noncomputable def a3j : GE := (.app 218 (.g aad bn))
noncomputable def a3o : GE := (.app 219 (.g aad bn))
noncomputable def w00t_R2 : GE := (.cat w00t_R1 yw)
noncomputable def w00t_H2 : GE := (.app 210 (.i (.c 3) (.g w00t_H1 (.g w00t_R2 bt))))
noncomputable def ap2 : SE := (.app 211 (.i (.c 3) (.g w00t_H1 (.g w00t_R2 bt))))
noncomputable def ap4 : SE := (.app 212 (.i (.c 3) (.g w00t_H1 (.g w00t_R2 bt))))
noncomputable def ap5 : GE := (.app 213 (.g w00t_H2 (.i ap2 (.i ap4 .nil))))
noncomputable def agr : SE := (.app 213 (.g w00t_H2 (.i ap2 (.i ap4 .nil))))
noncomputable def a3l : SE := (.app 218 (.g ap5 bn))
noncomputable def bri : List AV := [vI 1, vI 2, .bool true, vI 4]
noncomputable def brf : List HO := []
noncomputable def brg : List HO := []
noncomputable def brh : TR := .ret (.bool true)
def bre [Gv] : Prop := (SAll Gv.σ [] → cm 7 bri 256 brf brh 256 brg)
theorem bmo [Gv] (hI : SAll Gv.σ [.mk true (.v 1) ei false, .mk true ej (.v 1) false, .mk true (.v 2) ei false, .mk true ej (.v 2) false, .mk true (.v 4) ei false, .mk true ej (.v 4) false, .mk false xA (.c 0) true, .mk false xB (.c 0) true, .mk true xA (.c 0) false, .mk true (.c 60) xA false, .mk true xB (.c 0) false, .mk true (.c 60) xB false]) : bre := by
 obtain ⟨v1, v2, v3, v4, v5, v6, zA, zB, _⟩ := av3 (a := true) (b := true) hI
 obtain ⟨c1, c2⟩ := fxC (σ := Gv.σ)
 obtain ⟨a1, a2⟩ := fxA (σ := Gv.σ)
 obtain ⟨b1, b2⟩ := fxB (σ := Gv.σ)
 have zA : xA.eval Gv.σ = 0 := of_decide_eq_true zA
 have zB : xB.eval Gv.σ = 0 := of_decide_eq_true zB
 have ha : 0 ≤ (0 : Int) ∧ (0 : Int) ≤ 60 := by omega
 have hb : 0 ≤ (0 : Int) ∧ (0 : Int) ≤ 60 := by omega
 have m0 : co [300] = 0 := rfl
 have d0 : ([300] : List Int).getD (0 : Int).toNat 0 = 300 := rfl
 have k0 : hpN [300] = 1 := qi aa2
 have hn : ea (0 : Int) (0 : Int) 1 = (0 : Int) + (if 0 < (0 : Int) then 1 + (0 : Int) else 0) + 2 := rfl
 simp (disch := omega) only [if_pos, if_neg] at hn
 have hR1 : w00t_R1.eval Gv.σ = du (0 : Int) (0 : Int) 1 := by simp (disch := omega) only [w00t_R1, evs, du, if_pos, if_neg, List.append_assoc, zK, zF, List.append_nil, md]
 have hN1 : ((.c 2) : SE).eval Gv.σ = ea (0 : Int) (0 : Int) 1 := by first | (simp only [evs]; omega) | omega | (rw [hn]; rfl)
 obtain ⟨f1, f2, f3, f4, f5, f6, f7, f8, f9, f10, f11⟩ := oq (σ := Gv.σ) (R := w00t_R1) (H := w00t_H1) (S := aad) (PN := a3j) (PM := a3o) (N := (.c 2)) (K := ap1) (M := ap3) (LN := agq) (PE := a3k) (PR := a3n) (PP := a3m) (a := (0 : Int)) (b := (0 : Int)) (c := 1) rfl rfl rfl rfl rfl rfl rfl rfl rfl rfl ha hb hR1 hN1
 have k1 : hpN (w00t_H1.eval Gv.σ) = 1 := qi f1
 have hc : aaw 1 = 300 := rfl
 have hp : qk (0 : Int) 1 = (if 1 = 1 then 3 else if 0 < (0 : Int) then 1 else 0) := rfl
 simp (disch := omega) only [if_pos, if_neg] at hp
 have hR2 : w00t_R2.eval Gv.σ = du (0 : Int) (0 : Int) 1 ++ [1, 100] := by simp (disch := omega) only [w00t_R2, w00t_R1, evs, du, if_pos, if_neg, List.append_assoc, zK, zF, List.append_nil, md]
 have hN2 : ((.c 3) : SE).eval Gv.σ = ea (0 : Int) (0 : Int) 1 + 1 := by first | (simp only [evs]; omega) | omega | (rw [hn]; rfl)
 obtain ⟨g1, g2, g3⟩ := j5 (σ := Gv.σ) (R := w00t_R2) (H := w00t_H2) (H0 := w00t_H1) (S := ap5) (N := (.c 3)) (K := ap2) (M := ap4) (LN := agr) (a := (0 : Int)) (b := (0 : Int)) (c := 1) rfl rfl rfl rfl rfl ha hb f1 f2 f3 hR2 hN2
 have k2 : hpN (w00t_H2.eval Gv.σ) = 1 := qi g1
 have g4 := zv (σ := Gv.σ) (S := ap5) (PE := a3l) (a := (0 : Int)) (b := (0 : Int)) (c := 1) rfl ha hb (by omega) g3
 have hI := sc (bE (.app 221 tz) (.c 1) (by first | (simp (disch := omega) only [evs, wr, zP, zO, zD, af, ev0] <;> omega) | omega)) hI
 have hI := sc (bF wu (.bin 6 .i64 tr (.c 2)) (by first | (simp (disch := omega) only [evs, wr, zP, zO, zD, af, ev0] <;> omega) | omega)) hI
 have hI := sc (bE (.app 221 (.g w00t_H1 .nil)) (.c 1) (by first | (simp (disch := omega) only [evs, wr, zP, zO, zD, af, ev0] <;> omega) | omega)) hI
 have hI := sc (bF agq (.c 0) (by first | (simp (disch := omega) only [evs, wr, zP, zO, zD, af, ev0] <;> omega) | omega)) hI
 have hI := sc (bF (.c 1000) agq (by first | (simp (disch := omega) only [evs, wr, zP, zO, zD, af, ev0] <;> omega) | omega)) hI
 have hI := sc (bF (.c 255) agq (by first | (simp (disch := omega) only [evs, wr, zP, zO, zD, af, ev0] <;> omega) | omega)) hI
 have hI := sc (bE a3k (.c 0) (by first | (simp (disch := omega) only [evs, wr, zP, zO, zD, af, ev0] <;> omega) | omega)) hI
 have hI := sc (bN a3m (.c 2) (by first | (simp (disch := omega) only [evs, wr, zP, zO, zD, af, ev0] <;> omega) | omega)) hI
 have hI := sc (bE (.len a3j) (.c 0) (by first | (simp (disch := omega) only [evs, wr, zP, zO, zD, af, ev0] <;> omega) | omega)) hI
 have hI := sc (bE (.len a3o) (.c 0) (by first | (simp (disch := omega) only [evs, wr, zP, zO, zD, af, ev0] <;> omega) | omega)) hI
 have hI := sc (bE a3n (.c 300) (by first | (simp (disch := omega) only [evs, wr, zP, zO, zD, af, ev0] <;> omega) | omega)) hI
 have hI := sc (bF (.rd w00t_H1 (.c 0)) (.bin 6 .i64 (.app 201 (.g w00t_H1 .nil)) (.c 3)) (by first | (simp (disch := omega) only [evs, wr, zP, zO, zD, af, ev0] <;> omega) | omega)) hI
 have hI := sc (bE (.app 221 (.g w00t_H2 .nil)) (.c 1) (by first | (simp (disch := omega) only [evs, wr, zP, zO, zD, af, ev0] <;> omega) | omega)) hI
 have hI := sc (bF agr (.c 0) (by first | (simp (disch := omega) only [evs, wr, zP, zO, zD, af, ev0] <;> omega) | omega)) hI
 have hI := sc (bF (.c 1000) agr (by first | (simp (disch := omega) only [evs, wr, zP, zO, zD, af, ev0] <;> omega) | omega)) hI
 have hI := sc (bF (.c 255) agr (by first | (simp (disch := omega) only [evs, wr, zP, zO, zD, af, ev0] <;> omega) | omega)) hI
 have hI := sc (bN a3l (.c 0) (by first | (simp (disch := omega) only [evs, wr, zP, zO, zD, af, ev0] <;> omega) | omega)) hI
 have hI := sc (bF xC (.c 0) (by first | (simp (disch := omega) only [evs, wr, zP, zO, zD, af, ev0] <;> omega) | omega)) hI
 have u := zA
 exact zm0 [] (zh hI hlo) (zp hI hlt) hI
noncomputable def kw : SE := (.bin 6 .i64 (.bin 6 .i64 (.c 1) xB) (.c 2))
noncomputable def w01t_R1 : GE := (.cat (.cat ahw (.app 214 (.i (.c 200) (.i xB .nil)))) arw)
noncomputable def w01t_H1 : GE := (.app 210 (.i kw (.g ec (.g w01t_R1 bt))))
noncomputable def aqb : SE := (.app 211 (.i kw (.g ec (.g w01t_R1 bt))))
noncomputable def aqd : SE := (.app 212 (.i kw (.g ec (.g w01t_R1 bt))))
noncomputable def aaf : GE := (.app 213 (.g w01t_H1 (.i aqb (.i aqd .nil))))
noncomputable def agu : SE := (.app 213 (.g w01t_H1 (.i aqb (.i aqd .nil))))
noncomputable def a3x : SE := (.app 218 (.g aaf bn))
noncomputable def a30 : SE := (.app 219 (.g aaf bn))
noncomputable def a3z : SE := (.app 220 (.g aaf bn))
noncomputable def a3w : GE := (.app 218 (.g aaf bn))
noncomputable def w01t_Y1 : GE := (.app 219 (.g aaf bn))
noncomputable def nw : SE := (.bin 6 .i64 (.bin 6 .i64 (.c 1) xB) (.c 3))
noncomputable def w01t_R2 : GE := (.cat w01t_R1 yw)
noncomputable def w01t_H2 : GE := (.app 210 (.i nw (.g w01t_H1 (.g w01t_R2 bt))))
noncomputable def aqc : SE := (.app 211 (.i nw (.g w01t_H1 (.g w01t_R2 bt))))
noncomputable def aqe : SE := (.app 212 (.i nw (.g w01t_H1 (.g w01t_R2 bt))))
noncomputable def aqf : GE := (.app 213 (.g w01t_H2 (.i aqc (.i aqe .nil))))
noncomputable def agv : SE := (.app 213 (.g w01t_H2 (.i aqc (.i aqe .nil))))
noncomputable def a3y : SE := (.app 218 (.g aqf bn))
noncomputable def brs : List AV := [vI 1, vI 2, .bool true, vI 4]
noncomputable def brp : List HO := []
noncomputable def brq : List HO := []
noncomputable def brr : TR := .ret (.bool true)
def bro [Gv] : Prop := (SAll Gv.σ [] → cm 7 brs 256 brp brr 256 brq)
theorem bmq [Gv] (hI : SAll Gv.σ [.mk true (.v 1) ei false, .mk true ej (.v 1) false, .mk true (.v 2) ei false, .mk true ej (.v 2) false, .mk true (.v 4) ei false, .mk true ej (.v 4) false, .mk false xA (.c 0) true, .mk false xB (.c 0) false, .mk true xA (.c 0) false, .mk true (.c 60) xA false, .mk true xB (.c 0) false, .mk true (.c 60) xB false]) : bro := by
 obtain ⟨v1, v2, v3, v4, v5, v6, zA, zB, _⟩ := av3 (a := true) (b := false) hI
 obtain ⟨c1, c2⟩ := fxC (σ := Gv.σ)
 obtain ⟨a1, a2⟩ := fxA (σ := Gv.σ)
 obtain ⟨b1, b2⟩ := fxB (σ := Gv.σ)
 have zA : xA.eval Gv.σ = 0 := of_decide_eq_true zA
 have zB : ¬ xB.eval Gv.σ = 0 := of_decide_eq_false zB
 have ha : 0 ≤ (0 : Int) ∧ (0 : Int) ≤ 60 := by omega
 have hb : 0 ≤ (xB.eval Gv.σ) ∧ (xB.eval Gv.σ) ≤ 60 := by omega
 have m0 : co [300] = 0 := rfl
 have d0 : ([300] : List Int).getD (0 : Int).toNat 0 = 300 := rfl
 have k0 : hpN [300] = 1 := qi aa2
 have hn : ea (0 : Int) (xB.eval Gv.σ) 1 = (0 : Int) + (if 0 < (xB.eval Gv.σ) then 1 + (xB.eval Gv.σ) else 0) + 2 := rfl
 simp (disch := omega) only [if_pos, if_neg] at hn
 have hR1 : w01t_R1.eval Gv.σ = du (0 : Int) (xB.eval Gv.σ) 1 := by simp (disch := omega) only [w01t_R1, evs, du, if_pos, if_neg, List.append_assoc, zK, zF, List.append_nil, md]
 have hN1 : (kw : SE).eval Gv.σ = ea (0 : Int) (xB.eval Gv.σ) 1 := by first | (simp only [kw, evs]; omega) | omega | (rw [hn]; rfl)
 obtain ⟨f1, f2, f3, f4, f5, f6, f7, f8, f9, f10, f11⟩ := oq (σ := Gv.σ) (R := w01t_R1) (H := w01t_H1) (S := aaf) (PN := a3w) (PM := w01t_Y1) (N := kw) (K := aqb) (M := aqd) (LN := agu) (PE := a3x) (PR := a30) (PP := a3z) (a := (0 : Int)) (b := (xB.eval Gv.σ)) (c := 1) rfl rfl rfl rfl rfl rfl rfl rfl rfl rfl ha hb hR1 hN1
 have k1 : hpN (w01t_H1.eval Gv.σ) = 1 := qi f1
 have q2 : (if w01t_Y1.eval Gv.σ = seqR 200 (xB.eval Gv.σ) then (1 : Int) else 0) = 1 := if_pos f9
 have hc : aaw 1 = 300 := rfl
 have hp : qk (xB.eval Gv.σ) 1 = (if 1 = 1 then 3 else if 0 < (xB.eval Gv.σ) then 1 else 0) := rfl
 simp (disch := omega) only [if_pos, if_neg] at hp
 have hR2 : w01t_R2.eval Gv.σ = du (0 : Int) (xB.eval Gv.σ) 1 ++ [1, 100] := by simp (disch := omega) only [w01t_R2, w01t_R1, evs, du, if_pos, if_neg, List.append_assoc, zK, zF, List.append_nil, md]
 have hN2 : (nw : SE).eval Gv.σ = ea (0 : Int) (xB.eval Gv.σ) 1 + 1 := by first | (simp only [nw, kw, evs]; omega) | omega | (rw [hn]; rfl)
 obtain ⟨g1, g2, g3⟩ := j5 (σ := Gv.σ) (R := w01t_R2) (H := w01t_H2) (H0 := w01t_H1) (S := aqf) (N := nw) (K := aqc) (M := aqe) (LN := agv) (a := (0 : Int)) (b := (xB.eval Gv.σ)) (c := 1) rfl rfl rfl rfl rfl ha hb f1 f2 f3 hR2 hN2
 have k2 : hpN (w01t_H2.eval Gv.σ) = 1 := qi g1
 have g4 := zv (σ := Gv.σ) (S := aqf) (PE := a3y) (a := (0 : Int)) (b := (xB.eval Gv.σ)) (c := 1) rfl ha hb (by omega) g3
 have hI := sc (bT (.c 0) xB (by first | (simp (disch := omega) only [evs, wr, zP, zO, zD, af, q2, ev0] <;> omega) | omega)) hI
 have hI := sc (bF (.c 200) (.bin 6 .i64 (.c 1) xB) (by first | (simp (disch := omega) only [evs, wr, zP, zO, zD, af, q2, ev0] <;> omega) | omega)) hI
 have hI := sc (bF (.c 400000) kw (by first | (simp (disch := omega) only [evs, wr, zP, zO, zD, af, q2, ev0] <;> omega) | omega)) hI
 have hI := sc (bE (.app 221 tz) (.c 1) (by first | (simp (disch := omega) only [evs, wr, zP, zO, zD, af, q2, ev0] <;> omega) | omega)) hI
 have hI := sc (bF kw (.c 0) (by first | (simp (disch := omega) only [evs, wr, zP, zO, zD, af, q2, ev0] <;> omega) | omega)) hI
 have hI := sc (bF (.c 20000) kw (by first | (simp (disch := omega) only [evs, wr, zP, zO, zD, af, q2, ev0] <;> omega) | omega)) hI
 have t1 := bsd (al5 (σ := Gv.σ) (.c 200) xB)
 have hI := sc (bE (.bin 6 .i64 (.bin 6 .i64 (.c 2) (.len (.app 214 (.i (.c 200) (.i xB .nil))))) (.c 4)) (.bin 7 .i64 (.c 2) kw) (by first | (simp (disch := omega) only [evs, wr, zP, zO, zD, af, q2, ev0] <;> omega) | omega)) hI
 have hI := sc (bF wu (.bin 6 .i64 tr kw) (by first | (simp (disch := omega) only [evs, wr, zP, zO, zD, af, q2, ev0] <;> omega) | omega)) hI
 have hI := sc (bE (.app 221 (.g w01t_H1 .nil)) (.c 1) (by first | (simp (disch := omega) only [evs, wr, zP, zO, zD, af, q2, ev0] <;> omega) | omega)) hI
 have hI := sc (bF agu (.c 0) (by first | (simp (disch := omega) only [evs, wr, zP, zO, zD, af, q2, ev0] <;> omega) | omega)) hI
 have hI := sc (bF (.c 1000) agu (by first | (simp (disch := omega) only [evs, wr, zP, zO, zD, af, q2, ev0] <;> omega) | omega)) hI
 have hI := sc (bF (.c 255) agu (by first | (simp (disch := omega) only [evs, wr, zP, zO, zD, af, q2, ev0] <;> omega) | omega)) hI
 have hI := sc (bE a3x (.c 0) (by first | (simp (disch := omega) only [evs, wr, zP, zO, zD, af, q2, ev0] <;> omega) | omega)) hI
 have hI := sc (bN a3z (.c 2) (by first | (simp (disch := omega) only [evs, wr, zP, zO, zD, af, q2, ev0] <;> omega) | omega)) hI
 have hI := sc (bE (.len a3w) (.c 0) (by first | (simp (disch := omega) only [evs, wr, zP, zO, zD, af, q2, ev0] <;> omega) | omega)) hI
 have hI := sc (bN (.len w01t_Y1) (.c 0) (by first | (simp (disch := omega) only [evs, wr, zP, zO, zD, af, q2, ev0] <;> omega) | omega)) hI
 have hI := sc (bE (.len w01t_Y1) xB (by first | (simp (disch := omega) only [evs, wr, zP, zO, zD, af, q2, ev0] <;> omega) | omega)) hI
 have hI := sc (bE a30 (.c 300) (by first | (simp (disch := omega) only [evs, wr, zP, zO, zD, af, q2, ev0] <;> omega) | omega)) hI
 have hI := sc (bE (.eqg w01t_Y1 (.app 215 (.i (.c 200) (.i xB .nil)))) (.c 1) (by first | (simp (disch := omega) only [evs, wr, zP, zO, zD, af, q2, ev0] <;> omega) | omega)) hI
 have hI := sc (bT (.c 0) kw (by first | (simp (disch := omega) only [evs, wr, zP, zO, zD, af, q2, ev0] <;> omega) | omega)) hI
 have hI := sc (bF (.c 400000) nw (by first | (simp (disch := omega) only [evs, wr, zP, zO, zD, af, q2, ev0] <;> omega) | omega)) hI
 have hI := sc (bF nw (.c 0) (by first | (simp (disch := omega) only [evs, wr, zP, zO, zD, af, q2, ev0] <;> omega) | omega)) hI
 have hI := sc (bF (.c 20000) nw (by first | (simp (disch := omega) only [evs, wr, zP, zO, zD, af, q2, ev0] <;> omega) | omega)) hI
 have hI := sc (bE (.bin 6 .i64 (.bin 6 .i64 (.c 2) (.len (.app 214 (.i (.c 200) (.i xB .nil))))) (.c 6)) (.bin 7 .i64 (.c 2) nw) (by first | (simp (disch := omega) only [evs, wr, zP, zO, zD, af, q2, ev0] <;> omega) | omega)) hI
 have hI := sc (bF (.rd w01t_H1 (.c 0)) (.bin 6 .i64 (.app 201 (.g w01t_H1 .nil)) nw) (by first | (simp (disch := omega) only [evs, wr, zP, zO, zD, af, q2, ev0] <;> omega) | omega)) hI
 have hI := sc (bE (.app 221 (.g w01t_H2 .nil)) (.c 1) (by first | (simp (disch := omega) only [evs, wr, zP, zO, zD, af, q2, ev0] <;> omega) | omega)) hI
 have hI := sc (bF agv (.c 0) (by first | (simp (disch := omega) only [evs, wr, zP, zO, zD, af, q2, ev0] <;> omega) | omega)) hI
 have hI := sc (bF (.c 1000) agv (by first | (simp (disch := omega) only [evs, wr, zP, zO, zD, af, q2, ev0] <;> omega) | omega)) hI
 have hI := sc (bF (.c 255) agv (by first | (simp (disch := omega) only [evs, wr, zP, zO, zD, af, q2, ev0] <;> omega) | omega)) hI
 have hI := sc (bN a3y (.c 0) (by first | (simp (disch := omega) only [evs, wr, zP, zO, zD, af, q2, ev0] <;> omega) | omega)) hI
 have hI := sc (bF xC (.c 0) (by first | (simp (disch := omega) only [evs, wr, zP, zO, zD, af, q2, ev0] <;> omega) | omega)) hI
 have u := zA
 exact zm0 [] (zh hI hlw) (zp hI hlt) hI
noncomputable def ky : SE := (.bin 6 .i64 xA (.c 2))
noncomputable def w10t_R1 : GE := (.cat (.cat (.app 214 (.i (.c 100) (.i xA .nil))) arv) arw)
noncomputable def w10t_H1 : GE := (.app 210 (.i ky (.g ec (.g w10t_R1 bt))))
noncomputable def aqm : SE := (.app 211 (.i ky (.g ec (.g w10t_R1 bt))))
noncomputable def aqo : SE := (.app 212 (.i ky (.g ec (.g w10t_R1 bt))))
noncomputable def aah : GE := (.app 213 (.g w10t_H1 (.i aqm (.i aqo .nil))))
noncomputable def agy : SE := (.app 213 (.g w10t_H1 (.i aqm (.i aqo .nil))))
noncomputable def a35 : SE := (.app 218 (.g aah bn))
noncomputable def a38 : SE := (.app 219 (.g aah bn))
noncomputable def a37 : SE := (.app 220 (.g aah bn))
noncomputable def w10t_D1 : GE := (.app 218 (.g aah bn))
noncomputable def a39 : GE := (.app 219 (.g aah bn))
noncomputable def n5 : SE := (.bin 6 .i64 xA (.c 3))
noncomputable def w10t_R2 : GE := (.cat w10t_R1 yw)
noncomputable def w10t_H2 : GE := (.app 210 (.i n5 (.g w10t_H1 (.g w10t_R2 bt))))
noncomputable def aqn : SE := (.app 211 (.i n5 (.g w10t_H1 (.g w10t_R2 bt))))
noncomputable def aqp : SE := (.app 212 (.i n5 (.g w10t_H1 (.g w10t_R2 bt))))
noncomputable def aqq : GE := (.app 213 (.g w10t_H2 (.i aqn (.i aqp .nil))))
noncomputable def agz : SE := (.app 213 (.g w10t_H2 (.i aqn (.i aqp .nil))))
noncomputable def a36 : SE := (.app 218 (.g aqq bn))
noncomputable def br2 : List AV := [vI 1, vI 2, .bool true, vI 4]
noncomputable def brz : List HO := []
noncomputable def br0 : List HO := []
noncomputable def br1 : TR := .ret (.bool true)
def bry [Gv] : Prop := (SAll Gv.σ [] → cm 7 br2 256 brz br1 256 br0)
theorem bms [Gv] (hI : SAll Gv.σ [.mk true (.v 1) ei false, .mk true ej (.v 1) false, .mk true (.v 2) ei false, .mk true ej (.v 2) false, .mk true (.v 4) ei false, .mk true ej (.v 4) false, .mk false xA (.c 0) false, .mk false xB (.c 0) true, .mk true xA (.c 0) false, .mk true (.c 60) xA false, .mk true xB (.c 0) false, .mk true (.c 60) xB false]) : bry := by
 obtain ⟨v1, v2, v3, v4, v5, v6, zA, zB, _⟩ := av3 (a := false) (b := true) hI
 obtain ⟨c1, c2⟩ := fxC (σ := Gv.σ)
 obtain ⟨a1, a2⟩ := fxA (σ := Gv.σ)
 obtain ⟨b1, b2⟩ := fxB (σ := Gv.σ)
 have zA : ¬ xA.eval Gv.σ = 0 := of_decide_eq_false zA
 have zB : xB.eval Gv.σ = 0 := of_decide_eq_true zB
 have ha : 0 ≤ (xA.eval Gv.σ) ∧ (xA.eval Gv.σ) ≤ 60 := by omega
 have hb : 0 ≤ (0 : Int) ∧ (0 : Int) ≤ 60 := by omega
 have m0 : co [300] = 0 := rfl
 have d0 : ([300] : List Int).getD (0 : Int).toNat 0 = 300 := rfl
 have k0 : hpN [300] = 1 := qi aa2
 have hn : ea (xA.eval Gv.σ) (0 : Int) 1 = (xA.eval Gv.σ) + (if 0 < (0 : Int) then 1 + (0 : Int) else 0) + 2 := rfl
 simp (disch := omega) only [if_pos, if_neg] at hn
 have hR1 : w10t_R1.eval Gv.σ = du (xA.eval Gv.σ) (0 : Int) 1 := by simp (disch := omega) only [w10t_R1, evs, du, if_pos, if_neg, List.append_assoc, zK, zF, List.append_nil, md]
 have hN1 : (ky : SE).eval Gv.σ = ea (xA.eval Gv.σ) (0 : Int) 1 := by first | (simp only [ky, evs]; omega) | omega | (rw [hn]; rfl)
 obtain ⟨f1, f2, f3, f4, f5, f6, f7, f8, f9, f10, f11⟩ := oq (σ := Gv.σ) (R := w10t_R1) (H := w10t_H1) (S := aah) (PN := w10t_D1) (PM := a39) (N := ky) (K := aqm) (M := aqo) (LN := agy) (PE := a35) (PR := a38) (PP := a37) (a := (xA.eval Gv.σ)) (b := (0 : Int)) (c := 1) rfl rfl rfl rfl rfl rfl rfl rfl rfl rfl ha hb hR1 hN1
 have k1 : hpN (w10t_H1.eval Gv.σ) = 1 := qi f1
 have q1 : (if w10t_D1.eval Gv.σ = seqR 100 (xA.eval Gv.σ) then (1 : Int) else 0) = 1 := if_pos f8
 have hc : aaw 1 = 300 := rfl
 have hp : qk (0 : Int) 1 = (if 1 = 1 then 3 else if 0 < (0 : Int) then 1 else 0) := rfl
 simp (disch := omega) only [if_pos, if_neg] at hp
 have hR2 : w10t_R2.eval Gv.σ = du (xA.eval Gv.σ) (0 : Int) 1 ++ [1, 100] := by simp (disch := omega) only [w10t_R2, w10t_R1, evs, du, if_pos, if_neg, List.append_assoc, zK, zF, List.append_nil, md]
 have hN2 : (n5 : SE).eval Gv.σ = ea (xA.eval Gv.σ) (0 : Int) 1 + 1 := by first | (simp only [n5, ky, evs]; omega) | omega | (rw [hn]; rfl)
 obtain ⟨g1, g2, g3⟩ := j5 (σ := Gv.σ) (R := w10t_R2) (H := w10t_H2) (H0 := w10t_H1) (S := aqq) (N := n5) (K := aqn) (M := aqp) (LN := agz) (a := (xA.eval Gv.σ)) (b := (0 : Int)) (c := 1) rfl rfl rfl rfl rfl ha hb f1 f2 f3 hR2 hN2
 have k2 : hpN (w10t_H2.eval Gv.σ) = 1 := qi g1
 have g4 := zv (σ := Gv.σ) (S := aqq) (PE := a36) (a := (xA.eval Gv.σ)) (b := (0 : Int)) (c := 1) rfl ha hb (by omega) g3
 have hI := sc (bF xA (.c 1) (by first | (simp (disch := omega) only [evs, wr, zP, zO, zD, af, q1, ev0] <;> omega) | omega)) hI
 have hI := sc (bF (.c 200) xA (by first | (simp (disch := omega) only [evs, wr, zP, zO, zD, af, q1, ev0] <;> omega) | omega)) hI
 have t1 := zf8 (al5 (σ := Gv.σ) (.c 100) xA)
 have hI := sc (bE (.len (.app 214 (.i (.c 100) (.i xA .nil)))) (.bin 7 .i64 (.c 2) xA) (by first | (simp (disch := omega) only [evs, wr, zP, zO, zD, af, q1, ev0] <;> omega) | omega)) hI
 have hI := sc (bF (.c 400000) ky (by first | (simp (disch := omega) only [evs, wr, zP, zO, zD, af, q1, ev0] <;> omega) | omega)) hI
 have hI := sc (bE (.app 221 tz) (.c 1) (by first | (simp (disch := omega) only [evs, wr, zP, zO, zD, af, q1, ev0] <;> omega) | omega)) hI
 have hI := sc (bF ky (.c 0) (by first | (simp (disch := omega) only [evs, wr, zP, zO, zD, af, q1, ev0] <;> omega) | omega)) hI
 have hI := sc (bF (.c 20000) ky (by first | (simp (disch := omega) only [evs, wr, zP, zO, zD, af, q1, ev0] <;> omega) | omega)) hI
 have t2 := zf8 (al5 (σ := Gv.σ) (.c 200) (.c 0))
 have hI := sc (bE (.bin 6 .i64 (.bin 6 .i64 (.len (.app 214 (.i (.c 100) (.i xA .nil)))) ahx) (.c 4)) (.bin 7 .i64 (.c 2) ky) (by first | (simp (disch := omega) only [evs, wr, zP, zO, zD, af, q1, ev0] <;> omega) | omega)) hI
 have hI := sc (bF wu (.bin 6 .i64 tr ky) (by first | (simp (disch := omega) only [evs, wr, zP, zO, zD, af, q1, ev0] <;> omega) | omega)) hI
 have hI := sc (bE (.app 221 (.g w10t_H1 .nil)) (.c 1) (by first | (simp (disch := omega) only [evs, wr, zP, zO, zD, af, q1, ev0] <;> omega) | omega)) hI
 have hI := sc (bF agy (.c 0) (by first | (simp (disch := omega) only [evs, wr, zP, zO, zD, af, q1, ev0] <;> omega) | omega)) hI
 have hI := sc (bF (.c 1000) agy (by first | (simp (disch := omega) only [evs, wr, zP, zO, zD, af, q1, ev0] <;> omega) | omega)) hI
 have hI := sc (bF (.c 255) agy (by first | (simp (disch := omega) only [evs, wr, zP, zO, zD, af, q1, ev0] <;> omega) | omega)) hI
 have hI := sc (bE a35 (.c 0) (by first | (simp (disch := omega) only [evs, wr, zP, zO, zD, af, q1, ev0] <;> omega) | omega)) hI
 have hI := sc (bN a37 (.c 2) (by first | (simp (disch := omega) only [evs, wr, zP, zO, zD, af, q1, ev0] <;> omega) | omega)) hI
 have hI := sc (bN (.len w10t_D1) (.c 0) (by first | (simp (disch := omega) only [evs, wr, zP, zO, zD, af, q1, ev0] <;> omega) | omega)) hI
 have hI := sc (bE (.len a39) (.c 0) (by first | (simp (disch := omega) only [evs, wr, zP, zO, zD, af, q1, ev0] <;> omega) | omega)) hI
 have hI := sc (bE (.len w10t_D1) xA (by first | (simp (disch := omega) only [evs, wr, zP, zO, zD, af, q1, ev0] <;> omega) | omega)) hI
 have hI := sc (bE a38 (.c 300) (by first | (simp (disch := omega) only [evs, wr, zP, zO, zD, af, q1, ev0] <;> omega) | omega)) hI
 have hI := sc (bE (.eqg w10t_D1 (.app 215 (.i (.c 100) (.i xA .nil)))) (.c 1) (by first | (simp (disch := omega) only [evs, wr, zP, zO, zD, af, q1, ev0] <;> omega) | omega)) hI
 have hI := sc (bT (.c 0) ky (by first | (simp (disch := omega) only [evs, wr, zP, zO, zD, af, q1, ev0] <;> omega) | omega)) hI
 have hI := sc (bF (.c 400000) n5 (by first | (simp (disch := omega) only [evs, wr, zP, zO, zD, af, q1, ev0] <;> omega) | omega)) hI
 have hI := sc (bF n5 (.c 0) (by first | (simp (disch := omega) only [evs, wr, zP, zO, zD, af, q1, ev0] <;> omega) | omega)) hI
 have hI := sc (bF (.c 20000) n5 (by first | (simp (disch := omega) only [evs, wr, zP, zO, zD, af, q1, ev0] <;> omega) | omega)) hI
 have hI := sc (bE (.bin 6 .i64 (.bin 6 .i64 (.len (.app 214 (.i (.c 100) (.i xA .nil)))) ahx) (.c 6)) (.bin 7 .i64 (.c 2) n5) (by first | (simp (disch := omega) only [evs, wr, zP, zO, zD, af, q1, ev0] <;> omega) | omega)) hI
 have hI := sc (bF (.rd w10t_H1 (.c 0)) (.bin 6 .i64 (.app 201 (.g w10t_H1 .nil)) n5) (by first | (simp (disch := omega) only [evs, wr, zP, zO, zD, af, q1, ev0] <;> omega) | omega)) hI
 have hI := sc (bE (.app 221 (.g w10t_H2 .nil)) (.c 1) (by first | (simp (disch := omega) only [evs, wr, zP, zO, zD, af, q1, ev0] <;> omega) | omega)) hI
 have hI := sc (bF agz (.c 0) (by first | (simp (disch := omega) only [evs, wr, zP, zO, zD, af, q1, ev0] <;> omega) | omega)) hI
 have hI := sc (bF (.c 1000) agz (by first | (simp (disch := omega) only [evs, wr, zP, zO, zD, af, q1, ev0] <;> omega) | omega)) hI
 have hI := sc (bF (.c 255) agz (by first | (simp (disch := omega) only [evs, wr, zP, zO, zD, af, q1, ev0] <;> omega) | omega)) hI
 have hI := sc (bN a36 (.c 0) (by first | (simp (disch := omega) only [evs, wr, zP, zO, zD, af, q1, ev0] <;> omega) | omega)) hI
 rcases zl8 hI xC (.len w10t_D1) with ⟨hI, k32⟩ | ⟨hI, k32⟩
 ·have hI := sc (bT xC xA (by first | (simp (disch := omega) only [evs, wr, zP, zO, zD, af, q1, ev0] <;> omega) | omega)) hI
  have hI := sc (bT (.c (-1)) (.len w10t_D1) (by first | (simp (disch := omega) only [evs, wr, zP, zO, zD, af, q1, ev0] <;> omega) | omega)) hI
  have u := zA
  exact zm0 [] (zh hI hlw) (zp hI hlt) hI
 ·have hI := sc (bF xC xA (by first | (simp (disch := omega) only [evs, wr, zP, zO, zD, af, q1, ev0] <;> omega) | omega)) hI
  have hI := sc (bT (.c (-1)) (.len w10t_D1) (by first | (simp (disch := omega) only [evs, wr, zP, zO, zD, af, q1, ev0] <;> omega) | omega)) hI
  have u := zA
  exact zm0 [] (zh hI hlw) (zp hI hlt) hI
noncomputable def kz : SE := (.bin 6 .i64 (.bin 6 .i64 (.bin 6 .i64 xA (.c 1)) xB) (.c 2))
noncomputable def w11t_R1 : GE := (.cat (.cat (.cat (.app 214 (.i (.c 100) (.i xA .nil))) ahw) (.app 214 (.i (.c 200) (.i xB .nil)))) arw)
noncomputable def w11t_H1 : GE := (.app 210 (.i kz (.g ec (.g w11t_R1 bt))))
noncomputable def aqx : SE := (.app 211 (.i kz (.g ec (.g w11t_R1 bt))))
noncomputable def aqz : SE := (.app 212 (.i kz (.g ec (.g w11t_R1 bt))))
noncomputable def aaj : GE := (.app 213 (.g w11t_H1 (.i aqx (.i aqz .nil))))
noncomputable def ag2 : SE := (.app 213 (.g w11t_H1 (.i aqx (.i aqz .nil))))
noncomputable def a4d : SE := (.app 218 (.g aaj bn))
noncomputable def a4g : SE := (.app 219 (.g aaj bn))
noncomputable def a4f : SE := (.app 220 (.g aaj bn))
noncomputable def w11t_D1 : GE := (.app 218 (.g aaj bn))
noncomputable def w11t_Y1 : GE := (.app 219 (.g aaj bn))
noncomputable def n7 : SE := (.bin 6 .i64 (.bin 6 .i64 (.bin 6 .i64 xA (.c 1)) xB) (.c 3))
noncomputable def w11t_R2 : GE := (.cat w11t_R1 yw)
noncomputable def w11t_H2 : GE := (.app 210 (.i n7 (.g w11t_H1 (.g w11t_R2 bt))))
noncomputable def aqy : SE := (.app 211 (.i n7 (.g w11t_H1 (.g w11t_R2 bt))))
noncomputable def aq0 : SE := (.app 212 (.i n7 (.g w11t_H1 (.g w11t_R2 bt))))
noncomputable def aq1 : GE := (.app 213 (.g w11t_H2 (.i aqy (.i aq0 .nil))))
noncomputable def ag3 : SE := (.app 213 (.g w11t_H2 (.i aqy (.i aq0 .nil))))
noncomputable def a4e : SE := (.app 218 (.g aq1 bn))
noncomputable def bsc : List AV := [vI 1, vI 2, .bool true, vI 4]
noncomputable def br9 : List HO := []
noncomputable def bsa : List HO := []
noncomputable def bsb : TR := .ret (.bool true)
def br8 [Gv] : Prop := (SAll Gv.σ [] → cm 7 bsc 256 br9 bsb 256 bsa)
theorem bmu [Gv] (hI : SAll Gv.σ [.mk true (.v 1) ei false, .mk true ej (.v 1) false, .mk true (.v 2) ei false, .mk true ej (.v 2) false, .mk true (.v 4) ei false, .mk true ej (.v 4) false, .mk false xA (.c 0) false, .mk false xB (.c 0) false, .mk true xA (.c 0) false, .mk true (.c 60) xA false, .mk true xB (.c 0) false, .mk true (.c 60) xB false]) : br8 := by
 obtain ⟨v1, v2, v3, v4, v5, v6, zA, zB, _⟩ := av3 (a := false) (b := false) hI
 obtain ⟨c1, c2⟩ := fxC (σ := Gv.σ)
 obtain ⟨a1, a2⟩ := fxA (σ := Gv.σ)
 obtain ⟨b1, b2⟩ := fxB (σ := Gv.σ)
 have zA : ¬ xA.eval Gv.σ = 0 := of_decide_eq_false zA
 have zB : ¬ xB.eval Gv.σ = 0 := of_decide_eq_false zB
 have ha : 0 ≤ (xA.eval Gv.σ) ∧ (xA.eval Gv.σ) ≤ 60 := by omega
 have hb : 0 ≤ (xB.eval Gv.σ) ∧ (xB.eval Gv.σ) ≤ 60 := by omega
 have m0 : co [300] = 0 := rfl
 have d0 : ([300] : List Int).getD (0 : Int).toNat 0 = 300 := rfl
 have k0 : hpN [300] = 1 := qi aa2
 have hn : ea (xA.eval Gv.σ) (xB.eval Gv.σ) 1 = (xA.eval Gv.σ) + (if 0 < (xB.eval Gv.σ) then 1 + (xB.eval Gv.σ) else 0) + 2 := rfl
 simp (disch := omega) only [if_pos, if_neg] at hn
 have hR1 : w11t_R1.eval Gv.σ = du (xA.eval Gv.σ) (xB.eval Gv.σ) 1 := by simp (disch := omega) only [w11t_R1, evs, du, if_pos, if_neg, List.append_assoc, zK, zF, List.append_nil, md]
 have hN1 : (kz : SE).eval Gv.σ = ea (xA.eval Gv.σ) (xB.eval Gv.σ) 1 := by first | (simp only [kz, evs]; omega) | omega | (rw [hn]; rfl)
 obtain ⟨f1, f2, f3, f4, f5, f6, f7, f8, f9, f10, f11⟩ := oq (σ := Gv.σ) (R := w11t_R1) (H := w11t_H1) (S := aaj) (PN := w11t_D1) (PM := w11t_Y1) (N := kz) (K := aqx) (M := aqz) (LN := ag2) (PE := a4d) (PR := a4g) (PP := a4f) (a := (xA.eval Gv.σ)) (b := (xB.eval Gv.σ)) (c := 1) rfl rfl rfl rfl rfl rfl rfl rfl rfl rfl ha hb hR1 hN1
 have k1 : hpN (w11t_H1.eval Gv.σ) = 1 := qi f1
 have q1 : (if w11t_D1.eval Gv.σ = seqR 100 (xA.eval Gv.σ) then (1 : Int) else 0) = 1 := if_pos f8
 have q2 : (if w11t_Y1.eval Gv.σ = seqR 200 (xB.eval Gv.σ) then (1 : Int) else 0) = 1 := if_pos f9
 have hc : aaw 1 = 300 := rfl
 have hp : qk (xB.eval Gv.σ) 1 = (if 1 = 1 then 3 else if 0 < (xB.eval Gv.σ) then 1 else 0) := rfl
 simp (disch := omega) only [if_pos, if_neg] at hp
 have hR2 : w11t_R2.eval Gv.σ = du (xA.eval Gv.σ) (xB.eval Gv.σ) 1 ++ [1, 100] := by simp (disch := omega) only [w11t_R2, w11t_R1, evs, du, if_pos, if_neg, List.append_assoc, zK, zF, List.append_nil, md]
 have hN2 : (n7 : SE).eval Gv.σ = ea (xA.eval Gv.σ) (xB.eval Gv.σ) 1 + 1 := by first | (simp only [n7, kz, evs]; omega) | omega | (rw [hn]; rfl)
 obtain ⟨g1, g2, g3⟩ := j5 (σ := Gv.σ) (R := w11t_R2) (H := w11t_H2) (H0 := w11t_H1) (S := aq1) (N := n7) (K := aqy) (M := aq0) (LN := ag3) (a := (xA.eval Gv.σ)) (b := (xB.eval Gv.σ)) (c := 1) rfl rfl rfl rfl rfl ha hb f1 f2 f3 hR2 hN2
 have k2 : hpN (w11t_H2.eval Gv.σ) = 1 := qi g1
 have g4 := zv (σ := Gv.σ) (S := aq1) (PE := a4e) (a := (xA.eval Gv.σ)) (b := (xB.eval Gv.σ)) (c := 1) rfl ha hb (by omega) g3
 have hI := sc (bT (.c 0) xB (by first | (simp (disch := omega) only [evs, wr, zP, zO, zD, af, q1, q2, ev0] <;> omega) | omega)) hI
 have hI := sc (bF (.c 400000) (.bin 6 .i64 xA (.c 1)) (by first | (simp (disch := omega) only [evs, wr, zP, zO, zD, af, q1, q2, ev0] <;> omega) | omega)) hI
 have hI := sc (bF (.bin 6 .i64 xA (.c 1)) (.c 1) (by first | (simp (disch := omega) only [evs, wr, zP, zO, zD, af, q1, q2, ev0] <;> omega) | omega)) hI
 have hI := sc (bF (.c 200) (.bin 6 .i64 (.bin 6 .i64 xA (.c 1)) xB) (by first | (simp (disch := omega) only [evs, wr, zP, zO, zD, af, q1, q2, ev0] <;> omega) | omega)) hI
 have t1 := zf9 (al5 (σ := Gv.σ) (.c 100) xA)
 have hI := sc (bE (.bin 6 .i64 (.len (.app 214 (.i (.c 100) (.i xA .nil)))) (.c 2)) (.bin 7 .i64 (.c 2) (.bin 6 .i64 xA (.c 1))) (by first | (simp (disch := omega) only [evs, wr, zP, zO, zD, af, q1, q2, ev0] <;> omega) | omega)) hI
 have hI := sc (bF (.c 400000) kz (by first | (simp (disch := omega) only [evs, wr, zP, zO, zD, af, q1, q2, ev0] <;> omega) | omega)) hI
 have hI := sc (bE (.app 221 tz) (.c 1) (by first | (simp (disch := omega) only [evs, wr, zP, zO, zD, af, q1, q2, ev0] <;> omega) | omega)) hI
 have hI := sc (bF kz (.c 0) (by first | (simp (disch := omega) only [evs, wr, zP, zO, zD, af, q1, q2, ev0] <;> omega) | omega)) hI
 have hI := sc (bF (.c 20000) kz (by first | (simp (disch := omega) only [evs, wr, zP, zO, zD, af, q1, q2, ev0] <;> omega) | omega)) hI
 have t2 := zf9 (al5 (σ := Gv.σ) (.c 200) xB)
 have hI := sc (bE (.bin 6 .i64 (.bin 6 .i64 (.bin 6 .i64 (.len (.app 214 (.i (.c 100) (.i xA .nil)))) (.c 2)) (.len (.app 214 (.i (.c 200) (.i xB .nil))))) (.c 4)) (.bin 7 .i64 (.c 2) kz) (by first | (simp (disch := omega) only [evs, wr, zP, zO, zD, af, q1, q2, ev0] <;> omega) | omega)) hI
 have hI := sc (bF wu (.bin 6 .i64 tr kz) (by first | (simp (disch := omega) only [evs, wr, zP, zO, zD, af, q1, q2, ev0] <;> omega) | omega)) hI
 have hI := sc (bE (.app 221 (.g w11t_H1 .nil)) (.c 1) (by first | (simp (disch := omega) only [evs, wr, zP, zO, zD, af, q1, q2, ev0] <;> omega) | omega)) hI
 have hI := sc (bF ag2 (.c 0) (by first | (simp (disch := omega) only [evs, wr, zP, zO, zD, af, q1, q2, ev0] <;> omega) | omega)) hI
 have hI := sc (bF (.c 1000) ag2 (by first | (simp (disch := omega) only [evs, wr, zP, zO, zD, af, q1, q2, ev0] <;> omega) | omega)) hI
 have hI := sc (bF (.c 255) ag2 (by first | (simp (disch := omega) only [evs, wr, zP, zO, zD, af, q1, q2, ev0] <;> omega) | omega)) hI
 have hI := sc (bE a4d (.c 0) (by first | (simp (disch := omega) only [evs, wr, zP, zO, zD, af, q1, q2, ev0] <;> omega) | omega)) hI
 have hI := sc (bN a4f (.c 2) (by first | (simp (disch := omega) only [evs, wr, zP, zO, zD, af, q1, q2, ev0] <;> omega) | omega)) hI
 have hI := sc (bN (.len w11t_D1) (.c 0) (by first | (simp (disch := omega) only [evs, wr, zP, zO, zD, af, q1, q2, ev0] <;> omega) | omega)) hI
 have hI := sc (bN (.len w11t_Y1) (.c 0) (by first | (simp (disch := omega) only [evs, wr, zP, zO, zD, af, q1, q2, ev0] <;> omega) | omega)) hI
 have hI := sc (bE (.len w11t_D1) xA (by first | (simp (disch := omega) only [evs, wr, zP, zO, zD, af, q1, q2, ev0] <;> omega) | omega)) hI
 have hI := sc (bE (.len w11t_Y1) xB (by first | (simp (disch := omega) only [evs, wr, zP, zO, zD, af, q1, q2, ev0] <;> omega) | omega)) hI
 have hI := sc (bE a4g (.c 300) (by first | (simp (disch := omega) only [evs, wr, zP, zO, zD, af, q1, q2, ev0] <;> omega) | omega)) hI
 have hI := sc (bE (.eqg w11t_D1 (.app 215 (.i (.c 100) (.i xA .nil)))) (.c 1) (by first | (simp (disch := omega) only [evs, wr, zP, zO, zD, af, q1, q2, ev0] <;> omega) | omega)) hI
 have hI := sc (bE (.eqg w11t_Y1 (.app 215 (.i (.c 200) (.i xB .nil)))) (.c 1) (by first | (simp (disch := omega) only [evs, wr, zP, zO, zD, af, q1, q2, ev0] <;> omega) | omega)) hI
 have hI := sc (bT (.c 0) kz (by first | (simp (disch := omega) only [evs, wr, zP, zO, zD, af, q1, q2, ev0] <;> omega) | omega)) hI
 have hI := sc (bF (.c 400000) n7 (by first | (simp (disch := omega) only [evs, wr, zP, zO, zD, af, q1, q2, ev0] <;> omega) | omega)) hI
 have hI := sc (bF n7 (.c 0) (by first | (simp (disch := omega) only [evs, wr, zP, zO, zD, af, q1, q2, ev0] <;> omega) | omega)) hI
 have hI := sc (bF (.c 20000) n7 (by first | (simp (disch := omega) only [evs, wr, zP, zO, zD, af, q1, q2, ev0] <;> omega) | omega)) hI
 have hI := sc (bE (.bin 6 .i64 (.bin 6 .i64 (.bin 6 .i64 (.len (.app 214 (.i (.c 100) (.i xA .nil)))) (.c 2)) (.len (.app 214 (.i (.c 200) (.i xB .nil))))) (.c 6)) (.bin 7 .i64 (.c 2) n7) (by first | (simp (disch := omega) only [evs, wr, zP, zO, zD, af, q1, q2, ev0] <;> omega) | omega)) hI
 have hI := sc (bF (.rd w11t_H1 (.c 0)) (.bin 6 .i64 (.app 201 (.g w11t_H1 .nil)) n7) (by first | (simp (disch := omega) only [evs, wr, zP, zO, zD, af, q1, q2, ev0] <;> omega) | omega)) hI
 have hI := sc (bE (.app 221 (.g w11t_H2 .nil)) (.c 1) (by first | (simp (disch := omega) only [evs, wr, zP, zO, zD, af, q1, q2, ev0] <;> omega) | omega)) hI
 have hI := sc (bF ag3 (.c 0) (by first | (simp (disch := omega) only [evs, wr, zP, zO, zD, af, q1, q2, ev0] <;> omega) | omega)) hI
 have hI := sc (bF (.c 1000) ag3 (by first | (simp (disch := omega) only [evs, wr, zP, zO, zD, af, q1, q2, ev0] <;> omega) | omega)) hI
 have hI := sc (bF (.c 255) ag3 (by first | (simp (disch := omega) only [evs, wr, zP, zO, zD, af, q1, q2, ev0] <;> omega) | omega)) hI
 have hI := sc (bN a4e (.c 0) (by first | (simp (disch := omega) only [evs, wr, zP, zO, zD, af, q1, q2, ev0] <;> omega) | omega)) hI
 rcases zl9 hI xC (.len w11t_D1) with ⟨hI, k36⟩ | ⟨hI, k36⟩
 ·have hI := sc (bT xC xA (by first | (simp (disch := omega) only [evs, wr, zP, zO, zD, af, q1, q2, ev0] <;> omega) | omega)) hI
  have hI := sc (bT (.c (-1)) (.len w11t_D1) (by first | (simp (disch := omega) only [evs, wr, zP, zO, zD, af, q1, q2, ev0] <;> omega) | omega)) hI
  have u := zA
  exact zm0 [] (zh hI hlw) (zp hI hlt) hI
 ·have hI := sc (bF xC xA (by first | (simp (disch := omega) only [evs, wr, zP, zO, zD, af, q1, q2, ev0] <;> omega) | omega)) hI
  have hI := sc (bT (.c (-1)) (.len w11t_D1) (by first | (simp (disch := omega) only [evs, wr, zP, zO, zD, af, q1, q2, ev0] <;> omega) | omega)) hI
  have u := zA
  exact zm0 [] (zh hI hlw) (zp hI hlt) hI
noncomputable def w00f_R2 : GE := yw
noncomputable def w00f_H2 : GE := (.app 210 (.i (.c 1) (.g ec (.g w00f_R2 bt))))
noncomputable def apz : SE := (.app 211 (.i (.c 1) (.g ec (.g w00f_R2 bt))))
noncomputable def ap0 : SE := (.app 212 (.i (.c 1) (.g ec (.g w00f_R2 bt))))
noncomputable def wa : GE := (.app 213 (.g w00f_H2 (.i apz (.i ap0 .nil))))
noncomputable def agp : SE := (.app 213 (.g w00f_H2 (.i apz (.i ap0 .nil))))
noncomputable def a3g : SE := (.app 218 (.g wa bn))
noncomputable def bjb : SE := (.app 219 (.g wa bn))
noncomputable def a3h : SE := (.app 220 (.g wa bn))
noncomputable def a3f : GE := (.app 218 (.g wa bn))
noncomputable def a3i : GE := (.app 219 (.g wa bn))
noncomputable def brd : List AV := [vI 1, vI 2, .bool false, vI 4]
noncomputable def bra : List HO := []
noncomputable def brb : List HO := []
noncomputable def brc : TR := .ret (.bool true)
def bq9 [Gv] : Prop := (SAll Gv.σ [] → cm 7 brd 256 bra brc 256 brb)
theorem bmn [Gv] (hI : SAll Gv.σ [.mk true (.v 1) ei false, .mk true ej (.v 1) false, .mk true (.v 2) ei false, .mk true ej (.v 2) false, .mk true (.v 4) ei false, .mk true ej (.v 4) false, .mk false xA (.c 0) true, .mk false xB (.c 0) true, .mk true xA (.c 0) false, .mk true (.c 60) xA false, .mk true xB (.c 0) false, .mk true (.c 60) xB false]) : bq9 := by
 obtain ⟨v1, v2, v3, v4, v5, v6, zA, zB, _⟩ := av3 (a := true) (b := true) hI
 obtain ⟨c1, c2⟩ := fxC (σ := Gv.σ)
 obtain ⟨a1, a2⟩ := fxA (σ := Gv.σ)
 obtain ⟨b1, b2⟩ := fxB (σ := Gv.σ)
 have zA : xA.eval Gv.σ = 0 := of_decide_eq_true zA
 have zB : xB.eval Gv.σ = 0 := of_decide_eq_true zB
 have ha : 0 ≤ (0 : Int) ∧ (0 : Int) ≤ 60 := by omega
 have hb : 0 ≤ (0 : Int) ∧ (0 : Int) ≤ 60 := by omega
 have m0 : co [300] = 0 := rfl
 have d0 : ([300] : List Int).getD (0 : Int).toNat 0 = 300 := rfl
 have k0 : hpN [300] = 1 := qi aa2
 have hn : ea (0 : Int) (0 : Int) 0 = (0 : Int) + (if 0 < (0 : Int) then 1 + (0 : Int) else 0) + 0 := rfl
 simp (disch := omega) only [if_pos, if_neg] at hn
 have f1 : od ((GE.one (.c 300)).eval Gv.σ) := aa2
 have f2 : co ((GE.one (.c 300)).eval Gv.σ) = ea 0 0 0 := rfl
 have f3 : ((GE.one (.c 300)).eval Gv.σ).getD (0 : Int).toNat 0 = 300 := rfl
 have s0 : j7 [300] 1 0 = 0 := rfl
 have s1 : w8 [300] 1 0 = [] := rfl
 have s2 : cq [] 0 [] [] (-1) 0 = ⟨0, [], [], -1, 0⟩ := adc (by simp) _ _ _ _
 have hp : qk 0 0 = 0 := rfl
 have hR2 : w00f_R2.eval Gv.σ = du (0 : Int) (0 : Int) 0 ++ [1, 100] := by simp (disch := omega) only [w00f_R2, evs, du, if_pos, if_neg, List.append_assoc, zK, zF, List.append_nil, md]
 have hN2 : ((.c 1) : SE).eval Gv.σ = ea (0 : Int) (0 : Int) 0 + 1 := by first | (simp only [evs]; omega) | omega | (rw [hn]; rfl)
 obtain ⟨g1, g2, g3⟩ := j5 (σ := Gv.σ) (R := w00f_R2) (H := w00f_H2) (H0 := .one (.c 300)) (S := wa) (N := (.c 1)) (K := apz) (M := ap0) (LN := agp) (a := (0 : Int)) (b := (0 : Int)) (c := 0) rfl rfl rfl rfl rfl ha hb f1 f2 f3 hR2 hN2
 have k2 : hpN (w00f_H2.eval Gv.σ) = 1 := qi g1
 obtain ⟨g4, g5, g6, g7⟩ := bcg (σ := Gv.σ) (S := wa) (PN := a3f) (PM := a3i) (PE := a3g) (PP := a3h) (PR := bjb) (b := (0 : Int)) rfl rfl rfl rfl hb g3
 simp (disch := omega) only [if_pos, if_neg] at g6 g7
 have hI := sc (bE (.app 221 tz) (.c 1) (by first | (simp (disch := omega) only [evs, wr, zP, zO, zD, af, s0, s1, s2, ev0] <;> omega) | omega)) hI
 have hI := sc (bF wu (.app 201 tz) (by first | (simp (disch := omega) only [evs, wr, zP, zO, zD, af, s0, s1, s2, ev0] <;> omega) | omega)) hI
 have hI := sc (bF (.app 213 ahy) (.c 0) (by first | (simp (disch := omega) only [evs, wr, zP, zO, zD, af, s0, s1, s2, ev0] <;> omega) | omega)) hI
 have hI := sc (bF (.c 1000) (.app 213 ahy) (by first | (simp (disch := omega) only [evs, wr, zP, zO, zD, af, s0, s1, s2, ev0] <;> omega) | omega)) hI
 have hI := sc (bF (.c 255) (.app 213 ahy) (by first | (simp (disch := omega) only [evs, wr, zP, zO, zD, af, s0, s1, s2, ev0] <;> omega) | omega)) hI
 have hI := sc (bE (.app 218 aar) (.c 0) (by first | (simp (disch := omega) only [evs, wr, zP, zO, zD, af, s0, s1, s2, ev0] <;> omega) | omega)) hI
 have hI := sc (bN (.app 220 aar) (.c 2) (by first | (simp (disch := omega) only [evs, wr, zP, zO, zD, af, s0, s1, s2, ev0] <;> omega) | omega)) hI
 have hI := sc (bE (.len (.app 218 aar)) (.c 0) (by first | (simp (disch := omega) only [evs, wr, zP, zO, zD, af, s0, s1, s2, ev0] <;> omega) | omega)) hI
 have hI := sc (bE (.len (.app 219 aar)) (.c 0) (by first | (simp (disch := omega) only [evs, wr, zP, zO, zD, af, s0, s1, s2, ev0] <;> omega) | omega)) hI
 have hI := sc (bN (.app 219 aar) (.c 300) (by first | (simp (disch := omega) only [evs, wr, zP, zO, zD, af, s0, s1, s2, ev0] <;> omega) | omega)) hI
 have hI := sc (bE (.app 219 aar) (.c (-1)) (by first | (simp (disch := omega) only [evs, wr, zP, zO, zD, af, s0, s1, s2, ev0] <;> omega) | omega)) hI
 have hI := sc (bF wu (.bin 6 .i64 tr (.c 1)) (by first | (simp (disch := omega) only [evs, wr, zP, zO, zD, af, s0, s1, s2, ev0] <;> omega) | omega)) hI
 have hI := sc (bE (.app 221 (.g w00f_H2 .nil)) (.c 1) (by first | (simp (disch := omega) only [evs, wr, zP, zO, zD, af, s0, s1, s2, ev0] <;> omega) | omega)) hI
 have hI := sc (bF agp (.c 0) (by first | (simp (disch := omega) only [evs, wr, zP, zO, zD, af, s0, s1, s2, ev0] <;> omega) | omega)) hI
 have hI := sc (bF (.c 1000) agp (by first | (simp (disch := omega) only [evs, wr, zP, zO, zD, af, s0, s1, s2, ev0] <;> omega) | omega)) hI
 have hI := sc (bF (.c 255) agp (by first | (simp (disch := omega) only [evs, wr, zP, zO, zD, af, s0, s1, s2, ev0] <;> omega) | omega)) hI
 have hI := sc (bE a3g (.c 0) (by first | (simp (disch := omega) only [evs, wr, zP, zO, zD, af, s0, s1, s2, ev0] <;> omega) | omega)) hI
 have hI := sc (bN a3h (.c 2) (by first | (simp (disch := omega) only [evs, wr, zP, zO, zD, af, s0, s1, s2, ev0] <;> omega) | omega)) hI
 have hI := sc (bN (.len a3f) (.c 0) (by first | (simp (disch := omega) only [evs, wr, zP, zO, zD, af, s0, s1, s2, ev0] <;> omega) | omega)) hI
 have hI := sc (bE (.len a3i) (.c 0) (by first | (simp (disch := omega) only [evs, wr, zP, zO, zD, af, s0, s1, s2, ev0] <;> omega) | omega)) hI
 have hI := sc (bF xC (.c 0) (by first | (simp (disch := omega) only [evs, wr, zP, zO, zD, af, s0, s1, s2, ev0] <;> omega) | omega)) hI
 rcases btr hI (.c 0) (.bin 1 .i64 xC (.c 0)) with ⟨hI, k22⟩ | ⟨hI, k22⟩
 ·have hI := sc (bT (.c 0) xC (by first | (simp (disch := omega) only [evs, wr, zP, zO, zD, af, s0, s1, s2, ev0] <;> omega) | omega)) hI
  have u := zA
  exact zm0 [] (zh hI hlw) (zp hI hlf) hI
 ·have hI := sc (bF (.c 0) xC (by first | (simp (disch := omega) only [evs, wr, zP, zO, zD, af, s0, s1, s2, ev0] <;> omega) | omega)) hI
  have u := zA
  exact zm0 [] (zh hI hlw) (zp hI hlf) hI
noncomputable def ji : SE := (.bin 6 .i64 (.c 1) xB)
noncomputable def w01f_R1 : GE := (.cat ahw (.app 214 (.i (.c 200) (.i xB .nil))))
noncomputable def w01f_H1 : GE := (.app 210 (.i ji (.g ec (.g w01f_R1 bt))))
noncomputable def ap6 : SE := (.app 211 (.i ji (.g ec (.g w01f_R1 bt))))
noncomputable def ap8 : SE := (.app 212 (.i ji (.g ec (.g w01f_R1 bt))))
noncomputable def aae : GE := (.app 213 (.g w01f_H1 (.i ap6 (.i ap8 .nil))))
noncomputable def ags : SE := (.app 213 (.g w01f_H1 (.i ap6 (.i ap8 .nil))))
noncomputable def a3r : SE := (.app 218 (.g aae bn))
noncomputable def aqa : SE := (.app 219 (.g aae bn))
noncomputable def a3t : SE := (.app 220 (.g aae bn))
noncomputable def a3p : GE := (.app 218 (.g aae bn))
noncomputable def w01f_Y1 : GE := (.app 219 (.g aae bn))
noncomputable def nv : SE := (.bin 6 .i64 ji (.c 1))
noncomputable def w01f_R2 : GE := (.cat w01f_R1 yw)
noncomputable def w01f_H2 : GE := (.app 210 (.i nv (.g w01f_H1 (.g w01f_R2 bt))))
noncomputable def ap7 : SE := (.app 211 (.i nv (.g w01f_H1 (.g w01f_R2 bt))))
noncomputable def ap9 : SE := (.app 212 (.i nv (.g w01f_H1 (.g w01f_R2 bt))))
noncomputable def wb : GE := (.app 213 (.g w01f_H2 (.i ap7 (.i ap9 .nil))))
noncomputable def agt : SE := (.app 213 (.g w01f_H2 (.i ap7 (.i ap9 .nil))))
noncomputable def a3s : SE := (.app 218 (.g wb bn))
noncomputable def bjc : SE := (.app 219 (.g wb bn))
noncomputable def a3u : SE := (.app 220 (.g wb bn))
noncomputable def a3q : GE := (.app 218 (.g wb bn))
noncomputable def a3v : GE := (.app 219 (.g wb bn))
noncomputable def brn : List AV := [vI 1, vI 2, .bool false, vI 4]
noncomputable def brk : List HO := []
noncomputable def brl : List HO := []
noncomputable def brm : TR := .ret (.bool true)
def brj [Gv] : Prop := (SAll Gv.σ [] → cm 7 brn 256 brk brm 256 brl)
theorem bmp [Gv] (hI : SAll Gv.σ [.mk true (.v 1) ei false, .mk true ej (.v 1) false, .mk true (.v 2) ei false, .mk true ej (.v 2) false, .mk true (.v 4) ei false, .mk true ej (.v 4) false, .mk false xA (.c 0) true, .mk false xB (.c 0) false, .mk true xA (.c 0) false, .mk true (.c 60) xA false, .mk true xB (.c 0) false, .mk true (.c 60) xB false]) : brj := by
 obtain ⟨v1, v2, v3, v4, v5, v6, zA, zB, _⟩ := av3 (a := true) (b := false) hI
 obtain ⟨c1, c2⟩ := fxC (σ := Gv.σ)
 obtain ⟨a1, a2⟩ := fxA (σ := Gv.σ)
 obtain ⟨b1, b2⟩ := fxB (σ := Gv.σ)
 have zA : xA.eval Gv.σ = 0 := of_decide_eq_true zA
 have zB : ¬ xB.eval Gv.σ = 0 := of_decide_eq_false zB
 have ha : 0 ≤ (0 : Int) ∧ (0 : Int) ≤ 60 := by omega
 have hb : 0 ≤ (xB.eval Gv.σ) ∧ (xB.eval Gv.σ) ≤ 60 := by omega
 have m0 : co [300] = 0 := rfl
 have d0 : ([300] : List Int).getD (0 : Int).toNat 0 = 300 := rfl
 have k0 : hpN [300] = 1 := qi aa2
 have hn : ea (0 : Int) (xB.eval Gv.σ) 0 = (0 : Int) + (if 0 < (xB.eval Gv.σ) then 1 + (xB.eval Gv.σ) else 0) + 0 := rfl
 simp (disch := omega) only [if_pos, if_neg] at hn
 have hR1 : w01f_R1.eval Gv.σ = du (0 : Int) (xB.eval Gv.σ) 0 := by simp (disch := omega) only [w01f_R1, evs, du, if_pos, if_neg, List.append_assoc, zK, zF, List.append_nil, md]
 have hN1 : (ji : SE).eval Gv.σ = ea (0 : Int) (xB.eval Gv.σ) 0 := by first | (simp only [ji, evs]; omega) | omega | (rw [hn]; rfl)
 obtain ⟨f1, f2, f3, f4, f5, f6, f7, f8, f9, f10, f11⟩ := oq (σ := Gv.σ) (R := w01f_R1) (H := w01f_H1) (S := aae) (PN := a3p) (PM := w01f_Y1) (N := ji) (K := ap6) (M := ap8) (LN := ags) (PE := a3r) (PR := aqa) (PP := a3t) (a := (0 : Int)) (b := (xB.eval Gv.σ)) (c := 0) rfl rfl rfl rfl rfl rfl rfl rfl rfl rfl ha hb hR1 hN1
 have k1 : hpN (w01f_H1.eval Gv.σ) = 1 := qi f1
 have q2 : (if w01f_Y1.eval Gv.σ = seqR 200 (xB.eval Gv.σ) then (1 : Int) else 0) = 1 := if_pos f9
 have hc : aaw 0 = -1 := rfl
 have hp : qk (xB.eval Gv.σ) 0 = (if 0 = 1 then 3 else if 0 < (xB.eval Gv.σ) then 1 else 0) := rfl
 simp (disch := omega) only [if_pos, if_neg] at hp
 have hR2 : w01f_R2.eval Gv.σ = du (0 : Int) (xB.eval Gv.σ) 0 ++ [1, 100] := by simp (disch := omega) only [w01f_R2, w01f_R1, evs, du, if_pos, if_neg, List.append_assoc, zK, zF, List.append_nil, md]
 have hN2 : (nv : SE).eval Gv.σ = ea (0 : Int) (xB.eval Gv.σ) 0 + 1 := by first | (simp only [nv, ji, evs]; omega) | omega | (rw [hn]; rfl)
 obtain ⟨g1, g2, g3⟩ := j5 (σ := Gv.σ) (R := w01f_R2) (H := w01f_H2) (H0 := w01f_H1) (S := wb) (N := nv) (K := ap7) (M := ap9) (LN := agt) (a := (0 : Int)) (b := (xB.eval Gv.σ)) (c := 0) rfl rfl rfl rfl rfl ha hb f1 f2 f3 hR2 hN2
 have k2 : hpN (w01f_H2.eval Gv.σ) = 1 := qi g1
 obtain ⟨g4, g5, g6, g7⟩ := bcg (σ := Gv.σ) (S := wb) (PN := a3q) (PM := a3v) (PE := a3s) (PP := a3u) (PR := bjc) (b := (xB.eval Gv.σ)) rfl rfl rfl rfl hb g3
 simp (disch := omega) only [if_pos, if_neg] at g6 g7
 have hI := sc (bT (.c 0) xB (by first | (simp (disch := omega) only [evs, wr, zP, zO, zD, af, q2, ev0] <;> omega) | omega)) hI
 have hI := sc (bF (.c 200) ji (by first | (simp (disch := omega) only [evs, wr, zP, zO, zD, af, q2, ev0] <;> omega) | omega)) hI
 have hI := sc (bE (.app 221 tz) (.c 1) (by first | (simp (disch := omega) only [evs, wr, zP, zO, zD, af, q2, ev0] <;> omega) | omega)) hI
 have hI := sc (bF ji (.c 0) (by first | (simp (disch := omega) only [evs, wr, zP, zO, zD, af, q2, ev0] <;> omega) | omega)) hI
 have hI := sc (bF (.c 20000) ji (by first | (simp (disch := omega) only [evs, wr, zP, zO, zD, af, q2, ev0] <;> omega) | omega)) hI
 have t1 := bsd (al5 (σ := Gv.σ) (.c 200) xB)
 have hI := sc (bE (.bin 6 .i64 (.c 2) (.len (.app 214 (.i (.c 200) (.i xB .nil))))) (.bin 7 .i64 (.c 2) ji) (by first | (simp (disch := omega) only [evs, wr, zP, zO, zD, af, q2, ev0] <;> omega) | omega)) hI
 have hI := sc (bF wu (.bin 6 .i64 tr ji) (by first | (simp (disch := omega) only [evs, wr, zP, zO, zD, af, q2, ev0] <;> omega) | omega)) hI
 have hI := sc (bE (.app 221 (.g w01f_H1 .nil)) (.c 1) (by first | (simp (disch := omega) only [evs, wr, zP, zO, zD, af, q2, ev0] <;> omega) | omega)) hI
 have hI := sc (bF ags (.c 0) (by first | (simp (disch := omega) only [evs, wr, zP, zO, zD, af, q2, ev0] <;> omega) | omega)) hI
 have hI := sc (bF (.c 1000) ags (by first | (simp (disch := omega) only [evs, wr, zP, zO, zD, af, q2, ev0] <;> omega) | omega)) hI
 have hI := sc (bF (.c 255) ags (by first | (simp (disch := omega) only [evs, wr, zP, zO, zD, af, q2, ev0] <;> omega) | omega)) hI
 have hI := sc (bE a3r (.c 0) (by first | (simp (disch := omega) only [evs, wr, zP, zO, zD, af, q2, ev0] <;> omega) | omega)) hI
 have hI := sc (bN a3t (.c 2) (by first | (simp (disch := omega) only [evs, wr, zP, zO, zD, af, q2, ev0] <;> omega) | omega)) hI
 have hI := sc (bE (.len a3p) (.c 0) (by first | (simp (disch := omega) only [evs, wr, zP, zO, zD, af, q2, ev0] <;> omega) | omega)) hI
 have hI := sc (bN (.len w01f_Y1) (.c 0) (by first | (simp (disch := omega) only [evs, wr, zP, zO, zD, af, q2, ev0] <;> omega) | omega)) hI
 have hI := sc (bE (.len w01f_Y1) xB (by first | (simp (disch := omega) only [evs, wr, zP, zO, zD, af, q2, ev0] <;> omega) | omega)) hI
 have hI := sc (bN aqa (.c 300) (by first | (simp (disch := omega) only [evs, wr, zP, zO, zD, af, q2, ev0] <;> omega) | omega)) hI
 have hI := sc (bE aqa (.c (-1)) (by first | (simp (disch := omega) only [evs, wr, zP, zO, zD, af, q2, ev0] <;> omega) | omega)) hI
 have hI := sc (bE (.eqg w01f_Y1 (.app 215 (.i (.c 200) (.i xB .nil)))) (.c 1) (by first | (simp (disch := omega) only [evs, wr, zP, zO, zD, af, q2, ev0] <;> omega) | omega)) hI
 have hI := sc (bT (.c 0) ji (by first | (simp (disch := omega) only [evs, wr, zP, zO, zD, af, q2, ev0] <;> omega) | omega)) hI
 have hI := sc (bF (.c 400000) ji (by first | (simp (disch := omega) only [evs, wr, zP, zO, zD, af, q2, ev0] <;> omega) | omega)) hI
 have hI := sc (bF (.c 400000) nv (by first | (simp (disch := omega) only [evs, wr, zP, zO, zD, af, q2, ev0] <;> omega) | omega)) hI
 have hI := sc (bF nv (.c 0) (by first | (simp (disch := omega) only [evs, wr, zP, zO, zD, af, q2, ev0] <;> omega) | omega)) hI
 have hI := sc (bF (.c 20000) nv (by first | (simp (disch := omega) only [evs, wr, zP, zO, zD, af, q2, ev0] <;> omega) | omega)) hI
 have hI := sc (bE (.bin 6 .i64 (.bin 6 .i64 (.c 2) (.len (.app 214 (.i (.c 200) (.i xB .nil))))) (.c 2)) (.bin 7 .i64 (.c 2) nv) (by first | (simp (disch := omega) only [evs, wr, zP, zO, zD, af, q2, ev0] <;> omega) | omega)) hI
 have hI := sc (bF (.rd w01f_H1 (.c 0)) (.bin 6 .i64 (.app 201 (.g w01f_H1 .nil)) nv) (by first | (simp (disch := omega) only [evs, wr, zP, zO, zD, af, q2, ev0] <;> omega) | omega)) hI
 have hI := sc (bE (.app 221 (.g w01f_H2 .nil)) (.c 1) (by first | (simp (disch := omega) only [evs, wr, zP, zO, zD, af, q2, ev0] <;> omega) | omega)) hI
 have hI := sc (bF agt (.c 0) (by first | (simp (disch := omega) only [evs, wr, zP, zO, zD, af, q2, ev0] <;> omega) | omega)) hI
 have hI := sc (bF (.c 1000) agt (by first | (simp (disch := omega) only [evs, wr, zP, zO, zD, af, q2, ev0] <;> omega) | omega)) hI
 have hI := sc (bF (.c 255) agt (by first | (simp (disch := omega) only [evs, wr, zP, zO, zD, af, q2, ev0] <;> omega) | omega)) hI
 have hI := sc (bE a3s (.c 0) (by first | (simp (disch := omega) only [evs, wr, zP, zO, zD, af, q2, ev0] <;> omega) | omega)) hI
 have hI := sc (bN a3u (.c 2) (by first | (simp (disch := omega) only [evs, wr, zP, zO, zD, af, q2, ev0] <;> omega) | omega)) hI
 have hI := sc (bE (.len a3q) (.c 0) (by first | (simp (disch := omega) only [evs, wr, zP, zO, zD, af, q2, ev0] <;> omega) | omega)) hI
 have hI := sc (bN (.len a3v) (.c 0) (by first | (simp (disch := omega) only [evs, wr, zP, zO, zD, af, q2, ev0] <;> omega) | omega)) hI
 have hI := sc (bF xC (.c 0) (by first | (simp (disch := omega) only [evs, wr, zP, zO, zD, af, q2, ev0] <;> omega) | omega)) hI
 rcases bts hI (.len w01f_Y1) (.bin 1 .i64 xC (.c 0)) with ⟨hI, k36⟩ | ⟨hI, k36⟩
 ·have hI := sc (bT (.bin 0 .i64 (.c 0) xB) xC (by first | (simp (disch := omega) only [evs, wr, zP, zO, zD, af, q2, ev0] <;> omega) | omega)) hI
  have u := zA
  exact zm0 [] (zh hI hlw) (zp hI hlf) hI
 ·have hI := sc (bF (.bin 0 .i64 (.c 0) xB) xC (by first | (simp (disch := omega) only [evs, wr, zP, zO, zD, af, q2, ev0] <;> omega) | omega)) hI
  have u := zA
  exact zm0 [] (zh hI hlw) (zp hI hlf) hI
noncomputable def w10f_R1 : GE := (.cat (.app 214 (.i (.c 100) (.i xA .nil))) arv)
noncomputable def w10f_H1 : GE := (.app 210 (.i xA (.g ec (.g w10f_R1 bt))))
noncomputable def aqg : SE := (.app 211 (.i xA (.g ec (.g w10f_R1 bt))))
noncomputable def aqi : SE := (.app 212 (.i xA (.g ec (.g w10f_R1 bt))))
noncomputable def aag : GE := (.app 213 (.g w10f_H1 (.i aqg (.i aqi .nil))))
noncomputable def agw : SE := (.app 213 (.g w10f_H1 (.i aqg (.i aqi .nil))))
noncomputable def a31 : SE := (.app 218 (.g aag bn))
noncomputable def aqk : SE := (.app 219 (.g aag bn))
noncomputable def a33 : SE := (.app 220 (.g aag bn))
noncomputable def w10f_D1 : GE := (.app 218 (.g aag bn))
noncomputable def a34 : GE := (.app 219 (.g aag bn))
noncomputable def ny : SE := (.bin 6 .i64 xA (.c 1))
noncomputable def w10f_R2 : GE := (.cat w10f_R1 yw)
noncomputable def w10f_H2 : GE := (.app 210 (.i ny (.g w10f_H1 (.g w10f_R2 bt))))
noncomputable def aqh : SE := (.app 211 (.i ny (.g w10f_H1 (.g w10f_R2 bt))))
noncomputable def aqj : SE := (.app 212 (.i ny (.g w10f_H1 (.g w10f_R2 bt))))
noncomputable def aql : GE := (.app 213 (.g w10f_H2 (.i aqh (.i aqj .nil))))
noncomputable def agx : SE := (.app 213 (.g w10f_H2 (.i aqh (.i aqj .nil))))
noncomputable def a32 : SE := (.app 218 (.g aql bn))
noncomputable def brx : List AV := [vI 1, vI 2, .bool false, vI 4]
noncomputable def bru : List HO := []
noncomputable def brv : List HO := []
noncomputable def brw : TR := .ret (.bool true)
def brt [Gv] : Prop := (SAll Gv.σ [] → cm 7 brx 256 bru brw 256 brv)
theorem bmr [Gv] (hI : SAll Gv.σ [.mk true (.v 1) ei false, .mk true ej (.v 1) false, .mk true (.v 2) ei false, .mk true ej (.v 2) false, .mk true (.v 4) ei false, .mk true ej (.v 4) false, .mk false xA (.c 0) false, .mk false xB (.c 0) true, .mk true xA (.c 0) false, .mk true (.c 60) xA false, .mk true xB (.c 0) false, .mk true (.c 60) xB false]) : brt := by
 obtain ⟨v1, v2, v3, v4, v5, v6, zA, zB, _⟩ := av3 (a := false) (b := true) hI
 obtain ⟨c1, c2⟩ := fxC (σ := Gv.σ)
 obtain ⟨a1, a2⟩ := fxA (σ := Gv.σ)
 obtain ⟨b1, b2⟩ := fxB (σ := Gv.σ)
 have zA : ¬ xA.eval Gv.σ = 0 := of_decide_eq_false zA
 have zB : xB.eval Gv.σ = 0 := of_decide_eq_true zB
 have ha : 0 ≤ (xA.eval Gv.σ) ∧ (xA.eval Gv.σ) ≤ 60 := by omega
 have hb : 0 ≤ (0 : Int) ∧ (0 : Int) ≤ 60 := by omega
 have m0 : co [300] = 0 := rfl
 have d0 : ([300] : List Int).getD (0 : Int).toNat 0 = 300 := rfl
 have k0 : hpN [300] = 1 := qi aa2
 have hn : ea (xA.eval Gv.σ) (0 : Int) 0 = (xA.eval Gv.σ) + (if 0 < (0 : Int) then 1 + (0 : Int) else 0) + 0 := rfl
 simp (disch := omega) only [if_pos, if_neg] at hn
 have hR1 : w10f_R1.eval Gv.σ = du (xA.eval Gv.σ) (0 : Int) 0 := by simp (disch := omega) only [w10f_R1, evs, du, if_pos, if_neg, List.append_assoc, zK, zF, List.append_nil, md]
 have hN1 : (xA : SE).eval Gv.σ = ea (xA.eval Gv.σ) (0 : Int) 0 := by first | (simp only [evs]; omega) | omega | (rw [hn]; rfl)
 obtain ⟨f1, f2, f3, f4, f5, f6, f7, f8, f9, f10, f11⟩ := oq (σ := Gv.σ) (R := w10f_R1) (H := w10f_H1) (S := aag) (PN := w10f_D1) (PM := a34) (N := xA) (K := aqg) (M := aqi) (LN := agw) (PE := a31) (PR := aqk) (PP := a33) (a := (xA.eval Gv.σ)) (b := (0 : Int)) (c := 0) rfl rfl rfl rfl rfl rfl rfl rfl rfl rfl ha hb hR1 hN1
 have k1 : hpN (w10f_H1.eval Gv.σ) = 1 := qi f1
 have q1 : (if w10f_D1.eval Gv.σ = seqR 100 (xA.eval Gv.σ) then (1 : Int) else 0) = 1 := if_pos f8
 have hc : aaw 0 = -1 := rfl
 have hp : qk (0 : Int) 0 = (if 0 = 1 then 3 else if 0 < (0 : Int) then 1 else 0) := rfl
 simp (disch := omega) only [if_pos, if_neg] at hp
 have hR2 : w10f_R2.eval Gv.σ = du (xA.eval Gv.σ) (0 : Int) 0 ++ [1, 100] := by simp (disch := omega) only [w10f_R2, w10f_R1, evs, du, if_pos, if_neg, List.append_assoc, zK, zF, List.append_nil, md]
 have hN2 : (ny : SE).eval Gv.σ = ea (xA.eval Gv.σ) (0 : Int) 0 + 1 := by first | (simp only [ny, evs]; omega) | omega | (rw [hn]; rfl)
 obtain ⟨g1, g2, g3⟩ := j5 (σ := Gv.σ) (R := w10f_R2) (H := w10f_H2) (H0 := w10f_H1) (S := aql) (N := ny) (K := aqh) (M := aqj) (LN := agx) (a := (xA.eval Gv.σ)) (b := (0 : Int)) (c := 0) rfl rfl rfl rfl rfl ha hb f1 f2 f3 hR2 hN2
 have k2 : hpN (w10f_H2.eval Gv.σ) = 1 := qi g1
 have g4 := zv (σ := Gv.σ) (S := aql) (PE := a32) (a := (xA.eval Gv.σ)) (b := (0 : Int)) (c := 0) rfl ha hb (by omega) g3
 have hI := sc (bF xA (.c 1) (by first | (simp (disch := omega) only [evs, wr, zP, zO, zD, af, q1, ev0] <;> omega) | omega)) hI
 have hI := sc (bF (.c 200) xA (by first | (simp (disch := omega) only [evs, wr, zP, zO, zD, af, q1, ev0] <;> omega) | omega)) hI
 have t1 := zf8 (al5 (σ := Gv.σ) (.c 100) xA)
 have hI := sc (bE (.len (.app 214 (.i (.c 100) (.i xA .nil)))) (.bin 7 .i64 (.c 2) xA) (by first | (simp (disch := omega) only [evs, wr, zP, zO, zD, af, q1, ev0] <;> omega) | omega)) hI
 have hI := sc (bE (.app 221 tz) (.c 1) (by first | (simp (disch := omega) only [evs, wr, zP, zO, zD, af, q1, ev0] <;> omega) | omega)) hI
 have hI := sc (bF (.c 20000) xA (by first | (simp (disch := omega) only [evs, wr, zP, zO, zD, af, q1, ev0] <;> omega) | omega)) hI
 have t2 := zf8 (al5 (σ := Gv.σ) (.c 200) (.c 0))
 have hI := sc (bE (.bin 6 .i64 (.len (.app 214 (.i (.c 100) (.i xA .nil)))) ahx) (.bin 7 .i64 (.c 2) xA) (by first | (simp (disch := omega) only [evs, wr, zP, zO, zD, af, q1, ev0] <;> omega) | omega)) hI
 have hI := sc (bF wu (.bin 6 .i64 tr xA) (by first | (simp (disch := omega) only [evs, wr, zP, zO, zD, af, q1, ev0] <;> omega) | omega)) hI
 have hI := sc (bE (.app 221 (.g w10f_H1 .nil)) (.c 1) (by first | (simp (disch := omega) only [evs, wr, zP, zO, zD, af, q1, ev0] <;> omega) | omega)) hI
 have hI := sc (bF agw (.c 0) (by first | (simp (disch := omega) only [evs, wr, zP, zO, zD, af, q1, ev0] <;> omega) | omega)) hI
 have hI := sc (bF (.c 1000) agw (by first | (simp (disch := omega) only [evs, wr, zP, zO, zD, af, q1, ev0] <;> omega) | omega)) hI
 have hI := sc (bF (.c 255) agw (by first | (simp (disch := omega) only [evs, wr, zP, zO, zD, af, q1, ev0] <;> omega) | omega)) hI
 have hI := sc (bE a31 (.c 0) (by first | (simp (disch := omega) only [evs, wr, zP, zO, zD, af, q1, ev0] <;> omega) | omega)) hI
 have hI := sc (bN a33 (.c 2) (by first | (simp (disch := omega) only [evs, wr, zP, zO, zD, af, q1, ev0] <;> omega) | omega)) hI
 have hI := sc (bN (.len w10f_D1) (.c 0) (by first | (simp (disch := omega) only [evs, wr, zP, zO, zD, af, q1, ev0] <;> omega) | omega)) hI
 have hI := sc (bE (.len a34) (.c 0) (by first | (simp (disch := omega) only [evs, wr, zP, zO, zD, af, q1, ev0] <;> omega) | omega)) hI
 have hI := sc (bE (.len w10f_D1) xA (by first | (simp (disch := omega) only [evs, wr, zP, zO, zD, af, q1, ev0] <;> omega) | omega)) hI
 have hI := sc (bN aqk (.c 300) (by first | (simp (disch := omega) only [evs, wr, zP, zO, zD, af, q1, ev0] <;> omega) | omega)) hI
 have hI := sc (bE aqk (.c (-1)) (by first | (simp (disch := omega) only [evs, wr, zP, zO, zD, af, q1, ev0] <;> omega) | omega)) hI
 have hI := sc (bE (.eqg w10f_D1 (.app 215 (.i (.c 100) (.i xA .nil)))) (.c 1) (by first | (simp (disch := omega) only [evs, wr, zP, zO, zD, af, q1, ev0] <;> omega) | omega)) hI
 have hI := sc (bT (.c 0) xA (by first | (simp (disch := omega) only [evs, wr, zP, zO, zD, af, q1, ev0] <;> omega) | omega)) hI
 have hI := sc (bF (.c 400000) xA (by first | (simp (disch := omega) only [evs, wr, zP, zO, zD, af, q1, ev0] <;> omega) | omega)) hI
 have hI := sc (bF (.c 400000) ny (by first | (simp (disch := omega) only [evs, wr, zP, zO, zD, af, q1, ev0] <;> omega) | omega)) hI
 have hI := sc (bF ny (.c 0) (by first | (simp (disch := omega) only [evs, wr, zP, zO, zD, af, q1, ev0] <;> omega) | omega)) hI
 have hI := sc (bF (.c 20000) ny (by first | (simp (disch := omega) only [evs, wr, zP, zO, zD, af, q1, ev0] <;> omega) | omega)) hI
 have hI := sc (bE (.bin 6 .i64 (.bin 6 .i64 (.len (.app 214 (.i (.c 100) (.i xA .nil)))) ahx) (.c 2)) (.bin 7 .i64 (.c 2) ny) (by first | (simp (disch := omega) only [evs, wr, zP, zO, zD, af, q1, ev0] <;> omega) | omega)) hI
 have hI := sc (bF (.rd w10f_H1 (.c 0)) (.bin 6 .i64 (.app 201 (.g w10f_H1 .nil)) ny) (by first | (simp (disch := omega) only [evs, wr, zP, zO, zD, af, q1, ev0] <;> omega) | omega)) hI
 have hI := sc (bE (.app 221 (.g w10f_H2 .nil)) (.c 1) (by first | (simp (disch := omega) only [evs, wr, zP, zO, zD, af, q1, ev0] <;> omega) | omega)) hI
 have hI := sc (bF agx (.c 0) (by first | (simp (disch := omega) only [evs, wr, zP, zO, zD, af, q1, ev0] <;> omega) | omega)) hI
 have hI := sc (bF (.c 1000) agx (by first | (simp (disch := omega) only [evs, wr, zP, zO, zD, af, q1, ev0] <;> omega) | omega)) hI
 have hI := sc (bF (.c 255) agx (by first | (simp (disch := omega) only [evs, wr, zP, zO, zD, af, q1, ev0] <;> omega) | omega)) hI
 have hI := sc (bN a32 (.c 0) (by first | (simp (disch := omega) only [evs, wr, zP, zO, zD, af, q1, ev0] <;> omega) | omega)) hI
 rcases zl8 hI xC (.len w10f_D1) with ⟨hI, k32⟩ | ⟨hI, k32⟩
 ·have hI := sc (bT xC xA (by first | (simp (disch := omega) only [evs, wr, zP, zO, zD, af, q1, ev0] <;> omega) | omega)) hI
  have hI := sc (bT (.c (-1)) (.len w10f_D1) (by first | (simp (disch := omega) only [evs, wr, zP, zO, zD, af, q1, ev0] <;> omega) | omega)) hI
  have u := zA
  exact zm0 [] (zh hI hlw) (zp hI hlf) hI
 ·rcases zl8 hI (.c 0) (.bin 1 .i64 xC (.len w10f_D1)) with ⟨hI, k33⟩ | ⟨hI, k33⟩
  ·have hI := sc (bF xC xA (by first | (simp (disch := omega) only [evs, wr, zP, zO, zD, af, q1, ev0] <;> omega) | omega)) hI
   have hI := sc (bT (.bin 0 .i64 xA (.c 0)) xC (by first | (simp (disch := omega) only [evs, wr, zP, zO, zD, af, q1, ev0] <;> omega) | omega)) hI
   have hI := sc (bT (.c (-1)) (.len w10f_D1) (by first | (simp (disch := omega) only [evs, wr, zP, zO, zD, af, q1, ev0] <;> omega) | omega)) hI
   have u := zA
   exact zm0 [] (zh hI hlw) (zp hI hlf) hI
  ·have hI := sc (bF xC xA (by first | (simp (disch := omega) only [evs, wr, zP, zO, zD, af, q1, ev0] <;> omega) | omega)) hI
   have hI := sc (bF (.bin 0 .i64 xA (.c 0)) xC (by first | (simp (disch := omega) only [evs, wr, zP, zO, zD, af, q1, ev0] <;> omega) | omega)) hI
   have hI := sc (bT (.c (-1)) (.len w10f_D1) (by first | (simp (disch := omega) only [evs, wr, zP, zO, zD, af, q1, ev0] <;> omega) | omega)) hI
   have u := zA
   exact zm0 [] (zh hI hlw) (zp hI hlf) hI
noncomputable def jj : SE := (.bin 6 .i64 (.bin 6 .i64 xA (.c 1)) xB)
noncomputable def w11f_R1 : GE := (.cat (.cat (.app 214 (.i (.c 100) (.i xA .nil))) ahw) (.app 214 (.i (.c 200) (.i xB .nil))))
noncomputable def w11f_H1 : GE := (.app 210 (.i jj (.g ec (.g w11f_R1 bt))))
noncomputable def aqr : SE := (.app 211 (.i jj (.g ec (.g w11f_R1 bt))))
noncomputable def aqt : SE := (.app 212 (.i jj (.g ec (.g w11f_R1 bt))))
noncomputable def aai : GE := (.app 213 (.g w11f_H1 (.i aqr (.i aqt .nil))))
noncomputable def ag0 : SE := (.app 213 (.g w11f_H1 (.i aqr (.i aqt .nil))))
noncomputable def a4a : SE := (.app 218 (.g aai bn))
noncomputable def aqv : SE := (.app 219 (.g aai bn))
noncomputable def a4c : SE := (.app 220 (.g aai bn))
noncomputable def w11f_D1 : GE := (.app 218 (.g aai bn))
noncomputable def w11f_Y1 : GE := (.app 219 (.g aai bn))
noncomputable def n6 : SE := (.bin 6 .i64 jj (.c 1))
noncomputable def w11f_R2 : GE := (.cat w11f_R1 yw)
noncomputable def w11f_H2 : GE := (.app 210 (.i n6 (.g w11f_H1 (.g w11f_R2 bt))))
noncomputable def aqs : SE := (.app 211 (.i n6 (.g w11f_H1 (.g w11f_R2 bt))))
noncomputable def aqu : SE := (.app 212 (.i n6 (.g w11f_H1 (.g w11f_R2 bt))))
noncomputable def aqw : GE := (.app 213 (.g w11f_H2 (.i aqs (.i aqu .nil))))
noncomputable def ag1 : SE := (.app 213 (.g w11f_H2 (.i aqs (.i aqu .nil))))
noncomputable def a4b : SE := (.app 218 (.g aqw bn))
noncomputable def br7 : List AV := [vI 1, vI 2, .bool false, vI 4]
noncomputable def br4 : List HO := []
noncomputable def br5 : List HO := []
noncomputable def br6 : TR := .ret (.bool true)
def br3 [Gv] : Prop := (SAll Gv.σ [] → cm 7 br7 256 br4 br6 256 br5)
theorem bmt [Gv] (hI : SAll Gv.σ [.mk true (.v 1) ei false, .mk true ej (.v 1) false, .mk true (.v 2) ei false, .mk true ej (.v 2) false, .mk true (.v 4) ei false, .mk true ej (.v 4) false, .mk false xA (.c 0) false, .mk false xB (.c 0) false, .mk true xA (.c 0) false, .mk true (.c 60) xA false, .mk true xB (.c 0) false, .mk true (.c 60) xB false]) : br3 := by
 obtain ⟨v1, v2, v3, v4, v5, v6, zA, zB, _⟩ := av3 (a := false) (b := false) hI
 obtain ⟨c1, c2⟩ := fxC (σ := Gv.σ)
 obtain ⟨a1, a2⟩ := fxA (σ := Gv.σ)
 obtain ⟨b1, b2⟩ := fxB (σ := Gv.σ)
 have zA : ¬ xA.eval Gv.σ = 0 := of_decide_eq_false zA
 have zB : ¬ xB.eval Gv.σ = 0 := of_decide_eq_false zB
 have ha : 0 ≤ (xA.eval Gv.σ) ∧ (xA.eval Gv.σ) ≤ 60 := by omega
 have hb : 0 ≤ (xB.eval Gv.σ) ∧ (xB.eval Gv.σ) ≤ 60 := by omega
 have m0 : co [300] = 0 := rfl
 have d0 : ([300] : List Int).getD (0 : Int).toNat 0 = 300 := rfl
 have k0 : hpN [300] = 1 := qi aa2
 have hn : ea (xA.eval Gv.σ) (xB.eval Gv.σ) 0 = (xA.eval Gv.σ) + (if 0 < (xB.eval Gv.σ) then 1 + (xB.eval Gv.σ) else 0) + 0 := rfl
 simp (disch := omega) only [if_pos, if_neg] at hn
 have hR1 : w11f_R1.eval Gv.σ = du (xA.eval Gv.σ) (xB.eval Gv.σ) 0 := by simp (disch := omega) only [w11f_R1, evs, du, if_pos, if_neg, List.append_assoc, zK, zF, List.append_nil, md]
 have hN1 : (jj : SE).eval Gv.σ = ea (xA.eval Gv.σ) (xB.eval Gv.σ) 0 := by first | (simp only [jj, evs]; omega) | omega | (rw [hn]; rfl)
 obtain ⟨f1, f2, f3, f4, f5, f6, f7, f8, f9, f10, f11⟩ := oq (σ := Gv.σ) (R := w11f_R1) (H := w11f_H1) (S := aai) (PN := w11f_D1) (PM := w11f_Y1) (N := jj) (K := aqr) (M := aqt) (LN := ag0) (PE := a4a) (PR := aqv) (PP := a4c) (a := (xA.eval Gv.σ)) (b := (xB.eval Gv.σ)) (c := 0) rfl rfl rfl rfl rfl rfl rfl rfl rfl rfl ha hb hR1 hN1
 have k1 : hpN (w11f_H1.eval Gv.σ) = 1 := qi f1
 have q1 : (if w11f_D1.eval Gv.σ = seqR 100 (xA.eval Gv.σ) then (1 : Int) else 0) = 1 := if_pos f8
 have q2 : (if w11f_Y1.eval Gv.σ = seqR 200 (xB.eval Gv.σ) then (1 : Int) else 0) = 1 := if_pos f9
 have hc : aaw 0 = -1 := rfl
 have hp : qk (xB.eval Gv.σ) 0 = (if 0 = 1 then 3 else if 0 < (xB.eval Gv.σ) then 1 else 0) := rfl
 simp (disch := omega) only [if_pos, if_neg] at hp
 have hR2 : w11f_R2.eval Gv.σ = du (xA.eval Gv.σ) (xB.eval Gv.σ) 0 ++ [1, 100] := by simp (disch := omega) only [w11f_R2, w11f_R1, evs, du, if_pos, if_neg, List.append_assoc, zK, zF, List.append_nil, md]
 have hN2 : (n6 : SE).eval Gv.σ = ea (xA.eval Gv.σ) (xB.eval Gv.σ) 0 + 1 := by first | (simp only [n6, jj, evs]; omega) | omega | (rw [hn]; rfl)
 obtain ⟨g1, g2, g3⟩ := j5 (σ := Gv.σ) (R := w11f_R2) (H := w11f_H2) (H0 := w11f_H1) (S := aqw) (N := n6) (K := aqs) (M := aqu) (LN := ag1) (a := (xA.eval Gv.σ)) (b := (xB.eval Gv.σ)) (c := 0) rfl rfl rfl rfl rfl ha hb f1 f2 f3 hR2 hN2
 have k2 : hpN (w11f_H2.eval Gv.σ) = 1 := qi g1
 have g4 := zv (σ := Gv.σ) (S := aqw) (PE := a4b) (a := (xA.eval Gv.σ)) (b := (xB.eval Gv.σ)) (c := 0) rfl ha hb (by omega) g3
 have hI := sc (bT (.c 0) xB (by first | (simp (disch := omega) only [evs, wr, zP, zO, zD, af, q1, q2, ev0] <;> omega) | omega)) hI
 have hI := sc (bF (.c 400000) (.bin 6 .i64 xA (.c 1)) (by first | (simp (disch := omega) only [evs, wr, zP, zO, zD, af, q1, q2, ev0] <;> omega) | omega)) hI
 have hI := sc (bF (.bin 6 .i64 xA (.c 1)) (.c 1) (by first | (simp (disch := omega) only [evs, wr, zP, zO, zD, af, q1, q2, ev0] <;> omega) | omega)) hI
 have hI := sc (bF (.c 200) jj (by first | (simp (disch := omega) only [evs, wr, zP, zO, zD, af, q1, q2, ev0] <;> omega) | omega)) hI
 have t1 := zf9 (al5 (σ := Gv.σ) (.c 100) xA)
 have hI := sc (bE (.bin 6 .i64 (.len (.app 214 (.i (.c 100) (.i xA .nil)))) (.c 2)) (.bin 7 .i64 (.c 2) (.bin 6 .i64 xA (.c 1))) (by first | (simp (disch := omega) only [evs, wr, zP, zO, zD, af, q1, q2, ev0] <;> omega) | omega)) hI
 have hI := sc (bE (.app 221 tz) (.c 1) (by first | (simp (disch := omega) only [evs, wr, zP, zO, zD, af, q1, q2, ev0] <;> omega) | omega)) hI
 have hI := sc (bF jj (.c 0) (by first | (simp (disch := omega) only [evs, wr, zP, zO, zD, af, q1, q2, ev0] <;> omega) | omega)) hI
 have hI := sc (bF (.c 20000) jj (by first | (simp (disch := omega) only [evs, wr, zP, zO, zD, af, q1, q2, ev0] <;> omega) | omega)) hI
 have t2 := zf9 (al5 (σ := Gv.σ) (.c 200) xB)
 have hI := sc (bE (.bin 6 .i64 (.bin 6 .i64 (.len (.app 214 (.i (.c 100) (.i xA .nil)))) (.c 2)) (.len (.app 214 (.i (.c 200) (.i xB .nil))))) (.bin 7 .i64 (.c 2) jj) (by first | (simp (disch := omega) only [evs, wr, zP, zO, zD, af, q1, q2, ev0] <;> omega) | omega)) hI
 have hI := sc (bF wu (.bin 6 .i64 tr jj) (by first | (simp (disch := omega) only [evs, wr, zP, zO, zD, af, q1, q2, ev0] <;> omega) | omega)) hI
 have hI := sc (bE (.app 221 (.g w11f_H1 .nil)) (.c 1) (by first | (simp (disch := omega) only [evs, wr, zP, zO, zD, af, q1, q2, ev0] <;> omega) | omega)) hI
 have hI := sc (bF ag0 (.c 0) (by first | (simp (disch := omega) only [evs, wr, zP, zO, zD, af, q1, q2, ev0] <;> omega) | omega)) hI
 have hI := sc (bF (.c 1000) ag0 (by first | (simp (disch := omega) only [evs, wr, zP, zO, zD, af, q1, q2, ev0] <;> omega) | omega)) hI
 have hI := sc (bF (.c 255) ag0 (by first | (simp (disch := omega) only [evs, wr, zP, zO, zD, af, q1, q2, ev0] <;> omega) | omega)) hI
 have hI := sc (bE a4a (.c 0) (by first | (simp (disch := omega) only [evs, wr, zP, zO, zD, af, q1, q2, ev0] <;> omega) | omega)) hI
 have hI := sc (bN a4c (.c 2) (by first | (simp (disch := omega) only [evs, wr, zP, zO, zD, af, q1, q2, ev0] <;> omega) | omega)) hI
 have hI := sc (bN (.len w11f_D1) (.c 0) (by first | (simp (disch := omega) only [evs, wr, zP, zO, zD, af, q1, q2, ev0] <;> omega) | omega)) hI
 have hI := sc (bN (.len w11f_Y1) (.c 0) (by first | (simp (disch := omega) only [evs, wr, zP, zO, zD, af, q1, q2, ev0] <;> omega) | omega)) hI
 have hI := sc (bE (.len w11f_D1) xA (by first | (simp (disch := omega) only [evs, wr, zP, zO, zD, af, q1, q2, ev0] <;> omega) | omega)) hI
 have hI := sc (bE (.len w11f_Y1) xB (by first | (simp (disch := omega) only [evs, wr, zP, zO, zD, af, q1, q2, ev0] <;> omega) | omega)) hI
 have hI := sc (bN aqv (.c 300) (by first | (simp (disch := omega) only [evs, wr, zP, zO, zD, af, q1, q2, ev0] <;> omega) | omega)) hI
 have hI := sc (bE aqv (.c (-1)) (by first | (simp (disch := omega) only [evs, wr, zP, zO, zD, af, q1, q2, ev0] <;> omega) | omega)) hI
 have hI := sc (bE (.eqg w11f_D1 (.app 215 (.i (.c 100) (.i xA .nil)))) (.c 1) (by first | (simp (disch := omega) only [evs, wr, zP, zO, zD, af, q1, q2, ev0] <;> omega) | omega)) hI
 have hI := sc (bE (.eqg w11f_Y1 (.app 215 (.i (.c 200) (.i xB .nil)))) (.c 1) (by first | (simp (disch := omega) only [evs, wr, zP, zO, zD, af, q1, q2, ev0] <;> omega) | omega)) hI
 have hI := sc (bT (.c 0) jj (by first | (simp (disch := omega) only [evs, wr, zP, zO, zD, af, q1, q2, ev0] <;> omega) | omega)) hI
 have hI := sc (bF (.c 400000) jj (by first | (simp (disch := omega) only [evs, wr, zP, zO, zD, af, q1, q2, ev0] <;> omega) | omega)) hI
 have hI := sc (bF (.c 400000) n6 (by first | (simp (disch := omega) only [evs, wr, zP, zO, zD, af, q1, q2, ev0] <;> omega) | omega)) hI
 have hI := sc (bF n6 (.c 0) (by first | (simp (disch := omega) only [evs, wr, zP, zO, zD, af, q1, q2, ev0] <;> omega) | omega)) hI
 have hI := sc (bF (.c 20000) n6 (by first | (simp (disch := omega) only [evs, wr, zP, zO, zD, af, q1, q2, ev0] <;> omega) | omega)) hI
 have hI := sc (bE (.bin 6 .i64 (.bin 6 .i64 (.bin 6 .i64 (.len (.app 214 (.i (.c 100) (.i xA .nil)))) (.c 2)) (.len (.app 214 (.i (.c 200) (.i xB .nil))))) (.c 2)) (.bin 7 .i64 (.c 2) n6) (by first | (simp (disch := omega) only [evs, wr, zP, zO, zD, af, q1, q2, ev0] <;> omega) | omega)) hI
 have hI := sc (bF (.rd w11f_H1 (.c 0)) (.bin 6 .i64 (.app 201 (.g w11f_H1 .nil)) n6) (by first | (simp (disch := omega) only [evs, wr, zP, zO, zD, af, q1, q2, ev0] <;> omega) | omega)) hI
 have hI := sc (bE (.app 221 (.g w11f_H2 .nil)) (.c 1) (by first | (simp (disch := omega) only [evs, wr, zP, zO, zD, af, q1, q2, ev0] <;> omega) | omega)) hI
 have hI := sc (bF ag1 (.c 0) (by first | (simp (disch := omega) only [evs, wr, zP, zO, zD, af, q1, q2, ev0] <;> omega) | omega)) hI
 have hI := sc (bF (.c 1000) ag1 (by first | (simp (disch := omega) only [evs, wr, zP, zO, zD, af, q1, q2, ev0] <;> omega) | omega)) hI
 have hI := sc (bF (.c 255) ag1 (by first | (simp (disch := omega) only [evs, wr, zP, zO, zD, af, q1, q2, ev0] <;> omega) | omega)) hI
 have hI := sc (bN a4b (.c 0) (by first | (simp (disch := omega) only [evs, wr, zP, zO, zD, af, q1, q2, ev0] <;> omega) | omega)) hI
 rcases zl9 hI xC (.len w11f_D1) with ⟨hI, k37⟩ | ⟨hI, k37⟩
 ·have hI := sc (bT xC xA (by first | (simp (disch := omega) only [evs, wr, zP, zO, zD, af, q1, q2, ev0] <;> omega) | omega)) hI
  have hI := sc (bT (.c (-1)) (.len w11f_D1) (by first | (simp (disch := omega) only [evs, wr, zP, zO, zD, af, q1, q2, ev0] <;> omega) | omega)) hI
  have u := zA
  exact zm0 [] (zh hI hlw) (zp hI hlf) hI
 ·rcases zl9 hI (.len w11f_Y1) (.bin 1 .i64 xC (.len w11f_D1)) with ⟨hI, k38⟩ | ⟨hI, k38⟩
  ·have hI := sc (bF xC xA (by first | (simp (disch := omega) only [evs, wr, zP, zO, zD, af, q1, q2, ev0] <;> omega) | omega)) hI
   have hI := sc (bT (.bin 0 .i64 xA xB) xC (by first | (simp (disch := omega) only [evs, wr, zP, zO, zD, af, q1, q2, ev0] <;> omega) | omega)) hI
   have hI := sc (bT (.c (-1)) (.len w11f_D1) (by first | (simp (disch := omega) only [evs, wr, zP, zO, zD, af, q1, q2, ev0] <;> omega) | omega)) hI
   have u := zA
   exact zm0 [] (zh hI hlw) (zp hI hlf) hI
  ·have hI := sc (bF xC xA (by first | (simp (disch := omega) only [evs, wr, zP, zO, zD, af, q1, q2, ev0] <;> omega) | omega)) hI
   have hI := sc (bF (.bin 0 .i64 xA xB) xC (by first | (simp (disch := omega) only [evs, wr, zP, zO, zD, af, q1, q2, ev0] <;> omega) | omega)) hI
   have hI := sc (bT (.c (-1)) (.len w11f_D1) (by first | (simp (disch := omega) only [evs, wr, zP, zO, zD, af, q1, q2, ev0] <;> omega) | omega)) hI
   have u := zA
   exact zm0 [] (zh hI hlw) (zp hI hlf) hI
end Go.Ev
