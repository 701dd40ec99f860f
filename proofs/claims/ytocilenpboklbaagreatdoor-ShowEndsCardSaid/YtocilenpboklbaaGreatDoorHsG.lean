import Derived.Test.YtocilenpboklbaaGreatDoorHsF
set_option maxRecDepth 100000
set_option linter.all false
namespace Go.Ev
abbrev aed : SE := .c 9223372036854775807
abbrev bcj : List SA := [.mk true (.v 1) (.c (-9223372036854775808)) false, .mk true aed (.v 1) false, .mk true (.v 2) (.c (-9223372036854775808)) false, .mk true aed (.v 2) false]
abbrev avv : AL := .g (.one (.c 600)) .nil
abbrev a59 : SE := .app 201 avv
abbrev a6a : GE := .one a59
abbrev a6b : GE := .cat (.one (.c 1)) (.one (.c 0))
abbrev apk : AL := .g (.app 206 (.g (.one (.c 600)) (.g (.cat (.one (.c 2)) (.cat (.one (.c 0)) (.cat (.one (.c 1)) a6b))) .nil))) .nil
abbrev apl : AL := .i (.c 0) (.i (.c 7) .nil)
abbrev a6c : GE := .app 245 (.g (.lit 1 91) (.i (.c 0) .nil))
abbrev azm : SE := .bin 6 .i64 (.len a6c) (.c 1)
abbrev azn : GE := .app 245 (.g (.lit 1 93) (.i (.c 0) .nil))
noncomputable section
def biz : List AV := [vI 1, vI 2]
def biw : List HO := []
def bix : List HO := []
def biy : TR := .ret (.bool true)
def xK : SE := (.bin 0 .i64 (.c 1) (.bin 5 .i64 (.v 1) (.c 50)))
def xD : SE := (.bin 5 .i64 (.v 2) (.c 300))
def xH1 : GE := (.app 240 (.i (.c 0) (.i (.c 1) (.i (.c 1) (.i (.c 0) (.i xK .nil))))))
def xH2 : GE := (.app 207 (.g xH1 (.i (.bin 6 .i64 xK (.c (-1))) (.g (.cat (.one (.c 2)) (.cat (.one (.app 204 (.g xH1 (.i (.bin 6 .i64 xK (.c (-1))) (.i (.c 1) .nil))))) (.cat (.one (.app 204 (.g xH1 (.i (.bin 6 .i64 xK (.c (-1))) (.i (.c 2) .nil))))) (.cat (.one (.c 2)) a6a)))) .nil))))
def xH3 : GE := (.app 207 (.g xH2 (.i (.bin 6 .i64 xK (.c (-1))) (.g (.cat (.one (.c 2)) (.cat (.one (.app 204 (.g xH2 (.i (.bin 6 .i64 xK (.c (-1))) (.i (.c 1) .nil))))) (.cat (.one (.app 204 (.g xH2 (.i (.bin 6 .i64 xK (.c (-1))) (.i (.c 2) .nil))))) a6b))) .nil))))
def xH4 : GE := (.app 207 (.g xH3 (.i (.bin 6 .i64 xK (.c (-1))) (.g (.cat (.one (.c 2)) (.cat (.one (.c 2)) (.cat a6a (.cat (.one (.app 204 (.g xH3 (.i (.bin 6 .i64 xK (.c (-1))) (.i (.c 3) .nil))))) (.one (.app 204 (.g xH3 (.i (.bin 6 .i64 xK (.c (-1))) (.i (.c 4) .nil))))))))) .nil))))
def xH5 : GE := (.app 241 (.i (.app 201 (.g xH4 .nil)) (.i xD .nil)))
end
theorem hlw [Gv] : ∀ t ∈ [bes, bfm, bff, be8, a6y, bb3, bf6, bgw, bgr, a98, bab, bgm], cy t := by
 intro t ht
 simp only [List.mem_cons, zH, or_false] at ht
 rcases ht with rfl | rfl | rfl | rfl | rfl | rfl | rfl | rfl | rfl | rfl | rfl | rfl
 ·exact bbn
 ·exact bby
 ·exact bbu
 ·exact bbr
 ·exact amr
 ·exact axi
 ·exact a8e
 ·exact bb7
 ·exact bb6
 ·exact a8n
 ·exact a8o
 ·exact bb5
theorem hll [Gv] : ∀ t ∈ [beb, a9s, a9p], jd t := by
 intro t ht
 simp only [List.mem_cons, zH, or_false] at ht
 rcases ht with rfl | rfl | rfl
 ·exact bbf
 ·exact a7z
 ·exact a7x
theorem a2y (x : Int) {n : Int} (h : 0 < n) : 0 ≤ x.emod n ∧ x.emod n < n := ⟨Int.emod_nonneg x (by omega), Int.emod_lt_of_pos x h⟩
theorem fK {σ : Nat → List Int} : 1 ≤ xK.eval σ ∧ xK.eval σ ≤ 50 := by
 have h := a2y ((σ 1).headD 0) (n := 50) (by omega)
 have e : xK.eval σ = IntKind.i64.wrap (1 + ((σ 1).headD 0).emod 50) := rfl
 rw [e, a5t (by omega)]; omega
theorem fD {σ : Nat → List Int} : 0 ≤ xD.eval σ ∧ xD.eval σ ≤ 299 := by
 have h := a2y ((σ 2).headD 0) (n := 300) (by omega)
 have e : xD.eval σ = ((σ 2).headD 0).emod 300 := rfl
 rw [e]; omega
theorem jr : ea [600] = 0 ∧ ([600] : List Int).getD 0 0 = 600 ∧ ∀ a b c d : Int, n7 [600] [2, a, b, c, d] = fq a b c d 1 := ⟨rfl, rfl, fun _ _ _ _ => rfl⟩
def biv [Gv] : Prop := (SAll Gv.σ [] → di 3 biz 256 biw biy 256 bix)
theorem bc9 [Gv] (hI : SAll Gv.σ bcj) : biv := by
 obtain ⟨n1, n2⟩ := fK (σ := Gv.σ)
 obtain ⟨d1, d2⟩ := fD (σ := Gv.σ)
 have x1 : xH1.eval Gv.σ = fq 0 1 1 0 (xK.eval Gv.σ) := by unfold xH1; simp (disch := omega) only [evs, wr, zP, zO, zS, zJ, zD, evq, evE, evL, ah, b9, ca, cb, Nat.reduceAdd, Int.reduceAdd, Int.reduceNeg, Int.reduceMul, Int.reduceToNat, gd5, ct, cu, aj, ao, ak, ap, au, aq, bh, al, cm, cr, cq, cj, bo, cg, bp, co, cv, ay, bn, bl, ar, jr, dj, bq, eq_self]
 have x2 : xH2.eval Gv.σ = fq 0 1 2 0 (xK.eval Gv.σ) := by unfold xH2; simp (disch := omega) only [evs, wr, zP, zO, zS, zJ, zD, evq, evE, evL, ah, b9, ca, cb, Nat.reduceAdd, Int.reduceAdd, Int.reduceNeg, Int.reduceMul, Int.reduceToNat, gd5, ct, cu, aj, ao, ak, ap, au, aq, bh, al, cm, cr, cq, cj, bo, cg, bp, co, cv, ay, bn, bl, ar, jr, dj, bq, eq_self, x1]
 have x3 : xH3.eval Gv.σ = fq 0 1 1 0 (xK.eval Gv.σ) := by unfold xH3; simp (disch := omega) only [evs, wr, zP, zO, zS, zJ, zD, evq, evE, evL, ah, b9, ca, cb, Nat.reduceAdd, Int.reduceAdd, Int.reduceNeg, Int.reduceMul, Int.reduceToNat, gd5, ct, cu, aj, ao, ak, ap, au, aq, bh, al, cm, cr, cq, cj, bo, cg, bp, co, cv, ay, bn, bl, ar, jr, dj, bq, eq_self, x1, x2]
 have x4 : xH4.eval Gv.σ = fq 2 0 1 0 (xK.eval Gv.σ) := by unfold xH4; simp (disch := omega) only [evs, wr, zP, zO, zS, zJ, zD, evq, evE, evL, ah, b9, ca, cb, Nat.reduceAdd, Int.reduceAdd, Int.reduceNeg, Int.reduceMul, Int.reduceToNat, gd5, ct, cu, aj, ao, ak, ap, au, aq, bh, al, cm, cr, cq, cj, bo, cg, bp, co, cv, ay, bn, bl, ar, jr, dj, bq, eq_self, x1, x2, x3]
 have x5 : xH5.eval Gv.σ = rv (xK.eval Gv.σ) (xD.eval Gv.σ) := by unfold xH5; simp (disch := omega) only [evs, wr, zP, zO, zS, zJ, zD, evq, evE, evL, ah, b9, ca, cb, Nat.reduceAdd, Int.reduceAdd, Int.reduceNeg, Int.reduceMul, Int.reduceToNat, gd5, ct, cu, aj, ao, ak, ap, au, aq, bh, al, cm, cr, cq, cj, bo, cg, bp, co, cv, ay, bn, bl, ar, jr, dj, bq, eq_self, x1, x2, x3, x4]
 have hI := sc (bN (.app 201 avv) (.rd (.one (.c 600)) (.c 0)) (by first | (simp (disch := omega) only [evs, wr, zP, zO, zS, zJ, zD, evq, evE, evL, ah, b9, ca, cb, Nat.reduceAdd, Int.reduceAdd, Int.reduceNeg, Int.reduceMul, Int.reduceToNat, gd5, ct, cu, aj, ao, ak, ap, au, aq, bh, al, cm, cr, cq, cj, bo, cg, bp, co, cv, ay, bn, bl, ar, jr, dj, bq, eq_self, x1, x2, x3, x4, x5, List.append_assoc, List.append_nil] <;> omega) | omega)) hI
 have hI := sc (bE (.app 221 apk) (.c 1) (by first | (simp (disch := omega) only [evs, wr, zP, zO, zS, zJ, zD, evq, evE, evL, ah, b9, ca, cb, Nat.reduceAdd, Int.reduceAdd, Int.reduceNeg, Int.reduceMul, Int.reduceToNat, gd5, ct, cu, aj, ao, ak, ap, au, aq, bh, al, cm, cr, cq, cj, bo, cg, bp, co, cv, ay, bn, bl, ar, jr, dj, bq, eq_self, x1, x2, x3, x4, x5, List.append_assoc, List.append_nil] <;> omega) | omega)) hI
 have hI := sc (bE (.app 237 apk) (.c 1) (by first | (simp (disch := omega) only [evs, wr, zP, zO, zS, zJ, zD, evq, evE, evL, ah, b9, ca, cb, Nat.reduceAdd, Int.reduceAdd, Int.reduceNeg, Int.reduceMul, Int.reduceToNat, gd5, ct, cu, aj, ao, ak, ap, au, aq, bh, al, cm, cr, cq, cj, bo, cg, bp, co, cv, ay, bn, bl, ar, jr, dj, bq, eq_self, x1, x2, x3, x4, x5, List.append_assoc, List.append_nil] <;> omega) | omega)) hI
 have hI := sc (bE (.bin 6 .i64 a59 (.c 1)) (.app 201 apk) (by first | (simp (disch := omega) only [evs, wr, zP, zO, zS, zJ, zD, evq, evE, evL, ah, b9, ca, cb, Nat.reduceAdd, Int.reduceAdd, Int.reduceNeg, Int.reduceMul, Int.reduceToNat, gd5, ct, cu, aj, ao, ak, ap, au, aq, bh, al, cm, cr, cq, cj, bo, cg, bp, co, cv, ay, bn, bl, ar, jr, dj, bq, eq_self, x1, x2, x3, x4, x5, List.append_assoc, List.append_nil] <;> omega) | omega)) hI
 have hI := sc (bE (.c 1) (.app 201 apk) (by first | (simp (disch := omega) only [evs, wr, zP, zO, zS, zJ, zD, evq, evE, evL, ah, b9, ca, cb, Nat.reduceAdd, Int.reduceAdd, Int.reduceNeg, Int.reduceMul, Int.reduceToNat, gd5, ct, cu, aj, ao, ak, ap, au, aq, bh, al, cm, cr, cq, cj, bo, cg, bp, co, cv, ay, bn, bl, ar, jr, dj, bq, eq_self, x1, x2, x3, x4, x5, List.append_assoc, List.append_nil] <;> omega) | omega)) hI
 have hI := sc (bF xK (.c 1) (by first | (simp (disch := omega) only [evs, wr, zP, zO, zS, zJ, zD, evq, evE, evL, ah, b9, ca, cb, Nat.reduceAdd, Int.reduceAdd, Int.reduceNeg, Int.reduceMul, Int.reduceToNat, gd5, ct, cu, aj, ao, ak, ap, au, aq, bh, al, cm, cr, cq, cj, bo, cg, bp, co, cv, ay, bn, bl, ar, jr, dj, bq, eq_self, x1, x2, x3, x4, x5, List.append_assoc, List.append_nil] <;> omega) | omega)) hI
 have hI := sc (bF (.c 50) xK (by first | (simp (disch := omega) only [evs, wr, zP, zO, zS, zJ, zD, evq, evE, evL, ah, b9, ca, cb, Nat.reduceAdd, Int.reduceAdd, Int.reduceNeg, Int.reduceMul, Int.reduceToNat, gd5, ct, cu, aj, ao, ak, ap, au, aq, bh, al, cm, cr, cq, cj, bo, cg, bp, co, cv, ay, bn, bl, ar, jr, dj, bq, eq_self, x1, x2, x3, x4, x5, List.append_assoc, List.append_nil] <;> omega) | omega)) hI
 have hI := sc (bE (.app 203 (.g xH1 (.i (.c 2) (.i (.bin 6 .i64 xK (.c (-1))) .nil)))) (.c 1) (by first | (simp (disch := omega) only [evs, wr, zP, zO, zS, zJ, zD, evq, evE, evL, ah, b9, ca, cb, Nat.reduceAdd, Int.reduceAdd, Int.reduceNeg, Int.reduceMul, Int.reduceToNat, gd5, ct, cu, aj, ao, ak, ap, au, aq, bh, al, cm, cr, cq, cj, bo, cg, bp, co, cv, ay, bn, bl, ar, jr, dj, bq, eq_self, x1, x2, x3, x4, x5, List.append_assoc, List.append_nil] <;> omega) | omega)) hI
 have hI := sc (bE (.app 221 (.g xH2 .nil)) (.c 1) (by first | (simp (disch := omega) only [evs, wr, zP, zO, zS, zJ, zD, evq, evE, evL, ah, b9, ca, cb, Nat.reduceAdd, Int.reduceAdd, Int.reduceNeg, Int.reduceMul, Int.reduceToNat, gd5, ct, cu, aj, ao, ak, ap, au, aq, bh, al, cm, cr, cq, cj, bo, cg, bp, co, cv, ay, bn, bl, ar, jr, dj, bq, eq_self, x1, x2, x3, x4, x5, List.append_assoc, List.append_nil] <;> omega) | omega)) hI
 have hI := sc (bE (.app 233 (.g xH2 .nil)) (.c 1) (by first | (simp (disch := omega) only [evs, wr, zP, zO, zS, zJ, zD, evq, evE, evL, ah, b9, ca, cb, Nat.reduceAdd, Int.reduceAdd, Int.reduceNeg, Int.reduceMul, Int.reduceToNat, gd5, ct, cu, aj, ao, ak, ap, au, aq, bh, al, cm, cr, cq, cj, bo, cg, bp, co, cv, ay, bn, bl, ar, jr, dj, bq, eq_self, x1, x2, x3, x4, x5, List.append_assoc, List.append_nil] <;> omega) | omega)) hI
 have hI := sc (bE (.app 201 avv) (.c 0) (by first | (simp (disch := omega) only [evs, wr, zP, zO, zS, zJ, zD, evq, evE, evL, ah, b9, ca, cb, Nat.reduceAdd, Int.reduceAdd, Int.reduceNeg, Int.reduceMul, Int.reduceToNat, gd5, ct, cu, aj, ao, ak, ap, au, aq, bh, al, cm, cr, cq, cj, bo, cg, bp, co, cv, ay, bn, bl, ar, jr, dj, bq, eq_self, x1, x2, x3, x4, x5, List.append_assoc, List.append_nil] <;> omega) | omega)) hI
 have hI := sc (bE (.app 203 (.g xH2 (.i (.c 2) (.i (.bin 6 .i64 xK (.c (-1))) .nil)))) (.c 1) (by first | (simp (disch := omega) only [evs, wr, zP, zO, zS, zJ, zD, evq, evE, evL, ah, b9, ca, cb, Nat.reduceAdd, Int.reduceAdd, Int.reduceNeg, Int.reduceMul, Int.reduceToNat, gd5, ct, cu, aj, ao, ak, ap, au, aq, bh, al, cm, cr, cq, cj, bo, cg, bp, co, cv, ay, bn, bl, ar, jr, dj, bq, eq_self, x1, x2, x3, x4, x5, List.append_assoc, List.append_nil] <;> omega) | omega)) hI
 have hI := sc (bE (.app 203 (.g xH3 (.i (.c 2) (.i (.bin 6 .i64 xK (.c (-1))) .nil)))) (.c 1) (by first | (simp (disch := omega) only [evs, wr, zP, zO, zS, zJ, zD, evq, evE, evL, ah, b9, ca, cb, Nat.reduceAdd, Int.reduceAdd, Int.reduceNeg, Int.reduceMul, Int.reduceToNat, gd5, ct, cu, aj, ao, ak, ap, au, aq, bh, al, cm, cr, cq, cj, bo, cg, bp, co, cv, ay, bn, bl, ar, jr, dj, bq, eq_self, x1, x2, x3, x4, x5, List.append_assoc, List.append_nil] <;> omega) | omega)) hI
 have hI := sc (bE (.app 221 (.g xH4 .nil)) (.c 1) (by first | (simp (disch := omega) only [evs, wr, zP, zO, zS, zJ, zD, evq, evE, evL, ah, b9, ca, cb, Nat.reduceAdd, Int.reduceAdd, Int.reduceNeg, Int.reduceMul, Int.reduceToNat, gd5, ct, cu, aj, ao, ak, ap, au, aq, bh, al, cm, cr, cq, cj, bo, cg, bp, co, cv, ay, bn, bl, ar, jr, dj, bq, eq_self, x1, x2, x3, x4, x5, List.append_assoc, List.append_nil] <;> omega) | omega)) hI
 have hI := sc (bN (.app 233 (.g xH4 .nil)) (.c 1) (by first | (simp (disch := omega) only [evs, wr, zP, zO, zS, zJ, zD, evq, evE, evL, ah, b9, ca, cb, Nat.reduceAdd, Int.reduceAdd, Int.reduceNeg, Int.reduceMul, Int.reduceToNat, gd5, ct, cu, aj, ao, ak, ap, au, aq, bh, al, cm, cr, cq, cj, bo, cg, bp, co, cv, ay, bn, bl, ar, jr, dj, bq, eq_self, x1, x2, x3, x4, x5, List.append_assoc, List.append_nil] <;> omega) | omega)) hI
 have hI := sc (bE (.app 234 (.g xH4 .nil)) (.c 1) (by first | (simp (disch := omega) only [evs, wr, zP, zO, zS, zJ, zD, evq, evE, evL, ah, b9, ca, cb, Nat.reduceAdd, Int.reduceAdd, Int.reduceNeg, Int.reduceMul, Int.reduceToNat, gd5, ct, cu, aj, ao, ak, ap, au, aq, bh, al, cm, cr, cq, cj, bo, cg, bp, co, cv, ay, bn, bl, ar, jr, dj, bq, eq_self, x1, x2, x3, x4, x5, List.append_assoc, List.append_nil] <;> omega) | omega)) hI
 have hI := sc (bF xD (.c 0) (by first | (simp (disch := omega) only [evs, wr, zP, zO, zS, zJ, zD, evq, evE, evL, ah, b9, ca, cb, Nat.reduceAdd, Int.reduceAdd, Int.reduceNeg, Int.reduceMul, Int.reduceToNat, gd5, ct, cu, aj, ao, ak, ap, au, aq, bh, al, cm, cr, cq, cj, bo, cg, bp, co, cv, ay, bn, bl, ar, jr, dj, bq, eq_self, x1, x2, x3, x4, x5, List.append_assoc, List.append_nil] <;> omega) | omega)) hI
 have hI := sc (bF (.c 299) xD (by first | (simp (disch := omega) only [evs, wr, zP, zO, zS, zJ, zD, evq, evE, evL, ah, b9, ca, cb, Nat.reduceAdd, Int.reduceAdd, Int.reduceNeg, Int.reduceMul, Int.reduceToNat, gd5, ct, cu, aj, ao, ak, ap, au, aq, bh, al, cm, cr, cq, cj, bo, cg, bp, co, cv, ay, bn, bl, ar, jr, dj, bq, eq_self, x1, x2, x3, x4, x5, List.append_assoc, List.append_nil] <;> omega) | omega)) hI
 rcases bj5 hI xD (.c 0) with ⟨hI, k19⟩ | ⟨hI, k19⟩
 ·have hI := sc (bE (.app 239 (.g xH4 .nil)) (.c 1) (by first | (simp (disch := omega) only [evs, wr, zP, zO, zS, zJ, zD, evq, evE, evL, ah, b9, ca, cb, Nat.reduceAdd, Int.reduceAdd, Int.reduceNeg, Int.reduceMul, Int.reduceToNat, gd5, ct, cu, aj, ao, ak, ap, au, aq, bh, al, cm, cr, cq, cj, bo, cg, bp, co, cv, ay, bn, bl, ar, jr, dj, bq, eq_self, x1, x2, x3, x4, x5, List.append_assoc, List.append_nil] <;> omega) | omega)) hI
  have hI := sc (bF (.app 235 (.g xH4 apl)) (.c 0) (by first | (simp (disch := omega) only [evs, wr, zP, zO, zS, zJ, zD, evq, evE, evL, ah, b9, ca, cb, Nat.reduceAdd, Int.reduceAdd, Int.reduceNeg, Int.reduceMul, Int.reduceToNat, gd5, ct, cu, aj, ao, ak, ap, au, aq, bh, al, cm, cr, cq, cj, bo, cg, bp, co, cv, ay, bn, bl, ar, jr, dj, bq, eq_self, x1, x2, x3, x4, x5, List.append_assoc, List.append_nil] <;> omega) | omega)) hI
  have hI := sc (bF (.c 200) (.app 235 (.g xH4 apl)) (by first | (simp (disch := omega) only [evs, wr, zP, zO, zS, zJ, zD, evq, evE, evL, ah, b9, ca, cb, Nat.reduceAdd, Int.reduceAdd, Int.reduceNeg, Int.reduceMul, Int.reduceToNat, gd5, ct, cu, aj, ao, ak, ap, au, aq, bh, al, cm, cr, cq, cj, bo, cg, bp, co, cv, ay, bn, bl, ar, jr, dj, bq, eq_self, x1, x2, x3, x4, x5, List.append_assoc, List.append_nil] <;> omega) | omega)) hI
  have hI := sc (bF aed azm (by first | (simp (disch := omega) only [evs, wr, zP, zO, zS, zJ, zD, evq, evE, evL, ah, b9, ca, cb, Nat.reduceAdd, Int.reduceAdd, Int.reduceNeg, Int.reduceMul, Int.reduceToNat, gd5, ct, cu, aj, ao, ak, ap, au, aq, bh, al, cm, cr, cq, cj, bo, cg, bp, co, cv, ay, bn, bl, ar, jr, dj, bq, eq_self, x1, x2, x3, x4, x5, List.append_assoc, List.append_nil] <;> omega) | omega)) hI
  have hI := sc (bF aed (.bin 6 .i64 azm (.len azn)) (by first | (simp (disch := omega) only [evs, wr, zP, zO, zS, zJ, zD, evq, evE, evL, ah, b9, ca, cb, Nat.reduceAdd, Int.reduceAdd, Int.reduceNeg, Int.reduceMul, Int.reduceToNat, gd5, ct, cu, aj, ao, ak, ap, au, aq, bh, al, cm, cr, cq, cj, bo, cg, bp, co, cv, ay, bn, bl, ar, jr, dj, bq, eq_self, x1, x2, x3, x4, x5, List.append_assoc, List.append_nil] <;> omega) | omega)) hI
  have hI := sc (bE (.eqg (.cat (.app 245 (.g (.one (.c 91)) (.i (.app 235 (.g xH4 apl)) .nil))) (.cat (.one (.c 55)) (.app 245 (.g (.one (.c 93)) (.i (.app 235 (.g xH4 apl)) .nil))))) (.cat (.cat a6c (.lit 1 55)) azn)) (.c 1) (by first | (simp (disch := omega) only [evs, wr, zP, zO, zS, zJ, zD, evq, evE, evL, ah, b9, ca, cb, Nat.reduceAdd, Int.reduceAdd, Int.reduceNeg, Int.reduceMul, Int.reduceToNat, gd5, ct, cu, aj, ao, ak, ap, au, aq, bh, al, cm, cr, cq, cj, bo, cg, bp, co, cv, ay, bn, bl, ar, jr, dj, bq, eq_self, x1, x2, x3, x4, x5, List.append_assoc, List.append_nil] <;> omega) | omega)) hI
  have u := n1
  exact zm0 [] (zh hI hlw) (zp hI hll) hI
 ·have hI := sc (bE (.app 221 (.g xH5 .nil)) (.c 1) (by first | (simp (disch := omega) only [evs, wr, zP, zO, zS, zJ, zD, evq, evE, evL, ah, b9, ca, cb, Nat.reduceAdd, Int.reduceAdd, Int.reduceNeg, Int.reduceMul, Int.reduceToNat, gd5, ct, cu, aj, ao, ak, ap, au, aq, bh, al, cm, cr, cq, cj, bo, cg, bp, co, cv, ay, bn, bl, ar, jr, dj, bq, eq_self, x1, x2, x3, x4, x5, List.append_assoc, List.append_nil] <;> omega) | omega)) hI
  have hI := sc (bE (.app 239 (.g xH5 .nil)) (.c 1) (by first | (simp (disch := omega) only [evs, wr, zP, zO, zS, zJ, zD, evq, evE, evL, ah, b9, ca, cb, Nat.reduceAdd, Int.reduceAdd, Int.reduceNeg, Int.reduceMul, Int.reduceToNat, gd5, ct, cu, aj, ao, ak, ap, au, aq, bh, al, cm, cr, cq, cj, bo, cg, bp, co, cv, ay, bn, bl, ar, jr, dj, bq, eq_self, x1, x2, x3, x4, x5, List.append_assoc, List.append_nil] <;> omega) | omega)) hI
  have hI := sc (bF (.app 235 (.g xH5 (.i (.c 4) (.i (.bin 6 .i64 (.bin 6 .i64 (.app 201 (.g xH4 .nil)) xD) (.c (-1))) .nil)))) (.c 0) (by first | (simp (disch := omega) only [evs, wr, zP, zO, zS, zJ, zD, evq, evE, evL, ah, b9, ca, cb, Nat.reduceAdd, Int.reduceAdd, Int.reduceNeg, Int.reduceMul, Int.reduceToNat, gd5, ct, cu, aj, ao, ak, ap, au, aq, bh, al, cm, cr, cq, cj, bo, cg, bp, co, cv, ay, bn, bl, ar, jr, dj, bq, eq_self, x1, x2, x3, x4, x5, List.append_assoc, List.append_nil] <;> omega) | omega)) hI
  rcases bj3 hI (.c 200) (.app 235 (.g xH5 (.i (.c 4) (.i (.bin 6 .i64 (.bin 6 .i64 (.app 201 (.g xH4 .nil)) xD) (.c (-1))) .nil)))) with ⟨hI, k23⟩ | ⟨hI, k23⟩
  ·have hI := sc (bT (.c 200) xD (by first | (simp (disch := omega) only [evs, wr, zP, zO, zS, zJ, zD, evq, evE, evL, ah, b9, ca, cb, Nat.reduceAdd, Int.reduceAdd, Int.reduceNeg, Int.reduceMul, Int.reduceToNat, gd5, ct, cu, aj, ao, ak, ap, au, aq, bh, al, cm, cr, cq, cj, bo, cg, bp, co, cv, ay, bn, bl, ar, jr, dj, bq, eq_self, x1, x2, x3, x4, x5, List.append_assoc, List.append_nil] <;> omega) | omega)) hI
   have u := n1
   exact zm0 [] (zh hI hlw) (zp hI hll) hI
  ·have hI := sc (bF (.c 200) xD (by first | (simp (disch := omega) only [evs, wr, zP, zO, zS, zJ, zD, evq, evE, evL, ah, b9, ca, cb, Nat.reduceAdd, Int.reduceAdd, Int.reduceNeg, Int.reduceMul, Int.reduceToNat, gd5, ct, cu, aj, ao, ak, ap, au, aq, bh, al, cm, cr, cq, cj, bo, cg, bp, co, cv, ay, bn, bl, ar, jr, dj, bq, eq_self, x1, x2, x3, x4, x5, List.append_assoc, List.append_nil] <;> omega) | omega)) hI
   have hI := sc (bF (.c 300) xD (by first | (simp (disch := omega) only [evs, wr, zP, zO, zS, zJ, zD, evq, evE, evL, ah, b9, ca, cb, Nat.reduceAdd, Int.reduceAdd, Int.reduceNeg, Int.reduceMul, Int.reduceToNat, gd5, ct, cu, aj, ao, ak, ap, au, aq, bh, al, cm, cr, cq, cj, bo, cg, bp, co, cv, ay, bn, bl, ar, jr, dj, bq, eq_self, x1, x2, x3, x4, x5, List.append_assoc, List.append_nil] <;> omega) | omega)) hI
   have hI := sc (bF aed (.bin 6 .i64 (.len (.app 245 (.g (.lit 1 91) (.i xD .nil)))) (.c 1)) (by first | (simp (disch := omega) only [evs, wr, zP, zO, zS, zJ, zD, evq, evE, evL, ah, b9, ca, cb, Nat.reduceAdd, Int.reduceAdd, Int.reduceNeg, Int.reduceMul, Int.reduceToNat, gd5, ct, cu, aj, ao, ak, ap, au, aq, bh, al, cm, cr, cq, cj, bo, cg, bp, co, cv, ay, bn, bl, ar, jr, dj, bq, eq_self, x1, x2, x3, x4, x5, List.append_assoc, List.append_nil] <;> omega) | omega)) hI
   have hI := sc (bF aed (.bin 6 .i64 (.bin 6 .i64 (.len (.app 245 (.g (.lit 1 91) (.i xD .nil)))) (.c 1)) (.len (.app 245 (.g (.lit 1 93) (.i xD .nil))))) (by first | (simp (disch := omega) only [evs, wr, zP, zO, zS, zJ, zD, evq, evE, evL, ah, b9, ca, cb, Nat.reduceAdd, Int.reduceAdd, Int.reduceNeg, Int.reduceMul, Int.reduceToNat, gd5, ct, cu, aj, ao, ak, ap, au, aq, bh, al, cm, cr, cq, cj, bo, cg, bp, co, cv, ay, bn, bl, ar, jr, dj, bq, eq_self, x1, x2, x3, x4, x5, List.append_assoc, List.append_nil] <;> omega) | omega)) hI
   have hI := sc (bE (.eqg (.cat (.app 245 (.g (.one (.c 91)) (.i (.app 235 (.g xH5 (.i (.c 4) (.i (.bin 6 .i64 (.bin 6 .i64 (.app 201 (.g xH4 .nil)) xD) (.c (-1))) .nil)))) .nil))) (.cat (.one (.c 55)) (.app 245 (.g (.one (.c 93)) (.i (.app 235 (.g xH5 (.i (.c 4) (.i (.bin 6 .i64 (.bin 6 .i64 (.app 201 (.g xH4 .nil)) xD) (.c (-1))) .nil)))) .nil))))) (.cat (.cat (.app 245 (.g (.lit 1 91) (.i xD .nil))) (.lit 1 55)) (.app 245 (.g (.lit 1 93) (.i xD .nil))))) (.c 1) (by first | (simp (disch := omega) only [evs, wr, zP, zO, zS, zJ, zD, evq, evE, evL, ah, b9, ca, cb, Nat.reduceAdd, Int.reduceAdd, Int.reduceNeg, Int.reduceMul, Int.reduceToNat, gd5, ct, cu, aj, ao, ak, ap, au, aq, bh, al, cm, cr, cq, cj, bo, cg, bp, co, cv, ay, bn, bl, ar, jr, dj, bq, eq_self, x1, x2, x3, x4, x5, List.append_assoc, List.append_nil] <;> omega) | omega)) hI
   have u := n1
   exact zm0 [] (zh hI hlw) (zp hI hll) hI
end Go.Ev
