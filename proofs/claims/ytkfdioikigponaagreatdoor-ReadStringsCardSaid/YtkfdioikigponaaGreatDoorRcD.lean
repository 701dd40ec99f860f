import Derived.Test.YtkfdioikigponaaGreatDoorRcC
import Derived.Test.YtkfdioikigponaaGreatDoorRaY
set_option maxRecDepth 100000
set_option linter.all false
namespace Go.Ev
abbrev ak4 : AL := .i (.c 0) .nil
abbrev ov : GE := .app 6 (.g (.s 3) ak4)
abbrev aim : AL := .g ov (.i (.c 1) (.g .nil .nil))
abbrev a9q : SE := .app 93 aim
abbrev aib : SE := .app 53 (.g (.s 4) .nil)
abbrev avg : SE := .app 50 (.g (.s 3) .nil)
abbrev nq : SE := .len ov
abbrev avi : SE := .rd ov (.c 0)
abbrev aot : SE := .app 91 aim
abbrev a30 : GE := .cat (.one (.c 1)) (.cat (.one (.c 0)) (.one (.c 0)))
abbrev arm : GE := .app 91 aim
abbrev a0y : SE := .app 59 (.g a30 (.g arm .nil))
abbrev a0o : List SA := [.mk true (.c 3900) (.len (.s 3)) false, .mk true (.c 0) aib true, .mk false avg (.c 1) true, .mk true nq (.c 1) false, .mk false avi (.c 34) true, .mk false aot (.c 0) true, .mk false a0y (.c 0) true]
abbrev a2v : SE := .app 92 aim
abbrev a2d : List SA := [.mk true (.c 3900) (.len (.s 3)) false, .mk true (.c 0) aib true, .mk false avg (.c 1) true, .mk true nq (.c 1) false, .mk false avi (.c 34) true, .mk false aot (.c 0) false]
abbrev a3x : SE := .app 42 (.g ov .nil)
abbrev pg : SE := .app 43 (.g ov (.i (.c 0) ak4))
abbrev a2x : SE := .app 43 (.g ov (.i pg ak4))
abbrev acv : SE := .bin 0 .i64 a2x (.c 0)
abbrev lc : SE := .rd ov acv
abbrev acr : SE := .bin 0 .i64 a2x (.c 1)
abbrev ahz : AL := .g ov (.i acr (.g .nil .nil))
abbrev a1x : SE := .app 91 ahz
abbrev aqm : GE := .app 91 ahz
noncomputable section
def bty : List AV := [.ptr (K.of 256) 0, .ptr (K.of 257) 0, .gv (.str (.s 3) []), .int .i64 0]
def bub : List HO := ([hz0 256] ++ bf1 257 258 259 (.s 4))
def bvb : List HO := (hz1 256 270 271 (.app 91 aim) ++ bf1 257 258 259 (.s 4))
def bvf : TR := .ret (.tuple [.agg [.int .i64 3, .int .i64 0], .sym .i64 a9q [], .agg [.int .i64 0, .int .i64 0]])
def btw : TM := .mk 12 bty 260 bub (a0o ++ []) none bvf 290 bvb
def bwn : List AV := [.ptr (K.of 256) 0, .ptr (K.of 257) 0, .gv (.str (.s 3) []), .int .i64 0]
def bt5 : List HO := ([hx 256 260] ++ bf1 257 258 259 (.s 4))
def buj : List HO := [hx 256 260]
def bs8 : TR := .ret (.tuple [.agg [.int .i64 0, .int .i64 0], .int .i64 0, .agg [.int .i64 5, .sym .i64 a2v []]])
def bs6 : TM := .mk 12 bwn 261 bt5 (a2d ++ []) none bs8 290 buj
end
section
variable {σ : Nat → List Int}
theorem blr {A : List SA} (h : SAll σ ([.mk true (.c 3900) (.len (.s 3)) false, .mk true (.c 0) aib true, .mk false avg (.c 1) true, .mk true nq (.c 1) false, .mk false avi (.c 34) true] ++ A)) : (((σ 3).length : Int) ≤ 3900 ∧ 0 < avq (σ 4)) ∧ b8 (σ 3) = 1 ∧ 1 ≤ ((av (σ 3) 0).length : Int) ∧ (av (σ 3) 0).getD 0 0 = 34 ∧ SAll σ A := by
 have h2 := (ak h).2
 have h := (ak h).1
 simp only [sall_cons, sT, sF, sE, evs, evx] at h
 exact ⟨⟨h.1, h.2.1⟩, h.2.2.1, h.2.2.2.1, h.2.2.2.2.1, h2⟩
end
theorem bbv {R : List Int} (h1 : 1 ≤ (R.length : Int)) (h2 : R.getD 0 0 = 34) : al R 0 0 = 0 := by
 have e : R.getD (0 : Int).toNat 0 = 34 := h2
 rw [al, dif_pos (by omega), if_neg (by decide), e, if_neg (by decide), if_neg (by decide)]
theorem hre [Gv] : ∀ t ∈ [bmh, bl6, bka, bti], bn t := by
 intro t ht
 simp only [List.mem_cons, zH, or_false] at ht
 rcases ht with rfl | rfl | rfl | rfl
 ·exact bd4
 ·exact bdc
 ·exact bh5
 ·exact bq5
theorem bur [Gv] : ∀ t ∈ [blq, blu, bl7], bh t := by
 intro t ht
 simp only [List.mem_cons, zH, or_false] at ht
 rcases ht with rfl | rfl | rfl
 ·exact be4
 ·exact bez
 ·exact bfq
def b3s [Gv] : Prop := (SAll Gv.σ [] → cz 12 bty 260 bub bvf 290 bvb)
theorem bxb [Gv] (hI : SAll Gv.σ a0o) : b3s := by
 obtain ⟨⟨hL, hc⟩, hv, hn, h34, hA⟩ := blr (A := [.mk false aot (.c 0) true, .mk false a0y (.c 0) true]) hI
 have hdl := tz (Gv.σ 3)
 have hps := @aj0 (Gv.σ 3)
 have hsk := bbv hn h34
 simp only [sall_cons, sE, evs, evx, zJ, zD] at hA
 have hI := aed hI aib (.c 0)
 have hI := ze hI (.len (.s 3)) (.c 1)
 have hI := ze hI nq (.c 0)
 have t1 := a6d (btf (σ := Gv.σ) (by omega))
 have hI := a5k hI a3x (.c 1)
 have t2 := a6d (fSK (σ := Gv.σ) ov (.c 0))
 have hI := aed hI pg nq
 have hI := ze hI pg (.c 0)
 have hI := ze hI nq pg
 have t3 := a6d (fSK (σ := Gv.σ) ov pg)
 have hI := bv8 hI acv nq
 have hI := ze hI acv (.c 0)
 have hI := ze hI lc (.c 0)
 have hI := aed hI lc (.c 40)
 have hI := aed hI lc (.c 91)
 have hI := aed hI lc (.c 41)
 have hI := aed hI lc (.c 93)
 have hI := a5k hI lc (.c 34)
 have hI := ze hI acr (.c 0)
 have hI := ze hI nq acr
 have hI := a5k hI a1x (.c 0)
 have hI := a5k hI (.app 59 (.g a30 (.g aqm .nil))) (.c 0)
 have u := hdl
 exact zm [(271, 270), (272, 271)] (.i (.app 93 ahz) a9q (.i (.app 49 (.g aqm ak4)) (.app 49 (.g arm ak4)) (.g aqm arm .nil))) (zh hI hre) (zp hI bur) hI bsz
theorem bn6 [Gv] : bn btw := fun σ _ hA _ => (@bxb ⟨σ⟩  (ak hA).1) (ak hA).2
theorem bwi [Gv] : ∀ t ∈ [bm0, bmv], bh t := by
 intro t ht
 simp only [List.mem_cons, zH, or_false] at ht
 rcases ht with rfl | rfl
 ·exact bej
 ·exact be0
def b3v [Gv] : Prop := (SAll Gv.σ [] → cz 12 bwn 261 bt5 bs8 290 buj)
theorem bte [Gv] (hI : SAll Gv.σ a2d) : b3v := by
 obtain ⟨⟨hL, hc⟩, hv, hn, h34, hA⟩ := blr (A := [.mk false aot (.c 0) false]) hI
 have hdl := tz (Gv.σ 3)
 have hps := @aj0 (Gv.σ 3)
 have hsk := bbv hn h34
 simp only [sall_cons, sN, evs, evx, zJ, zD] at hA
 have hI := aed hI aib (.c 0)
 have hI := ze hI (.len (.s 3)) (.c 1)
 have hI := ze hI nq (.c 0)
 have t1 := a6d (btf (σ := Gv.σ) (by omega))
 have hI := a5k hI a3x (.c 1)
 have t2 := a6d (fSK (σ := Gv.σ) ov (.c 0))
 have hI := aed hI pg nq
 have hI := ze hI pg (.c 0)
 have hI := ze hI nq pg
 have t3 := a6d (fSK (σ := Gv.σ) ov pg)
 have hI := bv8 hI acv nq
 have hI := ze hI acv (.c 0)
 have hI := ze hI lc (.c 0)
 have hI := aed hI lc (.c 40)
 have hI := aed hI lc (.c 91)
 have hI := aed hI lc (.c 41)
 have hI := aed hI lc (.c 93)
 have hI := a5k hI lc (.c 34)
 have hI := ze hI acr (.c 0)
 have hI := ze hI nq acr
 have hI := aed hI a1x (.c 0)
 have u := hdl
 exact zm [] (.i (.app 92 ahz) a2v .nil) (zh hI hre) (zp hI bwi) hI bsz
theorem bp2 [Gv] : bn bs6 := fun σ _ hA _ => (@bte ⟨σ⟩  (ak hA).1) (ak hA).2
end Go.Ev
