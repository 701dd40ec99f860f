import Derived.Test.YtocilenpboklbaaGreatDoorSxC
import Derived.Test.YtocilenpboklbaaGreatDoorRcP
set_option maxRecDepth 100000
set_option linter.all false
namespace Go.Ev
abbrev aaw : AL := .i (.c 0) .nil
abbrev qt : GE := .app 6 (.g (.s 3) aaw)
abbrev arz : AL := .g qt (.i (.c 1) (.g .nil .nil))
abbrev ayx : GE := .app 91 arz
abbrev bec : SE := .bin 6 .i64 (.v 21) (.app 49 (.g ayx aaw))
abbrev bed : SE := .app 93 arz
abbrev ak3 : SE := .app 53 (.g (.s 4) .nil)
abbrev ayy : SE := .app 50 (.g (.s 3) .nil)
abbrev nf : SE := .len qt
abbrev ade : SE := .rd qt (.c 0)
abbrev a4q : SE := .app 91 arz
abbrev a4r : GE := .cat (.one (.c 3)) (.cat (.one (.c 1)) (.one (.v 21)))
abbrev a4s : SE := .app 59 (.g a4r (.g ayx .nil))
abbrev a4t : List SA := [.mk true (.c 3900) (.len (.s 3)) false, .mk true (.c 0) ak3 true, .mk false ayy (.c 1) true, .mk true nf (.c 1) false, .mk false ade (.c 34) true, .mk true (.v 21) (.c 0) false, .mk true (.c 65536) (.v 21) false, .mk false a4q (.c 0) true, .mk false a4s (.c 0) true]
abbrev ahj : AL := .g qt (.i (.c 0) (.g .nil aaw))
abbrev a4u : AL := .g (.app 44 ahj) .nil
abbrev a4v : SE := .app 48 a4u
abbrev a4w : SE := .app 45 ahj
abbrev pe : SE := .app 43 (.g qt (.i (.c 0) aaw))
abbrev arx : SE := .app 47 a4u
abbrev ahk : List SA := [.mk true (.c 3900) (.len (.s 3)) false, .mk true (.c 0) ak3 true, .mk false ayy (.c 1) true, .mk true nf (.c 1) false, .mk false (.app 41 (.i ade .nil)) (.c 1) false, .mk false ade (.c 63) false, .mk false ade (.c 35) false, .mk false pe (.c 0) true, .mk false (.app 44 ahj) (.c 0) true, .mk false (.app 46 ahj) (.c 0) true, .mk false arx (.c 0) false]
abbrev a4x : List SA := [.mk false arx (.c 1) true]
abbrev a4y : List SA := [.mk false arx (.c 1) false]
abbrev a4z : AL := .g qt .nil
abbrev a40 : SE := .app 42 a4z
abbrev vi : SE := .app 43 (.g qt (.i pe aaw))
abbrev adf : SE := .bin 0 .i64 vi (.c 0)
abbrev gm : SE := .rd qt adf
abbrev ary : SE := .bin 0 .i64 vi (.c 1)
abbrev ar0 : AL := .g qt (.i ary (.g .nil .nil))
abbrev ar1 : GE := .app 91 ar0
abbrev ahl : AL := .g qt (.i vi (.g .nil aaw))
abbrev a41 : GE := .app 44 ahl
abbrev ar2 : SE := .len a41
abbrev a42 : AL := .g a41 .nil
abbrev ar3 : SE := .app 47 a42
noncomputable section
def bvh : List AV := [.ptr (K.of 256) 0, .ptr (K.of 257) 0, .gv (.str (.s 3) []), .int .i64 0]
def bve : List HO := (hs1 256 260 261 (.s 8) ++ ael 257 258 259 (.s 4))
def bvf : List HO := (hs2 256 270 261 271 bec (.s 8) (.app 91 arz) ++ ael 257 258 259 (.s 4))
def bvg : TR := .ret (.tuple [.agg [.int .i64 3, .int .i64 1], .sym .i64 bed [], .agg [.int .i64 0, .int .i64 0]])
def bvd : TM := .mk 23 bvh 262 bve (a4t ++ []) none bvg 290 bvf
def bg9 : List AV := [.ptr (K.of 256) 0, .ptr (K.of 257) 0, .gv (.str (.s 3) []), .int .i64 0]
def bg6 : List HO := ([.mk 256 (.cells 132 false 0 0 [.int .i64 3, sy 20, sy 21, .top, .nilSlice])] ++ ael 257 258 259 (.s 4))
def bme : List HO := ([.mk 256 (.cells 132 false 0 0 [.int .i64 3, sy 20, sy 21, .top, .nilSlice])] ++ ael 257 258 259 (.s 4))
def bmf : TR := .ret (.tuple [.agg [.int .i64 0, .sym .i64 a4v []], .sym .i64 a4w [], .agg [.int .i64 0, .int .i64 0]])
def bmd : TM := .mk 23 bg9 260 bg6 (ahk ++ a4x) none bmf 290 bme
def bmh : List HO := []
def bmi : TR := .ret (.tuple [.agg [.int .i64 0, .int .i64 0], .int .i64 0, .agg [.int .i64 15, .sym .i64 pe []]])
def bmg : TM := .mk 23 bg9 260 bg6 (ahk ++ a4y) none bmi 290 bmh
end
section
variable {σ : Nat → List Int}
theorem bsh (h : ((σ 3).length : Int) ≤ 3900) : (SE.app 42 a4z).eval σ = 1 := of_decide_eq_true (s42.2 (a6v (s := σ 3) (by omega)))
theorem bvj {A : List SA} (h : SAll σ ([.mk true (.c 3900) (.len (.s 3)) false, .mk true (.c 0) ak3 true, .mk false ayy (.c 1) true, .mk true nf (.c 1) false, .mk false ade (.c 34) true] ++ A)) : (((σ 3).length : Int) ≤ 3900 ∧ 0 < aia (σ 4)) ∧ bj (σ 3) = 1 ∧ 1 ≤ ((ak (σ 3) 0).length : Int) ∧ (ak (σ 3) 0).getD 0 0 = 34 ∧ SAll σ A := by
 have h2 := (ai h).2
 have h := (ai h).1
 simp only [sall_cons, sT, sF, sE, evs, evx] at h
 exact ⟨⟨h.1, h.2.1⟩, h.2.2.1, h.2.2.2.1, h.2.2.2.2.1, h2⟩
theorem bvi (h : SAll σ ahk) : (((σ 3).length : Int) ≤ 3900 ∧ 0 < aia (σ 4)) ∧ bj (σ 3) = 1 ∧ 1 ≤ ((ak (σ 3) 0).length : Int) ∧ ¬ sj ((ak (σ 3) 0).getD 0 0) = 1 ∧ ¬ (ak (σ 3) 0).getD 0 0 = 63 ∧ ¬ (ak (σ 3) 0).getD 0 0 = 35 ∧
  al (ak (σ 3) 0) 0 0 = 0 ∧ (kk (ak (σ 3) 0) 0 [] 0).f = 0 ∧ (kk (ak (σ 3) 0) 0 [] 0).q = 0 ∧ ¬ qw (kk (ak (σ 3) 0) 0 [] 0).b = 0 := by
 simp only [sall_cons, sT, sF, sE, sN, evs, evx] at h
 exact ⟨⟨h.1, h.2.1⟩, h.2.2.1, h.2.2.2.1, h.2.2.2.2.1, h.2.2.2.2.2.1, h.2.2.2.2.2.2.1, h.2.2.2.2.2.2.2.1, h.2.2.2.2.2.2.2.2.1, h.2.2.2.2.2.2.2.2.2.1, h.2.2.2.2.2.2.2.2.2.2.1⟩
end
theorem bqs {R : List Int} (h1 : 1 ≤ (R.length : Int)) (h2 : R.getD 0 0 = 34) : al R 0 0 = 0 := by
 have e : R.getD (0 : Int).toNat 0 = 34 := h2
 rw [al, dif_pos (by omega), if_neg (by decide), e, if_neg (by decide), if_neg (by decide)]
theorem bou {c : Int} (h : ¬ sj c = 1) : ¬ c = 40 ∧ ¬ c = 41 ∧ ¬ c = 91 ∧ ¬ c = 93 ∧ ¬ c = 34 ∧ ¬ c = 39 ∧ ¬ c = 96 ∧ ¬ c = 44 ∧ ¬ c = 59 ∧ sj c = 0 := by
 unfold sj at *
 split at h
 ·exact absurd rfl h
 ·rename_i hc
  rw [if_neg hc]
  refine ⟨?_, ?_, ?_, ?_, ?_, ?_, ?_, ?_, ?_, rfl⟩ <;> (intro e; exact hc (by simp [e]))
theorem bvz {R : List Int} (h1 : 1 ≤ (R.length : Int)) (h : sj (R.getD 0 0) = 0) : apb R 0 = 0 := by
 unfold apb
 rw [if_pos (by omega)]; exact h
theorem bgv {b : List Int} (h : ¬ qw b = 0) : 1 ≤ (b.length : Int) := by
 cases b with
 | nil => exact absurd (by unfold qw ajm; rw [if_pos (.inl rfl)]) h
 | cons x l => rw [zO]; omega
theorem hre [Gv] : ∀ t ∈ [bbe, bbd, bbc, bqt], ax t := by
 intro t ht
 simp only [List.mem_cons, zH, or_false] at ht
 rcases ht with rfl | rfl | rfl | rfl
 ·exact a0h
 ·exact a0g
 ·exact a0f
 ·exact bbp
theorem btj [Gv] : ∀ t ∈ [bnm, bnp, bns], au t := by
 intro t ht
 simp only [List.mem_cons, zH, or_false] at ht
 rcases ht with rfl | rfl | rfl
 ·exact bh3
 ·exact bh5
 ·exact bh7
def b09 [Gv] : Prop := (SAll Gv.σ [] → bz 23 bvh 262 bve bvg 290 bvf)
theorem bsx [Gv] (hI : SAll Gv.σ a4t) : b09 := by
 obtain ⟨⟨hL, hc⟩, hv, hn, h34, hA⟩ := bvj (A := [.mk true (.v 21) (.c 0) false, .mk true (.c 65536) (.v 21) false, .mk false a4q (.c 0) true, .mk false a4s (.c 0) true]) hI
 have hdl := zw (Gv.σ 3)
 have hsk := bqs hn h34
 simp only [sall_cons, sE, sF, evs, evx, zJ, zD] at hA
 have hI := a7q hI ak3 (.c 0)
 have hI := avx hI (.len (.s 3)) (.c 1)
 have hI := avx hI nf (.c 0)
 have t1 := b16 (bsh (σ := Gv.σ) (by omega))
 have hI := bjv hI a40 (.c 1)
 have hI := a7q hI pe nf
 have hI := avx hI pe (.c 0)
 have hI := avx hI nf pe
 have hI := b12 hI adf nf
 have hI := avx hI adf (.c 0)
 have hI := avx hI gm (.c 0)
 have hI := a7q hI gm (.c 40)
 have hI := a7q hI gm (.c 91)
 have hI := a7q hI gm (.c 41)
 have hI := a7q hI gm (.c 93)
 have hI := bjv hI gm (.c 34)
 have hI := avx hI ary (.c 0)
 have hI := avx hI nf ary
 have hI := bjv hI (.app 91 ar0) (.c 0)
 have hI := bjv hI (.app 59 (.g a4r (.g ar1 .nil))) (.c 0)
 have u := hdl
 exact zm [(273, 270), (274, 271)] (.i (.app 93 ar0) bed (.i (.bin 6 .i64 (.v 21) (.app 49 (.g ar1 aaw))) bec (.g ar1 ayx .nil))) (zh hI hre) (zp hI btj) hI b14
theorem bqm [Gv] : ax bvd := fun σ _ hA _ => (@bsx ⟨σ⟩  (ai hA).1) (ai hA).2
theorem btm [Gv] : ∀ t ∈ [bbe, bbd, bbc, bqt, be9, be8, buh, bub, bue, rcF], ax t := by
 intro t ht
 simp only [List.mem_cons, zH, or_false] at ht
 rcases ht with rfl | rfl | rfl | rfl | rfl | rfl | rfl | rfl | rfl | rfl
 ·exact a0h
 ·exact a0g
 ·exact a0f
 ·exact bbp
 ·exact awf
 ·exact awe
 ·exact bpx
 ·exact bpv
 ·exact bpw
 ·exact ba8
theorem bkt [Gv] : ∀ t ∈ [bb9, bce, bni], au t := by
 intro t ht
 simp only [List.mem_cons, zH, or_false] at ht
 rcases ht with rfl | rfl | rfl
 ·exact bcd
 ·exact bch
 ·exact bhz
def b08 [Gv] : Prop := (SAll Gv.σ a4x → bz 23 bg9 260 bg6 bmf 290 bme) ∧ (SAll Gv.σ a4y → bz 23 bg9 260 bg6 bmi 290 bmh)
theorem bko [Gv] (hI : SAll Gv.σ ahk) : b08 := by
 obtain ⟨⟨hL, hc⟩, hv, hn, hd, h63, h35, hsk, ht1, ht2, hk⟩ := bvi hI
 have hdl := zw (Gv.σ 3)
 obtain ⟨d1, d2, d3, d4, d5, d6, d7, d8, d9, d0⟩ := bou hd
 have hst := bvz hn d0
 have htk := a0m (ak (Gv.σ 3) 0) _ 0 [] 0 (zY _) (by omega)
 rw [show ((([] : List Int).length : Nat) : Int) = 0 from rfl] at htk
 have hkb := bpy (kk (ak (Gv.σ 3) 0) 0 [] 0).b
 have hke := bgv hk
 have vr := bcu hv 0 (by omega)
 have hI := ae1 hI ak3 (.c 0)
 have hI := alr hI (.len (.s 3)) (.c 1)
 have hI := alr hI nf (.c 0)
 have t1 := b15 (bsh (σ := Gv.σ) (by omega))
 have hI := bej hI a40 (.c 1)
 have hI := ae1 hI (.c 0) nf
 have hI := alr hI pe (.c 0)
 have hI := alr hI nf pe
 have hI := bwq hI adf nf
 have hI := alr hI adf (.c 0)
 have hI := alr hI gm (.c 0)
 have hI := ae1 hI gm (.c 40)
 have hI := ae1 hI gm (.c 91)
 have hI := ae1 hI gm (.c 41)
 have hI := ae1 hI gm (.c 93)
 have hI := ae1 hI gm (.c 34)
 have hI := ae1 hI gm (.c 63)
 have hI := ae1 hI gm (.c 39)
 have hI := ae1 hI gm (.c 96)
 have hI := ae1 hI gm (.c 44)
 have hI := ae1 hI gm (.c 35)
 have hI := alr hI vi (.c 0)
 have hI := alr hI nf vi
 have hI := bej hI (.app 108 (.g qt (.i vi .nil))) (.c 0)
 have hI := bej hI (.app 44 ahl) (.c 0)
 have hI := bej hI (.app 46 ahl) (.c 0)
 have hI := bwq hI (.c 0) ar2
 have hI := alr hI (.c 400000) ar2
 have hI := alr hI (.c 20000) ar2
 have hI := ae1 hI ar3 (.c 0)
 rcases b17 hI ar3 (.c 1) with ⟨hI, k30⟩ | ⟨hI, k30⟩
 ·have u := hdl
  exact ⟨zm [] (.i (.app 48 a42) a4v (.i (.app 45 ahl) a4w .nil)) (zh hI btm) (zp hI bkt) hI bwr,
   bww⟩
 ·have hI := bej hI ar3 (.c 2)
  have u := hdl
  exact ⟨bww,
   zm [] (.i vi pe .nil) (zh hI btm) (zp hI bkt) hI bwr⟩
theorem bg7 [Gv] : ax bmd := fun σ _ hA _ => (@bko ⟨σ⟩  (ai hA).1).1 (ai hA).2
theorem bg8 [Gv] : ax bmg := fun σ _ hA _ => (@bko ⟨σ⟩  (ai hA).1).2 (ai hA).2
end Go.Ev
