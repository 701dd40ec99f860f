import Derived.Test.YtocilenpboklbaaGreatDoorSyL
import Derived.Test.YtocilenpboklbaaGreatDoorSyP
import Derived.Test.YtocilenpboklbaaGreatDoorRbH
set_option maxRecDepth 100000
set_option linter.all false
namespace Go.Ev
abbrev bc1 : List SA := [.mk true (.len (.s 3)) (.c 1) false, .mk false (.mhas (.app 109 .nil) (.s 3)) (.c 1) false]
abbrev bc2 : GE := .cat (.one (.c 62)) (.cat (.one (.len (.s 3))) (.cat (.s 3) (.app 109 .nil)))
abbrev bc3 : SE := .app 53 (.g bc2 .nil)
abbrev aqz : GE := .app 126 (.g (.s 3) .nil)
abbrev aq0 : SE := .len aqz
abbrev aam : AL := .i (.c 0) .nil
abbrev aq1 : GE := .app 6 (.g aqz aam)
abbrev aq2 : SE := .rd aq1 (.c 0)
abbrev bc4 : SE := .len aq1
abbrev agz : AL := .g aq1 (.i (.c 0) (.g .nil aam))
abbrev aqv : GE := .app 44 agz
abbrev a3c : SE := .len aqv
abbrev aqw : AL := .g bc2 (.g aqv .nil)
abbrev a3d : SE := .bin 6 .i64 (.c 1) aq0
abbrev a3e : SE := .bin 6 .i64 a3d (.c 1)
abbrev a3f : GE := .app 54 aqw
abbrev a3g : GE := .cat (.cat (.lit 1 40) aqz) (.lit 1 41)
abbrev u0 : GE := .app 6 (.g a3g aam)
abbrev a3h : SE := .len u0
abbrev aqx : SE := .rd u0 (.c 1)
abbrev ag0 : AL := .g u0 (.i (.c 1) (.g .nil aam))
abbrev aqy : GE := .app 44 ag0
abbrev a3i : SE := .len aqy
abbrev a3j : AL := .g a3f (.g aqy .nil)
abbrev ag1 : SE := .app 45 ag0
abbrev a3k : SE := .app 55 aqw
noncomputable section
def bqm : List AV := []
def bqj : List HO := []
def bqk : List HO := []
def bql : TR := .ret (.bool true)
def blq : TM := .mk 9 bqm 256 bqj ([] ++ []) none bql 256 bqk
def bqr : List AV := [.gv (.str (.s 3) [])]
def bzl : List HO := []
def bzm : List HO := []
def bzn : TR := .ret (.bool true)
end
section
variable {σ : Nat → List Int}
theorem bqp (h : SAll σ bc1) : 1 ≤ ((σ 3).length : Int) ∧ ¬ yu g0L (σ 3) = 1 := by
 simp only [sall_cons, sT, sF, sE, sN, evs, evx] at h
 exact ⟨h.1, h.2.1⟩
theorem as8 : (∀ σ : Nat → List Int, (GE.lit 1 40).eval σ = [40]) ∧ (∀ σ : Nat → List Int, (GE.lit 1 41).eval σ = [41]) :=
 ⟨fun σ => by simp only [GE.eval]; decide +kernel, fun σ => by simp only [GE.eval]; decide +kernel⟩
theorem aex : jo 40 = 1 := by decide
end
def bzh [Gv] : Prop := (SAll Gv.σ [] → aq 9 bqm 256 bqj bql 256 bqk)
theorem boz [Gv] (hI : SAll Gv.σ []) : bzh := by
 exact zm0 [] ab ac hI
theorem a8n [Gv] : bj blq := fun σ _ hA _ => (@boz ⟨σ⟩  (ap hA).1) (ap hA).2
theorem blg [Gv] : ∀ t ∈ [blq, bpq, bkg, bkd, a8z, a8y, a8x, bqb, bsn, bst, brv, br0], bj t := by
 intro t ht
 simp only [List.mem_cons, zH, or_false] at ht
 rcases ht with rfl | rfl | rfl | rfl | rfl | rfl | rfl | rfl | rfl | rfl | rfl | rfl
 ·exact a8n
 ·exact bk8
 ·exact bgh
 ·exact bgf
 ·exact azq
 ·exact azp
 ·exact azo
 ·exact bll
 ·exact bm2
 ·exact bm3
 ·exact bmt
 ·exact bmu
def bzk [Gv] : Prop := (SAll Gv.σ [] → aq 4 bqr 256 bzl bzn 256 bzm)
theorem bo1 [Gv] (hB : ax (Gv.σ 3)) (hI : SAll Gv.σ bc1) : bzk := by
 obtain ⟨l1, hn⟩ := bqp hI
 have hne : Gv.σ 3 ≠ [] := fun e => by rw [e] at l1; exact absurd l1 (by decide)
 have y0 := bj5 l1
 have z0 := (fun (h : ar (Gv.σ 3) = 1) => (du hB h hne).v)
 have z1 := (fun (h : ar (Gv.σ 3) = 1) => (du hB h hne).b)
 have z2 := (fun (h : ar (Gv.σ 3) = 1) => (du hB h hne).n)
 have z3 := (fun (h : ar (Gv.σ 3) = 1) => (du hB h hne).c1)
 have z4 := (fun (h : ar (Gv.σ 3) = 1) => (du hB h hne).c2)
 have z5 := (fun (h : ar (Gv.σ 3) = 1) => (du hB h hne).c3)
 have z6 := (fun (h : ar (Gv.σ 3) = 1) => (du hB h hne).sk)
 have z7 := (fun (h : ar (Gv.σ 3) = 1) => (du hB h hne).V)
 have z8 := (fun (h : ar (Gv.σ 3) = 1) => (du hB h hne).D)
 have z9 := (fun (h : ar (Gv.σ 3) = 1) => (du hB h hne).e0)
 have z10 := (fun (h : ar (Gv.σ 3) = 1) => (du hB h hne).e1)
 have z11 := (fun (h : ar (Gv.σ 3) = 1) => (du hB h hne).s1)
 have z12 := (fun (h : ar (Gv.σ 3) = 1) => (du hB h hne).s2)
 have z13 := (fun (h : ar (Gv.σ 3) = 1) => (du hB h hne).t1.1)
 have z14 := (fun (h : ar (Gv.σ 3) = 1) => (du hB h hne).t1.2.1)
 have z15 := (fun (h : ar (Gv.σ 3) = 1) => (du hB h hne).t1.2.2.1)
 have z16 := (fun (h : ar (Gv.σ 3) = 1) => (du hB h hne).t1.2.2.2)
 have z17 := (fun (h : ar (Gv.σ 3) = 1) => (du hB h hne).T1.1)
 have z18 := (fun (h : ar (Gv.σ 3) = 1) => (du hB h hne).T1.2.1)
 have z19 := (fun (h : ar (Gv.σ 3) = 1) => (du hB h hne).T1.2.2.1)
 have z20 := (fun (h : ar (Gv.σ 3) = 1) => (du hB h hne).T1.2.2.2)
 have w1 := aly (Gv.σ 3)
 have w2 := (fun (h : ar (Gv.σ 3) = 1) => (amx ((du hB h hne).c1)).1)
 have i1 := fun (h : ar (Gv.σ 3) = 1) (h2 : ((Gv.σ 3).length : Int) ≤ 1000) => bec h h2 hn
 rcases b07 hI (.c 1000) (.len (.s 3)) with ⟨hI, k1⟩ | ⟨hI, k1⟩
 ·have u := l1
  exact zm0 [] (zh hI blg) ac hI
 ·have hI := aep hI (.c 4000) (.len (.s 3))
  rcases b1a hI (.app 50 (.g (.s 3) .nil)) (.c 1) with ⟨hI, k3⟩ | ⟨hI, k3⟩
  ·have hI := vg hI bc3 (.c 63)
   have hI := aep hI (.c 3900) aq0
   have hI := bn0 hI (.c 0) bc3
   have hI := ayn hI aq2 (.c 40)
   have hI := vg hI (.app 50 (.g aqz .nil)) (.c 1)
   have hI := aep hI bc4 (.c 1)
   have hI := ayn hI (.app 41 (.i aq2 .nil)) (.c 1)
   have hI := ayn hI aq2 (.c 63)
   have hI := ayn hI aq2 (.c 35)
   have hI := vg hI (.app 43 (.g aq1 (.i (.c 0) aam))) (.c 0)
   have hI := vg hI (.app 44 agz) (.c 0)
   have hI := vg hI (.app 123 (.g aqv (.i (.app 46 agz) .nil))) (.c 1)
   have hI := aep hI (.c 1000) a3c
   have hI := aep hI a3c (.c 1)
   have hI := vg hI (.app 54 aqw) (.c 0)
   have hI := aep hI (.c 9223372036854775807) a3d
   have hI := aep hI (.c 9223372036854775807) a3e
   have hI := aep hI (.c 3900) a3e
   have hI := bn0 hI (.c 0) (.app 53 (.g a3f .nil))
   have hI := vg hI (.rd u0 (.c 0)) (.c 40)
   have hI := vg hI (.app 50 (.g a3g .nil)) (.c 1)
   have hI := aep hI a3h (.c 2)
   have hI := ayn hI (.app 41 (.i aqx .nil)) (.c 1)
   have hI := ayn hI aqx (.c 63)
   have hI := ayn hI aqx (.c 35)
   have hI := vg hI (.app 43 (.g u0 (.i (.c 1) aam))) (.c 1)
   have hI := vg hI (.app 44 ag0) (.c 0)
   have hI := vg hI (.app 123 (.g aqy (.i (.app 46 ag0) .nil))) (.c 1)
   have hI := aep hI (.c 1000) a3i
   have hI := aep hI a3i (.c 1)
   have hI := vg hI (.app 54 a3j) (.c 0)
   have hI := bn0 hI ag1 a3h
   have hI := vg hI (.app 43 (.g u0 (.i ag1 aam))) ag1
   have hI := vg hI (.rd u0 ag1) (.c 41)
   have hI := vg hI a3k (.c 62)
   have hI := aep hI (.c 4000) aq0
   have hI := aep hI aq0 (.c 1)
   have hI := vg hI (.app 45 agz) bc4
   have hI := vg hI (.app 55 a3j) a3k
   have hI := vg hI (.eqg (.s 3) (.s 3)) (.c 1)
   have u := l1
   exact zm0 [] (zh hI blg) ac hI
  ·have u := l1
   exact zm0 [] (zh hI blg) ac hI
end Go.Ev
