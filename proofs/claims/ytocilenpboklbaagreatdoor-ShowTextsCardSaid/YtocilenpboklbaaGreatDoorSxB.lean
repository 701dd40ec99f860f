import Derived.Test.YtocilenpboklbaaGreatDoorSxA
set_option maxRecDepth 100000
set_option linter.all false
namespace Go.Ev
abbrev ak0 : SE := .app 53 (.g (.s 4) .nil)
abbrev aav : List SA := [.mk true (.c 2000) (.len (.s 3)) false, .mk true (.c 0) ak0 true]
abbrev ark : List SA := [.mk true (.len (.s 3)) (.c 1) true]
abbrev ak1 : AL := .i (.c 0) .nil
abbrev bd8 : GE := .app 120 (.i (.c 0) (.g (.s 3) ak1))
abbrev ayt : GE := .cat (.cat (.lit 1 34) bd8) (.lit 1 34)
abbrev arl : List SA := [.mk true (.len (.s 3)) (.c 1) false]
abbrev arm : GE := .app 121 (.i (.v 1) .nil)
abbrev ayu : SE := .c 9223372036854775807
abbrev ari : List SA := [.mk true (.v 1) (.c (-9223372036854775808)) false, .mk true ayu (.v 1) false, .mk true (.c 0) ak0 true]
abbrev a30 : SE := .bin 6 .i64 (.c 1) (.len bd8)
abbrev ag5 : SE := .bin 6 .i64 a30 (.c 1)
abbrev arj : SE := .len arm
noncomputable section
def hs1 (k ko kt : Nat) (g : GE) : List HO := [.mk k (.cells 132 false 0 0 [.int .i64 3, .int .i64 1, sy 21, .slice (K.of ko) 0 1 1 (some 1), .nilSlice]), .mk ko (.cells 126 true 0 0 [.iface 121 (.ptr (K.of kt) 0)]), .mk kt (.cells 123 false 0 0 [.gv (.str g [])])]
def bhj : List AV := [.ptr (K.of 256) 0, .ptr (K.of 259) 0, .agg [.int .i64 3, .int .i64 0], .bool true]
def bhh : List HO := (hs1 256 257 258 (.s 3) ++ ael 259 260 261 (.s 4))
def bm2 : List HO := (hs1 256 257 258 (.s 3) ++ ael 259 260 261 (.s 4))
def bm3 : TR := .ret (.tuple [.str 2 8738, .int .i64 0])
def bm1 : TM := .mk 16 bhj 262 bhh (aav ++ ark) none bm3 290 bm2
def bmz : List HO := (hs1 256 257 258 (.s 3) ++ ael 259 260 261 (.s 4))
def bm0 : TR := .ret (.tuple [.gv (.str ayt []), .int .i64 0])
def bmy : TM := .mk 16 bhj 262 bhh (aav ++ arl) none bm0 290 bmz
def bhe : List AV := [.ptr (K.of 256) 0, .ptr (K.of 259) 0, .agg [.int .i64 3, .int .i64 0], .bool false]
def bhc : List HO := (hs1 256 257 258 (.s 3) ++ ael 259 260 261 (.s 4))
def bmw : List HO := (hs1 256 257 258 (.s 3) ++ ael 259 260 261 (.s 4))
def bmx : TR := .ret (.tuple [.str 0 0, .int .i64 0])
def bmv : TM := .mk 16 bhe 262 bhc (aav ++ ark) none bmx 290 bmw
def bmt : List HO := (hs1 256 257 258 (.s 3) ++ ael 259 260 261 (.s 4))
def bmu : TR := .ret (.tuple [.gv (.str (.s 3) []), .int .i64 0])
def bms : TM := .mk 16 bhe 262 bhc (aav ++ arl) none bmu 290 bmt
def bvr : List AV := [.ptr (K.of 256) 0, .ptr (K.of 257) 0, .agg [.int .i64 0, .sym .i64 (.v 1) []], .bool true]
def bvo : List HO := ([.mk 256 (.cells 132 false 0 0 [.int .i64 3, sy 20, sy 21, .top, .nilSlice])] ++ ael 257 258 259 (.s 4))
def bvp : List HO := ([.mk 256 (.cells 132 false 0 0 [.int .i64 3, sy 20, sy 21, .top, .nilSlice])] ++ ael 257 258 259 (.s 4))
def bvq : TR := .ret (.tuple [.gv (.str arm []), .int .i64 0])
def bvn : TM := .mk 16 bvr 260 bvo (ari ++ []) none bvq 290 bvp
end
section
variable {σ : Nat → List Int}
theorem bmr (h : SAll σ aav) : ((σ 3).length : Int) ≤ 2000 ∧ 0 < aia (σ 4) := by
 simp only [sall_cons, sT, sF, evs] at h
 exact ⟨h.1, h.2.1⟩
theorem bvt (h : SAll σ ari) : (-9223372036854775808 ≤ (σ 1).headD 0 ∧ (σ 1).headD 0 ≤ 9223372036854775807) ∧ 0 < aia (σ 4) := by
 simp only [sall_cons, sT, sF, evs] at h
 exact ⟨⟨h.1, h.2.1⟩, h.2.2.1⟩
theorem aih : ∀ (f : Nat) (n : Int), ((s9 f n).length : Int) ≤ (f : Int)
 | 0, n => Int.le_refl _
 | f + 1, n => by
   unfold s9
   split
   ·show (1 : Int) ≤ ((f + 1 : Nat) : Int); omega
   ·rw [zP]
    have := aih f (n / 10)
    show (((s9 f (n / 10)).length + 1 : Nat) : Int) ≤ _
    omega
theorem aii (f : Nat) (n : Int) : 1 ≤ ((s9 (f + 1) n).length : Int) := by
 unfold s9
 split
 ·exact Int.le_refl _
 ·rw [zP]; show (1 : Int) ≤ (((s9 f (n / 10)).length + 1 : Nat) : Int); omega
theorem bsg (n : SE) : 1 ≤ (SE.len (.app 121 (.i n .nil))).eval σ ∧ (SE.len (.app 121 (.i n .nil))).eval σ ≤ 21 := by
 show 1 ≤ ((ej (n.eval σ)).length : Int) ∧ ((ej (n.eval σ)).length : Int) ≤ 21
 unfold ej
 split
 ·rw [zO]
  have := aih 20 (-(n.eval σ)); omega
 ·have := aih 20 (n.eval σ); have h2 : 1 ≤ ((s9 20 (n.eval σ)).length : Int) := aii 19 (n.eval σ); omega
end
theorem hsh [Gv] : ∀ t ∈ [bu6, bu3, rcF, btv], ax t := by
 intro t ht
 simp only [List.mem_cons, zH, or_false] at ht
 rcases ht with rfl | rfl | rfl | rfl
 ·exact bqe
 ·exact bqd
 ·exact ba8
 ·exact bpc
def b1e [Gv] : Prop := (SAll Gv.σ ark → bz 16 bhj 262 bhh bm3 290 bm2) ∧ (SAll Gv.σ arl → bz 16 bhj 262 bhh bm0 290 bmz)
theorem bkq [Gv] (hI : SAll Gv.σ aav) : b1e := by
 obtain ⟨l1, l2⟩ := bmr hI
 try obtain ⟨l3, l4⟩ := l1
 have hI := bri hI ak0 (.c 0)
 have hI := ae0 hI (.c 10000) (.len (.s 3))
 rcases bwu hI (.len (.s 3)) (.c 1) with ⟨hI, k3⟩ | ⟨hI, k3⟩
 ·have t1 := a7r (f49 (σ := Gv.σ) (.lit 2 8738) (.c 0))
  have hI := ae0 hI (.c 65536) (.bin 0 .i64 (.c 0) (.app 49 (.g (.lit 2 8738) ak1)))
  have u := l2
  exact ⟨zm0 [] (zh hI hsh) af hI,
   bj2⟩
 ·have t2 := a7r (a8w (σ := Gv.σ) (.c 0) (.s 3))
  have hI := ae0 hI ayu a30
  have hI := ae0 hI ayu ag5
  have hI := ae0 hI (.c 20000) ag5
  have t3 := a7r (f49 (σ := Gv.σ) ayt (.c 0))
  have hI := ae0 hI (.c 65536) (.bin 0 .i64 (.c 0) (.app 49 (.g ayt ak1)))
  have hI := bwp hI (.c 0) ag5
  have hI := ae0 hI (.c 400000) ag5
  have u := l2
  exact ⟨bj2,
   zm0 [] (zh hI hsh) af hI⟩
theorem bhk [Gv] : ax bm1 := fun σ _ hA _ => (@bkq ⟨σ⟩  (ai hA).1).1 (ai hA).2
theorem bhi [Gv] : ax bmy := fun σ _ hA _ => (@bkq ⟨σ⟩  (ai hA).1).2 (ai hA).2
def b1d [Gv] : Prop := (SAll Gv.σ ark → bz 16 bhe 262 bhc bmx 290 bmw) ∧ (SAll Gv.σ arl → bz 16 bhe 262 bhc bmu 290 bmt)
theorem bkp [Gv] (hI : SAll Gv.σ aav) : b1d := by
 obtain ⟨l1, l2⟩ := bmr hI
 try obtain ⟨l3, l4⟩ := l1
 have hI := bri hI ak0 (.c 0)
 have hI := ae0 hI (.c 20000) (.len (.s 3))
 have t1 := a7r (f49 (σ := Gv.σ) (.s 3) (.c 0))
 have hI := ae0 hI (.c 65536) (.bin 0 .i64 (.c 0) (.app 49 (.g (.s 3) ak1)))
 rcases bwu hI (.c 0) (.len (.s 3)) with ⟨hI, k4⟩ | ⟨hI, k4⟩
 ·have hI := ae0 hI (.c 400000) (.len (.s 3))
  have u := l2
  exact ⟨bj2,
   zm0 [] (zh hI hsh) af hI⟩
 ·have u := l2
  exact ⟨zm0 [] (zh hI hsh) af hI,
   bj2⟩
theorem bhf [Gv] : ax bmv := fun σ _ hA _ => (@bkp ⟨σ⟩  (ai hA).1).1 (ai hA).2
theorem bhd [Gv] : ax bms := fun σ _ hA _ => (@bkp ⟨σ⟩  (ai hA).1).2 (ai hA).2
def b1c [Gv] : Prop := (SAll Gv.σ [] → bz 16 bvr 260 bvo bvq 290 bvp)
theorem bsy [Gv] (hI : SAll Gv.σ ari) : b1c := by
 obtain ⟨l1, l2⟩ := bvt hI
 try obtain ⟨l3, l4⟩ := l1
 have hI := bri hI ak0 (.c 0)
 have t1 := a7r (bsg (σ := Gv.σ) (.v 1))
 have hI := ae0 hI (.c 20000) arj
 have t2 := a7r (f49 (σ := Gv.σ) arm (.c 0))
 have hI := ae0 hI (.c 65536) (.bin 0 .i64 (.c 0) (.app 49 (.g arm ak1)))
 have hI := bwp hI (.c 0) arj
 have hI := ae0 hI (.c 400000) arj
 have u := l2
 exact zm0 [] (zh hI hsh) af hI
theorem bqn [Gv] : ax bvn := fun σ _ hA _ => (@bsy ⟨σ⟩  (ai hA).1) (ai hA).2
end Go.Ev
