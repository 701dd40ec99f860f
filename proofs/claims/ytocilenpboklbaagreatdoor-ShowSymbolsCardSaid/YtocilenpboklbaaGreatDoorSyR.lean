import Derived.Test.YtocilenpboklbaaGreatDoorSyC
set_option maxRecDepth 100000
set_option linter.all false
namespace Go.Ev
abbrev aen : AL := .i (.c 0) .nil
abbrev u4 : GE := .app 6 (.g (.s 3) aen)
abbrev arf : AL := .g u4 (.i (.c 0) (.g .nil aen))
abbrev ayg : GE := .app 44 arf
abbrev arh : AL := .g (.s 4) (.g ayg .nil)
abbrev ayh : SE := .app 55 arh
abbrev ayi : SE := .app 45 arf
abbrev aeo : SE := .len u4
abbrev ayj : SE := .rd u4 (.c 0)
abbrev ag9 : SE := .app 43 (.g u4 (.i (.c 0) aen))
abbrev a3v : SE := .len ayg
abbrev a3w : List SA := [.mk true (.c 3900) (.len (.s 3)) false, .mk true (.c 0) (.app 53 (.g (.s 4) .nil)) true, .mk false (.app 50 (.g (.s 3) .nil)) (.c 1) true, .mk true aeo (.c 1) false, .mk false (.app 41 (.i ayj .nil)) (.c 1) false, .mk false ayj (.c 63) false, .mk false ayj (.c 35) false, .mk false ag9 (.c 0) true, .mk false (.app 44 arf) (.c 0) true, .mk false (.app 123 (.g ayg (.i (.app 46 arf) .nil))) (.c 1) true, .mk true (.c 1000) a3v false, .mk true a3v (.c 1) false, .mk false (.app 54 arh) (.c 0) true]
abbrev acv : SE := .app 43 (.g u4 (.i ag9 aen))
abbrev arc : SE := .bin 0 .i64 acv (.c 0)
abbrev mr : SE := .rd u4 arc
abbrev aha : AL := .g u4 (.i acv (.g .nil aen))
abbrev a3x : SE := .app 46 aha
abbrev ru : GE := .app 44 aha
abbrev yn : SE := .len ru
abbrev a3y : AL := .g ru .nil
abbrev a3z : SE := .app 49 (.g ru aen)
abbrev ard : AL := .g (.s 4) a3y
abbrev a30 : SE := .app 54 ard
abbrev acw : GE := .app 54 ard
abbrev acx : GE := .app 54 arh
abbrev a31 : SE := .app 55 ard
abbrev a32 : SE := .app 45 aha
abbrev a33 : SE := .app 53 (.g acw .nil)
abbrev a34 : SE := .app 53 (.g acx .nil)
noncomputable section
def br4 : List AV := [.ptr (K.of 256) 0, .ptr (K.of 257) 0, .gv (.str (.s 3) []), .int .i64 0]
def br1 : List HO := (hs0 256 :: awo 257 258 259 (.s 4))
def br2 : List HO := (hs0 256 :: awo 257 280 259 (.app 54 arh))
def br3 : TR := .ret (.tuple [.agg [.int .i64 1, .sym .i64 ayh []], .sym .i64 ayi [], .agg [.int .i64 0, .int .i64 0]])
def br0 : TM := .mk 23 br4 260 br1 (a3w ++ []) none br3 290 br2
end
theorem hrs [Gv] : ∀ t ∈ [bji, bjf, bjc, bsf, bdy, bdx, bqy, bqs, bqv, rcF, bh9, bh6], bj t := by
 intro t ht
 simp only [List.mem_cons, zH, or_false] at ht
 rcases ht with rfl | rfl | rfl | rfl | rfl | rfl | rfl | rfl | rfl | rfl | rfl | rfl
 ·exact bfn
 ·exact bfm
 ·exact bfl
 ·exact bm1
 ·exact ave
 ·exact avd
 ·exact bl5
 ·exact bl3
 ·exact bl4
 ·exact az0
 ·exact beg
 ·exact bee
theorem a4s [Gv] : ∀ t ∈ [ba3, ba7, bj9], be t := by
 intro t ht
 simp only [List.mem_cons, zH, or_false] at ht
 rcases ht with rfl | rfl | rfl
 ·exact ba6
 ·exact bba
 ·exact bf8
def bz6 [Gv] : Prop := (SAll Gv.σ [] → aq 23 br4 260 br1 br3 290 br2)
theorem bpb [Gv] (hI : SAll Gv.σ a3w) : bz6 := by
 obtain ⟨⟨hL, hc⟩, hv, hn, hd, h63, h35, hsk, ht1, hsy, hlb, hl1, hin⟩ := br5 hI
 have hdl := zf (Gv.σ 3)
 obtain ⟨d1, d2, d3, d4, d5, d6, d7, d8, d9, d0⟩ := amx hd
 have hst := bj4 (R := ae (Gv.σ 3) 0) (i := 0) (by omega) d0
 have htk := aue (ae (Gv.σ 3) 0) _ 0 [] 0 (zY _) (by omega)
 rw [show ((([] : List Int).length : Nat) : Int) = 0 from rfl] at htk
 have hkb := a9m (cu (ae (Gv.σ 3) 0) 0 [] 0).b
 have hsn := az6 hsy
 have vr := aj0 hv 0 (by omega)
 have t1 := aky (f53 (σ := Gv.σ) (.s 4))
 have hI := aeq hI (.app 53 (.g (.s 4) .nil)) (.c 0)
 have hI := acz hI (.len (.s 3)) (.c 1)
 have hI := acz hI aeo (.c 0)
 have t2 := aky (boq (σ := Gv.σ) (by omega))
 have hI := ayl hI (.app 42 (.g u4 .nil)) (.c 1)
 have hI := aeq hI (.c 0) aeo
 have hI := acz hI ag9 (.c 0)
 have hI := acz hI aeo ag9
 have hI := bnz hI arc aeo
 have hI := acz hI arc (.c 0)
 have hI := acz hI mr (.c 0)
 have hI := aeq hI mr (.c 40)
 have hI := aeq hI mr (.c 91)
 have hI := aeq hI mr (.c 41)
 have hI := aeq hI mr (.c 93)
 have hI := aeq hI mr (.c 34)
 have hI := aeq hI mr (.c 63)
 have hI := aeq hI mr (.c 39)
 have hI := aeq hI mr (.c 96)
 have hI := aeq hI mr (.c 44)
 have hI := aeq hI mr (.c 35)
 have hI := acz hI acv (.c 0)
 have hI := acz hI aeo acv
 have hI := ayl hI (.app 108 (.g u4 (.i acv .nil))) (.c 0)
 have hI := ayl hI (.app 44 aha) (.c 0)
 rcases b09 hI a3x (.c 0) with ⟨hI, k25⟩ | ⟨hI, k25⟩
 ·have hI := bnz hI (.c 0) yn
  have hI := acz hI (.c 400000) yn
  have hI := acz hI (.c 20000) yn
  have hI := ayl hI (.app 47 a3y) (.c 0)
  have hI := aeq hI (.eqg ru (.lit 1 46)) (.c 1)
  have t3 := aky (f49 (σ := Gv.σ) ru (.c 0))
  have hI := acz hI (.c 1000) a3z
  have t4 := aky (f54 (σ := Gv.σ) (.s 4) ru)
  have hI := ayl hI a30 (.c 0)
  have t5 := aky (f53 (σ := Gv.σ) acw)
  have t6 := aky (f53 (σ := Gv.σ) acx)
  have u := hdl
  exact zm [(276, 280)] (.i a31 ayh (.i a32 ayi (.i a33 a34 (.g acw acx .nil)))) (zh hI hrs) (zp hI a4s) hI bty
 ·have hI := ayl hI a3x (.c 1)
  have hI := bnz hI (.c 0) yn
  have hI := acz hI (.c 400000) yn
  have hI := acz hI (.c 20000) yn
  have t7 := aky (f49 (σ := Gv.σ) ru (.c 0))
  have hI := acz hI (.c 1000) a3z
  have t8 := aky (f54 (σ := Gv.σ) (.s 4) ru)
  have hI := ayl hI a30 (.c 0)
  have t9 := aky (f53 (σ := Gv.σ) acw)
  have t10 := aky (f53 (σ := Gv.σ) acx)
  have u := hdl
  exact zm [(272, 280)] (.i a31 ayh (.i a32 ayi (.i a33 a34 (.g acw acx .nil)))) (zh hI hrs) (zp hI a4s) hI bty
theorem bmu [Gv] : bj br0 := fun σ _ hA _ => (@bpb ⟨σ⟩  (ap hA).1) (ap hA).2
end Go.Ev
