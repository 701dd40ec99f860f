import Derived.Test.YtocilenpboklbaaGreatDoorSyR
set_option maxRecDepth 100000
set_option linter.all false
namespace Go.Ev
abbrev qq : AL := .i (.c 0) .nil
abbrev ii : GE := .app 6 (.g (.s 3) qq)
abbrev ara : AL := .g ii (.i (.c 1) (.g .nil qq))
abbrev ayd : GE := .app 44 ara
abbrev aye : AL := .g (.s 4) (.g ayd .nil)
abbrev f8 : SE := .len ii
abbrev ayf : SE := .rd ii (.c 1)
abbrev bc8 : SE := .len ayd
abbrev arb : SE := .app 45 ara
abbrev a3l : List SA := [.mk true (.c 3900) (.len (.s 3)) false, .mk true (.c 0) (.app 53 (.g (.s 4) .nil)) true, .mk false (.rd ii (.c 0)) (.c 40) true, .mk false (.app 50 (.g (.s 3) .nil)) (.c 1) true, .mk true f8 (.c 2) false, .mk false (.app 41 (.i ayf .nil)) (.c 1) false, .mk false ayf (.c 63) false, .mk false ayf (.c 35) false, .mk false (.app 43 (.g ii (.i (.c 1) qq))) (.c 1) true, .mk false (.app 44 ara) (.c 0) true, .mk false (.app 123 (.g ayd (.i (.app 46 ara) .nil))) (.c 1) true, .mk true (.c 1000) bc8 false, .mk true bc8 (.c 1) false, .mk false (.app 54 aye) (.c 0) true, .mk true arb f8 true, .mk false (.app 43 (.g ii (.i arb qq))) arb true, .mk false (.rd ii arb) (.c 41) true]
abbrev ag2 : SE := .app 43 (.g ii (.i (.c 0) qq))
abbrev a3m : SE := .app 43 (.g ii (.i ag2 qq))
abbrev aq5 : SE := .bin 0 .i64 a3m (.c 0)
abbrev a3n : SE := .rd ii aq5
abbrev aq6 : SE := .bin 0 .i64 a3m (.c 1)
abbrev u1 : SE := .app 43 (.g ii (.i aq6 qq))
abbrev aq7 : SE := .bin 0 .i64 u1 (.c 0)
abbrev aq8 : SE := .rd ii aq7
abbrev aq9 : SE := .bin 0 .i64 u1 (.c 1)
abbrev a3o : SE := .rd ii aq9
abbrev u3 : SE := .app 43 (.g ii (.i u1 qq))
abbrev acu : SE := .bin 0 .i64 u3 (.c 0)
abbrev dv : SE := .rd ii acu
abbrev a3p : SE := .app 108 (.g ii (.i u3 .nil))
abbrev ag3 : AL := .g ii (.i u3 (.g .nil qq))
abbrev a3q : SE := .app 44 ag3
abbrev ag4 : SE := .app 46 ag3
abbrev lf : GE := .app 44 ag3
abbrev lg : SE := .len lf
abbrev a3r : AL := .g lf .nil
abbrev a3s : SE := .app 47 a3r
abbrev a3t : SE := .eqg lf (.lit 1 46)
abbrev ag5 : SE := .app 49 (.g lf qq)
abbrev a3u : AL := .g (.s 4) a3r
abbrev ag6 : SE := .app 54 a3u
abbrev pa : SE := .app 45 ag3
abbrev pb : SE := .bin 0 .i64 (.app 43 (.g ii (.i pa qq))) (.c 0)
abbrev rt : SE := .rd ii pb
abbrev ag7 : SE := .app 55 a3u
abbrev ag8 : SE := .app 55 aye
noncomputable section
def hsP (k ko kp : Nat) (n : SE) : List HO := [.mk k (.cells 132 false 0 0 [.int .i64 3, .int .i64 1, .int .i64 0, .slice (K.of ko) 0 1 1 (some 1), .nilSlice]), .mk ko (.cells 126 true 0 0 [.iface 86 (.ptr (K.of kp) 0)]), .mk kp (.cells 88 false 0 0 [.int .i64 1, .sym .i64 n [], .int .i64 1, .int .i64 0])]
def brz : List AV := [.ptr (K.of 256) 0, .ptr (K.of 257) 0, .gv (.str (.s 3) []), .int .i64 0]
def brw : List HO := (hs0 256 :: awo 257 258 259 (.s 4))
def brx : List HO := (hsP 256 280 281 (.app 55 aye))
def bry : TR := .ret (.tuple [.agg [.int .i64 2, .int .i64 0], .top, .agg [.int .i64 0, .int .i64 0]])
def brv : TM := .mk 23 brz 260 brw (a3l ++ []) none bry 300 brx
end
def bz5 [Gv] : Prop := (SAll Gv.σ [] → aq 23 brz 260 brw bry 300 brx)
theorem bpa [Gv] (hI : SAll Gv.σ a3l) : bz5 := by
 obtain ⟨⟨hL, hc⟩, h40, hv, hn, hd, h63, h35, hsk1, ht1, hsy, hlb, hl1, hin, hpl, hse, h41⟩ := bru hI
 have hdl := zf (Gv.σ 3)
 obtain ⟨d1, d2, d3, d4, d5, d6, d7, d8, d9, d0⟩ := amx hd
 have hsk := bm0 (R := ae (Gv.σ 3) 0) (by omega) h40
 have hst := bj4 (R := ae (Gv.σ 3) 0) (i := 1) (by omega) d0
 have htk := aue (ae (Gv.σ 3) 0) _ 1 [] 0 (zY _) (by omega)
 rw [show ((([] : List Int).length : Nat) : Int) = 0 from rfl] at htk
 have hkb := a9m (cu (ae (Gv.σ 3) 0) 1 [] 0).b
 have hsn := az6 hsy
 have vr := aj0 hv 1 (by omega)
 have e1 : (0 : Int) + 1 = 1 := rfl
 have e2 : (1 : Int) + 1 = 2 := rfl
 have e3 : (2 : Int).toNat = 2 := rfl
 have hdt := bk2 hn hsy
 have vr2 := a95 hv 2
 have vr3 := a95 hv (cu (ae (Gv.σ 3) 0) 1 [] 0).p.toNat
 have t1 := akz (f53 (σ := Gv.σ) (.s 4))
 have hI := oa hI (.app 53 (.g (.s 4) .nil)) (.c 0)
 have hI := ej hI (.len (.s 3)) (.c 1)
 have hI := ej hI f8 (.c 0)
 have t2 := akz (boq (σ := Gv.σ) (by omega))
 have hI := vf hI (.app 42 (.g ii .nil)) (.c 1)
 have hI := oa hI ag2 f8
 have hI := ej hI ag2 (.c 0)
 have hI := ej hI f8 ag2
 have hI := aer hI aq5 f8
 have hI := ej hI aq5 (.c 0)
 have hI := ej hI a3n (.c 0)
 have hI := vf hI a3n (.c 40)
 have hI := ej hI aq6 (.c 0)
 have hI := ej hI f8 aq6
 have hI := aer hI aq7 f8
 have hI := ej hI aq7 (.c 0)
 have hI := ej hI aq8 (.c 0)
 have hI := oa hI aq8 (.c 41)
 rcases bn2 hI aq8 (.c 46) with ⟨hI, k18⟩ | ⟨hI, k18⟩
 ·have hI := aer hI aq9 f8
  have hI := ej hI aq9 (.c 0)
  have hI := ej hI a3o (.c 0)
  have hI := oa hI (.app 41 (.i a3o .nil)) (.c 1)
  have hI := ej hI u1 (.c 0)
  have hI := ej hI f8 u1
  have hI := aer hI acu f8
  have hI := ej hI acu (.c 0)
  have hI := ej hI dv (.c 0)
  have hI := oa hI dv (.c 40)
  have hI := oa hI dv (.c 91)
  have hI := oa hI dv (.c 41)
  have hI := oa hI dv (.c 93)
  have hI := oa hI dv (.c 34)
  have hI := oa hI dv (.c 63)
  have hI := oa hI dv (.c 39)
  have hI := oa hI dv (.c 96)
  have hI := oa hI dv (.c 44)
  have hI := oa hI dv (.c 35)
  have hI := ej hI u3 (.c 0)
  have hI := ej hI f8 u3
  have hI := vf hI a3p (.c 0)
  have hI := vf hI a3q (.c 0)
  rcases bn2 hI ag4 (.c 0) with ⟨hI, k42⟩ | ⟨hI, k42⟩
  ·have hI := aer hI (.c 0) lg
   have hI := ej hI (.c 400000) lg
   have hI := ej hI (.c 20000) lg
   have hI := vf hI a3s (.c 0)
   have hI := oa hI a3t (.c 1)
   have t3 := akz (f49 (σ := Gv.σ) lf (.c 0))
   have hI := ej hI (.c 1000) ag5
   have t4 := akz (f54 (σ := Gv.σ) (.s 4) lf)
   have hI := vf hI ag6 (.c 0)
   have hI := ej hI pa (.c 0)
   have hI := ej hI f8 pa
   have hI := aer hI pb f8
   have hI := ej hI pb (.c 0)
   have hI := ej hI rt (.c 0)
   have hI := vf hI rt (.c 41)
   have u := hdl
   exact zm [(293, 281), (296, 280)] (.i ag7 ag8 .nil) (zh hI hrs) (zp hI a4s) hI bhv
  ·have hI := vf hI ag4 (.c 1)
   have hI := aer hI (.c 0) lg
   have hI := ej hI (.c 400000) lg
   have hI := ej hI (.c 20000) lg
   have t5 := akz (f49 (σ := Gv.σ) lf (.c 0))
   have hI := ej hI (.c 1000) ag5
   have t6 := akz (f54 (σ := Gv.σ) (.s 4) lf)
   have hI := vf hI ag6 (.c 0)
   have hI := ej hI pa (.c 0)
   have hI := ej hI f8 pa
   have hI := aer hI pb f8
   have hI := ej hI pb (.c 0)
   have hI := ej hI rt (.c 0)
   have hI := vf hI rt (.c 41)
   have u := hdl
   exact zm [(289, 281), (292, 280)] (.i ag7 ag8 .nil) (zh hI hrs) (zp hI a4s) hI bhv
 ·have hI := ej hI u1 (.c 0)
  have hI := ej hI f8 u1
  have hI := aer hI acu f8
  have hI := ej hI acu (.c 0)
  have hI := ej hI dv (.c 0)
  have hI := oa hI dv (.c 40)
  have hI := oa hI dv (.c 91)
  have hI := oa hI dv (.c 41)
  have hI := oa hI dv (.c 93)
  have hI := oa hI dv (.c 34)
  have hI := oa hI dv (.c 63)
  have hI := oa hI dv (.c 39)
  have hI := oa hI dv (.c 96)
  have hI := oa hI dv (.c 44)
  have hI := oa hI dv (.c 35)
  have hI := ej hI u3 (.c 0)
  have hI := ej hI f8 u3
  have hI := vf hI a3p (.c 0)
  have hI := vf hI a3q (.c 0)
  rcases bn2 hI ag4 (.c 0) with ⟨hI, k38⟩ | ⟨hI, k38⟩
  ·have hI := aer hI (.c 0) lg
   have hI := ej hI (.c 400000) lg
   have hI := ej hI (.c 20000) lg
   have hI := vf hI a3s (.c 0)
   have hI := oa hI a3t (.c 1)
   have t7 := akz (f49 (σ := Gv.σ) lf (.c 0))
   have hI := ej hI (.c 1000) ag5
   have t8 := akz (f54 (σ := Gv.σ) (.s 4) lf)
   have hI := vf hI ag6 (.c 0)
   have hI := ej hI pa (.c 0)
   have hI := ej hI f8 pa
   have hI := aer hI pb f8
   have hI := ej hI pb (.c 0)
   have hI := ej hI rt (.c 0)
   have hI := vf hI rt (.c 41)
   have u := hdl
   exact zm [(293, 281), (296, 280)] (.i ag7 ag8 .nil) (zh hI hrs) (zp hI a4s) hI bhv
  ·have hI := vf hI ag4 (.c 1)
   have hI := aer hI (.c 0) lg
   have hI := ej hI (.c 400000) lg
   have hI := ej hI (.c 20000) lg
   have t9 := akz (f49 (σ := Gv.σ) lf (.c 0))
   have hI := ej hI (.c 1000) ag5
   have t10 := akz (f54 (σ := Gv.σ) (.s 4) lf)
   have hI := vf hI ag6 (.c 0)
   have hI := ej hI pa (.c 0)
   have hI := ej hI f8 pa
   have hI := aer hI pb f8
   have hI := ej hI pb (.c 0)
   have hI := ej hI rt (.c 0)
   have hI := vf hI rt (.c 41)
   have u := hdl
   exact zm [(289, 281), (292, 280)] (.i ag7 ag8 .nil) (zh hI hrs) (zp hI a4s) hI bhv
theorem bmt [Gv] : bj brv := fun σ _ hA _ => (@bpa ⟨σ⟩  (ap hA).1) (ap hA).2
end Go.Ev
