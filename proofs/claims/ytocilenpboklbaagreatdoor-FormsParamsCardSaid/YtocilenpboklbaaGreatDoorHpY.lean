import Derived.Test.YtocilenpboklbaaGreatDoorHpW
set_option maxRecDepth 100000
set_option linter.all false
namespace Go.Ev
abbrev bf9 : AL := .g (.s 5) (.i (.v 1) (.i (.v 2) .nil))
abbrev qc : SE := .app 213 bf9
abbrev yx : List SA := [.mk false (.app 221 (.g (.s 5) .nil)) (.c 1) true, .mk true qc (.c 0) false, .mk true (.c 1000) qc false]
abbrev bga : List SA := [.mk true (.c 255) qc true]
abbrev jy : AL := .i (.c 0) (.g .nil (.g .nil (.i (.c (-1)) (.i (.c 0) .nil))))
abbrev bgb : GE := .app 213 bf9
abbrev alr : AL := .g bgb jy
abbrev ab2 : SE := .app 218 alr
abbrev bgc : List SA := [.mk true (.c 255) qc false, .mk false ab2 (.c 0) false]
abbrev qt : SE := .app 220 alr
abbrev a6h : List SA := [.mk true (.c 255) qc false, .mk false ab2 (.c 0) true, .mk false qt (.c 2) true]
abbrev ad8 : SE := .len (.app 218 alr)
abbrev aas : SE := .len (.app 219 alr)
abbrev a6i : List SA := [.mk true (.c 255) qc false, .mk false ab2 (.c 0) true, .mk false qt (.c 2) false, .mk false ad8 (.c 0) true, .mk false aas (.c 0) true]
abbrev a6j : List SA := [.mk true (.c 255) qc false, .mk false ab2 (.c 0) true, .mk false qt (.c 2) false, .mk false ad8 (.c 0) true, .mk false aas (.c 0) false]
abbrev a6k : List SA := [.mk true (.c 255) qc false, .mk false ab2 (.c 0) true, .mk false qt (.c 2) false, .mk false ad8 (.c 0) false, .mk false aas (.c 0) true]
abbrev a6l : List SA := [.mk true (.c 255) qc false, .mk false ab2 (.c 0) true, .mk false qt (.c 2) false, .mk false ad8 (.c 0) false, .mk false aas (.c 0) false]
abbrev arx : List SA := [.mk true (.v 6) (.c 1) false, .mk true (.c 1000) (.v 6) false]
noncomputable section
def adf : List AV := [hpp, wd (.v 1) (.v 2)]
def ade : List HO := [hH 256 (.s 5)]
def bkw : List HO := [hH 256 (.s 5)]
def bkx : TR := .ret (.tuple [.agg [.nilSlice, .nilSlice, .int .i64 0], .int .i64 4])
def be6 : TM := .mk 37 adf 257 ade (yx ++ bga) none bkx 320 bkw
def bks : List HO := [hH 256 (.s 5)]
def bkt : TR := .ret (.tuple [.agg [.nilSlice, .nilSlice, .int .i64 0], sX (.app 218 (.g gLn jy))])
def be4 : TM := .mk 37 adf 257 ade (yx ++ bgc) none bkt 320 bks
def bku : List HO := [hH 256 (.s 5)]
def bkv : TR := .ret (.tuple [.agg [.nilSlice, .nilSlice, .int .i64 0], .int .i64 5])
def be5 : TM := .mk 37 adf 257 ade (yx ++ a6h) none bkv 320 bku
def bew : List HO := [hH 256 (.s 5)]
def bex : TR := .ret (.tuple [.agg [.nilSlice, .nilSlice, sX (.app 219 (.g gLn jy))], .int .i64 0])
def ay0 : TM := .mk 37 adf 257 ade (yx ++ a6i) none bex 320 bew
def bey : List HO := [hH 256 (.s 5), nuR 258 (.len (.app 219 (.g gLn jy))) (.app 219 (.g gLn jy))]
def bez : TR := .ret (.tuple [.agg [.nilSlice, slA 258 (.len (.app 219 (.g gLn jy))), sX (.app 219 (.g gLn jy))], .int .i64 0])
def ay1 : TM := .mk 37 adf 257 ade (yx ++ a6j) none bez 320 bey
def be0 : List HO := [hH 256 (.s 5), nuR 257 (.len (.app 218 (.g gLn jy))) (.app 218 (.g gLn jy))]
def be1 : TR := .ret (.tuple [.agg [slA 257 (.len (.app 218 (.g gLn jy))), .nilSlice, sX (.app 219 (.g gLn jy))], .int .i64 0])
def ay2 : TM := .mk 37 adf 257 ade (yx ++ a6k) none be1 320 be0
def be2 : List HO := [hH 256 (.s 5), nuR 257 (.len (.app 218 (.g gLn jy))) (.app 218 (.g gLn jy)), nuR 258 (.len (.app 219 (.g gLn jy))) (.app 219 (.g gLn jy))]
def be3 : TR := .ret (.tuple [.agg [slA 257 (.len (.app 218 (.g gLn jy))), slA 258 (.len (.app 219 (.g gLn jy))), sX (.app 219 (.g gLn jy))], .int .i64 0])
def ay3 : TM := .mk 37 adf 257 ade (yx ++ a6l) none be3 320 be2
def bqo : List AV := [slW 256 (.v 6)]
def bql : List HO := [wdR 256 (.v 6) (.s 7)]
def bqm : List HO := [wdR 256 (.v 6) (.s 7), wdR 257 (.v 6) (.s 7)]
def bqn : TR := .ret (slW 257 (.v 6))
def bef : TM := .mk 38 bqo 257 bql (arx ++ []) none bqn 262 bqm
def bpx : List AV := []
def bpu : List HO := []
def bpv : List HO := []
def bpw : TR := .ret (.bool true)
def bm7 : TM := .mk 28 bpx 256 bpu ([] ++ []) none bpw 257 bpv
end
theorem ajq [Gv] : ∀ t ∈ [bm4, bk9, bk6], de t := by
 intro t ht
 simp only [List.mem_cons, zJ, or_false] at ht
 rcases ht with rfl | rfl | rfl
 ·exact a1j
 ·exact bi4
 ·exact bi2
theorem ajp [Gv] : ∀ t ∈ [bek, a17, a2a, a2d, a2g], ar t := by
 intro t ht
 simp only [List.mem_cons, zJ, or_false] at ht
 rcases ht with rfl | rfl | rfl | rfl | rfl
 ·exact ben
 ·exact a7l
 ·exact a7m
 ·exact a7n
 ·exact a7o
theorem xy (l : List Int) (k n : Int) (h : 0 ≤ j7 l k n) : j7 l k n = 0 → cq (w8 l k n) 0 [] [] (-1) 0 = ⟨0, [], [], -1, 0⟩ := by
 intro h0
 have := a1p l k n h
 rw [List.eq_nil_of_length_eq_zero (l := w8 l k n) (by omega), adc (by simp)]
def btg [Gv] : Prop := (SAll Gv.σ bga → cm 37 adf 257 ade bkx 320 bkw) ∧ (SAll Gv.σ bgc → cm 37 adf 257 ade bkt 320 bks) ∧ (SAll Gv.σ a6h → cm 37 adf 257 ade bkv 320 bku) ∧ (SAll Gv.σ a6i → cm 37 adf 257 ade bex 320 bew) ∧ (SAll Gv.σ a6j → cm 37 adf 257 ade bez 320 bey) ∧ (SAll Gv.σ a6k → cm 37 adf 257 ade be1 320 be0) ∧ (SAll Gv.σ a6l → cm 37 adf 257 ade be3 320 be2)
theorem aja [Gv] (hI : SAll Gv.σ yx) : btg := by
 obtain ⟨hP, l1, l2⟩ := bqp hI
 obtain ⟨p1, p2, p3, p4⟩ := ajo hP
 have ll := a1p (Gv.σ 5) ((Gv.σ 1).headD 0) ((Gv.σ 2).headD 0) l1
 have hI := zN1 hI (.rd (.s 5) (.c 0)) (.c 0)
 rcases zq1 hI qc (.c 0) with ⟨hI, k2⟩ | ⟨hI, k2⟩
 ·have u := xy (Gv.σ 5) ((Gv.σ 1).headD 0) ((Gv.σ 2).headD 0) l1
  exact ⟨zn4,
   zn4,
   zn4,
   zm [] (.i (.c (-1)) (.app 219 alr) .nil) (zh hI ajq) (zp hI ajp) hI ze5,
   zn4,
   zn4,
   zn4⟩
 ·rcases zl1 hI (.c 255) qc with ⟨hI, k3⟩ | ⟨hI, k3⟩
  ·have u := xy (Gv.σ 5) ((Gv.σ 1).headD 0) ((Gv.σ 2).headD 0) l1
   exact ⟨zm0 [] (zh hI ajq) (zp hI ajp) hI,
    zn4,
    zn4,
    zn4,
    zn4,
    zn4,
    zn4⟩
  ·have hI := zE1 hI (.len bgb) (.bin 7 .i64 (.c 2) qc)
   rcases zq1 hI ab2 (.c 0) with ⟨hI, k5⟩ | ⟨hI, k5⟩
   ·rcases zq1 hI ad8 (.c 0) with ⟨hI, k6⟩ | ⟨hI, k6⟩
    ·rcases zq1 hI aas (.c 0) with ⟨hI, k7⟩ | ⟨hI, k7⟩
     ·rcases zq1 hI qt (.c 2) with ⟨hI, k8⟩ | ⟨hI, k8⟩
      ·have u := xy (Gv.σ 5) ((Gv.σ 1).headD 0) ((Gv.σ 2).headD 0) l1
       exact ⟨zn4,
        zn4,
        zm0 [] (zh hI ajq) (zp hI ajp) hI,
        zn4,
        zn4,
        zn4,
        zn4⟩
      ·have u := xy (Gv.σ 5) ((Gv.σ 1).headD 0) ((Gv.σ 2).headD 0) l1
       exact ⟨zn4,
        zn4,
        zn4,
        zm0 [] (zh hI ajq) (zp hI ajp) hI,
        zn4,
        zn4,
        zn4⟩
     ·rcases zq1 hI qt (.c 2) with ⟨hI, k8⟩ | ⟨hI, k8⟩
      ·have u := xy (Gv.σ 5) ((Gv.σ 1).headD 0) ((Gv.σ 2).headD 0) l1
       exact ⟨zn4,
        zn4,
        zm0 [] (zh hI ajq) (zp hI ajp) hI,
        zn4,
        zn4,
        zn4,
        zn4⟩
      ·have u := xy (Gv.σ 5) ((Gv.σ 1).headD 0) ((Gv.σ 2).headD 0) l1
       exact ⟨zn4,
        zn4,
        zn4,
        zn4,
        zm0 [(295, 258)] (zh hI ajq) (zp hI ajp) hI,
        zn4,
        zn4⟩
    ·rcases zq1 hI aas (.c 0) with ⟨hI, k7⟩ | ⟨hI, k7⟩
     ·rcases zq1 hI qt (.c 2) with ⟨hI, k8⟩ | ⟨hI, k8⟩
      ·have u := xy (Gv.σ 5) ((Gv.σ 1).headD 0) ((Gv.σ 2).headD 0) l1
       exact ⟨zn4,
        zn4,
        zm0 [] (zh hI ajq) (zp hI ajp) hI,
        zn4,
        zn4,
        zn4,
        zn4⟩
      ·have u := xy (Gv.σ 5) ((Gv.σ 1).headD 0) ((Gv.σ 2).headD 0) l1
       exact ⟨zn4,
        zn4,
        zn4,
        zn4,
        zn4,
        zm0 [(294, 257)] (zh hI ajq) (zp hI ajp) hI,
        zn4⟩
     ·rcases zq1 hI qt (.c 2) with ⟨hI, k8⟩ | ⟨hI, k8⟩
      ·have u := xy (Gv.σ 5) ((Gv.σ 1).headD 0) ((Gv.σ 2).headD 0) l1
       exact ⟨zn4,
        zn4,
        zm0 [] (zh hI ajq) (zp hI ajp) hI,
        zn4,
        zn4,
        zn4,
        zn4⟩
      ·have u := xy (Gv.σ 5) ((Gv.σ 1).headD 0) ((Gv.σ 2).headD 0) l1
       exact ⟨zn4,
        zn4,
        zn4,
        zn4,
        zn4,
        zn4,
        zm0 [(294, 257), (295, 258)] (zh hI ajq) (zp hI ajp) hI⟩
   ·have u := xy (Gv.σ 5) ((Gv.σ 1).headD 0) ((Gv.σ 2).headD 0) l1
    exact ⟨zn4,
     zm0 [] (zh hI ajq) (zp hI ajp) hI,
     zn4,
     zn4,
     zn4,
     zn4,
     zn4⟩
theorem a21 [Gv] : de be6 := fun σ _ hA _ => (@aja ⟨σ⟩  (ap hA).1).1 (ap hA).2
theorem a2y [Gv] : de be4 := fun σ _ hA _ => (@aja ⟨σ⟩  (ap hA).1).2.1 (ap hA).2
theorem a2z [Gv] : de be5 := fun σ _ hA _ => (@aja ⟨σ⟩  (ap hA).1).2.2.1 (ap hA).2
theorem au7 [Gv] : de ay0 := fun σ _ hA _ => (@aja ⟨σ⟩  (ap hA).1).2.2.2.1 (ap hA).2
theorem au8 [Gv] : de ay1 := fun σ _ hA _ => (@aja ⟨σ⟩  (ap hA).1).2.2.2.2.1 (ap hA).2
theorem au9 [Gv] : de ay2 := fun σ _ hA _ => (@aja ⟨σ⟩  (ap hA).1).2.2.2.2.2.1 (ap hA).2
theorem ava [Gv] : de ay3 := fun σ _ hA _ => (@aja ⟨σ⟩  (ap hA).1).2.2.2.2.2.2 (ap hA).2
theorem bqj {σ : Nat → List Int} (h : SAll σ arx) : 1 ≤ (σ 6).headD 0 ∧ (σ 6).headD 0 ≤ 1000 := by
 simp only [sall_cons, sF, evs] at h
 exact ⟨h.1, h.2.1⟩
def btc [Gv] : Prop := (SAll Gv.σ [] → cm 38 bqo 257 bql bqn 262 bqm)
theorem boy [Gv] (hI : SAll Gv.σ arx) : btc := by
 obtain ⟨l1, l2⟩ := bqj hI
 have hI := zT1 hI (.c 0) (.v 6)
 have hI := zF1 hI (.c 400000) (.v 6)
 have u := l1
 exact zm0 [(258, 257)] al jz hI
theorem bni [Gv] : de bef := fun σ _ hA _ => (@boy ⟨σ⟩  (ap hA).1) (ap hA).2
def bs2 [Gv] : Prop := (SAll Gv.σ [] → cm 28 bpx 256 bpu bpw 257 bpv)
theorem bor [Gv] (hI : SAll Gv.σ []) : bs2 := by
 exact zm0 [] al jz hI
theorem bdr [Gv] : de bm7 := fun σ _ hA _ => (@bor ⟨σ⟩  (ap hA).1) (ap hA).2
end Go.Ev
