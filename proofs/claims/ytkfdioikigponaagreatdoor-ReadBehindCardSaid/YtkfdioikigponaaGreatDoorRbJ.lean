import Derived.Test.YtkfdioikigponaaGreatDoorRbI
import Derived.Test.YtkfdioikigponaaGreatDoorRaY
set_option maxRecDepth 100000
set_option linter.all false
namespace Go.Ev
abbrev ay1 : GE := .app 6 (.g (.s 3) (.i (.c 0) .nil))
abbrev a5f : SE := .len ay1
abbrev bkn : SE := .app 43 (.g ay1 (.i (.c 0) (.i (.c 0) .nil)))
abbrev bis : AL := .i (.c 0) (.g (.cat (.one (.c 3200)) (.cat (.one (.c 0)) (.one (.c 0)))) (.g (.app 109 .nil) .nil))
abbrev akh : AL := .g ay1 (.i bkn bis)
abbrev aye : SE := .app 64 akh
abbrev bna : GE := .app 110 (.g ay1 (.i (.c 0) (.i aye .nil)))
abbrev bmo : SE := .bin 6 .i64 (.len bna) (.c 1)
abbrev bhb : SE := .bin 6 .i64 bmo (.len (.s 12))
abbrev bay : GE := .cat (.cat bna (.lit 1 32)) (.s 12)
abbrev axq : GE := .app 6 (.g bay (.i (.c 0) .nil))
abbrev bd9 : SE := .len axq
abbrev ba8 : SE := .app 43 (.g axq (.i (.c 0) (.i (.c 0) .nil)))
abbrev adp : AL := .g axq (.i ba8 bis)
abbrev a74 : GE := .app 61 adp
abbrev bcc : GE := .app 61 akh
noncomputable section
def b54 : List AV := []
def b7t : List HO := []
def b58 : List HO := []
def b98 : TR := .ret (.bool true)
def b8n : TM := .mk 9 b54 256 b7t ([] ++ []) none b98 256 b58
def b23 : List AV := [.gv (.str (.s 3) []), .gv (.str (.s 12) [])]
def cau : List HO := []
def ccg : List HO := []
def cb8 : TR := .ret (.bool true)
end
theorem cb5 {s t h G : List Int} (hb : b8 s) : (s.length : Int) ≤ 1500 → b9 s = 1 → b9 t = 1 → af (ai s 0) 0 0 < ((ai s 0).length : Int) → (al (ai s 0) (af (ai s 0) 0 0) 0 h G).f = 0 →
  0 ≤ (al (ai s 0) (af (ai s 0) 0 0) 0 h G).p ∧ (al (ai s 0) (af (ai s 0) 0 0) 0 h G).p ≤ ((ai s 0).length : Int) ∧
  b9 ((wf (ai s 0) 0 (al (ai s 0) (af (ai s 0) 0 0) 0 h G).p ++ [32]) ++ t) = 1 ∧ ((wf (ai s 0) 0 (al (ai s 0) (af (ai s 0) 0 0) 0 h G).p).length : Int) ≤ (s.length : Int) ∧
  af (ai s 0) 0 0 < ((ai ((wf (ai s 0) 0 (al (ai s 0) (af (ai s 0) 0 0) 0 h G).p ++ [32]) ++ t) 0).length : Int) := fun a b c d e => by
 obtain ⟨h1, h2, h3, h4, _, h6, _⟩ := rbh (t := t) hb a b c d e
 exact ⟨h1, h2, h3, h4, h6⟩
def ccj [Gv] : Prop := (SAll Gv.σ [] → ba 9 b54 256 b7t b98 256 b58)
theorem b77 [Gv] (hI : SAll Gv.σ []) : ccj := by
 exact zm0 [] aa ag hI
theorem b07 [Gv] : am b8n := fun σ _ hA _ => (@b77 ⟨σ⟩  (aj hA).1) (aj hA).2
theorem hbh [Gv] : ∀ t ∈ [b8n, bys, bvj, b8r, bz5, bwj, buf, bv9, b8d, b89], am t := by
 intro t ht
 simp only [List.mem_cons, zH, or_false] at ht
 rcases ht with rfl | rfl | rfl | rfl | rfl | rfl | rfl | rfl | rfl | rfl
 ·exact b07
 ·exact bo8
 ·exact boq
 ·exact b04
 ·exact brd
 ·exact bob
 ·exact bss
 ·exact bof
 ·exact b2a
 ·exact b1r
def cbh [Gv] : Prop := (SAll Gv.σ [] → ba 4 b23 256 cau cb8 256 ccg)
theorem b7v [Gv] (hB : b8 (Gv.σ 3)) (hI : SAll Gv.σ []) : cbh := by
 have hdl := f8 (Gv.σ 3)
 have hps := @a6i (Gv.σ 3)
 have e0 := cb5 (s := Gv.σ 3) (t := Gv.σ 12) (h := [3200, 0, 0]) (G := g0L) hB
 have e1 := ccd (s := Gv.σ 3) (t := Gv.σ 12) (h := [3200, 0, 0]) (G := g0L) hB
 have e2 := cch (s := Gv.σ 3) (t := Gv.σ 12) (h := [3200, 0, 0]) (G := g0L) hB
 have hsk := fq (ai (Gv.σ 3) 0) 0 0
 have f13 := fun h => (bcj (R := ai (Gv.σ 3) 0) (ajo (s := Gv.σ 3) h) _).1 (af (ai (Gv.σ 3) 0) 0 0) 0 [3200, 0, 0] g0L (zY _)
 rcases b17 hI (.c 1500) (.len (.s 3)) with ⟨hI, k1⟩ | ⟨hI, k1⟩
 ·have u := hdl
  exact zm0 [] (zh hI hbh) ag hI
 ·rcases b17 hI (.c 1500) (.len (.s 12)) with ⟨hI, k2⟩ | ⟨hI, k2⟩
  ·have u := hdl
   exact zm0 [] (zh hI hbh) ag hI
  ·have hI := asr hI (.c 4000) (.len (.s 12))
   rcases b0n hI (.app 50 (.g (.s 12) .nil)) (.c 1) with ⟨hI, k4⟩ | ⟨hI, k4⟩
   ·have hI := asr hI (.c 3900) (.len (.s 3))
    have t1 := bsb (b2f)
    have t2 := bsb (f53 (σ := Gv.σ) (.app 109 .nil))
    have hI := b73 hI (.c 0) (.app 53 (.g (.app 109 .nil) .nil))
    have hI := asr hI a5f (.c 0)
    rcases b0n hI (.app 50 (.g (.s 3) .nil)) (.c 1) with ⟨hI, k8⟩ | ⟨hI, k8⟩
    ·rcases b17 hI bkn a5f with ⟨hI, k9⟩ | ⟨hI, k9⟩
     ·rcases b0n hI (.app 60 akh) (.c 0) with ⟨hI, k10⟩ | ⟨hI, k10⟩
      ·have hI := asr hI (.len (.s 3)) (.c 1)
       have hI := asr hI aye (.c 0)
       have hI := asr hI a5f aye
       have hI := asr hI (.c 9223372036854775807) bmo
       have hI := asr hI (.c 9223372036854775807) bhb
       have hI := asr hI (.c 3900) bhb
       have hI := asr hI bd9 (.c 0)
       have hI := a6n hI (.app 50 (.g bay .nil)) (.c 1)
       have hI := b73 hI ba8 bd9
       have hI := a6n hI (.app 60 adp) (.c 0)
       have hI := a6n hI (.app 62 adp) (.app 62 akh)
       have hI := a6n hI (.app 63 adp) (.app 63 akh)
       have hI := a6n hI (.app 64 adp) aye
       have hI := a6n hI (.rd (.app 60 adp) (.c 1)) (.rd (.app 60 akh) (.c 1))
       have t3 := bsb (f53 (σ := Gv.σ) a74)
       have t4 := bsb (f53 (σ := Gv.σ) bcc)
       have hI := a6n hI (.app 53 (.g a74 .nil)) (.app 53 (.g bcc .nil))
       have u := hdl
       exact zm0 [] (zh hI hbh) ag hI
      ·have u := hdl
       exact zm0 [] (zh hI hbh) ag hI
     ·have u := hdl
      exact zm0 [] (zh hI hbh) ag hI
    ·have u := hdl
     exact zm0 [] (zh hI hbh) ag hI
   ·have u := hdl
    exact zm0 [] (zh hI hbh) ag hI
end Go.Ev
