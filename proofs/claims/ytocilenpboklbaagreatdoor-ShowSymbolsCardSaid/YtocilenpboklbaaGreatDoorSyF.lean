import Derived.Test.YtocilenpboklbaaGreatDoorSyB
set_option maxRecDepth 100000
set_option linter.all false
namespace Go.Ev
abbrev aq3 : SE := .app 122 (.g (.s 3) .nil)
abbrev ayb : GE := .cut (.s 3) (.c 1) (.len (.s 3))
abbrev bc5 : SE := .eqg ayb (.lit 0 0)
abbrev bc6 : SE := .len ayb
abbrev bc7 : SE := .eqg (.app 124 (.g ayb .nil)) (.lit 0 0)
abbrev aan : GE := .app 125 (.g (.s 3) .nil)
abbrev ake : SE := .c 9223372036854775807
abbrev ayc : GE := .app 120 (.i (.c 1) (.g (.s 3) (.i (.c 0) .nil)))
abbrev akf : SE := .bin 6 .i64 (.c 1) (.len ayc)
abbrev act : GE := .cat (.lit 1 92) ayc
abbrev aq4 : GE := .cut (.s 3) (.c 0) (.c 1)
theorem adr (s : List Int) : (s = []) = ((s.length : Int) = 0) := by cases s <;> simp; omega
theorem bo2 (s : List Int) : ((s.length : Int) = 0 → ¬ abt s = 1) ∧ (1 ≤ (s.length : Int) ∧ (s.getD 0 0 = 43 ∨ s.getD 0 0 = 45) → (abt s = 1 ↔ (¬ ((s.drop 1).length : Int) = 0 ∧ ((jl (ez (s.drop 1))).length : Int) = 0))) ∧
  (1 ≤ (s.length : Int) ∧ ¬ s.getD 0 0 = 43 ∧ ¬ s.getD 0 0 = 45 → (abt s = 1 ↔ ((jl (ez s)).length : Int) = 0)) ∧ ((s.drop 1).length : Int) ≤ (s.length : Int) := by
 have key : ∀ d, aok s = d → (abt s = 1 ↔ (¬ (d.length : Int) = 0 ∧ ((jl (ez d)).length : Int) = 0)) := by
  intro d h
  unfold abt
  rw [h, ← adr, ← adr]
  split
  ·rename_i hc; exact ⟨fun _ => hc, fun _ => rfl⟩
  ·rename_i hc; exact ⟨fun q => absurd q (by decide), fun q => absurd q hc⟩
 refine ⟨fun h => ?_, fun h => ?_, fun h => ?_, ?_⟩
 ·have : s = [] := by rw [adr]; exact h
  subst this; decide
 ·exact key _ (by rw [a7j s h.1, if_pos h.2])
 ·have := key _ (show aok s = s by rw [a7j s h.1, if_neg (by omega)])
  constructor
  ·intro q; exact (this.1 q).2
  ·intro q; exact this.2 ⟨by omega, q⟩
 ·rw [List.length_drop]; omega
theorem ww {s : List Int} (h : 1 ≤ (s.length : Int)) (c : Int) : ((s.take 1).drop 0 = [c]) = (s.headD 0 = c) := by
 cases s with
 | nil => simp at h
 | cons x l => simp
def a4u (s : List Int) : Int := if s = [46] then 1 else 0
theorem nw (s : List Int) : (s = [46]) = (a4u s = 1) := by unfold a4u; split <;> simp_all
theorem bq4 {s : List Int} (h : a4u s = 1) : s = [46] := by rw [nw]; exact h
theorem by2 (s : List Int) : (s.length : Int) = 0 → ¬ a4u s = 1 := fun h e => by have e := bq4 e; rw [e] at h; exact absurd h (by decide)
theorem by3 (s : List Int) : (s.length : Int) = 0 → s.headD 0 = 0 := fun h => by cases s with
 | nil => rfl
 | cons x l => simp at h; omega
theorem wk (s : List Int) : bp s = if a4u s = 1 ∨ abt s = 1 ∨ s.headD 0 = 63 ∨ s.headD 0 = 35 ∨ s.headD 0 = 64 then 92 :: kk 1 s 0 else kk 1 s 0 := by
 unfold bp
 simp only [nw]
theorem av7 {s : List Int} (h : (s.length : Int) < 1) : kk 1 s 0 = [] := by rw [px, if_neg (by omega)]
theorem ang [Gv] : ∀ t ∈ [bs0], bj t := gg bm9
def b0a [Gv] : Prop := (SAll Gv.σ [.mk false aq3 (.c 1) true] → aq 170 bf3 256 bf1 bj2 260 bj1) ∧ (SAll Gv.σ [.mk false aq3 (.c 1) false] → aq 170 bf3 256 bf1 bjz 260 bjy)
theorem bh3 [Gv] (hI : SAll Gv.σ [.mk true (.c 20000) (.len (.s 3)) false]) : b0a := by
 have h20 := y3 hI
 have w := bo2 (Gv.σ 3)
 rcases au0 hI (.eqg (.s 3) (.lit 0 0)) (.c 1) with ⟨hI, k1⟩ | ⟨hI, k1⟩
 ·have u := h20
  exact ⟨arm,
   zm0 [] (zh hI ang) ac hI⟩
 ·have hI := b03 hI (.c 0) (.len (.s 3))
  rcases au0 hI (.rd (.s 3) (.c 0)) (.c 43) with ⟨hI, k3⟩ | ⟨hI, k3⟩
  ·have hI := bhu hI (.len (.s 3)) (.c 1)
   rcases au0 hI bc5 (.c 1) with ⟨hI, k5⟩ | ⟨hI, k5⟩
   ·have u := h20
    exact ⟨arm,
     zm0 [] (zh hI ang) ac hI⟩
   ·have hI := bhu hI (.c 20000) bc6
    rcases au0 hI bc7 (.c 1) with ⟨hI, k7⟩ | ⟨hI, k7⟩
    ·have u := h20
     exact ⟨zm0 [] (zh hI ang) ac hI,
      arm⟩
    ·have u := h20
     exact ⟨arm,
      zm0 [] (zh hI ang) ac hI⟩
  ·rcases au0 hI (.rd (.s 3) (.c 0)) (.c 45) with ⟨hI, k4⟩ | ⟨hI, k4⟩
   ·have hI := bhu hI (.len (.s 3)) (.c 1)
    rcases au0 hI bc5 (.c 1) with ⟨hI, k6⟩ | ⟨hI, k6⟩
    ·have u := h20
     exact ⟨arm,
      zm0 [] (zh hI ang) ac hI⟩
    ·have hI := bhu hI (.c 20000) bc6
     rcases au0 hI bc7 (.c 1) with ⟨hI, k8⟩ | ⟨hI, k8⟩
     ·have u := h20
      exact ⟨zm0 [] (zh hI ang) ac hI,
       arm⟩
     ·have u := h20
      exact ⟨arm,
       zm0 [] (zh hI ang) ac hI⟩
   ·rcases au0 hI (.eqg (.app 124 (.g (.s 3) .nil)) (.lit 0 0)) (.c 1) with ⟨hI, k5⟩ | ⟨hI, k5⟩
    ·have u := h20
     exact ⟨zm0 [] (zh hI ang) ac hI,
      arm⟩
    ·have u := h20
     exact ⟨arm,
      zm0 [] (zh hI ang) ac hI⟩
theorem bf2 [Gv] : bj bj0 := fun σ _ hA _ => (@bh3 ⟨σ⟩  (ap hA).1).1 (ap hA).2
theorem bf0 [Gv] : bj bjx := fun σ _ hA _ => (@bh3 ⟨σ⟩  (ap hA).1).2 (ap hA).2
theorem avo [Gv] : ∀ t ∈ [brp, brm, bj0, bjx], bj t := by
 intro t ht
 simp only [List.mem_cons, zH, or_false] at ht
 rcases ht with rfl | rfl | rfl | rfl
 ·exact bml
 ·exact bmk
 ·exact bf2
 ·exact bf0
def bz8 [Gv] : Prop := (SAll Gv.σ [] → aq 139 bsd 256 bsa bsc 270 bsb)
theorem bpc [Gv] (hI : SAll Gv.σ [.mk true (.c 10000) (.len (.s 3)) false]) : bz8 := by
 have l1 := bic hI
 have w := bo2 (Gv.σ 3)
 have w2 := by2 (Gv.σ 3)
 have w3 := by3 (Gv.σ 3)
 rcases b06 hI (.len (.s 3)) (.c 1) with ⟨hI, k1⟩ | ⟨hI, k1⟩
 ·have hI := bts hI (.eqg (.s 3) (.lit 1 46)) (.c 1)
  have hI := aym hI (.c 20000) (.len (.s 3))
  have hI := bts hI aq3 (.c 1)
  have u := wk (Gv.σ 3)
  first | rw [if_pos (by omega)] at u | rw [if_neg (by omega)] at u
  try rw [av7 (by omega)] at u
  exact zm [] (.g (.lit 0 0) aan .nil) (zh hI avo) ac hI ayq
 ·rcases bdd hI (.eqg (.s 3) (.lit 1 46)) (.c 1) with ⟨hI, k2⟩ | ⟨hI, k2⟩
  ·have t1 := bdb (am9 (σ := Gv.σ) (.c 1) (.s 3))
   have hI := aym hI ake akf
   have u := wk (Gv.σ 3)
   first | rw [if_pos (by omega)] at u | rw [if_neg (by omega)] at u
   try rw [av7 (by omega)] at u
   exact zm [] (.g act aan .nil) (zh hI avo) ac hI ayq
  ·have hI := aym hI (.c 20000) (.len (.s 3))
   rcases bdd hI aq3 (.c 1) with ⟨hI, k4⟩ | ⟨hI, k4⟩
   ·have t2 := bdb (am9 (σ := Gv.σ) (.c 1) (.s 3))
    have hI := aym hI ake akf
    have u := wk (Gv.σ 3)
    first | rw [if_pos (by omega)] at u | rw [if_neg (by omega)] at u
    try rw [av7 (by omega)] at u
    exact zm [] (.g act aan .nil) (zh hI avo) ac hI ayq
   ·rcases bdd hI (.eqg aq4 (.lit 1 63)) (.c 1) with ⟨hI, k5⟩ | ⟨hI, k5⟩
    ·have t3 := bdb (am9 (σ := Gv.σ) (.c 1) (.s 3))
     have hI := aym hI ake akf
     have u := wk (Gv.σ 3)
     first | rw [if_pos (by omega)] at u | rw [if_neg (by omega)] at u
     try rw [av7 (by omega)] at u
     exact zm [] (.g act aan .nil) (zh hI avo) ac hI ayq
    ·rcases bdd hI (.eqg aq4 (.lit 1 35)) (.c 1) with ⟨hI, k6⟩ | ⟨hI, k6⟩
     ·have t4 := bdb (am9 (σ := Gv.σ) (.c 1) (.s 3))
      have hI := aym hI ake akf
      have u := wk (Gv.σ 3)
      first | rw [if_pos (by omega)] at u | rw [if_neg (by omega)] at u
      try rw [av7 (by omega)] at u
      exact zm [] (.g act aan .nil) (zh hI avo) ac hI ayq
     ·rcases bdd hI (.eqg aq4 (.lit 1 64)) (.c 1) with ⟨hI, k7⟩ | ⟨hI, k7⟩
      ·have t5 := bdb (am9 (σ := Gv.σ) (.c 1) (.s 3))
       have hI := aym hI ake akf
       have u := wk (Gv.σ 3)
       first | rw [if_pos (by omega)] at u | rw [if_neg (by omega)] at u
       try rw [av7 (by omega)] at u
       exact zm [] (.g act aan .nil) (zh hI avo) ac hI ayq
      ·have u := wk (Gv.σ 3)
       first | rw [if_pos (by omega)] at u | rw [if_neg (by omega)] at u
       try rw [av7 (by omega)] at u
       exact zm [] (.g ayc aan .nil) (zh hI avo) ac hI ayq
theorem bmv [Gv] : bj br9 := fun σ _ hA _ => (@bpc ⟨σ⟩  (ap hA).1) (ap hA).2
end Go.Ev
