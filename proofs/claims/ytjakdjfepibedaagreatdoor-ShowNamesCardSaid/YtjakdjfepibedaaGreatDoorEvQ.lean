import Derived.Test.YtjakdjfepibedaaGreatDoorEvP
import Derived.Laws.Cover3
import Derived.WalkSpells
set_option linter.all false
namespace Go.Ev
/- Equality. -/
section
variable {ρ : Env} {a : W} {w : World}
theorem VRels.drop {ρ : Env} : ∀ (n : Nat) (l : List AV) (vs : List Value), VRels ρ l vs → VRels ρ (l.drop n) (vs.drop n)
  | 0, _, _, h => by simpa using h
  | n + 1, [], _, h => by simp only [VRels] at h; subst h; simp [VRels]
  | n + 1, a :: l, _, h => by simp only [VRels] at h; obtain ⟨v, vs, rfl, _, h3⟩ := h; simpa using VRels.drop n l vs h3
theorem VRels.take {ρ : Env} : ∀ (n : Nat) (l : List AV) (vs : List Value), VRels ρ l vs → VRels ρ (l.take n) (vs.take n)
  | 0, _, _, _ => by simp [VRels]
  | n + 1, [], _, h => by simp only [VRels] at h; subst h; simp [VRels]
  | n + 1, a :: l, _, h => by
    simp only [VRels] at h; obtain ⟨v, vs, rfl, h2, h3⟩ := h
    simp only [List.take_succ_cons, VRels]
    exact ⟨v, vs.take n, rfl, h2, VRels.take n l vs h3⟩
theorem part_run {t : TypeId} {cs : List AV} {cs' : Array Value} {off : Nat} {v : AV} (h : partA t cs off = some v) (hc : VRels ρ cs cs'.toList) :
    ∃ v', (part t cs' off).run PP w = .ok v' w ∧ VRel ρ v v' := by
  unfold partA at h
  split at h
  · rename_i h0
    obtain ⟨d, n, hd, hs, hr⟩ := aggOf_eq h0
    have hagg : aggDesc d = false := by cases e : aggDesc d with | false => rfl | true => rw [e] at hr; simp at hr
    rw [nth_eq] at h
    obtain ⟨hlt, he⟩ := List.getElem?_eq_some_iff.1 h
    obtain ⟨v', h1, h2⟩ := VRels.get cs _ hc off hlt
    rw [he] at h2
    refine ⟨v', ?_, h2⟩
    have h1' : cs'[off]? = some v' := by simpa using h1
    simp only [part, Sem.run_bind, run_isAgg hd, Result.andThen_ok, hagg, Bool.false_eq_true, if_false, h1']
    rfl
  · rename_i n h0
    obtain ⟨d, m, hd, hs, hr⟩ := aggOf_eq h0
    cases h
    by_cases hagg : aggDesc d = true
    · rw [if_pos hagg] at hr
      injection hr with hr
      injection hr with hr
      subst hr
      refine ⟨.agg (cs'.extract off (off + n)), ?_, ?_⟩
      · simp only [part, Sem.run_bind, run_isAgg hd, Result.andThen_ok, hagg, if_true, run_size hs, Sem.run_pure]
      · simp only [VRel]
        refine ⟨_, rfl, ?_⟩
        have := VRels.take n _ _ (VRels.drop off _ _ hc)
        simpa [List.extract_eq_take_drop] using this
    · rw [if_neg hagg] at hr
      split at hr <;> cases hr
  · cases h
/-- the run of '==' at a depth: the answer r, in whatever depth from d on -/
def EqRuns (w : World) (d : Nat) (t : TypeId) (x y : Value) (r : Bool) : Prop := ∀ D, d ≤ D → (Op.equalIn D t x y).run PP w = .ok r w
theorem live_rel (hw : WRel ρ a w) {b : K} {c : Nat} (h : live b a = true) (hc : ρ b = some c) (hn : hget b a.h ≠ .none) :
    ∃ arr t fz, w.heap[c]? = some (.cells arr t fz) ∧ arr.size ≠ 0 ∧ ∀ i, ¬ (fz.1 ≤ i ∧ i < fz.2) := by
  unfold live at h
  split at h
  · rename_i t size ext fl fh cs hg
    rw [bc_eq] at h
    split at h
    · rename_i h1
      have h1 := Nat.le_of_ble_eq_true h1
      obtain ⟨arr, fz, e1, e2, e3, e4, e5, e6⟩ := hw.block hg (by simp) hc
      refine ⟨arr, t, fz, e1, ?_, ?_⟩
      · have : size ≠ 0 := by intro e; subst e; cases h
        omega
      · intro i hi; have := e5.2 i hi.1 hi.2; omega
    · cases h
  · cases h
theorem live_ne {b : K} (h : live b a = true) : hget b a.h ≠ .none := by
  rw [← wget_eq]; intro e; unfold live at h; rw [e] at h; cases h
theorem sameAddr_other (hw : WRel ρ a w) {b b' : K} {c c' o o' : Nat} (h : live b a = true) (h' : live b' a = true) (hc : ρ b = some c) (hc' : ρ b' = some c') (hne : b ≠ b') :
    (sameAddr ⟨c, o, none⟩ ⟨c', o', none⟩).run PP w = .ok false w := by
  have hcc : c ≠ c' := fun e => hne (hw.inj b b' (live_ne h) (live_ne h') (by rw [hc, hc', e]))
  obtain ⟨arr, t, fz, e1, e2, e3⟩ := live_rel hw h hc (live_ne h)
  obtain ⟨arr', t', fz', e1', e2', e3'⟩ := live_rel hw h' hc' (live_ne h')
  have f : ∀ o, w.frozen? ⟨c, o, none⟩ = false := by
    intro o
    obtain ⟨f1, f2⟩ := fz
    have := e3 o
    simp only [World.frozen?, e1, Bool.and_eq_false_iff, decide_eq_false_iff_not]
    simp only at this; omega
  have f' : ∀ o, w.frozen? ⟨c', o, none⟩ = false := by
    intro o
    obtain ⟨f1, f2⟩ := fz'
    have := e3' o
    simp only [World.frozen?, e1', Bool.and_eq_false_iff, decide_eq_false_iff_not]
    simp only at this; omega
  have s : w.shape? c = some (t, arr.size) := by simp [World.shape?, e1]
  have s' : w.shape? c' = some (t', arr'.size) := by simp [World.shape?, e1']
  have hb : (c == c') = false := by simpa using hcc
  simp [sameAddr, hb, f, f', noView, viewAt, s, s', mayBeOne, stringish]
theorem eqFields_run {eq : TypeId → AV → AV → Option Bool} {d : Nat} (heq : ∀ t x y r x' y', eq t x y = some r → VRel ρ x x' → VRel ρ y y' → EqRuns w d t x' y' r) {xs ys : List AV} {xs' ys' : Array Value}
    (hx : VRels ρ xs xs'.toList) (hy : VRels ρ ys ys'.toList) : ∀ (fs : List Field) (r : Bool), eqFields eq xs ys fs = some r → ∀ D, d ≤ D → (Op.eqFields D xs' ys' fs).run PP w = .ok r w := by
  intro fs
  induction fs with
  | nil => intro r h D _; simp only [eqFields] at h; cases h; rfl
  | cons f fs ih =>
    intro r h D hD
    simp only [eqFields, bc_eq] at h
    split at h
    · rename_i hn
      have hn : f.name = "_" := by simpa using hn
      simp only [Op.eqFields, hn, ne_eq, not_true_eq_false, if_false]
      exact ih r h D hD
    · rename_i hn
      have hn : f.name ≠ "_" := by simpa using hn
      split at h
      · rename_i x y ex ey
        obtain ⟨x', rx, vx⟩ := part_run (w := w) ex hx
        obtain ⟨y', ry, vy⟩ := part_run (w := w) ey hy
        split at h
        · rename_i e
          have := heq _ _ _ _ _ _ e vx vy D hD
          simp only [Op.eqFields, ne_eq, hn, not_false_eq_true, if_true, Sem.run_bind, rx, ry, this, Result.andThen_ok, Bool.not_true, Bool.false_eq_true, if_false]
          exact ih r h D hD
        · rename_i e
          have := heq _ _ _ _ _ _ e vx vy D hD
          cases h
          simp only [Op.eqFields, ne_eq, hn, not_false_eq_true, if_true, Sem.run_bind, rx, ry, this, Result.andThen_ok, Bool.not_false, Sem.run_pure]
        · cases h
      · cases h
theorem eqStruct_run {t : TypeId} {fs : Array Field} {D : Nat} {xs ys : Array Value} {r : Bool} (hu : PP.underlying t = some (.struct fs)) (hst : PP.stoodInHeld t = false)
    (h : (Op.eqFields D xs ys fs.toList).run PP w = .ok r w) : (Op.equalIn (D + 1) t (.agg xs) (.agg ys)).run PP w = .ok r w := by
  have hf : PP.fieldsOf t = fs := by unfold Program.fieldsOf; rw [hu]
  rw [run_equalIn_struct w D t xs ys (by rw [hf]; exact hu) hst, hf]
  exact h
set_option maxHeartbeats 2000000 in
theorem eqIn_run (hw : WRel ρ a w) : ∀ (d : Nat) (t : TypeId) (x y : AV) (r : Bool) (x' y' : Value), eqIn a d t x y = some r → VRel ρ x x' → VRel ρ y y' → EqRuns w d t x' y' r := by
  intro d
  induction d with
  | zero => intro t x y r x' y' h; cases h
  | succ d ih =>
    intro t x y r x' y' h hx hy D hD
    obtain ⟨D, rfl⟩ : ∃ E, D = E + 1 := ⟨D - 1, by omega⟩
    have hD : d ≤ D := by omega
    unfold eqIn at h
    split at h <;> (try (cases h; done)) <;> rename_i ht <;> simp only [VRel] at hx hy <;> have hu := undOf_eq ht
    · subst hx; subst hy; cases h; simp only [Op.equalIn, Sem.run_bind, run_und ht, Result.andThen_ok]; rfl
    · subst hx; subst hy
      rw [bc_eq] at h
      split at h
      · rename_i hk; obtain rfl := (kbeq_iff _ _).1 hk; cases h; simp [Op.equalIn, run_und ht, ieqb_eq]
      · cases h
    · obtain ⟨h1, rfl⟩ := hx; obtain ⟨h2, rfl⟩ := hy; cases h
      simp only [Op.equalIn, Sem.run_bind, run_und ht, Result.andThen_ok, beq_toListBytes, beq_unpack _ _ _ _ h1 h2, Sem.run_pure]
    · subst hx; subst hy; cases h; simp only [Op.equalIn, Sem.run_bind, run_und ht, Result.andThen_ok]; rfl
    · subst hx; obtain ⟨c, _, rfl⟩ := hy; cases h; simp only [Op.equalIn, Sem.run_bind, run_und ht, Result.andThen_ok]; rfl
    · subst hy; obtain ⟨c, _, rfl⟩ := hx; cases h; simp only [Op.equalIn, Sem.run_bind, run_und ht, Result.andThen_ok]; rfl
    · obtain ⟨c, hc, rfl⟩ := hx
      obtain ⟨c', hc', rfl⟩ := hy
      split at h
      · rename_i m hs
        simp only [bc_eq] at h
        split at h
        · rename_i hk
          obtain rfl := (K.beq_iff _ _).1 hk
          rw [hc] at hc'; cases hc'
          cases h
          simp [Op.equalIn, run_und ht, run_size hs, sameAddr]
          rw [Bool.eq_iff_iff]; simp
        · rename_i hk
          split at h <;> try (cases h; done)
          rename_i hl
          split at h <;> try (cases h; done)
          rename_i hl'
          cases h
          have := fun o o' => sameAddr_other (o := o) (o' := o') hw hl hl' hc hc' (fun e => hk ((K.beq_iff _ _).2 e))
          simp [Op.equalIn, run_und ht, run_size hs, this]
      · cases h
    · subst hx; subst hy; cases h; simp only [Op.equalIn, Sem.run_bind, run_und ht, Result.andThen_ok]; rfl
    · subst hx; obtain ⟨v', rfl, _⟩ := hy; cases h; simp only [Op.equalIn, Sem.run_bind, run_und ht, Result.andThen_ok]; rfl
    · subst hy; obtain ⟨v', rfl, _⟩ := hx; cases h; simp only [Op.equalIn, Sem.run_bind, run_und ht, Result.andThen_ok]; rfl
    · obtain ⟨v1, rfl, r1⟩ := hx
      obtain ⟨v2, rfl, r2⟩ := hy
      simp only [bc_eq] at h
      split at h
      · rename_i he
        have he := Nat.eq_of_beq_eq_true he
        subst he
        split at h
        · rename_i hcmp
          rename_i t1 x1 t2 y1 ht2
          cases hi : infoOf t2 with
          | none => rw [hi] at hcmp; simp at hcmp
          | some i =>
            rw [hi] at hcmp
            have hcmp : i.comparable = true := by simpa using hcmp
            have := ih _ _ _ _ _ _ h r1 r2 D hD
            simp [Op.equalIn, run_und ht, run_info (infoOf_eq hi), hcmp, this]
        · cases h
      · rename_i he
        cases h
        rw [Nat.beq_eq] at he
        simp [Op.equalIn, run_und ht, he]
    · obtain ⟨xs', rfl, r1⟩ := hx
      obtain ⟨ys', rfl, r2⟩ := hy
      simp only [bc_eq] at h
      split at h
      · cases h
      · rename_i hst
        have hst : PP.stoodInHeld t = false := by simpa using hst
        exact eqStruct_run hu hst (eqFields_run (fun t x y r x' y' => ih t x y r x' y') r1 r2 _ _ h D hD)
    · subst hx; subst hy; cases h; simp only [Op.equalIn, Sem.run_bind, run_und ht, Result.andThen_ok]; rfl
    · subst hx; obtain ⟨_, _, _, _, _, rfl⟩ := hy; cases h; simp only [Op.equalIn, Sem.run_bind, run_und ht, Result.andThen_ok]; rfl
    · subst hy; obtain ⟨_, _, _, _, _, rfl⟩ := hx; cases h; simp only [Op.equalIn, Sem.run_bind, run_und ht, Result.andThen_ok]; rfl
    · subst hx; obtain ⟨_, _, rfl⟩ := hy; cases h; simp only [Op.equalIn, Sem.run_bind, run_und ht, Result.andThen_ok]; rfl
    · subst hy; obtain ⟨_, _, rfl⟩ := hx; cases h; simp only [Op.equalIn, Sem.run_bind, run_und ht, Result.andThen_ok]; rfl
    · subst hx; subst hy; cases h; simp only [Op.equalIn, Sem.run_bind, run_und ht, Result.andThen_ok]; rfl
    · subst hx; obtain ⟨_, _, rfl⟩ := hy; cases h; simp only [Op.equalIn, Sem.run_bind, run_und ht, Result.andThen_ok]; rfl
    · subst hy; obtain ⟨_, _, rfl⟩ := hx; cases h; simp only [Op.equalIn, Sem.run_bind, run_und ht, Result.andThen_ok]; rfl
    · subst hx; subst hy; cases h; simp only [Op.equalIn, Sem.run_bind, run_und ht, Result.andThen_ok]; rfl
    · subst hx; obtain ⟨_, _, _, rfl, _⟩ := hy; cases h; simp only [Op.equalIn, Sem.run_bind, run_und ht, Result.andThen_ok]; rfl
    · subst hy; obtain ⟨_, _, _, rfl, _⟩ := hx; cases h; simp only [Op.equalIn, Sem.run_bind, run_und ht, Result.andThen_ok]; rfl
end
end Go.Ev
