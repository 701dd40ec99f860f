import Derived.Test.YtldcnedpfagliaaGreatDoorEvU
set_option linter.all false
namespace Go.Ev
/- Building, addresses, slices. -/
section
variable {ρ : Env} {a : W} {w : World}
theorem fieldsOf_eq {t : TypeId} {fs : List Field} (h : fieldsOf t = some fs) : ∃ fa : Array Field, undOf t = some (.struct fa) ∧ fa.toList = fs := by
  unfold fieldsOf at h
  split at h
  · rename_i fa hu; cases h; exact ⟨fa, hu, rfl⟩
  · cases h
theorem structPlace_eq {t : TypeId} {i off size : Nat} (h : structPlace t i = some (off, size)) :
    ∃ (fa : Array Field) (f : Field), undOf t = some (.struct fa) ∧ fa[i]? = some f ∧ f.offset = off ∧ sizeOf f.type = some size := by
  unfold structPlace at h
  cases hf : fieldsOf t with
  | none => rw [hf] at h; cases h
  | some fs =>
    obtain ⟨fa, hu, rfl⟩ := fieldsOf_eq hf
    rw [hf] at h
    simp only [Option.bind_some] at h
    cases hi : fa.toList[i]? with
    | none => rw [hi] at h; cases h
    | some f =>
      rw [hi] at h
      simp only [Option.bind_some, Option.map_eq_some_iff] at h
      obtain ⟨s, hs, e⟩ := h
      injection e with e1 e2
      subst e1; subst e2
      exact ⟨fa, f, hu, by simpa using hi, rfl, hs⟩
/-- what the model lists of a struct's fields, where each has a size -/
theorem places_run : ∀ (l : List Field) (g : Field → Nat × Nat), (∀ f ∈ l, sizeOf f.type = some (g f).2 ∧ (g f).1 = f.offset) →
    (l.mapM (m := Sem) fun f => do pure (f.offset, ← Go.sizeOf f.type)).run PP w = .ok (l.map g) w
  | [], _, _ => rfl
  | f :: l, g, h => by
    have ⟨h1, h2⟩ := h f (by simp)
    rw [List.mapM_cons]
    simp only [Sem.run_bind, run_size h1, Result.andThen_ok, Sem.run_pure, places_run l g (fun x hx => h x (by simp [hx])), List.map_cons]
    rw [← h2]
theorem build_struct_run {t : TypeId} {fa : Array Field} {i : TypeInfo} {z : Value} {ps : Array (Nat × Value)} {r : Array Value} (hu : undOf t = some (.struct fa)) (hsz : sizedFields t = true)
    (hi : PP.info? t = some i) (hz : i.zero = some z) (hf : Instr.fill (structPlace t) z.cells ps.toList = some r) : (Instr.build t ps).run PP w = .ok (.agg r) w := by
  have hfo : fieldsOf t = some fa.toList := by unfold fieldsOf; rw [hu]
  have hs : ∀ f ∈ fa.toList, ∃ n, sizeOf f.type = some n := by
    unfold sizedFields at hsz
    rw [hfo] at hsz
    intro f hm
    exact Option.isSome_iff_exists.1 (List.all_eq_true.1 hsz f hm)
  let g : Field → Nat × Nat := fun f => (f.offset, (sizeOf f.type).getD 0)
  have hg : ∀ f ∈ fa.toList, sizeOf f.type = some (g f).2 ∧ (g f).1 = f.offset := by
    intro f hm
    obtain ⟨n, hn⟩ := hs f hm
    exact ⟨by simp [g, hn], rfl⟩
  have hm := places_run (w := w) fa.toList g hg
  have hplace : (fun x => (fa.map g)[x]?) = structPlace t := by
    funext k
    unfold structPlace
    rw [hfo]
    simp only [Option.bind_some, Array.getElem?_map, Array.getElem?_toList]
    cases hk : fa[k]? with
    | none => rfl
    | some f =>
      obtain ⟨n, hn⟩ := hs f (by simpa using Array.mem_of_getElem? hk)
      simp [g, hn]
  have hma : (fa.mapM (m := Sem) fun f => do pure (f.offset, ← Go.sizeOf f.type)).run PP w = .ok (fa.map g) w := by
    rw [Array.mapM_eq_mapM_toList, Sem.run_map, hm]
    show Result.ok (fa.toList.map g).toArray w = _
    rw [← Array.toList_map, Array.toArray_toList]
  simp only [Instr.build, Sem.run_bind, run_zero hi hz, Result.andThen_ok, run_und hu, hma]
  rw [hplace, hf]
  rfl
theorem build_ok (hw : WRel ρ a w) {t : TypeId} {ps : List (Nat × AV)} {ps' : Array (Nat × Value)} (hp : PRel ρ ps ps'.toList) : VOK ρ a w (Instr.build t ps') (evBuild t ps a) := by
  unfold evBuild
  split
  · rename_i fa z hu hz
    obtain ⟨i, z', hi, hz', rfl⟩ := zeroOf_eq hz
    simp only [bc_eq]
    split <;> try trivial
    rename_i hsz
    split <;> try trivial
    rename_i hnt
    refine retO_ok hw fun v hv => ?_
    simp only [Option.map_eq_some_iff] at hv
    obtain ⟨r, hr, rfl⟩ := hv
    obtain ⟨r', e1, e2⟩ := fill_rel ps ps'.toList _ r _ hp (cellsOf_rel (ofV_rel ρ z') (notTop_ne hnt)) hr
    exact ⟨.agg r', build_struct_run hu hsz hi hz' e1, by simp only [VRel]; exact ⟨r', rfl, e2⟩⟩
  · rename_i n e z hu hz
    obtain ⟨i, z', hi, hz', rfl⟩ := zeroOf_eq hz
    split <;> try trivial
    rename_i s hs
    rw [bc_eq]
    split <;> try trivial
    rename_i hnt
    refine retO_ok hw fun v hv => ?_
    simp only [Option.map_eq_some_iff] at hv
    obtain ⟨r, hr, rfl⟩ := hv
    obtain ⟨r', e1, e2⟩ := fill_rel ps ps'.toList _ r _ hp (cellsOf_rel (ofV_rel ρ z') (notTop_ne hnt)) hr
    refine ⟨.agg r', ?_, by simp only [VRel]; exact ⟨r', rfl, e2⟩⟩
    simp only [Instr.build, Sem.run_bind, run_zero hi hz', Result.andThen_ok, run_und hu, run_size hs]
    rw [e1]
    rfl
  · trivial
theorem repeatL_length (z : List AV) : ∀ n, (repeatL z n).length = n * z.length
  | 0 => by simp [repeatL]
  | n + 1 => by simp only [repeatL, List.length_append, repeatL_length z n, Nat.succ_mul]; omega
theorem repeatL_get (z : List AV) : ∀ (n i : Nat), i < n * z.length → (repeatL z n)[i]? = z[i % z.length]?
  | 0, i, h => by simp at h
  | n + 1, i, h => by
    simp only [repeatL, List.getElem?_append]
    split
    · rename_i h1; rw [Nat.mod_eq_of_lt h1]
    · rename_i h1
      rw [Nat.succ_mul] at h
      rw [repeatL_get z n (i - z.length) (by omega), ← Nat.mod_eq_sub_mod (by omega)]
theorem zeros_rel {z : List AV} {z' : Array Value} (h : VRels ρ z z'.toList) (n m : Nat) (hm : m = n * z.length) : VRels ρ (repeatL z n) ((Array.range m).map (z'[· % z'.size]!)).toList := by
  have hl := VRels.length _ _ h
  simp only [Array.length_toList] at hl
  subst hm
  apply VRels.of_get
  · rw [repeatL_length]; simp
  · intro i hi
    rw [repeatL_length] at hi
    have hz : 0 < z.length := by
      rcases Nat.eq_zero_or_pos z.length with e | e
      · rw [e] at hi; simp at hi
      · exact e
    have hlt : i % z.length < z.length := Nat.mod_lt _ hz
    obtain ⟨v, h1, h2⟩ := VRels.get _ _ h (i % z.length) hlt
    have hg := repeatL_get z n i hi
    rw [List.getElem?_eq_getElem (by rw [repeatL_length]; exact hi), List.getElem?_eq_getElem hlt] at hg
    injection hg with hg
    refine ⟨v, ?_, by rw [hg]; exact h2⟩
    have h1' : z'[i % z.length]? = some v := by simpa using h1
    simp only [Array.toList_map, Array.toList_range, List.getElem?_map]
    rw [List.getElem?_range hi]
    simp only [Option.map_some, hl]
    rw [getElem!_def, h1']
theorem newSlice_ok (hw : WRel ρ a w) {e : TypeId} {l : List AV} {arr : Array Value} {len : Nat} (h : VRels ρ l arr.toList) :
    VOK ρ a w (do pure (.slice (some (← Go.newRow e arr)) len len)) (newSlice e l len a) := by
  unfold newSlice
  rw [bc_eq, llen_eq]
  split
  · rename_i hn
    have hn := Nat.le_of_ble_eq_true hn
    refine wnew_ok hw (obj := .cells arr e) (f' := fun c => .slice (some ⟨c, 0, none⟩) len len) ?_ ?_ ?_
    · have := mkCells_rel (t := e) (tail := []) (ext := false) h hn (fun _ => rfl)
      rw [List.append_nil, Array.toArray_toList] at this
      exact this
    · intro ρ' k c hk; simp only [VRel]; exact ⟨c, len, hk, ⟨Nat.le_refl _, Nat.le_refl _⟩, rfl, rfl⟩
    · simp only [Go.newRow, Sem.run_bind, run_newObj, Result.andThen_ok, Sem.run_pure]; rfl
  · trivial
theorem buildSlice_ok (hw : WRel ρ a w) {t : TypeId} {len : Nat} {ps : List (Nat × AV)} {ps' : Array (Nat × Value)} (hp : PRel ρ ps ps'.toList) :
    VOK ρ a w (Instr.buildSlice t len ps') (evBuildSlice t len ps a) := by
  unfold evBuildSlice
  split <;> try trivial
  rename_i e hu
  split <;> try trivial
  rename_i s z hs hz
  obtain ⟨i, z', hi, hz', rfl⟩ := zeroOf_eq hz
  rw [bc_eq]
  split <;> try trivial
  rename_i hc
  simp only [Bool.and_eq_true, llen_eq] at hc
  obtain ⟨⟨h1, h2⟩, h3⟩ := hc
  have h2 := Nat.eq_of_beq_eq_true h2
  have h3 := Nat.le_of_ble_eq_true h3
  split <;> try trivial
  rename_i l hl
  have hcz := cellsOf_rel (ofV_rel ρ z') (notTop_ne h1)
  have hlen := VRels.length _ _ hcz
  obtain ⟨r', e1, e2⟩ := fill_rel ps ps'.toList _ l _ hp (zeros_rel hcz len (len * s) (by rw [h2])) hl
  refine (newSlice_ok hw e2).of_run ?_
  have hbig : ¬ len * s > 2 ^ 24 := by omega
  simp only [Instr.buildSlice, Sem.run_bind, run_und hu, Result.andThen_ok, run_size hs, hbig, if_false]
  by_cases h0 : len * s = 0
  · have hr : ∀ z : Array Value, ((Array.range (len * s)).map (z[· % z.size]!)) = #[] := by intro z; rw [h0]; simp
    rw [hr] at e1
    rw [if_pos h0]
    simp only [Sem.run_bind, Sem.run_pure, Result.andThen_ok]
    rw [hr, e1]
    simp only [Sem.run_bind, Sem.run_pure]
  · rw [if_neg h0]
    simp only [Sem.run_bind, run_zero hi hz', Result.andThen_ok, Sem.run_pure, e1]
end
end Go.Ev
