import Derived.Test.YtldcnedpfagliaaGreatDoorEvT
set_option linter.all false
namespace Go.Ev
/- New blocks, building, addresses, slices. -/
section
variable {ρ : Env} {a : W} {w : World}
/-- a new block -/
theorem wnew_ok (hw : WRel ρ a w) {o : AObj} {obj : Obj} {f : K → AV} {f' : Nat → Value} {s : Sem Value} (ho : ORel ρ o (some obj)) (hf : ∀ ρ' k c, ρ' k = some c → VRel ρ' (f k) (f' c))
    (hs : s.run PP w = .ok (f' w.heap.size) (w.alloc obj)) : VOK ρ a w s (wnew o f a) := by
  obtain ⟨h, nx⟩ := a
  show VOK ρ (.mk h nx) w s (bc nx.isMax (.no 1) (.val (f nx) (.mk (hset nx o h) nx.succ)))
  rw [bc_eq]
  split
  · trivial
  · rename_i hm
    have hm : nx.isMax = false := by simpa using hm
    intro fr
    have hfr : ρ nx = none := fr nx (Nat.le_refl _) (by simp only [W.nx_mk]; rw [K.succ_num hm]; omega)
    exact ⟨_, _, _, hs, hf _ _ _ (upd_same ρ nx _ _), adv_new hw hfr hm ho⟩
theorem cells_new {l : List AV} {l' : List Value} (h : VRels ρ l l') (hn : l.length ≤ 65536) : CRel ρ l.length (cfill l 0 (cempty l.length)) l'.toArray := by
  intro i hi
  have hc := ccap_cempty l.length hn
  obtain ⟨v, h1, h2⟩ := VRels.get l l' h i hi
  refine ⟨v, by simpa using h1, ?_⟩
  rw [cget_cfill l 0 _ i (by omega) (by omega), dif_pos ⟨Nat.zero_le _, by simpa using hi⟩]
  simpa using h2
theorem mkCells_rel {t : TypeId} {l : List AV} {l' tail : List Value} {ext : Bool} (h : VRels ρ l l') (hn : l.length ≤ 65536) (he : ext = false → tail = []) :
    ORel ρ (mkCells t l ext) (some (.cells (l' ++ tail).toArray t)) := by
  unfold mkCells
  rw [llen_eq]
  have hl := VRels.length l l' h
  refine ⟨_, _, rfl, by simp; omega, fun e => by rw [he e]; simp [hl], by rw [ccap_cfill]; exact ccap_cempty _ hn, ⟨Nat.le_refl _, fun i h1 h2 => by simp at h1 h2⟩, ?_⟩
  intro i hi
  obtain ⟨v, h1, h2⟩ := cells_new h hn i hi
  refine ⟨v, ?_, h2⟩
  have h1' : l'[i]? = some v := by simpa using h1
  have hlt := (List.getElem?_eq_some_iff.1 h1').1
  simp [List.getElem?_append_left hlt, h1']
theorem newRow_ok (hw : WRel ρ a w) {t : TypeId} {l : List AV} {arr : Array Value} (h : VRels ρ l arr.toList) : VOK ρ a w (do pure (.pointer (some (← Go.newRow t arr)))) (newRow t l a) := by
  unfold newRow
  rw [bc_eq, llen_eq]
  split
  · rename_i hn
    have hn := Nat.le_of_ble_eq_true hn
    refine wnew_ok hw (obj := .cells arr t) (f' := fun c => .pointer (some ⟨c, 0, none⟩)) ?_ ?_ ?_
    · have := mkCells_rel (t := t) (tail := []) (ext := false) h hn (fun _ => rfl)
      rw [List.append_nil, Array.toArray_toList] at this
      exact this
    · intro ρ' k c hk; simp only [ptr0, VRel]; exact ⟨c, hk, rfl⟩
    · simp only [Go.newRow, Sem.run_bind, run_newObj, Result.andThen_ok, Sem.run_pure]; rfl
  · trivial
theorem cellsOf_rel {v : AV} {v' : Value} (h : VRel ρ v v') (ht : v ≠ .top) : VRels ρ (cellsOf v) v'.cells.toList := by
  cases v <;> first
    | (exact absurd rfl ht)
    | (simp only [VRel] at h; obtain ⟨ys, rfl, h⟩ := h; exact h)
    | (have hc : v'.cells = #[v'] := by
         simp only [VRel] at h
         first
           | (subst h; rfl) | (obtain ⟨_, rfl⟩ := h; rfl) | (obtain ⟨_, _, rfl⟩ := h; rfl) | (obtain ⟨_, _, _, _, _, rfl⟩ := h; rfl) | (obtain ⟨_, _, _, _, _, _, rfl⟩ := h; rfl) | (obtain ⟨_, _, _, _, rfl⟩ := h; rfl) | (obtain ⟨_, _, rfl, _⟩ := h; rfl) | (obtain ⟨_, _, _, rfl, _⟩ := h; rfl) | (obtain ⟨_, rfl, _⟩ := h; rfl)
       rw [hc]; simp only [cellsOf, VRels]; exact ⟨v', [], rfl, h, rfl⟩)
theorem notTop_ne {v : AV} (h : notTop v = true) : v ≠ .top := by rintro rfl; cases h
theorem box_ok (hw : WRel ρ a w) {t : TypeId} {v : AV} {v' : Value} (h : VRel ρ v v') (ht : v ≠ .top) : VOK ρ a w (Instr.box t v') (newRow t (cellsOf v) a) :=
  (newRow_ok hw (cellsOf_rel h ht)).of_run (by simp [Instr.box, newVar])
/- building -/
theorem putCells_length : ∀ (cells : List AV) (off : Nat) (vs : List AV), off + vs.length ≤ cells.length → (putCells cells off vs).length = cells.length
  | cells, 0, vs, h => by simp only [putCells, llen_eq, List.length_append, List.length_drop]; omega
  | [], off + 1, vs, h => by simp at h
  | c :: cells, off + 1, vs, h => by simp only [putCells, List.length_cons]; rw [putCells_length cells off vs (by simp at h; omega)]
theorem putCells_get : ∀ (cells : List AV) (off : Nat) (vs : List AV), off + vs.length ≤ cells.length → ∀ i, (putCells cells off vs)[i]? = if off ≤ i ∧ i < off + vs.length then vs[i - off]? else cells[i]?
  | cells, 0, vs, h, i => by
    simp only [putCells, llen_eq, List.getElem?_append, List.getElem?_drop, Nat.zero_add, Nat.zero_le, true_and, Nat.sub_zero]
    split
    · rfl
    · rw [show vs.length + (i - vs.length) = i by omega]
  | [], off + 1, vs, h, i => by simp at h
  | c :: cells, off + 1, vs, h, i => by
    simp only [putCells]
    cases i with
    | zero => rw [if_neg (by omega)]; rfl
    | succ i =>
      rw [List.getElem?_cons_succ, putCells_get cells off vs (by simp at h; omega) i, List.getElem?_cons_succ]
      by_cases hx : off ≤ i ∧ i < off + vs.length
      · rw [if_pos hx, if_pos (by omega), show i + 1 - (off + 1) = i - off by omega]
      · rw [if_neg hx, if_neg (by omega)]
theorem fold_get (off : Nat) (vs : List Value) : ∀ (k : Nat) (cs : Array Value), off + k + vs.length ≤ cs.size →
    ((vs.zipIdx k).foldl (fun (cs : Array Value) (p : Value × Nat) => cs.setIfInBounds (off + p.2) p.1) cs).size = cs.size ∧
    ∀ j, ((vs.zipIdx k).foldl (fun (cs : Array Value) (p : Value × Nat) => cs.setIfInBounds (off + p.2) p.1) cs)[j]? = if off + k ≤ j ∧ j < off + k + vs.length then vs[j - (off + k)]? else cs[j]? := by
  induction vs with
  | nil => intro k cs _; exact ⟨rfl, fun j => by rw [if_neg (by simp only [List.length_nil]; omega)]; rfl⟩
  | cons v vs ih =>
    intro k cs h
    simp only [List.length_cons] at h
    simp only [List.zipIdx_cons, List.foldl_cons]
    have ⟨i1, i2⟩ := ih (k + 1) (cs.setIfInBounds (off + k) v) (by simp; omega)
    refine ⟨by rw [i1]; simp, fun j => ?_⟩
    rw [i2 j]
    by_cases x : off + (k + 1) ≤ j ∧ j < off + (k + 1) + vs.length
    · rw [if_pos x, if_pos ⟨by omega, by simp only [List.length_cons]; omega⟩]
      have e : j - (off + k) = (j - (off + (k + 1))) + 1 := by omega
      rw [e, List.getElem?_cons_succ]
    · rw [if_neg x]
      by_cases b : j = off + k
      · subst b
        rw [if_pos ⟨Nat.le_refl _, by simp only [List.length_cons]; omega⟩]
        simp only [Nat.sub_self, List.getElem?_cons_zero]
        rw [Array.getElem?_setIfInBounds_self_of_lt (by omega)]
      · rw [if_neg (by simp only [List.length_cons]; omega)]
        rw [Array.getElem?_setIfInBounds_ne (by omega)]
theorem put_rel {cells : List AV} {cs : Array Value} {off : Nat} {vs : List AV} {vs' : Array Value} (h : VRels ρ cells cs.toList) (hv : VRels ρ vs vs'.toList) (hb : off + vs.length ≤ cells.length) :
    VRels ρ (putCells cells off vs) (vs'.zipIdx.foldl (fun (cs : Array Value) (p : Value × Nat) => cs.setIfInBounds (off + p.2) p.1) cs).toList := by
  have hl := VRels.length _ _ h
  have hl' := VRels.length _ _ hv
  simp only [Array.length_toList] at hl hl'
  have e : (vs'.zipIdx.foldl (fun (cs : Array Value) (p : Value × Nat) => cs.setIfInBounds (off + p.2) p.1) cs) = ((vs'.toList.zipIdx 0).foldl (fun (cs : Array Value) (p : Value × Nat) => cs.setIfInBounds (off + p.2) p.1) cs) := by
    rw [← Array.foldl_toList, Array.toList_zipIdx]
  rw [e]
  have ⟨f1, f2⟩ := fold_get off vs'.toList 0 cs (by simp; omega)
  apply VRels.of_get
  · rw [putCells_length _ _ _ hb, Array.length_toList, f1]; omega
  · intro i hi
    rw [putCells_length _ _ _ hb] at hi
    have hp := putCells_get cells off vs hb i
    have hq := f2 i
    simp only [Array.length_toList, Nat.add_zero] at hq
    by_cases x : off ≤ i ∧ i < off + vs.length
    · rw [if_pos x] at hp
      rw [if_pos (by omega)] at hq
      obtain ⟨v, h1, h2⟩ := VRels.get _ _ hv (i - off) (by omega)
      refine ⟨v, by rw [Array.getElem?_toList, hq, h1], ?_⟩
      have : (putCells cells off vs)[i]'(by rw [putCells_length _ _ _ hb]; exact hi) = vs[i - off]'(by omega) := by
        rw [List.getElem?_eq_getElem (by rw [putCells_length _ _ _ hb]; exact hi), List.getElem?_eq_getElem (by omega)] at hp
        injection hp
      rw [this]; exact h2
    · rw [if_neg x] at hp
      rw [if_neg (by omega)] at hq
      obtain ⟨v, h1, h2⟩ := VRels.get _ _ h i hi
      refine ⟨v, by rw [Array.getElem?_toList, hq, ← Array.getElem?_toList, h1], ?_⟩
      have : (putCells cells off vs)[i]'(by rw [putCells_length _ _ _ hb]; exact hi) = cells[i] := by
        rw [List.getElem?_eq_getElem (by rw [putCells_length _ _ _ hb]; exact hi), List.getElem?_eq_getElem hi] at hp
        injection hp
      rw [this]; exact h2
def PRel (ρ : Env) : List (Nat × AV) → List (Nat × Value) → Prop
  | [], l => l = []
  | p :: ps, l => ∃ v ls, l = (p.1, v) :: ls ∧ VRel ρ p.2 v ∧ PRel ρ ps ls
theorem fill_rel {place : Nat → Option (Nat × Nat)} : ∀ (ps : List (Nat × AV)) (ps' : List (Nat × Value)) (cells r : List AV) (cs : Array Value), PRel ρ ps ps' → VRels ρ cells cs.toList →
    fillA place cells ps = some r → ∃ r', Instr.fill place cs ps' = some r' ∧ VRels ρ r r'.toList
  | [], _, cells, r, cs, hp, hc, h => by
    simp only [PRel] at hp; subst hp
    simp only [fillA] at h; cases h
    exact ⟨cs, rfl, hc⟩
  | (i, v) :: ps, _, cells, r, cs, hp, hc, h => by
    simp only [PRel] at hp
    obtain ⟨v', ls, rfl, hv, hps⟩ := hp
    simp only [fillA] at h
    cases hpl : place i with
    | none => rw [hpl] at h; cases h
    | some q =>
      obtain ⟨off, size⟩ := q
      rw [hpl] at h
      simp only [bc_eq, llen_eq] at h
      split at h <;> try (cases h; done)
      rename_i h0
      split at h <;> try (cases h; done)
      rename_i h1
      split at h <;> try (cases h; done)
      rename_i h2
      have h1 := Nat.eq_of_beq_eq_true h1
      have h2 := Nat.le_of_ble_eq_true h2
      have hcv := cellsOf_rel hv (notTop_ne h0)
      have hl := VRels.length _ _ hcv
      have hl2 := VRels.length _ _ hc
      simp only [Array.length_toList] at hl hl2
      obtain ⟨r', e1, e2⟩ := fill_rel ps ls _ r _ hps (put_rel hc hcv (by omega)) h
      refine ⟨r', ?_, e2⟩
      simp only [Instr.fill, hpl]
      rw [if_neg (by simp; omega)]
      exact e1
end
end Go.Ev
