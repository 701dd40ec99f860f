import Derived.Test.YtldcnedpfagliaaGreatDoorEvJ
set_option linter.all false
namespace Go.Ev
/- Copy, conversions, min and max, unsafe strings. -/
section
variable {ρ : Env} {a : W} {w : World}
theorem copy_ok (hw : WRel ρ a w) {t ty : TypeId} {ts : Array TypeId} {d s : AV} {d' s' : Value} (h0 : ts[0]? = some t) (hd : VRel ρ d d') (hs : VRel ρ s s') :
    VOK ρ a w (Builtin.copy_ ts ty #[d', s']) (evCopy t d s a) := by
  unfold evCopy
  split <;> try trivial
  rename_i e hu
  split <;> try trivial
  rename_i size n hsz hn
  split <;> try trivial
  rename_i b off len cap ex
  split <;> try trivial
  rename_i m l hl
  split <;> try trivial
  rename_i o ho
  simp only [VRel] at hd
  obtain ⟨c, cap', hc, hcap, hso, rfl⟩ := hd
  have key : ∃ l' : List Value, Builtin.lenOf s' = pure n ∧ (Builtin.firstCells size (min n len) s').run PP w = .ok l'.toArray w ∧ VRels ρ l l' := by
    unfold lenS at hn
    split at hn <;> cases hn
    · simp only [VRel] at hs; subst hs
      simp only [cutSrc, srcCells] at hl
      cases hl
      exact ⟨[], rfl, by simp [Builtin.firstCells], by simp only [VRels]⟩
    · rename_i b' off' cp ex'
      simp only [cutSrc, bc_eq] at hl
      split at hl
      · rename_i hk
        have hk := Nat.le_of_ble_eq_true hk
        simp only [VRel] at hs
        obtain ⟨c', cp', q1, q2, q3, rfl⟩ := hs
        obtain ⟨l', ⟨r1, r2, r3⟩, r4⟩ := srcCells_rel hw hl (x' := .slice (some ⟨c', off', none⟩) (min n len) cp') (by simp only [VRel]; exact ⟨c', cp', q1, ⟨by omega, q2.2⟩, q3, rfl⟩)
        have hm : m = min n len := by
          simp only [srcCells, Option.map_eq_some_iff] at hl
          obtain ⟨_, _, e⟩ := hl; cases e; rfl
        subst hm
        refine ⟨l', rfl, ?_, r4⟩
        have := r3 w rfl
        simpa only [Builtin.firstCells] using this
      · cases hl
    · rename_i k
      simp only [cutSrc, bc_eq] at hl
      split at hl
      · rename_i hk
        have hk := Nat.eq_of_beq_eq_true hk
        obtain ⟨l', ⟨r1, r2, r3⟩, r4⟩ := srcCells_rel hw hl hs
        have hm : m = n := by
          simp only [srcCells, bc_eq] at hl
          split at hl
          · cases hl; rfl
          · cases hl
        subst hm
        refine ⟨l', r1, ?_, r4⟩
        rw [hk]; exact r3 w rfl
      · cases hl
  obtain ⟨l', k1, k2, k3⟩ := key
  obtain ⟨w', s1, s2⟩ := objSet_adv hw hc ho k3
  intro _
  refine ⟨ρ, w', .int .i64 (.ofNat (min n len)), ?_, rel_int rfl, s2⟩
  have hnn : Nat.min n len = min n len := rfl
  simp only [Builtin.copy_, h0, List.getElem?_toArray, List.getElem?_cons_zero, List.getElem?_cons_succ, Sem.run_bind, run_und hu, Result.andThen_ok, k1, Sem.run_pure, run_size hsz, hnn, k2, s1]
  rfl
theorem cap_ok (hw : WRel ρ a w) {t ty : TypeId} {ts : Array TypeId} {x : AV} {x' : Value} (h0 : ts[0]? = some t) (hx : VRel ρ x x') : VOK ρ a w (Builtin.cap_ ts ty #[x']) (evCap t x a) := by
  unfold evCap
  split <;> try trivial
  · rename_i hu
    exact cap_nil hw h0 hu hx
  · rename_i hu
    simp only [VRel, SlOk] at hx
    obtain ⟨c, cap', hc, _, hso, rfl⟩ := hx
    subst hso
    exact VOK.here hw (by simp only [Builtin.cap_, h0, List.getElem?_toArray, List.getElem?_cons_zero, Sem.run_bind, run_und hu, Result.andThen_ok, Sem.run_pure]; rfl) (rel_int rfl)
theorem sdata_ok (hw : WRel ρ a w) {ty : TypeId} {ts : Array TypeId} {x : AV} {x' : Value} (hx : VRel ρ x x') : VOK ρ a w (Builtin.unsafeSliceData_ ts ty #[x']) (evSData x a) := by
  unfold evSData
  split <;> try trivial
  · simp only [VRel] at hx; subst hx
    exact VOK.here hw (v' := .pointer none) rfl (by simp only [VRel])
  · rename_i b off len cap ex
    simp only [VRel] at hx
    obtain ⟨c, cap', hc, hcap, hso, rfl⟩ := hx
    rw [bc_eq]
    split <;> try trivial
    rename_i h
    have h : cap ≠ 0 := fun e => h (by rw [e]; rfl)
    have h' : cap' ≠ 0 := by omega
    exact VOK.here hw (v' := .pointer (some ⟨c, off, none⟩)) (by show Sem.run PP (if cap' ≠ 0 then (pure (.pointer (some ⟨c, off, none⟩)) : Sem Value) else _) w = _; rw [if_pos h', Sem.run_pure]) (by simp only [VRel]; exact ⟨c, hc, rfl⟩)
end
end Go.Ev
