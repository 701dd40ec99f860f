import Derived.Test.YtldcnedpfagliaaGreatDoorEvV
set_option linter.all false
namespace Go.Ev
/- Addresses, indexes, slices, maps, ranges, interfaces. -/
section
variable {ρ : Env} {a : W} {w : World}
theorem fieldAddr_ok (hw : WRel ρ a w) {s : TypeId} {f : Nat} {p : AV} {p' : Value} (hp : VRel ρ p p') : VOK ρ a w (Instr.fieldAt s p' f) (evFieldAddr s f p a) := by
  unfold evFieldAddr
  split <;> try trivial
  rename_i off size b o hs
  simp only [VRel] at hp
  obtain ⟨c, hc, rfl⟩ := hp
  rw [bc_eq]
  split <;> try trivial
  rename_i h0
  obtain ⟨fa, fd, hu, hf, rfl, hsz⟩ := structPlace_eq hs
  have hne : size ≠ 0 := fun e => h0 (by rw [e]; rfl)
  refine VOK.here hw (v' := .pointer (some ⟨c, o + fd.offset, none⟩)) ?_ (by simp only [VRel]; exact ⟨c, hc, rfl⟩)
  simp only [Instr.fieldAt, Sem.run_bind, run_und hu, Result.andThen_ok, hf, Instr.sureAddr, Sem.run_pure, fieldPlace, run_size hsz, hne, if_false, addr_add]
theorem field_ok (hw : WRel ρ a w) {s : TypeId} {f : Nat} {x : AV} {x' : Value} (hx : VRel ρ x x') : VOK ρ a w (Instr.field s x' f) (evField s f x a) := by
  unfold evField
  split <;> try trivial
  rename_i cs fd hf
  simp only [VRel] at hx
  obtain ⟨ys, rfl, hx⟩ := hx
  cases hfo : fieldsOf s with
  | none => rw [hfo] at hf; cases hf
  | some fs =>
    obtain ⟨fa, hu, rfl⟩ := fieldsOf_eq hfo
    rw [hfo] at hf
    have hf : fa[f]? = some fd := by simpa using hf
    refine retO_ok hw fun v hv => ?_
    obtain ⟨v', h1, h2⟩ := part_run (w := w) hv hx
    refine ⟨v', ?_, h2⟩
    simp only [Instr.field, Sem.run_bind, run_und hu, Result.andThen_ok, hf, asAgg, Sem.run_pure, h1]
theorem natOf_rel {x : AV} {x' : Value} {n : Nat} (h : natOf x = some n) (hx : VRel ρ x x') : ∃ k, x' = .int k (Int.ofNat n) := by
  unfold natOf at h
  split at h
  · cases h; simp only [VRel] at hx; exact ⟨_, hx⟩
  · cases h
theorem indexAddr_ok (hw : WRel ρ a w) {t : TypeId} {x i : AV} {x' i' : Value} (hx : VRel ρ x x') (hi : VRel ρ i i') : VOK ρ a w (Instr.indexAt t x' i') (evIndexAddr t x i a) := by
  unfold evIndexAddr
  split
  · rename_i n len e b o hn hu
    obtain ⟨k, rfl⟩ := natOf_rel hn hi
    simp only [VRel] at hx
    obtain ⟨c, hc, rfl⟩ := hx
    split <;> try trivial
    rename_i s hs
    rw [bc_eq]
    split <;> try trivial
    rename_i hlt
    have hlt : n < len := by simpa using hlt
    refine VOK.here hw (v' := .pointer (some ⟨c, o + n * s, none⟩)) ?_ (by simp only [VRel]; exact ⟨c, hc, rfl⟩)
    have h1 : (0 : Int) ≤ Int.ofNat n ∧ Int.ofNat n < (len : Int) := ⟨by simp, by simp; exact hlt⟩
    simp only [Instr.indexAt, Sem.run_bind, asIntOf, Sem.run_pure, Result.andThen_ok, run_und hu, Instr.sureAddr, h1, and_self, if_true, Sem.run_bind, run_size hs, addr_add]
    rfl
  · rename_i n e b o len cap ex hn hu
    obtain ⟨k, rfl⟩ := natOf_rel hn hi
    simp only [VRel] at hx
    obtain ⟨c, cap', hc, _, _, rfl⟩ := hx
    split <;> try trivial
    rename_i s hs
    rw [bc_eq]
    split <;> try trivial
    rename_i hlt
    have hlt : n < len := by simpa using hlt
    refine VOK.here hw (v' := .pointer (some ⟨c, o + n * s, none⟩)) ?_ (by simp only [VRel]; exact ⟨c, hc, rfl⟩)
    have h1 : (0 : Int) ≤ Int.ofNat n ∧ Int.ofNat n < (len : Int) := ⟨by simp, by simp; exact hlt⟩
    simp only [Instr.indexAt, Sem.run_bind, asIntOf, Sem.run_pure, Result.andThen_ok, run_und hu, h1, and_self, if_true, Sem.run_bind, run_size hs, addr_add]
    rfl
  · rename_i n e b kb d len hn hu
    obtain ⟨k, rfl⟩ := natOf_rel hn hi
    simp only [VRel] at hx
    obtain ⟨c, c', cap', hc, hk, _, rfl⟩ := hx
    split <;> try trivial
    rename_i s hs
    rw [bc_eq]
    split <;> try trivial
    rename_i hs1
    obtain rfl := Nat.eq_of_beq_eq_true hs1
    rw [bc_eq]
    split <;> try trivial
    rename_i hlt
    have hlt : n < len := by simpa using hlt
    refine VOK.here hw (v' := .pointer (some ⟨c, ρ.sz kb + d + n * 1, none⟩)) ?_ (by simp only [VRel]; exact ⟨c, c', hc, hk, by simp [Nat.add_assoc]⟩)
    have h1 : (0 : Int) ≤ Int.ofNat n ∧ Int.ofNat n < (len : Int) := ⟨by simp, by simp; exact hlt⟩
    simp only [Instr.indexAt, Sem.run_bind, asIntOf, Sem.run_pure, Result.andThen_ok, run_und hu, h1, and_self, if_true, Sem.run_bind, run_size hs, addr_add]
    rfl
  · trivial
theorem index_ok (hw : WRel ρ a w) {t : TypeId} {x i : AV} {x' i' : Value} (hx : VRel ρ x x') (hi : VRel ρ i i') : VOK ρ a w (Instr.index t x' i') (evIndex t x i a) := by
  unfold evIndex
  split
  · rename_i n len m hn hu
    obtain ⟨k, rfl⟩ := natOf_rel hn hi
    simp only [VRel] at hx
    obtain ⟨hm, rfl⟩ := hx
    rw [bc_eq]
    split <;> try trivial
    rename_i hlt
    have hlt : n < len := by simpa using hlt
    refine VOK.here hw (v' := .int .u8 (sAt len m n)) ?_ (rel_int rfl)
    have hg : (unpack len m)[n]? = some (UInt8.ofNat (sAt len m n)) := by
      have h1 : (bytesOf len m)[n]? = some (UInt8.ofNat (sAt len m n)) := by
        rw [List.getElem?_eq_getElem (by rw [bytesOf_length]; exact hlt), bytesOf_get']
      show (unpack len m).data[n]? = _
      simpa [unpack] using h1
    have h1 : (0 : Int) ≤ Int.ofNat n := by simp
    simp only [Instr.index, Sem.run_bind, asIntOf, Sem.run_pure, Result.andThen_ok, run_und hu, h1, if_true]
    rw [show (Int.ofNat n).toNat = n from rfl, hg]
    simp only [Sem.run_pure, u8_toNat_sAt]
  · rename_i n len e cs hn hu
    obtain ⟨k, rfl⟩ := natOf_rel hn hi
    simp only [VRel] at hx
    obtain ⟨ys, rfl, hx⟩ := hx
    split <;> try trivial
    rename_i s hs
    rw [bc_eq]
    split <;> try trivial
    rename_i hlt
    have hlt : n < len := by simpa using hlt
    refine retO_ok hw fun v hv => ?_
    obtain ⟨v', h1, h2⟩ := part_run (w := w) hv hx
    refine ⟨v', ?_, h2⟩
    have h3 : (0 : Int) ≤ Int.ofNat n ∧ Int.ofNat n < (len : Int) := ⟨by simp, by simp; exact hlt⟩
    simp only [Instr.index, Sem.run_bind, asIntOf, Sem.run_pure, Result.andThen_ok, run_und hu, h3, and_self, if_true, Sem.run_bind, run_size hs]
    exact h1
  · trivial
end
end Go.Ev
