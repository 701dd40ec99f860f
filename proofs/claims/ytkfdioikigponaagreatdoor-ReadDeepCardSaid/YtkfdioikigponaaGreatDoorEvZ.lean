import Derived.Test.YtkfdioikigponaaGreatDoorEvV
set_option linter.all false
namespace Go.Ev
variable [Gv]
/- Addresses, indexes, slices, maps, ranges, interfaces. -/
section
variable {ρ : Env} {a : W} {w : World}
theorem fieldAddr_ok (hw : WRel ρ a w) {s : TypeId} {f : Nat} {p : AV} {p' : Value} (hp : VRel ρ p p') : VOK ρ a w (Instr.fieldAt s p' f) (evFieldAddr s f p a) := by
  unfold evFieldAddr
  split <;> try trivial
  rename_i off size b o hs
  simp only [VRel] at hp
  obtain ⟨c, hc, rfl⟩ := hp
  rw [bc_eq]
  split <;> try trivial
  rename_i h0
  obtain ⟨fa, fd, hu, hf, rfl, hsz⟩ := structPlace_eq hs
  have hne : size ≠ 0 := fun e => h0 (by rw [e]; rfl)
  refine VOK.here hw (v' := .pointer (some ⟨c, o + fd.offset, none⟩)) ?_ (by simp only [VRel]; exact ⟨c, hc, rfl⟩)
  simp only [Instr.fieldAt, Sem.run_bind, run_und hu, Result.andThen_ok, hf, Instr.sureAddr, Sem.run_pure, fieldPlace, run_size hsz, hne, if_false, addr_add]
theorem field_ok (hw : WRel ρ a w) {s : TypeId} {f : Nat} {x : AV} {x' : Value} (hx : VRel ρ x x') : VOK ρ a w (Instr.field s x' f) (evField s f x a) := by
  unfold evField
  split <;> try trivial
  rename_i cs fd hf
  simp only [VRel] at hx
  obtain ⟨ys, rfl, hx⟩ := hx
  cases hfo : fieldsOf s with
  | none => rw [hfo] at hf; cases hf
  | some fs =>
    obtain ⟨fa, hu, rfl⟩ := fieldsOf_eq hfo
    rw [hfo] at hf
    have hf : fa[f]? = some fd := by simpa using hf
    refine retO_ok hw fun v hv => ?_
    obtain ⟨v', h1, h2⟩ := part_run (w := w) hv hx
    refine ⟨v', ?_, h2⟩
    simp only [Instr.field, Sem.run_bind, run_und hu, Result.andThen_ok, hf, asAgg, Sem.run_pure, h1]
theorem natOf_rel {x : AV} {x' : Value} {n : Nat} (h : natOf x = some n) (hx : VRel ρ x x') : ∃ k, x' = .int k (Int.ofNat n) := by
  unfold natOf at h
  split at h
  · cases h; simp only [VRel] at hx; exact ⟨_, hx⟩
  · cases h
theorem indexAddr_ok (hw : WRel ρ a w) {t : TypeId} {x i : AV} {x' i' : Value} (hx : VRel ρ x x') (hi : VRel ρ i i') : VOK ρ a w (Instr.indexAt t x' i') (evIndexAddr t x i a) := by
  unfold evIndexAddr
  split
  · rename_i n len e b o hn hu
    obtain ⟨k, rfl⟩ := natOf_rel hn hi
    simp only [VRel] at hx
    obtain ⟨c, hc, rfl⟩ := hx
    split <;> try trivial
    rename_i s hs
    rw [bc_eq]
    split <;> try trivial
    rename_i hlt
    have hlt : n < len := by simpa using hlt
    refine VOK.here hw (v' := .pointer (some ⟨c, o + n * s, none⟩)) ?_ (by simp only [VRel]; exact ⟨c, hc, rfl⟩)
    have h1 : (0 : Int) ≤ Int.ofNat n ∧ Int.ofNat n < (len : Int) := ⟨by simp, by simp; exact hlt⟩
    simp only [Instr.indexAt, Sem.run_bind, asIntOf, Sem.run_pure, Result.andThen_ok, run_und hu, Instr.sureAddr, h1, and_self, if_true, Sem.run_bind, run_size hs, addr_add]
    rfl
  · rename_i n e b o len cap ex hn hu
    obtain ⟨k, rfl⟩ := natOf_rel hn hi
    simp only [VRel] at hx
    obtain ⟨c, cap', hc, _, _, rfl⟩ := hx
    split <;> try trivial
    rename_i s hs
    rw [bc_eq]
    split <;> try trivial
    rename_i hlt
    have hlt : n < len := by simpa using hlt
    refine VOK.here hw (v' := .pointer (some ⟨c, o + n * s, none⟩)) ?_ (by simp only [VRel]; exact ⟨c, hc, rfl⟩)
    have h1 : (0 : Int) ≤ Int.ofNat n ∧ Int.ofNat n < (len : Int) := ⟨by simp, by simp; exact hlt⟩
    simp only [Instr.indexAt, Sem.run_bind, asIntOf, Sem.run_pure, Result.andThen_ok, run_und hu, h1, and_self, if_true, Sem.run_bind, run_size hs, addr_add]
    rfl
  · rename_i n e b kb d len hn hu
    obtain ⟨k, rfl⟩ := natOf_rel hn hi
    simp only [VRel] at hx
    obtain ⟨c, c', cap', hc, hk, _, rfl⟩ := hx
    split <;> try trivial
    rename_i s hs
    rw [bc_eq]
    split <;> try trivial
    rename_i hs1
    obtain rfl := Nat.eq_of_beq_eq_true hs1
    rw [bc_eq]
    split <;> try trivial
    rename_i hlt
    have hlt : n < len := by simpa using hlt
    refine VOK.here hw (v' := .pointer (some ⟨c, ρ.sz kb + d + n * 1, none⟩)) ?_ (by simp only [VRel]; exact ⟨c, c', hc, hk, by simp [Nat.add_assoc]⟩)
    have h1 : (0 : Int) ≤ Int.ofNat n ∧ Int.ofNat n < (len : Int) := ⟨by simp, by simp; exact hlt⟩
    simp only [Instr.indexAt, Sem.run_bind, asIntOf, Sem.run_pure, Result.andThen_ok, run_und hu, h1, and_self, if_true, Sem.run_bind, run_size hs, addr_add]
    rfl
  · trivial
theorem index_ok (hw : WRel ρ a w) {t : TypeId} {x i : AV} {x' i' : Value} (hx : VRel ρ x x') (hi : VRel ρ i i') : VOK ρ a w (Instr.index t x' i') (evIndex t x i a) := by
  unfold evIndex
  split
  · rename_i n len m hn hu
    obtain ⟨k, rfl⟩ := natOf_rel hn hi
    simp only [VRel] at hx
    obtain ⟨hm, rfl⟩ := hx
    rw [bc_eq]
    split <;> try trivial
    rename_i hlt
    have hlt : n < len := by simpa using hlt
    refine VOK.here hw (v' := .int .u8 (sAt len m n)) ?_ (rel_int rfl)
    have hg : (unpack len m)[n]? = some (UInt8.ofNat (sAt len m n)) := by
      have h1 : (bytesOf len m)[n]? = some (UInt8.ofNat (sAt len m n)) := by
        rw [List.getElem?_eq_getElem (by rw [bytesOf_length]; exact hlt), bytesOf_get']
      show (unpack len m).data[n]? = _
      simpa [unpack] using h1
    have h1 : (0 : Int) ≤ Int.ofNat n := by simp
    simp only [Instr.index, Sem.run_bind, asIntOf, Sem.run_pure, Result.andThen_ok, run_und hu, h1, if_true]
    rw [show (Int.ofNat n).toNat = n from rfl, hg]
    simp only [Sem.run_pure, u8_toNat_sAt]
  · rename_i n len e cs hn hu
    obtain ⟨k, rfl⟩ := natOf_rel hn hi
    simp only [VRel] at hx
    obtain ⟨ys, rfl, hx⟩ := hx
    split <;> try trivial
    rename_i s hs
    rw [bc_eq]
    split <;> try trivial
    rename_i hlt
    have hlt : n < len := by simpa using hlt
    refine retO_ok hw fun v hv => ?_
    obtain ⟨v', h1, h2⟩ := part_run (w := w) hv hx
    refine ⟨v', ?_, h2⟩
    have h3 : (0 : Int) ≤ Int.ofNat n ∧ Int.ofNat n < (len : Int) := ⟨by simp, by simp; exact hlt⟩
    simp only [Instr.index, Sem.run_bind, asIntOf, Sem.run_pure, Result.andThen_ok, run_und hu, h3, and_self, if_true, Sem.run_bind, run_size hs]
    exact h1
  · trivial
end
end Go.Ev
set_option linter.all false
namespace Go.Ev
variable [Gv]
/- Slices of slices, maps, ranges, interfaces, conversions. -/
section
variable {ρ : Env} {a : W} {w : World}
def OVRel (ρ : Env) : Option AV → Option Value → Prop
  | none, o => o = none
  | some v, o => ∃ v', o = some v' ∧ VRel ρ v v'
theorem bound_run {x : AV} {x' : Value} {d y y' n : Nat} (h : bound (some x) d y = some n) (hx : VRel ρ x x') (hy : y ≤ y') (code : BoundsCode) : (Instr.sliceBound x' y' code).run PP w = .ok n w ∧ n ≤ y := by
  simp only [bound] at h
  split at h <;> try (cases h; done)
  rename_i m hm
  rw [bc_eq] at h
  split at h <;> try (cases h; done)
  rename_i hb
  have hb := Nat.le_of_ble_eq_true hb
  cases h
  obtain ⟨k, rfl⟩ := natOf_rel hm hx
  have h1 : (0 : Int) ≤ Int.ofNat n ∧ Int.ofNat n ≤ (y' : Int) := ⟨by simp, by simp; omega⟩
  refine ⟨?_, hb⟩
  simp only [Instr.sliceBound, Sem.run_bind, asIntOf, Sem.run_pure, Result.andThen_ok, h1, and_self, if_true]
  rfl
theorem bound_none {d y n : Nat} (h : bound none d y = some n) : n = d := by simp only [bound] at h; cases h; rfl
/-- the bounds of a slice expression without its third -/
theorem bounds_run {isS : Bool} {len cap cap' h l : Nat} {lo hi : Option AV} {lo' hi' : Option Value} (hlo : OVRel ρ lo lo') (hhi : OVRel ρ hi hi') (hc : cap ≤ cap') (hl : len ≤ cap)
    (e1 : bound hi len cap = some h) (e2 : bound lo 0 h = some l) : (Instr.sliceBounds isS len cap' lo' hi' none).run PP w = .ok (l, h, cap') w ∧ l ≤ h ∧ h ≤ cap := by
  cases hi with
  | none =>
    simp only [OVRel] at hhi; subst hhi; have := bound_none e1; subst this
    cases lo with
    | none => simp only [OVRel] at hlo; subst hlo; have := bound_none e2; subst this; exact ⟨rfl, Nat.zero_le _, hl⟩
    | some v =>
      simp only [OVRel] at hlo; obtain ⟨v', rfl, hv⟩ := hlo
      have p := fun c => bound_run (w := w) e2 hv (Nat.le_refl _) c
      exact ⟨by simp only [Instr.sliceBounds, Sem.run_bind, Sem.run_pure, Result.andThen_ok, (p _).1], (p .index).2, hl⟩
  | some u =>
    simp only [OVRel] at hhi; obtain ⟨u', rfl, hu⟩ := hhi
    have q := fun c => bound_run (w := w) e1 hu hc c
    cases lo with
    | none => simp only [OVRel] at hlo; subst hlo; have := bound_none e2; subst this; exact ⟨by simp only [Instr.sliceBounds, Sem.run_bind, Sem.run_pure, Result.andThen_ok, (q _).1], Nat.zero_le _, (q .index).2⟩
    | some v =>
      simp only [OVRel] at hlo; obtain ⟨v', rfl, hv⟩ := hlo
      have p := fun c => bound_run (w := w) e2 hv (Nat.le_refl _) c
      exact ⟨by simp only [Instr.sliceBounds, Sem.run_bind, Sem.run_pure, Result.andThen_ok, (q _).1, (p _).1], (p .index).2, (q .index).2⟩
theorem bounds3_run {isS : Bool} {len cap cap' h l m : Nat} {lo : Option AV} {lo' : Option Value} {hi mx : AV} {hi' mx' : Value} (hlo : OVRel ρ lo lo') (hhi : VRel ρ hi hi') (hmx : VRel ρ mx mx') (hc : cap ≤ cap')
    (e0 : bound (some mx) 0 cap = some m) (e1 : bound (some hi) len m = some h) (e2 : bound lo 0 h = some l) : (Instr.sliceBounds isS len cap' lo' (some hi') (some mx')).run PP w = .ok (l, h, m) w ∧ l ≤ h ∧ h ≤ m ∧ m ≤ cap := by
  have p0 := fun c => bound_run (w := w) e0 hmx hc c
  have p1 := fun c => bound_run (w := w) e1 hhi (Nat.le_refl _) c
  cases lo with
  | none => simp only [OVRel] at hlo; subst hlo; have := bound_none e2; subst this; exact ⟨by simp only [Instr.sliceBounds, Sem.run_bind, Sem.run_pure, Result.andThen_ok, (p0 _).1, (p1 _).1], Nat.zero_le _, (p1 .index).2, (p0 .index).2⟩
  | some v =>
    simp only [OVRel] at hlo; obtain ⟨v', rfl, hv⟩ := hlo
    have p := fun c => bound_run (w := w) e2 hv (Nat.le_refl _) c
    exact ⟨by simp only [Instr.sliceBounds, Sem.run_bind, Sem.run_pure, Result.andThen_ok, (p0 _).1, (p1 _).1, (p _).1], (p .index).2, (p1 .index).2, (p0 .index).2⟩
theorem unpack_extract (len n lo hi : Nat) (h1 : lo ≤ hi) (h2 : hi ≤ len) : (unpack len n).extract lo hi = unpack (hi - lo) (Nat.shiftRight n (8 * (len - hi)) % 256 ^ (hi - lo)) := by
  apply ByteArray.ext
  unfold unpack
  rw [bytesOf_cut _ _ _ _ h1 h2]
  simp
theorem slice_ok (hw : WRel ρ a w) {t : TypeId} {x : AV} {x' : Value} {lo hi mx : Option AV} {lo' hi' mx' : Option Value} (hx : VRel ρ x x') (hlo : OVRel ρ lo lo') (hhi : OVRel ρ hi hi') (hmx : OVRel ρ mx mx') :
    VOK ρ a w (Instr.sliceAt t x' lo' hi' mx') (evSlice t x lo hi mx a) := by
  unfold evSlice
  split
  · rename_i len n hu
    simp only [VRel] at hx
    obtain ⟨hn, rfl⟩ := hx
    split <;> try trivial
    rename_i h hb
    simp only [OVRel] at hmx
    subst hmx
    split <;> try trivial
    rename_i l hl
    obtain ⟨r, b1, b2⟩ := bounds_run (isS := false) (w := w) hlo hhi (Nat.le_refl _) (Nat.le_refl _) hb hl
    refine VOK.here hw (v' := .string ((unpack len n).extract l h)) ?_ ?_
    · simp only [Instr.sliceAt, Sem.run_bind, run_und hu, Result.andThen_ok, Instr.slice, Option.isSome_none, Bool.false_eq_true, if_false, unpack_size]
      simp only [r, Result.andThen_ok, Sem.run_pure]
    · unfold sCut
      simp only [VRel]
      exact ⟨Nat.mod_lt _ (Nat.pow_pos (by decide)), by rw [unpack_extract _ _ _ _ b1 b2]; rfl⟩
  · rename_i e hu
    simp only [VRel] at hx
    subst hx
    split <;> try trivial
    rename_i s h l hs hb hl
    simp only [OVRel] at hmx
    subst hmx
    have hh : h = 0 := by
      cases hi with
      | none => exact bound_none hb
      | some v => simp only [OVRel] at hhi; obtain ⟨v', rfl, hv⟩ := hhi; have := (bound_run (w := w) hb hv (Nat.le_refl _) .index).2; omega
    subst hh
    obtain ⟨r, b1, b2⟩ := bounds_run (isS := true) (w := w) hlo hhi (Nat.le_refl _) (Nat.le_refl _) hb hl
    obtain rfl : l = 0 := by omega
    refine VOK.here hw (v' := .slice none 0 0) ?_ (by simp only [VRel])
    simp only [Instr.sliceAt, Sem.run_bind, run_und hu, Result.andThen_ok, Instr.slice, r, run_size hs, if_true, Sem.run_pure, Nat.sub_self]
  · rename_i e b o len cap ex hu
    simp only [VRel] at hx
    obtain ⟨c, cap', hc, ⟨hlen, hcap⟩, hex, rfl⟩ := hx
    split
    · rename_i s hs
      simp only [OVRel] at hmx
      subst hmx
      split <;> try trivial
      rename_i h hb
      split <;> try trivial
      rename_i l hl
      obtain ⟨r, b1, b2⟩ := bounds_run (isS := true) (w := w) hlo hhi hcap hlen hb hl
      split
      · simp only [SlOk] at hex
        rw [bc_eq]
        split
        · rename_i hlt
          have hlt : l < cap := by simpa using hlt
          refine VOK.here hw (v' := .slice (some ⟨c, o + l * s, none⟩) (h - l) (cap' - l)) ?_ (by simp only [VRel, SlOk]; exact ⟨c, cap' - l, hc, by omega, by omega, rfl⟩)
          have : ¬ cap' = l := by omega
          simp only [Instr.sliceAt, Sem.run_bind, run_und hu, Result.andThen_ok, Instr.slice, r, run_size hs, this, if_false, Option.map_some, addr_add, Sem.run_pure]
        · rename_i hlt
          have hlt : ¬ l < cap := by simpa using hlt
          refine VOK.here hw (v' := .slice (some ⟨c, o, none⟩) (h - l) 0) ?_ (by simp only [VRel, SlOk]; exact ⟨c, 0, hc, by omega, rfl, rfl⟩)
          have : cap' = l := by omega
          simp only [Instr.sliceAt, Sem.run_bind, run_und hu, Result.andThen_ok, Instr.slice, r, run_size hs, Sem.run_pure]
          rw [if_pos this, this, Nat.sub_self]
      · rename_i es
        simp only [SlOk] at hex
        simp only [bc_eq]
        split <;> try trivial
        rename_i hes
        obtain rfl := Nat.eq_of_beq_eq_true hes
        split
        · rename_i hlt
          have hlt : l < cap := by simpa using hlt
          have hroom : o + l * es + (cap' - l) * es = o + cap' * es := by
            rw [Nat.add_assoc, ← Nat.add_mul]; congr 2; omega
          refine VOK.here hw (v' := .slice (some ⟨c, o + l * es, none⟩) (h - l) (cap' - l)) ?_ (by simp only [VRel, SlOk]; exact ⟨c, cap' - l, hc, by omega, by omega, rfl⟩)
          have : ¬ cap' = l := by omega
          simp only [Instr.sliceAt, Sem.run_bind, run_und hu, Result.andThen_ok, Instr.slice, r, run_size hs, this, if_false, Option.map_some, addr_add, Sem.run_pure]
        · split
          · rename_i h0
            have h0 := Nat.eq_of_beq_eq_true h0
            refine VOK.here hw (v' := .slice (some ⟨c, o, none⟩) (h - l) (cap' - l)) ?_ (by simp only [VRel, SlOk]; exact ⟨c, cap' - l, hc, by omega, by rw [h0]; exact hex, rfl⟩)
            have hadd : (⟨c, o, none⟩ : Addr).add (l * es) = ⟨c, o, none⟩ := by rw [h0, addr_add]; simp
            simp only [Instr.sliceAt, Sem.run_bind, run_und hu, Result.andThen_ok, Instr.slice, r, run_size hs, Option.map_some, hadd, ite_self, Sem.run_pure]
          · rename_i hlt _
            have hlt : ¬ l < cap := by simpa using hlt
            have hz : h - l = 0 := by omega
            by_cases hcl : cap' = l
            · refine VOK.here hw (v' := .slice (some ⟨c, o, none⟩) 0 (cap' - l)) ?_ (by simp only [VRel]; exact ⟨_, _, rfl⟩)
              simp only [Instr.sliceAt, Sem.run_bind, run_und hu, Result.andThen_ok, Instr.slice, r, run_size hs, Sem.run_pure, hz]
              rw [if_pos hcl]
            · refine VOK.here hw (v' := .slice (some ⟨c, o + l * es, none⟩) 0 (cap' - l)) ?_ (by simp only [VRel]; exact ⟨_, _, rfl⟩)
              simp only [Instr.sliceAt, Sem.run_bind, run_und hu, Result.andThen_ok, Instr.slice, r, run_size hs, hcl, if_false, Option.map_some, addr_add, Sem.run_pure, hz]
    · rename_i s m hs
      simp only [OVRel] at hmx
      obtain ⟨m', rfl, hm⟩ := hmx
      split <;> try trivial
      rename_i m hi e0
      simp only [OVRel] at hhi
      obtain ⟨hi', rfl, hhi⟩ := hhi
      split <;> try trivial
      rename_i h hb
      split <;> try trivial
      rename_i l hl
      obtain ⟨r, b1, b2, b3⟩ := bounds3_run (isS := true) (w := w) hlo hhi hm hcap e0 hb hl
      rw [bc_eq]
      split
      · rename_i hlt
        have hlt : l < m := by simpa using hlt
        refine VOK.here hw (v' := .slice (some ⟨c, o + l * s, none⟩) (h - l) (m - l)) ?_ (by simp only [VRel]; exact ⟨c, m - l, hc, by omega, rfl, rfl⟩)
        have : ¬ m = l := by omega
        simp only [Instr.sliceAt, Sem.run_bind, run_und hu, Result.andThen_ok, Instr.slice, r, run_size hs, this, if_false, Option.map_some, addr_add, Sem.run_pure]
      · rename_i hlt
        have hlt : ¬ l < m := by simpa using hlt
        refine VOK.here hw (v' := .slice (some ⟨c, o, none⟩) (h - l) 0) ?_ (by simp only [VRel]; exact ⟨c, 0, hc, by omega, rfl, rfl⟩)
        have : m = l := by omega
        simp only [Instr.sliceAt, Sem.run_bind, run_und hu, Result.andThen_ok, Instr.slice, r, run_size hs, Sem.run_pure]
        rw [if_pos this, this, Nat.sub_self]
    · trivial
  · rename_i e b kb d n hu
    simp only [VRel] at hx
    obtain ⟨c, c', cap', hc, hk, ⟨hn1, hn2, hn3, hn4⟩, rfl⟩ := hx
    split <;> try trivial
    rename_i s hs
    simp only [OVRel] at hmx hhi
    subst hmx hhi
    rw [bc_eq]
    split <;> try trivial
    rename_i hs1
    obtain rfl := Nat.eq_of_beq_eq_true hs1
    split <;> try trivial
    rename_i l hl
    obtain ⟨r, b1, b2⟩ := bounds_run (isS := true) (w := w) (hi := none) (hi' := none) (len := n) (cap := n) (h := n) hlo (by simp only [OVRel]) hn2 (Nat.le_refl _) rfl hl
    rw [bc_eq]
    split
    · rename_i hlt
      have hlt : l < n := by simpa using hlt
      refine VOK.here hw (v' := .slice (some ⟨c, ρ.sz kb + d + l * 1, none⟩) (n - l) (cap' - l)) ?_ (by simp only [VRel]; exact ⟨c, c', cap' - l, hc, hk, by omega, by simp [Nat.add_assoc]⟩)
      have : ¬ cap' = l := by omega
      simp only [Instr.sliceAt, Sem.run_bind, run_und hu, Result.andThen_ok, Instr.slice, r, run_size hs, this, if_false, Option.map_some, addr_add, Sem.run_pure]
    · rename_i hlt
      have hlt : ¬ l < n := by simpa using hlt
      have hz : n - l = 0 := by omega
      by_cases hcl : cap' = l
      · refine VOK.here hw (v' := .slice (some ⟨c, ρ.sz kb + d, none⟩) 0 (cap' - l)) ?_ (by simp only [VRel]; exact ⟨c, _, _, hc, by omega, rfl⟩)
        simp only [Instr.sliceAt, Sem.run_bind, run_und hu, Result.andThen_ok, Instr.slice, r, run_size hs, Sem.run_pure, hz]
        rw [if_pos hcl]
      · refine VOK.here hw (v' := .slice (some ⟨c, ρ.sz kb + d + l * 1, none⟩) 0 (cap' - l)) ?_ (by simp only [VRel]; exact ⟨c, _, _, hc, by omega, rfl⟩)
        simp only [Instr.sliceAt, Sem.run_bind, run_und hu, Result.andThen_ok, Instr.slice, r, run_size hs, hcl, if_false, Option.map_some, addr_add, Sem.run_pure, hz]
  · rename_i n e b o hu
    simp only [VRel] at hx
    obtain ⟨c, hc, rfl⟩ := hx
    split <;> try trivial
    rename_i s hs
    simp only [OVRel] at hmx
    subst hmx
    split <;> try trivial
    rename_i h hb
    split <;> try trivial
    rename_i l hl
    obtain ⟨r, b1, b2⟩ := bounds_run (isS := false) (w := w) hlo hhi (Nat.le_refl _) (Nat.le_refl _) hb hl
    rw [bc_eq]
    split
    · rename_i hlt
      have hlt : l < n := by simpa using hlt
      refine VOK.here hw (v' := .slice (some ⟨c, o + l * s, none⟩) (h - l) (n - l)) ?_ (by simp only [VRel]; exact ⟨c, n - l, hc, by omega, rfl, rfl⟩)
      have : ¬ n = l := by omega
      simp only [Instr.sliceAt, Sem.run_bind, run_und hu, Result.andThen_ok, Instr.sureAddr, Sem.run_pure, r, run_size hs, this, if_false, addr_add]
    · rename_i hlt
      have hlt : ¬ l < n := by simpa using hlt
      have hnl : n = l := by omega
      refine VOK.here hw (v' := .slice (some ⟨c, o, none⟩) (h - l) 0) ?_ (by simp only [VRel]; exact ⟨c, 0, hc, by omega, rfl, rfl⟩)
      simp only [Instr.sliceAt, Sem.run_bind, run_und hu, Result.andThen_ok, Instr.sureAddr, Sem.run_pure, r, run_size hs]
      rw [if_pos hnl, hnl, Nat.sub_self]
  · trivial
end
end Go.Ev
set_option linter.all false
namespace Go.Ev
variable [Gv]
/- Maps, ranges, interfaces, conversions, lengths. -/
section
variable {ρ : Env} {a : W} {w : World}
theorem getObj_run {c : Nat} {o : Obj} (h : w.heap[c]? = some o) (hn : ∀ arr t fz, o ≠ .cells arr t fz) : (getObj c).run PP w = .ok o w := by
  cases o <;> first | (exact absurd rfl (hn _ _ _)) | simp [getObj, Sem.run, h]
theorem setObj_run {c : Nat} {o o' : Obj} (h : w.heap[c]? = some o) (hn : ∀ arr t fz, o ≠ .cells arr t fz) : (setObj c o').run PP w = .ok () { w with heap := w.heap.setIfInBounds c o' } := by
  cases o <;> first | (exact absurd rfl (hn _ _ _)) | simp [setObj, Sem.run, h]
theorem adv_setObj (hw : WRel ρ a w) {b : K} {c : Nat} {o : AObj} {x obj : Obj} (hg : wget b a ≠ .none) (hr : (wget b a).isRo = false) (hc : ρ b = some c) (hx : w.heap[c]? = some x) (ho : ORel ρ o (some obj)) (hn : o ≠ .none) (hcell : ∀ arr t fz, obj ≠ .cells arr t fz) (hlb : lhOf (wget b a) = none) (hlo : lhOf o = none := by rfl) :
    Adv ρ a w ρ (wset b o a) { w with heap := w.heap.setIfInBounds c obj } := by
  have hlt := (Array.getElem?_eq_some_iff.1 hx).1
  rw [wget_eq] at hg hr hlb
  exact adv_put (c := c) hw hg hr hc ho hn (fun arr t fz e => absurd e (hcell arr t fz)) (by simp [Array.getElem?_setIfInBounds_self_of_lt hlt]) (by simp) (fun d hd => by simp [Array.getElem?_setIfInBounds_ne (Ne.symm hd)]) rfl rfl rfl hlb hlo
def plainDesc : TypeDesc → Bool
  | .string | .int _ | .bool => true
  | _ => false
theorem plainKey_eq {t : TypeId} (h : plainKey t = true) : ∃ k e d, undOf t = some (.map k e) ∧ undOf k = some d ∧ plainDesc d = true := by
  unfold plainKey at h
  split at h
  · rename_i k e hu
    split at h
    · rename_i hk; exact ⟨k, e, _, hu, hk, rfl⟩
    · rename_i hk; exact ⟨k, e, _, hu, hk, rfl⟩
    · rename_i hk; exact ⟨k, e, _, hu, hk, rfl⟩
    · cases h
  · cases h
theorem checkKey_run {e : Bool} {k : TypeId} {d : TypeDesc} {v : Value} (hk : undOf k = some d) (hd : plainDesc d = true) : (Instr.checkKey e 10000 k v).run PP w = .ok () w := by
  unfold Instr.checkKey
  simp only [Sem.run_bind, run_und hk, Result.andThen_ok]
  cases d <;> first | (cases hd; done) | (cases v <;> rfl)
/-- a key that the abstract world compares is compared at once by the model -/
theorem keyEq_now {k k1 : AV} {k' k1' : Value} {r : Bool} {d : TypeDesc} (h : keyEq k k1 = some r) (hk : VRel ρ k k') (hk1 : VRel ρ k1 k1') (hd : plainDesc d = true) (hf : keyFits d k = true) : Instr.sameNow d k' k1' = some r := by
  unfold keyEq at h
  split at h <;> try (cases h; done)
  · simp only [VRel] at hk hk1
    obtain ⟨h1, rfl⟩ := hk
    obtain ⟨h2, rfl⟩ := hk1
    cases h
    cases d <;> first | (cases hf; done) | skip
    simp only [Instr.sameNow]
    rw [beq_toListBytes, beq_unpack _ _ _ _ h1 h2]
  · simp only [VRel] at hk hk1
    subst hk; subst hk1
    rw [bc_eq] at h
    split at h <;> try (cases h; done)
    rename_i hk
    obtain rfl := (kbeq_iff _ _).1 hk
    cases h
    cases d <;> first | (cases hf; done) | skip
    simp [Instr.sameNow, ieqb_eq]
  · simp only [VRel] at hk hk1
    subst hk; subst hk1
    cases h
    cases d <;> first | (cases hf; done) | skip
    simp [Instr.sameNow]
theorem findA_run {k : AV} {k' : Value} {d : TypeDesc} (hk : VRel ρ k k') (hd : plainDesc d = true) (hf : keyFits d k = true) : ∀ (es : List (AV × AV)) (ms : List MapEntry) (i : Nat) (r : Option AV), ERel ρ es ms → findA k es = some r →
    (match r with | none => Instr.findNow d k' ms i = some none | some v => ∃ j v', Instr.findNow d k' ms i = some (some (j, v')) ∧ VRel ρ v v')
  | [], _, i, r, he, h => by simp only [ERel] at he; subst he; simp only [findA] at h; cases h; rfl
  | e :: es, _, i, r, he, h => by
    simp only [ERel] at he
    obtain ⟨m, ms, rfl, h1, h2, h3⟩ := he
    simp only [findA] at h
    split at h <;> try (cases h; done)
    · rename_i hq
      cases h
      refine ⟨i, m.val, ?_, h2⟩
      simp only [Instr.findNow, keyEq_now hq hk h1 hd hf]
    · rename_i hq
      have := findA_run hk hd hf es ms (i + 1) r h3 h
      cases r with
      | none => simp only [Instr.findNow, keyEq_now hq hk h1 hd hf]; exact this
      | some v => obtain ⟨j, v', x, y⟩ := this; exact ⟨j, v', by simp only [Instr.findNow, keyEq_now hq hk h1 hd hf]; exact x, y⟩
theorem lookR_ok (hw : WRel ρ a w) {s : Sem Value} {ok : Bool} {v : AV} {v' : Value} {b : Bool} (hv : VRel ρ v v') (h : s.run PP w = .ok (if ok then .tuple #[v', .bool b] else v') w) : VOK ρ a w s (lookR ok v b a) := by
  unfold lookR
  cases ok
  · exact VOK.here hw h hv
  · refine VOK.here hw h ?_
    simp only [bc_true, VRel, if_true]
    exact ⟨_, rfl, by simp only [VRels]; exact ⟨v', [.bool b], rfl, hv, .bool b, [], rfl, by simp only [VRel], rfl⟩⟩
theorem keyOk_eq {t k e : TypeId} {d : TypeDesc} {x : AV} (h : keyOk t x = true) (hu : undOf t = some (.map k e)) (hk : undOf k = some d) : keyFits d x = true := by
  unfold keyOk keyDesc at h
  rw [hu] at h
  simp only [hk] at h
  exact h
theorem findKey_run {k : TypeId} {d : TypeDesc} {k' : Value} {ms : List MapEntry} {r : Option (Nat × Value)} (hk : undOf k = some d) (h : Instr.findNow d k' ms 0 = some r) : (Instr.findKey k k' ms).run PP w = .ok r w := by
  simp only [Instr.findKey, Sem.run_bind, run_und hk, Result.andThen_ok, h, Sem.run_pure]
theorem plainT_eq {t : TypeId} (h : plainT t = true) : ∃ d, undOf t = some d ∧ plainDesc d = true := by
  unfold plainT at h
  split at h <;> first | (cases h; done) | (rename_i hk; exact ⟨_, hk, rfl⟩)
theorem checkKey_plain {e : Bool} {k : TypeId} {d : TypeDesc} {v : Value} (n : Nat) (hk : undOf k = some d) (hd : plainDesc d = true) : (Instr.checkKey e (n + 1) k v).run PP w = .ok () w := by
  unfold Instr.checkKey
  simp only [Sem.run_bind, run_und hk, Result.andThen_ok]
  cases d <;> first | (cases hd; done) | (cases v <;> rfl)
theorem checkKey_struct {e : Bool} {kt : TypeId} {fs : Array Field} {cs : List AV} {cs' : Array Value} (hu : undOf kt = some (.struct fs)) (hp : keyParts cs fs.toList = true) (hc : VRels ρ cs cs'.toList) :
    (Instr.checkKey e 10000 kt (.agg cs')).run PP w = .ok () w := by
  have loop : ∀ (l : List Field), keyParts cs l = true → (forIn l PUnit.unit (fun f (_ : PUnit) => (if f.name ≠ "_" then do
        let x ← part f.type cs' f.offset
        Instr.checkKey e 9999 f.type x
        pure (ForInStep.yield PUnit.unit)
      else pure (ForInStep.yield PUnit.unit) : Sem (ForInStep PUnit)))).run PP w = .ok PUnit.unit w := by
    intro l
    induction l with
    | nil => intro _; rfl
    | cons f l ih =>
      intro h
      simp only [keyParts, bc_eq] at h
      split at h <;> try (cases h; done)
      rename_i hc1
      simp only [Bool.and_eq_true] at hc1
      obtain ⟨d, hd, hpd⟩ := plainT_eq hc1.1
      obtain ⟨x, hx⟩ := Option.isSome_iff_exists.1 hc1.2
      obtain ⟨x', rx, _⟩ := part_run (w := w) hx hc
      rw [List.forIn_cons]
      by_cases hn : f.name = "_"
      · simp only [hn, ne_eq, not_true_eq_false, if_false, Sem.run_bind, Sem.run_pure, Result.andThen_ok]
        exact ih h
      · simp only [ne_eq, hn, not_false_eq_true, if_true, Sem.run_bind, rx, Result.andThen_ok, checkKey_plain 9998 hd hpd, Sem.run_pure]
        exact ih h
  have hh := loop fs.toList hp
  unfold Instr.checkKey
  simp only [Sem.run_bind, run_und hu, Result.andThen_ok]
  rw [← Array.forIn_toList]
  exact (congrArg (fun r : Result PUnit => r.andThen fun _ w' => Sem.run PP (pure ()) w') hh).trans rfl
theorem findT_run (hw : WRel ρ a w) {kt : TypeId} {k : AV} {k' : Value} (hk : VRel ρ k k') : ∀ (es : List (AV × AV)) (ms : List MapEntry) (i : Nat) (r : Option AV), ERel ρ es ms → findT a kt k es = some r →
    (match r with | none => (Instr.findAsking kt k' ms i).run PP w = .ok none w | some v => ∃ j v', (Instr.findAsking kt k' ms i).run PP w = .ok (some (j, v')) w ∧ VRel ρ v v')
  | [], _, i, r, he, h => by simp only [ERel] at he; subst he; simp only [findT] at h; cases h; rfl
  | e :: es, _, i, r, he, h => by
    simp only [ERel] at he
    obtain ⟨m, ms, rfl, h1, h2, h3⟩ := he
    simp only [findT] at h
    split at h <;> try (cases h; done)
    · rename_i hq
      cases h
      have := eqIn_run hw 8 kt k e.1 true k' m.key hq hk h1 Op.maxDepth (by decide)
      refine ⟨i, m.val, ?_, h2⟩
      simp only [Instr.findAsking, Op.equal, Sem.run_bind, this, Result.andThen_ok, if_true, Sem.run_pure]
    · rename_i hq
      have hh := eqIn_run hw 8 kt k e.1 false k' m.key hq hk h1 Op.maxDepth (by decide)
      have := findT_run hw hk es ms (i + 1) r h3 h
      cases r with
      | none => simp only [Instr.findAsking, Op.equal, Sem.run_bind, hh, Result.andThen_ok, Bool.false_eq_true, if_false]; exact this
      | some v =>
        obtain ⟨j, v', x, y⟩ := this
        refine ⟨j, v', ?_, y⟩
        simp only [Instr.findAsking, Op.equal, Sem.run_bind, hh, Result.andThen_ok, Bool.false_eq_true, if_false]; exact x
theorem findKey_struct {kt : TypeId} {fs : Array Field} {k' : Value} {ms : List MapEntry} (hu : undOf kt = some (.struct fs)) : (Instr.findKey kt k' ms).run PP w = (Instr.findAsking kt k' ms 0).run PP w := by
  cases ms with
  | nil => simp only [Instr.findKey, Sem.run_bind, run_und hu, Result.andThen_ok, Instr.findNow, Instr.findAsking]
  | cons m ms =>
    have : Instr.findNow (.struct fs) k' (m :: ms) 0 = none := by
      simp only [Instr.findNow]
      have : Instr.sameNow (.struct fs) k' m.key = none := rfl
      rw [this]
    simp only [Instr.findKey, Sem.run_bind, run_und hu, Result.andThen_ok, this]
theorem keyS_eq {t kt : TypeId} {k : AV} (h : keyS t k = some kt) : ∃ e fs cs, undOf t = some (.map kt e) ∧ undOf kt = some (.struct fs) ∧ k = .agg cs ∧ keyParts cs fs.toList = true := by
  unfold keyS at h
  split at h <;> try (cases h; done)
  rename_i kt' e hu
  split at h <;> try (cases h; done)
  rename_i fs cs hk
  rw [bc_eq] at h
  split at h <;> cases h
  rename_i hp
  exact ⟨e, fs, cs, hu, hk, rfl, hp⟩
theorem lookupS_ok (hw : WRel ρ a w) {t : TypeId} {m k : AV} {m' k' : Value} {ok : Bool} (hm : VRel ρ m m') (hk : VRel ρ k k') : VOK ρ a w (Instr.lookup t m' k' ok) (evLookupS t m k ok a) := by
  unfold evLookupS
  split <;> try trivial
  rename_i kt hks
  obtain ⟨et, fs, cs, hu, hkd, rfl, hp⟩ := keyS_eq hks
  have hk0 := hk
  simp only [VRel] at hk
  obtain ⟨cs', rfl, hcs⟩ := hk
  have hck : ∀ e, (Instr.checkKey e 10000 kt (.agg cs')).run PP w = .ok () w := fun e => checkKey_struct hkd hp hcs
  split
  · rename_i z hz
    simp only [VRel] at hm
    subst hm
    unfold elemZero at hz
    rw [hu] at hz
    obtain ⟨i, z', hi, hz', rfl⟩ := zeroOf_eq hz
    refine lookR_ok hw (ofV_rel ρ z') ?_
    have hfk : (Instr.findKey kt (.agg cs') []).run PP w = .ok none w := by rw [findKey_struct hkd]; rfl
    simp only [Instr.lookup, Sem.run_bind, run_und hu, Result.andThen_ok, Sem.run_pure, hck, hfk, run_zero hi hz']
  · rename_i z b hz
    simp only [VRel] at hm
    obtain ⟨c, hc, rfl⟩ := hm
    unfold elemZero at hz
    rw [hu] at hz
    obtain ⟨i, z', hi, hz', rfl⟩ := zeroOf_eq hz
    split <;> try trivial
    rename_i es hg
    obtain ⟨entries, clock, e1, e2⟩ := hw.block hg (by simp) hc
    have hget := getObj_run (w := w) e1 (by simp)
    split <;> try trivial
    · rename_i v hv
      obtain ⟨j, v', h1, h2⟩ := findT_run hw hk0 es _ 0 _ e2 hv
      refine lookR_ok hw h2 ?_
      rw [← findKey_struct hkd] at h1
      simp only [Instr.lookup, Sem.run_bind, run_und hu, Result.andThen_ok, Sem.run_pure, hget, hck, h1]
    · rename_i hv
      have h1 := findT_run hw hk0 es _ 0 _ e2 hv
      refine lookR_ok hw (ofV_rel ρ z') ?_
      have h1 : (Instr.findAsking kt (.agg cs') entries.toList 0).run PP w = .ok none w := h1
      rw [← findKey_struct hkd] at h1
      simp only [Instr.lookup, Sem.run_bind, run_und hu, Result.andThen_ok, Sem.run_pure, hget, hck, h1, run_zero hi hz']
  · trivial
theorem ERel.snoc {k v : AV} {m : MapEntry} (hk : VRel ρ k m.key) (hv : VRel ρ v m.val) : ∀ (es : List (AV × AV)) (ms : List MapEntry), ERel ρ es ms → ERel ρ (es ++ [(k, v)]) (ms ++ [m])
  | [], _, h => by simp only [ERel] at h; subst h; simp only [List.nil_append, ERel]; exact ⟨m, [], rfl, hk, hv, rfl⟩
  | e :: es, _, h => by
    simp only [ERel] at h
    obtain ⟨x, xs, rfl, h1, h2, h3⟩ := h
    simp only [List.cons_append, ERel]
    exact ⟨x, _, rfl, h1, h2, ERel.snoc hk hv es xs h3⟩
theorem updateS_ok (hw : WRel ρ a w) {t : TypeId} {m k v : AV} {m' k' v' : Value} (hm : VRel ρ m m') (hk : VRel ρ k k') (hv : VRel ρ v v') : UOK ρ a w (Instr.mapUpdate t m' k' v') (evUpdateS t m k v a) := by
  unfold evUpdateS
  split <;> try trivial
  rename_i kt hks
  obtain ⟨et, fs, cs, hu, hkd, rfl, hp⟩ := keyS_eq hks
  have hk0 := hk
  simp only [VRel] at hk
  obtain ⟨cs', rfl, hcs⟩ := hk
  have hck : ∀ e, (Instr.checkKey e 10000 kt (.agg cs')).run PP w = .ok () w := fun e => checkKey_struct hkd hp hcs
  split <;> try trivial
  rename_i b
  simp only [VRel] at hm
  obtain ⟨c, hc, rfl⟩ := hm
  split <;> try trivial
  rename_i es hg
  obtain ⟨entries, clock, e1, e2⟩ := hw.block hg (by simp) hc
  have hget := getObj_run (w := w) e1 (by simp)
  split <;> try trivial
  rename_i hes
  intro _
  refine ⟨rfl, ρ, ?_⟩
  have h1 : (Instr.findAsking kt (.agg cs') entries.toList 0).run PP w = .ok none w := findT_run hw hk0 es _ 0 _ e2 hes
  rw [← findKey_struct hkd] at h1
  refine ⟨_, ?_, adv_setObj (obj := .map (entries.push { key := .agg cs', val := v', born := clock }) (clock + 1)) hw (by rw [hg]; simp) (by rw [hg]; rfl) hc e1 ⟨_, _, rfl, by rw [Array.toList_push]; exact ERel.snoc hk0 hv _ _ e2⟩ (by simp) (by simp) (by rw [hg]; rfl)⟩
  simp only [Instr.mapUpdate, Sem.run_bind, run_und hu, Result.andThen_ok, hget, hck, h1]
  exact setObj_run e1 (by simp)
theorem noneA_mem {k : AV} : ∀ {es : List (AV × AV)}, noneA k es = true → ∀ e ∈ es, keyEq k e.1 = some false
  | e :: es, h, x, hx => by
    simp only [noneA] at h
    split at h
    · rename_i hq
      rcases List.mem_cons.1 hx with e' | e'
      · subst e'; exact hq
      · exact noneA_mem h x e'
    · cases h
theorem noneA_of {k : AV} : ∀ {es : List (AV × AV)}, (∀ e ∈ es, keyEq k e.1 = some false) → noneA k es = true
  | [], _ => rfl
  | e :: es, h => by simp only [noneA, h e (by simp)]; exact noneA_of fun x hx => h x (List.mem_cons_of_mem _ hx)
theorem findA_pre {k : AV} {l2 : List (AV × AV)} : ∀ {l1 : List (AV × AV)}, (∀ x ∈ l1, keyEq k x.1 = some false) → findA k (l1 ++ l2) = findA k l2
  | [], _ => rfl
  | e :: l1, h => by
    simp only [List.cons_append, findA, h e (by simp)]
    exact findA_pre fun x hx => h x (List.mem_cons_of_mem _ hx)
theorem findU_spec {k : AV} : ∀ {es : List (AV × AV)} {r : Option AV}, findU k es = some r →
    (r = none ∧ ∀ e ∈ es, keyEq k e.1 = some false) ∨ ∃ pre e post, es = pre ++ e :: post ∧ (∀ x ∈ pre ++ post, keyEq k x.1 = some false) ∧ keyEq k e.1 = some true ∧ r = some e.2
  | [], r, h => by simp only [findU] at h; cases h; exact .inl ⟨rfl, fun _ h => by cases h⟩
  | e :: es, r, h => by
    simp only [findU] at h
    split at h
    · rename_i hq
      rw [bc_eq] at h
      split at h
      · rename_i hn
        cases h
        exact .inr ⟨[], e, es, rfl, fun x hx => noneA_mem hn x hx, hq, rfl⟩
      · cases h
    · rename_i hq
      rcases findU_spec h with ⟨h1, h2⟩ | ⟨pre, e', post, h1, h2, h3, h4⟩
      · refine .inl ⟨h1, fun x hx => ?_⟩
        rcases List.mem_cons.1 hx with e1 | e1
        · subst e1; exact hq
        · exact h2 x e1
      · refine .inr ⟨e :: pre, e', post, by rw [h1]; rfl, fun x hx => ?_, h3, h4⟩
        rcases List.mem_cons.1 hx with e1 | e1
        · subst e1; exact hq
        · exact h2 x e1
    · cases h
theorem findU_perm {k : AV} {es l : List (AV × AV)} {r : Option AV} (h : findU k es = some r) (hp : l.Perm es) : findA k l = some r := by
  rcases findU_spec h with ⟨rfl, h2⟩ | ⟨pre, e, post, rfl, h2, h3, rfl⟩
  · have := findA_pre (k := k) (l1 := l) (l2 := []) fun x hx => h2 x (hp.mem_iff.1 hx)
    rw [List.append_nil] at this
    rw [this]; rfl
  · have hm : e ∈ l := hp.mem_iff.2 (by simp)
    obtain ⟨l1, l2, rfl⟩ := List.append_of_mem hm
    have hp2 : (l1 ++ l2).Perm (pre ++ post) := List.Perm.cons_inv ((List.perm_middle.symm.trans hp).trans List.perm_middle)
    rw [findA_pre fun x hx => h2 x (hp2.mem_iff.1 (List.mem_append_left _ hx))]
    simp only [findA, h3]
theorem lookup_ok (hw : WRel ρ a w) {t : TypeId} {m k : AV} {m' k' : Value} {ok : Bool} (hm : VRel ρ m m') (hk : VRel ρ k k') : VOK ρ a w (Instr.lookup t m' k' ok) (evLookup t m k ok a) := by
  unfold evLookup
  rw [bc_eq]
  split
  case isFalse => exact lookupS_ok hw hm hk
  rename_i hp
  simp only [Bool.and_eq_true] at hp
  obtain ⟨kt, et, d, hu, hkd, hd⟩ := plainKey_eq hp.1
  have hf := keyOk_eq hp.2 hu hkd
  split
  · rename_i z hz
    simp only [VRel] at hm
    subst hm
    unfold elemZero at hz
    rw [hu] at hz
    obtain ⟨i, z', hi, hz', rfl⟩ := zeroOf_eq hz
    refine lookR_ok hw (ofV_rel ρ z') ?_
    have hfk : (Instr.findKey kt k' []).run PP w = .ok none w := findKey_run hkd rfl
    simp only [Instr.lookup, Sem.run_bind, run_und hu, Result.andThen_ok, Sem.run_pure, checkKey_run hkd hd, hfk, run_zero hi hz']
  · rename_i z b hz
    simp only [VRel] at hm
    obtain ⟨c, hc, rfl⟩ := hm
    unfold elemZero at hz
    rw [hu] at hz
    obtain ⟨i, z', hi, hz', rfl⟩ := zeroOf_eq hz
    split <;> try trivial
    · rename_i es hg
      obtain ⟨entries, clock, e1, e2⟩ := hw.block hg (by simp) hc
      have hget := getObj_run (w := w) e1 (by simp)
      split <;> try trivial
      · rename_i v hv
        obtain ⟨j, v', h1, h2⟩ := findA_run hk hd hf es _ 0 _ e2 hv
        refine lookR_ok hw h2 ?_
        simp only [Instr.lookup, Sem.run_bind, run_und hu, Result.andThen_ok, Sem.run_pure, hget, checkKey_run hkd hd, findKey_run hkd h1]
      · rename_i hv
        have h1 := findA_run hk hd hf es _ 0 _ e2 hv
        refine lookR_ok hw (ofV_rel ρ z') ?_
        simp only [Instr.lookup, Sem.run_bind, run_und hu, Result.andThen_ok, Sem.run_pure, hget, checkKey_run hkd hd, findKey_run hkd h1, run_zero hi hz']
    · rename_i es hg
      obtain ⟨entries, clock, l, e1, ep, e2⟩ := hw.block hg (by simp) hc
      have hget := getObj_run (w := w) e1 (by simp)
      split <;> try trivial
      · rename_i v hv
        obtain ⟨j, v', h1, h2⟩ := findA_run hk hd hf l _ 0 _ e2 (findU_perm hv ep)
        refine lookR_ok hw h2 ?_
        simp only [Instr.lookup, Sem.run_bind, run_und hu, Result.andThen_ok, Sem.run_pure, hget, checkKey_run hkd hd, findKey_run hkd h1]
      · rename_i hv
        have h1 := findA_run hk hd hf l _ 0 _ e2 (findU_perm hv ep)
        refine lookR_ok hw (ofV_rel ρ z') ?_
        simp only [Instr.lookup, Sem.run_bind, run_und hu, Result.andThen_ok, Sem.run_pure, hget, checkKey_run hkd hd, findKey_run hkd h1, run_zero hi hz']
  · trivial
theorem sameNow_bits {d : TypeDesc} {x y : Value} (h : Instr.sameNow d x y = some true) : Instr.sameBits 10000 y x = true := by
  unfold Instr.sameNow at h
  split at h <;> try (cases h; done)
  · split at h <;> try (cases h; done)
    rename_i e; subst e
    simp at h
    simp [Instr.sameBits, h]
  · simp only [Option.some.injEq] at h
    simp only [Instr.sameBits]
    rw [beq_toListBytes, beq_iff_eq] at h ⊢
    exact h.symm
  · simp at h; simp [Instr.sameBits, h]
theorem putA_run {k v : AV} {k' v' : Value} {d : TypeDesc} {clock : Nat} (hk : VRel ρ k k') (hv : VRel ρ v v') (hd : plainDesc d = true) (hf : keyFits d k = true) :
    ∀ (es : List (AV × AV)) (ms : List MapEntry) (i : Nat) (es' : List (AV × AV)), ERel ρ es ms → putA k v es = some es' →
    (∃ j x m, Instr.findNow d k' ms i = some (some (i + j, x)) ∧ ms[j]? = some m ∧ Instr.sameBits 10000 m.key k' = true ∧ ERel ρ es' (ms.modify j fun e => { e with key := k', val := v' })) ∨
    (Instr.findNow d k' ms i = some none ∧ ERel ρ es' (ms ++ [{ key := k', val := v', born := clock }]))
  | [], _, i, es', he, h => by
    simp only [ERel] at he; subst he
    simp only [putA] at h; cases h
    right
    refine ⟨rfl, ?_⟩
    simp only [List.nil_append, ERel]
    exact ⟨_, [], rfl, hk, hv, rfl⟩
  | e :: es, _, i, es', he, h => by
    simp only [ERel] at he
    obtain ⟨m, ms, rfl, h1, h2, h3⟩ := he
    simp only [putA] at h
    split at h <;> try (cases h; done)
    · rename_i hq
      cases h
      left
      have hn := keyEq_now hq hk h1 hd hf
      refine ⟨0, m.val, m, by simp only [Instr.findNow, hn, Nat.add_zero], rfl, sameNow_bits hn, ?_⟩
      simp only [List.modify_zero_cons, ERel]
      exact ⟨_, ms, rfl, hk, hv, h3⟩
    · rename_i hq
      simp only [Option.map_eq_some_iff] at h
      obtain ⟨es1, hes, rfl⟩ := h
      have hn := keyEq_now hq hk h1 hd hf
      rcases putA_run hk hv hd hf es ms (i + 1) es1 h3 hes with ⟨j, x, m', q1, q2, q3, q4⟩ | ⟨q1, q2⟩
      · left
        refine ⟨j + 1, x, m', ?_, by simpa using q2, q3, ?_⟩
        · simp only [Instr.findNow, hn, q1]
          rw [show i + 1 + j = i + (j + 1) by omega]
        · simp only [List.modify_succ_cons, ERel]
          exact ⟨m, _, rfl, h1, h2, q4⟩
      · right
        refine ⟨by simp only [Instr.findNow, hn, q1], ?_⟩
        simp only [List.cons_append, ERel]
        exact ⟨m, _, rfl, h1, h2, q2⟩
theorem update_ok (hw : WRel ρ a w) {t : TypeId} {m k v : AV} {m' k' v' : Value} (hm : VRel ρ m m') (hk : VRel ρ k k') (hv : VRel ρ v v') : UOK ρ a w (Instr.mapUpdate t m' k' v') (evUpdate t m k v a) := by
  unfold evUpdate
  rw [bc_eq]
  split
  case isFalse => exact updateS_ok hw hm hk hv
  rename_i hp
  simp only [Bool.and_eq_true] at hp
  obtain ⟨kt, et, d, hu, hkd, hd⟩ := plainKey_eq hp.1
  have hf := keyOk_eq hp.2 hu hkd
  split <;> try trivial
  rename_i b
  simp only [VRel] at hm
  obtain ⟨c, hc, rfl⟩ := hm
  split <;> try trivial
  · rename_i es hg
    obtain ⟨entries, clock, e1, e2⟩ := hw.block hg (by simp) hc
    have hget := getObj_run (w := w) e1 (by simp)
    split <;> try trivial
    rename_i es' hes
    intro _
    refine ⟨rfl, ρ, ?_⟩
    rcases putA_run (clock := clock) hk hv hd hf es entries.toList 0 es' e2 hes with ⟨j, x, e0, q1, q2, q3, q4⟩ | ⟨q1, q2⟩
    · have hj : entries[j]? = some e0 := by simpa using q2
      refine ⟨_, ?_, adv_setObj (obj := .map (entries.modify j fun e => { e with key := k', val := v' }) clock) hw (by rw [hg]; simp) (by rw [hg]; rfl) hc e1 ⟨_, _, rfl, by rw [Array.toList_modify]; exact q4⟩ (by simp) (by simp) (by rw [hg]; rfl)⟩
      rw [Nat.zero_add] at q1
      simp only [Instr.mapUpdate, Sem.run_bind, run_und hu, Result.andThen_ok, hget, checkKey_run hkd hd, findKey_run hkd q1, hj, Option.map_some, Option.getD_some, Instr.keyThatStays, q3, if_true, Sem.run_pure]
      exact setObj_run e1 (by simp)
    · refine ⟨_, ?_, adv_setObj (obj := .map (entries.push { key := k', val := v', born := clock }) (clock + 1)) hw (by rw [hg]; simp) (by rw [hg]; rfl) hc e1 ⟨_, _, rfl, by simpa using q2⟩ (by simp) (by simp) (by rw [hg]; rfl)⟩
      simp only [Instr.mapUpdate, Sem.run_bind, run_und hu, Result.andThen_ok, hget, checkKey_run hkd hd, findKey_run hkd q1]
      exact setObj_run e1 (by simp)
  · rename_i es hg
    obtain ⟨entries, clock, l, e1, ep, e2⟩ := hw.block hg (by simp) hc
    have hget := getObj_run (w := w) e1 (by simp)
    rw [bc_eq]
    split <;> try trivial
    rename_i hn
    intro _
    refine ⟨rfl, ρ, ?_⟩
    have h0 : findA k l = some none := by
      have := findA_pre (k := k) (l1 := l) (l2 := []) fun x hx => noneA_mem hn x (ep.mem_iff.1 hx)
      rw [List.append_nil] at this
      rw [this]; rfl
    have h1 := findA_run hk hd hf l _ 0 _ e2 h0
    refine ⟨_, ?_, adv_setObj (obj := .map (entries.push { key := k', val := v', born := clock }) (clock + 1)) hw (by rw [hg]; simp) (by rw [hg]; rfl) hc e1 ⟨_, _, l ++ [(k, v)], rfl, ep.append_right _, by rw [Array.toList_push]; exact ERel.snoc hk hv _ _ e2⟩ (by simp) (by simp) (by rw [hg]; rfl)⟩
    simp only [Instr.mapUpdate, Sem.run_bind, run_und hu, Result.andThen_ok, hget, checkKey_run hkd hd, findKey_run hkd h1]
    exact setObj_run e1 (by simp)
/- ranges over strings -/
theorem range_ok (hw : WRel ρ a w) {t : TypeId} {x : AV} {x' : Value} (hx : VRel ρ x x') : VOK ρ a w (Instr.range t x') (evRange t x a) := by
  unfold evRange
  split <;> try trivial
  rename_i len n hu
  simp only [VRel] at hx
  obtain ⟨hn, rfl⟩ := hx
  refine wnew_ok hw (obj := .stringIter (unpack len n) 0) (f' := fun c => .pointer (some ⟨c, 0, none⟩)) ⟨rfl, hn⟩ ?_ ?_
  · intro ρ' k c hk; simp only [ptr0, VRel]; exact ⟨c, hk, rfl⟩
  · simp only [Instr.range, Sem.run_bind, run_und hu, Result.andThen_ok, Sem.run_pure, run_newObj]; rfl
theorem get!_unpack (len n i : Nat) (h : i < len) : ((unpack len n).get! i).toNat = sAt len n i := by
  have h1 : (bytesOf len n)[i]? = some (UInt8.ofNat (sAt len n i)) := by
    rw [List.getElem?_eq_getElem (by rw [bytesOf_length]; exact h), bytesOf_get']
  have h2 : (unpack len n).get! i = UInt8.ofNat (sAt len n i) := by
    show (unpack len n).data[i]! = _
    rw [getElem!_def]
    have : (unpack len n).data[i]? = some (UInt8.ofNat (sAt len n i)) := by simpa [unpack] using h1
    rw [this]
  rw [h2, u8_toNat_sAt]
theorem contA_eq (len n i k : Nat) : (decide (i + k < (unpack len n).size) && ((unpack len n).get! (i + k)).toNat / 64 == 2) = contA len n i k := by
  unfold contA
  rw [unpack_size, bc_eq]
  by_cases hk : i + k < len
  · rw [get!_unpack len n (i + k) hk]
    have : Nat.blt (i + k) len = true := by simpa using hk
    rw [this]
    simp [hk]
    rw [Bool.eq_iff_iff]; simp
  · have : Nat.blt (i + k) len = false := by rw [Bool.eq_false_iff]; intro e; exact hk (by simpa using e)
    rw [this]; simp [hk]
theorem contA_lt {len n i k : Nat} (h : contA len n i k = true) : i + k < len := by
  unfold contA at h
  rw [bc_eq] at h
  split at h
  · rename_i h1; simpa using h1
  · cases h
theorem nbeq (a b : Nat) : Nat.beq a b = (a == b) := by rw [Bool.eq_iff_iff]; simp
theorem nble (a b : Nat) : Nat.ble a b = decide (a ≤ b) := by rw [Bool.eq_iff_iff]; simp
theorem nblt (a b : Nat) : Nat.blt a b = decide (a < b) := by rw [Bool.eq_iff_iff]; simp
theorem decA_eq (len n i : Nat) (h : i < len) : decA len n i = Utf8.decode (unpack len n) i := by
  have e0 : ((unpack len n).get! (i + 0)).toNat = sAt len n (i + 0) := get!_unpack len n (i + 0) h
  unfold decA Utf8.decode
  simp only [contA_eq, e0, bc_eq, nbeq, nble, nblt, decide_eq_true_eq]
  generalize sAt len n (i + 0) = b0
  by_cases c0 : b0 < 128
  · rw [if_pos c0, if_pos c0]
  · rw [if_neg c0, if_neg c0]
    by_cases c1 : (b0 / 32 == 6 && contA len n i 1) = true
    · rw [if_pos c1, if_pos c1]
      simp only [Bool.and_eq_true] at c1
      rw [get!_unpack len n (i + 1) (contA_lt c1.2)]
      simp only [ge_iff_le]; rfl
    · rw [if_neg c1, if_neg c1]
      by_cases c2 : (b0 / 16 == 14 && contA len n i 1 && contA len n i 2) = true
      · rw [if_pos c2, if_pos c2]
        simp only [Bool.and_eq_true] at c2
        rw [get!_unpack len n (i + 1) (contA_lt c2.1.2), get!_unpack len n (i + 2) (contA_lt c2.2)]
        simp only [ge_iff_le]; rfl
      · rw [if_neg c2, if_neg c2]
        by_cases c3 : (b0 / 8 == 30 && contA len n i 1 && contA len n i 2 && contA len n i 3) = true
        · rw [if_pos c3, if_pos c3]
          simp only [Bool.and_eq_true] at c3
          rw [get!_unpack len n (i + 1) (contA_lt c3.1.1.2), get!_unpack len n (i + 2) (contA_lt c3.1.2), get!_unpack len n (i + 3) (contA_lt c3.2)]
          simp only [ge_iff_le]; rfl
        · rw [if_neg c3, if_neg c3]; rfl
theorem next_ok (hw : WRel ρ a w) {it : AV} {it' : Value} {s : Bool} {t : TypeId} (hi : VRel ρ it it') : VOK ρ a w (Instr.next it' s t) (evNext it s a) := by
  unfold evNext
  split <;> try trivial
  rename_i b
  simp only [VRel] at hi
  obtain ⟨c, hc, rfl⟩ := hi
  split <;> try trivial
  rename_i len n pos hg
  obtain ⟨e1, e2⟩ := hw.block hg (by simp) hc
  have hget := getObj_run (w := w) e1 (by simp)
  rw [bc_eq]
  split
  · rename_i hlt
    have hlt : pos < len := by simpa using hlt
    have hd := decA_eq len n pos hlt
    cases hdec : decA len n pos with
    | mk ch wd =>
      rw [hdec] at hd
      intro _
      refine ⟨ρ, _, .tuple #[.bool true, .int .i64 pos, .int .i32 ch], ?_, ?_, adv_setObj (obj := .stringIter (unpack len n) (pos + wd)) hw (by rw [hg]; simp) (by rw [hg]; rfl) hc e1 ⟨rfl, e2⟩ (by simp) (by simp) (by rw [hg]; rfl)⟩
      · simp only [Instr.next, Sem.run_bind, hget, Result.andThen_ok, unpack_size, hlt, if_true, ← hd]
        rw [setObj_run e1 (by simp)]
        rfl
      · simp only [VRel]
        refine ⟨_, rfl, ?_⟩
        simp only [VRels]
        exact ⟨_, _, rfl, by simp only [VRel], _, _, rfl, by simp only [VRel]; rfl, _, _, rfl, by simp only [VRel]; rfl, rfl⟩
  · rename_i hlt
    have hlt : ¬ pos < len := by simpa using hlt
    refine VOK.here hw (v' := .tuple #[.bool false]) ?_ (by simp only [VRel]; exact ⟨_, rfl, by simp only [VRels]; exact ⟨_, _, rfl, by simp only [VRel], rfl⟩⟩)
    simp only [Instr.next, Sem.run_bind, hget, Result.andThen_ok, unpack_size, hlt, if_false, Sem.run_pure]
end
end Go.Ev
