import Derived.Test.YtldcnedpfagliaaGreatDoorEvX
set_option linter.all false
namespace Go.Ev
/- Slices of slices, maps, ranges, interfaces, conversions. -/
section
variable {ρ : Env} {a : W} {w : World}
def OVRel (ρ : Env) : Option AV → Option Value → Prop
  | none, o => o = none
  | some v, o => ∃ v', o = some v' ∧ VRel ρ v v'
theorem bound_run {x : AV} {x' : Value} {d y y' n : Nat} (h : bound (some x) d y = some n) (hx : VRel ρ x x') (hy : y ≤ y') (code : BoundsCode) : (Instr.sliceBound x' y' code).run PP w = .ok n w ∧ n ≤ y := by
  simp only [bound] at h
  split at h <;> try (cases h; done)
  rename_i m hm
  rw [bc_eq] at h
  split at h <;> try (cases h; done)
  rename_i hb
  have hb := Nat.le_of_ble_eq_true hb
  cases h
  obtain ⟨k, rfl⟩ := natOf_rel hm hx
  have h1 : (0 : Int) ≤ Int.ofNat n ∧ Int.ofNat n ≤ (y' : Int) := ⟨by simp, by simp; omega⟩
  refine ⟨?_, hb⟩
  simp only [Instr.sliceBound, Sem.run_bind, asIntOf, Sem.run_pure, Result.andThen_ok, h1, and_self, if_true]
  rfl
theorem bound_none {d y n : Nat} (h : bound none d y = some n) : n = d := by simp only [bound] at h; cases h; rfl
/-- the bounds of a slice expression without its third -/
theorem bounds_run {isS : Bool} {len cap cap' h l : Nat} {lo hi : Option AV} {lo' hi' : Option Value} (hlo : OVRel ρ lo lo') (hhi : OVRel ρ hi hi') (hc : cap ≤ cap') (hl : len ≤ cap)
    (e1 : bound hi len cap = some h) (e2 : bound lo 0 h = some l) : (Instr.sliceBounds isS len cap' lo' hi' none).run PP w = .ok (l, h, cap') w ∧ l ≤ h ∧ h ≤ cap := by
  cases hi with
  | none =>
    simp only [OVRel] at hhi; subst hhi; have := bound_none e1; subst this
    cases lo with
    | none => simp only [OVRel] at hlo; subst hlo; have := bound_none e2; subst this; exact ⟨rfl, Nat.zero_le _, hl⟩
    | some v =>
      simp only [OVRel] at hlo; obtain ⟨v', rfl, hv⟩ := hlo
      have p := fun c => bound_run (w := w) e2 hv (Nat.le_refl _) c
      exact ⟨by simp only [Instr.sliceBounds, Sem.run_bind, Sem.run_pure, Result.andThen_ok, (p _).1], (p .index).2, hl⟩
  | some u =>
    simp only [OVRel] at hhi; obtain ⟨u', rfl, hu⟩ := hhi
    have q := fun c => bound_run (w := w) e1 hu hc c
    cases lo with
    | none => simp only [OVRel] at hlo; subst hlo; have := bound_none e2; subst this; exact ⟨by simp only [Instr.sliceBounds, Sem.run_bind, Sem.run_pure, Result.andThen_ok, (q _).1], Nat.zero_le _, (q .index).2⟩
    | some v =>
      simp only [OVRel] at hlo; obtain ⟨v', rfl, hv⟩ := hlo
      have p := fun c => bound_run (w := w) e2 hv (Nat.le_refl _) c
      exact ⟨by simp only [Instr.sliceBounds, Sem.run_bind, Sem.run_pure, Result.andThen_ok, (q _).1, (p _).1], (p .index).2, (q .index).2⟩
theorem bounds3_run {isS : Bool} {len cap cap' h l m : Nat} {lo : Option AV} {lo' : Option Value} {hi mx : AV} {hi' mx' : Value} (hlo : OVRel ρ lo lo') (hhi : VRel ρ hi hi') (hmx : VRel ρ mx mx') (hc : cap ≤ cap')
    (e0 : bound (some mx) 0 cap = some m) (e1 : bound (some hi) len m = some h) (e2 : bound lo 0 h = some l) : (Instr.sliceBounds isS len cap' lo' (some hi') (some mx')).run PP w = .ok (l, h, m) w ∧ l ≤ h ∧ h ≤ m ∧ m ≤ cap := by
  have p0 := fun c => bound_run (w := w) e0 hmx hc c
  have p1 := fun c => bound_run (w := w) e1 hhi (Nat.le_refl _) c
  cases lo with
  | none => simp only [OVRel] at hlo; subst hlo; have := bound_none e2; subst this; exact ⟨by simp only [Instr.sliceBounds, Sem.run_bind, Sem.run_pure, Result.andThen_ok, (p0 _).1, (p1 _).1], Nat.zero_le _, (p1 .index).2, (p0 .index).2⟩
  | some v =>
    simp only [OVRel] at hlo; obtain ⟨v', rfl, hv⟩ := hlo
    have p := fun c => bound_run (w := w) e2 hv (Nat.le_refl _) c
    exact ⟨by simp only [Instr.sliceBounds, Sem.run_bind, Sem.run_pure, Result.andThen_ok, (p0 _).1, (p1 _).1, (p _).1], (p .index).2, (p1 .index).2, (p0 .index).2⟩
theorem unpack_extract (len n lo hi : Nat) (h1 : lo ≤ hi) (h2 : hi ≤ len) : (unpack len n).extract lo hi = unpack (hi - lo) (Nat.shiftRight n (8 * (len - hi)) % 256 ^ (hi - lo)) := by
  apply ByteArray.ext
  unfold unpack
  rw [bytesOf_cut _ _ _ _ h1 h2]
  simp
theorem slice_ok (hw : WRel ρ a w) {t : TypeId} {x : AV} {x' : Value} {lo hi mx : Option AV} {lo' hi' mx' : Option Value} (hx : VRel ρ x x') (hlo : OVRel ρ lo lo') (hhi : OVRel ρ hi hi') (hmx : OVRel ρ mx mx') :
    VOK ρ a w (Instr.sliceAt t x' lo' hi' mx') (evSlice t x lo hi mx a) := by
  unfold evSlice
  split
  · rename_i len n hu
    simp only [VRel] at hx
    obtain ⟨hn, rfl⟩ := hx
    split <;> try trivial
    rename_i h hb
    simp only [OVRel] at hmx
    subst hmx
    split <;> try trivial
    rename_i l hl
    obtain ⟨r, b1, b2⟩ := bounds_run (isS := false) (w := w) hlo hhi (Nat.le_refl _) (Nat.le_refl _) hb hl
    refine VOK.here hw (v' := .string ((unpack len n).extract l h)) ?_ ?_
    · simp only [Instr.sliceAt, Sem.run_bind, run_und hu, Result.andThen_ok, Instr.slice, Option.isSome_none, Bool.false_eq_true, if_false, unpack_size]
      simp only [r, Result.andThen_ok, Sem.run_pure]
    · unfold sCut
      simp only [VRel]
      exact ⟨Nat.mod_lt _ (Nat.pow_pos (by decide)), by rw [unpack_extract _ _ _ _ b1 b2]; rfl⟩
  · rename_i e hu
    simp only [VRel] at hx
    subst hx
    split <;> try trivial
    rename_i s h l hs hb hl
    simp only [OVRel] at hmx
    subst hmx
    have hh : h = 0 := by
      cases hi with
      | none => exact bound_none hb
      | some v => simp only [OVRel] at hhi; obtain ⟨v', rfl, hv⟩ := hhi; have := (bound_run (w := w) hb hv (Nat.le_refl _) .index).2; omega
    subst hh
    obtain ⟨r, b1, b2⟩ := bounds_run (isS := true) (w := w) hlo hhi (Nat.le_refl _) (Nat.le_refl _) hb hl
    obtain rfl : l = 0 := by omega
    refine VOK.here hw (v' := .slice none 0 0) ?_ (by simp only [VRel])
    simp only [Instr.sliceAt, Sem.run_bind, run_und hu, Result.andThen_ok, Instr.slice, r, run_size hs, if_true, Sem.run_pure, Nat.sub_self]
  · rename_i e b o len cap ex hu
    simp only [VRel] at hx
    obtain ⟨c, cap', hc, ⟨hlen, hcap⟩, hex, rfl⟩ := hx
    split
    · rename_i s hs
      simp only [OVRel] at hmx
      subst hmx
      split <;> try trivial
      rename_i h hb
      split <;> try trivial
      rename_i l hl
      obtain ⟨r, b1, b2⟩ := bounds_run (isS := true) (w := w) hlo hhi hcap hlen hb hl
      split
      · simp only [SlOk] at hex
        rw [bc_eq]
        split
        · rename_i hlt
          have hlt : l < cap := by simpa using hlt
          refine VOK.here hw (v' := .slice (some ⟨c, o + l * s, none⟩) (h - l) (cap' - l)) ?_ (by simp only [VRel, SlOk]; exact ⟨c, cap' - l, hc, by omega, by omega, rfl⟩)
          have : ¬ cap' = l := by omega
          simp only [Instr.sliceAt, Sem.run_bind, run_und hu, Result.andThen_ok, Instr.slice, r, run_size hs, this, if_false, Option.map_some, addr_add, Sem.run_pure]
        · rename_i hlt
          have hlt : ¬ l < cap := by simpa using hlt
          refine VOK.here hw (v' := .slice (some ⟨c, o, none⟩) (h - l) 0) ?_ (by simp only [VRel, SlOk]; exact ⟨c, 0, hc, by omega, rfl, rfl⟩)
          have : cap' = l := by omega
          simp only [Instr.sliceAt, Sem.run_bind, run_und hu, Result.andThen_ok, Instr.slice, r, run_size hs, Sem.run_pure]
          rw [if_pos this, this, Nat.sub_self]
      · rename_i es
        simp only [SlOk] at hex
        simp only [bc_eq]
        split <;> try trivial
        rename_i hes
        obtain rfl := Nat.eq_of_beq_eq_true hes
        split
        · rename_i hlt
          have hlt : l < cap := by simpa using hlt
          have hroom : o + l * es + (cap' - l) * es = o + cap' * es := by
            rw [Nat.add_assoc, ← Nat.add_mul]; congr 2; omega
          refine VOK.here hw (v' := .slice (some ⟨c, o + l * es, none⟩) (h - l) (cap' - l)) ?_ (by simp only [VRel, SlOk]; exact ⟨c, cap' - l, hc, by omega, by omega, rfl⟩)
          have : ¬ cap' = l := by omega
          simp only [Instr.sliceAt, Sem.run_bind, run_und hu, Result.andThen_ok, Instr.slice, r, run_size hs, this, if_false, Option.map_some, addr_add, Sem.run_pure]
        · split
          · rename_i h0
            have h0 := Nat.eq_of_beq_eq_true h0
            refine VOK.here hw (v' := .slice (some ⟨c, o, none⟩) (h - l) (cap' - l)) ?_ (by simp only [VRel, SlOk]; exact ⟨c, cap' - l, hc, by omega, by rw [h0]; exact hex, rfl⟩)
            have hadd : (⟨c, o, none⟩ : Addr).add (l * es) = ⟨c, o, none⟩ := by rw [h0, addr_add]; simp
            simp only [Instr.sliceAt, Sem.run_bind, run_und hu, Result.andThen_ok, Instr.slice, r, run_size hs, Option.map_some, hadd, ite_self, Sem.run_pure]
          · rename_i hlt _
            have hlt : ¬ l < cap := by simpa using hlt
            have hz : h - l = 0 := by omega
            by_cases hcl : cap' = l
            · refine VOK.here hw (v' := .slice (some ⟨c, o, none⟩) 0 (cap' - l)) ?_ (by simp only [VRel]; exact ⟨_, _, rfl⟩)
              simp only [Instr.sliceAt, Sem.run_bind, run_und hu, Result.andThen_ok, Instr.slice, r, run_size hs, Sem.run_pure, hz]
              rw [if_pos hcl]
            · refine VOK.here hw (v' := .slice (some ⟨c, o + l * es, none⟩) 0 (cap' - l)) ?_ (by simp only [VRel]; exact ⟨_, _, rfl⟩)
              simp only [Instr.sliceAt, Sem.run_bind, run_und hu, Result.andThen_ok, Instr.slice, r, run_size hs, hcl, if_false, Option.map_some, addr_add, Sem.run_pure, hz]
    · rename_i s m hs
      simp only [OVRel] at hmx
      obtain ⟨m', rfl, hm⟩ := hmx
      split <;> try trivial
      rename_i m hi e0
      simp only [OVRel] at hhi
      obtain ⟨hi', rfl, hhi⟩ := hhi
      split <;> try trivial
      rename_i h hb
      split <;> try trivial
      rename_i l hl
      obtain ⟨r, b1, b2, b3⟩ := bounds3_run (isS := true) (w := w) hlo hhi hm hcap e0 hb hl
      rw [bc_eq]
      split
      · rename_i hlt
        have hlt : l < m := by simpa using hlt
        refine VOK.here hw (v' := .slice (some ⟨c, o + l * s, none⟩) (h - l) (m - l)) ?_ (by simp only [VRel]; exact ⟨c, m - l, hc, by omega, rfl, rfl⟩)
        have : ¬ m = l := by omega
        simp only [Instr.sliceAt, Sem.run_bind, run_und hu, Result.andThen_ok, Instr.slice, r, run_size hs, this, if_false, Option.map_some, addr_add, Sem.run_pure]
      · rename_i hlt
        have hlt : ¬ l < m := by simpa using hlt
        refine VOK.here hw (v' := .slice (some ⟨c, o, none⟩) (h - l) 0) ?_ (by simp only [VRel]; exact ⟨c, 0, hc, by omega, rfl, rfl⟩)
        have : m = l := by omega
        simp only [Instr.sliceAt, Sem.run_bind, run_und hu, Result.andThen_ok, Instr.slice, r, run_size hs, Sem.run_pure]
        rw [if_pos this, this, Nat.sub_self]
    · trivial
  · rename_i e b kb d n hu
    simp only [VRel] at hx
    obtain ⟨c, c', cap', hc, hk, ⟨hn1, hn2, hn3, hn4⟩, rfl⟩ := hx
    split <;> try trivial
    rename_i s hs
    simp only [OVRel] at hmx hhi
    subst hmx hhi
    rw [bc_eq]
    split <;> try trivial
    rename_i hs1
    obtain rfl := Nat.eq_of_beq_eq_true hs1
    split <;> try trivial
    rename_i l hl
    obtain ⟨r, b1, b2⟩ := bounds_run (isS := true) (w := w) (hi := none) (hi' := none) (len := n) (cap := n) (h := n) hlo (by simp only [OVRel]) hn2 (Nat.le_refl _) rfl hl
    rw [bc_eq]
    split
    · rename_i hlt
      have hlt : l < n := by simpa using hlt
      refine VOK.here hw (v' := .slice (some ⟨c, ρ.sz kb + d + l * 1, none⟩) (n - l) (cap' - l)) ?_ (by simp only [VRel]; exact ⟨c, c', cap' - l, hc, hk, by omega, by simp [Nat.add_assoc]⟩)
      have : ¬ cap' = l := by omega
      simp only [Instr.sliceAt, Sem.run_bind, run_und hu, Result.andThen_ok, Instr.slice, r, run_size hs, this, if_false, Option.map_some, addr_add, Sem.run_pure]
    · rename_i hlt
      have hlt : ¬ l < n := by simpa using hlt
      have hz : n - l = 0 := by omega
      by_cases hcl : cap' = l
      · refine VOK.here hw (v' := .slice (some ⟨c, ρ.sz kb + d, none⟩) 0 (cap' - l)) ?_ (by simp only [VRel]; exact ⟨c, _, _, hc, by omega, rfl⟩)
        simp only [Instr.sliceAt, Sem.run_bind, run_und hu, Result.andThen_ok, Instr.slice, r, run_size hs, Sem.run_pure, hz]
        rw [if_pos hcl]
      · refine VOK.here hw (v' := .slice (some ⟨c, ρ.sz kb + d + l * 1, none⟩) 0 (cap' - l)) ?_ (by simp only [VRel]; exact ⟨c, _, _, hc, by omega, rfl⟩)
        simp only [Instr.sliceAt, Sem.run_bind, run_und hu, Result.andThen_ok, Instr.slice, r, run_size hs, hcl, if_false, Option.map_some, addr_add, Sem.run_pure, hz]
  · rename_i n e b o hu
    simp only [VRel] at hx
    obtain ⟨c, hc, rfl⟩ := hx
    split <;> try trivial
    rename_i s hs
    simp only [OVRel] at hmx
    subst hmx
    split <;> try trivial
    rename_i h hb
    split <;> try trivial
    rename_i l hl
    obtain ⟨r, b1, b2⟩ := bounds_run (isS := false) (w := w) hlo hhi (Nat.le_refl _) (Nat.le_refl _) hb hl
    rw [bc_eq]
    split
    · rename_i hlt
      have hlt : l < n := by simpa using hlt
      refine VOK.here hw (v' := .slice (some ⟨c, o + l * s, none⟩) (h - l) (n - l)) ?_ (by simp only [VRel]; exact ⟨c, n - l, hc, by omega, rfl, rfl⟩)
      have : ¬ n = l := by omega
      simp only [Instr.sliceAt, Sem.run_bind, run_und hu, Result.andThen_ok, Instr.sureAddr, Sem.run_pure, r, run_size hs, this, if_false, addr_add]
    · rename_i hlt
      have hlt : ¬ l < n := by simpa using hlt
      have hnl : n = l := by omega
      refine VOK.here hw (v' := .slice (some ⟨c, o, none⟩) (h - l) 0) ?_ (by simp only [VRel]; exact ⟨c, 0, hc, by omega, rfl, rfl⟩)
      simp only [Instr.sliceAt, Sem.run_bind, run_und hu, Result.andThen_ok, Instr.sureAddr, Sem.run_pure, r, run_size hs]
      rw [if_pos hnl, hnl, Nat.sub_self]
  · trivial
end
end Go.Ev
