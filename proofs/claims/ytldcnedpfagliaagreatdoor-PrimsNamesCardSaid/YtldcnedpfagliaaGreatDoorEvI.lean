import Derived.Test.YtldcnedpfagliaaGreatDoorEvH
set_option linter.all false
namespace Go.Ev
/- The other operations. -/
section
variable {ρ : Env} {a : W} {w : World}
theorem makeSlice_ok (hw : WRel ρ a w) {t : TypeId} {l c : AV} {l' c' : Value} (hl : VRel ρ l l') (hc : VRel ρ c c') : VOK ρ a w (Instr.makeSlice t l' c') (evMakeSlice t l c a) := by
  unfold evMakeSlice
  split <;> try trivial
  rename_i e hu
  split <;> try trivial
  rename_i ln cn z bytes size h1 h2 hz hbs
  obtain ⟨k1, rfl⟩ := natOf_rel h1 hl
  obtain ⟨k2, rfl⟩ := natOf_rel h2 hc
  obtain ⟨i, z', hi, hz', rfl⟩ := zeroOf_eq hz
  have hb : i.bytes = bytes ∧ i.size = size := by
    cases hio : infoOf e with
    | none => rw [hio] at hbs; cases hbs
    | some j =>
      rw [hio] at hbs
      have := infoOf_eq hio
      rw [hi] at this; cases this
      simp at hbs; exact hbs
  obtain ⟨rfl, rfl⟩ := hb
  rw [bc_eq]
  split <;> try trivial
  rename_i hcond
  simp only [Bool.and_eq_true, llen_eq] at hcond
  obtain ⟨⟨⟨⟨⟨p1, p2⟩, p3⟩, p4⟩, p5⟩, p6⟩ := hcond
  have p1 := Nat.le_of_ble_eq_true p1
  have p2 := Nat.le_of_ble_eq_true p2
  have p3 := Nat.le_of_ble_eq_true p3
  have p5 := Nat.eq_of_beq_eq_true p5
  have p6 := Nat.le_of_ble_eq_true p6
  have hcz := cellsOf_rel (ofV_rel ρ z') (notTop_ne p4)
  have hlen := VRels.length _ _ hcz
  simp only [Array.length_toList] at hlen
  have hrel := zeros_rel hcz cn (cn * i.size) (by rw [p5])
  have wr : ∀ m : Nat, m ≤ 60000 → IntKind.i64.wrap (Int.ofNat m) = Int.ofNat m := fun m hm => wrap_small .i64 m (by simp only [topK]; omega)
  refine wnew_ok hw (obj := .cells ((Array.range (cn * i.size)).map (z'.cells[· % z'.cells.size]!)) e) (f' := fun c => .slice (some ⟨c, 0, none⟩) ln cn) ?_ ?_ ?_
  · have := mkCells_rel (t := e) (tail := []) (ext := false) hrel (by rw [repeatL_length, p5]; exact p6) (fun _ => rfl)
    rw [List.append_nil, Array.toArray_toList] at this
    exact this
  · intro ρ' k c hk; simp only [VRel, SlOk]; exact ⟨c, cn, hk, ⟨p1, Nat.le_refl _⟩, rfl, rfl⟩
  · have big : ∀ m : Nat, m ≤ 60000 → ((Int.ofNat m < 0) || decide ((i.bytes : Int) * Int.ofNat m > 2 ^ 48)) = false := by
      intro m hm
      have q : i.bytes * m ≤ 1000000 * 60000 := Nat.mul_le_mul p3 hm
      have q' : (i.bytes : Int) * Int.ofNat m = ((i.bytes * m : Nat) : Int) := by rw [Int.natCast_mul]; rfl
      rw [q', Bool.or_eq_false_iff]
      exact ⟨by simp, by rw [decide_eq_false_iff_not]; omega⟩
    have hlc : ¬ Int.ofNat ln > Int.ofNat cn := by simp; omega
    have hl0 : ¬ Int.ofNat ln < 0 := by simp
    simp only [Instr.makeSlice, Sem.run_bind, run_und hu, Result.andThen_ok, asInt, asIntOf, Sem.run_pure, run_info hi, wr ln (by omega), wr cn p2, big cn p2, hl0, hlc, decide_false, Bool.or_self, Bool.false_eq_true, if_false, run_askRoom]
    have hsz : ∀ W, (Go.sizeOf e).run PP W = .ok i.size W := fun W => by simp [Go.sizeOf, run_info hi]
    simp only [hsz, Result.andThen_ok]
    by_cases h0 : cn * i.size = 0
    · have hr : ∀ z : Array Value, ((Array.range (cn * i.size)).map (z[· % z.size]!)) = #[] := by intro z; rw [h0]; simp
      rw [hr]
      show Sem.run PP (if cn * i.size = 0 then _ else _) w = _
      rw [if_pos h0]
      simp only [Sem.run_bind, Sem.run_pure, Result.andThen_ok, Go.newRow, run_newObj]
      show Result.ok _ (w.alloc (.cells ((Array.range (cn * i.size)).map _) e)) = _
      rw [hr]; rfl
    · show Sem.run PP (if cn * i.size = 0 then _ else _) w = _
      rw [if_neg h0]
      simp only [Sem.run_bind, run_zero hi hz', Sem.run_pure, Result.andThen_ok, Go.newRow, run_newObj]
      rfl
theorem len_ok (hw : WRel ρ a w) {t ty : TypeId} {ts : Array TypeId} {x : AV} {x' : Value} (h0 : ts[0]? = some t) (hx : VRel ρ x x') : VOK ρ a w (Builtin.len_ ts ty #[x']) (evLen t x a) := by
  unfold evLen
  split
  · rename_i hu
    simp only [VRel] at hx; obtain ⟨_, rfl⟩ := hx
    exact VOK.here hw (by simp only [Builtin.len_, h0, List.getElem?_toArray, List.getElem?_cons_zero, Sem.run_bind, run_und hu, Result.andThen_ok, unpack_size, Sem.run_pure]; rfl) (rel_int rfl)
  · rename_i hu
    simp only [VRel] at hx; subst hx
    exact VOK.here hw (by simp only [Builtin.len_, h0, List.getElem?_toArray, List.getElem?_cons_zero, Sem.run_bind, run_und hu, Result.andThen_ok, Sem.run_pure]; rfl) (rel_int rfl)
  · rename_i hu
    simp only [VRel] at hx; obtain ⟨_, _, rfl⟩ := hx
    exact VOK.here hw (by simp only [Builtin.len_, h0, List.getElem?_toArray, List.getElem?_cons_zero, Sem.run_bind, run_und hu, Result.andThen_ok, Sem.run_pure]; rfl) (rel_int rfl)
  · rename_i hu
    simp only [VRel] at hx; obtain ⟨_, _, _, _, _, rfl⟩ := hx
    exact VOK.here hw (by simp only [Builtin.len_, h0, List.getElem?_toArray, List.getElem?_cons_zero, Sem.run_bind, run_und hu, Result.andThen_ok, Sem.run_pure]; rfl) (rel_int rfl)
  · rename_i hu
    simp only [VRel] at hx; obtain ⟨_, _, _, _, _, _, rfl⟩ := hx
    exact VOK.here hw (by simp only [Builtin.len_, h0, List.getElem?_toArray, List.getElem?_cons_zero, Sem.run_bind, run_und hu, Result.andThen_ok, Sem.run_pure]; rfl) (rel_int rfl)
  · rename_i hu
    simp only [VRel] at hx; obtain ⟨_, _, _, _, _, rfl⟩ := hx
    exact VOK.here hw (by simp only [Builtin.len_, h0, List.getElem?_toArray, List.getElem?_cons_zero, Sem.run_bind, run_und hu, Result.andThen_ok, Sem.run_pure]; rfl) (rel_int rfl)
  · rename_i hu
    exact VOK.here hw (by simp only [Builtin.len_, h0, List.getElem?_toArray, List.getElem?_cons_zero, Sem.run_bind, run_und hu, Result.andThen_ok, Sem.run_pure]; rfl) (rel_int rfl)
  · rename_i hu
    simp only [VRel] at hx; subst hx
    exact VOK.here hw (by simp only [Builtin.len_, h0, List.getElem?_toArray, List.getElem?_cons_zero, Sem.run_bind, run_und hu, Result.andThen_ok, Sem.run_pure]; rfl) (rel_int rfl)
  · rename_i k e b hu
    simp only [VRel] at hx; obtain ⟨c, hc, rfl⟩ := hx
    split <;> try trivial
    rename_i es hg
    obtain ⟨entries, clock, e1, e2⟩ := hw.block hg (by simp) hc
    have hget := getObj_run (w := w) e1 (by simp)
    have hn : entries.size = llen es := by
      rw [llen_eq]
      have : ∀ (es : List (AV × AV)) (ms : List MapEntry), ERel ρ es ms → ms.length = es.length := by
        intro es
        induction es with
        | nil => intro ms h; simp only [ERel] at h; subst h; rfl
        | cons e es ih => intro ms h; simp only [ERel] at h; obtain ⟨m, ms', rfl, _, _, h⟩ := h; simp [ih ms' h]
      have := this es _ e2
      simpa using this
    refine VOK.here hw (v' := .int .i64 (entries.size : Nat)) ?_ (rel_int (by rw [hn]; rfl))
    simp only [Builtin.len_, h0, List.getElem?_toArray, List.getElem?_cons_zero, Sem.run_bind, run_und hu, Result.andThen_ok, hget, Sem.run_pure]; rfl
  · trivial
theorem extract_ok (hw : WRel ρ a w) {t : AV} {t' : Value} {i : Nat} (h : VRel ρ t t') : VOK ρ a w (Instr.extract t' i) (evExtract t i a) := by
  unfold evExtract
  split <;> try trivial
  rename_i vs
  simp only [VRel] at h
  obtain ⟨ys, rfl, h⟩ := h
  refine retO_ok hw fun v hv => ?_
  rw [nth_eq] at hv
  obtain ⟨hlt, he⟩ := List.getElem?_eq_some_iff.1 hv
  obtain ⟨v', h1, h2⟩ := VRels.get vs _ h i hlt
  rw [he] at h2
  have h1' : ys[i]? = some v' := by simpa using h1
  exact ⟨v', by simp only [Instr.extract, h1', Sem.run_pure], h2⟩
theorem isIface_false {t : TypeId} {d : TypeDesc} (hu : undOf t = some d) (h : isIface t = false) : ∀ ms, d ≠ .interface ms := by
  rintro ms rfl; unfold isIface at h; rw [hu] at h; cases h
theorem makeIface_ok (hw : WRel ρ a w) {t : TypeId} {x : AV} {x' : Value} (h : VRel ρ x x') : VOK ρ a w (Instr.makeInterface t x') (bc (isIface t) (.no 164) (bc (undOf t).isSome (.val (.iface t x) a) (.no 164))) := by
  simp only [bc_eq]
  split <;> try trivial
  rename_i hi
  split <;> try trivial
  rename_i hs
  obtain ⟨d, hu⟩ := Option.isSome_iff_exists.1 hs
  have hd := isIface_false hu (by simpa using hi)
  refine VOK.here hw (v' := .iface t x') ?_ (by simp only [VRel]; exact ⟨x', rfl, h⟩)
  simp only [Instr.makeInterface, Sem.run_bind, run_und hu, Result.andThen_ok]
  cases d <;> first | rfl | (exact absurd rfl (hd _))
theorem zero_pair (hw : WRel ρ a w) {t : TypeId} {s : Sem Value} {c : Nat} (hs : ∀ i z, PP.info? t = some i → i.zero = some z → s.run PP w = .ok (.tuple #[z, .bool false]) w) :
    VOK ρ a w s (retO ((zeroOf t).map fun z => .tuple [z, .bool false]) a c) := by
  refine retO_ok hw fun v hv => ?_
  simp only [Option.map_eq_some_iff] at hv
  obtain ⟨z, hz, rfl⟩ := hv
  obtain ⟨i, z', hi, hz', rfl⟩ := zeroOf_eq hz
  refine ⟨_, hs i z' hi hz', ?_⟩
  simp only [VRel]
  refine ⟨_, rfl, ?_⟩
  simp only [VRels]
  exact ⟨_, _, rfl, ofV_rel ρ z', _, _, rfl, by simp only [VRel], rfl⟩
end
end Go.Ev
