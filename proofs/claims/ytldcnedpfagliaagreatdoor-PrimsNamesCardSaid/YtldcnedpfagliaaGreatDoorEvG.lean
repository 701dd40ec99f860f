import Derived.Test.YtldcnedpfagliaaGreatDoorEvZ
import Derived.Laws.Append
set_option linter.all false
namespace Go.Ev
/- append, make, copy. -/
section
variable {ρ : Env} {a : W} {w : World}
/-- cells that are read from wherever: the same cells in every world that holds them -/
def Reads (w : World) (size n : Nat) (x' : Value) (l' : List Value) : Prop := Builtin.lenOf x' = pure n ∧ l'.length = n * size ∧ ∀ W : World, W.heap = w.heap → (Builtin.firstCells size n x').run PP W = .ok l'.toArray W
theorem cell_heap {W : World} (h : W.heap = w.heap) (p : Addr) : W.cell? p = w.cell? p := by simp only [World.cell?, h]
theorem srcCells_rel (hw : WRel ρ a w) {size n : Nat} {x : AV} {x' : Value} {l : List AV} (h : srcCells size x a = some (n, l)) (hx : VRel ρ x x') : ∃ l', Reads w size n x' l' ∧ VRels ρ l l' := by
  unfold srcCells at h
  split at h
  · cases h
    simp only [VRel] at hx; subst hx
    exact ⟨[], ⟨rfl, by simp, fun W _ => by simp [Builtin.firstCells]⟩, by simp [VRels]⟩
  · cases h
    simp only [VRel] at hx; obtain ⟨q, cap', rfl⟩ := hx
    exact ⟨[], ⟨rfl, by simp, fun W _ => by simp [Builtin.firstCells, loadCells, loadCellsFrom]⟩, by simp [VRels]⟩
  · rename_i b o len cap ex
    simp only [Option.map_eq_some_iff] at h
    obtain ⟨l1, h1, h2⟩ := h
    cases h2
    simp only [VRel] at hx
    obtain ⟨c, cap', hc, _, _, rfl⟩ := hx
    simp only [readSlice] at h1
    obtain ⟨l', q1, q2, q3⟩ := objList_rel h1 (hw.block rfl (objList_ne h1) hc)
    refine ⟨l', ⟨rfl, q1, fun W hW => ?_⟩, q2⟩
    simp only [Builtin.firstCells]
    exact run_cells q1 (fun j v hj => by rw [cell_heap hW]; exact q3 j v hj)
  · rename_i len m
    rw [bc_eq] at h
    split at h <;> try (cases h; done)
    rename_i h1
    have h1 := Nat.eq_of_beq_eq_true h1
    subst h1
    cases h
    simp only [VRel] at hx
    obtain ⟨hm, rfl⟩ := hx
    refine ⟨(bytesOf n m).map fun b => .int .u8 b.toNat, ⟨by simp only [Builtin.lenOf, unpack_size], by simp [bytesOf_length], fun W _ => ?_⟩, ?_⟩
    · simp only [Builtin.firstCells, Sem.run_pure]
      congr 1
      have e : (unpack n m).extract 0 n = unpack n m := by
        have := unpack_extract n m 0 n (Nat.zero_le _) (Nat.le_refl _)
        rw [this]
        congr 1
        rw [shiftRight_eq]
        simp [Nat.mod_eq_of_lt hm]
      rw [e]
      unfold unpack
      simp
    · apply VRels.of_get
      · simp [bytesOf_length]
      · intro i hi
        have hi' : i < n := by simpa using hi
        refine ⟨.int .u8 (sAt n m i), ?_, ?_⟩
        · rw [List.getElem?_map, List.getElem?_eq_getElem (by rw [bytesOf_length]; exact hi'), bytesOf_get']
          simp only [Option.map_some, u8_toNat_sAt]
        · simp only [List.getElem_map, List.getElem_range, VRel]
          rfl
  · cases h
/-- the model's test whether append's second argument is a number says no -/
theorem xt_cases {xt : Option TypeId} (h : xtOk xt = true) : xt = none ∨ ∃ t d, xt = some t ∧ undOf t = some d ∧ ∀ k, d ≠ .int k := by
  cases xt with
  | none => exact .inl rfl
  | some t =>
    right
    simp only [xtOk] at h
    cases hu : undOf t with
    | none => rw [hu] at h; cases h
    | some d => rw [hu] at h; exact ⟨t, d, rfl, hu, by rintro k rfl; cases h⟩
/-- append where there is room -/
theorem append_room {t ty e : TypeId} {ts : Array TypeId} {i : TypeInfo} {x' : Value} {base : Option Addr} {sLen sCap n : Nat} {new : List Value} (h0 : ts[0]? = some t) (hxt : xtOk ts[1]? = true) (hu : undOf t = some (.slice e))
    (hi : PP.info? e = some i) (hr : Reads w i.size n x' new) (hroom : sLen + n ≤ sCap) :
    (Builtin.append_ ts ty #[.slice base sLen sCap, x']).run PP w = ((match base with | some a => storeCells (a.add (sLen * i.size)) new | none => pure ()).run PP w).andThen fun _ w' => .ok (.slice base (sLen + n) sCap) w' := by
  obtain ⟨r1, r2, r3⟩ := hr
  have hsz : (Go.sizeOf e).run PP w = .ok i.size w := by simp [Go.sizeOf, run_info hi]
  have r4 := r3 w rfl
  unfold Builtin.append_
  simp only [h0, List.getElem?_toArray, List.getElem?_cons_zero, List.getElem?_cons_succ, Sem.run_bind, run_und hu, Result.andThen_ok, hsz]
  rcases xt_cases hxt with hx | ⟨xt, d, hx, hxu, hd⟩
  · simp only [hx, Sem.run_bind, Sem.run_pure, Result.andThen_ok, Bool.false_eq_true, if_false, r1, hroom, if_true, Bool.not_false, r4]
    cases base <;> simp
  · simp only [hx, Sem.run_bind, run_und hxu, Result.andThen_ok]
    cases d <;> first
      | (exact absurd rfl (hd _))
      | (simp only [Sem.run_bind, Sem.run_pure, Result.andThen_ok, Bool.false_eq_true, if_false, r1, hroom, if_true, Bool.not_false, r4]
         cases base <;> simp)
/-- append where there is none -/
theorem append_grow {t ty e : TypeId} {ts : Array TypeId} {i : TypeInfo} {z : Value} {x' : Value} {base : Option Addr} {sLen sCap n : Nat} {old new : List Value} (h0 : ts[0]? = some t) (hxt : xtOk ts[1]? = true) (hu : undOf t = some (.slice e))
    (hi : PP.info? e = some i) (hz : i.zero = some z) (hr : Reads w i.size n x' new) (ho : ∀ W : World, W.heap = w.heap → (Builtin.firstCells i.size sLen (.slice base sLen sCap)).run PP W = .ok old.toArray W)
    (hroom : ¬ sLen + n ≤ sCap) (h1 : sLen + n ≤ 60000) (h2 : i.bytes ≤ 1000000) (hold : old.length = sLen * i.size) (hzs : z.cells.size = i.size) :
    ∃ (cap : Nat) (tail : List Value), sLen + n ≤ cap ∧ ((old ++ new) ++ tail).length = cap * i.size ∧ (Builtin.append_ ts ty #[.slice base sLen sCap, x']).run PP w = .ok (.slice (some ⟨w.heap.size, 0, none⟩) (sLen + n) cap) (w.drew.alloc (.cells ((old ++ new) ++ tail).toArray e)) := by
  obtain ⟨r1, r2, r3⟩ := hr
  have hsz : (Go.sizeOf e).run PP w = .ok i.size w := by simp [Go.sizeOf, run_info hi]
  have r4 := r3 w.drew rfl
  have o4 := ho w.drew rfl
  have hmax : ¬ (((sLen + n : Nat) : Int) > IntKind.i64.max ∧ (False ∨ i.bytes = 0)) := by
    intro ⟨hh, _⟩
    simp [IntKind.max, IntKind.bits, IntKind.signed] at hh
    omega
  have hfit : ¬ Builtin.nextslicecap (sLen + n) sCap * i.bytes > 2 ^ 48 := by
    have q1 : Builtin.nextslicecap (sLen + n) sCap * i.bytes ≤ 2 * (sLen + n) * i.bytes := Nat.mul_le_mul_right _ (nextslicecap_le (by omega))
    have q2 : 2 * (sLen + n) * i.bytes ≤ 120000 * 1000000 := Nat.mul_le_mul (by omega) h2
    omega
  refine ⟨grownCap w (sLen + n) sCap e, (Builtin.zeroCells z.cells (grownCap w (sLen + n) sCap e - (sLen + n))).toList, by simp [grownCap, Question.cut], ?_, ?_⟩
  · have hge : sLen + n ≤ grownCap w (sLen + n) sCap e := by simp [grownCap, Question.cut]
    simp only [List.length_append, hold, r2, Array.length_toList, Builtin.zeroCells, Array.size_map, Array.size_range, hzs, ← Nat.add_mul]
    congr 1
    omega
  unfold Builtin.append_
  simp only [h0, List.getElem?_toArray, List.getElem?_cons_zero, List.getElem?_cons_succ, Sem.run_bind, run_und hu, Result.andThen_ok, hsz]
  have hch : ∀ q : Question, q = .appendCap (sLen + n) sCap e → (choose q).run PP w = .ok (grownCap w (sLen + n) sCap e) w.drew := by
    rintro q rfl
    simp [Question.forced, grownCap]
  have hfin : Result.ok (Value.slice (some ⟨w.drew.heap.size, 0, none⟩) (sLen + n) (grownCap w (sLen + n) sCap e)) { w.drew with heap := w.drew.heap.push (Obj.cells (old.toArray ++ new.toArray ++ Builtin.zeroCells z.cells (grownCap w (sLen + n) sCap e - (sLen + n))) e) } =
      Result.ok (Value.slice (some ⟨w.heap.size, 0, none⟩) (sLen + n) (grownCap w (sLen + n) sCap e)) (w.drew.alloc (.cells ((old ++ new) ++ (Builtin.zeroCells z.cells (grownCap w (sLen + n) sCap e - (sLen + n))).toList).toArray e)) := by
    have e1 : old.toArray ++ new.toArray ++ Builtin.zeroCells z.cells (grownCap w (sLen + n) sCap e - (sLen + n)) = ((old ++ new) ++ (Builtin.zeroCells z.cells (grownCap w (sLen + n) sCap e - (sLen + n))).toList).toArray := by
      apply Array.ext'
      simp
    rw [e1]
    rfl
  rcases xt_cases hxt with hx | ⟨xt, d, hx, hxu, hd⟩
  · simp only [hx, Sem.run_bind, Sem.run_pure, Result.andThen_ok, Bool.false_eq_true, if_false, r1, hroom, run_info hi, hmax, hfit, hch _ rfl, run_askRoom, o4, r4, Bool.not_false, if_true, run_zero hi hz, Go.newRow, run_newObj]
    exact hfin
  · simp only [hx, Sem.run_bind, run_und hxu, Result.andThen_ok]
    cases d <;> first
      | (exact absurd rfl (hd _))
      | (simp only [Sem.run_bind, Sem.run_pure, Result.andThen_ok, Bool.false_eq_true, if_false, r1, hroom, run_info hi, hmax, hfit, hch _ rfl, run_askRoom, o4, r4, Bool.not_false, if_true, run_zero hi hz, Go.newRow, run_newObj]
         exact hfin)
end
end Go.Ev
