import Derived.Test.YtgoaahdiilnfmaaGreatDoorEvCi
import Derived.Shelf.Spec.SlicesInsertGrow
set_option linter.all false
namespace Go.Ev
/- slices.Insert at ints does what 'InsOk' says: out of the shelf's four roads. -/
open Go.Shelf Go.RowKit Go.Lib Go.Proofs
theorem setCells_heap (b : Nat) : ∀ (vs : List Value) (o : Nat) (w : World) (arr : Array Value) (t : TypeId) (fz : Nat × Nat), w.heap[b]? = some (.cells arr t fz) →
    ∃ arr', (w.setCells b o vs).heap[b]? = some (.cells arr' t fz) ∧ arr'.size = arr.size ∧ (w.setCells b o vs).heap.size = w.heap.size ∧ (∀ d, d ≠ b → (w.setCells b o vs).heap[d]? = w.heap[d]?) ∧
      (w.setCells b o vs).os = w.os ∧ (w.setCells b o vs).tape = w.tape ∧ (w.setCells b o vs).output = w.output ∧
      (∀ j, j < o ∨ o + vs.length ≤ j → arr'[j]? = arr[j]?) ∧ (∀ i (h : i < vs.length), o + i < arr.size → arr'[o + i]? = some vs[i])
  | [], o, w, arr, t, fz, h => ⟨arr, h, rfl, rfl, fun _ _ => rfl, rfl, rfl, rfl, fun _ _ => rfl, fun i h => by simp at h⟩
  | v :: r, o, w, arr, t, fz, h => by
    have h1 : (w.setCell ⟨b, o, none⟩ v).heap[b]? = some (.cells (arr.setIfInBounds o v) t fz) := by
      simp [World.setCell, Array.getElem?_modify, h]
    obtain ⟨arr', e1, e2, e3, e4, e5, e6, e7, e8, e9⟩ := setCells_heap b r (o + 1) _ _ t fz h1
    refine ⟨arr', e1, by rw [e2]; simp, ?_, ?_, e5, e6, e7, ?_, ?_⟩
    · show ((w.setCell ⟨b, o, none⟩ v).setCells b (o + 1) r).heap.size = _
      rw [e3]; simp [World.setCell]
    · intro d hd
      show ((w.setCell ⟨b, o, none⟩ v).setCells b (o + 1) r).heap[d]? = _
      rw [e4 d hd]
      simp only [World.setCell, Array.getElem?_modify]
      rw [if_neg (fun e => hd e.symm)]
    · intro j hj
      simp only [List.length_cons] at hj
      rw [e8 j (by omega), Array.getElem?_setIfInBounds, if_neg (by omega)]
    · intro i hi hlt
      cases i with
      | zero =>
        rw [e8 (o + 0) (by omega), Array.getElem?_setIfInBounds]
        simp at hlt ⊢
        exact hlt
      | succ i =>
        have := e9 i (by simpa using hi) (by simp; omega)
        rw [show o + (i + 1) = o + 1 + i by omega, this]
        simp
theorem take_all_drop (cs : List Value) (x : Value) {k : Nat} (h : k = cs.length) : cs.take k ++ x :: cs.drop k = cs ++ [x] := by
  subst h; simp
theorem unfrozen_of {w : World} {b : Nat} {arr : Array Value} {t : TypeId} {fz : Nat × Nat} (h : w.heap[b]? = some (.cells arr t fz)) (hz : fz.2 ≤ fz.1) (j : Nat) : w.frozen? ⟨b, j, none⟩ = false := by
  obtain ⟨lo, hi⟩ := fz
  simp only at hz
  simp only [World.frozen?, h]
  by_cases e : lo ≤ j
  · have : ¬ j < hi := by omega
    simp [this]
  · simp [e]
theorem cap63 (w : World) (n c : Nat) (t : TypeId) (h : n ≤ 1001) : grownCap w n c t ≤ 9223372036854775807 := by
  have := grownCap_le_maxLen w n c t (by unfold maxLen; omega)
  unfold maxLen at this
  omega
theorem zeros_size (n : Nat) : (Builtin.zeroCells (Value.int .i64 0).cells n).size = n := by simp [Builtin.zeroCells, Value.cells]
theorem ins_of_shelf {r : Ren} (L : Lays2.n21 PP r) : InsOk (r.f 21) := by
  intro w s cs k vb vt fz x hx hfz hxi hci hk hlen hs
  have hx1 : x.oneCell' = true := by obtain ⟨kd, z, rfl⟩ := hxi; rfl
  have h1v : ∀ v ∈ [x], v.oneCell' = true := fun v hv => by rw [List.mem_singleton.1 hv]; exact hx1
  have h1c : ∀ v ∈ cs, v.oneCell' = true := fun v hv => by obtain ⟨kd, z, rfl⟩ := hci v hv; rfl
  have hvs : ∀ j v, [x][j]? = some v → w.cell? ⟨vb, 0 + j, none⟩ = some v := by
    intro j v hj
    obtain ⟨h1, h2⟩ := List.getElem?_eq_some_iff.1 hj
    have : j = 0 := by simp at h1; omega
    subst this
    simp at h2
    subst h2
    simp [World.cell?, hx]
  have grown : ∀ (cap : Nat) (e : Ending) (w' : World), k = cs.length →
      (e = .returned (.slice (some ⟨w.heap.size, 0, none⟩) (cs.length + 1) (grownCap w (cs.length + 1) cap (r.t 3))) ∧
        w' = w.drew.alloc (.cells ((cs ++ [x]).toArray ++ Builtin.zeroCells (Value.int .i64 0).cells (grownCap w (cs.length + 1) cap (r.t 3) - (cs.length + 1))) (r.t 3))) →
      ∃ c' p' cap' arr' t' fz', e = .returned (.slice (some ⟨c', p', none⟩) (cs.length + 1) cap') ∧ cs.length + 1 ≤ cap' ∧ cap' ≤ 9223372036854775807 ∧
        w'.heap[c']? = some (.cells arr' t' fz') ∧ fz'.2 ≤ fz'.1 ∧ p' + cap' ≤ arr'.size ∧ (∀ j v, (cs.take k ++ x :: cs.drop k)[j]? = some v → arr'[p' + j]? = some v) ∧ w'.os = w.os ∧ w'.tape = w.tape ∧ w'.output = w.output ∧
        ((c' = w.heap.size ∧ w'.heap.size = w.heap.size + 1 ∧ ∀ d, d < w.heap.size → w'.heap[d]? = w.heap[d]?) ∨
          ((∃ p cap, s = .slice (some ⟨c', p, none⟩) cs.length cap) ∧ w'.heap.size = w.heap.size ∧ ∀ d, d ≠ c' → w'.heap[d]? = w.heap[d]?)) := by
    rintro cap e w' hkn ⟨rfl, rfl⟩
    have hge := grownCap_ge w (cs.length + 1) cap (r.t 3)
    refine ⟨w.heap.size, 0, grownCap w (cs.length + 1) cap (r.t 3), (cs ++ [x]).toArray ++ Builtin.zeroCells (Value.int .i64 0).cells (grownCap w (cs.length + 1) cap (r.t 3) - (cs.length + 1)), r.t 3, (0, 0), rfl, hge, cap63 _ _ _ _ (by omega), ?_, Nat.le_refl _, ?_, ?_, rfl, rfl, rfl, .inl ⟨rfl, ?_, ?_⟩⟩
    · show (w.heap.push _)[w.heap.size]? = _
      simp
    · rw [Array.size_append, zeros_size]; simp; omega
    · intro j v hj
      rw [take_all_drop cs x hkn] at hj
      have hjl : j < (cs ++ [x]).length := (List.getElem?_eq_some_iff.1 hj).1
      rw [Nat.zero_add, Array.getElem?_append_left (by simpa using hjl)]
      simpa using hj
    · show (w.heap.push _).size = _; simp
    · intro d hd
      show (w.heap.push _)[d]? = _
      rw [Array.getElem?_push_lt hd, Array.getElem?_eq_getElem hd]
  rcases hs with ⟨rfl, rfl⟩ | ⟨c, p, cap, arr, t, fz', rfl, q1, q2, q3, q4, q5, q6, q7⟩
  · obtain rfl : k = 0 := by simpa using hk
    refine Calls.mono (Any2.slices_Insert_int_end_grow L none 0 0 vb 0 1 1 [] [x] w (by omega) (by omega) (by omega) (by omega) rfl rfl (fun _ => rfl) (fun a h => by cases h) hvs h1v) ?_
    intro e w' h
    exact grown 0 e w' rfl h
  · have hcs : ∀ j v, cs[j]? = some v → w.cell? ⟨c, p + j, none⟩ = some v := fun j v hj => by
      simp only [World.cell?, q4]; exact q7 j v hj
    have hsome : ∀ j, j < cap → (w.cell? ⟨c, p + j, none⟩).isSome = true := fun j hj => by
      simp only [World.cell?, q4]
      rw [Array.getElem?_eq_getElem (by omega)]; rfl
    by_cases hkn : k = cs.length
    · by_cases hroom : cs.length + 1 ≤ cap
      · -- at the end, room
        subst hkn
        refine Calls.mono (Any2.slices_Insert_int_end_room L c p cs.length cap vb 0 1 1 [x] w (by omega) hroom q2 rfl (fun j hj => by rw [Nat.add_assoc]; exact hsome _ (by omega)) (fun j _ => unfrozen_of q4 q5 _) hvs h1v) ?_
        rintro e w' ⟨rfl, rfl⟩
        obtain ⟨arr', e1, e2, e3, e4, e5, e6, e7, e8, e9⟩ := setCells_heap c [x] (p + cs.length) w arr t fz' q4
        refine ⟨c, p, cap, arr', t, fz', rfl, hroom, q2, e1, q5, by omega, ?_, e5, e6, e7, .inr ⟨⟨p, cap, rfl⟩, e3, e4⟩⟩
        intro j v hj
        rw [take_all_drop cs x rfl] at hj
        by_cases hjl : j < cs.length
        · rw [List.getElem?_append_left hjl] at hj
          rw [e8 (p + j) (by omega)]
          exact q7 j v hj
        · rw [List.getElem?_append_right (by omega)] at hj
          obtain ⟨h1, h2⟩ := List.getElem?_eq_some_iff.1 hj
          have hj0 : j = cs.length := by simp at h1; omega
          subst hj0
          have := e9 0 (by simp) (by omega)
          simp at h2 this
          rw [this, h2]
      · -- at the end, no room
        subst hkn
        refine Calls.mono (Any2.slices_Insert_int_end_grow L (some ⟨c, p, none⟩) cs.length cap vb 0 1 1 cs [x] w (by omega) q1 (by omega) (by omega) rfl rfl (fun h => by cases h) (fun a h j v hj => by injection h with h; subst h; rw [addr_add]; exact hcs j v hj) hvs h1v) ?_
        intro e w' h
        exact grown cap e w' rfl h
    · by_cases hroom : cs.length + 1 ≤ cap
      · -- within, room
        refine Calls.mono (Any2.slices_Insert_int_shift L c p cs.length cap k vb 0 1 1 cs [x] w (by omega) (by omega) hroom q2 (fun e => q3 e.symm) rfl rfl hcs (fun j hj => hsome _ (by omega)) (fun j _ => unfrozen_of q4 q5 _) hvs h1c h1v
          vt t 1 arr.size (by simp [World.shape?, hx]) (by simp [World.shape?, q4]) (by omega) (unfrozen_of hx hfz _) (unfrozen_of hx hfz _)) ?_
        rintro e w' ⟨rfl, rfl⟩
        obtain ⟨arr1, a1, a2, a3, a4, a5, a6, a7, a8, a9⟩ := setCells_heap c (cs.drop k) (p + (k + 1)) w.drew arr t fz' q4
        obtain ⟨arr', e1, e2, e3, e4, e5, e6, e7, e8, e9⟩ := setCells_heap c [x] (p + k) (w.drew.setCells c (p + (k + 1)) (cs.drop k)) arr1 t fz' a1
        refine ⟨c, p, cap, arr', t, fz', rfl, hroom, q2, e1, q5, by omega, ?_, e5.trans a5, e6.trans a6, e7.trans a7, .inr ⟨⟨p, cap, rfl⟩, e3.trans a3, fun d hd => (e4 d hd).trans (a4 d hd)⟩⟩
        intro j v hj
        have hkl : (cs.take k).length = k := by simp; omega
        by_cases hjl : j < k
        · rw [List.getElem?_append_left (by omega)] at hj
          rw [e8 (p + j) (by omega), a8 (p + j) (by omega)]
          refine q7 j v ?_
          rw [List.getElem?_take, if_pos hjl] at hj
          exact hj
        · rw [List.getElem?_append_right (by omega), hkl] at hj
          by_cases hj0 : j = k
          · subst hj0
            simp at hj
            have := e9 0 (by simp) (by omega)
            simp at this
            rw [this, hj]
          · obtain ⟨m, rfl⟩ : ∃ m, j = k + 1 + m := ⟨j - (k + 1), by omega⟩
            rw [show k + 1 + m - k = m + 1 by omega, List.getElem?_cons_succ] at hj
            have hml := (List.getElem?_eq_some_iff.1 hj).1
            rw [e8 (p + (k + 1 + m)) (by simp; omega)]
            have := a9 m hml (by simp at hml; omega)
            rw [show p + (k + 1 + m) = p + (k + 1) + m by omega, this]
            rw [List.getElem?_eq_getElem hml] at hj
            exact hj
      · -- within, no room
        refine Calls.mono (Any2.slices_Insert_int_grow L c p cs.length cap k vb 0 1 1 cs [x] w (by omega) (by omega) q1 (by omega) (by omega) rfl rfl hcs hvs h1c h1v) ?_
        rintro e w' ⟨rfl, rfl⟩
        have hge := grownCap_ge w (cs.length + 1) cap (r.t 3)
        obtain ⟨ROW, hROW⟩ : ∃ ROW : Array Value, ROW = (cs.take k).toArray ++ Builtin.zeroCells (Value.int .i64 0).cells (cs.length + 1 - k) ++ Builtin.zeroCells (Value.int .i64 0).cells (grownCap w (cs.length + 1) cap (r.t 3) - (cs.length + 1)) := ⟨_, rfl⟩
        rw [← hROW]
        have hkl : (cs.take k).length = k := by simp; omega
        have hsz : ROW.size = grownCap w (cs.length + 1) cap (r.t 3) := by
          rw [hROW, Array.size_append, Array.size_append, zeros_size, zeros_size, List.size_toArray, hkl]; omega
        have h0 : (w.alloc (.cells ROW (r.t 3))).drew.heap[w.heap.size]? = some (.cells ROW (r.t 3) (0, 0)) := by
          show (w.heap.push _)[w.heap.size]? = _; simp
        obtain ⟨arr1, a1, a2, a3, a4, a5, a6, a7, a8, a9⟩ := setCells_heap w.heap.size [x] k (w.alloc (.cells ROW (r.t 3))).drew ROW (r.t 3) (0, 0) h0
        obtain ⟨arr', e1, e2, e3, e4, e5, e6, e7, e8, e9⟩ := setCells_heap w.heap.size (cs.drop k) (k + 1) ((w.alloc (.cells ROW (r.t 3))).drew.setCells w.heap.size k [x]).drew arr1 (r.t 3) (0, 0) a1
        refine ⟨w.heap.size, 0, _, arr', r.t 3, (0, 0), rfl, hge, cap63 _ _ _ _ (by omega), e1, Nat.le_refl _, by omega, ?_, e5.trans a5, e6.trans a6, e7.trans a7, .inl ⟨rfl, ?_, ?_⟩⟩
        · intro j v hj
          rw [Nat.zero_add]
          by_cases hjl : j < k
          · rw [List.getElem?_append_left (by omega)] at hj
            rw [e8 j (by omega), a8 j (by omega), hROW, Array.append_assoc, Array.getElem?_append_left (by rw [List.size_toArray]; omega)]
            simpa using hj
          · rw [List.getElem?_append_right (by omega), hkl] at hj
            by_cases hj0 : j = k
            · subst hj0
              simp at hj
              have := a9 0 (by simp) (by omega)
              simp at this
              rw [e8 j (by omega), this, hj]
            · obtain ⟨m, rfl⟩ : ∃ m, j = k + 1 + m := ⟨j - (k + 1), by omega⟩
              rw [show k + 1 + m - k = m + 1 by omega, List.getElem?_cons_succ] at hj
              have hml := (List.getElem?_eq_some_iff.1 hj).1
              have := e9 m hml (by simp at hml; omega)
              rw [this]
              rw [List.getElem?_eq_getElem hml] at hj
              exact hj
        · rw [e3]
          show ((w.alloc (.cells ROW (r.t 3))).drew.setCells w.heap.size k [x]).heap.size = _
          rw [a3]
          show (w.heap.push _).size = _; simp
        · intro d hd
          rw [e4 d (by omega)]
          show ((w.alloc (.cells ROW (r.t 3))).drew.setCells w.heap.size k [x]).heap[d]? = _
          rw [a4 d (by omega)]
          show (w.heap.push _)[d]? = _
          rw [Array.getElem?_push_lt hd, Array.getElem?_eq_getElem hd]
end Go.Ev
