import Derived.Test.YtjakdjfepibedaaGreatDoorEvS
import Derived.Laws.Entries
import Derived.Laws.Cells
set_option linter.all false
namespace Go.Ev
/- The operations are sound. -/
section tables
variable {α : Type}
theorem nth_eq (l : List α) : ∀ i, nth l i = l[i]? := by
  induction l with
  | nil => intro i; rfl
  | cons x l ih =>
    intro i
    cases i with
    | zero => rfl
    | succ i => show nth l i = _; rw [ih]; simp
theorem leaf16_get (l : List α) (k : Nat) (h : k < 16) : N.get (I.of k) (leaf16 l) = l[k]? := by
  match k, h with
  | 0, _ | 1, _ | 2, _ | 3, _ | 4, _ | 5, _ | 6, _ | 7, _ | 8, _ | 9, _ | 10, _ | 11, _ | 12, _ | 13, _ | 14, _ | 15, _ => exact nth_eq l _
  | n + 16, h => omega
theorem by16_get {β : Type} (f : List α → β) (s : Nat) (l : List α) (k : Nat) (h : k < 16) : N.get (I.of k) (by16 f s l) = f (l.drop (k * s)) := by
  match k, h with
  | 0, _ => simp only [Nat.zero_mul, List.drop_zero]; rfl
  | 1, _ => simp only [Nat.one_mul]; rfl
  | 2, _ | 3, _ | 4, _ | 5, _ | 6, _ | 7, _ | 8, _ | 9, _ | 10, _ | 11, _ | 12, _ | 13, _ | 14, _ | 15, _ => rfl
  | n + 16, h => omega
theorem tget_eq (l : List α) (i : Nat) (h : i < 4096) : tget (tree3 l) i = l[i]? := by
  unfold tget tree3
  rw [by16_get _ _ _ _ (by omega), by16_get _ _ _ _ (by omega), leaf16_get _ _ (by omega)]
  simp only [List.getElem?_drop, List.drop_drop]
  congr 1
  omega
end tables
theorem fnOf_eq {f : FuncId} {fn : Func} (h : fnOf f = some fn) : PP.funcs[f]? = some fn := by
  unfold fnOf at h
  rw [bc_eq] at h
  split at h
  · rename_i hb
    have := Nat.le_of_ble_eq_true hb
    unfold FT at h
    rw [tget_eq _ _ (by omega)] at h
    simpa using h
  · cases h
theorem infoOf_eq {t : TypeId} {i : TypeInfo} (h : infoOf t = some i) : PP.info? t = some i := by
  unfold infoOf at h
  rw [bc_eq] at h
  split at h
  · rename_i hb
    have := Nat.le_of_ble_eq_true hb
    unfold TT at h
    rw [tget_eq _ _ (by omega)] at h
    have h' : PP.types[t]? = some i := by simpa using h
    have hlt := (Array.getElem?_eq_some_iff.1 h').1
    unfold Tables.info?
    rw [if_pos hlt]
    exact h'
  · cases h
theorem undOf_eq {t : TypeId} {d : TypeDesc} (h : undOf t = some d) : PP.underlying t = some d := by
  unfold undOf at h
  cases hi : infoOf t with
  | none => rw [hi] at h; cases h
  | some i =>
    rw [hi] at h
    unfold Program.underlying
    rw [infoOf_eq hi]
    obtain ⟨desc, a1, a2, a3, a4, a5, a6, a7, a8, a9⟩ := i
    cases desc <;> first
      | exact h
      | (simp only [undFrom] at h
         rename_i nm u
         cases hu : infoOf u with
         | none => rw [hu] at h; cases h
         | some j => rw [hu] at h; simp only [infoOf_eq hu]; exact h)
theorem sizeOf_eq {t : TypeId} {n : Nat} (h : sizeOf t = some n) : ∃ i, PP.info? t = some i ∧ i.size = n := by
  unfold sizeOf at h
  cases hi : infoOf t with
  | none => rw [hi] at h; cases h
  | some i => rw [hi] at h; exact ⟨i, infoOf_eq hi, by simpa using h⟩
theorem zeroOf_eq {t : TypeId} {v : AV} (h : zeroOf t = some v) : ∃ i z, PP.info? t = some i ∧ i.zero = some z ∧ v = ofV z := by
  unfold zeroOf at h
  cases hi : infoOf t with
  | none => rw [hi] at h; cases h
  | some i =>
    rw [hi] at h
    simp only [Option.bind_some] at h
    cases hz : i.zero with
    | none => rw [hz] at h; cases h
    | some z => rw [hz] at h; exact ⟨i, z, infoOf_eq hi, hz, by simpa using h.symm⟩

section runs
variable {w : World}
theorem run_und {t : TypeId} {d : TypeDesc} (h : undOf t = some d) : (underlying t).run PP w = .ok d w := run_underlying (undOf_eq h) w
theorem run_info {t : TypeId} {i : TypeInfo} (h : PP.info? t = some i) : (typeInfo t).run PP w = .ok i w := by simp [typeInfo, h]
theorem run_size {t : TypeId} {n : Nat} (h : sizeOf t = some n) : (Go.sizeOf t).run PP w = .ok n w := by
  obtain ⟨i, hi, rfl⟩ := sizeOf_eq h
  simp [Go.sizeOf, run_info hi]
theorem run_zero {t : TypeId} {i : TypeInfo} {z : Value} (h : PP.info? t = some i) (hz : i.zero = some z) : (zeroValue t).run PP w = .ok z w := by
  simp [zeroValue, run_info h, hz]
theorem run_isAgg {t : TypeId} {d : TypeDesc} (h : undOf t = some d) : (isAgg t).run PP w = .ok (aggDesc d) w := by
  simp only [isAgg, Sem.run_bind, run_und h, Result.andThen_ok]
  cases d <;> rfl
theorem aggOf_eq {t : TypeId} {r : Option Nat} (h : aggOf t = some r) : ∃ d n, undOf t = some d ∧ sizeOf t = some n ∧ some r = (if aggDesc d then some (some n) else if n = 1 then some none else none) := by
  unfold aggOf at h
  cases hu : undOf t with
  | none => rw [hu] at h; cases h
  | some d =>
    cases hs : sizeOf t with
    | none => rw [hu, hs] at h; cases h
    | some n => rw [hu, hs] at h; exact ⟨d, n, rfl, rfl, h.symm⟩
end runs

/-- a value made of literal parts stands for itself -/
theorem ofPtr_rel (ρ : Env) (p : Option Addr) : VRel ρ (ofPtr p) (.pointer p) := by cases p <;> simp only [ofPtr, VRel]
theorem ofSl_rel (ρ : Env) (p : Option Addr) (l c : Nat) : VRel ρ (ofSl p l c) (.slice p l c) := by
  unfold ofSl; split <;> simp only [VRel]
theorem ofMap_rel (ρ : Env) (p : Option Nat) : VRel ρ (ofMap p) (.map p) := by cases p <;> simp only [ofMap, VRel]
theorem ofS_rel (ρ : Env) (v : Value) : VRel ρ (ofS v) v := by
  cases v <;> simp only [ofS] <;> first
    | exact ofPtr_rel ρ _
    | exact ofSl_rel ρ _ _ _
    | exact ofMap_rel ρ _
    | (simp only [VRel]; done)
    | (simp only [VRel]; exact ⟨pack_lt _, by rw [unpack_pack]⟩)
theorem ofSs_rel (ρ : Env) : ∀ (l : List Value), VRels ρ (l.map ofS) l
  | [] => by simp [VRels]
  | v :: l => by simp only [List.map_cons, VRels]; exact ⟨v, l, rfl, ofS_rel ρ v, ofSs_rel ρ l⟩
theorem ofTup_rel (ρ : Env) (l : Array Value) : VRel ρ (ofTup l.toList) (.tuple l) := by
  cases h : l.toList with
  | nil => simp only [ofTup, VRel]; exact ⟨l, rfl, by simp [h, VRels]⟩
  | cons x r => simp only [ofTup, VRel]
theorem ofV_rel (ρ : Env) (v : Value) : VRel ρ (ofV v) v := by
  cases v <;> simp only [ofV] <;> first
    | exact ofS_rel ρ _
    | exact ofTup_rel ρ _
    | (simp only [VRel]; exact ⟨_, rfl, ofSs_rel ρ _⟩)

/- what an operation's run must be -/
def VOK (ρ : Env) (a : W) (w : World) (s : Sem Value) (r : OR) : Prop :=
  match r with
  | .val v a' => Fresh ρ a a' → ∃ ρ' w' v', s.run PP w = .ok v' w' ∧ VRel ρ' v v' ∧ Adv ρ a w ρ' a' w'
  | .no _ => True
  | _ => False
def UOK (ρ : Env) (a : W) (w : World) (s : Sem Unit) (r : OR) : Prop :=
  match r with
  | .val v a' => Fresh ρ a a' → v = undefA ∧ ∃ ρ' w', s.run PP w = .ok () w' ∧ Adv ρ a w ρ' a' w'
  | .no _ => True
  | _ => False
section
variable {ρ : Env} {a : W} {w : World}
theorem VOK.of_run {s s' : Sem Value} {r : OR} (h : VOK ρ a w s r) (e : s.run PP w = s'.run PP w) : VOK ρ a w s' r := by
  cases r with
  | val v a' => intro hf; obtain ⟨ρ', w', v', h1, h2, h3⟩ := h hf; exact ⟨ρ', w', v', by rw [← e]; exact h1, h2, h3⟩
  | no => trivial
  | _ => exact h
theorem VOK.here {s : Sem Value} {v : AV} {v' : Value} (hw : WRel ρ a w) (h : s.run PP w = .ok v' w) (hv : VRel ρ v v') : VOK ρ a w s (.val v a) :=
  fun _ => ⟨ρ, w, v', h, hv, Adv.refl hw⟩

/-- the block behind a key -/
theorem WRel.block (hw : WRel ρ a w) {b : K} {o : AObj} (h : wget b a = o) (hn : o ≠ .none) {c : Nat} (hc : ρ b = some c) : ORel ρ o (w.heap[c]?) := by
  rw [wget_eq] at h
  obtain ⟨c', hc', ho⟩ := hw.dom b (by rw [h]; exact hn)
  rw [hc] at hc'; cases hc'
  rw [h] at ho; exact ho
theorem cell_of {b off : Nat} {arr : Array Value} {t : TypeId} {fz : Nat × Nat} (h : w.heap[b]? = some (.cells arr t fz)) : w.cell? ⟨b, off, none⟩ = arr[off]? := by
  simp [World.cell?, h]
theorem objGet_rel {o : AObj} {i : Nat} {v : AV} {c : Nat} (h : objGet o i = some v) (ho : ORel ρ o (w.heap[c]?)) : ∃ v', w.cell? ⟨c, i, none⟩ = some v' ∧ VRel ρ v v' := by
  cases o <;> simp only [objGet] at h <;> try (cases h; done)
  · rw [bc_eq] at h
    split at h
    · rename_i hb
      obtain ⟨arr, fz, h1, h2, h3, h4, h5, h6⟩ := ho
      obtain ⟨v', h7, h8⟩ := h6 i (by simpa using hb)
      cases h
      exact ⟨v', by rw [cell_of h1]; exact h7, h8⟩
    · cases h
  · rw [bc_eq] at h
    split at h
    · rename_i hb
      obtain ⟨arr, t', fz, h1, h2, h3, h6, _⟩ := ho
      obtain ⟨v', h7, h8⟩ := h6 i (by simpa using hb)
      cases h
      exact ⟨v', by rw [cell_of h1]; exact h7, h8⟩
    · cases h
theorem objGet_ne {o : AObj} {i : Nat} {v : AV} (h : objGet o i = some v) : o ≠ .none := by rintro rfl; cases h
theorem ldOne_ok (hw : WRel ρ a w) {p : AV} {p' : Value} (hp : VRel ρ p p') : VOK ρ a w (do load (← Instr.sureAddr p')) (ldOne p a) := by
  unfold ldOne
  split
  · rename_i b kb i
    simp only [VRel] at hp
    obtain ⟨c, c', hc, hk, rfl⟩ := hp
    unfold ldWin
    split <;> try trivial
    rename_i kb' l hg
    rw [bc_eq]
    split <;> try trivial
    rename_i hkb
    obtain rfl := (K.beq_iff _ _).1 hkb
    split <;> try trivial
    rename_i v hv
    rw [nth_eq] at hv
    obtain ⟨hlt, hv⟩ := List.getElem?_eq_some_iff.1 hv
    obtain ⟨arr, t, fz, c'', e1, e2, e3, e4⟩ := hw.block hg (by simp) hc
    obtain ⟨v', q1, q2⟩ := e4 i hlt
    rw [hv] at q2
    refine VOK.here hw (v' := v') ?_ q2
    have h1 : w.cell? ⟨c, ρ.sz kb + i, none⟩ = some v' := by rw [cell_of e1]; exact q1
    simp [Instr.sureAddr, h1]
  · rename_i b off
    simp only [VRel] at hp
    obtain ⟨c, hc, rfl⟩ := hp
    split
    · rename_i v hv
      obtain ⟨v', h1, h2⟩ := objGet_rel hv (hw.block rfl (objGet_ne hv) hc)
      refine VOK.here hw (v' := v') ?_ h2
      simp [Instr.sureAddr, h1]
    · trivial
  · trivial
theorem list_cells {arr : Array Value} {c : Cells} {size i n : Nat} (hc : CRel ρ size c arr) (h : i + n ≤ size) :
    ∃ l : List Value, l.length = n ∧ VRels ρ (clist c n i) l ∧ ∀ j v, l[j]? = some v → arr[i + j]? = some v := by
  refine ⟨(List.range n).map fun j => arr.getD (i + j) undef, by simp, ?_, ?_⟩
  · apply VRels.of_get
    · rw [clist_eq]; simp
    · intro j hj
      rw [clist_eq] at hj
      simp at hj
      obtain ⟨v, h1, h2⟩ := hc (i + j) (by omega)
      refine ⟨v, ?_, ?_⟩
      · simp [hj, Array.getD_eq_getD_getElem?, h1]
      · simp only [clist_eq, List.getElem_map, List.getElem_range]; exact h2
  · intro j v hj
    have hlt : j < n := by have := (List.getElem?_eq_some_iff.1 hj).1; simpa using this
    obtain ⟨v', h1, _⟩ := hc (i + j) (by omega)
    simp [hlt, Array.getD_eq_getD_getElem?, h1] at hj
    rw [h1, hj]
theorem objList_rel {o : AObj} {i n : Nat} {l : List AV} {c : Nat} (h : objList o i n = some l) (ho : ORel ρ o (w.heap[c]?)) :
    ∃ l' : List Value, l'.length = n ∧ VRels ρ l l' ∧ ∀ j v, l'[j]? = some v → w.cell? ⟨c, i + j, none⟩ = some v := by
  cases o <;> simp only [objList] at h <;> try (cases h; done)
  · rw [bc_eq] at h
    split at h
    · rename_i hb
      obtain ⟨arr, fz, h1, h2, h3, h4, h5, h6⟩ := ho
      obtain ⟨l', h7, h8, h9⟩ := list_cells h6 (Nat.le_of_ble_eq_true hb)
      cases h
      exact ⟨l', h7, h8, fun j v hj => by rw [cell_of h1]; exact h9 j v hj⟩
    · cases h
  · rw [bc_eq] at h
    split at h
    · rename_i hb
      obtain ⟨arr, t', fz, h1, h2, h3, h6, _⟩ := ho
      obtain ⟨l', h7, h8, h9⟩ := list_cells h6 (Nat.le_of_ble_eq_true hb)
      cases h
      exact ⟨l', h7, h8, fun j v hj => by rw [cell_of h1]; exact h9 j v hj⟩
    · cases h
theorem objList_ne {o : AObj} {i n : Nat} {l : List AV} (h : objList o i n = some l) : o ≠ .none := by rintro rfl; cases h
theorem addr_add (c o j : Nat) : (⟨c, o, none⟩ : Addr).add j = ⟨c, o + j, none⟩ := by
  unfold Addr.add; split
  · rename_i h; subst h; rfl
  · rfl
theorem run_cells {c o : Nat} {l : List Value} {n : Nat} (hn : l.length = n) (h : ∀ j v, l[j]? = some v → w.cell? ⟨c, o + j, none⟩ = some v) :
    (loadCells ⟨c, o, none⟩ n).run PP w = .ok l.toArray w := by
  subst hn
  exact run_loadCells_list w ⟨c, o, none⟩ l fun j v hj => by rw [addr_add]; exact h j v hj
theorem ldMany_ok (hw : WRel ρ a w) {p : AV} {p' : Value} (hp : VRel ρ p p') (n : Nat) : VOK ρ a w (do pure (.agg (← loadCells (← Instr.sureAddr p') n))) (ldMany n p a) := by
  unfold ldMany
  split
  · rename_i b off
    simp only [VRel] at hp
    obtain ⟨c, hc, rfl⟩ := hp
    split
    · rename_i l hl
      obtain ⟨l', h1, h2, h3⟩ := objList_rel hl (hw.block rfl (objList_ne hl) hc)
      refine VOK.here hw (v' := .agg l'.toArray) ?_ (by simp only [VRel]; exact ⟨_, rfl, by simpa using h2⟩)
      simp [Instr.sureAddr, run_cells h1 h3]
    · trivial
  · trivial
theorem load_ok (hw : WRel ρ a w) {p : AV} {p' : Value} (hp : VRel ρ p p') (t : TypeId) : VOK ρ a w (Instr.loadAt t p') (evLoad t p a) := by
  unfold evLoad
  split
  · rename_i h
    obtain ⟨d, n, hd, hs, hr⟩ := aggOf_eq h
    have hagg : aggDesc d = false := by cases e : aggDesc d with | false => rfl | true => rw [e] at hr; simp at hr
    refine (ldOne_ok hw hp).of_run ?_
    simp only [Instr.loadAt, loadVar, Sem.run_bind]
    cases hsr : (Instr.sureAddr p').run PP w with
    | halt h w' => rfl
    | ok ad w' => simp only [Result.andThen_ok, Sem.run_bind, run_isAgg hd, hagg, Bool.false_eq_true, if_false]
  · rename_i n h
    obtain ⟨d, m, hd, hs, hr⟩ := aggOf_eq h
    by_cases hagg : aggDesc d = true
    · rw [if_pos hagg] at hr
      injection hr with hr
      injection hr with hr
      subst hr
      refine (ldMany_ok hw hp n).of_run ?_
      simp only [Instr.loadAt, loadVar, Sem.run_bind]
      cases hsr : (Instr.sureAddr p').run PP w with
      | halt h w' => rfl
      | ok ad w' => simp only [Result.andThen_ok, Sem.run_bind, run_isAgg hd, hagg, if_true, run_size hs]
    · rw [if_neg hagg] at hr
      split at hr <;> cases hr
  · trivial

theorem oneCell_rel {v : AV} {v' : Value} (h : oneCell v = true) (hv : VRel ρ v v') : v'.oneCell' = true := by
  cases v <;> simp only [VRel] at hv <;> first
    | (subst hv; rfl)
    | (cases h; done)
    | (obtain ⟨_, rfl⟩ := hv; rfl)
    | (obtain ⟨_, _, rfl⟩ := hv; rfl)
    | (obtain ⟨_, _, _, _, _, rfl⟩ := hv; rfl)
    | (obtain ⟨_, _, _, _, _, _, rfl⟩ := hv; rfl)
    | (obtain ⟨_, _, _, _, rfl⟩ := hv; rfl)
    | (obtain ⟨_, _, rfl, _⟩ := hv; rfl)
    | (obtain ⟨_, _, _, rfl, _⟩ := hv; rfl)
    | (obtain ⟨_, rfl, _⟩ := hv; rfl)
    | (rcases hv.2.shape with ⟨_, rfl⟩ | ⟨_, rfl⟩ <;> rfl)
theorem allOne_rel : ∀ (l : List AV) (l' : List Value), allOne l = true → VRels ρ l l' → ∀ v ∈ l', v.oneCell' = true
  | [], _, _, h, v, hv => by simp only [VRels] at h; subst h; cases hv
  | x :: l, _, h, hl, v, hv => by
    simp only [VRels] at hl; obtain ⟨y, ys, rfl, h2, h3⟩ := hl
    have h' : bc (oneCell x) (allOne l) false = true := h
    rw [bc_eq] at h'
    split at h'
    · rename_i hx
      rcases List.mem_cons.1 hv with rfl | hm
      · exact oneCell_rel hx h2
      · exact allOne_rel l ys h' h3 v hm
    · cases h'
/-- cells stored one after the other into one block -/
theorem run_stores (c o : Nat) (t : TypeId) (fz : Nat × Nat) : ∀ (vs : List Value) (i : Nat) (w : World) (arr : Array Value), w.heap[c]? = some (.cells arr t fz) → o + i + vs.length ≤ arr.size →
    (∀ j, o + i ≤ j → j < o + i + vs.length → fz.1 ≤ j → j < fz.2 → False) → (∀ v ∈ vs, v.oneCell' = true) →
    ∃ (w' : World) (arr' : Array Value), (storeCells ⟨c, o, none⟩ vs i).run PP w = .ok () w' ∧ w'.heap[c]? = some (.cells arr' t fz) ∧ arr'.size = arr.size ∧
      (∀ j, arr'[j]? = if o + i ≤ j ∧ j < o + i + vs.length then vs[j - (o + i)]? else arr[j]?) ∧ w'.heap.size = w.heap.size ∧ (∀ d, d ≠ c → w'.heap[d]? = w.heap[d]?) ∧
      w'.os = w.os ∧ w'.tape = w.tape ∧ w'.output = w.output := by
  intro vs
  induction vs with
  | nil =>
    intro i w arr h _ _ _
    exact ⟨w, arr, rfl, h, rfl, fun j => by rw [if_neg (by simp only [List.length_nil]; omega)], rfl, fun _ _ => rfl, rfl, rfl, rfl⟩
  | cons v vs ih =>
    intro i w arr h h1 h2 h3
    simp only [List.length_cons] at h1 h2
    have hcell : w.cell? ⟨c, o + i, none⟩ = some arr[o + i] := by rw [cell_of h]; exact Array.getElem?_eq_getElem (by omega)
    have hfz : w.frozen? ⟨c, o + i, none⟩ = false := by
      simp only [World.frozen?, h]
      by_cases e : fz.1 ≤ o + i ∧ o + i < fz.2
      · exact (h2 (o + i) (Nat.le_refl _) (by omega) e.1 e.2).elim
      · obtain ⟨f1, f2⟩ := fz
        simp only [Bool.and_eq_false_iff, decide_eq_false_iff_not]
        simp only at e
        omega
    have hset : (w.setCell ⟨c, o + i, none⟩ v).heap[c]? = some (.cells (arr.setIfInBounds (o + i) v) t fz) := by
      simp [World.setCell, Array.getElem?_modify, h]
    obtain ⟨w', arr', r1, r2, r3, r4, r5, r6, r7, r8, r9⟩ := ih (i + 1) (w.setCell ⟨c, o + i, none⟩ v) (arr.setIfInBounds (o + i) v) hset (by simp; omega)
      (fun j a b => h2 j (by omega) (by omega)) (fun x hx => h3 x (List.mem_cons_of_mem _ hx))
    refine ⟨w', arr', ?_, r2, by simpa using r3, ?_, by rw [r5, World.size_setCell], ?_, r7, r8, r9⟩
    · simp only [storeCells, Sem.run_bind, addr_add, run_store PP w _ v _ (h3 v (by simp)), hcell, hfz, Bool.false_eq_true, if_false, Result.andThen_ok]
      exact r1
    · intro j
      rw [r4 j]
      by_cases a : o + (i + 1) ≤ j ∧ j < o + (i + 1) + vs.length
      · rw [if_pos a, if_pos ⟨by omega, by simp only [List.length_cons]; omega⟩]
        have e : j - (o + i) = (j - (o + (i + 1))) + 1 := by omega
        rw [e, List.getElem?_cons_succ]
      · rw [if_neg a]
        by_cases b : j = o + i
        · subst b
          rw [if_pos ⟨Nat.le_refl _, by simp only [List.length_cons]; omega⟩]
          simp only [Nat.sub_self, List.getElem?_cons_zero]
          rw [Array.getElem?_setIfInBounds_self_of_lt (by omega)]
        · rw [if_neg (by simp only [List.length_cons]; omega)]
          rw [Array.getElem?_setIfInBounds_ne (by omega)]
    · intro d hd
      rw [r6 d hd]
      exact RowKit.Below.heap_setCell w ⟨c, o + i, none⟩ v d hd
theorem unfrozen_rel {fl fh i n : Nat} {fz : Nat × Nat} (h : unfrozen fl fh i n = true) (hf : fz.1 ≤ fz.2 ∧ ∀ i, fz.1 ≤ i → i < fz.2 → fl ≤ i ∧ i < fh) :
    ∀ j, i ≤ j → j < i + n → fz.1 ≤ j → j < fz.2 → False := by
  intro j h1 h2 h3 h4
  have ⟨a, b⟩ := hf.2 j h3 h4
  unfold unfrozen at h
  simp only [bc_eq] at h
  split at h
  · rename_i e; have := Nat.le_of_ble_eq_true e; omega
  · split at h
    · rename_i e; have := Nat.le_of_ble_eq_true e; omega
    · have := Nat.le_of_ble_eq_true h; omega
/-- a list of cells written into a block -/
theorem objSet_adv (hw : WRel ρ a w) {b : K} {c off : Nat} {l : List AV} {l' : List Value} {o : AObj} (hb : ρ b = some c) (h : objSet (wget b a) off l = some o) (hl : VRels ρ l l') :
    ∃ w', (storeCells ⟨c, off, none⟩ l').run PP w = .ok () w' ∧ Adv ρ a w ρ (wset b o a) w' := by
  cases hg : wget b a <;> rw [hg] at h <;> simp only [objSet] at h <;> try (cases h; done)
  rename_i t size ext fl fh cs
  simp only [bc_eq] at h
  split at h <;> try (cases h; done)
  rename_i h1
  split at h <;> try (cases h; done)
  rename_i h2
  split at h <;> try (cases h; done)
  rename_i h3
  cases h
  rw [llen_eq] at h2 h3
  have h2 := Nat.le_of_ble_eq_true h2
  obtain ⟨arr, fz, e1, e2, e3, e4, e5, e6⟩ := hw.block hg (by simp) hb
  have hlen := VRels.length l l' hl
  obtain ⟨w', arr', r1, r2, r3, r4, r5, r6, r7, r8, r9⟩ := run_stores c off t fz l' 0 w arr e1 (by omega)
    (fun j x y => unfrozen_rel h3 e5 j (by omega) (by omega)) (allOne_rel l l' h1 hl)
  refine ⟨w', r1, adv_put (c := c) hw (by rw [← wget_eq, hg]; simp) (by rw [← wget_eq, hg]; rfl) hb (obj := .cells arr' t fz) ?_ (by simp) (by intro x y z e; cases e; rw [r3]; exact hw.len b c arr t fz (by rw [← wget_eq, hg]; simp) hb e1) r2 r5 r6 r7 r8 r9⟩
  refine ⟨arr', fz, rfl, by omega, fun e => by rw [r3]; exact e3 e, by rw [ccap_cfill]; exact e4, e5, ?_⟩
  intro i hi
  rw [cget_cfill l off cs i (by omega) (by omega), r4 i]
  by_cases x : off ≤ i ∧ i - off < l.length
  · rw [dif_pos x, if_pos ⟨by omega, by omega⟩]
    obtain ⟨v, q1, q2⟩ := VRels.get l l' hl (i - off) x.2
    exact ⟨v, by rw [← q1]; rfl, q2⟩
  · rw [dif_neg x, if_neg (by omega)]
    exact e6 i hi
theorem stMany_ok (hw : WRel ρ a w) {p : AV} {p' : Value} (hp : VRel ρ p p') {l : List AV} {l' : List Value} (hl : VRels ρ l l') :
    UOK ρ a w (do storeCells (← Instr.sureAddr p') l') (stMany l p a) := by
  unfold stMany
  split
  · rename_i b off
    simp only [VRel] at hp
    obtain ⟨c, hc, rfl⟩ := hp
    split
    · rename_i o ho
      obtain ⟨w', h1, h2⟩ := objSet_adv hw hc ho hl
      intro _
      refine ⟨rfl, ρ, w', ?_, h2⟩
      simp [Instr.sureAddr, h1]
    · trivial
  · trivial
theorem cells_one {v : AV} {v' : Value} (h : oneCell v = true) (hv : VRel ρ v v') : v'.cells = #[v'] := by
  have := oneCell_rel h hv
  cases v' <;> first | rfl | cases this
theorem UOK.of_run {s s' : Sem Unit} {r : OR} (h : UOK ρ a w s r) (e : s.run PP w = s'.run PP w) : UOK ρ a w s' r := by
  cases r with
  | val v a' => intro hf; obtain ⟨h0, ρ', w', h1, h3⟩ := h hf; exact ⟨h0, ρ', w', by rw [← e]; exact h1, h3⟩
  | no => trivial
  | _ => exact h
theorem store_ok (hw : WRel ρ a w) {p v : AV} {p' v' : Value} (hp : VRel ρ p p') (hv : VRel ρ v v') (t : TypeId) : UOK ρ a w (Instr.storeAt t p' v') (evStore t p v a) := by
  unfold evStore
  split
  · rename_i h
    obtain ⟨d, n, hd, hs, hr⟩ := aggOf_eq h
    rw [bc_eq]
    split
    · rename_i h1
      have hn : n = 1 := by
        split at hr
        · cases hr
        · split at hr
          · assumption
          · cases hr
      subst hn
      refine (stMany_ok hw hp (l' := [v']) (by simp only [VRels]; exact ⟨v', [], rfl, hv, rfl⟩)).of_run ?_
      simp only [Instr.storeAt, storeVar, Sem.run_bind]
      cases hsr : (Instr.sureAddr p').run PP w with
      | halt h w' => rfl
      | ok ad w' => simp [run_size hs, cells_one h1 hv]
    · trivial
  · rename_i n h
    obtain ⟨d, m, hd, hs, hr⟩ := aggOf_eq h
    have hn : n = m := by
      split at hr
      · injection hr with hr; injection hr
      · split at hr <;> cases hr
    subst hn
    split
    · rename_i l
      rw [bc_eq]
      split
      · rename_i h1
        rw [llen_eq] at h1
        simp only [VRel] at hv
        obtain ⟨ys, rfl, hl⟩ := hv
        refine (stMany_ok hw hp hl).of_run ?_
        simp only [Instr.storeAt, storeVar, Sem.run_bind]
        cases hsr : (Instr.sureAddr p').run PP w with
        | halt h w' => rfl
        | ok ad w' =>
          have hlen := VRels.length _ _ hl
          have h2 := Nat.eq_of_beq_eq_true h1
          have : ys.size = n := by rw [← h2, ← hlen]; simp
          simp [run_size hs, Value.cells, this]
      · trivial
    · trivial
  · trivial
end
end Go.Ev
