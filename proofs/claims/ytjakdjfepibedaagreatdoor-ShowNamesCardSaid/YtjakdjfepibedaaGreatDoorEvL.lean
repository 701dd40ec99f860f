import Derived.Test.YtjakdjfepibedaaGreatDoorEvI
import Derived.Lib.UnsafeStr
import Derived.KernelRfl
import Derived.Laws.IdiomStrings
set_option linter.all false
namespace Go.Ev
/- Assertions, picks, maps, closures. -/
section
variable {ρ : Env} {a : W} {w : World}
theorem holds_ok (hw : WRel ρ a w) {v : AV} {v' : Value} {ok : Bool} {s : Sem Value} (h : VRel ρ v v') (hs : s.run PP w = .ok (if ok then .tuple #[v', .bool true] else v') w) :
    VOK ρ a w s (.val (if ok = true then .tuple [v, .bool true] else v) a) := by
  refine VOK.here hw hs ?_
  cases ok
  · exact h
  · show VRel ρ (.tuple [v, .bool true]) (.tuple #[v', .bool true])
    simp only [VRel]
    refine ⟨_, rfl, ?_⟩
    simp only [VRels]
    exact ⟨_, _, rfl, h, _, _, rfl, by simp only [VRel], rfl⟩
theorem isIface_true {t : TypeId} (h : isIface t = true) : ∃ ms, undOf t = some (.interface ms) := by
  unfold isIface at h; split at h
  · rename_i ms hu; exact ⟨ms, hu⟩
  · cases h
theorem assert_ok (hw : WRel ρ a w) {x : AV} {x' : Value} {xt t : TypeId} {ok : Bool} (h : VRel ρ x x') : VOK ρ a w (Instr.typeAssert x' xt t ok) (evAssert x t ok a) := by
  unfold evAssert
  simp only [bc_eq]
  split
  · simp only [VRel] at h; subst h
    split <;> try trivial
    rename_i hs
    obtain ⟨d, hu⟩ := Option.isSome_iff_exists.1 hs
    split <;> try trivial
    rename_i hok; subst hok
    refine zero_pair hw fun i z hi hz => ?_
    simp only [Instr.typeAssert, Sem.run_bind, run_und hu, Result.andThen_ok]
    cases d <;> simp only [if_true, Sem.run_bind, run_zero hi hz, Result.andThen_ok, Sem.run_pure]
  · rename_i dt v
    simp only [VRel] at h; obtain ⟨v', rfl, hv⟩ := h
    split <;> try trivial
    · rename_i hA
      unfold asserts at hA
      split at hA
      · rename_i want hu
        rw [Option.map_eq_some_iff] at hA
        obtain ⟨i, hi, hm⟩ := hA
        have hi := infoOf_eq hi
        have hf : isIface t = true := by unfold isIface; rw [hu]
        rw [hf, if_pos rfl]
        have hm : Instr.missingMethod want i.methods = none := by simpa using hm
        refine holds_ok hw (v := .iface dt v) (v' := .iface dt v') (by simp only [VRel]; exact ⟨v', rfl, hv⟩) ?_
        simp only [Instr.typeAssert, Sem.run_bind, run_und hu, Result.andThen_ok, run_info hi, hm, Sem.run_pure]
      · rename_i d hne hu
        have hf : isIface t = false := by unfold isIface; rw [hu]; cases d <;> first | rfl | exact absurd rfl (hne _)
        rw [hf]
        simp only [Bool.false_eq_true, if_false]
        simp only [Option.some.injEq] at hA
        have hA := Nat.eq_of_beq_eq_true hA
        subst hA
        refine holds_ok hw hv ?_
        simp only [Instr.typeAssert, Sem.run_bind, run_und hu, Result.andThen_ok]
        cases d <;> first | exact absurd rfl (hne _) | simp only [if_true, Sem.run_pure]
      · cases hA
    · rename_i hA
      split <;> try trivial
      rename_i hok; subst hok
      refine zero_pair hw fun iz z hiz hz => ?_
      unfold asserts at hA
      split at hA
      · rename_i want hu
        rw [Option.map_eq_some_iff] at hA
        obtain ⟨i, hi, hm⟩ := hA
        have hi := infoOf_eq hi
        cases hmm : Instr.missingMethod want i.methods with
        | none => rw [hmm] at hm; cases hm
        | some m => simp only [Instr.typeAssert, Sem.run_bind, run_und hu, Result.andThen_ok, run_info hi, hmm, if_true, run_zero hiz hz, Sem.run_pure]
      · rename_i d hne hu
        simp only [Option.some.injEq] at hA
        have hA : ¬ dt = t := by intro e; subst e; simp at hA
        simp only [Instr.typeAssert, Sem.run_bind, run_und hu, Result.andThen_ok]
        cases d <;> first | exact absurd rfl (hne _) | simp only [hA, if_false, if_true, Sem.run_bind, run_zero hiz hz, Result.andThen_ok, Sem.run_pure]
      · cases hA
  · trivial
theorem pick_ok (hw : WRel ρ a w) {c x y : AV} {c' x' y' : Value} (hc : VRel ρ c c') (hx : VRel ρ x x') (hy : VRel ρ y y') :
    VOK ρ a w (do pure (if ← asBool c' then x' else y')) (evPick c x y a) := by
  unfold evPick
  split <;> try trivial
  rename_i b
  simp only [VRel] at hc; subst hc
  refine VOK.here hw (v' := if b then x' else y') (by simp only [asBool, Sem.run_bind, Sem.run_pure, Result.andThen_ok]) ?_
  cases b
  · exact hy
  · exact hx
theorem makeMap_ok (hw : WRel ρ a w) {t : TypeId} {r : Option AV} {r' : Option Value} (hr : match r with | some x => ∃ x', r' = some x' ∧ VRel ρ x x' | none => r' = none) :
    VOK ρ a w (Instr.makeMap t r') (evMakeMap t r a) := by
  have key : ∀ s : Sem Value, s.run PP w = (do pure (.map (some (← newObj (.map #[] 0)))) : Sem Value).run PP w → VOK ρ a w s (wnew (.map []) .map a) := by
    intro s hs
    refine wnew_ok hw (obj := .map #[] 0) (f' := fun c => .map (some c)) ?_ ?_ ?_
    · exact ⟨#[], 0, rfl, by simp only [ERel]⟩
    · intro ρ' k c hk; simp only [VRel]; exact ⟨c, hk, rfl⟩
    · rw [hs]; simp only [Sem.run_bind, run_newObj, Result.andThen_ok, Sem.run_pure]; rfl
  unfold evMakeMap
  split
  · dsimp only at hr; subst hr
    exact key _ (by simp only [Instr.makeMap, Sem.run_bind, Result.andThen_ok, Sem.run_pure])
  · dsimp only at hr; obtain ⟨x', rfl, hx⟩ := hr
    split <;> try trivial
    rename_i hu
    simp only [VRel] at hx; subst hx
    exact key _ (by simp only [Instr.makeMap, Sem.run_bind, run_und hu, asInt, asIntOf, Result.andThen_ok, Sem.run_pure])
theorem makeFunc_ok (hw : WRel ρ a w) {fn : Fn} {f c : List AV} {f' c' : Array Value} (hf : VRels ρ f f'.toList) (hc : VRels ρ c c'.toList) : VOK ρ a w (Instr.makeFunc fn f' c') (bc (plainFn fn) (.val (.func fn f c) a) (.no 175)) := by
  rw [bc_eq]
  split <;> try trivial
  rename_i hp
  refine VOK.here hw (v' := .func fn f' c') (by simp only [Instr.makeFunc, Sem.run_pure]) ?_
  simp only [VRel]; exact ⟨_, _, _, rfl, FnRel.refl (by rintro n rfl; cases hp), hf, hc⟩
theorem cap_nil (hw : WRel ρ a w) {t ty : TypeId} {ts : Array TypeId} {e : TypeId} {x' : Value} (h0 : ts[0]? = some t) (hu : undOf t = some (.slice e)) (hx : VRel ρ .nilSlice x') : VOK ρ a w (Builtin.cap_ ts ty #[x']) (.val (.int .i64 0) a) := by
  simp only [VRel] at hx; subst hx
  exact VOK.here hw (by simp only [Builtin.cap_, h0, List.getElem?_toArray, List.getElem?_cons_zero, Sem.run_bind, run_und hu, Result.andThen_ok, Sem.run_pure]; rfl) (rel_int rfl)
end
end Go.Ev
set_option linter.all false
namespace Go.Ev
/- Copy, conversions, min and max, unsafe strings. -/
section
variable {ρ : Env} {a : W} {w : World}
theorem copy_src (hw : WRel ρ a w) {size n len m : Nat} {s : AV} {s' : Value} {l : List AV} (hs : VRel ρ s s') (hn : lenS s = some n) (hl : srcCells size (cutSrc (min n len) s) a = some (m, l)) :
    ∃ l' : List Value, Builtin.lenOf s' = pure n ∧ (Builtin.firstCells size (min n len) s').run PP w = .ok l'.toArray w ∧ VRels ρ l l' := by
  unfold lenS at hn
  split at hn <;> cases hn
  · simp only [VRel] at hs; subst hs
    simp only [cutSrc, srcCells] at hl
    cases hl
    exact ⟨[], rfl, by simp [Builtin.firstCells], by simp only [VRels]⟩
  · rename_i b' off' cp ex'
    simp only [cutSrc, bc_eq] at hl
    split at hl
    · rename_i hk
      have hk := Nat.le_of_ble_eq_true hk
      simp only [VRel] at hs
      obtain ⟨c', cp', q1, q2, q3, rfl⟩ := hs
      obtain ⟨l', ⟨r1, r2, r3⟩, r4⟩ := srcCells_rel hw hl (x' := .slice (some ⟨c', off', none⟩) (min n len) cp') (by simp only [VRel]; exact ⟨c', cp', q1, ⟨by omega, q2.2⟩, q3, rfl⟩)
      have hm : m = min n len := by
        simp only [srcCells, Option.map_eq_some_iff] at hl
        obtain ⟨_, _, e⟩ := hl; cases e; rfl
      subst hm
      refine ⟨l', rfl, ?_, r4⟩
      have := r3 w rfl
      simpa only [Builtin.firstCells] using this
    · cases hl
  · rename_i k
    simp only [cutSrc, bc_eq] at hl
    split at hl
    · rename_i hk
      have hk := Nat.eq_of_beq_eq_true hk
      obtain ⟨l', ⟨r1, r2, r3⟩, r4⟩ := srcCells_rel hw hl hs
      have hm : m = n := by
        simp only [srcCells, bc_eq] at hl
        split at hl
        · cases hl; rfl
        · cases hl
      subst hm
      refine ⟨l', r1, ?_, r4⟩
      rw [hk]; exact r3 w rfl
    · cases hl
theorem copy_ok (hw : WRel ρ a w) {t ty : TypeId} {ts : Array TypeId} {d s : AV} {d' s' : Value} (h0 : ts[0]? = some t) (hd : VRel ρ d d') (hs : VRel ρ s s') :
    VOK ρ a w (Builtin.copy_ ts ty #[d', s']) (evCopy t d s a) := by
  unfold evCopy
  split <;> try trivial
  rename_i e hu
  split <;> try trivial
  rename_i size n hsz hn
  split <;> try trivial
  rename_i b off len cap ex
  simp only [VRel] at hd
  obtain ⟨c, cap', hc, hcap, hso, rfl⟩ := hd
  have hnn : Nat.min n len = min n len := rfl
  split <;> try trivial
  · rename_i m hl
    obtain ⟨l', k1, k2, k3⟩ := copy_src hw hs hn hl
    simp only [VRels] at k3
    subst k3
    refine VOK.here hw (v' := .int .i64 (.ofNat (min n len))) ?_ (rel_int rfl)
    simp only [Builtin.copy_, h0, List.getElem?_toArray, List.getElem?_cons_zero, List.getElem?_cons_succ, Sem.run_bind, run_und hu, Result.andThen_ok, k1, Sem.run_pure, run_size hsz, hnn, k2]
    rfl
  · rename_i m x l hl
    split <;> try trivial
    rename_i o ho
    obtain ⟨l', k1, k2, k3⟩ := copy_src hw hs hn hl
    obtain ⟨w', s1, s2⟩ := objSet_adv hw hc ho k3
    intro _
    refine ⟨ρ, w', .int .i64 (.ofNat (min n len)), ?_, rel_int rfl, s2⟩
    simp only [Builtin.copy_, h0, List.getElem?_toArray, List.getElem?_cons_zero, List.getElem?_cons_succ, Sem.run_bind, run_und hu, Result.andThen_ok, k1, Sem.run_pure, run_size hsz, hnn, k2, s1]
    rfl
theorem cap_ok (hw : WRel ρ a w) {t ty : TypeId} {ts : Array TypeId} {x : AV} {x' : Value} (h0 : ts[0]? = some t) (hx : VRel ρ x x') : VOK ρ a w (Builtin.cap_ ts ty #[x']) (evCap t x a) := by
  unfold evCap
  split <;> try trivial
  · rename_i hu
    exact cap_nil hw h0 hu hx
  · rename_i hu
    simp only [VRel, SlOk] at hx
    obtain ⟨c, cap', hc, _, hso, rfl⟩ := hx
    subst hso
    exact VOK.here hw (by simp only [Builtin.cap_, h0, List.getElem?_toArray, List.getElem?_cons_zero, Sem.run_bind, run_und hu, Result.andThen_ok, Sem.run_pure]; rfl) (rel_int rfl)
theorem sdata_ok (hw : WRel ρ a w) {ty : TypeId} {ts : Array TypeId} {x : AV} {x' : Value} (hx : VRel ρ x x') : VOK ρ a w (Builtin.unsafeSliceData_ ts ty #[x']) (evSData x a) := by
  unfold evSData
  split <;> try trivial
  · simp only [VRel] at hx; subst hx
    exact VOK.here hw (v' := .pointer none) rfl (by simp only [VRel])
  · rename_i b off len cap ex
    simp only [VRel] at hx
    obtain ⟨c, cap', hc, hcap, hso, rfl⟩ := hx
    rw [bc_eq]
    split <;> try trivial
    rename_i h
    have h : cap ≠ 0 := fun e => h (by rw [e]; rfl)
    have h' : cap' ≠ 0 := by omega
    exact VOK.here hw (v' := .pointer (some ⟨c, off, none⟩)) (by show Sem.run PP (if cap' ≠ 0 then (pure (.pointer (some ⟨c, off, none⟩)) : Sem Value) else _) w = _; rw [if_pos h', Sem.run_pure]) (by simp only [VRel]; exact ⟨c, hc, rfl⟩)
end
end Go.Ev
set_option linter.all false
namespace Go.Ev
/- Conversions, min and max, unsafe strings. -/
section
variable {ρ : Env} {a : W} {w : World}
theorem bytesAV_rel : ∀ (l : List AV) (l' : List Value) (ns : List Nat), bytesAV l = some ns → VRels ρ l l' → ∃ bs : List UInt8, bs.length = ns.length ∧ l' = bs.map (fun b => Value.int .u8 b.toNat) ∧ ∀ x, packN ns x = packL bs x
  | [], l', ns, h, hl => by
    simp only [bytesAV] at h; cases h
    simp only [VRels] at hl; subst hl
    exact ⟨[], rfl, rfl, fun _ => rfl⟩
  | v :: l, l', ns, h, hl => by
    unfold bytesAV at h
    split at h
    · rename_i e; cases e
    · rename_i n r e
      cases e
      rw [bc_eq] at h
      split at h <;> try (cases h; done)
      rename_i hn
      have hn := Nat.le_of_ble_eq_true hn
      rw [Option.map_eq_some_iff] at h
      obtain ⟨ms, hm, rfl⟩ := h
      simp only [VRels, VRel] at hl
      obtain ⟨v, vs, rfl, rfl, hvs⟩ := hl
      obtain ⟨bs, h1, rfl, h3⟩ := bytesAV_rel l vs ms hm hvs
      have hb : (UInt8.ofNat n).toNat = n := by simp; omega
      refine ⟨UInt8.ofNat n :: bs, by simp [h1], by simp only [List.map_cons, hb]; rfl, fun x => ?_⟩
      show packN ms (x * 256 + n) = packL bs (x * 256 + (UInt8.ofNat n).toNat)
      rw [h3, hb]
    · cases h
theorem str_rel {bs : List UInt8} {ns : List Nat} (h1 : bs.length = ns.length) (h : ∀ x, packN ns x = packL bs x) : VRel ρ (.str (llen ns) (packN ns 0)) (.string ⟨bs.toArray⟩) := by
  simp only [VRel]
  rw [llen_eq, h, ← h1]
  refine ⟨pack_lt bs, ?_⟩
  congr 1
  have := unpack_pack ⟨bs.toArray⟩
  simpa using this.symm
theorem ustring_pk (hw : WRel ρ a w) {pt it ty t : TypeId} {b : K} {c off n len m fl fh : Nat} (hg : wget b a = .pk t len m fl fh) (hc : ρ b = some c) (hnn : n ≠ 0) :
    VOK ρ a w (Builtin.unsafeString_ #[pt, it] ty #[.pointer (some ⟨c, off, none⟩), .int .i64 (Int.ofNat n)]) (bc (Nat.beq off 0 && Nat.beq n len && Nat.ble n 1000000) (match undOf pt, sizeOf t with
      | some (.pointer u), some s => bc (Nat.beq t u && Nat.beq s 1) (.val (.str len m) (wset b (.pk t len m 0 (max fh n)) a)) (.no 129)
      | _, _ => .no 130) (.no 131)) := by
  rw [bc_eq]; split <;> try trivial
  rename_i hcond
  simp only [Bool.and_eq_true] at hcond
  obtain ⟨⟨k1, k2⟩, k3⟩ := hcond
  have k1 := Nat.eq_of_beq_eq_true k1
  have k2 := Nat.eq_of_beq_eq_true k2
  have k3 := Nat.le_of_ble_eq_true k3
  subst k1 k2
  split <;> try trivial
  rename_i u s hu hsz
  rw [bc_eq]; split <;> try trivial
  rename_i hcond
  simp only [Bool.and_eq_true] at hcond
  have k4 := Nat.eq_of_beq_eq_true hcond.1
  have k5 := Nat.eq_of_beq_eq_true hcond.2
  subst k4; subst k5
  obtain ⟨arr, fz, e1, e2, e5, e6, e7⟩ := hw.block hg (by simp) hc
  have hco : PP.cellsOf t = 1 := by
    unfold Go.Ev.sizeOf at hsz
    rw [Option.map_eq_some_iff] at hsz
    obtain ⟨i, hi, h1⟩ := hsz
    unfold Program.cellsOf
    rw [infoOf_eq hi, Option.map_some, Option.getD_some, h1]
  have hsh : w.shape? c = some (t, arr.size) := by simp [World.shape?, e1]
  have hbl : (bytesOf n m).length = n := bytesOf_length ..
  have hrun := Lib.run_unsafeString_row (P := PP) w pt it ty t (undOf_eq hu) hco c arr.size hsh (bytesOf n m) (by intro e; rw [e] at hbl; exact hnn hbl.symm) (by omega) (by omega)
    (fun j x hj => by
      rw [addr_add, Nat.zero_add, cell_of e1]
      exact e7 j x hj)
  rw [hbl] at hrun
  intro _
  obtain ⟨lo, hi⟩ := fz
  have hlt := (Array.getElem?_eq_some_iff.1 e1).1
  refine ⟨ρ, w.freeze ⟨c, 0, none⟩ n, .string ⟨(bytesOf n m).toArray⟩, hrun, by simp only [VRel]; exact ⟨e6, rfl⟩, ?_⟩
  refine adv_put (c := c) (obj := .cells arr t (if lo == hi then (0, 0 + n) else (min lo 0, max hi (0 + n)))) hw (by rw [← wget_eq, hg]; simp) (by rw [← wget_eq, hg]; rfl) hc ?_ (by simp) ?_ ?_ ?_ ?_ ?_ ?_ ?_
  · refine ⟨arr, _, rfl, e2, ?_, e6, e7⟩
    obtain ⟨g1, g2⟩ := e5
    simp only at g1 g2
    by_cases hlh : lo = hi
    · subst hlh
      simp only [BEq.rfl, if_true]
      exact ⟨by omega, fun i _ hi => ⟨Nat.zero_le _, by omega⟩⟩
    · have hb : (lo == hi) = false := by simpa using hlh
      simp only [hb, Bool.false_eq_true, if_false]
      have := g2 (hi - 1) (by omega) (by omega)
      exact ⟨by omega, fun i _ hi => ⟨Nat.zero_le _, by omega⟩⟩
  · intro x y z e; cases e; exact hw.len b c arr t (lo, hi) (by rw [← wget_eq, hg]; simp) hc e1
  · unfold World.freeze; rw [if_neg hnn]; simp [Array.getElem?_modify, e1]
  · unfold World.freeze; rw [if_neg hnn]; simp
  · intro d hd; unfold World.freeze; rw [if_neg hnn]; simp [Array.getElem?_modify, Ne.symm hd]
  · unfold World.freeze; rw [if_neg hnn]
  · unfold World.freeze; rw [if_neg hnn]
  · unfold World.freeze; rw [if_neg hnn]
theorem ustring_ok (hw : WRel ρ a w) {pt it ty : TypeId} {p n : AV} {p' n' : Value} (hp : VRel ρ p p') (hn : VRel ρ n n') : VOK ρ a w (Builtin.unsafeString_ #[pt, it] ty #[p', n']) (evUString pt p n a) := by
  unfold evUString
  have hz : ∀ q : Option Addr, VOK ρ a w (Builtin.unsafeString_ #[pt, it] ty #[.pointer q, .int .i64 (Int.ofNat 0)]) (.val (.str 0 0) a) := fun q =>
    VOK.here hw (v' := .string .empty) (Lib.run_unsafeString_none (P := PP) w pt it ty q) (by simp only [VRel]; exact ⟨by simp, rfl⟩)
  split <;> try trivial
  · rename_i n
    simp only [VRel] at hp hn
    subst hp; subst hn
    rw [bc_eq]; split <;> try trivial
    rename_i h
    have h := Nat.eq_of_beq_eq_true h
    subst h
    exact hz none
  · rename_i b off n
    simp only [VRel] at hp hn
    subst hn
    obtain ⟨c, hc, rfl⟩ := hp
    rw [bc_eq]; split
    · rename_i h
      have h := Nat.eq_of_beq_eq_true h
      subst h
      exact hz _
    rename_i hn0
    split <;> try trivial
    rotate_left
    · rename_i t len m fl fh hg
      exact ustring_pk hw hg hc (fun e => hn0 (by rw [e]; rfl))
    rename_i t size ext fl fh cs hg
    rw [bc_eq]; split <;> try trivial
    rename_i hcond
    simp only [Bool.and_eq_true] at hcond
    obtain ⟨⟨k1, k2⟩, k3⟩ := hcond
    have k1 := Nat.eq_of_beq_eq_true k1
    have k2 := Nat.le_of_ble_eq_true k2
    have k3 := Nat.le_of_ble_eq_true k3
    subst k1
    split <;> try trivial
    rename_i u s l hu hsz hl
    rw [bc_eq]; split <;> try trivial
    rename_i hcond
    simp only [Bool.and_eq_true] at hcond
    have k4 := Nat.eq_of_beq_eq_true hcond.1
    have k5 := Nat.eq_of_beq_eq_true hcond.2
    subst k4; subst k5
    obtain ⟨arr, fz, e1, e2, e3, e4, e5, e6⟩ := hw.block hg (by simp) hc
    obtain ⟨l', q1, q2, q3⟩ := list_cells (i := 0) (n := n) e6 (by omega)
    obtain ⟨bs, b1, rfl, b3⟩ := bytesAV_rel _ _ _ hl q2
    have hbn : bs.length = n := by simpa using q1
    have hco : PP.cellsOf t = 1 := by
      unfold Go.Ev.sizeOf at hsz
      rw [Option.map_eq_some_iff] at hsz
      obtain ⟨i, hi, h1⟩ := hsz
      unfold Program.cellsOf
      rw [infoOf_eq hi, Option.map_some, Option.getD_some, h1]
    have hsh : w.shape? c = some (t, arr.size) := by simp [World.shape?, e1]
    have hnn : n ≠ 0 := fun e => hn0 (by rw [e]; rfl)
    have hrun := Lib.run_unsafeString_row (P := PP) w pt it ty t (undOf_eq hu) hco c arr.size hsh bs (by rintro rfl; exact hnn (by simpa using hbn.symm)) (by omega) (by omega)
      (fun j x hj => by
        rw [addr_add, Nat.zero_add, cell_of e1]
        have := q3 j (.int .u8 x.toNat) (by simp [hj])
        simpa using this)
    rw [hbn] at hrun
    intro _
    obtain ⟨lo, hi⟩ := fz
    have hlt := (Array.getElem?_eq_some_iff.1 e1).1
    refine ⟨ρ, w.freeze ⟨c, 0, none⟩ n, .string ⟨bs.toArray⟩, hrun, str_rel b1 b3, ?_⟩
    refine adv_put (c := c) (obj := .cells arr t (if lo == hi then (0, 0 + n) else (min lo 0, max hi (0 + n)))) hw (by rw [← wget_eq, hg]; simp) (by rw [← wget_eq, hg]; rfl) hc ?_ (by simp) ?_ ?_ ?_ ?_ ?_ ?_ ?_
    · refine ⟨arr, _, rfl, e2, e3, e4, ?_, e6⟩
      obtain ⟨g1, g2⟩ := e5
      simp only at g1 g2
      by_cases hlh : lo = hi
      · subst hlh
        simp only [BEq.rfl, if_true]
        exact ⟨by omega, fun i _ hi => ⟨Nat.zero_le _, by omega⟩⟩
      · have hb : (lo == hi) = false := by simpa using hlh
        simp only [hb, Bool.false_eq_true, if_false]
        have := g2 (hi - 1) (by omega) (by omega)
        exact ⟨by omega, fun i _ hi => ⟨Nat.zero_le _, by omega⟩⟩
    · intro x y z e; cases e; exact hw.len b c arr t (lo, hi) (by rw [← wget_eq, hg]; simp) hc e1
    · unfold World.freeze; rw [if_neg hnn]; simp [Array.getElem?_modify, e1]
    · unfold World.freeze; rw [if_neg hnn]; simp
    · intro d hd; unfold World.freeze; rw [if_neg hnn]; simp [Array.getElem?_modify, Ne.symm hd]
    · unfold World.freeze; rw [if_neg hnn]
    · unfold World.freeze; rw [if_neg hnn]
    · unfold World.freeze; rw [if_neg hnn]
theorem minmax_run {ts : Array TypeId} {ty : TypeId} (mx : Bool) (k : IntKind) (x y : Int) :
    (bif mx then Builtin.max_ ts ty #[.int k x, .int k y] else Builtin.min_ ts ty #[.int k x, .int k y]).run PP w = .ok (.int k (bc (ileb x y) (bc mx y x) (bc mx x y))) w := by
  have hle := ileb_eq x y
  cases mx
  · simp only [cond_false, Builtin.min_, List.foldlM_cons, List.foldlM_nil, Builtin.min2, Sem.run_bind, Sem.run_pure, Result.andThen_ok]
    rw [hle, bc_eq]
    congr 2
    by_cases e : x ≤ y
    · simp only [e, decide_true, if_true, bc_eq, Bool.false_eq_true, if_false]; split <;> omega
    · simp only [e, decide_false, bc_eq, Bool.false_eq_true, if_false]; split <;> omega
  · simp only [cond_true, Builtin.max_, List.foldlM_cons, List.foldlM_nil, Builtin.max2, Sem.run_bind, Sem.run_pure, Result.andThen_ok]
    rw [hle, bc_eq]
    congr 2
    by_cases e : x ≤ y
    · simp only [e, decide_true, if_true, bc_eq]; split <;> omega
    · simp only [e, decide_false, bc_eq, Bool.false_eq_true, if_false, if_true]; split <;> omega
theorem minmax_ok (hw : WRel ρ a w) {ts : Array TypeId} {ty : TypeId} {mx : Bool} {l : List AV} {l' : Array Value} {c : Nat} (hl : VRels ρ l l'.toList) :
    VOK ρ a w (bif mx then Builtin.max_ ts ty l' else Builtin.min_ ts ty l') (retO (evMin mx l) a c) := by
  refine retO_ok hw fun v hv => ?_
  have two : ∀ (x y : Value), l'.toList = [x, y] → l' = #[x, y] := fun x y h => Array.toList_inj.1 (by simpa using h)
  unfold evMin at hv
  split at hv <;> try (cases hv; done)
  · rename_i k x k' y
    rw [bc_eq] at hv
    split at hv <;> try (cases hv; done)
    rename_i hk
    have hk := (kbeq_iff _ _).1 hk
    subst hk
    cases hv
    simp only [VRels, VRel] at hl
    obtain ⟨v1, r1, h1, h2, v2, r2, h3, h4, h5⟩ := hl
    subst h2 h4 h5 h3
    rw [two _ _ h1]
    exact ⟨_, minmax_run mx k x y, rel_int rfl⟩
  · rename_i k x A k' y A'
    rw [bc_eq] at hv
    split at hv <;> try (cases hv; done)
    rename_i hk
    have hk := (kbeq_iff _ _).1 hk
    subst hk
    simp only [VRels, VRel] at hl
    obtain ⟨v1, r1, h1, ⟨hV, hA, h2⟩, v2, r2, h3, ⟨_, _, h4⟩, h5⟩ := hl
    subst h2 h4 h5 h3
    rw [two _ _ h1]
    exact ⟨_, minmax_run mx k _ _, symMax_ok hV hA hv _ (rel_int rfl)⟩
  · rename_i k x A k' y
    rw [bc_eq] at hv
    split at hv <;> try (cases hv; done)
    rename_i hk
    have hk := (kbeq_iff _ _).1 hk
    subst hk
    simp only [VRels, VRel] at hl
    obtain ⟨v1, r1, h1, ⟨hV, hA, h2⟩, v2, r2, h3, h4, h5⟩ := hl
    subst h2 h4 h5 h3
    rw [two _ _ h1]
    exact ⟨_, minmax_run mx k _ _, symMax_ok (b := .c y) hV hA hv _ (rel_int rfl)⟩
  · rename_i k' x k y A
    rw [bc_eq] at hv
    split at hv <;> try (cases hv; done)
    rename_i hk
    have hk := (kbeq_iff _ _).1 hk
    subst hk
    simp only [VRels, VRel] at hl
    obtain ⟨v1, r1, h1, h2, v2, r2, h3, ⟨hV, hA, h4⟩, h5⟩ := hl
    subst h2 h4 h5 h3
    rw [two _ _ h1]
    exact ⟨_, minmax_run mx k _ _, symMax_ok (a := .c x) hV hA hv _ (rel_int rfl)⟩
theorem cellsOf_eq {t s : Nat} (h : Go.Ev.sizeOf t = some s) : PP.cellsOf t = s := by
  unfold Go.Ev.sizeOf at h
  rw [Option.map_eq_some_iff] at h
  obtain ⟨i, hi, h1⟩ := h
  unfold Program.cellsOf
  rw [infoOf_eq hi, Option.map_some, Option.getD_some, h1]
theorem plain_all : plainStructs.all (fun t => !PP.stoodInHeld t) = true := by kernel_rfl
theorem not_held {t : Nat} (h : hasN t plainStructs = true) : PP.stoodInHeld t = false := by
  have : ∀ l : List Nat, hasN t l = true → t ∈ l := by
    intro l
    induction l with
    | nil => intro h; cases h
    | cons x l ih =>
      intro h
      simp only [hasN, bc_eq] at h
      split at h
      · rename_i e; rw [Nat.eq_of_beq_eq_true e]; simp
      · exact List.mem_cons_of_mem _ (ih h)
  have := List.all_eq_true.1 plain_all t (this _ h)
  simpa using this
theorem hasFld_spec {off u : Nat} : ∀ {l : List Field}, hasFld off u l = true → ∃ f ∈ l, f.offset = off ∧ f.type = u
  | f :: l, h => by
    simp only [hasFld, bc_eq] at h
    split at h
    · rename_i hc
      simp only [Bool.and_eq_true] at hc
      exact ⟨f, by simp, Nat.eq_of_beq_eq_true hc.1, Nat.eq_of_beq_eq_true hc.2⟩
    · obtain ⟨g, h1, h2⟩ := hasFld_spec h
      exact ⟨g, by simp [h1], h2⟩
theorem liesF_lies {t size off u : Nat} (h : liesF t size off u = true) : liesAt PP PP.depth t (size / PP.cellsOf t) off u 1 = true := by
  unfold liesF at h
  split at h
  · rename_i fs st su hu hst hsu
    simp only [Bool.and_eq_true] at h
    obtain ⟨⟨⟨⟨k0, k1⟩, k2⟩, k3⟩, k4⟩ := h
    have k0 := not_held k0
    have k1 := Nat.eq_of_beq_eq_true k1
    have k2 : off < st := Nat.le_of_ble_eq_true k2
    have k3 : 0 < su := Nat.le_of_ble_eq_true k3
    obtain ⟨f, hf, hoff, hty⟩ := hasFld_spec k4
    have hct := cellsOf_eq hst
    have hcu := cellsOf_eq hsu
    have hdp : PP.depth = (2 * (PP.types.size + Made.depth) + 1) + 1 := rfl
    have h0 : off / st = 0 := Nat.div_eq_of_lt k2
    have h1 : off % st = off := Nat.mod_eq_of_lt k2
    have hs0 : st ≠ 0 := by omega
    have hu0 : su ≠ 0 := by omega
    have hdd : st / st = 1 := Nat.div_self (by omega)
    rw [hct, k1, hdd]
    rw [hdp]
    simp only [liesAt, Bool.or_eq_true]
    left
    rw [hdp]
    have inner : rowAt PP (fun x => sameLayout PP (2 * (PP.types.size + Made.depth) + 1 + 1) x u) (2 * (PP.types.size + Made.depth) + 1) u 1 0 1 = true := by
      simp [rowAt, hcu, hu0, sameLayout]
    rw [rowAt]
    simp only [hct, hs0, if_false, h0, h1, undOf_eq hu, k0, Bool.not_false, Bool.true_and, Nat.zero_lt_one, decide_true, Bool.or_eq_true]
    right
    rw [Array.any_eq_true']
    refine ⟨f, by simpa using hf, ?_⟩
    rw [hoff, hty, hcu]
    simp only [Nat.le_refl, decide_true, Bool.true_and, Nat.sub_self, inner, Bool.and_true, decide_eq_true_eq]
    omega
  · cases h
theorem conv_ok (hw : WRel ρ a w) {src dst : TypeId} {x : AV} {x' : Value} (hx : VRel ρ x x') : VOK ρ a w (convert src dst x') (evConv src dst x a) := by
  unfold evConv
  split <;> try trivial
  · rename_i d k k' n hs hd
    simp only [VRel] at hx; subst hx
    refine VOK.here hw (v' := .int k (k.wrap n)) ?_ (rel_int (wrapF_eq k n))
    simp only [convert, Sem.run_bind, run_und hs, run_und hd, Result.andThen_ok]
    cases d <;> simp only [Conv.intToInt, Sem.run_pure]
  · rename_i d k n hs hd
    simp only [VRel] at hx; subst hx
    refine VOK.here hw (v' := .string (Utf8.encode n)) ?_ ?_
    · simp only [convert, Sem.run_bind, run_und hs, run_und hd, Result.andThen_ok]
      cases d <;> simp only [Conv.intToString, Sem.run_pure]
    · simp only [VRel]; exact ⟨pack_lt _, by rw [unpack_pack]⟩
  · rename_i d l n hs hd
    have hx0 := hx
    simp only [VRel] at hx; obtain ⟨_, rfl⟩ := hx
    refine VOK.here hw (v' := .string (unpack l n)) ?_ hx0
    simp only [convert, Sem.run_bind, run_und hs, run_und hd, Result.andThen_ok]
    cases d <;> simp only [Sem.run_pure]
  · rename_i e hs hd _ _
    split <;> try trivial
    rename_i he
    split <;> try trivial
    rename_i l hl
    rw [Option.bind_eq_some_iff] at hl
    obtain ⟨cs, h1, h2⟩ := hl
    unfold readSlice at h1
    split at h1 <;> try (cases h1; done)
    · cases h1
      simp only [bytesAV] at h2; cases h2
      simp only [VRel] at hx; subst hx
      refine VOK.here hw (v' := .string .empty) ?_ (by simp only [VRel]; exact ⟨by simp [packN, llen], rfl⟩)
      rw [run_convert_bytes_string (P := PP) w src dst e none 0 0 (undOf_eq hs) (undOf_eq he) (undOf_eq hd)]
      rfl
    · rename_i len _ _ _ _
      simp only [VRel] at hx
      obtain ⟨c, cap', hc, hcap, hso, rfl⟩ := hx
      rw [Nat.mul_one] at h1
      obtain ⟨l', q1, q2, q3⟩ := objList_rel h1 (hw.block rfl (objList_ne h1) hc)
      obtain ⟨bs, b1, rfl, b3⟩ := bytesAV_rel _ _ _ h2 q2
      have hbn : bs.length = len := by simpa using q1
      subst hbn
      refine VOK.here hw (v' := .string ⟨bs.toArray⟩) (run_convert_bytes_back (P := PP) w src dst e _ cap' bs (undOf_eq hs) (undOf_eq he) (undOf_eq hd) ?_) (str_rel b1 b3)
      intro j hj
      rw [addr_add]
      exact q3 j _ (by simp [List.getElem?_eq_getElem hj])
  · rename_i u hs hd
    simp only [VRel] at hx; subst hx
    refine VOK.here hw (v' := .pointer none) ?_ (by simp only [VRel])
    simp only [convert, Sem.run_bind, run_und hs, run_und hd, Result.andThen_ok, Conv.unsafePointer, Sem.run_pure]
  · rename_i u b off hs hd
    split <;> try trivial
    rename_i t size ext fl fh cs s hg hsz
    have hx0 := hx
    simp only [VRel] at hx; obtain ⟨c, hc, rfl⟩ := hx
    obtain ⟨arr, fz, e1, e2, e3, e4, e5, e6⟩ := hw.block hg (by simp) hc
    have hsh : w.shape? c = some (t, arr.size) := by simp [World.shape?, e1]
    have hfin : liesAt PP PP.depth t (arr.size / PP.cellsOf t) off u 1 = true → VOK ρ a w (convert src dst (.pointer (some ⟨c, off, none⟩))) (.val (.ptr b off) a) := by
      intro hlie
      refine VOK.here hw (v' := .pointer (some ⟨c, off, none⟩)) ?_ hx0
      simp only [convert, Sem.run_bind, run_und hs, run_und hd, Result.andThen_ok, Conv.unsafePointer, Conv.seenAt, viewAt, run_shape, hsh, Option.isSome_some, if_true, Sem.run_pure, run_size hsz, variablesAt, run_program, hlie, Bool.or_true]
    rw [bc_eq]; split
    · rename_i hcond
      simp only [Bool.and_eq_true] at hcond
      obtain ⟨⟨⟨k1, k2⟩, k3⟩, k4⟩ := hcond
      have k1 := Nat.eq_of_beq_eq_true k1
      have k2 := Nat.eq_of_beq_eq_true k2
      have k3 : 0 < s := Nat.le_of_ble_eq_true k3
      have k4 := Nat.le_of_ble_eq_true k4
      subst k1; subst k2
      refine hfin ?_
      have hco : PP.cellsOf t = s := cellsOf_eq hsz
      have hdp : PP.depth = (2 * (PP.types.size + Made.depth) + 1) + 1 := rfl
      have h1 : 1 ≤ arr.size / s := (Nat.le_div_iff_mul_le k3).2 (by omega)
      have hs0 : s ≠ 0 := by omega
      rw [hdp]
      simp only [liesAt, Bool.or_eq_true]
      left
      rw [hdp]
      simp [rowAt, hco, hs0, h1, sameLayout]
    · rw [bc_eq]; split <;> try trivial
      rename_i hext
      have hext : ext = false := by simpa using hext
      rw [bc_eq]; split <;> try trivial
      rename_i hl
      refine hfin ?_
      rw [e3 hext]
      exact liesF_lies hl
  · rename_i u hs hd
    simp only [VRel] at hx; subst hx
    refine VOK.here hw (v' := .pointer none) ?_ (by simp only [VRel])
    simp only [convert, Sem.run_bind, run_und hs, run_und hd, Result.andThen_ok, Conv.unsafePointer, Sem.run_pure]
  · rename_i u b off hs hd
    split <;> try trivial
    rename_i t size ext fl fh cs s hg hsz
    rw [bc_eq]; split <;> try trivial
    rename_i hcond
    simp only [Bool.and_eq_true] at hcond
    have k1 : off < size := Nat.le_of_ble_eq_true hcond.1
    have k2 : 0 < s := Nat.le_of_ble_eq_true hcond.2
    have hx0 := hx
    simp only [VRel] at hx; obtain ⟨c, hc, rfl⟩ := hx
    refine VOK.here hw (v' := .pointer (some ⟨c, off, none⟩)) ?_ hx0
    obtain ⟨arr, fz, e1, e2, e3, e4, e5, e6⟩ := hw.block hg (by simp) hc
    have hsh : w.shape? c = some (t, arr.size) := by simp [World.shape?, e1]
    simp only [convert, Sem.run_bind, run_und hs, run_und hd, Result.andThen_ok, Conv.unsafePointer, Conv.seenAt, viewAt, cellsIn, run_shape, hsh, Option.isSome_some, if_true, Sem.run_pure, run_size hsz]
    have n1 : ¬ s = 0 := by omega
    have n2 : ¬ off ≥ arr.size := by omega
    simp only [n1, n2, decide_false, Bool.false_and, Bool.or_self, Bool.false_eq_true, if_false, Sem.run_pure]
end
end Go.Ev
