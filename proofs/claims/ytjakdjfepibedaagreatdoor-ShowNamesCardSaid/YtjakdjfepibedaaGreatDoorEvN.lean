import Derived.Test.YtjakdjfepibedaaGreatDoorEvL
import Derived.Laws.Externs
import Derived.KernelRfl
import Derived.Lib.MakeNoZero
import Derived.Lib.Bytealg
set_option linter.all false
namespace Go.Ev
/- Calls. -/
def DRel (ρ : Env) : AD → Deferred → Prop
  | .call fn cap args, d => ∃ cap' args', d = { target := .fn fn cap', args := args' } ∧ VRels ρ cap cap'.toList ∧ VRels ρ args args'.toList
  | .coll b, d => ∃ c, ρ b = some c ∧ d = { target := .collected c, args := #[] }
/-- what one operation's answer says of the model's -/
def NOK (ρ : Env) (a : W) (w : World) (s : Sem Next) : OR → Prop
  | .val v a' => Fresh ρ a a' → ∃ ρ' w', Adv ρ a w ρ' a' w' ∧ ((∃ v', s.run PP w = .ok (.value v') w' ∧ VRel ρ' v v') ∨ (s.run PP w = .ok .skip w' ∧ v = undefA))
  | .call f vs a' => Fresh ρ a a' → ∃ ρ' w' args, Adv ρ a w ρ' a' w' ∧ s.run PP w = .ok (.enter f args) w' ∧ VRels ρ' vs args.toList
  | .yld b vs a' => a' = a ∧ ∃ c args, ρ b = some c ∧ s.run PP w = (Instr.yield c args).run PP w ∧ VRels ρ vs args.toList
  | .pan v a' => a' = a ∧ ∃ v', s.run PP w = .halt (.panic v') w ∧ VRel ρ v v'
  | .dfr d a' => a' = a ∧ ∃ d', s.run PP w = .ok (.defer d') w ∧ DRel ρ d d'
  | .rcv a' => a' = a ∧ s.run PP w = .ok .recover w
  | .no _ => True
section
variable {ρ : Env} {a : W} {w : World}
theorem VOK.next {s : Sem Value} {r : OR} (h : VOK ρ a w s r) : NOK ρ a w (do pure (.value (← s))) r := by
  cases r <;> try trivial
  · intro hf
    obtain ⟨ρ', w', v', h1, h2, h3⟩ := h hf
    exact ⟨ρ', w', h3, .inl ⟨v', by simp only [Sem.run_bind, h1, Result.andThen_ok, Sem.run_pure], h2⟩⟩
  all_goals exact h.elim
theorem UOK.next {s : Sem Unit} {r : OR} (h : UOK ρ a w s r) : NOK ρ a w (do s; pure .skip) r := by
  cases r <;> try trivial
  · intro hf
    obtain ⟨hv, ρ', w', h1, h3⟩ := h hf
    exact ⟨ρ', w', h3, .inr ⟨by simp only [Sem.run_bind, h1, Result.andThen_ok, Sem.run_pure], hv⟩⟩
  all_goals exact h.elim
theorem NOK.of_run {s s' : Sem Next} {r : OR} (h : NOK ρ a w s r) (e : s.run PP w = s'.run PP w) : NOK ρ a w s' r := by
  cases r <;> simp only [NOK] at h ⊢ <;> rw [← e] <;> exact h
theorem idx_find (len n c : Nat) (hc : c ≤ 255) : ∀ (k i : Nat), i + k = len → idxByte len n c k i = (match (List.range' i k).find? (fun j => (unpack len n)[j]! == UInt8.ofNat c) with | some j => (j : Int) | none => -1)
  | 0, i, _ => rfl
  | k + 1, i, h => by
    have hu : (unpack len n)[i]! = UInt8.ofNat (sAt len n i) := by
      have hi : i < (bytesOf len n).length := by rw [bytesOf_length]; omega
      have := bytesOf_get' len n i hi
      rw [← this]
      have hi' : i < (unpack len n).size := by rw [unpack_size]; omega
      rw [getElem!_pos _ i hi']
      simp [unpack, ByteArray.getElem_eq_getElem_data]
    rw [List.range'_succ, List.find?_cons]
    show bc _ _ _ = _
    rw [bc_eq]
    have hs := sAt_lt len n i
    by_cases e : sAt len n i = c
    · have h1 : ((unpack len n)[i]! == UInt8.ofNat c) = true := by rw [hu, e]; simp
      rw [h1, if_pos (by rw [e]; exact Nat.beq_refl c)]
      rfl
    · have h1 : ((unpack len n)[i]! == UInt8.ofNat c) = false := by
        rw [hu]
        simp only [beq_eq_false_iff_ne, ne_eq]
        intro hh
        have := congrArg UInt8.toNat hh
        simp at this
        omega
      rw [h1, if_neg (by intro hh; exact e (Nat.eq_of_beq_eq_true hh))]
      exact idx_find len n c hc k (i + 1) (by omega)
theorem cnt_ok (len n c : Nat) (hc : c ≤ 255) : ∀ (k i r : Nat), i + k = len → cntByte len n c k i r = r + Lib.countByte ((bytesOf len n).drop i) (Int.ofNat c).toNat.toUInt8
  | 0, i, r, h => by
    rw [List.drop_of_length_le (by rw [bytesOf_length]; omega)]
    rfl
  | k + 1, i, r, h => by
    have hi : i < (bytesOf len n).length := by rw [bytesOf_length]; omega
    rw [List.drop_eq_getElem_cons hi]
    have hu : (bytesOf len n)[i] = UInt8.ofNat (sAt len n i) := bytesOf_get' len n i hi
    have hs := sAt_lt len n i
    show bc _ _ _ = _
    rw [bc_eq]
    unfold Lib.countByte
    rw [List.count_cons]
    have e1 : (Int.ofNat c).toNat.toUInt8 = UInt8.ofNat c := rfl
    by_cases e : sAt len n i = c
    · rw [if_pos (by rw [e]; exact Nat.beq_refl c), cnt_ok len n c hc k (i + 1) _ (by omega), hu, e, e1]
      unfold Lib.countByte
      simp; omega
    · rw [if_neg (by intro hh; exact e (Nat.eq_of_beq_eq_true hh)), cnt_ok len n c hc k (i + 1) _ (by omega), hu, e1]
      unfold Lib.countByte
      have h1 : (UInt8.ofNat (sAt len n i) == UInt8.ofNat c) = false := by
        simp only [beq_eq_false_iff_ne, ne_eq]
        intro hh
        have := congrArg UInt8.toNat hh
        simp at this
        omega
      rw [h1]; simp
theorem next_none {n : String} {fn : Func} (h1 : fn.name = n) (h2 : fn.origin = "") (hl : Extern.allNextRows.lookup n = none) (h0 : Extern.allNextRows.lookup "" = none) : Extern.findNext fn = none := by
  unfold Extern.findNext
  simp only [h1, h2, hl, h0]
  rfl
theorem find_some {n : String} {fn : Func} {e : Array Value → Sem Value} (h1 : fn.name = n) (hg : Extern.allGenericRows.lookup n = none) (ht : Extern.allTypedRows.lookup n = none) (hl : Extern.allRows.lookup n = some e) : Extern.find fn = some e := by
  unfold Extern.find
  simp only [h1, hg, ht, hl]
  rfl
theorem cget_cempty (n i : Nat) : cget (cempty n) i = .top := by
  have h0 : ∀ i, cget0 c0none i = .top := fun i => N.get_all _ _
  have h1 : ∀ i, cget1 c1none i = .top := fun i => (congrArg (fun x => cget0 x i) (N.get_all _ _)).trans (h0 i)
  have h2 : ∀ i, cget2 c2none i = .top := fun i => (congrArg (fun x => cget1 x i) (N.get_all _ _)).trans (h1 i)
  have h3 : ∀ i, cget3 c3none i = .top := fun i => (congrArg (fun x => cget2 x i) (N.get_all _ _)).trans (h2 i)
  unfold cempty
  rw [bc_eq]
  split
  · exact h0 i
  · rw [bc_eq]
    split
    · exact h1 i
    · rw [bc_eq]
      split
      · exact h2 i
      · exact h3 i
theorem find_typed {n : String} {fn : Func} {e : Extern.Typed} (h1 : fn.name = n) (hg : Extern.allGenericRows.lookup n = none) (ht : Extern.allTypedRows.lookup n = some e) : Extern.find fn = some (e fn.params fn.resultTypes) := by
  unfold Extern.find
  simp only [h1, hg, ht]
  rfl
theorem plain_rel (hw : WRel ρ a w) {b : K} {c : Nat} (h : plainRow (wget b a) = true) (hc : ρ b = some c) : ∃ arr t, w.shape? c = some (t, arr) ∧ arr ≠ 0 ∧ ∀ o, w.frozen? ⟨c, o, none⟩ = false := by
  unfold plainRow at h
  split at h
  · rename_i t size ext fl fh cs hg
    obtain ⟨h1, h2⟩ := bc_and.1 h
    have h1 := Nat.le_of_ble_eq_true h1
    have h2 : 0 < size := Nat.le_of_ble_eq_true h2
    obtain ⟨arr, fz, e1, e2, e3, e4, e5, e6⟩ := hw.block hg (by simp) hc
    refine ⟨arr.size, t, by simp [World.shape?, e1], by omega, fun o => ?_⟩
    obtain ⟨f1, f2⟩ := fz
    have := e5.2 o
    simp only [World.frozen?, e1, Bool.and_eq_false_iff, decide_eq_false_iff_not]
    simp only at this
    omega
  · cases h
theorem plain_ne {b : K} (h : plainRow (wget b a) = true) : hget b a.h ≠ .none := by
  rw [← wget_eq]; intro e; rw [e] at h; cases h
theorem lookup_none {α : Type} {l : List (String × α)} {n : String} (h : (l.lookup n).isNone = true) : l.lookup n = none := by simpa using h
theorem overlaps_ok (hw : WRel ρ a w) {f : FuncId} {fn : Func} {vs : List AV} {args : Array Value} (hfo : fnOf f = some fn) (hf : PP.funcs[f]? = some fn) (hv : VRels ρ vs args.toList) : NOK ρ a w (callFunc f args) (evOverlaps f vs a) := by
  unfold evOverlaps
  rw [hfo]
  dsimp only
  rw [bc_eq]
  split <;> try trivial
  rename_i hov
  unfold isOv at hov
  obtain ⟨o1, hov⟩ := bc_and.1 hov
  have o1 : fn.origin = "slices.overlaps" := by simpa using o1
  have hb : fn.body.isNone = true := by
    cases hb : fn.body with
    | none => rfl
    | some c => rw [hb] at hov; cases hov
  have hng : (fn.name == "runtime.NumGoroutine") = false := by
    cases hn : (fn.name == "runtime.NumGoroutine") with
    | false => rfl
    | true =>
      rw [hn] at hov
      cases hb2 : fn.body.isSome <;> rw [hb2] at hov <;> cases hov
  have hrows : noRows fn.name = true := by
    rw [hng] at hov
    have : fn.body.isSome = false := by cases hb2 : fn.body <;> simp_all
    rw [this] at hov
    exact hov
  unfold noRows at hrows
  simp only [Bool.and_eq_true] at hrows
  obtain ⟨⟨⟨n1, n2⟩, n3⟩, n4⟩ := hrows
  have n1 := lookup_none n1
  have n2 := lookup_none n2
  have n3 := lookup_none n3
  have n4 := lookup_none n4
  have hnext : Extern.findNext fn = none := by
    unfold Extern.findNext
    have : Extern.allNextRows.lookup "slices.overlaps" = none := by kernel_rfl
    simp only [o1, n4, this]
    rfl
  have hfind : Extern.find fn = some (Extern.SlicesOverlaps.overlaps fn.params fn.resultTypes) := by
    unfold Extern.find
    have g1 : Extern.allGenericRows.lookup "slices.overlaps" = none := by kernel_rfl
    have g2 : Extern.allTypedRows.lookup "slices.overlaps" = some Extern.SlicesOverlaps.overlaps := by kernel_rfl
    simp only [o1, n1, n2, n3, g1, g2]
    rfl
  split <;> try trivial
  rename_i t ts x y hp
  split <;> try trivial
  rename_i e hu
  rw [bc_eq]
  split <;> try trivial
  rename_i hse
  obtain ⟨sz, hse⟩ := Option.isSome_iff_exists.1 hse
  obtain ⟨i, hi, rfl⟩ := sizeOf_eq hse
  unfold ovRows
  split <;> try trivial
  rename_i b o1' l1 c1 x1 b' o2' l2 c2 x2
  rw [bc_eq]
  split <;> try trivial
  rename_i hcond
  simp only [Bool.and_eq_true, Bool.not_eq_true'] at hcond
  obtain ⟨⟨q1, q2⟩, q3⟩ := hcond
  simp only [VRels, VRel] at hv
  obtain ⟨v1, r1, e1, ⟨cc, cap1, k1, _, _, rfl⟩, v2, r2, e2, ⟨cc', cap2, k2, _, _, rfl⟩, e3⟩ := hv
  rw [e3] at e2; rw [e2] at e1
  have ha : args = #[.slice (some ⟨cc, o1', none⟩) l1 cap1, .slice (some ⟨cc', o2', none⟩) l2 cap2] := by rw [← Array.toArray_toList (xs := args), e1]
  subst ha
  have hne : cc ≠ cc' := by
    rintro rfl
    have := hw.inj b b' (plain_ne q2) (plain_ne q3) (by rw [k1, k2])
    rw [this] at q1
    rw [(K.beq_iff _ _).2 rfl] at q1
    cases q1
  obtain ⟨s1, t1, p1, p2, p3⟩ := plain_rel hw q2 k1
  obtain ⟨s2, t2, p4, p5, p6⟩ := plain_rel hw q3 k2
  have hp0 : fn.params[0]? = some t := by
    have := congrArg (·[0]?) hp
    simpa using this
  have hrun : (Extern.SlicesOverlaps.overlaps fn.params fn.resultTypes #[.slice (some ⟨cc, o1', none⟩) l1 cap1, .slice (some ⟨cc', o2', none⟩) l2 cap2]).run PP w = .ok (.bool false) w := by
    have hbne : (cc != cc') = true := by simpa using hne
    have hbeq : (cc == cc') = false := by simpa using hne
    have hsz : (Go.sizeOf e).run PP w = .ok i.size w := by simp [Go.sizeOf, run_info hi]
    change Sem.run PP (α := Value) (do
      let some t := fn.params[0]? | stuck "slices.overlaps: no parameter types"
      let .slice elem ← underlying t | stuck "slices.overlaps: slice type expected"
      let size ← Go.sizeOf elem
      match (some (⟨cc, o1', none⟩ : Addr) : Option Addr), (some (⟨cc', o2', none⟩ : Addr) : Option Addr) with
      | some a, some b =>
        if l1 = 0 ∨ l2 = 0 ∨ size = 0 then pure (Value.bool false)
        else if a.block != b.block && (← frozen a) && (← frozen b) then unsupported .addressObserved
        else do
          if a.block != b.block then do
            noView a; noView b
            if ← mayBeOne a b then return Value.bool ((← choose (.extern "sameAddr.stringBytes" 2)) == 1)
          pure (Value.bool (a.block == b.block && a.off < b.off + l2 * size && b.off < a.off + l1 * size))
      | _, _ => pure (Value.bool false)) w = _
    by_cases hz : l1 = 0 ∨ l2 = 0 ∨ i.size = 0
    · simp [hp0, run_und hu, hsz, hz]
    · simp [hp0, run_und hu, hsz, hz, hbne, hbeq, p3, p6, frozen, noView, viewAt, mayBeOne, stringish, shape, Sem.run, p1, p4]
  intro _
  refine ⟨ρ, w, Adv.refl hw, .inl ⟨.bool false, ?_, by simp only [VRel]⟩⟩
  rw [run_callFunc_extern hf hng hb hnext hfind, hrun]
  rfl
theorem callFn_ok (hw : WRel ρ a w) {f : FuncId} {vs : List AV} {args : Array Value} (hv : VRels ρ vs args.toList) : NOK ρ a w (callFunc f args) (callFn f vs a) := by
  unfold callFn
  unfold externOf
  cases hf : fnOf f with
  | none => unfold evOverlaps; rw [hf]; trivial
  | some fn =>
    have hfo := hf
    have hf := fnOf_eq hf
    dsimp only
    rw [bc_eq]
    split
    · rename_i heq
      split at heq
      · cases heq
      rename_i hng
      have hng : fn.name ≠ "runtime.NumGoroutine" := by simpa using hng
      rw [bc_eq] at heq
      split at heq
      · rename_i hb
        obtain ⟨c, hb⟩ := Option.isSome_iff_exists.1 hb
        intro _
        refine ⟨ρ, w, args, Adv.refl hw, ?_, hv⟩
        simp [callFunc, hf, hng, hb]
      · simp only [bc_eq] at heq
        split at heq
        · split at heq
          · cases heq
          · split at heq
            · cases heq
            · split at heq
              · cases heq
              · split at heq <;> cases heq
        · cases heq
    · rename_i heq
      split at heq
      · cases heq
      rename_i hng
      rw [bc_eq] at heq
      split at heq
      · cases heq
      rename_i hb
      simp only [bc_eq] at heq
      split at heq
      · rename_i ho
        split at heq
        · rename_i hn
          have hn : fn.name = "internal/abi.NoEscape" := by simpa using hn
          have ho : fn.origin = "" := by simpa using ho
          split <;> try trivial
          rename_i x
          simp only [VRels] at hv
          obtain ⟨x', r, h1, h2, h3⟩ := hv
          rw [h3] at h1
          have ha : args = #[x'] := by rw [← Array.toArray_toList (xs := args), h1]
          subst ha
          intro _
          refine ⟨ρ, w, Adv.refl hw, .inl ⟨x', ?_, h2⟩⟩
          rw [run_callFunc_extern hf (by simpa using hng) (by simpa using hb) (next_none hn ho (by kernel_rfl) (by kernel_rfl)) (find_some (e := Extern.AbiNoEscape.same) hn (by kernel_rfl) (by kernel_rfl) (by kernel_rfl))]
          rfl
        · split at heq
          · cases heq
          · split at heq
            · cases heq
            · split at heq <;> cases heq
      · cases heq
    · rename_i heq
      split at heq
      · cases heq
      rename_i hng
      rw [bc_eq] at heq
      split at heq
      · cases heq
      rename_i hb
      simp only [bc_eq] at heq
      split at heq
      · rename_i ho
        split at heq
        · cases heq
        split at heq
        · rename_i hn
          have hn : fn.name = "internal/bytealg.IndexByteString" := by simpa using hn
          have ho : fn.origin = "" := by simpa using ho
          split <;> try trivial
          rename_i len n c
          rw [bc_eq]
          split <;> try trivial
          rename_i hc
          have hc := Nat.le_of_ble_eq_true hc
          simp only [VRels, VRel] at hv
          obtain ⟨v1, r1, h1, ⟨h2, h2'⟩, v2, r2, h3, h4, h5⟩ := hv
          rw [h5] at h3; rw [h3, h2', h4] at h1
          have ha : args = #[.string (unpack len n), .int .u8 (Int.ofNat c)] := by rw [← Array.toArray_toList (xs := args), h1]
          subst ha
          intro _
          refine ⟨ρ, w, Adv.refl hw, .inl ⟨.int .i64 (firstIdx (unpack len n) (Int.ofNat c).toNat.toUInt8), ?_, rel_int ?_⟩⟩
          · rw [run_callFunc_extern hf (by simpa using hng) (by simpa using hb) (next_none hn ho (by kernel_rfl) (by kernel_rfl)) (find_some (e := Extern.BytealgIndexByte.indexByte) hn (by kernel_rfl) (by kernel_rfl) (by kernel_rfl)), run_indexByte_string]
            rfl
          · rw [idx_find len n c hc len 0 (by omega)]
            unfold firstIdx
            rw [unpack_size, List.range_eq_range']
            rfl
        · split at heq
          · cases heq
          · split at heq <;> cases heq
      · cases heq
    · rename_i heq
      split at heq
      · cases heq
      rename_i hng
      rw [bc_eq] at heq
      split at heq
      · cases heq
      rename_i hb
      simp only [bc_eq] at heq
      split at heq
      · rename_i ho
        split at heq
        · cases heq
        split at heq
        · cases heq
        split at heq
        · rename_i hn
          have hn : fn.name = "internal/bytealg.MakeNoZero" := by simpa using hn
          have ho : fn.origin = "" := by simpa using ho
          split <;> try trivial
          rename_i n
          unfold makeNZ
          rw [hfo]
          dsimp only
          split <;> try trivial
          rename_i t ht
          split <;> try trivial
          rename_i e hu
          rw [bc_eq]
          split
          · rename_i hn6
            have hn6 : n ≤ 60000 := by have := Nat.le_of_ble_eq_true hn6; omega
            simp only [VRels, VRel] at hv
            obtain ⟨v1, r1, h1, h2, h3⟩ := hv
            rw [h3, h2] at h1
            have ha : args = #[.int .i64 (Int.ofNat n)] := by rw [← Array.toArray_toList (xs := args), h1]
            subst ha
            have hrt : fn.resultTypes = #[t] := by rw [← Array.toArray_toList (xs := fn.resultTypes), ht]
            obtain ⟨cs, q1, q2, _⟩ := Lib.run_makeNoZero w fn.params t e (undOf_eq hu) n (by omega)
            obtain ⟨hh, nx⟩ := a
            show NOK ρ (.mk hh nx) w _ (bc nx.isMax (.no 1) (.val _ (.mk (hset nx _ hh) nx.succ)))
            rw [bc_eq]
            split
            · trivial
            · rename_i hm
              have hm : nx.isMax = false := by simpa using hm
              intro fr
              have hfr : ρ nx = none := fr nx (Nat.le_refl _) (by simp only [W.nx_mk]; rw [K.succ_num hm]; omega)
              have hor : ORel ρ (.cells e n true 0 0 (cempty n)) (some (.cells cs e)) := by
                refine ⟨cs, (0, 0), rfl, q2, (fun x => by cases x), ccap_cempty n (by omega), ⟨Nat.le_refl _, fun i h1 h2 => by simp at h1 h2⟩, fun i hi => ?_⟩
                refine ⟨cs[i]'(by omega), Array.getElem?_eq_getElem (by omega), ?_⟩
                rw [cget_cempty]
                simp only [VRel]
              have hA := Adv.of_drew (Adv.of_drew (adv_new hw.drew.drew hfr hm hor))
              refine ⟨_, _, hA, .inl ⟨.slice (some ⟨w.heap.size, 0, none⟩) n cs.size, ?_, ?_⟩⟩
              · rw [run_callFunc_extern hf (by simpa using hng) (by simpa using hb) (next_none hn ho (by kernel_rfl) (by kernel_rfl)) (find_typed (e := Extern.BytealgMakeNoZero.makeNoZero) hn (by kernel_rfl) (by kernel_rfl)), hrt]
                exact (congrArg (fun r => Result.andThen r fun v w' => Result.ok (Next.value v) w') q1).trans rfl
              · simp only [VRel, SlOk]
                refine ⟨w.heap.size, cs.size, upd_same ρ nx _ _, ⟨Nat.le_refl _, q2⟩, ?_, rfl⟩
                rw [sz_same]
                simp [Obj.cellCount]
          rw [bc_eq]
          split <;> try trivial
          rename_i hn7
          have hn7 := Nat.le_of_ble_eq_true hn7
          simp only [VRels, VRel] at hv
          obtain ⟨v1, r1, h1, h2, h3⟩ := hv
          rw [h3, h2] at h1
          have ha : args = #[.int .i64 (Int.ofNat n)] := by rw [← Array.toArray_toList (xs := args), h1]
          subst ha
          have hrt : fn.resultTypes = #[t] := by rw [← Array.toArray_toList (xs := fn.resultTypes), ht]
          obtain ⟨cs, q1, q2, _⟩ := Lib.run_makeNoZero w fn.params t e (undOf_eq hu) n (by omega)
          obtain ⟨hh, nx⟩ := a
          show NOK ρ (.mk hh nx) w _ (bc nx.isMax (.no 1) (.val _ (.mk (hset nx _ hh) nx.succ)))
          rw [bc_eq]
          split
          · trivial
          · rename_i hm
            have hm : nx.isMax = false := by simpa using hm
            intro fr
            have hfr : ρ nx = none := fr nx (Nat.le_refl _) (by simp only [W.nx_mk]; rw [K.succ_num hm]; omega)
            have hor : ORel ρ (.pk e 0 0 0 0) (some (.cells cs e)) := ⟨cs, (0, 0), rfl, Nat.zero_le _, ⟨Nat.le_refl _, fun i h1 h2 => by simp at h1 h2⟩, by simp, fun i b hb => by simp [bytesOf] at hb⟩
            have hA := Adv.of_drew (Adv.of_drew (adv_new hw.drew.drew hfr hm hor))
            refine ⟨_, _, hA, .inl ⟨.slice (some ⟨w.heap.size, 0, none⟩) n cs.size, ?_, ?_⟩⟩
            · rw [run_callFunc_extern hf (by simpa using hng) (by simpa using hb) (next_none hn ho (by kernel_rfl) (by kernel_rfl)) (find_typed (e := Extern.BytealgMakeNoZero.makeNoZero) hn (by kernel_rfl) (by kernel_rfl)), hrt]
              exact (congrArg (fun r => Result.andThen r fun v w' => Result.ok (Next.value v) w') q1).trans rfl
            · simp only [VRel, SlOk]
              refine ⟨w.heap.size, cs.size, upd_same ρ nx _ _, ⟨Nat.le_refl _, q2⟩, ?_, rfl⟩
              rw [sz_same]
              simp [Obj.cellCount]
        · split at heq <;> cases heq
      · cases heq
    · rename_i heq
      split at heq
      · cases heq
      rename_i hng
      rw [bc_eq] at heq
      split at heq
      · cases heq
      rename_i hb
      simp only [bc_eq] at heq
      split at heq
      · rename_i ho
        split at heq
        · cases heq
        split at heq
        · cases heq
        split at heq
        · cases heq
        split at heq
        · rename_i hn
          have hn : fn.name = "internal/bytealg.CountString" := by simpa using hn
          have ho : fn.origin = "" := by simpa using ho
          split <;> try trivial
          rename_i len n c
          rw [bc_eq]
          split <;> try trivial
          rename_i hc
          have hc := Nat.le_of_ble_eq_true hc
          simp only [VRels, VRel] at hv
          obtain ⟨v1, r1, h1, ⟨h2, h2'⟩, v2, r2, h3, h4, h5⟩ := hv
          rw [h5] at h3; rw [h3, h2', h4] at h1
          have ha : args = #[.string (unpack len n), .int .u8 (Int.ofNat c)] := by rw [← Array.toArray_toList (xs := args), h1]
          subst ha
          intro _
          refine ⟨ρ, w, Adv.refl hw, .inl ⟨.int .i64 (Lib.countByte (unpack len n).data.toList (Int.ofNat c).toNat.toUInt8), ?_, rel_int ?_⟩⟩
          · rw [run_callFunc_extern hf (by simpa using hng) (by simpa using hb) (next_none hn ho (by kernel_rfl) (by kernel_rfl)) (find_some (e := Extern.BytealgCount.count) hn (by kernel_rfl) (by kernel_rfl) (by kernel_rfl)), Lib.run_countString]
            rfl
          · rw [cnt_ok len n c hc len 0 0 (by omega)]
            have hdat : (unpack len n).data.toList = bytesOf len n := by unfold unpack; simp
            rw [hdat]
            simp
        · cases heq
      · cases heq
    · exact overlaps_ok hw hfo hf hv
end
end Go.Ev
set_option linter.all false
namespace Go.Ev
/- Method calls, builtins, deferred calls. -/
def OR.at (a : W) : OR → Prop
  | .val _ w | .call _ _ w | .yld _ _ w | .pan _ w | .dfr _ w | .rcv w => w = a
  | .no _ => True
section
variable {ρ : Env} {a : W} {w : World}
theorem fresh_self : Fresh ρ a a := fun _ h1 h2 => absurd h2 (Nat.not_lt.2 h1)
theorem NOK.after {ρ' : Env} {w' : World} {s s0 : Sem Next} {r : OR} (h : Adv ρ a w ρ' a w') (hn : NOK ρ' a w' s r) (hr : r.at a) (hw : w' = w) (hρ : ρ' = ρ) (e : s0.run PP w = s.run PP w') : NOK ρ a w s0 r := by
  subst hw; subst hρ
  exact hn.of_run e.symm
theorem dispatch_eq {t : TypeId} {name : String} {f : FuncId} {o : Option TypeId} (h : dispatch t name = some (f, o)) :
    ∃ (i : TypeInfo) (m : Method) (ptr : Bool) (d : TypeDesc), PP.info? t = some i ∧ i.methods.find? (·.name == name) = some m ∧ m.func = some (f, ptr) ∧ m.path = #[] ∧ undOf t = some d ∧
      ((∃ e, d = .pointer e ∧ o = (if ptr then none else some e)) ∨ ((∀ e, d ≠ .pointer e) ∧ ptr = false ∧ o = none)) := by
  unfold dispatch at h
  split at h <;> try (cases h; done)
  rename_i m hm
  unfold methodOf at hm
  rw [Option.bind_eq_some_iff] at hm
  obtain ⟨i, hi, hm⟩ := hm
  have hi := infoOf_eq hi
  split at h <;> try (cases h; done)
  rename_i f' ptr hf hp
  have hp : m.path = #[] := by simpa using hp
  split at h <;> try (cases h; done)
  · rename_i e hu
    simp only [Option.some.injEq, Prod.mk.injEq] at h
    obtain ⟨rfl, rfl⟩ := h
    exact ⟨i, m, ptr, _, hi, hm, hf, hp, hu, .inl ⟨e, rfl, by rw [bc_eq]⟩⟩
  · rename_i d hne hu
    rw [bc_eq] at h
    split at h <;> try (cases h; done)
    rename_i hptr
    cases h
    exact ⟨i, m, ptr, d, hi, hm, hf, hp, hu, .inr ⟨hne, by simpa using hptr, rfl⟩⟩
theorem method_run {t : TypeId} {name : String} {f : FuncId} {v r : Value} {o : Option TypeId} {n : Nat} (h : dispatch t name = some (f, o))
    (hr : match o with | none => r = v | some e => (∃ ad, v = .pointer (some ad)) ∧ (Instr.loadAt e v).run PP w = .ok r w) : (Go.method (n + 1) t v name).run PP w = .ok (f, r) w := by
  obtain ⟨i, m, ptr, d, hi, hm, hf, hp, hu, hc⟩ := dispatch_eq h
  simp only [Go.method, Sem.run_bind, run_info hi, Result.andThen_ok, hm, hp, Array.toList_empty, follow, Sem.run_pure, hf]
  have key : (receiverAt t (.val v) ptr (if (#[] : Array FieldStep).isEmpty = true then some ((name.splitOn ".").getLastD name) else none)).run PP w = .ok r w := by
    rcases hc with ⟨e, rfl, ho⟩ | ⟨hne, rfl, ho⟩
    · cases ptr
      · simp only [Bool.false_eq_true, if_false] at ho
        subst ho
        obtain ⟨⟨ad, rfl⟩, hl⟩ := hr
        simp only [Instr.loadAt, Instr.sureAddr, Sem.run_bind, Sem.run_pure, Result.andThen_ok] at hl
        simp only [receiverAt, Sem.run_bind, run_und hu, Result.andThen_ok, Place.get, Sem.run_pure, Array.isEmpty_empty, if_true]
        show Result.andThen (Sem.run PP (pure (.pointer (some ad)) : Sem Value) w) _ = _
        simp only [Sem.run_pure, Result.andThen_ok, asAddr, Sem.run_bind]
        exact hl
      · simp only [if_true] at ho
        subst ho; subst hr
        simp only [receiverAt, Sem.run_bind, run_und hu, Result.andThen_ok, Place.get, Sem.run_pure]
    · subst ho; subst hr
      simp only [receiverAt, Sem.run_bind, run_und hu, Result.andThen_ok]
      cases d <;> first | exact absurd rfl (hne _) | simp only [Place.get, Sem.run_pure]
  simp only [key, Result.andThen_ok]
theorem load_pure (hw : WRel ρ a w) {b : K} {off c : Nat} (hc : ρ b = some c) (t : TypeId) {r : AV} {a' : W} (hl : evLoad t (.ptr b off) a = .val r a') : a' = a ∧ ∃ r', (Instr.loadAt t (.pointer (some ⟨c, off, none⟩))).run PP w = .ok r' w ∧ VRel ρ r r' := by
  unfold evLoad at hl
  split at hl
  · rename_i h
    obtain ⟨d, n, hd, hs, hr⟩ := aggOf_eq h
    have hagg : aggDesc d = false := by cases e : aggDesc d with | false => rfl | true => rw [e] at hr; simp at hr
    unfold ldOne at hl
    dsimp only at hl
    split at hl <;> cases hl
    rename_i hv
    obtain ⟨v', h1, h2⟩ := objGet_rel hv (hw.block rfl (objGet_ne hv) hc)
    refine ⟨rfl, v', ?_, h2⟩
    simp only [Instr.loadAt, Instr.sureAddr, loadVar, Sem.run_bind, Sem.run_pure, Result.andThen_ok, run_isAgg hd, hagg, Bool.false_eq_true, if_false, run_load, h1]
  · rename_i n h
    obtain ⟨d, m, hd, hs, hr⟩ := aggOf_eq h
    by_cases hagg : aggDesc d = true
    · rw [if_pos hagg] at hr
      injection hr with hr
      injection hr with hr
      subst hr
      unfold ldMany at hl
      dsimp only at hl
      split at hl <;> cases hl
      rename_i hv
      obtain ⟨l', h1, h2, h3⟩ := objList_rel hv (hw.block rfl (objList_ne hv) hc)
      refine ⟨rfl, .agg l'.toArray, ?_, by simp only [VRel]; exact ⟨_, rfl, by simpa using h2⟩⟩
      simp only [Instr.loadAt, Instr.sureAddr, loadVar, Sem.run_bind, Sem.run_pure, Result.andThen_ok, run_isAgg hd, hagg, if_true, run_size hs, run_cells h1 h3]
    · rw [if_neg hagg] at hr
      split at hr <;> cases hr
  · cases hl
theorem callM_ok (hw : WRel ρ a w) {x : AV} {x' : Value} {name : String} {vs : List AV} {args : Array Value} (hx : VRel ρ x x') (hv : VRels ρ vs args.toList) : NOK ρ a w (callMethod x' name args) (callM x name vs a) := by
  unfold callM
  split <;> try trivial
  rename_i t v
  simp only [VRel] at hx
  obtain ⟨v', rfl, hv'⟩ := hx
  have run : ∀ {f : FuncId} {r : Value} , (∀ n, (Go.method (n + 1) t v' name).run PP w = .ok (f, r) w) → (callMethod (.iface t v') name args).run PP w = (callFunc f (#[r] ++ args)).run PP w := by
    intro f r h
    have := h (PP.types.size + 99)
    simp only [callMethod, Sem.run_bind, run_program, Result.andThen_ok]
    rw [show PP.types.size + Made.depth = PP.types.size + 99 + 1 from rfl, this]
    rfl
  have cons : ∀ {r : AV} {r' : Value}, VRel ρ r r' → VRels ρ (r :: vs) (#[r'] ++ args).toList := by
    intro r r' h
    simp only [VRels]
    exact ⟨r', args.toList, by simp, h, hv⟩
  split <;> try trivial
  · rename_i f hd
    exact (callFn_ok hw (cons hv')).of_run (run (fun n => method_run hd rfl)).symm
  · rename_i f e hd
    split <;> try trivial
    rename_i b off
    split <;> try trivial
    rename_i r a' hl
    simp only [VRel] at hv'
    obtain ⟨c, hc, rfl⟩ := hv'
    obtain ⟨_, r', h1, h2⟩ := load_pure hw hc e hl
    exact (callFn_ok hw (cons h2)).of_run (run (fun n => method_run hd ⟨⟨_, rfl⟩, h1⟩)).symm
theorem callV_ok (hw : WRel ρ a w) {x : AV} {x' : Value} {vs : List AV} {args : Array Value} (hx : VRel ρ x x') (hv : VRels ρ vs args.toList) :
    NOK ρ a w (do let d ← Deferred.ofValue x' args; invoke d.target d.args) (callV x vs a) := by
  unfold callV
  split <;> try trivial
  · rename_i g first cap
    simp only [VRel] at hx
    obtain ⟨fn', f', c', rfl, hfn, hf, hc⟩ := hx
    obtain rfl := hfn.plain (by intro n h; cases h)
    refine (callFn_ok hw (args := (f' ++ args) ++ c') ?_).of_run ?_
    · simp only [Array.toList_append]
      exact VRels.append _ _ _ _ (VRels.append _ _ _ _ hf hv) hc
    · simp only [Deferred.ofValue, Sem.run_bind, Sem.run_pure, Result.andThen_ok, invoke]
  · rename_i name first cap
    simp only [VRel] at hx
    obtain ⟨fn', f', c', rfl, hfn, hf, hc⟩ := hx
    obtain rfl := hfn.plain (by intro n h; cases h)
    split <;> try trivial
    rename_i r rest hl
    have hall : VRels ρ (r :: rest) (f' ++ args).toList := by
      rw [← hl, Array.toList_append]; exact VRels.append _ _ _ _ hf hv
    simp only [VRels] at hall
    obtain ⟨r', rs, h1, h2, h3⟩ := hall
    have he : (f' ++ args) = #[r'] ++ rs.toArray := by
      apply Array.toList_inj.1
      rw [h1]; simp
    have hx : (#[r'] ++ rs.toArray).extract 1 (#[r'] ++ rs.toArray).size = rs.toArray := by
      apply Array.toList_inj.1
      simp
    refine (callM_ok hw (args := rs.toArray) (name := name) h2 (by simpa using h3)).of_run ?_
    simp only [Deferred.ofValue, Sem.run_bind, Sem.run_pure, Result.andThen_ok, invoke, he, hx]
    simp
  · rename_i n cap
    simp only [VRel, VRels] at hx
    obtain ⟨fn', f', c', rfl, ⟨c, hc, rfl⟩, hf, _⟩ := hx
    have hf : f' = #[] := by cases f'; simp_all
    subst hf
    refine ⟨rfl, c, args, hc, ?_, hv⟩
    simp only [Deferred.ofValue, Sem.run_bind, Sem.run_pure, Result.andThen_ok, invoke, Array.empty_append]
theorem defer_ok (hw : WRel ρ a w) {fn : Fn} (hp : ∀ n, fn ≠ .yield n) {first cap vs : List AV} {x' : Value} {args : Array Value} (hx : VRel ρ (.func fn first cap) x') (hv : VRels ρ vs args.toList) :
    NOK ρ a w (do pure (.defer (← Deferred.ofValue x' args))) (.dfr (.call fn cap (first ++ vs)) a) := by
  simp only [VRel] at hx
  obtain ⟨fn', f', c', rfl, hfn, hf, hc⟩ := hx
  obtain rfl := hfn.plain hp
  refine ⟨rfl, _, by simp only [Deferred.ofValue, Sem.run_bind, Sem.run_pure, Result.andThen_ok], c', f' ++ args, rfl, hc, ?_⟩
  rw [Array.toList_append]; exact VRels.append _ _ _ _ hf hv
theorem panic_ok (hw : WRel ρ a w) {x : AV} {x' : Value} (hx : VRel ρ x x') : NOK ρ a w (do pure (.value (← Instr.panic x'))) (evPanic x a) := by
  unfold evPanic
  split <;> try trivial
  have hx0 := hx
  simp only [VRel] at hx
  obtain ⟨v', rfl, _⟩ := hx
  exact ⟨rfl, _, rfl, hx0⟩
end
end Go.Ev
