/- 'copyistlaw05.ReadStrings' returns true, whatever the memory in which it is called. The closed runs are reckoned by an evaluator of the model's code that is proved sound against the model's steps (the texts Ev..); no condition besides. -/
import Derived.Test.YtkfdioikigponaaGreatDoorChecked
import Derived.Test.YtkfdioikigponaaGreatDoorRows
import Derived.Test.YtkfdioikigponaaGreatDoorCards
import Derived.Test.YtkfdioikigponaaGreatDoorTie
import Derived.Test.YtkfdioikigponaaGreatDoorRcF
import Derived.ProofKit
import Derived.Lay
import Derived.LaidOnce
import Derived.SevenTiedAt
import Derived.ChangeSlices
import Derived.ReadAgain
import Derived.ChangeBears
import Derived.WideShapes
import Derived.ChangeOld
import Derived.ChangeReads
import Derived.Deep.Grids
set_option maxRecDepth 100000
set_option linter.all false
namespace Go.Proofs.YtkfdioikigponaaGreatDoor
open Go.ChangeShapes Go.WideShapes Go.ChangeAt Go.RowKit
theorem k_a : Tryz.pinned.checked.prog.funcNamed Rows.readStringsRow.func = some 6 := by kernel_rfl
theorem a4n {a b : Bool} (ha : a = true) (hb : b = true) : (a && b) = true := by rw [ha, hb]; rfl
set_option maxHeartbeats 100000000 in
theorem k_b : joinedFacts Tryz.pinned.checked.prog 6 Tryz.f6 Rows.readStringsSpec Rows.readStringsRow = true := by
  unfold joinedFacts
  repeat' with_reducible apply a4n
  all_goals (as_aux_lemma => kernel_rfl)
theorem k_c : Func.isInstance Tryz.pinned.checked.prog Tryz.f6 Rows.readStringsRow.origin Rows.readStringsRow.targs := of_decide_eq_true (by kernel_rfl)
theorem k_d : Func.isWrapper Tryz.pinned.checked.prog Tryz.f6 Rows.readStringsRow.wrapper Rows.readStringsRow.mainSum := by
  unfold Func.isWrapper; first | (rw [if_pos (by decide +kernel)]; kernel_rfl) | (rw [if_neg (by decide +kernel)]; exact ⟨rfl, rfl⟩)
theorem k_e : OpenClaim.wfByText (OpenSpec.ofChange Rows.readStringsSpec) Rows.readStringsRow = true := by kernel_rfl
theorem k_f : Tryz.pinned.checked.prog.mainIs = some ((true, "fa78ed4fecf6e2b2bfc617c5bdab898e2aa9bfabaa05ef7d7a8f17f2e1f17eb8").fst, (true, "fa78ed4fecf6e2b2bfc617c5bdab898e2aa9bfabaa05ef7d7a8f17f2e1f17eb8").snd.toList) := by kernel_rfl
theorem k_g : true = Tryz.pinned.checked.prog.looks [] := by kernel_rfl
theorem k_h : ([22, 47].all fun u => !Tryz.pinned.checked.prog.wantsStandIn u) = true := by kernel_rfl
theorem k_i : false = Rows.readStringsRow.goesBy Tryz.pinned.checked.prog := by kernel_rfl
abbrev zB : List Int := [240, 240, 240, 240, 240, 240, 240, 240, 240, 240, 240, 240, 240, 240, 240, 240, 240, 240, 240, 240, 240, 240, 240, 240, 240, 240, 240, 240, 240, 240, 240, 240, 240, 240, 240, 240, 240, 240, 240, 240, 240, 240, 240, 240, 240, 240, 240, 240, 240, 240, 240, 240, 240, 240, 240, 240, 240, 240, 240, 240, 240, 240, 240, 240, 240, 240, 240, 240, 240, 240, 240, 240, 240, 240, 240, 240, 240, 240, 240, 240, 240, 240, 240, 240, 240, 240, 240, 240, 240, 240, 240, 240, 240, 240, 240, 240, 240, 240, 240, 240, 240, 240, 240, 240, 240, 240, 240, 240, 240, 240, 240, 240, 240, 240, 240, 240, 240, 240, 240, 240, 240, 240, 240, 240, 240, 240, 240, 240, 241, 241, 241, 241, 241, 241, 241, 241, 241, 241, 241, 241, 241, 241, 241, 241, 241, 241, 241, 241, 241, 241, 241, 241, 241, 241, 241, 241, 241, 241, 241, 241, 241, 241, 241, 241, 241, 241, 241, 241, 241, 241, 241, 241, 241, 241, 241, 241, 241, 241, 241, 241, 241, 241, 241, 241, 241, 241, 241, 241, 241, 241, 241, 241, 241, 241, 2, 2, 2, 2, 2, 2, 2, 2, 2, 2, 2, 2, 2, 2, 2, 2, 2, 2, 2, 2, 2, 2, 2, 2, 2, 2, 2, 2, 2, 2, 19, 3, 3, 3, 3, 3, 3, 3, 3, 3, 3, 3, 3, 35, 3, 3, 52, 4, 4, 4, 68, 241, 241, 241, 241, 241, 241, 241, 241, 241, 241, 241]
theorem own : ownKnob Tryz.prog.godebug = none := by kernel_rfl
theorem bh1 {W : World} (h : laidMetH Tryz.prog Rows.readStringsRow.laid W) : ∃ arr t fz, W.heap[1]? = some (.cells arr t fz) ∧ ∀ ρ, Go.Ev.VRels ρ Go.Ev.ctA arr.toList := by
  rw [MakeChecks.laidMetH_plain _ _ _ (by kernel_rfl)] at h
  obtain ⟨ps, hv, _⟩ := h
  obtain ⟨g, t, cs, fuel, p, h1, h2, h3, h4⟩ := Go.Ev.laid_at (n := "unicode/utf8.acceptRanges") (d := Rows.laid_unicode_utf8_acceptRanges) hv (List.mem_of_getElem? (i := 0) rfl)
  have hg : Tryz.prog.globalNamed "unicode/utf8.acceptRanges" = some 1 := by kernel_rfl
  have ht : (Tryz.prog.globals[1]?).map (·.type) = some 138 := by kernel_rfl
  rw [hg] at h1
  injection h1 with h1
  subst h1
  rw [ht] at h2
  injection h2 with h2
  subst h2
  unfold World.var? at h3
  rw [hg] at h3
  simp only [Option.bind_some] at h3
  split at h3
  · rename_i arr t' fz hx
    injection h3 with h3
    subst h3
    rw [show (Rows.laid_unicode_utf8_acceptRanges : DataW Unit) = .agg (([[128, 191], [160, 191], [128, 159], [144, 191], [128, 143], [0, 0], [0, 0], [0, 0], [0, 0], [0, 0], [0, 0], [0, 0], [0, 0], [0, 0], [0, 0], [0, 0]] : List (List Int)).map fun zs => .agg (zs.map fun z => .lit (.int .u8 z))) from by kernel_rfl] at h4
    have hcs := Go.Ev.ints_structs (k := .u8) (zss := [[128, 191], [160, 191], [128, 159], [144, 191], [128, 143], [0, 0], [0, 0], [0, 0], [0, 0], [0, 0], [0, 0], [0, 0], [0, 0], [0, 0], [0, 0], [0, 0]]) Tryz.underlying138 Tryz.underlying137 (fun i f hf => match i, hf with 
        | 0, hf => by simp at hf; subst hf; exact ⟨rfl, by kernel_rfl, Tryz.underlying5⟩
        | 1, hf => by simp at hf; subst hf; exact ⟨rfl, by kernel_rfl, Tryz.underlying5⟩
        | n + 2, hf => by simp at hf) (by kernel_rfl) (by kernel_rfl) h4
    exact ⟨_, _, _, hx, fun ρ => by rw [hcs]; exact Go.Ev.ints_rel ρ .u8 [128, 191, 160, 191, 128, 159, 144, 191, 128, 143, 0, 0, 0, 0, 0, 0, 0, 0, 0, 0, 0, 0, 0, 0, 0, 0, 0, 0, 0, 0, 0, 0]⟩
  · cases h3
theorem bid {W : World} (h : laidMetH Tryz.prog Rows.readStringsRow.laid W) : ∃ arr t fz, W.heap[0]? = some (.cells arr t fz) ∧ ∀ ρ, Go.Ev.VRels ρ Go.Ev.ctB arr.toList := by
  rw [MakeChecks.laidMetH_plain _ _ _ (by kernel_rfl)] at h
  obtain ⟨ps, hv, _⟩ := h
  obtain ⟨g, t, cs, fuel, p, h1, h2, h3, h4⟩ := Go.Ev.laid_at (n := "unicode/utf8.first") (d := Rows.laid_unicode_utf8_first) hv (List.mem_of_getElem? (i := 1) rfl)
  have hg : Tryz.prog.globalNamed "unicode/utf8.first" = some 0 := by kernel_rfl
  have ht : (Tryz.prog.globals[0]?).map (·.type) = some 135 := by kernel_rfl
  rw [hg] at h1
  injection h1 with h1
  subst h1
  rw [ht] at h2
  injection h2 with h2
  subst h2
  unfold World.var? at h3
  rw [hg] at h3
  simp only [Option.bind_some] at h3
  split at h3
  · rename_i arr t' fz hx
    injection h3 with h3
    subst h3
    rw [show (Rows.laid_unicode_utf8_first : DataW Unit) = .agg ((zB : List Int).map fun z => .lit (.int .u8 z)) from by kernel_rfl] at h4
    have hcs := Go.Ev.ints_array (k := .u8) (zs := zB) Tryz.underlying135 Tryz.underlying5 (by kernel_rfl) (by kernel_rfl) h4
    exact ⟨_, _, _, hx, fun ρ => by rw [hcs]; exact Go.Ev.ints_rel ρ .u8 zB⟩
  · cases h3
/-- the variables that the code reads lie as they are laid -/
theorem bft {W : World} (h : laidMetH Tryz.prog Rows.readStringsRow.laid W) : Go.Ev.LaidIn Go.Ev.laidL W := by
  intro g' cs' hm
  have hm : Go.Ev.LE.mk g' cs' ∈ [Go.Ev.LE.mk 1 Go.Ev.ctA, Go.Ev.LE.mk 0 Go.Ev.ctB] := hm
  simp only [List.mem_cons, List.not_mem_nil, or_false, Go.Ev.LE.mk.injEq] at hm
  rcases hm with ⟨e1, e2⟩ | ⟨e1, e2⟩
  · subst e1 e2; exact bh1 h
  · subst e1 e2; exact bid h
theorem carry_all {H : Type} {enc : TypeId × Value → H} {W W' : World} (hk : Go.Ev.KeptW W W') : ∀ {ts : List TypeId} {vs : List Value} {ds : List (DataW H)} {p : List MemPlace}, DataW.TrodAll enc Tryz.prog W 0 (fun _ => true) true ts vs ds p → DataW.TrodAll enc Tryz.prog W' 0 (fun _ => true) true ts vs ds p
  | [], [], [], _, h => h
  | t :: ts, v :: vs, d :: ds, _, ⟨p, q, ⟨n, hn⟩, h2, e⟩ => by
    refine ⟨p, q, ⟨n, DataW.trod_carry n _ _ _ hn fun q hq => ?_⟩, carry_all hk h2, e⟩
    have hlt := DataW.trod_lt n _ _ _ hn q hq
    cases q with
    | cell b off => have hlt : b < W.heap.size := hlt; show W'.cell? ⟨b, off, none⟩ = W.cell? ⟨b, off, none⟩; unfold World.cell?; rw [show W'.heap[b]? = W.heap[b]? from hk.heap b hlt]
    | map b => exact hk.heap b hlt
theorem avx (os : Os) (started : os.Started) (H : Type) (enc : TypeId × Value → H) :
    ReturnsInHanded {} Tryz.checked os 6 .any (fun w args => (Rows.readStringsSpec.pre enc Tryz.prog Tryz.f6 [] false w args ∧ laidMetH Tryz.prog Rows.readStringsRow.laid w) ∧ sizedMet enc Tryz.prog Tryz.f6 (OpenSpec.ofChange Rows.readStringsSpec) false w args)
      (Rows.readStringsSpec.post enc Tryz.prog Tryz.f6 false true false false) := by
  refine returnsInHanded_of_change_and (C := Tryz.checked) (X := fun w _ => laidMetH Tryz.prog Rows.readStringsRow.laid w) (fun _ _ _ hh h => h.of_heap hh) own started (by kernel_rfl) Tryz.func6
    (ChangeSpec.witness_shaped (enc := enc) (C := Tryz.checked) (os := os) (X := fun w _ => laidMetH Tryz.prog Rows.readStringsRow.laid w) false (World.laidAll Tryz.prog os Rows.readStringsRow.laid) #[.slice none 0 0, .slice none 0 0] 8 (World.laidAll_os _ _ _)
      (World.shaped_of_ZipB (by kernel_rfl) (by kernel_rfl)) (by kernel_rfl) (by kernel_rfl) (by kernel_rfl)
      (by rw [MakeChecks.laidMetH_plain _ _ _ (by kernel_rfl)]; exact laidMet_laidAll _ (by kernel_rfl) (by kernel_rfl))) ?_
  intro W base args ds gs before hval0 hW _ _ hX _
  have hval : ∀ (j : Nat) t v, Tryz.f6.params[j]? = some t → args[j]? = some v → Value.okWide Tryz.prog W .any base t v := hval0
  have hW' := hW
  obtain ⟨p, q, hA0, hV, rfl, _, _⟩ := hW
  have hA : DataW.TrodAll enc Tryz.prog W 0 (fun _ => true) true Tryz.f6.params.toList args.toList ds p := hA0
  rw [Tryz.params6] at hA hval
  obtain ⟨v0, v1, d0, d1, p0, p1, rfl, rfl, rfl, h0, h1⟩ := trodAll_two hA
  obtain ⟨rfl, rfl⟩ := trodVars_none hV
  have hv0 : v0 = .slice none 0 0 ∨ ∃ (a : Addr) (len cap : Nat) (zs : List Int), v0 = .slice (some a) len cap ∧ len ≤ cap ∧ len ≤ zs.length ∧ ∀ i, i < zs.length → W.cell? (a.add i) = some (.int .i64 (zs.getD i 0)) := by
    obtain ⟨aa, len0, cap0, rfl⟩ := okWide_slice Tryz.underlying22 (hval 0 22 v0 rfl rfl)
    obtain ⟨n, hn⟩ := h0
    rcases open_ints Tryz.underlying22 Tryz.underlying3 (by kernel_rfl) hn with ⟨q, _⟩ | ⟨a, len, cap, zs, q, _, q2, _, q4, _, q6, _⟩
    · left; simpa [Value.cells] using q
    · right
      refine ⟨a, len, cap, zs, by simpa [Value.cells] using q, q2, ?_, q6⟩
      rw [q4]; split <;> omega
  have hv1 : v1 = .slice none 0 0 ∨ ∃ (a : Addr) (len cap : Nat) (B : Nat → Bool), v1 = .slice (some a) len cap ∧ len ≤ cap ∧ ∀ i, i < cap → W.cell? (a.add i) = some (.bool (B i)) := by
    obtain ⟨aa, len0, cap0, rfl⟩ := okWide_slice Tryz.underlying47 (hval 1 47 v1 rfl rfl)
    obtain ⟨n, hn⟩ := h1
    rcases Go.Deep.open_bools Tryz.underlying47 Tryz.underlying4 (by kernel_rfl) hn with ⟨q, _⟩ | ⟨a, len, cap, B, q, _, q2, _, _, q6⟩
    · left; simpa [Value.cells] using q
    · exact .inr ⟨a, len, cap, B, by simpa [Value.cells] using q, q2, q6⟩
  simp only [List.append_nil] at hW'
  have e1 : Rows.readStringsSpec.fn H ([d0, d1] ++ []) = { results := [.lit (.bool true)], args := [d0, d1] } := by simp [Rows.readStringsSpec]
  have hL := (fun W h => Go.Ev.strings_any h hv0 hv1) W (bft hX)
  rw [Go.Ev.pp_eq] at hL
  refine hL.mono fun e W' ⟨he, hk⟩ => ?_
  subst he
  refine ⟨_, rfl, _, _, _, [], (p0 ++ p1), [], hW', ?_, ?_, ?_, Go.Ev.kept_but hk _, fun h => by cases h⟩
  · rw [e1]; exact trodAll_mk1 (shut_bool Tryz.underlying4 true)
  · rw [e1]
    have hlt : ∀ q ∈ p0 ++ p1, (fun b => decide (b < W.heap.size)) q.block = true := fun q hq => decide_eq_true (DataW.TrodAll.lt hA q hq)
    exact DataW.TrodAll.respare (kids_rows (by kernel_rfl) (by kernel_rfl)) (fun t e ht hu => slices_full_of Tryz.prog (by kernel_rfl) t e ht hu) (fun t ht => by
      rw [Tryz.params6] at ht
      have ht : t = 22 ∨ t = 47 := by simpa using ht
      rcases ht with rfl | rfl <;> exact of_decide_eq_true (by kernel_rfl)) (carry_all hk hA) hlt
  · rw [e1]; rfl
theorem a6u : Rows.ReadStringsSaid :=
  OpenClaim.holds_of_wide 6 Tryz.f6 rfl rfl rfl rfl rfl rfl rfl ⟨rfl, rfl, rfl, rfl, rfl⟩ rfl rfl rfl rfl rfl k_a Tryz.func6 k_b k_c k_d
    (fun os started H enc _ => avx os started H enc)
theorem strings_card : Rows.ReadStringsCardSaid :=
  Claim7.holds_tied_plain_at .later [] [.data, .pinned] true (true, "fa78ed4fecf6e2b2bfc617c5bdab898e2aa9bfabaa05ef7d7a8f17f2e1f17eb8") true
    a6u (fun _ h => by cases h) k_e (fun _ h => by cases h) readStrings_row_tie rfl ⟨rfl, rfl⟩ k_f rfl
    (fun f fn hf hfn => by
      obtain rfl : f = 6 := Option.some.inj (k_a.symm.trans hf) |>.symm
      obtain rfl : fn = Tryz.f6 := (Option.some.inj (Tryz.func6.symm.trans hfn)).symm
      exact ⟨k_g, fun j t ht => by
        rw [Tryz.params6] at ht
        have hm : t ∈ [22, 47] := by simpa using Array.mem_of_getElem? ht
        exact (show Tryz.pinned.checked.prog.wantsStandIn t = false by simpa using List.all_eq_true.1 k_h t hm)⟩)
    k_i
#print axioms strings_card
end Go.Proofs.YtkfdioikigponaaGreatDoor
