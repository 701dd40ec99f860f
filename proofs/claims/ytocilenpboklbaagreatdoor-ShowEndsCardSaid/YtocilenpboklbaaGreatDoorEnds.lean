/- 'copyistlaw06.ShowEnds' returns true, whatever the memory in which it is called. The closed runs are reckoned by an evaluator of the model's code that is proved sound against the model's steps (the texts Ev..); no condition besides. -/
import Derived.Test.YtocilenpboklbaaGreatDoorChecked
import Derived.Test.YtocilenpboklbaaGreatDoorRows
import Derived.Test.YtocilenpboklbaaGreatDoorCards
import Derived.Test.YtocilenpboklbaaGreatDoorTie
import Derived.Test.YtocilenpboklbaaGreatDoorHsX
import Derived.ProofKit
import Derived.Lay
import Derived.LaidOnce
import Derived.SevenTiedAt
set_option maxRecDepth 100000
set_option linter.all false
namespace Go.Proofs.YtocilenpboklbaaGreatDoor
open Go.ChangeShapes Go.WideShapes Go.ChangeAt Go.RowKit
theorem k_a : Tryz.pinned.checked.prog.funcNamed Rows.showEndsRow.func = some 3 := by kernel_rfl
theorem azq {a b : Bool} (ha : a = true) (hb : b = true) : (a && b) = true := by rw [ha, hb]; rfl
set_option maxHeartbeats 100000000 in
theorem k_b : joinedFacts Tryz.pinned.checked.prog 3 Tryz.f3 Rows.showEndsSpec Rows.showEndsRow = true := by
  unfold joinedFacts
  repeat' with_reducible apply azq
  all_goals (as_aux_lemma => kernel_rfl)
theorem k_c : Func.isInstance Tryz.pinned.checked.prog Tryz.f3 Rows.showEndsRow.origin Rows.showEndsRow.targs := of_decide_eq_true (by kernel_rfl)
theorem k_d : Func.isWrapper Tryz.pinned.checked.prog Tryz.f3 Rows.showEndsRow.wrapper Rows.showEndsRow.mainSum := by
  unfold Func.isWrapper; first | (rw [if_pos (by decide +kernel)]; kernel_rfl) | (rw [if_neg (by decide +kernel)]; exact ⟨rfl, rfl⟩)
theorem k_e : OpenClaim.wfByText (OpenSpec.ofChange Rows.showEndsSpec) Rows.showEndsRow = true := by kernel_rfl
theorem k_f : Tryz.pinned.checked.prog.mainIs = some ((true, "c444cd599936be61469ac5ddeb933365dd1e862cea4b973465f47efdaa8c6330").fst, (true, "c444cd599936be61469ac5ddeb933365dd1e862cea4b973465f47efdaa8c6330").snd.toList) := by kernel_rfl
theorem k_g : true = Tryz.pinned.checked.prog.looks [] := by kernel_rfl
theorem k_h : ([3, 3].all fun u => !Tryz.pinned.checked.prog.wantsStandIn u) = true := by kernel_rfl
theorem k_i : false = Rows.showEndsRow.goesBy Tryz.pinned.checked.prog := by kernel_rfl
abbrev zB : List Int := [240, 240, 240, 240, 240, 240, 240, 240, 240, 240, 240, 240, 240, 240, 240, 240, 240, 240, 240, 240, 240, 240, 240, 240, 240, 240, 240, 240, 240, 240, 240, 240, 240, 240, 240, 240, 240, 240, 240, 240, 240, 240, 240, 240, 240, 240, 240, 240, 240, 240, 240, 240, 240, 240, 240, 240, 240, 240, 240, 240, 240, 240, 240, 240, 240, 240, 240, 240, 240, 240, 240, 240, 240, 240, 240, 240, 240, 240, 240, 240, 240, 240, 240, 240, 240, 240, 240, 240, 240, 240, 240, 240, 240, 240, 240, 240, 240, 240, 240, 240, 240, 240, 240, 240, 240, 240, 240, 240, 240, 240, 240, 240, 240, 240, 240, 240, 240, 240, 240, 240, 240, 240, 240, 240, 240, 240, 240, 240, 241, 241, 241, 241, 241, 241, 241, 241, 241, 241, 241, 241, 241, 241, 241, 241, 241, 241, 241, 241, 241, 241, 241, 241, 241, 241, 241, 241, 241, 241, 241, 241, 241, 241, 241, 241, 241, 241, 241, 241, 241, 241, 241, 241, 241, 241, 241, 241, 241, 241, 241, 241, 241, 241, 241, 241, 241, 241, 241, 241, 241, 241, 241, 241, 241, 241, 2, 2, 2, 2, 2, 2, 2, 2, 2, 2, 2, 2, 2, 2, 2, 2, 2, 2, 2, 2, 2, 2, 2, 2, 2, 2, 2, 2, 2, 2, 19, 3, 3, 3, 3, 3, 3, 3, 3, 3, 3, 3, 3, 35, 3, 3, 52, 4, 4, 4, 68, 241, 241, 241, 241, 241, 241, 241, 241, 241, 241, 241]
theorem own : ownKnob Tryz.prog.godebug = none := by kernel_rfl
theorem a7n {W : World} (h : laidMetH Tryz.prog Rows.showEndsRow.laid W) : ∃ arr t fz, W.heap[1]? = some (.cells arr t fz) ∧ ∀ ρ, Go.Ev.VRels ρ Go.Ev.ctA arr.toList := by
  rw [MakeChecks.laidMetH_plain _ _ _ (by kernel_rfl)] at h
  obtain ⟨ps, hv, _⟩ := h
  obtain ⟨g, t, cs, fuel, p, h1, h2, h3, h4⟩ := Go.Ev.laid_at (n := "unicode/utf8.acceptRanges") (d := Rows.laid_unicode_utf8_acceptRanges) hv (List.mem_of_getElem? (i := 3) rfl)
  have hg : Tryz.prog.globalNamed "unicode/utf8.acceptRanges" = some 1 := by kernel_rfl
  have ht : (Tryz.prog.globals[1]?).map (·.type) = some 222 := by kernel_rfl
  rw [hg] at h1
  injection h1 with h1
  subst h1
  rw [ht] at h2
  injection h2 with h2
  subst h2
  unfold World.var? at h3
  rw [hg] at h3
  simp only [Option.bind_some] at h3
  split at h3
  · rename_i arr t' fz hx
    injection h3 with h3
    subst h3
    rw [show (Rows.laid_unicode_utf8_acceptRanges : DataW Unit) = .agg (([[128, 191], [160, 191], [128, 159], [144, 191], [128, 143], [0, 0], [0, 0], [0, 0], [0, 0], [0, 0], [0, 0], [0, 0], [0, 0], [0, 0], [0, 0], [0, 0]] : List (List Int)).map fun zs => .agg (zs.map fun z => .lit (.int .u8 z))) from by kernel_rfl] at h4
    have hcs := Go.Ev.ints_structs (k := .u8) (zss := [[128, 191], [160, 191], [128, 159], [144, 191], [128, 143], [0, 0], [0, 0], [0, 0], [0, 0], [0, 0], [0, 0], [0, 0], [0, 0], [0, 0], [0, 0], [0, 0]]) Tryz.underlying222 Tryz.underlying221 (fun i f hf => match i, hf with 
        | 0, hf => by simp at hf; subst hf; exact ⟨rfl, by kernel_rfl, Tryz.underlying5⟩
        | 1, hf => by simp at hf; subst hf; exact ⟨rfl, by kernel_rfl, Tryz.underlying5⟩
        | n + 2, hf => by simp at hf) (by kernel_rfl) (by kernel_rfl) h4
    exact ⟨_, _, _, hx, fun ρ => by rw [hcs]; exact Go.Ev.ints_rel ρ .u8 [128, 191, 160, 191, 128, 159, 144, 191, 128, 143, 0, 0, 0, 0, 0, 0, 0, 0, 0, 0, 0, 0, 0, 0, 0, 0, 0, 0, 0, 0, 0, 0]⟩
  · cases h3
theorem a7o {W : World} (h : laidMetH Tryz.prog Rows.showEndsRow.laid W) : ∃ arr t fz, W.heap[0]? = some (.cells arr t fz) ∧ ∀ ρ, Go.Ev.VRels ρ Go.Ev.ctB arr.toList := by
  rw [MakeChecks.laidMetH_plain _ _ _ (by kernel_rfl)] at h
  obtain ⟨ps, hv, _⟩ := h
  obtain ⟨g, t, cs, fuel, p, h1, h2, h3, h4⟩ := Go.Ev.laid_at (n := "unicode/utf8.first") (d := Rows.laid_unicode_utf8_first) hv (List.mem_of_getElem? (i := 4) rfl)
  have hg : Tryz.prog.globalNamed "unicode/utf8.first" = some 0 := by kernel_rfl
  have ht : (Tryz.prog.globals[0]?).map (·.type) = some 219 := by kernel_rfl
  rw [hg] at h1
  injection h1 with h1
  subst h1
  rw [ht] at h2
  injection h2 with h2
  subst h2
  unfold World.var? at h3
  rw [hg] at h3
  simp only [Option.bind_some] at h3
  split at h3
  · rename_i arr t' fz hx
    injection h3 with h3
    subst h3
    rw [show (Rows.laid_unicode_utf8_first : DataW Unit) = .agg ((zB : List Int).map fun z => .lit (.int .u8 z)) from by kernel_rfl] at h4
    have hcs := Go.Ev.ints_array (k := .u8) (zs := zB) Tryz.underlying219 Tryz.underlying5 (by kernel_rfl) (by kernel_rfl) h4
    exact ⟨_, _, _, hx, fun ρ => by rw [hcs]; exact Go.Ev.ints_rel ρ .u8 zB⟩
  · cases h3
theorem a7p {W : World} (h : laidMetH Tryz.prog Rows.showEndsRow.laid W) : ∃ arr t fz, W.heap[3]? = some (.cells arr t fz) ∧ ∀ ρ, Go.Ev.VRels ρ [.int .u64 1, .int .u64 10, .int .u64 100, .int .u64 1000, .int .u64 10000, .int .u64 100000, .int .u64 1000000, .int .u64 10000000, .int .u64 100000000, .int .u64 1000000000, .int .u64 10000000000, .int .u64 100000000000, .int .u64 1000000000000, .int .u64 10000000000000, .int .u64 100000000000000, .int .u64 1000000000000000, .int .u64 10000000000000000, .int .u64 100000000000000000, .int .u64 1000000000000000000, .int .u64 10000000000000000000] arr.toList := by
  rw [MakeChecks.laidMetH_plain _ _ _ (by kernel_rfl)] at h
  obtain ⟨ps, hv, _⟩ := h
  obtain ⟨g, t, cs, fuel, p, h1, h2, h3, h4⟩ := Go.Ev.laid_at (n := "internal/strconv.uint64pow10") (d := Rows.laid_internal_strconv_uint64pow10) hv (List.mem_of_getElem? (i := 2) rfl)
  have hg : Tryz.prog.globalNamed "internal/strconv.uint64pow10" = some 3 := by kernel_rfl
  have ht : (Tryz.prog.globals[3]?).map (·.type) = some 251 := by kernel_rfl
  rw [hg] at h1
  injection h1 with h1
  subst h1
  rw [ht] at h2
  injection h2 with h2
  subst h2
  unfold World.var? at h3
  rw [hg] at h3
  simp only [Option.bind_some] at h3
  split at h3
  · rename_i arr t' fz hx
    injection h3 with h3
    subst h3
    rw [show (Rows.laid_internal_strconv_uint64pow10 : DataW Unit) = .agg (([1, 10, 100, 1000, 10000, 100000, 1000000, 10000000, 100000000, 1000000000, 10000000000, 100000000000, 1000000000000, 10000000000000, 100000000000000, 1000000000000000, 10000000000000000, 100000000000000000, 1000000000000000000, 10000000000000000000] : List Int).map fun z => .lit (.int .u64 z)) from by kernel_rfl] at h4
    have hcs := Go.Ev.ints_array (k := .u64) (zs := [1, 10, 100, 1000, 10000, 100000, 1000000, 10000000, 100000000, 1000000000, 10000000000, 100000000000, 1000000000000, 10000000000000, 100000000000000, 1000000000000000, 10000000000000000, 100000000000000000, 1000000000000000000, 10000000000000000000]) Tryz.underlying251 Tryz.underlying233 (by kernel_rfl) (by kernel_rfl) h4
    exact ⟨_, _, _, hx, fun ρ => by rw [hcs]; exact Go.Ev.ints_rel ρ .u64 [1, 10, 100, 1000, 10000, 100000, 1000000, 10000000, 100000000, 1000000000, 10000000000, 100000000000, 1000000000000, 10000000000000, 100000000000000, 1000000000000000, 10000000000000000, 100000000000000000, 1000000000000000000, 10000000000000000000]⟩
  · cases h3
/-- the variables that the code reads lie as they are laid -/
theorem a7m {W : World} (h : laidMetH Tryz.prog Rows.showEndsRow.laid W) : Go.Ev.LaidIn Go.Ev.laidL W := by
  intro g' cs' hm
  have hm : Go.Ev.LE.mk g' cs' ∈ [Go.Ev.LE.mk 1 Go.Ev.ctA, Go.Ev.LE.mk 0 Go.Ev.ctB, Go.Ev.LE.mk 3 [.int .u64 1, .int .u64 10, .int .u64 100, .int .u64 1000, .int .u64 10000, .int .u64 100000, .int .u64 1000000, .int .u64 10000000, .int .u64 100000000, .int .u64 1000000000, .int .u64 10000000000, .int .u64 100000000000, .int .u64 1000000000000, .int .u64 10000000000000, .int .u64 100000000000000, .int .u64 1000000000000000, .int .u64 10000000000000000, .int .u64 100000000000000000, .int .u64 1000000000000000000, .int .u64 10000000000000000000]] := hm
  simp only [List.mem_cons, List.not_mem_nil, or_false, Go.Ev.LE.mk.injEq] at hm
  rcases hm with ⟨e1, e2⟩ | ⟨e1, e2⟩ | ⟨e1, e2⟩
  · subst e1 e2; exact a7n h
  · subst e1 e2; exact a7o h
  · subst e1 e2; exact a7p h
theorem at9 (os : Os) (started : os.Started) (H : Type) (enc : TypeId × Value → H) :
    ReturnsInHanded {} Tryz.checked os 3 .any (fun w args => (Rows.showEndsSpec.pre enc Tryz.prog Tryz.f3 [] false w args ∧ laidMetH Tryz.prog Rows.showEndsRow.laid w) ∧ sizedMet enc Tryz.prog Tryz.f3 (OpenSpec.ofChange Rows.showEndsSpec) false w args)
      (Rows.showEndsSpec.post enc Tryz.prog Tryz.f3 false true false false) := by
  refine returnsInHanded_of_change_and (C := Tryz.checked) (X := fun w _ => laidMetH Tryz.prog Rows.showEndsRow.laid w) (fun _ _ _ hh h => h.of_heap hh) own started (by kernel_rfl) Tryz.func3
    (ChangeSpec.witness_shaped (enc := enc) (C := Tryz.checked) (os := os) (X := fun w _ => laidMetH Tryz.prog Rows.showEndsRow.laid w) false (World.laidAll Tryz.prog os Rows.showEndsRow.laid) #[.int .i64 0, .int .i64 0] 8 (World.laidAll_os _ _ _)
      (World.shaped_of_ZipB (by kernel_rfl) (by kernel_rfl)) (by kernel_rfl) (by kernel_rfl) (by kernel_rfl)
      (by rw [MakeChecks.laidMetH_plain _ _ _ (by kernel_rfl)]; exact laidMet_laidAll _ (by kernel_rfl) (by kernel_rfl))) ?_
  intro W base args ds gs before hval0 hW _ _ hX _
  have hval : ∀ (j : Nat) t v, Tryz.f3.params[j]? = some t → args[j]? = some v → Value.okWide Tryz.prog W .any base t v := hval0
  have hW' := hW
  obtain ⟨p, q, hA0, hV, rfl, _, _⟩ := hW
  have hA : DataW.TrodAll enc Tryz.prog W 0 (fun _ => true) true Tryz.f3.params.toList args.toList ds p := hA0
  rw [Tryz.params3] at hA hval
  obtain ⟨v0, v1, d0, d1, p0, p1, rfl, rfl, rfl, h0, h1⟩ := trodAll_two hA
  obtain ⟨rfl, rfl⟩ := trodVars_none hV
  obtain ⟨x0, rfl, rfl, rfl, wx0⟩ := open_int Tryz.underlying3 (hval 0 3 v0 rfl rfl) h0
  obtain ⟨x1, rfl, rfl, rfl, wx1⟩ := open_int Tryz.underlying3 (hval 1 3 v1 rfl rfl) h1
  simp only [List.append_nil] at hW'
  have e1 : Rows.showEndsSpec.fn H ([.lit (.int .i64 x0), .lit (.int .i64 x1)] ++ []) = { results := [.lit (.bool true)], args := [.lit (.int .i64 x0), .lit (.int .i64 x1)] } := by simp [Rows.showEndsSpec]
  have hL := Go.Ev.ends_wf x0 x1 wx0 wx1 W (a7m hX)
  rw [Go.Ev.pp_eq] at hL
  refine hL.mono fun e W' ⟨he, hk⟩ => ?_
  subst he
  refine ⟨_, rfl, _, _, _, [], [], [], hW', ?_, ?_, ?_, Go.Ev.kept_but hk _, fun h => by cases h⟩
  · rw [e1]; exact trodAll_mk1 (shut_bool Tryz.underlying4 true)
  · rw [e1]; exact trodAll_mk2 (shut_int Tryz.underlying3 wx0) (shut_int Tryz.underlying3 wx1)
  · rw [e1]; rfl
theorem a0d : Rows.ShowEndsSaid :=
  OpenClaim.holds_of_wide 3 Tryz.f3 rfl rfl rfl rfl rfl rfl rfl ⟨rfl, rfl, rfl, rfl, rfl⟩ rfl rfl rfl rfl rfl k_a Tryz.func3 k_b k_c k_d
    (fun os started H enc _ => at9 os started H enc)
theorem ends_card : Rows.ShowEndsCardSaid :=
  Claim7.holds_tied_plain_at .later [] [.data, .data, .data, .data, .pinned] true (true, "c444cd599936be61469ac5ddeb933365dd1e862cea4b973465f47efdaa8c6330") true
    a0d (fun _ h => by cases h) k_e (fun _ h => by cases h) showEnds_row_tie rfl ⟨rfl, rfl⟩ k_f rfl
    (fun f fn hf hfn => by
      obtain rfl : f = 3 := Option.some.inj (k_a.symm.trans hf) |>.symm
      obtain rfl : fn = Tryz.f3 := (Option.some.inj (Tryz.func3.symm.trans hfn)).symm
      exact ⟨k_g, fun j t ht => by
        rw [Tryz.params3] at ht
        have hm : t ∈ [3, 3] := by simpa using Array.mem_of_getElem? ht
        exact (show Tryz.pinned.checked.prog.wantsStandIn t = false by simpa using List.all_eq_true.1 k_h t hm)⟩)
    k_i
#print axioms ends_card
end Go.Proofs.YtocilenpboklbaaGreatDoor
