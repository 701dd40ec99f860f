/- 'copyistlaw13.CompileKnown' returns true, whatever the memory in which it is called (the listed variables lie as the text lays them). The closed runs are reckoned by an evaluator of the model's code that is proved sound against the model's steps (the texts Ev..); no condition besides. -/
import Derived.Test.YtgoaahdiilnfmaaGreatDoorEvLd
import Derived.Test.YtgoaahdiilnfmaaGreatDoorChecked
import Derived.Test.YtgoaahdiilnfmaaGreatDoorRows
import Derived.Test.YtgoaahdiilnfmaaGreatDoorCards
import Derived.Test.YtgoaahdiilnfmaaGreatDoorTie
import Derived.Test.YtgoaahdiilnfmaaGreatDoorCompRuns
import Derived.ProofKit
import Derived.Lay
import Derived.LaidOnce
import Derived.SevenTiedAt
set_option maxRecDepth 100000
set_option linter.all false
namespace Go.Proofs.YtgoaahdiilnfmaaGreatDoor
open Go.ChangeShapes Go.WideShapes Go.ChangeAt Go.RowKit
theorem own : ownKnob Tryz.prog.godebug = none := by kernel_rfl
/-- the variable that the code reads lies as it is laid -/
theorem laid_of {W : World} (h : laidMetH Tryz.prog Rows.compileKnownRow.laid W) : Go.Ev.LaidIn Go.Ev.laidL W := by
  rw [MakeChecks.laidMetH_plain _ _ _ (by kernel_rfl)] at h
  obtain ⟨ps, hv, _⟩ := h
  obtain ⟨g, t, cs, fuel, p, h1, h2, h3, h4⟩ := Go.Ev.laid_at (n := "copyist/compile.none") (d := Rows.laid_copyist_compile_none) hv (List.mem_of_getElem? (i := 4) rfl)
  have hg : Tryz.prog.globalNamed "copyist/compile.none" = some 0 := by kernel_rfl
  have ht : (Tryz.prog.globals[0]?).map (·.type) = some 31 := by kernel_rfl
  rw [hg] at h1
  injection h1 with h1
  subst h1
  rw [ht] at h2
  injection h2 with h2
  subst h2
  unfold World.var? at h3
  rw [hg] at h3
  simp only [Option.bind_some] at h3
  split at h3
  · rename_i arr t' fz hx
    injection h3 with h3
    subst h3
    have hcs := Go.Ev.ints_struct (k := .i64) (zs := [1, 0]) Tryz.underlying31 (fun i f hf => match i, hf with
      | 0, hf => by simp at hf; subst hf; exact ⟨rfl, by kernel_rfl, Tryz.underlying3⟩
      | 1, hf => by simp at hf; subst hf; exact ⟨rfl, by kernel_rfl, Tryz.underlying3⟩
      | n + 2, hf => by simp at hf) (by kernel_rfl) h4
    intro g' cs' hm
    have hm : Go.Ev.LE.mk g' cs' ∈ [Go.Ev.LE.mk 0 [.int .i64 1, .int .i64 0]] := hm
    rw [List.mem_singleton] at hm
    injection hm with e1 e2
    subst e1 e2
    exact ⟨_, _, _, hx, fun ρ => by rw [hcs]; exact Go.Ev.ints_rel ρ .i64 [1, 0]⟩
  · cases h3
theorem known_lifted (os : Os) (started : os.Started) (H : Type) (enc : TypeId × Value → H) :
    ReturnsInHanded {} Tryz.checked os 3 .any (fun w args => (Rows.compileKnownSpec.pre enc Tryz.prog Tryz.f3 [] false w args ∧ laidMetH Tryz.prog Rows.compileKnownRow.laid w) ∧ sizedMet enc Tryz.prog Tryz.f3 (OpenSpec.ofChange Rows.compileKnownSpec) false w args)
      (Rows.compileKnownSpec.post enc Tryz.prog Tryz.f3 false true false false) := by
  refine returnsInHanded_of_change_and (C := Tryz.checked) (X := fun w _ => laidMetH Tryz.prog Rows.compileKnownRow.laid w) (fun _ _ _ hh h => h.of_heap hh) own started (by kernel_rfl) Tryz.func3
    (ChangeSpec.witness_shaped (enc := enc) (C := Tryz.checked) (os := os) (X := fun w _ => laidMetH Tryz.prog Rows.compileKnownRow.laid w) false (World.laidAll Tryz.prog os Rows.compileKnownRow.laid) #[] 8 (World.laidAll_os _ _ _)
      (World.shaped_of_ZipB (by kernel_rfl) (by kernel_rfl)) (by kernel_rfl) (by kernel_rfl) (by kernel_rfl)
      (by rw [MakeChecks.laidMetH_plain _ _ _ (by kernel_rfl)]; exact laidMet_laidAll _ (by kernel_rfl) (by kernel_rfl))) ?_
  intro W base args ds gs before _ hW _ _ hX _
  have hW' := hW
  obtain ⟨p, q, hA0, hV, rfl, _, _⟩ := hW
  have hA : DataW.TrodAll enc Tryz.prog W 0 (fun _ => true) true Tryz.f3.params.toList args.toList ds p := hA0
  rw [Tryz.params3] at hA
  obtain ⟨rfl, rfl, rfl⟩ := trodAll_none hA
  obtain ⟨rfl, rfl⟩ := trodVars_none hV
  simp only [List.append_nil] at hW'
  refine (Go.Ev.calls_true known_fact W (laid_of hX)).mono fun e W' ⟨he, hk⟩ => ?_
  subst he
  exact ⟨_, rfl, _, _, _, [], [], [], hW', trodAll_mk1 (shut_bool Tryz.underlying4 _), rfl, rfl, hk _, fun h => by cases h⟩
theorem known_holds : Rows.CompileKnownSaid :=
  OpenClaim.holds_of_wide 3 Tryz.f3 rfl rfl rfl rfl rfl rfl rfl ⟨rfl, rfl, rfl, rfl, rfl⟩ rfl rfl rfl rfl rfl (by kernel_rfl) Tryz.func3 (by kernel_rfl)
    (of_decide_eq_true (by kernel_rfl)) (by unfold Func.isWrapper; first | (rw [if_pos (by decide +kernel)]; kernel_rfl) | (rw [if_neg (by decide +kernel)]; exact ⟨rfl, rfl⟩))
    (fun os started H enc _ => known_lifted os started H enc)
theorem known_card : Rows.CompileKnownCardSaid :=
  Claim7.holds_tied_plain_at .later [] [.data, .data, .data, .data, .data, .pinned] true (true, "354487cf8f5d3fb92fd561a8bf7023d6d7bf85617243864bc90aa194f2971961") true
    known_holds (fun _ h => by cases h) (by kernel_rfl) (fun _ h => by cases h) compileKnown_row_tie rfl ⟨rfl, rfl⟩ (by kernel_rfl) rfl
    (fun f fn hf hfn => by
      obtain rfl : f = 3 := Option.some.inj ((show Tryz.prog.funcNamed "copyist/copyistlaw13.CompileKnown" = some 3 by kernel_rfl).symm.trans hf) |>.symm
      obtain rfl : fn = Tryz.f3 := (Option.some.inj (Tryz.func3.symm.trans hfn)).symm
      exact ⟨by kernel_rfl, fun j t ht => by
        rw [Tryz.params3] at ht
        simp at ht⟩)
    (by kernel_rfl)
#print axioms known_card
end Go.Proofs.YtgoaahdiilnfmaaGreatDoor
