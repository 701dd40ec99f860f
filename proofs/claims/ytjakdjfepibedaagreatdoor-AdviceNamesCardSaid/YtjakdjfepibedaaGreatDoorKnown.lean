/- 'copyistlaw30.AdviceNames' returns true, whatever the memory in which it is called. The closed runs are reckoned by an evaluator of the model's code that is proved sound against the model's steps (the texts Ev..); no condition besides. -/
import Derived.Test.YtjakdjfepibedaaGreatDoorEvLd
import Derived.Test.YtjakdjfepibedaaGreatDoorChecked
import Derived.Test.YtjakdjfepibedaaGreatDoorRows
import Derived.Test.YtjakdjfepibedaaGreatDoorCards
import Derived.Test.YtjakdjfepibedaaGreatDoorTie
import Derived.Test.YtjakdjfepibedaaGreatDoorAdB
import Derived.Test.YtjakdjfepibedaaGreatDoorFrK
import Derived.Test.YtjakdjfepibedaaGreatDoorFrL
import Derived.ProofKit
import Derived.Lay
import Derived.LaidOnce
import Derived.SevenTiedAt
set_option maxRecDepth 100000
set_option linter.all false
namespace Go.Proofs.YtjakdjfepibedaaGreatDoor
open Go.ChangeShapes Go.WideShapes Go.ChangeAt Go.RowKit
theorem own : ownKnob Tryz.prog.godebug = none := by kernel_rfl
/-- the variables that the code reads lie as they are laid -/
theorem laid_of {W : World} (h : laidMetH Tryz.prog Rows.adviceNamesRow.laid W) : Go.Ev.LaidIn Go.Ev.laidL W := by
  intro g' cs' hm
  have hm : Go.Ev.LE.mk g' cs' ∈ [] := hm
  cases hm
theorem law_lifted (os : Os) (started : os.Started) (H : Type) (enc : TypeId × Value → H) :
    ReturnsInHanded {} Tryz.checked os 3 .any (fun w args => (Rows.adviceNamesSpec.pre enc Tryz.prog Tryz.f3 [] false w args ∧ laidMetH Tryz.prog Rows.adviceNamesRow.laid w) ∧ sizedMet enc Tryz.prog Tryz.f3 (OpenSpec.ofChange Rows.adviceNamesSpec) false w args)
      (Rows.adviceNamesSpec.post enc Tryz.prog Tryz.f3 false true false false) := by
  refine returnsInHanded_of_change_and (C := Tryz.checked) (X := fun w _ => laidMetH Tryz.prog Rows.adviceNamesRow.laid w) (fun _ _ _ hh h => h.of_heap hh) own started (by kernel_rfl) Tryz.func3
    (ChangeSpec.witness_shaped (enc := enc) (C := Tryz.checked) (os := os) (X := fun w _ => laidMetH Tryz.prog Rows.adviceNamesRow.laid w) false (World.laidAll Tryz.prog os Rows.adviceNamesRow.laid) #[] 8 (World.laidAll_os _ _ _)
      (World.shaped_of_ZipB (by kernel_rfl) (by kernel_rfl)) (by kernel_rfl) (by kernel_rfl) (by kernel_rfl)
      (by rw [MakeChecks.laidMetH_plain _ _ _ (by kernel_rfl)]; exact laidMet_laidAll _ (by kernel_rfl) (by kernel_rfl))) ?_
  intro W base args ds gs before _ hW _ _ hX _
  have hW' := hW
  obtain ⟨p, q, hA0, hV, rfl, _, _⟩ := hW
  have hA : DataW.TrodAll enc Tryz.prog W 0 (fun _ => true) true Tryz.f3.params.toList args.toList ds p := hA0
  rw [Tryz.params3] at hA
  obtain ⟨rfl, rfl, rfl⟩ := trodAll_none hA
  obtain ⟨rfl, rfl⟩ := trodVars_none hV
  simp only [List.append_nil] at hW'
  refine (Go.Ev.calls_true Go.Ev.known_fact W (laid_of hX)).mono fun e W' ⟨he, hk⟩ => ?_
  subst he
  exact ⟨_, rfl, _, _, _, [], [], [], hW', trodAll_mk1 (shut_bool Tryz.underlying4 _), rfl, rfl, hk _, fun h => by cases h⟩
theorem law_holds : Rows.AdviceNamesSaid :=
  OpenClaim.holds_of_wide 3 Tryz.f3 rfl rfl rfl rfl rfl rfl rfl ⟨rfl, rfl, rfl, rfl, rfl⟩ rfl rfl rfl rfl rfl k_a Tryz.func3 k_b k_c k_d
    (fun os started H enc _ => law_lifted os started H enc)
theorem names_card : Rows.AdviceNamesCardSaid :=
  Claim7.holds_tied_plain_at .later [] [.data, .data, .data, .data, .pinned] true (true, "35c8c9a8c1ee0daaffa43ca863751e5369f7cc187aa3c7cc12c158071cccf2b8") true
    law_holds (fun _ h => by cases h) k_e (fun _ h => by cases h) adviceNames_row_tie rfl ⟨rfl, rfl⟩ k_f rfl
    (fun f fn hf hfn => by
      obtain rfl : f = 3 := Option.some.inj (k_a.symm.trans hf) |>.symm
      obtain rfl : fn = Tryz.f3 := (Option.some.inj (Tryz.func3.symm.trans hfn)).symm
      exact ⟨k_g, fun j t ht => by
        rw [Tryz.params3] at ht
        simp at ht⟩)
    k_i
#print axioms names_card
end Go.Proofs.YtjakdjfepibedaaGreatDoor
