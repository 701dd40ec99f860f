/- Every input lies on a path. -/
import Derived.Test.YtldcnedpfagliaaGreatDoorPaL0
import Derived.Test.YtldcnedpfagliaaGreatDoorPaL1
import Derived.Test.YtldcnedpfagliaaGreatDoorPaL2
import Derived.Test.YtldcnedpfagliaaGreatDoorPaL3
import Derived.Test.YtldcnedpfagliaaGreatDoorPaL4
import Derived.Test.YtldcnedpfagliaaGreatDoorPaL5
import Derived.Test.YtldcnedpfagliaaGreatDoorPaL6
import Derived.Test.YtldcnedpfagliaaGreatDoorPaL7
import Derived.Test.YtldcnedpfagliaaGreatDoorPaL8
import Derived.Test.YtldcnedpfagliaaGreatDoorPaL9
import Derived.Test.YtldcnedpfagliaaGreatDoorPaL10
import Derived.Test.YtldcnedpfagliaaGreatDoorPaL11
set_option linter.all false
set_option maxRecDepth 100000
namespace Go.Proofs.YtldcnedpfagliaaGreatDoor
open Go.Ev
theorem law_all (i : Nat) (hi : i < 96) : ∃ R, HookOk (hooksR R) ∧ (upto21.all fun m => retV (enter (run (HK R i m) 1000000) 4 (largs i m) wS) (.bool true)) = true := by
  match i, hi with
  | 0, _ => exact ⟨rr0, rr0_ok, law_0⟩
  | 1, _ => exact ⟨rr1, rr1_ok, law_1⟩
  | 2, _ => exact ⟨rr2, rr2_ok, law_2⟩
  | 3, _ => exact ⟨rr3, rr3_ok, law_3⟩
  | 4, _ => exact ⟨rr4, rr4_ok, law_4⟩
  | 5, _ => exact ⟨rr5, rr5_ok, law_5⟩
  | 6, _ => exact ⟨rr6, rr6_ok, law_6⟩
  | 7, _ => exact ⟨rr7, rr7_ok, law_7⟩
  | 8, _ => exact ⟨rr8, rr8_ok, law_8⟩
  | 9, _ => exact ⟨rr9, rr9_ok, law_9⟩
  | 10, _ => exact ⟨rr10, rr10_ok, law_10⟩
  | 11, _ => exact ⟨rr11, rr11_ok, law_11⟩
  | 12, _ => exact ⟨rr12, rr12_ok, law_12⟩
  | 13, _ => exact ⟨rr13, rr13_ok, law_13⟩
  | 14, _ => exact ⟨rr14, rr14_ok, law_14⟩
  | 15, _ => exact ⟨rr15, rr15_ok, law_15⟩
  | 16, _ => exact ⟨rr16, rr16_ok, law_16⟩
  | 17, _ => exact ⟨rr17, rr17_ok, law_17⟩
  | 18, _ => exact ⟨rr18, rr18_ok, law_18⟩
  | 19, _ => exact ⟨rr19, rr19_ok, law_19⟩
  | 20, _ => exact ⟨rr20, rr20_ok, law_20⟩
  | 21, _ => exact ⟨rr21, rr21_ok, law_21⟩
  | 22, _ => exact ⟨rr22, rr22_ok, law_22⟩
  | 23, _ => exact ⟨rr23, rr23_ok, law_23⟩
  | 24, _ => exact ⟨rr24, rr24_ok, law_24⟩
  | 25, _ => exact ⟨rr25, rr25_ok, law_25⟩
  | 26, _ => exact ⟨rr26, rr26_ok, law_26⟩
  | 27, _ => exact ⟨rr27, rr27_ok, law_27⟩
  | 28, _ => exact ⟨rr28, rr28_ok, law_28⟩
  | 29, _ => exact ⟨rr29, rr29_ok, law_29⟩
  | 30, _ => exact ⟨rr30, rr30_ok, law_30⟩
  | 31, _ => exact ⟨rr31, rr31_ok, law_31⟩
  | 32, _ => exact ⟨rr32, rr32_ok, law_32⟩
  | 33, _ => exact ⟨rr33, rr33_ok, law_33⟩
  | 34, _ => exact ⟨rr34, rr34_ok, law_34⟩
  | 35, _ => exact ⟨rr35, rr35_ok, law_35⟩
  | 36, _ => exact ⟨rr36, rr36_ok, law_36⟩
  | 37, _ => exact ⟨rr37, rr37_ok, law_37⟩
  | 38, _ => exact ⟨rr38, rr38_ok, law_38⟩
  | 39, _ => exact ⟨rr39, rr39_ok, law_39⟩
  | 40, _ => exact ⟨rr40, rr40_ok, law_40⟩
  | 41, _ => exact ⟨rr41, rr41_ok, law_41⟩
  | 42, _ => exact ⟨rr42, rr42_ok, law_42⟩
  | 43, _ => exact ⟨rr43, rr43_ok, law_43⟩
  | 44, _ => exact ⟨rr44, rr44_ok, law_44⟩
  | 45, _ => exact ⟨rr45, rr45_ok, law_45⟩
  | 46, _ => exact ⟨rr46, rr46_ok, law_46⟩
  | 47, _ => exact ⟨rr47, rr47_ok, law_47⟩
  | 48, _ => exact ⟨rr48, rr48_ok, law_48⟩
  | 49, _ => exact ⟨rr49, rr49_ok, law_49⟩
  | 50, _ => exact ⟨rr50, rr50_ok, law_50⟩
  | 51, _ => exact ⟨rr51, rr51_ok, law_51⟩
  | 52, _ => exact ⟨rr52, rr52_ok, law_52⟩
  | 53, _ => exact ⟨rr53, rr53_ok, law_53⟩
  | 54, _ => exact ⟨rr54, rr54_ok, law_54⟩
  | 55, _ => exact ⟨rr55, rr55_ok, law_55⟩
  | 56, _ => exact ⟨rr56, rr56_ok, law_56⟩
  | 57, _ => exact ⟨rr57, rr57_ok, law_57⟩
  | 58, _ => exact ⟨rr58, rr58_ok, law_58⟩
  | 59, _ => exact ⟨rr59, rr59_ok, law_59⟩
  | 60, _ => exact ⟨rr60, rr60_ok, law_60⟩
  | 61, _ => exact ⟨rr61, rr61_ok, law_61⟩
  | 62, _ => exact ⟨rr62, rr62_ok, law_62⟩
  | 63, _ => exact ⟨rr63, rr63_ok, law_63⟩
  | 64, _ => exact ⟨rr64, rr64_ok, law_64⟩
  | 65, _ => exact ⟨rr65, rr65_ok, law_65⟩
  | 66, _ => exact ⟨rr66, rr66_ok, law_66⟩
  | 67, _ => exact ⟨rr67, rr67_ok, law_67⟩
  | 68, _ => exact ⟨rr68, rr68_ok, law_68⟩
  | 69, _ => exact ⟨rr69, rr69_ok, law_69⟩
  | 70, _ => exact ⟨rr70, rr70_ok, law_70⟩
  | 71, _ => exact ⟨rr71, rr71_ok, law_71⟩
  | 72, _ => exact ⟨rr72, rr72_ok, law_72⟩
  | 73, _ => exact ⟨rr73, rr73_ok, law_73⟩
  | 74, _ => exact ⟨rr74, rr74_ok, law_74⟩
  | 75, _ => exact ⟨rr75, rr75_ok, law_75⟩
  | 76, _ => exact ⟨rr76, rr76_ok, law_76⟩
  | 77, _ => exact ⟨rr77, rr77_ok, law_77⟩
  | 78, _ => exact ⟨rr78, rr78_ok, law_78⟩
  | 79, _ => exact ⟨rr79, rr79_ok, law_79⟩
  | 80, _ => exact ⟨rr80, rr80_ok, law_80⟩
  | 81, _ => exact ⟨rr81, rr81_ok, law_81⟩
  | 82, _ => exact ⟨rr82, rr82_ok, law_82⟩
  | 83, _ => exact ⟨rr83, rr83_ok, law_83⟩
  | 84, _ => exact ⟨rr84, rr84_ok, law_84⟩
  | 85, _ => exact ⟨rr85, rr85_ok, law_85⟩
  | 86, _ => exact ⟨rr86, rr86_ok, law_86⟩
  | 87, _ => exact ⟨rr87, rr87_ok, law_87⟩
  | 88, _ => exact ⟨rr88, rr88_ok, law_88⟩
  | 89, _ => exact ⟨rr89, rr89_ok, law_89⟩
  | 90, _ => exact ⟨rr90, rr90_ok, law_90⟩
  | 91, _ => exact ⟨rr91, rr91_ok, law_91⟩
  | 92, _ => exact ⟨rr92, rr92_ok, law_92⟩
  | 93, _ => exact ⟨rr93, rr93_ok, law_93⟩
  | 94, _ => exact ⟨rr94, rr94_ok, law_94⟩
  | 95, _ => exact ⟨rr95, rr95_ok, law_95⟩
  | j + 96, h => exact absurd h (by omega)
theorem mem21 : ∀ m, m < 21 → m ∈ upto21 := by decide
/-- the inputs -/
noncomputable def inp (a b : Int) (s : ByteArray) : Nat → Int := fun k => if k = 0 then a else if k = 1 then b else if k = 3 then (arTab s).1 else if k = 4 then (arTab s).2.1 else if k = 5 then (arTab s).2.2 else if k = 13 then (s.data.toList.length : Int) else if k = 14 then (packL s.data.toList 0 : Int) else 0
theorem arity_all (a b : Int) (s : ByteArray) (w : World) (hl : LaidIn laidL w) : Calls PP 4 #[.int .i64 a, .string s, .int .i64 b] w fun e w' => e = .returned (.bool true) ∧ KeptW w w' := by
  have hi : (a % 96).toNat < 96 := by omega
  have hm : (b % 21).toNat < 21 := by omega
  obtain ⟨R, hR, hall⟩ := law_all _ hi
  have hL := List.all_eq_true.1 hall _ (mem21 _ hm)
  have hF := symFact_of_run low (HK_ok hR _ _) rfl hL
  have val : ∀ k, k < 15 → (ρσ (inp a b s)).val k = inp a b s k := fun k hk => val_σ _ k hk
  have hstr : strV (ρσ (inp a b s)).val = s := by
    unfold strV
    rw [val 13 (by omega), val 14 (by omega)]
    exact unpack_pack s
  have hA : SAll (ρσ (inp a b s)).val (LA (a % 96).toNat (b % 21).toNat) := by
    intro x hx
    simp only [LA, List.mem_cons, List.not_mem_nil, or_false] at hx
    rcases hx with rfl | rfl
    · show decide ((emE 0 96).eval _ = (SE.c _).eval _) = true
      simp only [emE, SE.eval, val 0 (by omega)]
      rw [decide_eq_true_eq]
      show a % 96 = Int.ofNat _
      exact (Int.toNat_of_nonneg (Int.emod_nonneg _ (by decide))).symm
    · show decide ((emE 1 21).eval _ = (SE.c _).eval _) = true
      simp only [emE, SE.eval, val 1 (by omega)]
      rw [decide_eq_true_eq]
      show b % 21 = Int.ofNat _
      exact (Int.toNat_of_nonneg (Int.emod_nonneg _ (by decide))).symm
  refine Calls.mono (hF (inp a b s) _ w hl ?_) fun e w' hp => ?_
  · simp only [largs, VRels, VRel]
    refine ⟨_, _, rfl, ⟨vars_σ _, hA, by simp only [SE.eval, val 0 (by omega)]; rfl⟩, _, _, rfl, ⟨vars_σ _, ?_⟩, _, [], rfl, ⟨vars_σ _, hA, by simp only [SE.eval, val 1 (by omega)]; rfl⟩, rfl⟩
    refine ⟨by rw [hstr], ?_⟩
    unfold ArOk
    rw [hstr, val 3 (by omega), val 4 (by omega), val 5 (by omega)]
    rfl
  · obtain ⟨v', rfl, hv, hK⟩ := hp
    simp only [VRel] at hv
    subst hv
    exact ⟨rfl, hK⟩
end Go.Proofs.YtldcnedpfagliaaGreatDoor
