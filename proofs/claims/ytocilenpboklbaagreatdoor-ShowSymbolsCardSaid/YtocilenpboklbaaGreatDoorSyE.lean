import Derived.Test.YtocilenpboklbaaGreatDoorSyG0
import Derived.Test.YtocilenpboklbaaGreatDoorSyG1
import Derived.Test.YtocilenpboklbaaGreatDoorSyG2
import Derived.Test.YtocilenpboklbaaGreatDoorSyG3
import Derived.Test.YtocilenpboklbaaGreatDoorRcP
set_option maxRecDepth 100000
set_option linter.all false
namespace Go.Ev
noncomputable instance gv0 : Gv := ⟨fun _ => []⟩
theorem bek {G G' : Gv} {w : World} (h : @LaidIn G laidL w) : @LaidIn G' laidL w := by
 intro g cs hm
 obtain ⟨arr, t, fz, h1, h2⟩ := h g cs hm
 exact ⟨arr, t, fz, h1, fun ρ => abj (@jd G _ (@ic G) g cs hm).2.1 (h2 ρ)⟩
def fixL : List (Nat × Nat) := [(3, 7235948), (1, 116), (5, 487301543013), (8, 7382928537577680750), (1, 96), (1, 44), (2, 11328), (6, 119165702792289), (7, 27985248628601445), (5, 469785342575), (5, 165128008564), (9, 709006320932754448748), (2, 26982), (4, 1668247140), (3, 6385252), (2, 28530), (5, 512852847717), (5, 482956240750), (5, 482956240689), (4, 1936028785), (3, 7103860), (4, 1818588202), (5, 426836779880), (14, 2381793977678502578102143874851700), (14, 2016787041542256923290239124992869), (6, 110386673508722), (8, 7234300953697874804), (5, 431197943150), (8, 7234300996411945583), (11, 127458818504976499584104037), (7, 28839564598668396), (5, 418498243705), (6, 120265264816498), (4, 1835102307), (4, 1702257004), (5, 499968536439), (6, 126896544047468), (5, 435711799154), (4, 1903520116), (13, 9383403423059702669977579580517), (13, 9383403423058555373549009858414), (19, 2663757397314901095382322954879158356550184564), (25, 749781051372049293057386538801311032636779409818639984915571), (17, 33159458725503807014831810376311545685861), (11, 117806099577798128716377970), (14, 2260727785469235662364888815267698), (16, 153388003480587613335266858083767381620), (8, 7957628971446985576), (16, 140142493254871783820688370579714699118), (19, 2351200880115526969479425374119979311791628664), (11, 122622816042548377873378405), (13, 7876222302167207231190018388852), (22, 37964533983826296352995798791071340672472487022915175), (11, 132251892078482770005159020), (14, 2360798837088724829763814128774265), (19, 2194306559561233339480094508905273046698714482), (13, 8036208872164450487963119674738), (13, 9142614481120370773387966702948), (14, 2138404743268917599816109472970864), (10, 554645564019283999223666), (16, 130873919237818497454574540560026987641), (27, 40921301388373393901266083601415623805023030494395681591402262382), (0, 0)]
theorem a7u : (tg g0L).map (·.1) ++ [[]] = fixL.map fun p => (bf p.1 p.2).map fun b => (b.toNat : Int) := by decide +kernel
theorem bk6 : fixL.all (fun p => decide (p.2 < 256 ^ p.1)) = true := by decide +kernel
theorem ata {s : List Int} : ∀ {l : List (List Int × Int)}, (l.lookup s).isSome → s ∈ l.map (·.1)
 | [], h => by cases h
 | (a, b) :: l, h => by
   rw [List.lookup_cons] at h
   split at h
   ·rename_i e; rw [List.map_cons, show s = a from eq_of_beq e]; exact List.mem_cons_self ..
   ·rw [List.map_cons]; exact zA _ (ata h)
theorem bd4 {s : List Int} (h : yu g0L s = 1 ∨ s = []) : ∃ p ∈ fixL, s = (bf p.1 p.2).map fun b => (b.toNat : Int) := by
 have : s ∈ (tg g0L).map (·.1) ++ [[]] := by
  rcases h with h | rfl
  ·refine List.mem_append_left _ (ata ?_)
   unfold yu at h
   split at h
   ·assumption
   ·exact absurd h (by decide)
  ·simp
 rw [a7u] at this
 obtain ⟨p, hp, e⟩ := List.mem_map.1 this
 exact ⟨p, hp, e.symm⟩
theorem a4l [Gv] : ∀ p ∈ fixL, aq 4 [.str p.1 p.2] 256 [] (.ret (.bool true)) 256 [] := by
 intro p hp
 unfold fixL at hp
 simp only [List.mem_cons, zH, or_false] at hp
 rcases hp with rfl | rfl | rfl | rfl | rfl | rfl | rfl | rfl | rfl | rfl | rfl | rfl | rfl | rfl | rfl | rfl | rfl | rfl | rfl | rfl | rfl | rfl | rfl | rfl | rfl | rfl | rfl | rfl | rfl | rfl | rfl | rfl | rfl | rfl | rfl | rfl | rfl | rfl | rfl | rfl | rfl | rfl | rfl | rfl | rfl | rfl | rfl | rfl | rfl | rfl | rfl | rfl | rfl | rfl | rfl | rfl | rfl | rfl | rfl | rfl | rfl | rfl | rfl
 ·exact cn0
 ·exact cn1
 ·exact cn2
 ·exact cn3
 ·exact cn4
 ·exact cn5
 ·exact cn6
 ·exact cn7
 ·exact cn8
 ·exact cn9
 ·exact bxg
 ·exact bxh
 ·exact bxi
 ·exact bxj
 ·exact bxk
 ·exact bxl
 ·exact bxm
 ·exact bxn
 ·exact bxo
 ·exact bxp
 ·exact bxq
 ·exact bxr
 ·exact bxs
 ·exact bxt
 ·exact bxu
 ·exact bxv
 ·exact bxw
 ·exact bxx
 ·exact bxy
 ·exact bxz
 ·exact bx0
 ·exact bx1
 ·exact bx2
 ·exact bx3
 ·exact bx4
 ·exact bx5
 ·exact bx6
 ·exact bx7
 ·exact bx8
 ·exact bx9
 ·exact bya
 ·exact byb
 ·exact byc
 ·exact byd
 ·exact bye
 ·exact byf
 ·exact byg
 ·exact byh
 ·exact byi
 ·exact byj
 ·exact byk
 ·exact byl
 ·exact bym
 ·exact byn
 ·exact byo
 ·exact byp
 ·exact byq
 ·exact byr
 ·exact bys
 ·exact byt
 ·exact byu
 ·exact byv
 ·exact byw
theorem ban {σ : Nat → List Int} {ρ : Env} {x : ByteArray} {i : Nat} (h : σ i = x.data.toList.map fun b => (b.toNat : Int)) : @VRel ⟨σ⟩ ρ (.gv (.str (.s i) [])) (.string x) := by
 letI : Gv := ⟨σ⟩
 simp only [VRel, GVRel]
 have e : (GE.s i).eval σ = x.data.toList.map fun b => (b.toNat : Int) := h
 refine ⟨SAll.nil, ?_, ?_⟩
 ·rw [e, j4]
 ·rw [e]; exact gm _
theorem y4 : ∀ {l m : List UInt8}, (l.map fun b => (b.toNat : Int)) = (m.map fun b => (b.toNat : Int)) → l = m
 | [], [], _ => rfl
 | [], _ :: _, h => by cases h
 | _ :: _, [], h => by cases h
 | a :: l, b :: m, h => by
   rw [List.map_cons, List.map_cons] at h
   injection h with h1 h2
   rw [y4 h2, UInt8.toNat_inj.1 (Int.ofNat_inj.1 h1)]
theorem showSymbols_law (x : ByteArray) (w : World) (hl : LaidIn laidL w) : Calls PP 4 #[.string x] w fun e w' => e = .returned (.bool true) ∧ KeptW w w' := by
 have fin : ∀ (σ : Nat → List Int) (us : List AV), @aq ⟨σ⟩ 4 us 256 [] (.ret (.bool true)) 256 [] → @VRels ⟨σ⟩ ρ00 us (#[Value.string x] : Array Value).toList → Calls PP 4 #[.string x] w fun e w' => e = .returned (.bool true) ∧ KeptW w w' := by
  intro σ us hF hv
  refine Calls.mono (hF ρ00 _ w (@ail ⟨σ⟩) (@bnu ⟨σ⟩ w (bek hl)) (@bdl ⟨σ⟩) hv) fun e w' hp => ?_
  obtain ⟨v', ρ', rfl, hv2, hA⟩ := hp
  simp only [VRel] at hv2
  subst hv2
  exact ⟨rfl, @ano ⟨σ⟩ _ _ _ _ _ _ hA (@bq8 ⟨σ⟩)⟩
 let s : List Int := x.data.toList.map fun b => (b.toNat : Int)
 by_cases h : yu g0L s = 1 ∨ s = []
 ·obtain ⟨p, hp, e⟩ := bd4 h
  refine fin (fun _ => []) [.str p.1 p.2] (@a4l ⟨fun _ => []⟩ p hp) ?_
  show @VRels ⟨fun _ => []⟩ ρ00 [.str p.1 p.2] [.string x]
  simp only [VRels, VRel]
  refine ⟨_, _, rfl, ⟨of_decide_eq_true (List.all_eq_true.1 bk6 p hp), ?_⟩, rfl⟩
  have e2 : x.data.toList = bf p.1 p.2 := y4 e
  unfold ay
  rw [← e2]
 ·let σ : Nat → List Int := fun i => if i = 3 then s else []
  have h1 : 1 ≤ (s.length : Int) := by
   have : s ≠ [] := fun e => h (.inr e)
   have := List.length_pos_iff.2 this
   omega
  have hF : @aq ⟨σ⟩ 4 bqr 256 [] (.ret (.bool true)) 256 [] := @bo1 ⟨σ⟩ (gm _) (sc (@bF ⟨σ⟩ (.len (.s 3)) (.c 1) (show (1 : Int) ≤ (s.length : Int) from h1)) (sc (@bN ⟨σ⟩ (.mhas (.app 109 .nil) (.s 3)) (.c 1) (show ¬ (SE.mhas (.app 109 .nil) (.s 3)).eval σ = (SE.c 1).eval σ by simp only [evs, evx]; exact fun q => h (.inl q))) SAll.nil)) SAll.nil
  refine fin σ _ hF ?_
  show @VRels ⟨σ⟩ ρ00 [.gv (.str (.s 3) [])] [.string x]
  simp only [VRels]
  exact ⟨_, _, rfl, ban rfl, rfl⟩
end Go.Ev
