import Derived.Test.YtkfdioikigponaaGreatDoorRcE
import Derived.Test.YtkfdioikigponaaGreatDoorEvRo
set_option maxRecDepth 100000
set_option linter.all false
namespace Go.Ev
noncomputable instance gv0 : Gv := ⟨fun _ => []⟩
theorem an0 {G G' : Gv} {w : World} (h : @LaidIn G laidL w) : @LaidIn G' laidL w := by
 intro g cs hm
 obtain ⟨arr, t, fz, h1, h2⟩ := h g cs hm
 exact ⟨arr, t, fz, h1, fun ρ => acs (@jg G _ (@ig G) g cs hm).2.1 (h2 ρ)⟩
theorem vr2 {σ : Nat → List Int} {ρ : Env} {a b : AV} {v1 v2 : Value} (h1 : @VRel ⟨σ⟩ ρ a v1) (h2 : @VRel ⟨σ⟩ ρ b v2) : @VRels ⟨σ⟩ ρ [a, b] (#[v1, v2] : Array Value).toList := by
 simp only [VRels]
 exact ⟨_, _, rfl, h1, _, _, rfl, h2, rfl⟩
theorem y3 {σ : Nat → List Int} {ρ : Env} {a : Addr} {cap : Nat} : @VRel ⟨σ⟩ ρ .esl (.slice (some a) 0 cap) := by simp only [VRel]; exact ⟨_, _, rfl⟩
theorem yw {σ : Nat → List Int} {ρ : Env} : @VRel ⟨σ⟩ ρ .nilSlice (.slice none 0 0) := by simp only [VRel]
theorem bn9 [Gv] (e : RE) (l : List RE) : (ρR (e :: l)) (K.of e.k) = some e.c := if_pos rfl
theorem b3b [Gv] (e f : RE) (l : List RE) (h : K.of f.k ≠ K.of e.k) : (ρR (e :: f :: l)) (K.of f.k) = some f.c := (if_neg h).trans (if_pos rfl)
def σB (o : Nat) (y : List Int) (i : Nat) : List Int := if i = 14 then [(o : Int)] else if i = 15 then [(y.length : Int)] else if i = 16 then y else []
def σL (o : Nat) (l : List Int) (i : Nat) : List Int := if i = 12 then [(o : Int)] else if i = 13 then [(l.length : Int)] else if i = 10 then l else []
def σM (o : Nat) (l : List Int) (o' : Nat) (y : List Int) (i : Nat) : List Int := if i = 12 then [(o : Int)] else if i = 13 then [(l.length : Int)] else if i = 10 then l else σB o' y i
abbrev a7g (w : World) : Ending → World → Prop := fun e w' => e = .returned (.bool true) ∧ KeptW w w'
theorem az7 {w : World} (hl : LaidIn laidL w) {x : AV} {us : List AV} (hus : us = [x, .gv (.sr (K.of 256) (.v 14) (.v 15) [])])
  (hF : ∀ σ : Nat → List Int, SAll σ [.mk false (.v 15) (.len (.s 16)) true, .mk true (.v 15) (.c 1) false] → @cz ⟨σ⟩ 6 us 257 [rbI 256] (.ret (.bool true)) 257 []) {v1 : Value} (hv : ∀ (σ : Nat → List Int) (ρ : Env), @VRel ⟨σ⟩ ρ x v1)
  {c o cap : Nat} {y : List Int} {arr : Array Value} {t : TypeId} {fz : Nat × Nat} (p1 : 1 ≤ y.length) (p2 : y.length ≤ cap) (p3 : w.heap[c]? = some (.cells arr t fz)) (p4 : ∀ i (h : i < y.length), arr[o + i]? = some (.bool (decide ((y[i] : Int) ≠ 0)))) :
  Calls PP 6 #[v1, .slice (some ⟨c, o, none⟩) y.length cap] w (a7g w) := by
 letI : Gv := ⟨σB o y⟩
 subst hus
 have hok : ROk 257 w [⟨256, c, arr.size, .rb (.v 14) (.v 15) (.s 16)⟩] := by
  refine ⟨fun e he => ?_, fun e he => ?_⟩ <;> (rw [List.mem_singleton] at he; subst he)
  ·exact ⟨zY 256, Nat.lt_succ_self 256⟩
  ·exact ⟨rfl, arr, t, fz, p3, rfl, arp (oo := o) rfl rfl p4⟩
 have h := hF (σB o y) (sc (bE _ _ rfl) (sc (bF _ _ (show (1 : Int) ≤ (y.length : Int) by omega)) SAll.nil))
 exact aei hok (by omega) (by omega) (an0 hl) h (vr2 (hv _ _) (an4 (bn9 _ _) rfl rfl p2))
theorem a22 {w : World} (hl : LaidIn laidL w) {x : AV} {us : List AV} (hus : us = [.gv (.sr (K.of 256) (.v 12) (.v 13) []), x])
  (hF : ∀ σ : Nat → List Int, SAll σ [.mk false (.v 13) (.len (.s 10)) true, .mk true (.v 13) (.c 1) false, .mk true (.v 12) (.c 0) false] → @cz ⟨σ⟩ 6 us 257 [roI 256] (.ret (.bool true)) 257 []) {v2 : Value} (hv : ∀ (σ : Nat → List Int) (ρ : Env), @VRel ⟨σ⟩ ρ x v2)
  {c o cap : Nat} {l : List Int} {arr : Array Value} {t : TypeId} {fz : Nat × Nat} (p1 : 1 ≤ l.length) (p2 : l.length ≤ cap) (p3 : w.heap[c]? = some (.cells arr t fz)) (p4 : ∀ i (h : i < l.length), arr[o + i]? = some (.int .i64 l[i])) :
  Calls PP 6 #[.slice (some ⟨c, o, none⟩) l.length cap, v2] w (a7g w) := by
 letI : Gv := ⟨σL o l⟩
 subst hus
 have hok : ROk 257 w [⟨256, c, arr.size, .rh (.v 12) (.v 13) (.s 10)⟩] := by
  refine ⟨fun e he => ?_, fun e he => ?_⟩ <;> (rw [List.mem_singleton] at he; subst he)
  ·exact ⟨zY 256, Nat.lt_succ_self 256⟩
  ·exact ⟨rfl, arr, t, fz, p3, rfl, asr (oo := o) rfl rfl p4⟩
 have h := hF (σL o l) (sc (bE _ _ rfl) (sc (bF _ _ (show (1 : Int) ≤ (l.length : Int) by omega)) (sc (bF _ _ (show (0 : Int) ≤ (o : Int) by omega)) SAll.nil)))
 exact aei hok (by omega) (by omega) (an0 hl) h (vr2 (an4 (bn9 _ _) rfl rfl p2) (hv _ _))
theorem bis {w : World} (hl : LaidIn laidL w)
  {c o cap : Nat} {l : List Int} {arr : Array Value} {t : TypeId} {fz : Nat × Nat} (p1 : 1 ≤ l.length) (p2 : l.length ≤ cap) (p3 : w.heap[c]? = some (.cells arr t fz)) (p4 : ∀ i (h : i < l.length), arr[o + i]? = some (.int .i64 l[i]))
  {c' o' cap' : Nat} {y : List Int} {arr' : Array Value} {t' : TypeId} {fz' : Nat × Nat} (q1 : 1 ≤ y.length) (q2 : y.length ≤ cap') (q3 : w.heap[c']? = some (.cells arr' t' fz')) (q4 : ∀ i (h : i < y.length), arr'[o' + i]? = some (.bool (decide ((y[i] : Int) ≠ 0)))) :
  Calls PP 6 #[.slice (some ⟨c, o, none⟩) l.length cap, .slice (some ⟨c', o', none⟩) y.length cap'] w (a7g w) := by
 letI : Gv := ⟨σM o l o' y⟩
 have hok : ROk 258 w [⟨256, c, arr.size, .rh (.v 12) (.v 13) (.s 10)⟩, ⟨257, c', arr'.size, .rb (.v 14) (.v 15) (.s 16)⟩] := by
  refine ⟨fun e he => ?_, fun e he => ?_⟩ <;> (rw [List.mem_cons, List.mem_singleton] at he; rcases he with rfl | rfl)
  ·exact ⟨zY 256, show 256 < 258 by omega⟩
  ·exact ⟨show 256 ≤ 257 by omega, Nat.lt_succ_self 257⟩
  ·exact ⟨rfl, arr, t, fz, p3, rfl, asr (oo := o) rfl rfl p4⟩
  ·exact ⟨rfl, arr', t', fz', q3, rfl, arp (oo := o') rfl rfl q4⟩
 have h := btm (sc (bE _ _ rfl) (sc (bF _ _ (show (1 : Int) ≤ (l.length : Int) by omega)) (sc (bE _ _ rfl) (sc (bF _ _ (show (1 : Int) ≤ (y.length : Int) by omega)) (sc (bF _ _ (show (0 : Int) ≤ (o : Int) by omega)) SAll.nil))))) SAll.nil
 refine aei hok (by omega) (by omega) (an0 hl) h (vr2 (an4 (bn9 _ _) rfl rfl p2) (an4 (b3b ⟨256, c, arr.size, .rh (.v 12) (.v 13) (.s 10)⟩ ⟨257, c', arr'.size, .rb (.v 14) (.v 15) (.s 16)⟩ [] ?_) rfl rfl q2))
 intro e
 have e : K.of 257 = K.of 256 := e
 have := congrArg K.num e
 rw [df (by omega), df (by omega)] at this
 cases this
theorem strings_any {w : World} (hl : LaidIn laidL w) {v1 v2 : Value}
  (h1 : v1 = .slice none 0 0 ∨ ∃ (a : Addr) (len cap : Nat) (zs : List Int), v1 = .slice (some a) len cap ∧ len ≤ cap ∧ len ≤ zs.length ∧ ∀ i, i < zs.length → w.cell? (a.add i) = some (.int .i64 (zs.getD i 0)))
  (h2 : v2 = .slice none 0 0 ∨ ∃ (a : Addr) (len cap : Nat) (B : Nat → Bool), v2 = .slice (some a) len cap ∧ len ≤ cap ∧ ∀ i, i < cap → w.cell? (a.add i) = some (.bool (B i))) :
  Calls PP 6 #[v1, v2] w fun e w' => e = .returned (.bool true) ∧ KeptW w w' := by
 have close : ∀ {x y : AV} {v1 v2 : Value}, ayl (enter (run aes 20000) 6 [x, y] wS) (.bool true) = true → VRel ρ00 x v1 → VRel ρ00 y v2 → Calls PP 6 #[v1, v2] w fun e w' => e = .returned (.bool true) ∧ KeptW w w' := by
  intro x y v1 v2 hr hx hy
  obtain ⟨aw, h⟩ := bhv hr
  have key := qz (bn0 ac 20000) aec (bc9 hl) a2l (f := 6) (args := #[v1, v2]) (vr2 hx hy) (by rw [h]; trivial)
  rw [h] at key
  refine Calls.mono key fun e w' hp => ?_
  obtain ⟨v', ρ', rfl, hv', hA⟩ := hp
  simp only [VRel] at hv'
  subst hv'
  exact ⟨rfl, abv hA bvu⟩
 rcases a9e h1 with rfl | ⟨a, cap, rfl⟩ | ⟨c, o, cap, l, arr, t, fz, q1, q2, rfl, q3, q4⟩ <;> rcases a66 h2 with rfl | ⟨a', cap', rfl⟩ | ⟨c', o', cap', y, arr', t', fz', p1, p2, rfl, p3, p4⟩
 ·exact close bg1 yw yw
 ·exact close bg6 yw y3
 ·exact az7 hl rfl (fun σ h => @btd ⟨σ⟩ h SAll.nil) (fun _ _ => yw) p1 p2 p3 p4
 ·exact close be1 y3 yw
 ·exact close bek y3 y3
 ·exact az7 hl rfl (fun σ h => @buq ⟨σ⟩ h SAll.nil) (fun _ _ => y3) p1 p2 p3 p4
 ·exact a22 hl rfl (fun σ h => @bvy ⟨σ⟩ h SAll.nil) (fun _ _ => yw) q1 q2 q3 q4
 ·exact a22 hl rfl (fun σ h => @bvm ⟨σ⟩ h SAll.nil) (fun _ _ => y3) q1 q2 q3 q4
 ·exact bis hl q1 q2 q3 q4 p1 p2 p3 p4
end Go.Ev
