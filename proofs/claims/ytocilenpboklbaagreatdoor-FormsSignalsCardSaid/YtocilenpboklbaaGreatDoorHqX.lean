import Derived.Test.YtocilenpboklbaaGreatDoorHqW
import Derived.Test.YtocilenpboklbaaGreatDoorEvRo
set_option maxRecDepth 100000
set_option linter.all false
namespace Go.Ev
noncomputable instance gv0 : Gv := ⟨fun _ => []⟩
theorem amn {G G' : Gv} {w : World} (h : @LaidIn G laidL w) : @LaidIn G' laidL w := by
 intro g cs hm
 obtain ⟨arr, t, fz, h1, h2⟩ := h g cs hm
 exact ⟨arr, t, fz, h1, fun ρ => abf (@jb G _ (@ic G) g cs hm).2.1 (h2 ρ)⟩
theorem vr3 {σ : Nat → List Int} {ρ : Env} {x : AV} {v : Value} {a b : Int} (h1 : (σ 1).headD 0 = a) (h2 : (σ 2).headD 0 = b) (h : @VRel ⟨σ⟩ ρ x v) : @VRels ⟨σ⟩ ρ [vI 1, x, vI 2] (#[.int .i64 a, v, .int .i64 b] : Array Value).toList := by
 show @VRels ⟨σ⟩ ρ [.sym .i64 (.v 1) [], x, .sym .i64 (.v 2) []] [.int .i64 a, v, .int .i64 b]
 subst h1 h2
 simp only [VRels]
 refine ⟨_, _, rfl, ?_, _, _, rfl, h, _, _, rfl, ?_, rfl⟩
 ·simp only [VRel]; exact ⟨SAll.nil, rfl⟩
 ·simp only [VRel]; exact ⟨SAll.nil, rfl⟩
theorem atc {n : Int} (h : (Lit.int .i64 n).wf = true) : -9223372036854775808 ≤ n ∧ n ≤ 9223372036854775807 := by
 simp [Lit.wf] at h
 have a : (-9223372036854775808 : Int) ≤ n := h.1
 have b : n ≤ 9223372036854775807 := h.2
 constructor <;> omega
theorem a02 {w : World} {v : Value} (h : v = .slice none 0 0 ∨ ∃ (a : Addr) (len cap : Nat) (zs : List Int), v = .slice (some a) len cap ∧ len ≤ cap ∧ len ≤ zs.length ∧ (∀ i, i < zs.length → w.cell? (a.add i) = some (.int .i64 (zs.getD i 0))) ∧ ∀ n ∈ zs, (Lit.int .i64 n).wf = true) :
  v = .slice none 0 0 ∨ (∃ a cap, v = .slice (some a) 0 cap) ∨ ∃ (c o cap : Nat) (l : List Int) (arr : Array Value) (t : TypeId) (fz : Nat × Nat), 1 ≤ l.length ∧ l.length ≤ cap ∧ v = .slice (some ⟨c, o, none⟩) l.length cap ∧ w.heap[c]? = some (.cells arr t fz) ∧ (∀ i (h : i < l.length), arr[o + i]? = some (.int .i64 l[i])) ∧ abw l := by
 rcases h with h | ⟨a, len, cap, zs, rfl, h1, h2, h3, h4⟩
 ·exact .inl h
 right
 cases len with
 | zero => exact .inl ⟨a, cap, rfl⟩
 | succ n =>
   right
   obtain ⟨c, o, arr, t, fz, rfl, q1, q2⟩ := a2d (v := fun i => .int .i64 (zs.getD i 0)) (n := n + 1) (by omega) fun i hi => h3 i (by omega)
   have hlen : (zs.take (n + 1)).length = n + 1 := by rw [List.length_take]; omega
   refine ⟨c, o, cap, zs.take (n + 1), arr, t, fz, by omega, by omega, by rw [hlen], q1, fun i hi => ?_, fun x hx => atc (h4 x (List.mem_of_mem_take hx))⟩
   rw [q2 i (by omega), List.getElem_take]
   simp [List.getD, show i < zs.length by omega]
def σS (a b : Int) (o : Nat) (l : List Int) (i : Nat) : List Int := if i = 1 then [a] else if i = 2 then [b] else if i = 12 then [(o : Int)] else if i = 13 then [(l.length : Int)] else if i = 10 then l else []
theorem sI {a b : Int} {o : Nat} {l : List Int} {A : List SA} (ha : -9223372036854775808 ≤ a ∧ a ≤ 9223372036854775807) (hb : -9223372036854775808 ≤ b ∧ b ≤ 9223372036854775807) (h : SAll (σS a b o l) A) :
  SAll (σS a b o l) (.mk true (.v 1) (.c (-9223372036854775808)) false :: .mk true (.c 9223372036854775807) (.v 1) false :: .mk true (.v 2) (.c (-9223372036854775808)) false :: .mk true (.c 9223372036854775807) (.v 2) false :: A) :=
 sc (sF.2 ha.1) (sc (sF.2 ha.2) (sc (sF.2 hb.1) (sc (sF.2 hb.2) h)))
theorem signals_any {w : World} (hl : LaidIn laidL w) {v0 v1 v2 : Value} (h0 : ∃ z, v0 = .int .i64 z ∧ (Lit.int .i64 z).wf = true)
  (h1 : v1 = .slice none 0 0 ∨ ∃ (a : Addr) (len cap : Nat) (zs : List Int), v1 = .slice (some a) len cap ∧ len ≤ cap ∧ len ≤ zs.length ∧ (∀ i, i < zs.length → w.cell? (a.add i) = some (.int .i64 (zs.getD i 0))) ∧ ∀ n ∈ zs, (Lit.int .i64 n).wf = true)
  (h2 : ∃ z, v2 = .int .i64 z ∧ (Lit.int .i64 z).wf = true) : Calls PP 8 #[v0, v1, v2] w fun e w' => e = .returned (.bool true) ∧ KeptW w w' := by
 obtain ⟨a, rfl, ha⟩ := h0
 obtain ⟨b, rfl, hb⟩ := h2
 have ha := atc ha
 have hb := atc hb
 have fin : ∀ (x : AV) (v : Value), @br ⟨σS a b 0 []⟩ 8 [vI 1, x, vI 2] 256 [] (.ret (.bool true)) 256 [] → @VRel ⟨σS a b 0 []⟩ ρ00 x v → Calls PP 8 #[.int .i64 a, v, .int .i64 b] w fun e w' => e = .returned (.bool true) ∧ KeptW w w' := by
  intro x v hF hx
  refine Calls.mono (hF ρ00 _ w (@ac1 ⟨σS a b 0 []⟩) (@a6r ⟨σS a b 0 []⟩ w (amn hl)) (@avs ⟨σS a b 0 []⟩) (vr3 rfl rfl hx)) fun e w' hp => ?_
  obtain ⟨v', ρ', rfl, hv2, hA⟩ := hp
  simp only [VRel] at hv2
  subst hv2
  exact ⟨rfl, @abl ⟨σS a b 0 []⟩ _ _ _ _ _ _ hA (@bmv ⟨σS a b 0 []⟩)⟩
 rcases a02 h1 with rfl | ⟨a', cap, rfl⟩ | ⟨c, o, cap, l, arr, t, fz, q1, q2, rfl, q3, q4, q5⟩
 ·exact fin .nilSlice _ (@bji ⟨σS a b 0 []⟩ (sI ha hb SAll.nil)) (by simp only [VRel])
 ·exact fin .esl _ (@bjh ⟨σS a b 0 []⟩ (sI ha hb SAll.nil)) (by simp only [VRel]; exact ⟨_, _, rfl⟩)
 ·letI : Gv := ⟨σS a b o l⟩
  have hok : ROk 257 w [⟨256, c, arr.size, .rh (.v 12) (.v 13) (.s 10)⟩] := by
   refine ⟨fun e he => ?_, fun e he => ?_⟩ <;> (rw [List.mem_singleton] at he; subst he)
   ·exact ⟨zY 256, Nat.lt_succ_self 256⟩
   ·exact ⟨rfl, arr, t, fz, q3, rfl, a3s (oo := o) rfl rfl q4⟩
  have hv := vr3 (σ := σS a b o l) (ρ := ρR [⟨256, c, arr.size, .rh (.v 12) (.v 13) (.s 10)⟩]) (a := a) (b := b) rfl rfl (bgh (k := 256) (c := c) (oo := o) (nn := l.length) (cap := cap) (o := .v 12) (n := .v 13) (if_pos rfl) rfl rfl q2)
  by_cases hn : l.length ≤ 20
  ·have h := @bjj ⟨σS a b o l⟩ (sI ha hb (sc (sF.2 (show (0 : Int) ≤ (o : Int) by omega)) (sc (sF.2 (show (1 : Int) ≤ (l.length : Int) by omega)) (sc (sF.2 (show (l.length : Int) ≤ 20 by omega)) (sc (sE.2 rfl) (sc (sE.2 (rngN1.2 q5)) SAll.nil))))))
   exact ak4 hok (by omega) (by omega) (amn hl) h hv
  ·have h := @bjg ⟨σS a b o l⟩ (sI ha hb (sc (sF.2 (show (0 : Int) ≤ (o : Int) by omega)) (sc (sT.2 (show (20 : Int) < (l.length : Int) by omega)) (sc (sE.2 rfl) SAll.nil)))) SAll.nil
   exact ak4 hok (by omega) (by omega) (amn hl) h hv
end Go.Ev
