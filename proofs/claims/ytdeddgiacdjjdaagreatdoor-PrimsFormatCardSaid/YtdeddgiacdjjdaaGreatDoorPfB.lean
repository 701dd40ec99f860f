import Derived.Test.YtdeddgiacdjjdaaGreatDoorEvTh
import Derived.Test.YtdeddgiacdjjdaaGreatDoorEvRp
import Derived.Lib.ValidAsc
set_option maxRecDepth 100000
set_option linter.all false
namespace Go.Ev
section
variable {σ : Nat → List Int}
theorem sall_cons {A : List SA} {x : SA} : SAll σ (x :: A) ↔ x.holds σ ∧ SAll σ A := by
 constructor
 ·exact fun h => ⟨h _ (by simp), fun y hy => h y (zA _ hy)⟩
 ·rintro ⟨h1, h2⟩ y hy
  rcases List.mem_cons.1 hy with rfl | hy
  ·exact h1
  ·exact h2 y hy
theorem asq {a b : SE} (h : a.eval σ < b.eval σ) : (SA.mk true a b true).holds σ := decide_eq_true h
theorem alw {a b : SE} (h : ¬ a.eval σ < b.eval σ) : (SA.mk true a b false).holds σ := decide_eq_false h
theorem asp {a b : SE} (h : ¬ a.eval σ = b.eval σ) : (SA.mk false a b false).holds σ := decide_eq_false h
theorem a5c {a b : SE} (h : a.eval σ = b.eval σ) : (SA.mk false a b true).holds σ := decide_eq_true h
theorem sc {A : List SA} {x : SA} (h : x.holds σ) (h' : SAll σ A) : SAll σ (x :: A) := sall_cons.2 ⟨h, h'⟩
theorem sT {a b : SE} : (SA.mk true a b true).holds σ ↔ a.eval σ < b.eval σ := decide_eq_true_iff
theorem sF {a b : SE} : (SA.mk true a b false).holds σ ↔ b.eval σ ≤ a.eval σ := ⟨fun h => by have := of_decide_eq_false h; omega, fun h => alw (by omega)⟩
theorem sE {a b : SE} : (SA.mk false a b true).holds σ ↔ a.eval σ = b.eval σ := decide_eq_true_iff
theorem sN {a b : SE} : (SA.mk false a b false).holds σ ↔ ¬ a.eval σ = b.eval σ := decide_eq_false_iff_not
theorem ee {A B : List SA} (h : SAll σ A) (h' : SAll σ B) : SAll σ (A ++ B) := by
 intro x hx
 rcases List.mem_append.1 hx with hx | hx
 ·exact h x hx
 ·exact h' x hx
theorem k6 {A B : List SA} (h : SAll σ (A ++ B)) : SAll σ A ∧ SAll σ B := ⟨fun x hx => h x (List.mem_append_left _ hx), fun x hx => h x (List.mem_append_right _ hx)⟩
end
theorem gl [Gv] (a b : SE) : (SA.mk true a b true).holds Gv.σ ∧ a.eval Gv.σ < b.eval Gv.σ ∨ (SA.mk true a b false).holds Gv.σ ∧ b.eval Gv.σ ≤ a.eval Gv.σ := by
 by_cases h : a.eval Gv.σ < b.eval Gv.σ
 ·exact .inl ⟨asq h, h⟩
 ·exact .inr ⟨alw h, by omega⟩
theorem gq [Gv] (a b : SE) : (SA.mk false a b true).holds Gv.σ ∧ a.eval Gv.σ = b.eval Gv.σ ∨ (SA.mk false a b false).holds Gv.σ ∧ ¬ a.eval Gv.σ = b.eval Gv.σ := by
 by_cases h : a.eval Gv.σ = b.eval Gv.σ
 ·exact .inl ⟨a5c h, h⟩
 ·exact .inr ⟨asp h, h⟩
theorem bT [Gv] (a b : SE) (h : a.eval Gv.σ < b.eval Gv.σ) : (SA.mk true a b true).holds Gv.σ := asq h
theorem bF [Gv] (a b : SE) (h : b.eval Gv.σ ≤ a.eval Gv.σ) : (SA.mk true a b false).holds Gv.σ := alw (by omega)
theorem bN [Gv] (a b : SE) (h : ¬ a.eval Gv.σ = b.eval Gv.σ) : (SA.mk false a b false).holds Gv.σ := asp h
theorem aoc {α : Type} {p : α → Prop} {a : α} (ha : p a) : ∀ t ∈ [a], p t := by
 intro t ht
 rw [List.mem_singleton] at ht
 rw [ht]; exact ha
theorem evs : (∀ (σ : Nat → List Int) (i : Nat), (SE.v i).eval σ = (σ i).headD 0) ∧
  (∀ (σ : Nat → List Int) (n : Int), (SE.c n).eval σ = n) ∧
  (∀ (σ : Nat → List Int) (g : GE), (SE.len g).eval σ = ((g.eval σ).length : Int)) ∧
  (∀ (σ : Nat → List Int) (g : GE) (e : SE), (SE.rd g e).eval σ = (g.eval σ).getD (e.eval σ).toNat 0) ∧
  (∀ (σ : Nat → List Int) (g h : GE), (SE.eqg g h).eval σ = if g.eval σ = h.eval σ then 1 else 0) ∧
  (∀ (σ : Nat → List Int) (k : IntKind) (a b : SE), (SE.bin 0 k a b).eval σ = k.wrap (a.eval σ + b.eval σ)) ∧
  (∀ (σ : Nat → List Int) (k : IntKind) (a b : SE), (SE.bin 1 k a b).eval σ = k.wrap (a.eval σ - b.eval σ)) ∧
  (∀ (σ : Nat → List Int) (k : IntKind) (a b : SE), (SE.bin 2 k a b).eval σ = k.wrap (a.eval σ * b.eval σ)) ∧
  (∀ (σ : Nat → List Int) (k : IntKind) (a b : SE), (SE.bin 4 k a b).eval σ = (a.eval σ).tmod (b.eval σ)) ∧
  (∀ (σ : Nat → List Int) (k : IntKind) (a b : SE), (SE.bin 6 k a b).eval σ = a.eval σ + b.eval σ) ∧
  (∀ (σ : Nat → List Int) (k : IntKind) (a b : SE), (SE.bin 7 k a b).eval σ = a.eval σ * b.eval σ) ∧
  (∀ (σ : Nat → List Int) (i : Nat), (GE.s i).eval σ = σ i) ∧
  (∀ (σ : Nat → List Int), GE.nil.eval σ = []) ∧
  (∀ (σ : Nat → List Int) (e : SE), (GE.one e).eval σ = [e.eval σ]) ∧
  (∀ (σ : Nat → List Int) (g h : GE), (GE.cat g h).eval σ = g.eval σ ++ h.eval σ) :=
 ⟨by intros; rfl, by intros; rfl, by intros; rfl, by intros; rfl, by intros; rfl, by intros; rfl, by intros; rfl, by intros; rfl, by intros; rfl, by intros; rfl, by intros; rfl, by intros; rfl, by intros; rfl, by intros; rfl, by intros; rfl⟩
theorem a56 {x : Int} (h : -9223372036854775808 ≤ x ∧ x ≤ 9223372036854775807) : IntKind.i64.wrap x = x := by
 simp only [IntKind.wrap, IntKind.bits, IntKind.signed]; simp; omega
theorem wr : (∀ x : Int, -9223372036854775808 ≤ x ∧ x ≤ 9223372036854775807 → IntKind.i64.wrap x = x) ∧
  (∀ x : Int, x + 0 = x) ∧ (∀ x : Int, 0 + x = x) ∧ (∀ x : Int, -1 * x = -x) ∧ (∀ x y : Int, x + -y = x - y) ∧ (∀ x : Int, x - 1 + 1 = x) ∧ (∀ x : Int, ([x] : List Int).headD 0 = x) ∧ (∀ (α : Type) (a b : α), (if True then a else b) = a) ∧ (∀ (α : Type) (a b : α), (if False then a else b) = b) ∧ (¬True ↔ False) ∧ (¬False ↔ True) ∧
  (∀ p : Prop, (False ∧ p ↔ False)) ∧ (∀ p : Prop, (True ∧ p ↔ p)) ∧ (∀ p : Prop, (p ∧ False ↔ False)) ∧ (∀ p : Prop, (p ∧ True ↔ p)) ∧ (∀ p : Prop, (p ∨ True ↔ True)) ∧ (∀ p : Prop, (p ∨ False ↔ p)) ∧ (∀ p : Prop, (True ∨ p ↔ True)) ∧ (∀ p : Prop, (False ∨ p ↔ p)) ∧ (∀ p : Prop, ((True → p) ↔ p)) ∧ (∀ p : Prop, ((False → p) ↔ True)) ∧ (∀ x : Int, x + 1 + 1 = x + 2) :=
 ⟨fun _ h => a56 h, Int.add_zero, Int.zero_add, fun x => (Int.neg_eq_neg_one_mul x).symm, fun _ _ => Int.sub_eq_add_neg.symm, by omega, fun _ => rfl, fun _ _ _ => if_pos trivial, fun _ _ _ => if_neg id, by simp, by simp, by simp, by simp, by simp, by simp, by simp, by simp, by simp, by simp, by simp, by simp, by omega⟩
open Classical in
theorem a95 {p : Prop} : (if p then (1 : Int) else 0) = 1 ↔ p := by
 by_cases h : p
 ·rw [if_pos h]; exact ⟨fun _ => h, fun _ => rfl⟩
 ·rw [if_neg h]; exact ⟨fun e => absurd e (by decide), fun e => absurd e h⟩
noncomputable def ed (l : List Int) : Int := a5n 228 [l]
theorem evq : (∀ (σ : Nat → List Int) (n : SE), (GE.app 121 (.i n .nil)).eval σ = c9 (n.eval σ)) ∧ (∀ (σ : Nat → List Int) (g : GE), (SE.app 228 (.g g .nil)).eval σ = ed (g.eval σ)) ∧ (∀ (σ : Nat → List Int) (g : GE) (n : SE), (GE.app 245 (.g g (.i n .nil))).eval σ = nj (g.eval σ) (n.eval σ)) := ⟨by intros; rfl, by intros; rfl, by intros; rfl⟩
theorem ascN1 {l : List Int} : ed l = 1 ↔ uv l := by
 show a5n 228 [l] = 1 ↔ _
 exact a95
theorem af1 : ∀ (f : Nat) (n : Int), ((mb f n).length : Int) ≤ (f : Int)
 | 0, n => by show ((0 : Nat) : Int) ≤ 0; omega
 | f + 1, n => by
   unfold mb
   split
   ·show ((1 : Nat) : Int) ≤ _; omega
   ·rw [zP]
    have := af1 f (n / 10)
    show (((mb f (n / 10)).length + 1 : Nat) : Int) ≤ _
    omega
theorem abj : ∀ (f : Nat) (n : Int), 0 ≤ n → uv (mb f n)
 | 0, n, h => by intro x hx; cases hx
 | f + 1, n, h => by
   unfold mb
   split
   ·intro x hx; rw [List.mem_singleton] at hx; omega
   ·intro x hx
    rcases List.mem_append.1 hx with hx | hx
    ·exact abj f (n / 10) (by omega) x hx
    ·rw [List.mem_singleton] at hx; omega
theorem eu (n : Int) : ((c9 n).length : Int) ≤ 21 := by
 unfold c9
 split
 ·show (((mb 20 (-n)).length + 1 : Nat) : Int) ≤ 21
  have := af1 20 (-n); omega
 ·have := af1 20 n; omega
theorem ar3 (n : Int) : uv (c9 n) := by
 unfold c9
 split
 ·intro x hx
  rcases List.mem_cons.1 hx with hx | hx
  ·omega
  ·exact abj 20 (-n) (by omega) x hx
 ·exact abj 20 n (by omega)
theorem afz (f : Nat) (n : Int) (h : 10 ≤ n) : mb (f + 1) n = mb f (n / 10) ++ [48 + n % 10] := by
 rw [mb, if_neg (by omega)]
theorem u2 (f : Nat) {n : Int} (h : n < 10) : mb (f + 1) n = [48 + n] := by rw [mb, if_pos h]
theorem ar4 : ∀ (f g : Nat) (n : Nat), n < 10 ^ (f + 1) → n < 10 ^ (g + 1) → mb (f + 1) (n : Int) = mb (g + 1) (n : Int)
 | 0, g, n, h, _ => by rw [u2 0 (by omega), u2 g (by omega)]
 | f + 1, 0, n, _, h => by rw [u2 0 (by omega), u2 (f + 1) (by omega)]
 | f + 1, g + 1, n, h, h2 => by
   by_cases hn : n < 10
   ·rw [u2 _ (by omega), u2 _ (by omega)]
   ·have h : n < 10 ^ (f + 1) * 10 := h
    have h2 : n < 10 ^ (g + 1) * 10 := h2
    rw [afz (f + 1) (n : Int) (by omega), afz (g + 1) (n : Int) (by omega), show ((n : Int) / 10) = ((n / 10 : Nat) : Int) by omega, ar4 f g (n / 10) (by omega) (by omega)]
theorem anm {n : Int} (h : 10 ≤ n) (h1 : n ≤ 9223372036854775808) : c9 n = c9 (n / 10) ++ [48 + n % 10] := by
 unfold c9
 rw [if_neg (by omega), if_neg (by omega), afz 19 n h]
 obtain ⟨m, hm⟩ : ∃ m : Nat, n / 10 = (m : Int) := ⟨(n / 10).toNat, by omega⟩
 rw [hm, ar4 18 19 m (by omega) (by omega)]
theorem ar2 {n : Int} (h0 : 0 ≤ n) (h : n < 10) : c9 n = [48 + n] := by
 unfold c9
 rw [if_neg (by omega), u2 19 h]
theorem jw {n : Int} (h : n < 0) : c9 n = 45 :: c9 (-n) := by
 unfold c9
 rw [if_pos h, if_neg (by omega)]
theorem du {c n : Int} (h : 0 ≤ n) : ((nj [c] n).length : Int) = n := by
 unfold nj
 rw [List.length_flatten, List.map_replicate, List.sum_replicate_nat]; simp; omega
end Go.Ev
set_option maxRecDepth 100000
set_option linter.all false
namespace Go.Ev
noncomputable section
noncomputable def bx (k : Nat) (t : TypeId) (l : List AV) : HO := .mk k (.cells t false 0 0 l)
noncomputable def vI (n : Nat) : AV := .sym .i64 (.v n) []
noncomputable def sX (e : SE) : AV := .sym .i64 e []
noncomputable def a55 : List AV := [.gv (.str (.s 3) [])]
noncomputable def a9k : List HO := []
noncomputable def a9l : List HO := []
noncomputable def a9m : TR := .ret (.bool true)
noncomputable def a54 : TM := .mk 41 a55 256 a9k ([.mk true (.c 20000) (.len (.s 3)) false, .mk false (.app 228 (.g (.s 3) .nil)) (.c 1) true] ++ []) none a9m 256 a9l
noncomputable def a5q : List AV := [.gv (.str (.s 3) [])]
noncomputable def a8t : List HO := []
noncomputable def a8u : List HO := []
noncomputable def a8v : TR := .ret (sX (.len (.s 3)))
noncomputable def a5p : TM := .mk 42 a5q 256 a8t ([.mk true (.c 20000) (.len (.s 3)) false, .mk false (.app 228 (.g (.s 3) .nil)) (.c 1) true] ++ []) none a8v 256 a8u
noncomputable def a43 : List AV := [vI 1, .int .i64 10]
noncomputable def a7k : List HO := []
noncomputable def a7l : List HO := []
noncomputable def a7m : TR := .ret (.gv (.str (.app 121 (.i (.v 1) .nil)) []))
noncomputable def a7j : TM := .mk 324 a43 256 a7k ([.mk true (.v 1) (.c (-9223372036854775808)) false, .mk true (.c 9223372036854775807) (.v 1) false] ++ []) none a7m 256 a7l
noncomputable def a5t : List AV := [.gv (.str (.s 3) []), vI 6]
noncomputable def a83 : List HO := []
noncomputable def a84 : List HO := []
noncomputable def a85 : TR := .ret (.gv (.str (.app 245 (.g (.s 3) (.i (.v 6) .nil))) []))
noncomputable def a82 : TM := .mk 326 a5t 256 a83 ([.mk true (.v 6) (.c 0) false, .mk true (.c 300) (.v 6) false, .mk false (.len (.s 3)) (.c 1) true] ++ []) none a85 256 a84
end
theorem uk (l : List Int) : (ai l).data.toList = l.map fun x => UInt8.ofNat x.toNat := by simp [ai]
theorem amz {l : List Int} (h : uv l) : Lib.validD (ai l).data.toList = true := by
 have ha : Lib.Asc (ai l) (ai l).size := by
  intro b hb
  have hb := List.mem_of_mem_take hb
  rw [uk] at hb
  obtain ⟨x, hx, rfl⟩ := List.mem_map.1 hb
  have := h x hx
  rw [UInt8.toNat_ofNat']; omega
 have e := Lib.valid_skip (ai l) (ai l).size ha
 rw [← e]
 have z : ((ai l).extract (ai l).size (ai l).size).data.toList = [] := by
  rw [Lib.ext_list]
  exact List.drop_eq_nil_of_le (by rw [Array.length_toList]; exact zY _)
 rw [z]; rfl
theorem aoy {l : List Int} (h : uv l) (j : Nat) (b : UInt8) (hb : (ai l).data.toList[j]? = some b) : b.toNat < 128 := by
 have q : (ai l).data.toList = l.map fun x => UInt8.ofNat x.toNat := by simp [ai]
 rw [q, List.getElem?_map] at hb
 cases hx : l[j]? with
 | none => rw [hx] at hb; cases hb
 | some x =>
   rw [hx] at hb
   have := h x (List.mem_of_getElem? hx)
   have hb : UInt8.ofNat x.toNat = b := by simpa using hb
   rw [← hb, UInt8.toNat_ofNat']
   omega
theorem a3y {σ : Nat → List Int} (h : SAll σ [.mk true (.c 20000) (.len (.s 3)) false, .mk false (.app 228 (.g (.s 3) .nil)) (.c 1) true]) : ((σ 3).length : Int) ≤ 20000 ∧ uv (σ 3) := by
 simp only [sall_cons, sF, sE, evs, evq, ascN1] at h
 exact ⟨h.1, h.2.1⟩
theorem az7 [Gv] : fe a54 := by
 intro σ _ hA _
 letI : Gv := ⟨σ⟩
 obtain ⟨h20, ha⟩ := a3y (k6 hA).1
 show lm 41 a55 256 a9k a9m 256 a9l
 intro ρ args w hg hw hc hv
 unfold a55 at hv
 simp only [VRels, VRel] at hv
 obtain ⟨v, vs', ha', ⟨_, hv1, _⟩, rfl⟩ := hv
 have hargs : args = #[v] := Array.toList_inj.1 (by simpa using ha')
 subst hargs hv1
 refine Calls.mono (Go.Proofs.YtdeddgiacdjjdaaGreatDoor.va_seat _ w (an3 hg hw (by kernel_rfl)) (by show (ai (σ 3)).size < _; rw [b8]; omega)) fun e w' hp => ?_
 obtain ⟨rfl, hk⟩ := hp
 refine ⟨_, ρ, rfl, ?_, vm hw hk⟩
 simp only [VRel]
 show Value.bool (Lib.validD (ai (σ 3)).data.toList) = _
 rw [amz ha]
theorem azj [Gv] : fe a5p := by
 intro σ _ hA _
 letI : Gv := ⟨σ⟩
 obtain ⟨h20, ha⟩ := a3y (k6 hA).1
 show lm 42 a5q 256 a8t a8v 256 a8u
 intro ρ args w hg hw hc hv
 unfold a5q at hv
 simp only [VRels, VRel] at hv
 obtain ⟨v, vs', ha', ⟨_, hv1, _⟩, rfl⟩ := hv
 have hargs : args = #[v] := Array.toList_inj.1 (by simpa using ha')
 subst hargs hv1
 refine Calls.mono (Go.Proofs.YtdeddgiacdjjdaaGreatDoor.rc_seat _ w (by show (ai (σ 3)).size < _; rw [b8]; omega) (fun j b hb => aoy ha j b hb)) fun e w' hp => ?_
 obtain ⟨rfl, hk⟩ := hp
 refine ⟨_, ρ, rfl, ?_, vm hw hk⟩
 show VRel ρ (.sym .i64 (.len (.s 3)) []) _
 simp only [VRel]
 refine ⟨SAll.nil, ?_⟩
 show Value.int .i64 ((ai (σ 3)).size : Int) = Value.int .i64 ((SE.len (.s 3)).eval σ)
 rw [b8]; rfl
theorem af0 : ∀ (f : Nat) (u : Nat), u < 10 ^ (f + 1) → mb (f + 1) (u : Int) = (Lib.decDigits u).map fun b => (b.toNat : Int)
 | f, u, h => by
   unfold mb
   rw [Lib.decDigits]
   by_cases hu : u < 10
   ·rw [if_pos (by omega), dif_pos hu]
    show [48 + (u : Int)] = [((UInt8.ofNat (48 + u)).toNat : Int)]
    rw [UInt8.toNat_ofNat']
    congr 1; omega
   ·cases f with
    | zero => exact absurd h (by omega)
    | succ f =>
      have h : u < 10 ^ (f + 1) * 10 := h
      rw [if_neg (by omega), dif_neg hu, List.map_append, show ((u : Int) / 10) = ((u / 10 : Nat) : Int) by omega, af0 f (u / 10) (by omega)]
      congr 1
      show [48 + (u : Int) % 10] = [((UInt8.ofNat (48 + u % 10)).toNat : Int)]
      rw [UInt8.toNat_ofNat']
      congr 1; omega
theorem ar6 (n : Int) (h0 : -9223372036854775808 ≤ n) (h1 : n ≤ 9223372036854775807) : c9 n = (Lib.itoa n).map fun b => (b.toNat : Int) := by
 unfold c9 Lib.itoa
 split
 ·rw [List.map_cons, ← af0 19 n.natAbs (by omega), show ((n.natAbs : Nat) : Int) = -n by omega]; rfl
 ·rw [← af0 19 n.toNat (by omega), show ((n.toNat : Nat) : Int) = n by omega]
theorem ak0 (l : List UInt8) : ai (l.map fun b => (b.toNat : Int)) = ⟨l.toArray⟩ := by
 unfold ai
 rw [List.map_map]
 have : ((fun x : Int => UInt8.ofNat x.toNat) ∘ fun b : UInt8 => (b.toNat : Int)) = id := by
  funext b
  show UInt8.ofNat ((b.toNat : Int)).toNat = b
  rw [Int.toNat_natCast, UInt8.ofNat_toNat]
 rw [this, List.map_id]
theorem ao2 (l : List UInt8) : c7 (l.map fun b => (b.toNat : Int)) := by
 intro x hx
 obtain ⟨b, _, rfl⟩ := List.mem_map.1 hx
 have := b.toNat_lt
 omega
theorem a32 {σ : Nat → List Int} (h : SAll σ [.mk true (.v 1) (.c (-9223372036854775808)) false, .mk true (.c 9223372036854775807) (.v 1) false]) : -9223372036854775808 ≤ (σ 1).headD 0 ∧ (σ 1).headD 0 ≤ 9223372036854775807 := by
 simp only [sall_cons, sF, evs] at h
 exact ⟨h.1, h.2.1⟩
theorem a44 [Gv] : fe a7j := by
 intro σ _ hA _
 letI : Gv := ⟨σ⟩
 have hr := a32 (k6 hA).1
 show lm 324 a43 256 a7k a7m 256 a7l
 intro ρ args w hg hw hc hv
 unfold a43 at hv
 simp only [VRels, vI, VRel] at hv
 obtain ⟨v, vs', ha', ⟨_, hv1⟩, v2, vs2, hv3, hv2, rfl⟩ := hv
 subst hv3
 have hargs : args = #[v, v2] := Array.toList_inj.1 (by simpa using ha')
 subst hargs hv1 hv2
 refine Calls.mono (Go.Proofs.YtdeddgiacdjjdaaGreatDoor.fi_seat _ w (an3 hg hw (by kernel_rfl)) hr.1 hr.2) fun e w' hp => ?_
 obtain ⟨rfl, hk⟩ := hp
 refine ⟨_, ρ, rfl, ?_, vm hw hk⟩
 have e : (GE.app 121 (.i (.v 1) .nil)).eval σ = c9 ((σ 1).headD 0) := rfl
 simp only [VRel, GVRel]
 refine ⟨SAll.nil, ?_, ?_⟩
 ·show Value.string _ = Value.string (ai ((GE.app 121 (.i (.v 1) .nil)).eval σ))
  rw [e, ar6 _ hr.1 hr.2, ak0]; rfl
 ·show c7 ((GE.app 121 (.i (.v 1) .nil)).eval σ)
  rw [e, ar6 _ hr.1 hr.2]; exact ao2 _
theorem a81 (s : List Int) (c : Nat) : (⟨(Lib.repeatL (ai s).data.toList c).toArray⟩ : ByteArray) = ai (nj s (c : Int)) := by
 have e : ∀ c : Nat, Lib.repeatL (ai s).data.toList c = (nj s (c : Int)).map fun x => UInt8.ofNat x.toNat := by
  intro c
  rw [uk]
  induction c with
  | zero => rfl
  | succ c ih =>
    have h1 : nj s ((c + 1 : Nat) : Int) = s ++ nj s (c : Int) := by
     unfold nj
     rw [show ((c + 1 : Nat) : Int).toNat = c + 1 by omega, show (c : Int).toNat = c by omega, List.replicate_succ, List.flatten_cons]
    rw [h1, List.map_append, ← ih]; rfl
 rw [e]; rfl
theorem a3j {s : List Int} {n x : Int} (h : x ∈ nj s n) : x ∈ s := by
 unfold nj at h
 obtain ⟨l, h1, h2⟩ := List.mem_flatten.1 h
 rw [(List.mem_replicate.1 h1).2] at h2; exact h2
theorem a5u [Gv] : fe a82 := by
 intro σ _ hA _
 letI : Gv := ⟨σ⟩
 have hA := (k6 hA).1
 simp only [sall_cons, sF, sE, evs] at hA
 obtain ⟨h0, h1, h2, _⟩ := hA
 show lm 326 a5t 256 a83 a85 256 a84
 intro ρ args w hg hw hc hv
 unfold a5t at hv
 simp only [VRels, vI, VRel] at hv
 obtain ⟨v, vs', ha', ⟨_, hv1, hb⟩, v2, vs2, hv3, ⟨_, hv2⟩, rfl⟩ := hv
 subst hv3
 have hargs : args = #[v, v2] := Array.toList_inj.1 (by simpa using ha')
 subst hargs hv1 hv2
 obtain ⟨c, hc6⟩ : ∃ c : Nat, (σ 6).headD 0 = (c : Int) := ⟨((σ 6).headD 0).toNat, by omega⟩
 have e6 : (SE.v 6).eval σ = (c : Int) := hc6
 have sz : (ai (σ 3)).size = 1 := by rw [b8]; omega
 rw [show (SE.v 6).eval Gv.σ = (c : Int) from e6]
 refine Calls.mono (Go.Proofs.YtdeddgiacdjjdaaGreatDoor.rp_seat _ c w (by show (ai (σ 3)).size * c ≤ _; rw [sz]; omega) (by omega)) fun e w' hp => ?_
 obtain ⟨rfl, hk⟩ := hp
 refine ⟨_, ρ, rfl, ?_, vm hw hk⟩
 have e : (GE.app 245 (.g (.s 3) (.i (.v 6) .nil))).eval σ = nj (σ 3) (c : Int) := by
  show nj (σ 3) ((SE.v 6).eval σ) = _
  rw [e6]
 simp only [VRel, GVRel]
 refine ⟨SAll.nil, ?_, ?_⟩
 ·show Value.string _ = Value.string (ai ((GE.app 245 (.g (.s 3) (.i (.v 6) .nil))).eval σ))
  rw [e, ← a81]; rfl
 ·show c7 ((GE.app 245 (.g (.s 3) (.i (.v 6) .nil))).eval σ)
  rw [e]
  exact fun x hx => hb x (a3j hx)
end Go.Ev
