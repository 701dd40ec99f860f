import Derived.Test.YtkfdioikigponaaGreatDoorEvTf
import Derived.Test.YtkfdioikigponaaGreatDoorRiP
import Derived.Lib.DecodeN
set_option maxRecDepth 100000
set_option linter.all false
namespace Go.Ev
/- Characters of strings: plain facts; how decided comparisons are shown. -/
section
variable {σ : Nat → List Int}
theorem sall_cons {A : List SA} {x : SA} : SAll σ (x :: A) ↔ x.holds σ ∧ SAll σ A := by
  constructor
  · exact fun h => ⟨h _ (by simp), fun y hy => h y (List.mem_cons_of_mem _ hy)⟩
  · rintro ⟨h1, h2⟩ y hy
    rcases List.mem_cons.1 hy with rfl | hy
    · exact h1
    · exact h2 y hy
theorem holdsT {a b : SE} (h : a.eval σ < b.eval σ) : (SA.mk true a b true).holds σ := decide_eq_true h
theorem holdsF {a b : SE} (h : ¬ a.eval σ < b.eval σ) : (SA.mk true a b false).holds σ := decide_eq_false h
theorem holdsN {a b : SE} (h : ¬ a.eval σ = b.eval σ) : (SA.mk false a b false).holds σ := decide_eq_false h
theorem holdsE {a b : SE} (h : a.eval σ = b.eval σ) : (SA.mk false a b true).holds σ := decide_eq_true h
end
open Classical in
theorem ite1 {p : Prop} : (if p then (1 : Int) else 0) = 1 ↔ p := by
  by_cases h : p
  · rw [if_pos h]; exact ⟨fun _ => h, fun _ => rfl⟩
  · rw [if_neg h]; exact ⟨fun e => absurd e (by decide), fun e => absurd e h⟩
theorem wrap64 {x : Int} (h : -9223372036854775808 ≤ x ∧ x ≤ 9223372036854775807) : IntKind.i64.wrap x = x := by
  simp only [IntKind.wrap, IntKind.bits, IntKind.signed]; simp; omega
theorem wrap32 {x : Int} (h : -2147483648 ≤ x ∧ x ≤ 2147483647) : IntKind.i32.wrap x = x := by
  simp only [IntKind.wrap, IntKind.bits, IntKind.signed]; simp; omega
theorem wrapU32 {x : Int} (h : 0 ≤ x ∧ x ≤ 4294967295) : IntKind.u32.wrap x = x := by
  simp only [IntKind.wrap, IntKind.bits, IntKind.signed]; simp; omega
theorem wrapU8 {x : Int} (h : 0 ≤ x ∧ x ≤ 255) : IntKind.u8.wrap x = x := by
  simp only [IntKind.wrap, IntKind.bits, IntKind.signed]; simp; omega
theorem wrapU64 {x : Int} (h : 0 ≤ x ∧ x ≤ 18446744073709551615) : IntKind.u64.wrap x = x := by
  simp only [IntKind.wrap, IntKind.bits, IntKind.signed]; simp; omega
theorem dec_bounds (l : List Int) (p : Nat) (h : p < l.length) : 1 ≤ (Utf8.decode (bytesI l) p).2 ∧ p + (Utf8.decode (bytesI l) p).2 ≤ l.length ∧ (Utf8.decode (bytesI l) p).1 ≤ 1114111 := by
  have hs : (bytesI l).size = l.length := bytesI_size (l := l)
  rw [Lib.decode_at, hs]
  generalize ((bytesI l).get! p).toNat = b0
  generalize ((bytesI l).get! (p + 1)).toNat = b1
  generalize ((bytesI l).get! (p + 2)).toNat = b2
  generalize ((bytesI l).get! (p + 3)).toNat = b3
  unfold Lib.decodeN
  repeat' split
  all_goals simp only
  all_goals omega
theorem decF_more : ∀ (f g : Nat) (s : List Int) (p : Nat), s.length ≤ p + f → s.length ≤ p + g → decAllF f s p = decAllF g s p
  | 0, 0, _, _, _, _ => rfl
  | 0, g + 1, s, p, h, _ => by unfold decAllF; rw [if_neg (by omega)]
  | f + 1, 0, s, p, _, h => by unfold decAllF; rw [if_neg (by omega)]
  | f + 1, g + 1, s, p, h1, h2 => by
    unfold decAllF
    split
    · rename_i hp
      have := (dec_bounds s p hp).1
      have e : bytesI s = bytesJ s := rfl
      rw [e] at this
      rw [decF_more f g s _ (by omega) (by omega)]
    · rfl
theorem decAll_step {s : List Int} {p : Nat} (h : p < s.length) : decAll s p = ((Utf8.decode (bytesI s) p).1 : Int) :: decAll s (p + (Utf8.decode (bytesI s) p).2) := by
  obtain ⟨f, hf⟩ : ∃ f, s.length = f + 1 := ⟨s.length - 1, by omega⟩
  have hd := (dec_bounds s p h).1
  show decAllF s.length s p = _ :: decAllF s.length s _
  rw [hf]
  show (if p < s.length then _ else _) = _
  rw [if_pos h]
  congr 1
  exact decF_more _ _ _ _ (by show s.length ≤ p + (Utf8.decode (bytesI s) p).2 + f; omega) (by show s.length ≤ p + (Utf8.decode (bytesI s) p).2 + (f + 1); omega)
theorem decAll_end {s : List Int} {p : Nat} (h : s.length ≤ p) : decAll s p = [] := by
  show decAllF s.length s p = []
  cases hf : s.length with
  | zero => rfl
  | succ f => show (if p < s.length then _ else _) = _; rw [if_neg (by omega)]
theorem decAll_asc {s : List Int} (h : ∀ x ∈ s, isAsc x) : ∀ (n p : Nat), s.length ≤ p + n → decAll s p = s.drop p
  | 0, p, hn => by rw [decAll_end (by omega), List.drop_eq_nil_of_le (by omega)]
  | n + 1, p, hn => by
    by_cases hp : p < s.length
    · have hx := h _ (List.getElem_mem hp)
      have hi' : p < (bytesI s).size := by rw [bytesI_size]; exact hp
      have hb : ((bytesI s)[p]'hi').toNat = (s[p]).toNat := by
        have hb : (bytesI s)[p]'hi' = UInt8.ofNat (s[p]).toNat := by
          have := bytesI_get (l := s) _ hp
          show (bytesI s).data[p]'hi' = _
          rw [Array.getElem_eq_iff]; exact this
        rw [hb, UInt8.toNat_ofNat']
        have := hx.1; have := hx.2
        exact Nat.mod_eq_of_lt (by omega)
      have hdec := decode_ascii (bytesI s) p hi' (by rw [hb]; have := hx.1; have := hx.2; omega)
      rw [decAll_step hp, hdec, List.drop_eq_getElem_cons hp, decAll_asc h n (p + 1) (by omega), hb]
      congr 1
      have := hx.1
      omega
    · rw [decAll_end (by omega), List.drop_eq_nil_of_le (by omega)]
end Go.Ev
