import Derived.Test.YtkfdioikigponaaGreatDoorEvFr
import Derived.Laws.RangeString
set_option linter.all false
namespace Go.Ev
variable [Gv]
/- utf8.RuneCountInString of strings of ASCII, by its contract. -/
noncomputable def mask7 (l : Nat) : Nat := Nat.mul 128 (Nat.div (Nat.sub (Nat.pow 256 l) 1) 255)
noncomputable def asciiN (l n : Nat) : Bool := bc (Nat.ble l 1000000) (Nat.beq (Nat.land n (mask7 l)) 0) false
noncomputable def rcH (g : Nat) (f : FuncId) (vs : List AV) (w : W) : Option CR := bc (Nat.beq f g) (match vs with
  | [.str l n] => bc (asciiN l n) (some (.ret (.int .i64 (.ofNat l)) w)) none
  | _ => none) none
/-- what utf8.RuneCountInString does -/
def RcOk (g : FuncId) : Prop := ∀ (s : ByteArray) (w : World), s.size < 4294967281 → (∀ (j : Nat) b, s.data.toList[j]? = some b → b.toNat < 128) →
  Calls PP g #[.string s] w fun e w' => e = .returned (.int .i64 s.size) ∧ KeptW w w'
theorem geo (l : Nat) : 256 ^ l = 255 * ((256 ^ l - 1) / 255) + 1 ∧ (256 ^ (l + 1) - 1) / 255 = 256 * ((256 ^ l - 1) / 255) + 1 := by
  have h : ∀ l, ∃ q, 256 ^ l = 255 * q + 1 := by
    intro l
    induction l with
    | zero => exact ⟨0, rfl⟩
    | succ l ih =>
      obtain ⟨q, hq⟩ := ih
      exact ⟨256 * q + 1, by rw [Nat.pow_succ, hq]; omega⟩
  obtain ⟨q, hq⟩ := h l
  have h1 : (256 ^ l - 1) / 255 = q := by rw [hq]; omega
  have h2 : (256 ^ (l + 1) - 1) / 255 = 256 * q + 1 := by rw [Nat.pow_succ, hq]; omega
  rw [h1, h2]
  exact ⟨hq, rfl⟩
theorem mask_bit : ∀ (l k : Nat), k < l → (mask7 l).testBit (8 * k + 7) = true
  | 0, k, h => by omega
  | l + 1, k, h => by
    have e : mask7 (l + 1) = 128 * (256 * ((256 ^ l - 1) / 255) + 1) := by
      show 128 * ((256 ^ (l + 1) - 1) / 255) = _
      rw [(geo l).2]
    have e' : mask7 l = 128 * ((256 ^ l - 1) / 255) := rfl
    cases k with
    | zero =>
      rw [e, Nat.testBit_eq_decide_div_mod_eq]
      simp only [decide_eq_true_eq]
      show 128 * (256 * ((256 ^ l - 1) / 255) + 1) / 128 % 2 = 1
      omega
    | succ k =>
      have ih := mask_bit l k (by omega)
      rw [e', Nat.testBit_eq_decide_div_mod_eq] at ih
      rw [e, Nat.testBit_eq_decide_div_mod_eq]
      simp only [decide_eq_true_eq] at ih ⊢
      generalize (256 ^ l - 1) / 255 = q at ih ⊢
      have p : 2 ^ (8 * (k + 1) + 7) = 256 * 2 ^ (8 * k + 7) := by
        rw [show 8 * (k + 1) + 7 = 8 + (8 * k + 7) by omega, Nat.pow_add]
      rw [p, ← Nat.div_div_eq_div_mul, show 128 * (256 * q + 1) / 256 = 128 * q by omega]
      exact ih
theorem ascii_byte {l n i : Nat} (h : Nat.land n (mask7 l) = 0) (hi : i < l) : sAt l n i < 128 := by
  have hb : n.testBit (8 * (l - 1 - i) + 7) = false := by
    have := congrArg (fun x : Nat => x.testBit (8 * (l - 1 - i) + 7)) h
    have this : (n &&& mask7 l).testBit (8 * (l - 1 - i) + 7) = Nat.testBit 0 (8 * (l - 1 - i) + 7) := this
    rw [Nat.testBit_and, mask_bit l (l - 1 - i) (by omega), Bool.and_true, Nat.zero_testBit] at this
    exact this
  have e : sAt l n i = n / 2 ^ (8 * (l - 1 - i)) % 256 := by
    show Nat.shiftRight n (8 * (l - 1 - i)) % 256 = _
    have : Nat.shiftRight n (8 * (l - 1 - i)) = n / 2 ^ (8 * (l - 1 - i)) := Nat.shiftRight_eq_div_pow _ _
    rw [this]
  rw [Nat.testBit_eq_decide_div_mod_eq, Nat.pow_add, ← Nat.div_div_eq_div_mul] at hb
  simp at hb
  rw [e]
  omega
theorem kept_iter (w : World) (s : ByteArray) (pos : Nat) : KeptW w (w.iter s pos) :=
  ⟨by show w.heap.size ≤ (w.heap.push _).size; simp, fun c hc => RowKit.Below.heap_alloc w _ c hc, rfl, rfl, rfl⟩
theorem rcH_ok {g : FuncId} (h : RcOk g) : HookOk (rcH g) := by
  intro f vs aw r hr _ ρ args w _ hw _ hv
  unfold rcH at hr
  rw [bc_eq] at hr
  split at hr
  · rename_i hf
    have hf := Nat.eq_of_beq_eq_true hf
    subst hf
    split at hr
    · rename_i l n
      rw [bc_eq] at hr
      split at hr
      · rename_i ha
        injection hr with hr
        subst hr
        unfold asciiN at ha
        obtain ⟨h1, h2⟩ := bc_and.1 ha
        have h1 := Nat.le_of_ble_eq_true h1
        have h2 := Nat.eq_of_beq_eq_true h2
        simp only [VRels, VRel] at hv
        obtain ⟨v, vs', ha', ⟨hn, rfl⟩, rfl⟩ := hv
        have hargs : args = #[.string (unpack l n)] := Array.toList_inj.1 (by simpa using ha')
        subst hargs
        refine Calls.mono (h (unpack l n) w (by rw [unpack_size]; omega) ?_) fun e w' hp => ?_
        · intro j b hj
          have hj : (bytesOf l n)[j]? = some b := by simpa [unpack] using hj
          obtain ⟨hlt, hb⟩ := List.getElem?_eq_some_iff.1 hj
          have hl : j < l := by rw [bytesOf_length] at hlt; exact hlt
          rw [bytesOf_get'] at hb
          have := ascii_byte h2 hl
          rw [← hb, u8_toNat_sAt]
          exact this
        · obtain ⟨rfl, hk⟩ := hp
          refine ⟨_, ρ, rfl, ?_, adv_kept hw hk⟩
          simp only [VRel]
          rw [unpack_size]
          rfl
      · cases hr
    · cases hr
  · cases hr
end Go.Ev
