import Derived.Test.YtldcnedpfagliaaGreatDoorEvE
import Derived.Recover
import Derived.AtR
set_option linter.all false
namespace Go.Ev
/- A calculus of control for frames of every kind (of a call, a deferred call, a round of a loop over a function); the callers' frames are carried along. -/
def kindOf (d : Bool) : CallKind := bif d then .deferred else .normal
def recK (d : Bool) (cs : List Frame) : Option (Value × List Frame) := bif d then recoverD cs else none
theorem recK_eq {d : Bool} {fr : Frame} (h : fr.kind = kindOf d) (cs : List Frame) : tryRecover fr cs = recK d cs := by
  cases d
  · have h : fr.kind = .normal := h
    unfold tryRecover
    rw [h]
    cases cs <;> rfl
  · exact tryRecover_deferred h cs
/-- where code arrives -/
def Arr (P : Program) (m : Machine) (b : Frame) (k : List Item) (cs : List Frame) : Exit → Act → World → Prop
  | .normal, a, w => Steps P m (lone (b.atR a k) cs w)
  | .exit id, a, w => (∀ k', exitTo id k = some k' → Steps P m (lone (b.atR a k') cs w)) ∧ (exitTo id k = none → ∃ k', exitTo id k' = none ∧ Steps P m (lone (b.atR a (.code (.exit id) :: k')) cs w))
  | .ret, a, w => ∃ k', Steps P m (lone (b.atR a (.code .ret :: k')) cs w)
  | .panic ch, a, w => ∃ todo, Steps P m (lone { b.atR a todo with mode := .panicking ch } cs w)
  | _, _, _ => False
theorem Arr.of_steps {P : Program} {m m₁ : Machine} {b : Frame} {k : List Item} {cs : List Frame} {e : Exit} {a : Act} {w : World} (h : Steps P m m₁) (h' : Arr P m₁ b k cs e a w) : Arr P m b k cs e a w := by
  cases e with
  | normal => exact Steps.trans h h'
  | exit id => exact ⟨fun k' hk => Steps.trans h (h'.1 k' hk), fun hn => let ⟨k', q, s⟩ := h'.2 hn; ⟨k', q, Steps.trans h s⟩⟩
  | ret => obtain ⟨k', s⟩ := h'; exact ⟨k', Steps.trans h s⟩
  | panic ch => obtain ⟨k', s⟩ := h'; exact ⟨k', Steps.trans h s⟩
  | goto l => exact h'.elim
  | outgrown => exact h'.elim
theorem Arr.pass {P : Program} {m : Machine} {b : Frame} {k : List Item} {cs : List Frame} {e : Exit} {a : Act} {w : World} {x : Item} (hx : ∀ id, exitTo id (x :: k) = exitTo id k) (hne : e ≠ .normal) (h : Arr P m b (x :: k) cs e a w) : Arr P m b k cs e a w := by
  cases e with
  | normal => exact absurd rfl hne
  | exit id => obtain ⟨h1, h2⟩ := h; rw [hx] at h1 h2; exact ⟨h1, h2⟩
  | ret => exact h
  | panic ch => exact h
  | goto l => exact h.elim
  | outgrown => exact h.elim
/-- code run in a frame of function fn, whose kind is d, in a round of loop ro -/
def WS (d : Bool) (ro : Option Nat) (fn : Nat) (P : Program) (c : Code) (Q : Exit → Act → List Frame → World → Prop) (a : Act) (cs : List Frame) (w : World) : Prop :=
  ∀ (b : Frame) (k : List Item), b.kind = kindOf d → b.roundOf = ro → b.fn = fn →
    ∃ e a' cs' w', Q e a' cs' w' ∧ Arr P (lone (b.atR a (.code c :: k)) cs w) b k cs' e a' w'
section
variable {d : Bool} {ro : Option Nat} {fn : Nat} {P : Program} {Q : Exit → Act → List Frame → World → Prop} {a : Act} {cs : List Frame} {w : World}
theorem ws_mono {c : Code} {Q' : Exit → Act → List Frame → World → Prop} (h : WS d ro fn P c Q a cs w) (hq : ∀ e a cs w, Q e a cs w → Q' e a cs w) : WS d ro fn P c Q' a cs w :=
  fun b k hb hr hf => let ⟨e, a', cs', w', q, r⟩ := h b k hb hr hf; ⟨e, a', cs', w', hq _ _ _ _ q, r⟩
theorem ws_skip (h : Q .normal a cs w) : WS d ro fn P .skip Q a cs w := fun _ _ _ _ _ => ⟨.normal, a, cs, w, h, .one stepR_skip⟩
theorem ws_label {l : Nat} (h : Q .normal a cs w) : WS d ro fn P (.label l) Q a cs w := fun _ _ _ _ _ => ⟨.normal, a, cs, w, h, .one stepR_label⟩
theorem ws_exit {id : Nat} (h : Q (.exit id) a cs w) : WS d ro fn P (.exit id) Q a cs w :=
  fun _ k _ _ _ => ⟨.exit id, a, cs, w, h, fun _ hk => .one (stepR_exit hk), fun hn => ⟨k, hn, Steps.refl P _⟩⟩
theorem ws_ret (h : Q .ret a cs w) : WS d ro fn P .ret Q a cs w := fun _ k _ _ _ => ⟨.ret, a, cs, w, h, k, Steps.refl P _⟩
theorem ws_seq {x y : Code} (h : WS d ro fn P x (Exit.thenS (WS d ro fn P y Q) Q) a cs w) : WS d ro fn P (.seq x y) Q a cs w := by
  intro b k hb hr hf
  obtain ⟨e, a₁, cs₁, w₁, hq, harr⟩ := h b (.code y :: k) hb hr hf
  by_cases he : e = .normal
  · subst he
    obtain ⟨e₂, a₂, cs₂, w₂, hq₂, harr₂⟩ := hq b k hb hr hf
    exact ⟨e₂, a₂, cs₂, w₂, hq₂, .of_steps (.head stepR_seq harr) harr₂⟩
  · refine ⟨e, a₁, cs₁, w₁, ?_, .of_steps (.one stepR_seq) (harr.pass (fun _ => rfl) he)⟩
    cases e <;> first | exact hq | exact absurd rfl he
theorem ws_cond {c : Operand} {x y : Code} {t : Bool} (hc : a.eval c = .bool t) (h : WS d ro fn P (if t then x else y) Q a cs w) : WS d ro fn P (.cond c x y) Q a cs w :=
  fun b k hb hr hf => let ⟨e, a', cs', w', q, r⟩ := h b k hb hr hf; ⟨e, a', cs', w', q, .of_steps (.one (stepR_cond hc)) r⟩
def inBlockS (id : Nat) (Q : Exit → Act → List Frame → World → Prop) : Exit → Act → List Frame → World → Prop
  | .exit id', a, cs, w => if id' = id then Q .normal a cs w else Q (.exit id') a cs w
  | e, a, cs, w => Q e a cs w
theorem ws_block {id : Nat} {c : Code} (h : WS d ro fn P c (inBlockS id Q) a cs w) : WS d ro fn P (.block id c) Q a cs w := by
  intro b k hb hr hf
  obtain ⟨e, a₁, cs₁, w₁, hq, harr⟩ := h b (.inBlock id :: k) hb hr hf
  cases e with
  | normal => exact ⟨.normal, a₁, cs₁, w₁, hq, .head stepR_block (Steps.trans harr (.one stepR_inBlock))⟩
  | exit id' =>
    by_cases hid : id' = id
    · simp only [inBlockS, hid, if_true] at hq
      exact ⟨.normal, a₁, cs₁, w₁, hq, .head stepR_block (harr.1 k (by simp [exitTo, hid]))⟩
    · simp only [inBlockS, hid, if_false] at hq
      have hne : (id == id') = false := by simp; exact fun h => hid h.symm
      have hx : exitTo id' (.inBlock id :: k) = exitTo id' k := by simp [exitTo, hne]
      obtain ⟨h1, h2⟩ := harr
      rw [hx] at h1 h2
      exact ⟨.exit id', a₁, cs₁, w₁, hq, .of_steps (e := .exit id') (.one stepR_block) ⟨h1, h2⟩⟩
  | goto l => exact harr.elim
  | ret => exact ⟨_, a₁, cs₁, w₁, hq, .of_steps (e := .ret) (k := k) (.one stepR_block) harr⟩
  | panic ch => exact ⟨_, a₁, cs₁, w₁, hq, .of_steps (e := .panic ch) (k := k) (.one stepR_block) harr⟩
  | outgrown => exact harr.elim
/-- the same from the item that stands behind a loop's body -/
def WL (d : Bool) (ro : Option Nat) (fn : Nat) (P : Program) (c : Code) (Q : Exit → Act → List Frame → World → Prop) (a : Act) (cs : List Frame) (w : World) : Prop :=
  ∀ (b : Frame) (k : List Item), b.kind = kindOf d → b.roundOf = ro → b.fn = fn →
    ∃ e a' cs' w', Q e a' cs' w' ∧ Arr P (lone (b.atR a (.inLoop c :: k)) cs w) b k cs' e a' w'
theorem ws_round {c : Code} (h : WS d ro fn P c (Exit.thenS (WL d ro fn P c Q) Q) a cs w) : ∀ (b : Frame) (k : List Item), b.kind = kindOf d → b.roundOf = ro → b.fn = fn →
    ∃ e a' cs' w', Q e a' cs' w' ∧ Arr P (lone (b.atR a (.code c :: .inLoop c :: k)) cs w) b k cs' e a' w' := by
  intro b k hb hr hf
  obtain ⟨e, a₁, cs₁, w₁, hq, harr⟩ := h b (.inLoop c :: k) hb hr hf
  by_cases he : e = .normal
  · subst he
    obtain ⟨e₂, a₂, cs₂, w₂, hq₂, harr₂⟩ := hq b k hb hr hf
    exact ⟨e₂, a₂, cs₂, w₂, hq₂, .of_steps harr harr₂⟩
  · refine ⟨e, a₁, cs₁, w₁, ?_, harr.pass (fun _ => rfl) he⟩
    cases e <;> first | exact hq | exact absurd rfl he
theorem ws_loop {c : Code} (h : WS d ro fn P c (Exit.thenS (WL d ro fn P c Q) Q) a cs w) : WS d ro fn P (.loop c) Q a cs w ∧ WL d ro fn P c Q a cs w :=
  ⟨fun b k hb hr hf => let ⟨e, a', cs', w', q, r⟩ := ws_round h b k hb hr hf; ⟨e, a', cs', w', q, .of_steps (.one stepR_loop) r⟩,
   fun b k hb hr hf => let ⟨e, a', cs', w', q, r⟩ := ws_round h b k hb hr hf; ⟨e, a', cs', w', q, .of_steps (.one stepR_inLoop) r⟩⟩
end
end Go.Ev
