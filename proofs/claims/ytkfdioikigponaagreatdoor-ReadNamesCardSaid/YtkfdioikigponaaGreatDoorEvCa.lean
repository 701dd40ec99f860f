import Derived.Test.YtkfdioikigponaaGreatDoorEvE
import Derived.Recover
set_option linter.all false
namespace Go.Ev
/- The kit's calculus of control once more, for a frame of either kind; the callers' frames are carried along. -/
def kindOf (d : Bool) : CallKind := bif d then .deferred else .normal
def recK (d : Bool) (cs : List Frame) : Option (Value × List Frame) := bif d then recoverD cs else none
theorem recK_eq {d : Bool} {fr : Frame} (h : fr.kind = kindOf d) (cs : List Frame) : tryRecover fr cs = recK d cs := by
  cases d
  · have h : fr.kind = .normal := h
    unfold tryRecover
    rw [h]
    cases cs <;> rfl
  · exact tryRecover_deferred h cs
/-- code run in a frame whose kind is d -/
def WS (d : Bool) (P : Program) (c : Code) (Q : Exit → Act → List Frame → World → Prop) (a : Act) (cs : List Frame) (w : World) : Prop :=
  ∀ (b : Frame) (k : List Item), b.kind = kindOf d → b.roundOf = none →
    ∃ e a' cs' w', Q e a' cs' w' ∧ Arrives P (lone (b.at a (.code c :: k)) cs w) b k cs' e a' w'
section
variable {d : Bool} {P : Program} {Q : Exit → Act → List Frame → World → Prop} {a : Act} {cs : List Frame} {w : World}
theorem ws_mono {c : Code} {Q' : Exit → Act → List Frame → World → Prop} (h : WS d P c Q a cs w) (hq : ∀ e a cs w, Q e a cs w → Q' e a cs w) : WS d P c Q' a cs w :=
  fun b k hb hr => let ⟨e, a', cs', w', q, r⟩ := h b k hb hr; ⟨e, a', cs', w', hq _ _ _ _ q, r⟩
theorem ws_skip (h : Q .normal a cs w) : WS d P .skip Q a cs w := fun _ _ _ _ => ⟨.normal, a, cs, w, h, .one step_skip⟩
theorem ws_label {l : Nat} (h : Q .normal a cs w) : WS d P (.label l) Q a cs w := fun _ _ _ _ => ⟨.normal, a, cs, w, h, .one step_label⟩
theorem ws_exit {id : Nat} (h : Q (.exit id) a cs w) : WS d P (.exit id) Q a cs w := fun _ _ _ _ => ⟨.exit id, a, cs, w, h, fun _ hk => .one (step_exit hk)⟩
theorem ws_ret (h : Q .ret a cs w) : WS d P .ret Q a cs w := fun _ _ _ _ => ⟨.ret, a, cs, w, h, _, .one step_ret⟩
theorem ws_seq {x y : Code} (h : WS d P x (Exit.thenS (WS d P y Q) Q) a cs w) : WS d P (.seq x y) Q a cs w := by
  intro b k hb hr
  obtain ⟨e, a₁, cs₁, w₁, hq, harr⟩ := h b (.code y :: k) hb hr
  cases e with
  | normal =>
    obtain ⟨e₂, a₂, cs₂, w₂, hq₂, harr₂⟩ := hq b k hb hr
    exact ⟨e₂, a₂, cs₂, w₂, hq₂, .of_steps (.head step_seq harr) harr₂⟩
  | exit id => exact ⟨_, a₁, cs₁, w₁, hq, .of_steps (.one step_seq) (.pass (x := .code y) rfl (fun _ _ => .inl (by simp)) harr)⟩
  | goto l => exact ⟨_, a₁, cs₁, w₁, hq, .of_steps (.one step_seq) (.pass (x := .code y) rfl (fun _ _ => .inl (by simp)) harr)⟩
  | ret => exact ⟨_, a₁, cs₁, w₁, hq, .of_steps (.one step_seq) (.pass (x := .code y) rfl (fun _ _ => .inl (by simp)) harr)⟩
  | panic ch => exact ⟨_, a₁, cs₁, w₁, hq, .of_steps (.one step_seq) (.pass (x := .code y) rfl (fun _ _ => .inl (by simp)) harr)⟩
  | outgrown => exact ⟨_, a₁, cs₁, w₁, hq, .of_steps (.one step_seq) (.pass (x := .code y) rfl (fun _ _ => .inl (by simp)) harr)⟩
theorem ws_cond {c : Operand} {x y : Code} {t : Bool} (hc : a.eval c = .bool t) (h : WS d P (if t then x else y) Q a cs w) : WS d P (.cond c x y) Q a cs w :=
  fun b k hb hr => let ⟨e, a', cs', w', q, r⟩ := h b k hb hr; ⟨e, a', cs', w', q, .of_steps (.one (step_cond hc)) r⟩
def inBlockS (id : Nat) (Q : Exit → Act → List Frame → World → Prop) : Exit → Act → List Frame → World → Prop
  | .exit id', a, cs, w => if id' = id then Q .normal a cs w else Q (.exit id') a cs w
  | e, a, cs, w => Q e a cs w
theorem ws_block {id : Nat} {c : Code} (h : WS d P c (inBlockS id Q) a cs w) : WS d P (.block id c) Q a cs w := by
  intro b k hb hr
  obtain ⟨e, a₁, cs₁, w₁, hq, harr⟩ := h b (.inBlock id :: k) hb hr
  cases e with
  | normal => exact ⟨.normal, a₁, cs₁, w₁, hq, .head step_block (Steps.trans harr (.one step_inBlock))⟩
  | exit id' =>
    by_cases hid : id' = id
    · simp only [inBlockS, hid, if_true] at hq
      exact ⟨.normal, a₁, cs₁, w₁, hq, .head step_block (harr k (by simp [exitTo, hid]))⟩
    · simp only [inBlockS, hid, if_false] at hq
      refine ⟨.exit id', a₁, cs₁, w₁, hq, fun k' hk => .head step_block (harr k' ?_)⟩
      have : (id == id') = false := by simp; exact fun h => hid h.symm
      simp [exitTo, this, hk]
  | goto l => exact ⟨_, a₁, cs₁, w₁, hq, fun k' hk => .head step_block (harr k' (by simp [gotoIn, hk]))⟩
  | ret => exact ⟨_, a₁, cs₁, w₁, hq, .of_steps (.one step_block) harr⟩
  | panic ch => exact ⟨_, a₁, cs₁, w₁, hq, .of_steps (.one step_block) harr⟩
  | outgrown => exact ⟨_, a₁, cs₁, w₁, hq, .of_steps (b := b) (k := k) (cs := cs₁) (e := .outgrown) (.one step_block) harr⟩
/-- the same from the item that stands behind a loop's body -/
def WL (d : Bool) (P : Program) (c : Code) (Q : Exit → Act → List Frame → World → Prop) (a : Act) (cs : List Frame) (w : World) : Prop :=
  ∀ (b : Frame) (k : List Item), b.kind = kindOf d → b.roundOf = none →
    ∃ e a' cs' w', Q e a' cs' w' ∧ Arrives P (lone (b.at a (.inLoop c :: k)) cs w) b k cs' e a' w'
theorem ws_round {c : Code} (h : WS d P c (Exit.thenS (WL d P c Q) Q) a cs w) : ∀ (b : Frame) (k : List Item), b.kind = kindOf d → b.roundOf = none →
    ∃ e a' cs' w', Q e a' cs' w' ∧ Arrives P (lone (b.at a (.code c :: .inLoop c :: k)) cs w) b k cs' e a' w' := by
  intro b k hb hr
  obtain ⟨e, a₁, cs₁, w₁, hq, harr⟩ := h b (.inLoop c :: k) hb hr
  cases e with
  | normal =>
    obtain ⟨e₂, a₂, cs₂, w₂, hq₂, harr₂⟩ := hq b k hb hr
    exact ⟨e₂, a₂, cs₂, w₂, hq₂, .of_steps harr harr₂⟩
  | exit id => exact ⟨_, a₁, cs₁, w₁, hq, .pass (x := .inLoop c) rfl (fun _ _ => .inl (by simp)) harr⟩
  | goto l => exact ⟨_, a₁, cs₁, w₁, hq, .pass (x := .inLoop c) rfl (fun _ _ => .inl (by simp)) harr⟩
  | ret => exact ⟨_, a₁, cs₁, w₁, hq, .pass (x := .inLoop c) rfl (fun _ _ => .inl (by simp)) harr⟩
  | panic ch => exact ⟨_, a₁, cs₁, w₁, hq, .pass (x := .inLoop c) rfl (fun _ _ => .inl (by simp)) harr⟩
  | outgrown => exact ⟨_, a₁, cs₁, w₁, hq, .pass (x := .inLoop c) rfl (fun _ _ => .inl (by simp)) harr⟩
theorem ws_loop {c : Code} (h : WS d P c (Exit.thenS (WL d P c Q) Q) a cs w) : WS d P (.loop c) Q a cs w ∧ WL d P c Q a cs w :=
  ⟨fun b k hb hr => let ⟨e, a', cs', w', q, r⟩ := ws_round h b k hb hr; ⟨e, a', cs', w', q, .of_steps (.one step_loop) r⟩,
   fun b k hb hr => let ⟨e, a', cs', w', q, r⟩ := ws_round h b k hb hr; ⟨e, a', cs', w', q, .of_steps (.one step_inLoop) r⟩⟩
end
end Go.Ev
