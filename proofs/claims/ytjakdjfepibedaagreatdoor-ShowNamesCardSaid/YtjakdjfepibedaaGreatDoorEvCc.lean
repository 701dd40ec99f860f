import Derived.Test.YtjakdjfepibedaaGreatDoorEvE
import Derived.Recover
import Derived.AtR
set_option linter.all false
namespace Go.Ev
/- A calculus of control for frames of every kind (of a call, a deferred call, a round of a loop over a function); the callers' frames are carried along. -/
def kindOf (d : Bool) : CallKind := bif d then .deferred else .normal
def recK (d : Bool) (cs : List Frame) : Option (Value × List Frame) := bif d then recoverD cs else none
theorem recK_eq {d : Bool} {fr : Frame} (h : fr.kind = kindOf d) (cs : List Frame) : tryRecover fr cs = recK d cs := by
  cases d
  · have h : fr.kind = .normal := h
    unfold tryRecover
    rw [h]
    cases cs <;> rfl
  · exact tryRecover_deferred h cs
/-- where code arrives -/
def Arr (P : Program) (m : Machine) (b : Frame) (k : List Item) (cs : List Frame) : Exit → Act → World → Prop
  | .normal, a, w => Steps P m (lone (b.atR a k) cs w)
  | .exit id, a, w => (∀ k', exitTo id k = some k' → Steps P m (lone (b.atR a k') cs w)) ∧ (exitTo id k = none → ∃ k', exitTo id k' = none ∧ Steps P m (lone (b.atR a (.code (.exit id) :: k')) cs w))
  | .ret, a, w => ∃ k', Steps P m (lone (b.atR a (.code .ret :: k')) cs w)
  | .panic ch, a, w => ∃ todo, Steps P m (lone { b.atR a todo with mode := .panicking ch } cs w)
  | _, _, _ => False
theorem Arr.of_steps {P : Program} {m m₁ : Machine} {b : Frame} {k : List Item} {cs : List Frame} {e : Exit} {a : Act} {w : World} (h : Steps P m m₁) (h' : Arr P m₁ b k cs e a w) : Arr P m b k cs e a w := by
  cases e with
  | normal => exact Steps.trans h h'
  | exit id => exact ⟨fun k' hk => Steps.trans h (h'.1 k' hk), fun hn => let ⟨k', q, s⟩ := h'.2 hn; ⟨k', q, Steps.trans h s⟩⟩
  | ret => obtain ⟨k', s⟩ := h'; exact ⟨k', Steps.trans h s⟩
  | panic ch => obtain ⟨k', s⟩ := h'; exact ⟨k', Steps.trans h s⟩
  | goto l => exact h'.elim
  | outgrown => exact h'.elim
theorem Arr.pass {P : Program} {m : Machine} {b : Frame} {k : List Item} {cs : List Frame} {e : Exit} {a : Act} {w : World} {x : Item} (hx : ∀ id, exitTo id (x :: k) = exitTo id k) (hne : e ≠ .normal) (h : Arr P m b (x :: k) cs e a w) : Arr P m b k cs e a w := by
  cases e with
  | normal => exact absurd rfl hne
  | exit id => obtain ⟨h1, h2⟩ := h; rw [hx] at h1 h2; exact ⟨h1, h2⟩
  | ret => exact h
  | panic ch => exact h
  | goto l => exact h.elim
  | outgrown => exact h.elim
/-- code run in a frame of function fn, whose kind is d, in a round of loop ro -/
def WS (d : Bool) (ro : Option Nat) (fn : Nat) (P : Program) (c : Code) (Q : Exit → Act → List Frame → World → Prop) (a : Act) (cs : List Frame) (w : World) : Prop :=
  ∀ (b : Frame) (k : List Item), b.kind = kindOf d → b.roundOf = ro → b.fn = fn →
    ∃ e a' cs' w', Q e a' cs' w' ∧ Arr P (lone (b.atR a (.code c :: k)) cs w) b k cs' e a' w'
section
variable {d : Bool} {ro : Option Nat} {fn : Nat} {P : Program} {Q : Exit → Act → List Frame → World → Prop} {a : Act} {cs : List Frame} {w : World}
theorem ws_mono {c : Code} {Q' : Exit → Act → List Frame → World → Prop} (h : WS d ro fn P c Q a cs w) (hq : ∀ e a cs w, Q e a cs w → Q' e a cs w) : WS d ro fn P c Q' a cs w :=
  fun b k hb hr hf => let ⟨e, a', cs', w', q, r⟩ := h b k hb hr hf; ⟨e, a', cs', w', hq _ _ _ _ q, r⟩
theorem ws_skip (h : Q .normal a cs w) : WS d ro fn P .skip Q a cs w := fun _ _ _ _ _ => ⟨.normal, a, cs, w, h, .one stepR_skip⟩
theorem ws_label {l : Nat} (h : Q .normal a cs w) : WS d ro fn P (.label l) Q a cs w := fun _ _ _ _ _ => ⟨.normal, a, cs, w, h, .one stepR_label⟩
theorem ws_exit {id : Nat} (h : Q (.exit id) a cs w) : WS d ro fn P (.exit id) Q a cs w :=
  fun _ k _ _ _ => ⟨.exit id, a, cs, w, h, fun _ hk => .one (stepR_exit hk), fun hn => ⟨k, hn, Steps.refl P _⟩⟩
theorem ws_ret (h : Q .ret a cs w) : WS d ro fn P .ret Q a cs w := fun _ k _ _ _ => ⟨.ret, a, cs, w, h, k, Steps.refl P _⟩
theorem ws_seq {x y : Code} (h : WS d ro fn P x (Exit.thenS (WS d ro fn P y Q) Q) a cs w) : WS d ro fn P (.seq x y) Q a cs w := by
  intro b k hb hr hf
  obtain ⟨e, a₁, cs₁, w₁, hq, harr⟩ := h b (.code y :: k) hb hr hf
  by_cases he : e = .normal
  · subst he
    obtain ⟨e₂, a₂, cs₂, w₂, hq₂, harr₂⟩ := hq b k hb hr hf
    exact ⟨e₂, a₂, cs₂, w₂, hq₂, .of_steps (.head stepR_seq harr) harr₂⟩
  · refine ⟨e, a₁, cs₁, w₁, ?_, .of_steps (.one stepR_seq) (harr.pass (fun _ => rfl) he)⟩
    cases e <;> first | exact hq | exact absurd rfl he
theorem ws_cond {c : Operand} {x y : Code} {t : Bool} (hc : a.eval c = .bool t) (h : WS d ro fn P (if t then x else y) Q a cs w) : WS d ro fn P (.cond c x y) Q a cs w :=
  fun b k hb hr hf => let ⟨e, a', cs', w', q, r⟩ := h b k hb hr hf; ⟨e, a', cs', w', q, .of_steps (.one (stepR_cond hc)) r⟩
def inBlockS (id : Nat) (Q : Exit → Act → List Frame → World → Prop) : Exit → Act → List Frame → World → Prop
  | .exit id', a, cs, w => if id' = id then Q .normal a cs w else Q (.exit id') a cs w
  | e, a, cs, w => Q e a cs w
theorem ws_block {id : Nat} {c : Code} (h : WS d ro fn P c (inBlockS id Q) a cs w) : WS d ro fn P (.block id c) Q a cs w := by
  intro b k hb hr hf
  obtain ⟨e, a₁, cs₁, w₁, hq, harr⟩ := h b (.inBlock id :: k) hb hr hf
  cases e with
  | normal => exact ⟨.normal, a₁, cs₁, w₁, hq, .head stepR_block (Steps.trans harr (.one stepR_inBlock))⟩
  | exit id' =>
    by_cases hid : id' = id
    · simp only [inBlockS, hid, if_true] at hq
      exact ⟨.normal, a₁, cs₁, w₁, hq, .head stepR_block (harr.1 k (by simp [exitTo, hid]))⟩
    · simp only [inBlockS, hid, if_false] at hq
      have hne : (id == id') = false := by simp; exact fun h => hid h.symm
      have hx : exitTo id' (.inBlock id :: k) = exitTo id' k := by simp [exitTo, hne]
      obtain ⟨h1, h2⟩ := harr
      rw [hx] at h1 h2
      exact ⟨.exit id', a₁, cs₁, w₁, hq, .of_steps (e := .exit id') (.one stepR_block) ⟨h1, h2⟩⟩
  | goto l => exact harr.elim
  | ret => exact ⟨_, a₁, cs₁, w₁, hq, .of_steps (e := .ret) (k := k) (.one stepR_block) harr⟩
  | panic ch => exact ⟨_, a₁, cs₁, w₁, hq, .of_steps (e := .panic ch) (k := k) (.one stepR_block) harr⟩
  | outgrown => exact harr.elim
/-- the same from the item that stands behind a loop's body -/
def WL (d : Bool) (ro : Option Nat) (fn : Nat) (P : Program) (c : Code) (Q : Exit → Act → List Frame → World → Prop) (a : Act) (cs : List Frame) (w : World) : Prop :=
  ∀ (b : Frame) (k : List Item), b.kind = kindOf d → b.roundOf = ro → b.fn = fn →
    ∃ e a' cs' w', Q e a' cs' w' ∧ Arr P (lone (b.atR a (.inLoop c :: k)) cs w) b k cs' e a' w'
theorem ws_round {c : Code} (h : WS d ro fn P c (Exit.thenS (WL d ro fn P c Q) Q) a cs w) : ∀ (b : Frame) (k : List Item), b.kind = kindOf d → b.roundOf = ro → b.fn = fn →
    ∃ e a' cs' w', Q e a' cs' w' ∧ Arr P (lone (b.atR a (.code c :: .inLoop c :: k)) cs w) b k cs' e a' w' := by
  intro b k hb hr hf
  obtain ⟨e, a₁, cs₁, w₁, hq, harr⟩ := h b (.inLoop c :: k) hb hr hf
  by_cases he : e = .normal
  · subst he
    obtain ⟨e₂, a₂, cs₂, w₂, hq₂, harr₂⟩ := hq b k hb hr hf
    exact ⟨e₂, a₂, cs₂, w₂, hq₂, .of_steps harr harr₂⟩
  · refine ⟨e, a₁, cs₁, w₁, ?_, harr.pass (fun _ => rfl) he⟩
    cases e <;> first | exact hq | exact absurd rfl he
theorem ws_loop {c : Code} (h : WS d ro fn P c (Exit.thenS (WL d ro fn P c Q) Q) a cs w) : WS d ro fn P (.loop c) Q a cs w ∧ WL d ro fn P c Q a cs w :=
  ⟨fun b k hb hr hf => let ⟨e, a', cs', w', q, r⟩ := ws_round h b k hb hr hf; ⟨e, a', cs', w', q, .of_steps (.one stepR_loop) r⟩,
   fun b k hb hr hf => let ⟨e, a', cs', w', q, r⟩ := ws_round h b k hb hr hf; ⟨e, a', cs', w', q, .of_steps (.one stepR_inLoop) r⟩⟩
end
end Go.Ev
set_option linter.all false
namespace Go.Ev
/- Operations in a row, for a frame of every kind. -/
/-- a round of a loop over a function -/
def RoundC (P : Program) (l f : Nat) (tmps : Array Value) (x y : Code) (w : World) (R : Ending → World → Prop) : Prop :=
  ∀ (c : Frame) (cs : List Frame), ∃ e w', R e w' ∧ (match e with
    | .returned v => Steps P (lone (Frame.round l f tmps x y .normal) (c :: cs) w) (lone (c.finish v) cs w')
    | .panicked ch => Steps P (lone (Frame.round l f tmps x y .normal) (c :: cs) w) (lone (c.raise ch) cs w')
    | .outgrown => False)
theorem RoundC.mono {P : Program} {l f : Nat} {tmps : Array Value} {x y : Code} {w : World} {R R' : Ending → World → Prop} (h : RoundC P l f tmps x y w R) (hr : ∀ e w, R e w → R' e w) : RoundC P l f tmps x y w R' :=
  fun c cs => let ⟨e, w', r, s⟩ := h c cs; ⟨e, w', hr _ _ r, s⟩
/-- what an operation's answer comes to -/
def WNext (d : Bool) (ro : Option Nat) (P : Program) (o : Oper) (a : Act) (cs : List Frame) (K : Act → List Frame → World → Prop) (Q : Exit → Act → List Frame → World → Prop) : Result Next → Prop
  | .ok .recover w' =>
    match ro with
    | some _ => False
    | none => match recK d cs with
      | some (v, cs') => K (a.put o.dst v) cs' w'
      | none => K (a.put o.dst .nilIface) cs w'
  | .ok (.round l f tmps x y) w' => RoundC P l f tmps x y w' fun
    | .returned v, w'' => K (a.put o.dst v) cs w''
    | .panicked ch, w'' => Q (.panic ch) a cs w''
    | .outgrown, _ => False
  | r => o.upon P a (fun a' w' => K a' cs w') (fun e a' w' => e ≠ .outgrown ∧ Q e a' cs w') r
def WOps (d : Bool) (ro : Option Nat) (P : Program) (ops : Array Oper) (Q : Exit → Act → List Frame → World → Prop) : List Nat → Act → List Frame → World → Prop
  | [], a, cs, w => Q .normal a cs w
  | i :: rest, a, cs, w =>
    match ops[i]? with
    | none => WOps d ro P ops Q rest a cs w
    | some o =>
      if Region.wanted o (yielded ops a.tmps) then WNext d ro P o a cs (WOps d ro P ops Q rest) Q ((o.semAt ro a.eval).run P w)
      else WOps d ro P ops Q rest (a.put o.dst undef) cs w
section
variable {d : Bool} {ro : Option Nat} {fn : Nat} {P : Program} {Q : Exit → Act → List Frame → World → Prop} {a : Act} {cs : List Frame} {w : World}
theorem w_ops {ops : Array Oper} (l : List Nat) :
    ∀ (a : Act) (cs : List Frame) (w : World), WOps d ro P ops Q l a cs w → ∀ (b : Frame) (k : List Item), b.kind = kindOf d → b.roundOf = ro →
      ∃ e a' cs' w', Q e a' cs' w' ∧ Arr P (lone (b.atR a (.inRegion ops l :: k)) cs w) b k cs' e a' w' := by
  induction l with
  | nil => exact fun a cs w h b k _ _ => ⟨.normal, a, cs, w, h, .one stepR_region_end⟩
  | cons i rest ih =>
    intro a cs w h b k hb hro
    simp only [WOps] at h
    cases ho : ops[i]? with
    | none =>
      simp only [ho] at h
      obtain ⟨e, a', cs', w', hq, harr⟩ := ih a cs w h b k hb hro
      have hs := stepR_op_skip (P := P) (b := b) (a := a) (k := k) (cs := cs) (w := w) (ops := ops) (i := i) (rest := rest) (by simp [ho])
      simp only [ho, Option.bind_none, Act.put] at hs
      exact ⟨e, a', cs', w', hq, .of_steps (.one hs) harr⟩
    | some o =>
      simp only [ho] at h
      by_cases hw : Region.wanted o (yielded ops a.tmps) = true
      · simp only [hw, if_true] at h
        have hg := stepGR_op (P := P) (b := b) (k := k) (cs := cs) (w := w) (rest := rest) ho hw
        rw [hro] at hg
        have hfin : ∀ v, (b.atR a (.inRegion ops (i :: rest) :: k)).finish v = b.atR (a.put o.dst v) (.inRegion ops rest :: k) := by
          intro v; rw [Frame.finish_atR, ho]; rfl
        unfold WNext at h
        split at h
        · rename_i w' hr
          have hk : (b.atR a (.inRegion ops (i :: rest) :: k)).kind = kindOf d := hb
          have htr := recK_eq hk cs
          cases ro with
          | some l => exact h.elim
          | none =>
            dsimp only at h
            split at h
            · rename_i v cs' hrec
              obtain ⟨e, a', cs'', w'', hq, harr⟩ := ih _ _ _ h b k hb hro
              refine ⟨e, a', cs'', w'', hq, .of_steps (.one (step_lone_go ?_)) harr⟩
              rw [hg, ← hfin]
              simp only [Frame.atR, hro] at htr ⊢
              simp [stepG.apply, hr, htr, hrec]
            · rename_i hrec
              obtain ⟨e, a', cs'', w'', hq, harr⟩ := ih _ _ _ h b k hb hro
              refine ⟨e, a', cs'', w'', hq, .of_steps (.one (step_lone_go ?_)) harr⟩
              rw [hg, ← hfin]
              simp only [Frame.atR, hro] at htr ⊢
              simp [stepG.apply, hr, htr, hrec]
        · rename_i l f tmps x y w' hr
          obtain ⟨e, w'', hR, hsteps⟩ := h (b.atR a (.inRegion ops (i :: rest) :: k)) cs
          have henter : step P (lone (b.atR a (.inRegion ops (i :: rest) :: k)) cs w) =
              .next (lone (Frame.round l f tmps x y .normal) (b.atR a (.inRegion ops (i :: rest) :: k) :: cs) w') :=
            step_lone_go (by rw [hg]; simp [stepG.apply, hr, Frame.atR])
          cases e with
          | returned v =>
            obtain ⟨e, a', cs'', w₃, hq, harr⟩ := ih _ _ _ hR b k hb hro
            refine ⟨e, a', cs'', w₃, hq, .of_steps (.head henter ?_) harr⟩
            rw [← hfin]; exact hsteps
          | panicked chain =>
            refine ⟨.panic chain, a, cs, w'', hR, .inRegion ops (i :: rest) :: k, .head henter ?_⟩
            rw [← Frame.raise_atR]; exact hsteps
          | outgrown => exact hsteps.elim
        · rename_i r hnot hnot2
          generalize hr : (o.semAt ro a.eval).run P w = r' at h hnot hnot2
          simp only [Oper.upon] at h
          split at h
          · rename_i v w'
            obtain ⟨e, a', cs'', w'', hq, harr⟩ := ih _ _ _ h b k hb hro
            refine ⟨e, a', cs'', w'', hq, .of_steps (.one (step_lone_go ?_)) harr⟩
            rw [hg, ← hfin]; simp [stepG.apply, hr]
          · rename_i w'
            obtain ⟨e, a', cs'', w'', hq, harr⟩ := ih _ _ _ h b k hb hro
            refine ⟨e, a', cs'', w'', hq, .of_steps (.one (step_lone_go ?_)) harr⟩
            rw [hg, ← hfin]; simp [stepG.apply, hr]
          · rename_i d' w'
            obtain ⟨e, a', cs'', w'', hq, harr⟩ := ih _ _ _ h b k hb hro
            refine ⟨e, a', cs'', w'', hq, .of_steps (.one (step_lone_go ?_)) harr⟩
            have : ({ b.atR a (.inRegion ops (i :: rest) :: k) with defers := d' :: a.defers } : Frame).finish undef =
                b.atR ({ a with defers := d' :: a.defers }.put o.dst undef) (.inRegion ops rest :: k) := by
              have := Frame.finish_atR b { a with defers := d' :: a.defers } ops i rest k undef
              rw [ho] at this; exact this
            rw [hg]; simp only [stepG.apply, Sem.runT_eq, hr, GStep.bare_after]
            exact congrArg (fun fr => GStep.go { frame := fr, callers := cs, status := .running, dying := none } w') this
          · rename_i f args w'
            obtain ⟨e, w'', fr, hR, hsteps, _, hleave⟩ := h (b.atR a (.inRegion ops (i :: rest) :: k) :: cs)
            have henter : step P (lone (b.atR a (.inRegion ops (i :: rest) :: k)) cs w) =
                .next (lone (Frame.enter P f args .normal) (b.atR a (.inRegion ops (i :: rest) :: k) :: cs) w') :=
              step_lone_go (by rw [hg]; simp [stepG.apply, hr, Frame.atR])
            cases e with
            | returned v =>
              obtain ⟨e, a', cs'', w₃, hq, harr⟩ := ih _ _ _ hR b k hb hro
              refine ⟨e, a', cs'', w₃, hq, .of_steps (.head henter (hsteps.trans (.one ?_))) harr⟩
              rw [← hfin]; exact step_leave_returned hleave
            | panicked chain =>
              refine ⟨.panic chain, a, cs, w'', hR.2, .inRegion ops (i :: rest) :: k, .head henter (hsteps.trans (.one ?_))⟩
              rw [← Frame.raise_atR]; exact step_leave_panicked hleave
            | outgrown =>
              obtain ⟨a₀, w₀, hq⟩ := hR
              exact absurd rfl hq.1
          · rename_i row args w'
            obtain ⟨v, w'', hR, hsteps⟩ := h (b.atR a (.inRegion ops (i :: rest) :: k)) cs
            have henter : step P (lone (b.atR a (.inRegion ops (i :: rest) :: k)) cs w) =
                .next (lone (Frame.ofRow P row args .normal) (b.atR a (.inRegion ops (i :: rest) :: k) :: cs) w') :=
              step_lone_go (by rw [hg]; simp [stepG.apply, hr, Frame.atR])
            obtain ⟨e, a', cs'', w₃, hq, harr⟩ := ih _ _ _ hR b k hb hro
            refine ⟨e, a', cs'', w₃, hq, .of_steps (.head henter ?_) harr⟩
            rw [← hfin]; exact hsteps
          · rename_i v w'
            refine ⟨_, a, cs, w', h.2, .inRegion ops (i :: rest) :: k, .one (step_lone_go ?_)⟩
            rw [hg, ← Frame.raise_atR]; simp [stepG.apply, hr]
          · exact h.elim
      · simp only [hw, if_false, Bool.false_eq_true] at h
        obtain ⟨e, a', cs', w', hq, harr⟩ := ih _ _ _ h b k hb hro
        have hs := stepR_op_skip (P := P) (b := b) (a := a) (k := k) (cs := cs) (w := w) (ops := ops) (i := i) (rest := rest)
          (by simp [ho]; simpa using hw)
        simp only [ho, Option.bind_some] at hs
        exact ⟨e, a', cs', w', hq, .of_steps (.one hs) harr⟩
theorem ws_region {id : Nat} {ops : Array Oper} (h : WOps d ro P ops Q (List.range ops.size) a cs w) : WS d ro fn P (.region id ops false) Q a cs w :=
  fun b k hb hr _ => let ⟨e, a', cs', w', q, r⟩ := w_ops _ a cs w h b k hb hr; ⟨e, a', cs', w', q, .of_steps (.one stepR_region) r⟩
theorem ws_region_draw {id : Nat} {ops : Array Oper} (h : ∀ t, WOps d ro P ops Q (Region.schedule (P.follows .mixedOrders) ops t) a cs { w with drawn := w.drawn + 1 }) : WS d ro fn P (.region id ops true) Q a cs w :=
  fun b k hb hr _ => let ⟨e, a', cs', w', q, r⟩ := w_ops _ a cs _ (h _) b k hb hr; ⟨e, a', cs', w', q, .of_steps (.one stepR_region_draw) r⟩
end
end Go.Ev
set_option linter.all false
namespace Go.Ev
/- States related; results. -/
section
variable {ρ : Env}
theorem getD_set (tmps : Array Value) (d t : Nat) (v' : Value) : (tmps.setIfInBounds d v').getD t undef = if d = t ∧ d < tmps.size then v' else tmps.getD t undef := by
  simp only [Array.getD_eq_getD_getElem?, Array.getElem?_setIfInBounds]
  by_cases h : d = t
  · subst h
    by_cases h2 : d < tmps.size
    · simp [h2]
    · simp [h2]
  · simp [h]
theorem frel_putD {τ : F} {tmps : Array Value} {nt : Nat} (hf : FRel ρ τ tmps) (hs : tmps.size = nt) (hn : nt ≤ 512) {v : AV} {v' : Value} (hv : VRel ρ v v') (d : Nat) :
    FRel ρ (fputD nt d v τ) (tmps.setIfInBounds d v') := by
  intro t
  rw [getD_set]
  unfold fputD
  rw [bc_eq]
  split
  · rename_i h
    have h : d < nt := Nat.le_of_ble_eq_true h
    by_cases ht : t < 512
    · rw [fget_fset d t v τ (by omega) ht]
      by_cases e : d = t
      · rw [if_pos e, if_pos ⟨e, by omega⟩]; exact hv
      · rw [if_neg e, if_neg (fun x => e x.1)]; exact hf t
    · rw [fget_far (by omega)]; simp only [VRel]
  · rename_i h
    have h : ¬ d < nt := fun x => h (Nat.ble_eq_true_of_le x)
    rw [if_neg (by omega)]
    exact hf t
theorem fget_fill : ∀ (vs : List AV) (i : Nat) (τ : F) (t : Nat), i + vs.length ≤ 512 → t < 512 → fget t (ffill vs i τ) = if h : i ≤ t ∧ t - i < vs.length then vs[t - i]'h.2 else fget t τ
  | [], i, τ, t, _, _ => by rw [dif_neg (by simp)]; rfl
  | v :: vs, i, τ, t, h, ht => by
    simp only [List.length_cons] at h
    show fget t (ffill vs (i + 1) (fset i v τ)) = _
    rw [fget_fill vs (i + 1) _ t (by omega) ht]
    by_cases e : i = t
    · subst e
      rw [dif_neg (by omega), dif_pos (by simp)]
      rw [fget_fset i i v τ ht ht, if_pos rfl]
      simp
    · by_cases l : i + 1 ≤ t ∧ t - (i + 1) < vs.length
      · rw [dif_pos l, dif_pos ⟨by omega, by simp only [List.length_cons]; omega⟩]
        have : t - i = (t - (i + 1)) + 1 := by omega
        simp only [this, List.getElem_cons_succ]
      · rw [dif_neg l, dif_neg (by simp only [List.length_cons]; omega), fget_fset i t v τ (by omega) ht, if_neg e]
theorem frel_fill {vs : List AV} {args : Array Value} {nt : Nat} (hv : VRels ρ vs args.toList) (hl : vs.length ≤ nt) (hn : nt ≤ 512) :
    FRel ρ (ffill vs 0 fnone) (args ++ Array.replicate (nt - args.size) undef) := by
  have hlen : args.size = vs.length := by have := VRels.length _ _ hv; simpa using this
  intro t
  by_cases ht : t < 512
  · rw [fget_fill vs 0 fnone t (by omega) ht]
    by_cases h : t < vs.length
    · rw [dif_pos ⟨by omega, by simpa using h⟩]
      obtain ⟨v, h1, h2⟩ := VRels.get _ _ hv t h
      have : (args ++ Array.replicate (nt - args.size) undef).getD t undef = v := by
        rw [Array.getD_eq_getD_getElem?, Array.getElem?_append_left (by omega)]
        simp only [Array.getElem?_toList] at h1
        rw [h1]; rfl
      rw [this]; exact h2
    · rw [dif_neg (by omega), fget_none t ht]
      have : (args ++ Array.replicate (nt - args.size) undef).getD t undef = undef := by
        rw [Array.getD_eq_getD_getElem?, Array.getElem?_append_right (by omega), Array.getElem?_replicate]
        split <;> rfl
      rw [this]
      show VRel ρ (.tuple []) _
      simp only [VRel]
      exact ⟨#[], rfl, by simp only [VRels]⟩
  · rw [fget_far (by omega)]; simp only [VRel]
def DRels (ρ : Env) : List AD → List Deferred → Prop
  | [], l => l = []
  | d :: ds, l => ∃ d' ds', l = d' :: ds' ∧ DRel ρ d d' ∧ DRels ρ ds ds'
def ChRel (ρ : Env) : List PE → List PanicEntry → Prop
  | [], l => l = []
  | .mk v r :: ch, l => ∃ v' ch', l = { v := v', recovered := r, goexit := false } :: ch' ∧ VRel ρ v v' ∧ ChRel ρ ch ch'
def URel (ρ : Env) : UM → FrameMode → Prop
  | .none, _ => False
  | .ret, u => u = .returning
  | .pan ch, u => ∃ ch', u = .panicking ch' ∧ ChRel ρ ch ch'
theorem DRel.mono {ρ' : Env} (h : ρ.le ρ') : ∀ (d : AD) (d' : Deferred), DRel ρ d d' → DRel ρ' d d'
  | .call .., _, ⟨c, a, h1, h2, h3⟩ => ⟨c, a, h1, VRels.mono h _ _ h2, VRels.mono h _ _ h3⟩
  | .coll _, _, ⟨c, h1, h2⟩ => ⟨c, (h _ _ h1).1, h2⟩
theorem DRels.mono {ρ' : Env} (h : ρ.le ρ') : ∀ (ds : List AD) (l : List Deferred), DRels ρ ds l → DRels ρ' ds l
  | [], _, e => e
  | d :: ds, _, ⟨d', ds', h1, h2, h3⟩ => ⟨d', ds', h1, h2.mono h, DRels.mono h ds ds' h3⟩
theorem ChRel.mono {ρ' : Env} (h : ρ.le ρ') : ∀ (ch : List PE) (l : List PanicEntry), ChRel ρ ch l → ChRel ρ' ch l
  | [], _, e => e
  | .mk _ _ :: ch, _, ⟨v, c, h1, h2, h3⟩ => ⟨v, c, h1, VRel.mono h _ _ h2, ChRel.mono h ch c h3⟩
theorem URel.mono {ρ' : Env} (h : ρ.le ρ') : ∀ (u : UM) (m : FrameMode), URel ρ u m → URel ρ' u m
  | .none, _, e => e
  | .ret, _, e => e
  | .pan _, _, ⟨c, h1, h2⟩ => ⟨c, h1, ChRel.mono h _ _ h2⟩
theorem ChRel.append : ∀ (x y : List PE) (x' y' : List PanicEntry), ChRel ρ x x' → ChRel ρ y y' → ChRel ρ (x ++ y) (x' ++ y')
  | [], _, _, _, h, h' => by have h : _ = [] := h; subst h; exact h'
  | .mk v r :: x, y, _, y', ⟨v', c, h1, h2, h3⟩, h' => by subst h1; exact ⟨v', c ++ y', rfl, h2, ChRel.append x y c y' h3 h'⟩
theorem FRel.mono {ρ' : Env} (h : ρ.le ρ') {τ : F} {tmps : Array Value} (e : FRel ρ τ tmps) : FRel ρ' τ tmps := fun t => VRel.mono h _ _ (e t)
theorem GRel.mono {ρ' : Env} (h : ρ.le ρ') (e : GRel ρ) : GRel ρ' := fun g hg => (h _ _ (e g hg)).1
def CsRel (ρ : Env) (d : Bool) (c₀ : Frame) (cs₀ : List Frame) (um : UM) (cs : List Frame) : Prop := match d with
  | true => ∃ u, cs = { c₀ with mode := u } :: cs₀ ∧ URel ρ um u
  | false => cs = cs₀
theorem CsRel.mono {ρ' : Env} (h : ρ.le ρ') {d : Bool} {c₀ : Frame} {cs₀ : List Frame} {um : UM} {cs : List Frame} (e : CsRel ρ d c₀ cs₀ um cs) : CsRel ρ' d c₀ cs₀ um cs := by
  cases d with
  | false => exact e
  | true => obtain ⟨u, h1, h2⟩ := e; exact ⟨u, h1, h2.mono h⟩
/-- the loop of whose round a frame is -/
def RoRel (ρ : Env) : Option K → Option Nat → Prop
  | none, r => r = none
  | some k, r => ∃ c, ρ k = some c ∧ r = some c
theorem RoRel.mono {ρ' : Env} (h : ρ.le ρ') : ∀ {k : Option K} {r : Option Nat}, RoRel ρ k r → RoRel ρ' k r
  | none, _, e => e
  | some _, _, ⟨c, h1, h2⟩ => ⟨c, (h _ _ h1).1, h2⟩
def Clean (ρ : Env) (aw : W) : Prop := ∀ k : K, aw.nx.num ≤ k.num → ρ k = none
theorem Clean.fresh {aw : W} (h : Clean ρ aw) (aw' : W) : Fresh ρ aw aw' := fun k hk _ => h k hk
theorem Clean.adv {ρ' : Env} {aw aw' : W} {w w' : World} (h : Clean ρ aw) (e : Adv ρ aw w ρ' aw' w') : Clean ρ' aw' := by
  intro k hk
  have := e.nx
  rcases e.rng k with x | x
  · rw [x]; exact h k (by omega)
  · omega
structure SRel (ρ : Env) (nt : Nat) (d : Bool) (c₀ : Frame) (cs₀ : List Frame) (τ : F) (ds : List AD) (um : UM) (aw : W) (a : Act) (cs : List Frame) (w : World) : Prop where
  g : GRel ρ
  wr : WRel ρ aw w
  cl : Clean ρ aw
  fr : FRel ρ τ a.tmps
  sz : a.tmps.size = nt
  le : nt ≤ 512
  dr : DRels ρ ds a.defers
  um : CsRel ρ d c₀ cs₀ um cs
variable {nt : Nat} {d : Bool} {c₀ : Frame} {cs₀ : List Frame} {τ : F} {ds : List AD} {um : UM} {aw : W} {a : Act} {cs : List Frame} {w : World}
/-- the world goes on -/
theorem SRel.adv {ρ' : Env} {aw' : W} {w' : World} (h : SRel ρ nt d c₀ cs₀ τ ds um aw a cs w) (e : Adv ρ aw w ρ' aw' w') : SRel ρ' nt d c₀ cs₀ τ ds um aw' a cs w' :=
  ⟨h.g.mono e.le, e.rel, h.cl.adv e, h.fr.mono e.le, h.sz, h.le, DRels.mono e.le _ _ h.dr, h.um.mono e.le⟩
theorem put_size (a : Act) (dst : Option Nat) (v : Value) : (a.put dst v).tmps.size = a.tmps.size := by cases dst <;> simp [Act.put]
theorem put_defers (a : Act) (dst : Option Nat) (v : Value) : (a.put dst v).defers = a.defers := by cases dst <;> rfl
theorem SRel.put (h : SRel ρ nt d c₀ cs₀ τ ds um aw a cs w) {v : AV} {v' : Value} (hv : VRel ρ v v') (dst : Option Nat) :
    SRel ρ nt d c₀ cs₀ (fput nt dst v τ) ds um aw (a.put dst v') cs w := by
  refine ⟨h.g, h.wr, h.cl, ?_, by rw [put_size]; exact h.sz, h.le, by rw [put_defers]; exact h.dr, h.um⟩
  cases dst with
  | none => exact h.fr
  | some t => exact frel_putD h.fr h.sz h.le hv t
theorem undef_rel (ρ : Env) : VRel ρ undefA undef := by
  show VRel ρ (.tuple []) _
  simp only [VRel]
  exact ⟨#[], rfl, by simp only [VRels]⟩
theorem eval_rel (h : SRel ρ nt d c₀ cs₀ τ ds um aw a cs w) (x : Operand) : VRel ρ (evX x τ) (a.eval x) := by
  have := evX_rel (fr := (default : Frame).at a []) h.g (τ := τ) h.fr x
  rw [Frame.eval_at] at this
  exact this
/- results -/
theorem resOne_ok (hw : WRel ρ aw w) (hf : FRel ρ τ a.tmps) (r : ResultVar) {v : AV} (h : resOne τ aw r = some v) :
    ∃ v', ((match r with | .tmp t => pure (a.tmps.getD t undef) | .cell x t => do loadVar t (← asAddr (a.tmps.getD x undef))) : Sem Value).run PP w = .ok v' w ∧ VRel ρ v v' := by
  cases r with
  | tmp t => injection h with h; subst h; exact ⟨_, rfl, hf t⟩
  | cell x t =>
    simp only [resOne] at h
    split at h <;> try (cases h; done)
    rename_i b off hp
    split at h <;> cases h
    rename_i a' hl
    have hx := hf x
    rw [hp] at hx
    simp only [VRel] at hx
    obtain ⟨c, hc, he⟩ := hx
    obtain ⟨_, r', h1, h2⟩ := load_pure hw hc t hl
    refine ⟨r', ?_, h2⟩
    show Sem.run PP (do loadVar t (← asAddr (a.tmps.getD x undef))) w = _
    rw [he]
    exact h1
theorem resAll_ok (hw : WRel ρ aw w) (hf : FRel ρ τ a.tmps) : ∀ (l : List ResultVar) (vs : List AV), resAll τ aw l = some vs →
    ∃ vs', (l.mapM (fun r => ((match r with | .tmp t => pure (a.tmps.getD t undef) | .cell x t => do loadVar t (← asAddr (a.tmps.getD x undef))) : Sem Value))).run PP w = .ok vs' w ∧ VRels ρ vs vs'
  | [], vs, h => by
    injection h with h; subst h
    exact ⟨[], rfl, by simp only [VRels]⟩
  | r :: l, vs, h => by
    simp only [resAll] at h
    cases h1 : resOne τ aw r with
    | none => rw [h1] at h; cases h
    | some v =>
      rw [h1] at h
      cases h2 : resAll τ aw l with
      | none => rw [h2] at h; cases h
      | some us =>
        rw [h2] at h
        injection h with h
        subst h
        obtain ⟨v', e1, r1⟩ := resOne_ok hw hf r h1
        obtain ⟨us', e2, r2⟩ := resAll_ok hw hf l us h2
        refine ⟨v' :: us', ?_, by simp only [VRels]; exact ⟨_, _, rfl, r1, r2⟩⟩
        simp only [List.mapM_cons, Sem.run_bind, e1, e2, Result.andThen_ok, Sem.run_pure]
theorem results_ok {fn : Func} (hw : WRel ρ aw w) (hf : FRel ρ τ a.tmps) {v : AV} {aw' : W} (h : results fn τ aw = .ret v aw') :
    aw' = aw ∧ ∃ v', (_root_.Go.results fn a.tmps).run PP w = .ok v' w ∧ VRel ρ v v' := by
  unfold results at h
  split at h <;> cases h
  rename_i vs hr
  obtain ⟨vs', e, r⟩ := resAll_ok hw hf _ vs hr
  refine ⟨rfl, ?_⟩
  have hrun : ∀ v', (if h : vs'.toArray.size = 1 then vs'.toArray[0] else Value.tuple vs'.toArray) = v' → (_root_.Go.results fn a.tmps).run PP w = .ok v' w := by
    intro v' hv
    unfold _root_.Go.results
    rw [Array.mapM_eq_mapM_toList]
    simp only [map_eq_pure_bind, Sem.run_bind, Sem.run_pure]
    refine Eq.trans (congrArg (fun r : Result (List Value) => (Result.andThen r (fun a w' => Result.ok a.toArray w')).andThen (fun a w' => Result.ok (if h : a.size = 1 then a[0] else Value.tuple a) w')) e) ?_
    simp only [Result.andThen_ok]
    rw [← hv]
  cases vs with
  | nil =>
    simp only [VRels] at r; subst r
    exact ⟨_, hrun _ rfl, by simp only [resV, VRel]; exact ⟨_, rfl, by simp only [VRels]⟩⟩
  | cons x vs =>
    simp only [VRels] at r
    obtain ⟨x', xs', rfl, r1, r2⟩ := r
    cases vs with
    | nil =>
      simp only [VRels] at r2; subst r2
      exact ⟨_, hrun _ rfl, r1⟩
    | cons y vs =>
      refine ⟨_, hrun _ rfl, ?_⟩
      simp only [VRels] at r2
      obtain ⟨y', ys', rfl, r3, r4⟩ := r2
      simp only [resV, VRel]
      refine ⟨(x' :: y' :: ys').toArray, by simp, ?_⟩
      simp only [VRels]
      exact ⟨_, _, rfl, r1, _, _, rfl, r3, r4⟩
end
end Go.Ev
