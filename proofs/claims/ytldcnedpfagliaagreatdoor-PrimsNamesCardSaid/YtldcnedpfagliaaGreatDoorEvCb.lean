import Derived.Test.YtldcnedpfagliaaGreatDoorEvCa
set_option linter.all false
namespace Go.Ev
/- Operations in a row, for a frame of every kind. -/
/-- a round of a loop over a function -/
def RoundC (P : Program) (l f : Nat) (tmps : Array Value) (x y : Code) (w : World) (R : Ending → World → Prop) : Prop :=
  ∀ (c : Frame) (cs : List Frame), ∃ e w', R e w' ∧ (match e with
    | .returned v => Steps P (lone (Frame.round l f tmps x y .normal) (c :: cs) w) (lone (c.finish v) cs w')
    | .panicked ch => Steps P (lone (Frame.round l f tmps x y .normal) (c :: cs) w) (lone (c.raise ch) cs w')
    | .outgrown => False)
theorem RoundC.mono {P : Program} {l f : Nat} {tmps : Array Value} {x y : Code} {w : World} {R R' : Ending → World → Prop} (h : RoundC P l f tmps x y w R) (hr : ∀ e w, R e w → R' e w) : RoundC P l f tmps x y w R' :=
  fun c cs => let ⟨e, w', r, s⟩ := h c cs; ⟨e, w', hr _ _ r, s⟩
/-- what an operation's answer comes to -/
def WNext (d : Bool) (ro : Option Nat) (P : Program) (o : Oper) (a : Act) (cs : List Frame) (K : Act → List Frame → World → Prop) (Q : Exit → Act → List Frame → World → Prop) : Result Next → Prop
  | .ok .recover w' =>
    match ro with
    | some _ => False
    | none => match recK d cs with
      | some (v, cs') => K (a.put o.dst v) cs' w'
      | none => K (a.put o.dst .nilIface) cs w'
  | .ok (.round l f tmps x y) w' => RoundC P l f tmps x y w' fun
    | .returned v, w'' => K (a.put o.dst v) cs w''
    | .panicked ch, w'' => Q (.panic ch) a cs w''
    | .outgrown, _ => False
  | r => o.upon P a (fun a' w' => K a' cs w') (fun e a' w' => e ≠ .outgrown ∧ Q e a' cs w') r
def WOps (d : Bool) (ro : Option Nat) (P : Program) (ops : Array Oper) (Q : Exit → Act → List Frame → World → Prop) : List Nat → Act → List Frame → World → Prop
  | [], a, cs, w => Q .normal a cs w
  | i :: rest, a, cs, w =>
    match ops[i]? with
    | none => WOps d ro P ops Q rest a cs w
    | some o =>
      if Region.wanted o (yielded ops a.tmps) then WNext d ro P o a cs (WOps d ro P ops Q rest) Q ((o.semAt ro a.eval).run P w)
      else WOps d ro P ops Q rest (a.put o.dst undef) cs w
section
variable {d : Bool} {ro : Option Nat} {fn : Nat} {P : Program} {Q : Exit → Act → List Frame → World → Prop} {a : Act} {cs : List Frame} {w : World}
theorem w_ops {ops : Array Oper} (l : List Nat) :
    ∀ (a : Act) (cs : List Frame) (w : World), WOps d ro P ops Q l a cs w → ∀ (b : Frame) (k : List Item), b.kind = kindOf d → b.roundOf = ro →
      ∃ e a' cs' w', Q e a' cs' w' ∧ Arr P (lone (b.atR a (.inRegion ops l :: k)) cs w) b k cs' e a' w' := by
  induction l with
  | nil => exact fun a cs w h b k _ _ => ⟨.normal, a, cs, w, h, .one stepR_region_end⟩
  | cons i rest ih =>
    intro a cs w h b k hb hro
    simp only [WOps] at h
    cases ho : ops[i]? with
    | none =>
      simp only [ho] at h
      obtain ⟨e, a', cs', w', hq, harr⟩ := ih a cs w h b k hb hro
      have hs := stepR_op_skip (P := P) (b := b) (a := a) (k := k) (cs := cs) (w := w) (ops := ops) (i := i) (rest := rest) (by simp [ho])
      simp only [ho, Option.bind_none, Act.put] at hs
      exact ⟨e, a', cs', w', hq, .of_steps (.one hs) harr⟩
    | some o =>
      simp only [ho] at h
      by_cases hw : Region.wanted o (yielded ops a.tmps) = true
      · simp only [hw, if_true] at h
        have hg := stepGR_op (P := P) (b := b) (k := k) (cs := cs) (w := w) (rest := rest) ho hw
        rw [hro] at hg
        have hfin : ∀ v, (b.atR a (.inRegion ops (i :: rest) :: k)).finish v = b.atR (a.put o.dst v) (.inRegion ops rest :: k) := by
          intro v; rw [Frame.finish_atR, ho]; rfl
        unfold WNext at h
        split at h
        · rename_i w' hr
          have hk : (b.atR a (.inRegion ops (i :: rest) :: k)).kind = kindOf d := hb
          have htr := recK_eq hk cs
          cases ro with
          | some l => exact h.elim
          | none =>
            dsimp only at h
            split at h
            · rename_i v cs' hrec
              obtain ⟨e, a', cs'', w'', hq, harr⟩ := ih _ _ _ h b k hb hro
              refine ⟨e, a', cs'', w'', hq, .of_steps (.one (step_lone_go ?_)) harr⟩
              rw [hg, ← hfin]
              simp only [Frame.atR, hro] at htr ⊢
              simp [stepG.apply, hr, htr, hrec]
            · rename_i hrec
              obtain ⟨e, a', cs'', w'', hq, harr⟩ := ih _ _ _ h b k hb hro
              refine ⟨e, a', cs'', w'', hq, .of_steps (.one (step_lone_go ?_)) harr⟩
              rw [hg, ← hfin]
              simp only [Frame.atR, hro] at htr ⊢
              simp [stepG.apply, hr, htr, hrec]
        · rename_i l f tmps x y w' hr
          obtain ⟨e, w'', hR, hsteps⟩ := h (b.atR a (.inRegion ops (i :: rest) :: k)) cs
          have henter : step P (lone (b.atR a (.inRegion ops (i :: rest) :: k)) cs w) =
              .next (lone (Frame.round l f tmps x y .normal) (b.atR a (.inRegion ops (i :: rest) :: k) :: cs) w') :=
            step_lone_go (by rw [hg]; simp [stepG.apply, hr, Frame.atR])
          cases e with
          | returned v =>
            obtain ⟨e, a', cs'', w₃, hq, harr⟩ := ih _ _ _ hR b k hb hro
            refine ⟨e, a', cs'', w₃, hq, .of_steps (.head henter ?_) harr⟩
            rw [← hfin]; exact hsteps
          | panicked chain =>
            refine ⟨.panic chain, a, cs, w'', hR, .inRegion ops (i :: rest) :: k, .head henter ?_⟩
            rw [← Frame.raise_atR]; exact hsteps
          | outgrown => exact hsteps.elim
        · rename_i r hnot hnot2
          generalize hr : (o.semAt ro a.eval).run P w = r' at h hnot hnot2
          simp only [Oper.upon] at h
          split at h
          · rename_i v w'
            obtain ⟨e, a', cs'', w'', hq, harr⟩ := ih _ _ _ h b k hb hro
            refine ⟨e, a', cs'', w'', hq, .of_steps (.one (step_lone_go ?_)) harr⟩
            rw [hg, ← hfin]; simp [stepG.apply, hr]
          · rename_i w'
            obtain ⟨e, a', cs'', w'', hq, harr⟩ := ih _ _ _ h b k hb hro
            refine ⟨e, a', cs'', w'', hq, .of_steps (.one (step_lone_go ?_)) harr⟩
            rw [hg, ← hfin]; simp [stepG.apply, hr]
          · rename_i d' w'
            obtain ⟨e, a', cs'', w'', hq, harr⟩ := ih _ _ _ h b k hb hro
            refine ⟨e, a', cs'', w'', hq, .of_steps (.one (step_lone_go ?_)) harr⟩
            have : ({ b.atR a (.inRegion ops (i :: rest) :: k) with defers := d' :: a.defers } : Frame).finish undef =
                b.atR ({ a with defers := d' :: a.defers }.put o.dst undef) (.inRegion ops rest :: k) := by
              have := Frame.finish_atR b { a with defers := d' :: a.defers } ops i rest k undef
              rw [ho] at this; exact this
            rw [hg]; simp only [stepG.apply, Sem.runT_eq, hr, GStep.bare_after]
            exact congrArg (fun fr => GStep.go { frame := fr, callers := cs, status := .running, dying := none } w') this
          · rename_i f args w'
            obtain ⟨e, w'', fr, hR, hsteps, _, hleave⟩ := h (b.atR a (.inRegion ops (i :: rest) :: k) :: cs)
            have henter : step P (lone (b.atR a (.inRegion ops (i :: rest) :: k)) cs w) =
                .next (lone (Frame.enter P f args .normal) (b.atR a (.inRegion ops (i :: rest) :: k) :: cs) w') :=
              step_lone_go (by rw [hg]; simp [stepG.apply, hr, Frame.atR])
            cases e with
            | returned v =>
              obtain ⟨e, a', cs'', w₃, hq, harr⟩ := ih _ _ _ hR b k hb hro
              refine ⟨e, a', cs'', w₃, hq, .of_steps (.head henter (hsteps.trans (.one ?_))) harr⟩
              rw [← hfin]; exact step_leave_returned hleave
            | panicked chain =>
              refine ⟨.panic chain, a, cs, w'', hR.2, .inRegion ops (i :: rest) :: k, .head henter (hsteps.trans (.one ?_))⟩
              rw [← Frame.raise_atR]; exact step_leave_panicked hleave
            | outgrown =>
              obtain ⟨a₀, w₀, hq⟩ := hR
              exact absurd rfl hq.1
          · rename_i row args w'
            obtain ⟨v, w'', hR, hsteps⟩ := h (b.atR a (.inRegion ops (i :: rest) :: k)) cs
            have henter : step P (lone (b.atR a (.inRegion ops (i :: rest) :: k)) cs w) =
                .next (lone (Frame.ofRow P row args .normal) (b.atR a (.inRegion ops (i :: rest) :: k) :: cs) w') :=
              step_lone_go (by rw [hg]; simp [stepG.apply, hr, Frame.atR])
            obtain ⟨e, a', cs'', w₃, hq, harr⟩ := ih _ _ _ hR b k hb hro
            refine ⟨e, a', cs'', w₃, hq, .of_steps (.head henter ?_) harr⟩
            rw [← hfin]; exact hsteps
          · rename_i v w'
            refine ⟨_, a, cs, w', h.2, .inRegion ops (i :: rest) :: k, .one (step_lone_go ?_)⟩
            rw [hg, ← Frame.raise_atR]; simp [stepG.apply, hr]
          · exact h.elim
      · simp only [hw, if_false, Bool.false_eq_true] at h
        obtain ⟨e, a', cs', w', hq, harr⟩ := ih _ _ _ h b k hb hro
        have hs := stepR_op_skip (P := P) (b := b) (a := a) (k := k) (cs := cs) (w := w) (ops := ops) (i := i) (rest := rest)
          (by simp [ho]; simpa using hw)
        simp only [ho, Option.bind_some] at hs
        exact ⟨e, a', cs', w', hq, .of_steps (.one hs) harr⟩
theorem ws_region {id : Nat} {ops : Array Oper} (h : WOps d ro P ops Q (List.range ops.size) a cs w) : WS d ro fn P (.region id ops false) Q a cs w :=
  fun b k hb hr _ => let ⟨e, a', cs', w', q, r⟩ := w_ops _ a cs w h b k hb hr; ⟨e, a', cs', w', q, .of_steps (.one stepR_region) r⟩
theorem ws_region_draw {id : Nat} {ops : Array Oper} (h : ∀ t, WOps d ro P ops Q (Region.schedule (P.follows .mixedOrders) ops t) a cs { w with drawn := w.drawn + 1 }) : WS d ro fn P (.region id ops true) Q a cs w :=
  fun b k hb hr _ => let ⟨e, a', cs', w', q, r⟩ := w_ops _ a cs _ (h _) b k hb hr; ⟨e, a', cs', w', q, .of_steps (.one stepR_region_draw) r⟩
end
end Go.Ev
