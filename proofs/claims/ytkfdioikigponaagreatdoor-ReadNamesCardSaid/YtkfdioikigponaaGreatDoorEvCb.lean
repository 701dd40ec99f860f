import Derived.Test.YtkfdioikigponaaGreatDoorEvCa
set_option linter.all false
namespace Go.Ev
/- Operations in a row, for a frame of either kind. -/
def WOps (d : Bool) (P : Program) (ops : Array Oper) (Q : Exit → Act → List Frame → World → Prop) : List Nat → Act → List Frame → World → Prop
  | [], a, cs, w => Q .normal a cs w
  | i :: rest, a, cs, w =>
    match ops[i]? with
    | none => WOps d P ops Q rest a cs w
    | some o =>
      if Region.wanted o (yielded ops a.tmps) then
        match (execOp a.eval o).run P w with
        | .ok .recover w' =>
          match recK d cs with
          | some (v, cs') => WOps d P ops Q rest (a.put o.dst v) cs' w'
          | none => WOps d P ops Q rest (a.put o.dst .nilIface) cs w'
        | r => o.upon P a (fun a' w' => WOps d P ops Q rest a' cs w') (fun e a' w' => Q e a' cs w') r
      else WOps d P ops Q rest (a.put o.dst undef) cs w
section
variable {d : Bool} {P : Program} {Q : Exit → Act → List Frame → World → Prop} {a : Act} {cs : List Frame} {w : World}
theorem w_ops {ops : Array Oper} (l : List Nat) :
    ∀ (a : Act) (cs : List Frame) (w : World), WOps d P ops Q l a cs w → ∀ (b : Frame) (k : List Item), b.kind = kindOf d → b.roundOf = none →
      ∃ e a' cs' w', Q e a' cs' w' ∧ Arrives P (lone (b.at a (.inRegion ops l :: k)) cs w) b k cs' e a' w' := by
  induction l with
  | nil => exact fun a cs w h b k _ _ => ⟨.normal, a, cs, w, h, .one step_region_end⟩
  | cons i rest ih =>
    intro a cs w h b k hb hro
    simp only [WOps] at h
    cases ho : ops[i]? with
    | none =>
      simp only [ho] at h
      obtain ⟨e, a', cs', w', hq, harr⟩ := ih a cs w h b k hb hro
      have hs := step_op_skip (P := P) (b := b) (a := a) (k := k) (cs := cs) (w := w) (ops := ops) (i := i) (rest := rest) (by simp [ho])
      simp only [ho, Option.bind_none, Act.put] at hs
      exact ⟨e, a', cs', w', hq, .of_steps (.one hs) harr⟩
    | some o =>
      simp only [ho] at h
      by_cases hw : Region.wanted o (yielded ops a.tmps) = true
      · simp only [hw, if_true] at h
        have hg := stepG_op (P := P) (b := b) (k := k) (cs := cs) (w := w) (rest := rest) ho hw
        have hfin : ∀ v, (b.at a (.inRegion ops (i :: rest) :: k)).finish v = b.at (a.put o.dst v) (.inRegion ops rest :: k) := by
          intro v; rw [Frame.finish_at, ho]; rfl
        split at h
        · rename_i w' hr
          have hk : (b.at a (.inRegion ops (i :: rest) :: k)).kind = kindOf d := hb
          have htr := recK_eq hk cs
          split at h
          · rename_i v cs' hrec
            obtain ⟨e, a', cs'', w'', hq, harr⟩ := ih _ _ _ h b k hb hro
            refine ⟨e, a', cs'', w'', hq, .of_steps (.one (step_lone_go ?_)) harr⟩
            rw [hg, ← hfin]
            simp only [Frame.at] at htr ⊢
            simp [stepG.apply, hr, htr, hrec]
          · rename_i hrec
            obtain ⟨e, a', cs'', w'', hq, harr⟩ := ih _ _ _ h b k hb hro
            refine ⟨e, a', cs'', w'', hq, .of_steps (.one (step_lone_go ?_)) harr⟩
            rw [hg, ← hfin]
            simp only [Frame.at] at htr ⊢
            simp [stepG.apply, hr, htr, hrec]
        · rename_i r hnot
          generalize hr : (execOp a.eval o).run P w = r' at h hnot
          simp only [Oper.upon] at h
          split at h
          · rename_i v w'
            obtain ⟨e, a', cs'', w'', hq, harr⟩ := ih _ _ _ h b k hb hro
            refine ⟨e, a', cs'', w'', hq, .of_steps (.one (step_lone_go ?_)) harr⟩
            rw [hg, ← hfin]; simp [stepG.apply, hr]
          · rename_i w'
            obtain ⟨e, a', cs'', w'', hq, harr⟩ := ih _ _ _ h b k hb hro
            refine ⟨e, a', cs'', w'', hq, .of_steps (.one (step_lone_go ?_)) harr⟩
            rw [hg, ← hfin]; simp [stepG.apply, hr]
          · rename_i d' w'
            obtain ⟨e, a', cs'', w'', hq, harr⟩ := ih _ _ _ h b k hb hro
            refine ⟨e, a', cs'', w'', hq, .of_steps (.one (step_lone_go ?_)) harr⟩
            have : ({ b.at a (.inRegion ops (i :: rest) :: k) with defers := d' :: a.defers } : Frame).finish undef =
                b.at ({ a with defers := d' :: a.defers }.put o.dst undef) (.inRegion ops rest :: k) := by
              have := Frame.finish_at b { a with defers := d' :: a.defers } ops i rest k undef
              rw [ho] at this; exact this
            rw [hg]; simp only [stepG.apply, Sem.runT_eq, hr, GStep.bare_after]
            exact congrArg (fun fr => GStep.go { frame := fr, callers := cs, status := .running, dying := none } w') this
          · rename_i f args w'
            obtain ⟨e, w'', fr, hR, hsteps, _, hleave⟩ := h (b.at a (.inRegion ops (i :: rest) :: k) :: cs)
            have henter : step P (lone (b.at a (.inRegion ops (i :: rest) :: k)) cs w) =
                .next (lone (Frame.enter P f args .normal) (b.at a (.inRegion ops (i :: rest) :: k) :: cs) w') :=
              step_lone_go (by rw [hg]; simp [stepG.apply, hr, Frame.at])
            cases e with
            | returned v =>
              obtain ⟨e, a', cs'', w₃, hq, harr⟩ := ih _ _ _ hR b k hb hro
              refine ⟨e, a', cs'', w₃, hq, .of_steps (.head henter (hsteps.trans (.one ?_))) harr⟩
              rw [← hfin]; exact step_leave_returned hleave
            | panicked chain =>
              refine ⟨.panic chain, a, cs, w'', hR, .inRegion ops (i :: rest) :: k, .head henter (hsteps.trans (.one ?_))⟩
              rw [← Frame.raise_at]; exact step_leave_panicked hleave
            | outgrown =>
              obtain ⟨a₀, w₀, hq⟩ := hR
              exact ⟨.outgrown, a₀, cs, w₀, hq, .inr (Outgrown.of_steps (.one henter) hsteps)⟩
          · rename_i row args w'
            obtain ⟨v, w'', hR, hsteps⟩ := h (b.at a (.inRegion ops (i :: rest) :: k)) cs
            have henter : step P (lone (b.at a (.inRegion ops (i :: rest) :: k)) cs w) =
                .next (lone (Frame.ofRow P row args .normal) (b.at a (.inRegion ops (i :: rest) :: k) :: cs) w') :=
              step_lone_go (by rw [hg]; simp [stepG.apply, hr, Frame.at])
            obtain ⟨e, a', cs'', w₃, hq, harr⟩ := ih _ _ _ hR b k hb hro
            refine ⟨e, a', cs'', w₃, hq, .of_steps (.head henter ?_) harr⟩
            rw [← hfin]; exact hsteps
          · rename_i v w'
            refine ⟨_, a, cs, w', h, .inRegion ops (i :: rest) :: k, .one (step_lone_go ?_)⟩
            rw [hg, ← Frame.raise_at]; simp [stepG.apply, hr]
          · exact h.elim
      · simp only [hw, if_false, Bool.false_eq_true] at h
        obtain ⟨e, a', cs', w', hq, harr⟩ := ih _ _ _ h b k hb hro
        have hs := step_op_skip (P := P) (b := b) (a := a) (k := k) (cs := cs) (w := w) (ops := ops) (i := i) (rest := rest)
          (by simp [ho]; simpa using hw)
        simp only [ho, Option.bind_some] at hs
        exact ⟨e, a', cs', w', hq, .of_steps (.one hs) harr⟩
theorem ws_region {id : Nat} {ops : Array Oper} (h : WOps d P ops Q (List.range ops.size) a cs w) : WS d P (.region id ops false) Q a cs w :=
  fun b k hb hr => let ⟨e, a', cs', w', q, r⟩ := w_ops _ a cs w h b k hb hr; ⟨e, a', cs', w', q, .of_steps (.one step_region) r⟩
theorem ws_region_draw {id : Nat} {ops : Array Oper} (h : ∀ t, WOps d P ops Q (Region.schedule (P.follows .mixedOrders) ops t) a cs { w with drawn := w.drawn + 1 }) : WS d P (.region id ops true) Q a cs w :=
  fun b k hb hr => let ⟨e, a', cs', w', q, r⟩ := w_ops _ a cs _ (h _) b k hb hr; ⟨e, a', cs', w', q, .of_steps (.one step_region_draw) r⟩
end
end Go.Ev
