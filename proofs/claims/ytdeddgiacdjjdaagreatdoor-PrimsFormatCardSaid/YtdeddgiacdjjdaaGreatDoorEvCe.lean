import Derived.Test.YtdeddgiacdjjdaaGreatDoorEvGw
import Derived.Recover
import Derived.AtR
import Derived.RangeFuncLeaves
set_option linter.all false
namespace Go.Ev
variable [Gv]
def ym (d : Bool) : CallKind := bif d then .deferred else .normal
def aqe (d : Bool) (cs : List Frame) : Option (Value × List Frame) := bif d then recoverD cs else none
theorem a3h {d : Bool} {fr : Frame} (h : fr.kind = ym d) (cs : List Frame) : tryRecover fr cs = aqe d cs := by
 cases d
 ·have h : fr.kind = .normal := h
  unfold tryRecover
  rw [h]
  cases cs <;> rfl
 ·exact tryRecover_deferred h cs
def Arr (P : Program) (m : Machine) (b : Frame) (k : List Item) (cs : List Frame) : Exit → Act → World → Prop
 | .normal, a, w => Steps P m (lone (b.atR a k) cs w)
 | .exit id, a, w => (∀ k', exitTo id k = some k' → Steps P m (lone (b.atR a k') cs w)) ∧ (exitTo id k = none → ∃ k', exitTo id k' = none ∧ Steps P m (lone (b.atR a (.code (.exit id) :: k')) cs w))
 | .ret, a, w => ∃ k', Steps P m (lone (b.atR a (.code .ret :: k')) cs w)
 | .panic ch, a, w => ∃ todo, Steps P m (lone { b.atR a todo with mode := .panicking ch } cs w)
 | _, _, _ => False
theorem Arr.of_steps {P : Program} {m m₁ : Machine} {b : Frame} {k : List Item} {cs : List Frame} {e : Exit} {a : Act} {w : World} (h : Steps P m m₁) (h' : Arr P m₁ b k cs e a w) : Arr P m b k cs e a w := by
 cases e with
 | normal => exact Steps.trans h h'
 | exit id => exact ⟨fun k' hk => Steps.trans h (h'.1 k' hk), fun hn => let ⟨k', q, s⟩ := h'.2 hn; ⟨k', q, Steps.trans h s⟩⟩
 | ret => obtain ⟨k', s⟩ := h'; exact ⟨k', Steps.trans h s⟩
 | panic ch => obtain ⟨k', s⟩ := h'; exact ⟨k', Steps.trans h s⟩
 | goto l => exact h'.elim
 | outgrown => exact h'.elim
theorem Arr.pass {P : Program} {m : Machine} {b : Frame} {k : List Item} {cs : List Frame} {e : Exit} {a : Act} {w : World} {x : Item} (hx : ∀ id, exitTo id (x :: k) = exitTo id k) (hne : e ≠ .normal) (h : Arr P m b (x :: k) cs e a w) : Arr P m b k cs e a w := by
 cases e with
 | normal => exact absurd rfl hne
 | exit id => obtain ⟨h1, h2⟩ := h; rw [hx] at h1 h2; exact ⟨h1, h2⟩
 | ret => exact h
 | panic ch => exact h
 | goto l => exact h.elim
 | outgrown => exact h.elim
def WS (d : Bool) (ro : Option Nat) (fn : Nat) (P : Program) (c : Code) (Q : Exit → Act → List Frame → World → Prop) (a : Act) (cs : List Frame) (w : World) : Prop :=
 ∀ (b : Frame) (k : List Item), b.kind = ym d → b.roundOf = ro → b.fn = fn →
  ∃ e a' cs' w', Q e a' cs' w' ∧ Arr P (lone (b.atR a (.code c :: k)) cs w) b k cs' e a' w'
section
variable {d : Bool} {ro : Option Nat} {fn : Nat} {P : Program} {Q : Exit → Act → List Frame → World → Prop} {a : Act} {cs : List Frame} {w : World}
theorem qv {c : Code} {Q' : Exit → Act → List Frame → World → Prop} (h : WS d ro fn P c Q a cs w) (hq : ∀ e a cs w, Q e a cs w → Q' e a cs w) : WS d ro fn P c Q' a cs w :=
 fun b k hb hr hf => let ⟨e, a', cs', w', q, r⟩ := h b k hb hr hf; ⟨e, a', cs', w', hq _ _ _ _ q, r⟩
theorem a3u (h : Q .normal a cs w) : WS d ro fn P .skip Q a cs w := fun _ _ _ _ _ => ⟨.normal, a, cs, w, h, .one stepR_skip⟩
theorem az9 {l : Nat} (h : Q .normal a cs w) : WS d ro fn P (.label l) Q a cs w := fun _ _ _ _ _ => ⟨.normal, a, cs, w, h, .one stepR_label⟩
theorem a3s {id : Nat} (h : Q (.exit id) a cs w) : WS d ro fn P (.exit id) Q a cs w :=
 fun _ k _ _ _ => ⟨.exit id, a, cs, w, h, fun _ hk => .one (stepR_exit hk), fun hn => ⟨k, hn, Steps.refl P _⟩⟩
theorem a58 (h : Q .ret a cs w) : WS d ro fn P .ret Q a cs w := fun _ k _ _ _ => ⟨.ret, a, cs, w, h, k, Steps.refl P _⟩
theorem a59 {x y : Code} (h : WS d ro fn P x (Exit.thenS (WS d ro fn P y Q) Q) a cs w) : WS d ro fn P (.seq x y) Q a cs w := by
 intro b k hb hr hf
 obtain ⟨e, a₁, cs₁, w₁, hq, harr⟩ := h b (.code y :: k) hb hr hf
 by_cases he : e = .normal
 ·subst he
  obtain ⟨e₂, a₂, cs₂, w₂, hq₂, harr₂⟩ := hq b k hb hr hf
  exact ⟨e₂, a₂, cs₂, w₂, hq₂, .of_steps (.head stepR_seq harr) harr₂⟩
 ·refine ⟨e, a₁, cs₁, w₁, ?_, .of_steps (.one stepR_seq) (harr.pass (fun _ => rfl) he)⟩
  cases e <;> first | exact hq | exact absurd rfl he
theorem a3r {c : Operand} {x y : Code} {t : Bool} (hc : a.eval c = .bool t) (h : WS d ro fn P (if t then x else y) Q a cs w) : WS d ro fn P (.cond c x y) Q a cs w :=
 fun b k hb hr hf => let ⟨e, a', cs', w', q, r⟩ := h b k hb hr hf; ⟨e, a', cs', w', q, .of_steps (.one (stepR_cond hc)) r⟩
def acb (id : Nat) (Q : Exit → Act → List Frame → World → Prop) : Exit → Act → List Frame → World → Prop
 | .exit id', a, cs, w => if id' = id then Q .normal a cs w else Q (.exit id') a cs w
 | e, a, cs, w => Q e a cs w
theorem az8 {id : Nat} {c : Code} (h : WS d ro fn P c (acb id Q) a cs w) : WS d ro fn P (.block id c) Q a cs w := by
 intro b k hb hr hf
 obtain ⟨e, a₁, cs₁, w₁, hq, harr⟩ := h b (.inBlock id :: k) hb hr hf
 cases e with
 | normal => exact ⟨.normal, a₁, cs₁, w₁, hq, .head stepR_block (Steps.trans harr (.one stepR_inBlock))⟩
 | exit id' =>
   by_cases hid : id' = id
   ·simp only [acb, hid, if_true] at hq
    exact ⟨.normal, a₁, cs₁, w₁, hq, .head stepR_block (harr.1 k (by simp [exitTo, hid]))⟩
   ·simp only [acb, hid, if_false] at hq
    have hne : (id == id') = false := by simp; exact fun h => hid h.symm
    have hx : exitTo id' (.inBlock id :: k) = exitTo id' k := by simp [exitTo, hne]
    obtain ⟨h1, h2⟩ := harr
    rw [hx] at h1 h2
    exact ⟨.exit id', a₁, cs₁, w₁, hq, .of_steps (e := .exit id') (.one stepR_block) ⟨h1, h2⟩⟩
 | goto l => exact harr.elim
 | ret => exact ⟨_, a₁, cs₁, w₁, hq, .of_steps (e := .ret) (k := k) (.one stepR_block) harr⟩
 | panic ch => exact ⟨_, a₁, cs₁, w₁, hq, .of_steps (e := .panic ch) (k := k) (.one stepR_block) harr⟩
 | outgrown => exact harr.elim
def WL (d : Bool) (ro : Option Nat) (fn : Nat) (P : Program) (c : Code) (Q : Exit → Act → List Frame → World → Prop) (a : Act) (cs : List Frame) (w : World) : Prop :=
 ∀ (b : Frame) (k : List Item), b.kind = ym d → b.roundOf = ro → b.fn = fn →
  ∃ e a' cs' w', Q e a' cs' w' ∧ Arr P (lone (b.atR a (.inLoop c :: k)) cs w) b k cs' e a' w'
theorem akh {c : Code} (h : WS d ro fn P c (Exit.thenS (WL d ro fn P c Q) Q) a cs w) : ∀ (b : Frame) (k : List Item), b.kind = ym d → b.roundOf = ro → b.fn = fn →
  ∃ e a' cs' w', Q e a' cs' w' ∧ Arr P (lone (b.atR a (.code c :: .inLoop c :: k)) cs w) b k cs' e a' w' := by
 intro b k hb hr hf
 obtain ⟨e, a₁, cs₁, w₁, hq, harr⟩ := h b (.inLoop c :: k) hb hr hf
 by_cases he : e = .normal
 ·subst he
  obtain ⟨e₂, a₂, cs₂, w₂, hq₂, harr₂⟩ := hq b k hb hr hf
  exact ⟨e₂, a₂, cs₂, w₂, hq₂, .of_steps harr harr₂⟩
 ·refine ⟨e, a₁, cs₁, w₁, ?_, harr.pass (fun _ => rfl) he⟩
  cases e <;> first | exact hq | exact absurd rfl he
theorem a3t {c : Code} (h : WS d ro fn P c (Exit.thenS (WL d ro fn P c Q) Q) a cs w) : WS d ro fn P (.loop c) Q a cs w ∧ WL d ro fn P c Q a cs w :=
 ⟨fun b k hb hr hf => let ⟨e, a', cs', w', q, r⟩ := akh h b k hb hr hf; ⟨e, a', cs', w', q, .of_steps (.one stepR_loop) r⟩,
  fun b k hb hr hf => let ⟨e, a', cs', w', q, r⟩ := akh h b k hb hr hf; ⟨e, a', cs', w', q, .of_steps (.one stepR_inLoop) r⟩⟩
end
end Go.Ev
set_option linter.all false
namespace Go.Ev
variable [Gv]
def RoundC (P : Program) (l f : Nat) (tmps : Array Value) (x y : Code) (w : World) (R : Ending → World → Prop) : Prop :=
 ∀ (c : Frame) (cs : List Frame), ∃ e w', R e w' ∧ (match e with
  | .returned v => Steps P (lone (Frame.round l f tmps x y .normal) (c :: cs) w) (lone (c.finish v) cs w')
  | .panicked ch => Steps P (lone (Frame.round l f tmps x y .normal) (c :: cs) w) (lone (c.raise ch) cs w')
  | .outgrown => False)
theorem RoundC.mono {P : Program} {l f : Nat} {tmps : Array Value} {x y : Code} {w : World} {R R' : Ending → World → Prop} (h : RoundC P l f tmps x y w R) (hr : ∀ e w, R e w → R' e w) : RoundC P l f tmps x y w R' :=
 fun c cs => let ⟨e, w', r, s⟩ := h c cs; ⟨e, w', hr _ _ r, s⟩
def vl (d : Bool) (ro : Option Nat) (P : Program) (o : Oper) (a : Act) (cs : List Frame) (K : Act → List Frame → World → Prop) (Q : Exit → Act → List Frame → World → Prop) : Result Next → Prop
 | .ok .recover w' =>
   match ro with
   | some _ => False
   | none => match aqe d cs with
     | some (v, cs') => K (a.put o.dst v) cs' w'
     | none => K (a.put o.dst .nilIface) cs w'
 | .ok (.round l f tmps x y) w' => RoundC P l f tmps x y w' fun
   | .returned v, w'' => K (a.put o.dst v) cs w''
   | .panicked ch, w'' => Q (.panic ch) a cs w''
   | .outgrown, _ => False
 | r => o.upon P a (fun a' w' => K a' cs w') (fun e a' w' => e ≠ .outgrown ∧ Q e a' cs w') r
def iq (d : Bool) (ro : Option Nat) (P : Program) (ops : Array Oper) (Q : Exit → Act → List Frame → World → Prop) : List Nat → Act → List Frame → World → Prop
 | [], a, cs, w => Q .normal a cs w
 | i :: rest, a, cs, w =>
   match ops[i]? with
   | none => iq d ro P ops Q rest a cs w
   | some o =>
     if Region.wanted o (yielded ops a.tmps) then vl d ro P o a cs (iq d ro P ops Q rest) Q ((o.semAt ro a.eval).run P w)
     else iq d ro P ops Q rest (a.put o.dst undef) cs w
section
variable {d : Bool} {ro : Option Nat} {fn : Nat} {P : Program} {Q : Exit → Act → List Frame → World → Prop} {a : Act} {cs : List Frame} {w : World}
theorem a4e {ops : Array Oper} (l : List Nat) :
  ∀ (a : Act) (cs : List Frame) (w : World), iq d ro P ops Q l a cs w → ∀ (b : Frame) (k : List Item), b.kind = ym d → b.roundOf = ro →
   ∃ e a' cs' w', Q e a' cs' w' ∧ Arr P (lone (b.atR a (.inRegion ops l :: k)) cs w) b k cs' e a' w' := by
 induction l with
 | nil => exact fun a cs w h b k _ _ => ⟨.normal, a, cs, w, h, .one stepR_region_end⟩
 | cons i rest ih =>
   intro a cs w h b k hb hro
   simp only [iq] at h
   cases ho : ops[i]? with
   | none =>
     simp only [ho] at h
     obtain ⟨e, a', cs', w', hq, harr⟩ := ih a cs w h b k hb hro
     have hs := stepR_op_skip (P := P) (b := b) (a := a) (k := k) (cs := cs) (w := w) (ops := ops) (i := i) (rest := rest) (by simp [ho])
     simp only [ho, Option.bind_none, Act.put] at hs
     exact ⟨e, a', cs', w', hq, .of_steps (.one hs) harr⟩
   | some o =>
     simp only [ho] at h
     by_cases hw : Region.wanted o (yielded ops a.tmps) = true
     ·simp only [hw, if_true] at h
      have hg := stepGR_op (P := P) (b := b) (k := k) (cs := cs) (w := w) (rest := rest) ho hw
      rw [hro] at hg
      have hfin : ∀ v, (b.atR a (.inRegion ops (i :: rest) :: k)).finish v = b.atR (a.put o.dst v) (.inRegion ops rest :: k) := by
       intro v; rw [Frame.finish_atR, ho]; rfl
      unfold vl at h
      split at h
      ·rename_i w' hr
       have hk : (b.atR a (.inRegion ops (i :: rest) :: k)).kind = ym d := hb
       have htr := a3h hk cs
       cases ro with
       | some l => exact h.elim
       | none =>
         dsimp only at h
         split at h
         ·rename_i v cs' hrec
          obtain ⟨e, a', cs'', w'', hq, harr⟩ := ih _ _ _ h b k hb hro
          refine ⟨e, a', cs'', w'', hq, .of_steps (.one (step_lone_go ?_)) harr⟩
          rw [hg, ← hfin]
          simp only [Frame.atR, hro] at htr ⊢
          simp [stepG.apply, hr, htr, hrec]
         ·rename_i hrec
          obtain ⟨e, a', cs'', w'', hq, harr⟩ := ih _ _ _ h b k hb hro
          refine ⟨e, a', cs'', w'', hq, .of_steps (.one (step_lone_go ?_)) harr⟩
          rw [hg, ← hfin]
          simp only [Frame.atR, hro] at htr ⊢
          simp [stepG.apply, hr, htr, hrec]
      ·rename_i l f tmps x y w' hr
       obtain ⟨e, w'', hR, hsteps⟩ := h (b.atR a (.inRegion ops (i :: rest) :: k)) cs
       have henter : step P (lone (b.atR a (.inRegion ops (i :: rest) :: k)) cs w) =
         .next (lone (Frame.round l f tmps x y .normal) (b.atR a (.inRegion ops (i :: rest) :: k) :: cs) w') :=
        step_lone_go (by rw [hg]; simp [stepG.apply, hr, Frame.atR])
       cases e with
       | returned v =>
         obtain ⟨e, a', cs'', w₃, hq, harr⟩ := ih _ _ _ hR b k hb hro
         refine ⟨e, a', cs'', w₃, hq, .of_steps (.head henter ?_) harr⟩
         rw [← hfin]; exact hsteps
       | panicked chain =>
         refine ⟨.panic chain, a, cs, w'', hR, .inRegion ops (i :: rest) :: k, .head henter ?_⟩
         rw [← Frame.raise_atR]; exact hsteps
       | outgrown => exact hsteps.elim
      ·rename_i r hnot hnot2
       generalize hr : (o.semAt ro a.eval).run P w = r' at h hnot hnot2
       simp only [Oper.upon] at h
       split at h
       ·rename_i v w'
        obtain ⟨e, a', cs'', w'', hq, harr⟩ := ih _ _ _ h b k hb hro
        refine ⟨e, a', cs'', w'', hq, .of_steps (.one (step_lone_go ?_)) harr⟩
        rw [hg, ← hfin]; simp [stepG.apply, hr]
       ·rename_i w'
        obtain ⟨e, a', cs'', w'', hq, harr⟩ := ih _ _ _ h b k hb hro
        refine ⟨e, a', cs'', w'', hq, .of_steps (.one (step_lone_go ?_)) harr⟩
        rw [hg, ← hfin]; simp [stepG.apply, hr]
       ·rename_i d' w'
        obtain ⟨e, a', cs'', w'', hq, harr⟩ := ih _ _ _ h b k hb hro
        refine ⟨e, a', cs'', w'', hq, .of_steps (.one (step_lone_go ?_)) harr⟩
        have : ({ b.atR a (.inRegion ops (i :: rest) :: k) with defers := d' :: a.defers } : Frame).finish undef =
          b.atR ({ a with defers := d' :: a.defers }.put o.dst undef) (.inRegion ops rest :: k) := by
         have := Frame.finish_atR b { a with defers := d' :: a.defers } ops i rest k undef
         rw [ho] at this; exact this
        rw [hg]; simp only [stepG.apply, Sem.runT_eq, hr, GStep.bare_after]
        exact congrArg (fun fr => GStep.go { frame := fr, callers := cs, status := .running, dying := none } w') this
       ·rename_i f args w'
        obtain ⟨e, w'', fr, hR, hsteps, _, hleave⟩ := h (b.atR a (.inRegion ops (i :: rest) :: k) :: cs)
        have henter : step P (lone (b.atR a (.inRegion ops (i :: rest) :: k)) cs w) =
          .next (lone (Frame.enter P f args .normal) (b.atR a (.inRegion ops (i :: rest) :: k) :: cs) w') :=
         step_lone_go (by rw [hg]; simp [stepG.apply, hr, Frame.atR])
        cases e with
        | returned v =>
          obtain ⟨e, a', cs'', w₃, hq, harr⟩ := ih _ _ _ hR b k hb hro
          refine ⟨e, a', cs'', w₃, hq, .of_steps (.head henter (hsteps.trans (.one ?_))) harr⟩
          rw [← hfin]; exact step_leave_returned hleave
        | panicked chain =>
          refine ⟨.panic chain, a, cs, w'', hR.2, .inRegion ops (i :: rest) :: k, .head henter (hsteps.trans (.one ?_))⟩
          rw [← Frame.raise_atR]; exact step_leave_panicked hleave
        | outgrown =>
          obtain ⟨a₀, w₀, hq⟩ := hR
          exact absurd rfl hq.1
       ·rename_i row args w'
        obtain ⟨v, w'', hR, hsteps⟩ := h (b.atR a (.inRegion ops (i :: rest) :: k)) cs
        have henter : step P (lone (b.atR a (.inRegion ops (i :: rest) :: k)) cs w) =
          .next (lone (Frame.ofRow P row args .normal) (b.atR a (.inRegion ops (i :: rest) :: k) :: cs) w') :=
         step_lone_go (by rw [hg]; simp [stepG.apply, hr, Frame.atR])
        obtain ⟨e, a', cs'', w₃, hq, harr⟩ := ih _ _ _ hR b k hb hro
        refine ⟨e, a', cs'', w₃, hq, .of_steps (.head henter ?_) harr⟩
        rw [← hfin]; exact hsteps
       ·rename_i v w'
        refine ⟨_, a, cs, w', h.2, .inRegion ops (i :: rest) :: k, .one (step_lone_go ?_)⟩
        rw [hg, ← Frame.raise_atR]; simp [stepG.apply, hr]
       ·exact h.elim
     ·simp only [hw, if_false, zF] at h
      obtain ⟨e, a', cs', w', hq, harr⟩ := ih _ _ _ h b k hb hro
      have hs := stepR_op_skip (P := P) (b := b) (a := a) (k := k) (cs := cs) (w := w) (ops := ops) (i := i) (rest := rest)
       (by simp [ho]; simpa using hw)
      simp only [ho, Option.bind_some] at hs
      exact ⟨e, a', cs', w', hq, .of_steps (.one hs) harr⟩
theorem aqq {id : Nat} {ops : Array Oper} (h : iq d ro P ops Q (List.range ops.size) a cs w) : WS d ro fn P (.region id ops false) Q a cs w :=
 fun b k hb hr _ => let ⟨e, a', cs', w', q, r⟩ := a4e _ a cs w h b k hb hr; ⟨e, a', cs', w', q, .of_steps (.one stepR_region) r⟩
theorem ado {id : Nat} {ops : Array Oper} (h : ∀ t, iq d ro P ops Q (Region.schedule (P.follows .mixedOrders) ops t) a cs { w with drawn := w.drawn + 1 }) : WS d ro fn P (.region id ops true) Q a cs w :=
 fun b k hb hr _ => let ⟨e, a', cs', w', q, r⟩ := a4e _ a cs _ (h _) b k hb hr; ⟨e, a', cs', w', q, .of_steps (.one stepR_region_draw) r⟩
end
end Go.Ev
set_option linter.all false
namespace Go.Ev
variable [Gv]
section
variable {ρ : Env}
theorem ain (tmps : Array Value) (d t : Nat) (v' : Value) : (tmps.setIfInBounds d v').getD t undef = if d = t ∧ d < tmps.size then v' else tmps.getD t undef := by
 simp only [Array.getD_eq_getD_getElem?, Array.getElem?_setIfInBounds]
 by_cases h : d = t
 ·subst h
  by_cases h2 : d < tmps.size
  ·simp [h2]
  ·simp [h2]
 ·simp [h]
theorem aeo {τ : F} {tmps : Array Value} {nt : Nat} (hf : FRel ρ τ tmps) (hs : tmps.size = nt) (hn : nt ≤ 512) {v : AV} {v' : Value} (hv : VRel ρ v v') (d : Nat) :
  FRel ρ (aen nt d v τ) (tmps.setIfInBounds d v') := by
 intro t
 rw [ain]
 unfold aen
 rw [aa]
 split
 ·rename_i h
  have h : d < nt := zE h
  by_cases ht : t < 512
  ·rw [tg d t v τ (by omega) ht]
   by_cases e : d = t
   ·rw [if_pos e, if_pos ⟨e, by omega⟩]; exact hv
   ·rw [if_neg e, if_neg (fun x => e x.1)]; exact hf t
  ·rw [o8 (by omega)]; simp only [VRel]
 ·rename_i h
  have h : ¬ d < nt := fun x => h (Nat.ble_eq_true_of_le x)
  rw [if_neg (by omega)]
  exact hf t
theorem yd : ∀ (vs : List AV) (i : Nat) (τ : F) (t : Nat), i + vs.length ≤ 512 → t < 512 → ev t (na vs i τ) = if h : i ≤ t ∧ t - i < vs.length then vs[t - i]'h.2 else ev t τ
 | [], i, τ, t, _, _ => by rw [dif_neg (by simp)]; rfl
 | v :: vs, i, τ, t, h, ht => by
   simp only [zO] at h
   show ev t (na vs (i + 1) (ail i v τ)) = _
   rw [yd vs (i + 1) _ t (by omega) ht]
   by_cases e : i = t
   ·subst e
    rw [dif_neg (by omega), dif_pos (by simp)]
    rw [tg i i v τ ht ht, if_pos rfl]
    simp
   ·by_cases l : i + 1 ≤ t ∧ t - (i + 1) < vs.length
    ·rw [dif_pos l, dif_pos ⟨by omega, by simp only [zO]; omega⟩]
     have : t - i = (t - (i + 1)) + 1 := by omega
     simp only [this, List.getElem_cons_succ]
    ·rw [dif_neg l, dif_neg (by simp only [zO]; omega), tg i t v τ (by omega) ht, if_neg e]
theorem yh {vs : List AV} {args : Array Value} {nt : Nat} (hv : VRels ρ vs args.toList) (hl : vs.length ≤ nt) (hn : nt ≤ 512) :
  FRel ρ (na vs 0 lr) (args ++ Array.replicate (nt - args.size) undef) := by
 have hlen : args.size = vs.length := by have := VRels.length _ _ hv; simpa using this
 intro t
 by_cases ht : t < 512
 ·rw [yd vs 0 lr t (by omega) ht]
  by_cases h : t < vs.length
  ·rw [dif_pos ⟨by omega, by simpa using h⟩]
   obtain ⟨v, h1, h2⟩ := VRels.get _ _ hv t h
   have : (args ++ Array.replicate (nt - args.size) undef).getD t undef = v := by
    rw [Array.getD_eq_getD_getElem?, Array.getElem?_append_left (by omega)]
    simp only [Array.getElem?_toList] at h1
    rw [h1]; rfl
   rw [this]; exact h2
  ·rw [dif_neg (by omega), apo t ht]
   have : (args ++ Array.replicate (nt - args.size) undef).getD t undef = undef := by
    rw [Array.getD_eq_getD_getElem?, Array.getElem?_append_right (by omega), Array.getElem?_replicate]
    split <;> rfl
   rw [this]
   show VRel ρ (.tuple []) _
   simp only [VRel]
   exact ⟨#[], rfl, by simp only [VRels]⟩
 ·rw [o8 (by omega)]; simp only [VRel]
def DRels (ρ : Env) : List AD → List Deferred → Prop
 | [], l => l = []
 | d :: ds, l => ∃ d' ds', l = d' :: ds' ∧ DRel ρ d d' ∧ DRels ρ ds ds'
def ChRel (ρ : Env) : List PE → List PanicEntry → Prop
 | [], l => l = []
 | .mk v r :: ch, l => ∃ v' ch', l = { v := v', recovered := r, goexit := false } :: ch' ∧ VRel ρ v v' ∧ ChRel ρ ch ch'
def URel (ρ : Env) : UM → FrameMode → Prop
 | .none, _ => False
 | .ret, u => u = .returning
 | .pan ch, u => ∃ ch', u = .panicking ch' ∧ ChRel ρ ch ch'
theorem DRel.mono {ρ' : Env} (h : ρ.le ρ') : ∀ (d : AD) (d' : Deferred), DRel ρ d d' → DRel ρ' d d'
 | .call .., _, ⟨c, a, h1, h2, h3⟩ => ⟨c, a, h1, VRels.mono h _ _ h2, VRels.mono h _ _ h3⟩
 | .coll _, _, ⟨c, h1, h2⟩ => ⟨c, (h _ _ h1).1, h2⟩
theorem DRels.mono {ρ' : Env} (h : ρ.le ρ') : ∀ (ds : List AD) (l : List Deferred), DRels ρ ds l → DRels ρ' ds l
 | [], _, e => e
 | d :: ds, _, ⟨d', ds', h1, h2, h3⟩ => ⟨d', ds', h1, h2.mono h, DRels.mono h ds ds' h3⟩
theorem ChRel.mono {ρ' : Env} (h : ρ.le ρ') : ∀ (ch : List PE) (l : List PanicEntry), ChRel ρ ch l → ChRel ρ' ch l
 | [], _, e => e
 | .mk _ _ :: ch, _, ⟨v, c, h1, h2, h3⟩ => ⟨v, c, h1, VRel.mono h _ _ h2, ChRel.mono h ch c h3⟩
theorem URel.mono {ρ' : Env} (h : ρ.le ρ') : ∀ (u : UM) (m : FrameMode), URel ρ u m → URel ρ' u m
 | .none, _, e => e
 | .ret, _, e => e
 | .pan _, _, ⟨c, h1, h2⟩ => ⟨c, h1, ChRel.mono h _ _ h2⟩
theorem ChRel.append : ∀ (x y : List PE) (x' y' : List PanicEntry), ChRel ρ x x' → ChRel ρ y y' → ChRel ρ (x ++ y) (x' ++ y')
 | [], _, _, _, h, h' => by have h : _ = [] := h; subst h; exact h'
 | .mk v r :: x, y, _, y', ⟨v', c, h1, h2, h3⟩, h' => by subst h1; exact ⟨v', c ++ y', rfl, h2, ChRel.append x y c y' h3 h'⟩
theorem FRel.mono {ρ' : Env} (h : ρ.le ρ') {τ : F} {tmps : Array Value} (e : FRel ρ τ tmps) : FRel ρ' τ tmps := fun t => VRel.mono h _ _ (e t)
theorem GRel.mono {ρ' : Env} (h : ρ.le ρ') (e : GRel ρ) : GRel ρ' := fun g hg => (h _ _ (e g hg)).1
def CsRel (ρ : Env) (d : Bool) (c₀ : Frame) (cs₀ : List Frame) (um : UM) (cs : List Frame) : Prop := match d with
 | true => ∃ u, cs = { c₀ with mode := u } :: cs₀ ∧ URel ρ um u
 | false => cs = cs₀
theorem CsRel.mono {ρ' : Env} (h : ρ.le ρ') {d : Bool} {c₀ : Frame} {cs₀ : List Frame} {um : UM} {cs : List Frame} (e : CsRel ρ d c₀ cs₀ um cs) : CsRel ρ' d c₀ cs₀ um cs := by
 cases d with
 | false => exact e
 | true => obtain ⟨u, h1, h2⟩ := e; exact ⟨u, h1, h2.mono h⟩
def RoRel (ρ : Env) : Option K → Option Nat → Prop
 | none, r => r = none
 | some k, r => ∃ c, ρ k = some c ∧ r = some c
theorem RoRel.mono {ρ' : Env} (h : ρ.le ρ') : ∀ {k : Option K} {r : Option Nat}, RoRel ρ k r → RoRel ρ' k r
 | none, _, e => e
 | some _, _, ⟨c, h1, h2⟩ => ⟨c, (h _ _ h1).1, h2⟩
def Clean (ρ : Env) (aw : W) : Prop := ∀ k : K, aw.nx.num ≤ k.num → ρ k = none
theorem Clean.fresh {aw : W} (h : Clean ρ aw) (aw' : W) : Fresh ρ aw aw' := fun k hk _ => h k hk
theorem Clean.adv {ρ' : Env} {aw aw' : W} {w w' : World} (h : Clean ρ aw) (e : Adv ρ aw w ρ' aw' w') : Clean ρ' aw' := by
 intro k hk
 have := e.nx
 rcases e.rng k with x | x
 ·rw [x]; exact h k (by omega)
 ·omega
structure SRel (ρ : Env) (nt : Nat) (d : Bool) (c₀ : Frame) (cs₀ : List Frame) (τ : F) (ds : List AD) (um : UM) (aw : W) (a : Act) (cs : List Frame) (w : World) : Prop where
 g : GRel ρ
 wr : WRel ρ aw w
 cl : Clean ρ aw
 fr : FRel ρ τ a.tmps
 sz : a.tmps.size = nt
 le : nt ≤ 512
 dr : DRels ρ ds a.defers
 um : CsRel ρ d c₀ cs₀ um cs
variable {nt : Nat} {d : Bool} {c₀ : Frame} {cs₀ : List Frame} {τ : F} {ds : List AD} {um : UM} {aw : W} {a : Act} {cs : List Frame} {w : World}
theorem SRel.adv {ρ' : Env} {aw' : W} {w' : World} (h : SRel ρ nt d c₀ cs₀ τ ds um aw a cs w) (e : Adv ρ aw w ρ' aw' w') : SRel ρ' nt d c₀ cs₀ τ ds um aw' a cs w' :=
 ⟨h.g.mono e.le, e.rel, h.cl.adv e, h.fr.mono e.le, h.sz, h.le, DRels.mono e.le _ _ h.dr, h.um.mono e.le⟩
theorem sm (a : Act) (dst : Option Nat) (v : Value) : (a.put dst v).tmps.size = a.tmps.size := by cases dst <;> simp [Act.put]
theorem ni (a : Act) (dst : Option Nat) (v : Value) : (a.put dst v).defers = a.defers := by cases dst <;> rfl
theorem SRel.put (h : SRel ρ nt d c₀ cs₀ τ ds um aw a cs w) {v : AV} {v' : Value} (hv : VRel ρ v v') (dst : Option Nat) :
  SRel ρ nt d c₀ cs₀ (md nt dst v τ) ds um aw (a.put dst v') cs w := by
 refine ⟨h.g, h.wr, h.cl, ?_, by rw [sm]; exact h.sz, h.le, by rw [ni]; exact h.dr, h.um⟩
 cases dst with
 | none => exact h.fr
 | some t => exact aeo h.fr h.sz h.le hv t
theorem j9 (ρ : Env) : VRel ρ ff undef := by
 show VRel ρ (.tuple []) _
 simp only [VRel]
 exact ⟨#[], rfl, by simp only [VRels]⟩
theorem abv (h : SRel ρ nt d c₀ cs₀ τ ds um aw a cs w) (x : Operand) : VRel ρ (evX x τ) (a.eval x) := by
 have := agb (fr := (default : Frame).at a []) h.g (τ := τ) h.fr x
 rw [Frame.eval_at] at this
 exact this
theorem aqf (hw : WRel ρ aw w) (hf : FRel ρ τ a.tmps) (r : ResultVar) {v : AV} (h : ag7 τ aw r = some v) :
  ∃ v', ((match r with | .tmp t => pure (a.tmps.getD t undef) | .cell x t => do loadVar t (← asAddr (a.tmps.getD x undef))) : Sem Value).run PP w = .ok v' w ∧ VRel ρ v v' := by
 cases r with
 | tmp t => injection h with h; subst h; exact ⟨_, rfl, hf t⟩
 | cell x t =>
   simp only [ag7] at h
   split at h <;> try (cases h; done)
   rename_i b off hp
   split at h <;> cases h
   rename_i a' hl
   have hx := hf x
   rw [hp] at hx
   simp only [VRel] at hx
   obtain ⟨c, hc, he⟩ := hx
   obtain ⟨_, r', h1, h2⟩ := aew hw hc t hl
   refine ⟨r', ?_, h2⟩
   show Sem.run PP (do loadVar t (← asAddr (a.tmps.getD x undef))) w = _
   rw [he]
   exact h1
theorem afh (hw : WRel ρ aw w) (hf : FRel ρ τ a.tmps) : ∀ (l : List ResultVar) (vs : List AV), ac6 τ aw l = some vs →
  ∃ vs', (l.mapM (fun r => ((match r with | .tmp t => pure (a.tmps.getD t undef) | .cell x t => do loadVar t (← asAddr (a.tmps.getD x undef))) : Sem Value))).run PP w = .ok vs' w ∧ VRels ρ vs vs'
 | [], vs, h => by
   injection h with h; subst h
   exact ⟨[], rfl, by simp only [VRels]⟩
 | r :: l, vs, h => by
   simp only [ac6] at h
   cases h1 : ag7 τ aw r with
   | none => rw [h1] at h; cases h
   | some v =>
     rw [h1] at h
     cases h2 : ac6 τ aw l with
     | none => rw [h2] at h; cases h
     | some us =>
       rw [h2] at h
       injection h with h
       subst h
       obtain ⟨v', e1, r1⟩ := aqf hw hf r h1
       obtain ⟨us', e2, r2⟩ := afh hw hf l us h2
       refine ⟨v' :: us', ?_, by simp only [VRels]; exact ⟨_, _, rfl, r1, r2⟩⟩
       simp only [List.mapM_cons, zR, e1, e2, zQ, zT]
theorem ac7 {fn : Func} (hw : WRel ρ aw w) (hf : FRel ρ τ a.tmps) {v : AV} {aw' : W} (h : results fn τ aw = .ret v aw') :
  aw' = aw ∧ ∃ v', (_root_.Go.results fn a.tmps).run PP w = .ok v' w ∧ VRel ρ v v' := by
 unfold results at h
 split at h <;> cases h
 rename_i vs hr
 obtain ⟨vs', e, r⟩ := afh hw hf _ vs hr
 refine ⟨rfl, ?_⟩
 have hrun : ∀ v', (if h : vs'.toArray.size = 1 then vs'.toArray[0] else Value.tuple vs'.toArray) = v' → (_root_.Go.results fn a.tmps).run PP w = .ok v' w := by
  intro v' hv
  unfold _root_.Go.results
  rw [Array.mapM_eq_mapM_toList]
  simp only [map_eq_pure_bind, zR, zT]
  refine Eq.trans (congrArg (fun r : Result (List Value) => (Result.andThen r (fun a w' => Result.ok a.toArray w')).andThen (fun a w' => Result.ok (if h : a.size = 1 then a[0] else Value.tuple a) w')) e) ?_
  simp only [zQ]
  rw [← hv]
 cases vs with
 | nil =>
   simp only [VRels] at r; subst r
   exact ⟨_, hrun _ rfl, by simp only [a5r, VRel]; exact ⟨_, rfl, by simp only [VRels]⟩⟩
 | cons x vs =>
   simp only [VRels] at r
   obtain ⟨x', xs', rfl, r1, r2⟩ := r
   cases vs with
   | nil =>
     simp only [VRels] at r2; subst r2
     exact ⟨_, hrun _ rfl, r1⟩
   | cons y vs =>
     refine ⟨_, hrun _ rfl, ?_⟩
     simp only [VRels] at r2
     obtain ⟨y', ys', rfl, r3, r4⟩ := r2
     simp only [a5r, VRel]
     refine ⟨(x' :: y' :: ys').toArray, by simp, ?_⟩
     simp only [VRels]
     exact ⟨_, _, rfl, r1, _, _, rfl, r3, r4⟩
end
end Go.Ev
set_option linter.all false
namespace Go.Ev
variable [Gv]
section
variable {ρ : Env} {aw : W} {w : World}
end
end Go.Ev
set_option linter.all false
namespace Go.Ev
variable [Gv]
def R.ok : R → Prop | .no .. => False | _ => True
def CR.ok : CR → Prop | .no .. => False | _ => True
def DR.ok : DR → Prop | .no .. => False | _ => True
def Aft (ρ : Env) (aw : W) (w : World) (nt : Nat) (d : Bool) (c₀ : Frame) (cs₀ : List Frame) : FSt → Act → List Frame → World → Prop
 | .mk τ ds um aw', a', cs', w' => ∃ ρ', Adv ρ aw w ρ' aw' w' ∧ SRel ρ' nt d c₀ cs₀ τ ds um aw' a' cs' w'
def Post (ρ : Env) (aw : W) (w : World) (nt : Nat) (d : Bool) (c₀ : Frame) (cs₀ : List Frame) (r : R) (e : Exit) (a' : Act) (cs' : List Frame) (w' : World) : Prop := match r with
 | .n S => e = .normal ∧ Aft ρ aw w nt d c₀ cs₀ S a' cs' w'
 | .x id S => e = .exit id ∧ Aft ρ aw w nt d c₀ cs₀ S a' cs' w'
 | .r S => e = .ret ∧ Aft ρ aw w nt d c₀ cs₀ S a' cs' w'
 | .p ch (.mk τ ds um aw') => ∃ ch' ρ', e = .panic ch' ∧ ChRel ρ' ch ch' ∧ Adv ρ aw w ρ' aw' w' ∧ SRel ρ' nt d c₀ cs₀ τ ds um aw' a' cs' w'
 | .no _ _ => False
def CPost (ρ : Env) (aw : W) (w : World) (r : CR) (e : Ending) (w' : World) : Prop := match r with
 | .ret v aw' => ∃ v' ρ', e = .returned v' ∧ VRel ρ' v v' ∧ Adv ρ aw w ρ' aw' w'
 | .pan ch aw' => ∃ ch' ρ', e = .panicked ch' ∧ ChRel ρ' ch ch' ∧ Adv ρ aw w ρ' aw' w'
 | .no _ _ => False
def aq4 (ρ : Env) (aw : W) (w : World) (r : DR) (e : Ending) (u' : FrameMode) (w' : World) : Prop := match r with
 | .ret um' aw' => ∃ v' ρ', e = .returned v' ∧ URel ρ' um' u' ∧ Adv ρ aw w ρ' aw' w'
 | .pan ch um' aw' => ∃ ch' ρ', e = .panicked ch' ∧ ChRel ρ' ch ch' ∧ URel ρ' um' u' ∧ Adv ρ aw w ρ' aw' w'
 | .no _ _ => False
structure KeptW (w w' : World) : Prop where
 size : w.heap.size ≤ w'.heap.size
 heap : ∀ c, c < w.heap.size → w'.heap[c]? = w.heap[c]?
 os : w'.os = w.os
 tape : w'.tape = w.tape
 output : w'.output = w.output
def LaidIn (l : List LE) (w : World) : Prop := ∀ g cs, LE.mk g cs ∈ l → ∃ arr t fz, w.heap[g]? = some (.cells arr t fz) ∧ ∀ ρ, VRels ρ cs arr.toList
def xr (H : akt) : Prop := ∀ f vs aw r, H f vs aw = some r → r.ok → ∀ (ρ : Env) (args : Array Value) (w : World), GRel ρ → WRel ρ aw w → Clean ρ aw → VRels ρ vs args.toList → Calls PP f args w (CPost ρ aw w r)
def aot (L : aav) : Prop := ∀ f nt d rk b τ ds um aw r, L (.mk f nt d rk) b (.mk τ ds um aw) = some r → r.ok → rk = none ∧
 (InF f (.loop b) → ∀ (ρ : Env) (c₀ : Frame) (cs₀ : List Frame) (a : Act) (cs : List Frame) (w : World), SRel ρ nt d c₀ cs₀ τ ds um aw a cs w →
   WS d none f PP (.loop b) (Post ρ aw w nt d c₀ cs₀ r) a cs w ∧ WL d none f PP b (Post ρ aw w nt d c₀ cs₀ r) a cs w)
theorem ia : aot a3c := fun _ _ _ _ _ _ _ _ _ _ h => by cases h
structure Sound (ih : Ih) : Prop where
 hook : xr ih.hook
 lp : aot ih.lp
 go : ∀ (c : Code) (fn nt : Nat) (d : Bool) (rk : Option K) (ro : Option Nat) (ρ : Env) (c₀ : Frame) (cs₀ : List Frame) (τ : F) (ds : List AD) (um : UM) (aw : W) (a : Act) (cs : List Frame) (w : World),
  SRel ρ nt d c₀ cs₀ τ ds um aw a cs w → RoRel ρ rk ro → (rk = none → InF fn c) → (ih c (.mk fn nt d rk) (.mk τ ds um aw)).ok →
  WS d ro fn PP c (Post ρ aw w nt d c₀ cs₀ (ih c (.mk fn nt d rk) (.mk τ ds um aw))) a cs w ∧
  ∀ b, c = .loop b → WL d ro fn PP b (Post ρ aw w nt d c₀ cs₀ (ih c (.mk fn nt d rk) (.mk τ ds um aw))) a cs w
def li (P : Program) (fn : Func) (tmps : Array Value) (R : Ending → World → Prop) : List Deferred → FrameMode → World → Prop
 | [], .returning, w => ∃ v, (_root_.Go.results fn tmps).run P w = .ok v w ∧ R (.returned v) w
 | [], .panicking chain, w => R (.panicked chain) w
 | [], .run, _ => False
 | d :: ds, u, w => u ≠ .run ∧ ((∃ r w', d.target = .collected r ∧ (Instr.takeDeferred r).run P w = .ok [] w' ∧ li P fn tmps R ds u w') ∨
    ∃ fv cap f args, d.target = .fn fv cap ∧ (invoke d.target d.args).run P w = .ok (.enter f args) w ∧
    CallsD P f args u w fun
     | .returned _, u', w' => li P fn tmps R ds (_root_.Go.settle u') w'
     | .panicked chain, u', w' => li P fn tmps R ds (_root_.Go.raised u' chain) w'
     | .outgrown, _, w' => R .outgrown w')
section
variable {ρ : Env} {nt : Nat} {d : Bool} {c₀ : Frame} {cs₀ : List Frame} {τ : F} {ds : List AD} {um : UM} {aw : W} {a : Act} {cs : List Frame} {w : World}
theorem Aft.trans {ρ1 : Env} {aw1 : W} {w1 : World} (h : Adv ρ aw w ρ1 aw1 w1) {S : FSt} {a' : Act} {cs' : List Frame} {w' : World} (e : Aft ρ1 aw1 w1 nt d c₀ cs₀ S a' cs' w') : Aft ρ aw w nt d c₀ cs₀ S a' cs' w' := by
 obtain ⟨τ, ds, um, aw'⟩ := S
 obtain ⟨ρ', h1, h2⟩ := e
 exact ⟨ρ', h.trans h1, h2⟩
theorem Post.trans {ρ1 : Env} {aw1 : W} {w1 : World} (h : Adv ρ aw w ρ1 aw1 w1) {r : R} {e : Exit} {a' : Act} {cs' : List Frame} {w' : World} (p : Post ρ1 aw1 w1 nt d c₀ cs₀ r e a' cs' w') : Post ρ aw w nt d c₀ cs₀ r e a' cs' w' := by
 cases r with
 | n S => exact ⟨p.1, p.2.trans h⟩
 | x id S => exact ⟨p.1, p.2.trans h⟩
 | r S => exact ⟨p.1, p.2.trans h⟩
 | p ch S => obtain ⟨τ, ds, um, aw'⟩ := S; obtain ⟨ch', ρ', h1, h2, h3, h4⟩ := p; exact ⟨ch', ρ', h1, h2, h.trans h3, h4⟩
 | no => exact p.elim
theorem CPost.trans {ρ1 : Env} {aw1 : W} {w1 : World} (h : Adv ρ aw w ρ1 aw1 w1) {r : CR} {e : Ending} {w' : World} (p : CPost ρ1 aw1 w1 r e w') : CPost ρ aw w r e w' := by
 cases r with
 | ret v aw' => obtain ⟨v', ρ', h1, h2, h3⟩ := p; exact ⟨v', ρ', h1, h2, h.trans h3⟩
 | pan ch aw' => obtain ⟨ch', ρ', h1, h2, h3⟩ := p; exact ⟨ch', ρ', h1, h2, h.trans h3⟩
 | no => exact p.elim
theorem ga {P : Program} {fn : Func} {tmps : Array Value} {R R' : Ending → World → Prop} (hr : ∀ e w, R e w → R' e w) : ∀ (ds : List Deferred) (u : FrameMode) (w : World), li P fn tmps R ds u w → li P fn tmps R' ds u w
 | [], .returning, _, ⟨v, h1, h2⟩ => ⟨v, h1, hr _ _ h2⟩
 | [], .panicking _, _, h => hr _ _ h
 | [], .run, _, h => h.elim
 | d :: ds, u, w, h => by
   obtain ⟨h0, h⟩ := h
   refine ⟨h0, ?_⟩
   rcases h with ⟨r, w', h1, h2, h3⟩ | ⟨fv, cap, f, args, h1, h2, h3⟩
   ·exact .inl ⟨r, w', h1, h2, ga hr ds _ _ h3⟩
   ·refine .inr ⟨fv, cap, f, args, h1, h2, h3.mono ?_⟩
    intro e u' w' he
    cases e with
    | returned v => exact ga hr ds _ _ he
    | panicked ch => exact ga hr ds _ _ he
    | outgrown => exact hr _ _ he
theorem og {P : Program} {fn : Func} {tmps : Array Value} {R : Ending → World → Prop} : ∀ (ds : List Deferred) (u : FrameMode) (w : World) (fr : Frame)
  (cs : List Frame), fr.mode = u → fr.defers = ds → fr.tmps = tmps → P.funcs[fr.fn]? = some fn → fr.kind = .normal → li P fn tmps R ds u w →
  ∃ e w' fr', R e w' ∧ Comes P (lone fr cs w) (lone fr' cs w') e ∧ fr'.fn = fr.fn ∧ fr'.leaving P w' e := by
 intro ds
 induction ds with
 | nil =>
   intro u w fr cs hu hd ht hf hk h
   cases u with
   | run => exact h.elim
   | returning =>
     obtain ⟨v, hr, hR⟩ := h
     exact ⟨.returned v, w, fr, hR, Steps.refl P _, rfl, hu, hd, hk, fn, hf, ht ▸ hr⟩
   | panicking chain => exact ⟨.panicked chain, w, fr, h, Steps.refl P _, rfl, hu, hd, fn, hf⟩
 | cons d ds ih =>
   intro u w fr cs hu hd ht hf hk h
   obtain ⟨hrun, h⟩ := h
   rcases h with ⟨r, w', htar, htake, hrest⟩ | ⟨fv, cap, f, args, htar, hinv, hcall⟩
   ·have h1 := step_collected (cs := cs) (hu ▸ hrun) hd htar htake
    obtain ⟨e', w'', fr', hR', hs', hfn', hl'⟩ := ih u w' { fr with defers := [] ++ ds } cs hu rfl ht hf hk hrest
    exact ⟨e', w'', fr', hR', Comes.of_steps (.one h1) hs', hfn', hl'⟩
   ·have h1 := step_defer (cs := cs) (hu ▸ hrun) hd htar hinv
    obtain ⟨e, u', w', frX, hR, hsteps, hkX, hgo⟩ := hcall { fr with defers := ds } cs hu
    cases e with
    | returned v =>
      have h2 := step_going_returned (c := { { fr with defers := ds } with mode := u' }) (cs := cs) hkX hgo
      obtain ⟨e', w'', fr', hR', hs', hfn', hl'⟩ := ih (_root_.Go.settle u') w' { { { fr with defers := ds } with mode := u' } with mode := _root_.Go.settle u' } cs rfl rfl ht hf hk hR
      exact ⟨e', w'', fr', hR', Comes.of_steps (.head h1 (Steps.trans hsteps (.one h2))) hs', hfn', hl'⟩
    | panicked chain =>
      have h2 := step_going_panicked (c := { { fr with defers := ds } with mode := u' }) (cs := cs) hgo
      obtain ⟨e', w'', fr', hR', hs', hfn', hl'⟩ := ih (_root_.Go.raised u' chain) w' { { { fr with defers := ds } with mode := u' } with mode := _root_.Go.raised u' chain } cs rfl rfl ht hf hk hR
      exact ⟨e', w'', fr', hR', Comes.of_steps (.head h1 (Steps.trans hsteps (.one h2))) hs', hfn', hl'⟩
    | outgrown => exact ⟨.outgrown, w', fr, hR, Outgrown.of_steps (.one h1) hsteps, rfl, trivial⟩
theorem afw {f : FuncId} {fn : Func} {c : Code} {args : Array Value} {u : FrameMode} {w : World} {R : Ending → FrameMode → World → Prop}
  (hf : PP.funcs[f]? = some fn) (hb : fn.body = some c)
  (h : ∀ (c₀ : Frame) (cs : List Frame), c₀.mode = u → WS true none f PP c (bodyPostS PP fn c₀ cs R) { tmps := args ++ Array.replicate (fn.ntmps - args.size) undef, defers := [] } (c₀ :: cs) w) :
  CallsD PP f args u w R := by
 intro c₀ cs hu
 let b : Frame := { (default : Frame) with fn := f, kind := .deferred, roundOf := none }
 have henter : Frame.enter PP f args .deferred = b.atR { tmps := args ++ Array.replicate (fn.ntmps - args.size) undef, defers := [] } [.code c] := by
  simp [Frame.enter, Frame.atR, hf, hb, b]
 obtain ⟨e, a', cs', w', hq, harr⟩ := h c₀ cs hu b [] rfl rfl rfl
 rw [← henter] at harr
 cases e with
 | normal =>
   obtain ⟨hd, u', rfl, v, hr, hR⟩ := hq
   exact ⟨.returned v, u', w', _, hR, Steps.trans harr (.one (stepR_end rfl)), rfl, rfl, hd, fn, hf, hr⟩
 | ret =>
   obtain ⟨hd, u', rfl, v, hr, hR⟩ := hq
   obtain ⟨k', hs⟩ := harr
   exact ⟨.returned v, u', w', _, hR, Steps.trans hs (.one (stepR_ret rfl)), rfl, rfl, hd, fn, hf, hr⟩
 | panic chain =>
   obtain ⟨hd, u', rfl, hR⟩ := hq
   obtain ⟨todo, hs⟩ := harr
   exact ⟨.panicked chain, u', w', _, hR, hs, rfl, rfl, hd, fn, hf⟩
 | exit id => exact hq.elim
 | goto l => exact hq.elim
 | outgrown => exact harr.elim
theorem aec {f : FuncId} {fn : Func} {c : Code} (h : pz f = some (fn, c)) : PP.funcs[f]? = some fn ∧ fn.body = some c ∧ fn.ntmps ≤ 512 := by
 unfold pz at h
 split at h
 ·rename_i fn' hf
  split at h
  ·rename_i c' hb
   rw [aa] at h
   split at h
   ·rename_i hn
    injection h with h; injection h with h1 h2; subst h1; subst h2
    exact ⟨aah hf, hb, zE hn⟩
   ·cases h
  ·cases h
 ·cases h
theorem amq (hg : GRel ρ) (hw : WRel ρ aw w) (hc : Clean ρ aw) {vs : List AV} {args : Array Value} (hv : VRels ρ vs args.toList) (hl : vs.length ≤ nt) (hn : nt ≤ 512) (hcs : CsRel ρ d c₀ cs₀ um cs) :
  SRel ρ nt d c₀ cs₀ (na vs 0 lr) [] um aw { tmps := args ++ Array.replicate (nt - args.size) undef, defers := [] } cs w := by
 refine ⟨hg, hw, hc, yh hv hl hn, ?_, hn, rfl, hcs⟩
 have hlen : args.size = vs.length := by have := VRels.length _ _ hv; simpa using this
 simp only [Array.size_append, Array.size_replicate]
 omega
theorem aj6 {ih : Ih} (hs : Sound ih) (hg : GRel ρ) (hw : WRel ρ aw w) (hc : Clean ρ aw) {f : FuncId} {fn : Func} {c : Code} (hin : InF f c) (hn : fn.ntmps ≤ 512) {vs : List AV} {args : Array Value} (hv : VRels ρ vs args.toList)
  (hcs : CsRel ρ d c₀ cs₀ um cs) (hr : (adf ih fn c f vs d um aw).ok) :
  WS d none f PP c (Post ρ aw w fn.ntmps d c₀ cs₀ (adf ih fn c f vs d um aw)) { tmps := args ++ Array.replicate (fn.ntmps - args.size) undef, defers := [] } cs w := by
 unfold adf at hr ⊢
 rw [aa] at hr ⊢
 split at hr
 ·rename_i hl
  rw [if_pos hl]
  rw [ao] at hl
  exact (hs.go c f fn.ntmps d none none ρ c₀ cs₀ _ _ _ _ _ _ _ (amq hg hw hc hv (zE hl) hn hcs) rfl (fun _ => hin) hr).1
 ·exact hr.elim
theorem ao6 {ih : Ih} (hs : Sound ih) (hg : GRel ρ) (hw : WRel ρ aw w) (hc : Clean ρ aw) {f : FuncId} {vs : List AV} {args : Array Value} (hv : VRels ρ vs args.toList) {u : FrameMode} (hu : URel ρ um u)
  (hr : (abp ih f vs um aw).ok) : CallsD PP f args u w (aq4 ρ aw w (abp ih f vs um aw)) := by
 unfold abp at hr ⊢
 cases hb : pz f with
 | none => rw [hb] at hr; exact hr.elim
 | some b =>
   obtain ⟨fn, c⟩ := b
   rw [hb] at hr
   dsimp only at hr ⊢
   obtain ⟨h1, h2, h3⟩ := aec hb
   refine afw h1 h2 fun c₀ cs hm => ?_
   have hcs : CsRel ρ true c₀ cs um (c₀ :: cs) := ⟨u, by rw [← hm], hu⟩
   generalize hst : adf ih fn c f vs true um aw = r at hr
   have hok : r.ok := by cases r <;> first | trivial | exact hr
   have key : WS true none f PP c (Post ρ aw w fn.ntmps true c₀ cs r) { tmps := args ++ Array.replicate (fn.ntmps - args.size) undef, defers := [] } (c₀ :: cs) w := by
    rw [← hst]
    exact aj6 hs hg hw hc ⟨fn, c, hb, .refl c⟩ h3 hv hcs (by rw [hst]; exact hok)
   refine qv key ?_
   have ends : ∀ (τ : F) (ds : List AD) (um' : UM) (aw' : W) (e : Exit) (a' : Act) (cs' : List Frame) (w' : World), e = .normal ∨ e = .ret →
     (yo fn (.n (.mk τ ds um' aw'))).ok → Aft ρ aw w fn.ntmps true c₀ cs (.mk τ ds um' aw') a' cs' w' → bodyPostS PP fn c₀ cs (aq4 ρ aw w (yo fn (.n (.mk τ ds um' aw')))) e a' cs' w' := by
    intro τ ds um' aw' e a' cs' w' he ho ⟨ρ', hA, hS⟩
    cases ds with
    | cons _ _ => exact ho.elim
    | nil =>
      have hd : a'.defers = [] := hS.dr
      obtain ⟨u', hcs', hu'⟩ := hS.um
      simp only [yo] at ho ⊢
      cases hres : results fn τ aw' with
      | ret v aw'' =>
        rw [hres] at ho
        obtain ⟨_, v', hv', _⟩ := ac7 hS.wr hS.fr hres
        rcases he with rfl | rfl <;> exact ⟨hd, u', hcs', v', hv', v', ρ', rfl, hu', hA⟩
      | pan _ _ => rw [hres] at ho; exact ho.elim
      | no _ _ => rw [hres] at ho; exact ho.elim
   intro e a' cs' w' hp
   cases r with
   | no => exact hp.elim
   | n S => obtain ⟨τ, ds, um', aw'⟩ := S; exact ends τ ds um' aw' e a' cs' w' (.inl hp.1) hr hp.2
   | r S =>
     obtain ⟨τ, ds, um', aw'⟩ := S
     have same : yo fn (.r (.mk τ ds um' aw')) = yo fn (.n (.mk τ ds um' aw')) := by cases ds <;> rfl
     rw [same] at hr ⊢
     exact ends τ ds um' aw' e a' cs' w' (.inr hp.1) hr hp.2
   | x id S => exact hr.elim
   | p ch S =>
     obtain ⟨τ, ds, um', aw'⟩ := S
     obtain ⟨ch', ρ', rfl, h1, hA, hS⟩ := hp
     cases ds with
     | cons _ _ => exact hr.elim
     | nil =>
       obtain ⟨u', hcs', hu'⟩ := hS.um
       exact ⟨hS.dr, u', hcs', ch', ρ', rfl, h1, hu', hA⟩
theorem ah1 {f : FuncId} {vs : List AV} {f2 : FuncId} {vs2 : List AV} {aw2 : W} (h : qf f vs aw = .call f2 vs2 aw2) :
  f2 = f ∧ vs2 = vs ∧ aw2 = aw ∧ ∀ (args : Array Value) (w : World), (callFunc f args).run PP w = .ok (.enter f args) w := by
 unfold qf at h
 split at h
 ·rename_i heq
  injection h with h1 h2 h3
  refine ⟨h1.symm, h2.symm, h3.symm, fun args w => ?_⟩
  unfold abw at heq
  split at heq
  ·rename_i fn hf
   have hf := aah hf
   simp only [aa] at heq
   split at heq
   ·cases heq
   rename_i hng
   have hng : fn.name ≠ "runtime.NumGoroutine" := by simpa using hng
   split at heq
   ·rename_i hb
    obtain ⟨c, hb⟩ := Option.isSome_iff_exists.1 hb
    simp [callFunc, hf, hng, hb]
   ·split at heq
    ·split at heq
     ·cases heq
     ·split at heq
      ·cases heq
      ·split at heq
       ·cases heq
       ·split at heq <;> cases heq
    ·cases heq
  ·cases heq
 ·split at h <;> cases h
 ·split at h <;> first | cases h | (rw [aa] at h; split at h <;> cases h)
 ·split at h
  ·unfold al6 at h
   split at h
   ·split at h
    ·split at h
     ·rw [aa] at h
      split at h
      ·obtain ⟨hh, nx⟩ := aw
       have h : bc nx.isMax (OR.no 1) (.val _ (.mk (bn nx _ hh) nx.succ)) = .call f2 vs2 aw2 := h
       rw [aa] at h
       split at h <;> cases h
      ·rw [aa] at h
       split at h
       ·obtain ⟨hh, nx⟩ := aw
        have h : bc nx.isMax (OR.no 1) (.val _ (.mk (bn nx _ hh) nx.succ)) = .call f2 vs2 aw2 := h
        rw [aa] at h
        split at h <;> cases h
       ·cases h
     ·cases h
    ·cases h
   ·cases h
  ·cases h
 ·split at h <;> first | cases h | (rw [aa] at h; split at h <;> cases h)
 ·unfold m0 at h
  split at h
  ·rw [aa] at h
   split at h
   ·split at h
    ·split at h
     ·rw [aa] at h
      split at h
      ·unfold ama at h
       split at h
       ·rw [aa] at h; split at h <;> cases h
       ·cases h
      ·cases h
     ·cases h
    ·cases h
   ·cases h
  ·cases h
theorem amp : ∀ (um : UM) (u : FrameMode), URel ρ um u → URel ρ (settle um) (_root_.Go.settle u)
 | .none, _, h => h.elim
 | .ret, _, h => by have h : _ = FrameMode.returning := h; subst h; rfl
 | .pan [], _, ⟨ch', h1, h2⟩ => by have h2 : ch' = [] := h2; subst h2; subst h1; exact ⟨[], rfl, rfl⟩
 | .pan (.mk v false :: ch), _, ⟨_, h1, v', c, h2, h3, h4⟩ => by subst h1; subst h2; exact ⟨_, rfl, v', c, rfl, h3, h4⟩
 | .pan (.mk v true :: ch), _, ⟨_, h1, v', c, h2, h3, h4⟩ => by
   subst h1; subst h2
   show _root_.Go.settle _ = .returning
   have drop : ∀ (ch : List PE) (c : List PanicEntry), ChRel ρ ch c → c.dropWhile (!·.goexit) = [] := by
    intro ch
    induction ch with
    | nil => intro c h; have h : c = [] := h; subst h; rfl
    | cons p ch ih =>
      intro c h
      obtain ⟨v, r⟩ := p
      obtain ⟨v', c', rfl, _, h⟩ := h
      simp only [List.dropWhile_cons, Bool.not_false, if_true]
      exact ih c' h
   simp only [_root_.Go.settle, drop ch c h4]
theorem amd {um : UM} {u : FrameMode} {ch : List PE} {ch' : List PanicEntry} (h : URel ρ um u) (hc : ChRel ρ ch ch') : URel ρ (raised um ch) (_root_.Go.raised u ch') := by
 cases um with
 | none => exact h.elim
 | ret => have h : u = .returning := h; subst h; exact ⟨ch', rfl, hc⟩
 | pan old => obtain ⟨o, rfl, ho⟩ := h; exact ⟨ch' ++ o, rfl, ChRel.append _ _ _ _ hc ho⟩
theorem URel.ne_run {um : UM} {u : FrameMode} (h : URel ρ um u) : u ≠ .run := by
 cases um with
 | none => exact h.elim
 | ret => have h : u = .returning := h; subst h; intro e; cases e
 | pan old => obtain ⟨o, rfl, ho⟩ := h; intro e; cases e
theorem po {ih : Ih} (hs : Sound ih) {fn : Func} (τ : F) (a : Act) : ∀ (ds : List AD) (ds' : List Deferred) (um : UM) (u : FrameMode) (ρ : Env) (aw : W) (w : World),
  GRel ρ → WRel ρ aw w → Clean ρ aw → FRel ρ τ a.tmps → DRels ρ ds ds' → URel ρ um u → (lz ih fn τ ds um aw).ok → li PP fn a.tmps (CPost ρ aw w (lz ih fn τ ds um aw)) ds' u w
 | [], ds', um, u, ρ, aw, w, hg, hw, hc, hf, hd, hu, hr => by
   have hd : ds' = [] := hd
   subst hd
   cases um with
   | none => exact hu.elim
   | ret =>
     have hu : u = .returning := hu
     subst hu
     simp only [lz] at hr ⊢
     cases hres : results fn τ aw with
     | ret v aw' =>
       obtain ⟨rfl, v', h1, h2⟩ := ac7 hw hf hres
       exact ⟨v', h1, v', ρ, rfl, h2, Adv.refl hw⟩
     | pan _ _ => unfold results at hres; split at hres <;> cases hres
     | no _ _ => rw [hres] at hr; exact hr.elim
   | pan ch =>
     obtain ⟨ch', rfl, h⟩ := hu
     exact ⟨ch', ρ, rfl, h, Adv.refl hw⟩
 | .coll b :: ds, ds', um, u, ρ, aw, w, hg, hw, hc, hf, hd, hu, hr => by
   obtain ⟨d', ds', rfl, ⟨c, hcb, rfl⟩, h2⟩ := hd
   simp only [lz] at hr ⊢
   cases hgb : bz b aw with
   | deferred l =>
     rw [hgb] at hr
     cases l with
     | none => exact hr.elim
     | some l =>
       cases l with
       | cons _ _ => exact hr.elim
       | nil =>
         dsimp only at hr ⊢
         have hne : bz b aw ≠ .none := by rw [hgb]; simp
         obtain ⟨c', hc', ho⟩ := hw.dom b (by rw [← ar]; exact hne)
         rw [hcb] at hc'; cases hc'
         rw [← ar, hgb] at ho
         have ho : w.heap[c]? = some (.deferred (some [])) := ho
         have hA : Adv ρ aw w ρ (wset b (.deferred none) aw) { w with heap := w.heap.setIfInBounds c (.deferred none) } :=
          gb (obj := .deferred none) hw hne (by rw [hgb]; rfl) hcb ho rfl (by simp) (by simp) (by rw [hgb]; rfl)
         refine ⟨hu.ne_run, .inl ⟨c, _, rfl, ?_, ga (fun e w hp => CPost.trans hA hp) _ _ _ (po hs τ a ds ds' um u ρ _ _ hg hA.rel (hc.adv hA) hf h2 hu hr)⟩⟩
         simp only [Instr.takeDeferred, zR, bt ho (by simp), zQ, ea ho (by simp), zT]
   | _ => rw [hgb] at hr; exact hr.elim
 | .call fv cap args :: ds, ds', um, u, ρ, aw, w, hg, hw, hc, hf, hd, hu, hr => by
   obtain ⟨d', ds', rfl, ⟨cap', args', rfl, hcap, hargs⟩, h2⟩ := hd
   cases fv with
   | func f =>
     simp only [lz] at hr ⊢
     cases hcf : qf f (args ++ cap) aw with
     | call f2 vs aw1 =>
       rw [hcf] at hr
       dsimp only at hr ⊢
       obtain ⟨rfl, rfl, rfl, hrun⟩ := ah1 hcf
       have hv2 : VRels ρ (args ++ cap) (args' ++ cap').toList := by simp only [Array.toList_append]; exact VRels.append _ _ _ _ hargs hcap
       refine ⟨hu.ne_run, .inr ⟨_, _, f2, args' ++ cap', rfl, hrun _ _, ?_⟩⟩
       generalize hed : abp ih f2 (args ++ cap) um aw1 = r at hr
       have hok : r.ok := by cases r <;> first | trivial | exact hr
       have hD : CallsD PP f2 (args' ++ cap') u w (aq4 ρ aw1 w r) := by
        rw [← hed]
        exact ao6 hs hg hw hc hv2 hu (by rw [hed]; exact hok)
       refine hD.mono ?_
       intro e u' w' hp
       cases r with
       | no => exact hp.elim
       | ret um' aw' =>
         obtain ⟨v', ρ', rfl, hu', hA'⟩ := hp
         have hAA := hA'
         refine ga ?_ _ _ _ (po hs τ a ds ds' (settle um') (_root_.Go.settle u') ρ' aw' w' (hg.mono hAA.le) hA'.rel (hc.adv hAA) (hf.mono hAA.le) (DRels.mono hAA.le _ _ h2) (amp _ _ hu') hr)
         exact fun e w hp => hp.trans hAA
       | pan ch um' aw' =>
         obtain ⟨ch', ρ', rfl, hch, hu', hA'⟩ := hp
         have hAA := hA'
         refine ga ?_ _ _ _ (po hs τ a ds ds' (raised um' ch) (_root_.Go.raised u' ch') ρ' aw' w' (hg.mono hAA.le) hA'.rel (hc.adv hAA) (hf.mono hAA.le) (DRels.mono hAA.le _ _ h2) (amd hu' hch) hr)
         exact fun e w hp => hp.trans hAA
     | _ => rw [hcf] at hr; exact hr.elim
   | _ => exact hr.elim
def ao1 (P : Program) (fn : Func) (R : Ending → World → Prop) : Exit → Act → World → Prop
 | .normal, a, w | .ret, a, w => li P fn a.tmps R a.defers .returning w
 | .panic chain, a, w => li P fn a.tmps R a.defers (.panicking chain) w
 | _, _, _ => False
theorem ao7 {ih : Ih} (hs : Sound ih) (hg : GRel ρ) (hw : WRel ρ aw w) (hc : Clean ρ aw) {f : FuncId} {vs : List AV} {args : Array Value} (hv : VRels ρ vs args.toList)
  (hr : (af4 ih f vs aw).ok) : Calls PP f args w (CPost ρ aw w (af4 ih f vs aw)) := by
 unfold af4 at hr ⊢
 cases hb : pz f with
 | none => rw [hb] at hr; exact hr.elim
 | some b =>
   obtain ⟨fn, c⟩ := b
   rw [hb] at hr
   dsimp only [ar9] at hr ⊢
   obtain ⟨h1, h2, h3⟩ := aec hb
   generalize hst : adf ih fn c f vs false .none aw = r at hr
   have hok : r.ok := by cases r <;> first | trivial | exact hr
   have key : ∀ cs, WS false none f PP c (Post ρ aw w fn.ntmps false default cs r) { tmps := args ++ Array.replicate (fn.ntmps - args.size) undef, defers := [] } cs w := by
    intro cs
    rw [← hst]
    exact aj6 hs hg hw hc ⟨fn, c, hb, .refl c⟩ h3 hv rfl (by rw [hst]; exact hok)
   have post : ∀ cs e a' cs' w', Post ρ aw w fn.ntmps false default cs r e a' cs' w' → cs' = cs ∧ ao1 PP fn (CPost ρ aw w (ayj ih fn r)) e a' w' := by
    intro cs e a' cs' w' hp
    have ends : ∀ (τ : F) (ds : List AD) (um' : UM) (aw' : W), (lz ih fn τ ds .ret aw').ok → Aft ρ aw w fn.ntmps false default cs (.mk τ ds um' aw') a' cs' w' →
      cs' = cs ∧ li PP fn a'.tmps (CPost ρ aw w (lz ih fn τ ds .ret aw')) a'.defers .returning w' := by
     intro τ ds um' aw' ho ⟨ρ', hA, hS⟩
     refine ⟨hS.um, ga (fun e w hp => CPost.trans hA hp) _ _ _ (po hs τ a' ds a'.defers .ret .returning ρ' aw' w' hS.g hS.wr hS.cl hS.fr hS.dr rfl ho)⟩
    cases r with
    | no => exact hp.elim
    | n S => obtain ⟨τ, ds, um', aw'⟩ := S; obtain ⟨rfl, hp⟩ := hp; exact ends τ ds um' aw' hr hp
    | r S => obtain ⟨τ, ds, um', aw'⟩ := S; obtain ⟨rfl, hp⟩ := hp; exact ends τ ds um' aw' hr hp
    | x id S => exact hr.elim
    | p ch S =>
      obtain ⟨τ, ds, um', aw'⟩ := S
      obtain ⟨ch', ρ', rfl, hch, hA, hS⟩ := hp
      exact ⟨hS.um, ga (fun e w hp => CPost.trans hA hp) _ _ _ (po hs τ a' ds a'.defers (.pan ch) (.panicking ch') ρ' aw' w' hS.g hS.wr hS.cl hS.fr hS.dr ⟨ch', rfl, hch⟩ hr)⟩
   intro cs
   let b : Frame := { (default : Frame) with fn := f, kind := .normal, roundOf := none }
   have henter : Frame.enter PP f args .normal = b.atR { tmps := args ++ Array.replicate (fn.ntmps - args.size) undef, defers := [] } [.code c] := by
    simp [Frame.enter, Frame.atR, h1, h2, b]
   obtain ⟨e, a', cs', w', hq, harr⟩ := key cs b [] rfl rfl rfl
   rw [← henter] at harr
   have hq2 := post cs e a' cs' w' hq
   clear hq
   obtain ⟨rfl, hq⟩ := hq2
   cases e with
   | normal =>
     obtain ⟨e', w'', fr', hR, hs, hfn, hl⟩ := og a'.defers .returning w' { b.atR a' [] with mode := .returning } cs' rfl rfl rfl h1 rfl hq
     exact ⟨e', w'', fr', hR, Comes.of_steps (Steps.trans harr (.one (stepR_end rfl))) hs, hfn, hl⟩
   | ret =>
     obtain ⟨k', hs₀⟩ := harr
     obtain ⟨e', w'', fr', hR, hs, hfn, hl⟩ := og a'.defers .returning w' { b.atR a' (.code .ret :: k') with mode := .returning } cs' rfl rfl rfl h1 rfl hq
     exact ⟨e', w'', fr', hR, Comes.of_steps (Steps.trans hs₀ (.one (stepR_ret rfl))) hs, hfn, hl⟩
   | panic chain =>
     obtain ⟨todo, hs₀⟩ := harr
     obtain ⟨e', w'', fr', hR, hs, hfn, hl⟩ := og a'.defers (.panicking chain) w' { b.atR a' todo with mode := .panicking chain } cs' rfl rfl rfl h1 rfl hq
     exact ⟨e', w'', fr', hR, Comes.of_steps hs₀ hs, hfn, hl⟩
   | exit id => exact hq.elim
   | goto l => exact hq.elim
   | outgrown => exact harr.elim
theorem vm (hw : WRel ρ aw w) {w' : World} (h : KeptW w w') : Adv ρ aw w ρ aw w' := by
 have lt : ∀ k, ac k aw.h ≠ .none → ∀ c, ρ k = some c → c < w.heap.size := by
  intro k hk c hc
  obtain ⟨d, h1, h2⟩ := hw.dom k hk
  rw [hc] at h1; cases h1
  obtain ⟨y, hy⟩ := h2.some hk
  exact (zI.1 hy).1
 refine ⟨⟨hw.inj, ?_, ?_, fun k kd g hk => let q := hw.gho k kd g hk; q.step rfl rfl h.size (fun c hc => h.heap c (q.lt c hc)) q.sep q.dis⟩, Env.le_refl ρ, fun _ => .inl rfl, zY _, h.size, fun _ h => .inl h, fun k _ h e => .inl ⟨k, h, e⟩, fun c hc _ => h.heap c hc, fun _ _ h => ⟨rfl, h⟩, h.os, h.tape, h.output⟩
 ·intro k hk
  obtain ⟨c, h1, h2⟩ := hw.dom k hk
  exact ⟨c, h1, by rw [h.heap c (lt k hk c h1)]; exact h2⟩
 ·intro k c arr t fz hk hc hx
  rw [h.heap c (lt k hk c hc)] at hx
  exact hw.len k c arr t fz hk hc hx
theorem ajz {a b : Bool} (h : ur a b = true) : a = b := by cases a <;> cases b <;> first | rfl | cases h
theorem ja : ∀ (l m : List SA), ly l m = true → l = m
 | [], [], _ => rfl
 | [], _ :: _, h => by cases h
 | _ :: _, [], h => by cases h
 | .mk lt a b r :: l, .mk lt' a' b' r' :: m, h => by
   simp only [ly] at h
   obtain ⟨h1, h⟩ := bc_and.1 h
   obtain ⟨h2, h⟩ := bc_and.1 h
   obtain ⟨h3, h⟩ := bc_and.1 h
   obtain ⟨h4, h⟩ := bc_and.1 h
   rw [ajz h1, av _ _ h2, av _ _ h3, ajz h4, ja l m h]
theorem ae5 : ∀ (l m : List (Nat × Nat)), ag1 l m = true → l = m
 | [], [], _ => rfl
 | [], _ :: _, h => by cases h
 | _ :: _, [], h => by cases h
 | p :: l, q :: m, h => by
   simp only [ag1] at h
   obtain ⟨h1, h⟩ := bc_and.1 h
   obtain ⟨h2, h3⟩ := bc_and.1 h
   rw [show p = q from Prod.ext (zW h1) (zW h2), ae5 l m h3]
theorem aps {x y : GV} (h : alv x y = true) : x = y := by
 cases x <;> cases y <;> simp only [alv, zF] at h
 ·obtain ⟨h1, h2⟩ := bc_and.1 h
  rw [bw _ _ h1, ja _ _ h2]
 ·obtain ⟨h1, h⟩ := bc_and.1 h
  obtain ⟨h2, h⟩ := bc_and.1 h
  obtain ⟨h3, h4⟩ := bc_and.1 h
  rw [(K.beq_iff _ _).1 h1, zW h2, av _ _ h3, ja _ _ h4]
 ·obtain ⟨h1, h⟩ := bc_and.1 h
  obtain ⟨h2, h⟩ := bc_and.1 h
  obtain ⟨h3, h⟩ := bc_and.1 h
  obtain ⟨h4, h5⟩ := bc_and.1 h
  rw [(K.beq_iff _ _).1 h1, zW h2, av _ _ h3, zW h4, ja _ _ h5]
 all_goals
  obtain ⟨h1, h⟩ := bc_and.1 h
  obtain ⟨h2, h⟩ := bc_and.1 h
  obtain ⟨h3, h4⟩ := bc_and.1 h
  rw [(K.beq_iff _ _).1 h1, av _ _ h2, av _ _ h3, ja _ _ h4]
theorem ajy (x y : AV) (h : aog x y = true) : x = y := by
 unfold aog at h
 split at h
 ·rename_i a b; cases a <;> cases b <;> first | rfl | cases h
 ·rename_i k m l n
  rw [aa] at h
  split at h
  ·rename_i hk
   have e1 : k = l := by cases k <;> cases l <;> first | rfl | cases hk
   have e2 : m = n := by
    cases m <;> cases n <;> first | (cases h; done) | (have h : Nat.beq _ _ = true := h; rw [zW h])
   rw [e1, e2]
  ·cases h
 ·rw [sEq, aa] at h
  split at h
  ·rename_i h1; rw [zW h1, zW h]
  ·cases h
 ·rfl
 ·rw [aa] at h
  split at h
  ·rename_i h1; rw [(K.beq_iff _ _).1 h1, zW h]
  ·cases h
 ·rfl
 ·simp only [aa] at h
  split at h
  ·rename_i h1
   split at h
   ·rename_i h2
    split at h
    ·rename_i h3
     rw [(K.beq_iff _ _).1 h1, zW h2, zW h3, zW h]
    ·cases h
   ·cases h
  ·cases h
 ·simp only [aa] at h
  split at h
  ·rename_i h1
   split at h
   ·rename_i h2
    split at h
    ·rename_i h3
     split at h
     ·rename_i h4
      rw [(K.beq_iff _ _).1 h1, zW h2, zW h3, zW h4, zW h]
     ·cases h
    ·cases h
   ·cases h
  ·cases h
 ·rfl
 ·rw [(K.beq_iff _ _).1 h]
 ·rfl
 ·rfl
 ·rw [(K.beq_iff _ _).1 h]
 ·obtain ⟨h1, h⟩ := bc_and.1 h
  obtain ⟨h2, h3⟩ := bc_and.1 h
  rw [(cq _ _).1 h1, av _ _ h2, ja _ _ h3]
 ·obtain ⟨h1, h⟩ := bc_and.1 h
  obtain ⟨h2, h3⟩ := bc_and.1 h
  rw [zW h1, av _ _ h2, ae5 _ _ h3]
 ·rw [aps h]
 ·simp only [aa] at h
  split at h
  ·rename_i h1
   split at h
   ·rename_i h2
    split at h
    ·rename_i h3
     rw [(K.beq_iff _ _).1 h1, (K.beq_iff _ _).1 h2, zW h3, zW h]
    ·cases h
   ·cases h
  ·cases h
 ·simp only [aa] at h
  split at h
  ·rename_i h1
   split at h
   ·rename_i h2
    rw [(K.beq_iff _ _).1 h1, (K.beq_iff _ _).1 h2, zW h]
   ·cases h
  ·cases h
 ·rfl
 ·rfl
 ·cases h
theorem pf {f : AV → AV → Bool} (hf : ∀ a b, f a b = true → a = b) : ∀ l m, va f l m = true → l = m
 | [], [], _ => rfl
 | [], _ :: _, h => by cases h
 | _ :: _, [], h => by cases h
 | a :: l, b :: m, h => by
   simp only [va] at h
   obtain ⟨h1, h2⟩ := bc_and.1 h
   rw [hf a b h1, pf hf l m h2]
theorem anq {f g : Fn} (h : a03 f g = true) : f = g := by
 unfold a03 at h
 split at h
 ·rw [zW h]
 ·rw [zW h]
 ·exact Bool.noConfusion h
theorem aad : ∀ n a b, adz n a b = true → a = b
 | 0, _, _, h => by cases h
 | n + 1, a, b, h => by
   have ih := aad n
   unfold adz at h
   split at h
   ·rw [pf ih _ _ h]
   ·rw [pf ih _ _ h]
   ·obtain ⟨h1, h2⟩ := bc_and.1 h
    rw [zW h1, ih _ _ h2]
   ·obtain ⟨h1, h⟩ := bc_and.1 h
    obtain ⟨h2, h3⟩ := bc_and.1 h
    rw [anq h1, pf ih _ _ h2, pf ih _ _ h3]
   ·exact ajy _ _ h
theorem azr (x y : AV) (h : a4a x y = true) : x = y := aad 8 x y h
theorem ash {v : AV} (h : a48 v = true) {ρ ρ' : Env} {x : Value} (hv : VRel ρ v x) : VRel ρ' v x := by
 cases v <;> first | (cases h; done) | (simp only [VRel] at hv ⊢; exact hv)
theorem ai2 (hf : ∀ g cs, LE.mk g cs ∈ laidL → g ≤ 255) (hg : GRel ρ) (hw : WRel ρ aw w) : ∀ (l : List LE), (∀ x ∈ l, x ∈ laidL) → nc l aw = true → LaidIn l w
 | [], _, _ => fun _ _ h => by cases h
 | .mk g cs :: l, hs, h => by
   simp only [nc] at h
   split at h
   ·rename_i t size c ac
    obtain ⟨h1, h2⟩ := bc_and.1 h
    have h1 : t = g + 1 := zW h1
    have ih := ai2 hf hg hw l (fun x hx => hs x (zA _ hx)) h2
    intro g' cs' hm
    rcases List.mem_cons.1 hm with e | e
    ·injection e with e1 e2
     subst e1 e2
     have hm' := hs _ (List.mem_cons_self ..)
     rw [ar] at ac
     obtain ⟨k, hk, ho⟩ := hw.dom (K.of g') (by rw [ac]; simp)
     rw [hg g' (hf g' cs' hm')] at hk
     injection hk with hk
     subst hk
     rw [ac] at ho
     obtain ⟨arr, t', fz, e1, e2, e3, e4, e5⟩ := ho
     exact ⟨arr, t', fz, e1, fun ρ' => e5 g' cs' h1 hm' ρ'⟩
    ·exact ih g' cs' e
   ·cases h
theorem an2 : ∀ l, pe l = true → ∀ g cs, LE.mk g cs ∈ l → g ≤ 255
 | [], _, _, _, h => by cases h
 | .mk g cs :: l, h, g', cs', hm => by
   simp only [pe] at h
   obtain ⟨h1, h2⟩ := bc_and.1 h
   simp only [zU] at h1
   rcases List.mem_cons.1 hm with e | e
   ·injection e with e1 e2
    subst e1 e2
    exact zE h1.1.1
   ·exact an2 l h2 g' cs' e
theorem an3 (hg : GRel ρ) (hw : WRel ρ aw w) (h : nc laidL aw = true) : LaidIn laidL w := ai2 (an2 laidL (by kernel_rfl)) hg hw laidL (fun _ h => h) h
theorem oz {ih : Ih} (hs : Sound ih) (hg : GRel ρ) (hw : WRel ρ aw w) (hc : Clean ρ aw) {f : FuncId} {vs : List AV} {args : Array Value} (hv : VRels ρ vs args.toList)
  (hr : (enter ih f vs aw).ok) : Calls PP f args w (CPost ρ aw w (enter ih f vs aw)) := by
 unfold enter at hr ⊢
 cases hh : ih.hook f vs aw with
 | none =>
   rw [hh] at hr
   exact ao7 hs hg hw hc hv hr
 | some r =>
   rw [hh] at hr
   exact hs.hook f vs aw r hh hr ρ args w hg hw hc hv
end
end Go.Ev
set_option linter.all false
namespace Go.Ev
variable [Gv]
section
variable {ρ : Env} {aw : W} {w : World}
theorem aep {nt : Nat} (hn : nt ≤ 512) : ∀ (ps : List Nat) (vs : List AV) (args : List Value) (τ : F) (tmps : Array Value), VRels ρ vs args → ps.length = vs.length → FRel ρ τ tmps → tmps.size = nt →
  FRel ρ (uq nt ps vs τ) ((ps.zip args).foldl (fun t p => t.setIfInBounds p.1 p.2) tmps) ∧ ((ps.zip args).foldl (fun t p => t.setIfInBounds p.1 p.2) tmps).size = nt
 | [], [], args, τ, tmps, hv, _, hf, hs => by simpa [uq] using ⟨hf, hs⟩
 | [], _ :: _, _, _, _, _, h, _, _ => by simp at h
 | _ :: _, [], _, _, _, _, h, _, _ => by simp at h
 | t :: ps, v :: vs, args, τ, tmps, hv, h, hf, hs => by
   simp only [VRels] at hv
   obtain ⟨x, xs, rfl, hx, hxs⟩ := hv
   simp only [List.zip_cons_cons, List.foldl_cons, uq]
   exact aep hn ps vs xs _ _ hxs (by simpa using h) (aeo hf hs hn hx t) (by simpa using hs)
theorem xf (hw : WRel ρ aw w) {b : K} {c : Nat} (hc : ρ b = some c) {st : LoopState} {pend : Option Code} {fn nt : Nat} {τ : F} {ps : List Nat} {x y : Code} {kd : K} (hg : bz b aw = .loop st pend fn nt τ ps x y kd) :
  ∃ tmps cd, w.heap[c]? = some (.loop { state := st, pending := pend, fn, tmps, params := ps.toArray, assign := x, body := y, defers := cd }) ∧ ρ kd = some cd ∧ tmps.size = nt ∧ nt ≤ 512 ∧ FRel ρ τ tmps ∧ ∃ g, InF fn (.rangeFunc g ps.toArray x y) := by
 obtain ⟨c', h1, h2⟩ := hw.dom b (by rw [← ar, hg]; simp)
 rw [hc] at h1; cases h1
 rw [← ar, hg] at h2
 exact h2
theorem acg (hw : WRel ρ aw w) {b : K} {c : Nat} (hc : ρ b = some c) {st st' : LoopState} {pend pend' : Option Code} {fn nt : Nat} {τ : F} {ps : List Nat} {x y : Code} {kd : K} (hg : bz b aw = .loop st pend fn nt τ ps x y kd)
  {tmps : Array Value} {cd : Nat} (h1 : w.heap[c]? = some (.loop { state := st, pending := pend, fn, tmps, params := ps.toArray, assign := x, body := y, defers := cd })) (h2 : ρ kd = some cd) (h3 : tmps.size = nt) (h4 : nt ≤ 512) (h5 : FRel ρ τ tmps ∧ ∃ g, InF fn (.rangeFunc g ps.toArray x y)) :
  Adv ρ aw w ρ (wset b (.loop st' pend' fn nt τ ps x y kd) aw) { w with heap := w.heap.setIfInBounds c (.loop { state := st', pending := pend', fn, tmps, params := ps.toArray, assign := x, body := y, defers := cd }) } :=
 gb (obj := .loop { state := st', pending := pend', fn, tmps, params := ps.toArray, assign := x, body := y, defers := cd }) hw (by rw [hg]; simp) (by rw [hg]; rfl) hc h1 ⟨tmps, cd, rfl, h2, h3, h4, h5.1, h5.2⟩ (by simp) (by simp) (by rw [hg]; rfl)
theorem af3 (hw : WRel ρ aw w) {b : K} {c : Nat} (hc : ρ b = some c) {jump : Option Code} {v : AV} {aw' : W} (h : abo b jump (if jump.isNone then .ready else .done) jump.isNone aw = .ret v aw') :
  v = .bool jump.isNone ∧ ∃ w', (Instr.endRound c jump).run PP w = .ok (.bool jump.isNone) w' ∧ Adv ρ aw w ρ aw' w' := by
 unfold abo at h
 split at h
 ·rename_i st pend fn nt τ ps x y kd hg
  injection h with e1 e2
  subst e1; subst e2
  obtain ⟨tmps, cd, h1, h2, h3, h4, h5⟩ := xf hw hc hg
  refine ⟨rfl, _, ?_, acg hw hc hg h1 h2 h3 h4 h5⟩
  simp only [Instr.endRound, Instr.getLoop, zR, bt h1 (by simp), zQ, zT, ea h1 (by simp)]
 ·cases h
theorem aq2 {ih : Ih} (hs : Sound ih) (hg : GRel ρ) (hw : WRel ρ aw w) (hcl : Clean ρ aw) {b : K} {c : Nat} (hc : ρ b = some c) {vs : List AV} {args : Array Value} (hv : VRels ρ vs args.toList) (hr : (sy ih b vs aw).ok) :
  ∃ f tmps x y, (Instr.yield c args).run PP w = .ok (.round c f tmps x y) w ∧ RoundC PP c f tmps x y w (CPost ρ aw w (sy ih b vs aw)) := by
 unfold sy at hr ⊢
 cases hgb : bz b aw with
 | loop st pend fn nt τ ps x y kd =>
   rw [hgb] at hr
   dsimp only at hr ⊢
   cases hl : Nat.beq (bl ps) (bl vs) with
   | false => rw [hl] at hr; exact hr.elim
   | true =>
     rw [hl] at hr
     have hr : (aho ih b fn nt y (ih x (.mk fn nt false (some b)) (.mk (uq nt ps vs τ) [] .none aw))).ok := hr
     have hlen : ps.length = vs.length := by have := zW hl; rw [ao, ao] at this; exact this
     obtain ⟨tmps, cd, h1, h2, h3, h4, h5⟩ := xf hw hc hgb
     have hargs : args.size = vs.length := by have := VRels.length _ _ hv; simpa using this
     have hfold : (ps.toArray.zip args).foldl (fun t (p : Nat × Value) => t.setIfInBounds p.1 p.2) tmps = (ps.zip args.toList).foldl (fun t p => t.setIfInBounds p.1 p.2) tmps := by
      rw [← Array.foldl_toList, Array.toList_zip]
     obtain ⟨hf, hsz⟩ := aep h4 ps vs args.toList τ tmps hv hlen h5.1 h3
     refine ⟨fn, (ps.zip args.toList).foldl (fun t p => t.setIfInBounds p.1 p.2) tmps, x, y, ?_, ?_⟩
     ·simp only [Instr.yield, Instr.getLoop, zR, bt h1 (by simp), zQ, zT]
      rw [if_neg (by simp; omega)]
      simp only [zT]
      rw [← hfold]
     show RoundC PP c fn _ x y w (CPost ρ aw w (aho ih b fn nt y (ih x (.mk fn nt false (some b)) (.mk (uq nt ps vs τ) [] .none aw))))
     intro cf cs
     let b' : Frame := { (default : Frame) with fn := fn, kind := .normal, roundOf := some c }
     have hround : Frame.round c fn ((ps.zip args.toList).foldl (fun t p => t.setIfInBounds p.1 p.2) tmps) x y .normal = b'.atR { tmps := (ps.zip args.toList).foldl (fun t p => t.setIfInBounds p.1 p.2) tmps, defers := [] } [.code x, .beginRound, .code y] := rfl
     have hS : SRel ρ nt false default (cf :: cs) (uq nt ps vs τ) [] .none aw { tmps := (ps.zip args.toList).foldl (fun t p => t.setIfInBounds p.1 p.2) tmps, defers := [] } (cf :: cs) w := ⟨hg, hw, hcl, hf, hsz, h4, rfl, rfl⟩
     have hx := hs.go x fn nt false (some b) (some c) ρ default (cf :: cs) (uq nt ps vs τ) [] .none aw _ (cf :: cs) w hS ⟨c, hc, rfl⟩ (fun h => by cases h)
     generalize ih x (.mk fn nt false (some b)) (.mk (uq nt ps vs τ) [] .none aw) = r1 at hr hx
     cases r1 with
     | no => exact hr.elim
     | x => exact hr.elim
     | r => exact hr.elim
     | p => exact hr.elim
     | n S1 =>
       obtain ⟨τ1, ds1, um1, aw1⟩ := S1
       cases ds1 with
       | cons _ _ => exact hr.elim
       | nil =>
         obtain ⟨e, a1, cs1, w1, ⟨rfl, ρ1, hA1, hS1⟩, harr⟩ := (hx trivial).1 b' [.beginRound, .code y] rfl rfl rfl
         have hcs1 : cs1 = cf :: cs := hS1.um
         subst hcs1
         simp only [aho] at hr ⊢
         cases hg1 : bz b aw1 with
         | loop st1 pend1 fn1 nt1 τ1' ps1 x1 y1 kd1 =>
           rw [hg1] at hr
           cases st1 <;> try exact hr.elim
           dsimp only at hr ⊢
           have hc1 : ρ1 b = some c := (hA1.le _ _ hc).1
           obtain ⟨tmps1, cd1, q1, q2, q3, q4, q5⟩ := xf hS1.wr hc1 hg1
           have hA2 := acg (st' := .busy) (pend' := pend1) hS1.wr hc1 hg1 q1 q2 q3 q4 q5
           have hbegin : (Instr.beginRound c).run PP w1 = .ok () { w1 with heap := w1.heap.setIfInBounds c (.loop { state := .busy, pending := pend1, fn := fn1, tmps := tmps1, params := ps1.toArray, assign := x1, body := y1, defers := cd1 }) } := by
            simp only [Instr.beginRound, Instr.getLoop, zR, bt q1 (by simp), zQ, zT, ea q1 (by simp)]
           generalize hw2 : ({ w1 with heap := w1.heap.setIfInBounds c (.loop { state := .busy, pending := pend1, fn := fn1, tmps := tmps1, params := ps1.toArray, assign := x1, body := y1, defers := cd1 }) } : World) = w2 at hA2 hbegin
           have hsteps : Steps PP (lone (Frame.round c fn ((ps.zip args.toList).foldl (fun t p => t.setIfInBounds p.1 p.2) tmps) x y .normal) (cf :: cs) w) (lone (b'.atR a1 [.code y]) (cf :: cs) w2) := by
            rw [hround]
            exact Steps.trans harr (.one (stepR_beginRound rfl hbegin))
           have hS2 := hS1.adv hA2
           have hy := hs.go y fn nt false (some b) (some c) ρ1 default (cf :: cs) τ1 [] um1 _ a1 (cf :: cs) w2 hS2 ⟨c, hc1, rfl⟩ (fun h => by cases h)
           generalize ih y (.mk fn nt false (some b)) (.mk τ1 [] um1 (wset b (.loop .busy pend1 fn1 nt1 τ1' ps1 x1 y1 kd1) aw1)) = r2 at hr hy
           have hAA := hA1.trans hA2
           cases r2 with
           | no => exact hr.elim
           | n S3 =>
             obtain ⟨τ3, ds3, um3, aw3⟩ := S3
             cases ds3 with
             | cons _ _ => exact hr.elim
             | nil =>
               obtain ⟨e, a3, cs3, w3, ⟨rfl, ρ3, hA3, hS3⟩, harr3⟩ := (hy trivial).1 b' [] rfl rfl rfl
               have hcs3 : cs3 = cf :: cs := hS3.um
               subst hcs3
               simp only [adw] at hr ⊢
               cases he : abo b none .ready true aw3 with
               | ret v aw4 =>
                 obtain ⟨rfl, w4, hrun, hA4⟩ := af3 (jump := none) hS3.wr (hA3.le _ _ hc1).1 he
                 exact ⟨.returned (.bool true), w4, ⟨_, ρ3, rfl, by simp only [VRel]; rfl, hAA.trans (hA3.trans hA4)⟩, Steps.trans hsteps (Steps.trans harr3 (.one (stepR_round_end rfl rfl hrun)))⟩
               | pan _ _ => unfold abo at he; split at he <;> cases he
               | no _ _ => rw [he] at hr; exact hr.elim
           | x id S3 =>
             obtain ⟨τ3, ds3, um3, aw3⟩ := S3
             cases ds3 with
             | cons _ _ => exact hr.elim
             | nil =>
               obtain ⟨e, a3, cs3, w3, ⟨rfl, ρ3, hA3, hS3⟩, harr3⟩ := (hy trivial).1 b' [] rfl rfl rfl
               have hcs3 : cs3 = cf :: cs := hS3.um
               subst hcs3
               simp only [adw] at hr ⊢
               obtain ⟨k', hk', hst⟩ := harr3.2 rfl
               cases he : abo b (some (.exit id)) .done false aw3 with
               | ret v aw4 =>
                 obtain ⟨rfl, w4, hrun, hA4⟩ := af3 (jump := some (.exit id)) hS3.wr (hA3.le _ _ hc1).1 he
                 exact ⟨.returned (.bool false), w4, ⟨_, ρ3, rfl, by simp only [VRel]; rfl, hAA.trans (hA3.trans hA4)⟩, Steps.trans hsteps (Steps.trans hst (.one (stepR_round_exit rfl rfl hk' hrun)))⟩
               | pan _ _ => unfold abo at he; split at he <;> cases he
               | no _ _ => rw [he] at hr; exact hr.elim
           | r S3 =>
             obtain ⟨τ3, ds3, um3, aw3⟩ := S3
             cases ds3 with
             | cons _ _ => exact hr.elim
             | nil =>
               obtain ⟨e, a3, cs3, w3, ⟨rfl, ρ3, hA3, hS3⟩, harr3⟩ := (hy trivial).1 b' [] rfl rfl rfl
               have hcs3 : cs3 = cf :: cs := hS3.um
               subst hcs3
               simp only [adw] at hr ⊢
               obtain ⟨k', hst⟩ := harr3
               cases he : abo b (some .ret) .done false aw3 with
               | ret v aw4 =>
                 obtain ⟨rfl, w4, hrun, hA4⟩ := af3 (jump := some .ret) hS3.wr (hA3.le _ _ hc1).1 he
                 exact ⟨.returned (.bool false), w4, ⟨_, ρ3, rfl, by simp only [VRel]; rfl, hAA.trans (hA3.trans hA4)⟩, Steps.trans hsteps (Steps.trans hst (.one (stepR_round_ret rfl rfl hrun)))⟩
               | pan _ _ => unfold abo at he; split at he <;> cases he
               | no _ _ => rw [he] at hr; exact hr.elim
           | p ch S3 =>
             obtain ⟨τ3, ds3, um3, aw3⟩ := S3
             cases ds3 with
             | cons _ _ => exact hr.elim
             | nil =>
               obtain ⟨e, a3, cs3, w3, ⟨ch', ρ3, rfl, hch, hA3, hS3⟩, todo, hst⟩ := (hy trivial).1 b' [] rfl rfl rfl
               have hcs3 : cs3 = cf :: cs := hS3.um
               subst hcs3
               simp only [adw] at hr ⊢
               cases hfn : ad4 fn with
               | none => rw [hfn] at hr; exact hr.elim
               | some fnn =>
                 refine ⟨.panicked ch', w3, ⟨ch', ρ3, rfl, hch, hAA.trans hA3⟩, Steps.trans hsteps (Steps.trans hst (.one (step_leave_panicked ⟨rfl, hS3.dr, fnn, aah hfn⟩)))⟩
         | _ => rw [hg1] at hr; exact hr.elim
 | _ => rw [hgb] at hr; exact hr.elim
end
end Go.Ev
set_option linter.all false
namespace Go.Ev
variable [Gv]
section
variable {ρ : Env} {nt : Nat} {d : Bool} {rk : Option K} {ro : Option Nat} {c₀ : Frame} {cs₀ : List Frame} {τ : F} {ds : List AD} {um : UM} {aw : W} {a : Act} {cs : List Frame} {w : World}
theorem aqo {P : Program} {o : Oper} {a : Act} {next next' : Act → World → Prop} {Q Q' : Exit → Act → World → Prop} (h : ∀ a w, next a w → next' a w) (hq : ∀ e a w, Q e a w → Q' e a w) {r : Result Next}
  (hr : o.upon P a next Q r) : o.upon P a next' Q' r := by
 cases r with
 | ok n w' =>
   cases n <;> simp only [Oper.upon] at hr ⊢
   case enter f args =>
    refine Calls.mono hr fun e w'' he => ?_
    cases e with
    | returned v => exact h _ _ he
    | panicked c => exact hq _ _ _ he
    | outgrown => obtain ⟨a, w, he⟩ := he; exact ⟨a, w, hq _ _ _ he⟩
   case row row args => exact Rows.mono hr fun v w'' he => h _ _ he
   all_goals exact h _ _ hr
 | halt x w' => cases x <;> simp only [Oper.upon] at hr ⊢; exact hq _ _ _ hr
theorem am0 {P : Program} {o : Oper} {a : Act} {cs : List Frame} {K K' : Act → List Frame → World → Prop} {Q Q' : Exit → Act → List Frame → World → Prop} (hk : ∀ a cs w, K a cs w → K' a cs w) (hq : ∀ e a cs w, Q e a cs w → Q' e a cs w) {r : Result Next}
  (h : vl d ro P o a cs K Q r) : vl d ro P o a cs K' Q' r := by
 unfold vl at h ⊢
 split
 ·dsimp only at h
  cases ro with
  | some l' => exact h.elim
  | none =>
    dsimp only at h ⊢
    split
    ·rename_i v cs' hrec; simp only [hrec] at h; exact hk _ _ _ h
    ·rename_i hrec; simp only [hrec] at h; exact hk _ _ _ h
 ·refine RoundC.mono h fun e w'' he => ?_
  cases e with
  | returned v => exact hk _ _ _ he
  | panicked ch => exact hq _ _ _ _ he
  | outgrown => exact he
 ·rename_i r hnot hnot2
  split at h
  ·rename_i w'; exact absurd rfl (hnot w')
  ·rename_i l' f tmps x y w'; exact absurd rfl (hnot2 l' f tmps x y w')
  ·exact aqo (fun a w => hk a cs w) (fun e a w he => ⟨he.1, hq e a cs w he.2⟩) h
theorem uf {P : Program} {ops : Array Oper} {Q Q' : Exit → Act → List Frame → World → Prop} (hq : ∀ e a cs w, Q e a cs w → Q' e a cs w) : ∀ (l : List Nat) (a : Act) (cs : List Frame) (w : World), iq d ro P ops Q l a cs w → iq d ro P ops Q' l a cs w
 | [], _, _, _, h => hq _ _ _ _ h
 | i :: l, a, cs, w, h => by
   simp only [iq] at h ⊢
   split
   ·rename_i ho; simp only [ho] at h; exact uf hq l _ _ _ h
   ·rename_i o ho
    simp only [ho] at h
    split
    ·rename_i hw
     simp only [hw, if_true] at h
     exact am0 (uf hq l) hq h
    ·rename_i hw
     simp only [hw] at h
     exact uf hq l _ _ _ h
theorem adn {ops : Array Oper} {o : Oper} {g : Nat × Bool} (hg : o.guard = some g) (hf : FRel ρ τ a.tmps) {b : Bool} (h : jz g ops.toList τ = some b) : Region.wanted o (yielded ops a.tmps) = b := by
 obtain ⟨j, want⟩ := g
 unfold jz at h
 rw [oh] at h
 simp only [Array.getElem?_toList] at h
 unfold Region.wanted yielded
 simp only [hg]
 cases hd : (ops[j]?).bind (·.dst) with
 | none => rw [hd] at h; cases h
 | some t =>
   rw [hd] at h
   dsimp only at h ⊢
   simp only [Option.bind_some]
   have ht := hf t
   rw [Array.getD_eq_getD_getElem?] at ht
   split at h
   ·rename_i b' hb
    rw [hb] at ht
    simp only [VRel] at ht
    injection h with h
    subst h
    cases hx : a.tmps[t]? with
    | none => rw [hx] at ht; cases ht
    | some v =>
      rw [hx] at ht
      have ht : v = .bool b' := ht
      subst ht
      show (some b' == some want) = (b' == want)
      cases b' <;> cases want <;> rfl
   ·rename_i l hb
    rw [hb] at ht
    simp only [VRel] at ht
    obtain ⟨ys, ht, _⟩ := ht
    injection h with h
    subst h
    cases hx : a.tmps[t]? with
    | none => rfl
    | some v =>
      rw [hx] at ht
      have ht : v = .tuple ys := ht
      subst ht
      rfl
   ·cases h
theorem tz {o : Op} {τ : F} {aw : W} (h : (∃ v a, gOp o τ aw = .val v a) ∨ (∃ f vs a, gOp o τ aw = .call f vs a) ∨ (∃ b vs a, gOp o τ aw = .yld b vs a) ∨ (∃ v a, gOp o τ aw = .pan v a) ∨ (∃ a, gOp o τ aw = .rcv a)) (c : Call) : o ≠ .defer c := by
 rintro rfl
 rw [asj, show fOp (.defer c) τ aw = lj c τ aw from rfl] at h
 have hx : ∀ n, xOp (.defer c) τ aw n = .no n := fun n => rfl
 unfold lj at h
 cases hc : c.callee with
 | value f =>
   rw [hc] at h
   dsimp only at h
   cases hf : evX f τ <;> rw [hf] at h <;> try (simp [hx, j6] at h; done)
   rename_i g x y
   cases g <;> simp [hx, j6] at h
 | _ => rw [hc] at h; simp [hx, j6] at h
theorem aod {ih : Ih} (hs : Sound ih) {ops : Array Oper} {f : Nat} {o : Oper} (l : List Nat) (IH : Oh) (h : SRel ρ nt d c₀ cs₀ τ ds um aw a cs w) (hro : RoRel ρ rk ro)
  (hr : (oGo o.dst o.op IH ih ops.toList (.mk f nt d rk) (.mk τ ds um aw)).ok)
  (next : ∀ (ρ' : Env) (τ' : F) (ds' : List AD) (um' : UM) (aw' : W) (a' : Act) (cs' : List Frame) (w' : World), SRel ρ' nt d c₀ cs₀ τ' ds' um' aw' a' cs' w' → Adv ρ aw w ρ' aw' w' →
    (IH ih ops.toList (.mk f nt d rk) (.mk τ' ds' um' aw')).ok → iq d ro PP ops (Post ρ aw w nt d c₀ cs₀ (IH ih ops.toList (.mk f nt d rk) (.mk τ' ds' um' aw'))) l a' cs' w') :
  vl d ro PP o a cs (iq d ro PP ops (Post ρ aw w nt d c₀ cs₀ (oGo o.dst o.op IH ih ops.toList (.mk f nt d rk) (.mk τ ds um aw))) l) (Post ρ aw w nt d c₀ cs₀ (oGo o.dst o.op IH ih ops.toList (.mk f nt d rk) (.mk τ ds um aw))) ((o.semAt ro a.eval).run PP w) := by
 have hn := a49 (τ := τ) (e := a.eval) h.wr (abv h) o
 have hgo : oGo o.dst o.op IH ih ops.toList (.mk f nt d rk) (.mk τ ds um aw) = orK (gOp o.op τ aw) o.dst IH ih ops.toList (.mk f nt d rk) τ ds um := rfl
 rw [hgo] at hr ⊢
 cases hop : gOp o.op τ aw with
 | val v aw' =>
   rw [hop] at hn hr
   rw [Oper.semAt_eq ro a.eval o (tz (.inl ⟨_, _, hop⟩))]
   obtain ⟨ρ', w', hA, hrun⟩ := hn (h.cl.fresh _)
   rcases hrun with ⟨v', hrun, hv⟩ | ⟨hrun, hv⟩
   ·rw [hrun]
    exact next ρ' _ _ _ _ _ _ _ ((h.adv hA).put hv o.dst) hA hr
   ·rw [hrun]
    subst hv
    exact next ρ' _ _ _ _ _ _ _ ((h.adv hA).put (j9 ρ') o.dst) hA hr
 | call g vs aw' =>
   rw [hop] at hn hr
   rw [Oper.semAt_eq ro a.eval o (tz (.inr (.inl ⟨_, _, _, hop⟩)))]
   obtain ⟨ρ', w', args, hA, hrun, hv⟩ := hn (h.cl.fresh _)
   rw [hrun]
   have hr' : (crK (enter ih g vs aw') o.dst IH ih ops.toList (.mk f nt d rk) τ ds um).ok := hr
   show Calls PP g args w' _
   change Calls PP g args w' (fun
    | .returned v, w'' => iq d ro PP ops (Post ρ aw w nt d c₀ cs₀ (crK (enter ih g vs aw') o.dst IH ih ops.toList (.mk f nt d rk) τ ds um)) l (a.put o.dst v) cs w''
    | .panicked chain, w'' => (Exit.panic chain ≠ .outgrown ∧ Post ρ aw w nt d c₀ cs₀ (crK (enter ih g vs aw') o.dst IH ih ops.toList (.mk f nt d rk) τ ds um) (.panic chain) a cs w'')
    | .outgrown, _ => LetsOut fun e a' w' => e ≠ .outgrown ∧ Post ρ aw w nt d c₀ cs₀ (crK (enter ih g vs aw') o.dst IH ih ops.toList (.mk f nt d rk) τ ds um) e a' cs w')
   generalize he : enter ih g vs aw' = r at hr'
   have hok : r.ok := by cases r <;> first | trivial | exact hr'
   have hC : Calls PP g args w' (CPost ρ' aw' w' r) := by
    rw [← he]
    exact oz hs (h.g.mono hA.le) hA.rel (h.cl.adv hA) hv (by rw [he]; exact hok)
   refine Calls.mono hC fun e w'' hp => ?_
   cases r with
   | no => exact hp.elim
   | ret v aw2 =>
     obtain ⟨v', ρ2, rfl, hv', hA2⟩ := hp
     exact next ρ2 _ _ _ _ _ _ _ ((h.adv (hA.trans hA2)).put hv' o.dst) (hA.trans hA2) hr'
   | pan ch aw2 =>
     obtain ⟨ch', ρ2, rfl, hch, hA2⟩ := hp
     exact ⟨by simp, ch', ρ2, rfl, hch, hA.trans hA2, h.adv (hA.trans hA2)⟩
 | yld b vs aw' =>
   rw [hop] at hn hr
   rw [Oper.semAt_eq ro a.eval o (tz (.inr (.inr (.inl ⟨_, _, _, hop⟩))))]
   obtain ⟨rfl, c, args, hc, hrun, hv⟩ := hn
   have hr' : (crK (sy ih b vs aw') o.dst IH ih ops.toList (.mk f nt d rk) τ ds um).ok := hr
   show vl d ro PP o a cs (iq d ro PP ops (Post ρ aw' w nt d c₀ cs₀ (crK (sy ih b vs aw') o.dst IH ih ops.toList (.mk f nt d rk) τ ds um)) l) (Post ρ aw' w nt d c₀ cs₀ (crK (sy ih b vs aw') o.dst IH ih ops.toList (.mk f nt d rk) τ ds um)) ((execOp a.eval o).run PP w)
   generalize he : sy ih b vs aw' = r at hr'
   have hok : r.ok := by cases r <;> first | trivial | exact hr'
   obtain ⟨f', tmps, x, y, hy, hR⟩ := aq2 hs h.g h.wr h.cl hc hv (by rw [he]; exact hok)
   rw [hrun, hy]
   rw [he] at hR
   refine RoundC.mono hR fun e w'' hp => ?_
   cases r with
   | no => exact hp.elim
   | ret v aw2 =>
     obtain ⟨v', ρ2, rfl, hv', hA2⟩ := hp
     exact next ρ2 _ _ _ _ _ _ _ ((h.adv hA2).put hv' o.dst) hA2 hr'
   | pan ch aw2 =>
     obtain ⟨ch', ρ2, rfl, hch, hA2⟩ := hp
     exact ⟨ch', ρ2, rfl, hch, hA2, h.adv hA2⟩
 | pan v aw' =>
   rw [hop] at hn
   rw [Oper.semAt_eq ro a.eval o (tz (.inr (.inr (.inr (.inl ⟨_, _, hop⟩)))))]
   obtain ⟨rfl, v', hrun, hv⟩ := hn
   rw [hrun]
   exact ⟨by simp, _, ρ, rfl, ⟨v', [], rfl, hv, rfl⟩, Adv.refl h.wr, h⟩
 | dfr dd aw' =>
   rw [hop] at hn hr
   cases rk with
   | some k => exact hr.elim
   | none =>
     have hro : ro = none := hro
     subst hro
     rw [Oper.semAt_none]
     obtain ⟨rfl, d', hrun, hd⟩ := hn
     rw [hrun]
     refine next ρ _ _ _ _ _ _ _ (SRel.put (a := { a with defers := d' :: a.defers }) ⟨h.g, h.wr, h.cl, h.fr, h.sz, h.le, (show DRels ρ (dd :: ds) (d' :: a.defers) from ⟨d', a.defers, rfl, hd, h.dr⟩), h.um⟩ (j9 ρ) o.dst) (Adv.refl h.wr) hr
 | rcv aw' =>
   rw [hop] at hn hr
   cases rk with
   | some k => exact hr.elim
   | none =>
   have hro : ro = none := hro
   subst hro
   rw [Oper.semAt_none]
   obtain ⟨rfl, hrun⟩ := hn
   rw [hrun]
   have nil : ∀ um, CsRel ρ d c₀ cs₀ um cs → aqe d cs = none → ajm aw' o.dst IH ih ops.toList (.mk f nt d none) τ ds um = IH ih ops.toList (.mk f nt d none) (.mk (md nt o.dst .nilIface τ) ds um aw') →
     (ajm aw' o.dst IH ih ops.toList (.mk f nt d none) τ ds um).ok → (match aqe d cs with
     | some (v, cs') => iq d none PP ops (Post ρ aw' w nt d c₀ cs₀ (ajm aw' o.dst IH ih ops.toList (.mk f nt d none) τ ds um)) l (a.put o.dst v) cs' w
     | none => iq d none PP ops (Post ρ aw' w nt d c₀ cs₀ (ajm aw' o.dst IH ih ops.toList (.mk f nt d none) τ ds um)) l (a.put o.dst .nilIface) cs w) := by
    intro um hcs hk he hr
    rw [hk]
    rw [he] at hr ⊢
    exact next ρ _ _ _ _ _ _ _ (SRel.put ⟨h.g, h.wr, h.cl, h.fr, h.sz, h.le, h.dr, hcs⟩ (by simp only [VRel]) o.dst) (Adv.refl h.wr) hr
   have hcs := h.um
   show (match aqe d cs with
     | some (v, cs') => iq d none PP ops (Post ρ aw' w nt d c₀ cs₀ (ajm aw' o.dst IH ih ops.toList (.mk f nt d none) τ ds um)) l (a.put o.dst v) cs' w
     | none => iq d none PP ops (Post ρ aw' w nt d c₀ cs₀ (ajm aw' o.dst IH ih ops.toList (.mk f nt d none) τ ds um)) l (a.put o.dst .nilIface) cs w)
   have hr : (ajm aw' o.dst IH ih ops.toList (.mk f nt d none) τ ds um).ok := hr
   cases d with
   | false => exact nil um hcs rfl rfl hr
   | true =>
     obtain ⟨u, hcs', hu⟩ := hcs
     cases um with
     | none => exact hu.elim
     | ret =>
       have hu : u = .returning := hu
       subst hu
       exact nil .ret h.um (by rw [hcs']; rfl) rfl hr
     | pan ch =>
       cases ch with
       | nil =>
         obtain ⟨ch', rfl, hch⟩ := hu
         have hch : ch' = [] := hch
         subst hch
         exact nil _ h.um (by rw [hcs']; rfl) rfl hr
       | cons p ch =>
         obtain ⟨v, r⟩ := p
         obtain ⟨_, rfl, v', ch', rfl, hv, hch⟩ := hu
         cases r with
         | true => exact nil _ h.um (by rw [hcs']; rfl) rfl hr
         | false =>
           have hk : aqe true cs = some (v', { c₀ with mode := .panicking ({ v := v', recovered := true } :: ch') } :: cs₀) := by rw [hcs']; rfl
           rw [hk]
           exact next ρ _ _ _ _ _ _ _ (SRel.put (um := .pan (.mk v true :: ch)) (cs := { c₀ with mode := .panicking ({ v := v', recovered := true } :: ch') } :: cs₀)
            ⟨h.g, h.wr, h.cl, h.fr, h.sz, h.le, h.dr, (show CsRel ρ true c₀ cs₀ _ _ from ⟨_, rfl, _, rfl, v', ch', rfl, hv, hch⟩)⟩ hv o.dst) (Adv.refl h.wr) hr
 | no c => rw [hop] at hr; exact hr.elim
theorem ay8 {ih : Ih} (hs : Sound ih) {ops : Array Oper} {f : Nat} : ∀ (l : List Oper) (i : Nat), ops.toList.drop i = l → ∀ (ρ : Env) (τ : F) (ds : List AD) (um : UM) (aw : W) (a : Act) (cs : List Frame) (w : World),
  SRel ρ nt d c₀ cs₀ τ ds um aw a cs w → RoRel ρ rk ro → (o6 l ih ops.toList (.mk f nt d rk) (.mk τ ds um aw)).ok →
  iq d ro PP ops (Post ρ aw w nt d c₀ cs₀ (o6 l ih ops.toList (.mk f nt d rk) (.mk τ ds um aw))) (List.range' i l.length) a cs w
 | [], i, hl, ρ, τ, ds, um, aw, a, cs, w, h, hro, hr => ⟨rfl, ρ, Adv.refl h.wr, h⟩
 | o :: l, i, hl, ρ, τ, ds, um, aw, a, cs, w, h, hro, hr => by
   have ho : ops[i]? = some o := by
    have := congrArg (·[0]?) hl
    simpa using this
   have hl' : ops.toList.drop (i + 1) = l := by
    have := congrArg List.tail hl
    simpa using this
   have next : ∀ (ρ' : Env) (τ' : F) (ds' : List AD) (um' : UM) (aw' : W) (a' : Act) (cs' : List Frame) (w' : World), SRel ρ' nt d c₀ cs₀ τ' ds' um' aw' a' cs' w' → Adv ρ aw w ρ' aw' w' →
    (o6 l ih ops.toList (.mk f nt d rk) (.mk τ' ds' um' aw')).ok → iq d ro PP ops (Post ρ aw w nt d c₀ cs₀ (o6 l ih ops.toList (.mk f nt d rk) (.mk τ' ds' um' aw'))) (List.range' (i + 1) l.length) a' cs' w' :=
    fun ρ' τ' ds' um' aw' a' cs' w' h' hA hr' => uf (fun e a cs w hp => hp.trans hA) _ _ _ _ (ay8 hs l (i + 1) hl' ρ' τ' ds' um' aw' a' cs' w' h' (hro.mono hA.le) hr')
   rw [zO, List.range'_succ]
   simp only [iq, ho]
   obtain ⟨dst, op, ty, p, q, g⟩ := o
   have hev : o6 (⟨dst, op, ty, p, q, g⟩ :: l) ih ops.toList (.mk f nt d rk) (.mk τ ds um aw) = ag2 g dst op (o6 l) ih ops.toList (.mk f nt d rk) (.mk τ ds um aw) := rfl
   rw [hev] at hr ⊢
   cases g with
   | none =>
     rw [if_pos (show Region.wanted _ _ = true from rfl)]
     exact aod hs (o := ⟨dst, op, ty, p, q, none⟩) _ (o6 l) h hro hr next
   | some g =>
     have hev : ag2 (some g) dst op (o6 l) ih ops.toList (.mk f nt d rk) (.mk τ ds um aw) = (match jz g ops.toList τ with
      | some true => oGo dst op (o6 l) ih ops.toList (.mk f nt d rk) (.mk τ ds um aw)
      | some false => a36 dst (o6 l) ih ops.toList (.mk f nt d rk) (.mk τ ds um aw)
      | none => .no 213 f) := rfl
     rw [hev] at hr ⊢
     cases hw : jz g ops.toList τ with
     | none => rw [hw] at hr; exact hr.elim
     | some b =>
       rw [hw] at hr
       rw [adn (o := ⟨dst, op, ty, p, q, some g⟩) rfl h.fr hw]
       cases b with
       | true =>
         rw [if_pos rfl]
         exact aod hs (o := ⟨dst, op, ty, p, q, some g⟩) _ (o6 l) h hro hr next
       | false =>
         rw [if_neg (by simp)]
         exact next ρ _ _ _ _ _ _ _ (h.put (j9 ρ) dst) (Adv.refl h.wr) hr
end
end Go.Ev
