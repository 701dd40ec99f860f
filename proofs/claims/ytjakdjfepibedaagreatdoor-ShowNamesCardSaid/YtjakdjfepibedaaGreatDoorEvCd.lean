import Derived.Test.YtjakdjfepibedaaGreatDoorEvCi
import Derived.RangeFuncLeaves
set_option linter.all false
namespace Go.Ev
/- Entering and leaving functions. -/
def R.ok : R → Prop | .no .. => False | _ => True
def CR.ok : CR → Prop | .no .. => False | _ => True
def DR.ok : DR → Prop | .no .. => False | _ => True
def Aft (ρ : Env) (aw : W) (w : World) (nt : Nat) (d : Bool) (c₀ : Frame) (cs₀ : List Frame) : FSt → Act → List Frame → World → Prop
  | .mk τ ds um aw', a', cs', w' => ∃ ρ', Adv ρ aw w ρ' aw' w' ∧ SRel ρ' nt d c₀ cs₀ τ ds um aw' a' cs' w'
def Post (ρ : Env) (aw : W) (w : World) (nt : Nat) (d : Bool) (c₀ : Frame) (cs₀ : List Frame) (r : R) (e : Exit) (a' : Act) (cs' : List Frame) (w' : World) : Prop := match r with
  | .n S => e = .normal ∧ Aft ρ aw w nt d c₀ cs₀ S a' cs' w'
  | .x id S => e = .exit id ∧ Aft ρ aw w nt d c₀ cs₀ S a' cs' w'
  | .r S => e = .ret ∧ Aft ρ aw w nt d c₀ cs₀ S a' cs' w'
  | .p ch (.mk τ ds um aw') => ∃ ch' ρ', e = .panic ch' ∧ ChRel ρ' ch ch' ∧ Adv ρ aw w ρ' aw' w' ∧ SRel ρ' nt d c₀ cs₀ τ ds um aw' a' cs' w'
  | .no _ _ => False
def CPost (ρ : Env) (aw : W) (w : World) (r : CR) (e : Ending) (w' : World) : Prop := match r with
  | .ret v aw' => ∃ v' ρ', e = .returned v' ∧ VRel ρ' v v' ∧ Adv ρ aw w ρ' aw' w'
  | .pan ch aw' => ∃ ch' ρ', e = .panicked ch' ∧ ChRel ρ' ch ch' ∧ Adv ρ aw w ρ' aw' w'
  | .no _ _ => False
def DPost (ρ : Env) (aw : W) (w : World) (r : DR) (e : Ending) (u' : FrameMode) (w' : World) : Prop := match r with
  | .ret um' aw' => ∃ v' ρ', e = .returned v' ∧ URel ρ' um' u' ∧ Adv ρ aw w ρ' aw' w'
  | .pan ch um' aw' => ∃ ch' ρ', e = .panicked ch' ∧ ChRel ρ' ch ch' ∧ URel ρ' um' u' ∧ Adv ρ aw w ρ' aw' w'
  | .no _ _ => False
/-- the world has at most new blocks -/
structure KeptW (w w' : World) : Prop where
  size : w.heap.size ≤ w'.heap.size
  heap : ∀ c, c < w.heap.size → w'.heap[c]? = w.heap[c]?
  os : w'.os = w.os
  tape : w'.tape = w.tape
  output : w'.output = w.output
/-- the laid variables lie as they are laid -/
def LaidIn (l : List LE) (w : World) : Prop := ∀ g cs, LE.mk g cs ∈ l → ∃ arr t fz, w.heap[g]? = some (.cells arr t fz) ∧ ∀ ρ, VRels ρ cs arr.toList
def HookFact (f : FuncId) (vs : List AV) (v : AV) : Prop := ∀ (ρ : Env) (args : Array Value) (w : World), LaidIn laidL w → VRels ρ vs args.toList →
  Calls PP f args w fun e w' => ∃ v', e = .returned v' ∧ (∀ ρ', VRel ρ' v v') ∧ KeptW w w'
def HookOk (H : Hook) : Prop := ∀ f vs aw r, H f vs aw = some r → r.ok → ∀ (ρ : Env) (args : Array Value) (w : World), GRel ρ → WRel ρ aw w → Clean ρ aw → VRels ρ vs args.toList → Calls PP f args w (CPost ρ aw w r)
structure Sound (ih : Ih) : Prop where
  hook : HookOk ih.hook
  go : ∀ (c : Code) (fn nt : Nat) (d : Bool) (rk : Option K) (ro : Option Nat) (ρ : Env) (c₀ : Frame) (cs₀ : List Frame) (τ : F) (ds : List AD) (um : UM) (aw : W) (a : Act) (cs : List Frame) (w : World),
    SRel ρ nt d c₀ cs₀ τ ds um aw a cs w → RoRel ρ rk ro → (ih c (.mk fn nt d rk) (.mk τ ds um aw)).ok →
    WS d ro fn PP c (Post ρ aw w nt d c₀ cs₀ (ih c (.mk fn nt d rk) (.mk τ ds um aw))) a cs w ∧
    ∀ b, c = .loop b → WL d ro fn PP b (Post ρ aw w nt d c₀ cs₀ (ih c (.mk fn nt d rk) (.mk τ ds um aw))) a cs w
/-- leaving: the deferred calls, and the marks of loops over functions -/
def LeavesM (P : Program) (fn : Func) (tmps : Array Value) (R : Ending → World → Prop) : List Deferred → FrameMode → World → Prop
  | [], .returning, w => ∃ v, (_root_.Go.results fn tmps).run P w = .ok v w ∧ R (.returned v) w
  | [], .panicking chain, w => R (.panicked chain) w
  | [], .run, _ => False
  | d :: ds, u, w => u ≠ .run ∧ ((∃ r w', d.target = .collected r ∧ (Instr.takeDeferred r).run P w = .ok [] w' ∧ LeavesM P fn tmps R ds u w') ∨
      ∃ fv cap f args, d.target = .fn fv cap ∧ (invoke d.target d.args).run P w = .ok (.enter f args) w ∧
      CallsD P f args u w fun
        | .returned _, u', w' => LeavesM P fn tmps R ds (_root_.Go.settle u') w'
        | .panicked chain, u', w' => LeavesM P fn tmps R ds (_root_.Go.raised u' chain) w'
        | .outgrown, _, w' => R .outgrown w')
section
variable {ρ : Env} {nt : Nat} {d : Bool} {c₀ : Frame} {cs₀ : List Frame} {τ : F} {ds : List AD} {um : UM} {aw : W} {a : Act} {cs : List Frame} {w : World}
theorem Aft.trans {ρ1 : Env} {aw1 : W} {w1 : World} (h : Adv ρ aw w ρ1 aw1 w1) {S : FSt} {a' : Act} {cs' : List Frame} {w' : World} (e : Aft ρ1 aw1 w1 nt d c₀ cs₀ S a' cs' w') : Aft ρ aw w nt d c₀ cs₀ S a' cs' w' := by
  obtain ⟨τ, ds, um, aw'⟩ := S
  obtain ⟨ρ', h1, h2⟩ := e
  exact ⟨ρ', h.trans h1, h2⟩
theorem Post.trans {ρ1 : Env} {aw1 : W} {w1 : World} (h : Adv ρ aw w ρ1 aw1 w1) {r : R} {e : Exit} {a' : Act} {cs' : List Frame} {w' : World} (p : Post ρ1 aw1 w1 nt d c₀ cs₀ r e a' cs' w') : Post ρ aw w nt d c₀ cs₀ r e a' cs' w' := by
  cases r with
  | n S => exact ⟨p.1, p.2.trans h⟩
  | x id S => exact ⟨p.1, p.2.trans h⟩
  | r S => exact ⟨p.1, p.2.trans h⟩
  | p ch S => obtain ⟨τ, ds, um, aw'⟩ := S; obtain ⟨ch', ρ', h1, h2, h3, h4⟩ := p; exact ⟨ch', ρ', h1, h2, h.trans h3, h4⟩
  | no => exact p.elim
theorem CPost.trans {ρ1 : Env} {aw1 : W} {w1 : World} (h : Adv ρ aw w ρ1 aw1 w1) {r : CR} {e : Ending} {w' : World} (p : CPost ρ1 aw1 w1 r e w') : CPost ρ aw w r e w' := by
  cases r with
  | ret v aw' => obtain ⟨v', ρ', h1, h2, h3⟩ := p; exact ⟨v', ρ', h1, h2, h.trans h3⟩
  | pan ch aw' => obtain ⟨ch', ρ', h1, h2, h3⟩ := p; exact ⟨ch', ρ', h1, h2, h.trans h3⟩
  | no => exact p.elim
theorem leaves_mono {P : Program} {fn : Func} {tmps : Array Value} {R R' : Ending → World → Prop} (hr : ∀ e w, R e w → R' e w) : ∀ (ds : List Deferred) (u : FrameMode) (w : World), LeavesM P fn tmps R ds u w → LeavesM P fn tmps R' ds u w
  | [], .returning, _, ⟨v, h1, h2⟩ => ⟨v, h1, hr _ _ h2⟩
  | [], .panicking _, _, h => hr _ _ h
  | [], .run, _, h => h.elim
  | d :: ds, u, w, h => by
    obtain ⟨h0, h⟩ := h
    refine ⟨h0, ?_⟩
    rcases h with ⟨r, w', h1, h2, h3⟩ | ⟨fv, cap, f, args, h1, h2, h3⟩
    · exact .inl ⟨r, w', h1, h2, leaves_mono hr ds _ _ h3⟩
    · refine .inr ⟨fv, cap, f, args, h1, h2, h3.mono ?_⟩
      intro e u' w' he
      cases e with
      | returned v => exact leaves_mono hr ds _ _ he
      | panicked ch => exact leaves_mono hr ds _ _ he
      | outgrown => exact hr _ _ he
theorem leavesM_steps {P : Program} {fn : Func} {tmps : Array Value} {R : Ending → World → Prop} : ∀ (ds : List Deferred) (u : FrameMode) (w : World) (fr : Frame)
    (cs : List Frame), fr.mode = u → fr.defers = ds → fr.tmps = tmps → P.funcs[fr.fn]? = some fn → fr.kind = .normal → LeavesM P fn tmps R ds u w →
    ∃ e w' fr', R e w' ∧ Comes P (lone fr cs w) (lone fr' cs w') e ∧ fr'.fn = fr.fn ∧ fr'.leaving P w' e := by
  intro ds
  induction ds with
  | nil =>
    intro u w fr cs hu hd ht hf hk h
    cases u with
    | run => exact h.elim
    | returning =>
      obtain ⟨v, hr, hR⟩ := h
      exact ⟨.returned v, w, fr, hR, Steps.refl P _, rfl, hu, hd, hk, fn, hf, ht ▸ hr⟩
    | panicking chain => exact ⟨.panicked chain, w, fr, h, Steps.refl P _, rfl, hu, hd, fn, hf⟩
  | cons d ds ih =>
    intro u w fr cs hu hd ht hf hk h
    obtain ⟨hrun, h⟩ := h
    rcases h with ⟨r, w', htar, htake, hrest⟩ | ⟨fv, cap, f, args, htar, hinv, hcall⟩
    · have h1 := step_collected (cs := cs) (hu ▸ hrun) hd htar htake
      obtain ⟨e', w'', fr', hR', hs', hfn', hl'⟩ := ih u w' { fr with defers := [] ++ ds } cs hu rfl ht hf hk hrest
      exact ⟨e', w'', fr', hR', Comes.of_steps (.one h1) hs', hfn', hl'⟩
    · have h1 := step_defer (cs := cs) (hu ▸ hrun) hd htar hinv
      obtain ⟨e, u', w', frX, hR, hsteps, hkX, hgo⟩ := hcall { fr with defers := ds } cs hu
      cases e with
      | returned v =>
        have h2 := step_going_returned (c := { { fr with defers := ds } with mode := u' }) (cs := cs) hkX hgo
        obtain ⟨e', w'', fr', hR', hs', hfn', hl'⟩ := ih (_root_.Go.settle u') w' { { { fr with defers := ds } with mode := u' } with mode := _root_.Go.settle u' } cs rfl rfl ht hf hk hR
        exact ⟨e', w'', fr', hR', Comes.of_steps (.head h1 (Steps.trans hsteps (.one h2))) hs', hfn', hl'⟩
      | panicked chain =>
        have h2 := step_going_panicked (c := { { fr with defers := ds } with mode := u' }) (cs := cs) hgo
        obtain ⟨e', w'', fr', hR', hs', hfn', hl'⟩ := ih (_root_.Go.raised u' chain) w' { { { fr with defers := ds } with mode := u' } with mode := _root_.Go.raised u' chain } cs rfl rfl ht hf hk hR
        exact ⟨e', w'', fr', hR', Comes.of_steps (.head h1 (Steps.trans hsteps (.one h2))) hs', hfn', hl'⟩
      | outgrown => exact ⟨.outgrown, w', fr, hR, Outgrown.of_steps (.one h1) hsteps, rfl, trivial⟩
theorem callsD_of_ws {f : FuncId} {fn : Func} {c : Code} {args : Array Value} {u : FrameMode} {w : World} {R : Ending → FrameMode → World → Prop}
    (hf : PP.funcs[f]? = some fn) (hb : fn.body = some c)
    (h : ∀ (c₀ : Frame) (cs : List Frame), c₀.mode = u → WS true none f PP c (bodyPostS PP fn c₀ cs R) { tmps := args ++ Array.replicate (fn.ntmps - args.size) undef, defers := [] } (c₀ :: cs) w) :
    CallsD PP f args u w R := by
  intro c₀ cs hu
  let b : Frame := { (default : Frame) with fn := f, kind := .deferred, roundOf := none }
  have henter : Frame.enter PP f args .deferred = b.atR { tmps := args ++ Array.replicate (fn.ntmps - args.size) undef, defers := [] } [.code c] := by
    simp [Frame.enter, Frame.atR, hf, hb, b]
  obtain ⟨e, a', cs', w', hq, harr⟩ := h c₀ cs hu b [] rfl rfl rfl
  rw [← henter] at harr
  cases e with
  | normal =>
    obtain ⟨hd, u', rfl, v, hr, hR⟩ := hq
    exact ⟨.returned v, u', w', _, hR, Steps.trans harr (.one (stepR_end rfl)), rfl, rfl, hd, fn, hf, hr⟩
  | ret =>
    obtain ⟨hd, u', rfl, v, hr, hR⟩ := hq
    obtain ⟨k', hs⟩ := harr
    exact ⟨.returned v, u', w', _, hR, Steps.trans hs (.one (stepR_ret rfl)), rfl, rfl, hd, fn, hf, hr⟩
  | panic chain =>
    obtain ⟨hd, u', rfl, hR⟩ := hq
    obtain ⟨todo, hs⟩ := harr
    exact ⟨.panicked chain, u', w', _, hR, hs, rfl, rfl, hd, fn, hf⟩
  | exit id => exact hq.elim
  | goto l => exact hq.elim
  | outgrown => exact harr.elim
theorem bodyOf_eq {f : FuncId} {fn : Func} {c : Code} (h : bodyOf f = some (fn, c)) : PP.funcs[f]? = some fn ∧ fn.body = some c ∧ fn.ntmps ≤ 512 := by
  unfold bodyOf at h
  split at h
  · rename_i fn' hf
    split at h
    · rename_i c' hb
      rw [bc_eq] at h
      split at h
      · rename_i hn
        injection h with h; injection h with h1 h2; subst h1; subst h2
        exact ⟨fnOf_eq hf, hb, Nat.le_of_ble_eq_true hn⟩
      · cases h
    · cases h
  · cases h
theorem start_srel (hg : GRel ρ) (hw : WRel ρ aw w) (hc : Clean ρ aw) {vs : List AV} {args : Array Value} (hv : VRels ρ vs args.toList) (hl : vs.length ≤ nt) (hn : nt ≤ 512) (hcs : CsRel ρ d c₀ cs₀ um cs) :
    SRel ρ nt d c₀ cs₀ (ffill vs 0 fnone) [] um aw { tmps := args ++ Array.replicate (nt - args.size) undef, defers := [] } cs w := by
  refine ⟨hg, hw, hc, frel_fill hv hl hn, ?_, hn, rfl, hcs⟩
  have hlen : args.size = vs.length := by have := VRels.length _ _ hv; simpa using this
  simp only [Array.size_append, Array.size_replicate]
  omega
/-- a body that is entered -/
theorem start_ok {ih : Ih} (hs : Sound ih) (hg : GRel ρ) (hw : WRel ρ aw w) (hc : Clean ρ aw) {f : FuncId} {fn : Func} {c : Code} (hn : fn.ntmps ≤ 512) {vs : List AV} {args : Array Value} (hv : VRels ρ vs args.toList)
    (hcs : CsRel ρ d c₀ cs₀ um cs) (hr : (start ih fn c f vs d um aw).ok) :
    WS d none f PP c (Post ρ aw w fn.ntmps d c₀ cs₀ (start ih fn c f vs d um aw)) { tmps := args ++ Array.replicate (fn.ntmps - args.size) undef, defers := [] } cs w := by
  unfold start at hr ⊢
  rw [bc_eq] at hr ⊢
  split at hr
  · rename_i hl
    rw [if_pos hl]
    rw [llen_eq] at hl
    exact (hs.go c f fn.ntmps d none none ρ c₀ cs₀ _ _ _ _ _ _ _ (start_srel hg hw hc hv (Nat.le_of_ble_eq_true hl) hn hcs) rfl hr).1
  · exact hr.elim
theorem enterD_ok {ih : Ih} (hs : Sound ih) (hg : GRel ρ) (hw : WRel ρ aw w) (hc : Clean ρ aw) {f : FuncId} {vs : List AV} {args : Array Value} (hv : VRels ρ vs args.toList) {u : FrameMode} (hu : URel ρ um u)
    (hr : (enterD ih f vs um aw).ok) : CallsD PP f args u w (DPost ρ aw w (enterD ih f vs um aw)) := by
  unfold enterD at hr ⊢
  cases hb : bodyOf f with
  | none => rw [hb] at hr; exact hr.elim
  | some b =>
    obtain ⟨fn, c⟩ := b
    rw [hb] at hr
    dsimp only at hr ⊢
    obtain ⟨h1, h2, h3⟩ := bodyOf_eq hb
    refine callsD_of_ws h1 h2 fun c₀ cs hm => ?_
    have hcs : CsRel ρ true c₀ cs um (c₀ :: cs) := ⟨u, by rw [← hm], hu⟩
    generalize hst : start ih fn c f vs true um aw = r at hr
    have hok : r.ok := by cases r <;> first | trivial | exact hr
    have key : WS true none f PP c (Post ρ aw w fn.ntmps true c₀ cs r) { tmps := args ++ Array.replicate (fn.ntmps - args.size) undef, defers := [] } (c₀ :: cs) w := by
      rw [← hst]
      exact start_ok hs hg hw hc h3 hv hcs (by rw [hst]; exact hok)
    refine ws_mono key ?_
    have ends : ∀ (τ : F) (ds : List AD) (um' : UM) (aw' : W) (e : Exit) (a' : Act) (cs' : List Frame) (w' : World), e = .normal ∨ e = .ret →
        (leaveD fn (.n (.mk τ ds um' aw'))).ok → Aft ρ aw w fn.ntmps true c₀ cs (.mk τ ds um' aw') a' cs' w' → bodyPostS PP fn c₀ cs (DPost ρ aw w (leaveD fn (.n (.mk τ ds um' aw')))) e a' cs' w' := by
      intro τ ds um' aw' e a' cs' w' he ho ⟨ρ', hA, hS⟩
      cases ds with
      | cons _ _ => exact ho.elim
      | nil =>
        have hd : a'.defers = [] := hS.dr
        obtain ⟨u', hcs', hu'⟩ := hS.um
        simp only [leaveD] at ho ⊢
        cases hres : results fn τ aw' with
        | ret v aw'' =>
          rw [hres] at ho
          obtain ⟨_, v', hv', _⟩ := results_ok hS.wr hS.fr hres
          rcases he with rfl | rfl <;> exact ⟨hd, u', hcs', v', hv', v', ρ', rfl, hu', hA⟩
        | pan _ _ => rw [hres] at ho; exact ho.elim
        | no _ _ => rw [hres] at ho; exact ho.elim
    intro e a' cs' w' hp
    cases r with
    | no => exact hp.elim
    | n S => obtain ⟨τ, ds, um', aw'⟩ := S; exact ends τ ds um' aw' e a' cs' w' (.inl hp.1) hr hp.2
    | r S =>
      obtain ⟨τ, ds, um', aw'⟩ := S
      have same : leaveD fn (.r (.mk τ ds um' aw')) = leaveD fn (.n (.mk τ ds um' aw')) := by cases ds <;> rfl
      rw [same] at hr ⊢
      exact ends τ ds um' aw' e a' cs' w' (.inr hp.1) hr hp.2
    | x id S => exact hr.elim
    | p ch S =>
      obtain ⟨τ, ds, um', aw'⟩ := S
      obtain ⟨ch', ρ', rfl, h1, hA, hS⟩ := hp
      cases ds with
      | cons _ _ => exact hr.elim
      | nil =>
        obtain ⟨u', hcs', hu'⟩ := hS.um
        exact ⟨hS.dr, u', hcs', ch', ρ', rfl, h1, hu', hA⟩
theorem callFn_call {f : FuncId} {vs : List AV} {f2 : FuncId} {vs2 : List AV} {aw2 : W} (h : callFn f vs aw = .call f2 vs2 aw2) :
    f2 = f ∧ vs2 = vs ∧ aw2 = aw ∧ ∀ (args : Array Value) (w : World), (callFunc f args).run PP w = .ok (.enter f args) w := by
  unfold callFn at h
  split at h
  · rename_i heq
    injection h with h1 h2 h3
    refine ⟨h1.symm, h2.symm, h3.symm, fun args w => ?_⟩
    unfold externOf at heq
    split at heq
    · rename_i fn hf
      have hf := fnOf_eq hf
      simp only [bc_eq] at heq
      split at heq
      · cases heq
      rename_i hng
      have hng : fn.name ≠ "runtime.NumGoroutine" := by simpa using hng
      split at heq
      · rename_i hb
        obtain ⟨c, hb⟩ := Option.isSome_iff_exists.1 hb
        simp [callFunc, hf, hng, hb]
      · split at heq
        · split at heq
          · cases heq
          · split at heq
            · cases heq
            · split at heq
              · cases heq
              · split at heq <;> cases heq
        · cases heq
    · cases heq
  · split at h <;> cases h
  · split at h <;> first | cases h | (rw [bc_eq] at h; split at h <;> cases h)
  · split at h
    · unfold makeNZ at h
      split at h
      · split at h
        · split at h
          · rw [bc_eq] at h
            split at h
            · obtain ⟨hh, nx⟩ := aw
              have h : bc nx.isMax (OR.no 1) (.val _ (.mk (hset nx _ hh) nx.succ)) = .call f2 vs2 aw2 := h
              rw [bc_eq] at h
              split at h <;> cases h
            · rw [bc_eq] at h
              split at h
              · obtain ⟨hh, nx⟩ := aw
                have h : bc nx.isMax (OR.no 1) (.val _ (.mk (hset nx _ hh) nx.succ)) = .call f2 vs2 aw2 := h
                rw [bc_eq] at h
                split at h <;> cases h
              · cases h
          · cases h
        · cases h
      · cases h
    · cases h
  · split at h <;> first | cases h | (rw [bc_eq] at h; split at h <;> cases h)
  · unfold evOverlaps at h
    split at h
    · rw [bc_eq] at h
      split at h
      · split at h
        · split at h
          · rw [bc_eq] at h
            split at h
            · unfold ovRows at h
              split at h
              · rw [bc_eq] at h; split at h <;> cases h
              · cases h
            · cases h
          · cases h
        · cases h
      · cases h
    · cases h
theorem settle_rel : ∀ (um : UM) (u : FrameMode), URel ρ um u → URel ρ (settle um) (_root_.Go.settle u)
  | .none, _, h => h.elim
  | .ret, _, h => by have h : _ = FrameMode.returning := h; subst h; rfl
  | .pan [], _, ⟨ch', h1, h2⟩ => by have h2 : ch' = [] := h2; subst h2; subst h1; exact ⟨[], rfl, rfl⟩
  | .pan (.mk v false :: ch), _, ⟨_, h1, v', c, h2, h3, h4⟩ => by subst h1; subst h2; exact ⟨_, rfl, v', c, rfl, h3, h4⟩
  | .pan (.mk v true :: ch), _, ⟨_, h1, v', c, h2, h3, h4⟩ => by
    subst h1; subst h2
    show _root_.Go.settle _ = .returning
    have drop : ∀ (ch : List PE) (c : List PanicEntry), ChRel ρ ch c → c.dropWhile (!·.goexit) = [] := by
      intro ch
      induction ch with
      | nil => intro c h; have h : c = [] := h; subst h; rfl
      | cons p ch ih =>
        intro c h
        obtain ⟨v, r⟩ := p
        obtain ⟨v', c', rfl, _, h⟩ := h
        simp only [List.dropWhile_cons, Bool.not_false, if_true]
        exact ih c' h
    simp only [_root_.Go.settle, drop ch c h4]
theorem raised_rel {um : UM} {u : FrameMode} {ch : List PE} {ch' : List PanicEntry} (h : URel ρ um u) (hc : ChRel ρ ch ch') : URel ρ (raised um ch) (_root_.Go.raised u ch') := by
  cases um with
  | none => exact h.elim
  | ret => have h : u = .returning := h; subst h; exact ⟨ch', rfl, hc⟩
  | pan old => obtain ⟨o, rfl, ho⟩ := h; exact ⟨ch' ++ o, rfl, ChRel.append _ _ _ _ hc ho⟩
theorem URel.ne_run {um : UM} {u : FrameMode} (h : URel ρ um u) : u ≠ .run := by
  cases um with
  | none => exact h.elim
  | ret => have h : u = .returning := h; subst h; intro e; cases e
  | pan old => obtain ⟨o, rfl, ho⟩ := h; intro e; cases e
theorem unwind_ok {ih : Ih} (hs : Sound ih) {fn : Func} (τ : F) (a : Act) : ∀ (ds : List AD) (ds' : List Deferred) (um : UM) (u : FrameMode) (ρ : Env) (aw : W) (w : World),
    GRel ρ → WRel ρ aw w → Clean ρ aw → FRel ρ τ a.tmps → DRels ρ ds ds' → URel ρ um u → (unwind ih fn τ ds um aw).ok → LeavesM PP fn a.tmps (CPost ρ aw w (unwind ih fn τ ds um aw)) ds' u w
  | [], ds', um, u, ρ, aw, w, hg, hw, hc, hf, hd, hu, hr => by
    have hd : ds' = [] := hd
    subst hd
    cases um with
    | none => exact hu.elim
    | ret =>
      have hu : u = .returning := hu
      subst hu
      simp only [unwind] at hr ⊢
      cases hres : results fn τ aw with
      | ret v aw' =>
        obtain ⟨rfl, v', h1, h2⟩ := results_ok hw hf hres
        exact ⟨v', h1, v', ρ, rfl, h2, Adv.refl hw⟩
      | pan _ _ => unfold results at hres; split at hres <;> cases hres
      | no _ _ => rw [hres] at hr; exact hr.elim
    | pan ch =>
      obtain ⟨ch', rfl, h⟩ := hu
      exact ⟨ch', ρ, rfl, h, Adv.refl hw⟩
  | .coll b :: ds, ds', um, u, ρ, aw, w, hg, hw, hc, hf, hd, hu, hr => by
    obtain ⟨d', ds', rfl, ⟨c, hcb, rfl⟩, h2⟩ := hd
    simp only [unwind] at hr ⊢
    cases hgb : wget b aw with
    | deferred l =>
      rw [hgb] at hr
      cases l with
      | none => exact hr.elim
      | some l =>
        cases l with
        | cons _ _ => exact hr.elim
        | nil =>
          dsimp only at hr ⊢
          have hne : wget b aw ≠ .none := by rw [hgb]; simp
          obtain ⟨c', hc', ho⟩ := hw.dom b (by rw [← wget_eq]; exact hne)
          rw [hcb] at hc'; cases hc'
          rw [← wget_eq, hgb] at ho
          have ho : w.heap[c]? = some (.deferred (some [])) := ho
          have hA : Adv ρ aw w ρ (wset b (.deferred none) aw) { w with heap := w.heap.setIfInBounds c (.deferred none) } :=
            adv_setObj (obj := .deferred none) hw hne (by rw [hgb]; rfl) hcb ho rfl (by simp) (by simp)
          refine ⟨hu.ne_run, .inl ⟨c, _, rfl, ?_, leaves_mono (fun e w hp => CPost.trans hA hp) _ _ _ (unwind_ok hs τ a ds ds' um u ρ _ _ hg hA.rel (hc.adv hA) hf h2 hu hr)⟩⟩
          simp only [Instr.takeDeferred, Sem.run_bind, getObj_run ho (by simp), Result.andThen_ok, setObj_run ho (by simp), Sem.run_pure]
    | _ => rw [hgb] at hr; exact hr.elim
  | .call fv cap args :: ds, ds', um, u, ρ, aw, w, hg, hw, hc, hf, hd, hu, hr => by
    obtain ⟨d', ds', rfl, ⟨cap', args', rfl, hcap, hargs⟩, h2⟩ := hd
    cases fv with
    | func f =>
      simp only [unwind] at hr ⊢
      cases hcf : callFn f (args ++ cap) aw with
      | call f2 vs aw1 =>
        rw [hcf] at hr
        dsimp only at hr ⊢
        obtain ⟨rfl, rfl, rfl, hrun⟩ := callFn_call hcf
        have hv2 : VRels ρ (args ++ cap) (args' ++ cap').toList := by simp only [Array.toList_append]; exact VRels.append _ _ _ _ hargs hcap
        refine ⟨hu.ne_run, .inr ⟨_, _, f2, args' ++ cap', rfl, hrun _ _, ?_⟩⟩
        generalize hed : enterD ih f2 (args ++ cap) um aw1 = r at hr
        have hok : r.ok := by cases r <;> first | trivial | exact hr
        have hD : CallsD PP f2 (args' ++ cap') u w (DPost ρ aw1 w r) := by
          rw [← hed]
          exact enterD_ok hs hg hw hc hv2 hu (by rw [hed]; exact hok)
        refine hD.mono ?_
        intro e u' w' hp
        cases r with
        | no => exact hp.elim
        | ret um' aw' =>
          obtain ⟨v', ρ', rfl, hu', hA'⟩ := hp
          have hAA := hA'
          refine leaves_mono ?_ _ _ _ (unwind_ok hs τ a ds ds' (settle um') (_root_.Go.settle u') ρ' aw' w' (hg.mono hAA.le) hA'.rel (hc.adv hAA) (hf.mono hAA.le) (DRels.mono hAA.le _ _ h2) (settle_rel _ _ hu') hr)
          exact fun e w hp => hp.trans hAA
        | pan ch um' aw' =>
          obtain ⟨ch', ρ', rfl, hch, hu', hA'⟩ := hp
          have hAA := hA'
          refine leaves_mono ?_ _ _ _ (unwind_ok hs τ a ds ds' (raised um' ch) (_root_.Go.raised u' ch') ρ' aw' w' (hg.mono hAA.le) hA'.rel (hc.adv hAA) (hf.mono hAA.le) (DRels.mono hAA.le _ _ h2) (raised_rel hu' hch) hr)
          exact fun e w hp => hp.trans hAA
      | _ => rw [hcf] at hr; exact hr.elim
    | _ => exact hr.elim
def bodyPostM (P : Program) (fn : Func) (R : Ending → World → Prop) : Exit → Act → World → Prop
  | .normal, a, w | .ret, a, w => LeavesM P fn a.tmps R a.defers .returning w
  | .panic chain, a, w => LeavesM P fn a.tmps R a.defers (.panicking chain) w
  | _, _, _ => False
theorem enterP_ok {ih : Ih} (hs : Sound ih) (hg : GRel ρ) (hw : WRel ρ aw w) (hc : Clean ρ aw) {f : FuncId} {vs : List AV} {args : Array Value} (hv : VRels ρ vs args.toList)
    (hr : (enterP ih f vs aw).ok) : Calls PP f args w (CPost ρ aw w (enterP ih f vs aw)) := by
  unfold enterP at hr ⊢
  cases hb : bodyOf f with
  | none => rw [hb] at hr; exact hr.elim
  | some b =>
    obtain ⟨fn, c⟩ := b
    rw [hb] at hr
    dsimp only [enterB] at hr ⊢
    obtain ⟨h1, h2, h3⟩ := bodyOf_eq hb
    generalize hst : start ih fn c f vs false .none aw = r at hr
    have hok : r.ok := by cases r <;> first | trivial | exact hr
    have key : ∀ cs, WS false none f PP c (Post ρ aw w fn.ntmps false default cs r) { tmps := args ++ Array.replicate (fn.ntmps - args.size) undef, defers := [] } cs w := by
      intro cs
      rw [← hst]
      exact start_ok hs hg hw hc h3 hv rfl (by rw [hst]; exact hok)
    have post : ∀ cs e a' cs' w', Post ρ aw w fn.ntmps false default cs r e a' cs' w' → cs' = cs ∧ bodyPostM PP fn (CPost ρ aw w (leaveK ih fn r)) e a' w' := by
      intro cs e a' cs' w' hp
      have ends : ∀ (τ : F) (ds : List AD) (um' : UM) (aw' : W), (unwind ih fn τ ds .ret aw').ok → Aft ρ aw w fn.ntmps false default cs (.mk τ ds um' aw') a' cs' w' →
          cs' = cs ∧ LeavesM PP fn a'.tmps (CPost ρ aw w (unwind ih fn τ ds .ret aw')) a'.defers .returning w' := by
        intro τ ds um' aw' ho ⟨ρ', hA, hS⟩
        refine ⟨hS.um, leaves_mono (fun e w hp => CPost.trans hA hp) _ _ _ (unwind_ok hs τ a' ds a'.defers .ret .returning ρ' aw' w' hS.g hS.wr hS.cl hS.fr hS.dr rfl ho)⟩
      cases r with
      | no => exact hp.elim
      | n S => obtain ⟨τ, ds, um', aw'⟩ := S; obtain ⟨rfl, hp⟩ := hp; exact ends τ ds um' aw' hr hp
      | r S => obtain ⟨τ, ds, um', aw'⟩ := S; obtain ⟨rfl, hp⟩ := hp; exact ends τ ds um' aw' hr hp
      | x id S => exact hr.elim
      | p ch S =>
        obtain ⟨τ, ds, um', aw'⟩ := S
        obtain ⟨ch', ρ', rfl, hch, hA, hS⟩ := hp
        exact ⟨hS.um, leaves_mono (fun e w hp => CPost.trans hA hp) _ _ _ (unwind_ok hs τ a' ds a'.defers (.pan ch) (.panicking ch') ρ' aw' w' hS.g hS.wr hS.cl hS.fr hS.dr ⟨ch', rfl, hch⟩ hr)⟩
    intro cs
    let b : Frame := { (default : Frame) with fn := f, kind := .normal, roundOf := none }
    have henter : Frame.enter PP f args .normal = b.atR { tmps := args ++ Array.replicate (fn.ntmps - args.size) undef, defers := [] } [.code c] := by
      simp [Frame.enter, Frame.atR, h1, h2, b]
    obtain ⟨e, a', cs', w', hq, harr⟩ := key cs b [] rfl rfl rfl
    rw [← henter] at harr
    have hq2 := post cs e a' cs' w' hq
    clear hq
    obtain ⟨rfl, hq⟩ := hq2
    cases e with
    | normal =>
      obtain ⟨e', w'', fr', hR, hs, hfn, hl⟩ := leavesM_steps a'.defers .returning w' { b.atR a' [] with mode := .returning } cs' rfl rfl rfl h1 rfl hq
      exact ⟨e', w'', fr', hR, Comes.of_steps (Steps.trans harr (.one (stepR_end rfl))) hs, hfn, hl⟩
    | ret =>
      obtain ⟨k', hs₀⟩ := harr
      obtain ⟨e', w'', fr', hR, hs, hfn, hl⟩ := leavesM_steps a'.defers .returning w' { b.atR a' (.code .ret :: k') with mode := .returning } cs' rfl rfl rfl h1 rfl hq
      exact ⟨e', w'', fr', hR, Comes.of_steps (Steps.trans hs₀ (.one (stepR_ret rfl))) hs, hfn, hl⟩
    | panic chain =>
      obtain ⟨todo, hs₀⟩ := harr
      obtain ⟨e', w'', fr', hR, hs, hfn, hl⟩ := leavesM_steps a'.defers (.panicking chain) w' { b.atR a' todo with mode := .panicking chain } cs' rfl rfl rfl h1 rfl hq
      exact ⟨e', w'', fr', hR, Comes.of_steps hs₀ hs, hfn, hl⟩
    | exit id => exact hq.elim
    | goto l => exact hq.elim
    | outgrown => exact harr.elim
theorem adv_kept (hw : WRel ρ aw w) {w' : World} (h : KeptW w w') : Adv ρ aw w ρ aw w' := by
  have lt : ∀ k, hget k aw.h ≠ .none → ∀ c, ρ k = some c → c < w.heap.size := by
    intro k hk c hc
    obtain ⟨d, h1, h2⟩ := hw.dom k hk
    rw [hc] at h1; cases h1
    obtain ⟨y, hy⟩ := h2.some hk
    exact (Array.getElem?_eq_some_iff.1 hy).1
  refine ⟨⟨hw.inj, ?_, ?_⟩, Env.le_refl ρ, fun _ => .inl rfl, Nat.le_refl _, h.size, fun _ h => .inl h, fun k _ h e => .inl ⟨k, h, e⟩, fun c hc _ => h.heap c hc, h.os, h.tape, h.output⟩
  · intro k hk
    obtain ⟨c, h1, h2⟩ := hw.dom k hk
    exact ⟨c, h1, by rw [h.heap c (lt k hk c h1)]; exact h2⟩
  · intro k c arr t fz hk hc hx
    rw [h.heap c (lt k hk c hc)] at hx
    exact hw.len k c arr t fz hk hc hx
theorem sameB_eq {a b : Bool} (h : sameB a b = true) : a = b := by cases a <;> cases b <;> first | rfl | cases h
theorem saSame_eq : ∀ (l m : List SA), saSame l m = true → l = m
  | [], [], _ => rfl
  | [], _ :: _, h => by cases h
  | _ :: _, [], h => by cases h
  | .mk lt a b r :: l, .mk lt' a' b' r' :: m, h => by
    simp only [saSame] at h
    obtain ⟨h1, h⟩ := bc_and.1 h
    obtain ⟨h2, h⟩ := bc_and.1 h
    obtain ⟨h3, h⟩ := bc_and.1 h
    obtain ⟨h4, h⟩ := bc_and.1 h
    rw [sameB_eq h1, seEq_eq _ _ h2, seEq_eq _ _ h3, sameB_eq h4, saSame_eq l m h]
theorem nsSame_eq : ∀ (l m : List (Nat × Nat)), nsSame l m = true → l = m
  | [], [], _ => rfl
  | [], _ :: _, h => by cases h
  | _ :: _, [], h => by cases h
  | p :: l, q :: m, h => by
    simp only [nsSame] at h
    obtain ⟨h1, h⟩ := bc_and.1 h
    obtain ⟨h2, h3⟩ := bc_and.1 h
    rw [show p = q from Prod.ext (Nat.eq_of_beq_eq_true h1) (Nat.eq_of_beq_eq_true h2), nsSame_eq l m h3]
theorem same0_eq (x y : AV) (h : same0 x y = true) : x = y := by
  unfold same0 at h
  split at h
  · rename_i a b; cases a <;> cases b <;> first | rfl | cases h
  · rename_i k m l n
    rw [bc_eq] at h
    split at h
    · rename_i hk
      have e1 : k = l := by cases k <;> cases l <;> first | rfl | cases hk
      have e2 : m = n := by
        cases m <;> cases n <;> first | (cases h; done) | (have h : Nat.beq _ _ = true := h; rw [Nat.eq_of_beq_eq_true h])
      rw [e1, e2]
    · cases h
  · rw [sEq, bc_eq] at h
    split at h
    · rename_i h1; rw [Nat.eq_of_beq_eq_true h1, Nat.eq_of_beq_eq_true h]
    · cases h
  · rfl
  · rw [bc_eq] at h
    split at h
    · rename_i h1; rw [(K.beq_iff _ _).1 h1, Nat.eq_of_beq_eq_true h]
    · cases h
  · rfl
  · simp only [bc_eq] at h
    split at h
    · rename_i h1
      split at h
      · rename_i h2
        split at h
        · rename_i h3
          rw [(K.beq_iff _ _).1 h1, Nat.eq_of_beq_eq_true h2, Nat.eq_of_beq_eq_true h3, Nat.eq_of_beq_eq_true h]
        · cases h
      · cases h
    · cases h
  · simp only [bc_eq] at h
    split at h
    · rename_i h1
      split at h
      · rename_i h2
        split at h
        · rename_i h3
          split at h
          · rename_i h4
            rw [(K.beq_iff _ _).1 h1, Nat.eq_of_beq_eq_true h2, Nat.eq_of_beq_eq_true h3, Nat.eq_of_beq_eq_true h4, Nat.eq_of_beq_eq_true h]
          · cases h
        · cases h
      · cases h
    · cases h
  · rfl
  · rw [(K.beq_iff _ _).1 h]
  · rfl
  · rfl
  · rw [(K.beq_iff _ _).1 h]
  · obtain ⟨h1, h⟩ := bc_and.1 h
    obtain ⟨h2, h3⟩ := bc_and.1 h
    rw [(kbeq_iff _ _).1 h1, seEq_eq _ _ h2, saSame_eq _ _ h3]
  · obtain ⟨h1, h⟩ := bc_and.1 h
    obtain ⟨h2, h3⟩ := bc_and.1 h
    rw [Nat.eq_of_beq_eq_true h1, seEq_eq _ _ h2, nsSame_eq _ _ h3]
  · simp only [bc_eq] at h
    split at h
    · rename_i h1
      split at h
      · rename_i h2
        split at h
        · rename_i h3
          rw [(K.beq_iff _ _).1 h1, (K.beq_iff _ _).1 h2, Nat.eq_of_beq_eq_true h3, Nat.eq_of_beq_eq_true h]
        · cases h
      · cases h
    · cases h
  · simp only [bc_eq] at h
    split at h
    · rename_i h1
      split at h
      · rename_i h2
        rw [(K.beq_iff _ _).1 h1, (K.beq_iff _ _).1 h2, Nat.eq_of_beq_eq_true h]
      · cases h
    · cases h
  · rfl
  · rfl
  · cases h
theorem same1_eq (x y : AV) (h : same1 x y = true) : x = y := by
  unfold same1 at h
  split at h
  · rw [bc_eq] at h
    split at h
    · rename_i h1; rw [Nat.eq_of_beq_eq_true h1, same0_eq _ _ h]
    · cases h
  · exact same0_eq _ _ h
theorem sameL_eq : ∀ (l m : List AV), sameL l m = true → l = m
  | [], [], _ => rfl
  | [], _ :: _, h => by cases h
  | _ :: _, [], h => by cases h
  | x :: l, y :: m, h => by
    simp only [sameL, bc_eq] at h
    split at h
    · rename_i h1; rw [same1_eq _ _ h1, sameL_eq l m h]
    · cases h
theorem listEq_eq {f : AV → AV → Bool} (hf : ∀ a b, f a b = true → a = b) : ∀ l m, listEq f l m = true → l = m
  | [], [], _ => rfl
  | [], _ :: _, h => by cases h
  | _ :: _, [], h => by cases h
  | a :: l, b :: m, h => by
    simp only [listEq] at h
    obtain ⟨h1, h2⟩ := bc_and.1 h
    rw [hf a b h1, listEq_eq hf l m h2]
theorem fnEq_eq {f g : Fn} (h : fnEq f g = true) : f = g := by
  unfold fnEq at h
  split at h
  · rw [Nat.eq_of_beq_eq_true h]
  · cases h
theorem avEq_eq : ∀ n a b, avEq n a b = true → a = b
  | 0, _, _, h => by cases h
  | n + 1, a, b, h => by
    have ih := avEq_eq n
    unfold avEq at h
    split at h
    · rw [listEq_eq ih _ _ h]
    · rw [listEq_eq ih _ _ h]
    · obtain ⟨h1, h2⟩ := bc_and.1 h
      rw [Nat.eq_of_beq_eq_true h1, ih _ _ h2]
    · obtain ⟨h1, h⟩ := bc_and.1 h
      obtain ⟨h2, h3⟩ := bc_and.1 h
      rw [fnEq_eq h1, listEq_eq ih _ _ h2, listEq_eq ih _ _ h3]
    · exact same0_eq _ _ h
theorem same2_eq (x y : AV) (h : same2 x y = true) : x = y := avEq_eq 8 x y h
theorem free_rel {v : AV} (h : free v = true) {ρ ρ' : Env} {x : Value} (hv : VRel ρ v x) : VRel ρ' v x := by
  cases v <;> first | (cases h; done) | (simp only [VRel] at hv ⊢; exact hv)
theorem frees_rel {ρ ρ' : Env} : ∀ {l : List AV} {xs : List Value}, frees l = true → VRels ρ l xs → VRels ρ' l xs
  | [], _, _, hv => by simp only [VRels] at hv ⊢; exact hv
  | v :: l, _, h, hv => by
    simp only [frees] at h
    obtain ⟨h1, h2⟩ := bc_and.1 h
    simp only [VRels] at hv ⊢
    obtain ⟨x, xs, e, q1, q2⟩ := hv
    exact ⟨x, xs, e, free_rel h1 q1, frees_rel h2 q2⟩
theorem laid_ok' (hf : ∀ g cs, LE.mk g cs ∈ laidL → g ≤ 255) (hg : GRel ρ) (hw : WRel ρ aw w) : ∀ (l : List LE), (∀ x ∈ l, x ∈ laidL) → laidIs l aw = true → LaidIn l w
  | [], _, _ => fun _ _ h => by cases h
  | .mk g cs :: l, hs, h => by
    simp only [laidIs] at h
    split at h
    · rename_i t size c hget
      obtain ⟨h1, h2⟩ := bc_and.1 h
      have h1 : t = g + 1 := Nat.eq_of_beq_eq_true h1
      have ih := laid_ok' hf hg hw l (fun x hx => hs x (List.mem_cons_of_mem _ hx)) h2
      intro g' cs' hm
      rcases List.mem_cons.1 hm with e | e
      · injection e with e1 e2
        subst e1 e2
        have hm' := hs _ (List.mem_cons_self ..)
        rw [wget_eq] at hget
        obtain ⟨k, hk, ho⟩ := hw.dom (K.of g') (by rw [hget]; simp)
        rw [hg g' (hf g' cs' hm')] at hk
        injection hk with hk
        subst hk
        rw [hget] at ho
        obtain ⟨arr, t', fz, e1, e2, e3, e4, e5⟩ := ho
        exact ⟨arr, t', fz, e1, fun ρ' => e5 g' cs' h1 hm' ρ'⟩
      · exact ih g' cs' e
    · cases h
theorem laid_le : ∀ l, laidFine l = true → ∀ g cs, LE.mk g cs ∈ l → g ≤ 255
  | [], _, _, _, h => by cases h
  | .mk g cs :: l, h, g', cs', hm => by
    simp only [laidFine] at h
    obtain ⟨h1, h2⟩ := bc_and.1 h
    simp only [Bool.and_eq_true] at h1
    rcases List.mem_cons.1 hm with e | e
    · injection e with e1 e2
      subst e1 e2
      exact Nat.le_of_ble_eq_true h1.1.1
    · exact laid_le l h2 g' cs' e
theorem laid_ok (hg : GRel ρ) (hw : WRel ρ aw w) (h : laidIs laidL aw = true) : LaidIn laidL w := laid_ok' (laid_le laidL (by kernel_rfl)) hg hw laidL (fun _ h => h) h
theorem enter_ok {ih : Ih} (hs : Sound ih) (hg : GRel ρ) (hw : WRel ρ aw w) (hc : Clean ρ aw) {f : FuncId} {vs : List AV} {args : Array Value} (hv : VRels ρ vs args.toList)
    (hr : (enter ih f vs aw).ok) : Calls PP f args w (CPost ρ aw w (enter ih f vs aw)) := by
  unfold enter at hr ⊢
  cases hh : ih.hook f vs aw with
  | none =>
    rw [hh] at hr
    exact enterP_ok hs hg hw hc hv hr
  | some r =>
    rw [hh] at hr
    exact hs.hook f vs aw r hh hr ρ args w hg hw hc hv
theorem insH_ok {g : Nat} (h : InsOk g) : HookOk (insH g) := by
  intro f vs aw r hr hok ρ args w _ hw hc hv
  unfold insH at hr
  rw [bc_eq] at hr
  split at hr
  · rename_i hf
    have hf := Nat.eq_of_beq_eq_true hf
    subst hf
    injection hr with hr
    subst hr
    cases he : insertK vs aw with
    | ret v aw' => exact insertK_ok h hw hc hv he
    | pan ch aw' => exact absurd he (insertK_pan _ _ _ _)
    | no c x => rw [he] at hok; exact hok.elim
  · cases hr
theorem orH_ok {H G : Hook} (h : HookOk H) (g : HookOk G) : HookOk (orH H G) := by
  intro f vs aw r hr
  unfold orH alsoK at hr
  split at hr
  · rename_i r' he
    injection hr with hr
    subst hr
    exact h f vs aw r' he
  · exact g f vs aw r hr
end
end Go.Ev
