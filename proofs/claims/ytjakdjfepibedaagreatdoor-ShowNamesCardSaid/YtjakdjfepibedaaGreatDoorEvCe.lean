import Derived.Test.YtjakdjfepibedaaGreatDoorEvCd
set_option linter.all false
namespace Go.Ev
/- One round of a loop over a function. -/
section
variable {ρ : Env} {aw : W} {w : World}
theorem frel_puts {nt : Nat} (hn : nt ≤ 512) : ∀ (ps : List Nat) (vs : List AV) (args : List Value) (τ : F) (tmps : Array Value), VRels ρ vs args → ps.length = vs.length → FRel ρ τ tmps → tmps.size = nt →
    FRel ρ (fputs nt ps vs τ) ((ps.zip args).foldl (fun t p => t.setIfInBounds p.1 p.2) tmps) ∧ ((ps.zip args).foldl (fun t p => t.setIfInBounds p.1 p.2) tmps).size = nt
  | [], [], args, τ, tmps, hv, _, hf, hs => by simpa [fputs] using ⟨hf, hs⟩
  | [], _ :: _, _, _, _, _, h, _, _ => by simp at h
  | _ :: _, [], _, _, _, _, h, _, _ => by simp at h
  | t :: ps, v :: vs, args, τ, tmps, hv, h, hf, hs => by
    simp only [VRels] at hv
    obtain ⟨x, xs, rfl, hx, hxs⟩ := hv
    simp only [List.zip_cons_cons, List.foldl_cons, fputs]
    exact frel_puts hn ps vs xs _ _ hxs (by simpa using h) (frel_putD hf hs hn hx t) (by simpa using hs)
/-- what the abstract heap says of a loop's record -/
theorem loop_obj (hw : WRel ρ aw w) {b : K} {c : Nat} (hc : ρ b = some c) {st : LoopState} {pend : Option Code} {fn nt : Nat} {τ : F} {ps : List Nat} {x y : Code} {kd : K} (hg : wget b aw = .loop st pend fn nt τ ps x y kd) :
    ∃ tmps cd, w.heap[c]? = some (.loop { state := st, pending := pend, fn, tmps, params := ps.toArray, assign := x, body := y, defers := cd }) ∧ ρ kd = some cd ∧ tmps.size = nt ∧ nt ≤ 512 ∧ FRel ρ τ tmps := by
  obtain ⟨c', h1, h2⟩ := hw.dom b (by rw [← wget_eq, hg]; simp)
  rw [hc] at h1; cases h1
  rw [← wget_eq, hg] at h2
  exact h2
theorem loop_set (hw : WRel ρ aw w) {b : K} {c : Nat} (hc : ρ b = some c) {st st' : LoopState} {pend pend' : Option Code} {fn nt : Nat} {τ : F} {ps : List Nat} {x y : Code} {kd : K} (hg : wget b aw = .loop st pend fn nt τ ps x y kd)
    {tmps : Array Value} {cd : Nat} (h1 : w.heap[c]? = some (.loop { state := st, pending := pend, fn, tmps, params := ps.toArray, assign := x, body := y, defers := cd })) (h2 : ρ kd = some cd) (h3 : tmps.size = nt) (h4 : nt ≤ 512) (h5 : FRel ρ τ tmps) :
    Adv ρ aw w ρ (wset b (.loop st' pend' fn nt τ ps x y kd) aw) { w with heap := w.heap.setIfInBounds c (.loop { state := st', pending := pend', fn, tmps, params := ps.toArray, assign := x, body := y, defers := cd }) } :=
  adv_setObj (obj := .loop { state := st', pending := pend', fn, tmps, params := ps.toArray, assign := x, body := y, defers := cd }) hw (by rw [hg]; simp) (by rw [hg]; rfl) hc h1 ⟨tmps, cd, rfl, h2, h3, h4, h5⟩ (by simp) (by simp)
theorem endR_ok (hw : WRel ρ aw w) {b : K} {c : Nat} (hc : ρ b = some c) {jump : Option Code} {v : AV} {aw' : W} (h : endR b jump (if jump.isNone then .ready else .done) jump.isNone aw = .ret v aw') :
    v = .bool jump.isNone ∧ ∃ w', (Instr.endRound c jump).run PP w = .ok (.bool jump.isNone) w' ∧ Adv ρ aw w ρ aw' w' := by
  unfold endR at h
  split at h
  · rename_i st pend fn nt τ ps x y kd hg
    injection h with e1 e2
    subst e1; subst e2
    obtain ⟨tmps, cd, h1, h2, h3, h4, h5⟩ := loop_obj hw hc hg
    refine ⟨rfl, _, ?_, loop_set hw hc hg h1 h2 h3 h4 h5⟩
    simp only [Instr.endRound, Instr.getLoop, Sem.run_bind, getObj_run h1 (by simp), Result.andThen_ok, Sem.run_pure, setObj_run h1 (by simp)]
  · cases h
theorem yieldE_ok {b : K} {fn : Nat} {r : R} (h : (yieldE b fn r).ok) : r.ok := by cases r <;> first | trivial | exact h
theorem yieldR_ok {ih : Ih} (hs : Sound ih) (hg : GRel ρ) (hw : WRel ρ aw w) (hcl : Clean ρ aw) {b : K} {c : Nat} (hc : ρ b = some c) {vs : List AV} {args : Array Value} (hv : VRels ρ vs args.toList) (hr : (yieldR ih b vs aw).ok) :
    ∃ f tmps x y, (Instr.yield c args).run PP w = .ok (.round c f tmps x y) w ∧ RoundC PP c f tmps x y w (CPost ρ aw w (yieldR ih b vs aw)) := by
  unfold yieldR at hr ⊢
  cases hgb : wget b aw with
  | loop st pend fn nt τ ps x y kd =>
    rw [hgb] at hr
    dsimp only at hr ⊢
    cases hl : Nat.beq (llen ps) (llen vs) with
    | false => rw [hl] at hr; exact hr.elim
    | true =>
      rw [hl] at hr
      have hr : (yieldB ih b fn nt y (ih x (.mk fn nt false (some b)) (.mk (fputs nt ps vs τ) [] .none aw))).ok := hr
      have hlen : ps.length = vs.length := by have := Nat.eq_of_beq_eq_true hl; rw [llen_eq, llen_eq] at this; exact this
      obtain ⟨tmps, cd, h1, h2, h3, h4, h5⟩ := loop_obj hw hc hgb
      have hargs : args.size = vs.length := by have := VRels.length _ _ hv; simpa using this
      have hfold : (ps.toArray.zip args).foldl (fun t (p : Nat × Value) => t.setIfInBounds p.1 p.2) tmps = (ps.zip args.toList).foldl (fun t p => t.setIfInBounds p.1 p.2) tmps := by
        rw [← Array.foldl_toList, Array.toList_zip]
      obtain ⟨hf, hsz⟩ := frel_puts h4 ps vs args.toList τ tmps hv hlen h5 h3
      refine ⟨fn, (ps.zip args.toList).foldl (fun t p => t.setIfInBounds p.1 p.2) tmps, x, y, ?_, ?_⟩
      · simp only [Instr.yield, Instr.getLoop, Sem.run_bind, getObj_run h1 (by simp), Result.andThen_ok, Sem.run_pure]
        rw [if_neg (by simp; omega)]
        simp only [Sem.run_pure]
        rw [← hfold]
      show RoundC PP c fn _ x y w (CPost ρ aw w (yieldB ih b fn nt y (ih x (.mk fn nt false (some b)) (.mk (fputs nt ps vs τ) [] .none aw))))
      intro cf cs
      let b' : Frame := { (default : Frame) with fn := fn, kind := .normal, roundOf := some c }
      have hround : Frame.round c fn ((ps.zip args.toList).foldl (fun t p => t.setIfInBounds p.1 p.2) tmps) x y .normal = b'.atR { tmps := (ps.zip args.toList).foldl (fun t p => t.setIfInBounds p.1 p.2) tmps, defers := [] } [.code x, .beginRound, .code y] := rfl
      have hS : SRel ρ nt false default (cf :: cs) (fputs nt ps vs τ) [] .none aw { tmps := (ps.zip args.toList).foldl (fun t p => t.setIfInBounds p.1 p.2) tmps, defers := [] } (cf :: cs) w := ⟨hg, hw, hcl, hf, hsz, h4, rfl, rfl⟩
      have hx := hs.go x fn nt false (some b) (some c) ρ default (cf :: cs) (fputs nt ps vs τ) [] .none aw _ (cf :: cs) w hS ⟨c, hc, rfl⟩
      generalize ih x (.mk fn nt false (some b)) (.mk (fputs nt ps vs τ) [] .none aw) = r1 at hr hx
      cases r1 with
      | no => exact hr.elim
      | x => exact hr.elim
      | r => exact hr.elim
      | p => exact hr.elim
      | n S1 =>
        obtain ⟨τ1, ds1, um1, aw1⟩ := S1
        cases ds1 with
        | cons _ _ => exact hr.elim
        | nil =>
          obtain ⟨e, a1, cs1, w1, ⟨rfl, ρ1, hA1, hS1⟩, harr⟩ := (hx trivial).1 b' [.beginRound, .code y] rfl rfl rfl
          have hcs1 : cs1 = cf :: cs := hS1.um
          subst hcs1
          simp only [yieldB] at hr ⊢
          cases hg1 : wget b aw1 with
          | loop st1 pend1 fn1 nt1 τ1' ps1 x1 y1 kd1 =>
            rw [hg1] at hr
            cases st1 <;> try exact hr.elim
            dsimp only at hr ⊢
            have hc1 : ρ1 b = some c := (hA1.le _ _ hc).1
            obtain ⟨tmps1, cd1, q1, q2, q3, q4, q5⟩ := loop_obj hS1.wr hc1 hg1
            have hA2 := loop_set (st' := .busy) (pend' := pend1) hS1.wr hc1 hg1 q1 q2 q3 q4 q5
            have hbegin : (Instr.beginRound c).run PP w1 = .ok () { w1 with heap := w1.heap.setIfInBounds c (.loop { state := .busy, pending := pend1, fn := fn1, tmps := tmps1, params := ps1.toArray, assign := x1, body := y1, defers := cd1 }) } := by
              simp only [Instr.beginRound, Instr.getLoop, Sem.run_bind, getObj_run q1 (by simp), Result.andThen_ok, Sem.run_pure, setObj_run q1 (by simp)]
            generalize hw2 : ({ w1 with heap := w1.heap.setIfInBounds c (.loop { state := .busy, pending := pend1, fn := fn1, tmps := tmps1, params := ps1.toArray, assign := x1, body := y1, defers := cd1 }) } : World) = w2 at hA2 hbegin
            have hsteps : Steps PP (lone (Frame.round c fn ((ps.zip args.toList).foldl (fun t p => t.setIfInBounds p.1 p.2) tmps) x y .normal) (cf :: cs) w) (lone (b'.atR a1 [.code y]) (cf :: cs) w2) := by
              rw [hround]
              exact Steps.trans harr (.one (stepR_beginRound rfl hbegin))
            have hS2 := hS1.adv hA2
            have hy := hs.go y fn nt false (some b) (some c) ρ1 default (cf :: cs) τ1 [] um1 _ a1 (cf :: cs) w2 hS2 ⟨c, hc1, rfl⟩
            generalize ih y (.mk fn nt false (some b)) (.mk τ1 [] um1 (wset b (.loop .busy pend1 fn1 nt1 τ1' ps1 x1 y1 kd1) aw1)) = r2 at hr hy
            have hAA := hA1.trans hA2
            cases r2 with
            | no => exact hr.elim
            | n S3 =>
              obtain ⟨τ3, ds3, um3, aw3⟩ := S3
              cases ds3 with
              | cons _ _ => exact hr.elim
              | nil =>
                obtain ⟨e, a3, cs3, w3, ⟨rfl, ρ3, hA3, hS3⟩, harr3⟩ := (hy trivial).1 b' [] rfl rfl rfl
                have hcs3 : cs3 = cf :: cs := hS3.um
                subst hcs3
                simp only [yieldE] at hr ⊢
                cases he : endR b none .ready true aw3 with
                | ret v aw4 =>
                  obtain ⟨rfl, w4, hrun, hA4⟩ := endR_ok (jump := none) hS3.wr (hA3.le _ _ hc1).1 he
                  exact ⟨.returned (.bool true), w4, ⟨_, ρ3, rfl, by simp only [VRel]; rfl, hAA.trans (hA3.trans hA4)⟩, Steps.trans hsteps (Steps.trans harr3 (.one (stepR_round_end rfl rfl hrun)))⟩
                | pan _ _ => unfold endR at he; split at he <;> cases he
                | no _ _ => rw [he] at hr; exact hr.elim
            | x id S3 =>
              obtain ⟨τ3, ds3, um3, aw3⟩ := S3
              cases ds3 with
              | cons _ _ => exact hr.elim
              | nil =>
                obtain ⟨e, a3, cs3, w3, ⟨rfl, ρ3, hA3, hS3⟩, harr3⟩ := (hy trivial).1 b' [] rfl rfl rfl
                have hcs3 : cs3 = cf :: cs := hS3.um
                subst hcs3
                simp only [yieldE] at hr ⊢
                obtain ⟨k', hk', hst⟩ := harr3.2 rfl
                cases he : endR b (some (.exit id)) .done false aw3 with
                | ret v aw4 =>
                  obtain ⟨rfl, w4, hrun, hA4⟩ := endR_ok (jump := some (.exit id)) hS3.wr (hA3.le _ _ hc1).1 he
                  exact ⟨.returned (.bool false), w4, ⟨_, ρ3, rfl, by simp only [VRel]; rfl, hAA.trans (hA3.trans hA4)⟩, Steps.trans hsteps (Steps.trans hst (.one (stepR_round_exit rfl rfl hk' hrun)))⟩
                | pan _ _ => unfold endR at he; split at he <;> cases he
                | no _ _ => rw [he] at hr; exact hr.elim
            | r S3 =>
              obtain ⟨τ3, ds3, um3, aw3⟩ := S3
              cases ds3 with
              | cons _ _ => exact hr.elim
              | nil =>
                obtain ⟨e, a3, cs3, w3, ⟨rfl, ρ3, hA3, hS3⟩, harr3⟩ := (hy trivial).1 b' [] rfl rfl rfl
                have hcs3 : cs3 = cf :: cs := hS3.um
                subst hcs3
                simp only [yieldE] at hr ⊢
                obtain ⟨k', hst⟩ := harr3
                cases he : endR b (some .ret) .done false aw3 with
                | ret v aw4 =>
                  obtain ⟨rfl, w4, hrun, hA4⟩ := endR_ok (jump := some .ret) hS3.wr (hA3.le _ _ hc1).1 he
                  exact ⟨.returned (.bool false), w4, ⟨_, ρ3, rfl, by simp only [VRel]; rfl, hAA.trans (hA3.trans hA4)⟩, Steps.trans hsteps (Steps.trans hst (.one (stepR_round_ret rfl rfl hrun)))⟩
                | pan _ _ => unfold endR at he; split at he <;> cases he
                | no _ _ => rw [he] at hr; exact hr.elim
            | p ch S3 =>
              obtain ⟨τ3, ds3, um3, aw3⟩ := S3
              cases ds3 with
              | cons _ _ => exact hr.elim
              | nil =>
                obtain ⟨e, a3, cs3, w3, ⟨ch', ρ3, rfl, hch, hA3, hS3⟩, todo, hst⟩ := (hy trivial).1 b' [] rfl rfl rfl
                have hcs3 : cs3 = cf :: cs := hS3.um
                subst hcs3
                simp only [yieldE] at hr ⊢
                cases hfn : fnOf fn with
                | none => rw [hfn] at hr; exact hr.elim
                | some fnn =>
                  refine ⟨.panicked ch', w3, ⟨ch', ρ3, rfl, hch, hAA.trans hA3⟩, Steps.trans hsteps (Steps.trans hst (.one (step_leave_panicked ⟨rfl, hS3.dr, fnn, fnOf_eq hfn⟩)))⟩
          | _ => rw [hg1] at hr; exact hr.elim
  | _ => rw [hgb] at hr; exact hr.elim
end
end Go.Ev
set_option linter.all false
namespace Go.Ev
/- Operations in a row, and control: sound. -/
section
variable {ρ : Env} {nt : Nat} {d : Bool} {rk : Option K} {ro : Option Nat} {c₀ : Frame} {cs₀ : List Frame} {τ : F} {ds : List AD} {um : UM} {aw : W} {a : Act} {cs : List Frame} {w : World}
theorem upon_mono {P : Program} {o : Oper} {a : Act} {next next' : Act → World → Prop} {Q Q' : Exit → Act → World → Prop} (h : ∀ a w, next a w → next' a w) (hq : ∀ e a w, Q e a w → Q' e a w) {r : Result Next}
    (hr : o.upon P a next Q r) : o.upon P a next' Q' r := by
  cases r with
  | ok n w' =>
    cases n <;> simp only [Oper.upon] at hr ⊢
    case enter f args =>
      refine Calls.mono hr fun e w'' he => ?_
      cases e with
      | returned v => exact h _ _ he
      | panicked c => exact hq _ _ _ he
      | outgrown => obtain ⟨a, w, he⟩ := he; exact ⟨a, w, hq _ _ _ he⟩
    case row row args => exact Rows.mono hr fun v w'' he => h _ _ he
    all_goals exact h _ _ hr
  | halt x w' => cases x <;> simp only [Oper.upon] at hr ⊢; exact hq _ _ _ hr
theorem wnext_mono {P : Program} {o : Oper} {a : Act} {cs : List Frame} {K K' : Act → List Frame → World → Prop} {Q Q' : Exit → Act → List Frame → World → Prop} (hk : ∀ a cs w, K a cs w → K' a cs w) (hq : ∀ e a cs w, Q e a cs w → Q' e a cs w) {r : Result Next}
    (h : WNext d ro P o a cs K Q r) : WNext d ro P o a cs K' Q' r := by
  unfold WNext at h ⊢
  split
  · dsimp only at h
    cases ro with
    | some l' => exact h.elim
    | none =>
      dsimp only at h ⊢
      split
      · rename_i v cs' hrec; simp only [hrec] at h; exact hk _ _ _ h
      · rename_i hrec; simp only [hrec] at h; exact hk _ _ _ h
  · refine RoundC.mono h fun e w'' he => ?_
    cases e with
    | returned v => exact hk _ _ _ he
    | panicked ch => exact hq _ _ _ _ he
    | outgrown => exact he
  · rename_i r hnot hnot2
    split at h
    · rename_i w'; exact absurd rfl (hnot w')
    · rename_i l' f tmps x y w'; exact absurd rfl (hnot2 l' f tmps x y w')
    · exact upon_mono (fun a w => hk a cs w) (fun e a w he => ⟨he.1, hq e a cs w he.2⟩) h
theorem wops_mono {P : Program} {ops : Array Oper} {Q Q' : Exit → Act → List Frame → World → Prop} (hq : ∀ e a cs w, Q e a cs w → Q' e a cs w) : ∀ (l : List Nat) (a : Act) (cs : List Frame) (w : World), WOps d ro P ops Q l a cs w → WOps d ro P ops Q' l a cs w
  | [], _, _, _, h => hq _ _ _ _ h
  | i :: l, a, cs, w, h => by
    simp only [WOps] at h ⊢
    split
    · rename_i ho; simp only [ho] at h; exact wops_mono hq l _ _ _ h
    · rename_i o ho
      simp only [ho] at h
      split
      · rename_i hw
        simp only [hw, if_true] at h
        exact wnext_mono (wops_mono hq l) hq h
      · rename_i hw
        simp only [hw] at h
        exact wops_mono hq l _ _ _ h
theorem wants_ok {ops : Array Oper} {o : Oper} {g : Nat × Bool} (hg : o.guard = some g) (hf : FRel ρ τ a.tmps) {b : Bool} (h : wants g ops.toList τ = some b) : Region.wanted o (yielded ops a.tmps) = b := by
  obtain ⟨j, want⟩ := g
  unfold wants at h
  rw [nth_eq] at h
  simp only [Array.getElem?_toList] at h
  unfold Region.wanted yielded
  simp only [hg]
  cases hd : (ops[j]?).bind (·.dst) with
  | none => rw [hd] at h; cases h
  | some t =>
    rw [hd] at h
    dsimp only at h ⊢
    simp only [Option.bind_some]
    have ht := hf t
    rw [Array.getD_eq_getD_getElem?] at ht
    split at h
    · rename_i b' hb
      rw [hb] at ht
      simp only [VRel] at ht
      injection h with h
      subst h
      cases hx : a.tmps[t]? with
      | none => rw [hx] at ht; cases ht
      | some v =>
        rw [hx] at ht
        have ht : v = .bool b' := ht
        subst ht
        show (some b' == some want) = (b' == want)
        cases b' <;> cases want <;> rfl
    · rename_i l hb
      rw [hb] at ht
      simp only [VRel] at ht
      obtain ⟨ys, ht, _⟩ := ht
      injection h with h
      subst h
      cases hx : a.tmps[t]? with
      | none => rfl
      | some v =>
        rw [hx] at ht
        have ht : v = .tuple ys := ht
        subst ht
        rfl
    · cases h
theorem not_defer {o : Op} {τ : F} {aw : W} (h : (∃ v a, fOp o τ aw = .val v a) ∨ (∃ f vs a, fOp o τ aw = .call f vs a) ∨ (∃ b vs a, fOp o τ aw = .yld b vs a) ∨ (∃ v a, fOp o τ aw = .pan v a) ∨ (∃ a, fOp o τ aw = .rcv a)) (c : Call) : o ≠ .defer c := by
  rintro rfl
  have : fOp (.defer c) τ aw = evDefer c τ aw := rfl
  rw [this] at h
  unfold evDefer at h
  split at h
  · split at h <;> simp at h
  · simp at h
/-- one operation that is wanted -/
theorem op_step {ih : Ih} (hs : Sound ih) {ops : Array Oper} {f : Nat} {o : Oper} (l : List Nat) (IH : Oh) (h : SRel ρ nt d c₀ cs₀ τ ds um aw a cs w) (hro : RoRel ρ rk ro)
    (hr : (oGo o.dst o.op IH ih ops.toList (.mk f nt d rk) (.mk τ ds um aw)).ok)
    (next : ∀ (ρ' : Env) (τ' : F) (ds' : List AD) (um' : UM) (aw' : W) (a' : Act) (cs' : List Frame) (w' : World), SRel ρ' nt d c₀ cs₀ τ' ds' um' aw' a' cs' w' → Adv ρ aw w ρ' aw' w' →
      (IH ih ops.toList (.mk f nt d rk) (.mk τ' ds' um' aw')).ok → WOps d ro PP ops (Post ρ aw w nt d c₀ cs₀ (IH ih ops.toList (.mk f nt d rk) (.mk τ' ds' um' aw'))) l a' cs' w') :
    WNext d ro PP o a cs (WOps d ro PP ops (Post ρ aw w nt d c₀ cs₀ (oGo o.dst o.op IH ih ops.toList (.mk f nt d rk) (.mk τ ds um aw))) l) (Post ρ aw w nt d c₀ cs₀ (oGo o.dst o.op IH ih ops.toList (.mk f nt d rk) (.mk τ ds um aw))) ((o.semAt ro a.eval).run PP w) := by
  have hn := NOK.le (op_ok (τ := τ) (e := a.eval) h.wr (eval_rel h) o) (fOp_le o.op τ aw)
  have hgo : oGo o.dst o.op IH ih ops.toList (.mk f nt d rk) (.mk τ ds um aw) = orK (fOp o.op τ aw) o.dst IH ih ops.toList (.mk f nt d rk) τ ds um := rfl
  rw [hgo] at hr ⊢
  cases hop : fOp o.op τ aw with
  | val v aw' =>
    rw [hop] at hn hr
    rw [Oper.semAt_eq ro a.eval o (not_defer (.inl ⟨_, _, hop⟩))]
    obtain ⟨ρ', w', hA, hrun⟩ := hn (h.cl.fresh _)
    rcases hrun with ⟨v', hrun, hv⟩ | ⟨hrun, hv⟩
    · rw [hrun]
      exact next ρ' _ _ _ _ _ _ _ ((h.adv hA).put hv o.dst) hA hr
    · rw [hrun]
      subst hv
      exact next ρ' _ _ _ _ _ _ _ ((h.adv hA).put (undef_rel ρ') o.dst) hA hr
  | call g vs aw' =>
    rw [hop] at hn hr
    rw [Oper.semAt_eq ro a.eval o (not_defer (.inr (.inl ⟨_, _, _, hop⟩)))]
    obtain ⟨ρ', w', args, hA, hrun, hv⟩ := hn (h.cl.fresh _)
    rw [hrun]
    have hr' : (crK (enter ih g vs aw') o.dst IH ih ops.toList (.mk f nt d rk) τ ds um).ok := hr
    show Calls PP g args w' _
    change Calls PP g args w' (fun
      | .returned v, w'' => WOps d ro PP ops (Post ρ aw w nt d c₀ cs₀ (crK (enter ih g vs aw') o.dst IH ih ops.toList (.mk f nt d rk) τ ds um)) l (a.put o.dst v) cs w''
      | .panicked chain, w'' => (Exit.panic chain ≠ .outgrown ∧ Post ρ aw w nt d c₀ cs₀ (crK (enter ih g vs aw') o.dst IH ih ops.toList (.mk f nt d rk) τ ds um) (.panic chain) a cs w'')
      | .outgrown, _ => LetsOut fun e a' w' => e ≠ .outgrown ∧ Post ρ aw w nt d c₀ cs₀ (crK (enter ih g vs aw') o.dst IH ih ops.toList (.mk f nt d rk) τ ds um) e a' cs w')
    generalize he : enter ih g vs aw' = r at hr'
    have hok : r.ok := by cases r <;> first | trivial | exact hr'
    have hC : Calls PP g args w' (CPost ρ' aw' w' r) := by
      rw [← he]
      exact enter_ok hs (h.g.mono hA.le) hA.rel (h.cl.adv hA) hv (by rw [he]; exact hok)
    refine Calls.mono hC fun e w'' hp => ?_
    cases r with
    | no => exact hp.elim
    | ret v aw2 =>
      obtain ⟨v', ρ2, rfl, hv', hA2⟩ := hp
      exact next ρ2 _ _ _ _ _ _ _ ((h.adv (hA.trans hA2)).put hv' o.dst) (hA.trans hA2) hr'
    | pan ch aw2 =>
      obtain ⟨ch', ρ2, rfl, hch, hA2⟩ := hp
      exact ⟨by simp, ch', ρ2, rfl, hch, hA.trans hA2, h.adv (hA.trans hA2)⟩
  | yld b vs aw' =>
    rw [hop] at hn hr
    rw [Oper.semAt_eq ro a.eval o (not_defer (.inr (.inr (.inl ⟨_, _, _, hop⟩))))]
    obtain ⟨rfl, c, args, hc, hrun, hv⟩ := hn
    have hr' : (crK (yieldR ih b vs aw') o.dst IH ih ops.toList (.mk f nt d rk) τ ds um).ok := hr
    show WNext d ro PP o a cs (WOps d ro PP ops (Post ρ aw' w nt d c₀ cs₀ (crK (yieldR ih b vs aw') o.dst IH ih ops.toList (.mk f nt d rk) τ ds um)) l) (Post ρ aw' w nt d c₀ cs₀ (crK (yieldR ih b vs aw') o.dst IH ih ops.toList (.mk f nt d rk) τ ds um)) ((execOp a.eval o).run PP w)
    generalize he : yieldR ih b vs aw' = r at hr'
    have hok : r.ok := by cases r <;> first | trivial | exact hr'
    obtain ⟨f', tmps, x, y, hy, hR⟩ := yieldR_ok hs h.g h.wr h.cl hc hv (by rw [he]; exact hok)
    rw [hrun, hy]
    rw [he] at hR
    refine RoundC.mono hR fun e w'' hp => ?_
    cases r with
    | no => exact hp.elim
    | ret v aw2 =>
      obtain ⟨v', ρ2, rfl, hv', hA2⟩ := hp
      exact next ρ2 _ _ _ _ _ _ _ ((h.adv hA2).put hv' o.dst) hA2 hr'
    | pan ch aw2 =>
      obtain ⟨ch', ρ2, rfl, hch, hA2⟩ := hp
      exact ⟨ch', ρ2, rfl, hch, hA2, h.adv hA2⟩
  | pan v aw' =>
    rw [hop] at hn
    rw [Oper.semAt_eq ro a.eval o (not_defer (.inr (.inr (.inr (.inl ⟨_, _, hop⟩)))))]
    obtain ⟨rfl, v', hrun, hv⟩ := hn
    rw [hrun]
    exact ⟨by simp, _, ρ, rfl, ⟨v', [], rfl, hv, rfl⟩, Adv.refl h.wr, h⟩
  | dfr dd aw' =>
    rw [hop] at hn hr
    cases rk with
    | some k => exact hr.elim
    | none =>
      have hro : ro = none := hro
      subst hro
      rw [Oper.semAt_none]
      obtain ⟨rfl, d', hrun, hd⟩ := hn
      rw [hrun]
      refine next ρ _ _ _ _ _ _ _ (SRel.put (a := { a with defers := d' :: a.defers }) ⟨h.g, h.wr, h.cl, h.fr, h.sz, h.le, (show DRels ρ (dd :: ds) (d' :: a.defers) from ⟨d', a.defers, rfl, hd, h.dr⟩), h.um⟩ (undef_rel ρ) o.dst) (Adv.refl h.wr) hr
  | rcv aw' =>
    rw [hop] at hn hr
    cases rk with
    | some k => exact hr.elim
    | none =>
    have hro : ro = none := hro
    subst hro
    rw [Oper.semAt_none]
    obtain ⟨rfl, hrun⟩ := hn
    rw [hrun]
    have nil : ∀ um, CsRel ρ d c₀ cs₀ um cs → recK d cs = none → oRcv aw' o.dst IH ih ops.toList (.mk f nt d none) τ ds um = IH ih ops.toList (.mk f nt d none) (.mk (fput nt o.dst .nilIface τ) ds um aw') →
        (oRcv aw' o.dst IH ih ops.toList (.mk f nt d none) τ ds um).ok → (match recK d cs with
        | some (v, cs') => WOps d none PP ops (Post ρ aw' w nt d c₀ cs₀ (oRcv aw' o.dst IH ih ops.toList (.mk f nt d none) τ ds um)) l (a.put o.dst v) cs' w
        | none => WOps d none PP ops (Post ρ aw' w nt d c₀ cs₀ (oRcv aw' o.dst IH ih ops.toList (.mk f nt d none) τ ds um)) l (a.put o.dst .nilIface) cs w) := by
      intro um hcs hk he hr
      rw [hk]
      rw [he] at hr ⊢
      exact next ρ _ _ _ _ _ _ _ (SRel.put ⟨h.g, h.wr, h.cl, h.fr, h.sz, h.le, h.dr, hcs⟩ (by simp only [VRel]) o.dst) (Adv.refl h.wr) hr
    have hcs := h.um
    show (match recK d cs with
        | some (v, cs') => WOps d none PP ops (Post ρ aw' w nt d c₀ cs₀ (oRcv aw' o.dst IH ih ops.toList (.mk f nt d none) τ ds um)) l (a.put o.dst v) cs' w
        | none => WOps d none PP ops (Post ρ aw' w nt d c₀ cs₀ (oRcv aw' o.dst IH ih ops.toList (.mk f nt d none) τ ds um)) l (a.put o.dst .nilIface) cs w)
    have hr : (oRcv aw' o.dst IH ih ops.toList (.mk f nt d none) τ ds um).ok := hr
    cases d with
    | false => exact nil um hcs rfl rfl hr
    | true =>
      obtain ⟨u, hcs', hu⟩ := hcs
      cases um with
      | none => exact hu.elim
      | ret =>
        have hu : u = .returning := hu
        subst hu
        exact nil .ret h.um (by rw [hcs']; rfl) rfl hr
      | pan ch =>
        cases ch with
        | nil =>
          obtain ⟨ch', rfl, hch⟩ := hu
          have hch : ch' = [] := hch
          subst hch
          exact nil _ h.um (by rw [hcs']; rfl) rfl hr
        | cons p ch =>
          obtain ⟨v, r⟩ := p
          obtain ⟨_, rfl, v', ch', rfl, hv, hch⟩ := hu
          cases r with
          | true => exact nil _ h.um (by rw [hcs']; rfl) rfl hr
          | false =>
            have hk : recK true cs = some (v', { c₀ with mode := .panicking ({ v := v', recovered := true } :: ch') } :: cs₀) := by rw [hcs']; rfl
            rw [hk]
            exact next ρ _ _ _ _ _ _ _ (SRel.put (um := .pan (.mk v true :: ch)) (cs := { c₀ with mode := .panicking ({ v := v', recovered := true } :: ch') } :: cs₀)
              ⟨h.g, h.wr, h.cl, h.fr, h.sz, h.le, h.dr, (show CsRel ρ true c₀ cs₀ _ _ from ⟨_, rfl, _, rfl, v', ch', rfl, hv, hch⟩)⟩ hv o.dst) (Adv.refl h.wr) hr
  | no c => rw [hop] at hr; exact hr.elim
theorem ops_ok {ih : Ih} (hs : Sound ih) {ops : Array Oper} {f : Nat} : ∀ (l : List Oper) (i : Nat), ops.toList.drop i = l → ∀ (ρ : Env) (τ : F) (ds : List AD) (um : UM) (aw : W) (a : Act) (cs : List Frame) (w : World),
    SRel ρ nt d c₀ cs₀ τ ds um aw a cs w → RoRel ρ rk ro → (evOps l ih ops.toList (.mk f nt d rk) (.mk τ ds um aw)).ok →
    WOps d ro PP ops (Post ρ aw w nt d c₀ cs₀ (evOps l ih ops.toList (.mk f nt d rk) (.mk τ ds um aw))) (List.range' i l.length) a cs w
  | [], i, hl, ρ, τ, ds, um, aw, a, cs, w, h, hro, hr => ⟨rfl, ρ, Adv.refl h.wr, h⟩
  | o :: l, i, hl, ρ, τ, ds, um, aw, a, cs, w, h, hro, hr => by
    have ho : ops[i]? = some o := by
      have := congrArg (·[0]?) hl
      simpa using this
    have hl' : ops.toList.drop (i + 1) = l := by
      have := congrArg List.tail hl
      simpa using this
    have next : ∀ (ρ' : Env) (τ' : F) (ds' : List AD) (um' : UM) (aw' : W) (a' : Act) (cs' : List Frame) (w' : World), SRel ρ' nt d c₀ cs₀ τ' ds' um' aw' a' cs' w' → Adv ρ aw w ρ' aw' w' →
      (evOps l ih ops.toList (.mk f nt d rk) (.mk τ' ds' um' aw')).ok → WOps d ro PP ops (Post ρ aw w nt d c₀ cs₀ (evOps l ih ops.toList (.mk f nt d rk) (.mk τ' ds' um' aw'))) (List.range' (i + 1) l.length) a' cs' w' :=
      fun ρ' τ' ds' um' aw' a' cs' w' h' hA hr' => wops_mono (fun e a cs w hp => hp.trans hA) _ _ _ _ (ops_ok hs l (i + 1) hl' ρ' τ' ds' um' aw' a' cs' w' h' (hro.mono hA.le) hr')
    rw [List.length_cons, List.range'_succ]
    simp only [WOps, ho]
    obtain ⟨dst, op, ty, p, q, g⟩ := o
    have hev : evOps (⟨dst, op, ty, p, q, g⟩ :: l) ih ops.toList (.mk f nt d rk) (.mk τ ds um aw) = oGuards g dst op (evOps l) ih ops.toList (.mk f nt d rk) (.mk τ ds um aw) := rfl
    rw [hev] at hr ⊢
    cases g with
    | none =>
      rw [if_pos (show Region.wanted _ _ = true from rfl)]
      exact op_step hs (o := ⟨dst, op, ty, p, q, none⟩) _ (evOps l) h hro hr next
    | some g =>
      have hev : oGuards (some g) dst op (evOps l) ih ops.toList (.mk f nt d rk) (.mk τ ds um aw) = (match wants g ops.toList τ with
        | some true => oGo dst op (evOps l) ih ops.toList (.mk f nt d rk) (.mk τ ds um aw)
        | some false => oSkip dst (evOps l) ih ops.toList (.mk f nt d rk) (.mk τ ds um aw)
        | none => .no 213 f) := rfl
      rw [hev] at hr ⊢
      cases hw : wants g ops.toList τ with
      | none => rw [hw] at hr; exact hr.elim
      | some b =>
        rw [hw] at hr
        rw [wants_ok (o := ⟨dst, op, ty, p, q, some g⟩) rfl h.fr hw]
        cases b with
        | true =>
          rw [if_pos rfl]
          exact op_step hs (o := ⟨dst, op, ty, p, q, some g⟩) _ (evOps l) h hro hr next
        | false =>
          rw [if_neg (by simp)]
          exact next ρ _ _ _ _ _ _ _ (h.put (undef_rel ρ) dst) (Adv.refl h.wr) hr
end
end Go.Ev
