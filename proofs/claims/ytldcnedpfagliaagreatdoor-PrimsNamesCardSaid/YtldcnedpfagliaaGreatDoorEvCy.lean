import Derived.Test.YtldcnedpfagliaaGreatDoorEvCd
set_option linter.all false
namespace Go.Ev
/- One round of a loop over a function. -/
section
variable {ρ : Env} {aw : W} {w : World}
theorem frel_puts {nt : Nat} (hn : nt ≤ 512) : ∀ (ps : List Nat) (vs : List AV) (args : List Value) (τ : F) (tmps : Array Value), VRels ρ vs args → ps.length = vs.length → FRel ρ τ tmps → tmps.size = nt →
    FRel ρ (fputs nt ps vs τ) ((ps.zip args).foldl (fun t p => t.setIfInBounds p.1 p.2) tmps) ∧ ((ps.zip args).foldl (fun t p => t.setIfInBounds p.1 p.2) tmps).size = nt
  | [], [], args, τ, tmps, hv, _, hf, hs => by simpa [fputs] using ⟨hf, hs⟩
  | [], _ :: _, _, _, _, _, h, _, _ => by simp at h
  | _ :: _, [], _, _, _, _, h, _, _ => by simp at h
  | t :: ps, v :: vs, args, τ, tmps, hv, h, hf, hs => by
    simp only [VRels] at hv
    obtain ⟨x, xs, rfl, hx, hxs⟩ := hv
    simp only [List.zip_cons_cons, List.foldl_cons, fputs]
    exact frel_puts hn ps vs xs _ _ hxs (by simpa using h) (frel_putD hf hs hn hx t) (by simpa using hs)
/-- what the abstract heap says of a loop's record -/
theorem loop_obj (hw : WRel ρ aw w) {b : K} {c : Nat} (hc : ρ b = some c) {st : LoopState} {pend : Option Code} {fn nt : Nat} {τ : F} {ps : List Nat} {x y : Code} {kd : K} (hg : wget b aw = .loop st pend fn nt τ ps x y kd) :
    ∃ tmps cd, w.heap[c]? = some (.loop { state := st, pending := pend, fn, tmps, params := ps.toArray, assign := x, body := y, defers := cd }) ∧ ρ kd = some cd ∧ tmps.size = nt ∧ nt ≤ 512 ∧ FRel ρ τ tmps := by
  obtain ⟨c', h1, h2⟩ := hw.dom b (by rw [← wget_eq, hg]; simp)
  rw [hc] at h1; cases h1
  rw [← wget_eq, hg] at h2
  exact h2
theorem loop_set (hw : WRel ρ aw w) {b : K} {c : Nat} (hc : ρ b = some c) {st st' : LoopState} {pend pend' : Option Code} {fn nt : Nat} {τ : F} {ps : List Nat} {x y : Code} {kd : K} (hg : wget b aw = .loop st pend fn nt τ ps x y kd)
    {tmps : Array Value} {cd : Nat} (h1 : w.heap[c]? = some (.loop { state := st, pending := pend, fn, tmps, params := ps.toArray, assign := x, body := y, defers := cd })) (h2 : ρ kd = some cd) (h3 : tmps.size = nt) (h4 : nt ≤ 512) (h5 : FRel ρ τ tmps) :
    Adv ρ aw w ρ (wset b (.loop st' pend' fn nt τ ps x y kd) aw) { w with heap := w.heap.setIfInBounds c (.loop { state := st', pending := pend', fn, tmps, params := ps.toArray, assign := x, body := y, defers := cd }) } :=
  adv_setObj (obj := .loop { state := st', pending := pend', fn, tmps, params := ps.toArray, assign := x, body := y, defers := cd }) hw (by rw [hg]; simp) (by rw [hg]; rfl) hc h1 ⟨tmps, cd, rfl, h2, h3, h4, h5⟩ (by simp) (by simp)
theorem endR_ok (hw : WRel ρ aw w) {b : K} {c : Nat} (hc : ρ b = some c) {jump : Option Code} {v : AV} {aw' : W} (h : endR b jump (if jump.isNone then .ready else .done) jump.isNone aw = .ret v aw') :
    v = .bool jump.isNone ∧ ∃ w', (Instr.endRound c jump).run PP w = .ok (.bool jump.isNone) w' ∧ Adv ρ aw w ρ aw' w' := by
  unfold endR at h
  split at h
  · rename_i st pend fn nt τ ps x y kd hg
    injection h with e1 e2
    subst e1; subst e2
    obtain ⟨tmps, cd, h1, h2, h3, h4, h5⟩ := loop_obj hw hc hg
    refine ⟨rfl, _, ?_, loop_set hw hc hg h1 h2 h3 h4 h5⟩
    simp only [Instr.endRound, Instr.getLoop, Sem.run_bind, getObj_run h1 (by simp), Result.andThen_ok, Sem.run_pure, setObj_run h1 (by simp)]
  · cases h
theorem yieldE_ok {b : K} {fn : Nat} {r : R} (h : (yieldE b fn r).ok) : r.ok := by cases r <;> first | trivial | exact h
theorem yieldR_ok {ih : Ih} (hs : Sound ih) (hg : GRel ρ) (hw : WRel ρ aw w) (hcl : Clean ρ aw) {b : K} {c : Nat} (hc : ρ b = some c) {vs : List AV} {args : Array Value} (hv : VRels ρ vs args.toList) (hr : (yieldR ih b vs aw).ok) :
    ∃ f tmps x y, (Instr.yield c args).run PP w = .ok (.round c f tmps x y) w ∧ RoundC PP c f tmps x y w (CPost ρ aw w (yieldR ih b vs aw)) := by
  unfold yieldR at hr ⊢
  cases hgb : wget b aw with
  | loop st pend fn nt τ ps x y kd =>
    rw [hgb] at hr
    dsimp only at hr ⊢
    cases hl : Nat.beq (llen ps) (llen vs) with
    | false => rw [hl] at hr; exact hr.elim
    | true =>
      rw [hl] at hr
      have hr : (yieldB ih b fn nt y (ih x (.mk fn nt false (some b)) (.mk (fputs nt ps vs τ) [] .none aw))).ok := hr
      have hlen : ps.length = vs.length := by have := Nat.eq_of_beq_eq_true hl; rw [llen_eq, llen_eq] at this; exact this
      obtain ⟨tmps, cd, h1, h2, h3, h4, h5⟩ := loop_obj hw hc hgb
      have hargs : args.size = vs.length := by have := VRels.length _ _ hv; simpa using this
      have hfold : (ps.toArray.zip args).foldl (fun t (p : Nat × Value) => t.setIfInBounds p.1 p.2) tmps = (ps.zip args.toList).foldl (fun t p => t.setIfInBounds p.1 p.2) tmps := by
        rw [← Array.foldl_toList, Array.toList_zip]
      obtain ⟨hf, hsz⟩ := frel_puts h4 ps vs args.toList τ tmps hv hlen h5 h3
      refine ⟨fn, (ps.zip args.toList).foldl (fun t p => t.setIfInBounds p.1 p.2) tmps, x, y, ?_, ?_⟩
      · simp only [Instr.yield, Instr.getLoop, Sem.run_bind, getObj_run h1 (by simp), Result.andThen_ok, Sem.run_pure]
        rw [if_neg (by simp; omega)]
        simp only [Sem.run_pure]
        rw [← hfold]
      show RoundC PP c fn _ x y w (CPost ρ aw w (yieldB ih b fn nt y (ih x (.mk fn nt false (some b)) (.mk (fputs nt ps vs τ) [] .none aw))))
      intro cf cs
      let b' : Frame := { (default : Frame) with fn := fn, kind := .normal, roundOf := some c }
      have hround : Frame.round c fn ((ps.zip args.toList).foldl (fun t p => t.setIfInBounds p.1 p.2) tmps) x y .normal = b'.atR { tmps := (ps.zip args.toList).foldl (fun t p => t.setIfInBounds p.1 p.2) tmps, defers := [] } [.code x, .beginRound, .code y] := rfl
      have hS : SRel ρ nt false default (cf :: cs) (fputs nt ps vs τ) [] .none aw { tmps := (ps.zip args.toList).foldl (fun t p => t.setIfInBounds p.1 p.2) tmps, defers := [] } (cf :: cs) w := ⟨hg, hw, hcl, hf, hsz, h4, rfl, rfl⟩
      have hx := hs.go x fn nt false (some b) (some c) ρ default (cf :: cs) (fputs nt ps vs τ) [] .none aw _ (cf :: cs) w hS ⟨c, hc, rfl⟩
      generalize ih x (.mk fn nt false (some b)) (.mk (fputs nt ps vs τ) [] .none aw) = r1 at hr hx
      cases r1 with
      | no => exact hr.elim
      | x => exact hr.elim
      | r => exact hr.elim
      | p => exact hr.elim
      | n S1 =>
        obtain ⟨τ1, ds1, um1, aw1⟩ := S1
        cases ds1 with
        | cons _ _ => exact hr.elim
        | nil =>
          obtain ⟨e, a1, cs1, w1, ⟨rfl, ρ1, hA1, hS1⟩, harr⟩ := (hx trivial).1 b' [.beginRound, .code y] rfl rfl rfl
          have hcs1 : cs1 = cf :: cs := hS1.um
          subst hcs1
          simp only [yieldB] at hr ⊢
          cases hg1 : wget b aw1 with
          | loop st1 pend1 fn1 nt1 τ1' ps1 x1 y1 kd1 =>
            rw [hg1] at hr
            cases st1 <;> try exact hr.elim
            dsimp only at hr ⊢
            have hc1 : ρ1 b = some c := (hA1.le _ _ hc).1
            obtain ⟨tmps1, cd1, q1, q2, q3, q4, q5⟩ := loop_obj hS1.wr hc1 hg1
            have hA2 := loop_set (st' := .busy) (pend' := pend1) hS1.wr hc1 hg1 q1 q2 q3 q4 q5
            have hbegin : (Instr.beginRound c).run PP w1 = .ok () { w1 with heap := w1.heap.setIfInBounds c (.loop { state := .busy, pending := pend1, fn := fn1, tmps := tmps1, params := ps1.toArray, assign := x1, body := y1, defers := cd1 }) } := by
              simp only [Instr.beginRound, Instr.getLoop, Sem.run_bind, getObj_run q1 (by simp), Result.andThen_ok, Sem.run_pure, setObj_run q1 (by simp)]
            generalize hw2 : ({ w1 with heap := w1.heap.setIfInBounds c (.loop { state := .busy, pending := pend1, fn := fn1, tmps := tmps1, params := ps1.toArray, assign := x1, body := y1, defers := cd1 }) } : World) = w2 at hA2 hbegin
            have hsteps : Steps PP (lone (Frame.round c fn ((ps.zip args.toList).foldl (fun t p => t.setIfInBounds p.1 p.2) tmps) x y .normal) (cf :: cs) w) (lone (b'.atR a1 [.code y]) (cf :: cs) w2) := by
              rw [hround]
              exact Steps.trans harr (.one (stepR_beginRound rfl hbegin))
            have hS2 := hS1.adv hA2
            have hy := hs.go y fn nt false (some b) (some c) ρ1 default (cf :: cs) τ1 [] um1 _ a1 (cf :: cs) w2 hS2 ⟨c, hc1, rfl⟩
            generalize ih y (.mk fn nt false (some b)) (.mk τ1 [] um1 (wset b (.loop .busy pend1 fn1 nt1 τ1' ps1 x1 y1 kd1) aw1)) = r2 at hr hy
            have hAA := hA1.trans hA2
            cases r2 with
            | no => exact hr.elim
            | n S3 =>
              obtain ⟨τ3, ds3, um3, aw3⟩ := S3
              cases ds3 with
              | cons _ _ => exact hr.elim
              | nil =>
                obtain ⟨e, a3, cs3, w3, ⟨rfl, ρ3, hA3, hS3⟩, harr3⟩ := (hy trivial).1 b' [] rfl rfl rfl
                have hcs3 : cs3 = cf :: cs := hS3.um
                subst hcs3
                simp only [yieldE] at hr ⊢
                cases he : endR b none .ready true aw3 with
                | ret v aw4 =>
                  obtain ⟨rfl, w4, hrun, hA4⟩ := endR_ok (jump := none) hS3.wr (hA3.le _ _ hc1).1 he
                  exact ⟨.returned (.bool true), w4, ⟨_, ρ3, rfl, by simp only [VRel]; rfl, hAA.trans (hA3.trans hA4)⟩, Steps.trans hsteps (Steps.trans harr3 (.one (stepR_round_end rfl rfl hrun)))⟩
                | pan _ _ => unfold endR at he; split at he <;> cases he
                | no _ _ => rw [he] at hr; exact hr.elim
            | x id S3 =>
              obtain ⟨τ3, ds3, um3, aw3⟩ := S3
              cases ds3 with
              | cons _ _ => exact hr.elim
              | nil =>
                obtain ⟨e, a3, cs3, w3, ⟨rfl, ρ3, hA3, hS3⟩, harr3⟩ := (hy trivial).1 b' [] rfl rfl rfl
                have hcs3 : cs3 = cf :: cs := hS3.um
                subst hcs3
                simp only [yieldE] at hr ⊢
                obtain ⟨k', hk', hst⟩ := harr3.2 rfl
                cases he : endR b (some (.exit id)) .done false aw3 with
                | ret v aw4 =>
                  obtain ⟨rfl, w4, hrun, hA4⟩ := endR_ok (jump := some (.exit id)) hS3.wr (hA3.le _ _ hc1).1 he
                  exact ⟨.returned (.bool false), w4, ⟨_, ρ3, rfl, by simp only [VRel]; rfl, hAA.trans (hA3.trans hA4)⟩, Steps.trans hsteps (Steps.trans hst (.one (stepR_round_exit rfl rfl hk' hrun)))⟩
                | pan _ _ => unfold endR at he; split at he <;> cases he
                | no _ _ => rw [he] at hr; exact hr.elim
            | r S3 =>
              obtain ⟨τ3, ds3, um3, aw3⟩ := S3
              cases ds3 with
              | cons _ _ => exact hr.elim
              | nil =>
                obtain ⟨e, a3, cs3, w3, ⟨rfl, ρ3, hA3, hS3⟩, harr3⟩ := (hy trivial).1 b' [] rfl rfl rfl
                have hcs3 : cs3 = cf :: cs := hS3.um
                subst hcs3
                simp only [yieldE] at hr ⊢
                obtain ⟨k', hst⟩ := harr3
                cases he : endR b (some .ret) .done false aw3 with
                | ret v aw4 =>
                  obtain ⟨rfl, w4, hrun, hA4⟩ := endR_ok (jump := some .ret) hS3.wr (hA3.le _ _ hc1).1 he
                  exact ⟨.returned (.bool false), w4, ⟨_, ρ3, rfl, by simp only [VRel]; rfl, hAA.trans (hA3.trans hA4)⟩, Steps.trans hsteps (Steps.trans hst (.one (stepR_round_ret rfl rfl hrun)))⟩
                | pan _ _ => unfold endR at he; split at he <;> cases he
                | no _ _ => rw [he] at hr; exact hr.elim
            | p ch S3 =>
              obtain ⟨τ3, ds3, um3, aw3⟩ := S3
              cases ds3 with
              | cons _ _ => exact hr.elim
              | nil =>
                obtain ⟨e, a3, cs3, w3, ⟨ch', ρ3, rfl, hch, hA3, hS3⟩, todo, hst⟩ := (hy trivial).1 b' [] rfl rfl rfl
                have hcs3 : cs3 = cf :: cs := hS3.um
                subst hcs3
                simp only [yieldE] at hr ⊢
                cases hfn : fnOf fn with
                | none => rw [hfn] at hr; exact hr.elim
                | some fnn =>
                  refine ⟨.panicked ch', w3, ⟨ch', ρ3, rfl, hch, hAA.trans hA3⟩, Steps.trans hsteps (Steps.trans hst (.one (step_leave_panicked ⟨rfl, hS3.dr, fnn, fnOf_eq hfn⟩)))⟩
          | _ => rw [hg1] at hr; exact hr.elim
  | _ => rw [hgb] at hr; exact hr.elim
end
end Go.Ev
