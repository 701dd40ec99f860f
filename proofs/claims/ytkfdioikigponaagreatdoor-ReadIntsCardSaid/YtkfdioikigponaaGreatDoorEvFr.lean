import Derived.Test.YtkfdioikigponaaGreatDoorEvDf
import GoSem.ClaimChange
import GoSem.ClaimJoined
import Derived.ChangeArms
import Derived.OpenShut
set_option linter.all false
namespace Go.Ev
variable [Gv]
/- Control: sound. -/
section
variable {ρ : Env} {nt : Nat} {d : Bool} {rk : Option K} {ro : Option Nat} {c₀ : Frame} {cs₀ : List Frame} {τ : F} {ds : List AD} {um : UM} {aw : W} {a : Act} {cs : List Frame} {w : World}
theorem post_then {r1 : R} {Q : Exit → Act → List Frame → World → Prop} {next : Act → List Frame → World → Prop} {e : Exit} {a' : Act} {cs' : List Frame} {w' : World}
    (hn : ∀ τ' ds' um' aw', r1 = .n (.mk τ' ds' um' aw') → Aft ρ aw w nt d c₀ cs₀ (.mk τ' ds' um' aw') a' cs' w' → next a' cs' w')
    (ho : (∀ S, r1 ≠ .n S) → Q e a' cs' w') (hp : Post ρ aw w nt d c₀ cs₀ r1 e a' cs' w') : Exit.thenS next Q e a' cs' w' := by
  cases r1 with
  | n S =>
    obtain ⟨τ', ds', um', aw'⟩ := S
    obtain ⟨rfl, hp⟩ := hp
    exact hn τ' ds' um' aw' rfl hp
  | x id S => obtain ⟨rfl, _⟩ := hp; exact ho (fun S h => by cases h)
  | r S => obtain ⟨rfl, _⟩ := hp; exact ho (fun S h => by cases h)
  | p ch S => obtain ⟨τ', ds', um', aw'⟩ := S; obtain ⟨ch', ρ', rfl, _⟩ := hp; exact ho (fun S h => by cases h)
  | no _ _ => exact hp.elim
theorem seqK_ok {r : R} {ih : Ih} {b : Code} {C : Ctx} (h : (seqK r ih b C).ok) : r.ok := by cases r <;> first | trivial | exact h
theorem seqK_other {r : R} {ih : Ih} {b : Code} {C : Ctx} (h : ∀ S, r ≠ .n S) : seqK r ih b C = r := by
  cases r with
  | n S => exact absurd rfl (h S)
  | _ => rfl
theorem K.of_of (k : K) : K.of k.num = k := by
  obtain ⟨a, b, c, d⟩ := k
  apply K.num_inj
  have la : ∀ i : I, i.num < 16 := by intro i; cases i <;> decide
  have h1 := la a; have h2 := la b; have h3 := la c; have h4 := la d
  show ((((I.of ((K.mk a b c d).num / 4096 % 16)).num * 16 + (I.of ((K.mk a b c d).num / 256 % 16)).num) * 16 + (I.of ((K.mk a b c d).num / 16 % 16)).num) * 16 + (I.of ((K.mk a b c d).num % 16)).num) = _
  rw [I.of_num _ (by omega), I.of_num _ (by omega), I.of_num _ (by omega), I.of_num _ (by omega), K.num_mk]
  omega
/-- a loop over a function -/
theorem range_ok' {ih : Ih} (hs : Sound ih) {f : Nat} {g : Operand} {ps : Array Tmp} {x y : Code} (h : SRel ρ nt d c₀ cs₀ τ ds um aw a cs w) (hro : RoRel ρ rk ro) (hr : (cRange g ps x y ih (.mk f nt d rk) (.mk τ ds um aw)).ok) :
    WS d ro f PP (.rangeFunc g ps x y) (Post ρ aw w nt d c₀ cs₀ (cRange g ps x y ih (.mk f nt d rk) (.mk τ ds um aw))) a cs w := by
  obtain ⟨h0, nx⟩ := aw
  cases rk with
  | some k => exact hr.elim
  | none =>
    have hro : ro = none := hro
    subst hro
    have hcr : cRange g ps x y ih (.mk f nt d none) (.mk τ ds um (.mk h0 nx)) = bc nx.isMax (.no 246 0) (bc nx.succ.isMax (.no 246 1)
      (rangeB ih f τ (.coll nx :: ds) um nx.succ (callV (evX g τ) [.func (.yield nx.succ.num) [] []] (.mk (hset nx.succ (.loop .ready none f nt τ ps.toList x y nx) (hset nx (.deferred (some [])) h0)) nx.succ.succ)))) := rfl
    rw [hcr] at hr ⊢
    cases hm : nx.isMax with
    | true => rw [hm] at hr; exact hr.elim
    | false =>
      rw [hm] at hr
      cases hm2 : nx.succ.isMax with
      | true => rw [hm2] at hr; exact hr.elim
      | false =>
        rw [hm2] at hr
        have hsucc := K.succ_num hm
        have hA1 : Adv ρ (.mk h0 nx) w (upd ρ nx w.heap.size 0) (.mk (hset nx (.deferred (some [])) h0) nx.succ) (w.alloc (.deferred (some []))) :=
          adv_new (obj := .deferred (some [])) h.wr (h.cl nx (Nat.le_refl _)) hm rfl
        have hS1 := h.adv hA1
        have hA2 : Adv (upd ρ nx w.heap.size 0) (.mk (hset nx (.deferred (some [])) h0) nx.succ) (w.alloc (.deferred (some []))) (upd (upd ρ nx w.heap.size 0) nx.succ (w.alloc (.deferred (some []))).heap.size 0)
            (.mk (hset nx.succ (.loop .ready none f nt τ ps.toList x y nx) (hset nx (.deferred (some [])) h0)) nx.succ.succ) ((w.alloc (.deferred (some []))).alloc (.loop { state := .ready, pending := none, fn := f, tmps := a.tmps, params := ps, assign := x, body := y, defers := w.heap.size })) :=
          adv_new (o := .loop .ready none f nt τ ps.toList x y nx) (obj := .loop { state := .ready, pending := none, fn := f, tmps := a.tmps, params := ps, assign := x, body := y, defers := w.heap.size }) hS1.wr (hS1.cl nx.succ (Nat.le_refl _)) hm2
            ⟨a.tmps, w.heap.size, rfl, upd_same ρ nx _ _, h.sz, h.le, hS1.fr⟩
        have hS2 := hS1.adv hA2
        have hl : (upd (upd ρ nx w.heap.size 0) nx.succ (w.alloc (.deferred (some []))).heap.size 0) nx.succ = some (w.alloc (.deferred (some []))).heap.size := upd_same _ _ _ _
        have hl0 : (upd (upd ρ nx w.heap.size 0) nx.succ (w.alloc (.deferred (some []))).heap.size 0) nx = some w.heap.size := by
          rw [upd_ne _ (by intro e; rw [← e] at hsucc; omega)]; exact upd_same _ _ _ _
        generalize hL : (w.alloc (.deferred (some []))).heap.size = L at hA2 hS2 hl hl0
        have henter : (Instr.enterLoop f a.tmps ps x y none).run PP w = .ok (L, [{ target := .collected w.heap.size, args := #[] }]) ((w.alloc (.deferred (some []))).alloc (.loop { state := .ready, pending := none, fn := f, tmps := a.tmps, params := ps, assign := x, body := y, defers := w.heap.size })) := by
          simp only [Instr.enterLoop, Sem.run_bind, run_newObj, Result.andThen_ok, Sem.run_pure]
          rw [← hL]
          rfl
        generalize hw2 : (w.alloc (.deferred (some []))).alloc (.loop { state := .ready, pending := none, fn := f, tmps := a.tmps, params := ps, assign := x, body := y, defers := w.heap.size }) = w2 at hA2 hS2 henter
        generalize hρ2 : upd (upd ρ nx w.heap.size 0) nx.succ L 0 = ρ2 at hA2 hS2 hl hl0
        have hyv : VRels ρ2 [.func (.yield nx.succ.num) [] []] (#[Value.func (.yield L) #[] #[]] : Array Value).toList := by
          simp only [VRels, VRel]
          refine ⟨_, [], rfl, ⟨.yield L, #[], #[], rfl, ⟨L, ?_, rfl⟩, rfl, rfl⟩, rfl⟩
          rw [K.of_of]; exact hl
        have hN := callV_ok hS2.wr (eval_rel hS2 g) hyv
        have hAA := hA1.trans hA2
        have hr : (rangeB ih f τ (.coll nx :: ds) um nx.succ (callV (evX g τ) [.func (.yield nx.succ.num) [] []] (.mk (hset nx.succ (.loop .ready none f nt τ ps.toList x y nx) (hset nx (.deferred (some [])) h0)) nx.succ.succ))).ok := hr
        show WS d none f PP (.rangeFunc g ps x y) (Post ρ (.mk h0 nx) w nt d c₀ cs₀ (rangeB ih f τ (.coll nx :: ds) um nx.succ (callV (evX g τ) [.func (.yield nx.succ.num) [] []] (.mk (hset nx.succ (.loop .ready none f nt τ ps.toList x y nx) (hset nx (.deferred (some [])) h0)) nx.succ.succ)))) a cs w
        cases hcv : callV (evX g τ) [.func (.yield nx.succ.num) [] []] (.mk (hset nx.succ (.loop .ready none f nt τ ps.toList x y nx) (hset nx (.deferred (some [])) h0)) nx.succ.succ) with
        | call fid vs aw3 =>
          rw [hcv] at hN hr
          obtain ⟨ρ3, w3, args, hA3, hrun, hv⟩ := hN (hS2.cl.fresh _)
          simp only [rangeB] at hr ⊢
          have hS3 : SRel ρ3 nt d c₀ cs₀ τ (.coll nx :: ds) um aw3 { a with defers := { target := .collected w.heap.size, args := #[] } :: a.defers } cs w3 := by
            have := hS2.adv hA3
            exact ⟨this.g, this.wr, this.cl, this.fr, this.sz, this.le, ⟨_, _, rfl, ⟨w.heap.size, (hA3.le _ _ hl0).1, rfl⟩, this.dr⟩, this.um⟩
          have hA13 := hAA.trans hA3
          have hl3 : ρ3 nx.succ = some L := (hA3.le _ _ hl).1
          generalize he : enter ih fid vs aw3 = r at hr
          have hok : r.ok := by cases r <;> first | trivial | exact hr
          have hC : Calls PP fid args w3 (CPost ρ3 aw3 w3 r) := by
            rw [← he]
            exact enter_ok hs hS3.g hS3.wr hS3.cl hv (by rw [he]; exact hok)
          intro b k hb hr1 hf1
          have hstep : step PP (lone (b.atR a (.code (.rangeFunc g ps x y) :: k)) cs w) =
              .next (lone (Frame.enter PP fid args .normal) (b.atR { a with defers := { target := .collected w.heap.size, args := #[] } :: a.defers } (.inRangeFunc L :: k) :: cs) w3) := by
            simp only [Sem.run_bind] at hrun
            cases hd : (Deferred.ofValue (a.eval g) #[Value.func (.yield L) #[] #[]]).run PP w2 with
            | halt _ _ => rw [hd] at hrun; cases hrun
            | ok dd w2' =>
              rw [hd] at hrun
              simp only [Result.andThen_ok] at hrun
              refine stepR_rangeFunc (mark := [{ target := .collected w.heap.size, args := #[] }]) (d := dd) (w₁ := w2) (w₁' := w2') ?_ ?_ hrun
              · rw [hf1, hr1]; exact henter
              · simp only [resolve, rangeCall, List.map_toArray, List.map_cons, List.map_nil]
                exact hd
          obtain ⟨e, w4, fr, hR, hsteps, _, hleave⟩ := hC (b.atR { a with defers := { target := .collected w.heap.size, args := #[] } :: a.defers } (.inRangeFunc L :: k) :: cs)
          cases r with
          | no => exact hR.elim
          | pan ch aw4 =>
            obtain ⟨ch', ρ4, rfl, hch, hA4⟩ := hR
            refine ⟨.panic ch', _, cs, w4, ⟨ch', ρ4, rfl, hch, hA13.trans hA4, hS3.adv hA4⟩, .inRangeFunc L :: k, .head hstep (hsteps.trans (.one ?_))⟩
            rw [← Frame.raise_atR]; exact step_leave_panicked hleave
          | ret v aw4 =>
            obtain ⟨v', ρ4, rfl, hv', hA4⟩ := hR
            have hS4 := hS3.adv hA4
            have hl4 : ρ4 nx.succ = some L := (hA4.le _ _ hl3).1
            have hback : Steps PP (lone (b.atR a (.code (.rangeFunc g ps x y) :: k)) cs w) (lone (b.atR { a with defers := { target := .collected w.heap.size, args := #[] } :: a.defers } (.endRangeFunc L :: k)) cs w4) := by
              refine .head hstep (hsteps.trans (.one ?_))
              have := step_leave_returned (c := b.atR { a with defers := { target := .collected w.heap.size, args := #[] } :: a.defers } (.inRangeFunc L :: k)) (cs := cs) hleave
              exact this
            simp only [rangeE] at hr ⊢
            cases hg4 : wget nx.succ aw4 with
            | loop st pend fn5 nt5 τ5 ps5 x5 y5 kd5 =>
              rw [hg4] at hr
              dsimp only at hr ⊢
              obtain ⟨tmps5, cd5, q1, q2, q3, q4, q5⟩ := loop_obj hS4.wr hl4 hg4
              have hA5 := loop_set (st' := .exhausted) (pend' := pend) hS4.wr hl4 hg4 q1 q2 q3 q4 q5
              have hS5 := hS4.adv hA5
              have hfin := hA13.trans (hA4.trans hA5)
              have hend : st ≠ .busy → (Instr.endLoop L).run PP w4 = .ok pend { w4 with heap := w4.heap.setIfInBounds L (.loop { state := .exhausted, pending := pend, fn := fn5, tmps := tmps5, params := ps5.toArray, assign := x5, body := y5, defers := cd5 }) } := by
                intro hst
                have hb : (st == LoopState.busy) = false := by cases st <;> first | rfl | exact absurd rfl hst
                simp only [Instr.endLoop, Instr.getLoop, Sem.run_bind, getObj_run q1 (by simp), Result.andThen_ok, Sem.run_pure, hb, Bool.false_eq_true, if_false, setObj_run q1 (by simp)]
              have hst : st ≠ .busy := by rintro rfl; exact hr.elim
              have hbc : ∀ (u v : R), bc (isBusy st) u v = v := by intro u v; cases st <;> first | rfl | exact absurd rfl hst
              rw [hbc] at hr ⊢
              have hgo := stepR_endRangeFunc (b := b) (a := { a with defers := { target := .collected w.heap.size, args := #[] } :: a.defers }) (k := k) (cs := cs) (hend hst)
              cases pend with
              | none => exact ⟨.normal, _, cs, _, ⟨rfl, ρ4, hfin, hS5⟩, hback.trans (.one hgo)⟩
              | some j =>
                cases j with
                | exit id =>
                  have hgo : step PP _ = .next (lone (b.atR _ (.code (.exit id) :: k)) cs _) := hgo
                  exact ⟨.exit id, _, cs, _, ⟨rfl, ρ4, hfin, hS5⟩, fun k' hk => hback.trans (.head hgo (.one (stepR_exit hk))), fun hn => ⟨k, hn, hback.trans (.one hgo)⟩⟩
                | ret =>
                  have hgo : step PP _ = .next (lone (b.atR _ (.code .ret :: k)) cs _) := hgo
                  exact ⟨.ret, _, cs, _, ⟨rfl, ρ4, hfin, hS5⟩, k, hback.trans (.one hgo)⟩
                | _ => exact hr.elim
            | _ => rw [hg4] at hr; exact hr.elim
        | _ => rw [hcv] at hr; exact hr.elim
/-- a loop: one round, then the loop as it is known -/
theorem loopP_ok {ih : Ih} (hs : Sound ih) {f : Nat} {b : Code} (h : SRel ρ nt d c₀ cs₀ τ ds um aw a cs w) (hro : RoRel ρ rk ro) (hin : rk = none → InF f (.loop b)) (hr : (cLoopP b ih (.mk f nt d rk) (.mk τ ds um aw)).ok) :
    WS d ro f PP (.loop b) (Post ρ aw w nt d c₀ cs₀ (cLoopP b ih (.mk f nt d rk) (.mk τ ds um aw))) a cs w ∧ WL d ro f PP b (Post ρ aw w nt d c₀ cs₀ (cLoopP b ih (.mk f nt d rk) (.mk τ ds um aw))) a cs w := by
  have hr : (seqK (ih b (.mk f nt d rk) (.mk τ ds um aw)) ih (.loop b) (.mk f nt d rk)).ok := hr
  show WS d ro f PP (.loop b) (Post ρ aw w nt d c₀ cs₀ (seqK (ih b (.mk f nt d rk) (.mk τ ds um aw)) ih (.loop b) (.mk f nt d rk))) a cs w ∧ WL d ro f PP b (Post ρ aw w nt d c₀ cs₀ (seqK (ih b (.mk f nt d rk) (.mk τ ds um aw)) ih (.loop b) (.mk f nt d rk))) a cs w
  have h1 := (hs.go b f nt d rk ro ρ c₀ cs₀ τ ds um aw a cs w h hro (fun e => (hin e).sub fun _ => .loop) (seqK_ok hr)).1
  generalize ih b (.mk f nt d rk) (.mk τ ds um aw) = r at hr h1
  exact ws_loop (Q := Post ρ aw w nt d c₀ cs₀ (seqK r ih (.loop b) (.mk f nt d rk))) (ws_mono h1 fun e a' cs' w' hp => post_then (next := WL d ro f PP b (Post ρ aw w nt d c₀ cs₀ (seqK r ih (.loop b) (.mk f nt d rk)))) (by
    rintro τ' ds' um' aw' rfl ⟨ρ', hA, hS⟩
    have := (hs.go (.loop b) f nt d rk ro ρ' c₀ cs₀ τ' ds' um' aw' a' cs' w' hS (hro.mono hA.le) hin hr).2 b rfl
    intro bb k hb hr1 hf1
    obtain ⟨e, a2, cs2, w2, q, r⟩ := this bb k hb hr1 hf1
    exact ⟨e, a2, cs2, w2, Post.trans hA q, r⟩) (fun ho => by rw [seqK_other ho]; exact hp) hp)
theorem step_ok {ih : Ih} (hs : Sound ih) : Sound ⟨ih.hook, stepC ih, ih.lp⟩ := by
  refine ⟨hs.hook, hs.lp, ?_⟩
  intro c f nt d rk ro ρ c₀ cs₀ τ ds um aw a cs w h hro hin hr
  have noloop : ∀ {Q : Exit → Act → List Frame → World → Prop} {c : Code}, (∀ b, c ≠ .loop b) → ∀ b, c = .loop b → WL d ro f PP b Q a cs w := fun h b e => absurd e (h b)
  cases c with
  | skip => exact ⟨ws_skip ⟨rfl, ρ, Adv.refl h.wr, h⟩, noloop (fun b e => by cases e)⟩
  | region id ops draw =>
    refine ⟨?_, noloop (fun b e => by cases e)⟩
    cases draw with
    | false =>
      have hr : (evOps ops.toList ih ops.toList (.mk f nt d rk) (.mk τ ds um aw)).ok := hr
      have := ops_ok hs (ops := ops) (f := f) ops.toList 0 rfl ρ τ ds um aw a cs w h hro hr
      refine ws_region ?_
      rw [List.range_eq_range']
      rw [Array.length_toList] at this
      exact this
    | true => exact draw_ok hs h hr
  | seq x y =>
    refine ⟨?_, noloop (fun b e => by cases e)⟩
    have hr : (seqK (ih x (.mk f nt d rk) (.mk τ ds um aw)) ih y (.mk f nt d rk)).ok := hr
    show WS d ro f PP (.seq x y) (Post ρ aw w nt d c₀ cs₀ (seqK (ih x (.mk f nt d rk) (.mk τ ds um aw)) ih y (.mk f nt d rk))) a cs w
    have h1 := (hs.go x f nt d rk ro ρ c₀ cs₀ τ ds um aw a cs w h hro (fun e => (hin e).sub fun _ => .seqL) (seqK_ok hr)).1
    generalize ih x (.mk f nt d rk) (.mk τ ds um aw) = r at hr h1
    refine ws_seq (ws_mono h1 fun e a' cs' w' hp => post_then ?_ (fun ho => by rw [seqK_other ho]; exact hp) hp)
    rintro τ' ds' um' aw' rfl ⟨ρ', hA, hS⟩
    exact ws_mono (hs.go y f nt d rk ro ρ' c₀ cs₀ τ' ds' um' aw' a' cs' w' hS (hro.mono hA.le) (fun e => (hin e).sub fun _ => .seqR) hr).1 fun e a cs w hp => hp.trans hA
  | cond c x y =>
    refine ⟨?_, noloop (fun b e => by cases e)⟩
    have hr : (condK (evX c τ) x y ih (.mk f nt d rk) (.mk τ ds um aw)).ok := hr
    show WS d ro f PP (.cond c x y) (Post ρ aw w nt d c₀ cs₀ (condK (evX c τ) x y ih (.mk f nt d rk) (.mk τ ds um aw))) a cs w
    have hv := eval_rel h c
    generalize evX c τ = v at hr hv
    cases v with
    | bool b =>
      simp only [VRel] at hv
      refine ws_cond hv ?_
      have hr : (ih (bc b x y) (.mk f nt d rk) (.mk τ ds um aw)).ok := hr
      have h1 := (hs.go (bc b x y) f nt d rk ro ρ c₀ cs₀ τ ds um aw a cs w h hro (fun e => (hin e).sub fun z hz => by cases b <;> first | exact .condT hz | exact .condF hz) hr).1
      rw [bc_eq] at h1
      show WS d ro f PP _ (Post ρ aw w nt d c₀ cs₀ (ih (bc b x y) (.mk f nt d rk) (.mk τ ds um aw))) a cs w
      rw [bc_eq]
      exact h1
    | _ => exact hr.elim
  | block id b =>
    refine ⟨?_, noloop (fun b e => by cases e)⟩
    have hr : (blockK (ih b (.mk f nt d rk) (.mk τ ds um aw)) id).ok := hr
    show WS d ro f PP (.block id b) (Post ρ aw w nt d c₀ cs₀ (blockK (ih b (.mk f nt d rk) (.mk τ ds um aw)) id)) a cs w
    have h1 := hs.go b f nt d rk ro ρ c₀ cs₀ τ ds um aw a cs w h hro (fun e => (hin e).sub fun _ => .block)
    generalize ih b (.mk f nt d rk) (.mk τ ds um aw) = r at hr h1
    refine ws_block (ws_mono (h1 (by cases r <;> first | trivial | exact hr)).1 fun e a' cs' w' hp => ?_)
    cases r with
    | n S => obtain ⟨rfl, hp⟩ := hp; exact ⟨rfl, hp⟩
    | x id' S =>
      obtain ⟨rfl, hp⟩ := hp
      show (if id' = id then Post ρ aw w nt d c₀ cs₀ (bc (Nat.beq id' id) (.n S) (.x id' S)) .normal a' cs' w' else Post ρ aw w nt d c₀ cs₀ (bc (Nat.beq id' id) (.n S) (.x id' S)) (.exit id') a' cs' w')
      by_cases e : id' = id
      · subst e; rw [if_pos rfl, Nat.beq_refl]; exact ⟨rfl, hp⟩
      · rw [if_neg e, bc_eq, if_neg (fun x => e (Nat.eq_of_beq_eq_true x))]; exact ⟨rfl, hp⟩
    | r S => obtain ⟨rfl, hp⟩ := hp; exact ⟨rfl, hp⟩
    | p ch S => obtain ⟨τ', ds', um', aw'⟩ := S; obtain ⟨ch', ρ', rfl, hp⟩ := hp; exact ⟨ch', ρ', rfl, hp⟩
    | no _ _ => exact hr.elim
  | loop b =>
    have hr : (loopK (ih.lp (.mk f nt d rk) b (.mk τ ds um aw)) b ih (.mk f nt d rk) (.mk τ ds um aw)).ok := hr
    show WS d ro f PP (.loop b) (Post ρ aw w nt d c₀ cs₀ (loopK (ih.lp (.mk f nt d rk) b (.mk τ ds um aw)) b ih (.mk f nt d rk) (.mk τ ds um aw))) a cs w ∧ ∀ b', Code.loop b = .loop b' →
      WL d ro f PP b' (Post ρ aw w nt d c₀ cs₀ (loopK (ih.lp (.mk f nt d rk) b (.mk τ ds um aw)) b ih (.mk f nt d rk) (.mk τ ds um aw))) a cs w
    cases hl : ih.lp (.mk f nt d rk) b (.mk τ ds um aw) with
    | some r =>
      rw [hl] at hr
      obtain ⟨hk, key⟩ := hs.lp f nt d rk b τ ds um aw r hl hr
      subst hk
      have hro : ro = none := hro
      subst hro
      have key := key (hin rfl) ρ c₀ cs₀ a cs w h
      exact ⟨key.1, fun b' e => by cases e; exact key.2⟩
    | none =>
      rw [hl] at hr
      have key := loopP_ok hs h hro hin hr
      exact ⟨key.1, fun b' e => by cases e; exact key.2⟩
  | rangeFunc g ps x y => exact ⟨range_ok' hs h hro hr, noloop (fun b e => by cases e)⟩
  | exit id => exact ⟨ws_exit ⟨rfl, ρ, Adv.refl h.wr, h⟩, noloop (fun b e => by cases e)⟩
  | scope b => exact hr.elim
  | label l => exact ⟨ws_label ⟨rfl, ρ, Adv.refl h.wr, h⟩, noloop (fun b e => by cases e)⟩
  | goto l => exact hr.elim
  | ret => exact ⟨ws_ret ⟨rfl, ρ, Adv.refl h.wr, h⟩, noloop (fun b e => by cases e)⟩
  | refuse s => exact hr.elim
theorem runL_ok {H : Hook} (hH : HookOk H) {L : LHook} (hL : LpOk L) : ∀ n, Sound (runL H L n)
  | 0 => ⟨hH, hL, fun _ _ _ _ _ _ _ _ _ _ _ _ _ _ _ _ _ _ _ hr => hr.elim⟩
  | n + 1 => step_ok (runL_ok hH hL n)
theorem run_ok {H : Hook} (hH : HookOk H) (n : Nat) : Sound (run H n) := runL_ok hH noLp_ok n
end
end Go.Ev
set_option linter.all false
namespace Go.Ev
variable [Gv]
/- From a closed run of the evaluator to a call of the program. -/
theorem pp_eq : PP = Go.Proofs.Tryz.prog := by unfold PP; rfl
theorem K.of_num' {x : Nat} (h : x < 65536) : (K.of x).num = x := by
  show ((((I.of (x / 4096 % 16)).num * 16 + (I.of (x / 256 % 16)).num) * 16 + (I.of (x / 16 % 16)).num) * 16 + (I.of (x % 16)).num) = x
  rw [I.of_num _ (by omega), I.of_num _ (by omega), I.of_num _ (by omega), I.of_num _ (by omega)]
  omega
noncomputable def szOf (k : K) : List LE → Nat
  | [] => 0
  | .mk g cs :: l => if K.of g = k then cs.length else szOf k l
noncomputable def ρ00 : Env := { blk := fun k => if k.num ≤ 255 then some k.num else none, sz := fun k => szOf k laidL }
theorem grel00 : GRel ρ00 := by
  intro g hg
  show (if (K.of g).num ≤ 255 then some (K.of g).num else none) = some g
  rw [K.of_num' (by omega), if_pos hg]
theorem clean00 : Clean ρ00 wS := by
  intro k hk
  have hk : (K.of 256).num ≤ k.num := hk
  rw [K.of_num' (by omega)] at hk
  show (if k.num ≤ 255 then some k.num else none) = none
  rw [if_neg (by omega)]
theorem lay_get (k : K) : ∀ l, hget k (layH l) ≠ .none → ∃ g cs, LE.mk g cs ∈ l ∧ k = K.of g ∧ hget k (layH l) = .ro (Nat.succ g) (llen cs) (cfill cs 0 (cempty (llen cs))) ∧ szOf k l = cs.length
  | [], h => absurd (hget_none k) h
  | .mk g cs :: l, h => by
    simp only [layH] at h ⊢
    by_cases e : k = K.of g
    · subst e
      exact ⟨g, cs, by simp, rfl, by rw [hget_hset_same], by simp [szOf]⟩
    · rw [hget_hset_ne e] at h ⊢
      obtain ⟨g', cs', h1, h2, h3, h4⟩ := lay_get k l h
      refine ⟨g', cs', List.mem_cons_of_mem _ h1, h2, h3, ?_⟩
      simp only [szOf]
      rw [if_neg (fun x => e x.symm), h4]
theorem fine_get : ∀ l, laidFine l = true → ∀ g cs, LE.mk g cs ∈ l → g ≤ 255 ∧ frees cs = true ∧ cs.length ≤ 65536
  | [], _, _, _, h => by cases h
  | .mk g cs :: l, h, g', cs', hm => by
    simp only [laidFine] at h
    obtain ⟨h1, h2⟩ := bc_and.1 h
    simp only [Bool.and_eq_true] at h1
    obtain ⟨⟨p1, p2⟩, p3⟩ := h1
    rcases List.mem_cons.1 hm with e | e
    · injection e with e1 e2
      subst e1 e2
      rw [llen_eq] at p3
      exact ⟨Nat.le_of_ble_eq_true p1, p2, Nat.le_of_ble_eq_true p3⟩
    · exact fine_get l h2 g' cs' e
theorem laid_fine : laidFine laidL = true := by kernel_rfl
theorem blk00 {k : K} {c : Nat} (h : ρ00 k = some c) : c = k.num := by
  have h : (if k.num ≤ 255 then some k.num else none) = some c := h
  split at h
  · injection h with h; exact h.symm
  · cases h
theorem lay_noGhost (k : K) : lhOf (hget k (layH laidL)) = none := by
  by_cases e : hget k (layH laidL) = .none
  · rw [e]; rfl
  · obtain ⟨g, cs, h1, h2, h3, h4⟩ := lay_get k laidL e
    rw [h3]; rfl
theorem wrel00 {w : World} (hl : LaidIn laidL w) : WRel ρ00 wS w := by
  refine ⟨?_, ?_, ?_, fun k kd g hk => by have hk : lhOf (hget k (layH laidL)) = some (kd, g) := hk; rw [lay_noGhost] at hk; cases hk⟩
  · intro k l hk hl' e
    obtain ⟨g, cs, h1, h2, h3, h4⟩ := lay_get k laidL hk
    obtain ⟨g', cs', h1', h2', h3', h4'⟩ := lay_get l laidL hl'
    rw [h2, h2', grel00 g (fine_get _ laid_fine g cs h1).1, grel00 g' (fine_get _ laid_fine g' cs' h1').1] at e
    injection e with e
    rw [h2, h2', e]
  · intro k hk
    obtain ⟨g, cs, h1, h2, h3, h4⟩ := lay_get k laidL hk
    obtain ⟨f1, f2, f3⟩ := fine_get _ laid_fine g cs h1
    obtain ⟨arr, t, fz, q1, q2⟩ := hl g cs h1
    refine ⟨g, by rw [h2]; exact grel00 g f1, ?_⟩
    show ORel ρ00 (hget k (layH laidL)) _
    have hlen := VRels.length _ _ (q2 ρ00)
    rw [h3, q1, llen_eq]
    refine ⟨arr, t, fz, rfl, by simpa using hlen, by rw [ccap_cfill]; exact ccap_cempty _ f3, fun i hi => ?_, fun g' cs' e' hm' ρ' => by
      obtain rfl : g' = g := by have : g + 1 = g' + 1 := e'; omega
      obtain ⟨arr2, t2, fz2, z1, z2⟩ := hl g' cs' hm'
      rw [q1] at z1; injection z1 with z1; injection z1 with z1; subst z1; exact z2 ρ'⟩
    obtain ⟨v, r1, r2⟩ := cells_new (q2 ρ00) f3 i hi
    exact ⟨v, by simpa using r1, r2⟩
  · intro k c arr t fz hk hc hx
    obtain ⟨g, cs, h1, h2, h3, h4⟩ := lay_get k laidL hk
    obtain ⟨f1, f2, f3⟩ := fine_get _ laid_fine g cs h1
    obtain ⟨arr', t', fz', q1, q2⟩ := hl g cs h1
    rw [h2, grel00 g f1] at hc
    injection hc with hc
    subst hc
    rw [q1] at hx
    injection hx with hx
    injection hx with hx
    subst hx
    have hlen := VRels.length _ _ (q2 ρ00)
    show _ = szOf k laidL
    rw [h4]
    simpa using hlen
theorem kept_of_adv {ρ ρ' : Env} {a a' : W} {w w' : World} (h : Adv ρ a w ρ' a' w') (hn : ∀ c, ¬ Own ρ a c) (may : MemPlace → Prop) : w.keptBut w' may := by
  refine ⟨h.os, h.output, fun i hi => ?_⟩
  rw [h.frame i hi (hn i)]
  cases w.heap[i]? with
  | none => rfl
  | some o => cases o <;> first | rfl | exact ⟨rfl, rfl, rfl, fun _ _ => rfl⟩ | exact .inr ⟨rfl, rfl⟩
theorem kept_of_adv' {ρ ρ' : Env} {a a' : W} {w w' : World} (h : Adv ρ a w ρ' a' w') (hn : ∀ c, ¬ Own ρ a c) : KeptW w w' :=
  ⟨h.size, fun c hc => h.frame c hc (hn c), h.os, h.tape, h.output⟩
theorem kept_but {w w' : World} (h : KeptW w w') (may : MemPlace → Prop) : w.keptBut w' may := by
  refine ⟨h.os, h.output, fun i hi => ?_⟩
  rw [h.heap i hi]
  cases w.heap[i]? with
  | none => rfl
  | some o => cases o <;> first | rfl | exact ⟨rfl, rfl, rfl, fun _ _ => rfl⟩ | exact .inr ⟨rfl, rfl⟩
theorem own00 (c : Nat) : ¬ Own ρ00 wS c := by
  rintro ⟨k, hk, hr, _⟩
  obtain ⟨g, cs, h1, h2, h3, h4⟩ := lay_get k laidL hk
  have hr : (hget k (layH laidL)).isRo = false := hr
  rw [h3] at hr
  cases hr
theorem noHook_ok : HookOk noHook := fun _ _ _ _ h => by cases h
theorem known_ok : ∀ (l : List HE), (∀ f vs v, HE.mk f vs v ∈ l → HookFact f vs v) → ∀ f vs v, known l f vs = some v → HookFact f vs v
  | [], _ => fun _ _ _ h => by cases h
  | .mk g us u :: l, h => by
    have ih := known_ok l fun f vs v hm => h f vs v (List.mem_cons_of_mem _ hm)
    intro f vs v hv
    simp only [known, bc_eq] at hv
    split at hv
    · rename_i hf
      split at hv
      · rename_i hs
        injection hv with hv
        subst hv
        rw [Nat.eq_of_beq_eq_true hf, ← sameL_eq _ _ hs]
        exact h g us u (by simp)
      · exact ih f vs v hv
    · exact ih f vs v hv
theorem hooks_ok (l : List HE) (h : ∀ f vs v, HE.mk f vs v ∈ l → HookFact f vs v) : HookOk (hooks l) := by
  intro f vs aw r hr _ ρ args w hg hw hc hv
  unfold hooks hookA at hr
  split at hr
  · rename_i v hk
    rw [bc_eq] at hr
    split at hr
    · rename_i hl
      injection hr with hr
      subst hr
      refine Calls.mono (known_ok l h f vs v hk ρ args w (laid_ok hg hw hl) hv) fun e w' hp => ?_
      obtain ⟨v', rfl, h1, h2⟩ := hp
      exact ⟨v', ρ, rfl, h1 ρ, adv_kept hw h2⟩
    · cases hr
  · cases hr
theorem retV_eq {r : CR} {v : AV} (h : retV r v = true) : ∃ aw, r = .ret v aw := by
  unfold retV at h
  split at h
  · rename_i v' aw; rw [same2_eq _ _ h]; exact ⟨aw, rfl⟩
  · cases h
/-- a closed run: what it says of the call, in whatever memory -/
theorem fact_of_run {H : Hook} (hH : HookOk H) {n f : Nat} {vs : List AV} {v : AV} (h1 : frees vs = true) (h2 : free v = true) (h : retV (enter (run H n) f vs wS) v = true) : HookFact f vs v := by
  intro ρ args w hl hv
  obtain ⟨aw, h⟩ := retV_eq h
  have := enter_ok (run_ok hH n) grel00 (wrel00 hl) clean00 (f := f) (frees_rel h1 hv) (by rw [h]; trivial)
  rw [h] at this
  refine Calls.mono this fun e w' hp => ?_
  obtain ⟨v', ρ', rfl, hv', hA⟩ := hp
  exact ⟨v', rfl, fun ρ'' => free_rel h2 hv', kept_of_adv' hA own00⟩
/-- a law without arguments -/
theorem calls_true {f : Nat} (h : HookFact f [] (.bool true)) (w : World) (hl : LaidIn laidL w) :
    Calls Go.Proofs.Tryz.prog f #[] w fun e w' => e = .returned (.bool true) ∧ ∀ may, w.keptBut w' may := by
  have := h ρ00 #[] w hl (by simp only [VRels])
  rw [pp_eq] at this
  refine Calls.mono this fun e w' hp => ?_
  obtain ⟨v', rfl, hv, hA⟩ := hp
  have hv := hv ρ00
  simp only [VRel] at hv
  subst hv
  exact ⟨rfl, kept_but hA⟩
end Go.Ev
set_option linter.all false
namespace Go.Ev
variable [Gv]
/- Laid variables: from the row's list to 'LaidIn'. -/
theorem laid_at {P : Program} {w : World} {n : String} {d : DataW Unit} : ∀ {laid : List (String × DataW Unit)} {ps : List MemPlace}, DataW.LaidVars P w laid ps → (n, d) ∈ laid →
    ∃ g t cs fuel p, P.globalNamed n = some g ∧ (P.globals[g]?).map (·.type) = some t ∧ w.var? P n = some cs ∧ DataW.trod (fun _ => ()) P w 0 (fun _ => true) false fuel t cs.toList = some (d, p)
  | [], _, _, h => by cases h
  | (n', d') :: r, _, ⟨g, t, cs, fuel, p, q, h1, h2, h3, h4, h5, _⟩, h => by
    rcases List.mem_cons.1 h with e | e
    · injection e with e1 e2
      subst e1 e2
      exact ⟨g, t, cs, fuel, p, h1, h2, h3, h4⟩
    · exact laid_at h5 e
theorem ints_array {P : Program} {w : World} {n : Nat} {e t : TypeId} {k : IntKind} {cs : List Value} {fuel : Nat} {zs : List Int} {p : List MemPlace} (ht : P.underlying t = some (.array n e)) (he : P.underlying e = some (.int k)) (hc : P.cellsOf e = 1) (hct : P.cellsOf t = n)
    (h : DataW.trod (fun _ => ()) P w 0 (fun _ => true) false fuel t cs = some (.agg (zs.map fun z => .lit (.int k z)), p)) : cs = zs.map fun z => .int k z := by
  obtain ⟨xs, m, _, hx, hl, hn, hf⟩ := DataW.trod_array ht h
  injection hx with hx _
  injection hx with hx
  have hlen : zs.length = n := by rw [← hn, ← List.length_map (f := fun x : DataW Unit × List MemPlace => x.1), ← hx, List.length_map]
  apply List.ext_getElem
  · rw [hl, hct, List.length_map, hlen]
  · intro i h1 h2
    have hi : i < n := by rw [hl, hct] at h1; exact h1
    have := hf i hi
    rw [hc, Nat.mul_one] at this
    rw [List.getElem?_eq_getElem (by omega)] at this
    obtain ⟨z, q1, q2, _⟩ := DataW.trod_int he this
    have q3 : (cs.drop i).take 1 = [cs[i]] := by rw [List.drop_eq_getElem_cons h1]; rfl
    rw [q3] at q1
    injection q1 with q1 _
    have q4 : (xs.map (·.1))[i]'(by simp; omega) = .lit (.int k z) := by rw [List.getElem_map, q2]
    have q5 : (zs.map fun z => (DataW.lit (.int k z) : DataW Unit))[i]'(by simp; omega) = .lit (.int k z) := by
      rw [← q4]; congr 1
    rw [List.getElem_map] at q5
    rw [q1, List.getElem_map]
    injection q5 with q5
    injection q5 with _ q5
    rw [q5]
theorem ints_struct {P : Program} {w : World} {fs : Array Field} {t : TypeId} {k : IntKind} {cs : List Value} {fuel : Nat} {zs : List Int} {p : List MemPlace} (ht : P.underlying t = some (.struct fs))
    (hfs : ∀ (i : Nat) (f : Field), fs[i]? = some f → f.offset = i ∧ P.cellsOf f.type = 1 ∧ P.underlying f.type = some (.int k)) (hct : P.cellsOf t = fs.size)
    (h : DataW.trod (fun _ => ()) P w 0 (fun _ => true) false fuel t cs = some (.agg (zs.map fun z => .lit (.int k z)), p)) : cs = zs.map fun z => .int k z := by
  obtain ⟨xs, m, _, hx, hl, hn, hf⟩ := DataW.trod_struct ht h
  injection hx with hx _
  injection hx with hx
  have hlen : zs.length = fs.size := by rw [← hn, ← List.length_map (f := fun x : DataW Unit × List MemPlace => x.1), ← hx, List.length_map]
  apply List.ext_getElem
  · rw [hl, hct, List.length_map, hlen]
  · intro i h1 h2
    have hi : i < fs.size := by rw [hl, hct] at h1; exact h1
    have hfi : fs[i]? = some fs[i] := Array.getElem?_eq_getElem hi
    have := hf i _ hfi
    obtain ⟨g1, g2, g3⟩ := hfs i _ hfi
    rw [g1, g2] at this
    rw [List.getElem?_eq_getElem (by omega)] at this
    obtain ⟨z, q1, q2, _⟩ := DataW.trod_int g3 this
    have q3 : (cs.drop i).take 1 = [cs[i]] := by rw [List.drop_eq_getElem_cons h1]; rfl
    rw [q3] at q1
    injection q1 with q1 _
    have q4 : (xs.map (·.1))[i]'(by simp; omega) = .lit (.int k z) := by rw [List.getElem_map, q2]
    have q5 : (zs.map fun z => (DataW.lit (.int k z) : DataW Unit))[i]'(by simp; omega) = .lit (.int k z) := by
      rw [← q4]; congr 1
    rw [List.getElem_map] at q5
    rw [q1, List.getElem_map]
    injection q5 with q5
    injection q5 with _ q5
    rw [q5]
theorem ints_rel (ρ : Env) (k : IntKind) : ∀ (zs : List Int), VRels ρ (zs.map fun z => .int k z) (zs.map fun z => .int k z)
  | [] => by simp [VRels]
  | z :: zs => by simp only [List.map_cons, VRels]; exact ⟨_, _, rfl, by simp only [VRel], ints_rel ρ k zs⟩
end Go.Ev
set_option linter.all false
namespace Go.Ev
variable [Gv]
/- Calls whose heap is known: a long run cut into pieces. -/
noncomputable section
def pairsEq (f : AV → AV → Bool) : List (AV × AV) → List (AV × AV) → Bool
  | [], [] => true
  | a :: l, b :: m => bc (f a.1 b.1) (bc (f a.2 b.2) (pairsEq f l m) false) false
  | _, _ => false
/-- blocks, written out -/
inductive LO where
  | cells (t : TypeId) (ext : Bool) (fl fh : Nat) (l : List AV)
  | map (es : List (AV × AV))
  | win (kb : Nat) (l : List AV)
  | gob (o : GO)
def beqB : Bool → Bool → Bool
  | true, b => b
  | false, b => !b
def objOf : LO → AObj
  | .cells t e fl fh l => .cells t (llen l) e fl fh (cfill l 0 (cempty (llen l)))
  | .map es => .map es
  | .win kb l => .win (K.of kb) l
  | .gob g => .gob g
def ksEq : List IntKind → List IntKind → Bool
  | [], [] => true
  | a :: l, b :: m => bc (kbeq a b) (ksEq l m) false
  | _, _ => false
def goEq : GO → GO → Bool
  | .gh t ks n g, .gh t' ks' n' g' => Nat.beq t t' && ksEq ks ks' && seEq n n' && geEq g g'
  | .junk t, .junk t' => Nat.beq t t'
  | .gmap m, .gmap m' => geEq m m'
  | .lh k g, .lh k' g' => Nat.beq k k' && geEq g g'
  | .iter g p A, .iter g' p' A' => geEq g g' && seEq p p' && saSame A A'
  | _, _ => false
def loOk : LO → AObj → Bool
  | .cells t e fl fh l, .cells t' s e' fl' fh' c => Nat.beq t t' && beqB e e' && Nat.beq fl fl' && Nat.beq fh fh' && Nat.beq s (llen l) && Nat.ble s 65536 && listEq (avEq 8) (clist c s 0) l
  | .map es, .map es' => pairsEq (avEq 8) es' es
  | .win kb l, .win kb' l' => K.beq kb' (K.of kb) && listEq (avEq 8) l' l
  | .gob g, .gob g' => goEq g' g
  | _, _ => false
inductive HO where
  | mk (k : Nat) (o : LO)
def buildH : List HO → H4
  | [] => layH laidL
  | .mk k o :: l => hset (K.of k) (objOf o) (buildH l)
def heldIn : List HO → W → Bool
  | [], _ => true
  | .mk k o :: l, w => bc (loOk o (wget (K.of k) w)) (heldIn l w) false
def wnx (w : W) : K := match w with
  | .mk _ nx => nx
def withL (L : List HO) (nx : Nat) : W := .mk (buildH L) (K.of nx)
def fitsL (L : List HO) (nx : Nat) (w : W) : Bool := bc (K.beq (wnx w) (K.of nx)) (bc (laidIs laidL w) (heldIn L w) false) false
def segV (r : CR) (v : AV) (L : List HO) (nx : Nat) : Bool := match r with
  | .ret v' w => bc (avEq 8 v v') (fitsL L nx w) false
  | _ => false
inductive HW where
  | mk (f : FuncId) (vs : List AV) (nxi : Nat) (Li : List HO) (v : AV) (nxo : Nat) (Lo : List HO)
def hooksW (l : List HW) (f : FuncId) (vs : List AV) (w : W) : Option CR := match l with
  | [] => none
  | .mk g us nxi Li v nxo Lo :: l => bc (Nat.beq f g) (bc (listEq (avEq 8) us vs) (bc (fitsL Li nxi w) (some (.ret v (withL Lo nxo))) (hooksW l f vs w)) (hooksW l f vs w)) (hooksW l f vs w)
end
theorem pairsEq_eq {f : AV → AV → Bool} (hf : ∀ a b, f a b = true → a = b) : ∀ l m, pairsEq f l m = true → l = m
  | [], [], _ => rfl
  | [], _ :: _, h => by cases h
  | _ :: _, [], h => by cases h
  | a :: l, b :: m, h => by
    simp only [pairsEq] at h
    obtain ⟨h1, h⟩ := bc_and.1 h
    obtain ⟨h2, h3⟩ := bc_and.1 h
    rw [pairsEq_eq hf l m h3, show a = b from Prod.ext (hf _ _ h1) (hf _ _ h2)]
/-- a heap that knows less -/
structure Sub (a' a : W) : Prop where
  nx : a'.nx = a.nx
  at_ : ∀ k, hget k a'.h ≠ .none → hget k a.h ≠ .none ∧ (hget k a'.h).isRo = (hget k a.h).isRo ∧ ∀ ρ x, ORel ρ (hget k a.h) x → ORel ρ (hget k a'.h) x
  lh : ∀ k kd g, lhOf (hget k a'.h) = some (kd, g) → ∃ g', lhOf (hget k a.h) = some (kd, g') ∧ g.eval Gv.σ = g'.eval Gv.σ
section
variable {ρ ρ' : Env} {a a' a2 : W} {w w' : World}
theorem Sub.ghost (s : Sub a' a) {k : K} (h : lhOf (hget k a'.h) ≠ none) : lhOf (hget k a.h) ≠ none := by
  obtain ⟨⟨kd, g⟩, hkg⟩ := Option.ne_none_iff_exists'.1 h
  obtain ⟨g', h1, _⟩ := s.lh k kd g hkg
  rw [h1]; simp
theorem Sub.noGhost (s : Sub a' a) {k : K} (h : lhOf (hget k a.h) = none) : lhOf (hget k a'.h) = none := by
  by_cases e : lhOf (hget k a'.h) = none
  · exact e
  · exact absurd h (s.ghost e)
theorem WRel.sub (h : WRel ρ a w) (s : Sub a' a) : WRel ρ a' w :=
  ⟨fun k l hk hl e => h.inj k l (s.at_ k hk).1 (s.at_ l hl).1 e,
   fun k hk => let ⟨c, h1, h2⟩ := h.dom k (s.at_ k hk).1; ⟨c, h1, (s.at_ k hk).2.2 _ _ h2⟩,
   fun k c arr t fz hk hc hx => h.len k c arr t fz (s.at_ k hk).1 hc hx,
   fun k kd g hk => by
    obtain ⟨g', h1, h2⟩ := s.lh k kd g hk
    have q := h.gho k kd g' h1
    exact ⟨q.root, fun c hc => by rw [h2]; exact q.rel c hc, q.lt, fun l hl => q.sep l (s.at_ l hl).1, fun l hl => q.dis l (s.ghost hl)⟩⟩
theorem Own.sub {c : Nat} (h : Own ρ a' c) (s : Sub a' a) : Own ρ a c := by
  obtain ⟨k, h1, h2, h3⟩ := h
  exact ⟨k, (s.at_ k h1).1, by rw [← (s.at_ k h1).2.1]; exact h2, h3.imp id fun q => ⟨s.ghost q.1, q.2⟩⟩
theorem Adv.left (h : Adv ρ a' w ρ' a2 w') (s : Sub a' a) : Adv ρ a w ρ' a2 w' :=
  ⟨h.rel, h.le, fun k => by rw [← s.nx]; exact h.rng k, by rw [← s.nx]; exact h.nx, h.size,
   fun c hc => (h.own c hc).imp (fun x => x.sub s) id,
   fun k c hk hc => (h.keep k c hk hc).imp (fun ⟨l, h1, h2⟩ => ⟨l, (s.at_ l h1).1, h2⟩) id,
   fun c hc hn => h.frame c hc fun x => hn (x.sub s), fun k hk hl => h.fts k (by rw [s.nx]; exact hk) (s.noGhost hl), h.os, h.tape, h.output⟩
theorem Adv.right (h : Adv ρ a w ρ' a2 w') (s : Sub a' a2) : Adv ρ a w ρ' a' w' :=
  ⟨h.rel.sub s, h.le, fun k => by rw [s.nx]; exact h.rng k, by rw [s.nx]; exact h.nx, h.size,
   fun c hc => h.own c (hc.sub s), fun k c hk hc => h.keep k c (s.at_ k hk).1 hc, h.frame, fun k hk hl => let q := h.fts k hk hl; ⟨q.1, s.noGhost q.2⟩, h.os, h.tape, h.output⟩
end
theorem beqB_eq {a b : Bool} (h : beqB a b = true) : a = b := by cases a <;> cases b <;> first | rfl | cases h
theorem ksEq_eq : ∀ {l m : List IntKind}, ksEq l m = true → l = m
  | [], [], _ => rfl
  | [], _ :: _, h => by cases h
  | _ :: _, [], h => by cases h
  | a :: l, b :: m, h => by
    simp only [ksEq] at h
    obtain ⟨h1, h2⟩ := bc_and.1 h
    rw [(kbeq_iff _ _).1 h1, ksEq_eq h2]
theorem goEq_eq {a b : GO} (h : goEq a b = true) : a = b := by
  cases a <;> cases b <;> simp only [goEq, Bool.false_eq_true, Bool.and_eq_true] at h
  · obtain ⟨⟨⟨h1, h2⟩, h3⟩, h4⟩ := h
    rw [Nat.eq_of_beq_eq_true h1, ksEq_eq h2, seEq_eq _ _ h3, geEq_eq _ _ h4]
  · rw [Nat.eq_of_beq_eq_true h]
  · rw [geEq_eq _ _ h]
  · obtain ⟨⟨h1, h2⟩, h3⟩ := h
    rw [geEq_eq _ _ h1, seEq_eq _ _ h2, saSame_eq _ _ h3]
  · rw [Nat.eq_of_beq_eq_true h.1, geEq_eq _ _ h.2]
theorem loOk_lh {o : LO} {x : AObj} {kd : Nat} {g : GE} (h : loOk o x = true) (ho : lhOf (objOf o) = some (kd, g)) : ∃ g', lhOf x = some (kd, g') ∧ g.eval Gv.σ = g'.eval Gv.σ := by
  cases o with
  | gob o =>
    cases o <;> first | (cases ho; done) | skip
    injection ho with ho
    injection ho with e1 e2
    subst e1 e2
    cases x <;> first | (cases h; done) | skip
    have := goEq_eq h
    subst this
    exact ⟨_, rfl, rfl⟩
  | _ => cases ho
theorem objOf_ne (o : LO) : objOf o ≠ .none := by cases o <;> simp [objOf]
theorem objOf_ro (o : LO) : (objOf o).isRo = false := by cases o <;> rfl
theorem clist_get {c : Cells} {n : Nat} {l : List AV} (h : clist c n 0 = l) (i : Nat) (hi : i < n) (hl : i < l.length) : cget c i = l[i] := by
  subst h
  simp [clist_eq]
theorem loOk_rel {o : LO} {x : AObj} (h : loOk o x = true) : x ≠ .none ∧ x.isRo = false ∧ ∀ ρ y, ORel ρ x y → ORel ρ (objOf o) y := by
  unfold loOk at h
  split at h
  · rename_i t e fl fh l t' s e' fl' fh' c
    simp only [Bool.and_eq_true] at h
    obtain ⟨⟨⟨⟨⟨⟨h1, h2⟩, h3⟩, h4⟩, h5⟩, h6⟩, h7⟩ := h
    refine ⟨by simp, rfl, fun ρ y hy => ?_⟩
    obtain ⟨arr, fz, e1, e2, e3, e4, e5, e6⟩ := hy
    have h1 := Nat.eq_of_beq_eq_true h1
    have h2 := beqB_eq h2
    have h3 := Nat.eq_of_beq_eq_true h3
    have h4 := Nat.eq_of_beq_eq_true h4
    have h5 := Nat.eq_of_beq_eq_true h5
    have h6 := Nat.le_of_ble_eq_true h6
    have h7 := listEq_eq (avEq_eq 8) _ _ h7
    subst h1 h2 h3 h4
    rw [llen_eq] at h5
    have hcap := ccap_cempty l.length (by omega)
    refine ⟨arr, fz, e1, by rw [llen_eq]; omega, fun q => by rw [llen_eq, ← h5]; exact e3 q, by rw [llen_eq, ccap_cfill]; exact hcap, e5, ?_⟩
    intro i hi
    rw [llen_eq] at hi
    obtain ⟨v, q1, q2⟩ := e6 i (by omega)
    refine ⟨v, q1, ?_⟩
    rw [llen_eq, cget_cfill l 0 _ i (by omega) (by omega), dif_pos ⟨Nat.zero_le _, by omega⟩]
    rw [clist_get h7 i (by omega) hi] at q2
    exact q2
  · rename_i es es'
    refine ⟨by simp, rfl, fun ρ y hy => ?_⟩
    rw [pairsEq_eq (avEq_eq 8) _ _ h] at hy
    exact hy
  · rename_i kb l kb' l'
    simp only [Bool.and_eq_true] at h
    refine ⟨by simp, rfl, fun ρ y hy => ?_⟩
    rw [(K.beq_iff _ _).1 h.1, listEq_eq (avEq_eq 8) _ _ h.2] at hy
    exact hy
  · rename_i g g'
    refine ⟨by simp, rfl, fun ρ y hy => ?_⟩
    rw [goEq_eq h] at hy
    exact hy
  · cases h
theorem build_get (k : K) : ∀ L, hget k (buildH L) ≠ .none → (∃ n o, HO.mk n o ∈ L ∧ k = K.of n ∧ hget k (buildH L) = objOf o) ∨ (∃ g cs, LE.mk g cs ∈ laidL ∧ k = K.of g ∧ hget k (buildH L) = .ro (Nat.succ g) (llen cs) (cfill cs 0 (cempty (llen cs))))
  | [], h => by
    obtain ⟨g, cs, h1, h2, h3, _⟩ := lay_get k laidL h
    exact .inr ⟨g, cs, h1, h2, h3⟩
  | .mk n o :: L, h => by
    simp only [buildH] at h ⊢
    by_cases e : k = K.of n
    · subst e
      exact .inl ⟨n, o, by simp, rfl, by rw [hget_hset_same]⟩
    · rw [hget_hset_ne e] at h ⊢
      rcases build_get k L h with ⟨m, p, h1, h2, h3⟩ | ⟨g, cs, h1, h2, h3⟩
      · exact .inl ⟨m, p, List.mem_cons_of_mem _ h1, h2, h3⟩
      · exact .inr ⟨g, cs, h1, h2, h3⟩
theorem held_get : ∀ {L : List HO} {w : W}, heldIn L w = true → ∀ n o, HO.mk n o ∈ L → loOk o (wget (K.of n) w) = true
  | [], _, _, _, _, h => by cases h
  | .mk k p :: L, w, h, n, o, hm => by
    simp only [heldIn] at h
    obtain ⟨h1, h2⟩ := bc_and.1 h
    rcases List.mem_cons.1 hm with e | e
    · injection e with e1 e2; subst e1 e2; exact h1
    · exact held_get h2 n o e
theorem laidIs_get : ∀ {l : List LE} {w : W}, laidIs l w = true → ∀ g cs, LE.mk g cs ∈ l → ∃ n c, wget (K.of g) w = .ro (g + 1) n c
  | [], _, _, _, _, h => by cases h
  | .mk g cs :: l, w, h, g', cs', hm => by
    simp only [laidIs] at h
    split at h
    · rename_i t size c hget
      obtain ⟨h1, h2⟩ := bc_and.1 h
      have h1 : t = g + 1 := Nat.eq_of_beq_eq_true h1
      rcases List.mem_cons.1 hm with e | e
      · injection e with e1 e2
        subst e1 e2
        rw [h1] at hget
        exact ⟨size, c, hget⟩
      · exact laidIs_get h2 g' cs' e
    · cases h
theorem fits_sub {L : List HO} {nx : Nat} {w : W} (h : fitsL L nx w = true) : Sub (withL L nx) w := by
  unfold fitsL at h
  obtain ⟨h1, h⟩ := bc_and.1 h
  obtain ⟨h2, h3⟩ := bc_and.1 h
  have h1 := (K.beq_iff _ _).1 h1
  refine ⟨?_, ?_, ?_⟩
  · show K.of nx = w.nx
    rw [← h1]; cases w; rfl
  · intro k hk
    have hk : hget k (buildH L) ≠ .none := hk
    show _ ∧ (hget k (buildH L)).isRo = _ ∧ ∀ ρ x, _ → ORel ρ (hget k (buildH L)) x
    rcases build_get k L hk with ⟨n, o, q1, q2, q3⟩ | ⟨g, cs, q1, q2, q3⟩
    · subst q2
      have := held_get h3 n o q1
      rw [wget_eq] at this
      obtain ⟨r1, r2, r3⟩ := loOk_rel this
      rw [q3]
      exact ⟨r1, by rw [objOf_ro, r2], r3⟩
    · subst q2
      obtain ⟨n, c, r1⟩ := laidIs_get h2 g cs q1
      rw [wget_eq] at r1
      rw [q3, r1]
      refine ⟨by simp, rfl, fun ρ x hx => ?_⟩
      obtain ⟨arr, t', fz, e1, e2, e3, e4, e5⟩ := hx
      obtain ⟨_, _, f3⟩ := fine_get _ laid_fine g cs q1
      have hv := e5 g cs rfl q1
      have hlen := VRels.length _ _ (hv ρ)
      rw [llen_eq]
      refine ⟨arr, t', fz, e1, by simpa using hlen, by rw [ccap_cfill]; exact ccap_cempty _ f3, fun i hi => ?_, e5⟩
      obtain ⟨v, s1, s2⟩ := cells_new (hv ρ) f3 i hi
      exact ⟨v, by simpa using s1, s2⟩
  · intro k kd g hk
    have hk : lhOf (hget k (buildH L)) = some (kd, g) := hk
    rcases build_get k L (lh_live (lh_ne hk)) with ⟨n, o, q1, q2, q3⟩ | ⟨g', cs, q1, q2, q3⟩
    · subst q2
      have := held_get h3 n o q1
      rw [wget_eq] at this
      rw [q3] at hk
      exact loOk_lh this hk
    · rw [q3] at hk; cases hk
/-- a call whose heap is known -/
def FactW (f : FuncId) (vs : List AV) (nxi : Nat) (Li : List HO) (v : AV) (nxo : Nat) (Lo : List HO) : Prop := ∀ (ρ : Env) (args : Array Value) (w : World), GRel ρ → WRel ρ (withL Li nxi) w → Clean ρ (withL Li nxi) → VRels ρ vs args.toList →
  Calls PP f args w (CPost ρ (withL Li nxi) w (.ret v (withL Lo nxo)))
theorem factW_of_run {H : Hook} (hH : HookOk H) {n f nxi nxo : Nat} {vs : List AV} {v : AV} {Li Lo : List HO} (h : segV (enter (run H n) f vs (withL Li nxi)) v Lo nxo = true) : FactW f vs nxi Li v nxo Lo := by
  intro ρ args w hg hw hc hv
  cases he : enter (run H n) f vs (withL Li nxi) with
  | ret v' aw =>
    rw [he] at h
    simp only [segV] at h
    obtain ⟨h1, h2⟩ := bc_and.1 h
    have h1 := avEq_eq _ _ _ h1
    subst h1
    have := enter_ok (run_ok hH n) hg hw hc (f := f) hv (by rw [he]; trivial)
    rw [he] at this
    refine Calls.mono this fun e w' hp => ?_
    obtain ⟨v', ρ', rfl, hv', hA⟩ := hp
    exact ⟨v', ρ', rfl, hv', hA.right (fits_sub h2)⟩
  | pan ch aw => rw [he] at h; cases h
  | no c x => rw [he] at h; cases h
theorem hooksW_ok : ∀ (l : List HW), (∀ f vs nxi Li v nxo Lo, HW.mk f vs nxi Li v nxo Lo ∈ l → FactW f vs nxi Li v nxo Lo) → HookOk (hooksW l)
  | [], _ => fun _ _ _ _ h => by cases h
  | .mk g us nxi Li u nxo Lo :: l, h => by
    have ih := hooksW_ok l fun f vs nxi Li v nxo Lo hm => h f vs nxi Li v nxo Lo (List.mem_cons_of_mem _ hm)
    intro f vs aw r hr
    simp only [hooksW, bc_eq] at hr
    split at hr
    · rename_i hf
      split at hr
      · rename_i hs
        split at hr
        · rename_i hfit
          injection hr with hr
          subst hr
          intro _ ρ args w hg hw hc hv
          have hf := Nat.eq_of_beq_eq_true hf
          have hs := listEq_eq (avEq_eq 8) _ _ hs
          subst hf hs
          have sub := fits_sub hfit
          have hcl : Clean ρ (withL Li nxi) := fun k hk => hc k (by rw [← sub.nx]; exact hk)
          refine Calls.mono (h f us nxi Li u nxo Lo (by simp) ρ args w hg (hw.sub sub) hcl hv) fun e w' hp => ?_
          obtain ⟨v', ρ', rfl, hv', hA⟩ := hp
          exact ⟨v', ρ', rfl, hv', hA.left sub⟩
        · exact ih f vs aw r hr
      · exact ih f vs aw r hr
    · exact ih f vs aw r hr
end Go.Ev
set_option maxRecDepth 100000
set_option linter.all false
namespace Go.Ev
variable [Gv]
/- Calls that make memory of their own: known once, used wherever the next key stands (the result and what it reaches are moved to the keys that are next). -/
noncomputable section
def sh (d : Nat) (k : K) : K := bc (Nat.ble k.num 255) k (K.of (Nat.add k.num d))
def shL (f : AV → AV) : List AV → List AV
  | [] => []
  | x :: l => f x :: shL f l
def shAV (d : Nat) : Nat → AV → AV
  | 0, _ => .top
  | n + 1, x => match x with
    | .bool b => .bool b
    | .int k n => .int k n
    | .str l n => .str l n
    | .nilPtr => .nilPtr
    | .nilSlice => .nilSlice
    | .nilMap => .nilMap
    | .nilFunc => .nilFunc
    | .nilIface => .nilIface
    | .esl => .esl
    | .ptr b o => .ptr (sh d b) o
    | .slice b o l c e => .slice (sh d b) o l c e
    | .map b => .map (sh d b)
    | .func g x y => bc (plainFn g) (.func g (shL (shAV d n) x) (shL (shAV d n) y)) .top
    | .iface t v => .iface t (shAV d n v)
    | .agg l => .agg (shL (shAV d n) l)
    | .tuple l => .tuple (shL (shAV d n) l)
    | _ => .top
def shP (f : AV → AV) : List (AV × AV) → List (AV × AV)
  | [] => []
  | x :: l => (f x.1, f x.2) :: shP f l
def shLO (d : Nat) : LO → LO
  | .cells t e fl fh l => .cells t e fl fh (shL (shAV d 8) l)
  | .map es => .map (shP (shAV d 8) es)
  | .win kb l => .win kb l
  | .gob g => .gob g
def noWin : LO → Bool
  | .win _ _ => false
  | .gob _ => false
  | _ => true
def putSh (d : Nat) : List HO → H4 → H4
  | [], h => h
  | .mk k o :: l, h => hset (K.of (Nat.add k d)) (objOf (shLO d o)) (putSh d l h)
def relR (v : AV) (n : Nat) (L : List HO) : W → CR
  | .mk h nx => bc (Nat.ble 256 nx.num && Nat.ble (Nat.add nx.num n) 65535) (.ret (shAV (Nat.sub nx.num 256) 8 v) (.mk (putSh (Nat.sub nx.num 256) L h) (K.of (Nat.add nx.num n)))) (.no 270 0)
/-- the written blocks lie at keys of their own -/
def lowIn (n : Nat) : List HO → Bool
  | [] => true
  | .mk k o :: l => bc (Nat.ble 256 k && Nat.blt k (Nat.add 256 n) && noWin o) (lowIn n l) false
inductive HR where
  | mk (f : FuncId) (vs : List AV) (v : AV) (n : Nat) (L : List HO)
def hooksR (l : List HR) (f : FuncId) (vs : List AV) (w : W) : Option CR := match l with
  | [] => none
  | .mk g us v n L :: l => bc (Nat.beq f g) (bc (sameL us vs) (bc (laidIs laidL w) (some (relR v n L w)) none) (hooksR l f vs w)) (hooksR l f vs w)
end
section
variable {ρ ρ' : Env} {d : Nat}
/-- the one environment seen in the other, behind the move -/
def Moves (d : Nat) (ρ ρ' : Env) : Prop := ∀ k c, ρ k = some c → ρ' (sh d k) = some c ∧ ρ'.sz (sh d k) = ρ.sz k
theorem shSl {b b' : K} {o cap cap' : Nat} {ex : Option Nat} (h : ρ'.sz b' = ρ.sz b) (e : SlOk ρ b o cap cap' ex) : SlOk ρ' b' o cap cap' ex := by
  cases ex with
  | none => exact e
  | some es => simp only [SlOk] at e ⊢; rw [h]; exact e
theorem shL_rel {f : AV → AV} (hf : ∀ x v, VRel ρ x v → VRel ρ' (f x) v) : ∀ {l : List AV} {vs : List Value}, VRels ρ l vs → VRels ρ' (shL f l) vs
  | [], _, h => by simp only [shL, VRels] at h ⊢; exact h
  | x :: l, _, h => by
    simp only [shL, VRels] at h ⊢
    obtain ⟨v, vs, e, h1, h2⟩ := h
    exact ⟨v, vs, e, hf _ _ h1, shL_rel hf h2⟩
theorem shAV_rel (hm : Moves d ρ ρ') : ∀ n x v, VRel ρ x v → VRel ρ' (shAV d n x) v
  | 0, _, _, _ => by simp only [shAV, VRel]
  | n + 1, x, v, h => by
    have ih := shAV_rel hm n
    cases x <;> simp only [shAV] <;> first
      | (simp only [VRel] at h ⊢; exact h)
      | (simp only [VRel]; done)
      | skip
    · simp only [VRel] at h ⊢; obtain ⟨c, h1, h2⟩ := h; exact ⟨c, (hm _ _ h1).1, h2⟩
    · simp only [VRel] at h ⊢; obtain ⟨c, cap', h1, h2, h3, h4⟩ := h; exact ⟨c, cap', (hm _ _ h1).1, h2, shSl (hm _ _ h1).2 h3, h4⟩
    · simp only [VRel] at h ⊢; obtain ⟨c, h1, h2⟩ := h; exact ⟨c, (hm _ _ h1).1, h2⟩
    · rename_i g x y
      rw [bc_eq]
      split
      · rename_i hp
        simp only [VRel] at h ⊢
        obtain ⟨f', x', y', h1, h0, h2, h3⟩ := h
        refine ⟨f', x', y', h1, ?_, shL_rel ih h2, shL_rel ih h3⟩
        cases g <;> first | exact h0 | cases hp
      · simp only [VRel]
    · simp only [VRel] at h ⊢; obtain ⟨v', h1, h2⟩ := h; exact ⟨v', h1, ih _ _ h2⟩
    · simp only [VRel] at h ⊢; obtain ⟨ys, h1, h2⟩ := h; exact ⟨ys, h1, shL_rel ih h2⟩
    · simp only [VRel] at h ⊢; obtain ⟨ys, h1, h2⟩ := h; exact ⟨ys, h1, shL_rel ih h2⟩
theorem shP_rel {f : AV → AV} (hf : ∀ x v, VRel ρ x v → VRel ρ' (f x) v) : ∀ {es : List (AV × AV)} {l : List MapEntry}, ERel ρ es l → ERel ρ' (shP f es) l
  | [], _, h => h
  | _ :: _, _, ⟨m, ms, h1, h2, h3, h4⟩ => ⟨m, ms, h1, hf _ _ h2, hf _ _ h3, shP_rel hf h4⟩
theorem shL_len (f : AV → AV) : ∀ l, (shL f l).length = l.length
  | [] => rfl
  | _ :: l => by simp [shL, shL_len f l]
theorem shL_get (f : AV → AV) : ∀ (l : List AV) (i : Nat) (h : i < l.length), (shL f l)[i]'(by rw [shL_len]; exact h) = f l[i]
  | [], _, h => by simp at h
  | _ :: l, 0, _ => rfl
  | _ :: l, i + 1, h => by simpa [shL] using shL_get f l i (by simpa using h)
theorem shLO_rel (hm : Moves d ρ ρ') {o : LO} (hw : noWin o = true) {x : Option Obj} (h : ORel ρ (objOf o) x) : ORel ρ' (objOf (shLO d o)) x := by
  cases o with
  | win => cases hw
  | gob => cases hw
  | map es =>
    obtain ⟨a, b, h1, h2⟩ := h
    exact ⟨a, b, h1, shP_rel (shAV_rel hm 8) h2⟩
  | cells t e fl fh l =>
    obtain ⟨arr, fz, h1, h2, h3, h4, h5, h6⟩ := h
    rw [llen_eq] at *
    rw [ccap_cfill] at h4
    have hl : llen (shL (shAV d 8) l) = l.length := by rw [llen_eq, shL_len]
    refine ⟨arr, fz, h1, by rw [hl]; exact h2, fun q => by rw [hl]; exact h3 q, by rw [hl, ccap_cfill]; exact h4, h5, ?_⟩
    intro i hi
    rw [hl] at hi
    obtain ⟨v, q1, q2⟩ := h6 i hi
    refine ⟨v, q1, ?_⟩
    rw [cget_cfill l 0 _ i (by omega) (by omega), dif_pos ⟨Nat.zero_le _, by omega⟩] at q2
    have hl' := shL_len (shAV d 8) l
    rw [hl, cget_cfill (shL (shAV d 8) l) 0 _ i (by omega) (by omega), dif_pos ⟨Nat.zero_le _, by omega⟩]
    have := shL_get (shAV d 8) l i hi
    simp only [Nat.sub_zero] at q2 ⊢
    rw [this]
    exact shAV_rel hm 8 _ _ q2
theorem lay_build {k : K} : ∀ L, hget k (layH laidL) ≠ .none → hget k (buildH L) ≠ .none
  | [], h => h
  | .mk m o :: L, h => by
    simp only [buildH]
    by_cases e : k = K.of m
    · subst e; rw [hget_hset_same]; exact objOf_ne o
    · rw [hget_hset_ne e]; exact lay_build L h
theorem shLO_noG {d : Nat} {o : LO} (h : noWin o = true) : lhOf (objOf (shLO d o)) = none := by
  cases o <;> first | rfl | cases h
theorem low_mem : ∀ {L : List HO} {n : Nat}, lowIn n L = true → ∀ m o, HO.mk m o ∈ L → 256 ≤ m ∧ m < 256 + n ∧ noWin o = true
  | [], _, _, _, _, h => by cases h
  | .mk k p :: L, n, h, m, o, hm => by
    simp only [lowIn] at h
    obtain ⟨h1, h2⟩ := bc_and.1 h
    simp only [Bool.and_eq_true] at h1
    obtain ⟨⟨p1, p2⟩, p3⟩ := h1
    rcases List.mem_cons.1 hm with e | e
    · injection e with e1 e2; subst e1 e2
      exact ⟨Nat.le_of_ble_eq_true p1, by have := Nat.le_of_ble_eq_true p2; exact this, p3⟩
    · exact low_mem h2 m o e
theorem put_get {n : Nat} (hd : d + 256 + n ≤ 65535) (k : K) (h : H4) : ∀ L, lowIn n L = true →
    (∃ m o, HO.mk m o ∈ L ∧ k = K.of (m + d) ∧ hget k (putSh d L h) = objOf (shLO d o) ∧ hget (K.of m) (buildH L) = objOf o) ∨
    ((∀ m o, HO.mk m o ∈ L → k ≠ K.of (m + d)) ∧ hget k (putSh d L h) = hget k h)
  | [], _ => .inr ⟨(fun _ _ h => by cases h), rfl⟩
  | .mk m o :: L, hl => by
    have hl' := hl
    simp only [lowIn] at hl
    obtain ⟨_, h2⟩ := bc_and.1 hl
    obtain ⟨b1, b2, _⟩ := low_mem hl' m o (by simp)
    by_cases e : k = K.of (m + d)
    · refine .inl ⟨m, o, by simp, e, ?_, ?_⟩
      · show hget k (hset (K.of (m + d)) _ _) = _
        rw [e, hget_hset_same]
      · show hget (K.of m) (hset (K.of m) _ _) = _
        rw [hget_hset_same]
    · have e1 : hget k (putSh d (.mk m o :: L) h) = hget k (putSh d L h) := hget_hset_ne e _ _
      rcases put_get hd k h L h2 with ⟨m', o', q1, q2, q3, q4⟩ | ⟨q1, q2⟩
      · refine .inl ⟨m', o', List.mem_cons_of_mem _ q1, q2, by rw [e1, q3], ?_⟩
        obtain ⟨c1, c2, _⟩ := low_mem h2 m' o' q1
        show hget (K.of m') (hset (K.of m) _ _) = _
        rw [hget_hset_ne ?_, q4]
        intro hh
        have := congrArg K.num hh
        rw [K.of_num' (by omega), K.of_num' (by omega)] at this
        subst this
        exact e q2
      · refine .inr ⟨fun m' o' hm => ?_, by rw [e1, q2]⟩
        rcases List.mem_cons.1 hm with x | x
        · injection x with x1 x2; subst x1; exact e
        · exact q1 m' o' x
end
/-- a call in whatever memory, with what it makes -/
def RFact (f : FuncId) (vs : List AV) (v : AV) (n : Nat) (L : List HO) : Prop := FactW f vs 256 [] v (256 + n) L
theorem hooksR_ok : ∀ (l : List HR), (∀ f vs v n L, HR.mk f vs v n L ∈ l → RFact f vs v n L ∧ frees vs = true ∧ lowIn n L = true) → HookOk (hooksR l)
  | [], _ => fun _ _ _ _ h => by cases h
  | .mk g us v n L :: l, h => by
    have ih := hooksR_ok l fun f vs v n L hm => h f vs v n L (List.mem_cons_of_mem _ hm)
    intro f vs aw r hr hok
    simp only [hooksR, bc_eq] at hr
    split at hr
    · rename_i hf
      split at hr
      · rename_i hs
        split at hr
        · rename_i hlaid
          injection hr with hr
          subst hr
          have hf := Nat.eq_of_beq_eq_true hf
          have hs := sameL_eq _ _ hs
          subst hf hs
          obtain ⟨hF, hfr, hlow⟩ := h f us v n L (by simp)
          intro ρ args cw hg hw hc hv
          obtain ⟨hh, nx⟩ := aw
          simp only [relR, bc_eq] at hok ⊢
          split at hok
          case isFalse => exact hok.elim
          rename_i hb
          rw [if_pos hb]
          simp only [Bool.and_eq_true] at hb
          have hb1 : 256 ≤ nx.num := Nat.le_of_ble_eq_true hb.1
          have hb2 : nx.num + n ≤ 65535 := Nat.le_of_ble_eq_true hb.2
          have hlaid' := laid_ok hg hw hlaid
          let d := nx.num - 256
          let ρ2 : Env := { blk := fun k => if k.num ≤ 255 then ρ k else none, sz := ρ.sz }
          have e2 : ∀ k : K, ρ2 k = if k.num ≤ 255 then ρ k else none := fun _ => rfl
          have hg2 : GRel ρ2 := fun g hgg => by rw [e2, K.of_num' (by omega), if_pos hgg]; exact hg g hgg
          have laidK : ∀ k, hget k (layH laidL) ≠ .none → ∃ g cs, k = K.of g ∧ g ≤ 255 ∧ LE.mk g cs ∈ laidL ∧ hget k (layH laidL) = .ro (Nat.succ g) (llen cs) (cfill cs 0 (cempty (llen cs))) := by
            intro k hk
            obtain ⟨g, cs, h1, h2, h3, _⟩ := lay_get k laidL hk
            exact ⟨g, cs, h2, (fine_get _ laid_fine g cs h1).1, h1, h3⟩
          have hw2 : WRel ρ2 (withL [] 256) cw := by
            refine ⟨?_, ?_, ?_, fun k kd g hk => by have hk : lhOf (hget k (layH laidL)) = some (kd, g) := hk; rw [lay_noGhost] at hk; cases hk⟩
            · intro k l hk hl e
              obtain ⟨g, cs, h1, h2, h3, _⟩ := laidK k hk
              obtain ⟨g', cs', h1', h2', h3', _⟩ := laidK l hl
              rw [h1, h1', hg2 g h2, hg2 g' h2'] at e
              injection e with e
              rw [h1, h1', e]
            · intro k hk
              obtain ⟨g, cs, h1, h2, h3, h4⟩ := laidK k hk
              obtain ⟨f1, f2, f3⟩ := fine_get _ laid_fine g cs h3
              obtain ⟨arr, t, fz, q1, q2⟩ := hlaid' g cs h3
              refine ⟨g, by rw [h1]; exact hg2 g h2, ?_⟩
              show ORel ρ2 (hget k (layH laidL)) _
              have hlen := VRels.length _ _ (q2 ρ2)
              rw [h4, q1, llen_eq]
              refine ⟨arr, t, fz, rfl, by simpa using hlen, by rw [ccap_cfill]; exact ccap_cempty _ f3, fun i hi => ?_, fun g' cs' e' hm' ρ' => by
                obtain rfl : g' = g := by have : g + 1 = g' + 1 := e'; omega
                obtain ⟨arr2, t2, fz2, z1, z2⟩ := hlaid' g' cs' hm'
                rw [q1] at z1; injection z1 with z1; injection z1 with z1; subst z1; exact z2 ρ'⟩
              obtain ⟨v, r1, r2⟩ := cells_new (q2 ρ2) f3 i hi
              exact ⟨v, by simpa using r1, r2⟩
            · intro k c arr t fz hk hc' hx
              obtain ⟨g, cs, h1, h2, h3, h4⟩ := laidK k hk
              obtain ⟨t', c', r1⟩ := laidIs_get hlaid g cs h3
              rw [wget_eq] at r1
              rw [h1, hg2 g h2] at hc'
              injection hc' with hc'
              subst hc'
              show arr.size = ρ.sz k
              rw [h1]
              exact hw.len (K.of g) g arr t fz (by rw [r1]; simp) (hg g h2) hx
          have hc2 : Clean ρ2 (withL [] 256) := by
            intro k hk
            have hk : (K.of 256).num ≤ k.num := hk
            rw [K.of_num' (by omega)] at hk
            rw [e2, if_neg (by omega)]
          refine Calls.mono (hF ρ2 args cw hg2 hw2 hc2 (frees_rel hfr hv)) fun e cw' hp => ?_
          obtain ⟨v', ρ3, rfl, hv3, hA⟩ := hp
          let ρ4 : Env := { blk := fun k => if nx.num ≤ k.num ∧ k.num < nx.num + n then ρ3 (K.of (k.num - d)) else ρ k, sz := fun k => if nx.num ≤ k.num ∧ k.num < nx.num + n then ρ3.sz (K.of (k.num - d)) else ρ.sz k, ft := ρ.ft }
          have e4 : ∀ k : K, ρ4 k = if nx.num ≤ k.num ∧ k.num < nx.num + n then ρ3 (K.of (k.num - d)) else ρ k := fun _ => rfl
          have s4 : ∀ k : K, ρ4.sz k = if nx.num ≤ k.num ∧ k.num < nx.num + n then ρ3.sz (K.of (k.num - d)) else ρ.sz k := fun _ => rfl
          have n256 : (withL [] 256).nx.num = 256 := K.of_num' (by omega)
          have n256' : (withL L (256 + n)).nx.num = 256 + n := K.of_num' (by omega)
          have hd : d + 256 = nx.num := by show nx.num - 256 + 256 = nx.num; omega
          have hm : Moves d ρ3 ρ4 := by
            intro k c hk
            have hr := hA.rng k
            rw [n256, n256'] at hr
            unfold sh
            rw [bc_eq]
            by_cases hk1 : k.num ≤ 255
            · rw [if_pos (Nat.ble_eq_true_of_le hk1)]
              have h3 : ρ3 k = ρ2 k := by rcases hr with x | x; exact x; omega
              rw [h3] at hk
              rw [e4, s4, if_neg (by omega), if_neg (by omega)]
              have := (hA.le k c hk).2
              rw [e2, if_pos hk1] at hk
              exact ⟨hk, this.symm⟩
            · rw [if_neg (fun x => hk1 (Nat.le_of_ble_eq_true x))]
              have h3 : 256 ≤ k.num ∧ k.num < 256 + n := by
                rcases hr with x | x
                · rw [x, e2, if_neg hk1] at hk; cases hk
                · exact x
              have hn : (K.of (k.num + d)).num = k.num + d := K.of_num' (by omega)
              show ρ4 (K.of (k.num + d)) = _ ∧ ρ4.sz (K.of (k.num + d)) = _
              rw [e4, s4, hn, if_pos (by omega), if_pos (by omega), Nat.add_sub_cancel, K.of_of]
              exact ⟨hk, rfl⟩
          have noOwn : ∀ c, ¬ Own ρ2 (withL [] 256) c := by
            rintro c ⟨k, hk, hr, _⟩
            obtain ⟨g, cs, h1, h2, h3, h4⟩ := laidK k hk
            have hr : (hget k (layH laidL)).isRo = false := hr
            rw [h4] at hr
            cases hr
          have oldLt : ∀ k, hget k hh ≠ .none → ∃ c, ρ k = some c ∧ c < cw.heap.size ∧ k.num < nx.num ∧ ORel ρ (hget k hh) (cw.heap[c]?) := by
            intro k hk
            obtain ⟨c, h1, h2⟩ := hw.dom k hk
            obtain ⟨y, hy⟩ := h2.some hk
            refine ⟨c, h1, (Array.getElem?_eq_some_iff.1 hy).1, ?_, h2⟩
            apply Classical.byContradiction
            intro hn
            have := hc k (Nat.le_of_not_lt hn)
            rw [this] at h1
            cases h1
          have hle : ρ.le ρ4 := by
            intro k c hk
            have : k.num < nx.num := by
              apply Classical.byContradiction
              intro hn
              have := hc k (Nat.le_of_not_lt hn)
              rw [this] at hk
              cases hk
            rw [e4, s4, if_neg (by omega), if_neg (by omega)]
            exact ⟨hk, rfl⟩
          have newAt : ∀ m o, HO.mk m o ∈ L → hget (K.of m) (buildH L) = objOf o → ∃ c, ρ4 (K.of (m + d)) = some c ∧ ρ3 (K.of m) = some c ∧ cw.heap.size ≤ c ∧ ORel ρ4 (objOf (shLO d o)) (cw'.heap[c]?) := by
            intro m o hmem hget'
            obtain ⟨b1, b2, b3⟩ := low_mem hlow m o hmem
            have hne : hget (K.of m) (withL L (256 + n)).h ≠ .none := by show hget (K.of m) (buildH L) ≠ .none; rw [hget']; exact objOf_ne o
            obtain ⟨c, h1, h2⟩ := hA.rel.dom _ hne
            have h2 : ORel ρ3 (hget (K.of m) (buildH L)) _ := h2
            rw [hget'] at h2
            have hn : (K.of (m + d)).num = m + d := K.of_num' (by omega)
            refine ⟨c, by rw [e4, hn, if_pos (by omega), Nat.add_sub_cancel]; exact h1, h1, ?_, shLO_rel hm b3 h2⟩
            rcases hA.keep _ c hne h1 with ⟨l, q1, q2⟩ | q
            · obtain ⟨g, cs, g1, g2, g3, g4⟩ := laidK l q1
              have q3 := (hA.le l c q2).1
              have := hA.rel.inj (K.of m) l hne (lay_build L q1) (by rw [h1, q3])
              have := congrArg K.num this
              rw [g1, K.of_num' (by omega), K.of_num' (by omega)] at this
              omega
            · exact q
          have hrel : WRel ρ4 (.mk (putSh d L hh) (K.of (nx.num + n))) cw' := by
            have view : ∀ k, hget k (putSh d L hh) ≠ .none → (∃ m o c, HO.mk m o ∈ L ∧ k = K.of (m + d) ∧ hget k (putSh d L hh) = objOf (shLO d o) ∧ ρ4 k = some c ∧ ρ3 (K.of m) = some c ∧ cw.heap.size ≤ c ∧ ORel ρ4 (objOf (shLO d o)) (cw'.heap[c]?) ∧ hget (K.of m) (buildH L) = objOf o) ∨
                (∃ c, hget k hh ≠ .none ∧ hget k (putSh d L hh) = hget k hh ∧ ρ4 k = some c ∧ ρ k = some c ∧ c < cw.heap.size ∧ ORel ρ4 (hget k hh) (cw'.heap[c]?) ∧ k.num < nx.num) := by
              intro k hk
              rcases put_get (n := n) (show d + 256 + n ≤ 65535 by omega) k hh L hlow with ⟨m, o, q1, q2, q3, q4⟩ | ⟨q1, q2⟩
              · obtain ⟨c, c1, c2, c3, c4⟩ := newAt m o q1 q4
                exact .inl ⟨m, o, c, q1, q2, q3, by rw [q2]; exact c1, c2, c3, c4, q4⟩
              · rw [q2] at hk
                obtain ⟨c, c1, c2, c3, c4⟩ := oldLt k hk
                refine .inr ⟨c, hk, q2, (hle k c c1).1, c1, c2, ?_, c3⟩
                rw [hA.frame c c2 (noOwn c)]
                exact ORel.mono hle c4
            have noG : ∀ k, lhOf (hget k (putSh d L hh)) ≠ none → lhOf (hget k (putSh d L hh)) = lhOf (hget k hh) ∧ ρ4 k = ρ k := by
              intro k hk
              rcases view k (lh_live hk) with ⟨m, o, c, q1, q2, q3, q4, q5, q6, q7, q8⟩ | ⟨c, q1, q2, q3, q4, q5, q6, q7⟩
              · exfalso
                obtain ⟨b1, b2, b3⟩ := low_mem hlow m o q1
                rw [q3] at hk
                exact hk (shLO_noG b3)
              · exact ⟨by rw [q2], by rw [q3, q4]⟩
            refine ⟨?_, ?_, ?_, ?_⟩
            · intro k l hk hl e
              rcases view k hk with ⟨m, o, c, q1, q2, q3, q4, q5, q6, q7, q8⟩ | ⟨c, q1, q2, q3, q4, q5, q6, q7⟩ <;>
              rcases view l hl with ⟨m', o', c', p1, p2, p3, p4, p5, p6, p7, p8⟩ | ⟨c', p1, p2, p3, p4, p5, p6, p7⟩
              · rw [q4, p4] at e
                have hne : hget (K.of m) (withL L (256 + n)).h ≠ .none := by show hget (K.of m) (buildH L) ≠ .none; rw [q8]; exact objOf_ne o
                have hne' : hget (K.of m') (withL L (256 + n)).h ≠ .none := by show hget (K.of m') (buildH L) ≠ .none; rw [p8]; exact objOf_ne o'
                have := hA.rel.inj (K.of m) (K.of m') hne hne' (by rw [q5, p5, e])
                have := congrArg K.num this
                obtain ⟨b1, b2, _⟩ := low_mem hlow m o q1
                obtain ⟨b1', b2', _⟩ := low_mem hlow m' o' p1
                rw [K.of_num' (by omega), K.of_num' (by omega)] at this
                rw [q2, p2, this]
              · rw [q4, p3] at e; injection e with e; omega
              · rw [q3, p4] at e; injection e with e; omega
              · exact hw.inj k l q1 p1 (by rw [q4, p4, ← q3, ← p3, e])
            · intro k hk
              show ∃ c, ρ4 k = some c ∧ ORel ρ4 (hget k (putSh d L hh)) _
              rcases view k hk with ⟨m, o, c, q1, q2, q3, q4, q5, q6, q7, q8⟩ | ⟨c, q1, q2, q3, q4, q5, q6, q7⟩
              · exact ⟨c, q4, by rw [q3]; exact q7⟩
              · exact ⟨c, q3, by rw [q2]; exact q6⟩
            · intro k c arr t fz hk hc' hx
              rcases view k hk with ⟨m, o, c1, q1, q2, q3, q4, q5, q6, q7, q8⟩ | ⟨c1, q1, q2, q3, q4, q5, q6, q7⟩
              · rw [q4] at hc'; injection hc' with hc'; subst hc'
                obtain ⟨b1, b2, _⟩ := low_mem hlow m o q1
                have hne : hget (K.of m) (withL L (256 + n)).h ≠ .none := by show hget (K.of m) (buildH L) ≠ .none; rw [q8]; exact objOf_ne o
                have := hA.rel.len (K.of m) c1 arr t fz hne q5 hx
                have hn : (K.of (m + d)).num = m + d := K.of_num' (by omega)
                rw [this, q2, s4, hn, if_pos (by omega), Nat.add_sub_cancel]
              · rw [q3] at hc'; injection hc' with hc'; subst hc'
                rw [hA.frame c1 q5 (noOwn c1)] at hx
                rw [hw.len k c1 arr t fz q1 q4 hx, s4, if_neg (by omega)]
            · intro k kd g hkg
              have hkg : lhOf (hget k (putSh d L hh)) = some (kd, g) := hkg
              have e1 := noG k (lh_ne hkg)
              rw [e1.1] at hkg
              have q := hw.gho k kd g hkg
              refine q.step e1.2 rfl hA.size (fun c hcf => hA.frame c (q.lt c hcf) (noOwn c)) (fun l hl hlk c hcl hcf => ?_) (fun l hl => q.dis l (by show lhOf (hget l hh) ≠ none; rw [← (noG l hl).1]; exact hl))
              rcases view l hl with ⟨m, o, c1, q1, q2, q3, q4, q5, q6, q7, q8⟩ | ⟨c1, q1, q2, q3, q4, q5, q6, q7⟩
              · rw [q4] at hcl; injection hcl with hcl; subst hcl
                have := q.lt c1 hcf
                omega
              · rw [q3] at hcl; injection hcl with hcl; subst hcl
                exact q.sep l q1 hlk c1 q4 hcf
          refine ⟨v', ρ4, rfl, shAV_rel hm 8 _ _ hv3, ⟨hrel, hle, ?_, ?_, hA.size, ?_, ?_, ?_, ?_, hA.os, hA.tape, hA.output⟩⟩
          · intro k
            show ρ4 k = ρ k ∨ (nx.num ≤ k.num ∧ k.num < (K.of (nx.num + n)).num)
            rw [K.of_num' (by omega), e4]
            by_cases hk : nx.num ≤ k.num ∧ k.num < nx.num + n
            · exact .inr hk
            · rw [if_neg hk]; exact .inl rfl
          · show nx.num ≤ (K.of (nx.num + n)).num
            rw [K.of_num' (by omega)]; omega
          · rintro c ⟨k, hk, hr, hkc⟩
            have hk : hget k (putSh d L hh) ≠ .none := hk
            have hr : (hget k (putSh d L hh)).isRo = false := hr
            have hkc : ρ4 k = some c ∨ (lhOf (hget k (putSh d L hh)) ≠ none ∧ ρ.ft k c) := hkc
            rcases hkc with hkc | ⟨hk1, hk2⟩
            rotate_left
            · left
              rcases put_get (n := n) (show d + 256 + n ≤ 65535 by omega) k hh L hlow with ⟨m, o, q1, q2, q3, q4⟩ | ⟨q1, q2⟩
              · rw [q3] at hk1
                exact absurd (shLO_noG (low_mem hlow m o q1).2.2) hk1
              · rw [q2] at hk hr hk1
                exact ⟨k, hk, hr, .inr ⟨hk1, hk2⟩⟩
            rcases put_get (n := n) (show d + 256 + n ≤ 65535 by omega) k hh L hlow with ⟨m, o, q1, q2, q3, q4⟩ | ⟨q1, q2⟩
            · obtain ⟨c1, c1', c2, c3, c4⟩ := newAt m o q1 q4
              rw [q2, c1'] at hkc
              injection hkc with hkc
              subst hkc
              exact .inr c3
            · rw [q2] at hk hr
              obtain ⟨c1, p1, p2, p3, p4⟩ := oldLt k hk
              rw [(hle k c1 p1).1] at hkc
              injection hkc with hkc
              subst hkc
              exact .inl ⟨k, hk, hr, .inl p1⟩
          · intro k c hk hkc
            have hk : hget k (putSh d L hh) ≠ .none := hk
            rcases put_get (n := n) (show d + 256 + n ≤ 65535 by omega) k hh L hlow with ⟨m, o, q1, q2, q3, q4⟩ | ⟨q1, q2⟩
            · obtain ⟨c1, c1', c2, c3, c4⟩ := newAt m o q1 q4
              rw [q2, c1'] at hkc
              injection hkc with hkc
              subst hkc
              exact .inr c3
            · rw [q2] at hk
              obtain ⟨c1, p1, p2, p3, p4⟩ := oldLt k hk
              rw [(hle k c1 p1).1] at hkc
              injection hkc with hkc
              subst hkc
              exact .inl ⟨k, hk, p1⟩
          · intro c hcs _
            exact hA.frame c hcs (noOwn c)
          · intro k hk hl
            refine ⟨rfl, ?_⟩
            show lhOf (hget k (putSh d L hh)) = none
            rcases put_get (n := n) (show d + 256 + n ≤ 65535 by omega) k hh L hlow with ⟨m, o, q1, q2, q3, q4⟩ | ⟨q1, q2⟩
            · rw [q3]; exact shLO_noG (low_mem hlow m o q1).2.2
            · rw [q2]; exact hl
        · cases hr
      · exact ih f vs aw r hr hok
    · exact ih f vs aw r hr hok
end Go.Ev
set_option maxRecDepth 100000
set_option linter.all false
namespace Go.Ev
variable [Gv]
/- A call that is known from the memory that it touches: all other memory stays. -/
noncomputable section
def killF : List HO → H4 → H4
  | [], h => h
  | .mk k _ :: l, h => hset (K.of k) .none (killF l h)
def putF : List HO → H4 → H4
  | [], h => h
  | .mk k o :: l, h => hset (K.of k) (objOf o) (putF l h)
/-- the written keys: those that were touched, and new ones -/
def keyIn (k : Nat) : List HO → Bool
  | [] => false
  | .mk m _ :: l => bc (Nat.beq m k) true (keyIn k l)
def loFine (nxi nxo : Nat) (Li : List HO) : List HO → Bool
  | [] => true
  | .mk k _ :: l => bc (Nat.ble 256 k && Nat.blt k nxo && (keyIn k Li || Nat.ble nxi k)) (loFine nxi nxo Li l) false
def liFine (nxi : Nat) : List HO → Bool
  | [] => true
  | .mk k _ :: l => bc (Nat.ble 256 k && Nat.blt k nxi) (liFine nxi l) false
def frR (v : AV) (Li Lo : List HO) (nxo : Nat) (w : W) : CR := .ret v (.mk (putF Lo (killF Li (hOf w))) (K.of nxo))
def hooksF (l : List HW) (f : FuncId) (vs : List AV) (w : W) : Option CR := match l with
  | [] => none
  | .mk g us nxi Li v nxo Lo :: l => bc (Nat.beq f g) (bc (listEq (avEq 8) us vs) (bc (fitsL Li nxi w) (some (frR v Li Lo nxo w)) (hooksF l f vs w)) (hooksF l f vs w)) (hooksF l f vs w)
end
theorem keyIn_iff {k : Nat} : ∀ {l : List HO}, keyIn k l = true ↔ ∃ o, HO.mk k o ∈ l
  | [] => by simp [keyIn]
  | .mk m o :: l => by
    simp only [keyIn, bc_eq]
    split
    · rename_i h
      have := Nat.eq_of_beq_eq_true h
      subst this
      simp only [true_iff]
      exact ⟨o, by simp⟩
    · rename_i h
      rw [keyIn_iff (l := l)]
      constructor
      · rintro ⟨p, hp⟩; exact ⟨p, List.mem_cons_of_mem _ hp⟩
      · rintro ⟨p, hp⟩
        rcases List.mem_cons.1 hp with e | e
        · injection e with e1 e2
          subst e1
          exact absurd (Nat.beq_refl _) h
        · exact ⟨p, e⟩
theorem loFine_mem {nxi nxo : Nat} {Li : List HO} : ∀ {l : List HO}, loFine nxi nxo Li l = true → ∀ k o, HO.mk k o ∈ l → 256 ≤ k ∧ k < nxo ∧ ((∃ p, HO.mk k p ∈ Li) ∨ nxi ≤ k)
  | .mk m p :: l, h, k, o, hm => by
    simp only [loFine] at h
    obtain ⟨h1, h2⟩ := bc_and.1 h
    simp only [Bool.and_eq_true, Bool.or_eq_true] at h1
    rcases List.mem_cons.1 hm with e | e
    · injection e with e1 e2
      subst e1
      refine ⟨Nat.le_of_ble_eq_true h1.1.1, Nat.le_of_ble_eq_true h1.1.2, h1.2.imp (fun q => keyIn_iff.1 q) Nat.le_of_ble_eq_true⟩
    · exact loFine_mem h2 k o e
theorem liFine_mem {nxi : Nat} : ∀ {l : List HO}, liFine nxi l = true → ∀ k o, HO.mk k o ∈ l → 256 ≤ k ∧ k < nxi
  | .mk m p :: l, h, k, o, hm => by
    simp only [liFine] at h
    obtain ⟨h1, h2⟩ := bc_and.1 h
    simp only [Bool.and_eq_true] at h1
    rcases List.mem_cons.1 hm with e | e
    · injection e with e1 e2
      subst e1
      exact ⟨Nat.le_of_ble_eq_true h1.1, Nat.le_of_ble_eq_true h1.2⟩
    · exact liFine_mem h2 k o e
/-- what lies at a key afterwards: what was written, or what lay there -/
theorem put_cases (k : K) (h : H4) (B : H4) : ∀ L : List HO, (∃ m o, HO.mk m o ∈ L ∧ k = K.of m ∧ hget k (putF L h) = hget k (putF L B) ∧ hget k (putF L B) = objOf o) ∨ ((∀ m o, HO.mk m o ∈ L → k ≠ K.of m) ∧ hget k (putF L h) = hget k h)
  | [] => .inr ⟨(fun _ _ h => by cases h), rfl⟩
  | .mk m o :: L => by
    simp only [putF]
    by_cases e : k = K.of m
    · subst e
      exact .inl ⟨m, o, by simp, rfl, by rw [hget_hset_same, hget_hset_same], by rw [hget_hset_same]⟩
    · rw [hget_hset_ne e, hget_hset_ne e]
      rcases put_cases k h B L with ⟨m', o', h1, h2, h3, h4⟩ | ⟨h1, h2⟩
      · exact .inl ⟨m', o', List.mem_cons_of_mem _ h1, h2, h3, h4⟩
      · refine .inr ⟨fun m' o' hm => ?_, h2⟩
        rcases List.mem_cons.1 hm with q | q
        · injection q with q1 q2; rw [q1]; exact e
        · exact h1 m' o' q
theorem kill_cases (k : K) (h : H4) : ∀ L : List HO, ((∃ m o, HO.mk m o ∈ L ∧ k = K.of m) ∧ hget k (killF L h) = .none) ∨ ((∀ m o, HO.mk m o ∈ L → k ≠ K.of m) ∧ hget k (killF L h) = hget k h)
  | [] => .inr ⟨(fun _ _ h => by cases h), rfl⟩
  | .mk m o :: L => by
    simp only [killF]
    by_cases e : k = K.of m
    · subst e
      exact .inl ⟨⟨m, o, by simp, rfl⟩, by rw [hget_hset_same]⟩
    · rw [hget_hset_ne e]
      rcases kill_cases k h L with ⟨⟨m', o', h1, h2⟩, h3⟩ | ⟨h1, h2⟩
      · exact .inl ⟨⟨m', o', List.mem_cons_of_mem _ h1, h2⟩, h3⟩
      · refine .inr ⟨fun m' o' hm => ?_, h2⟩
        rcases List.mem_cons.1 hm with q | q
        · injection q with q1 q2; rw [q1]; exact e
        · exact h1 m' o' q
theorem build_put : ∀ L, buildH L = putF L (layH laidL)
  | [] => rfl
  | .mk k o :: L => by simp only [buildH, putF, build_put L]
theorem frame_sub {ρ ρ' : Env} {aw : W} {cw cw' : World} {Li Lo : List HO} {nxi nxo : Nat} (hw : WRel ρ aw cw) (hcl : Clean ρ aw) (sub : Sub (withL Li nxi) aw) (h1 : liFine nxi Li = true) (h2 : loFine nxi nxo Li Lo = true) (hx : nxo ≤ 65535)
    (hA : Adv ρ (withL Li nxi) cw ρ' (withL Lo nxo) cw') : Adv ρ aw cw ρ' (.mk (putF Lo (killF Li (hOf aw))) (K.of nxo)) cw' := by
  have hh : hOf aw = aw.h := by cases aw; rfl
  rw [hh]
  have hnxi : (K.of nxi).num = aw.nx.num := congrArg K.num sub.nx
  -- what lies at a key of the new heap
  have key : ∀ k, hget k (putF Lo (killF Li aw.h)) ≠ .none → (hget k (putF Lo (killF Li aw.h)) = hget k (buildH Lo) ∧ ∃ m o, HO.mk m o ∈ Lo ∧ k = K.of m) ∨
      (hget k (putF Lo (killF Li aw.h)) = hget k aw.h ∧ (∀ m o, HO.mk m o ∈ Lo → k ≠ K.of m) ∧ ∀ m o, HO.mk m o ∈ Li → k ≠ K.of m) := by
    intro k hk
    rcases put_cases k (killF Li aw.h) (layH laidL) Lo with ⟨m, o, q1, q2, q3, q4⟩ | ⟨q1, q2⟩
    · exact .inl ⟨by rw [q3, build_put], m, o, q1, q2⟩
    · rcases kill_cases k aw.h Li with ⟨_, r2⟩ | ⟨r1, r2⟩
      · rw [q2, r2] at hk; exact absurd rfl hk
      · exact .inr ⟨by rw [q2, r2], q1, r1⟩
  -- a block of a key that is not touched
  have old : ∀ k c, hget k aw.h ≠ .none → (∀ m o, HO.mk m o ∈ Li → k ≠ K.of m) → ρ k = some c → ¬ Own ρ (withL Li nxi) c := by
    rintro k c hk hn hc ⟨l, l1, l2, l3⟩
    rcases l3 with l3 | ⟨l3, l4⟩
    rotate_left
    · obtain ⟨⟨kd, g⟩, hg⟩ := Option.ne_none_iff_exists'.1 (sub.ghost l3)
      by_cases e : k = l
      · subst e
        rcases build_get k Li l1 with ⟨m, o, q1, q2, q3⟩ | ⟨g', cs, q1, q2, q3⟩
        · exact hn m o q1 q2
        · have : lhOf (hget k (buildH Li)) ≠ none := l3
          rw [q3] at this; exact this rfl
      · exact (hw.gho l kd g hg).sep k hk e c hc l4
    have l1' : hget l (buildH Li) ≠ .none := l1
    have l2' : (hget l (buildH Li)).isRo = false := l2
    rcases build_get l Li l1' with ⟨m, o, q1, q2, q3⟩ | ⟨g, cs, q1, q2, q3⟩
    · have := hw.inj l k (sub.at_ l l1).1 hk (by rw [l3, hc])
      exact hn m o q1 (by rw [← this, q2])
    · rw [q3] at l2'; cases l2'
  have lt : ∀ k c, hget k aw.h ≠ .none → ρ k = some c → c < cw.heap.size := by
    intro k c hk hc
    obtain ⟨c', hc', ho'⟩ := hw.dom k hk
    rw [hc] at hc'; cases hc'
    obtain ⟨y, hy⟩ := ho'.some hk
    exact (Array.getElem?_eq_some_iff.1 hy).1
  have same : ∀ k c, hget k aw.h ≠ .none → (∀ m o, HO.mk m o ∈ Li → k ≠ K.of m) → ρ k = some c → cw'.heap[c]? = cw.heap[c]? := fun k c hk hn hc => hA.frame c (lt k c hk hc) (old k c hk hn hc)
  -- a written key and an untouched one stand for different blocks
  have diff : ∀ k l, hget k (buildH Lo) ≠ .none → (∃ m o, HO.mk m o ∈ Lo ∧ k = K.of m) → hget l aw.h ≠ .none → (∀ m o, HO.mk m o ∈ Li → l ≠ K.of m) → (∀ m o, HO.mk m o ∈ Lo → l ≠ K.of m) → ρ' k ≠ ρ' l := by
    rintro k l hk ⟨m, o, m1, m2⟩ hl hnl hno e
    obtain ⟨c, hc, _⟩ := hw.dom l hl
    have hc' := (hA.le _ _ hc).1
    rw [hc'] at e
    rcases hA.keep k c hk e with ⟨x, x1, x2⟩ | x
    · have x1' : hget x (buildH Li) ≠ .none := x1
      have hxl := hw.inj x l (sub.at_ x x1).1 hl (by rw [x2, hc])
      subst hxl
      rcases build_get x Li x1' with ⟨n, p, q1, q2, q3⟩ | ⟨g, cs, q1, q2, q3⟩
      · exact hnl n p q1 q2
      · have hlay : hget x (buildH Lo) ≠ .none := by
          have : ∀ L : List HO, hget (K.of g) (layH laidL) ≠ .none → hget (K.of g) (buildH L) ≠ .none := by
            intro L
            induction L with
            | nil => exact id
            | cons y L ih =>
              obtain ⟨n, p⟩ := y
              intro h
              simp only [buildH]
              by_cases e : K.of g = K.of n
              · rw [e, hget_hset_same]; exact objOf_ne p
              · rw [hget_hset_ne e]; exact ih h
          rw [q2]
          refine this Lo ?_
          have h0 : ∀ L : List HO, (∀ n p, HO.mk n p ∈ L → K.of g ≠ K.of n) → hget (K.of g) (buildH L) = hget (K.of g) (layH laidL) := by
            intro L
            induction L with
            | nil => intro _; rfl
            | cons y L ih =>
              obtain ⟨n, p⟩ := y
              intro h
              simp only [buildH]
              rw [hget_hset_ne (h n p (by simp)), ih fun n' p' hm => h n' p' (List.mem_cons_of_mem _ hm)]
          rw [← h0 Li fun n p hm => by rw [← q2]; exact hnl n p hm, ← q2]
          exact x1'
        have hkl := hA.rel.inj k x hk hlay (by rw [e, (hA.le _ _ x2).1])
        exact hno m o m1 (by rw [← hkl, m2])
    · have := lt l c hl hc; omega
  -- a structure of many blocks that is not touched
  have noLi : ∀ k, lhOf (hget k aw.h) ≠ none → (∀ m o, HO.mk m o ∈ Li → k ≠ K.of m) → hget k (buildH Li) = .none := by
    intro k hk hn
    by_cases e : hget k (buildH Li) = .none
    · exact e
    · exfalso
      rcases build_get k Li e with ⟨n, p, q1, q2, q3⟩ | ⟨g, cs, q1, q2, q3⟩
      · exact hn n p q1 q2
      · have := (sub.at_ k e).2.1
        rw [show hget k (withL Li nxi).h = hget k (buildH Li) from rfl, q3, lh_ro hk] at this
        cases this
  have oldG : ∀ k kd g, lhOf (hget k aw.h) = some (kd, g) → (∀ m o, HO.mk m o ∈ Li → k ≠ K.of m) → ∀ c, ρ.ft k c → ¬ Own ρ (withL Li nxi) c := by
    rintro k kd g hk hn c hc ⟨x, x1, x2, x3⟩
    have q := hw.gho k kd g hk
    have hxk : x ≠ k := by
      rintro rfl
      exact x1 (noLi x (by rw [hk]; simp) hn)
    rcases x3 with x3 | ⟨x3, x4⟩
    · exact q.sep x (sub.at_ x x1).1 hxk c x3 hc
    · exact q.dis x (sub.ghost x3) hxk c x4 hc
  have fts : ∀ k, lhOf (hget k aw.h) ≠ none → (∀ m o, HO.mk m o ∈ Li → k ≠ K.of m) → ρ'.ft k = ρ.ft k := by
    intro k hk hn
    have hlt : k.num < (withL Li nxi).nx.num := by
      rw [show (withL Li nxi).nx.num = aw.nx.num from hnxi]
      by_cases e : k.num < aw.nx.num
      · exact e
      · exfalso
        obtain ⟨c, hc, _⟩ := hw.dom k (lh_live hk)
        rw [hcl k (by omega)] at hc; cases hc
    exact (hA.fts k hlt (by rw [show hget k (withL Li nxi).h = hget k (buildH Li) from rfl, noLi k hk hn]; rfl)).1
  -- a written structure's blocks are no blocks of what is not touched
  have wrote : ∀ k, lhOf (hget k (buildH Lo)) ≠ none → ∀ c, ρ'.ft k c → Own ρ (withL Li nxi) c ∨ cw.heap.size ≤ c := fun k hk c hc =>
    hA.own c ⟨k, lh_live hk, lh_ro hk, .inr ⟨hk, hc⟩⟩
  refine ⟨⟨?_, ?_, ?_, ?_⟩, hA.le, ?_, ?_, hA.size, ?_, ?_, ?_, ?_, hA.os, hA.tape, hA.output⟩
  · intro k l hk hl e
    simp only [W.h_mk] at hk hl
    rcases key k hk with ⟨k1, k2⟩ | ⟨k1, k2, k3⟩
    · rcases key l hl with ⟨l1, l2⟩ | ⟨l1, l2, l3⟩
      · exact hA.rel.inj k l (by show hget k (buildH Lo) ≠ _; rw [← k1]; exact hk) (by show hget l (buildH Lo) ≠ _; rw [← l1]; exact hl) e
      · exact absurd e (diff k l (by rw [← k1]; exact hk) k2 (by rw [← l1]; exact hl) l3 l2)
    · rcases key l hl with ⟨l1, l2⟩ | ⟨l1, l2, l3⟩
      · exact absurd e.symm (diff l k (by rw [← l1]; exact hl) l2 (by rw [← k1]; exact hk) k3 k2)
      · rw [k1] at hk; rw [l1] at hl
        obtain ⟨c, hc, _⟩ := hw.dom k hk
        obtain ⟨d, hd, _⟩ := hw.dom l hl
        rw [(hA.le _ _ hc).1, (hA.le _ _ hd).1] at e
        exact hw.inj k l hk hl (by rw [hc, hd, e])
  · intro k hk
    simp only [W.h_mk] at hk ⊢
    rcases key k hk with ⟨k1, k2⟩ | ⟨k1, k2, k3⟩
    · rw [k1] at hk ⊢
      exact hA.rel.dom k hk
    · rw [k1] at hk ⊢
      obtain ⟨c, hc, ho⟩ := hw.dom k hk
      exact ⟨c, (hA.le _ _ hc).1, by rw [same k c hk k3 hc]; exact ho.mono hA.le⟩
  · intro k c arr t fz hk hc hxx
    simp only [W.h_mk] at hk
    rcases key k hk with ⟨k1, k2⟩ | ⟨k1, k2, k3⟩
    · rw [k1] at hk
      exact hA.rel.len k c arr t fz hk hc hxx
    · rw [k1] at hk
      obtain ⟨d, hd, _⟩ := hw.dom k hk
      have e := (hA.le _ _ hd).1
      rw [hc] at e; injection e with e; subst e
      rw [same k c hk k3 hd] at hxx
      rw [(hA.le _ _ hd).2]
      exact hw.len k c arr t fz hk hd hxx
  · intro k kd g hkg
    simp only [W.h_mk] at hkg
    rcases key k (lh_live (lh_ne hkg)) with ⟨k1, k2⟩ | ⟨k1, k2, k3⟩
    · rw [k1] at hkg
      have q := hA.rel.gho k kd g hkg
      refine q.step rfl rfl (Nat.le_refl _) (fun _ _ => rfl) (fun l hl hlk c hc hf => ?_) (fun l hl hlk c hc hf => ?_)
      · simp only [W.h_mk] at hl
        rcases key l hl with ⟨l1, l2⟩ | ⟨l1, l2, l3⟩
        · rw [l1] at hl; exact q.sep l hl hlk c hc hf
        · rw [l1] at hl
          obtain ⟨d, hd, _⟩ := hw.dom l hl
          have e := (hA.le _ _ hd).1
          rw [hc] at e; injection e with e; subst e
          rcases wrote k (by rw [hkg]; simp) c hf with q1 | q1
          · exact old l c hl l3 hd q1
          · have := lt l c hl hd; omega
      · simp only [W.h_mk] at hl
        rcases key l (lh_live hl) with ⟨l1, l2⟩ | ⟨l1, l2, l3⟩
        · rw [l1] at hl; exact q.dis l hl hlk c hc hf
        · rw [l1] at hl
          rw [fts l hl l3] at hc
          obtain ⟨⟨kd', g'⟩, hl'⟩ := Option.ne_none_iff_exists'.1 hl
          rcases wrote k (by rw [hkg]; simp) c hf with q1 | q1
          · exact oldG l kd' g' hl' l3 c hc q1
          · have := (hw.gho l kd' g' hl').lt c hc; omega
    · rw [k1] at hkg
      have hne : lhOf (hget k aw.h) ≠ none := by rw [hkg]; simp
      have q := hw.gho k kd g hkg
      obtain ⟨ck, hck, _⟩ := hw.dom k (lh_live hne)
      refine q.step (by rw [(hA.le _ _ hck).1, hck]) (fts k hne k3) hA.size (fun c hc => hA.frame c (q.lt c hc) (oldG k kd g hkg k3 c hc)) (fun l hl hlk c hc hf => ?_) (fun l hl hlk c hc hf => ?_)
      · simp only [W.h_mk] at hl
        rcases key l hl with ⟨l1, l2⟩ | ⟨l1, l2, l3⟩
        · rw [l1] at hl
          rcases hA.keep l c hl hc with ⟨x, x1, x2⟩ | x
          · have hxk : x ≠ k := by rintro rfl; exact x1 (noLi x hne k3)
            exact q.sep x (sub.at_ x x1).1 hxk c x2 hf
          · have := q.lt c hf; omega
        · rw [l1] at hl
          obtain ⟨d, hd, _⟩ := hw.dom l hl
          have e := (hA.le _ _ hd).1
          rw [hc] at e; injection e with e; subst e
          exact q.sep l hl hlk c hd hf
      · simp only [W.h_mk] at hl
        rcases key l (lh_live hl) with ⟨l1, l2⟩ | ⟨l1, l2, l3⟩
        · rw [l1] at hl
          rcases wrote l hl c hc with q1 | q1
          · exact oldG k kd g hkg k3 c hf q1
          · have := q.lt c hf; omega
        · rw [l1] at hl
          rw [fts l hl l3] at hc
          exact q.dis l hl hlk c hc hf
  · intro k
    rcases hA.rng k with e | e
    · exact .inl e
    · exact .inr ⟨by rw [← sub.nx]; exact e.1, e.2⟩
  · show aw.nx.num ≤ (K.of nxo).num
    rw [← sub.nx]; exact hA.nx
  · rintro c ⟨k, hk, hr, hc⟩
    simp only [W.h_mk] at hk hr hc
    rcases key k hk with ⟨k1, k2⟩ | ⟨k1, k2, k3⟩
    · rw [k1] at hk hr hc
      rcases hA.own c ⟨k, hk, hr, hc⟩ with q | q
      · exact .inl (q.sub sub)
      · exact .inr q
    · rw [k1] at hk hr hc
      rcases hc with hc | ⟨hc1, hc2⟩
      · obtain ⟨d, hd, _⟩ := hw.dom k hk
        have e := (hA.le _ _ hd).1
        rw [hc] at e; injection e with e; subst e
        exact .inl ⟨k, hk, hr, .inl hd⟩
      · rw [fts k hc1 k3] at hc2
        exact .inl ⟨k, hk, hr, .inr ⟨hc1, hc2⟩⟩
  · intro k c hk hc
    simp only [W.h_mk] at hk
    rcases key k hk with ⟨k1, k2⟩ | ⟨k1, k2, k3⟩
    · rw [k1] at hk
      rcases hA.keep k c hk hc with ⟨x, x1, x2⟩ | q
      · exact .inl ⟨x, (sub.at_ x x1).1, x2⟩
      · exact .inr q
    · rw [k1] at hk
      obtain ⟨d, hd, _⟩ := hw.dom k hk
      have e := (hA.le _ _ hd).1
      rw [hc] at e; injection e with e; subst e
      exact .inl ⟨k, hk, hd⟩
  · intro c hc hn
    exact hA.frame c hc fun q => hn (q.sub sub)
  · intro k hk hl
    have q := hA.fts k (by rw [show (withL Li nxi).nx.num = aw.nx.num from hnxi]; exact hk) (sub.noGhost hl)
    refine ⟨q.1, ?_⟩
    simp only [W.h_mk]
    by_cases e : hget k (putF Lo (killF Li aw.h)) = .none
    · rw [e]; rfl
    · rcases key k e with ⟨k1, k2⟩ | ⟨k1, k2, k3⟩
      · rw [k1]; exact q.2
      · rw [k1]; exact hl
theorem frame_ok {ρ ρ' : Env} {aw : W} {cw cw' : World} {Li Lo : List HO} {nxi nxo : Nat} (hw : WRel ρ aw cw) (hcl : Clean ρ aw) (hfit : fitsL Li nxi aw = true) (h1 : liFine nxi Li = true) (h2 : loFine nxi nxo Li Lo = true) (hx : nxo ≤ 65535)
    (hA : Adv ρ (withL Li nxi) cw ρ' (withL Lo nxo) cw') : Adv ρ aw cw ρ' (.mk (putF Lo (killF Li (hOf aw))) (K.of nxo)) cw' := frame_sub hw hcl (fits_sub hfit) h1 h2 hx hA
theorem hooksF_ok : ∀ (l : List HW), (∀ f vs nxi Li v nxo Lo, HW.mk f vs nxi Li v nxo Lo ∈ l → FactW f vs nxi Li v nxo Lo ∧ liFine nxi Li = true ∧ loFine nxi nxo Li Lo = true ∧ nxo ≤ 65535) → HookOk (hooksF l)
  | [], _ => fun _ _ _ _ h => by cases h
  | .mk g us nxi Li u nxo Lo :: l, h => by
    have ih := hooksF_ok l fun f vs nxi Li v nxo Lo hm => h f vs nxi Li v nxo Lo (List.mem_cons_of_mem _ hm)
    intro f vs aw r hr
    simp only [hooksF, bc_eq] at hr
    split at hr
    · rename_i hf
      split at hr
      · rename_i hs
        split at hr
        · rename_i hfit
          injection hr with hr
          subst hr
          intro _ ρ args w hg hw hc hv
          have hf := Nat.eq_of_beq_eq_true hf
          have hs := listEq_eq (avEq_eq 8) _ _ hs
          subst hf hs
          obtain ⟨hF, f1, f2, f3⟩ := h f us nxi Li u nxo Lo (by simp)
          have sub := fits_sub hfit
          have hcl : Clean ρ (withL Li nxi) := fun k hk => hc k (by rw [← sub.nx]; exact hk)
          refine Calls.mono (hF ρ args w hg (hw.sub sub) hcl hv) fun e w' hp => ?_
          obtain ⟨v', ρ', rfl, hv', hA⟩ := hp
          exact ⟨v', ρ', rfl, hv', frame_ok hw hc hfit f1 f2 f3 hA⟩
        · exact ih f vs aw r hr
      · exact ih f vs aw r hr
    · exact ih f vs aw r hr
end Go.Ev
