import Derived.Test.YtjakdjfepibedaaGreatDoorEvDf
set_option linter.all false
namespace Go.Ev
/- Control: sound. -/
section
variable {ρ : Env} {nt : Nat} {d : Bool} {rk : Option K} {ro : Option Nat} {c₀ : Frame} {cs₀ : List Frame} {τ : F} {ds : List AD} {um : UM} {aw : W} {a : Act} {cs : List Frame} {w : World}
theorem post_then {r1 : R} {Q : Exit → Act → List Frame → World → Prop} {next : Act → List Frame → World → Prop} {e : Exit} {a' : Act} {cs' : List Frame} {w' : World}
    (hn : ∀ τ' ds' um' aw', r1 = .n (.mk τ' ds' um' aw') → Aft ρ aw w nt d c₀ cs₀ (.mk τ' ds' um' aw') a' cs' w' → next a' cs' w')
    (ho : (∀ S, r1 ≠ .n S) → Q e a' cs' w') (hp : Post ρ aw w nt d c₀ cs₀ r1 e a' cs' w') : Exit.thenS next Q e a' cs' w' := by
  cases r1 with
  | n S =>
    obtain ⟨τ', ds', um', aw'⟩ := S
    obtain ⟨rfl, hp⟩ := hp
    exact hn τ' ds' um' aw' rfl hp
  | x id S => obtain ⟨rfl, _⟩ := hp; exact ho (fun S h => by cases h)
  | r S => obtain ⟨rfl, _⟩ := hp; exact ho (fun S h => by cases h)
  | p ch S => obtain ⟨τ', ds', um', aw'⟩ := S; obtain ⟨ch', ρ', rfl, _⟩ := hp; exact ho (fun S h => by cases h)
  | no _ _ => exact hp.elim
theorem seqK_ok {r : R} {ih : Ih} {b : Code} {C : Ctx} (h : (seqK r ih b C).ok) : r.ok := by cases r <;> first | trivial | exact h
theorem seqK_other {r : R} {ih : Ih} {b : Code} {C : Ctx} (h : ∀ S, r ≠ .n S) : seqK r ih b C = r := by
  cases r with
  | n S => exact absurd rfl (h S)
  | _ => rfl
theorem K.of_of (k : K) : K.of k.num = k := by
  obtain ⟨a, b, c, d⟩ := k
  apply K.num_inj
  have la : ∀ i : I, i.num < 16 := by intro i; cases i <;> decide
  have h1 := la a; have h2 := la b; have h3 := la c; have h4 := la d
  show ((((I.of ((K.mk a b c d).num / 4096 % 16)).num * 16 + (I.of ((K.mk a b c d).num / 256 % 16)).num) * 16 + (I.of ((K.mk a b c d).num / 16 % 16)).num) * 16 + (I.of ((K.mk a b c d).num % 16)).num) = _
  rw [I.of_num _ (by omega), I.of_num _ (by omega), I.of_num _ (by omega), I.of_num _ (by omega), K.num_mk]
  omega
/-- a loop over a function -/
theorem range_ok' {ih : Ih} (hs : Sound ih) {f : Nat} {g : Operand} {ps : Array Tmp} {x y : Code} (h : SRel ρ nt d c₀ cs₀ τ ds um aw a cs w) (hro : RoRel ρ rk ro) (hr : (cRange g ps x y ih (.mk f nt d rk) (.mk τ ds um aw)).ok) :
    WS d ro f PP (.rangeFunc g ps x y) (Post ρ aw w nt d c₀ cs₀ (cRange g ps x y ih (.mk f nt d rk) (.mk τ ds um aw))) a cs w := by
  obtain ⟨h0, nx⟩ := aw
  cases rk with
  | some k => exact hr.elim
  | none =>
    have hro : ro = none := hro
    subst hro
    have hcr : cRange g ps x y ih (.mk f nt d none) (.mk τ ds um (.mk h0 nx)) = bc nx.isMax (.no 246 0) (bc nx.succ.isMax (.no 246 1)
      (rangeB ih f τ (.coll nx :: ds) um nx.succ (callV (evX g τ) [.func (.yield nx.succ.num) [] []] (.mk (hset nx.succ (.loop .ready none f nt τ ps.toList x y nx) (hset nx (.deferred (some [])) h0)) nx.succ.succ)))) := rfl
    rw [hcr] at hr ⊢
    cases hm : nx.isMax with
    | true => rw [hm] at hr; exact hr.elim
    | false =>
      rw [hm] at hr
      cases hm2 : nx.succ.isMax with
      | true => rw [hm2] at hr; exact hr.elim
      | false =>
        rw [hm2] at hr
        have hsucc := K.succ_num hm
        have hA1 : Adv ρ (.mk h0 nx) w (upd ρ nx w.heap.size 0) (.mk (hset nx (.deferred (some [])) h0) nx.succ) (w.alloc (.deferred (some []))) :=
          adv_new (obj := .deferred (some [])) h.wr (h.cl nx (Nat.le_refl _)) hm rfl
        have hS1 := h.adv hA1
        have hA2 : Adv (upd ρ nx w.heap.size 0) (.mk (hset nx (.deferred (some [])) h0) nx.succ) (w.alloc (.deferred (some []))) (upd (upd ρ nx w.heap.size 0) nx.succ (w.alloc (.deferred (some []))).heap.size 0)
            (.mk (hset nx.succ (.loop .ready none f nt τ ps.toList x y nx) (hset nx (.deferred (some [])) h0)) nx.succ.succ) ((w.alloc (.deferred (some []))).alloc (.loop { state := .ready, pending := none, fn := f, tmps := a.tmps, params := ps, assign := x, body := y, defers := w.heap.size })) :=
          adv_new (o := .loop .ready none f nt τ ps.toList x y nx) (obj := .loop { state := .ready, pending := none, fn := f, tmps := a.tmps, params := ps, assign := x, body := y, defers := w.heap.size }) hS1.wr (hS1.cl nx.succ (Nat.le_refl _)) hm2
            ⟨a.tmps, w.heap.size, rfl, upd_same ρ nx _ _, h.sz, h.le, hS1.fr⟩
        have hS2 := hS1.adv hA2
        have hl : (upd (upd ρ nx w.heap.size 0) nx.succ (w.alloc (.deferred (some []))).heap.size 0) nx.succ = some (w.alloc (.deferred (some []))).heap.size := upd_same _ _ _ _
        have hl0 : (upd (upd ρ nx w.heap.size 0) nx.succ (w.alloc (.deferred (some []))).heap.size 0) nx = some w.heap.size := by
          rw [upd_ne _ (by intro e; rw [← e] at hsucc; omega)]; exact upd_same _ _ _ _
        generalize hL : (w.alloc (.deferred (some []))).heap.size = L at hA2 hS2 hl hl0
        have henter : (Instr.enterLoop f a.tmps ps x y none).run PP w = .ok (L, [{ target := .collected w.heap.size, args := #[] }]) ((w.alloc (.deferred (some []))).alloc (.loop { state := .ready, pending := none, fn := f, tmps := a.tmps, params := ps, assign := x, body := y, defers := w.heap.size })) := by
          simp only [Instr.enterLoop, Sem.run_bind, run_newObj, Result.andThen_ok, Sem.run_pure]
          rw [← hL]
          rfl
        generalize hw2 : (w.alloc (.deferred (some []))).alloc (.loop { state := .ready, pending := none, fn := f, tmps := a.tmps, params := ps, assign := x, body := y, defers := w.heap.size }) = w2 at hA2 hS2 henter
        generalize hρ2 : upd (upd ρ nx w.heap.size 0) nx.succ L 0 = ρ2 at hA2 hS2 hl hl0
        have hyv : VRels ρ2 [.func (.yield nx.succ.num) [] []] (#[Value.func (.yield L) #[] #[]] : Array Value).toList := by
          simp only [VRels, VRel]
          refine ⟨_, [], rfl, ⟨.yield L, #[], #[], rfl, ⟨L, ?_, rfl⟩, rfl, rfl⟩, rfl⟩
          rw [K.of_of]; exact hl
        have hN := callV_ok hS2.wr (eval_rel hS2 g) hyv
        have hAA := hA1.trans hA2
        have hr : (rangeB ih f τ (.coll nx :: ds) um nx.succ (callV (evX g τ) [.func (.yield nx.succ.num) [] []] (.mk (hset nx.succ (.loop .ready none f nt τ ps.toList x y nx) (hset nx (.deferred (some [])) h0)) nx.succ.succ))).ok := hr
        show WS d none f PP (.rangeFunc g ps x y) (Post ρ (.mk h0 nx) w nt d c₀ cs₀ (rangeB ih f τ (.coll nx :: ds) um nx.succ (callV (evX g τ) [.func (.yield nx.succ.num) [] []] (.mk (hset nx.succ (.loop .ready none f nt τ ps.toList x y nx) (hset nx (.deferred (some [])) h0)) nx.succ.succ)))) a cs w
        cases hcv : callV (evX g τ) [.func (.yield nx.succ.num) [] []] (.mk (hset nx.succ (.loop .ready none f nt τ ps.toList x y nx) (hset nx (.deferred (some [])) h0)) nx.succ.succ) with
        | call fid vs aw3 =>
          rw [hcv] at hN hr
          obtain ⟨ρ3, w3, args, hA3, hrun, hv⟩ := hN (hS2.cl.fresh _)
          simp only [rangeB] at hr ⊢
          have hS3 : SRel ρ3 nt d c₀ cs₀ τ (.coll nx :: ds) um aw3 { a with defers := { target := .collected w.heap.size, args := #[] } :: a.defers } cs w3 := by
            have := hS2.adv hA3
            exact ⟨this.g, this.wr, this.cl, this.fr, this.sz, this.le, ⟨_, _, rfl, ⟨w.heap.size, (hA3.le _ _ hl0).1, rfl⟩, this.dr⟩, this.um⟩
          have hA13 := hAA.trans hA3
          have hl3 : ρ3 nx.succ = some L := (hA3.le _ _ hl).1
          generalize he : enter ih fid vs aw3 = r at hr
          have hok : r.ok := by cases r <;> first | trivial | exact hr
          have hC : Calls PP fid args w3 (CPost ρ3 aw3 w3 r) := by
            rw [← he]
            exact enter_ok hs hS3.g hS3.wr hS3.cl hv (by rw [he]; exact hok)
          intro b k hb hr1 hf1
          have hstep : step PP (lone (b.atR a (.code (.rangeFunc g ps x y) :: k)) cs w) =
              .next (lone (Frame.enter PP fid args .normal) (b.atR { a with defers := { target := .collected w.heap.size, args := #[] } :: a.defers } (.inRangeFunc L :: k) :: cs) w3) := by
            simp only [Sem.run_bind] at hrun
            cases hd : (Deferred.ofValue (a.eval g) #[Value.func (.yield L) #[] #[]]).run PP w2 with
            | halt _ _ => rw [hd] at hrun; cases hrun
            | ok dd w2' =>
              rw [hd] at hrun
              simp only [Result.andThen_ok] at hrun
              refine stepR_rangeFunc (mark := [{ target := .collected w.heap.size, args := #[] }]) (d := dd) (w₁ := w2) (w₁' := w2') ?_ ?_ hrun
              · rw [hf1, hr1]; exact henter
              · simp only [resolve, rangeCall, List.map_toArray, List.map_cons, List.map_nil]
                exact hd
          obtain ⟨e, w4, fr, hR, hsteps, _, hleave⟩ := hC (b.atR { a with defers := { target := .collected w.heap.size, args := #[] } :: a.defers } (.inRangeFunc L :: k) :: cs)
          cases r with
          | no => exact hR.elim
          | pan ch aw4 =>
            obtain ⟨ch', ρ4, rfl, hch, hA4⟩ := hR
            refine ⟨.panic ch', _, cs, w4, ⟨ch', ρ4, rfl, hch, hA13.trans hA4, hS3.adv hA4⟩, .inRangeFunc L :: k, .head hstep (hsteps.trans (.one ?_))⟩
            rw [← Frame.raise_atR]; exact step_leave_panicked hleave
          | ret v aw4 =>
            obtain ⟨v', ρ4, rfl, hv', hA4⟩ := hR
            have hS4 := hS3.adv hA4
            have hl4 : ρ4 nx.succ = some L := (hA4.le _ _ hl3).1
            have hback : Steps PP (lone (b.atR a (.code (.rangeFunc g ps x y) :: k)) cs w) (lone (b.atR { a with defers := { target := .collected w.heap.size, args := #[] } :: a.defers } (.endRangeFunc L :: k)) cs w4) := by
              refine .head hstep (hsteps.trans (.one ?_))
              have := step_leave_returned (c := b.atR { a with defers := { target := .collected w.heap.size, args := #[] } :: a.defers } (.inRangeFunc L :: k)) (cs := cs) hleave
              exact this
            simp only [rangeE] at hr ⊢
            cases hg4 : wget nx.succ aw4 with
            | loop st pend fn5 nt5 τ5 ps5 x5 y5 kd5 =>
              rw [hg4] at hr
              dsimp only at hr ⊢
              obtain ⟨tmps5, cd5, q1, q2, q3, q4, q5⟩ := loop_obj hS4.wr hl4 hg4
              have hA5 := loop_set (st' := .exhausted) (pend' := pend) hS4.wr hl4 hg4 q1 q2 q3 q4 q5
              have hS5 := hS4.adv hA5
              have hfin := hA13.trans (hA4.trans hA5)
              have hend : st ≠ .busy → (Instr.endLoop L).run PP w4 = .ok pend { w4 with heap := w4.heap.setIfInBounds L (.loop { state := .exhausted, pending := pend, fn := fn5, tmps := tmps5, params := ps5.toArray, assign := x5, body := y5, defers := cd5 }) } := by
                intro hst
                have hb : (st == LoopState.busy) = false := by cases st <;> first | rfl | exact absurd rfl hst
                simp only [Instr.endLoop, Instr.getLoop, Sem.run_bind, getObj_run q1 (by simp), Result.andThen_ok, Sem.run_pure, hb, Bool.false_eq_true, if_false, setObj_run q1 (by simp)]
              have hst : st ≠ .busy := by rintro rfl; exact hr.elim
              have hbc : ∀ (u v : R), bc (isBusy st) u v = v := by intro u v; cases st <;> first | rfl | exact absurd rfl hst
              rw [hbc] at hr ⊢
              have hgo := stepR_endRangeFunc (b := b) (a := { a with defers := { target := .collected w.heap.size, args := #[] } :: a.defers }) (k := k) (cs := cs) (hend hst)
              cases pend with
              | none => exact ⟨.normal, _, cs, _, ⟨rfl, ρ4, hfin, hS5⟩, hback.trans (.one hgo)⟩
              | some j =>
                cases j with
                | exit id =>
                  have hgo : step PP _ = .next (lone (b.atR _ (.code (.exit id) :: k)) cs _) := hgo
                  exact ⟨.exit id, _, cs, _, ⟨rfl, ρ4, hfin, hS5⟩, fun k' hk => hback.trans (.head hgo (.one (stepR_exit hk))), fun hn => ⟨k, hn, hback.trans (.one hgo)⟩⟩
                | ret =>
                  have hgo : step PP _ = .next (lone (b.atR _ (.code .ret :: k)) cs _) := hgo
                  exact ⟨.ret, _, cs, _, ⟨rfl, ρ4, hfin, hS5⟩, k, hback.trans (.one hgo)⟩
                | _ => exact hr.elim
            | _ => rw [hg4] at hr; exact hr.elim
        | _ => rw [hcv] at hr; exact hr.elim
theorem step_ok {ih : Ih} (hs : Sound ih) : Sound ⟨ih.hook, stepC ih⟩ := by
  refine ⟨hs.hook, ?_⟩
  intro c f nt d rk ro ρ c₀ cs₀ τ ds um aw a cs w h hro hr
  have noloop : ∀ {Q : Exit → Act → List Frame → World → Prop} {c : Code}, (∀ b, c ≠ .loop b) → ∀ b, c = .loop b → WL d ro f PP b Q a cs w := fun h b e => absurd e (h b)
  cases c with
  | skip => exact ⟨ws_skip ⟨rfl, ρ, Adv.refl h.wr, h⟩, noloop (fun b e => by cases e)⟩
  | region id ops draw =>
    refine ⟨?_, noloop (fun b e => by cases e)⟩
    cases draw with
    | false =>
      have hr : (evOps ops.toList ih ops.toList (.mk f nt d rk) (.mk τ ds um aw)).ok := hr
      have := ops_ok hs (ops := ops) (f := f) ops.toList 0 rfl ρ τ ds um aw a cs w h hro hr
      refine ws_region ?_
      rw [List.range_eq_range']
      rw [Array.length_toList] at this
      exact this
    | true => exact draw_ok hs h hr
  | seq x y =>
    refine ⟨?_, noloop (fun b e => by cases e)⟩
    have hr : (seqK (ih x (.mk f nt d rk) (.mk τ ds um aw)) ih y (.mk f nt d rk)).ok := hr
    show WS d ro f PP (.seq x y) (Post ρ aw w nt d c₀ cs₀ (seqK (ih x (.mk f nt d rk) (.mk τ ds um aw)) ih y (.mk f nt d rk))) a cs w
    have h1 := (hs.go x f nt d rk ro ρ c₀ cs₀ τ ds um aw a cs w h hro (seqK_ok hr)).1
    generalize ih x (.mk f nt d rk) (.mk τ ds um aw) = r at hr h1
    refine ws_seq (ws_mono h1 fun e a' cs' w' hp => post_then ?_ (fun ho => by rw [seqK_other ho]; exact hp) hp)
    rintro τ' ds' um' aw' rfl ⟨ρ', hA, hS⟩
    exact ws_mono (hs.go y f nt d rk ro ρ' c₀ cs₀ τ' ds' um' aw' a' cs' w' hS (hro.mono hA.le) hr).1 fun e a cs w hp => hp.trans hA
  | cond c x y =>
    refine ⟨?_, noloop (fun b e => by cases e)⟩
    have hr : (condK (evX c τ) x y ih (.mk f nt d rk) (.mk τ ds um aw)).ok := hr
    show WS d ro f PP (.cond c x y) (Post ρ aw w nt d c₀ cs₀ (condK (evX c τ) x y ih (.mk f nt d rk) (.mk τ ds um aw))) a cs w
    have hv := eval_rel h c
    generalize evX c τ = v at hr hv
    cases v with
    | bool b =>
      simp only [VRel] at hv
      refine ws_cond hv ?_
      have hr : (ih (bc b x y) (.mk f nt d rk) (.mk τ ds um aw)).ok := hr
      have h1 := (hs.go (bc b x y) f nt d rk ro ρ c₀ cs₀ τ ds um aw a cs w h hro hr).1
      rw [bc_eq] at h1
      show WS d ro f PP _ (Post ρ aw w nt d c₀ cs₀ (ih (bc b x y) (.mk f nt d rk) (.mk τ ds um aw))) a cs w
      rw [bc_eq]
      exact h1
    | _ => exact hr.elim
  | block id b =>
    refine ⟨?_, noloop (fun b e => by cases e)⟩
    have hr : (blockK (ih b (.mk f nt d rk) (.mk τ ds um aw)) id).ok := hr
    show WS d ro f PP (.block id b) (Post ρ aw w nt d c₀ cs₀ (blockK (ih b (.mk f nt d rk) (.mk τ ds um aw)) id)) a cs w
    have h1 := hs.go b f nt d rk ro ρ c₀ cs₀ τ ds um aw a cs w h hro
    generalize ih b (.mk f nt d rk) (.mk τ ds um aw) = r at hr h1
    refine ws_block (ws_mono (h1 (by cases r <;> first | trivial | exact hr)).1 fun e a' cs' w' hp => ?_)
    cases r with
    | n S => obtain ⟨rfl, hp⟩ := hp; exact ⟨rfl, hp⟩
    | x id' S =>
      obtain ⟨rfl, hp⟩ := hp
      show (if id' = id then Post ρ aw w nt d c₀ cs₀ (bc (Nat.beq id' id) (.n S) (.x id' S)) .normal a' cs' w' else Post ρ aw w nt d c₀ cs₀ (bc (Nat.beq id' id) (.n S) (.x id' S)) (.exit id') a' cs' w')
      by_cases e : id' = id
      · subst e; rw [if_pos rfl, Nat.beq_refl]; exact ⟨rfl, hp⟩
      · rw [if_neg e, bc_eq, if_neg (fun x => e (Nat.eq_of_beq_eq_true x))]; exact ⟨rfl, hp⟩
    | r S => obtain ⟨rfl, hp⟩ := hp; exact ⟨rfl, hp⟩
    | p ch S => obtain ⟨τ', ds', um', aw'⟩ := S; obtain ⟨ch', ρ', rfl, hp⟩ := hp; exact ⟨ch', ρ', rfl, hp⟩
    | no _ _ => exact hr.elim
  | loop b =>
    have hr : (seqK (ih b (.mk f nt d rk) (.mk τ ds um aw)) ih (.loop b) (.mk f nt d rk)).ok := hr
    show WS d ro f PP (.loop b) (Post ρ aw w nt d c₀ cs₀ (seqK (ih b (.mk f nt d rk) (.mk τ ds um aw)) ih (.loop b) (.mk f nt d rk))) a cs w ∧ ∀ b', Code.loop b = .loop b' → WL d ro f PP b' (Post ρ aw w nt d c₀ cs₀ (seqK (ih b (.mk f nt d rk) (.mk τ ds um aw)) ih (.loop b) (.mk f nt d rk))) a cs w
    have h1 := (hs.go b f nt d rk ro ρ c₀ cs₀ τ ds um aw a cs w h hro (seqK_ok hr)).1
    generalize ih b (.mk f nt d rk) (.mk τ ds um aw) = r at hr h1
    have key := ws_loop (Q := Post ρ aw w nt d c₀ cs₀ (seqK r ih (.loop b) (.mk f nt d rk))) (ws_mono h1 fun e a' cs' w' hp => post_then (next := WL d ro f PP b (Post ρ aw w nt d c₀ cs₀ (seqK r ih (.loop b) (.mk f nt d rk)))) (by
      rintro τ' ds' um' aw' rfl ⟨ρ', hA, hS⟩
      have := (hs.go (.loop b) f nt d rk ro ρ' c₀ cs₀ τ' ds' um' aw' a' cs' w' hS (hro.mono hA.le) hr).2 b rfl
      intro bb k hb hr1 hf1
      obtain ⟨e, a2, cs2, w2, q, r⟩ := this bb k hb hr1 hf1
      exact ⟨e, a2, cs2, w2, Post.trans hA q, r⟩) (fun ho => by rw [seqK_other ho]; exact hp) hp)
    exact ⟨key.1, fun b' e => by cases e; exact key.2⟩
  | rangeFunc g ps x y => exact ⟨range_ok' hs h hro hr, noloop (fun b e => by cases e)⟩
  | exit id => exact ⟨ws_exit ⟨rfl, ρ, Adv.refl h.wr, h⟩, noloop (fun b e => by cases e)⟩
  | scope b => exact hr.elim
  | label l => exact ⟨ws_label ⟨rfl, ρ, Adv.refl h.wr, h⟩, noloop (fun b e => by cases e)⟩
  | goto l => exact hr.elim
  | ret => exact ⟨ws_ret ⟨rfl, ρ, Adv.refl h.wr, h⟩, noloop (fun b e => by cases e)⟩
  | refuse s => exact hr.elim
theorem run_ok {H : Hook} (hH : HookOk H) : ∀ n, Sound (run H n)
  | 0 => ⟨hH, fun _ _ _ _ _ _ _ _ _ _ _ _ _ _ _ _ _ _ hr => hr.elim⟩
  | n + 1 => step_ok (run_ok hH n)
end
end Go.Ev
