import Derived.Test.YtlpchjkggeiidaaGreatDoorEvDe
set_option linter.all false
namespace Go.Ev
/- A region whose order is drawn: sound. -/
section
variable {ih : Ih} {ops : Array Oper} {nt fn : Nat} {s : Nat → DS} {val : Nat → AV} {wt : Nat → Bool} {obj : Nat → AObj} {h0 : H4} {nx0 nx1 : K} {τ0 : F} {L : Nat → Bool} {ρ0 : Env} {w0 : World} {a0 : Act}
variable {e j : Nat} {ρ : Env} {a : Act} {w : World} {o : Oper} {d : Bool} {ro : Option Nat} {cs : List Frame} {Q : Exit → Act → List Frame → World → Prop}
theorem not_defer' {o : Op} {τ : F} {aw : W} (h : (∃ v a, evOp o τ aw = .val v a) ∨ (∃ f vs a, evOp o τ aw = .call f vs a)) (c : Call) : o ≠ .defer c := by
  rintro rfl
  have : evOp (.defer c) τ aw = evDefer c τ aw := rfl
  rw [this] at h
  unfold evDefer at h
  split at h
  · split at h <;> simp at h
  · simp at h
theorem draw_step (hs : Sound ih) (T : Tr ih ops nt s val wt obj h0 nx0 nx1) (hn : nt ≤ 512) (hτ : (s 0).τ = τ0) (hg0 : GRel ρ0) (I : IV ops nt s val wt obj h0 nx0 nx1 τ0 ρ0 w0 a0 L e ρ a w) (ho : ops[j]? = some o) (hL : L j = false)
    (hr : ∀ e ∈ o.after, Region.binds .any e = true → L e.on = true) {opr : Array Oper} (ho' : opr[j]? = some o) (hy : Region.wanted o (yielded opr a.tmps) = Region.wanted o (yielded ops a.tmps)) {rest : List Nat}
    (pan : ∀ f vs W1 ch W2, wt j = true → cls o.op = .ef → evOp o.op (s j).τ (dAdopt (bmask ops j) (s j).pend (s j).w) = .call f vs W1 → enter ih f vs W1 = .pan ch W2 →
      ∀ ρ' w' ch', ChRel ρ' ch ch' → Adv ρ0 (.mk h0 nx0) w0 ρ' W2 w' → Clean ρ' W2 → ρ.le ρ' → Q (.panic ch') a cs w')
    (next : ∀ e' ρ' a' w', IV ops nt s val wt obj h0 nx0 nx1 τ0 ρ0 w0 a0 (upL L j) e' ρ' a' w' → WOps d ro PP opr Q rest a' cs w') : WOps d ro PP opr Q (j :: rest) a cs w := by
  have hcu := closed_up I.cl ho hr
  have he : ∀ x, VRel ρ (evX x (TL ops nt val τ0 L ops.size)) (a.eval x) := by
    intro x
    have := evX_rel (fr := (default : Frame).at a []) (hg0.mono I.adv.le) (τ := TL ops nt val τ0 L ops.size) I.fr x
    rw [Frame.eval_at] at this
    exact this
  have hf := T.fact j o ho
  unfold FactAt at hf
  obtain ⟨f1, f2, f3, f4⟩ := hf
  have hwant : Region.wanted o (yielded ops a.tmps) = wt j := by
    cases hg : o.guard with
    | none => rw [hg] at f2; rw [f2]; unfold Region.wanted; rw [hg]
    | some g =>
      rw [hg] at f2
      exact wants_ok hg I.fr (by rw [wants_agree T hn hτ I.cl hcu ho hL hg]; exact f2)
  have notE : cls o.op ≠ .ef → ¬ E ops j := by rintro hne ⟨o', ho', hc'⟩; rw [ho] at ho'; cases ho'; exact hne hc'
  have notF : cls o.op ≠ .fl → ¬ FW ops wt j := by rintro hne ⟨_, o', ho', hc'⟩; rw [ho] at ho'; cases ho'; exact hne hc'
  simp only [WOps, ho']
  rw [hy, hwant]
  cases hb : wt j with
  | false =>
    rw [if_neg (by simp)]
    have hv : ∀ ρ, VRel ρ (val j) undef := by rw [f3 hb]; exact undef_rel
    have hF : ¬ FW ops wt j := by rintro ⟨h, _⟩; rw [hb] at h; cases h
    cases hc : cls o.op with
    | ef =>
      rw [hc] at f4
      have hE : E ops j := ⟨o, ho, hc⟩
      refine next _ _ _ _ (I.effect T hn ho hL hcu hE (ρ' := ρ) (w' := w) ?_ (hv ρ))
      rw [f4.2.2.2.2.1 hb]
      exact Adv.refl (I.before T hL hcu hE).2.2.1.rel
    | pu => exact next _ _ _ _ (I.quiet T hn ho hL hcu (notE (by rw [hc]; simp)) hF (Adv.refl I.adv.rel) (hv ρ))
    | rd => exact next _ _ _ _ (I.quiet T hn ho hL hcu (notE (by rw [hc]; simp)) hF (Adv.refl I.adv.rel) (hv ρ))
    | fl => exact next _ _ _ _ (I.quiet T hn ho hL hcu (notE (by rw [hc]; simp)) hF (Adv.refl I.adv.rel) (hv ρ))
  | true =>
    rw [if_pos rfl]
    have hcong : ∀ a, evOp o.op (TL ops nt val τ0 L ops.size) a = evOp o.op (s j).τ a := fun a => evOp_congr o.op (evX_agree T hn hτ I.cl hcu ho hL)
    have quiet : evOp o.op (s j).τ (s e).w = .val (val j) (s e).w → ¬ E ops j → ¬ FW ops wt j →
        WNext d ro PP o a cs (WOps d ro PP opr Q rest) Q ((o.semAt ro a.eval).run PP w) := by
      intro hev hE hF
      have hN := op_ok (e := a.eval) I.adv.rel he o
      rw [hcong, hev] at hN
      obtain ⟨ρ', w', hA, hrun⟩ := hN (I.clean.fresh _)
      rw [Oper.semAt_eq ro a.eval o (not_defer' (.inl ⟨_, _, hev⟩))]
      rcases hrun with ⟨v', hrun, hv⟩ | ⟨hrun, hv⟩
      · rw [hrun]; exact next _ _ _ _ (I.quiet T hn ho hL hcu hE hF hA hv)
      · rw [hrun]; exact next _ _ _ _ (I.quiet T hn ho hL hcu hE hF hA (by rw [hv]; exact undef_rel ρ'))
    cases hc : cls o.op with
    | pu =>
      rw [hc] at f4
      exact quiet (f4.2.2.2.2.2 hb _) (notE (by rw [hc]; simp)) (notF (by rw [hc]; simp))
    | rd =>
      refine quiet (T.read ho hc hb I.le ?_ ?_) (notE (by rw [hc]; simp)) (notF (by rw [hc]; simp))
      · intro x hx hbf
        have := isBef_closed hcu hbf (upL_same L j)
        rw [upL_ne L (by rintro rfl; exact notE (by rw [hc]; simp) hx)] at this
        exact (I.ph x hx).1 this
      · intro x hx hlt
        cases hbf : isBef ops j x with
        | false => rfl
        | true => have := isBef_closed I.cl hbf ((I.ph x hx).2 hlt); rw [hL] at this; cases this
    | fl =>
      rw [hc] at f4
      obtain ⟨_, _, _, _, f5⟩ := f4
      obtain ⟨_, _, hm, hob, hev⟩ := f5 hb
      have hF : FW ops wt j := ⟨hb, o, ho, hc⟩
      cases hw : (s e).w with
      | mk h nx =>
        have hrel := I.adv.rel
        rw [hw] at hrel
        have hN := op_ok (a := .mk h (s j).fk) (e := a.eval) hrel.rekeyed he o
        rw [hcong, hev] at hN
        obtain ⟨ρ', w', hA, hrun⟩ := hN (by
          intro k h1 h2
          simp only [W.nx_mk] at h1 h2
          rw [K.succ_num hm] at h2
          rw [K.num_inj (show k.num = (s j).fk.num by omega)]
          exact I.none j hF hL)
        rw [Oper.semAt_eq ro a.eval o (not_defer' (.inl ⟨_, _, hev h⟩))]
        rcases hrun with ⟨v', hrun, hv⟩ | ⟨hrun, hv⟩
        · rw [hrun]; exact next _ _ _ _ (I.float T hn ho hL hcu hF hw hm hob hA hv)
        · rw [hrun]; exact next _ _ _ _ (I.float T hn ho hL hcu hF hw hm hob hA (by rw [hv]; exact undef_rel ρ'))
    | ef =>
      rw [hc] at f4
      obtain ⟨_, _, _, _, _, f5⟩ := f4
      have hE : E ops j := ⟨o, ho, hc⟩
      obtain ⟨b1, b2, b3, b4, b5⟩ := I.before T hL hcu hE
      have hN := op_ok (e := a.eval) b3.rel he o
      rw [hcong] at hN
      rcases f5 hb with hev | ⟨f, vs, W1, hev, hen⟩ | ⟨f, vs, W1, ch, W2, hev, hen⟩
      · rw [hev] at hN
        obtain ⟨ρ', w', hA, hrun⟩ := hN (b4.fresh _)
        rw [Oper.semAt_eq ro a.eval o (not_defer' (.inl ⟨_, _, hev⟩))]
        rcases hrun with ⟨v', hrun, hv⟩ | ⟨hrun, hv⟩
        · rw [hrun]; exact next _ _ _ _ (I.effect T hn ho hL hcu hE hA hv)
        · rw [hrun]; exact next _ _ _ _ (I.effect T hn ho hL hcu hE hA (by rw [hv]; exact undef_rel ρ'))
      · rw [hev] at hN
        obtain ⟨ρ1, w1, args, hA, hrun, hv⟩ := hN (b4.fresh _)
        rw [Oper.semAt_eq ro a.eval o (not_defer' (.inr ⟨_, _, _, hev⟩))]
        rw [hrun]
        have hC := enter_ok hs (hg0.mono (b3.trans hA).le) hA.rel (b4.adv hA) hv (by rw [hen]; trivial)
        rw [hen] at hC
        refine Calls.mono hC fun en w2 hp => ?_
        obtain ⟨v', ρ2, rfl, hv', hA2⟩ := hp
        exact next _ _ _ _ (I.effect T hn ho hL hcu hE (hA.trans hA2) hv')
      · rw [hev] at hN
        obtain ⟨ρ1, w1, args, hA, hrun, hv⟩ := hN (b4.fresh _)
        rw [Oper.semAt_eq ro a.eval o (not_defer' (.inr ⟨_, _, _, hev⟩))]
        rw [hrun]
        have hC := enter_ok hs (hg0.mono (b3.trans hA).le) hA.rel (b4.adv hA) hv (by rw [hen]; trivial)
        rw [hen] at hC
        refine Calls.mono hC fun en w2 hp => ?_
        obtain ⟨ch', ρ2, rfl, hch, hA2⟩ := hp
        exact ⟨by simp, pan f vs W1 ch W2 hb hc hev hen ρ2 w2 ch' hch ((b3.trans hA).trans hA2) ((b4.adv hA).adv hA2) (Env.le_trans hA.le hA2.le)⟩
theorem draw_all (hs : Sound ih) (T : Tr ih ops nt s val wt obj h0 nx0 nx1) (hn : nt ≤ 512) (hτ : (s 0).τ = τ0) (hg0 : GRel ρ0)
    (hno : ∀ j o f vs W1 ch W2, ops[j]? = some o → wt j = true → cls o.op = .ef → evOp o.op (s j).τ (dAdopt (bmask ops j) (s j).pend (s j).w) = .call f vs W1 → enter ih f vs W1 = .pan ch W2 → False)
    (fin : ∀ L e ρ a w, IV ops nt s val wt obj h0 nx0 nx1 τ0 ρ0 w0 a0 L e ρ a w → (∀ j, j < ops.size → L j = true) → Q .normal a cs w) :
    ∀ (fuel t : Nat) (listed : Array Bool) (e : Nat) (ρ : Env) (a : Act) (w : World), listed.size = ops.size → un (ofArr listed) ops.size = fuel → IV ops nt s val wt obj h0 nx0 nx1 τ0 ρ0 w0 a0 (ofArr listed) e ρ a w →
      WOps d ro PP ops Q (Region.linearise.go .any ops fuel t listed []) a cs w := by
  intro fuel
  induction fuel with
  | zero =>
    intro t listed e ρ a w hsz hu I
    exact fin _ e ρ a w I (un_zero _ hu)
  | succ fuel ih =>
    intro t listed e ρ a w hsz hu I
    simp only [Region.linearise.go]
    change WOps d ro PP ops Q (match (Region.ready .any ops listed)[t % (Region.ready .any ops listed).length]? with
      | some i => Region.linearise.go .any ops fuel (t / (Region.ready .any ops listed).length) (listed.setIfInBounds i true) [i]
      | none => [].reverse) a cs w
    cases hi : (Region.ready .any ops listed)[t % (Region.ready .any ops listed).length]? with
    | none =>
      have hnil : Region.ready .any ops listed = [] := by
        cases hr : Region.ready .any ops listed with
        | nil => rfl
        | cons x xs =>
          rw [hr] at hi
          have hlt : t % (x :: xs).length < (x :: xs).length := Nat.mod_lt _ (by simp)
          simp at hi
          simp at hlt
          omega
      have hall := ready_nil T.drawn hsz hnil
      rw [un_all _ hall] at hu
      cases hu
    | some i =>
      have hmem := List.mem_of_getElem? hi
      obtain ⟨hL, o, ho, hed⟩ := ready_spec hsz hmem
      have hlt := (Array.getElem?_eq_some_iff.1 ho).1
      dsimp only
      rw [linearise_go_acc, List.reverse_singleton, List.singleton_append]
      refine draw_step hs T hn hτ hg0 I ho hL hed ho rfl (fun f vs W1 ch W2 h1 h2 h3 h4 => (hno i o f vs W1 ch W2 ho h1 h2 h3 h4).elim) fun e' ρ' a' w' I' => ?_
      have hset := ofArr_set (listed := listed) (j := i) (by omega)
      refine ih _ (listed.setIfInBounds i true) e' ρ' a' w' (by rw [Array.size_setIfInBounds]; exact hsz) ?_ (by rw [hset]; exact I')
      rw [hset]
      have := un_up hL ops.size hlt
      omega
/-- a run that ends in a panic: all that may be run before is ahead of it in the text -/
theorem draw_pan (hs : Sound ih) (T : Tr ih ops nt s val wt obj h0 nx0 nx1) (hn : nt ≤ 512) (hτ : (s 0).τ = τ0) (hg0 : GRel ρ0) {opr : Array Oper} (hd : Drawn opr) {p : Nat} (hp : ops.size = p + 1) (hle : p < opr.size)
    (hpre : ∀ i, i ≤ p → opr[i]? = ops[i]?) (hbe : ∀ j, p < j → j < opr.size → isBef opr p j = true) (hy : ∀ i o tmps, i ≤ p → opr[i]? = some o → Region.wanted o (yielded opr tmps) = Region.wanted o (yielded ops tmps))
    (hno : ∀ j o f vs W1 ch W2, j < p → ops[j]? = some o → wt j = true → cls o.op = .ef → evOp o.op (s j).τ (dAdopt (bmask ops j) (s j).pend (s j).w) = .call f vs W1 → enter ih f vs W1 = .pan ch W2 → False)
    {op : Oper} (hop : ops[p]? = some op) (hwp : wt p = true) (hcp : cls op.op = .ef) {ch : List PE} {W2 : W} {f : FuncId} {vs : List AV} {W1 : W} (hev : evOp op.op (s p).τ (dAdopt (bmask ops p) (s p).pend (s p).w) = .call f vs W1) (hen : enter ih f vs W1 = .pan ch W2)
    (fin : ∀ L e ρ a w ρ' w' ch', IV ops nt s val wt obj h0 nx0 nx1 τ0 ρ0 w0 a0 L e ρ a w → ChRel ρ' ch ch' → Adv ρ0 (.mk h0 nx0) w0 ρ' W2 w' → Clean ρ' W2 → ρ.le ρ' → Q (.panic ch') a cs w') :
    ∀ (fuel t : Nat) (listed : Array Bool) (e : Nat) (ρ : Env) (a : Act) (w : World), listed.size = opr.size → un (ofArr listed) opr.size = fuel → (∀ i, p ≤ i → ofArr listed i = false) → Closed opr (ofArr listed) → IV ops nt s val wt obj h0 nx0 nx1 τ0 ρ0 w0 a0 (ofArr listed) e ρ a w →
      WOps d ro PP opr Q (Region.linearise.go .any opr fuel t listed []) a cs w := by
  intro fuel
  induction fuel with
  | zero =>
    intro t listed e ρ a w hsz hu hf hcl I
    have := un_zero _ hu p hle
    rw [hf p (Nat.le_refl _)] at this
    cases this
  | succ fuel ih' =>
    intro t listed e ρ a w hsz hu hf hcl I
    simp only [Region.linearise.go]
    change WOps d ro PP opr Q (match (Region.ready .any opr listed)[t % (Region.ready .any opr listed).length]? with
      | some i => Region.linearise.go .any opr fuel (t / (Region.ready .any opr listed).length) (listed.setIfInBounds i true) [i]
      | none => [].reverse) a cs w
    cases hi : (Region.ready .any opr listed)[t % (Region.ready .any opr listed).length]? with
    | none =>
      have hnil : Region.ready .any opr listed = [] := by
        cases hr : Region.ready .any opr listed with
        | nil => rfl
        | cons x xs =>
          rw [hr] at hi
          have hlt : t % (x :: xs).length < (x :: xs).length := Nat.mod_lt _ (by simp)
          simp at hi
          simp at hlt
          omega
      have hall := ready_nil hd hsz hnil p hle
      rw [hf p (Nat.le_refl _)] at hall
      cases hall
    | some i =>
      have hmem := List.mem_of_getElem? hi
      obtain ⟨hL, o, ho, hed⟩ := ready_spec hsz hmem
      have hlt := (Array.getElem?_eq_some_iff.1 ho).1
      have hcu := closed_up (j := i) hcl ho hed
      have hip : i ≤ p := by
        rcases Nat.lt_or_ge p i with h | h
        · have := isBef_closed hcu (hbe i h hlt) (upL_same _ i)
          rw [upL_ne _ (by omega), hf p (Nat.le_refl _)] at this
          cases this
        · exact h
      have hoT : ops[i]? = some o := by rw [← hpre i hip]; exact ho
      dsimp only
      rw [linearise_go_acc, List.reverse_singleton, List.singleton_append]
      rcases Nat.lt_or_ge i p with hlt' | hge
      · refine draw_step hs T hn hτ hg0 I hoT hL hed ho (hy i o _ hip ho) (fun f vs W1 ch W2 h1 h2 h3 h4 => (hno i o f vs W1 ch W2 hlt' hoT h1 h2 h3 h4).elim) fun e' ρ' a' w' I' => ?_
        have hset := ofArr_set (listed := listed) (j := i) (by omega)
        refine ih' _ (listed.setIfInBounds i true) e' ρ' a' w' (by rw [Array.size_setIfInBounds]; exact hsz) ?_ ?_ (by rw [hset]; exact hcu) (by rw [hset]; exact I')
        · rw [hset]
          have := un_up hL opr.size hlt
          omega
        · intro k hk
          rw [hset, upL_ne _ (by omega)]
          exact hf k hk
      · have : i = p := by omega
        subst this
        rw [hop] at hoT
        cases hoT
        have hcu' := closed_up I.cl hop hed
        have hE : E ops i := ⟨op, hop, hcp⟩
        have he : ∀ x, VRel ρ (evX x (TL ops nt val τ0 (ofArr listed) ops.size)) (a.eval x) := by
          intro x
          have := evX_rel (fr := (default : Frame).at a []) (hg0.mono I.adv.le) (τ := TL ops nt val τ0 (ofArr listed) ops.size) I.fr x
          rw [Frame.eval_at] at this
          exact this
        have hfa := T.fact i op hop
        unfold FactAt at hfa
        obtain ⟨f1, f2, f3, f4⟩ := hfa
        have hwant : Region.wanted op (yielded ops a.tmps) = wt i := by
          cases hg : op.guard with
          | none => rw [hg] at f2; rw [f2]; unfold Region.wanted; rw [hg]
          | some g =>
            rw [hg] at f2
            exact wants_ok hg I.fr (by rw [wants_agree T hn hτ I.cl hcu' hop hL hg]; exact f2)
        simp only [WOps, ho]
        rw [hy i op _ (Nat.le_refl _) ho, hwant, hwp, if_pos rfl]
        have hcong : ∀ x, evOp op.op (TL ops nt val τ0 (ofArr listed) ops.size) x = evOp op.op (s i).τ x := fun x => evOp_congr op.op (evX_agree T hn hτ I.cl hcu' hop hL)
        obtain ⟨b1, b2, b3, b4, b5⟩ := I.before T hL hcu' hE
        have hN := op_ok (e := a.eval) b3.rel he op
        rw [hcong, hev] at hN
        obtain ⟨ρ1, w1, args, hA, hrun, hv⟩ := hN (b4.fresh _)
        rw [Oper.semAt_eq ro a.eval op (not_defer' (.inr ⟨_, _, _, hev⟩))]
        rw [hrun]
        have hC := enter_ok hs (hg0.mono (b3.trans hA).le) hA.rel (b4.adv hA) hv (by rw [hen]; trivial)
        rw [hen] at hC
        refine Calls.mono hC fun en w2 hp => ?_
        obtain ⟨ch', ρ2, rfl, hch, hA2⟩ := hp
        exact ⟨by simp, fin _ e ρ a w ρ2 w2 ch' I hch ((b3.trans hA).trans hA2) ((b4.adv hA).adv hA2) (Env.le_trans hA.le hA2.le)⟩
theorem clear_get (hn : nt ≤ 512) {t : Nat} (ht : t < 512) : ∀ (l : List Oper) (τ : F), fget t (clearD nt l τ) = .top ∨ (fget t (clearD nt l τ) = fget t τ ∧ ∀ o ∈ l, ¬ (o.dst = some t ∧ t < nt))
  | [], τ => .inr ⟨rfl, fun _ h => by cases h⟩
  | o :: l, τ => by
    simp only [clearD]
    rcases clear_get hn ht l (fput nt o.dst .top τ) with h | ⟨h1, h2⟩
    · exact .inl h
    · rw [fget_fput hn ht] at h1
      by_cases e : o.dst = some t ∧ t < nt
      · rw [if_pos e] at h1; exact .inl h1
      · rw [if_neg e] at h1
        refine .inr ⟨h1, fun o' ho' => ?_⟩
        rcases List.mem_cons.1 ho' with q | q
        · subst q; exact e
        · exact h2 o' q
theorem tl_keep (hn : nt ≤ 512) {t : Nat} (ht : t < 512) (h : ∀ (k : Nat) (o : Oper), ops[k]? = some o → ¬ (o.dst = some t ∧ t < nt)) : ∀ k, fget t (TL ops nt val τ0 L k) = fget t τ0
  | 0 => rfl
  | k + 1 => by
    have ih := tl_keep hn ht h k
    cases hL : L k with
    | false => rw [tl_skip hL]; exact ih
    | true =>
      cases ho : ops[k]? with
      | none => simp only [TL, hL, cond_true, ho]; exact ih
      | some o => rw [tl_put ho hL, fget_fput hn ht, if_neg (h k o ho)]; exact ih
theorem eqB_eq {x y : Bool} (h : eqB x y = true) : x = y := by cases x <;> cases y <;> first | rfl | cases h
theorem numFl_take : ∀ (n : Nat) (l : List Oper), numFl (l.take n) ≤ numFl l
  | 0, l => by simp [numFl]
  | n + 1, [] => by simp [numFl]
  | n + 1, o :: l => by
    have := numFl_take n l
    simp only [List.take_succ_cons, numFl, bc_eq]
    split <;> omega
theorem resv_num : ∀ (n : Nat) (k k' : K), resv n k = some k' → k'.num = k.num + n
  | 0, k, k', h => by injection h with h; rw [h]; rfl
  | n + 1, k, k', h => by
    simp only [resv, bc_eq] at h
    split at h
    · cases h
    · rename_i hm
      have := resv_num n k.succ k' h
      rw [K.succ_num (by simpa using hm)] at this
      omega
theorem tl_none (h : ∀ i, L i = false) : ∀ k, TL ops nt val τ0 L k = τ0
  | 0 => rfl
  | k + 1 => by rw [tl_skip (h k)]; exact tl_none h k
theorem pp_mixed : PP.follows .mixedOrders = true := by kernel_rfl
end
section
variable {ρ : Env} {nt : Nat} {d : Bool} {rk : Option K} {ro : Option Nat} {c₀ : Frame} {cs₀ : List Frame} {τ : F} {ds : List AD} {um : UM} {aw : W} {a : Act} {cs : List Frame} {w : World}
theorem adv_resv {h : H4} {nx nx' : K} (hw : WRel ρ (.mk h nx) w) (hn : nx.num ≤ nx'.num) : Adv ρ (.mk h nx) w ρ (.mk h nx') w :=
  ⟨hw.rekeyed, Env.le_refl ρ, fun _ => .inl rfl, hn, Nat.le_refl _, fun _ h => .inl h, fun k _ h e => .inl ⟨k, h, e⟩, fun _ _ _ => rfl, rfl, rfl, rfl⟩
theorem draw_ok {ih : Ih} (hs : Sound ih) {ops : Array Oper} {id f : Nat} (h : SRel ρ nt d c₀ cs₀ τ ds um aw a cs w) (hr : (cDraw id ops ih (.mk f nt d rk) (.mk τ ds um aw)).ok) :
    WS d ro f PP (.region id ops true) (Post ρ aw w nt d c₀ cs₀ (cDraw id ops ih (.mk f nt d rk) (.mk τ ds um aw))) a cs w := by
  obtain ⟨h0, nx0⟩ := aw
  refine ws_region_draw fun t => ?_
  have hcd : cDraw id ops ih (.mk f nt d rk) (.mk τ ds um (.mk h0 nx0)) = bc (drawOk ops) (dStart ih ops nt f τ h0 nx0 ds um (resv (numFl ops.toList) nx0)) (.no 238 f) := rfl
  rw [hcd] at hr ⊢
  cases hok : drawOk ops with
  | false => rw [hok] at hr; exact hr.elim
  | true =>
    rw [hok] at hr
    have hr : (dStart ih ops nt f τ h0 nx0 ds um (resv (numFl ops.toList) nx0)).ok := hr
    show WOps d ro PP ops (Post ρ (.mk h0 nx0) w nt d c₀ cs₀ (dStart ih ops nt f τ h0 nx0 ds um (resv (numFl ops.toList) nx0))) _ a cs _
    cases hv : resv (numFl ops.toList) nx0 with
    | none => rw [hv] at hr; exact hr.elim
    | some nx1 =>
      rw [hv] at hr
      simp only [dStart] at hr ⊢
      cases hd : dOps ih ops nt f ops.toList 0 (.mk τ (.mk h0 nx1) nx0 [] [] []) with
      | no c g => rw [hd] at hr; exact hr.elim
      | pan ch w2 p sP =>
        rw [hd] at hr
        obtain ⟨s, k, s0, hpk, sP1, hst, op, hopl, hsp⟩ := trace_pan ops.toList 0 _ hd
        have hkp : k = p := by omega
        subst hkp
        have hop : ops[k]? = some op := by simpa using hopl
        have hk := (Array.getElem?_eq_some_iff.1 hop).1
        have hst : ∀ j o, j < k → ops[j]? = some o → dStep ih ops j o nt f (s j) = .ok (s (j + 1)) := by
          intro j o hj ho
          have := hst j o hj (by simpa using ho)
          simpa using this
        obtain ⟨_, hpok, hfp, hcp, fc, vsc, W1, hev, hen⟩ := step_pan hsp
        unfold panOk at hpok
        obtain ⟨hcut, hpok⟩ := bc_and.1 hpok
        obtain ⟨hagr, hbeh⟩ := bc_and.1 hpok
        have hT : ∀ i, i ≤ k → ops[i]? = (cutTo ops (k + 1))[i]? := by
          intro i hi
          show _ = (ops.toList.take (k + 1)).toArray[i]?
          simp only [List.getElem?_toArray, List.getElem?_take]
          rw [if_pos (by omega)]
          simp
        have hsz : (cutTo ops (k + 1)).size = k + 1 := by
          show (ops.toList.take (k + 1)).toArray.size = _
          simp; omega
        have hag : ∀ j, j ≤ k → bmask ops j = bmask (cutTo ops (k + 1)) j ∧ multi ops j = multi (cutTo ops (k + 1)) j ∧ ∀ o, ops[j]? = some o → ∀ g, o.guard = some g → g.1 ≤ k := by
          intro j hj
          have := (allN_iff _).1 hagr j (by omega)
          unfold agreeAt at this
          obtain ⟨q1, this⟩ := bc_and.1 this
          obtain ⟨q2, q3⟩ := bc_and.1 this
          refine ⟨Nat.eq_of_beq_eq_true q1, eqB_eq q2, fun o ho g hg => ?_⟩
          rw [nth_eq] at q3
          simp only [Array.getElem?_toList, ho] at q3
          unfold guardIn at q3
          rw [hg] at q3
          have := lt_of_blt q3
          omega
        have hwn : ∀ j o g τ', j ≤ k → ops[j]? = some o → o.guard = some g → wants g ops.toList τ' = wants g (cutTo ops (k + 1)).toList τ' := by
          intro j o g τ' hj ho hg
          have := (hag j hj).2.2 o ho g hg
          unfold wants
          rw [nth_eq, nth_eq]
          simp only [Array.getElem?_toList]
          rw [hT g.1 this]
        have hfx : ∀ j, ∃ x : AV × Bool × AObj, ∀ o, (cutTo ops (k + 1))[j]? = some o → FactAt ih (cutTo ops (k + 1)) nt j o (s j) (s (j + 1)) x.1 x.2.1 x.2.2 ∧ (j = k → x.2.1 = true) := by
          intro j
          cases ho : (cutTo ops (k + 1))[j]? with
          | none => exact ⟨(.top, true, .none), fun o h => by cases h⟩
          | some o =>
            have hj : j ≤ k := by have := (Array.getElem?_eq_some_iff.1 ho).1; omega
            have ho' : ops[j]? = some o := by rw [hT j hj]; exact ho
            rcases Nat.lt_or_ge j k with hlt | hge
            · obtain ⟨v, b, ob, hf⟩ := step_fact (hst j o hlt ho')
              exact ⟨(v, b, ob), fun o' h => by cases h; exact ⟨fact_cut hf (hag j hj).1 (hag j hj).2.1 (fun g hg => hwn j o g _ hj ho' hg), fun e => by omega⟩⟩
            · obtain rfl : j = k := by omega
              rw [hop] at ho'
              cases ho'
              exact ⟨(.top, true, .none), fun o' h => by cases h; rw [sP1]; exact ⟨fact_cut hfp (hag j hj).1 (hag j hj).2.1 (fun g hg => hwn j op g _ hj hop hg), fun _ => rfl⟩⟩
        obtain ⟨x, hx⟩ := Classical.skolem.1 hfx
        have hnum := resv_num _ _ _ hv
        have hrec : dRecs (cutTo ops (k + 1)) (s (k + 1)).recs ((k + 1, (s (k + 1)).w) :: (s (k + 1)).hist) = true ∧ dEnd ops f nt τ ds um (.pan ch w2 k sP) = .p ch (.mk (clearD nt ops.toList τ) ds um w2) := by
          rw [sP1]
          obtain ⟨τN, wN, fk, pend, hist, recs⟩ := sP
          simp only [dEnd] at hr ⊢
          cases hq : dRecs (cutTo ops (k + 1)) recs ((k + 1, wN) :: hist) with
          | false => rw [hq] at hr; exact hr.elim
          | true => exact ⟨hq, rfl⟩
        have hfl : numFl (cutTo ops (k + 1)).toList ≤ numFl ops.toList := by
          show numFl (ops.toList.take (k + 1)) ≤ _
          exact numFl_take _ _
        have T : Tr ih (cutTo ops (k + 1)) nt s (fun j => (x j).1) (fun j => (x j).2.1) (fun j => (x j).2.2) h0 nx0 nx1 :=
          ⟨fun j o ho => (hx j o ho).1, drawOk_spec hcut, by rw [s0]; rfl, by rw [s0]; rfl, by rw [s0]; rfl, by omega, by rw [hsz]; exact hrec.1⟩
        rw [hrec.2]
        have hsch : Region.schedule (PP.follows .mixedOrders) ops t = Region.linearise.go .any ops ops.size t (Array.replicate ops.size false) [] := by
          rw [pp_mixed]; rfl
        rw [hsch]
        have hall : ∀ i, ofArr (Array.replicate ops.size false) i = false := by
          intro i
          unfold ofArr
          rw [Array.getD_eq_getD_getElem?, Array.getElem?_replicate]
          split <;> rfl
        have hw0 : (s 0).w = .mk h0 nx1 := T.w0
        have hwd : WRel ρ (.mk h0 nx0) { w with drawn := w.drawn + 1 } := ⟨h.wr.inj, h.wr.dom, h.wr.len⟩
        have hopT : (cutTo ops (k + 1))[k]? = some op := by rw [← hT k (Nat.le_refl _)]; exact hop
        refine draw_pan hs T h.le (τ0 := τ) (by rw [s0]; rfl) (ρ0 := ρ) (w0 := { w with drawn := w.drawn + 1 }) (a0 := a) h.g (drawOk_spec hok) hsz hk hT ?_ ?_ ?_ hopT ((hx k op hopT).2 rfl) hcp (by rw [← (hag k (Nat.le_refl _)).1]; exact hev) hen ?_ ops.size t _ 0 ρ a _ (by simp) ?_ (fun i _ => hall i) (fun j o _ hj => by rw [hall] at hj; cases hj) ?_
        · intro j h1 h2
          have := (allN_iff _).1 hbeh j (by rw [opsLen_eq]; exact h2)
          unfold behind at this
          rw [bc_eq, if_neg (by simp; omega)] at this
          exact this
        · intro i o tmps hi ho
          unfold Region.wanted
          cases hg : o.guard with
          | none => rfl
          | some g =>
            have := (hag i hi).2.2 o ho g hg
            obtain ⟨gj, gw⟩ := g
            unfold yielded
            dsimp only
            rw [hT gj this]
        · intro j o f' vs W1 ch W2 hj ho hwt hc h1 h2
          have ho' : ops[j]? = some o := by rw [hT j (by omega)]; exact ho
          have hfa := (hx j o ho).1.2.1
          refine ok_no_pan (hst j o hj ho') hc ?_ (by rw [(hag j (by omega)).1]; exact h1) h2
          cases hg : o.guard with
          | none => trivial
          | some g => rw [hg] at hfa; dsimp only at hfa ⊢; rw [hwn j o g _ (by omega) ho' hg, hfa, hwt]
        · intro L e ρ1 a' w1 ρ' w' ch' I hch hA hcl hle
          have hA : Adv ρ (.mk h0 nx0) w ρ' w2 w' := ⟨hA.rel, hA.le, hA.rng, hA.nx, hA.size, hA.own, hA.keep, hA.frame, hA.os, hA.tape, hA.output⟩
          have hfr : FRel ρ' (clearD nt ops.toList τ) a'.tmps := by
            intro t
            by_cases ht : t < 512
            · rcases clear_get h.le ht ops.toList τ with q | ⟨q1, q2⟩
              · rw [q]; simp only [VRel]
              · rw [q1]
                have := (I.fr.mono hle) t
                rw [tl_keep h.le ht (fun k' o ho => q2 o (by
                  have hk' : k' ≤ k := by have := (Array.getElem?_eq_some_iff.1 ho).1; omega
                  rw [← hT k' hk'] at ho
                  exact List.mem_of_getElem? (by simpa using ho)))] at this
                exact this
            · rw [fget_far (by omega)]; simp only [VRel]
          exact ⟨ch', ρ', rfl, hch, hA, h.g.mono hA.le, hA.rel, hcl, hfr, I.sz, h.le, by rw [I.dr]; exact DRels.mono hA.le _ _ h.dr, h.um.mono hA.le⟩
        · have : ∀ n, un (ofArr (Array.replicate ops.size false)) n = n := by
            intro n
            induction n with
            | zero => rfl
            | succ n ih => simp only [un, ih, hall n, cond_false]
          exact this _
        · refine ⟨fun j o _ hj => ?_, Nat.zero_le _, fun x _ => ?_, ?_, ?_, ?_, ?_, h.sz, rfl, fun j _ hj => ?_, fun i j _ _ hi => ?_, fun j _ hj => ?_, fun j hF _ => ?_⟩
          · rw [hall] at hj; cases hj
          · rw [hall]; simp
          · rw [hw0]; exact adv_resv hwd (by omega)
          · rw [hw0]; intro k hk; exact h.cl k (by simp only [W.nx_mk] at hk ⊢; omega)
          · rw [hw0]; exact Nat.le_refl _
          · rw [tl_none hall]; exact h.fr
          · rw [hall] at hj; cases hj
          · rw [hall] at hi; cases hi
          · rw [hall] at hj; cases hj
          · exact h.cl _ (by simp only [W.nx_mk]; exact (T.key_lt hF).1)
      | ok sN =>
        rw [hd] at hr
        obtain ⟨s, s0, sn, hst⟩ := trace ops.toList 0 _ sN hd
        have sn : s ops.size = sN := by rw [← sn]; simp
        have hst : ∀ j o, ops[j]? = some o → dStep ih ops j o nt f (s j) = .ok (s (j + 1)) := by
          intro j o ho
          have := hst j o (by simpa using ho)
          simpa using this
        have hfx : ∀ j, ∃ x : AV × Bool × AObj, ∀ o, ops[j]? = some o → FactAt ih ops nt j o (s j) (s (j + 1)) x.1 x.2.1 x.2.2 := by
          intro j
          cases ho : ops[j]? with
          | none => exact ⟨(.top, true, .none), fun o h => by cases h⟩
          | some o =>
            obtain ⟨v, b, ob, hf⟩ := step_fact (hst j o ho)
            exact ⟨(v, b, ob), fun o' h => by cases h; exact hf⟩
        obtain ⟨x, hx⟩ := Classical.skolem.1 hfx
        have hnum := resv_num _ _ _ hv
        have hrec : dRecs ops (s ops.size).recs ((ops.size, (s ops.size).w) :: (s ops.size).hist) = true ∧ dEnd ops f nt τ ds um (.ok sN) = .n (.mk (s ops.size).τ ds um (dAll (s ops.size).pend (s ops.size).w)) := by
          rw [sn]
          obtain ⟨τN, wN, fk, pend, hist, recs⟩ := sN
          simp only [dEnd] at hr ⊢
          rw [opsLen_eq] at hr ⊢
          cases hq : dRecs ops recs ((ops.size, wN) :: hist) with
          | false => rw [hq] at hr; exact hr.elim
          | true => exact ⟨hq, rfl⟩
        have T : Tr ih ops nt s (fun j => (x j).1) (fun j => (x j).2.1) (fun j => (x j).2.2) h0 nx0 nx1 :=
          ⟨fun j o ho => hx j o ho, drawOk_spec hok, by rw [s0]; rfl, by rw [s0]; rfl, by rw [s0]; rfl, by omega, hrec.1⟩
        rw [hrec.2]
        have hsch : Region.schedule (PP.follows .mixedOrders) ops t = Region.linearise.go .any ops ops.size t (Array.replicate ops.size false) [] := by
          rw [pp_mixed]; rfl
        rw [hsch]
        have hall : ∀ i, ofArr (Array.replicate ops.size false) i = false := by
          intro i
          unfold ofArr
          rw [Array.getD_eq_getD_getElem?, Array.getElem?_replicate]
          split <;> rfl
        have hw0 : (s 0).w = .mk h0 nx1 := T.w0
        have hwd : WRel ρ (.mk h0 nx0) { w with drawn := w.drawn + 1 } := ⟨h.wr.inj, h.wr.dom, h.wr.len⟩
        have hno : ∀ j o f' vs W1 ch W2, ops[j]? = some o → (x j).2.1 = true → cls o.op = .ef → evOp o.op (s j).τ (dAdopt (bmask ops j) (s j).pend (s j).w) = .call f' vs W1 → enter ih f' vs W1 = .pan ch W2 → False := by
          intro j o f' vs W1 ch W2 ho hwt hc h1 h2
          have hfa := (hx j o ho).2.1
          refine ok_no_pan (hst j o ho) hc ?_ h1 h2
          cases hg : o.guard with
          | none => trivial
          | some g => rw [hg] at hfa; dsimp only at hfa ⊢; rw [hfa, hwt]
        refine draw_all hs T h.le (τ0 := τ) (by rw [s0]; rfl) (ρ0 := ρ) (w0 := { w with drawn := w.drawn + 1 }) (a0 := a) h.g hno ?_ ops.size t _ 0 ρ a _ (by simp) ?_ ?_
        · intro L e ρ' a' w' I hL
          have hwe : (s ops.size).w = (s e).w := by
            refine T.w_const ops.size I.le (Nat.le_refl _) fun x h1 h2 hx => ?_
            have := (I.ph x hx).1 (hL x h2)
            omega
          obtain ⟨p1, p2⟩ := T.pend ops.size (Nat.le_refl _)
          have hA := (all_ok (s ops.size).pend (ρ := ρ') (a := (s ops.size).w) (w := w') (ρ0 := ρ) (a0 := .mk h0 nx0) (w0 := { w with drawn := w.drawn + 1 }) (fun p hp => by
            obtain ⟨q1, q2, q3, q4, q5⟩ := p1 p hp
            rw [q4, q5, hwe]
            exact I.held p.i q2 (hL _ q1) fun x hx hE => q3 x (by have := I.le; omega) hE) (by
            refine List.Pairwise.imp_of_mem (fun {p q} hp hq hlt => ?_) p2
            obtain ⟨q1, q2, _, q4, _⟩ := p1 p hp
            obtain ⟨r1, r2, _, r4, _⟩ := p1 q hq
            rw [q4, r4]
            exact I.sep p.i q.i q2 r2 (hL _ q1) (hL _ r1) (by omega)) (by rw [hwe]; exact I.adv)).1
          have hA : Adv ρ (.mk h0 nx0) w ρ' (dAll (s ops.size).pend (s ops.size).w) w' := ⟨hA.rel, hA.le, hA.rng, hA.nx, hA.size, hA.own, hA.keep, hA.frame, hA.os, hA.tape, hA.output⟩
          have hfr : FRel ρ' (s ops.size).τ a'.tmps := by
            intro t
            have := I.fr t
            rw [tl_agree T h.le (by rw [s0]; rfl) (Nat.le_refl _) (fun i o hi _ _ => hL i hi) (fun i o hi ho _ => by have := (Array.getElem?_eq_some_iff.1 ho).1; omega)] at this
            exact this
          refine ⟨rfl, ρ', hA, h.g.mono hA.le, hA.rel, ?_, hfr, I.sz, h.le, by rw [I.dr]; exact DRels.mono hA.le _ _ h.dr, h.um.mono hA.le⟩
          intro k hk
          rw [nx_all, hwe] at hk
          exact I.clean k hk
        · have : ∀ n, un (ofArr (Array.replicate ops.size false)) n = n := by
            intro n
            induction n with
            | zero => rfl
            | succ n ih => simp only [un, ih, hall n, cond_false]
          exact this _
        · refine ⟨fun j o _ hj => ?_, Nat.zero_le _, fun x _ => ?_, ?_, ?_, ?_, ?_, h.sz, rfl, fun j _ hj => ?_, fun i j _ _ hi => ?_, fun j _ hj => ?_, fun j hF _ => ?_⟩
          · rw [hall] at hj; cases hj
          · rw [hall]; simp
          · rw [hw0]; exact adv_resv hwd (by omega)
          · rw [hw0]; intro k hk; exact h.cl k (by simp only [W.nx_mk] at hk ⊢; omega)
          · rw [hw0]; exact Nat.le_refl _
          · rw [tl_none hall]; exact h.fr
          · rw [hall] at hj; cases hj
          · rw [hall] at hi; cases hi
          · rw [hall] at hj; cases hj
          · exact h.cl _ (by simp only [W.nx_mk]; exact (T.key_lt hF).1)
end
end Go.Ev
