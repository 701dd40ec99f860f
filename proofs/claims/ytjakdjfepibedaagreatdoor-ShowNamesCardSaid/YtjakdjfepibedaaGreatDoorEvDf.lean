import Derived.Test.YtjakdjfepibedaaGreatDoorEvDe
set_option linter.all false
namespace Go.Ev
/- A region whose order is drawn: sound. -/
section
variable {pm : PM} {ih : Ih} {ops : Array Oper} {nt fn : Nat} {s : Nat → DS} {val : Nat → AV} {wt : Nat → Bool} {obj : Nat → AObj} {h0 : H4} {nx0 nx1 : K} {τ0 : F} {L : Nat → Bool} {ρ0 : Env} {w0 : World} {a0 : Act}
variable {e j : Nat} {ρ : Env} {a : Act} {w : World} {o : Oper} {d : Bool} {ro : Option Nat} {cs : List Frame} {Q : Exit → Act → List Frame → World → Prop}
theorem not_defer' {o : Op} {τ : F} {aw : W} (h : (∃ v a, evOp o τ aw = .val v a) ∨ (∃ f vs a, evOp o τ aw = .call f vs a)) (c : Call) : o ≠ .defer c := by
  rintro rfl
  have : evOp (.defer c) τ aw = evDefer c τ aw := rfl
  rw [this] at h
  unfold evDefer at h
  split at h
  · split at h <;> simp at h
  · simp at h
theorem draw_step (hs : Sound ih) (T : Tr pm ih ops nt s val wt obj h0 nx0 nx1) (hn : nt ≤ 512) (hτ : (s 0).τ = τ0) (hg0 : GRel ρ0) (I : IV pm ops nt s val wt obj h0 nx0 nx1 τ0 ρ0 w0 a0 L e ρ a w) (ho : ops[j]? = some o) (hL : L j = false)
    (hr : ∀ e ∈ o.after, Region.binds .any e = true → L e.on = true) {opr : Array Oper} (ho' : opr[j]? = some o) (hy : Region.wanted o (yielded opr a.tmps) = Region.wanted o (yielded ops a.tmps)) {rest : List Nat}
    (pan : ∀ f vs W1 ch W2, wt j = true → cls pm o.op = .ef → evOp o.op (s j).τ (dAdopt (bmask ops j) (s j).pend (s j).w) = .call f vs W1 → enter ih f vs W1 = .pan ch W2 →
      ∀ ρ' w' ch', ChRel ρ' ch ch' → Adv ρ0 (.mk h0 nx0) w0 ρ' W2 w' → Clean ρ' W2 → ρ.le ρ' → Q (.panic ch') a cs w')
    (next : ∀ e' ρ' a' w', IV pm ops nt s val wt obj h0 nx0 nx1 τ0 ρ0 w0 a0 (upL L j) e' ρ' a' w' → WOps d ro PP opr Q rest a' cs w') : WOps d ro PP opr Q (j :: rest) a cs w := by
  have hcu := closed_up I.cl ho hr
  have he : ∀ x, VRel ρ (evX x (TL ops nt val τ0 L ops.size)) (a.eval x) := by
    intro x
    have := evX_rel (fr := (default : Frame).at a []) (hg0.mono I.adv.le) (τ := TL ops nt val τ0 L ops.size) I.fr x
    rw [Frame.eval_at] at this
    exact this
  have hf := T.fact j o ho
  unfold FactAt at hf
  obtain ⟨f1, f2, f3, f4⟩ := hf
  have hwant : Region.wanted o (yielded ops a.tmps) = wt j := by
    cases hg : o.guard with
    | none => rw [hg] at f2; rw [f2]; unfold Region.wanted; rw [hg]
    | some g =>
      rw [hg] at f2
      exact wants_ok hg I.fr (by rw [wants_agree T hn hτ I.cl hcu ho hL hg]; exact f2)
  have notE : cls pm o.op ≠ .ef → ¬ E pm ops j := by rintro hne ⟨o', ho', hc'⟩; rw [ho] at ho'; cases ho'; exact hne hc'
  have notF : cls pm o.op ≠ .fl → ¬ FW pm ops wt j := by rintro hne ⟨_, o', ho', hc'⟩; rw [ho] at ho'; cases ho'; exact hne hc'
  have notM : cls pm o.op ≠ .mu → ¬ MU pm ops j := by rintro hne ⟨o', ho', hc'⟩; rw [ho] at ho'; cases ho'; exact hne hc'
  simp only [WOps, ho']
  rw [hy, hwant]
  cases hb : wt j with
  | false =>
    rw [if_neg (by simp)]
    have hv : ∀ ρ, VRel ρ (val j) undef := by rw [f3 hb]; exact undef_rel
    have hF : ¬ FW pm ops wt j := by rintro ⟨h, _⟩; rw [hb] at h; cases h
    cases hc : cls pm o.op with
    | ef =>
      rw [hc] at f4
      have hE : E pm ops j := ⟨o, ho, hc⟩
      refine next _ _ _ _ (I.effect T hn ho hL hcu hE (ρ' := ρ) (w' := w) ?_ (hv ρ))
      rw [f4.2.2.2.2.2.1 hb]
      exact Adv.refl (I.before T hL hcu hE).2.2.1.rel
    | mu => rw [hc] at f4; have := f4.2.2.2.2.2.1; rw [hb] at this; cases this
    | pu => exact next _ _ _ _ (I.quiet T hn ho hL hcu (notE (by rw [hc]; simp)) hF (notM (by rw [hc]; simp)) (Adv.refl I.adv.rel) (hv ρ))
    | rd => exact next _ _ _ _ (I.quiet T hn ho hL hcu (notE (by rw [hc]; simp)) hF (notM (by rw [hc]; simp)) (Adv.refl I.adv.rel) (hv ρ))
    | fl => exact next _ _ _ _ (I.quiet T hn ho hL hcu (notE (by rw [hc]; simp)) hF (notM (by rw [hc]; simp)) (Adv.refl I.adv.rel) (hv ρ))
  | true =>
    rw [if_pos rfl]
    have hcong : ∀ a, evOp o.op (TL ops nt val τ0 L ops.size) a = evOp o.op (s j).τ a := fun a => evOp_congr o.op (evX_agree T hn hτ I.cl hcu ho hL)
    have quiet : evOp o.op (s j).τ (s e).w = .val (val j) (s e).w → ¬ E pm ops j → ¬ FW pm ops wt j → ¬ MU pm ops j →
        WNext d ro PP o a cs (WOps d ro PP opr Q rest) Q ((o.semAt ro a.eval).run PP w) := by
      intro hev hE hF hM
      have hN := op_ok (e := a.eval) I.adv.rel he o
      rw [hcong, hev] at hN
      obtain ⟨ρ', w', hA, hrun⟩ := hN (I.clean.fresh _)
      rw [Oper.semAt_eq ro a.eval o (not_defer' (.inl ⟨_, _, hev⟩))]
      rcases hrun with ⟨v', hrun, hv⟩ | ⟨hrun, hv⟩
      · rw [hrun]; exact next _ _ _ _ (I.quiet T hn ho hL hcu hE hF hM hA hv)
      · rw [hrun]; exact next _ _ _ _ (I.quiet T hn ho hL hcu hE hF hM hA (by rw [hv]; exact undef_rel ρ'))
    cases hc : cls pm o.op with
    | pu =>
      rw [hc] at f4
      exact quiet (f4.2.2.2.2.2.2 hb _) (notE (by rw [hc]; simp)) (notF (by rw [hc]; simp)) (notM (by rw [hc]; simp))
    | rd =>
      refine quiet (T.read ho hc hb I.le ?_ ?_) (notE (by rw [hc]; simp)) (notF (by rw [hc]; simp)) (notM (by rw [hc]; simp))
      · intro x hx hbf
        have := isBef_closed hcu hbf (upL_same L j)
        rw [upL_ne L (by rintro rfl; exact notE (by rw [hc]; simp) hx)] at this
        exact (I.ph x hx).1 this
      · intro x hx hlt
        cases hbf : isBef ops j x with
        | false => rfl
        | true => have := isBef_closed I.cl hbf ((I.ph x hx).2 hlt); rw [hL] at this; cases this
    | fl =>
      rw [hc] at f4
      obtain ⟨_, _, _, _, f5⟩ := f4
      obtain ⟨_, _, hpo, hm, hob, hev⟩ := f5 hb
      have hF : FW pm ops wt j := ⟨hb, o, ho, hc⟩
      cases hw : (s e).w with
      | mk h nx =>
        have hrel := I.adv.rel
        rw [hw] at hrel
        have hN := op_ok (a := .mk h (s j).fk) (e := a.eval) hrel.rekeyed he o
        rw [hcong, hev] at hN
        obtain ⟨ρ', w', hA, hrun⟩ := hN (by
          intro k h1 h2
          simp only [W.nx_mk] at h1 h2
          rw [K.succ_num hm] at h2
          rw [K.num_inj (show k.num = (s j).fk.num by omega)]
          exact I.none j hF hL)
        rw [Oper.semAt_eq ro a.eval o (not_defer' (.inl ⟨_, _, hev h⟩))]
        rcases hrun with ⟨v', hrun, hv⟩ | ⟨hrun, hv⟩
        · rw [hrun]; exact next _ _ _ _ (I.float T hn ho hL hcu hF hw hm hob (fun q => (hpo q).2.2) hA hv)
        · rw [hrun]; exact next _ _ _ _ (I.float T hn ho hL hcu hF hw hm hob (fun q => (hpo q).2.2) hA (by rw [hv]; exact undef_rel ρ'))
    | mu =>
      rw [hc] at f4
      obtain ⟨m1, m2, m3, m4, m5, m6, m7, t, m, x, y, k, es, hop, hpv, hpv', hk1, hk2, hk3⟩ := f4
      have hM : MU pm ops j := ⟨o, ho, hc⟩
      have hjl := (Array.getElem?_eq_some_iff.1 ho).1
      rcases T.pv j (by omega) with ⟨q, _⟩ | ⟨i, hp, hij, hi, q⟩
      · rw [q] at hpv; cases hpv
      · rw [q] at hpv
        injection hpv with e1 e2
        subst e1
        have hLi : L i = true := by
          have := T.mu_done hcu hp hM (upL_same L j)
          rw [upL_ne L (by omega)] at this
          exact this
        have hadv := adopt1 I.adv (I.pheld i hi hp hLi)
        have hkv : dnAt pm ops s j = [(evX x (s j).τ, evX y (s j).τ)] := by rw [dnAt_mu ho hc]; unfold kvOf; rw [hop]
        have hnone : noneA (evX x (s j).τ) (dn pm ops s L ops.size) = true := by
          refine noneA_of fun f hf => ?_
          obtain ⟨z, z1, z2, z3⟩ := dn_mem _ hf
          have hme : (evX x (s j).τ, evX y (s j).τ) ∈ dnAt pm ops s j := by rw [hkv]; simp
          rcases Nat.lt_trichotomy z j with h | h | h
          · exact (apart_eq (T.far hp hi h hjl z3 hme)).2
          · subst h; rw [hL] at z2; cases z2
          · exact (apart_eq (T.far hp hi h z1 hme z3)).1
        have hev : evOp o.op (s j).τ (wset (s i).fk (.umap (dn pm ops s L ops.size)) (s e).w) =
            .val undefA (wset (s i).fk (.umap (dn pm ops s L ops.size ++ [(evX x (s j).τ, evX y (s j).τ)])) (wset (s i).fk (.umap (dn pm ops s L ops.size)) (s e).w)) := by
          rw [hop]
          show evUpdate t (evX m (s j).τ) (evX x (s j).τ) (evX y (s j).τ) _ = _
          have hg : wget (s i).fk (wset (s i).fk (.umap (dn pm ops s L ops.size)) (s e).w) = .umap (dn pm ops s L ops.size) := by
            rw [wget_eq, wset_eq]; simp only [W.h_mk]; rw [hget_hset_same]
          unfold evUpdate
          rw [hk3, hk1, hk2]
          simp only [Bool.and_self, bc_eq, if_true, hg, hnone]
        have hN := op_ok (e := a.eval) hadv.rel he o
        rw [hcong, hev] at hN
        obtain ⟨ρ', w', hA, hrun⟩ := hN (by
          refine Clean.fresh (ρ := ρ) ?_ _
          intro z hz
          rw [nx_wset] at hz
          exact I.clean z hz)
        rw [Oper.semAt_eq ro a.eval o (not_defer' (.inl ⟨_, _, hev⟩))]
        rcases hrun with ⟨v', hrun, hv⟩ | ⟨hrun, hv⟩
        · rw [hrun]; exact next _ _ _ _ (I.mu T hn ho hL hcu (notE (by rw [hc]; simp)) (notF (by rw [hc]; simp)) hi hp hLi hkv hA (by rw [m7]; exact hv))
        · rw [hrun]; exact next _ _ _ _ (I.mu T hn ho hL hcu (notE (by rw [hc]; simp)) (notF (by rw [hc]; simp)) hi hp hLi hkv hA (by rw [m7, hv]; exact undef_rel ρ'))
    | ef =>
      rw [hc] at f4
      obtain ⟨_, _, _, _, _, _, f5⟩ := f4
      have hE : E pm ops j := ⟨o, ho, hc⟩
      obtain ⟨b1, b2, b3, b4, b5, _⟩ := I.before T hL hcu hE
      have hN := op_ok (e := a.eval) b3.rel he o
      rw [hcong] at hN
      rcases f5 hb with hev | ⟨f, vs, W1, hev, hen⟩ | ⟨f, vs, W1, ch, W2, hev, hen⟩
      · rw [hev] at hN
        obtain ⟨ρ', w', hA, hrun⟩ := hN (b4.fresh _)
        rw [Oper.semAt_eq ro a.eval o (not_defer' (.inl ⟨_, _, hev⟩))]
        rcases hrun with ⟨v', hrun, hv⟩ | ⟨hrun, hv⟩
        · rw [hrun]; exact next _ _ _ _ (I.effect T hn ho hL hcu hE hA hv)
        · rw [hrun]; exact next _ _ _ _ (I.effect T hn ho hL hcu hE hA (by rw [hv]; exact undef_rel ρ'))
      · rw [hev] at hN
        obtain ⟨ρ1, w1, args, hA, hrun, hv⟩ := hN (b4.fresh _)
        rw [Oper.semAt_eq ro a.eval o (not_defer' (.inr ⟨_, _, _, hev⟩))]
        rw [hrun]
        have hC := enter_ok hs (hg0.mono (b3.trans hA).le) hA.rel (b4.adv hA) hv (by rw [hen]; trivial)
        rw [hen] at hC
        refine Calls.mono hC fun en w2 hp => ?_
        obtain ⟨v', ρ2, rfl, hv', hA2⟩ := hp
        exact next _ _ _ _ (I.effect T hn ho hL hcu hE (hA.trans hA2) hv')
      · rw [hev] at hN
        obtain ⟨ρ1, w1, args, hA, hrun, hv⟩ := hN (b4.fresh _)
        rw [Oper.semAt_eq ro a.eval o (not_defer' (.inr ⟨_, _, _, hev⟩))]
        rw [hrun]
        have hC := enter_ok hs (hg0.mono (b3.trans hA).le) hA.rel (b4.adv hA) hv (by rw [hen]; trivial)
        rw [hen] at hC
        refine Calls.mono hC fun en w2 hp => ?_
        obtain ⟨ch', ρ2, rfl, hch, hA2⟩ := hp
        exact ⟨by simp, pan f vs W1 ch W2 hb hc hev hen ρ2 w2 ch' hch ((b3.trans hA).trans hA2) ((b4.adv hA).adv hA2) (Env.le_trans hA.le hA2.le)⟩
theorem draw_all (hs : Sound ih) (T : Tr pm ih ops nt s val wt obj h0 nx0 nx1) (hn : nt ≤ 512) (hτ : (s 0).τ = τ0) (hg0 : GRel ρ0)
    (hno : ∀ j o f vs W1 ch W2, ops[j]? = some o → wt j = true → cls pm o.op = .ef → evOp o.op (s j).τ (dAdopt (bmask ops j) (s j).pend (s j).w) = .call f vs W1 → enter ih f vs W1 = .pan ch W2 → False)
    (fin : ∀ L e ρ a w, IV pm ops nt s val wt obj h0 nx0 nx1 τ0 ρ0 w0 a0 L e ρ a w → (∀ j, j < ops.size → L j = true) → Q .normal a cs w) :
    ∀ (fuel t : Nat) (listed : Array Bool) (e : Nat) (ρ : Env) (a : Act) (w : World), listed.size = ops.size → un (ofArr listed) ops.size = fuel → IV pm ops nt s val wt obj h0 nx0 nx1 τ0 ρ0 w0 a0 (ofArr listed) e ρ a w →
      WOps d ro PP ops Q (Region.linearise.go .any ops fuel t listed []) a cs w := by
  intro fuel
  induction fuel with
  | zero =>
    intro t listed e ρ a w hsz hu I
    exact fin _ e ρ a w I (un_zero _ hu)
  | succ fuel ih =>
    intro t listed e ρ a w hsz hu I
    simp only [Region.linearise.go]
    change WOps d ro PP ops Q (match (Region.ready .any ops listed)[t % (Region.ready .any ops listed).length]? with
      | some i => Region.linearise.go .any ops fuel (t / (Region.ready .any ops listed).length) (listed.setIfInBounds i true) [i]
      | none => [].reverse) a cs w
    cases hi : (Region.ready .any ops listed)[t % (Region.ready .any ops listed).length]? with
    | none =>
      have hnil : Region.ready .any ops listed = [] := by
        cases hr : Region.ready .any ops listed with
        | nil => rfl
        | cons x xs =>
          rw [hr] at hi
          have hlt : t % (x :: xs).length < (x :: xs).length := Nat.mod_lt _ (by simp)
          simp at hi
          simp at hlt
          omega
      have hall := ready_nil T.drawn hsz hnil
      rw [un_all _ hall] at hu
      cases hu
    | some i =>
      have hmem := List.mem_of_getElem? hi
      obtain ⟨hL, o, ho, hed⟩ := ready_spec hsz hmem
      have hlt := (Array.getElem?_eq_some_iff.1 ho).1
      dsimp only
      rw [linearise_go_acc, List.reverse_singleton, List.singleton_append]
      refine draw_step hs T hn hτ hg0 I ho hL hed ho rfl (fun f vs W1 ch W2 h1 h2 h3 h4 => (hno i o f vs W1 ch W2 ho h1 h2 h3 h4).elim) fun e' ρ' a' w' I' => ?_
      have hset := ofArr_set (listed := listed) (j := i) (by omega)
      refine ih _ (listed.setIfInBounds i true) e' ρ' a' w' (by rw [Array.size_setIfInBounds]; exact hsz) ?_ (by rw [hset]; exact I')
      rw [hset]
      have := un_up hL ops.size hlt
      omega
/-- a run that ends in a panic: what comes behind it in the order is struck out -/
theorem draw_pan (hs : Sound ih) (T : Tr pm ih ops nt s val wt obj h0 nx0 nx1) (hn : nt ≤ 512) (hτ : (s 0).τ = τ0) (hg0 : GRel ρ0) {opr : Array Oper} (hd : Drawn pm opr) {p : Nat} (hp : ops.size = opr.size) (hle : p < opr.size) (hpp : isBef opr p p = false)
    (hpre : ∀ i, isBef opr p i = false → opr[i]? = ops[i]?) (hy : ∀ i o tmps, isBef opr p i = false → opr[i]? = some o → Region.wanted o (yielded opr tmps) = Region.wanted o (yielded ops tmps))
    (hno : ∀ j o f vs W1 ch W2, j ≠ p → isBef opr p j = false → ops[j]? = some o → wt j = true → cls pm o.op = .ef → evOp o.op (s j).τ (dAdopt (bmask ops j) (s j).pend (s j).w) = .call f vs W1 → enter ih f vs W1 = .pan ch W2 → False)
    {op : Oper} (hop : ops[p]? = some op) (hwp : wt p = true) (hcp : cls pm op.op = .ef) {ch : List PE} {W2 : W} {f : FuncId} {vs : List AV} {W1 : W} (hev : evOp op.op (s p).τ (dAdopt (bmask ops p) (s p).pend (s p).w) = .call f vs W1) (hen : enter ih f vs W1 = .pan ch W2)
    (fin : ∀ L e ρ a w ρ' w' ch', IV pm ops nt s val wt obj h0 nx0 nx1 τ0 ρ0 w0 a0 L e ρ a w → ChRel ρ' ch ch' → Adv ρ0 (.mk h0 nx0) w0 ρ' W2 w' → Clean ρ' W2 → ρ.le ρ' → Q (.panic ch') a cs w') :
    ∀ (fuel t : Nat) (listed : Array Bool) (e : Nat) (ρ : Env) (a : Act) (w : World), listed.size = opr.size → un (ofArr listed) opr.size = fuel → (∀ i, i = p ∨ isBef opr p i = true → ofArr listed i = false) → Closed opr (ofArr listed) → IV pm ops nt s val wt obj h0 nx0 nx1 τ0 ρ0 w0 a0 (ofArr listed) e ρ a w →
      WOps d ro PP opr Q (Region.linearise.go .any opr fuel t listed []) a cs w := by
  intro fuel
  induction fuel with
  | zero =>
    intro t listed e ρ a w hsz hu hf hcl I
    have := un_zero _ hu p hle
    rw [hf p (.inl rfl)] at this
    cases this
  | succ fuel ih' =>
    intro t listed e ρ a w hsz hu hf hcl I
    simp only [Region.linearise.go]
    change WOps d ro PP opr Q (match (Region.ready .any opr listed)[t % (Region.ready .any opr listed).length]? with
      | some i => Region.linearise.go .any opr fuel (t / (Region.ready .any opr listed).length) (listed.setIfInBounds i true) [i]
      | none => [].reverse) a cs w
    cases hi : (Region.ready .any opr listed)[t % (Region.ready .any opr listed).length]? with
    | none =>
      have hnil : Region.ready .any opr listed = [] := by
        cases hr : Region.ready .any opr listed with
        | nil => rfl
        | cons x xs =>
          rw [hr] at hi
          have hlt : t % (x :: xs).length < (x :: xs).length := Nat.mod_lt _ (by simp)
          simp at hi
          simp at hlt
          omega
      have hall := ready_nil hd hsz hnil p hle
      rw [hf p (.inl rfl)] at hall
      cases hall
    | some i =>
      have hmem := List.mem_of_getElem? hi
      obtain ⟨hL, o, ho, hed⟩ := ready_spec hsz hmem
      have hlt := (Array.getElem?_eq_some_iff.1 ho).1
      have hcu := closed_up (j := i) hcl ho hed
      have hnb : isBef opr p i = false := by
        cases hb : isBef opr p i with
        | false => rfl
        | true =>
          exfalso
          have hpi : p ≠ i := by rintro rfl; rw [hpp] at hb; cases hb
          have := isBef_closed hcu hb (upL_same _ i)
          rw [upL_ne _ hpi, hf p (.inl rfl)] at this
          cases this
      have hoT : ops[i]? = some o := by rw [← hpre i hnb]; exact ho
      dsimp only
      rw [linearise_go_acc, List.reverse_singleton, List.singleton_append]
      by_cases hip : i ≠ p
      · refine draw_step hs T hn hτ hg0 I hoT hL hed ho (hy i o _ hnb ho) (fun f vs W1 ch W2 h1 h2 h3 h4 => (hno i o f vs W1 ch W2 hip hnb hoT h1 h2 h3 h4).elim) fun e' ρ' a' w' I' => ?_
        have hset := ofArr_set (listed := listed) (j := i) (by omega)
        refine ih' _ (listed.setIfInBounds i true) e' ρ' a' w' (by rw [Array.size_setIfInBounds]; exact hsz) ?_ ?_ (by rw [hset]; exact hcu) (by rw [hset]; exact I')
        · rw [hset]
          have := un_up hL opr.size hlt
          omega
        · intro k hk
          rw [hset, upL_ne _ (by rintro rfl; rcases hk with hk | hk; exact hip hk; rw [hnb] at hk; cases hk)]
          exact hf k hk
      · have hip : i = p := Classical.byContradiction hip
        subst hip
        rw [hop] at hoT
        cases hoT
        have hcu' := closed_up I.cl hop hed
        have hE : E pm ops i := ⟨op, hop, hcp⟩
        have he : ∀ x, VRel ρ (evX x (TL ops nt val τ0 (ofArr listed) ops.size)) (a.eval x) := by
          intro x
          have := evX_rel (fr := (default : Frame).at a []) (hg0.mono I.adv.le) (τ := TL ops nt val τ0 (ofArr listed) ops.size) I.fr x
          rw [Frame.eval_at] at this
          exact this
        have hfa := T.fact i op hop
        unfold FactAt at hfa
        obtain ⟨f1, f2, f3, f4⟩ := hfa
        have hwant : Region.wanted op (yielded ops a.tmps) = wt i := by
          cases hg : op.guard with
          | none => rw [hg] at f2; rw [f2]; unfold Region.wanted; rw [hg]
          | some g =>
            rw [hg] at f2
            exact wants_ok hg I.fr (by rw [wants_agree T hn hτ I.cl hcu' hop hL hg]; exact f2)
        simp only [WOps, ho]
        rw [hy i op _ hpp ho, hwant, hwp, if_pos rfl]
        have hcong : ∀ x, evOp op.op (TL ops nt val τ0 (ofArr listed) ops.size) x = evOp op.op (s i).τ x := fun x => evOp_congr op.op (evX_agree T hn hτ I.cl hcu' hop hL)
        obtain ⟨b1, b2, b3, b4, b5, _⟩ := I.before T hL hcu' hE
        have hN := op_ok (e := a.eval) b3.rel he op
        rw [hcong, hev] at hN
        obtain ⟨ρ1, w1, args, hA, hrun, hv⟩ := hN (b4.fresh _)
        rw [Oper.semAt_eq ro a.eval op (not_defer' (.inr ⟨_, _, _, hev⟩))]
        rw [hrun]
        have hC := enter_ok hs (hg0.mono (b3.trans hA).le) hA.rel (b4.adv hA) hv (by rw [hen]; trivial)
        rw [hen] at hC
        refine Calls.mono hC fun en w2 hp => ?_
        obtain ⟨ch', ρ2, rfl, hch, hA2⟩ := hp
        exact ⟨by simp, fin _ e ρ a w ρ2 w2 ch' I hch ((b3.trans hA).trans hA2) ((b4.adv hA).adv hA2) (Env.le_trans hA.le hA2.le)⟩
theorem clear_get (hn : nt ≤ 512) {t : Nat} (ht : t < 512) : ∀ (l : List Oper) (τ : F), fget t (clearD nt l τ) = .top ∨ (fget t (clearD nt l τ) = fget t τ ∧ ∀ o ∈ l, ¬ (o.dst = some t ∧ t < nt))
  | [], τ => .inr ⟨rfl, fun _ h => by cases h⟩
  | o :: l, τ => by
    simp only [clearD]
    rcases clear_get hn ht l (fput nt o.dst .top τ) with h | ⟨h1, h2⟩
    · exact .inl h
    · rw [fget_fput hn ht] at h1
      by_cases e : o.dst = some t ∧ t < nt
      · rw [if_pos e] at h1; exact .inl h1
      · rw [if_neg e] at h1
        refine .inr ⟨h1, fun o' ho' => ?_⟩
        rcases List.mem_cons.1 ho' with q | q
        · subst q; exact e
        · exact h2 o' q
theorem tl_keep (hn : nt ≤ 512) {t : Nat} (ht : t < 512) (h : ∀ (k : Nat) (o : Oper), ops[k]? = some o → ¬ (o.dst = some t ∧ t < nt)) : ∀ k, fget t (TL ops nt val τ0 L k) = fget t τ0
  | 0 => rfl
  | k + 1 => by
    have ih := tl_keep hn ht h k
    cases hL : L k with
    | false => rw [tl_skip hL]; exact ih
    | true =>
      cases ho : ops[k]? with
      | none => simp only [TL, hL, cond_true, ho]; exact ih
      | some o => rw [tl_put ho hL, fget_fput hn ht, if_neg (h k o ho)]; exact ih
theorem numFl_take : ∀ (n : Nat) (l : List Oper), numFl pm (l.take n) ≤ numFl pm l
  | 0, l => by simp [numFl]
  | n + 1, [] => by simp [numFl]
  | n + 1, o :: l => by
    have := numFl_take n l
    simp only [List.take_succ_cons, numFl, bc_eq]
    split <;> omega
theorem resv_num : ∀ (n : Nat) (k k' : K), resv n k = some k' → k'.num = k.num + n
  | 0, k, k', h => by injection h with h; rw [h]; rfl
  | n + 1, k, k', h => by
    simp only [resv, bc_eq] at h
    split at h
    · cases h
    · rename_i hm
      have := resv_num n k.succ k' h
      rw [K.succ_num (by simpa using hm)] at this
      omega
theorem tl_none (h : ∀ i, L i = false) : ∀ k, TL ops nt val τ0 L k = τ0
  | 0 => rfl
  | k + 1 => by rw [tl_skip (h k)]; exact tl_none h k
theorem pp_mixed : PP.follows .mixedOrders = true := by kernel_rfl
end
section
variable {ρ : Env} {nt : Nat} {d : Bool} {rk : Option K} {ro : Option Nat} {c₀ : Frame} {cs₀ : List Frame} {τ : F} {ds : List AD} {um : UM} {aw : W} {a : Act} {cs : List Frame} {w : World}
theorem adv_resv {h : H4} {nx nx' : K} (hw : WRel ρ (.mk h nx) w) (hn : nx.num ≤ nx'.num) : Adv ρ (.mk h nx) w ρ (.mk h nx') w :=
  ⟨hw.rekeyed, Env.le_refl ρ, fun _ => .inl rfl, hn, Nat.le_refl _, fun _ h => .inl h, fun k _ h e => .inl ⟨k, h, e⟩, fun _ _ _ => rfl, rfl, rfl, rfl⟩
theorem drawP_ok {pm : PM} {ih : Ih} (hs : Sound ih) {ops : Array Oper} {id f : Nat} (hpm : ∀ i d, pm = .mk i d → ∃ o, ops[i]? = some o ∧ o.dst = some d ∧ cls pm o.op = .fl) (h : SRel ρ nt d c₀ cs₀ τ ds um aw a cs w) (hr : (cDrawP pm ops ih (.mk f nt d rk) (.mk τ ds um aw)).ok) :
    WS d ro f PP (.region id ops true) (Post ρ aw w nt d c₀ cs₀ (cDrawP pm ops ih (.mk f nt d rk) (.mk τ ds um aw))) a cs w := by
  obtain ⟨h0, nx0⟩ := aw
  refine ws_region_draw fun t => ?_
  have hcd : cDrawP pm ops ih (.mk f nt d rk) (.mk τ ds um (.mk h0 nx0)) = bc (drawOk pm ops) (dStart pm ih ops nt f τ h0 nx0 ds um (resv (numFl pm ops.toList) nx0)) (.no 238 f) := rfl
  rw [hcd] at hr ⊢
  cases hok : drawOk pm ops with
  | false => rw [hok] at hr; exact hr.elim
  | true =>
    rw [hok] at hr
    have hr : (dStart pm ih ops nt f τ h0 nx0 ds um (resv (numFl pm ops.toList) nx0)).ok := hr
    show WOps d ro PP ops (Post ρ (.mk h0 nx0) w nt d c₀ cs₀ (dStart pm ih ops nt f τ h0 nx0 ds um (resv (numFl pm ops.toList) nx0))) _ a cs _
    cases hv : resv (numFl pm ops.toList) nx0 with
    | none => rw [hv] at hr; exact hr.elim
    | some nx1 =>
      rw [hv] at hr
      simp only [dStart] at hr ⊢
      cases hd : dOps pm ih ops nt f ops.toList 0 (.mk τ (.mk h0 nx1) nx0 [] [] [] .none) with
      | no c g => rw [hd] at hr; exact hr.elim
      | pan ch w2 p sP =>
        rw [hd] at hr
        obtain ⟨s, k, s0, hpk, sP1, hst, op, hopl, hsp⟩ := trace_pan ops.toList 0 _ hd
        have hkp : k = p := by omega
        subst hkp
        have hop : ops[k]? = some op := by simpa using hopl
        have hk := (Array.getElem?_eq_some_iff.1 hop).1
        have hst : ∀ j o, j < k → ops[j]? = some o → dStep pm ih ops j o nt f (s j) = .ok (s (j + 1)) := by
          intro j o hj ho
          have := hst j o hj (by simpa using ho)
          simpa using this
        obtain ⟨_, hpm0, hfp, hcp, fc, vsc, W1, hev, hen⟩ := step_pan hsp
        subst hpm0
        have hr : (dEndP ih ops (blank ops k) f nt τ ds um ch w2 k sP).ok := hr
        show WOps d ro PP ops (Post ρ (.mk h0 nx0) w nt d c₀ cs₀ (dEndP ih ops (blank ops k) f nt τ ds um ch w2 k sP)) _ a cs _
        unfold dEndP at hr ⊢
        cases hpok : panOk ops (blank ops k) k with
        | false => rw [hpok] at hr; exact hr.elim
        | true =>
        rw [hpok] at hr
        have hr : (dTail ops (blank ops k) f nt τ ds um ch w2 (dOps .none ih (blank ops k) nt f ((blank ops k).toList.drop (k + 1)) (k + 1) sP)).ok := hr
        show WOps d ro PP ops (Post ρ (.mk h0 nx0) w nt d c₀ cs₀ (dTail ops (blank ops k) f nt τ ds um ch w2 (dOps .none ih (blank ops k) nt f ((blank ops k).toList.drop (k + 1)) (k + 1) sP))) _ a cs _
        cases htl : dOps .none ih (blank ops k) nt f ((blank ops k).toList.drop (k + 1)) (k + 1) sP with
        | no c g => rw [htl] at hr; exact hr.elim
        | pan c1 w1 p1 s1 => rw [htl] at hr; exact hr.elim
        | ok sN =>
        rw [htl] at hr
        obtain ⟨s2, s20, s2n, hst2⟩ := trace _ (k + 1) _ sN htl
        unfold panOk at hpok
        obtain ⟨hcut, hpok⟩ := bc_and.1 hpok
        obtain ⟨hnbe, hagr⟩ := bc_and.1 hpok
        have hnb : ∀ j, j ≤ k → isBef ops k j = false := by
          intro j hj
          have := (allN_iff _).1 hnbe j (by show j < k + 1; omega)
          rw [bnot_eq] at this
          simpa using this
        have hsz : (blank ops k).size = ops.size := blank_size ops k
        have hT : ∀ i, isBef ops k i = false → ops[i]? = (blank ops k)[i]? := by
          intro i hi
          rw [blank_get, hi]
          simp
        have hag : ∀ j, j < ops.size → isBef ops k j = false → bmask ops j = bmask (blank ops k) j ∧ (multi .none (blank ops k) j = true → multi .none ops j = true) ∧ ∀ o, ops[j]? = some o → ∀ g, o.guard = some g → isBef ops k g.1 = false := by
          intro j hj hb
          have := (allN_iff _).1 hagr j (by rw [opsLen_eq]; exact hj)
          unfold panAt at this
          rw [hb] at this
          have this : bc (Nat.beq (bmask ops j) (bmask (blank ops k) j)) (bc (bc (multi .none (blank ops k) j) (multi .none ops j) true) (match nth ops.toList j with
            | some o => guardOff ops k o
            | none => true) false) false = true := this
          obtain ⟨q1, this⟩ := bc_and.1 this
          obtain ⟨q2, q3⟩ := bc_and.1 this
          refine ⟨Nat.eq_of_beq_eq_true q1, bc_imp.1 q2, fun o ho g hg => ?_⟩
          rw [nth_eq] at q3
          simp only [Array.getElem?_toList, ho] at q3
          unfold guardOff at q3
          rw [hg] at q3
          have q3 : bnot (isBef ops k g.1) = true := q3
          rw [bnot_eq] at q3
          simpa using q3
        have hwn : ∀ j o g τ', j < ops.size → isBef ops k j = false → ops[j]? = some o → o.guard = some g → wants g ops.toList τ' = wants g (blank ops k).toList τ' := by
          intro j o g τ' hj hb ho hg
          have := (hag j hj hb).2.2 o ho g hg
          unfold wants
          rw [nth_eq, nth_eq]
          simp only [Array.getElem?_toList]
          rw [hT g.1 this]
        have sf : ∃ sf : Nat → DS, (∀ j, j ≤ k → sf j = s j) ∧ ∀ j, k + 1 ≤ j → sf j = s2 j :=
          ⟨fun j => if j ≤ k then s j else s2 j, fun j hj => by simp [hj], fun j hj => by simp [show ¬ j ≤ k by omega]⟩
        obtain ⟨sf, sfl, sfh⟩ := sf
        have hstep2 : ∀ j o, k + 1 ≤ j → (blank ops k)[j]? = some o → dStep .none ih (blank ops k) j o nt f (sf j) = .ok (sf (j + 1)) := by
          intro j o hj ho
          have := hst2 (j - (k + 1)) o (by rw [List.getElem?_drop, show k + 1 + (j - (k + 1)) = j by omega]; simpa using ho)
          rw [show k + 1 + (j - (k + 1)) = j by omega] at this
          rw [sfh j hj, sfh (j + 1) (by omega)]
          exact this
        have hfx : ∀ j, ∃ x : AV × Bool × AObj, ∀ o, (blank ops k)[j]? = some o → FactAt .none ih (blank ops k) nt j o (sf j) (sf (j + 1)) x.1 x.2.1 x.2.2 ∧ (j = k → x.2.1 = true) := by
          intro j
          cases ho : (blank ops k)[j]? with
          | none => exact ⟨(.top, true, .none), fun o h => by cases h⟩
          | some o =>
            have hjs : j < ops.size := by have := (Array.getElem?_eq_some_iff.1 ho).1; omega
            rcases Nat.lt_trichotomy j k with hlt | heq | hgt
            · have hb := hnb j (by omega)
              have ho' : ops[j]? = some o := by rw [hT j hb]; exact ho
              obtain ⟨v, b, ob, hf⟩ := step_fact (hst j o hlt ho')
              refine ⟨(v, b, ob), fun o' h => ?_⟩
              cases h
              refine ⟨?_, fun e => by omega⟩
              rw [sfl j (by omega), sfl (j + 1) (by omega)]
              exact fact_cut hf (hag j hjs hb).1 (hag j hjs hb).2.1 (fun g hg => hwn j o g _ hjs hb ho' hg)
            · subst heq
              have hb := hnb j (Nat.le_refl _)
              have ho' : ops[j]? = some o := by rw [hT j hb]; exact ho
              rw [hop] at ho'
              cases ho'
              refine ⟨(.top, true, .none), fun o' h => ?_⟩
              cases h
              refine ⟨?_, fun _ => rfl⟩
              rw [sfl j (Nat.le_refl _), sfh (j + 1) (by omega), s20]
              exact fact_cut hfp (hag j hjs hb).1 (hag j hjs hb).2.1 (fun g hg => hwn j op g _ hjs hb hop hg)
            · obtain ⟨v, b, ob, hf⟩ := step_fact (hstep2 j o (by omega) ho)
              exact ⟨(v, b, ob), fun o' h => by cases h; exact ⟨hf, fun e => by omega⟩⟩
        obtain ⟨x, hx⟩ := Classical.skolem.1 hfx
        have hnum := resv_num _ _ _ hv
        have sfn : sf ops.size = sN := by
          rw [sfh ops.size (by omega), ← s2n]
          congr 1
          rw [List.length_drop]
          have : (blank ops k).toList.length = ops.size := by rw [← hsz]; simp
          omega
        have hrec : dRecs .none (blank ops k) (sf ops.size).recs ((ops.size, (sf ops.size).w) :: (sf ops.size).hist) = true ∧ dTail ops (blank ops k) f nt τ ds um ch w2 (.ok sN) = .p ch (.mk (clearD nt ops.toList τ) ds um w2) := by
          rw [sfn]
          obtain ⟨τN, wN, fk, pend, hist, recs, pv⟩ := sN
          simp only [dTail] at hr ⊢
          rw [opsLen_eq] at hr ⊢
          cases hq : dRecs .none (blank ops k) recs ((ops.size, wN) :: hist) with
          | false => rw [hq] at hr; exact hr.elim
          | true => exact ⟨hq, rfl⟩
        have hfl : numFl .none (blank ops k).toList ≤ numFl .none ops.toList := by
          show numFl .none (blankGo (bmAll ops) k ops.toList 0) ≤ _
          exact blank_fl _ _ _ _
        have s00 : sf 0 = s 0 := sfl 0 (Nat.zero_le _)
        have T : Tr .none ih (blank ops k) nt sf (fun j => (x j).1) (fun j => (x j).2.1) (fun j => (x j).2.2) h0 nx0 nx1 :=
          ⟨fun j o ho => (hx j o ho).1, drawOk_spec hcut, by rw [s00, s0]; rfl, by rw [s00, s0]; rfl, by rw [s00, s0]; rfl, by omega, by rw [s00, s0]; rfl, (fun i d e => by cases e), (fun e => by cases e), by rw [hsz]; exact hrec.1⟩
        rw [hrec.2]
        have hsch : Region.schedule (PP.follows .mixedOrders) ops t = Region.linearise.go .any ops ops.size t (Array.replicate ops.size false) [] := by
          rw [pp_mixed]; rfl
        rw [hsch]
        have hall : ∀ i, ofArr (Array.replicate ops.size false) i = false := by
          intro i
          unfold ofArr
          rw [Array.getD_eq_getD_getElem?, Array.getElem?_replicate]
          split <;> rfl
        have hw0 : (sf 0).w = .mk h0 nx1 := T.w0
        have hwd : WRel ρ (.mk h0 nx0) { w with drawn := w.drawn + 1 } := ⟨h.wr.inj, h.wr.dom, h.wr.len⟩
        have hopT : (blank ops k)[k]? = some op := by rw [← hT k (hnb k (Nat.le_refl _))]; exact hop
        refine draw_pan hs T h.le (τ0 := τ) (by rw [s00, s0]; rfl) (ρ0 := ρ) (w0 := { w with drawn := w.drawn + 1 }) (a0 := a) h.g (drawOk_spec hok) hsz hk (hnb k (Nat.le_refl _)) hT ?_ ?_ hopT ((hx k op hopT).2 rfl) hcp (by rw [sfl k (Nat.le_refl _), ← (hag k hk (hnb k (Nat.le_refl _))).1]; exact hev) hen ?_ ops.size t _ 0 ρ a _ (by simp) ?_ (fun i _ => hall i) (fun j o _ hj => by rw [hall] at hj; cases hj) ?_
        · intro i o tmps hi ho
          unfold Region.wanted
          cases hg : o.guard with
          | none => rfl
          | some g =>
            have := (hag i (Array.getElem?_eq_some_iff.1 ho).1 hi).2.2 o ho g hg
            obtain ⟨gj, gw⟩ := g
            unfold yielded
            dsimp only
            rw [hT gj this]
        · intro j o f' vs W1 ch W2 hj hb ho hwt hc h1 h2
          have hfa := (hx j o ho).1.2.1
          rcases Nat.lt_or_ge j k with hlt | hge
          · have hjs : j < ops.size := by omega
            have ho' : ops[j]? = some o := by rw [hT j hb]; exact ho
            refine ok_no_pan (hst j o hlt ho') hc ?_ (by rw [(hag j hjs hb).1, ← sfl j (by omega)]; exact h1) h2
            rw [sfl j (by omega)] at hfa
            cases hg : o.guard with
            | none => trivial
            | some g => rw [hg] at hfa; dsimp only at hfa ⊢; rw [hwn j o g _ hjs hb ho' hg, hfa, hwt]
          · refine ok_no_pan (hstep2 j o (by omega) ho) hc ?_ h1 h2
            cases hg : o.guard with
            | none => trivial
            | some g => rw [hg] at hfa; dsimp only at hfa ⊢; rw [hfa, hwt]
        · intro L e ρ1 a' w1 ρ' w' ch' I hch hA hcl hle
          have hA : Adv ρ (.mk h0 nx0) w ρ' w2 w' := ⟨hA.rel, hA.le, hA.rng, hA.nx, hA.size, hA.own, hA.keep, hA.frame, hA.os, hA.tape, hA.output⟩
          have hfr : FRel ρ' (clearD nt ops.toList τ) a'.tmps := by
            intro t
            by_cases ht : t < 512
            · rcases clear_get h.le ht ops.toList τ with q | ⟨q1, q2⟩
              · rw [q]; simp only [VRel]
              · rw [q1]
                have := (I.fr.mono hle) t
                rw [tl_keep h.le ht (fun k' o ho => by
                  rw [blank_get] at ho
                  cases ho1 : ops[k']? with
                  | none => rw [ho1] at ho; cases ho
                  | some o1 =>
                    rw [ho1] at ho
                    simp only [Option.map_some] at ho
                    cases hb : isBef ops k k' with
                    | true => rw [hb] at ho; cases ho; rintro ⟨e, _⟩; cases e
                    | false => rw [hb] at ho; cases ho; exact q2 _ (List.mem_of_getElem? (by simpa using ho1)))] at this
                exact this
            · rw [fget_far (by omega)]; simp only [VRel]
          exact ⟨ch', ρ', rfl, hch, hA, h.g.mono hA.le, hA.rel, hcl, hfr, I.sz, h.le, by rw [I.dr]; exact DRels.mono hA.le _ _ h.dr, h.um.mono hA.le⟩
        · have : ∀ n, un (ofArr (Array.replicate ops.size false)) n = n := by
            intro n
            induction n with
            | zero => rfl
            | succ n ih => simp only [un, ih, hall n, cond_false]
          exact this _
        · refine ⟨fun j o _ hj => ?_, Nat.zero_le _, fun x _ => ?_, ?_, ?_, ?_, ?_, h.sz, rfl, fun j _ _ hj => ?_, fun i j _ _ hi => ?_, fun j _ hj => ?_, fun j hF _ => ?_, fun j _ _ hj => ?_⟩
          · rw [hall] at hj; cases hj
          · rw [hall]; simp
          · rw [hw0]; exact adv_resv hwd (by omega)
          · rw [hw0]; intro k hk; exact h.cl k (by simp only [W.nx_mk] at hk ⊢; omega)
          · rw [hw0]; exact Nat.le_refl _
          · rw [tl_none hall]; exact h.fr
          · rw [hall] at hj; cases hj
          · rw [hall] at hi; cases hi
          · rw [hall] at hj; cases hj
          · exact h.cl _ (by simp only [W.nx_mk]; exact (T.key_lt hF).1)
          · rw [hall] at hj; cases hj
      | ok sN =>
        rw [hd] at hr
        obtain ⟨s, s0, sn, hst⟩ := trace ops.toList 0 _ sN hd
        have sn : s ops.size = sN := by rw [← sn]; simp
        have hst : ∀ j o, ops[j]? = some o → dStep pm ih ops j o nt f (s j) = .ok (s (j + 1)) := by
          intro j o ho
          have := hst j o (by simpa using ho)
          simpa using this
        have hfx : ∀ j, ∃ x : AV × Bool × AObj, ∀ o, ops[j]? = some o → FactAt pm ih ops nt j o (s j) (s (j + 1)) x.1 x.2.1 x.2.2 := by
          intro j
          cases ho : ops[j]? with
          | none => exact ⟨(.top, true, .none), fun o h => by cases h⟩
          | some o =>
            obtain ⟨v, b, ob, hf⟩ := step_fact (hst j o ho)
            exact ⟨(v, b, ob), fun o' h => by cases h; exact hf⟩
        obtain ⟨x, hx⟩ := Classical.skolem.1 hfx
        have hnum := resv_num _ _ _ hv
        have hrec : dRecs pm ops (s ops.size).recs ((ops.size, (s ops.size).w) :: (s ops.size).hist) = true ∧ dEnd pm ih ops f nt τ ds um (.ok sN) = .n (.mk (s ops.size).τ ds um (dPut (s ops.size).pv (dAll (s ops.size).pend (s ops.size).w))) ∧ pvOk (s ops.size).pv = true := by
          rw [sn]
          obtain ⟨τN, wN, fk, pend, hist, recs, pv⟩ := sN
          simp only [dEnd] at hr ⊢
          rw [opsLen_eq] at hr ⊢
          cases hq : dRecs pm ops recs ((ops.size, wN) :: hist) with
          | false => rw [hq] at hr; exact hr.elim
          | true =>
            rw [hq] at hr
            cases hq2 : pvOk pv with
            | false => rw [hq2] at hr; exact hr.elim
            | true => exact ⟨hq, rfl, hq2⟩
        have T : Tr pm ih ops nt s (fun j => (x j).1) (fun j => (x j).2.1) (fun j => (x j).2.2) h0 nx0 nx1 :=
          ⟨fun j o ho => hx j o ho, drawOk_spec hok, by rw [s0]; rfl, by rw [s0]; rfl, by rw [s0]; rfl, by omega, by rw [s0]; rfl, hpm, fun _ => hrec.2.2, hrec.1⟩
        rw [hrec.2.1]
        have hsch : Region.schedule (PP.follows .mixedOrders) ops t = Region.linearise.go .any ops ops.size t (Array.replicate ops.size false) [] := by
          rw [pp_mixed]; rfl
        rw [hsch]
        have hall : ∀ i, ofArr (Array.replicate ops.size false) i = false := by
          intro i
          unfold ofArr
          rw [Array.getD_eq_getD_getElem?, Array.getElem?_replicate]
          split <;> rfl
        have hw0 : (s 0).w = .mk h0 nx1 := T.w0
        have hwd : WRel ρ (.mk h0 nx0) { w with drawn := w.drawn + 1 } := ⟨h.wr.inj, h.wr.dom, h.wr.len⟩
        have hno : ∀ j o f' vs W1 ch W2, ops[j]? = some o → (x j).2.1 = true → cls pm o.op = .ef → evOp o.op (s j).τ (dAdopt (bmask ops j) (s j).pend (s j).w) = .call f' vs W1 → enter ih f' vs W1 = .pan ch W2 → False := by
          intro j o f' vs W1 ch W2 ho hwt hc h1 h2
          have hfa := (hx j o ho).2.1
          refine ok_no_pan (hst j o ho) hc ?_ h1 h2
          cases hg : o.guard with
          | none => trivial
          | some g => rw [hg] at hfa; dsimp only at hfa ⊢; rw [hfa, hwt]
        refine draw_all hs T h.le (τ0 := τ) (by rw [s0]; rfl) (ρ0 := ρ) (w0 := { w with drawn := w.drawn + 1 }) (a0 := a) h.g hno ?_ ops.size t _ 0 ρ a _ (by simp) ?_ ?_
        · intro L e ρ' a' w' I hL
          have hwe : (s ops.size).w = (s e).w := by
            refine T.w_const ops.size I.le (Nat.le_refl _) fun x h1 h2 hx => ?_
            have := (I.ph x hx).1 (hL x h2)
            omega
          obtain ⟨p1, p2⟩ := T.pend ops.size (Nat.le_refl _)
          have hAll := (all_ok (s ops.size).pend (ρ := ρ') (a := (s ops.size).w) (w := w') (ρ0 := ρ) (a0 := .mk h0 nx0) (w0 := { w with drawn := w.drawn + 1 }) (fun p hp => by
            obtain ⟨q1, q2, q3, q4, q5, q6⟩ := p1 p hp
            rw [q4, q5, hwe]
            exact I.held p.i q2 q6 (hL _ q1) fun x hx hE => q3 x (by have := I.le; omega) hE) (by
            refine List.Pairwise.imp_of_mem (fun {p q} hp hq hlt => ?_) p2
            obtain ⟨q1, q2, _, q4, _⟩ := p1 p hp
            obtain ⟨r1, r2, _, r4, _⟩ := p1 q hq
            rw [q4, r4]
            exact I.sep p.i q.i q2 r2 (hL _ q1) (hL _ r1) (by omega)) (by rw [hwe]; exact I.adv))
          have hA : Adv ρ (.mk h0 nx0) { w with drawn := w.drawn + 1 } ρ' (dPut (s ops.size).pv (dAll (s ops.size).pend (s ops.size).w)) w' := by
            rcases T.pv ops.size (Nat.le_refl _) with ⟨q, _⟩ | ⟨i, hpi, hilt, hFi, q⟩
            · rw [q]; exact hAll.1
            · rw [q]
              have hH := I.pheld i hFi hpi (hL i hilt)
              rw [dn_congr (L' := fun _ => true) ops.size fun i hi => hL i hi] at hH
              refine adopt1 hAll.1 (hAll.2 _ _ (by rw [hwe]; exact hH) fun p hp => ?_)
              obtain ⟨q1, q2, q3, q4, q5, q6⟩ := p1 p hp
              rw [q4]
              refine I.sep p.i i q2 hFi (hL _ q1) (hL i hilt) ?_
              rintro rfl
              rw [hpi] at q6; cases q6
          have hA : Adv ρ (.mk h0 nx0) w ρ' (dPut (s ops.size).pv (dAll (s ops.size).pend (s ops.size).w)) w' := ⟨hA.rel, hA.le, hA.rng, hA.nx, hA.size, hA.own, hA.keep, hA.frame, hA.os, hA.tape, hA.output⟩
          have hfr : FRel ρ' (s ops.size).τ a'.tmps := by
            intro t
            have := I.fr t
            rw [tl_agree T h.le (by rw [s0]; rfl) (Nat.le_refl _) (fun i o hi _ _ => hL i hi) (fun i o hi ho _ => by have := (Array.getElem?_eq_some_iff.1 ho).1; omega)] at this
            exact this
          refine ⟨rfl, ρ', hA, h.g.mono hA.le, hA.rel, ?_, hfr, I.sz, h.le, by rw [I.dr]; exact DRels.mono hA.le _ _ h.dr, h.um.mono hA.le⟩
          intro k hk
          have hpn : ∀ (p : PV) (x : W), (dPut p x).nx = x.nx := by intro p x; cases p <;> first | rfl | exact nx_wset _ _ _
          rw [hpn, nx_all, hwe] at hk
          exact I.clean k hk
        · have : ∀ n, un (ofArr (Array.replicate ops.size false)) n = n := by
            intro n
            induction n with
            | zero => rfl
            | succ n ih => simp only [un, ih, hall n, cond_false]
          exact this _
        · refine ⟨fun j o _ hj => ?_, Nat.zero_le _, fun x _ => ?_, ?_, ?_, ?_, ?_, h.sz, rfl, fun j _ _ hj => ?_, fun i j _ _ hi => ?_, fun j _ hj => ?_, fun j hF _ => ?_, fun j _ _ hj => ?_⟩
          · rw [hall] at hj; cases hj
          · rw [hall]; simp
          · rw [hw0]; exact adv_resv hwd (by omega)
          · rw [hw0]; intro k hk; exact h.cl k (by simp only [W.nx_mk] at hk ⊢; omega)
          · rw [hw0]; exact Nat.le_refl _
          · rw [tl_none hall]; exact h.fr
          · rw [hall] at hj; cases hj
          · rw [hall] at hi; cases hi
          · rw [hall] at hj; cases hj
          · exact h.cl _ (by simp only [W.nx_mk]; exact (T.key_lt hF).1)
          · rw [hall] at hj; cases hj
theorem draw_ok {ih : Ih} (hs : Sound ih) {ops : Array Oper} {id f : Nat} (h : SRel ρ nt d c₀ cs₀ τ ds um aw a cs w) (hr : (cDraw id ops ih (.mk f nt d rk) (.mk τ ds um aw)).ok) :
    WS d ro f PP (.region id ops true) (Post ρ aw w nt d c₀ cs₀ (cDraw id ops ih (.mk f nt d rk) (.mk τ ds um aw))) a cs w := by
  unfold cDraw at hr ⊢
  rw [bc_eq] at hr ⊢
  split at hr
  · rename_i hd
    rw [if_pos hd]
    exact drawP_ok hs (fun i d e => by cases e) h hr
  · rename_i hd
    rw [if_neg hd]
    refine drawP_ok hs (fun i d e => ?_) h hr
    obtain ⟨_, o, h1, h2, h3⟩ := pmGo_spec _ _ _ _ e
    refine ⟨o, by simpa using h1, h2, ?_⟩
    rw [e]
    show cls1 d o.op = .fl
    cases hop : o.op <;> rw [hop] at h3 <;> first | (cases h3; done) | rfl
end
end Go.Ev
