import Derived.Test.YtkfdioikigponaaGreatDoorEvDe
set_option linter.all false
namespace Go.Ev
/- A region whose order is drawn: sound. -/
section
variable {ih : Ih} {ops : Array Oper} {nt fn : Nat} {s : Nat → DS} {val : Nat → AV} {wt : Nat → Bool} {obj : Nat → AObj} {h0 : H4} {nx0 nx1 : K} {τ0 : F} {L : Nat → Bool} {ρ0 : Env} {w0 : World} {a0 : Act}
variable {e j : Nat} {ρ : Env} {a : Act} {w : World} {o : Oper} {d : Bool} {cs : List Frame} {Q : Exit → Act → List Frame → World → Prop}
theorem draw_step (hs : Sound ih) (T : Tr ih ops nt s val wt obj h0 nx0 nx1) (hn : nt ≤ 512) (hτ : (s 0).τ = τ0) (hg0 : GRel ρ0) (I : IV ops nt s val wt obj h0 nx0 nx1 τ0 ρ0 w0 a0 L e ρ a w) (ho : ops[j]? = some o) (hL : L j = false)
    (hr : ∀ e ∈ o.after, Region.binds .any e = true → L e.on = true) {rest : List Nat}
    (next : ∀ e' ρ' a' w', IV ops nt s val wt obj h0 nx0 nx1 τ0 ρ0 w0 a0 (upL L j) e' ρ' a' w' → WOps d PP ops Q rest a' cs w') : WOps d PP ops Q (j :: rest) a cs w := by
  have hcu := closed_up I.cl ho hr
  have he : ∀ x, VRel ρ (evX x (TL ops nt val τ0 L ops.size)) (a.eval x) := by
    intro x
    have := evX_rel (fr := (default : Frame).at a []) (hg0.mono I.adv.le) (τ := TL ops nt val τ0 L ops.size) I.fr x
    rw [Frame.eval_at] at this
    exact this
  have hf := T.fact j o ho
  unfold FactAt at hf
  obtain ⟨f1, f2, f3, f4⟩ := hf
  have hwant : Region.wanted o (yielded ops a.tmps) = wt j := by
    cases hg : o.guard with
    | none => rw [hg] at f2; rw [f2]; unfold Region.wanted; rw [hg]
    | some g =>
      rw [hg] at f2
      exact wants_ok hg I.fr (by rw [wants_agree T hn hτ I.cl hcu ho hL hg]; exact f2)
  have notE : cls o.op ≠ .ef → ¬ E ops j := by rintro hne ⟨o', ho', hc'⟩; rw [ho] at ho'; cases ho'; exact hne hc'
  have notF : cls o.op ≠ .fl → ¬ FW ops wt j := by rintro hne ⟨_, o', ho', hc'⟩; rw [ho] at ho'; cases ho'; exact hne hc'
  simp only [WOps, ho]
  rw [hwant]
  cases hb : wt j with
  | false =>
    rw [if_neg (by simp)]
    have hv : ∀ ρ, VRel ρ (val j) undef := by rw [f3 hb]; exact undef_rel
    have hF : ¬ FW ops wt j := by rintro ⟨h, _⟩; rw [hb] at h; cases h
    cases hc : cls o.op with
    | ef =>
      rw [hc] at f4
      have hE : E ops j := ⟨o, ho, hc⟩
      refine next _ _ _ _ (I.effect T hn ho hL hcu hE (ρ' := ρ) (w' := w) ?_ (hv ρ))
      rw [f4.2.2.2.2.1 hb]
      exact Adv.refl (I.before T hL hcu hE).2.2.1.rel
    | pu => exact next _ _ _ _ (I.quiet T hn ho hL hcu (notE (by rw [hc]; simp)) hF (Adv.refl I.adv.rel) (hv ρ))
    | rd => exact next _ _ _ _ (I.quiet T hn ho hL hcu (notE (by rw [hc]; simp)) hF (Adv.refl I.adv.rel) (hv ρ))
    | fl => exact next _ _ _ _ (I.quiet T hn ho hL hcu (notE (by rw [hc]; simp)) hF (Adv.refl I.adv.rel) (hv ρ))
  | true =>
    rw [if_pos rfl]
    have hcong : ∀ a, evOp o.op (TL ops nt val τ0 L ops.size) a = evOp o.op (s j).τ a := fun a => evOp_congr o.op (evX_agree T hn hτ I.cl hcu ho hL)
    have quiet : evOp o.op (s j).τ (s e).w = .val (val j) (s e).w → ¬ E ops j → ¬ FW ops wt j →
        match (execOp a.eval o).run PP w with
        | .ok .recover w' =>
          match recK d cs with
          | some (v, cs') => WOps d PP ops Q rest (a.put o.dst v) cs' w'
          | none => WOps d PP ops Q rest (a.put o.dst .nilIface) cs w'
        | r => o.upon PP a (fun a' w' => WOps d PP ops Q rest a' cs w') (fun e a' w' => Q e a' cs w') r := by
      intro hev hE hF
      have hN := op_ok (e := a.eval) I.adv.rel he o
      rw [hcong, hev] at hN
      obtain ⟨ρ', w', hA, hrun⟩ := hN (I.clean.fresh _)
      rcases hrun with ⟨v', hrun, hv⟩ | ⟨hrun, hv⟩
      · rw [hrun]; exact next _ _ _ _ (I.quiet T hn ho hL hcu hE hF hA hv)
      · rw [hrun]; exact next _ _ _ _ (I.quiet T hn ho hL hcu hE hF hA (by rw [hv]; exact undef_rel ρ'))
    cases hc : cls o.op with
    | pu =>
      rw [hc] at f4
      exact quiet (f4.2.2.2.2.2 hb _) (notE (by rw [hc]; simp)) (notF (by rw [hc]; simp))
    | rd =>
      refine quiet (T.read ho hc hb I.le ?_ ?_) (notE (by rw [hc]; simp)) (notF (by rw [hc]; simp))
      · intro x hx hbf
        have := isBef_closed hcu hbf (upL_same L j)
        rw [upL_ne L (by rintro rfl; exact notE (by rw [hc]; simp) hx)] at this
        exact (I.ph x hx).1 this
      · intro x hx hlt
        cases hbf : isBef ops j x with
        | false => rfl
        | true => have := isBef_closed I.cl hbf ((I.ph x hx).2 hlt); rw [hL] at this; cases this
    | fl =>
      rw [hc] at f4
      obtain ⟨_, _, _, _, f5⟩ := f4
      obtain ⟨_, _, hm, hob, hev⟩ := f5 hb
      have hF : FW ops wt j := ⟨hb, o, ho, hc⟩
      cases hw : (s e).w with
      | mk h nx =>
        have hrel := I.adv.rel
        rw [hw] at hrel
        have hN := op_ok (a := .mk h (s j).fk) (e := a.eval) hrel.rekeyed he o
        rw [hcong, hev] at hN
        obtain ⟨ρ', w', hA, hrun⟩ := hN (by
          intro k h1 h2
          simp only [W.nx_mk] at h1 h2
          rw [K.succ_num hm] at h2
          rw [K.num_inj (show k.num = (s j).fk.num by omega)]
          exact I.none j hF hL)
        rcases hrun with ⟨v', hrun, hv⟩ | ⟨hrun, hv⟩
        · rw [hrun]; exact next _ _ _ _ (I.float T hn ho hL hcu hF hw hm hob hA hv)
        · rw [hrun]; exact next _ _ _ _ (I.float T hn ho hL hcu hF hw hm hob hA (by rw [hv]; exact undef_rel ρ'))
    | ef =>
      rw [hc] at f4
      obtain ⟨_, _, _, _, _, f5⟩ := f4
      have hE : E ops j := ⟨o, ho, hc⟩
      obtain ⟨b1, b2, b3, b4, b5⟩ := I.before T hL hcu hE
      have hN := op_ok (e := a.eval) b3.rel he o
      rw [hcong] at hN
      rcases f5 hb with hev | ⟨f, vs, W1, hev, hen⟩
      · rw [hev] at hN
        obtain ⟨ρ', w', hA, hrun⟩ := hN (b4.fresh _)
        rcases hrun with ⟨v', hrun, hv⟩ | ⟨hrun, hv⟩
        · rw [hrun]; exact next _ _ _ _ (I.effect T hn ho hL hcu hE hA hv)
        · rw [hrun]; exact next _ _ _ _ (I.effect T hn ho hL hcu hE hA (by rw [hv]; exact undef_rel ρ'))
      · rw [hev] at hN
        obtain ⟨ρ1, w1, args, hA, hrun, hv⟩ := hN (b4.fresh _)
        rw [hrun]
        have hC := enter_ok hs (hg0.mono (b3.trans hA).le) hA.rel (b4.adv hA) hv (by rw [hen]; trivial)
        rw [hen] at hC
        refine Calls.mono hC fun en w2 hp => ?_
        obtain ⟨v', ρ2, rfl, hv', hA2⟩ := hp
        exact next _ _ _ _ (I.effect T hn ho hL hcu hE (hA.trans hA2) hv')
theorem draw_all (hs : Sound ih) (T : Tr ih ops nt s val wt obj h0 nx0 nx1) (hn : nt ≤ 512) (hτ : (s 0).τ = τ0) (hg0 : GRel ρ0)
    (fin : ∀ L e ρ a w, IV ops nt s val wt obj h0 nx0 nx1 τ0 ρ0 w0 a0 L e ρ a w → (∀ j, j < ops.size → L j = true) → Q .normal a cs w) :
    ∀ (fuel t : Nat) (listed : Array Bool) (e : Nat) (ρ : Env) (a : Act) (w : World), listed.size = ops.size → un (ofArr listed) ops.size = fuel → IV ops nt s val wt obj h0 nx0 nx1 τ0 ρ0 w0 a0 (ofArr listed) e ρ a w →
      WOps d PP ops Q (Region.linearise.go .any ops fuel t listed []) a cs w := by
  intro fuel
  induction fuel with
  | zero =>
    intro t listed e ρ a w hsz hu I
    exact fin _ e ρ a w I (un_zero _ hu)
  | succ fuel ih =>
    intro t listed e ρ a w hsz hu I
    simp only [Region.linearise.go]
    change WOps d PP ops Q (match (Region.ready .any ops listed)[t % (Region.ready .any ops listed).length]? with
      | some i => Region.linearise.go .any ops fuel (t / (Region.ready .any ops listed).length) (listed.setIfInBounds i true) [i]
      | none => [].reverse) a cs w
    cases hi : (Region.ready .any ops listed)[t % (Region.ready .any ops listed).length]? with
    | none =>
      have hnil : Region.ready .any ops listed = [] := by
        cases hr : Region.ready .any ops listed with
        | nil => rfl
        | cons x xs =>
          rw [hr] at hi
          have hlt : t % (x :: xs).length < (x :: xs).length := Nat.mod_lt _ (by simp)
          simp at hi
          simp at hlt
          omega
      have hall := ready_nil T.drawn hsz hnil
      rw [un_all _ hall] at hu
      cases hu
    | some i =>
      have hmem := List.mem_of_getElem? hi
      obtain ⟨hL, o, ho, hed⟩ := ready_spec hsz hmem
      have hlt := (Array.getElem?_eq_some_iff.1 ho).1
      dsimp only
      rw [linearise_go_acc, List.reverse_singleton, List.singleton_append]
      refine draw_step hs T hn hτ hg0 I ho hL hed fun e' ρ' a' w' I' => ?_
      have hset := ofArr_set (listed := listed) (j := i) (by omega)
      refine ih _ (listed.setIfInBounds i true) e' ρ' a' w' (by rw [Array.size_setIfInBounds]; exact hsz) ?_ (by rw [hset]; exact I')
      rw [hset]
      have := un_up hL ops.size hlt
      omega
theorem resv_num : ∀ (n : Nat) (k k' : K), resv n k = some k' → k'.num = k.num + n
  | 0, k, k', h => by injection h with h; rw [h]; rfl
  | n + 1, k, k', h => by
    simp only [resv, bc_eq] at h
    split at h
    · cases h
    · rename_i hm
      have := resv_num n k.succ k' h
      rw [K.succ_num (by simpa using hm)] at this
      omega
theorem tl_none (h : ∀ i, L i = false) : ∀ k, TL ops nt val τ0 L k = τ0
  | 0 => rfl
  | k + 1 => by rw [tl_skip (h k)]; exact tl_none h k
theorem pp_mixed : PP.follows .mixedOrders = true := by kernel_rfl
end
section
variable {ρ : Env} {nt : Nat} {d : Bool} {c₀ : Frame} {cs₀ : List Frame} {τ : F} {ds : List AD} {um : UM} {aw : W} {a : Act} {cs : List Frame} {w : World}
theorem adv_resv {h : H4} {nx nx' : K} (hw : WRel ρ (.mk h nx) w) (hn : nx.num ≤ nx'.num) : Adv ρ (.mk h nx) w ρ (.mk h nx') w :=
  ⟨hw.rekeyed, Env.le_refl ρ, fun _ => .inl rfl, hn, Nat.le_refl _, fun _ h => .inl h, fun k _ h e => .inl ⟨k, h, e⟩, fun _ _ _ => rfl, rfl, rfl, rfl⟩
theorem draw_ok {ih : Ih} (hs : Sound ih) {ops : Array Oper} {id f : Nat} (h : SRel ρ nt d c₀ cs₀ τ ds um aw a cs w) (hr : (cDraw id ops ih (.mk f nt d none) (.mk τ ds um aw)).ok) :
    WS d PP (.region id ops true) (Post ρ aw w nt d c₀ cs₀ (cDraw id ops ih (.mk f nt d none) (.mk τ ds um aw))) a cs w := by
  obtain ⟨h0, nx0⟩ := aw
  refine ws_region_draw fun t => ?_
  have hcd : cDraw id ops ih (.mk f nt d none) (.mk τ ds um (.mk h0 nx0)) = bc (drawOk ops) (dStart ih ops nt f τ h0 nx0 ds um (resv (numFl ops.toList) nx0)) (.no 238 f) := rfl
  rw [hcd] at hr ⊢
  cases hok : drawOk ops with
  | false => rw [hok] at hr; exact hr.elim
  | true =>
    rw [hok] at hr
    have hr : (dStart ih ops nt f τ h0 nx0 ds um (resv (numFl ops.toList) nx0)).ok := hr
    show WOps d PP ops (Post ρ (.mk h0 nx0) w nt d c₀ cs₀ (dStart ih ops nt f τ h0 nx0 ds um (resv (numFl ops.toList) nx0))) _ a cs _
    cases hv : resv (numFl ops.toList) nx0 with
    | none => rw [hv] at hr; exact hr.elim
    | some nx1 =>
      rw [hv] at hr
      simp only [dStart] at hr ⊢
      cases hd : dOps ih ops nt f ops.toList 0 (.mk τ (.mk h0 nx1) nx0 [] [] []) with
      | no c g => rw [hd] at hr; exact hr.elim
      | ok sN =>
        rw [hd] at hr
        obtain ⟨s, s0, sn, hst⟩ := trace ops.toList 0 _ sN hd
        have sn : s ops.size = sN := by rw [← sn]; simp
        have hst : ∀ j o, ops[j]? = some o → dStep ih ops j o nt f (s j) = .ok (s (j + 1)) := by
          intro j o ho
          have := hst j o (by simpa using ho)
          simpa using this
        have hfx : ∀ j, ∃ x : AV × Bool × AObj, ∀ o, ops[j]? = some o → FactAt ih ops nt j o (s j) (s (j + 1)) x.1 x.2.1 x.2.2 := by
          intro j
          cases ho : ops[j]? with
          | none => exact ⟨(.top, true, .none), fun o h => by cases h⟩
          | some o =>
            obtain ⟨v, b, ob, hf⟩ := step_fact (hst j o ho)
            exact ⟨(v, b, ob), fun o' h => by cases h; exact hf⟩
        obtain ⟨x, hx⟩ := Classical.skolem.1 hfx
        have hnum := resv_num _ _ _ hv
        have hrec : dRecs ops (s ops.size).recs ((ops.size, (s ops.size).w) :: (s ops.size).hist) = true ∧ dEnd ops f ds um (.ok sN) = .n (.mk (s ops.size).τ ds um (dAll (s ops.size).pend (s ops.size).w)) := by
          rw [sn]
          obtain ⟨τN, wN, fk, pend, hist, recs⟩ := sN
          simp only [dEnd] at hr ⊢
          rw [opsLen_eq] at hr ⊢
          cases hq : dRecs ops recs ((ops.size, wN) :: hist) with
          | false => rw [hq] at hr; exact hr.elim
          | true => exact ⟨hq, rfl⟩
        have T : Tr ih ops nt s (fun j => (x j).1) (fun j => (x j).2.1) (fun j => (x j).2.2) h0 nx0 nx1 :=
          ⟨fun j o ho => hx j o ho, drawOk_spec hok, by rw [s0]; rfl, by rw [s0]; rfl, by rw [s0]; rfl, hnum, hrec.1⟩
        rw [hrec.2]
        have hsch : Region.schedule (PP.follows .mixedOrders) ops t = Region.linearise.go .any ops ops.size t (Array.replicate ops.size false) [] := by
          rw [pp_mixed]; rfl
        rw [hsch]
        have hall : ∀ i, ofArr (Array.replicate ops.size false) i = false := by
          intro i
          unfold ofArr
          rw [Array.getD_eq_getD_getElem?, Array.getElem?_replicate]
          split <;> rfl
        have hw0 : (s 0).w = .mk h0 nx1 := T.w0
        have hwd : WRel ρ (.mk h0 nx0) { w with drawn := w.drawn + 1 } := ⟨h.wr.inj, h.wr.dom, h.wr.len⟩
        refine draw_all hs T h.le (τ0 := τ) (by rw [s0]; rfl) (ρ0 := ρ) (w0 := { w with drawn := w.drawn + 1 }) (a0 := a) h.g ?_ ops.size t _ 0 ρ a _ (by simp) ?_ ?_
        · intro L e ρ' a' w' I hL
          have hwe : (s ops.size).w = (s e).w := by
            refine T.w_const ops.size I.le (Nat.le_refl _) fun x h1 h2 hx => ?_
            have := (I.ph x hx).1 (hL x h2)
            omega
          obtain ⟨p1, p2⟩ := T.pend ops.size (Nat.le_refl _)
          have hA := (all_ok (s ops.size).pend (ρ := ρ') (a := (s ops.size).w) (w := w') (ρ0 := ρ) (a0 := .mk h0 nx0) (w0 := { w with drawn := w.drawn + 1 }) (fun p hp => by
            obtain ⟨q1, q2, q3, q4, q5⟩ := p1 p hp
            rw [q4, q5, hwe]
            exact I.held p.i q2 (hL _ q1) fun x hx hE => q3 x (by have := I.le; omega) hE) (by
            refine List.Pairwise.imp_of_mem (fun {p q} hp hq hlt => ?_) p2
            obtain ⟨q1, q2, _, q4, _⟩ := p1 p hp
            obtain ⟨r1, r2, _, r4, _⟩ := p1 q hq
            rw [q4, r4]
            exact I.sep p.i q.i q2 r2 (hL _ q1) (hL _ r1) (by omega)) (by rw [hwe]; exact I.adv)).1
          have hA : Adv ρ (.mk h0 nx0) w ρ' (dAll (s ops.size).pend (s ops.size).w) w' := ⟨hA.rel, hA.le, hA.rng, hA.nx, hA.size, hA.own, hA.keep, hA.frame, hA.os, hA.tape, hA.output⟩
          have hfr : FRel ρ' (s ops.size).τ a'.tmps := by
            intro t
            have := I.fr t
            rw [tl_agree T h.le (by rw [s0]; rfl) (Nat.le_refl _) (fun i o hi _ _ => hL i hi) (fun i o hi ho _ => by have := (Array.getElem?_eq_some_iff.1 ho).1; omega)] at this
            exact this
          refine ⟨rfl, ρ', hA, h.g.mono hA.le, hA.rel, ?_, hfr, I.sz, h.le, by rw [I.dr]; exact DRels.mono hA.le _ _ h.dr, h.um.mono hA.le⟩
          intro k hk
          rw [nx_all, hwe] at hk
          exact I.clean k hk
        · have : ∀ n, un (ofArr (Array.replicate ops.size false)) n = n := by
            intro n
            induction n with
            | zero => rfl
            | succ n ih => simp only [un, ih, hall n, cond_false]
          exact this _
        · refine ⟨fun j o _ hj => ?_, Nat.zero_le _, fun x _ => ?_, ?_, ?_, ?_, ?_, h.sz, rfl, fun j _ hj => ?_, fun i j _ _ hi => ?_, fun j _ hj => ?_, fun j hF _ => ?_⟩
          · rw [hall] at hj; cases hj
          · rw [hall]; simp
          · rw [hw0]; exact adv_resv hwd (by omega)
          · rw [hw0]; intro k hk; exact h.cl k (by simp only [W.nx_mk] at hk ⊢; omega)
          · rw [hw0]; exact Nat.le_refl _
          · rw [tl_none hall]; exact h.fr
          · rw [hall] at hj; cases hj
          · rw [hall] at hi; cases hi
          · rw [hall] at hj; cases hj
          · exact h.cl _ (by simp only [W.nx_mk]; exact (T.key_lt hF).1)
end
end Go.Ev
