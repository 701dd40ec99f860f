import Derived.Test.YtlpchjkggeiidaaGreatDoorEvDc
set_option linter.all false
namespace Go.Ev
/- What a run of a region in the order of its text says, step by step. -/
def FactAt (ih : Ih) (ops : Array Oper) (nt j : Nat) (o : Oper) (s s' : DS) (v : AV) (b : Bool) (ob : AObj) : Prop :=
  s'.τ = fput nt o.dst v s.τ ∧
  (match o.guard with | none => b = true | some g => wants g ops.toList s.τ = some b) ∧
  (b = false → v = undefA) ∧
  (match cls o.op with
   | .pu => s'.w = s.w ∧ s'.fk = s.fk ∧ s'.pend = s.pend ∧ s'.hist = s.hist ∧ s'.recs = s.recs ∧ (b = true → ∀ a, evOp o.op s.τ a = .val v a)
   | .rd => s'.w = s.w ∧ s'.fk = s.fk ∧ s'.pend = s.pend ∧ s'.hist = s.hist ∧ (∀ r ∈ s.recs, r ∈ s'.recs) ∧ (b = true → evOp o.op s.τ s.w = .val v s.w ∧ (multi ops j = true → .mk j o.op s.τ v ∈ s'.recs))
   | .fl => s'.w = s.w ∧ s'.hist = s.hist ∧ s'.recs = s.recs ∧ (b = false → s'.fk = s.fk ∧ s'.pend = s.pend) ∧
      (b = true → s'.fk = s.fk.succ ∧ s'.pend = .mk j s.fk ob :: s.pend ∧ s.fk.isMax = false ∧ ob ≠ .none ∧ ∀ h, evOp o.op s.τ (.mk h s.fk) = .val v (.mk (hset s.fk ob h) s.fk.succ))
   | .ef => s'.fk = s.fk ∧ s'.pend = dRest (bmask ops j) s.pend ∧ s'.hist = (j, s.w) :: s.hist ∧ s'.recs = s.recs ∧ (b = false → s'.w = dAdopt (bmask ops j) s.pend s.w) ∧
      (b = true → evOp o.op s.τ (dAdopt (bmask ops j) s.pend s.w) = .val v s'.w ∨ (∃ f vs W1, evOp o.op s.τ (dAdopt (bmask ops j) s.pend s.w) = .call f vs W1 ∧ enter ih f vs W1 = .ret v s'.w) ∨
        ∃ f vs W1 ch W2, evOp o.op s.τ (dAdopt (bmask ops j) s.pend s.w) = .call f vs W1 ∧ enter ih f vs W1 = .pan ch W2))
section
variable {ih : Ih} {ops : Array Oper} {nt fn : Nat}
theorem go_fact {j : Nat} {o : Oper} {s s' : DS} (h : dGo ih ops j o nt fn s = .ok s') (hg : match o.guard with | none => True | some g => wants g ops.toList s.τ = some true) : ∃ v ob, FactAt ih ops nt j o s s' v true ob := by
  obtain ⟨τ, w, fk, pend, hist, recs⟩ := s
  have hg' : match o.guard with | none => true = true | some g => wants g ops.toList τ = some true := by
    cases ho : o.guard with
    | none => rfl
    | some g => rw [ho] at hg; exact hg
  unfold dGo at h
  unfold FactAt
  cases hc : cls o.op with
  | pu =>
    rw [hc] at h
    simp only [dPure] at h
    split at h <;> cases h
    rename_i v a' he
    exact ⟨v, .none, rfl, hg', (fun e => Bool.noConfusion e), rfl, rfl, rfl, rfl, rfl, fun _ a => pu_same hc (fOp_val he) a⟩
  | rd =>
    rw [hc] at h
    simp only [dRead] at h
    split at h <;> cases h
    rename_i v a' he
    have he := fOp_val he
    have hs := rd_same (a := w) hc τ
    rw [he] at hs
    have hs : a' = w := hs
    subst hs
    refine ⟨v, .none, rfl, hg', (fun e => Bool.noConfusion e), rfl, rfl, rfl, rfl, ?_, fun _ => ⟨he, ?_⟩⟩
    · intro r hr
      simp only [DS.recs, bc_eq] at hr ⊢
      split
      · exact List.mem_cons_of_mem _ hr
      · exact hr
    · intro hm
      simp only [DS.recs, DS.τ, bc_eq]
      rw [if_pos hm]
      simp
  | fl =>
    rw [hc] at h
    simp only [dFloat] at h
    split at h <;> cases h
    rename_i v h' nx' he
    have he := fOp_val he
    rcases fl_float hc τ with ⟨ob, g, hob, hf⟩ | hf
    · have hx := hf (.mk (hOf w) fk)
      rw [he] at hx
      have hx : OR.val v (.mk h' nx') = bc fk.isMax (.no 1) (.val (g fk) (.mk (hset fk ob (hOf w)) fk.succ)) := hx
      rw [bc_eq] at hx
      split at hx
      · cases hx
      rename_i hm
      have hm : fk.isMax = false := by simpa using hm
      injection hx with h1 h2
      injection h2 with h2 h3
      subst h1; subst h2; subst h3
      refine ⟨g fk, ob, rfl, hg', (fun e => Bool.noConfusion e), rfl, rfl, rfl, (fun e => Bool.noConfusion e), fun _ => ⟨rfl, ?_, hm, hob, ?_⟩⟩
      · simp only [DS.pend, DS.fk]; rw [hget_hset_same]
      · intro hh
        simp only [DS.τ, DS.fk]
        rw [hf]
        show bc fk.isMax (OR.no 1) (OR.val (g fk) (.mk (hset fk ob hh) fk.succ)) = _
        rw [hm]; rfl
    · obtain ⟨c, hx⟩ := hf (.mk (hOf w) fk)
      rw [he] at hx; cases hx
  | ef =>
    rw [hc] at h
    simp only [dEff] at h
    split at h
    · rename_i v w' he
      cases h
      exact ⟨v, .none, rfl, hg', (fun e => Bool.noConfusion e), rfl, rfl, rfl, rfl, (fun e => Bool.noConfusion e), fun _ => .inl (fOp_val he)⟩
    · rename_i f vs w' he
      split at h
      · rename_i v w'' hen
        cases h
        exact ⟨v, .none, rfl, hg', (fun e => Bool.noConfusion e), rfl, rfl, rfl, rfl, (fun e => Bool.noConfusion e), fun _ => .inr (.inl ⟨f, vs, w', fOp_call he, hen⟩)⟩
      · cases h
      · rw [bc_eq] at h; split at h <;> cases h
    · cases h
    · cases h
theorem step_fact {j : Nat} {o : Oper} {s s' : DS} (h : dStep ih ops j o nt fn s = .ok s') : ∃ v b ob, FactAt ih ops nt j o s s' v b ob := by
  unfold dStep at h
  cases hg : o.guard with
  | none =>
    rw [hg] at h
    obtain ⟨v, ob, hf⟩ := go_fact h (by rw [hg]; trivial)
    exact ⟨v, true, ob, hf⟩
  | some g =>
    rw [hg] at h
    dsimp only at h
    split at h
    · rename_i hw
      obtain ⟨v, ob, hf⟩ := go_fact h (by rw [hg]; exact hw)
      exact ⟨v, true, ob, hf⟩
    · rename_i hw
      refine ⟨undefA, false, .none, ?_⟩
      obtain ⟨τ, w, fk, pend, hist, recs⟩ := s
      unfold dSkip at h
      unfold FactAt
      rw [hg]
      cases hc : cls o.op <;> rw [hc] at h <;> cases h
      · exact ⟨rfl, hw, fun _ => rfl, rfl, rfl, rfl, rfl, rfl, (fun e => Bool.noConfusion e)⟩
      · exact ⟨rfl, hw, fun _ => rfl, rfl, rfl, rfl, rfl, fun r hr => hr, (fun e => Bool.noConfusion e)⟩
      · exact ⟨rfl, hw, fun _ => rfl, rfl, rfl, rfl, fun _ => ⟨rfl, rfl⟩, (fun e => Bool.noConfusion e)⟩
      · exact ⟨rfl, hw, fun _ => rfl, rfl, rfl, rfl, rfl, fun _ => rfl, (fun e => Bool.noConfusion e)⟩
    · cases h
theorem trace : ∀ (l : List Oper) (i : Nat) (s sN : DS), dOps ih ops nt fn l i s = .ok sN → ∃ f : Nat → DS, f i = s ∧ f (i + l.length) = sN ∧ ∀ k o, l[k]? = some o → dStep ih ops (i + k) o nt fn (f (i + k)) = .ok (f (i + k + 1))
  | [], i, s, sN, h => by
    cases h
    exact ⟨fun _ => s, rfl, rfl, fun k o hk => by simp at hk⟩
  | o :: l, i, s, sN, h => by
    simp only [dOps, dBind] at h
    split at h
    · rename_i s1 h1
      obtain ⟨f, f1, f2, f3⟩ := trace l (i + 1) s1 sN h
      refine ⟨fun j => if j ≤ i then s else f j, by simp, ?_, ?_⟩
      · simp only [List.length_cons]
        rw [if_neg (by omega), ← f2]
        congr 1
        omega
      · intro k o' hk
        cases k with
        | zero =>
          simp at hk
          subst hk
          dsimp only
          rw [if_pos (by omega), if_neg (by omega), Nat.add_zero, f1]
          exact h1
        | succ k =>
          simp only [List.getElem?_cons_succ] at hk
          have := f3 k o' hk
          dsimp only
          rw [if_neg (by omega), if_neg (by omega)]
          have e : i + (k + 1) = i + 1 + k := by omega
          rw [e]
          exact this
    · cases h
    · cases h
theorem wanted_go {j : Nat} {o : Oper} {s : DS} (hg : match o.guard with | none => True | some g => wants g ops.toList s.τ = some true) : dStep ih ops j o nt fn s = dGo ih ops j o nt fn s := by
  unfold dStep
  cases hgd : o.guard with
  | none => rfl
  | some g => rw [hgd] at hg; dsimp only at hg ⊢; rw [hg]
/-- a step that goes on is no panic -/
theorem ok_no_pan {j : Nat} {o : Oper} {s s' : DS} (h : dStep ih ops j o nt fn s = .ok s') (hc : cls o.op = .ef) (hg : match o.guard with | none => True | some g => wants g ops.toList s.τ = some true) {f : FuncId} {vs : List AV} {W1 W2 : W} {ch : List PE}
    (h1 : evOp o.op s.τ (dAdopt (bmask ops j) s.pend s.w) = .call f vs W1) (h2 : enter ih f vs W1 = .pan ch W2) : False := by
  rw [wanted_go hg] at h
  obtain ⟨τ, w, fk, pend, hist, recs⟩ := s
  unfold dGo at h
  rw [hc] at h
  have h1 : evOp o.op τ (dAdopt (bmask ops j) pend w) = .call f vs W1 := h1
  simp only [dEff] at h
  rcases fOp_le o.op τ (dAdopt (bmask ops j) pend w) with ⟨c, e⟩ | e
  · rw [e] at h; cases h
  · rw [e, h1] at h
    dsimp only at h
    rw [h2] at h
    dsimp only at h
    rw [bc_eq] at h
    split at h <;> cases h
theorem step_pan {j p : Nat} {o : Oper} {s s' : DS} {ch : List PE} {w2 : W} (h : dStep ih ops j o nt fn s = .pan ch w2 p s') : p = j ∧ panOk ops j = true ∧ FactAt ih ops nt j o s s' .top true .none ∧ cls o.op = .ef ∧
    ∃ f vs W1, evOp o.op s.τ (dAdopt (bmask ops j) s.pend s.w) = .call f vs W1 ∧ enter ih f vs W1 = .pan ch w2 := by
  have key : ∀ (hg : match o.guard with | none => True | some g => wants g ops.toList s.τ = some true), dGo ih ops j o nt fn s = .pan ch w2 p s' → p = j ∧ panOk ops j = true ∧ FactAt ih ops nt j o s s' .top true .none ∧ cls o.op = .ef ∧
      ∃ f vs W1, evOp o.op s.τ (dAdopt (bmask ops j) s.pend s.w) = .call f vs W1 ∧ enter ih f vs W1 = .pan ch w2 := by
    intro hg h
    obtain ⟨τ, w, fk, pend, hist, recs⟩ := s
    have hg' : match o.guard with | none => true = true | some g => wants g ops.toList τ = some true := by
      cases ho : o.guard with
      | none => rfl
      | some g => rw [ho] at hg; exact hg
    unfold dGo at h
    unfold FactAt
    cases hc : cls o.op with
    | pu => rw [hc] at h; simp only [dPure] at h; split at h <;> cases h
    | rd => rw [hc] at h; simp only [dRead] at h; split at h <;> cases h
    | fl => rw [hc] at h; simp only [dFloat] at h; split at h <;> cases h
    | ef =>
      rw [hc] at h
      simp only [dEff] at h
      split at h
      · cases h
      · rename_i f vs w' he
        split at h
        · cases h
        · cases h
        · rename_i ch' w'' hen
          rw [bc_eq] at h
          split at h
          · rename_i hok
            injection h with h1 h2 h3 h4
            subst h1 h2 h3 h4
            exact ⟨rfl, hok, ⟨rfl, hg', (fun e => Bool.noConfusion e), rfl, rfl, rfl, rfl, (fun e => Bool.noConfusion e), fun _ => .inr (.inr ⟨f, vs, w', ch', w'', fOp_call he, hen⟩)⟩, rfl, f, vs, w', fOp_call he, hen⟩
          · cases h
      · cases h
      · cases h
  unfold dStep at h
  cases hg : o.guard with
  | none => rw [hg] at h; exact key (by rw [hg]; trivial) h
  | some g =>
    rw [hg] at h
    dsimp only at h
    split at h
    · rename_i hw; exact key (by rw [hg]; exact hw) h
    · obtain ⟨τ, w, fk, pend, hist, recs⟩ := s
      unfold dSkip at h
      cases hc : cls o.op <;> rw [hc] at h <;> cases h
    · cases h
theorem trace_pan {ch : List PE} {w2 : W} {p : Nat} {sP : DS} : ∀ (l : List Oper) (i : Nat) (s : DS), dOps ih ops nt fn l i s = .pan ch w2 p sP →
    ∃ (f : Nat → DS) (k : Nat), f i = s ∧ p = i + k ∧ f (p + 1) = sP ∧ (∀ k' o, k' < k → l[k']? = some o → dStep ih ops (i + k') o nt fn (f (i + k')) = .ok (f (i + k' + 1))) ∧ ∃ o, l[k]? = some o ∧ dStep ih ops p o nt fn (f p) = .pan ch w2 p sP
  | [], _, _, h => by cases h
  | o :: l, i, s, h => by
    simp only [dOps, dBind] at h
    split at h
    · rename_i s1 h1
      obtain ⟨f, k, f1, f2, f3, f4, o', f5, f6⟩ := trace_pan l (i + 1) s1 h
      refine ⟨fun j => if j ≤ i then s else f j, k + 1, by simp, by omega, ?_, ?_, o', by simpa using f5, ?_⟩
      · dsimp only; rw [if_neg (by omega)]; exact f3
      · intro k' o'' hk hl
        cases k' with
        | zero =>
          simp at hl
          subst hl
          dsimp only
          rw [if_pos (by omega), if_neg (by omega), Nat.add_zero, f1]
          exact h1
        | succ k' =>
          simp only [List.getElem?_cons_succ] at hl
          have := f4 k' o'' (by omega) hl
          dsimp only
          rw [if_neg (by omega), if_neg (by omega)]
          have e : i + (k' + 1) = i + 1 + k' := by omega
          rw [e]
          exact this
      · dsimp only; rw [if_neg (by omega)]; exact f6
    · rename_i ch' w' p' s' h1
      injection h with e1 e2 e3 e4
      subst e1 e2 e3 e4
      have hp := (step_pan h1).1
      refine ⟨fun j => if j ≤ i then s else s', 0, by simp, by omega, ?_, fun k' o' hk => by omega, o, by simp, ?_⟩
      · dsimp only; rw [if_neg (by omega)]
      · dsimp only; rw [if_pos (by omega), hp]; rw [hp] at h1; exact h1
    · cases h
theorem fact_cut {opsT : Array Oper} {j : Nat} {o : Oper} {s s' : DS} {v : AV} {b : Bool} {ob : AObj} (h : FactAt ih ops nt j o s s' v b ob) (hb : bmask ops j = bmask opsT j) (hm : multi ops j = multi opsT j)
    (hw : ∀ g, o.guard = some g → wants g ops.toList s.τ = wants g opsT.toList s.τ) : FactAt ih opsT nt j o s s' v b ob := by
  unfold FactAt at h ⊢
  rw [← hb, ← hm]
  obtain ⟨h1, h2, h3, h4⟩ := h
  refine ⟨h1, ?_, h3, h4⟩
  cases hg : o.guard with
  | none => rw [hg] at h2; exact h2
  | some g => rw [hg] at h2; dsimp only at h2 ⊢; rw [← hw g hg]; exact h2
/-- a region's run -/
structure Tr (ih : Ih) (ops : Array Oper) (nt : Nat) (s : Nat → DS) (val : Nat → AV) (wt : Nat → Bool) (obj : Nat → AObj) (h0 : H4) (nx0 nx1 : K) : Prop where
  fact : ∀ j o, ops[j]? = some o → FactAt ih ops nt j o (s j) (s (j + 1)) (val j) (wt j) (obj j)
  drawn : Drawn ops
  w0 : (s 0).w = .mk h0 nx1
  fk0 : (s 0).fk = nx0
  pend0 : (s 0).pend = []
  num : nx0.num + numFl ops.toList ≤ nx1.num
  recs : dRecs ops (s ops.size).recs ((ops.size, (s ops.size).w) :: (s ops.size).hist) = true
variable {s : Nat → DS} {val : Nat → AV} {wt : Nat → Bool} {obj : Nat → AObj} {h0 : H4} {nx0 nx1 : K}
def E (ops : Array Oper) (x : Nat) : Prop := ∃ o, ops[x]? = some o ∧ cls o.op = .ef
def FW (ops : Array Oper) (wt : Nat → Bool) (x : Nat) : Prop := wt x = true ∧ ∃ o, ops[x]? = some o ∧ cls o.op = .fl
theorem E.size {x : Nat} (h : E ops x) : x < ops.size := by obtain ⟨o, h, _⟩ := h; exact (Array.getElem?_eq_some_iff.1 h).1
theorem get_some {j : Nat} (h : j < ops.size) : ∃ o, ops[j]? = some o := ⟨_, Array.getElem?_eq_getElem h⟩
theorem Tr.w_step (T : Tr ih ops nt s val wt obj h0 nx0 nx1) {j : Nat} (hj : j < ops.size) (hn : ¬ E ops j) : (s (j + 1)).w = (s j).w := by
  obtain ⟨o, ho⟩ := get_some hj
  have := T.fact j o ho
  unfold FactAt at this
  obtain ⟨_, _, _, h⟩ := this
  cases hc : cls o.op with
  | ef => exact absurd ⟨o, ho, hc⟩ hn
  | pu => rw [hc] at h; exact h.1
  | rd => rw [hc] at h; exact h.1
  | fl => rw [hc] at h; exact h.1
theorem Tr.w_const (T : Tr ih ops nt s val wt obj h0 nx0 nx1) {e : Nat} : ∀ j, e ≤ j → j ≤ ops.size → (∀ x, e ≤ x → x < j → ¬ E ops x) → (s j).w = (s e).w
  | 0, h, _, _ => by have : e = 0 := by omega
                     rw [this]
  | j + 1, h, hn, hx => by
    rcases Nat.lt_or_ge j e with h1 | h1
    · have : e = j + 1 := by omega
      rw [this]
    · rw [T.w_step (by omega) (hx j h1 (by omega)), T.w_const j h1 (by omega) fun x a b => hx x a (by omega)]
theorem rest_mem {m : Nat} {p : PF} : ∀ {l : List PF}, p ∈ dRest m l → p ∈ l ∧ tb m p.i = false
  | .mk i k o :: l, h => by
    simp only [dRest, bc_eq] at h
    split at h
    · have := rest_mem h; exact ⟨List.mem_cons_of_mem _ this.1, this.2⟩
    · rename_i hb
      rcases List.mem_cons.1 h with e | e
      · subst e; exact ⟨by simp, Bool.eq_false_iff.2 hb⟩
      · have := rest_mem e; exact ⟨List.mem_cons_of_mem _ this.1, this.2⟩
theorem rest_pair {m : Nat} {R : PF → PF → Prop} : ∀ {l : List PF}, l.Pairwise R → (dRest m l).Pairwise R
  | [], _ => List.Pairwise.nil
  | .mk i k o :: l, h => by
    obtain ⟨h1, h2⟩ := List.pairwise_cons.1 h
    simp only [dRest, bc_eq]
    split
    · exact rest_pair h2
    · exact List.pairwise_cons.2 ⟨fun p hp => h1 p (rest_mem hp).1, rest_pair h2⟩
theorem Tr.pend (T : Tr ih ops nt s val wt obj h0 nx0 nx1) : ∀ j, j ≤ ops.size →
    (∀ p ∈ (s j).pend, p.i < j ∧ FW ops wt p.i ∧ (∀ x, x < j → E ops x → isBef ops p.i x = false) ∧ p.k = (s p.i).fk ∧ p.o = obj p.i) ∧ (s j).pend.Pairwise (fun p q => q.i < p.i)
  | 0, _ => by rw [T.pend0]; exact ⟨fun p hp => (by cases hp), List.Pairwise.nil⟩
  | j + 1, hj => by
    obtain ⟨h1, h2⟩ := T.pend j (by omega)
    obtain ⟨o, ho⟩ := get_some (ops := ops) (j := j) (by omega)
    have hf := T.fact j o ho
    unfold FactAt at hf
    obtain ⟨_, _, _, hf⟩ := hf
    have keep : ¬ E ops j → (s (j + 1)).pend = (s j).pend → (∀ p ∈ (s (j + 1)).pend, p.i < j + 1 ∧ FW ops wt p.i ∧ (∀ x, x < j + 1 → E ops x → isBef ops p.i x = false) ∧ p.k = (s p.i).fk ∧ p.o = obj p.i) ∧ (s (j + 1)).pend.Pairwise (fun p q => q.i < p.i) := by
      intro hE he
      rw [he]
      refine ⟨fun p hp => ?_, h2⟩
      obtain ⟨q1, q2, q3, q4⟩ := h1 p hp
      refine ⟨by omega, q2, fun x hx hEx => ?_, q4⟩
      rcases Nat.lt_or_ge x j with h | h
      · exact q3 x h hEx
      · have : x = j := by omega
        subst this; exact absurd hEx hE
    have notE : cls o.op ≠ .ef → ¬ E ops j := by rintro hne ⟨o', ho', hc'⟩; rw [ho] at ho'; cases ho'; exact hne hc'
    cases hc : cls o.op with
    | pu => rw [hc] at hf; exact keep (notE (by rw [hc]; simp)) hf.2.2.1
    | rd => rw [hc] at hf; exact keep (notE (by rw [hc]; simp)) hf.2.2.1
    | fl =>
      rw [hc] at hf
      obtain ⟨_, _, _, f1, f2⟩ := hf
      cases hb : wt j with
      | false => exact keep (notE (by rw [hc]; simp)) (f1 hb).2
      | true =>
        obtain ⟨_, f3, _⟩ := f2 hb
        rw [f3]
        refine ⟨fun p hp => ?_, List.pairwise_cons.2 ⟨fun p hp => (h1 p hp).1, h2⟩⟩
        rcases List.mem_cons.1 hp with e | e
        · subst e
          refine ⟨by simp [PF.i], ⟨hb, o, ho, hc⟩, fun x hx hEx => ?_, rfl, rfl⟩
          show isBef ops j x = false
          cases hbf : isBef ops j x with
          | false => rfl
          | true =>
            exfalso
            rcases Nat.lt_or_ge x j with h | h
            · have hcl : Closed ops (fun i => decide (i ≤ x)) := by
                intro y oy hy hL e he hb
                have := T.drawn.edge y oy hy e he hb
                have hL := of_decide_eq_true hL
                exact decide_eq_true (by omega)
              have := isBef_closed hcl hbf (decide_eq_true (Nat.le_refl x))
              have := of_decide_eq_true this
              omega
            · have : x = j := by omega
              subst this
              exact notE (by rw [hc]; simp) hEx
        · obtain ⟨q1, q2, q3, q4⟩ := h1 p e
          refine ⟨by omega, q2, fun x hx hEx => ?_, q4⟩
          rcases Nat.lt_or_ge x j with h | h
          · exact q3 x h hEx
          · have : x = j := by omega
            subst this; exact absurd hEx (notE (by rw [hc]; simp))
    | ef =>
      rw [hc] at hf
      obtain ⟨_, f1, _⟩ := hf
      rw [f1]
      refine ⟨fun p hp => ?_, rest_pair h2⟩
      obtain ⟨m1, m2⟩ := rest_mem hp
      obtain ⟨q1, q2, q3, q4⟩ := h1 p m1
      refine ⟨by omega, q2, fun x hx hEx => ?_, q4⟩
      rcases Nat.lt_or_ge x j with h | h
      · exact q3 x h hEx
      · have : x = j := by omega
        subst this; exact m2
theorem Tr.fk_step (T : Tr ih ops nt s val wt obj h0 nx0 nx1) {j : Nat} {o : Oper} (ho : ops[j]? = some o) : (s (j + 1)).fk = (s j).fk ∨ (cls o.op = .fl ∧ (s (j + 1)).fk.num = (s j).fk.num + 1) := by
  have hf := T.fact j o ho
  unfold FactAt at hf
  obtain ⟨_, _, _, hf⟩ := hf
  cases hc : cls o.op with
  | pu => rw [hc] at hf; exact .inl hf.2.1
  | rd => rw [hc] at hf; exact .inl hf.2.1
  | ef => rw [hc] at hf; exact .inl hf.1
  | fl =>
    rw [hc] at hf
    obtain ⟨_, _, _, f1, f2⟩ := hf
    cases hb : wt j with
    | false => exact .inl (f1 hb).1
    | true => obtain ⟨f3, _, f4, _⟩ := f2 hb; rw [f3, K.succ_num f4]; exact .inr ⟨rfl, rfl⟩
theorem Tr.fk_fw (T : Tr ih ops nt s val wt obj h0 nx0 nx1) {j : Nat} (h : FW ops wt j) : (s (j + 1)).fk.num = (s j).fk.num + 1 := by
  obtain ⟨hb, o, ho, hc⟩ := h
  have hf := T.fact j o ho
  unfold FactAt at hf
  obtain ⟨_, _, _, hf⟩ := hf
  rw [hc] at hf
  obtain ⟨_, _, _, _, f2⟩ := hf
  obtain ⟨f3, _, f4, _⟩ := f2 hb
  rw [f3, K.succ_num f4]
theorem Tr.fk_mono (T : Tr ih ops nt s val wt obj h0 nx0 nx1) {i : Nat} : ∀ j, i ≤ j → j ≤ ops.size → (s i).fk.num ≤ (s j).fk.num
  | 0, h, _ => by have : i = 0 := by omega
                  rw [this]; exact Nat.le_refl _
  | j + 1, h, hj => by
    rcases Nat.lt_or_ge j i with h1 | h1
    · have : i = j + 1 := by omega
      rw [this]; exact Nat.le_refl _
    · have ih := T.fk_mono j h1 (by omega)
      obtain ⟨o, ho⟩ := get_some (ops := ops) (j := j) (by omega)
      rcases T.fk_step ho with e | ⟨_, e⟩
      · rw [e]; exact ih
      · omega
theorem Tr.fk_bound (T : Tr ih ops nt s val wt obj h0 nx0 nx1) : ∀ j, j ≤ ops.size → (s j).fk.num + numFl (ops.toList.drop j) ≤ nx1.num
  | 0, _ => by rw [T.fk0]; simpa using T.num
  | j + 1, hj => by
    have ih := T.fk_bound j (by omega)
    obtain ⟨o, ho⟩ := get_some (ops := ops) (j := j) (by omega)
    have hd : ops.toList.drop j = o :: ops.toList.drop (j + 1) := by
      rw [List.drop_eq_getElem_cons (by simpa using (Array.getElem?_eq_some_iff.1 ho).1)]
      congr 1
      have := (Array.getElem?_eq_some_iff.1 ho).2
      simpa using this
    rw [hd] at ih
    simp only [numFl, bc_eq] at ih
    rcases T.fk_step ho with e | ⟨e1, e⟩
    · rw [e]
      split at ih <;> omega
    · rw [if_pos (by rw [e1]; rfl)] at ih
      omega
theorem Tr.key_lt (T : Tr ih ops nt s val wt obj h0 nx0 nx1) {j : Nat} (h : FW ops wt j) : nx0.num ≤ (s j).fk.num ∧ (s j).fk.num < nx1.num := by
  obtain ⟨o, ho, hc⟩ := h.2
  have hj := (Array.getElem?_eq_some_iff.1 ho).1
  have h1 := T.fk_mono (i := 0) j (by omega) (by omega)
  rw [T.fk0] at h1
  have h2 := T.fk_bound (j + 1) (by omega)
  have h3 := T.fk_fw h
  omega
theorem Tr.key_inj (T : Tr ih ops nt s val wt obj h0 nx0 nx1) {i j : Nat} (hi : FW ops wt i) (hj : FW ops wt j) (h : (s i).fk = (s j).fk) : i = j := by
  have lt : ∀ {i j}, FW ops wt i → FW ops wt j → i < j → (s i).fk ≠ (s j).fk := by
    intro i j hi hj hlt e
    obtain ⟨o, ho, _⟩ := hj.2
    have hj' := (Array.getElem?_eq_some_iff.1 ho).1
    have h1 := T.fk_mono (i := i + 1) j (by omega) (by omega)
    have h2 := T.fk_fw hi
    rw [e] at h2
    omega
  rcases Nat.lt_trichotomy i j with h1 | h1 | h1
  · exact absurd h (lt hi hj h1)
  · exact h1
  · exact absurd h.symm (lt hj hi h1)
theorem Tr.hist (T : Tr ih ops nt s val wt obj h0 nx0 nx1) {x : Nat} (hx : E ops x) : ∀ j, x < j → j ≤ ops.size → (x, (s x).w) ∈ (s j).hist
  | j + 1, h, hj => by
    obtain ⟨o, ho⟩ := get_some (ops := ops) (j := j) (by omega)
    have hf := T.fact j o ho
    unfold FactAt at hf
    obtain ⟨_, _, _, hf⟩ := hf
    rcases Nat.lt_or_ge x j with h1 | h1
    · have ih := T.hist hx j h1 (by omega)
      cases hc : cls o.op with
      | pu => rw [hc] at hf; rw [hf.2.2.2.1]; exact ih
      | rd => rw [hc] at hf; rw [hf.2.2.2.1]; exact ih
      | fl => rw [hc] at hf; rw [hf.2.1]; exact ih
      | ef => rw [hc] at hf; rw [hf.2.2.1]; exact List.mem_cons_of_mem _ ih
    · have : x = j := by omega
      subst this
      obtain ⟨o', ho', hc⟩ := hx
      rw [ho] at ho'; cases ho'
      rw [hc] at hf
      rw [hf.2.2.1]
      simp
theorem Tr.rec_mem (T : Tr ih ops nt s val wt obj h0 nx0 nx1) {r : RC} {i : Nat} : ∀ j, i ≤ j → j ≤ ops.size → r ∈ (s i).recs → r ∈ (s j).recs
  | 0, h, _, hr => by have : i = 0 := by omega
                      rw [← this]; exact hr
  | j + 1, h, hj, hr => by
    rcases Nat.lt_or_ge j i with h1 | h1
    · have : i = j + 1 := by omega
      rw [← this]; exact hr
    · have ih := T.rec_mem j h1 (by omega) hr
      obtain ⟨o, ho⟩ := get_some (ops := ops) (j := j) (by omega)
      have hf := T.fact j o ho
      unfold FactAt at hf
      obtain ⟨_, _, _, hf⟩ := hf
      cases hc : cls o.op with
      | pu => rw [hc] at hf; rw [hf.2.2.2.2.1]; exact ih
      | rd => rw [hc] at hf; exact hf.2.2.2.2.1 r ih
      | fl => rw [hc] at hf; rw [hf.2.2.1]; exact ih
      | ef => rw [hc] at hf; rw [hf.2.2.2.1]; exact ih
theorem dRec_spec {i : Nat} {op : Op} {τ : F} {v : AV} {e : Nat} {w : W} : ∀ {l : List (Nat × W)}, dRec ops (.mk i op τ v) l = true → (e, w) ∈ l → allowed ops i e = true → recAt op τ v w = true
  | (e', w') :: l, h, hm, ha => by
    simp only [dRec] at h
    obtain ⟨h1, h2⟩ := bc_and.1 h
    rcases List.mem_cons.1 hm with x | x
    · cases x; exact bc_imp.1 h1 ha
    · exact dRec_spec h2 x ha
theorem dRecs_spec {r : RC} {h : List (Nat × W)} : ∀ {l : List RC}, dRecs ops l h = true → r ∈ l → dRec ops r h = true
  | r' :: l, hh, hm => by
    simp only [dRecs] at hh
    obtain ⟨h1, h2⟩ := bc_and.1 hh
    rcases List.mem_cons.1 hm with x | x
    · subst x; exact h1
    · exact dRecs_spec h2 x
theorem effs_iff {x : Nat} : x ∈ effs ops ↔ E ops x :=
  ⟨fun h => effsGo_lt ops.toList 0 rfl x h, fun ⟨o, ho, hc⟩ => effsGo_mem ops.toList 0 rfl x o (Nat.zero_le _) ho hc⟩
theorem next_eff (ops : Array Oper) : ∀ k e, k = ops.size - e → e ≤ ops.size → ∃ e', e ≤ e' ∧ e' ≤ ops.size ∧ (∀ x, e ≤ x → x < e' → ¬ E ops x) ∧ (e' = ops.size ∨ E ops e')
  | 0, e, hk, he => ⟨e, Nat.le_refl _, he, fun x a b => by omega, .inl (by omega)⟩
  | k + 1, e, hk, he => by
    by_cases h : E ops e
    · exact ⟨e, Nat.le_refl _, he, fun x a b => by omega, .inr h⟩
    · obtain ⟨e', h1, h2, h3, h4⟩ := next_eff ops k (e + 1) (by omega) (by omega)
      refine ⟨e', by omega, h2, fun x a b => ?_, h4⟩
      rcases Nat.eq_or_lt_of_le a with q | q
      · rw [← q]; exact h
      · exact h3 x (by omega) b
/-- a read gives its value in every phase in which it may be run -/
theorem Tr.read (T : Tr ih ops nt s val wt obj h0 nx0 nx1) {j e : Nat} {o : Oper} (ho : ops[j]? = some o) (hc : cls o.op = .rd) (hb : wt j = true) (he : e ≤ ops.size)
    (h1 : ∀ x, E ops x → isBef ops x j = true → x < e) (h2 : ∀ x, E ops x → x < e → isBef ops j x = false) : evOp o.op (s j).τ (s e).w = .val (val j) (s e).w := by
  have hj := (Array.getElem?_eq_some_iff.1 ho).1
  have hf := T.fact j o ho
  unfold FactAt at hf
  obtain ⟨_, _, _, hf⟩ := hf
  rw [hc] at hf
  obtain ⟨_, _, _, _, _, f1⟩ := hf
  obtain ⟨f2, f3⟩ := f1 hb
  cases hm : multi ops j with
  | false =>
    unfold multi at hm
    rw [bnot_eq, Bool.not_eq_false'] at hm
    rw [allL_iff] at hm
    have key : ∀ x, E ops x → (x < j → isBef ops x j = true) ∧ (j < x → isBef ops j x = true) := by
      intro x hx
      obtain ⟨q1, q2⟩ := bc_and.1 (hm x (effs_iff.2 hx))
      exact ⟨fun h => bc_imp.1 q1 (blt_of_lt h), fun h => bc_imp.1 q2 (blt_of_lt h)⟩
    have hsame : (s e).w = (s j).w := by
      rcases Nat.le_total e j with h | h
      · refine (T.w_const j h (by omega) fun x a b hx => ?_).symm
        have := h1 x hx ((key x hx).1 b)
        omega
      · refine T.w_const e h he fun x a b hx => ?_
        have hne : x ≠ j := by
          rintro rfl
          obtain ⟨o', ho', hc'⟩ := hx
          rw [ho] at ho'; cases ho'; rw [hc] at hc'; cases hc'
        have q := (key x hx).2 (by omega)
        have := h2 x hx b
        rw [q] at this; cases this
    rw [hsame]
    exact f2
  | true =>
    have hr := T.rec_mem ops.size (i := j + 1) (by omega) (Nat.le_refl _) (f3 hm)
    have hd := dRecs_spec T.recs hr
    obtain ⟨e', q1, q2, q3, q4⟩ := next_eff ops _ e rfl he
    have hw : (s e').w = (s e).w := T.w_const e' q1 q2 q3
    have hmem : (e', (s e').w) ∈ ((ops.size, (s ops.size).w) :: (s ops.size).hist) := by
      rcases q4 with q4 | q4
      · subst q4; simp
      · exact List.mem_cons_of_mem _ (T.hist q4 ops.size q4.size (Nat.le_refl _))
    have hall : allowed ops j e' = true := by
      unfold allowed
      rw [allL_iff]
      intro x hx
      have hx := effs_iff.1 hx
      refine bc_and.2 ⟨bc_imp.2 fun hbf => ?_, bc_imp.2 fun hlt => ?_⟩
      · have := h1 x hx hbf
        exact blt_of_lt (by omega)
      · have hlt := lt_of_blt hlt
        rcases Nat.lt_or_ge x e with h | h
        · rw [h2 x hx h]; rfl
        · exact absurd hx (q3 x h hlt)
    have := dRec_spec hd hmem hall
    unfold recAt at this
    split at this
    · rename_i v' a' hv
      have hv := fOp_val hv
      have hs := rd_same (a := (s e').w) hc (s j).τ
      rw [hv] at hs
      have hs : a' = (s e').w := hs
      rw [same2_eq _ _ this, ← hw, hv, hs]
    · cases this
end
end Go.Ev
