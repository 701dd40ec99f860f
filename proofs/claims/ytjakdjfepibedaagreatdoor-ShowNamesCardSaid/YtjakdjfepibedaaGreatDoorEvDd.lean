import Derived.Test.YtjakdjfepibedaaGreatDoorEvDc
set_option linter.all false
namespace Go.Ev
/- What a run of a region in the order of its text says, step by step. -/
def FactAt (pm : PM) (ih : Ih) (ops : Array Oper) (nt j : Nat) (o : Oper) (s s' : DS) (v : AV) (b : Bool) (ob : AObj) : Prop :=
  s'.τ = fput nt o.dst v s.τ ∧
  (match o.guard with | none => b = true | some g => wants g ops.toList s.τ = some b) ∧
  (b = false → v = undefA) ∧
  (match cls pm o.op with
   | .pu => s'.w = s.w ∧ s'.fk = s.fk ∧ s'.pend = s.pend ∧ s'.hist = s.hist ∧ s'.recs = s.recs ∧ s'.pv = s.pv ∧ (b = true → ∀ a, evOp o.op s.τ a = .val v a)
   | .rd => s'.w = s.w ∧ s'.fk = s.fk ∧ s'.pend = s.pend ∧ s'.hist = s.hist ∧ (∀ r ∈ s.recs, r ∈ s'.recs) ∧ s'.pv = s.pv ∧ (b = true → evOp o.op s.τ s.w = .val v s.w ∧ (multi pm ops j = true → .mk j o.op s.τ v ∈ s'.recs))
   | .fl => s'.w = s.w ∧ s'.hist = s.hist ∧ s'.recs = s.recs ∧ (b = false → s'.fk = s.fk ∧ s'.pend = s.pend ∧ s'.pv = s.pv) ∧
      (b = true → s'.fk = s.fk.succ ∧ (isP pm j = false → s'.pend = .mk j s.fk ob :: s.pend ∧ s'.pv = s.pv) ∧ (isP pm j = true → s'.pend = s.pend ∧ s'.pv = .mk s.fk [] ∧ ob = .map []) ∧
        s.fk.isMax = false ∧ ob ≠ .none ∧ ∀ h, evOp o.op s.τ (.mk h s.fk) = .val v (.mk (hset s.fk ob h) s.fk.succ))
   | .mu => s'.w = s.w ∧ s'.fk = s.fk ∧ s'.pend = s.pend ∧ s'.hist = s.hist ∧ s'.recs = s.recs ∧ b = true ∧ v = undefA ∧ ∃ t m x y k es, o.op = .insert t m x y ∧ s.pv = .mk k es ∧
      s'.pv = .mk k (es ++ [(evX x s.τ, evX y s.τ)]) ∧ plainKey t = true ∧ keyOk t (evX x s.τ) = true ∧ evX m s.τ = .map k
   | .ef => s'.fk = s.fk ∧ s'.pend = dRest (bmask ops j) s.pend ∧ s'.hist = (j, s.w) :: s.hist ∧ s'.recs = s.recs ∧ s'.pv = s.pv ∧ (b = false → s'.w = dAdopt (bmask ops j) s.pend s.w) ∧
      (b = true → evOp o.op s.τ (dAdopt (bmask ops j) s.pend s.w) = .val v s'.w ∨ (∃ f vs W1, evOp o.op s.τ (dAdopt (bmask ops j) s.pend s.w) = .call f vs W1 ∧ enter ih f vs W1 = .ret v s'.w) ∨
        ∃ f vs W1 ch W2, evOp o.op s.τ (dAdopt (bmask ops j) s.pend s.w) = .call f vs W1 ∧ enter ih f vs W1 = .pan ch W2))
section
variable {pm : PM} {ih : Ih} {ops : Array Oper} {nt fn : Nat}
theorem go_fact {j : Nat} {o : Oper} {s s' : DS} (h : dGo pm ih ops j o nt fn s = .ok s') (hg : match o.guard with | none => True | some g => wants g ops.toList s.τ = some true) : ∃ v ob, FactAt pm ih ops nt j o s s' v true ob := by
  obtain ⟨τ, w, fk, pend, hist, recs, pv⟩ := s
  have hg' : match o.guard with | none => true = true | some g => wants g ops.toList τ = some true := by
    cases ho : o.guard with
    | none => rfl
    | some g => rw [ho] at hg; exact hg
  unfold dGo at h
  unfold FactAt
  cases hc : cls pm o.op with
  | pu =>
    rw [hc] at h
    simp only [dPure] at h
    split at h <;> cases h
    rename_i v a' he
    exact ⟨v, .none, rfl, hg', (fun e => Bool.noConfusion e), rfl, rfl, rfl, rfl, rfl, rfl, fun _ a => pu_same (cls_pu hc) (fOp_val he) a⟩
  | rd =>
    rw [hc] at h
    simp only [dRead] at h
    split at h <;> cases h
    rename_i v a' he
    have he := fOp_val he
    have hs := rd_same (a := w) (cls_rd hc) τ
    rw [he] at hs
    have hs : a' = w := hs
    subst hs
    refine ⟨v, .none, rfl, hg', (fun e => Bool.noConfusion e), rfl, rfl, rfl, rfl, ?_, rfl, fun _ => ⟨he, ?_⟩⟩
    · intro r hr
      simp only [DS.recs, bc_eq] at hr ⊢
      split
      · exact List.mem_cons_of_mem _ hr
      · exact hr
    · intro hm
      simp only [DS.recs, DS.τ, bc_eq]
      rw [if_pos hm]
      simp
  | fl =>
    rw [hc] at h
    simp only [dFloat] at h
    split at h <;> try (cases h; done)
    rename_i v h' nx' he
    have he := fOp_val he
    rcases fl_float (cls_fl hc) τ with ⟨ob, g, hob, hf⟩ | hf
    · have hx := hf (.mk (hOf w) fk)
      rw [he] at hx
      have hx : OR.val v (.mk h' nx') = bc fk.isMax (.no 1) (.val (g fk) (.mk (hset fk ob (hOf w)) fk.succ)) := hx
      rw [bc_eq] at hx
      split at hx
      · cases hx
      rename_i hm
      have hm : fk.isMax = false := by simpa using hm
      injection hx with h1 h2
      injection h2 with h2 h3
      subst h1; subst h2; subst h3
      have last : ∀ hh : H4, evOp o.op τ (.mk hh fk) = .val (g fk) (.mk (hset fk ob hh) fk.succ) := by
        intro hh
        rw [hf]
        show bc fk.isMax (OR.no 1) (OR.val (g fk) (.mk (hset fk ob hh) fk.succ)) = _
        rw [hm]; rfl
      rw [bc_eq] at h
      split at h
      · rename_i hp
        rw [bc_eq] at h
        split at h
        · rename_i h0
          rw [hget_hset_same] at h0
          cases h
          have hob' : ob = .map [] := by
            unfold isMap0 at h0
            split at h0
            · rfl
            · cases h0
          exact ⟨g fk, ob, rfl, hg', (fun e => Bool.noConfusion e), rfl, rfl, rfl, (fun e => Bool.noConfusion e), fun _ => ⟨rfl, (fun e => by rw [hp] at e; cases e), fun _ => ⟨rfl, rfl, hob'⟩, hm, hob, last⟩⟩
        · cases h
      · rename_i hp
        cases h
        refine ⟨g fk, ob, rfl, hg', (fun e => Bool.noConfusion e), rfl, rfl, rfl, (fun e => Bool.noConfusion e), fun _ => ⟨rfl, fun _ => ⟨?_, rfl⟩, (fun e => absurd e hp), hm, hob, last⟩⟩
        simp only [DS.pend, DS.fk]; rw [hget_hset_same]
    · obtain ⟨c, hx⟩ := hf (.mk (hOf w) fk)
      rw [he] at hx; cases hx
  | mu =>
    rw [hc] at h
    cases pv with
    | none => cases h
    | mk k es =>
      simp only [dMu] at h
      split at h
      · rename_i t m x y hop hgd
        rw [bc_eq] at h
        split at h
        · rename_i hcc
          cases h
          simp only [Bool.and_eq_true] at hcc
          obtain ⟨⟨c1, c2⟩, c3⟩ := hcc
          refine ⟨undefA, .none, rfl, hg', (fun e => Bool.noConfusion e), rfl, rfl, rfl, rfl, rfl, rfl, rfl, t, m, x, y, k, es, hop, rfl, rfl, c1, c2, ?_⟩
          show evX m τ = .map k
          unfold isMapAt at c3
          split at c3
          · rename_i b hb; rw [hb, (K.beq_iff _ _).1 c3]
          · cases c3
        · cases h
      · cases h
  | ef =>
    rw [hc] at h
    simp only [dEff] at h
    split at h
    · rename_i v w' he
      cases h
      exact ⟨v, .none, rfl, hg', (fun e => Bool.noConfusion e), rfl, rfl, rfl, rfl, rfl, (fun e => Bool.noConfusion e), fun _ => .inl (fOp_val he)⟩
    · rename_i f vs w' he
      split at h
      · rename_i v w'' hen
        cases h
        exact ⟨v, .none, rfl, hg', (fun e => Bool.noConfusion e), rfl, rfl, rfl, rfl, rfl, (fun e => Bool.noConfusion e), fun _ => .inr (.inl ⟨f, vs, w', fOp_call he, hen⟩)⟩
      · cases h
      · rw [bc_eq] at h; split at h <;> cases h
    · cases h
    · cases h
theorem step_fact {j : Nat} {o : Oper} {s s' : DS} (h : dStep pm ih ops j o nt fn s = .ok s') : ∃ v b ob, FactAt pm ih ops nt j o s s' v b ob := by
  unfold dStep at h
  cases hg : o.guard with
  | none =>
    rw [hg] at h
    obtain ⟨v, ob, hf⟩ := go_fact h (by rw [hg]; trivial)
    exact ⟨v, true, ob, hf⟩
  | some g =>
    rw [hg] at h
    dsimp only at h
    split at h
    · rename_i hw
      obtain ⟨v, ob, hf⟩ := go_fact h (by rw [hg]; exact hw)
      exact ⟨v, true, ob, hf⟩
    · rename_i hw
      refine ⟨undefA, false, .none, ?_⟩
      obtain ⟨τ, w, fk, pend, hist, recs, pv⟩ := s
      unfold dSkip at h
      unfold FactAt
      rw [hg]
      cases hc : cls pm o.op <;> rw [hc] at h <;> cases h
      · exact ⟨rfl, hw, fun _ => rfl, rfl, rfl, rfl, rfl, rfl, rfl, (fun e => Bool.noConfusion e)⟩
      · exact ⟨rfl, hw, fun _ => rfl, rfl, rfl, rfl, rfl, fun r hr => hr, rfl, (fun e => Bool.noConfusion e)⟩
      · exact ⟨rfl, hw, fun _ => rfl, rfl, rfl, rfl, fun _ => ⟨rfl, rfl, rfl⟩, (fun e => Bool.noConfusion e)⟩
      · exact ⟨rfl, hw, fun _ => rfl, rfl, rfl, rfl, rfl, rfl, fun _ => rfl, (fun e => Bool.noConfusion e)⟩
    · cases h
theorem trace : ∀ (l : List Oper) (i : Nat) (s sN : DS), dOps pm ih ops nt fn l i s = .ok sN → ∃ f : Nat → DS, f i = s ∧ f (i + l.length) = sN ∧ ∀ k o, l[k]? = some o → dStep pm ih ops (i + k) o nt fn (f (i + k)) = .ok (f (i + k + 1))
  | [], i, s, sN, h => by
    cases h
    exact ⟨fun _ => s, rfl, rfl, fun k o hk => by simp at hk⟩
  | o :: l, i, s, sN, h => by
    simp only [dOps, dBind] at h
    split at h
    · rename_i s1 h1
      obtain ⟨f, f1, f2, f3⟩ := trace l (i + 1) s1 sN h
      refine ⟨fun j => if j ≤ i then s else f j, by simp, ?_, ?_⟩
      · simp only [List.length_cons]
        rw [if_neg (by omega), ← f2]
        congr 1
        omega
      · intro k o' hk
        cases k with
        | zero =>
          simp at hk
          subst hk
          dsimp only
          rw [if_pos (by omega), if_neg (by omega), Nat.add_zero, f1]
          exact h1
        | succ k =>
          simp only [List.getElem?_cons_succ] at hk
          have := f3 k o' hk
          dsimp only
          rw [if_neg (by omega), if_neg (by omega)]
          have e : i + (k + 1) = i + 1 + k := by omega
          rw [e]
          exact this
    · cases h
    · cases h
theorem wanted_go {j : Nat} {o : Oper} {s : DS} (hg : match o.guard with | none => True | some g => wants g ops.toList s.τ = some true) : dStep pm ih ops j o nt fn s = dGo pm ih ops j o nt fn s := by
  unfold dStep
  cases hgd : o.guard with
  | none => rfl
  | some g => rw [hgd] at hg; dsimp only at hg ⊢; rw [hg]
/-- a step that goes on is no panic -/
theorem ok_no_pan {j : Nat} {o : Oper} {s s' : DS} (h : dStep pm ih ops j o nt fn s = .ok s') (hc : cls pm o.op = .ef) (hg : match o.guard with | none => True | some g => wants g ops.toList s.τ = some true) {f : FuncId} {vs : List AV} {W1 W2 : W} {ch : List PE}
    (h1 : evOp o.op s.τ (dAdopt (bmask ops j) s.pend s.w) = .call f vs W1) (h2 : enter ih f vs W1 = .pan ch W2) : False := by
  rw [wanted_go hg] at h
  obtain ⟨τ, w, fk, pend, hist, recs, pv⟩ := s
  unfold dGo at h
  rw [hc] at h
  have h1 : evOp o.op τ (dAdopt (bmask ops j) pend w) = .call f vs W1 := h1
  simp only [dEff] at h
  rcases fOp_le o.op τ (dAdopt (bmask ops j) pend w) with ⟨c, e⟩ | e
  · rw [e] at h; cases h
  · rw [e, h1] at h
    dsimp only at h
    rw [h2] at h
    dsimp only at h
    rw [bc_eq] at h
    split at h <;> cases h
theorem step_pan {j p : Nat} {o : Oper} {s s' : DS} {ch : List PE} {w2 : W} (h : dStep pm ih ops j o nt fn s = .pan ch w2 p s') : p = j ∧ pm = .none ∧ FactAt pm ih ops nt j o s s' .top true .none ∧ cls pm o.op = .ef ∧
    ∃ f vs W1, evOp o.op s.τ (dAdopt (bmask ops j) s.pend s.w) = .call f vs W1 ∧ enter ih f vs W1 = .pan ch w2 := by
  have key : ∀ (hg : match o.guard with | none => True | some g => wants g ops.toList s.τ = some true), dGo pm ih ops j o nt fn s = .pan ch w2 p s' → p = j ∧ pm = .none ∧ FactAt pm ih ops nt j o s s' .top true .none ∧ cls pm o.op = .ef ∧
      ∃ f vs W1, evOp o.op s.τ (dAdopt (bmask ops j) s.pend s.w) = .call f vs W1 ∧ enter ih f vs W1 = .pan ch w2 := by
    intro hg h
    obtain ⟨τ, w, fk, pend, hist, recs, pv⟩ := s
    have hg' : match o.guard with | none => true = true | some g => wants g ops.toList τ = some true := by
      cases ho : o.guard with
      | none => rfl
      | some g => rw [ho] at hg; exact hg
    unfold dGo at h
    unfold FactAt
    cases hc : cls pm o.op with
    | pu => rw [hc] at h; simp only [dPure] at h; split at h <;> cases h
    | rd => rw [hc] at h; simp only [dRead] at h; split at h <;> cases h
    | fl =>
      rw [hc] at h; simp only [dFloat] at h; split at h <;> try (cases h; done)
      rw [bc_eq] at h; split at h <;> try (cases h; done)
      rw [bc_eq] at h; split at h <;> cases h
    | mu =>
      rw [hc] at h
      cases pv with
      | none => cases h
      | mk k es =>
        simp only [dMu] at h
        split at h
        · rw [bc_eq] at h; split at h <;> cases h
        · cases h
    | ef =>
      rw [hc] at h
      simp only [dEff] at h
      split at h
      · cases h
      · rename_i f vs w' he
        split at h
        · cases h
        · cases h
        · rename_i ch' w'' hen
          rw [bc_eq] at h
          split at h
          · rename_i hok
            injection h with h1 h2 h3 h4
            subst h1 h2 h3 h4
            have hpm : pm = .none := by cases pm <;> first | rfl | cases hok
            exact ⟨rfl, hpm, ⟨rfl, hg', (fun e => Bool.noConfusion e), rfl, rfl, rfl, rfl, rfl, (fun e => Bool.noConfusion e), fun _ => .inr (.inr ⟨f, vs, w', ch', w'', fOp_call he, hen⟩)⟩, rfl, f, vs, w', fOp_call he, hen⟩
          · cases h
      · cases h
      · cases h
  unfold dStep at h
  cases hg : o.guard with
  | none => rw [hg] at h; exact key (by rw [hg]; trivial) h
  | some g =>
    rw [hg] at h
    dsimp only at h
    split at h
    · rename_i hw; exact key (by rw [hg]; exact hw) h
    · obtain ⟨τ, w, fk, pend, hist, recs, pv⟩ := s
      unfold dSkip at h
      cases hc : cls pm o.op <;> rw [hc] at h <;> cases h
    · cases h
theorem trace_pan {ch : List PE} {w2 : W} {p : Nat} {sP : DS} : ∀ (l : List Oper) (i : Nat) (s : DS), dOps pm ih ops nt fn l i s = .pan ch w2 p sP →
    ∃ (f : Nat → DS) (k : Nat), f i = s ∧ p = i + k ∧ f (p + 1) = sP ∧ (∀ k' o, k' < k → l[k']? = some o → dStep pm ih ops (i + k') o nt fn (f (i + k')) = .ok (f (i + k' + 1))) ∧ ∃ o, l[k]? = some o ∧ dStep pm ih ops p o nt fn (f p) = .pan ch w2 p sP
  | [], _, _, h => by cases h
  | o :: l, i, s, h => by
    simp only [dOps, dBind] at h
    split at h
    · rename_i s1 h1
      obtain ⟨f, k, f1, f2, f3, f4, o', f5, f6⟩ := trace_pan l (i + 1) s1 h
      refine ⟨fun j => if j ≤ i then s else f j, k + 1, by simp, by omega, ?_, ?_, o', by simpa using f5, ?_⟩
      · dsimp only; rw [if_neg (by omega)]; exact f3
      · intro k' o'' hk hl
        cases k' with
        | zero =>
          simp at hl
          subst hl
          dsimp only
          rw [if_pos (by omega), if_neg (by omega), Nat.add_zero, f1]
          exact h1
        | succ k' =>
          simp only [List.getElem?_cons_succ] at hl
          have := f4 k' o'' (by omega) hl
          dsimp only
          rw [if_neg (by omega), if_neg (by omega)]
          have e : i + (k' + 1) = i + 1 + k' := by omega
          rw [e]
          exact this
      · dsimp only; rw [if_neg (by omega)]; exact f6
    · rename_i ch' w' p' s' h1
      injection h with e1 e2 e3 e4
      subst e1 e2 e3 e4
      have hp := (step_pan h1).1
      refine ⟨fun j => if j ≤ i then s else s', 0, by simp, by omega, ?_, fun k' o' hk => by omega, o, by simp, ?_⟩
      · dsimp only; rw [if_neg (by omega)]
      · dsimp only; rw [if_pos (by omega), hp]; rw [hp] at h1; exact h1
    · cases h
theorem fact_cut {opsT : Array Oper} {j : Nat} {o : Oper} {s s' : DS} {v : AV} {b : Bool} {ob : AObj} (h : FactAt pm ih ops nt j o s s' v b ob) (hb : bmask ops j = bmask opsT j) (hm : multi pm opsT j = true → multi pm ops j = true)
    (hw : ∀ g, o.guard = some g → wants g ops.toList s.τ = wants g opsT.toList s.τ) : FactAt pm ih opsT nt j o s s' v b ob := by
  unfold FactAt at h ⊢
  rw [← hb]
  obtain ⟨h1, h2, h3, h4⟩ := h
  refine ⟨h1, ?_, h3, ?_⟩
  · cases hg : o.guard with
    | none => rw [hg] at h2; exact h2
    | some g => rw [hg] at h2; dsimp only at h2 ⊢; rw [← hw g hg]; exact h2
  · cases hc : cls pm o.op with
    | rd =>
      rw [hc] at h4
      obtain ⟨q1, q2, q3, q4, q5, q6, q7⟩ := h4
      exact ⟨q1, q2, q3, q4, q5, q6, fun e => ⟨(q7 e).1, fun m => (q7 e).2 (hm m)⟩⟩
    | pu => rw [hc] at h4; exact h4
    | fl => rw [hc] at h4; exact h4
    | ef => rw [hc] at h4; exact h4
    | mu => rw [hc] at h4; exact h4
/-- a region's run -/
structure Tr (pm : PM) (ih : Ih) (ops : Array Oper) (nt : Nat) (s : Nat → DS) (val : Nat → AV) (wt : Nat → Bool) (obj : Nat → AObj) (h0 : H4) (nx0 nx1 : K) : Prop where
  fact : ∀ j o, ops[j]? = some o → FactAt pm ih ops nt j o (s j) (s (j + 1)) (val j) (wt j) (obj j)
  drawn : Drawn pm ops
  w0 : (s 0).w = .mk h0 nx1
  fk0 : (s 0).fk = nx0
  pend0 : (s 0).pend = []
  num : nx0.num + numFl pm ops.toList ≤ nx1.num
  pv0 : (s 0).pv = .none
  pmd : ∀ i d, pm = .mk i d → ∃ o, ops[i]? = some o ∧ o.dst = some d ∧ cls pm o.op = .fl
  apt : noP pm = false → pvOk (s ops.size).pv = true
  recs : dRecs pm ops (s ops.size).recs ((ops.size, (s ops.size).w) :: (s ops.size).hist) = true
/- the map's entries that are in it when just the operations of L have been run -/
noncomputable def kvOf (o : Oper) (τ : F) : AV × AV := match o.op with
  | .insert _ _ x y => (evX x τ, evX y τ)
  | _ => (.top, .top)
def isMu : CL → Bool
  | .mu => true
  | _ => false
def MU (pm : PM) (ops : Array Oper) (x : Nat) : Prop := ∃ o, ops[x]? = some o ∧ cls pm o.op = .mu
noncomputable def dnAt (pm : PM) (ops : Array Oper) (s : Nat → DS) (n : Nat) : List (AV × AV) := match ops[n]? with
  | some o => bif isMu (cls pm o.op) then [kvOf o (s n).τ] else []
  | none => []
noncomputable def dn (pm : PM) (ops : Array Oper) (s : Nat → DS) (L : Nat → Bool) : Nat → List (AV × AV)
  | 0 => []
  | n + 1 => bif L n then dn pm ops s L n ++ dnAt pm ops s n else dn pm ops s L n
variable {s : Nat → DS} {val : Nat → AV} {wt : Nat → Bool} {obj : Nat → AObj} {h0 : H4} {nx0 nx1 : K}
def E (pm : PM) (ops : Array Oper) (x : Nat) : Prop := ∃ o, ops[x]? = some o ∧ cls pm o.op = .ef
def FW (pm : PM) (ops : Array Oper) (wt : Nat → Bool) (x : Nat) : Prop := wt x = true ∧ ∃ o, ops[x]? = some o ∧ cls pm o.op = .fl
theorem E.size {x : Nat} (h : E pm ops x) : x < ops.size := by obtain ⟨o, h, _⟩ := h; exact (Array.getElem?_eq_some_iff.1 h).1
theorem get_some {j : Nat} (h : j < ops.size) : ∃ o, ops[j]? = some o := ⟨_, Array.getElem?_eq_getElem h⟩
theorem Tr.w_step (T : Tr pm ih ops nt s val wt obj h0 nx0 nx1) {j : Nat} (hj : j < ops.size) (hn : ¬ E pm ops j) : (s (j + 1)).w = (s j).w := by
  obtain ⟨o, ho⟩ := get_some hj
  have := T.fact j o ho
  unfold FactAt at this
  obtain ⟨_, _, _, h⟩ := this
  cases hc : cls pm o.op with
  | ef => exact absurd ⟨o, ho, hc⟩ hn
  | pu => rw [hc] at h; exact h.1
  | rd => rw [hc] at h; exact h.1
  | fl => rw [hc] at h; exact h.1
  | mu => rw [hc] at h; exact h.1
theorem Tr.w_const (T : Tr pm ih ops nt s val wt obj h0 nx0 nx1) {e : Nat} : ∀ j, e ≤ j → j ≤ ops.size → (∀ x, e ≤ x → x < j → ¬ E pm ops x) → (s j).w = (s e).w
  | 0, h, _, _ => by have : e = 0 := by omega
                     rw [this]
  | j + 1, h, hn, hx => by
    rcases Nat.lt_or_ge j e with h1 | h1
    · have : e = j + 1 := by omega
      rw [this]
    · rw [T.w_step (by omega) (hx j h1 (by omega)), T.w_const j h1 (by omega) fun x a b => hx x a (by omega)]
theorem rest_mem {m : Nat} {p : PF} : ∀ {l : List PF}, p ∈ dRest m l → p ∈ l ∧ tb m p.i = false
  | .mk i k o :: l, h => by
    simp only [dRest, bc_eq] at h
    split at h
    · have := rest_mem h; exact ⟨List.mem_cons_of_mem _ this.1, this.2⟩
    · rename_i hb
      rcases List.mem_cons.1 h with e | e
      · subst e; exact ⟨by simp, Bool.eq_false_iff.2 hb⟩
      · have := rest_mem e; exact ⟨List.mem_cons_of_mem _ this.1, this.2⟩
theorem rest_pair {m : Nat} {R : PF → PF → Prop} : ∀ {l : List PF}, l.Pairwise R → (dRest m l).Pairwise R
  | [], _ => List.Pairwise.nil
  | .mk i k o :: l, h => by
    obtain ⟨h1, h2⟩ := List.pairwise_cons.1 h
    simp only [dRest, bc_eq]
    split
    · exact rest_pair h2
    · exact List.pairwise_cons.2 ⟨fun p hp => h1 p (rest_mem hp).1, rest_pair h2⟩
theorem Tr.pend (T : Tr pm ih ops nt s val wt obj h0 nx0 nx1) : ∀ j, j ≤ ops.size →
    (∀ p ∈ (s j).pend, p.i < j ∧ FW pm ops wt p.i ∧ (∀ x, x < j → E pm ops x → isBef ops p.i x = false) ∧ p.k = (s p.i).fk ∧ p.o = obj p.i ∧ isP pm p.i = false) ∧ (s j).pend.Pairwise (fun p q => q.i < p.i)
  | 0, _ => by rw [T.pend0]; exact ⟨fun p hp => (by cases hp), List.Pairwise.nil⟩
  | j + 1, hj => by
    obtain ⟨h1, h2⟩ := T.pend j (by omega)
    obtain ⟨o, ho⟩ := get_some (ops := ops) (j := j) (by omega)
    have hf := T.fact j o ho
    unfold FactAt at hf
    obtain ⟨_, _, _, hf⟩ := hf
    have keep : ¬ E pm ops j → (s (j + 1)).pend = (s j).pend → (∀ p ∈ (s (j + 1)).pend, p.i < j + 1 ∧ FW pm ops wt p.i ∧ (∀ x, x < j + 1 → E pm ops x → isBef ops p.i x = false) ∧ p.k = (s p.i).fk ∧ p.o = obj p.i ∧ isP pm p.i = false) ∧ (s (j + 1)).pend.Pairwise (fun p q => q.i < p.i) := by
      intro hE he
      rw [he]
      refine ⟨fun p hp => ?_, h2⟩
      obtain ⟨q1, q2, q3, q4⟩ := h1 p hp
      refine ⟨by omega, q2, fun x hx hEx => ?_, q4⟩
      rcases Nat.lt_or_ge x j with h | h
      · exact q3 x h hEx
      · have : x = j := by omega
        subst this; exact absurd hEx hE
    have notE : cls pm o.op ≠ .ef → ¬ E pm ops j := by rintro hne ⟨o', ho', hc'⟩; rw [ho] at ho'; cases ho'; exact hne hc'
    cases hc : cls pm o.op with
    | pu => rw [hc] at hf; exact keep (notE (by rw [hc]; simp)) hf.2.2.1
    | rd => rw [hc] at hf; exact keep (notE (by rw [hc]; simp)) hf.2.2.1
    | mu => rw [hc] at hf; exact keep (notE (by rw [hc]; simp)) hf.2.2.1
    | fl =>
      rw [hc] at hf
      obtain ⟨_, _, _, f1, f2⟩ := hf
      cases hb : wt j with
      | false => exact keep (notE (by rw [hc]; simp)) (f1 hb).2.1
      | true =>
        cases hpj : isP pm j with
        | true => exact keep (notE (by rw [hc]; simp)) ((f2 hb).2.2.1 hpj).1
        | false =>
        obtain ⟨_, f3, _⟩ := f2 hb
        rw [(f3 hpj).1]
        refine ⟨fun p hp => ?_, List.pairwise_cons.2 ⟨fun p hp => (h1 p hp).1, h2⟩⟩
        rcases List.mem_cons.1 hp with e | e
        · subst e
          refine ⟨by simp [PF.i], ⟨hb, o, ho, hc⟩, fun x hx hEx => ?_, rfl, rfl, hpj⟩
          show isBef ops j x = false
          cases hbf : isBef ops j x with
          | false => rfl
          | true =>
            exfalso
            rcases Nat.lt_or_ge x j with h | h
            · have hcl : Closed ops (fun i => decide (i ≤ x)) := by
                intro y oy hy hL e he hb
                have := T.drawn.edge y oy hy e he hb
                have hL := of_decide_eq_true hL
                exact decide_eq_true (by omega)
              have := isBef_closed hcl hbf (decide_eq_true (Nat.le_refl x))
              have := of_decide_eq_true this
              omega
            · have : x = j := by omega
              subst this
              exact notE (by rw [hc]; simp) hEx
        · obtain ⟨q1, q2, q3, q4⟩ := h1 p e
          refine ⟨by omega, q2, fun x hx hEx => ?_, q4⟩
          rcases Nat.lt_or_ge x j with h | h
          · exact q3 x h hEx
          · have : x = j := by omega
            subst this; exact absurd hEx (notE (by rw [hc]; simp))
    | ef =>
      rw [hc] at hf
      obtain ⟨_, f1, _⟩ := hf
      rw [f1]
      refine ⟨fun p hp => ?_, rest_pair h2⟩
      obtain ⟨m1, m2⟩ := rest_mem hp
      obtain ⟨q1, q2, q3, q4⟩ := h1 p m1
      refine ⟨by omega, q2, fun x hx hEx => ?_, q4⟩
      rcases Nat.lt_or_ge x j with h | h
      · exact q3 x h hEx
      · have : x = j := by omega
        subst this; exact m2
theorem blankGo_get (B p : Nat) : ∀ (l : List Oper) (j i : Nat), (blankGo B p l j)[i]? = (l[i]?).map fun o => bif tb (fld B (j + i)) p then dummy else o
  | [], _, _ => by simp [blankGo]
  | o :: l, j, 0 => by simp only [blankGo, List.getElem?_cons_zero, Option.map_some, Nat.add_zero, bc_eq]; cases tb (fld B j) p <;> rfl
  | o :: l, j, i + 1 => by
    simp only [blankGo, List.getElem?_cons_succ]
    rw [blankGo_get B p l (Nat.succ j) i, show Nat.succ j + i = j + (i + 1) by omega]
theorem blankGo_len (B p : Nat) : ∀ (l : List Oper) (j : Nat), (blankGo B p l j).length = l.length
  | [], _ => rfl
  | o :: l, j => by simp [blankGo, blankGo_len B p l]
theorem blank_get (ops : Array Oper) (p j : Nat) : (blank ops p)[j]? = (ops[j]?).map fun o => bif isBef ops p j then dummy else o := by
  unfold blank
  rw [List.getElem?_toArray, blankGo_get, Nat.zero_add]
  simp only [Array.getElem?_toList]
  rfl
theorem blank_size (ops : Array Oper) (p : Nat) : (blank ops p).size = ops.size := by
  unfold blank
  simp [blankGo_len]
theorem blank_fl (B p : Nat) : ∀ (l : List Oper) (j : Nat), numFl .none (blankGo B p l j) ≤ numFl .none l
  | [], _ => Nat.le_refl _
  | o :: l, j => by
    have ih := blank_fl B p l (Nat.succ j)
    simp only [blankGo, numFl, bc_eq]
    cases tb (fld B j) p with
    | true =>
      simp only [if_true]
      have : isFl (cls .none dummy.op) = false := rfl
      rw [this]
      simp only [Bool.false_eq_true, if_false]
      split <;> omega
    | false =>
      simp only [Bool.false_eq_true, if_false]
      split <;> omega
theorem isP_eq {i : Nat} (h : isP pm i = true) : ∃ d, pm = .mk i d := by
  cases pm with
  | none => cases h
  | mk i' d => have h : Nat.beq i' i = true := h; rw [Nat.eq_of_beq_eq_true h]; exact ⟨d, rfl⟩
theorem isP_one {i i' : Nat} (h : isP pm i = true) (h' : isP pm i' = true) : i = i' := by
  obtain ⟨d, rfl⟩ := isP_eq h
  exact Nat.eq_of_beq_eq_true h'
theorem dnAt_not {x : Nat} (h : ¬ MU pm ops x) : dnAt pm ops s x = [] := by
  unfold dnAt
  split
  · rename_i o ho
    cases hm : isMu (cls pm o.op) with
    | false => rfl
    | true =>
      exfalso
      refine h ⟨o, ho, ?_⟩
      cases hc : cls pm o.op <;> rw [hc] at hm <;> first | rfl | cases hm
  · rfl
theorem dnAt_mu {x : Nat} {o : Oper} (ho : ops[x]? = some o) (h : cls pm o.op = .mu) : dnAt pm ops s x = [kvOf o (s x).τ] := by
  unfold dnAt; rw [ho]; dsimp only; rw [h]; rfl
theorem dn_congr {L L' : Nat → Bool} : ∀ n, (∀ i, i < n → L i = L' i) → dn pm ops s L n = dn pm ops s L' n
  | 0, _ => rfl
  | n + 1, h => by simp only [dn, dn_congr n fun i hi => h i (by omega), h n (by omega)]
theorem dn_keep {L : Nat → Bool} {j : Nat} (h : ¬ MU pm ops j) : ∀ n, dn pm ops s (upL L j) n = dn pm ops s L n
  | 0 => rfl
  | n + 1 => by
    simp only [dn, dn_keep h n]
    by_cases e : n = j
    · subst e; rw [dnAt_not h]; simp
    · rw [upL_ne L e]
theorem dn_up {L : Nat → Bool} {j : Nat} (hL : L j = false) : ∀ n, j < n → (dn pm ops s (upL L j) n).Perm (dn pm ops s L n ++ dnAt pm ops s j)
  | n + 1, hj => by
    simp only [dn]
    by_cases e : n = j
    · subst e
      rw [upL_same, hL, dn_congr (L' := L) n fun i hi => upL_ne L (by omega)]
      exact List.Perm.refl _
    · have ih := dn_up hL n (by omega)
      rw [upL_ne L e]
      cases L n with
      | false => exact ih
      | true =>
        simp only [cond_true]
        refine (ih.append_right _).trans ?_
        rw [List.append_assoc, List.append_assoc]
        exact List.Perm.append_left _ List.perm_append_comm
theorem dn_mem {L : Nat → Bool} {e : AV × AV} : ∀ n, e ∈ dn pm ops s L n → ∃ i, i < n ∧ L i = true ∧ e ∈ dnAt pm ops s i
  | n + 1, h => by
    simp only [dn] at h
    cases hl : L n with
    | false =>
      rw [hl] at h
      obtain ⟨i, h1, h2⟩ := dn_mem n h
      exact ⟨i, by omega, h2⟩
    | true =>
      rw [hl] at h
      rcases List.mem_append.1 h with h | h
      · obtain ⟨i, h1, h2⟩ := dn_mem n h
        exact ⟨i, by omega, h2⟩
      · exact ⟨n, by omega, hl, h⟩
theorem dn_more {L : Nat → Bool} {j : Nat} : ∀ n, j ≤ n → ∃ r, dn pm ops s L n = dn pm ops s L j ++ r
  | 0, h => ⟨[], by have : j = 0 := by omega
                    subst this; simp⟩
  | n + 1, h => by
    rcases Nat.lt_or_ge n j with q | q
    · have : j = n + 1 := by omega
      subst this; exact ⟨[], by simp⟩
    · obtain ⟨r, hr⟩ := dn_more (L := L) n q
      simp only [dn]
      cases L n with
      | false => exact ⟨r, hr⟩
      | true => exact ⟨r ++ dnAt pm ops s n, by simp only [cond_true, hr, List.append_assoc]⟩
theorem mem_mu {x : Nat} {e : AV × AV} (h : e ∈ dnAt pm ops s x) : MU pm ops x := Classical.byContradiction fun hn => by rw [dnAt_not hn] at h; cases h
theorem Tr.pv (T : Tr pm ih ops nt s val wt obj h0 nx0 nx1) : ∀ j, j ≤ ops.size → ((s j).pv = .none ∧ ∀ x, x < j → ¬ MU pm ops x) ∨
    ∃ i, isP pm i = true ∧ i < j ∧ FW pm ops wt i ∧ (s j).pv = .mk (s i).fk (dn pm ops s (fun _ => true) j)
  | 0, _ => .inl ⟨T.pv0, fun x h => by omega⟩
  | j + 1, hj => by
    have ih := T.pv j (by omega)
    obtain ⟨o, ho⟩ := get_some (ops := ops) (j := j) (by omega)
    have hf := T.fact j o ho
    unfold FactAt at hf
    obtain ⟨_, _, _, hf⟩ := hf
    have keep : cls pm o.op ≠ .mu → (s (j + 1)).pv = (s j).pv → ((s (j + 1)).pv = .none ∧ ∀ x, x < j + 1 → ¬ MU pm ops x) ∨
        ∃ i, isP pm i = true ∧ i < j + 1 ∧ FW pm ops wt i ∧ (s (j + 1)).pv = .mk (s i).fk (dn pm ops s (fun _ => true) (j + 1)) := by
      intro hne he
      have hM : ¬ MU pm ops j := by rintro ⟨o', ho', hc'⟩; rw [ho] at ho'; cases ho'; exact hne hc'
      rw [he]
      rcases ih with ⟨h1, h2⟩ | ⟨i, h1, h2, h3, h4⟩
      · refine .inl ⟨h1, fun x hx => ?_⟩
        rcases Nat.lt_or_ge x j with h | h
        · exact h2 x h
        · have : x = j := by omega
          subst this; exact hM
      · refine .inr ⟨i, h1, by omega, h3, ?_⟩
        rw [h4]
        simp only [dn, cond_true, dnAt_not hM, List.append_nil]
    cases hc : cls pm o.op with
    | pu => rw [hc] at hf; exact keep (by rw [hc]; simp) hf.2.2.2.2.2.1
    | rd => rw [hc] at hf; exact keep (by rw [hc]; simp) hf.2.2.2.2.2.1
    | ef => rw [hc] at hf; exact keep (by rw [hc]; simp) hf.2.2.2.2.1
    | fl =>
      rw [hc] at hf
      obtain ⟨_, _, _, f1, f2⟩ := hf
      cases hb : wt j with
      | false => exact keep (by rw [hc]; simp) (f1 hb).2.2
      | true =>
        cases hp : isP pm j with
        | false => exact keep (by rw [hc]; simp) ((f2 hb).2.1 hp).2
        | true =>
          have hM : ¬ MU pm ops j := by rintro ⟨o', ho', hc'⟩; rw [ho] at ho'; cases ho'; rw [hc] at hc'; cases hc'
          rcases ih with ⟨h1, h2⟩ | ⟨i, h1, h2, h3, h4⟩
          · refine .inr ⟨j, hp, by omega, ⟨hb, o, ho, hc⟩, ?_⟩
            rw [((f2 hb).2.2.1 hp).2.1]
            have : dn pm ops s (fun _ => true) (j + 1) = [] := by
              rw [List.eq_nil_iff_forall_not_mem]
              intro e he
              obtain ⟨i, q1, _, q3⟩ := dn_mem _ he
              rcases Nat.lt_or_ge i j with h | h
              · exact h2 i h (mem_mu q3)
              · have : i = j := by omega
                subst this; exact hM (mem_mu q3)
            rw [this]
          · have := isP_one h1 hp
            omega
    | mu =>
      rw [hc] at hf
      obtain ⟨_, _, _, _, _, _, _, t, m, x, y, k, es, hop, hp1, hp2, _⟩ := hf
      rcases ih with ⟨h1, h2⟩ | ⟨i, h1, h2, h3, h4⟩
      · rw [h1] at hp1; cases hp1
      · refine .inr ⟨i, h1, by omega, h3, ?_⟩
        rw [h4] at hp1
        injection hp1 with e1 e2
        rw [hp2, ← e1, ← e2]
        simp only [dn, cond_true, dnAt_mu ho hc]
        unfold kvOf
        rw [hop]
theorem Tr.mu_done (T : Tr pm ih ops nt s val wt obj h0 nx0 nx1) {L : Nat → Bool} (hc : Closed ops L) {i j : Nat} (hp : isP pm i = true) (hM : MU pm ops j) (hL : L j = true) : L i = true := by
  obtain ⟨o, ho, hm⟩ := hM
  have hj := (Array.getElem?_eq_some_iff.1 ho).1
  have hf := T.fact j o ho
  unfold FactAt at hf
  obtain ⟨_, _, _, hf⟩ := hf
  rw [hm] at hf
  obtain ⟨_, _, _, _, _, _, _, _, _, _, _, k, es, _, hp1, _, _⟩ := hf
  rcases T.pv j (by omega) with ⟨q, _⟩ | ⟨i', h1, h2, h3, h4⟩
  · rw [q] at hp1; cases hp1
  · have := isP_one hp h1
    subst this
    obtain ⟨i2, t, d, x, y, e1, e2⟩ := cls_mu hm
    obtain ⟨d', e3⟩ := isP_eq hp
    rw [e1] at e3
    injection e3 with e3 e4
    subst e3 e4
    obtain ⟨oi, q1, q2, q3⟩ := T.pmd _ _ e1
    have hbf := (T.drawn.tmp i2 j oi o d (by omega) q1 ho q2 (by
      unfold looksA
      refine List.mem_append_left _ (tmpsOf_mem ?_)
      rw [e2]; simp [Op.operands])).1 h2
    exact isBef_closed hc hbf hL
theorem Tr.dn_nil (T : Tr pm ih ops nt s val wt obj h0 nx0 nx1) {L : Nat → Bool} (hc : Closed ops L) {i : Nat} (hp : isP pm i = true) (hL : L i = false) (n : Nat) : dn pm ops s L n = [] := by
  rw [List.eq_nil_iff_forall_not_mem]
  intro e he
  obtain ⟨x, _, q2, q3⟩ := dn_mem _ he
  have := T.mu_done hc hp (mem_mu q3) q2
  rw [hL] at this; cases this
theorem apart_eq {a b : AV} (h : apart a b = true) : keyEq a b = some false ∧ keyEq b a = some false := by
  unfold apart at h
  split at h
  · rename_i h1 h2; exact ⟨h1, h2⟩
  · cases h
theorem apartAll_mem {a : AV} : ∀ {l : List (AV × AV)}, apartAll a l = true → ∀ e ∈ l, apart a e.1 = true
  | x :: l, h, e, he => by
    simp only [apartAll] at h
    obtain ⟨h1, h2⟩ := bc_and.1 h
    rcases List.mem_cons.1 he with q | q
    · subst q; exact h1
    · exact apartAll_mem h2 e q
theorem pairB_pair : ∀ {l : List (AV × AV)}, pairB l = true → l.Pairwise (fun e f => apart e.1 f.1 = true)
  | [], _ => List.Pairwise.nil
  | x :: l, h => by
    simp only [pairB] at h
    obtain ⟨h1, h2⟩ := bc_and.1 h
    exact List.pairwise_cons.2 ⟨fun e he => apartAll_mem h1 e he, pairB_pair h2⟩
theorem Tr.far (T : Tr pm ih ops nt s val wt obj h0 nx0 nx1) {i : Nat} (hp : isP pm i = true) (hi : FW pm ops wt i) {x y : Nat} (hlt : x < y) (hy : y < ops.size) {e f : AV × AV} (he : e ∈ dnAt pm ops s x) (hf : f ∈ dnAt pm ops s y) : apart e.1 f.1 = true := by
  have hpv : pvOk (s ops.size).pv = true := T.apt (by obtain ⟨d, rfl⟩ := isP_eq hp; rfl)
  rcases T.pv ops.size (Nat.le_refl _) with ⟨_, q⟩ | ⟨i', _, _, _, h4⟩
  · exact absurd (mem_mu hf) (q y hy)
  · rw [h4] at hpv
    have hpw := pairB_pair (show pairB _ = true from hpv)
    obtain ⟨r, hr⟩ := dn_more (pm := pm) (ops := ops) (s := s) (L := fun _ => true) (j := y + 1) ops.size (by omega)
    rw [hr] at hpw
    have h1 := (List.pairwise_append.1 hpw).1
    simp only [dn, cond_true] at h1
    refine (List.pairwise_append.1 h1).2.2 e ?_ f hf
    obtain ⟨r', hr'⟩ := dn_more (pm := pm) (ops := ops) (s := s) (L := fun _ => true) (j := x + 1) y (by omega)
    rw [hr']
    simp only [dn, cond_true]
    exact List.mem_append_left _ (List.mem_append_right _ he)
theorem Tr.fk_step (T : Tr pm ih ops nt s val wt obj h0 nx0 nx1) {j : Nat} {o : Oper} (ho : ops[j]? = some o) : (s (j + 1)).fk = (s j).fk ∨ (cls pm o.op = .fl ∧ (s (j + 1)).fk.num = (s j).fk.num + 1) := by
  have hf := T.fact j o ho
  unfold FactAt at hf
  obtain ⟨_, _, _, hf⟩ := hf
  cases hc : cls pm o.op with
  | pu => rw [hc] at hf; exact .inl hf.2.1
  | rd => rw [hc] at hf; exact .inl hf.2.1
  | ef => rw [hc] at hf; exact .inl hf.1
  | mu => rw [hc] at hf; exact .inl hf.2.1
  | fl =>
    rw [hc] at hf
    obtain ⟨_, _, _, f1, f2⟩ := hf
    cases hb : wt j with
    | false => exact .inl (f1 hb).1
    | true => obtain ⟨f3, _, _, f4, _⟩ := f2 hb; rw [f3, K.succ_num f4]; exact .inr ⟨rfl, rfl⟩
theorem Tr.fk_fw (T : Tr pm ih ops nt s val wt obj h0 nx0 nx1) {j : Nat} (h : FW pm ops wt j) : (s (j + 1)).fk.num = (s j).fk.num + 1 := by
  obtain ⟨hb, o, ho, hc⟩ := h
  have hf := T.fact j o ho
  unfold FactAt at hf
  obtain ⟨_, _, _, hf⟩ := hf
  rw [hc] at hf
  obtain ⟨_, _, _, _, f2⟩ := hf
  obtain ⟨f3, _, _, f4, _⟩ := f2 hb
  rw [f3, K.succ_num f4]
theorem Tr.fk_mono (T : Tr pm ih ops nt s val wt obj h0 nx0 nx1) {i : Nat} : ∀ j, i ≤ j → j ≤ ops.size → (s i).fk.num ≤ (s j).fk.num
  | 0, h, _ => by have : i = 0 := by omega
                  rw [this]; exact Nat.le_refl _
  | j + 1, h, hj => by
    rcases Nat.lt_or_ge j i with h1 | h1
    · have : i = j + 1 := by omega
      rw [this]; exact Nat.le_refl _
    · have ih := T.fk_mono j h1 (by omega)
      obtain ⟨o, ho⟩ := get_some (ops := ops) (j := j) (by omega)
      rcases T.fk_step ho with e | ⟨_, e⟩
      · rw [e]; exact ih
      · omega
theorem Tr.fk_bound (T : Tr pm ih ops nt s val wt obj h0 nx0 nx1) : ∀ j, j ≤ ops.size → (s j).fk.num + numFl pm (ops.toList.drop j) ≤ nx1.num
  | 0, _ => by rw [T.fk0]; simpa using T.num
  | j + 1, hj => by
    have ih := T.fk_bound j (by omega)
    obtain ⟨o, ho⟩ := get_some (ops := ops) (j := j) (by omega)
    have hd : ops.toList.drop j = o :: ops.toList.drop (j + 1) := by
      rw [List.drop_eq_getElem_cons (by simpa using (Array.getElem?_eq_some_iff.1 ho).1)]
      congr 1
      have := (Array.getElem?_eq_some_iff.1 ho).2
      simpa using this
    rw [hd] at ih
    simp only [numFl, bc_eq] at ih
    rcases T.fk_step ho with e | ⟨e1, e⟩
    · rw [e]
      split at ih <;> omega
    · rw [if_pos (by rw [e1]; rfl)] at ih
      omega
theorem Tr.key_lt (T : Tr pm ih ops nt s val wt obj h0 nx0 nx1) {j : Nat} (h : FW pm ops wt j) : nx0.num ≤ (s j).fk.num ∧ (s j).fk.num < nx1.num := by
  obtain ⟨o, ho, hc⟩ := h.2
  have hj := (Array.getElem?_eq_some_iff.1 ho).1
  have h1 := T.fk_mono (i := 0) j (by omega) (by omega)
  rw [T.fk0] at h1
  have h2 := T.fk_bound (j + 1) (by omega)
  have h3 := T.fk_fw h
  omega
theorem Tr.key_inj (T : Tr pm ih ops nt s val wt obj h0 nx0 nx1) {i j : Nat} (hi : FW pm ops wt i) (hj : FW pm ops wt j) (h : (s i).fk = (s j).fk) : i = j := by
  have lt : ∀ {i j}, FW pm ops wt i → FW pm ops wt j → i < j → (s i).fk ≠ (s j).fk := by
    intro i j hi hj hlt e
    obtain ⟨o, ho, _⟩ := hj.2
    have hj' := (Array.getElem?_eq_some_iff.1 ho).1
    have h1 := T.fk_mono (i := i + 1) j (by omega) (by omega)
    have h2 := T.fk_fw hi
    rw [e] at h2
    omega
  rcases Nat.lt_trichotomy i j with h1 | h1 | h1
  · exact absurd h (lt hi hj h1)
  · exact h1
  · exact absurd h.symm (lt hj hi h1)
theorem Tr.hist (T : Tr pm ih ops nt s val wt obj h0 nx0 nx1) {x : Nat} (hx : E pm ops x) : ∀ j, x < j → j ≤ ops.size → (x, (s x).w) ∈ (s j).hist
  | j + 1, h, hj => by
    obtain ⟨o, ho⟩ := get_some (ops := ops) (j := j) (by omega)
    have hf := T.fact j o ho
    unfold FactAt at hf
    obtain ⟨_, _, _, hf⟩ := hf
    rcases Nat.lt_or_ge x j with h1 | h1
    · have ih := T.hist hx j h1 (by omega)
      cases hc : cls pm o.op with
      | pu => rw [hc] at hf; rw [hf.2.2.2.1]; exact ih
      | rd => rw [hc] at hf; rw [hf.2.2.2.1]; exact ih
      | mu => rw [hc] at hf; rw [hf.2.2.2.1]; exact ih
      | fl => rw [hc] at hf; rw [hf.2.1]; exact ih
      | ef => rw [hc] at hf; rw [hf.2.2.1]; exact List.mem_cons_of_mem _ ih
    · have : x = j := by omega
      subst this
      obtain ⟨o', ho', hc⟩ := hx
      rw [ho] at ho'; cases ho'
      rw [hc] at hf
      rw [hf.2.2.1]
      simp
theorem Tr.rec_mem (T : Tr pm ih ops nt s val wt obj h0 nx0 nx1) {r : RC} {i : Nat} : ∀ j, i ≤ j → j ≤ ops.size → r ∈ (s i).recs → r ∈ (s j).recs
  | 0, h, _, hr => by have : i = 0 := by omega
                      rw [← this]; exact hr
  | j + 1, h, hj, hr => by
    rcases Nat.lt_or_ge j i with h1 | h1
    · have : i = j + 1 := by omega
      rw [← this]; exact hr
    · have ih := T.rec_mem j h1 (by omega) hr
      obtain ⟨o, ho⟩ := get_some (ops := ops) (j := j) (by omega)
      have hf := T.fact j o ho
      unfold FactAt at hf
      obtain ⟨_, _, _, hf⟩ := hf
      cases hc : cls pm o.op with
      | pu => rw [hc] at hf; rw [hf.2.2.2.2.1]; exact ih
      | rd => rw [hc] at hf; exact hf.2.2.2.2.1 r ih
      | mu => rw [hc] at hf; rw [hf.2.2.2.2.1]; exact ih
      | fl => rw [hc] at hf; rw [hf.2.2.1]; exact ih
      | ef => rw [hc] at hf; rw [hf.2.2.2.1]; exact ih
theorem dRec_spec {i : Nat} {op : Op} {τ : F} {v : AV} {e : Nat} {w : W} : ∀ {l : List (Nat × W)}, dRec pm ops (.mk i op τ v) l = true → (e, w) ∈ l → allowed pm ops i e = true → recAt op τ v w = true
  | (e', w') :: l, h, hm, ha => by
    simp only [dRec] at h
    obtain ⟨h1, h2⟩ := bc_and.1 h
    rcases List.mem_cons.1 hm with x | x
    · cases x; exact bc_imp.1 h1 ha
    · exact dRec_spec h2 x ha
theorem dRecs_spec {r : RC} {h : List (Nat × W)} : ∀ {l : List RC}, dRecs pm ops l h = true → r ∈ l → dRec pm ops r h = true
  | r' :: l, hh, hm => by
    simp only [dRecs] at hh
    obtain ⟨h1, h2⟩ := bc_and.1 hh
    rcases List.mem_cons.1 hm with x | x
    · subst x; exact h1
    · exact dRecs_spec h2 x
theorem effs_iff {x : Nat} : x ∈ effs pm ops ↔ E pm ops x :=
  ⟨fun h => effsGo_lt ops.toList 0 rfl x h, fun ⟨o, ho, hc⟩ => effsGo_mem ops.toList 0 rfl x o (Nat.zero_le _) ho hc⟩
theorem next_eff (ops : Array Oper) : ∀ k e, k = ops.size - e → e ≤ ops.size → ∃ e', e ≤ e' ∧ e' ≤ ops.size ∧ (∀ x, e ≤ x → x < e' → ¬ E pm ops x) ∧ (e' = ops.size ∨ E pm ops e')
  | 0, e, hk, he => ⟨e, Nat.le_refl _, he, fun x a b => by omega, .inl (by omega)⟩
  | k + 1, e, hk, he => by
    by_cases h : E pm ops e
    · exact ⟨e, Nat.le_refl _, he, fun x a b => by omega, .inr h⟩
    · obtain ⟨e', h1, h2, h3, h4⟩ := next_eff ops k (e + 1) (by omega) (by omega)
      refine ⟨e', by omega, h2, fun x a b => ?_, h4⟩
      rcases Nat.eq_or_lt_of_le a with q | q
      · rw [← q]; exact h
      · exact h3 x (by omega) b
/-- a read gives its value in every phase in which it may be run -/
theorem Tr.read (T : Tr pm ih ops nt s val wt obj h0 nx0 nx1) {j e : Nat} {o : Oper} (ho : ops[j]? = some o) (hc : cls pm o.op = .rd) (hb : wt j = true) (he : e ≤ ops.size)
    (h1 : ∀ x, E pm ops x → isBef ops x j = true → x < e) (h2 : ∀ x, E pm ops x → x < e → isBef ops j x = false) : evOp o.op (s j).τ (s e).w = .val (val j) (s e).w := by
  have hj := (Array.getElem?_eq_some_iff.1 ho).1
  have hf := T.fact j o ho
  unfold FactAt at hf
  obtain ⟨_, _, _, hf⟩ := hf
  rw [hc] at hf
  obtain ⟨_, _, _, _, _, _, f1⟩ := hf
  obtain ⟨f2, f3⟩ := f1 hb
  cases hm : multi pm ops j with
  | false =>
    unfold multi at hm
    rw [bnot_eq, Bool.not_eq_false'] at hm
    rw [allL_iff] at hm
    have key : ∀ x, E pm ops x → (x < j → isBef ops x j = true) ∧ (j < x → isBef ops j x = true) := by
      intro x hx
      obtain ⟨q1, q2⟩ := bc_and.1 (hm x (effs_iff.2 hx))
      exact ⟨fun h => bc_imp.1 q1 (blt_of_lt h), fun h => bc_imp.1 q2 (blt_of_lt h)⟩
    have hsame : (s e).w = (s j).w := by
      rcases Nat.le_total e j with h | h
      · refine (T.w_const j h (by omega) fun x a b hx => ?_).symm
        have := h1 x hx ((key x hx).1 b)
        omega
      · refine T.w_const e h he fun x a b hx => ?_
        have hne : x ≠ j := by
          rintro rfl
          obtain ⟨o', ho', hc'⟩ := hx
          rw [ho] at ho'; cases ho'; rw [hc] at hc'; cases hc'
        have q := (key x hx).2 (by omega)
        have := h2 x hx b
        rw [q] at this; cases this
    rw [hsame]
    exact f2
  | true =>
    have hr := T.rec_mem ops.size (i := j + 1) (by omega) (Nat.le_refl _) (f3 hm)
    have hd := dRecs_spec T.recs hr
    obtain ⟨e', q1, q2, q3, q4⟩ := next_eff ops _ e rfl he
    have hw : (s e').w = (s e).w := T.w_const e' q1 q2 q3
    have hmem : (e', (s e').w) ∈ ((ops.size, (s ops.size).w) :: (s ops.size).hist) := by
      rcases q4 with q4 | q4
      · subst q4; simp
      · exact List.mem_cons_of_mem _ (T.hist q4 ops.size q4.size (Nat.le_refl _))
    have hall : allowed pm ops j e' = true := by
      unfold allowed
      rw [allL_iff]
      intro x hx
      have hx := effs_iff.1 hx
      refine bc_and.2 ⟨bc_imp.2 fun hbf => ?_, bc_imp.2 fun hlt => ?_⟩
      · have := h1 x hx hbf
        exact blt_of_lt (by omega)
      · have hlt := lt_of_blt hlt
        rcases Nat.lt_or_ge x e with h | h
        · rw [h2 x hx h]; rfl
        · exact absurd hx (q3 x h hlt)
    have := dRec_spec hd hmem hall
    unfold recAt at this
    split at this
    · rename_i v' a' hv
      have hv := fOp_val hv
      have hs := rd_same (a := (s e').w) (cls_rd hc) (s j).τ
      rw [hv] at hs
      have hs : a' = (s e').w := hs
      rw [same2_eq _ _ this, ← hw, hv, hs]
    · cases this
end
end Go.Ev
