import Derived.Test.YtjakdjfepibedaaGreatDoorEvDd
set_option linter.all false
namespace Go.Ev
/- A region whose order is drawn: whatever the order, it comes to what the run in the order of the text says. -/
noncomputable def TL (ops : Array Oper) (nt : Nat) (val : Nat → AV) (τ0 : F) (L : Nat → Bool) : Nat → F
  | 0 => τ0
  | k + 1 => bif L k then (match ops[k]? with | some o => fput nt o.dst (val k) (TL ops nt val τ0 L k) | none => TL ops nt val τ0 L k) else TL ops nt val τ0 L k
section
variable {pm : PM} {ih : Ih} {ops : Array Oper} {nt fn : Nat} {s : Nat → DS} {val : Nat → AV} {wt : Nat → Bool} {obj : Nat → AObj} {h0 : H4} {nx0 nx1 : K} {τ0 : F} {L : Nat → Bool}
theorem fget_fput (hn : nt ≤ 512) {t : Nat} (ht : t < 512) (dst : Option Nat) (v : AV) (τ : F) : fget t (fput nt dst v τ) = if dst = some t ∧ t < nt then v else fget t τ := by
  cases dst with
  | none => rw [if_neg (by simp)]; rfl
  | some d =>
    show fget t (fputD nt d v τ) = _
    unfold fputD
    rw [bc_eq]
    split
    · rename_i h
      have h := lt_of_blt h
      rw [fget_fset d t v τ (by omega) ht]
      by_cases e : d = t
      · subst e; rw [if_pos rfl, if_pos ⟨rfl, h⟩]
      · rw [if_neg e, if_neg (by rintro ⟨h1, _⟩; injection h1 with h1; exact e h1)]
    · rename_i h
      have h : ¬ d < nt := fun x => h (blt_of_lt x)
      rw [if_neg (by rintro ⟨h1, h2⟩; injection h1 with h1; omega)]
theorem tl_skip {k : Nat} (h : L k = false) : TL ops nt val τ0 L (k + 1) = TL ops nt val τ0 L k := by simp only [TL, h, cond_false]
theorem tl_put {k : Nat} {o : Oper} (ho : ops[k]? = some o) (h : L k = true) : TL ops nt val τ0 L (k + 1) = fput nt o.dst (val k) (TL ops nt val τ0 L k) := by simp only [TL, h, cond_true, ho]
theorem tl_step (hn : nt ≤ 512) {t k : Nat} (ht : t < 512) (h : ∀ o, ops[k]? = some o → o.dst = some t → L k = false) : fget t (TL ops nt val τ0 L (k + 1)) = fget t (TL ops nt val τ0 L k) := by
  cases hL : L k with
  | false => rw [tl_skip hL]
  | true =>
    cases ho : ops[k]? with
    | none => simp only [TL, hL, cond_true, ho]
    | some o =>
      rw [tl_put ho hL, fget_fput hn ht, if_neg]
      rintro ⟨h1, _⟩
      have := h o ho h1
      rw [hL] at this; cases this
/-- the slots at which an operation looks are as they are in the order of the text -/
theorem tl_agree (T : Tr pm ih ops nt s val wt obj h0 nx0 nx1) (hn : nt ≤ 512) (hτ : (s 0).τ = τ0) {j t : Nat} (hj : j ≤ ops.size)
    (h1 : ∀ i o, i < j → ops[i]? = some o → o.dst = some t → L i = true) (h2 : ∀ i o, j ≤ i → ops[i]? = some o → o.dst = some t → L i = false) :
    fget t (TL ops nt val τ0 L ops.size) = fget t (s j).τ := by
  by_cases ht : t < 512
  · have p1 : ∀ k, k ≤ j → fget t (TL ops nt val τ0 L k) = fget t (s k).τ := by
      intro k
      induction k with
      | zero => intro _; rw [hτ]; rfl
      | succ k ih =>
        intro hk
        obtain ⟨o, ho⟩ := get_some (ops := ops) (j := k) (by omega)
        have hf := (T.fact k o ho).1
        rw [hf, fget_fput hn ht]
        by_cases hd : o.dst = some t ∧ t < nt
        · rw [if_pos hd, tl_put ho (h1 k o (by omega) ho hd.1), fget_fput hn ht, if_pos hd]
        · rw [if_neg hd]
          cases hL : L k with
          | false => rw [tl_skip hL]; exact ih (by omega)
          | true => rw [tl_put ho hL, fget_fput hn ht, if_neg hd]; exact ih (by omega)
    have p2 : ∀ k, j ≤ k → fget t (TL ops nt val τ0 L k) = fget t (TL ops nt val τ0 L j) := by
      intro k
      induction k with
      | zero => intro h; have : j = 0 := by omega
                rw [this]
      | succ k ih =>
        intro hk
        rcases Nat.lt_or_ge k j with h | h
        · have : j = k + 1 := by omega
          rw [this]
        · rw [tl_step hn ht fun o ho hd => h2 k o h ho hd]; exact ih h
    rw [p2 ops.size hj, p1 j (Nat.le_refl _)]
  · rw [fget_far (by omega), fget_far (by omega)]
theorem tl_congr {L' : Nat → Bool} : ∀ k, (∀ i, i < k → L i = L' i) → TL ops nt val τ0 L k = TL ops nt val τ0 L' k
  | 0, _ => rfl
  | k + 1, h => by
    have ih := tl_congr k fun i hi => h i (by omega)
    simp only [TL, ih, h k (by omega)]
theorem tl_up (hn : nt ≤ 512) {j t : Nat} {o : Oper} (ho : ops[j]? = some o) (hL : L j = false) (ht : t < 512) (h : o.dst = some t → ∀ i oi, j < i → ops[i]? = some oi → oi.dst = some t → L i = false) :
    fget t (TL ops nt val τ0 (upL L j) ops.size) = if o.dst = some t ∧ t < nt then val j else fget t (TL ops nt val τ0 L ops.size) := by
  have hj := (Array.getElem?_eq_some_iff.1 ho).1
  have p0 : TL ops nt val τ0 (upL L j) j = TL ops nt val τ0 L j := tl_congr j fun i hi => upL_ne L (by omega)
  have p1 : fget t (TL ops nt val τ0 (upL L j) (j + 1)) = if o.dst = some t ∧ t < nt then val j else fget t (TL ops nt val τ0 L (j + 1)) := by
    rw [tl_put ho (upL_same L j), fget_fput hn ht, p0, tl_skip hL]
  have p2 : ∀ k, j + 1 ≤ k → fget t (TL ops nt val τ0 (upL L j) k) = if o.dst = some t ∧ t < nt then val j else fget t (TL ops nt val τ0 L k) := by
    intro k
    induction k with
    | zero => intro h; omega
    | succ k ih =>
      intro hk
      rcases Nat.lt_or_ge k (j + 1) with q | q
      · have : k = j := by omega
        rw [this]; exact p1
      · have ihk := ih q
        by_cases hd : o.dst = some t ∧ t < nt
        · rw [if_pos hd] at ihk ⊢
          rw [tl_step hn ht, ihk]
          intro oi hoi hdi
          rw [upL_ne L (by omega)]
          exact h hd.1 k oi (by omega) hoi hdi
        · rw [if_neg hd] at ihk ⊢
          have hk' : upL L j k = L k := upL_ne L (by omega)
          cases hLk : L k with
          | false => rw [tl_skip (by rw [hk']; exact hLk), tl_skip hLk]; exact ihk
          | true =>
            cases hok : ops[k]? with
            | none => simp only [TL, hk', hLk, cond_true, hok]; exact ihk
            | some ok =>
              rw [tl_put hok (by rw [hk']; exact hLk), tl_put hok hLk, fget_fput hn ht, fget_fput hn ht, ihk]
  exact p2 ops.size (by omega)
variable {ρ0 : Env} {w0 : World} {a0 : Act}
structure IV (pm : PM) (ops : Array Oper) (nt : Nat) (s : Nat → DS) (val : Nat → AV) (wt : Nat → Bool) (obj : Nat → AObj) (h0 : H4) (nx0 nx1 : K) (τ0 : F) (ρ0 : Env) (w0 : World) (a0 : Act)
    (L : Nat → Bool) (e : Nat) (ρ : Env) (a : Act) (w : World) : Prop where
  cl : Closed ops L
  le : e ≤ ops.size
  ph : ∀ x, E pm ops x → (L x = true ↔ x < e)
  adv : Adv ρ0 (.mk h0 nx0) w0 ρ (s e).w w
  clean : Clean ρ (s e).w
  nx : nx1.num ≤ (s e).w.nx.num
  fr : FRel ρ (TL ops nt val τ0 L ops.size) a.tmps
  sz : a.tmps.size = nt
  dr : a.defers = a0.defers
  held : ∀ j, FW pm ops wt j → isP pm j = false → L j = true → (∀ x, x < e → E pm ops x → isBef ops j x = false) → Held w0.heap.size ρ (s e).w w (s j).fk (obj j)
  sep : ∀ i j, FW pm ops wt i → FW pm ops wt j → L i = true → L j = true → i ≠ j → ρ (s i).fk ≠ ρ (s j).fk
  lt : ∀ j, FW pm ops wt j → L j = true → ∃ c, ρ (s j).fk = some c ∧ c < w.heap.size
  none : ∀ j, FW pm ops wt j → L j = false → ρ (s j).fk = none
  pheld : ∀ j, FW pm ops wt j → isP pm j = true → L j = true → Held w0.heap.size ρ (s e).w w (s j).fk (.umap (dn pm ops s L ops.size))
section
variable {e j : Nat} {ρ : Env} {a : Act} {w : World} {o : Oper}
theorem closed_up (hc : Closed ops L) (ho : ops[j]? = some o) (hr : ∀ e ∈ o.after, Region.binds .any e = true → L e.on = true) : Closed ops (upL L j) := by
  intro i oi hi hL x hx hb
  by_cases h : i = j
  · subst h
    rw [ho] at hi; cases hi
    have := hr x hx hb
    unfold upL; split <;> first | rfl | exact this
  · rw [upL_ne L h] at hL
    have := hc i oi hi hL x hx hb
    unfold upL; split <;> first | rfl | exact this
theorem looks_agree (T : Tr pm ih ops nt s val wt obj h0 nx0 nx1) (hn : nt ≤ 512) (hτ : (s 0).τ = τ0) (hc : Closed ops L) (hcu : Closed ops (upL L j)) (ho : ops[j]? = some o) (hL : L j = false) {t : Nat} (ht : t ∈ looksA ops.toList o) :
    fget t (TL ops nt val τ0 L ops.size) = fget t (s j).τ := by
  have hj := (Array.getElem?_eq_some_iff.1 ho).1
  refine tl_agree T hn hτ (by omega) ?_ ?_
  · intro i oi hi hoi hd
    have := (T.drawn.tmp i j oi o t (by omega) hoi ho hd ht).1 hi
    have := isBef_closed hcu this (upL_same L j)
    rw [upL_ne L (by omega)] at this
    exact this
  · intro i oi hi hoi hd
    rcases Nat.eq_or_lt_of_le hi with h | h
    · rw [← h]; exact hL
    · have := (T.drawn.tmp i j oi o t (by omega) hoi ho hd ht).2 h
      cases hLi : L i with
      | false => rfl
      | true => have := isBef_closed hc this hLi; rw [hL] at this; cases this
theorem evX_agree (T : Tr pm ih ops nt s val wt obj h0 nx0 nx1) (hn : nt ≤ 512) (hτ : (s 0).τ = τ0) (hc : Closed ops L) (hcu : Closed ops (upL L j)) (ho : ops[j]? = some o) (hL : L j = false) (x : Operand) (hx : x ∈ o.op.operands) :
    evX x (TL ops nt val τ0 L ops.size) = evX x (s j).τ := by
  cases x with
  | tmp t =>
    refine looks_agree T hn hτ hc hcu ho hL ?_
    unfold looksA
    exact List.mem_append_left _ (tmpsOf_mem (by simpa using hx))
  | const _ => rfl
  | global _ => rfl
  | func _ => rfl
theorem wants_agree (T : Tr pm ih ops nt s val wt obj h0 nx0 nx1) (hn : nt ≤ 512) (hτ : (s 0).τ = τ0) (hc : Closed ops L) (hcu : Closed ops (upL L j)) (ho : ops[j]? = some o) (hL : L j = false) {g : Nat × Bool} (hg : o.guard = some g) :
    wants g ops.toList (TL ops nt val τ0 L ops.size) = wants g ops.toList (s j).τ := by
  unfold wants
  cases hd : (nth ops.toList g.1).bind (·.dst) with
  | none => rfl
  | some t =>
    dsimp only
    rw [looks_agree T hn hτ hc hcu ho hL (t := t)]
    unfold looksA
    rw [hg]
    dsimp only
    rw [hd]
    simp
theorem fr_up (T : Tr pm ih ops nt s val wt obj h0 nx0 nx1) (hn : nt ≤ 512) (hc : Closed ops L) (ho : ops[j]? = some o) (hL : L j = false) (hf : FRel ρ (TL ops nt val τ0 L ops.size) a.tmps) (hsz : a.tmps.size = nt) {v' : Value} (hv : VRel ρ (val j) v') :
    FRel ρ (TL ops nt val τ0 (upL L j) ops.size) (a.put o.dst v').tmps := by
  intro t
  by_cases ht : t < 512
  · rw [tl_up hn ho hL ht]
    · cases hd : o.dst with
      | none => rw [if_neg (by simp)]; exact hf t
      | some d =>
        show VRel ρ _ ((a.tmps.setIfInBounds d v').getD t undef)
        rw [getD_set]
        by_cases e : d = t ∧ d < a.tmps.size
        · rw [if_pos e, if_pos ⟨by rw [e.1], by rw [← e.1, ← hsz]; exact e.2⟩]; exact hv
        · rw [if_neg e, if_neg (by rintro ⟨h1, h2⟩; injection h1 with h1; exact e ⟨h1, by rw [h1, hsz]; exact h2⟩)]; exact hf t
    · intro hd i oi hi hoi hdi
      have hl : t ∈ looksA ops.toList o := by unfold looksA; rw [hd]; simp
      have := (T.drawn.tmp i j oi o t (by omega) hoi ho hdi hl).2 hi
      cases hLi : L i with
      | false => rfl
      | true => have := isBef_closed hc this hLi; rw [hL] at this; cases this
  · rw [fget_far (by omega)]; simp only [VRel]
/-- the state when an operation that is no effect and makes no block has been run -/
theorem IV.quiet (T : Tr pm ih ops nt s val wt obj h0 nx0 nx1) (hn : nt ≤ 512) (I : IV pm ops nt s val wt obj h0 nx0 nx1 τ0 ρ0 w0 a0 L e ρ a w) (ho : ops[j]? = some o) (hL : L j = false) (hcu : Closed ops (upL L j)) (hE : ¬ E pm ops j) (hF : ¬ FW pm ops wt j) (hM : ¬ MU pm ops j)
    {ρ' : Env} {w' : World} {v' : Value} (hA : Adv ρ (s e).w w ρ' (s e).w w') (hv : VRel ρ' (val j) v') :
    IV pm ops nt s val wt obj h0 nx0 nx1 τ0 ρ0 w0 a0 (upL L j) e ρ' (a.put o.dst v') w' := by
  have same : ∀ k, ρ' k = ρ k := by
    intro k
    rcases hA.rng k with x | x
    · exact x
    · omega
  have ne : ∀ i, FW pm ops wt i → i ≠ j := by rintro i hi rfl; exact hF hi
  refine ⟨hcu, I.le, ?_, I.adv.trans hA, I.clean.adv hA, I.nx, fr_up T hn I.cl ho hL (I.fr.mono hA.le) I.sz hv, by rw [put_size]; exact I.sz, by rw [put_defers]; exact I.dr, ?_, ?_, ?_, ?_, ?_⟩
  · intro x hx
    rw [upL_ne L (by rintro rfl; exact hE hx)]
    exact I.ph x hx
  · intro i hi hp hLi hx
    rw [upL_ne L (ne i hi)] at hLi
    exact (I.held i hi hp hLi hx).adv hA
  · intro i k hi hk hLi hLk hne
    rw [upL_ne L (ne i hi)] at hLi
    rw [upL_ne L (ne k hk)] at hLk
    rw [same, same]
    exact I.sep i k hi hk hLi hLk hne
  · intro i hi hLi
    rw [upL_ne L (ne i hi)] at hLi
    obtain ⟨c, h1, h2⟩ := I.lt i hi hLi
    exact ⟨c, by rw [same]; exact h1, Nat.lt_of_lt_of_le h2 hA.size⟩
  · intro i hi hLi
    rw [upL_ne L (ne i hi)] at hLi
    rw [same]
    exact I.none i hi hLi
  · intro i hi hp hLi
    rw [upL_ne L (ne i hi)] at hLi
    rw [dn_keep hM]
    exact (I.pheld i hi hp hLi).adv hA
/-- the state when an entry has been put into the region's own map -/
theorem IV.mu (T : Tr pm ih ops nt s val wt obj h0 nx0 nx1) (hn : nt ≤ 512) (I : IV pm ops nt s val wt obj h0 nx0 nx1 τ0 ρ0 w0 a0 L e ρ a w) (ho : ops[j]? = some o) (hL : L j = false) (hcu : Closed ops (upL L j)) (hE : ¬ E pm ops j) (hF : ¬ FW pm ops wt j)
    {i : Nat} (hi : FW pm ops wt i) (hp : isP pm i = true) (hLi : L i = true) {kv : AV × AV} (hkv : dnAt pm ops s j = [kv]) {ρ' : Env} {w' : World} {v' : Value}
    (hA : Adv ρ (wset (s i).fk (.umap (dn pm ops s L ops.size)) (s e).w) w ρ' (wset (s i).fk (.umap (dn pm ops s L ops.size ++ [kv])) (wset (s i).fk (.umap (dn pm ops s L ops.size)) (s e).w)) w') (hv : VRel ρ' (val j) v') :
    IV pm ops nt s val wt obj h0 nx0 nx1 τ0 ρ0 w0 a0 (upL L j) e ρ' (a.put o.dst v') w' := by
  have hj := (Array.getElem?_eq_some_iff.1 ho).1
  have Hd := I.pheld i hi hp hLi
  obtain ⟨c, c1, c2, c3, c4, c5, c6⟩ := Hd.ex
  have hK : hget (s i).fk (s e).w.h = .none := by
    by_cases h : hget (s i).fk (s e).w.h = .none
    · exact h
    · exact absurd c1 (c5 _ h)
  have hs : ∀ l, l ≠ (s i).fk → hget l (s e).w.h = hget l (wset (s i).fk (.umap (dn pm ops s L ops.size ++ [kv])) (wset (s i).fk (.umap (dn pm ops s L ops.size)) (s e).w)).h := by
    intro l hl
    rw [wset_eq, wset_eq]
    simp only [W.h_mk]
    rw [hget_hset_ne hl, hget_hset_ne hl]
  have hnx : (s e).w.nx = (wset (s i).fk (.umap (dn pm ops s L ops.size ++ [kv])) (wset (s i).fk (.umap (dn pm ops s L ops.size)) (s e).w)).nx := by rw [nx_wset, nx_wset]
  have same : ∀ k, ρ' k = ρ k := by
    intro k
    rcases hA.rng k with x | x
    · exact x
    · rw [nx_wset, nx_wset, nx_wset] at x; omega
  have ne : ∀ i, FW pm ops wt i → i ≠ j := by rintro i hi rfl; exact hF hi
  refine ⟨hcu, I.le, ?_, ((adopt1 I.adv Hd).trans hA).forget hK hs hnx, ?_, I.nx, fr_up T hn I.cl ho hL (I.fr.mono hA.le) I.sz hv, by rw [put_size]; exact I.sz, by rw [put_defers]; exact I.dr, ?_, ?_, ?_, ?_, ?_⟩
  · intro x hx
    rw [upL_ne L (by rintro rfl; exact hE hx)]
    exact I.ph x hx
  · intro k hk
    rw [same]
    exact I.clean k hk
  · intro i' hi' hp' hLi' hx
    rw [upL_ne L (ne i' hi')] at hLi'
    have hne : i ≠ i' := by rintro rfl; rw [hp] at hp'; cases hp'
    exact (((I.held i' hi' hp' hLi' hx).wset (I.sep i i' hi hi' hLi hLi' hne)).adv hA).forget hK hs
  · intro i' k hi' hk hLi' hLk hne
    rw [upL_ne L (ne i' hi')] at hLi'
    rw [upL_ne L (ne k hk)] at hLk
    rw [same, same]
    exact I.sep i' k hi' hk hLi' hLk hne
  · intro i' hi' hLi'
    rw [upL_ne L (ne i' hi')] at hLi'
    obtain ⟨c, h1, h2⟩ := I.lt i' hi' hLi'
    exact ⟨c, by rw [same]; exact h1, Nat.lt_of_lt_of_le h2 hA.size⟩
  · intro i' hi' hLi'
    rw [upL_ne L (ne i' hi')] at hLi'
    rw [same]
    exact I.none i' hi' hLi'
  · intro i' hi' hp' hLi'
    obtain rfl := isP_one hp hp'
    refine Held.conv (o := .umap (dn pm ops s L ops.size ++ [kv])) (Held.of_rel hA.rel ?_ (by simp) (by rw [same]; exact c1) c2 hK hs) ?_
    · rw [wset_eq]; simp only [W.h_mk]; rw [hget_hset_same]
    · rintro x ⟨entries, clock, l, h1, h2, h3⟩
      refine ⟨entries, clock, l, h1, h2.trans ?_, h3⟩
      have := dn_up (pm := pm) (ops := ops) (s := s) hL ops.size hj
      rw [hkv] at this
      exact this.symm
/-- the state when a block has been made -/
theorem IV.float (T : Tr pm ih ops nt s val wt obj h0 nx0 nx1) (hn : nt ≤ 512) (I : IV pm ops nt s val wt obj h0 nx0 nx1 τ0 ρ0 w0 a0 L e ρ a w) (ho : ops[j]? = some o) (hL : L j = false) (hcu : Closed ops (upL L j)) (hF : FW pm ops wt j)
    {ρ' : Env} {w' : World} {v' : Value} {h : H4} {nx : K} (hw : (s e).w = .mk h nx) (hm : (s j).fk.isMax = false) (hob : obj j ≠ .none) (hpo : isP pm j = true → obj j = .map [])
    (hA : Adv ρ (.mk h (s j).fk) w ρ' (.mk (hset (s j).fk (obj j) h) (s j).fk.succ) w') (hv : VRel ρ' (val j) v') :
    IV pm ops nt s val wt obj h0 nx0 nx1 τ0 ρ0 w0 a0 (upL L j) e ρ' (a.put o.dst v') w' := by
  have hkey := T.key_lt hF
  have hnx := I.nx
  rw [hw] at hnx
  simp only [W.nx_mk] at hnx
  have hadv := I.adv
  rw [hw] at hadv
  obtain ⟨f1, f2, f3, ⟨c, f4, f5, f6⟩, f7⟩ := adv_float (N := w0.heap.size) hadv hA hm (I.none j hF hL) (by simpa using hkey.1) (by omega) hob
  have hE : ¬ E pm ops j := by
    rintro ⟨o', ho', hc'⟩
    obtain ⟨_, o'', ho'', hc''⟩ := hF
    rw [ho'] at ho''; cases ho''; rw [hc'] at hc''; cases hc''
  have kne : ∀ i, FW pm ops wt i → i ≠ j → (s i).fk ≠ (s j).fk := fun i hi hne he => hne (T.key_inj hi hF he)
  refine ⟨hcu, I.le, ?_, by rw [hw]; exact f1, ?_, I.nx, fr_up T hn I.cl ho hL (I.fr.mono hA.le) I.sz hv, by rw [put_size]; exact I.sz, by rw [put_defers]; exact I.dr, ?_, ?_, ?_, ?_, ?_⟩
  · intro x hx
    rw [upL_ne L (by rintro rfl; exact hE hx)]
    exact I.ph x hx
  · intro k hk
    have hk' := hk
    rw [hw] at hk'
    simp only [W.nx_mk] at hk'
    rw [f3 k (by rintro rfl; omega)]
    exact I.clean k hk
  · intro i hi hp hLi hx
    rw [hw]
    by_cases h : i = j
    · subst h; exact f2
    · rw [upL_ne L h] at hLi
      have := I.held i hi hp hLi hx
      rw [hw] at this
      exact (f7 _ _ this).1
  · intro i k hi hk hLi hLk hne
    have one : ∀ i, FW pm ops wt i → i ≠ j → upL L j i = true → ρ' (s i).fk ≠ ρ' (s j).fk := by
      intro i hi h hLi
      rw [upL_ne L h] at hLi
      obtain ⟨c', h1, h2⟩ := I.lt i hi hLi
      rw [f3 _ (kne i hi h), h1, f4]
      intro he; injection he with he; omega
    by_cases h : i = j
    · subst h; exact (one k hk (Ne.symm hne) hLk).symm
    · by_cases h' : k = j
      · subst h'; exact one i hi h hLi
      · rw [upL_ne L h] at hLi
        rw [upL_ne L h'] at hLk
        rw [f3 _ (kne i hi h), f3 _ (kne k hk h')]
        exact I.sep i k hi hk hLi hLk hne
  · intro i hi hLi
    by_cases h : i = j
    · subst h; exact ⟨c, f4, f6⟩
    · rw [upL_ne L h] at hLi
      obtain ⟨c', h1, h2⟩ := I.lt i hi hLi
      exact ⟨c', by rw [f3 _ (kne i hi h)]; exact h1, Nat.lt_of_lt_of_le h2 hA.size⟩
  · intro i hi hLi
    by_cases h : i = j
    · subst h; rw [upL_same] at hLi; cases hLi
    · rw [upL_ne L h] at hLi
      rw [f3 _ (kne i hi h)]
      exact I.none i hi hLi
  · intro i hi hp hLi
    rw [hw]
    have hM : ¬ MU pm ops j := by
      rintro ⟨o', ho', hc'⟩
      obtain ⟨_, o'', ho'', hc''⟩ := hF
      rw [ho'] at ho''; cases ho''; rw [hc'] at hc''; cases hc''
    rw [dn_keep hM]
    by_cases h : i = j
    · subst h
      rw [T.dn_nil I.cl hp hL]
      rw [hpo hp] at f2
      refine f2.conv ?_
      rintro x ⟨entries, clock, h1, h2⟩
      exact ⟨entries, clock, [], h1, List.Perm.refl _, h2⟩
    · rw [upL_ne L h] at hLi
      have := I.pheld i hi hp hLi
      rw [hw] at this
      exact (f7 _ _ this).1
/-- just before an effect: the blocks that are surely made are taken into the heap -/
theorem IV.before (T : Tr pm ih ops nt s val wt obj h0 nx0 nx1) (I : IV pm ops nt s val wt obj h0 nx0 nx1 τ0 ρ0 w0 a0 L e ρ a w) (hL : L j = false) (hcu : Closed ops (upL L j)) (hE : E pm ops j) :
    e ≤ j ∧ (s j).w = (s e).w ∧ Adv ρ0 (.mk h0 nx0) w0 ρ (dAdopt (bmask ops j) (s j).pend (s j).w) w ∧ Clean ρ (dAdopt (bmask ops j) (s j).pend (s j).w) ∧
    (∀ i, FW pm ops wt i → isP pm i = false → L i = true → (∀ x, x < j + 1 → E pm ops x → isBef ops i x = false) → Held w0.heap.size ρ (dAdopt (bmask ops j) (s j).pend (s j).w) w (s i).fk (obj i)) ∧
    ∀ i, FW pm ops wt i → isP pm i = true → L i = true → Held w0.heap.size ρ (dAdopt (bmask ops j) (s j).pend (s j).w) w (s i).fk (.umap (dn pm ops s L ops.size)) := by
  have hj := hE.size
  have he : e ≤ j := by
    rcases Nat.lt_or_ge j e with h | h
    · have := (I.ph j hE).2 h; rw [hL] at this; cases this
    · exact h
  have hw : (s j).w = (s e).w := by
    refine T.w_const j he (by omega) fun x h1 h2 hx => ?_
    obtain ⟨ox, hox, hcx⟩ := hx
    obtain ⟨oj, hoj, hcj⟩ := hE
    have := isBef_closed hcu (T.drawn.eff x j ox oj h2 hox hoj hcx hcj) (upL_same L j)
    rw [upL_ne L (by omega)] at this
    have := (I.ph x ⟨ox, hox, hcx⟩).1 this
    omega
  obtain ⟨p1, p2⟩ := T.pend j (by omega)
  have inL : ∀ p ∈ (s j).pend, tb (bmask ops j) p.i = true → L p.i = true := by
    intro p hp hb
    have := isBef_closed hcu (i := p.i) (j := j) hb (upL_same L j)
    rw [upL_ne L (by have := (p1 p hp).1; omega)] at this
    exact this
  have ok := adopt_ok (bmask ops j) (s j).pend (ρ := ρ) (a := (s j).w) (w := w) (ρ0 := ρ0) (a0 := .mk h0 nx0) (w0 := w0) (fun p hp hb => ?_) ?_ (by rw [hw]; exact I.adv)
  · refine ⟨he, hw, ok.1, ?_, ?_, ?_⟩
    · intro k hk
      rw [nx_adopt, hw] at hk
      exact I.clean k hk
    · intro i hi hpi hLi hx
      refine ok.2 _ _ (by rw [hw]; exact I.held i hi hpi hLi fun x h1 h2 => hx x (by omega) h2) fun p hp hb => ?_
      obtain ⟨q1, q2, q3, q4, q5, q6⟩ := p1 p hp
      rw [q4]
      refine I.sep p.i i q2 hi (inL p hp hb) hLi ?_
      rintro rfl
      have := hx j (by omega) hE
      unfold isBef at this
      rw [hb] at this; cases this
    · intro i hi hpi hLi
      refine ok.2 _ _ (by rw [hw]; exact I.pheld i hi hpi hLi) fun p hp hb => ?_
      obtain ⟨q1, q2, q3, q4, q5, q6⟩ := p1 p hp
      rw [q4]
      refine I.sep p.i i q2 hi (inL p hp hb) hLi ?_
      rintro rfl
      rw [hpi] at q6; cases q6
  · obtain ⟨q1, q2, q3, q4, q5, q6⟩ := p1 p hp
    rw [q4, q5, hw]
    exact I.held p.i q2 q6 (inL p hp hb) fun x h1 h2 => q3 x (by omega) h2
  · have : ∀ (l : List PF), (∀ p ∈ l, p ∈ (s j).pend) → l.Pairwise (fun p q => q.i < p.i) → l.Pairwise (fun p q => tb (bmask ops j) p.i = true → tb (bmask ops j) q.i = true → ρ p.k ≠ ρ q.k) := by
      intro l hl hp
      refine List.Pairwise.imp_of_mem (fun {p q} hp hq hlt hb hb' => ?_) hp
      obtain ⟨_, q2, _, q4, _⟩ := p1 p (hl p hp)
      obtain ⟨_, r2, _, r4, _⟩ := p1 q (hl q hq)
      rw [q4, r4]
      exact I.sep p.i q.i q2 r2 (inL p (hl p hp) hb) (inL q (hl q hq) hb') (by omega)
    exact this _ (fun p hp => hp) p2
/-- the state when an effect has been run -/
theorem IV.effect (T : Tr pm ih ops nt s val wt obj h0 nx0 nx1) (hn : nt ≤ 512) (I : IV pm ops nt s val wt obj h0 nx0 nx1 τ0 ρ0 w0 a0 L e ρ a w) (ho : ops[j]? = some o) (hL : L j = false) (hcu : Closed ops (upL L j)) (hE : E pm ops j)
    {ρ' : Env} {w' : World} {v' : Value} (hA : Adv ρ (dAdopt (bmask ops j) (s j).pend (s j).w) w ρ' (s (j + 1)).w w') (hv : VRel ρ' (val j) v') :
    IV pm ops nt s val wt obj h0 nx0 nx1 τ0 ρ0 w0 a0 (upL L j) (j + 1) ρ' (a.put o.dst v') w' := by
  have hj := hE.size
  obtain ⟨b1, b2, b3, b4, b5, b6⟩ := I.before T hL hcu hE
  have hF : ¬ FW pm ops wt j := by
    rintro ⟨_, o', ho', hc'⟩
    obtain ⟨o'', ho'', hc''⟩ := hE
    rw [ho'] at ho''; cases ho''; rw [hc'] at hc''; cases hc''
  have ne : ∀ i, FW pm ops wt i → i ≠ j := by rintro i hi rfl; exact hF hi
  have hnx := hA.nx
  rw [nx_adopt, b2] at hnx
  have hn1 := I.nx
  have same : ∀ i, FW pm ops wt i → ρ' (s i).fk = ρ (s i).fk := by
    intro i hi
    have := T.key_lt hi
    rcases hA.rng (s i).fk with x | x
    · exact x
    · rw [nx_adopt, b2] at x; omega
  refine ⟨hcu, by omega, ?_, b3.trans hA, b4.adv hA, by omega, fr_up T hn I.cl ho hL (I.fr.mono hA.le) I.sz hv, by rw [put_size]; exact I.sz, by rw [put_defers]; exact I.dr, ?_, ?_, ?_, ?_, ?_⟩
  · intro x hx
    by_cases h : x = j
    · subst h; rw [upL_same]; simp
    · rw [upL_ne L h, I.ph x hx]
      constructor
      · intro h1; omega
      · intro h1
        obtain ⟨ox, hox, hcx⟩ := hx
        obtain ⟨oj, hoj, hcj⟩ := hE
        have := isBef_closed hcu (T.drawn.eff x j ox oj (by omega) hox hoj hcx hcj) (upL_same L j)
        rw [upL_ne L h] at this
        exact (I.ph x ⟨ox, hox, hcx⟩).1 this
  · intro i hi hp hLi hx
    rw [upL_ne L (ne i hi)] at hLi
    exact (b5 i hi hp hLi hx).adv hA
  · intro i k hi hk hLi hLk hne
    rw [upL_ne L (ne i hi)] at hLi
    rw [upL_ne L (ne k hk)] at hLk
    rw [same i hi, same k hk]
    exact I.sep i k hi hk hLi hLk hne
  · intro i hi hLi
    rw [upL_ne L (ne i hi)] at hLi
    obtain ⟨c, h1, h2⟩ := I.lt i hi hLi
    exact ⟨c, by rw [same i hi]; exact h1, Nat.lt_of_lt_of_le h2 hA.size⟩
  · intro i hi hLi
    rw [upL_ne L (ne i hi)] at hLi
    rw [same i hi]
    exact I.none i hi hLi
  · intro i hi hp hLi
    rw [upL_ne L (ne i hi)] at hLi
    have hM : ¬ MU pm ops j := by
      rintro ⟨o', ho', hc'⟩
      obtain ⟨o'', ho'', hc''⟩ := hE
      rw [ho'] at ho''; cases ho''; rw [hc'] at hc''; cases hc''
    rw [dn_keep hM]
    exact (b6 i hi hp hLi).adv hA
end
end
end Go.Ev
