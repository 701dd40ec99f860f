import Derived.Test.YtldcnedpfagliaaGreatDoorEvCb
set_option linter.all false
namespace Go.Ev
/- States related; results. -/
section
variable {ρ : Env}
theorem getD_set (tmps : Array Value) (d t : Nat) (v' : Value) : (tmps.setIfInBounds d v').getD t undef = if d = t ∧ d < tmps.size then v' else tmps.getD t undef := by
  simp only [Array.getD_eq_getD_getElem?, Array.getElem?_setIfInBounds]
  by_cases h : d = t
  · subst h
    by_cases h2 : d < tmps.size
    · simp [h2]
    · simp [h2]
  · simp [h]
theorem frel_putD {τ : F} {tmps : Array Value} {nt : Nat} (hf : FRel ρ τ tmps) (hs : tmps.size = nt) (hn : nt ≤ 512) {v : AV} {v' : Value} (hv : VRel ρ v v') (d : Nat) :
    FRel ρ (fputD nt d v τ) (tmps.setIfInBounds d v') := by
  intro t
  rw [getD_set]
  unfold fputD
  rw [bc_eq]
  split
  · rename_i h
    have h : d < nt := Nat.le_of_ble_eq_true h
    by_cases ht : t < 512
    · rw [fget_fset d t v τ (by omega) ht]
      by_cases e : d = t
      · rw [if_pos e, if_pos ⟨e, by omega⟩]; exact hv
      · rw [if_neg e, if_neg (fun x => e x.1)]; exact hf t
    · rw [fget_far (by omega)]; simp only [VRel]
  · rename_i h
    have h : ¬ d < nt := fun x => h (Nat.ble_eq_true_of_le x)
    rw [if_neg (by omega)]
    exact hf t
theorem fget_fill : ∀ (vs : List AV) (i : Nat) (τ : F) (t : Nat), i + vs.length ≤ 512 → t < 512 → fget t (ffill vs i τ) = if h : i ≤ t ∧ t - i < vs.length then vs[t - i]'h.2 else fget t τ
  | [], i, τ, t, _, _ => by rw [dif_neg (by simp)]; rfl
  | v :: vs, i, τ, t, h, ht => by
    simp only [List.length_cons] at h
    show fget t (ffill vs (i + 1) (fset i v τ)) = _
    rw [fget_fill vs (i + 1) _ t (by omega) ht]
    by_cases e : i = t
    · subst e
      rw [dif_neg (by omega), dif_pos (by simp)]
      rw [fget_fset i i v τ ht ht, if_pos rfl]
      simp
    · by_cases l : i + 1 ≤ t ∧ t - (i + 1) < vs.length
      · rw [dif_pos l, dif_pos ⟨by omega, by simp only [List.length_cons]; omega⟩]
        have : t - i = (t - (i + 1)) + 1 := by omega
        simp only [this, List.getElem_cons_succ]
      · rw [dif_neg l, dif_neg (by simp only [List.length_cons]; omega), fget_fset i t v τ (by omega) ht, if_neg e]
theorem frel_fill {vs : List AV} {args : Array Value} {nt : Nat} (hv : VRels ρ vs args.toList) (hl : vs.length ≤ nt) (hn : nt ≤ 512) :
    FRel ρ (ffill vs 0 fnone) (args ++ Array.replicate (nt - args.size) undef) := by
  have hlen : args.size = vs.length := by have := VRels.length _ _ hv; simpa using this
  intro t
  by_cases ht : t < 512
  · rw [fget_fill vs 0 fnone t (by omega) ht]
    by_cases h : t < vs.length
    · rw [dif_pos ⟨by omega, by simpa using h⟩]
      obtain ⟨v, h1, h2⟩ := VRels.get _ _ hv t h
      have : (args ++ Array.replicate (nt - args.size) undef).getD t undef = v := by
        rw [Array.getD_eq_getD_getElem?, Array.getElem?_append_left (by omega)]
        simp only [Array.getElem?_toList] at h1
        rw [h1]; rfl
      rw [this]; exact h2
    · rw [dif_neg (by omega), fget_none t ht]
      have : (args ++ Array.replicate (nt - args.size) undef).getD t undef = undef := by
        rw [Array.getD_eq_getD_getElem?, Array.getElem?_append_right (by omega), Array.getElem?_replicate]
        split <;> rfl
      rw [this]
      show VRel ρ (.tuple []) _
      simp only [VRel]
      exact ⟨#[], rfl, by simp only [VRels]⟩
  · rw [fget_far (by omega)]; simp only [VRel]
def DRels (ρ : Env) : List AD → List Deferred → Prop
  | [], l => l = []
  | d :: ds, l => ∃ d' ds', l = d' :: ds' ∧ DRel ρ d d' ∧ DRels ρ ds ds'
def ChRel (ρ : Env) : List PE → List PanicEntry → Prop
  | [], l => l = []
  | .mk v r :: ch, l => ∃ v' ch', l = { v := v', recovered := r, goexit := false } :: ch' ∧ VRel ρ v v' ∧ ChRel ρ ch ch'
def URel (ρ : Env) : UM → FrameMode → Prop
  | .none, _ => False
  | .ret, u => u = .returning
  | .pan ch, u => ∃ ch', u = .panicking ch' ∧ ChRel ρ ch ch'
theorem DRel.mono {ρ' : Env} (h : ρ.le ρ') : ∀ (d : AD) (d' : Deferred), DRel ρ d d' → DRel ρ' d d'
  | .call .., _, ⟨c, a, h1, h2, h3⟩ => ⟨c, a, h1, VRels.mono h _ _ h2, VRels.mono h _ _ h3⟩
  | .coll _, _, ⟨c, h1, h2⟩ => ⟨c, (h _ _ h1).1, h2⟩
theorem DRels.mono {ρ' : Env} (h : ρ.le ρ') : ∀ (ds : List AD) (l : List Deferred), DRels ρ ds l → DRels ρ' ds l
  | [], _, e => e
  | d :: ds, _, ⟨d', ds', h1, h2, h3⟩ => ⟨d', ds', h1, h2.mono h, DRels.mono h ds ds' h3⟩
theorem ChRel.mono {ρ' : Env} (h : ρ.le ρ') : ∀ (ch : List PE) (l : List PanicEntry), ChRel ρ ch l → ChRel ρ' ch l
  | [], _, e => e
  | .mk _ _ :: ch, _, ⟨v, c, h1, h2, h3⟩ => ⟨v, c, h1, VRel.mono h _ _ h2, ChRel.mono h ch c h3⟩
theorem URel.mono {ρ' : Env} (h : ρ.le ρ') : ∀ (u : UM) (m : FrameMode), URel ρ u m → URel ρ' u m
  | .none, _, e => e
  | .ret, _, e => e
  | .pan _, _, ⟨c, h1, h2⟩ => ⟨c, h1, ChRel.mono h _ _ h2⟩
theorem ChRel.append : ∀ (x y : List PE) (x' y' : List PanicEntry), ChRel ρ x x' → ChRel ρ y y' → ChRel ρ (x ++ y) (x' ++ y')
  | [], _, _, _, h, h' => by have h : _ = [] := h; subst h; exact h'
  | .mk v r :: x, y, _, y', ⟨v', c, h1, h2, h3⟩, h' => by subst h1; exact ⟨v', c ++ y', rfl, h2, ChRel.append x y c y' h3 h'⟩
theorem FRel.mono {ρ' : Env} (h : ρ.le ρ') {τ : F} {tmps : Array Value} (e : FRel ρ τ tmps) : FRel ρ' τ tmps := fun t => VRel.mono h _ _ (e t)
theorem GRel.mono {ρ' : Env} (h : ρ.le ρ') (e : GRel ρ) : GRel ρ' := fun g hg => (h _ _ (e g hg)).1
def CsRel (ρ : Env) (d : Bool) (c₀ : Frame) (cs₀ : List Frame) (um : UM) (cs : List Frame) : Prop := match d with
  | true => ∃ u, cs = { c₀ with mode := u } :: cs₀ ∧ URel ρ um u
  | false => cs = cs₀
theorem CsRel.mono {ρ' : Env} (h : ρ.le ρ') {d : Bool} {c₀ : Frame} {cs₀ : List Frame} {um : UM} {cs : List Frame} (e : CsRel ρ d c₀ cs₀ um cs) : CsRel ρ' d c₀ cs₀ um cs := by
  cases d with
  | false => exact e
  | true => obtain ⟨u, h1, h2⟩ := e; exact ⟨u, h1, h2.mono h⟩
/-- the loop of whose round a frame is -/
def RoRel (ρ : Env) : Option K → Option Nat → Prop
  | none, r => r = none
  | some k, r => ∃ c, ρ k = some c ∧ r = some c
theorem RoRel.mono {ρ' : Env} (h : ρ.le ρ') : ∀ {k : Option K} {r : Option Nat}, RoRel ρ k r → RoRel ρ' k r
  | none, _, e => e
  | some _, _, ⟨c, h1, h2⟩ => ⟨c, (h _ _ h1).1, h2⟩
def Clean (ρ : Env) (aw : W) : Prop := ∀ k : K, aw.nx.num ≤ k.num → ρ k = none
theorem Clean.fresh {aw : W} (h : Clean ρ aw) (aw' : W) : Fresh ρ aw aw' := fun k hk _ => h k hk
theorem Clean.adv {ρ' : Env} {aw aw' : W} {w w' : World} (h : Clean ρ aw) (e : Adv ρ aw w ρ' aw' w') : Clean ρ' aw' := by
  intro k hk
  have := e.nx
  rcases e.rng k with x | x
  · rw [x]; exact h k (by omega)
  · omega
structure SRel (ρ : Env) (nt : Nat) (d : Bool) (c₀ : Frame) (cs₀ : List Frame) (τ : F) (ds : List AD) (um : UM) (aw : W) (a : Act) (cs : List Frame) (w : World) : Prop where
  g : GRel ρ
  wr : WRel ρ aw w
  cl : Clean ρ aw
  fr : FRel ρ τ a.tmps
  sz : a.tmps.size = nt
  le : nt ≤ 512
  dr : DRels ρ ds a.defers
  um : CsRel ρ d c₀ cs₀ um cs
variable {nt : Nat} {d : Bool} {c₀ : Frame} {cs₀ : List Frame} {τ : F} {ds : List AD} {um : UM} {aw : W} {a : Act} {cs : List Frame} {w : World}
/-- the world goes on -/
theorem SRel.adv {ρ' : Env} {aw' : W} {w' : World} (h : SRel ρ nt d c₀ cs₀ τ ds um aw a cs w) (e : Adv ρ aw w ρ' aw' w') : SRel ρ' nt d c₀ cs₀ τ ds um aw' a cs w' :=
  ⟨h.g.mono e.le, e.rel, h.cl.adv e, h.fr.mono e.le, h.sz, h.le, DRels.mono e.le _ _ h.dr, h.um.mono e.le⟩
theorem put_size (a : Act) (dst : Option Nat) (v : Value) : (a.put dst v).tmps.size = a.tmps.size := by cases dst <;> simp [Act.put]
theorem put_defers (a : Act) (dst : Option Nat) (v : Value) : (a.put dst v).defers = a.defers := by cases dst <;> rfl
theorem SRel.put (h : SRel ρ nt d c₀ cs₀ τ ds um aw a cs w) {v : AV} {v' : Value} (hv : VRel ρ v v') (dst : Option Nat) :
    SRel ρ nt d c₀ cs₀ (fput nt dst v τ) ds um aw (a.put dst v') cs w := by
  refine ⟨h.g, h.wr, h.cl, ?_, by rw [put_size]; exact h.sz, h.le, by rw [put_defers]; exact h.dr, h.um⟩
  cases dst with
  | none => exact h.fr
  | some t => exact frel_putD h.fr h.sz h.le hv t
theorem undef_rel (ρ : Env) : VRel ρ undefA undef := by
  show VRel ρ (.tuple []) _
  simp only [VRel]
  exact ⟨#[], rfl, by simp only [VRels]⟩
theorem eval_rel (h : SRel ρ nt d c₀ cs₀ τ ds um aw a cs w) (x : Operand) : VRel ρ (evX x τ) (a.eval x) := by
  have := evX_rel (fr := (default : Frame).at a []) h.g (τ := τ) h.fr x
  rw [Frame.eval_at] at this
  exact this
/- results -/
theorem resOne_ok (hw : WRel ρ aw w) (hf : FRel ρ τ a.tmps) (r : ResultVar) {v : AV} (h : resOne τ aw r = some v) :
    ∃ v', ((match r with | .tmp t => pure (a.tmps.getD t undef) | .cell x t => do loadVar t (← asAddr (a.tmps.getD x undef))) : Sem Value).run PP w = .ok v' w ∧ VRel ρ v v' := by
  cases r with
  | tmp t => injection h with h; subst h; exact ⟨_, rfl, hf t⟩
  | cell x t =>
    simp only [resOne] at h
    split at h <;> try (cases h; done)
    rename_i b off hp
    split at h <;> cases h
    rename_i a' hl
    have hx := hf x
    rw [hp] at hx
    simp only [VRel] at hx
    obtain ⟨c, hc, he⟩ := hx
    obtain ⟨_, r', h1, h2⟩ := load_pure hw hc t hl
    refine ⟨r', ?_, h2⟩
    show Sem.run PP (do loadVar t (← asAddr (a.tmps.getD x undef))) w = _
    rw [he]
    exact h1
theorem resAll_ok (hw : WRel ρ aw w) (hf : FRel ρ τ a.tmps) : ∀ (l : List ResultVar) (vs : List AV), resAll τ aw l = some vs →
    ∃ vs', (l.mapM (fun r => ((match r with | .tmp t => pure (a.tmps.getD t undef) | .cell x t => do loadVar t (← asAddr (a.tmps.getD x undef))) : Sem Value))).run PP w = .ok vs' w ∧ VRels ρ vs vs'
  | [], vs, h => by
    injection h with h; subst h
    exact ⟨[], rfl, by simp only [VRels]⟩
  | r :: l, vs, h => by
    simp only [resAll] at h
    cases h1 : resOne τ aw r with
    | none => rw [h1] at h; cases h
    | some v =>
      rw [h1] at h
      cases h2 : resAll τ aw l with
      | none => rw [h2] at h; cases h
      | some us =>
        rw [h2] at h
        injection h with h
        subst h
        obtain ⟨v', e1, r1⟩ := resOne_ok hw hf r h1
        obtain ⟨us', e2, r2⟩ := resAll_ok hw hf l us h2
        refine ⟨v' :: us', ?_, by simp only [VRels]; exact ⟨_, _, rfl, r1, r2⟩⟩
        simp only [List.mapM_cons, Sem.run_bind, e1, e2, Result.andThen_ok, Sem.run_pure]
theorem results_ok {fn : Func} (hw : WRel ρ aw w) (hf : FRel ρ τ a.tmps) {v : AV} {aw' : W} (h : results fn τ aw = .ret v aw') :
    aw' = aw ∧ ∃ v', (_root_.Go.results fn a.tmps).run PP w = .ok v' w ∧ VRel ρ v v' := by
  unfold results at h
  split at h <;> cases h
  rename_i vs hr
  obtain ⟨vs', e, r⟩ := resAll_ok hw hf _ vs hr
  refine ⟨rfl, ?_⟩
  have hrun : ∀ v', (if h : vs'.toArray.size = 1 then vs'.toArray[0] else Value.tuple vs'.toArray) = v' → (_root_.Go.results fn a.tmps).run PP w = .ok v' w := by
    intro v' hv
    unfold _root_.Go.results
    rw [Array.mapM_eq_mapM_toList]
    simp only [map_eq_pure_bind, Sem.run_bind, Sem.run_pure]
    refine Eq.trans (congrArg (fun r : Result (List Value) => (Result.andThen r (fun a w' => Result.ok a.toArray w')).andThen (fun a w' => Result.ok (if h : a.size = 1 then a[0] else Value.tuple a) w')) e) ?_
    simp only [Result.andThen_ok]
    rw [← hv]
  cases vs with
  | nil =>
    simp only [VRels] at r; subst r
    exact ⟨_, hrun _ rfl, by simp only [resV, VRel]; exact ⟨_, rfl, by simp only [VRels]⟩⟩
  | cons x vs =>
    simp only [VRels] at r
    obtain ⟨x', xs', rfl, r1, r2⟩ := r
    cases vs with
    | nil =>
      simp only [VRels] at r2; subst r2
      exact ⟨_, hrun _ rfl, r1⟩
    | cons y vs =>
      refine ⟨_, hrun _ rfl, ?_⟩
      simp only [VRels] at r2
      obtain ⟨y', ys', rfl, r3, r4⟩ := r2
      simp only [resV, VRel]
      refine ⟨(x' :: y' :: ys').toArray, by simp, ?_⟩
      simp only [VRels]
      exact ⟨_, _, rfl, r1, _, _, rfl, r3, r4⟩
end
end Go.Ev
