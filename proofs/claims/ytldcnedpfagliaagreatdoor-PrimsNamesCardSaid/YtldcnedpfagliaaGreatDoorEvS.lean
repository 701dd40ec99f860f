import Derived.Test.YtldcnedpfagliaaGreatDoorEvStr
import Derived.Below
set_option linter.all false
namespace Go.Ev
/- What an abstract value, object, world says of a real one. ρ: which block a key stands for. -/
structure Env where
  blk : K → Option Nat
  sz : K → Nat
instance : CoeFun Env (fun _ => K → Option Nat) := ⟨Env.blk⟩
/-- the capacity of a slice: just that, or (of elements of es cells) such that its block has room for it -/
def SlOk (ρ : Env) (b : K) (o cap cap' : Nat) : Option Nat → Prop
  | none => cap' = cap
  | some es => o + cap' * es ≤ ρ.sz b
/-- a function, or the body of a loop over a function (its loop by its key's number) -/
def FnRel (ρ : Env) : Fn → Fn → Prop
  | .yield n, f => ∃ c, ρ (K.of n) = some c ∧ f = .yield c
  | g, f => f = g
/- integers that are not known: their values are kept as the sizes of keys that stand for nothing else -/
noncomputable def decZ (n : Nat) : Int := if n % 2 = 0 then ((n / 2 : Nat) : Int) else -(((n + 1) / 2 : Nat) : Int)
noncomputable def Env.val (ρ : Env) (i : Nat) : Int := if i < 15 then decZ (ρ.sz (K.of (240 + i))) else 0
noncomputable def SE.eval (σ : Nat → Int) : SE → Int
  | .v i => σ i
  | .c n => n
  | .bin op k a b => match op with
    | 0 => k.wrap (a.eval σ + b.eval σ)
    | 1 => k.wrap (a.eval σ - b.eval σ)
    | 2 => k.wrap (a.eval σ * b.eval σ)
    | 3 => k.wrap ((a.eval σ).tdiv (b.eval σ))
    | 4 => (a.eval σ).tmod (b.eval σ)
    | _ => 0
def SA.holds (σ : Nat → Int) : SA → Prop
  | .mk true a b r => decide (a.eval σ < b.eval σ) = r
  | .mk false a b r => decide (a.eval σ = b.eval σ) = r
def SAll (σ : Nat → Int) (A : List SA) : Prop := ∀ x ∈ A, x.holds σ
def VarsIn (ρ : Env) : Prop := ∀ i, i < 15 → ∃ c, ρ (K.of (240 + i)) = some c
mutual
def VRel (ρ : Env) : AV → Value → Prop
  | .bool b, v => v = .bool b
  | .int k n, v => v = .int k n
  | .str l n, v => n < 256 ^ l ∧ v = .string (unpack l n)
  | .nilPtr, v => v = .pointer none
  | .ptr b o, v => ∃ c, ρ b = some c ∧ v = .pointer (some ⟨c, o, none⟩)
  | .nilSlice, v => v = .slice none 0 0
  | .slice b o len cap ex, v => ∃ c cap', ρ b = some c ∧ (len ≤ cap ∧ cap ≤ cap') ∧ SlOk ρ b o cap cap' ex ∧ v = .slice (some ⟨c, o, none⟩) len cap'
  | .nilMap, v => v = .map none
  | .map b, v => ∃ c, ρ b = some c ∧ v = .map (some c)
  | .func fn x y, v => ∃ fn' x' y', v = .func fn' x' y' ∧ FnRel ρ fn fn' ∧ VRels ρ x x'.toList ∧ VRels ρ y y'.toList
  | .nilFunc, v => v = .nilFunc
  | .iface t a, v => ∃ v', v = .iface t v' ∧ VRel ρ a v'
  | .nilIface, v => v = .nilIface
  | .agg xs, v => ∃ ys, v = .agg ys ∧ VRels ρ xs ys.toList
  | .tuple xs, v => ∃ ys, v = .tuple ys ∧ VRels ρ xs ys.toList
  | .esl, v => ∃ p cap', v = .slice (some p) 0 cap'
  | .wsl b kb d n, v => ∃ c c' cap', ρ b = some c ∧ ρ kb = some c' ∧ (1 ≤ n ∧ n ≤ cap' ∧ cap' ≤ 9223372036854775807 ∧ ρ.sz kb + d + cap' ≤ ρ.sz b) ∧ v = .slice (some ⟨c, ρ.sz kb + d, none⟩) n cap'
  | .wse b, v => ∃ c p cap', ρ b = some c ∧ (cap' ≤ 9223372036854775807 ∧ p + cap' ≤ ρ.sz b) ∧ v = .slice (some ⟨c, p, none⟩) 0 cap'
  | .wptr b kb i, v => ∃ c c', ρ b = some c ∧ ρ kb = some c' ∧ v = .pointer (some ⟨c, ρ.sz kb + i, none⟩)
  | .sym k e A, v => VarsIn ρ ∧ SAll ρ.val A ∧ v = .int k (e.eval ρ.val)
  | .top, _ => True
def VRels (ρ : Env) : List AV → List Value → Prop
  | [], l => l = []
  | a :: r, l => ∃ v vs, l = v :: vs ∧ VRel ρ a v ∧ VRels ρ r vs
end
def Env.le (ρ ρ' : Env) : Prop := ∀ k c, ρ k = some c → ρ' k = some c ∧ ρ'.sz k = ρ.sz k
theorem Env.le_refl (ρ : Env) : ρ.le ρ := fun _ _ h => ⟨h, rfl⟩
theorem Env.le_trans {a b c : Env} (h : a.le b) (h' : b.le c) : a.le c := fun k x e => ⟨(h' k x (h k x e).1).1, ((h' k x (h k x e).1).2).trans (h k x e).2⟩
theorem SlOk.mono {ρ ρ' : Env} {b : K} {o cap cap' : Nat} {ex : Option Nat} (h : ρ'.sz b = ρ.sz b) (e : SlOk ρ b o cap cap' ex) : SlOk ρ' b o cap cap' ex := by
  cases ex with
  | none => exact e
  | some es => simp only [SlOk] at e ⊢; rw [h]; exact e
theorem FnRel.mono {ρ ρ' : Env} (h : ρ.le ρ') : ∀ {f g : Fn}, FnRel ρ f g → FnRel ρ' f g := by
  intro f g e
  cases f <;> first | exact e | (obtain ⟨c, h1, h2⟩ := e; exact ⟨c, (h _ _ h1).1, h2⟩)
theorem FnRel.plain {ρ : Env} {f g : Fn} (h : ∀ n, f ≠ .yield n) (e : FnRel ρ f g) : g = f := by
  cases f <;> first | exact e | exact absurd rfl (h _)
theorem FnRel.refl {ρ : Env} {f : Fn} (h : ∀ n, f ≠ .yield n) : FnRel ρ f f := by
  cases f <;> first | rfl | exact absurd rfl (h _)
theorem val_mono {ρ ρ' : Env} (h : ρ.le ρ') (hv : VarsIn ρ) : VarsIn ρ' ∧ ρ'.val = ρ.val := by
  refine ⟨fun i hi => let ⟨c, e⟩ := hv i hi; ⟨c, (h _ _ e).1⟩, funext fun i => ?_⟩
  unfold Env.val
  split
  · rename_i hi
    obtain ⟨c, e⟩ := hv i hi
    rw [(h _ _ e).2]
  · rfl
mutual
theorem VRel.mono {ρ ρ' : Env} (h : ρ.le ρ') : ∀ (a : AV) (v : Value), VRel ρ a v → VRel ρ' a v
  | .bool _, _, e | .int _ _, _, e | .str _ _, _, e | .nilPtr, _, e | .nilSlice, _, e | .nilMap, _, e | .nilFunc, _, e | .nilIface, _, e | .esl, _, e | .top, _, e => by simpa only [VRel] using e
  | .ptr _ _, _, e => by simp only [VRel] at e ⊢; obtain ⟨c, h1, h2⟩ := e; exact ⟨c, (h _ _ h1).1, h2⟩
  | .slice _ _ _ _ _, _, e => by simp only [VRel] at e ⊢; obtain ⟨c, cap', h1, h2, h3, h4⟩ := e; exact ⟨c, cap', (h _ _ h1).1, h2, SlOk.mono (h _ _ h1).2 h3, h4⟩
  | .map _, _, e => by simp only [VRel] at e ⊢; obtain ⟨c, h1, h2⟩ := e; exact ⟨c, (h _ _ h1).1, h2⟩
  | .wsl _ _ _ _, _, e => by simp only [VRel] at e ⊢; obtain ⟨c, c', cap', h1, h2, h3, h4⟩ := e; exact ⟨c, c', cap', (h _ _ h1).1, (h _ _ h2).1, by rw [(h _ _ h1).2, (h _ _ h2).2]; exact h3, by rw [(h _ _ h2).2]; exact h4⟩
  | .wse _, _, e => by simp only [VRel] at e ⊢; obtain ⟨c, p, cap', h1, h3, h4⟩ := e; exact ⟨c, p, cap', (h _ _ h1).1, by rw [(h _ _ h1).2]; exact h3, h4⟩
  | .sym _ _ _, _, e => by simp only [VRel] at e ⊢; obtain ⟨h1, h2, h3⟩ := e; obtain ⟨q1, q2⟩ := val_mono h h1; rw [q2]; exact ⟨q1, h2, h3⟩
  | .wptr _ _ _, _, e => by simp only [VRel] at e ⊢; obtain ⟨c, c', h1, h2, h4⟩ := e; exact ⟨c, c', (h _ _ h1).1, (h _ _ h2).1, by rw [(h _ _ h2).2]; exact h4⟩
  | .func _ x y, _, e => by simp only [VRel] at e ⊢; obtain ⟨f', x', y', h1, h0, h2, h3⟩ := e; exact ⟨f', x', y', h1, h0.mono h, VRels.mono h x _ h2, VRels.mono h y _ h3⟩
  | .iface _ a, _, e => by simp only [VRel] at e ⊢; obtain ⟨v', h1, h2⟩ := e; exact ⟨v', h1, VRel.mono h a _ h2⟩
  | .agg xs, _, e => by simp only [VRel] at e ⊢; obtain ⟨ys, h1, h2⟩ := e; exact ⟨ys, h1, VRels.mono h xs _ h2⟩
  | .tuple xs, _, e => by simp only [VRel] at e ⊢; obtain ⟨ys, h1, h2⟩ := e; exact ⟨ys, h1, VRels.mono h xs _ h2⟩
theorem VRels.mono {ρ ρ' : Env} (h : ρ.le ρ') : ∀ (l : List AV) (vs : List Value), VRels ρ l vs → VRels ρ' l vs
  | [], _, e => by simpa only [VRels] using e
  | a :: l, _, e => by simp only [VRels] at e ⊢; obtain ⟨v, vs, h1, h2, h3⟩ := e; exact ⟨v, vs, h1, VRel.mono h a _ h2, VRels.mono h l _ h3⟩
end
theorem VRels.length {ρ : Env} : ∀ (l : List AV) (vs : List Value), VRels ρ l vs → vs.length = l.length
  | [], _, e => by simp only [VRels] at e; subst e; rfl
  | a :: l, _, e => by simp only [VRels] at e; obtain ⟨v, vs, rfl, _, h3⟩ := e; simp [VRels.length l vs h3]
theorem VRels.get {ρ : Env} : ∀ (l : List AV) (vs : List Value), VRels ρ l vs → ∀ (i : Nat) (h : i < l.length), ∃ v, vs[i]? = some v ∧ VRel ρ l[i] v
  | [], _, _, i, h => by simp at h
  | a :: l, _, e, i, h => by
    simp only [VRels] at e; obtain ⟨v, vs, rfl, h2, h3⟩ := e
    cases i with
    | zero => exact ⟨v, rfl, h2⟩
    | succ i => exact VRels.get l vs h3 i (by simpa using h)
theorem VRels.of_get {ρ : Env} : ∀ (l : List AV) (vs : List Value), vs.length = l.length → (∀ (i : Nat) (h : i < l.length), ∃ v, vs[i]? = some v ∧ VRel ρ l[i] v) → VRels ρ l vs
  | [], [], _, _ => by simp only [VRels]
  | [], _ :: _, h, _ => by simp at h
  | _ :: _, [], h, _ => by simp at h
  | a :: l, v :: vs, h, e => by
    simp only [VRels]
    obtain ⟨v', h1, h2⟩ := e 0 (by simp)
    simp at h1; subst h1
    refine ⟨v, vs, rfl, by simpa using h2, VRels.of_get l vs (by simpa using h) fun i hi => ?_⟩
    obtain ⟨v', h1, h2⟩ := e (i + 1) (by simpa using hi)
    exact ⟨v', by simpa using h1, by simpa using h2⟩
theorem VRels.append {ρ : Env} : ∀ (l l' : List AV) (vs vs' : List Value), VRels ρ l vs → VRels ρ l' vs' → VRels ρ (l ++ l') (vs ++ vs')
  | [], _, _, _, h, h' => by simp only [VRels] at h; subst h; exact h'
  | a :: l, l', _, vs', h, h' => by
    simp only [VRels] at h; obtain ⟨v, vs, rfl, h2, h3⟩ := h
    simp only [List.cons_append, VRels]
    exact ⟨v, vs ++ vs', rfl, h2, VRels.append l l' vs vs' h3 h'⟩

/-- the cells of a block -/
def CRel (ρ : Env) (size : Nat) (c : Cells) (arr : Array Value) : Prop := ∀ i, i < size → ∃ v, arr[i]? = some v ∧ VRel ρ (cget c i) v
def ERel (ρ : Env) : List (AV × AV) → List MapEntry → Prop
  | [], l => l = []
  | e :: es, l => ∃ m ms, l = m :: ms ∧ VRel ρ e.1 m.key ∧ VRel ρ e.2 m.val ∧ ERel ρ es ms
theorem ERel.mono {ρ ρ' : Env} (h : ρ.le ρ') : ∀ es l, ERel ρ es l → ERel ρ' es l
  | [], _, e => e
  | _ :: es, _, ⟨m, ms, h1, h2, h3, h4⟩ => ⟨m, ms, h1, VRel.mono h _ _ h2, VRel.mono h _ _ h3, ERel.mono h es ms h4⟩
def ORel (ρ : Env) (o : AObj) (x0 : Option Obj) : Prop :=
  match o with
  | .none => True
  | .cells t size ext fl fh c => ∃ arr fz, x0 = some (.cells arr t fz) ∧ size ≤ arr.size ∧ (ext = false → arr.size = size) ∧ size ≤ ccap c ∧ (fz.1 ≤ fz.2 ∧ ∀ i, fz.1 ≤ i → i < fz.2 → fl ≤ i ∧ i < fh) ∧ CRel ρ size c arr
  | .ro _ size c => ∃ arr t' fz, x0 = some (.cells arr t' fz) ∧ arr.size = size ∧ size ≤ ccap c ∧ CRel ρ size c arr
  | .map es => ∃ entries clock, x0 = some (.map entries clock) ∧ ERel ρ es entries.toList
  | .umap es => ∃ entries clock l, x0 = some (.map entries clock) ∧ l.Perm es ∧ ERel ρ l entries.toList
  | .strIter len n pos => x0 = some (.stringIter (unpack len n) pos) ∧ n < 256 ^ len
  | .loop st pend fn nt τ ps x y kd => ∃ tmps c, x0 = some (.loop { state := st, pending := pend, fn, tmps, params := ps.toArray, assign := x, body := y, defers := c }) ∧ ρ kd = some c ∧ tmps.size = nt ∧ nt ≤ 512 ∧ ∀ t, VRel ρ (fget t τ) (tmps.getD t undef)
  | .win kb l => ∃ arr t fz c', x0 = some (.cells arr t fz) ∧ ρ kb = some c' ∧ fz.2 ≤ fz.1 ∧ ∀ (i : Nat) (h : i < l.length), ∃ v, arr[ρ.sz kb + i]? = some v ∧ VRel ρ l[i] v
  | .deferred (some []) => x0 = some (.deferred (some []))
  | .deferred none => x0 = some (.deferred none)
  | .deferred _ => False
theorem ORel.mono {ρ ρ' : Env} (h : ρ.le ρ') {o : AObj} {x : Option Obj} (e : ORel ρ o x) : ORel ρ' o x := by
  cases o with
  | none => trivial
  | cells t size ext fl fh c =>
    obtain ⟨arr, fz, h1, h2, h3, h4, h5, h6⟩ := e
    exact ⟨arr, fz, h1, h2, h3, h4, h5, fun i hi => let ⟨v, a, b⟩ := h6 i hi; ⟨v, a, VRel.mono h _ _ b⟩⟩
  | ro t size c =>
    obtain ⟨arr, t', fz, h1, h2, h3, h6⟩ := e
    exact ⟨arr, t', fz, h1, h2, h3, fun i hi => let ⟨v, a, b⟩ := h6 i hi; ⟨v, a, VRel.mono h _ _ b⟩⟩
  | map es => obtain ⟨a, b, h1, h2⟩ := e; exact ⟨a, b, h1, ERel.mono h _ _ h2⟩
  | umap es => obtain ⟨a, b, l, h1, h2, h3⟩ := e; exact ⟨a, b, l, h1, h2, ERel.mono h _ _ h3⟩
  | strIter => exact e
  | loop st pend fn nt τ ps x y kd => obtain ⟨tmps, c, h1, h2, h3, h4, h5⟩ := e; exact ⟨tmps, c, h1, (h _ _ h2).1, h3, h4, fun t => VRel.mono h _ _ (h5 t)⟩
  | win kb l =>
    obtain ⟨arr, t, fz, c', h1, h2, h3, h4⟩ := e
    exact ⟨arr, t, fz, c', h1, (h _ _ h2).1, h3, fun i hi => let ⟨v, a, b⟩ := h4 i hi; ⟨v, by rw [(h _ _ h2).2]; exact a, VRel.mono h _ _ b⟩⟩
  | deferred ds =>
    cases ds with
    | none => exact e
    | some l => cases l with
      | nil => exact e
      | cons _ _ => exact e.elim
theorem ORel.some {ρ : Env} {o : AObj} {x : Option Obj} (e : ORel ρ o x) (h : o ≠ .none) : ∃ y, x = some y := by
  cases o with
  | none => exact absurd rfl h
  | cells => obtain ⟨arr, fz, h1, _⟩ := e; exact ⟨_, h1⟩
  | ro => obtain ⟨arr, t', fz, h1, _⟩ := e; exact ⟨_, h1⟩
  | map => obtain ⟨a, b, h1, _⟩ := e; exact ⟨_, h1⟩
  | umap es => obtain ⟨a, b, l, h1, _⟩ := e; exact ⟨_, h1⟩
  | strIter => exact ⟨_, e.1⟩
  | loop st pend fn nt τ ps x y kd => obtain ⟨tmps, c, h1, _⟩ := e; exact ⟨_, h1⟩
  | win kb l => obtain ⟨arr, t, fz, c', h1, _⟩ := e; exact ⟨_, h1⟩
  | deferred ds =>
    cases ds with
    | none => exact ⟨_, e⟩
    | some l => cases l with
      | nil => exact ⟨_, e⟩
      | cons _ _ => exact e.elim

def W.h : W → H4 | .mk h _ => h
def W.nx : W → K | .mk _ nx => nx
@[simp] theorem W.h_mk (h : H4) (nx : K) : (W.mk h nx).h = h := rfl
@[simp] theorem W.nx_mk (h : H4) (nx : K) : (W.mk h nx).nx = nx := rfl
theorem wget_eq (b : K) (a : W) : wget b a = hget b a.h := by cases a; rfl
theorem wset_eq (b : K) (o : AObj) (a : W) : wset b o a = .mk (hset b o a.h) a.nx := by cases a; rfl
def AObj.isRo : AObj → Bool | .ro .. => true | _ => false

structure WRel (ρ : Env) (a : W) (w : World) : Prop where
  inj : ∀ k l, hget k a.h ≠ .none → hget l a.h ≠ .none → ρ k = ρ l → k = l
  dom : ∀ k, hget k a.h ≠ .none → ∃ c, ρ k = some c ∧ ORel ρ (hget k a.h) (w.heap[c]?)
  len : ∀ k c arr t fz, hget k a.h ≠ .none → ρ k = some c → w.heap[c]? = some (.cells arr t fz) → arr.size = ρ.sz k
/-- a block that the abstract world may write -/
def Own (ρ : Env) (a : W) (c : Nat) : Prop := ∃ k, hget k a.h ≠ .none ∧ (hget k a.h).isRo = false ∧ ρ k = some c
/-- no key from a's next to a''s next is in use -/
def Fresh (ρ : Env) (a a' : W) : Prop := ∀ k, a.nx.num ≤ k.num → k.num < a'.nx.num → ρ k = none
/-- one step on: from (ρ, a, w) to (ρ', a', w') -/
structure Adv (ρ : Env) (a : W) (w : World) (ρ' : Env) (a' : W) (w' : World) : Prop where
  rel : WRel ρ' a' w'
  le : ρ.le ρ'
  rng : ∀ k, ρ' k = ρ k ∨ (a.nx.num ≤ k.num ∧ k.num < a'.nx.num)
  nx : a.nx.num ≤ a'.nx.num
  size : w.heap.size ≤ w'.heap.size
  own : ∀ c, Own ρ' a' c → Own ρ a c ∨ w.heap.size ≤ c
  keep : ∀ k c, hget k a'.h ≠ .none → ρ' k = some c → (∃ l, hget l a.h ≠ .none ∧ ρ l = some c) ∨ w.heap.size ≤ c
  frame : ∀ c, c < w.heap.size → ¬ Own ρ a c → w'.heap[c]? = w.heap[c]?
  os : w'.os = w.os
  tape : w'.tape = w.tape
  output : w'.output = w.output
theorem Adv.refl {ρ : Env} {a : W} {w : World} (h : WRel ρ a w) : Adv ρ a w ρ a w :=
  ⟨h, Env.le_refl ρ, fun _ => .inl rfl, Nat.le_refl _, Nat.le_refl _, fun _ h => .inl h, fun k _ h e => .inl ⟨k, h, e⟩, fun _ _ _ => rfl, rfl, rfl, rfl⟩
theorem Adv.trans {ρ ρ1 ρ2 : Env} {a a1 a2 : W} {w w1 w2 : World} (h : Adv ρ a w ρ1 a1 w1) (k : Adv ρ1 a1 w1 ρ2 a2 w2) : Adv ρ a w ρ2 a2 w2 where
  rel := k.rel
  le := Env.le_trans h.le k.le
  rng x := by
    have := h.nx; have := k.nx
    rcases k.rng x with e | e
    · rcases h.rng x with e' | e'
      · exact .inl (e.trans e')
      · exact .inr (by omega)
    · exact .inr (by omega)
  nx := Nat.le_trans h.nx k.nx
  size := Nat.le_trans h.size k.size
  own c hc := by
    have := h.size
    rcases k.own c hc with e | e
    · rcases h.own c e with e' | e'
      · exact .inl e'
      · exact .inr e'
    · exact .inr (by omega)
  keep x c hx hc := by
    have := h.size
    rcases k.keep x c hx hc with ⟨l, e1, e2⟩ | e
    · exact h.keep l c e1 e2
    · exact .inr (by omega)
  frame c hc hn := by
    have hs := h.size
    rw [k.frame c (by omega) (fun e => by rcases h.own c e with e' | e'; exact hn e'; omega)]
    exact h.frame c hc hn
  os := k.os.trans h.os
  tape := k.tape.trans h.tape
  output := k.output.trans h.output
theorem Fresh.left {ρ : Env} {a a1 a2 : W} (h : Fresh ρ a a2) (h' : a1.nx.num ≤ a2.nx.num) : Fresh ρ a a1 := fun k h1 h2 => h k h1 (by omega)
theorem Fresh.right {ρ ρ1 : Env} {a a1 a2 : W} {w w1 : World} (h : Fresh ρ a a2) (k : Adv ρ a w ρ1 a1 w1) : Fresh ρ1 a1 a2 := by
  intro x h1 h2
  have := k.nx
  rcases k.rng x with e | e
  · rw [e]; exact h x (by omega) h2
  · omega
/-- a draw changes nothing here -/
theorem Adv.drew {ρ ρ' : Env} {a a' : W} {w w' : World} (h : Adv ρ a w ρ' a' w') : Adv ρ a w ρ' a' w'.drew :=
  ⟨⟨h.rel.inj, h.rel.dom, h.rel.len⟩, h.le, h.rng, h.nx, h.size, h.own, h.keep, h.frame, h.os, h.tape, h.output⟩

def upd (ρ : Env) (k : K) (c n : Nat) : Env := { blk := fun l => if l = k then some c else ρ l, sz := fun l => if l = k then n else ρ.sz l }
theorem upd_same (ρ : Env) (k : K) (c n : Nat) : upd ρ k c n k = some c := by simp [upd]
theorem upd_ne (ρ : Env) {k l : K} (h : l ≠ k) (c n : Nat) : upd ρ k c n l = ρ l := by simp [upd, h]
theorem sz_same (ρ : Env) (k : K) (c n : Nat) : (upd ρ k c n).sz k = n := by simp [upd]
theorem sz_ne (ρ : Env) {k l : K} (h : l ≠ k) (c n : Nat) : (upd ρ k c n).sz l = ρ.sz l := by simp [upd, h]
theorem le_upd (ρ : Env) (k : K) (c n : Nat) (h : ρ k = none) : ρ.le (upd ρ k c n) := by
  intro l x e
  by_cases hk : l = k
  · subst hk; rw [h] at e; cases e
  · rw [upd_ne ρ hk, sz_ne ρ hk]; exact ⟨e, rfl⟩
def Obj.cellCount : Obj → Nat
  | .cells arr _ _ => arr.size
  | _ => 0
/-- a new block -/
theorem adv_new {ρ : Env} {h : H4} {nx : K} {w : World} {o : AObj} {obj : Obj} (hw : WRel ρ (.mk h nx) w) (hf : ρ nx = none) (hm : nx.isMax = false)
    (ho : ORel ρ o (some obj)) : Adv ρ (.mk h nx) w (upd ρ nx w.heap.size (Obj.cellCount obj)) (.mk (hset nx o h) nx.succ) (w.alloc obj) := by
  have hle := le_upd ρ nx w.heap.size (Obj.cellCount obj) hf
  have hn : hget nx h = .none := by
    by_cases e : hget nx h = .none
    · exact e
    · obtain ⟨c, hc, _⟩ := hw.dom nx e; rw [hf] at hc; cases hc
  have lt : ∀ k c, hget k h ≠ .none → ρ k = some c → c < w.heap.size := by
    intro k c hk hc
    obtain ⟨c', hc', ho'⟩ := hw.dom k hk
    rw [hc] at hc'; cases hc'
    obtain ⟨y, hy⟩ := ho'.some hk
    exact (Array.getElem?_eq_some_iff.1 hy).1
  have old : ∀ k, k ≠ nx → hget k (hset nx o h) = hget k h := fun k hk => hget_hset_ne hk o h
  have get : ∀ c, c < w.heap.size → (w.alloc obj).heap[c]? = w.heap[c]? := fun c hc => RowKit.Below.heap_alloc w obj c hc
  have hnx : nx.succ.num = nx.num + 1 := K.succ_num hm
  refine ⟨⟨?_, ?_, ?_⟩, hle, ?_, ?_, ?_, ?_, ?_, ?_, rfl, rfl, rfl⟩
  · intro k l hk hl e
    simp only [W.h_mk] at hk hl
    by_cases k1 : k = nx
    · by_cases l1 : l = nx
      · rw [k1, l1]
      · exfalso
        rw [old l l1] at hl
        obtain ⟨c, hc, _⟩ := hw.dom l hl
        rw [k1, upd_same, upd_ne ρ l1, hc] at e
        have := lt l c hl hc
        injection e with e; omega
    · rw [old k k1] at hk
      by_cases l1 : l = nx
      · exfalso
        obtain ⟨c, hc, _⟩ := hw.dom k hk
        rw [l1, upd_same, upd_ne ρ k1, hc] at e
        have := lt k c hk hc
        injection e with e; omega
      · rw [old l l1] at hl
        rw [upd_ne ρ k1, upd_ne ρ l1] at e
        exact hw.inj k l hk hl e
  · intro k hk
    simp only [W.h_mk] at hk ⊢
    by_cases k1 : k = nx
    · subst k1
      refine ⟨w.heap.size, upd_same ρ k _ _, ?_⟩
      rw [hget_hset_same]
      have : (w.alloc obj).heap[w.heap.size]? = some obj := by show (w.heap.push obj)[w.heap.size]? = _; simp
      rw [this]
      exact ho.mono hle
    · rw [old k k1] at hk ⊢
      obtain ⟨c, hc, ho'⟩ := hw.dom k hk
      refine ⟨c, by rw [upd_ne ρ k1]; exact hc, ?_⟩
      rw [get c (lt k c hk hc)]
      exact ho'.mono hle
  · intro k c arr t fz hk hc hx
    simp only [W.h_mk] at hk
    by_cases k1 : k = nx
    · subst k1
      rw [upd_same] at hc
      injection hc with hc
      subst hc
      have : (w.alloc obj).heap[w.heap.size]? = some obj := by show (w.heap.push obj)[w.heap.size]? = _; simp
      rw [this] at hx
      injection hx with hx
      rw [sz_same, hx]; rfl
    · rw [old k k1] at hk
      rw [upd_ne ρ k1] at hc
      rw [get c (lt k c hk hc)] at hx
      rw [sz_ne ρ k1]
      exact hw.len k c arr t fz hk hc hx
  · intro k
    by_cases k1 : k = nx
    · subst k1; right; simp only [W.nx_mk]; omega
    · left; exact upd_ne ρ k1 _ _
  · simp only [W.nx_mk]; omega
  · rw [World.size_alloc]; omega
  · rintro c ⟨k, hk, hr, hc⟩
    simp only [W.h_mk] at hk hr
    by_cases k1 : k = nx
    · subst k1; rw [upd_same] at hc; injection hc with hc; right; omega
    · rw [old k k1] at hk hr; rw [upd_ne ρ k1] at hc
      exact .inl ⟨k, hk, hr, hc⟩
  · intro k c hk hc
    simp only [W.h_mk] at hk
    by_cases k1 : k = nx
    · subst k1; rw [upd_same] at hc; injection hc with hc; right; omega
    · rw [old k k1] at hk; rw [upd_ne ρ k1] at hc
      exact .inl ⟨k, hk, hc⟩
  · intro c hc _; exact get c hc
/-- a block that is written -/
theorem adv_put {ρ : Env} {a : W} {w w' : World} {b : K} {c : Nat} {o : AObj} {obj : Obj} (hw : WRel ρ a w) (hb : hget b a.h ≠ .none) (hr : (hget b a.h).isRo = false)
    (hc : ρ b = some c) (ho : ORel ρ o (some obj)) (hn : o ≠ .none) (hcount : ∀ arr t fz, obj = .cells arr t fz → arr.size = ρ.sz b) (hx : w'.heap[c]? = some obj) (hs : w'.heap.size = w.heap.size) (hother : ∀ d, d ≠ c → w'.heap[d]? = w.heap[d]?)
    (h1 : w'.os = w.os) (h2 : w'.tape = w.tape) (h3 : w'.output = w.output) : Adv ρ a w ρ (wset b o a) w' := by
  rw [wset_eq]
  have old : ∀ k, k ≠ b → hget k (hset b o a.h) = hget k a.h := fun k hk => hget_hset_ne hk o a.h
  have liv : ∀ k, hget k (hset b o a.h) ≠ .none → hget k a.h ≠ .none := by
    intro k hk
    by_cases e : k = b
    · subst e; exact hb
    · rw [old k e] at hk; exact hk
  refine ⟨⟨?_, ?_, ?_⟩, Env.le_refl ρ, fun _ => .inl rfl, Nat.le_refl _, by omega, ?_, fun k c hk hc => .inl ⟨k, liv k hk, hc⟩, ?_, h1, h2, h3⟩
  · intro k l hk hl e; exact hw.inj k l (liv k hk) (liv l hl) e
  · intro k hk
    simp only [W.h_mk] at hk ⊢
    by_cases e : k = b
    · subst e; exact ⟨c, hc, by rw [hget_hset_same, hx]; exact ho⟩
    · have hk' := liv k hk
      obtain ⟨d, hd, ho'⟩ := hw.dom k hk'
      refine ⟨d, hd, ?_⟩
      rw [old k e, hother d]
      · exact ho'
      · intro e'; subst e'; exact e (hw.inj k b hk' hb (by rw [hd, hc]))
  · intro k d arr t fz hk hd hxx
    simp only [W.h_mk] at hk
    by_cases e : k = b
    · subst e
      rw [hc] at hd; injection hd with hd; subst hd
      rw [hx] at hxx; injection hxx with hxx
      exact hcount arr t fz hxx
    · have hk' := liv k hk
      rw [hother d] at hxx
      · exact hw.len k d arr t fz hk' hd hxx
      · intro e'; subst e'; exact e (hw.inj k b hk' hb (by rw [hd, hc]))
  · rintro d ⟨k, hk, hr', hd⟩
    simp only [W.h_mk] at hk hr'
    by_cases e : k = b
    · subst e; exact .inl ⟨k, hb, hr, hd⟩
    · rw [old k e] at hk hr'; exact .inl ⟨k, hk, hr', hd⟩
  · intro d _ hd
    exact hother d fun e => hd ⟨b, hb, hr, by rw [e]; exact hc⟩
end Go.Ev
