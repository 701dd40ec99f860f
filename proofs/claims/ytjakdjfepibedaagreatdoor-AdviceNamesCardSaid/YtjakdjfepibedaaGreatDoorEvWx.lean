import Derived.Test.YtjakdjfepibedaaGreatDoorEvGo
set_option linter.all false
namespace Go.Ev
/- Calls whose heap is known: a long run cut into pieces. -/
noncomputable section
def pairsEq (f : AV → AV → Bool) : List (AV × AV) → List (AV × AV) → Bool
  | [], [] => true
  | a :: l, b :: m => bc (f a.1 b.1) (bc (f a.2 b.2) (pairsEq f l m) false) false
  | _, _ => false
/-- blocks, written out -/
inductive LO where
  | cells (t : TypeId) (ext : Bool) (fl fh : Nat) (l : List AV)
  | map (es : List (AV × AV))
  | win (kb : Nat) (l : List AV)
def beqB : Bool → Bool → Bool
  | true, b => b
  | false, b => !b
def objOf : LO → AObj
  | .cells t e fl fh l => .cells t (llen l) e fl fh (cfill l 0 (cempty (llen l)))
  | .map es => .map es
  | .win kb l => .win (K.of kb) l
def loOk : LO → AObj → Bool
  | .cells t e fl fh l, .cells t' s e' fl' fh' c => Nat.beq t t' && beqB e e' && Nat.beq fl fl' && Nat.beq fh fh' && Nat.beq s (llen l) && Nat.ble s 65536 && listEq (avEq 8) (clist c s 0) l
  | .map es, .map es' => pairsEq (avEq 8) es' es
  | .win kb l, .win kb' l' => K.beq kb' (K.of kb) && listEq (avEq 8) l' l
  | _, _ => false
inductive HO where
  | mk (k : Nat) (o : LO)
def buildH : List HO → H4
  | [] => layH laidL
  | .mk k o :: l => hset (K.of k) (objOf o) (buildH l)
def heldIn : List HO → W → Bool
  | [], _ => true
  | .mk k o :: l, w => bc (loOk o (wget (K.of k) w)) (heldIn l w) false
def wnx (w : W) : K := match w with
  | .mk _ nx => nx
def withL (L : List HO) (nx : Nat) : W := .mk (buildH L) (K.of nx)
def fitsL (L : List HO) (nx : Nat) (w : W) : Bool := bc (K.beq (wnx w) (K.of nx)) (bc (laidIs laidL w) (heldIn L w) false) false
def segV (r : CR) (v : AV) (L : List HO) (nx : Nat) : Bool := match r with
  | .ret v' w => bc (avEq 8 v v') (fitsL L nx w) false
  | _ => false
inductive HW where
  | mk (f : FuncId) (vs : List AV) (nxi : Nat) (Li : List HO) (v : AV) (nxo : Nat) (Lo : List HO)
def hooksW (l : List HW) (f : FuncId) (vs : List AV) (w : W) : Option CR := match l with
  | [] => none
  | .mk g us nxi Li v nxo Lo :: l => bc (Nat.beq f g) (bc (listEq (avEq 8) us vs) (bc (fitsL Li nxi w) (some (.ret v (withL Lo nxo))) (hooksW l f vs w)) (hooksW l f vs w)) (hooksW l f vs w)
end
theorem pairsEq_eq {f : AV → AV → Bool} (hf : ∀ a b, f a b = true → a = b) : ∀ l m, pairsEq f l m = true → l = m
  | [], [], _ => rfl
  | [], _ :: _, h => by cases h
  | _ :: _, [], h => by cases h
  | a :: l, b :: m, h => by
    simp only [pairsEq] at h
    obtain ⟨h1, h⟩ := bc_and.1 h
    obtain ⟨h2, h3⟩ := bc_and.1 h
    rw [pairsEq_eq hf l m h3, show a = b from Prod.ext (hf _ _ h1) (hf _ _ h2)]
/-- a heap that knows less -/
structure Sub (a' a : W) : Prop where
  nx : a'.nx = a.nx
  at_ : ∀ k, hget k a'.h ≠ .none → hget k a.h ≠ .none ∧ (hget k a'.h).isRo = (hget k a.h).isRo ∧ ∀ ρ x, ORel ρ (hget k a.h) x → ORel ρ (hget k a'.h) x
section
variable {ρ ρ' : Env} {a a' a2 : W} {w w' : World}
theorem WRel.sub (h : WRel ρ a w) (s : Sub a' a) : WRel ρ a' w :=
  ⟨fun k l hk hl e => h.inj k l (s.at_ k hk).1 (s.at_ l hl).1 e,
   fun k hk => let ⟨c, h1, h2⟩ := h.dom k (s.at_ k hk).1; ⟨c, h1, (s.at_ k hk).2.2 _ _ h2⟩,
   fun k c arr t fz hk hc hx => h.len k c arr t fz (s.at_ k hk).1 hc hx⟩
theorem Own.sub {c : Nat} (h : Own ρ a' c) (s : Sub a' a) : Own ρ a c := by
  obtain ⟨k, h1, h2, h3⟩ := h
  exact ⟨k, (s.at_ k h1).1, by rw [← (s.at_ k h1).2.1]; exact h2, h3⟩
theorem Adv.left (h : Adv ρ a' w ρ' a2 w') (s : Sub a' a) : Adv ρ a w ρ' a2 w' :=
  ⟨h.rel, h.le, fun k => by rw [← s.nx]; exact h.rng k, by rw [← s.nx]; exact h.nx, h.size,
   fun c hc => (h.own c hc).imp (fun x => x.sub s) id,
   fun k c hk hc => (h.keep k c hk hc).imp (fun ⟨l, h1, h2⟩ => ⟨l, (s.at_ l h1).1, h2⟩) id,
   fun c hc hn => h.frame c hc fun x => hn (x.sub s), h.os, h.tape, h.output⟩
theorem Adv.right (h : Adv ρ a w ρ' a2 w') (s : Sub a' a2) : Adv ρ a w ρ' a' w' :=
  ⟨h.rel.sub s, h.le, fun k => by rw [s.nx]; exact h.rng k, by rw [s.nx]; exact h.nx, h.size,
   fun c hc => h.own c (hc.sub s), fun k c hk hc => h.keep k c (s.at_ k hk).1 hc, h.frame, h.os, h.tape, h.output⟩
end
theorem beqB_eq {a b : Bool} (h : beqB a b = true) : a = b := by cases a <;> cases b <;> first | rfl | cases h
theorem objOf_ne (o : LO) : objOf o ≠ .none := by cases o <;> simp [objOf]
theorem objOf_ro (o : LO) : (objOf o).isRo = false := by cases o <;> rfl
theorem clist_get {c : Cells} {n : Nat} {l : List AV} (h : clist c n 0 = l) (i : Nat) (hi : i < n) (hl : i < l.length) : cget c i = l[i] := by
  subst h
  simp [clist_eq]
theorem loOk_rel {o : LO} {x : AObj} (h : loOk o x = true) : x ≠ .none ∧ x.isRo = false ∧ ∀ ρ y, ORel ρ x y → ORel ρ (objOf o) y := by
  unfold loOk at h
  split at h
  · rename_i t e fl fh l t' s e' fl' fh' c
    simp only [Bool.and_eq_true] at h
    obtain ⟨⟨⟨⟨⟨⟨h1, h2⟩, h3⟩, h4⟩, h5⟩, h6⟩, h7⟩ := h
    refine ⟨by simp, rfl, fun ρ y hy => ?_⟩
    obtain ⟨arr, fz, e1, e2, e3, e4, e5, e6⟩ := hy
    have h1 := Nat.eq_of_beq_eq_true h1
    have h2 := beqB_eq h2
    have h3 := Nat.eq_of_beq_eq_true h3
    have h4 := Nat.eq_of_beq_eq_true h4
    have h5 := Nat.eq_of_beq_eq_true h5
    have h6 := Nat.le_of_ble_eq_true h6
    have h7 := listEq_eq (avEq_eq 8) _ _ h7
    subst h1 h2 h3 h4
    rw [llen_eq] at h5
    have hcap := ccap_cempty l.length (by omega)
    refine ⟨arr, fz, e1, by rw [llen_eq]; omega, fun q => by rw [llen_eq, ← h5]; exact e3 q, by rw [llen_eq, ccap_cfill]; exact hcap, e5, ?_⟩
    intro i hi
    rw [llen_eq] at hi
    obtain ⟨v, q1, q2⟩ := e6 i (by omega)
    refine ⟨v, q1, ?_⟩
    rw [llen_eq, cget_cfill l 0 _ i (by omega) (by omega), dif_pos ⟨Nat.zero_le _, by omega⟩]
    rw [clist_get h7 i (by omega) hi] at q2
    exact q2
  · rename_i es es'
    refine ⟨by simp, rfl, fun ρ y hy => ?_⟩
    rw [pairsEq_eq (avEq_eq 8) _ _ h] at hy
    exact hy
  · rename_i kb l kb' l'
    simp only [Bool.and_eq_true] at h
    refine ⟨by simp, rfl, fun ρ y hy => ?_⟩
    rw [(K.beq_iff _ _).1 h.1, listEq_eq (avEq_eq 8) _ _ h.2] at hy
    exact hy
  · cases h
theorem build_get (k : K) : ∀ L, hget k (buildH L) ≠ .none → (∃ n o, HO.mk n o ∈ L ∧ k = K.of n ∧ hget k (buildH L) = objOf o) ∨ (∃ g cs, LE.mk g cs ∈ laidL ∧ k = K.of g ∧ hget k (buildH L) = .ro (Nat.succ g) (llen cs) (cfill cs 0 (cempty (llen cs))))
  | [], h => by
    obtain ⟨g, cs, h1, h2, h3, _⟩ := lay_get k laidL h
    exact .inr ⟨g, cs, h1, h2, h3⟩
  | .mk n o :: L, h => by
    simp only [buildH] at h ⊢
    by_cases e : k = K.of n
    · subst e
      exact .inl ⟨n, o, by simp, rfl, by rw [hget_hset_same]⟩
    · rw [hget_hset_ne e] at h ⊢
      rcases build_get k L h with ⟨m, p, h1, h2, h3⟩ | ⟨g, cs, h1, h2, h3⟩
      · exact .inl ⟨m, p, List.mem_cons_of_mem _ h1, h2, h3⟩
      · exact .inr ⟨g, cs, h1, h2, h3⟩
theorem held_get : ∀ {L : List HO} {w : W}, heldIn L w = true → ∀ n o, HO.mk n o ∈ L → loOk o (wget (K.of n) w) = true
  | [], _, _, _, _, h => by cases h
  | .mk k p :: L, w, h, n, o, hm => by
    simp only [heldIn] at h
    obtain ⟨h1, h2⟩ := bc_and.1 h
    rcases List.mem_cons.1 hm with e | e
    · injection e with e1 e2; subst e1 e2; exact h1
    · exact held_get h2 n o e
theorem laidIs_get : ∀ {l : List LE} {w : W}, laidIs l w = true → ∀ g cs, LE.mk g cs ∈ l → ∃ n c, wget (K.of g) w = .ro (g + 1) n c
  | [], _, _, _, _, h => by cases h
  | .mk g cs :: l, w, h, g', cs', hm => by
    simp only [laidIs] at h
    split at h
    · rename_i t size c hget
      obtain ⟨h1, h2⟩ := bc_and.1 h
      have h1 : t = g + 1 := Nat.eq_of_beq_eq_true h1
      rcases List.mem_cons.1 hm with e | e
      · injection e with e1 e2
        subst e1 e2
        rw [h1] at hget
        exact ⟨size, c, hget⟩
      · exact laidIs_get h2 g' cs' e
    · cases h
theorem fits_sub {L : List HO} {nx : Nat} {w : W} (h : fitsL L nx w = true) : Sub (withL L nx) w := by
  unfold fitsL at h
  obtain ⟨h1, h⟩ := bc_and.1 h
  obtain ⟨h2, h3⟩ := bc_and.1 h
  have h1 := (K.beq_iff _ _).1 h1
  refine ⟨?_, ?_⟩
  · show K.of nx = w.nx
    rw [← h1]; cases w; rfl
  · intro k hk
    have hk : hget k (buildH L) ≠ .none := hk
    show _ ∧ (hget k (buildH L)).isRo = _ ∧ ∀ ρ x, _ → ORel ρ (hget k (buildH L)) x
    rcases build_get k L hk with ⟨n, o, q1, q2, q3⟩ | ⟨g, cs, q1, q2, q3⟩
    · subst q2
      have := held_get h3 n o q1
      rw [wget_eq] at this
      obtain ⟨r1, r2, r3⟩ := loOk_rel this
      rw [q3]
      exact ⟨r1, by rw [objOf_ro, r2], r3⟩
    · subst q2
      obtain ⟨n, c, r1⟩ := laidIs_get h2 g cs q1
      rw [wget_eq] at r1
      rw [q3, r1]
      refine ⟨by simp, rfl, fun ρ x hx => ?_⟩
      obtain ⟨arr, t', fz, e1, e2, e3, e4, e5⟩ := hx
      obtain ⟨_, _, f3⟩ := fine_get _ laid_fine g cs q1
      have hv := e5 g cs rfl q1
      have hlen := VRels.length _ _ (hv ρ)
      rw [llen_eq]
      refine ⟨arr, t', fz, e1, by simpa using hlen, by rw [ccap_cfill]; exact ccap_cempty _ f3, fun i hi => ?_, e5⟩
      obtain ⟨v, s1, s2⟩ := cells_new (hv ρ) f3 i hi
      exact ⟨v, by simpa using s1, s2⟩
/-- a call whose heap is known -/
def FactW (f : FuncId) (vs : List AV) (nxi : Nat) (Li : List HO) (v : AV) (nxo : Nat) (Lo : List HO) : Prop := ∀ (ρ : Env) (args : Array Value) (w : World), GRel ρ → WRel ρ (withL Li nxi) w → Clean ρ (withL Li nxi) → VRels ρ vs args.toList →
  Calls PP f args w (CPost ρ (withL Li nxi) w (.ret v (withL Lo nxo)))
theorem factW_of_run {H : Hook} (hH : HookOk H) {n f nxi nxo : Nat} {vs : List AV} {v : AV} {Li Lo : List HO} (h : segV (enter (run H n) f vs (withL Li nxi)) v Lo nxo = true) : FactW f vs nxi Li v nxo Lo := by
  intro ρ args w hg hw hc hv
  cases he : enter (run H n) f vs (withL Li nxi) with
  | ret v' aw =>
    rw [he] at h
    simp only [segV] at h
    obtain ⟨h1, h2⟩ := bc_and.1 h
    have h1 := avEq_eq _ _ _ h1
    subst h1
    have := enter_ok (run_ok hH n) hg hw hc (f := f) hv (by rw [he]; trivial)
    rw [he] at this
    refine Calls.mono this fun e w' hp => ?_
    obtain ⟨v', ρ', rfl, hv', hA⟩ := hp
    exact ⟨v', ρ', rfl, hv', hA.right (fits_sub h2)⟩
  | pan ch aw => rw [he] at h; cases h
  | no c x => rw [he] at h; cases h
theorem hooksW_ok : ∀ (l : List HW), (∀ f vs nxi Li v nxo Lo, HW.mk f vs nxi Li v nxo Lo ∈ l → FactW f vs nxi Li v nxo Lo) → HookOk (hooksW l)
  | [], _ => fun _ _ _ _ h => by cases h
  | .mk g us nxi Li u nxo Lo :: l, h => by
    have ih := hooksW_ok l fun f vs nxi Li v nxo Lo hm => h f vs nxi Li v nxo Lo (List.mem_cons_of_mem _ hm)
    intro f vs aw r hr
    simp only [hooksW, bc_eq] at hr
    split at hr
    · rename_i hf
      split at hr
      · rename_i hs
        split at hr
        · rename_i hfit
          injection hr with hr
          subst hr
          intro _ ρ args w hg hw hc hv
          have hf := Nat.eq_of_beq_eq_true hf
          have hs := listEq_eq (avEq_eq 8) _ _ hs
          subst hf hs
          have sub := fits_sub hfit
          have hcl : Clean ρ (withL Li nxi) := fun k hk => hc k (by rw [← sub.nx]; exact hk)
          refine Calls.mono (h f us nxi Li u nxo Lo (by simp) ρ args w hg (hw.sub sub) hcl hv) fun e w' hp => ?_
          obtain ⟨v', ρ', rfl, hv', hA⟩ := hp
          exact ⟨v', ρ', rfl, hv', hA.left sub⟩
        · exact ih f vs aw r hr
      · exact ih f vs aw r hr
    · exact ih f vs aw r hr
end Go.Ev
