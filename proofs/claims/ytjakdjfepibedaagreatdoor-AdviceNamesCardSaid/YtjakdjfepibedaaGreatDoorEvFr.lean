import Derived.Test.YtjakdjfepibedaaGreatDoorEvWx
set_option maxRecDepth 100000
set_option linter.all false
namespace Go.Ev
/- A call that is known from the memory that it touches: all other memory stays. -/
noncomputable section
def killF : List HO → H4 → H4
  | [], h => h
  | .mk k _ :: l, h => hset (K.of k) .none (killF l h)
def putF : List HO → H4 → H4
  | [], h => h
  | .mk k o :: l, h => hset (K.of k) (objOf o) (putF l h)
/-- the written keys: those that were touched, and new ones -/
def keyIn (k : Nat) : List HO → Bool
  | [] => false
  | .mk m _ :: l => bc (Nat.beq m k) true (keyIn k l)
def loFine (nxi nxo : Nat) (Li : List HO) : List HO → Bool
  | [] => true
  | .mk k _ :: l => bc (Nat.ble 256 k && Nat.blt k nxo && (keyIn k Li || Nat.ble nxi k)) (loFine nxi nxo Li l) false
def liFine (nxi : Nat) : List HO → Bool
  | [] => true
  | .mk k _ :: l => bc (Nat.ble 256 k && Nat.blt k nxi) (liFine nxi l) false
def frR (v : AV) (Li Lo : List HO) (nxo : Nat) (w : W) : CR := .ret v (.mk (putF Lo (killF Li (hOf w))) (K.of nxo))
def hooksF (l : List HW) (f : FuncId) (vs : List AV) (w : W) : Option CR := match l with
  | [] => none
  | .mk g us nxi Li v nxo Lo :: l => bc (Nat.beq f g) (bc (listEq (avEq 8) us vs) (bc (fitsL Li nxi w) (some (frR v Li Lo nxo w)) (hooksF l f vs w)) (hooksF l f vs w)) (hooksF l f vs w)
end
theorem keyIn_iff {k : Nat} : ∀ {l : List HO}, keyIn k l = true ↔ ∃ o, HO.mk k o ∈ l
  | [] => by simp [keyIn]
  | .mk m o :: l => by
    simp only [keyIn, bc_eq]
    split
    · rename_i h
      have := Nat.eq_of_beq_eq_true h
      subst this
      simp only [true_iff]
      exact ⟨o, by simp⟩
    · rename_i h
      rw [keyIn_iff (l := l)]
      constructor
      · rintro ⟨p, hp⟩; exact ⟨p, List.mem_cons_of_mem _ hp⟩
      · rintro ⟨p, hp⟩
        rcases List.mem_cons.1 hp with e | e
        · injection e with e1 e2
          subst e1
          exact absurd (Nat.beq_refl _) h
        · exact ⟨p, e⟩
theorem loFine_mem {nxi nxo : Nat} {Li : List HO} : ∀ {l : List HO}, loFine nxi nxo Li l = true → ∀ k o, HO.mk k o ∈ l → 256 ≤ k ∧ k < nxo ∧ ((∃ p, HO.mk k p ∈ Li) ∨ nxi ≤ k)
  | .mk m p :: l, h, k, o, hm => by
    simp only [loFine] at h
    obtain ⟨h1, h2⟩ := bc_and.1 h
    simp only [Bool.and_eq_true, Bool.or_eq_true] at h1
    rcases List.mem_cons.1 hm with e | e
    · injection e with e1 e2
      subst e1
      refine ⟨Nat.le_of_ble_eq_true h1.1.1, Nat.le_of_ble_eq_true h1.1.2, h1.2.imp (fun q => keyIn_iff.1 q) Nat.le_of_ble_eq_true⟩
    · exact loFine_mem h2 k o e
theorem liFine_mem {nxi : Nat} : ∀ {l : List HO}, liFine nxi l = true → ∀ k o, HO.mk k o ∈ l → 256 ≤ k ∧ k < nxi
  | .mk m p :: l, h, k, o, hm => by
    simp only [liFine] at h
    obtain ⟨h1, h2⟩ := bc_and.1 h
    simp only [Bool.and_eq_true] at h1
    rcases List.mem_cons.1 hm with e | e
    · injection e with e1 e2
      subst e1
      exact ⟨Nat.le_of_ble_eq_true h1.1, Nat.le_of_ble_eq_true h1.2⟩
    · exact liFine_mem h2 k o e
/-- what lies at a key afterwards: what was written, or what lay there -/
theorem put_cases (k : K) (h : H4) (B : H4) : ∀ L : List HO, (∃ m o, HO.mk m o ∈ L ∧ k = K.of m ∧ hget k (putF L h) = hget k (putF L B) ∧ hget k (putF L B) = objOf o) ∨ ((∀ m o, HO.mk m o ∈ L → k ≠ K.of m) ∧ hget k (putF L h) = hget k h)
  | [] => .inr ⟨(fun _ _ h => by cases h), rfl⟩
  | .mk m o :: L => by
    simp only [putF]
    by_cases e : k = K.of m
    · subst e
      exact .inl ⟨m, o, by simp, rfl, by rw [hget_hset_same, hget_hset_same], by rw [hget_hset_same]⟩
    · rw [hget_hset_ne e, hget_hset_ne e]
      rcases put_cases k h B L with ⟨m', o', h1, h2, h3, h4⟩ | ⟨h1, h2⟩
      · exact .inl ⟨m', o', List.mem_cons_of_mem _ h1, h2, h3, h4⟩
      · refine .inr ⟨fun m' o' hm => ?_, h2⟩
        rcases List.mem_cons.1 hm with q | q
        · injection q with q1 q2; rw [q1]; exact e
        · exact h1 m' o' q
theorem kill_cases (k : K) (h : H4) : ∀ L : List HO, ((∃ m o, HO.mk m o ∈ L ∧ k = K.of m) ∧ hget k (killF L h) = .none) ∨ ((∀ m o, HO.mk m o ∈ L → k ≠ K.of m) ∧ hget k (killF L h) = hget k h)
  | [] => .inr ⟨(fun _ _ h => by cases h), rfl⟩
  | .mk m o :: L => by
    simp only [killF]
    by_cases e : k = K.of m
    · subst e
      exact .inl ⟨⟨m, o, by simp, rfl⟩, by rw [hget_hset_same]⟩
    · rw [hget_hset_ne e]
      rcases kill_cases k h L with ⟨⟨m', o', h1, h2⟩, h3⟩ | ⟨h1, h2⟩
      · exact .inl ⟨⟨m', o', List.mem_cons_of_mem _ h1, h2⟩, h3⟩
      · refine .inr ⟨fun m' o' hm => ?_, h2⟩
        rcases List.mem_cons.1 hm with q | q
        · injection q with q1 q2; rw [q1]; exact e
        · exact h1 m' o' q
theorem build_put : ∀ L, buildH L = putF L (layH laidL)
  | [] => rfl
  | .mk k o :: L => by simp only [buildH, putF, build_put L]
theorem frame_ok {ρ ρ' : Env} {aw : W} {cw cw' : World} {Li Lo : List HO} {nxi nxo : Nat} (hw : WRel ρ aw cw) (hcl : Clean ρ aw) (hfit : fitsL Li nxi aw = true) (h1 : liFine nxi Li = true) (h2 : loFine nxi nxo Li Lo = true) (hx : nxo ≤ 65535)
    (hA : Adv ρ (withL Li nxi) cw ρ' (withL Lo nxo) cw') : Adv ρ aw cw ρ' (.mk (putF Lo (killF Li (hOf aw))) (K.of nxo)) cw' := by
  have sub := fits_sub hfit
  have hh : hOf aw = aw.h := by cases aw; rfl
  rw [hh]
  have hnxi : (K.of nxi).num = aw.nx.num := congrArg K.num sub.nx
  -- what lies at a key of the new heap
  have key : ∀ k, hget k (putF Lo (killF Li aw.h)) ≠ .none → (hget k (putF Lo (killF Li aw.h)) = hget k (buildH Lo) ∧ ∃ m o, HO.mk m o ∈ Lo ∧ k = K.of m) ∨
      (hget k (putF Lo (killF Li aw.h)) = hget k aw.h ∧ (∀ m o, HO.mk m o ∈ Lo → k ≠ K.of m) ∧ ∀ m o, HO.mk m o ∈ Li → k ≠ K.of m) := by
    intro k hk
    rcases put_cases k (killF Li aw.h) (layH laidL) Lo with ⟨m, o, q1, q2, q3, q4⟩ | ⟨q1, q2⟩
    · exact .inl ⟨by rw [q3, build_put], m, o, q1, q2⟩
    · rcases kill_cases k aw.h Li with ⟨_, r2⟩ | ⟨r1, r2⟩
      · rw [q2, r2] at hk; exact absurd rfl hk
      · exact .inr ⟨by rw [q2, r2], q1, r1⟩
  -- a block of a key that is not touched
  have old : ∀ k c, hget k aw.h ≠ .none → (∀ m o, HO.mk m o ∈ Li → k ≠ K.of m) → ρ k = some c → ¬ Own ρ (withL Li nxi) c := by
    rintro k c hk hn hc ⟨l, l1, l2, l3⟩
    have l1' : hget l (buildH Li) ≠ .none := l1
    have l2' : (hget l (buildH Li)).isRo = false := l2
    rcases build_get l Li l1' with ⟨m, o, q1, q2, q3⟩ | ⟨g, cs, q1, q2, q3⟩
    · have := hw.inj l k (sub.at_ l l1).1 hk (by rw [l3, hc])
      exact hn m o q1 (by rw [← this, q2])
    · rw [q3] at l2'; cases l2'
  have lt : ∀ k c, hget k aw.h ≠ .none → ρ k = some c → c < cw.heap.size := by
    intro k c hk hc
    obtain ⟨c', hc', ho'⟩ := hw.dom k hk
    rw [hc] at hc'; cases hc'
    obtain ⟨y, hy⟩ := ho'.some hk
    exact (Array.getElem?_eq_some_iff.1 hy).1
  have same : ∀ k c, hget k aw.h ≠ .none → (∀ m o, HO.mk m o ∈ Li → k ≠ K.of m) → ρ k = some c → cw'.heap[c]? = cw.heap[c]? := fun k c hk hn hc => hA.frame c (lt k c hk hc) (old k c hk hn hc)
  -- a written key and an untouched one stand for different blocks
  have diff : ∀ k l, hget k (buildH Lo) ≠ .none → (∃ m o, HO.mk m o ∈ Lo ∧ k = K.of m) → hget l aw.h ≠ .none → (∀ m o, HO.mk m o ∈ Li → l ≠ K.of m) → (∀ m o, HO.mk m o ∈ Lo → l ≠ K.of m) → ρ' k ≠ ρ' l := by
    rintro k l hk ⟨m, o, m1, m2⟩ hl hnl hno e
    obtain ⟨c, hc, _⟩ := hw.dom l hl
    have hc' := (hA.le _ _ hc).1
    rw [hc'] at e
    rcases hA.keep k c hk e with ⟨x, x1, x2⟩ | x
    · have x1' : hget x (buildH Li) ≠ .none := x1
      have hxl := hw.inj x l (sub.at_ x x1).1 hl (by rw [x2, hc])
      subst hxl
      rcases build_get x Li x1' with ⟨n, p, q1, q2, q3⟩ | ⟨g, cs, q1, q2, q3⟩
      · exact hnl n p q1 q2
      · have hlay : hget x (buildH Lo) ≠ .none := by
          have : ∀ L : List HO, hget (K.of g) (layH laidL) ≠ .none → hget (K.of g) (buildH L) ≠ .none := by
            intro L
            induction L with
            | nil => exact id
            | cons y L ih =>
              obtain ⟨n, p⟩ := y
              intro h
              simp only [buildH]
              by_cases e : K.of g = K.of n
              · rw [e, hget_hset_same]; exact objOf_ne p
              · rw [hget_hset_ne e]; exact ih h
          rw [q2]
          refine this Lo ?_
          have h0 : ∀ L : List HO, (∀ n p, HO.mk n p ∈ L → K.of g ≠ K.of n) → hget (K.of g) (buildH L) = hget (K.of g) (layH laidL) := by
            intro L
            induction L with
            | nil => intro _; rfl
            | cons y L ih =>
              obtain ⟨n, p⟩ := y
              intro h
              simp only [buildH]
              rw [hget_hset_ne (h n p (by simp)), ih fun n' p' hm => h n' p' (List.mem_cons_of_mem _ hm)]
          rw [← h0 Li fun n p hm => by rw [← q2]; exact hnl n p hm, ← q2]
          exact x1'
        have hkl := hA.rel.inj k x hk hlay (by rw [e, (hA.le _ _ x2).1])
        exact hno m o m1 (by rw [← hkl, m2])
    · have := lt l c hl hc; omega
  refine ⟨⟨?_, ?_, ?_⟩, hA.le, ?_, ?_, hA.size, ?_, ?_, ?_, hA.os, hA.tape, hA.output⟩
  · intro k l hk hl e
    simp only [W.h_mk] at hk hl
    rcases key k hk with ⟨k1, k2⟩ | ⟨k1, k2, k3⟩
    · rcases key l hl with ⟨l1, l2⟩ | ⟨l1, l2, l3⟩
      · exact hA.rel.inj k l (by show hget k (buildH Lo) ≠ _; rw [← k1]; exact hk) (by show hget l (buildH Lo) ≠ _; rw [← l1]; exact hl) e
      · exact absurd e (diff k l (by rw [← k1]; exact hk) k2 (by rw [← l1]; exact hl) l3 l2)
    · rcases key l hl with ⟨l1, l2⟩ | ⟨l1, l2, l3⟩
      · exact absurd e.symm (diff l k (by rw [← l1]; exact hl) l2 (by rw [← k1]; exact hk) k3 k2)
      · rw [k1] at hk; rw [l1] at hl
        obtain ⟨c, hc, _⟩ := hw.dom k hk
        obtain ⟨d, hd, _⟩ := hw.dom l hl
        rw [(hA.le _ _ hc).1, (hA.le _ _ hd).1] at e
        exact hw.inj k l hk hl (by rw [hc, hd, e])
  · intro k hk
    simp only [W.h_mk] at hk ⊢
    rcases key k hk with ⟨k1, k2⟩ | ⟨k1, k2, k3⟩
    · rw [k1] at hk ⊢
      exact hA.rel.dom k hk
    · rw [k1] at hk ⊢
      obtain ⟨c, hc, ho⟩ := hw.dom k hk
      exact ⟨c, (hA.le _ _ hc).1, by rw [same k c hk k3 hc]; exact ho.mono hA.le⟩
  · intro k c arr t fz hk hc hxx
    simp only [W.h_mk] at hk
    rcases key k hk with ⟨k1, k2⟩ | ⟨k1, k2, k3⟩
    · rw [k1] at hk
      exact hA.rel.len k c arr t fz hk hc hxx
    · rw [k1] at hk
      obtain ⟨d, hd, _⟩ := hw.dom k hk
      have e := (hA.le _ _ hd).1
      rw [hc] at e; injection e with e; subst e
      rw [same k c hk k3 hd] at hxx
      rw [(hA.le _ _ hd).2]
      exact hw.len k c arr t fz hk hd hxx
  · intro k
    rcases hA.rng k with e | e
    · exact .inl e
    · exact .inr ⟨by rw [← sub.nx]; exact e.1, e.2⟩
  · show aw.nx.num ≤ (K.of nxo).num
    rw [← sub.nx]; exact hA.nx
  · rintro c ⟨k, hk, hr, hc⟩
    simp only [W.h_mk] at hk hr
    rcases key k hk with ⟨k1, k2⟩ | ⟨k1, k2, k3⟩
    · rw [k1] at hk hr
      rcases hA.own c ⟨k, hk, hr, hc⟩ with q | q
      · exact .inl (q.sub sub)
      · exact .inr q
    · rw [k1] at hk hr
      obtain ⟨d, hd, _⟩ := hw.dom k hk
      have e := (hA.le _ _ hd).1
      rw [hc] at e; injection e with e; subst e
      exact .inl ⟨k, hk, hr, hd⟩
  · intro k c hk hc
    simp only [W.h_mk] at hk
    rcases key k hk with ⟨k1, k2⟩ | ⟨k1, k2, k3⟩
    · rw [k1] at hk
      rcases hA.keep k c hk hc with ⟨x, x1, x2⟩ | q
      · exact .inl ⟨x, (sub.at_ x x1).1, x2⟩
      · exact .inr q
    · rw [k1] at hk
      obtain ⟨d, hd, _⟩ := hw.dom k hk
      have e := (hA.le _ _ hd).1
      rw [hc] at e; injection e with e; subst e
      exact .inl ⟨k, hk, hd⟩
  · intro c hc hn
    exact hA.frame c hc fun q => hn (q.sub sub)
theorem hooksF_ok : ∀ (l : List HW), (∀ f vs nxi Li v nxo Lo, HW.mk f vs nxi Li v nxo Lo ∈ l → FactW f vs nxi Li v nxo Lo ∧ liFine nxi Li = true ∧ loFine nxi nxo Li Lo = true ∧ nxo ≤ 65535) → HookOk (hooksF l)
  | [], _ => fun _ _ _ _ h => by cases h
  | .mk g us nxi Li u nxo Lo :: l, h => by
    have ih := hooksF_ok l fun f vs nxi Li v nxo Lo hm => h f vs nxi Li v nxo Lo (List.mem_cons_of_mem _ hm)
    intro f vs aw r hr
    simp only [hooksF, bc_eq] at hr
    split at hr
    · rename_i hf
      split at hr
      · rename_i hs
        split at hr
        · rename_i hfit
          injection hr with hr
          subst hr
          intro _ ρ args w hg hw hc hv
          have hf := Nat.eq_of_beq_eq_true hf
          have hs := listEq_eq (avEq_eq 8) _ _ hs
          subst hf hs
          obtain ⟨hF, f1, f2, f3⟩ := h f us nxi Li u nxo Lo (by simp)
          have sub := fits_sub hfit
          have hcl : Clean ρ (withL Li nxi) := fun k hk => hc k (by rw [← sub.nx]; exact hk)
          refine Calls.mono (hF ρ args w hg (hw.sub sub) hcl hv) fun e w' hp => ?_
          obtain ⟨v', ρ', rfl, hv', hA⟩ := hp
          exact ⟨v', ρ', rfl, hv', frame_ok hw hc hfit f1 f2 f3 hA⟩
        · exact ih f vs aw r hr
      · exact ih f vs aw r hr
    · exact ih f vs aw r hr
end Go.Ev
