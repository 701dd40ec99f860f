import Derived.Test.YtldcnedpfagliaaGreatDoorEvDb
set_option linter.all false
namespace Go.Ev
/- Blocks that are made and not yet taken into the abstract heap. -/
def PF.i : PF → Nat | .mk i _ _ => i
def PF.k : PF → K | .mk _ k _ => k
def PF.o : PF → AObj | .mk _ _ o => o
/-- a block behind N that stands for key k as o says, and that the abstract heap does not have -/
structure Held (N : Nat) (ρ : Env) (a : W) (w : World) (k : K) (o : AObj) : Prop where
  ex : ∃ c, ρ k = some c ∧ N ≤ c ∧ c < w.heap.size ∧ ORel ρ o (w.heap[c]?) ∧ (∀ l, hget l a.h ≠ .none → ρ l ≠ some c) ∧ ∀ arr t fz, w.heap[c]? = some (.cells arr t fz) → arr.size = ρ.sz k
section
variable {N : Nat} {ρ ρ' ρ0 : Env} {a a' a0 : W} {w w' w0 : World} {k l : K} {o p : AObj}
theorem Held.adv (h : Held N ρ a w k o) (e : Adv ρ a w ρ' a' w') : Held N ρ' a' w' k o := by
  obtain ⟨c, h1, h2, h3, h4, h5, h6⟩ := h.ex
  have hn : ¬ Own ρ a c := fun ⟨l, q1, _, q3⟩ => h5 l q1 q3
  have hx := e.frame c h3 hn
  refine ⟨c, (e.le _ _ h1).1, h2, Nat.lt_of_lt_of_le h3 e.size, by rw [hx]; exact h4.mono e.le, ?_, ?_⟩
  · intro l hl hc
    rcases e.keep l c hl hc with ⟨m, q1, q2⟩ | q
    · exact h5 m q1 q2
    · omega
  · intro arr t fz hh
    rw [hx] at hh
    rw [(e.le _ _ h1).2]
    exact h6 arr t fz hh
theorem Held.wset (h : Held N ρ a w k o) (e : ρ l ≠ ρ k) : Held N ρ (wset l p a) w k o := by
  obtain ⟨c, h1, h2, h3, h4, h5, h6⟩ := h.ex
  refine ⟨c, h1, h2, h3, h4, ?_, h6⟩
  intro m hm hc
  rw [wset_eq] at hm
  simp only [W.h_mk] at hm
  by_cases x : m = l
  · subst x; rw [h1] at e; exact e hc
  · rw [hget_hset_ne x] at hm; exact h5 m hm hc
theorem adopt1 (h : Adv ρ0 a0 w0 ρ a w) (hh : Held w0.heap.size ρ a w k o) : Adv ρ0 a0 w0 ρ (wset k o a) w := by
  obtain ⟨c, h1, h2, h3, h4, h5, h6⟩ := hh.ex
  clear hh
  have hr := h.rel
  rw [wset_eq]
  have old : ∀ l, l ≠ k → hget l (hset k o a.h) = hget l a.h := fun l hl => hget_hset_ne hl o a.h
  refine ⟨⟨?_, ?_, ?_⟩, h.le, h.rng, h.nx, h.size, ?_, ?_, h.frame, h.os, h.tape, h.output⟩
  · intro x y hx hy e
    simp only [W.h_mk] at hx hy
    by_cases x1 : x = k
    · by_cases y1 : y = k
      · rw [x1, y1]
      · rw [old y y1] at hy; subst x1; rw [h1] at e; exact absurd e.symm (h5 y hy)
    · rw [old x x1] at hx
      by_cases y1 : y = k
      · subst y1; rw [h1] at e; exact absurd e (h5 x hx)
      · rw [old y y1] at hy; exact hr.inj x y hx hy e
  · intro x hx
    simp only [W.h_mk] at hx ⊢
    by_cases x1 : x = k
    · subst x1; rw [hget_hset_same]; exact ⟨c, h1, h4⟩
    · rw [old x x1] at hx ⊢; exact hr.dom x hx
  · intro x d arr t fz hx hd hh
    simp only [W.h_mk] at hx
    by_cases x1 : x = k
    · subst x1; rw [h1] at hd; injection hd with hd; subst hd; exact h6 arr t fz hh
    · rw [old x x1] at hx; exact hr.len x d arr t fz hx hd hh
  · rintro d ⟨x, hx, hro, hd⟩
    simp only [W.h_mk] at hx hro
    by_cases x1 : x = k
    · subst x1; rw [h1] at hd; injection hd with hd; right; omega
    · rw [old x x1] at hx hro; exact h.own d ⟨x, hx, hro, hd⟩
  · intro x d hx hd
    simp only [W.h_mk] at hx
    by_cases x1 : x = k
    · subst x1; rw [h1] at hd; injection hd with hd; right; omega
    · rw [old x x1] at hx; exact h.keep x d hx hd
theorem adopt_ok (m : Nat) : ∀ (l : List PF), (∀ p ∈ l, tb m p.i = true → Held w0.heap.size ρ a w p.k p.o) → l.Pairwise (fun p q => tb m p.i = true → tb m q.i = true → ρ p.k ≠ ρ q.k) → Adv ρ0 a0 w0 ρ a w →
    Adv ρ0 a0 w0 ρ (dAdopt m l a) w ∧ ∀ k o, Held w0.heap.size ρ a w k o → (∀ p ∈ l, tb m p.i = true → ρ p.k ≠ ρ k) → Held w0.heap.size ρ (dAdopt m l a) w k o
  | [], _, _, h => ⟨h, fun _ _ h _ => h⟩
  | .mk i k o :: l, hp, hd, h => by
    obtain ⟨h1, h2⟩ := adopt_ok m l (fun p hl => hp p (List.mem_cons_of_mem _ hl)) (List.pairwise_cons.1 hd).2 h
    simp only [dAdopt]
    rw [bc_eq]
    split
    · rename_i hb
      have hk : Held w0.heap.size ρ (dAdopt m l a) w k o := h2 k o (hp (.mk i k o) (by simp) hb) fun p hl hb' => ((List.pairwise_cons.1 hd).1 p hl hb hb').symm
      refine ⟨adopt1 h1 hk, fun k' o' h' hne => ?_⟩
      exact (h2 k' o' h' fun p hl hb => hne p (List.mem_cons_of_mem _ hl) hb).wset (hne (.mk i k o) (by simp) hb)
    · exact ⟨h1, fun k' o' h' hne => h2 k' o' h' fun p hl hb => hne p (List.mem_cons_of_mem _ hl) hb⟩
theorem all_ok : ∀ (l : List PF), (∀ p ∈ l, Held w0.heap.size ρ a w p.k p.o) → l.Pairwise (fun p q => ρ p.k ≠ ρ q.k) → Adv ρ0 a0 w0 ρ a w →
    Adv ρ0 a0 w0 ρ (dAll l a) w ∧ ∀ k o, Held w0.heap.size ρ a w k o → (∀ p ∈ l, ρ p.k ≠ ρ k) → Held w0.heap.size ρ (dAll l a) w k o
  | [], _, _, h => ⟨h, fun _ _ h _ => h⟩
  | .mk i k o :: l, hp, hd, h => by
    obtain ⟨h1, h2⟩ := all_ok l (fun p hl => hp p (List.mem_cons_of_mem _ hl)) (List.pairwise_cons.1 hd).2 h
    simp only [dAll]
    have hk : Held w0.heap.size ρ (dAll l a) w k o := h2 k o (hp (.mk i k o) (by simp)) fun p hl => ((List.pairwise_cons.1 hd).1 p hl).symm
    refine ⟨adopt1 h1 hk, fun k' o' h' hne => ?_⟩
    exact (h2 k' o' h' fun p hl => hne p (List.mem_cons_of_mem _ hl)).wset (hne (.mk i k o) (by simp))
theorem nx_wset (k : K) (o : AObj) (a : W) : (wset k o a).nx = a.nx := by rw [wset_eq]; rfl
theorem nx_adopt (m : Nat) : ∀ (l : List PF) (a : W), (dAdopt m l a).nx = a.nx
  | [], _ => rfl
  | .mk i k o :: l, a => by
    simp only [dAdopt]
    rw [bc_eq]
    split
    · rw [nx_wset, nx_adopt m l a]
    · exact nx_adopt m l a
theorem nx_all : ∀ (l : List PF) (a : W), (dAll l a).nx = a.nx
  | [], _ => rfl
  | .mk i k o :: l, a => by simp only [dAll]; rw [nx_wset, nx_all l a]
/-- a world whose next key is another one -/
theorem WRel.rekeyed {h : H4} {nx nx' : K} (e : WRel ρ (.mk h nx) w) : WRel ρ (.mk h nx') w := ⟨e.inj, e.dom, e.len⟩
/-- a heap that does not know one key -/
theorem Adv.forget {a2 : W} (h : Adv ρ0 a0 w0 ρ a2 w) (hk : hget k a.h = .none) (hs : ∀ l, l ≠ k → hget l a.h = hget l a2.h) (hn : a.nx = a2.nx) : Adv ρ0 a0 w0 ρ a w := by
  have at_ : ∀ l, hget l a.h ≠ .none → hget l a2.h = hget l a.h := by
    intro l hl
    refine (hs l ?_).symm
    rintro rfl; exact hl hk
  have ne : ∀ l, hget l a.h ≠ .none → hget l a2.h ≠ .none := fun l hl => by rw [at_ l hl]; exact hl
  refine ⟨⟨fun x y hx hy e => h.rel.inj x y (ne x hx) (ne y hy) e, fun x hx => ?_, fun x c arr t fz hx hc hh => h.rel.len x c arr t fz (ne x hx) hc hh⟩, h.le, fun x => by rw [hn]; exact h.rng x, by rw [hn]; exact h.nx, h.size, ?_, fun x c hx hc => h.keep x c (ne x hx) hc, h.frame, h.os, h.tape, h.output⟩
  · obtain ⟨c, h1, h2⟩ := h.rel.dom x (ne x hx); exact ⟨c, h1, by rw [at_ x hx] at h2; exact h2⟩
  · rintro c ⟨x, hx, hr, hc⟩; exact h.own c ⟨x, ne x hx, by rw [at_ x hx]; exact hr, hc⟩
theorem Held.forget {a2 : W} (h : Held N ρ a2 w l o) (hk : hget k a.h = .none) (hs : ∀ l, l ≠ k → hget l a.h = hget l a2.h) : Held N ρ a w l o := by
  obtain ⟨c, h1, h2, h3, h4, h5, h6⟩ := h.ex
  refine ⟨c, h1, h2, h3, h4, fun m hm => h5 m ?_, h6⟩
  rw [← hs m (by rintro rfl; exact hm hk)]
  exact hm
theorem Held.of_rel {a2 : W} {c : Nat} (hr : WRel ρ a2 w) (hk2 : hget k a2.h = o) (ho : o ≠ .none) (hc : ρ k = some c) (hN : N ≤ c) (hk : hget k a.h = .none) (hs : ∀ l, l ≠ k → hget l a.h = hget l a2.h) : Held N ρ a w k o := by
  obtain ⟨c', h1, h2⟩ := hr.dom k (by rw [hk2]; exact ho)
  rw [hc] at h1; cases h1
  rw [hk2] at h2
  obtain ⟨y, hy⟩ := h2.some ho
  refine ⟨c, hc, hN, (Array.getElem?_eq_some_iff.1 hy).1, h2, fun m hm e => ?_, fun arr t fz hh => hr.len k c arr t fz (by rw [hk2]; exact ho) hc hh⟩
  have hne : m ≠ k := by rintro rfl; exact hm hk
  exact hne (hr.inj m k (by rw [← hs m hne]; exact hm) (by rw [hk2]; exact ho) (by rw [e, hc]))
theorem Held.conv {p : AObj} (h : Held N ρ a w k o) (hc : ∀ x, ORel ρ o x → ORel ρ p x) : Held N ρ a w k p := by
  obtain ⟨c, h1, h2, h3, h4, h5, h6⟩ := h.ex
  exact ⟨c, h1, h2, h3, hc _ h4, h5, h6⟩
/-- a block that is made and held -/
theorem adv_float {h : H4} {nx key : K} (hA : Adv ρ0 a0 w0 ρ (.mk h nx) w) (hf : Adv ρ (.mk h key) w ρ' (.mk (hset key o h) key.succ) w') (hm : key.isMax = false) (hk : ρ key = none)
    (h1 : a0.nx.num ≤ key.num) (h2 : key.num < nx.num) (ho : o ≠ .none) :
    Adv ρ0 a0 w0 ρ' (.mk h nx) w' ∧ Held w0.heap.size ρ' (.mk h nx) w' key o ∧ (∀ k, k ≠ key → ρ' k = ρ k) ∧ (∃ c, ρ' key = some c ∧ w.heap.size ≤ c ∧ c < w'.heap.size) ∧ ∀ k p, Held N ρ (.mk h nx) w k p → Held N ρ' (.mk h nx) w' k p ∧ ρ' k ≠ ρ' key := by
  have hsucc : key.succ.num = key.num + 1 := K.succ_num hm
  have same : ∀ k, k ≠ key → ρ' k = ρ k := by
    intro k hne
    rcases hf.rng k with e | e
    · exact e
    · simp only [W.nx_mk] at e
      exact absurd (K.num_inj (by omega)) hne
  have hnone : hget key h = .none := by
    by_cases e : hget key h = .none
    · exact e
    · obtain ⟨c, hc, _⟩ := hA.rel.dom key e; rw [hk] at hc; cases hc
  have old : ∀ k, k ≠ key → hget k (hset key o h) = hget k h := fun k hne => hget_hset_ne hne o h
  have ne : ∀ k, hget k h ≠ .none → k ≠ key := by rintro k hk' rfl; exact hk' hnone
  obtain ⟨c, hc, hor⟩ := hf.rel.dom key (by simp only [W.h_mk]; rw [hget_hset_same]; exact ho)
  simp only [W.h_mk] at hor
  rw [hget_hset_same] at hor
  obtain ⟨y, hy⟩ := hor.some ho
  have hlt : c < w'.heap.size := (Array.getElem?_eq_some_iff.1 hy).1
  have hfresh : ∀ l, hget l h ≠ .none → ρ' l ≠ some c := by
    intro l hl he
    have hl' : hget l (hset key o h) ≠ .none := by rw [old l (ne l hl)]; exact hl
    have := hf.rel.inj l key (by simpa only [W.h_mk] using hl') (by simp only [W.h_mk]; rw [hget_hset_same]; exact ho) (by rw [he, hc])
    exact ne l hl this
  have hge : w.heap.size ≤ c := by
    rcases hf.keep key c (by simp only [W.h_mk]; rw [hget_hset_same]; exact ho) hc with ⟨l, q1, q2⟩ | q
    · exact absurd (hf.le _ _ q2).1 (hfresh l q1)
    · exact q
  have hs0 := hA.size
  have rel : WRel ρ' (.mk h nx) w' := by
    refine ⟨?_, ?_, ?_⟩
    · intro x y hx hy e
      simp only [W.h_mk] at hx hy
      exact hf.rel.inj x y (by simp only [W.h_mk]; rw [old x (ne x hx)]; exact hx) (by simp only [W.h_mk]; rw [old y (ne y hy)]; exact hy) e
    · intro x hx
      simp only [W.h_mk] at hx ⊢
      have := hf.rel.dom x (by simp only [W.h_mk]; rw [old x (ne x hx)]; exact hx)
      simp only [W.h_mk] at this
      rw [old x (ne x hx)] at this
      exact this
    · intro x d arr t fz hx hd hh
      simp only [W.h_mk] at hx
      exact hf.rel.len x d arr t fz (by simp only [W.h_mk]; rw [old x (ne x hx)]; exact hx) hd hh
  refine ⟨⟨rel, Env.le_trans hA.le hf.le, ?_, hA.nx, Nat.le_trans hA.size hf.size, ?_, ?_, ?_, hf.os.trans hA.os, hf.tape.trans hA.tape, hf.output.trans hA.output⟩, ⟨c, hc, by omega, hlt, hor, hfresh, ?_⟩, same, ⟨c, hc, hge, hlt⟩, ?_⟩
  · intro x
    by_cases e : x = key
    · subst e; right; simp only [W.nx_mk]; omega
    · rw [same x e]; exact hA.rng x
  · rintro d ⟨x, hx, hro, hd⟩
    simp only [W.h_mk] at hx hro
    rw [same x (ne x hx)] at hd
    exact hA.own d ⟨x, hx, hro, hd⟩
  · intro x d hx hd
    simp only [W.h_mk] at hx
    rw [same x (ne x hx)] at hd
    exact hA.keep x d hx hd
  · intro d hd hn
    rw [hf.frame d (by omega) ?_]
    · exact hA.frame d hd hn
    · rintro ⟨x, hx, hro, hd'⟩
      rcases hA.own d ⟨x, hx, hro, hd'⟩ with e | e
      · exact hn e
      · omega
  · intro arr t fz hh
    exact hf.rel.len key c arr t fz (by simp only [W.h_mk]; rw [hget_hset_same]; exact ho) hc hh
  · intro k p hp
    obtain ⟨d, q1, q2, q3, q4, q5, q6⟩ := hp.ex
    have hn : ¬ Own ρ (.mk h key) d := fun ⟨l, r1, _, r3⟩ => q5 l r1 r3
    have hx := hf.frame d q3 hn
    have hle := hf.le _ _ q1
    refine ⟨⟨d, hle.1, q2, Nat.lt_of_lt_of_le q3 hf.size, by rw [hx]; exact q4.mono hf.le, ?_, ?_⟩, ?_⟩
    · intro l hl he
      simp only [W.h_mk] at hl
      rw [same l (ne l hl)] at he
      exact q5 l hl he
    · intro arr t fz hh
      rw [hx] at hh
      rw [hle.2]
      exact q6 arr t fz hh
    · rw [hle.1, hc]
      intro e
      injection e with e
      omega
end
end Go.Ev
