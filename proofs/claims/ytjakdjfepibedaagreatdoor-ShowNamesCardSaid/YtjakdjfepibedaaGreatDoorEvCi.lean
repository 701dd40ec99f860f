import Derived.Test.YtjakdjfepibedaaGreatDoorEvCc
set_option linter.all false
namespace Go.Ev
/- slices.Insert at ints: windows of rows. -/
/-- what slices.Insert at ints does -/
def InsOk (f : FuncId) : Prop := ∀ (w : World) (s : Value) (cs : List Value) (k vb : Nat) (vt : TypeId) (fz : Nat × Nat) (x : Value),
  w.heap[vb]? = some (.cells #[x] vt fz) → fz.2 ≤ fz.1 → (∃ kd z, x = .int kd z) → (∀ v ∈ cs, ∃ kd z, v = .int kd z) → k ≤ cs.length → cs.length ≤ 1000 →
  (s = .slice none 0 0 ∧ cs = [] ∨ ∃ c p cap arr t fz', s = .slice (some ⟨c, p, none⟩) cs.length cap ∧ cs.length ≤ cap ∧ cap ≤ 9223372036854775807 ∧ c ≠ vb ∧ w.heap[c]? = some (.cells arr t fz') ∧ fz'.2 ≤ fz'.1 ∧ p + cap ≤ arr.size ∧ ∀ j v, cs[j]? = some v → arr[p + j]? = some v) →
  Calls PP f #[s, .int .i64 (Int.ofNat k), .slice (some ⟨vb, 0, none⟩) 1 1] w fun e w' => ∃ c' p' cap' arr' t' fz', e = .returned (.slice (some ⟨c', p', none⟩) (cs.length + 1) cap') ∧ cs.length + 1 ≤ cap' ∧ cap' ≤ 9223372036854775807 ∧
     w'.heap[c']? = some (.cells arr' t' fz') ∧ fz'.2 ≤ fz'.1 ∧ p' + cap' ≤ arr'.size ∧ (∀ j v, (cs.take k ++ x :: cs.drop k)[j]? = some v → arr'[p' + j]? = some v) ∧ w'.os = w.os ∧ w'.tape = w.tape ∧ w'.output = w.output ∧
     ((c' = w.heap.size ∧ w'.heap.size = w.heap.size + 1 ∧ ∀ d, d < w.heap.size → w'.heap[d]? = w.heap[d]?) ∨
      ((∃ p cap, s = .slice (some ⟨c', p, none⟩) cs.length cap) ∧ w'.heap.size = w.heap.size ∧ ∀ d, d ≠ c' → w'.heap[d]? = w.heap[d]?))
section
variable {ρ : Env} {aw : W} {w : World}
theorem adv_dummy {h : H4} {nx : K} (hw : WRel ρ (.mk h nx) w) (hf : ρ nx = none) (hm : nx.isMax = false) (n : Nat) : Adv ρ (.mk h nx) w (upd ρ nx 0 n) (.mk h nx.succ) w := by
  have hle := le_upd ρ nx 0 n hf
  have hnx : nx.succ.num = nx.num + 1 := K.succ_num hm
  have ne : ∀ k, hget k h ≠ .none → k ≠ nx := by
    rintro k hk rfl
    obtain ⟨c, hc, _⟩ := hw.dom k hk
    rw [hf] at hc; cases hc
  refine ⟨⟨?_, ?_, ?_⟩, hle, ?_, ?_, Nat.le_refl _, ?_, ?_, fun _ _ _ => rfl, rfl, rfl, rfl⟩
  · intro k l hk hl e
    rw [upd_ne ρ (ne k hk), upd_ne ρ (ne l hl)] at e
    exact hw.inj k l hk hl e
  · intro k hk
    obtain ⟨c, hc, ho⟩ := hw.dom k hk
    exact ⟨c, by rw [upd_ne ρ (ne k hk)]; exact hc, ho.mono hle⟩
  · intro k c arr t fz hk hc hx
    rw [upd_ne ρ (ne k hk)] at hc
    rw [sz_ne ρ (ne k hk)]
    exact hw.len k c arr t fz hk hc hx
  · intro k
    by_cases k1 : k = nx
    · subst k1; right; simp only [W.nx_mk]; omega
    · left; exact upd_ne ρ k1 _ _
  · simp only [W.nx_mk]; omega
  · rintro c ⟨k, hk, hr, hc⟩
    rw [upd_ne ρ (ne k hk)] at hc
    exact .inl ⟨k, hk, hr, hc⟩
  · intro k c hk hc
    rw [upd_ne ρ (ne k hk)] at hc
    exact .inl ⟨k, hk, hc⟩
theorem adv_heap {ρ' : Env} {a a' : W} {w w1 w2 : World} (h : Adv ρ a w ρ' a' w1) (e : w2.heap = w1.heap) (h1 : w2.os = w.os) (h2 : w2.tape = w.tape) (h3 : w2.output = w.output) : Adv ρ a w ρ' a' w2 := by
  refine ⟨⟨h.rel.inj, ?_, ?_⟩, h.le, h.rng, h.nx, by rw [e]; exact h.size, h.own, h.keep, ?_, h1, h2, h3⟩
  · intro k hk; rw [e]; exact h.rel.dom k hk
  · intro k c arr t fz hk hc hx; rw [e] at hx; exact h.rel.len k c arr t fz hk hc hx
  · intro c hc hn; rw [e]; exact h.frame c hc hn
theorem VRels.takeI : ∀ (k : Nat) {l : List AV} {vs : List Value}, VRels ρ l vs → VRels ρ (l.take k) (vs.take k)
  | 0, _, _, _ => by simp [VRels]
  | k + 1, [], _, h => by simp only [VRels] at h; subst h; simp [VRels]
  | k + 1, a :: l, _, h => by
    simp only [VRels] at h
    obtain ⟨v, vs, rfl, h1, h2⟩ := h
    simp only [List.take_succ_cons, VRels]
    exact ⟨_, _, rfl, h1, VRels.takeI k h2⟩
theorem VRels.dropI : ∀ (k : Nat) {l : List AV} {vs : List Value}, VRels ρ l vs → VRels ρ (l.drop k) (vs.drop k)
  | 0, _, _, h => by simpa using h
  | k + 1, [], _, h => by simp only [VRels] at h; subst h; simp [VRels]
  | k + 1, a :: l, _, h => by
    simp only [VRels] at h
    obtain ⟨v, vs, rfl, h1, h2⟩ := h
    simp only [List.drop_succ_cons]
    exact VRels.dropI k h2
theorem isInt_rel {v : AV} {x : Value} (h : isIntA v = true) (hv : VRel ρ v x) : ∃ kd z, x = .int kd z := by
  cases v <;> first | (cases h; done) | (simp only [VRel] at hv; exact ⟨_, _, hv⟩)
theorem isInts_rel : ∀ {l : List AV} {vs : List Value}, l.all isIntA = true → VRels ρ l vs → ∀ v ∈ vs, ∃ kd z, v = .int kd z
  | [], _, _, h => by simp only [VRels] at h; subst h; intro v hv; cases hv
  | a :: l, _, ha, h => by
    simp only [VRels] at h
    obtain ⟨x, vs, rfl, h1, h2⟩ := h
    simp only [List.all_cons, Bool.and_eq_true] at ha
    intro v hv
    rcases List.mem_cons.1 hv with e | e
    · subst e; exact isInt_rel ha.1 h1
    · exact isInts_rel ha.2 h2 v e
/-- the row that is given -/
theorem insRow_ok (hw : WRel ρ aw w) {s : AV} {s' : Value} (hs : VRel ρ s s') {b : Option K} {l : List AV} (h : insRow s aw = some (b, l)) :
    ∃ cs, VRels ρ l cs ∧ (b = none ∧ s' = .slice none 0 0 ∧ cs = [] ∨ ∃ kk c p cap arr t fz', b = some kk ∧ ρ kk = some c ∧ (∃ kb l0, hget kk aw.h = .win kb l0) ∧
      s' = .slice (some ⟨c, p, none⟩) cs.length cap ∧ cs.length ≤ cap ∧ cap ≤ 9223372036854775807 ∧ w.heap[c]? = some (.cells arr t fz') ∧ fz'.2 ≤ fz'.1 ∧ p + cap ≤ arr.size ∧ ∀ j v, cs[j]? = some v → arr[p + j]? = some v) := by
  unfold insRow at h
  split at h
  · injection h with h; injection h with h1 h2; subst h1 h2
    simp only [VRel] at hs
    exact ⟨[], by simp only [VRels], .inl ⟨rfl, hs, rfl⟩⟩
  · rename_i b
    split at h <;> try (cases h; done)
    rename_i kb l0 hg
    injection h with h; injection h with h1 h2; subst h1 h2
    simp only [VRel] at hs
    obtain ⟨c, p, cap', h1, ⟨h2, h3⟩, rfl⟩ := hs
    obtain ⟨arr, t, fz, c', e1, e2, e3, e4⟩ := hw.block hg (by simp) h1
    rw [wget_eq] at hg
    have hl := hw.len b c arr t fz (by rw [hg]; simp) h1 e1
    exact ⟨[], by simp only [VRels], .inr ⟨b, c, p, cap', arr, t, fz, rfl, h1, ⟨kb, l0, hg⟩, rfl, by simp, h2, e1, e3, by omega, by simp⟩⟩
  · rename_i b kb d n
    split at h <;> try (cases h; done)
    rename_i kb' l0 hg
    rw [bc_eq] at h
    split at h <;> try (cases h; done)
    rename_i hb
    simp only [Bool.and_eq_true] at hb
    obtain ⟨hb1, hb2⟩ := hb
    obtain rfl := (K.beq_iff _ _).1 hb1
    have hb2 := Nat.le_of_ble_eq_true hb2
    rw [llen_eq] at hb2
    injection h with h; injection h with h1 h2; subst h1 h2
    simp only [VRel] at hs
    obtain ⟨c, c', cap', h1, h2, ⟨q1, q2, q3, q4⟩, rfl⟩ := hs
    obtain ⟨arr, t, fz, c'', e1, e2, e3, e4⟩ := hw.block hg (by simp) h1
    rw [wget_eq] at hg
    have hl := hw.len b c arr t fz (by rw [hg]; simp) h1 e1
    have hlen : ((List.range n).map fun i => arr.getD (ρ.sz kb + d + i) undef).length = n := by simp
    refine ⟨(List.range n).map fun i => arr.getD (ρ.sz kb + d + i) undef, ?_, .inr ⟨b, c, ρ.sz kb + d, cap', arr, t, fz, rfl, h1, ⟨kb, l0, hg⟩, by rw [hlen], by rw [hlen]; exact q2, q3, e1, e3, by omega, ?_⟩⟩
    · apply VRels.of_get
      · simp; omega
      · intro i hi
        have hi' : i < n := by simp at hi; omega
        obtain ⟨v, r1, r2⟩ := e4 (d + i) (by omega)
        refine ⟨v, ?_, ?_⟩
        · simp [hi', Array.getD_eq_getD_getElem?, Nat.add_assoc, r1]
        · simp only [List.getElem_take, List.getElem_drop]; exact r2
    · intro j v hj
      have hlt : j < n := by have := (List.getElem?_eq_some_iff.1 hj).1; simpa using this
      obtain ⟨v', r1, _⟩ := e4 (d + j) (by omega)
      rw [← Nat.add_assoc] at r1
      simp [hlt, Array.getD_eq_getD_getElem?, r1] at hj
      rw [r1, hj]
  · cases h
noncomputable def killH : Option K → H4 → H4
  | some b, h => hset b .none h
  | none, h => h
theorem kill_mk (b : Option K) (h : H4) (nx : K) : killO b (.mk h nx) = .mk (killH b h) nx := by cases b <;> rfl
theorem insertK_pan (vs : List AV) (a a' : W) (ch : List PE) : insertK vs a ≠ .pan ch a' := by
  intro h
  unfold insertK at h
  split at h
  · split at h
    · rw [bc_eq] at h
      split at h
      · unfold putWin at h
        split at h
        simp only [bc_eq] at h
        split at h
        · cases h
        · split at h <;> cases h
      · cases h
    · cases h
  · cases h
theorem insertK_ok {f : FuncId} (hI : InsOk f) (hw : WRel ρ aw w) (hc : Clean ρ aw) {vs : List AV} {args : Array Value} (hv : VRels ρ vs args.toList) {v : AV} {aw' : W} (h : insertK vs aw = .ret v aw') :
    Calls PP f args w fun e w' => ∃ v' ρ', e = .returned v' ∧ VRel ρ' v v' ∧ Adv ρ aw w ρ' aw' w' := by
  unfold insertK at h
  split at h <;> try (cases h; done)
  rename_i s k vb
  split at h <;> try (cases h; done)
  rename_i b l t c hrow hvb
  rw [bc_eq] at h
  split at h <;> try (cases h; done)
  rename_i hcond
  simp only [Bool.and_eq_true] at hcond
  obtain ⟨⟨⟨⟨p1, p2⟩, p3⟩, p4⟩, p5⟩ := hcond
  rw [llen_eq] at p1 p2
  have p1 := Nat.le_of_ble_eq_true p1
  have p2 := Nat.le_of_ble_eq_true p2
  simp only [VRels, VRel, SlOk] at hv
  obtain ⟨s', _, ha, hs, _, _, rfl, hk, _, _, rfl, ⟨cv, cap1, hcv, _, hcap, rfl⟩, rfl⟩ := hv
  subst hk hcap
  obtain ⟨arr, fz, e1, e2, e3, e4, e5, e6⟩ := hw.block hvb (by simp) hcv
  have e3 := e3 rfl
  obtain ⟨x, x1, x2⟩ := e6 0 (by omega)
  have harr : arr = #[x] := by
    apply Array.ext
    · simpa using e3
    · intro i h1 h2
      have : i = 0 := by simp at h2; omega
      subst this
      obtain ⟨_, x1⟩ := Array.getElem?_eq_some_iff.1 x1
      simpa using x1
  subst harr
  have hfz : fz.2 ≤ fz.1 := by
    by_cases e : fz.2 ≤ fz.1
    · exact e
    · have := e5.2 fz.1 (Nat.le_refl _) (by omega); omega
  obtain ⟨cs, hcs, hrow'⟩ := insRow_ok hw hs hrow
  have hlen := VRels.length _ _ hcs
  have hargs : args = #[s', .int .i64 (Int.ofNat k), .slice (some ⟨cv, 0, none⟩) 1 1] := by
    apply Array.toList_inj.1
    simpa using ha
  subst hargs
  have hvbl : hget vb aw.h ≠ .none := by rw [← wget_eq, hvb]; simp
  have hpre : s' = .slice none 0 0 ∧ cs = [] ∨ ∃ c p cap arr t fz', s' = .slice (some ⟨c, p, none⟩) cs.length cap ∧ cs.length ≤ cap ∧ cap ≤ 9223372036854775807 ∧ c ≠ cv ∧ w.heap[c]? = some (.cells arr t fz') ∧ fz'.2 ≤ fz'.1 ∧ p + cap ≤ arr.size ∧ ∀ j v, cs[j]? = some v → arr[p + j]? = some v := by
    rcases hrow' with ⟨_, q1, q2⟩ | ⟨kk, c1, p, cap, arr, t, fz', hb, hkk, ⟨kb, l0, hg⟩, q1, q2, q3, q4, q5, q6, q7⟩
    · exact .inl ⟨q1, q2⟩
    · refine .inr ⟨c1, p, cap, arr, t, fz', q1, q2, q3, ?_, q4, q5, q6, q7⟩
      rintro rfl
      have := hw.inj kk vb (by rw [hg]; simp) hvbl (by rw [hkk, hcv])
      subst this
      rw [hb] at p5
      simp [notB, (K.beq_iff kk kk).2 rfl] at p5
  refine Calls.mono (hI w s' cs k cv t fz x e1 hfz (isInt_rel p3 x2) (isInts_rel p4 hcs) (by omega) (by omega) hpre) fun e w' hp => ?_
  obtain ⟨c', p', cap', arr', t', fz', rfl, z1, z2, z3, z4, z5, z6, z7, z8, z9, zc⟩ := hp
  -- what the new row holds
  obtain ⟨hh, nx⟩ := aw
  have hl' : VRels ρ (l.take k ++ cget c 0 :: l.drop k) (cs.take k ++ x :: cs.drop k) :=
    VRels.append _ _ _ _ (VRels.takeI k hcs) (by simp only [VRels]; exact ⟨_, _, rfl, x2, VRels.dropI k hcs⟩)
  have hn' : (l.take k ++ cget c 0 :: l.drop k).length = cs.length + 1 := by simp; omega
  have hwin : ∀ ρ1 : Env, ρ.le ρ1 → ∀ (kb : K) (c0 : Nat), ρ1 kb = some c0 → ρ1.sz kb = p' → ORel ρ1 (.win kb (l.take k ++ cget c 0 :: l.drop k)) (some (.cells arr' t' fz')) := by
    intro ρ1 hle kb c0 hkb hsz
    refine ⟨arr', t', fz', c0, rfl, hkb, z4, fun i hi => ?_⟩
    obtain ⟨v, r1, r2⟩ := VRels.get _ _ hl' i hi
    exact ⟨v, by rw [hsz]; exact z6 i v r1, VRel.mono hle _ _ r2⟩
  unfold putWin at h
  rw [kill_mk] at h
  simp only [bc_eq] at h
  split at h <;> try (cases h; done)
  rename_i hm
  split at h <;> try (cases h; done)
  rename_i hm'
  have hm : nx.isMax = false := by simpa using hm
  have hm' : nx.succ.isMax = false := by simpa using hm'
  have hs1 : nx.succ.num = nx.num + 1 := K.succ_num hm
  injection h with h1 h2
  subst h1 h2
  have hf0 : ρ nx = none := hc nx (Nat.le_refl _)
  have hne : nx.succ ≠ nx := by intro e; rw [e] at hs1; omega
  have hf1 : upd ρ nx 0 p' nx.succ = none := by rw [upd_ne ρ hne]; exact hc _ (by show nx.num ≤ _; omega)
  have fin : ∀ cc : Nat, VRel (upd (upd ρ nx 0 p') nx.succ cc (Obj.cellCount (.cells arr' t' fz'))) (.wsl nx.succ nx 0 (llen (l.take k ++ cget c 0 :: l.drop k))) (.slice (some ⟨cc, p', none⟩) (cs.length + 1) cap') := by
    intro cc
    simp only [VRel]
    rw [upd_same, sz_same, upd_ne _ hne.symm, sz_ne _ hne.symm, upd_same, sz_same, llen_eq, hn']
    exact ⟨cc, 0, cap', rfl, rfl, ⟨by omega, z1, z2, by simpa [Obj.cellCount] using z5⟩, rfl⟩
  rcases zc with ⟨y1, y2, y3⟩ | ⟨⟨p0, cap0, y1⟩, y2, y3⟩
  · -- a new block
    subst y1
    have hkl : Adv ρ (.mk hh nx) w ρ (.mk (killH b hh) nx) w := by
      cases b with
      | none => exact Adv.refl hw
      | some b =>
        have := adv_kill hw b (by
          rcases hrow' with ⟨q, _⟩ | ⟨kk, c1, p, cap, arr, t, fz', hb, hkk, ⟨kb, l0, hg⟩, _⟩
          · cases q
          · injection hb with hb; subst hb; rw [hg]; rfl)
        rw [wset_eq] at this
        exact this
    have hd := adv_dummy hkl.rel hf0 hm p'
    have hnw := adv_new hd.rel hf1 hm' (hwin _ hd.le nx 0 (upd_same ρ nx _ _) (sz_same ρ nx _ _))
    have hall := (hkl.trans hd).trans hnw
    refine ⟨_, _, rfl, fin w.heap.size, adv_heap hall ?_ z7 z8 z9⟩
    show w'.heap = w.heap.push _
    apply Array.ext
    · simpa using y2
    · intro i h1 h2
      by_cases hi : i < w.heap.size
      · have := y3 i hi
        rw [Array.getElem?_eq_getElem h1, Array.getElem?_eq_getElem hi] at this
        injection this with this
        rw [this, Array.getElem_push_lt hi]
      · have : i = w.heap.size := by omega
        subst this
        rw [Array.getElem?_eq_getElem h1] at z3
        injection z3 with z3
        rw [z3]; simp
  · -- in place
    rcases hrow' with ⟨_, q1, q2⟩ | ⟨kk, c1, p, cap, arr, t, fz1, hb, hkk, ⟨kb, l0, hg⟩, q1, q2, q3, q4, q5, q6, q7⟩
    · rw [q1] at y1; cases y1
    · rw [q1] at y1
      injection y1 with y1
      injection y1 with y1
      injection y1 with y1
      subst y1 hb
      have hd := adv_dummy hw hf0 hm p'
      have hkn : kk ≠ nx := by rintro rfl; rw [hf0] at hkk; cases hkk
      have hg' : hget kk hh = .win kb l0 := hg
      have hrk := adv_rekey hd.rel (b := kk) (c := c1) (o := .win nx (l.take k ++ cget c 0 :: l.drop k)) (obj := .cells arr' t' fz') (w' := w') (by rw [hg']; simp) (by rw [hg']; rfl) (by rw [upd_ne ρ hkn]; exact hkk) hf1 hm'
        (hwin _ hd.le nx 0 (upd_same ρ nx _ _) (sz_same ρ nx _ _)) z3 y2 y3 z7 z8 z9
      exact ⟨_, _, rfl, fin c1, hd.trans hrk⟩
end
end Go.Ev
