import Derived.Test.YtjakdjfepibedaaGreatDoorEvFr
set_option maxRecDepth 100000
set_option linter.all false
namespace Go.Ev
/- A call with a slice whose capacity is known from below only: with no room, and with some room, it comes to the same. -/
theorem K.max_num {k : K} (h : k.isMax = true) : k.num = 65535 := by
  obtain ⟨a, b, c, d⟩ := k
  have h : bc a.isMax (bc b.isMax (bc c.isMax d.isMax false) false) false = true := h
  obtain ⟨h1, h⟩ := bc_and.1 h
  obtain ⟨h2, h⟩ := bc_and.1 h
  obtain ⟨h3, h4⟩ := bc_and.1 h
  show ((a.num * 16 + b.num) * 16 + c.num) * 16 + d.num = _
  rw [I.max_num h1, I.max_num h2, I.max_num h3, I.max_num h4]
section
variable {ρ ρ' : Env} {a : W} {w w' : World}
def rowOf (t : TypeId) (l : List AV) : LO := .cells t true 0 0 l
/-- the next key may be a later one -/
theorem Adv.later {h : H4} {nx nx' : K} (hA : Adv ρ a w ρ' (.mk h nx) w') (hn : nx.num ≤ nx'.num) : Adv ρ a w ρ' (.mk h nx') w' :=
  ⟨⟨hA.rel.inj, hA.rel.dom, hA.rel.len⟩, hA.le, fun k => (hA.rng k).imp id fun e => ⟨e.1, Nat.lt_of_lt_of_le e.2 hn⟩, Nat.le_trans hA.nx hn, hA.size, hA.own, hA.keep, hA.frame, hA.os, hA.tape, hA.output⟩
/-- the row that comes back goes under a key of its own -/
theorem adv_name {bk N nx2 c : Nat} {t : TypeId} {l : List AV} (hA : Adv ρ a w ρ' (withL [.mk bk (rowOf t l)] nx2) w') (hb : 256 ≤ bk) (hbk : bk ≤ 65535) (h2 : nx2 ≤ N) (h3 : N + 1 ≤ 65535) (hfree : ρ' (K.of N) = none) (hc : ρ' (K.of bk) = some c) :
    ∃ ρ2, ρ'.le ρ2 ∧ ρ2 (K.of N) = some c ∧ ρ2.sz (K.of N) = ρ'.sz (K.of bk) ∧ Adv ρ a w ρ2 (withL [.mk N (rowOf t l)] (N + 1)) w' := by
  have n2 : (K.of nx2).num = nx2 := K.of_num' (by omega)
  have nN : (K.of N).num = N := K.of_num' (by omega)
  have nN1 : (K.of (N + 1)).num = N + 1 := K.of_num' (by omega)
  have hm : (K.of N).isMax = false := by
    cases hx : (K.of N).isMax with
    | false => rfl
    | true =>
      exfalso
      have := K.max_num hx
      omega
  have hsucc : (K.of N).succ = K.of (N + 1) := K.num_inj (by rw [K.succ_num hm, nN, nN1])
  have hA1 : Adv ρ a w ρ' (.mk (buildH [.mk bk (rowOf t l)]) (K.of N)) w' := hA.later (by rw [n2, nN]; exact h2)
  have hget0 : hget (K.of bk) (buildH [.mk bk (rowOf t l)]) = objOf (rowOf t l) := by simp only [buildH]; rw [hget_hset_same]
  obtain ⟨c', hc', ho⟩ := hA1.rel.dom (K.of bk) (by show hget _ (buildH _) ≠ _; rw [hget0]; exact objOf_ne _)
  rw [hc] at hc'; cases hc'
  have ho : ORel ρ' (hget (K.of bk) (buildH [.mk bk (rowOf t l)])) (w'.heap[c]?) := ho
  rw [hget0] at ho
  have ho' := ho
  obtain ⟨arr, fz, e1, _⟩ := ho'
  rw [e1] at ho
  have hsz := hA1.rel.len (K.of bk) c arr t fz (by show hget _ (buildH _) ≠ _; rw [hget0]; exact objOf_ne _) hc e1
  have hk := adv_rekey (o := objOf (rowOf t l)) (obj := .cells arr t fz) (w' := w') hA1.rel (by rw [hget0]; exact objOf_ne _) (by rw [hget0]; rfl) hc hfree hm ho e1 rfl (fun _ _ => rfl) rfl rfl rfl
  have hle : ρ'.le (upd ρ' (K.of N) c (Obj.cellCount (.cells arr t fz))) := hk.le
  refine ⟨_, hle, upd_same _ _ _ _, by rw [sz_same]; exact hsz, ?_⟩
  refine (hA1.trans hk).right ⟨?_, ?_⟩
  · show K.of (N + 1) = (K.of N).succ
    rw [hsucc]
  · intro k hk0
    have hk0 : hget k (buildH [.mk N (rowOf t l)]) ≠ .none := hk0
    show hget k (hset (K.of N) (objOf (rowOf t l)) (hset (K.of bk) .none (buildH [.mk bk (rowOf t l)]))) ≠ .none ∧ (hget k (buildH [.mk N (rowOf t l)])).isRo = (hget k (hset (K.of N) (objOf (rowOf t l)) (hset (K.of bk) .none (buildH [.mk bk (rowOf t l)])))).isRo ∧ ∀ ρ x, ORel ρ (hget k (hset (K.of N) (objOf (rowOf t l)) (hset (K.of bk) .none (buildH [.mk bk (rowOf t l)])))) x → ORel ρ (hget k (buildH [.mk N (rowOf t l)])) x
    by_cases e : k = K.of N
    · subst e
      have e1 : hget (K.of N) (buildH [.mk N (rowOf t l)]) = objOf (rowOf t l) := by simp only [buildH]; rw [hget_hset_same]
      rw [e1, hget_hset_same]
      exact ⟨objOf_ne _, rfl, fun _ _ h => h⟩
    · have e1 : hget k (buildH [.mk N (rowOf t l)]) = hget k (layH laidL) := by simp only [buildH]; rw [hget_hset_ne e]
      rw [e1] at hk0
      have hkb : k ≠ K.of bk := by
        rintro rfl
        obtain ⟨g, cs, q1, q2, q3, _⟩ := lay_get (K.of bk) laidL hk0
        have hg := (fine_get _ laid_fine g cs q1).1
        have := congrArg K.num q2
        rw [K.of_num' (by omega), K.of_num' (by omega)] at this
        omega
      rw [e1, hget_hset_ne e, hget_hset_ne hkb]
      simp only [buildH]
      rw [hget_hset_ne hkb]
      exact ⟨hk0, rfl, fun _ _ h => h⟩
/-- with no room, and with some room -/
theorem cap_join {f nxi N b n es m : Nat} {t : TypeId} {l0 l : List AV} {rest : List AV} {L1 : List HO} {bA cA nxA nxB : Nat}
    (hA : FactW f (.slice (K.of b) 0 n n none :: rest) nxi (.mk b (rowOf t l0) :: L1) (.slice (K.of bA) 0 m cA (some es)) nxA [.mk bA (rowOf t l)])
    (hB : ∀ k, FactW f (.slice (K.of b) 0 n (n + 1 + k) none :: rest) nxi (.mk b (rowOf t (l0 ++ List.replicate es .top)) :: L1) (.slice (K.of b) 0 m (n + 1 + k) none) nxB [.mk b (rowOf t l)])
    (hl0 : l0.length = n * es) (hb : 256 ≤ b) (hb2 : b < nxi) (hbA : 256 ≤ bA) (hbA2 : bA ≤ 65535) (h1 : nxA ≤ N) (h2 : nxB ≤ N) (h3 : N + 1 ≤ 65535) (hi : nxi ≤ N) (hes : (n + 1) * es ≤ 65536) :
    FactW f (.slice (K.of b) 0 n n (some es) :: rest) nxi (.mk b (rowOf t l0) :: L1) (.slice (K.of N) 0 m m (some es)) (N + 1) [.mk N (rowOf t l)] := by
  intro ρ args w hg hw hc hv
  have ni : (K.of nxi).num = nxi := K.of_num' (by omega)
  have nN : (K.of N).num = N := K.of_num' (by omega)
  have hfree : ∀ (ρ' : Env) (nx2 : Nat) (a2 : W) (w' : World), nx2 ≤ N → a2.nx = K.of nx2 → Adv ρ (withL (.mk b (rowOf t l0) :: L1) nxi) w ρ' a2 w' → ρ' (K.of N) = none := by
    intro ρ' nx2 a2 w' hn hx hA
    rcases hA.rng (K.of N) with e | e
    · rw [e]; exact hc (K.of N) (by show (K.of nxi).num ≤ _; rw [ni, nN]; exact hi)
    · have e2 := e.2
      rw [hx, nN, K.of_num' (by omega)] at e2
      omega
  obtain ⟨x, r, e0, hx, hr⟩ := (by simpa only [VRels] using hv : ∃ v vs, args.toList = v :: vs ∧ VRel ρ (.slice (K.of b) 0 n n (some es)) v ∧ VRels ρ rest vs)
  have hx0 := hx
  simp only [VRel, SlOk] at hx
  obtain ⟨c, cap', hbc, ⟨_, hcap⟩, hroom, rfl⟩ := hx
  have fin : ∀ (ρ' : Env) (v' : Value) (w' : World) (bk nx2 ck capR : Nat), 256 ≤ bk → bk ≤ 65535 → nx2 ≤ N → ρ' (K.of bk) = some ck → m ≤ capR → 0 + capR * es ≤ ρ'.sz (K.of bk) → v' = .slice (some ⟨ck, 0, none⟩) m capR →
      Adv ρ (withL (.mk b (rowOf t l0) :: L1) nxi) w ρ' (withL [.mk bk (rowOf t l)] nx2) w' →
      ∃ v2 ρ2, Ending.returned v' = .returned v2 ∧ VRel ρ2 (.slice (K.of N) 0 m m (some es)) v2 ∧ Adv ρ (withL (.mk b (rowOf t l0) :: L1) nxi) w ρ2 (withL [.mk N (rowOf t l)] (N + 1)) w' := by
    intro ρ' v' w' bk nx2 ck capR q1 q2 q3 q4 q5 q6 q7 q8
    obtain ⟨ρ2, r1, r2, r3, r4⟩ := adv_name q8 q1 q2 q3 h3 (hfree ρ' nx2 _ w' q3 rfl q8) q4
    refine ⟨v', ρ2, rfl, ?_, r4⟩
    simp only [VRel, SlOk]
    exact ⟨ck, capR, r2, ⟨Nat.le_refl _, q5⟩, by rw [r3]; exact q6, q7⟩
  by_cases hcase : cap' = n
  · subst hcase
    have hv' : VRels ρ (.slice (K.of b) 0 cap' cap' none :: rest) args.toList := by
      simp only [VRels]
      refine ⟨_, r, e0, ?_, hr⟩
      simp only [VRel, SlOk]
      exact ⟨c, cap', hbc, ⟨Nat.le_refl _, Nat.le_refl _⟩, rfl, rfl⟩
    refine Calls.mono (hA ρ args w hg hw hc hv') fun e w' hp => ?_
    obtain ⟨v', ρ', rfl, hv2, hAdv⟩ := hp
    simp only [VRel, SlOk] at hv2
    obtain ⟨ck, capR, k1, ⟨k2, k3⟩, k4, k5⟩ := hv2
    exact fin ρ' v' w' bA nxA ck capR hbA hbA2 h1 k1 (by omega) k4 k5 hAdv
  · obtain ⟨k, rfl⟩ : ∃ k, cap' = n + 1 + k := ⟨cap' - n - 1, by omega⟩
    have hv' : VRels ρ (.slice (K.of b) 0 n (n + 1 + k) none :: rest) args.toList := by
      simp only [VRels]
      refine ⟨_, r, e0, ?_, hr⟩
      simp only [VRel, SlOk]
      exact ⟨c, n + 1 + k, hbc, ⟨by omega, Nat.le_refl _⟩, rfl, rfl⟩
    have hgb : hget (K.of b) (buildH (.mk b (rowOf t l0) :: L1)) = objOf (rowOf t l0) := by simp only [buildH]; rw [hget_hset_same]
    have hgB : hget (K.of b) (buildH (.mk b (rowOf t (l0 ++ List.replicate es .top)) :: L1)) = objOf (rowOf t (l0 ++ List.replicate es .top)) := by simp only [buildH]; rw [hget_hset_same]
    have hgo : ∀ k, k ≠ K.of b → hget k (buildH (.mk b (rowOf t (l0 ++ List.replicate es .top)) :: L1)) = hget k (buildH (.mk b (rowOf t l0) :: L1)) := by
      intro k hk; simp only [buildH]; rw [hget_hset_ne hk, hget_hset_ne hk]
    have liv : ∀ k, hget k (buildH (.mk b (rowOf t (l0 ++ List.replicate es .top)) :: L1)) ≠ .none → hget k (buildH (.mk b (rowOf t l0) :: L1)) ≠ .none := by
      intro k hk
      by_cases e : k = K.of b
      · subst e; rw [hgb]; exact objOf_ne _
      · rw [← hgo k e]; exact hk
    have hlr : (l0 ++ List.replicate es AV.top).length = (n + 1) * es := by
      rw [List.length_append, hl0, List.length_replicate, Nat.add_mul, Nat.one_mul]
    have hwB : WRel ρ (withL (.mk b (rowOf t (l0 ++ List.replicate es .top)) :: L1) nxi) w := by
      refine ⟨fun k l hk hl e => hw.inj k l (liv k hk) (liv l hl) e, fun k hk => ?_, fun k c arr t fz hk hc hx => hw.len k c arr t fz (liv k hk) hc hx⟩
      by_cases e : k = K.of b
      · subst e
        obtain ⟨c', k1, k2⟩ := hw.dom (K.of b) (liv _ hk)
        rw [hbc] at k1; cases k1
        refine ⟨c, hbc, ?_⟩
        have k2 : ORel ρ (hget (K.of b) (buildH (.mk b (rowOf t l0) :: L1))) (w.heap[c]?) := k2
        show ORel ρ (hget (K.of b) (buildH (.mk b (rowOf t (l0 ++ List.replicate es .top)) :: L1))) (w.heap[c]?)
        rw [hgB]
        rw [hgb] at k2
        obtain ⟨arr, fz, e1, e2, e3, e4, e5, e6⟩ := k2
        have hsz := hw.len (K.of b) c arr t fz (liv _ hk) hbc e1
        have hfit : (n + 1) * es ≤ arr.size := by
          rw [hsz]
          have : (n + 1) * es ≤ (n + 1 + k) * es := Nat.mul_le_mul_right _ (by omega)
          omega
        have hcap := ccap_cempty (l0 ++ List.replicate es AV.top).length (by omega)
        have hcap0 := ccap_cempty l0.length (by rw [hl0]; have : n * es ≤ (n + 1) * es := Nat.mul_le_mul_right _ (by omega); omega)
        rw [llen_eq] at e2 e6
        refine ⟨arr, fz, e1, by rw [llen_eq, hlr]; exact hfit, (fun x => by cases x), by rw [llen_eq, ccap_cfill]; exact hcap, e5, ?_⟩
        intro i hi
        rw [llen_eq] at hi
        rw [llen_eq, cget_cfill _ 0 _ i (by omega) (by omega), dif_pos ⟨Nat.zero_le _, by omega⟩]
        by_cases hlt : i < l0.length
        · obtain ⟨v, s1, s2⟩ := e6 i hlt
          rw [cget_cfill _ 0 _ i (by omega) (by omega), dif_pos ⟨Nat.zero_le _, by omega⟩] at s2
          refine ⟨v, s1, ?_⟩
          simp only [Nat.sub_zero] at s2 ⊢
          rw [List.getElem_append_left hlt]
          exact s2
        · refine ⟨arr[i]'(by omega), Array.getElem?_eq_getElem _, ?_⟩
          simp only [Nat.sub_zero]
          rw [List.getElem_append_right (by omega), List.getElem_replicate]
          simp only [VRel]
      · obtain ⟨c', k1, k2⟩ := hw.dom k (liv _ hk)
        refine ⟨c', k1, ?_⟩
        show ORel ρ (hget k (buildH (.mk b (rowOf t (l0 ++ List.replicate es .top)) :: L1))) (w.heap[c']?)
        rw [hgo k e]
        exact k2
    refine Calls.mono (hB k ρ args w hg hwB hc hv') fun e w' hp => ?_
    obtain ⟨v', ρ', rfl, hv2, hAdv⟩ := hp
    simp only [VRel, SlOk] at hv2
    obtain ⟨ck, capR, k1, ⟨k2, k3⟩, k4, k5⟩ := hv2
    subst k4
    have hAdv2 : Adv ρ (withL (.mk b (rowOf t l0) :: L1) nxi) w ρ' (withL [.mk b (rowOf t l)] nxB) w' := by
      refine ⟨hAdv.rel, hAdv.le, hAdv.rng, hAdv.nx, hAdv.size, fun c hc => (hAdv.own c hc).imp ?_ id, fun k c hk hc => (hAdv.keep k c hk hc).imp ?_ id, fun c hc hn => hAdv.frame c hc fun q => hn ?_, hAdv.os, hAdv.tape, hAdv.output⟩
      · rintro ⟨k, q1, q2, q3⟩
        refine ⟨k, liv k q1, ?_, q3⟩
        have q2 : (hget k (buildH (.mk b (rowOf t (l0 ++ List.replicate es .top)) :: L1))).isRo = false := q2
        show (hget k (buildH (.mk b (rowOf t l0) :: L1))).isRo = false
        by_cases e : k = K.of b
        · subst e; rw [hgb]; exact objOf_ro _
        · rw [← hgo k e]; exact q2
      · rintro ⟨l, q1, q2⟩; exact ⟨l, liv l q1, q2⟩
      · obtain ⟨k, q1, q2, q3⟩ := q
        refine ⟨k, liv k q1, ?_, q3⟩
        have q2 : (hget k (buildH (.mk b (rowOf t (l0 ++ List.replicate es .top)) :: L1))).isRo = false := q2
        show (hget k (buildH (.mk b (rowOf t l0) :: L1))).isRo = false
        by_cases e : k = K.of b
        · subst e; rw [hgb]; exact objOf_ro _
        · rw [← hgo k e]; exact q2
    have hkb := (hAdv.le _ _ hbc)
    have k1 : ρ' (K.of b) = some ck := k1
    exact fin ρ' v' w' b nxB ck (n + 1 + k) hb (by omega) h2 k1 (by omega) (by rw [hkb.2]; exact hroom) k5 hAdv2
end
noncomputable section
def retOf (r : CR) : AV := match r with
  | .ret v _ => v
  | _ => undefA
def segW (r : CR) (L : List HO) (nx : Nat) : Bool := match r with
  | .ret _ w => fitsL L nx w
  | _ => false
end
/-- a call whose result is not to be compared by its digits -/
theorem factW_of_run2 {H : Hook} (hH : HookOk H) {n f nxi nxo : Nat} {vs : List AV} {v : AV} {Li Lo : List HO} (h1 : retOf (enter (run H n) f vs (withL Li nxi)) = v) (h2 : segW (enter (run H n) f vs (withL Li nxi)) Lo nxo = true) : FactW f vs nxi Li v nxo Lo := by
  intro ρ args w hg hw hc hv
  cases he : enter (run H n) f vs (withL Li nxi) with
  | ret v' aw =>
    rw [he] at h1 h2
    have h1 : v' = v := h1
    have h2 : fitsL Lo nxo aw = true := h2
    subst h1
    have := enter_ok (run_ok hH n) hg hw hc (f := f) hv (by rw [he]; trivial)
    rw [he] at this
    refine Calls.mono this fun e w' hp => ?_
    obtain ⟨v', ρ', rfl, hv', hA⟩ := hp
    exact ⟨v', ρ', rfl, hv', hA.right (fits_sub h2)⟩
  | pan ch aw => rw [he] at h2; cases h2
  | no c x => rw [he] at h2; cases h2
end Go.Ev
