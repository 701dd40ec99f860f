import Derived.Test.YtocilenpboklbaaGreatDoorHqN
set_option maxRecDepth 100000
set_option linter.all false
namespace Go.Ev
theorem a5j {l r : List Int} (h : km l) {n : Int} (hn : n < cq l) : obL (pj l r) n = obL l n := by
 unfold obL
 rw [qz h]
 split
 ·rename_i h0
  have : n.toNat < (recs l.tail).length := by
   have : n < ((recs l.tail).length : Int) := hn
   omega
  rw [List.getD_eq_getElem?_getD, List.getD_eq_getElem?_getD, List.getElem?_append_left this]
 ·rfl
theorem awz {l r : List Int} (h : km l) : obL (pj l r) (cq l) = r := by
 unfold obL cq
 rw [if_pos (Int.natCast_nonneg _), qz h, Int.toNat_natCast, List.getD_eq_getElem?_getD, List.getElem?_append_right (zY _), Nat.sub_self]; rfl
theorem a4l {l r : List Int} (h : km l) {k n : Int} (hl : m9 l k n = 1) : m9 (pj l r) k n = 1 ∧ n < cq l ∧ 0 ≤ n := by
 unfold m9 at hl
 split at hl
 ·rename_i hc
  have hn : n < cq l := hc.2.1
  refine ⟨?_, hn, hc.1⟩
  unfold m9
  rw [if_pos]
  refine ⟨hc.1, ?_, ?_⟩
  ·rw [qz h, zP]
   have := hc.2.1
   show n < (((recs l.tail).length + 1 : Nat) : Int); omega
  ·rw [a5j h hn]; exact hc.2.2
 ·cases hl
theorem aws {l r : List Int} (h : km l) : ∀ (f : Nat) (k n : Int) (w : List Int), li f l k n = some w → li f (pj l r) k n = some w
 | 0, _, _, _, e => by simp [li] at e
 | f + 1, k, n, w, e => by
   unfold li at e ⊢
   split at e
   ·rename_i hc
    obtain ⟨a, b, c⟩ := a4l (r := r) h hc.2
    rw [if_pos ⟨hc.1, a⟩, a5j h b]
    cases hq : li f l ((obL l n).getD 3 0) ((obL l n).getD 4 0) with
    | none => rw [hq] at e; cases e
    | some w' => rw [hq] at e; rw [aws h f _ _ w' hq]; exact e
   ·rename_i hc
    split at e
    ·rename_i hd
     rw [if_neg (by rintro ⟨z, _⟩; omega), if_pos hd]; exact e
    ·cases e
theorem a45 (l : List Int) : cq l = ((recs l.tail).length : Int) := rfl
theorem avl (ws : List Int) : ∀ (i : Nat) (l : List Int) (k n : Int) (t : List Int), km l → cq l + i ≤ l.getD (0 : Int).toNat 0 → 2 * i ≤ ws.length → li ((recs l.tail).length + 1) l k n = some t →
  km (v7 i l ws k n).l ∧ cq (v7 i l ws k n).l = cq l + i ∧ (v7 i l ws k n).l.getD (0 : Int).toNat 0 = l.getD (0 : Int).toNat 0 ∧ li ((recs (v7 i l ws k n).l.tail).length + 1) (v7 i l ws k n).l (v7 i l ws k n).k (v7 i l ws k n).n = some (ws.take (2 * i) ++ t)
 | 0, l, k, n, t, h, hm, hw, e => ⟨h, by show cq l = cq l + ((0 : Nat) : Int); omega, rfl, by show li _ l k n = _; rw [Nat.mul_zero, List.take_zero, zD]; exact e⟩
 | i + 1, l, k, n, t, h, hm, hw, e => by
   have hr : zc [2, ws.getD (2 * i) 0, ws.getD (2 * i + 1) 0, k, n] = 0 := rfl
   have h1 := atb h hr (by omega)
   have m1 := ahk (r := [2, ws.getD (2 * i) 0, ws.getD (2 * i + 1) 0, k, n]) h
   have d1 := am6 (r := [2, ws.getD (2 * i) 0, ws.getD (2 * i + 1) 0, k, n]) h
   have e1 : li ((recs (pj l [2, ws.getD (2 * i) 0, ws.getD (2 * i + 1) 0, k, n]).tail).length + 1) (pj l [2, ws.getD (2 * i) 0, ws.getD (2 * i + 1) 0, k, n]) 2 (cq l) = some (ws.getD (2 * i) 0 :: ws.getD (2 * i + 1) 0 :: t) := by
    rw [qz h, zP]
    unfold li
    rw [if_pos]
    ·rw [awz h]
     have := aws (r := [2, ws.getD (2 * i) 0, ws.getD (2 * i + 1) 0, k, n]) h _ _ _ _ e
     show Option.map _ (li ((recs l.tail).length + 1) _ k n) = _
     rw [this]; rfl
    ·refine ⟨rfl, ?_⟩
     unfold m9
     rw [if_pos]
     refine ⟨Int.natCast_nonneg _, ?_, ?_⟩
     ·rw [qz h, zP, a45]; show ((recs l.tail).length : Int) < (((recs l.tail).length + 1 : Nat) : Int); omega
     ·rw [awz h]; rfl
   obtain ⟨a, b, c, d⟩ := avl ws i _ 2 (cq l) _ h1 (by rw [m1, d1]; omega) (by omega) e1
   refine ⟨a, by show cq (v7 i _ ws 2 (cq l)).l = _; rw [b, m1]; omega, by show (v7 i _ ws 2 (cq l)).l.getD _ _ = _; rw [c, d1], ?_⟩
   show li ((recs (v7 i _ ws 2 (cq l)).l.tail).length + 1) (v7 i _ ws 2 (cq l)).l (v7 i _ ws 2 (cq l)).k (v7 i _ ws 2 (cq l)).n = _
   rw [d]
   have g1 : ws.getD (2 * i) 0 = ws[2 * i]'(by omega) := by rw [List.getD_eq_getElem?_getD, zK (by omega)]; rfl
   have g2 : ws.getD (2 * i + 1) 0 = ws[2 * i + 1]'(by omega) := by rw [List.getD_eq_getElem?_getD, zK (by omega)]; rfl
   rw [show 2 * (i + 1) = 2 * i + 1 + 1 by omega, List.take_succ_eq_append_getElem (by omega), List.take_succ_eq_append_getElem (by omega), g1, g2, List.append_assoc, List.append_assoc]; rfl
theorem awx {l ws : List Int} {i : Int} (h : km l) (h0 : 0 ≤ i) (hm : cq l + i ≤ l.getD (0 : Int).toNat 0) (hw : (ws.length : Int) = 2 * i) :
  km (ol i l ws 1 0).l ∧ cq (ol i l ws 1 0).l = cq l + i ∧ (ol i l ws 1 0).l.getD (0 : Int).toNat 0 = l.getD (0 : Int).toNat 0 ∧ jv (ol i l ws 1 0).l (ol i l ws 1 0).k (ol i l ws 1 0).n = i ∧ ug (ol i l ws 1 0).l (ol i l ws 1 0).k (ol i l ws 1 0).n = ws := by
 obtain ⟨j, rfl⟩ : ∃ j : Nat, i = (j : Int) := ⟨i.toNat, by omega⟩
 have e : li ((recs l.tail).length + 1) l 1 0 = some [] := by
  unfold li
  rw [if_neg (by rintro ⟨z, _⟩; omega), if_pos ⟨rfl, rfl⟩]
 obtain ⟨a, b, c, d⟩ := avl ws j l 1 0 [] h hm (by omega) e
 rw [List.append_nil, List.take_of_length_le (by omega)] at d
 unfold ol
 rw [Int.toNat_natCast]
 refine ⟨a, b, c, ?_, ?_⟩
 ·unfold jv; rw [d]; show (ws.length : Int) / 2 = _; omega
 ·unfold ug; rw [d]; rfl
theorem a1z {l r : List Int} (h : km l) (hc : ach l) (hr : r.getD 0 0 = 2) : ach (pj l r) := by
 unfold ach at hc ⊢
 rw [qz h]
 intro x hx
 rcases List.mem_append.1 hx with hx | hx
 ·exact hc x hx
 ·rw [List.mem_singleton.1 hx]; exact hr
theorem ajq (ws : List Int) : ∀ (i : Nat) (l : List Int) (k n : Int), km l → ach l → cq l + i ≤ l.getD (0 : Int).toNat 0 → ach (v7 i l ws k n).l
 | 0, l, k, n, _, hc, _ => hc
 | i + 1, l, k, n, h, hc, hm => by
   have hlt : cq l < l.getD (0 : Int).toNat 0 := by omega
   unfold v7
   refine ajq ws i _ _ _ (atb h rfl hlt) (a1z h hc rfl) ?_
   rw [ahk h, am6 h]; omega
theorem ahb : km [200] := ⟨200, [], rfl, by omega, by omega, by simp, by simp [gz]⟩
theorem amw : cq [200] = 0 := rfl
theorem alg : ach [200] := by intro r hr; cases hr
theorem akb (l : List Int) : ((lg l).length : Int) = 2 * (l.length : Int) := by rw [ahe]; omega
theorem az2 {σ : Nat → List Int} {R H S : GE} {N K M LN : SE} {l : List Int}
  (eH : H = .app 210 (.i N (.g (.one (.c 200)) (.g R (.i (.c 1) (.i (.c 0) .nil))))))
  (eK : K = .app 211 (.i N (.g (.one (.c 200)) (.g R (.i (.c 1) (.i (.c 0) .nil))))))
  (eM : M = .app 212 (.i N (.g (.one (.c 200)) (.g R (.i (.c 1) (.i (.c 0) .nil))))))
  (eS : S = .app 213 (.g H (.i K (.i M .nil)))) (eL : LN = .app 213 (.g H (.i K (.i M .nil))))
  (hl : l.length ≤ 20) (hR : R.eval σ = lg l) (hN : N.eval σ = (l.length : Int)) :
  km (H.eval σ) ∧ ach (H.eval σ) ∧ cq (H.eval σ) = (l.length : Int) ∧ (H.eval σ).getD (0 : Int).toNat 0 = 200 ∧ LN.eval σ = (l.length : Int) ∧ S.eval σ = lg l := by
 obtain ⟨m1, m2, m3, m4, m5⟩ := awx (l := [200]) (ws := lg l) (i := (l.length : Int)) ahb (by omega) (by rw [amw]; show 0 + (l.length : Int) ≤ 200; omega) (akb l)
 have hH : H.eval σ = (ol (l.length : Int) [200] (lg l) 1 0).l := by rw [eH, ← hR, ← hN]; rfl
 have hK : K.eval σ = (ol (l.length : Int) [200] (lg l) 1 0).k := by rw [eK, ← hR, ← hN]; rfl
 have hM : M.eval σ = (ol (l.length : Int) [200] (lg l) 1 0).n := by rw [eM, ← hR, ← hN]; rfl
 refine ⟨by rw [hH]; exact m1, ?_, by rw [hH, m2, amw]; omega, by rw [hH, m3]; rfl, ?_, ?_⟩
 ·rw [hH]
  exact ajq _ _ _ _ _ ahb alg (by rw [amw]; show (0 : Int) + _ ≤ 200; omega)
 ·rw [eL]
  show jv (H.eval σ) (K.eval σ) (M.eval σ) = _
  rw [hH, hK, hM, m4]
 ·rw [eS]
  show ug (H.eval σ) (K.eval σ) (M.eval σ) = _
  rw [hH, hK, hM, m5]
theorem ado {σ : Nat → List Int} {R H H0 S : GE} {N K M LN : SE} {ws : List Int}
  (eH : H = .app 210 (.i N (.g H0 (.g R (.i (.c 1) (.i (.c 0) .nil))))))
  (eK : K = .app 211 (.i N (.g H0 (.g R (.i (.c 1) (.i (.c 0) .nil))))))
  (eM : M = .app 212 (.i N (.g H0 (.g R (.i (.c 1) (.i (.c 0) .nil))))))
  (eS : S = .app 213 (.g H (.i K (.i M .nil)))) (eL : LN = .app 213 (.g H (.i K (.i M .nil))))
  (h0 : km (H0.eval σ)) (h1 : cq (H0.eval σ) ≤ 20) (h2 : (H0.eval σ).getD (0 : Int).toNat 0 = 200) (hR : R.eval σ = ws) (hw : ws.length = 4) (hN : N.eval σ = 2) :
  km (H.eval σ) ∧ LN.eval σ = 2 ∧ S.eval σ = ws ∧ K.eval σ = 2 := by
 obtain ⟨m1, m2, m3, m4, m5⟩ := awx (l := H0.eval σ) (ws := ws) (i := 2) h0 (by omega) (by rw [h2]; omega) (by rw [hw]; rfl)
 have hH : H.eval σ = (ol 2 (H0.eval σ) ws 1 0).l := by rw [eH, ← hR, ← hN]; rfl
 have hK : K.eval σ = (ol 2 (H0.eval σ) ws 1 0).k := by rw [eK, ← hR, ← hN]; rfl
 have hM : M.eval σ = (ol 2 (H0.eval σ) ws 1 0).n := by rw [eM, ← hR, ← hN]; rfl
 refine ⟨by rw [hH]; exact m1, ?_, ?_, by rw [hK]; rfl⟩
 ·rw [eL]
  show jv (H.eval σ) (K.eval σ) (M.eval σ) = _
  rw [hH, hK, hM, m4]
 ·rw [eS]
  show ug (H.eval σ) (K.eval σ) (M.eval σ) = _
  rw [hH, hK, hM, m5]
end Go.Ev
set_option maxRecDepth 100000
set_option linter.all false
namespace Go.Ev
section
variable [Gv]
theorem a8w {kd f nxi nxo kx : Nat} {g : GE} {us : List AV} {Li : List HO} {r : TR} {Lo : List HO} {loN : LO} (hk : ∀ (ρ : Env) c H, ORel ρ (bt loN) H[c]? → ag5 kd (g.eval Gv.σ) c (fun x => x = c) H)
  (h1 : nxi ≤ kx) (h2 : kx ≤ 65535) (hro : (bt loN).isRo = false) (hLo : ∀ k, bi (ab k (ac Lo)) = none) (hlN : bi (bt loN) = none)
  (hf : br f us nxi Li r nxo (.mk kx loN :: Lo)) : br f us nxi Li r nxo (.mk kx (.gob (.lh kd g)) :: Lo) := by
 intro ρ args w hg hw hc hv
 have fin : ∀ (ρ' : Env) (w' : World), Adv ρ (ai Li nxi) w ρ' (ai (.mk kx loN :: Lo) nxo) w' → ∃ ρ3, Adv ρ (ai Li nxi) w ρ3 (ai (.mk kx (.gob (.lh kd g)) :: Lo) nxo) w' ∧ ρ'.le ρ3 := by
  intro ρ' w' hA
  have at0 : ab (K.of kx) (ac (.mk kx loN :: Lo)) = bt loN := by rw [ah, if_pos rfl]
  have at1 : ab (K.of kx) (ac (.mk kx (.gob (.lh kd g)) :: Lo)) = .gob (.lh kd g) := by rw [ah, if_pos rfl]; rfl
  have side0 : ∀ k, k ≠ K.of kx → ab k (ac (.mk kx loN :: Lo)) = ab k (ac Lo) := fun k h => by rw [ah, if_neg h]
  have side1 : ∀ k, k ≠ K.of kx → ab k (ac (.mk kx (.gob (.lh kd g)) :: Lo)) = ab k (ac Lo) := fun k h => by rw [ah, if_neg h]
  have live0 : ab (K.of kx) (ai (.mk kx loN :: Lo) nxo).h ≠ .none := by
   show ab _ (ac _) ≠ _
   rw [at0]; exact cy _
  have back : ∀ k, ab k (ai (.mk kx (.gob (.lh kd g)) :: Lo) nxo).h ≠ .none → ab k (ai (.mk kx loN :: Lo) nxo).h ≠ .none := by
   intro k h
   by_cases e : k = K.of kx
   ·subst e; exact live0
   ·have h : ab k (ac _) ≠ .none := h
    show ab k (ac _) ≠ .none
    rw [side1 k e] at h; rw [side0 k e]; exact h
  obtain ⟨c0, hc0, ho0⟩ := hA.rel.dom _ live0
  have ho0 : ORel ρ' (ab (K.of kx) (ac (.mk kx loN :: Lo))) w'.heap[c0]? := ho0
  rw [at0] at ho0
  have hrel := hk ρ' c0 w'.heap ho0
  have lt0 : c0 < w'.heap.size := by
   obtain ⟨y, hy⟩ := ho0.some (cy _)
   exact (zI.1 hy).1
  have nolh : ∀ k, k ≠ K.of kx → bi (ab k (ac (.mk kx (.gob (.lh kd g)) :: Lo))) = none := fun k h => by rw [side1 k h]; exact hLo k
  have hle3 : ρ'.le { ρ' with ft := fun l => if l = K.of kx then (fun x => x = c0) else ρ'.ft l } := fun k c h => ⟨h, rfl⟩
  have numi : (ai Li nxi).nx.num = nxi ∨ True := .inr trivial
  refine ⟨{ ρ' with ft := fun l => if l = K.of kx then (fun x => x = c0) else ρ'.ft l }, ⟨⟨?_, ?_, ?_, ?_⟩, Env.le_trans hA.le hle3, ?_, hA.nx, hA.size, ?_, ?_, hA.frame, ?_, hA.os, hA.tape, hA.output⟩, hle3⟩
  ·intro k l a b e
   rcases hA.rel.inj k l (back k a) (back l b) e with q | ⟨q, r⟩
   ·exact .inl q
   ·have ex : ∀ k, (ab k (ac (.mk kx loN :: Lo))).isRo = true → (ab k (ac (.mk kx (.gob (.lh kd g)) :: Lo))).isRo = true := by
     intro k h
     by_cases e : k = K.of kx
     ·subst e; rw [at0, hro] at h; cases h
     ·rw [side0 k e] at h; rw [side1 k e]; exact h
    exact .inr ⟨ex k q, ex l r⟩
  ·intro k a
   obtain ⟨c, hc, ho⟩ := hA.rel.dom k (back k a)
   refine ⟨c, hc, ?_⟩
   show ORel _ (ab k (ac _)) _
   by_cases e : k = K.of kx
   ·subst e
    rw [at1]
    have hc : ρ' (K.of kx) = some c := hc
    rw [hc0] at hc
    obtain rfl := Option.some.inj hc
    obtain ⟨y, hy⟩ := ho0.some (cy _)
    exact ⟨y, hy⟩
   ·have ho : ORel ρ' (ab k (ac _)) _ := ho
    rw [side0 k e] at ho
    rw [side1 k e]
    exact ho.mono hle3
  ·intro k c arr t fz a e1 e2
   exact hA.rel.len k c arr t fz (back k a) e1 e2
  ·intro k kd' gg a
   have a : bi (ab k (ac (.mk kx (.gob (.lh kd g)) :: Lo))) = some (kd', gg) := a
   by_cases e : k = K.of kx
   ·subst e
    rw [at1] at a
    injection a with a
    injection a with e1 e2
    subst e1 e2
    have ft0 : ({ ρ' with ft := fun l => if l = K.of kx then (fun x => x = c0) else ρ'.ft l } : Env).ft (K.of kx) = fun x => x = c0 := by show (if K.of kx = K.of kx then _ else _) = _; rw [if_pos rfl]
    refine ⟨?_, ?_, ?_, ?_, ?_⟩
    ·intro c hc
     have hc : ρ' (K.of kx) = some c := hc
     rw [hc0] at hc
     obtain rfl := Option.some.inj hc
     rw [ft0]
    ·intro c hc
     have hc : ρ' (K.of kx) = some c := hc
     rw [hc0] at hc
     obtain rfl := Option.some.inj hc
     rw [ft0]; exact hrel
    ·rw [ft0]; rintro c rfl; exact lt0
    ·intro l hl hn c hlc
     rw [ft0]
     rintro rfl
     have hlc : ρ' l = some c := hlc
     exact hn (hA.rel.inj1 (back l hl) live0 (.inr (by show (ab _ (ac _)).isRo = false; rw [at0]; exact hro)) (by rw [hlc, hc0]))
    ·intro l hl hn
     exact absurd (nolh l hn) hl
   ·rw [nolh k e] at a; cases a
  ·exact hA.rng
  ·rintro c ⟨k, k1, k2, k3⟩
   have k2 : (ab k (ac (.mk kx (.gob (.lh kd g)) :: Lo))).isRo = false := k2
   by_cases e : k = K.of kx
   ·subst e
    have fin0 : c = c0 → Own ρ (ai Li nxi) c ∨ w.heap.size ≤ c := by
     rintro rfl
     refine hA.own c ⟨K.of kx, live0, ?_, .inl hc0⟩
     show (ab _ (ac _)).isRo = false
     rw [at0]; exact hro
    rcases k3 with k3 | ⟨_, k3⟩
    ·have k3 : ρ' (K.of kx) = some c := k3
     rw [hc0] at k3
     exact fin0 (Option.some.inj k3).symm
    ·have k3 : (if K.of kx = K.of kx then (fun x => x = c0) else ρ'.ft (K.of kx)) c := k3
     rw [if_pos rfl] at k3
     exact fin0 k3
   ·rcases k3 with k3 | ⟨k3, _⟩
    ·refine hA.own c ⟨k, back k k1, ?_, .inl k3⟩
     show (ab _ (ac _)).isRo = false
     rw [side1 k e] at k2; rw [side0 k e]; exact k2
    ·exact absurd (nolh k e) k3
  ·intro k c a hc
   exact hA.keep k c (back k a) hc
  ·intro k hkk hl
   have n0 : k ≠ K.of kx := by
    rintro rfl
    have numi : (ai Li nxi).nx = K.of nxi := rfl
    rw [numi] at hkk
    have q : (K.of nxi).num ≤ nxi := by
     by_cases q : nxi < 65536
     ·rw [bp q]; exact zY _
     ·have := (K.of nxi); exact Nat.le_trans (Nat.le_of_lt (by omega)) (Nat.le_of_not_lt q)
    rw [bp (by omega)] at hkk
    omega
   have q := hA.fts k hkk hl
   refine ⟨?_, nolh k n0⟩
   show (if k = K.of kx then _ else ρ'.ft k) = _
   rw [if_neg n0]; exact q.1
 refine Calls.mono (hf ρ args w hg hw hc hv) fun e w' hp' => ?_
 cases r with
 | ret v =>
   obtain ⟨v', ρ2, e1, e2, hA⟩ := hp'
   obtain ⟨ρ3, hA3, hle⟩ := fin ρ2 w' hA
   exact ⟨v', ρ3, e1, e2.mono hle, hA3⟩
 | pan ch =>
   obtain ⟨ch', ρ2, e1, e2, hA⟩ := hp'
   obtain ⟨ρ3, hA3, hle⟩ := fin ρ2 w' hA
   exact ⟨ch', ρ3, e1, e2.mono hle, hA3⟩
noncomputable def bmq : LO := .cells 132 false 0 0 [.int .i64 200, .int .i64 0, .int .i64 0, .nilSlice, .nilSlice]
theorem bfo (ρ : Env) (c : Nat) (H : Array Obj) (h : ORel ρ (bt bmq) H[c]?) : ag5 2 ((GE.one (.c 200)).eval Gv.σ) c (fun x => x = c) H := by
 obtain ⟨arr, fz, e1, e2, e3⟩ := (ew (by simp)).1 h
 simp only [VRels] at e3
 obtain ⟨v1, t1, q1, r1, v2, t2, q2, r2, v3, t3, q3, r3, v4, t4, q4, r4, v5, t5, q5, r5, q6⟩ := e3
 simp only [VRel] at r1 r2 r3 r4 r5
 refine .inr ⟨rfl, 200, [], rfl, ⟨by omega, by omega, by simp, by simp [gz]⟩, .inl ⟨rfl, rfl, arr, fz, e1, ?_, e2⟩⟩
 rw [q1, q2, q3, q4, q5, q6, r1, r2, r3, r4, r5]; rfl
theorem bmh (k : K) : bi (ab k (ac [])) = none := by
 by_cases h : ab k (ac []) = .none
 ·rw [h]; rfl
 ·rcases gi k [] h with ⟨n, o, q1, q2, q3⟩ | ⟨g, cs, q1, q2, q3⟩
  ·cases q1
  ·rw [q3]; rfl
theorem bi5 : br 29 [.int .i64 200] 256 [] (.ret (.tuple [.ptr (K.of 256) 0, .int .i64 0])) 258 [hH 256 (.one (.c 200))] :=
 a8w (kd := 2) (kx := 256) (loN := bmq) (Lo := []) bfo (by omega) (by omega) rfl bmh rfl (ak (n := 2000) (A := []) (T := [(256, 256)]) (E := .nil) aq al SAll.nil trivial rfl rfl (by kernel_rfl))
end
noncomputable def bmp : TM := .mk 29 [.int .i64 200] 256 [] [] none (.ret (.tuple [.ptr (K.of 256) 0, .int .i64 0])) 258 [hH 256 (.one (.c 200))]
theorem bfp [Gv] : bo bmp := fun σ _ _ _ => @bi5 ⟨σ⟩
end Go.Ev
