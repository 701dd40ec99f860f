import Derived.Test.YtocilenpboklbaaGreatDoorHsE
set_option maxRecDepth 100000
set_option linter.all false
namespace Go.Ev
section
variable [Gv]
theorem a7c {kd f nxi nxo kx : Nat} {g : GE} {us : List AV} {Li : List HO} {r : TR} {Lo : List HO} {loN : LO} (hk : ∀ (ρ : Env) c H, ORel ρ (bu loN) H[c]? → ah4 kd (g.eval Gv.σ) c (fun x => x = c) H)
  (h1 : nxi ≤ kx) (h2 : kx ≤ 65535) (hro : (bu loN).isRo = false) (hLo : ∀ k, bi (aa k (ab Lo)) = none) (hlN : bi (bu loN) = none)
  (hf : di f us nxi Li r nxo (.mk kx loN :: Lo)) : di f us nxi Li r nxo (.mk kx (.gob (.lh kd g)) :: Lo) := by
 intro ρ args w hg hw hc hv
 have fin : ∀ (ρ' : Env) (w' : World), Adv ρ (ag Li nxi) w ρ' (ag (.mk kx loN :: Lo) nxo) w' → ∃ ρ3, Adv ρ (ag Li nxi) w ρ3 (ag (.mk kx (.gob (.lh kd g)) :: Lo) nxo) w' ∧ ρ'.le ρ3 := by
  intro ρ' w' hA
  have at0 : aa (K.of kx) (ab (.mk kx loN :: Lo)) = bu loN := by rw [af, if_pos rfl]
  have at1 : aa (K.of kx) (ab (.mk kx (.gob (.lh kd g)) :: Lo)) = .gob (.lh kd g) := by rw [af, if_pos rfl]; rfl
  have side0 : ∀ k, k ≠ K.of kx → aa k (ab (.mk kx loN :: Lo)) = aa k (ab Lo) := fun k h => by rw [af, if_neg h]
  have side1 : ∀ k, k ≠ K.of kx → aa k (ab (.mk kx (.gob (.lh kd g)) :: Lo)) = aa k (ab Lo) := fun k h => by rw [af, if_neg h]
  have live0 : aa (K.of kx) (ag (.mk kx loN :: Lo) nxo).h ≠ .none := by
   show aa _ (ab _) ≠ _
   rw [at0]; exact c7 _
  have back : ∀ k, aa k (ag (.mk kx (.gob (.lh kd g)) :: Lo) nxo).h ≠ .none → aa k (ag (.mk kx loN :: Lo) nxo).h ≠ .none := by
   intro k h
   by_cases e : k = K.of kx
   ·subst e; exact live0
   ·have h : aa k (ab _) ≠ .none := h
    show aa k (ab _) ≠ .none
    rw [side1 k e] at h; rw [side0 k e]; exact h
  obtain ⟨c0, hc0, ho0⟩ := hA.rel.dom _ live0
  have ho0 : ORel ρ' (aa (K.of kx) (ab (.mk kx loN :: Lo))) w'.heap[c0]? := ho0
  rw [at0] at ho0
  have hrel := hk ρ' c0 w'.heap ho0
  have lt0 : c0 < w'.heap.size := by
   obtain ⟨y, hy⟩ := ho0.some (c7 _)
   exact (zI.1 hy).1
  have nolh : ∀ k, k ≠ K.of kx → bi (aa k (ab (.mk kx (.gob (.lh kd g)) :: Lo))) = none := fun k h => by rw [side1 k h]; exact hLo k
  have hle3 : ρ'.le { ρ' with ft := fun l => if l = K.of kx then (fun x => x = c0) else ρ'.ft l } := fun k c h => ⟨h, rfl⟩
  have numi : (ag Li nxi).nx.num = nxi ∨ True := .inr trivial
  refine ⟨{ ρ' with ft := fun l => if l = K.of kx then (fun x => x = c0) else ρ'.ft l }, ⟨⟨?_, ?_, ?_, ?_⟩, Env.le_trans hA.le hle3, ?_, hA.nx, hA.size, ?_, ?_, hA.frame, ?_, hA.os, hA.tape, hA.output⟩, hle3⟩
  ·intro k l a b e
   rcases hA.rel.inj k l (back k a) (back l b) e with q | ⟨q, r⟩
   ·exact .inl q
   ·have ex : ∀ k, (aa k (ab (.mk kx loN :: Lo))).isRo = true → (aa k (ab (.mk kx (.gob (.lh kd g)) :: Lo))).isRo = true := by
     intro k h
     by_cases e : k = K.of kx
     ·subst e; rw [at0, hro] at h; cases h
     ·rw [side0 k e] at h; rw [side1 k e]; exact h
    exact .inr ⟨ex k q, ex l r⟩
  ·intro k a
   obtain ⟨c, hc, ho⟩ := hA.rel.dom k (back k a)
   refine ⟨c, hc, ?_⟩
   show ORel _ (aa k (ab _)) _
   by_cases e : k = K.of kx
   ·subst e
    rw [at1]
    have hc : ρ' (K.of kx) = some c := hc
    rw [hc0] at hc
    obtain rfl := Option.some.inj hc
    obtain ⟨y, hy⟩ := ho0.some (c7 _)
    exact ⟨y, hy⟩
   ·have ho : ORel ρ' (aa k (ab _)) _ := ho
    rw [side0 k e] at ho
    rw [side1 k e]
    exact ho.mono hle3
  ·intro k c arr t fz a e1 e2
   exact hA.rel.len k c arr t fz (back k a) e1 e2
  ·intro k kd' gg a
   have a : bi (aa k (ab (.mk kx (.gob (.lh kd g)) :: Lo))) = some (kd', gg) := a
   by_cases e : k = K.of kx
   ·subst e
    rw [at1] at a
    injection a with a
    injection a with e1 e2
    subst e1 e2
    have ft0 : ({ ρ' with ft := fun l => if l = K.of kx then (fun x => x = c0) else ρ'.ft l } : Env).ft (K.of kx) = fun x => x = c0 := by show (if K.of kx = K.of kx then _ else _) = _; rw [if_pos rfl]
    refine ⟨?_, ?_, ?_, ?_, ?_⟩
    ·intro c hc
     have hc : ρ' (K.of kx) = some c := hc
     rw [hc0] at hc
     obtain rfl := Option.some.inj hc
     rw [ft0]
    ·intro c hc
     have hc : ρ' (K.of kx) = some c := hc
     rw [hc0] at hc
     obtain rfl := Option.some.inj hc
     rw [ft0]; exact hrel
    ·rw [ft0]; rintro c rfl; exact lt0
    ·intro l hl hn c hlc
     rw [ft0]
     rintro rfl
     have hlc : ρ' l = some c := hlc
     exact hn (hA.rel.inj1 (back l hl) live0 (.inr (by show (aa _ (ab _)).isRo = false; rw [at0]; exact hro)) (by rw [hlc, hc0]))
    ·intro l hl hn
     exact absurd (nolh l hn) hl
   ·rw [nolh k e] at a; cases a
  ·exact hA.rng
  ·rintro c ⟨k, k1, k2, k3⟩
   have k2 : (aa k (ab (.mk kx (.gob (.lh kd g)) :: Lo))).isRo = false := k2
   by_cases e : k = K.of kx
   ·subst e
    have fin0 : c = c0 → Own ρ (ag Li nxi) c ∨ w.heap.size ≤ c := by
     rintro rfl
     refine hA.own c ⟨K.of kx, live0, ?_, .inl hc0⟩
     show (aa _ (ab _)).isRo = false
     rw [at0]; exact hro
    rcases k3 with k3 | ⟨_, k3⟩
    ·have k3 : ρ' (K.of kx) = some c := k3
     rw [hc0] at k3
     exact fin0 (Option.some.inj k3).symm
    ·have k3 : (if K.of kx = K.of kx then (fun x => x = c0) else ρ'.ft (K.of kx)) c := k3
     rw [if_pos rfl] at k3
     exact fin0 k3
   ·rcases k3 with k3 | ⟨k3, _⟩
    ·refine hA.own c ⟨k, back k k1, ?_, .inl k3⟩
     show (aa _ (ab _)).isRo = false
     rw [side1 k e] at k2; rw [side0 k e]; exact k2
    ·exact absurd (nolh k e) k3
  ·intro k c a hc
   exact hA.keep k c (back k a) hc
  ·intro k hkk hl
   have n0 : k ≠ K.of kx := by
    rintro rfl
    have numi : (ag Li nxi).nx = K.of nxi := rfl
    rw [numi] at hkk
    have q : (K.of nxi).num ≤ nxi := by
     by_cases q : nxi < 65536
     ·rw [bw q]; exact zY _
     ·have := (K.of nxi); exact Nat.le_trans (Nat.le_of_lt (by omega)) (Nat.le_of_not_lt q)
    rw [bw (by omega)] at hkk
    omega
   have q := hA.fts k hkk hl
   refine ⟨?_, nolh k n0⟩
   show (if k = K.of kx then _ else ρ'.ft k) = _
   rw [if_neg n0]; exact q.1
 refine Calls.mono (hf ρ args w hg hw hc hv) fun e w' hp' => ?_
 cases r with
 | ret v =>
   obtain ⟨v', ρ2, e1, e2, hA⟩ := hp'
   obtain ⟨ρ3, hA3, hle⟩ := fin ρ2 w' hA
   exact ⟨v', ρ3, e1, e2.mono hle, hA3⟩
 | pan ch =>
   obtain ⟨ch', ρ2, e1, e2, hA⟩ := hp'
   obtain ⟨ρ3, hA3, hle⟩ := fin ρ2 w' hA
   exact ⟨ch', ρ3, e1, e2.mono hle, hA3⟩
noncomputable def bfg : LO := .cells 132 false 0 0 [.int .i64 600, .int .i64 0, .int .i64 0, .nilSlice, .nilSlice]
theorem bbt (ρ : Env) (c : Nat) (H : Array Obj) (h : ORel ρ (bu bfg) H[c]?) : ah4 2 ((GE.one (.c 600)).eval Gv.σ) c (fun x => x = c) H := by
 obtain ⟨arr, fz, e1, e2, e3⟩ := (dx (by simp)).1 h
 simp only [VRels] at e3
 obtain ⟨v1, t1, q1, r1, v2, t2, q2, r2, v3, t3, q3, r3, v4, t4, q4, r4, v5, t5, q5, r5, q6⟩ := e3
 simp only [VRel] at r1 r2 r3 r4 r5
 refine .inr ⟨rfl, 600, [], rfl, ⟨by omega, by omega, by simp, by simp [du]⟩, .inl ⟨rfl, rfl, arr, fz, e1, ?_, e2⟩⟩
 rw [q1, q2, q3, q4, q5, q6, r1, r2, r3, r4, r5]; rfl
theorem be7 (k : K) : bi (aa k (ab [])) = none := by
 by_cases h : aa k (ab []) = .none
 ·rw [h]; rfl
 ·rcases iu k [] h with ⟨n, o, q1, q2, q3⟩ | ⟨g, cs, q1, q2, q3⟩
  ·cases q1
  ·rw [q3]; rfl
theorem bdd : di 29 [.int .i64 600] 256 [] (.ret (.tuple [.ptr (K.of 256) 0, .int .i64 0])) 258 [hH 256 (.one (.c 600))] :=
 a7c (kd := 2) (kx := 256) (loN := bfg) (Lo := []) bbt (by omega) (by omega) rfl be7 rfl (ej (n := 6000) (A := []) (T := [(256, 256)]) (E := .nil) c9 d7 SAll.nil trivial rfl rfl (by kernel_rfl))
end
noncomputable def bff : TM := .mk 29 [.int .i64 600] 256 [] [] none (.ret (.tuple [.ptr (K.of 256) 0, .int .i64 0])) 258 [hH 256 (.one (.c 600))]
theorem bbu [Gv] : cy bff := fun σ _ _ _ => @bdd ⟨σ⟩
end Go.Ev
