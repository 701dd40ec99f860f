import Derived.Test.YtocilenpboklbaaGreatDoorHqC
set_option maxRecDepth 100000
set_option linter.all false
namespace Go.Ev
noncomputable section
def joG : GE → List GE → GE
 | a, [] => a
 | a, g :: l => joG (.cat (.cat a (.lit 2 11296)) g) l
def joC (l : List GE) : List AV := l.map fun g => .gv (.str g [])
def u8L (l : List Int) : List UInt8 := l.map fun x => UInt8.ofNat x.toNat
def joI (l : List GE) : List HO := [.mk 256 (.cells 9 true 0 0 (joC l))]
end
theorem wz (σ : Nat → List Int) : ∀ (l : List GE) (a : GE), (joG a l).eval σ = a.eval σ ++ (l.map fun g => [44, 32] ++ g.eval σ).flatten
 | [], a => by simp [joG]
 | g :: l, a => by
   rw [joG, wz σ l]
   have e : (GE.lit 2 11296).eval σ = [44, 32] := rfl
   simp only [GE.eval, List.map_cons, List.flatten_cons, List.append_assoc] at e ⊢
   rw [e]
theorem a83 (σ : Nat → List Int) (g : GE) (l : List GE) : Lib.join ((g :: l).map fun g => u8L (g.eval σ)) [44, 32] = u8L ((joG g l).eval σ) := by
 rw [List.map_cons, Lib.join_cons, wz]
 unfold u8L Lib.joinTail
 rw [List.map_append, List.map_flatten, List.map_map, List.map_map]
 rfl
theorem arc {ρ : Env} {t : TypeId} {l : List AV} [Gv] (hl : l.length ≤ 65536) {x : Option Obj} (h : ORel ρ (bt (.cells t true 0 0 l)) x) : ∃ arr fz, x = some (.cells arr t fz) ∧ ∀ (i : Nat) (hi : i < l.length), ∃ v, arr[i]? = some v ∧ VRel ρ l[i] v := by
 have hcc := ee l.length hl
 obtain ⟨arr, fz, e1, e2, e3, e4, e6, e7⟩ := h
 rw [ar] at *
 refine ⟨arr, fz, e1, fun i hi => ?_⟩
 obtain ⟨v, h1, h2⟩ := e7 i (by omega)
 rw [ev l 0 _ i (by omega) (by omega), dif_pos ⟨Nat.zero_le _, by omega⟩] at h2
 exact ⟨v, by simpa using h1, by simpa using h2⟩
theorem a35 (σ : Nat → List Int) : ∀ (l : List GE), (∀ g ∈ l, ((g.eval σ).length : Int) ≤ 20000) → ((l.map fun g => [44, 32] ++ g.eval σ).flatten.length : Int) ≤ 20002 * (l.length : Int)
 | [], _ => by simp
 | g :: l, h => by
   have h1 := h g (List.mem_cons_self ..)
   have h2 := a35 σ l fun x hx => h x (zA _ hx)
   rw [List.map_cons, List.flatten_cons, zP, zP]
   have h4 : (g :: l).length = l.length + 1 := rfl
   have h3 : ([44, 32] : List Int).length = 2 := rfl
   omega
theorem a82 [Gv] (g : GE) (l : List GE) (hL : l.length ≤ 20) (hl : ∀ x ∈ g :: l, ((x.eval Gv.σ).length : Int) ≤ 20000) :
  br 90 [.slice (K.of 256) 0 (l.length + 1) (l.length + 1) (some 1), .str 2 11296] 257 (joI (g :: l)) (.ret (.gv (.str (joG g l) []))) 257 (joI (g :: l)) := by
 intro ρ args w hg hw hc hv
 simp only [VRels, VRel] at hv
 obtain ⟨v, vs', ha', ⟨c, cap, hc0, ⟨_, hcap⟩, _, hv1⟩, v2, vs2, hv2, ⟨_, hv3⟩, hv4⟩ := hv
 subst hv1 hv2 hv3 hv4
 have hargs : args = #[.slice (some ⟨c, 0, none⟩) (l.length + 1) cap, .string (ax 2 11296)] := Array.toList_inj.1 (by simpa using ha')
 subst hargs
 have at0 : ab (K.of 256) (ac (joI (g :: l))) = bt (.cells 9 true 0 0 (joC (g :: l))) := by unfold joI; rw [ah, if_pos rfl]
 have live0 : ab (K.of 256) (ai (joI (g :: l)) 257).h ≠ .none := by
  show ab _ (ac _) ≠ _
  rw [at0]; exact cy _
 obtain ⟨c', hc', ho⟩ := hw.dom _ live0
 rw [hc0] at hc'
 obtain rfl := Option.some.inj hc'
 have ho : ORel ρ (ab (K.of 256) (ac (joI (g :: l)))) w.heap[c]? := ho
 rw [at0] at ho
 obtain ⟨arr, fz, hx, hcells⟩ := arc (by unfold joC; simp; omega) ho
 have ab : ∀ (j : Nat) (hj : j < (g :: l).length), arr[j]? = some (.string (ap ((g :: l)[j].eval Gv.σ))) ∧ ei ((g :: l)[j].eval Gv.σ) := by
  intro j hj
  obtain ⟨v, h1, h2⟩ := hcells j (by unfold joC; simpa using hj)
  have e : (joC (g :: l))[j]'(by unfold joC; simpa using hj) = .gv (.str ((g :: l)[j]) []) := by
   unfold joC
   exact List.getElem_map ..
  rw [e] at h2
  simp only [VRel, GVRel] at h2
  rw [h1, h2.2.1]; exact ⟨rfl, h2.2.2⟩
 have lt0 : c < w.heap.size := (zI.1 hx).1
 have hlen : (((joG g l).eval Gv.σ).length : Int) ≤ 500000 := by
  rw [wz, zP]
  have h1 := hl g (List.mem_cons_self ..)
  have h2 := a35 Gv.σ l fun x hx => hl x (zA _ hx)
  omega
 have hs : (ax 2 11296).data.toList = [44, 32] := rfl
 have hj : Lib.join (((g :: l).map fun g => ap (g.eval Gv.σ)).map (·.data.toList)) (ax 2 11296).data.toList = u8L ((joG g l).eval Gv.σ) := by
  rw [hs, ← a83, List.map_map]
  congr 1
 have q := Go.Proofs.YtocilenpboklbaaGreatDoor.jo_seat c 0 cap ((g :: l).map fun g => ap (g.eval Gv.σ)) (ax 2 11296) w (by
   intro j x hx'
   rw [List.getElem?_map] at hx'
   have hj : j < (g :: l).length := by
    apply Classical.byContradiction
    intro hn
    rw [List.getElem?_eq_none (by omega)] at hx'; cases hx'
   rw [zK hj] at hx'
   have hx' : ap ((g :: l)[j].eval Gv.σ) = x := by simpa using hx'
   rw [← hx', ← (ab j hj).1, Nat.zero_add]
   unfold World.cell?
   simp [hx]) lt0 (by simp; omega) (by simp; omega) (by rw [hj]; unfold u8L; rw [List.length_map]; omega)
 rw [List.length_map, zO] at q
 refine Calls.mono q fun e w' hp => ?_
 obtain ⟨rfl, hk⟩ := hp
 refine ⟨_, ρ, rfl, ?_, aan hw hk⟩
 simp only [VRel, GVRel]
 refine ⟨SAll.nil, ?_, ?_⟩
 ·rw [hj]; rfl
 ·rw [wz]
  intro x hx
  have b2 : ∀ y ∈ g :: l, ei (y.eval Gv.σ) := by
   intro y hy
   obtain ⟨j, hj, rfl⟩ := List.getElem_of_mem hy
   exact (ab j hj).2
  rcases List.mem_append.1 hx with hx | hx
  ·exact b2 g (List.mem_cons_self ..) x hx
  ·obtain ⟨m, hm, hx⟩ := List.mem_flatten.1 hx
   obtain ⟨y, hy, rfl⟩ := List.mem_map.1 hm
   rcases List.mem_append.1 hx with hx | hx
   ·simp at hx; omega
   ·exact b2 y (zA _ hy) x hx
noncomputable section
def jgo : Nat → Nat → List GE
 | 0, _ => []
 | n + 1, i => .s i :: jgo n (i + 1)
def joA (n : Nat) : List SA := (jgo (n + 1) 30).map fun g => .mk true (.c 20000) (.len g) false
def joT (n : Nat) : TM := .mk 90 [.slice (K.of 256) 0 (n + 1) (n + 1) (some 1), .str 2 11296] 257 (joI (jgo (n + 1) 30)) (joA n) none (.ret (.gv (.str (joG (.s 30) (jgo n 31)) []))) 257 (joI (jgo (n + 1) 30))
end
theorem amk : ∀ n i : Nat, (jgo n i).length = n
 | 0, _ => rfl
 | n + 1, i => by rw [jgo, zO, amk n]
theorem jc (n : Nat) (hn : n ≤ 19) [Gv] : bo (joT n) := by
 intro σ _ hA _
 letI : Gv := ⟨σ⟩
 have h := a82 (.s 30) (jgo n 31) (by rw [amk]; omega) fun x hx => by
  have q := hA (.mk true (.c 20000) (.len x) false) (List.mem_map.2 ⟨x, hx, rfl⟩)
  have q := sF.1 q
  simp only [evs] at q; exact q
 rw [amk] at h
 exact h
end Go.Ev
