import Derived.Test.YtkfdioikigponaaGreatDoorRaG
set_option maxRecDepth 100000
set_option linter.all false
namespace Go.Ev
theorem avo (k : K) : K.of k.num = k := by
 obtain ⟨a, b, c, d⟩ := k
 have h1 := a.num_lt; have h2 := b.num_lt; have h3 := c.num_lt; have h4 := d.num_lt
 exact K.num_inj (ci (by rw [K.num_mk]; omega))
section
variable [Gv]
theorem zi {ρ : Env} {t : TypeId} {l : List AV} (hl : l.length ≤ 65536) {x : Option Obj} : ORel ρ (co (.cells t false 0 0 l)) x ↔ ∃ arr fz, x = some (.cells arr t fz) ∧ fz.1 = fz.2 ∧ VRels ρ l arr.toList := by
 have hcc := il l.length hl
 constructor
 ·rintro ⟨arr, fz, e1, e2, e3, e4, ⟨e5, e6⟩, e7⟩
  rw [bf] at *
  refine ⟨arr, fz, e1, ?_, VRels.of_get _ _ (by simpa using e3 rfl) fun i hi => ?_⟩
  ·apply Classical.byContradiction
   intro hne
   have := e6 fz.1 (zY _) (by omega)
   omega
  ·obtain ⟨v, h1, h2⟩ := e7 i (by omega)
   rw [ir l 0 _ i (by omega) (by omega), dif_pos ⟨Nat.zero_le _, by omega⟩] at h2
   exact ⟨v, by simpa using h1, by simpa using h2⟩
 ·rintro ⟨arr, fz, e1, e2, e3⟩
  have hlen := VRels.length _ _ e3
  simp only [Array.length_toList] at hlen
  refine ⟨arr, fz, e1, ?_, fun _ => ?_, ?_, ⟨by omega, fun i h1 h2 => by omega⟩, ?_⟩
  ·rw [bf]; omega
  ·rw [bf]; omega
  ·rw [bf, fi]; exact il _ hl
  ·intro i hi
   rw [bf] at hi
   obtain ⟨v, h1, h2⟩ := VRels.get _ _ e3 i hi
   refine ⟨v, by simpa using h1, ?_⟩
   rw [bf, ir l 0 _ i (by omega) (by omega), dif_pos ⟨Nat.zero_le _, by omega⟩]
   simpa using h2
end
noncomputable section
def vq (g : GE) (s : AV) : LO := .cells 76 false 0 0 [.sym .i64 (.rd g (.c 0)) [], .sym .i64 (.rd g (.c 1)) [], .sym .i64 (.rd g (.c 2)) [], s, .nilSlice]
def xu (g : GE) (k : Nat) : LO := vq g (.gv (.sl (K.of k) 1 (.rd g (.c 1)) []))
def xr : LO := .gob (.junk 84)
end
theorem d7 [Gv] (g : GE) : GhK 1 (g.eval Gv.σ) (jr (g.eval Gv.σ) ∧ hM (g.eval Gv.σ) = 0) (jr (g.eval Gv.σ)) (co (vq g .nilSlice)) (fun k => co (xu g k.num)) (co xr) := by
 refine ⟨?_, ?_, ?_⟩
 ·rintro c F H ⟨_, hr, h⟩
  rcases h with ⟨h0, rfl, arr, fz, hx, ha, hf⟩ | ⟨b, arr, fz, cap, hbc, rfl, ⟨arr0, fz0, hx, ha, hf⟩, hb, hfz, h1, h2⟩
  ·refine .inl ⟨⟨hr, h0⟩, fun ρ => ?_, rfl⟩
   refine (zi (by simp)).2 ⟨arr, fz, hx, hf, ?_⟩
   rw [ha]
   simp only [VRels, VRel]
   exact ⟨_, _, rfl, ⟨SAll.nil, rfl⟩, _, _, rfl, ⟨SAll.nil, rfl⟩, _, _, rfl, ⟨SAll.nil, rfl⟩, _, _, rfl, rfl, _, _, rfl, rfl, rfl⟩
  ·refine .inr ⟨hr, b, arr.size, hbc, rfl, ⟨arr, 84, fz, hb, rfl⟩, fun ρ k hk hs => ⟨?_, arr, fz, hb, hfz⟩⟩
   refine (zi (by simp)).2 ⟨arr0, fz0, hx, hf, ?_⟩
   rw [ha]
   simp only [VRels, VRel]
   refine ⟨_, _, rfl, ⟨SAll.nil, rfl⟩, _, _, rfl, ⟨SAll.nil, rfl⟩, _, _, rfl, ⟨SAll.nil, rfl⟩, _, _, rfl, ⟨SAll.nil, b, cap, ?_, ?_, h1, ?_, rfl⟩, _, _, rfl, rfl, rfl⟩
   ·rw [avo]; exact hk
   ·show 0 ≤ (g.eval Gv.σ).getD 1 0
    exact hr.2.2.2.1
   ·rw [avo, hs]; omega
 ·rintro ⟨hr, h0⟩ ρ c H ho
  obtain ⟨arr, fz, hx, hf, hv⟩ := (zi (by simp)).1 ho
  simp only [VRels, VRel] at hv
  obtain ⟨v1, l1, e1, ⟨_, rfl⟩, v2, l2, rfl, ⟨_, rfl⟩, v3, l3, rfl, ⟨_, rfl⟩, v4, l4, rfl, rfl, v5, l5, rfl, rfl, rfl⟩ := hv
  exact ⟨rfl, hr, .inl ⟨h0, rfl, arr, fz, hx, e1, hf⟩⟩
 ·rintro hr ρ k b c H hk hbc hsz ho hb
  obtain ⟨arr, fz, hx, hf, hv⟩ := (zi (by simp)).1 ho
  simp only [VRels, VRel] at hv
  obtain ⟨v1, l1, e1, ⟨_, rfl⟩, v2, l2, rfl, ⟨_, rfl⟩, v3, l3, rfl, ⟨_, rfl⟩, v4, l4, rfl, ⟨_, c', cap, hc', hn0, hle, hcap, rfl⟩, v5, l5, rfl, rfl, rfl⟩ := hv
  rw [avo, hk] at hc'
  obtain rfl := Option.some.inj hc'
  rw [avo] at hcap
  obtain ⟨arrB, fzB, hB, hfB⟩ := hb
  have := hsz _ _ _ hB
  exact ⟨rfl, hr, .inr ⟨b, arrB, fzB, cap, hbc, rfl, ⟨arr, fz, hx, e1, hf⟩, hB, hfB, hle, by omega⟩⟩
end Go.Ev
