import Derived.Test.YtjakdjfepibedaaGreatDoorEvGo
import GoSem.ClaimJoined
import Derived.ChangeArms
import Derived.OpenShut
set_option linter.all false
namespace Go.Ev
/- Laid variables: from the row's list to 'LaidIn'. -/
theorem laid_at {P : Program} {w : World} {n : String} {d : DataW Unit} : ∀ {laid : List (String × DataW Unit)} {ps : List MemPlace}, DataW.LaidVars P w laid ps → (n, d) ∈ laid →
    ∃ g t cs fuel p, P.globalNamed n = some g ∧ (P.globals[g]?).map (·.type) = some t ∧ w.var? P n = some cs ∧ DataW.trod (fun _ => ()) P w 0 (fun _ => true) false fuel t cs.toList = some (d, p)
  | [], _, _, h => by cases h
  | (n', d') :: r, _, ⟨g, t, cs, fuel, p, q, h1, h2, h3, h4, h5, _⟩, h => by
    rcases List.mem_cons.1 h with e | e
    · injection e with e1 e2
      subst e1 e2
      exact ⟨g, t, cs, fuel, p, h1, h2, h3, h4⟩
    · exact laid_at h5 e
theorem ints_array {P : Program} {w : World} {n : Nat} {e t : TypeId} {k : IntKind} {cs : List Value} {fuel : Nat} {zs : List Int} {p : List MemPlace} (ht : P.underlying t = some (.array n e)) (he : P.underlying e = some (.int k)) (hc : P.cellsOf e = 1) (hct : P.cellsOf t = n)
    (h : DataW.trod (fun _ => ()) P w 0 (fun _ => true) false fuel t cs = some (.agg (zs.map fun z => .lit (.int k z)), p)) : cs = zs.map fun z => .int k z := by
  obtain ⟨xs, m, _, hx, hl, hn, hf⟩ := DataW.trod_array ht h
  injection hx with hx _
  injection hx with hx
  have hlen : zs.length = n := by rw [← hn, ← List.length_map (f := fun x : DataW Unit × List MemPlace => x.1), ← hx, List.length_map]
  apply List.ext_getElem
  · rw [hl, hct, List.length_map, hlen]
  · intro i h1 h2
    have hi : i < n := by rw [hl, hct] at h1; exact h1
    have := hf i hi
    rw [hc, Nat.mul_one] at this
    rw [List.getElem?_eq_getElem (by omega)] at this
    obtain ⟨z, q1, q2, _⟩ := DataW.trod_int he this
    have q3 : (cs.drop i).take 1 = [cs[i]] := by rw [List.drop_eq_getElem_cons h1]; rfl
    rw [q3] at q1
    injection q1 with q1 _
    have q4 : (xs.map (·.1))[i]'(by simp; omega) = .lit (.int k z) := by rw [List.getElem_map, q2]
    have q5 : (zs.map fun z => (DataW.lit (.int k z) : DataW Unit))[i]'(by simp; omega) = .lit (.int k z) := by
      rw [← q4]; congr 1
    rw [List.getElem_map] at q5
    rw [q1, List.getElem_map]
    injection q5 with q5
    injection q5 with _ q5
    rw [q5]
theorem ints_struct {P : Program} {w : World} {fs : Array Field} {t : TypeId} {k : IntKind} {cs : List Value} {fuel : Nat} {zs : List Int} {p : List MemPlace} (ht : P.underlying t = some (.struct fs))
    (hfs : ∀ (i : Nat) (f : Field), fs[i]? = some f → f.offset = i ∧ P.cellsOf f.type = 1 ∧ P.underlying f.type = some (.int k)) (hct : P.cellsOf t = fs.size)
    (h : DataW.trod (fun _ => ()) P w 0 (fun _ => true) false fuel t cs = some (.agg (zs.map fun z => .lit (.int k z)), p)) : cs = zs.map fun z => .int k z := by
  obtain ⟨xs, m, _, hx, hl, hn, hf⟩ := DataW.trod_struct ht h
  injection hx with hx _
  injection hx with hx
  have hlen : zs.length = fs.size := by rw [← hn, ← List.length_map (f := fun x : DataW Unit × List MemPlace => x.1), ← hx, List.length_map]
  apply List.ext_getElem
  · rw [hl, hct, List.length_map, hlen]
  · intro i h1 h2
    have hi : i < fs.size := by rw [hl, hct] at h1; exact h1
    have hfi : fs[i]? = some fs[i] := Array.getElem?_eq_getElem hi
    have := hf i _ hfi
    obtain ⟨g1, g2, g3⟩ := hfs i _ hfi
    rw [g1, g2] at this
    rw [List.getElem?_eq_getElem (by omega)] at this
    obtain ⟨z, q1, q2, _⟩ := DataW.trod_int g3 this
    have q3 : (cs.drop i).take 1 = [cs[i]] := by rw [List.drop_eq_getElem_cons h1]; rfl
    rw [q3] at q1
    injection q1 with q1 _
    have q4 : (xs.map (·.1))[i]'(by simp; omega) = .lit (.int k z) := by rw [List.getElem_map, q2]
    have q5 : (zs.map fun z => (DataW.lit (.int k z) : DataW Unit))[i]'(by simp; omega) = .lit (.int k z) := by
      rw [← q4]; congr 1
    rw [List.getElem_map] at q5
    rw [q1, List.getElem_map]
    injection q5 with q5
    injection q5 with _ q5
    rw [q5]
theorem ints_rel (ρ : Env) (k : IntKind) : ∀ (zs : List Int), VRels ρ (zs.map fun z => .int k z) (zs.map fun z => .int k z)
  | [] => by simp [VRels]
  | z :: zs => by simp only [List.map_cons, VRels]; exact ⟨_, _, rfl, by simp only [VRel], ints_rel ρ k zs⟩
end Go.Ev
