import Derived.Test.YtocilenpboklbaaGreatDoorRcP
import Derived.Test.YtocilenpboklbaaGreatDoorEvRo
set_option maxRecDepth 100000
set_option linter.all false
namespace Go.Ev
abbrev ase : AL := .i (.v 1) .nil
noncomputable section
def bpb : List AV := [.sym .i64 (.v 1) []]
def btw : List HO := []
def btx : List HO := []
def bty : TR := .ret (.gv (.str (.app 121 ase) []))
def btv : TM := .mk 99 bpb 256 btw ([.mk true (.v 1) (.c (-9223372036854775808)) false, .mk true (.c 9223372036854775807) (.v 1) false] ++ []) none bty 256 btx
end
theorem anm : ∀ (f : Nat) (u : Nat), u < 10 ^ (f + 1) → s9 (f + 1) (u : Int) = (Lib.decDigits u).map fun b => (b.toNat : Int)
 | f, u, h => by
   unfold s9
   rw [Lib.decDigits]
   by_cases hu : u < 10
   ·rw [if_pos (by omega), dif_pos hu]
    show [48 + (u : Int)] = [((UInt8.ofNat (48 + u)).toNat : Int)]
    rw [UInt8.toNat_ofNat']
    congr 1; omega
   ·cases f with
    | zero => exact absurd h (by omega)
    | succ f =>
      have h : u < 10 ^ (f + 1) * 10 := h
      rw [if_neg (by omega), dif_neg hu, List.map_append, show ((u : Int) / 10) = ((u / 10 : Nat) : Int) by omega, anm f (u / 10) (by omega)]
      congr 1
      show [48 + (u : Int) % 10] = [((UInt8.ofNat (48 + u % 10)).toNat : Int)]
      rw [UInt8.toNat_ofNat']
      congr 1; omega
theorem a8m (n : Int) (h0 : -9223372036854775808 ≤ n) (h1 : n ≤ 9223372036854775807) : ej n = (Lib.itoa n).map fun b => (b.toNat : Int) := by
 unfold ej Lib.itoa
 split
 ·rw [List.map_cons, ← anm 19 n.natAbs (by omega), show ((n.natAbs : Nat) : Int) = -n by omega]; rfl
 ·rw [← anm 19 n.toNat (by omega), show ((n.toNat : Nat) : Int) = n by omega]
theorem av5 (l : List UInt8) : aj (l.map fun b => (b.toNat : Int)) = ⟨l.toArray⟩ := by
 unfold aj
 rw [List.map_map]
 have : ((fun x : Int => UInt8.ofNat x.toNat) ∘ fun b : UInt8 => (b.toNat : Int)) = id := by
  funext b
  show UInt8.ofNat ((b.toNat : Int)).toNat = b
  rw [Int.toNat_natCast, UInt8.ofNat_toNat]
 rw [this, List.map_id]
theorem a5l (l : List UInt8) : ay (l.map fun b => (b.toNat : Int)) := by
 intro x hx
 obtain ⟨b, _, rfl⟩ := List.mem_map.1 hx
 have := b.toNat_lt
 omega
theorem bpc [Gv] : ax btv := by
 intro σ _ hA _
 letI : Gv := ⟨σ⟩
 have hr : -9223372036854775808 ≤ (σ 1).headD 0 ∧ (σ 1).headD 0 ≤ 9223372036854775807 := by
  have h := (ai hA).1
  simp only [sall_cons, sF, evs] at h
  exact ⟨h.1, h.2.1⟩
 show bz 99 bpb 256 btw bty 256 btx
 intro ρ args w hg hw hc hv
 unfold bpb at hv
 simp only [VRels, VRel] at hv
 obtain ⟨v, vs', ha', ⟨_, hv1⟩, rfl⟩ := hv
 have hargs : args = #[v] := Array.toList_inj.1 (by simpa using ha')
 subst hargs hv1
 refine Calls.mono (Go.Proofs.YtocilenpboklbaaGreatDoor.it_seat _ w (azw hg hw (by kernel_rfl)) hr.1 hr.2) fun e w' hp => ?_
 obtain ⟨rfl, hk⟩ := hp
 refine ⟨_, ρ, rfl, ?_, asl hw hk⟩
 have e : (GE.app 121 ase).eval σ = ej ((σ 1).headD 0) := rfl
 simp only [VRel, GVRel]
 refine ⟨SAll.nil, ?_, ?_⟩
 ·show Value.string _ = Value.string (aj ((GE.app 121 ase).eval σ))
  rw [e, a8m _ hr.1 hr.2, av5]; rfl
 ·show ay ((GE.app 121 ase).eval σ)
  rw [e, a8m _ hr.1 hr.2]; exact a5l _
end Go.Ev
