import Derived.Test.YtocilenpboklbaaGreatDoorHpP
import Derived.Test.YtocilenpboklbaaGreatDoorHpQ
import Derived.Lib.ValidAsc
import Derived.Test.YtocilenpboklbaaGreatDoorEvRo
set_option maxRecDepth 100000
set_option linter.all false
namespace Go.Ev
section
variable [Gv]
theorem bda : di 48 [hpp] 257 [.mk 256 (hgh (.s 5))] (.ret (.bool true)) 258 [.mk 256 (hgh (.s 5))] := by
 refine awo (g := .s 5) (Lr := []) (Lo := []) (by omega) (by omega) uy sy sy (fun lim e hok => ?_) fun lim L _ e hok => ?_
 ·exact ej (n := 2000) (T := []) (E := .nil) c9 d7 (ab4 e hok) trivial rfl rfl (by kernel_rfl)
 ·exact ej (n := 2000) (T := []) (E := .nil) c9 d7 (ab4 e hok) trivial rfl rfl (by kernel_rfl)
end
noncomputable def afd : TM := .mk 48 [hpp] 257 hI [] none (.ret (.bool true)) 258 hI
theorem wa [Gv] : cy afd := fun σ _ _ _ => @bda ⟨σ⟩
end Go.Ev
set_option maxRecDepth 100000
set_option linter.all false
namespace Go.Ev
noncomputable def a6n (l : List Int) : Int := aay 228 [l]
noncomputable def bje (l : List Int) : Int := aay 230 [l]
theorem evq : (∀ (σ : Nat → List Int) (n : SE), (GE.app 121 (.i n .nil)).eval σ = ae5 (n.eval σ)) ∧
  (∀ (σ : Nat → List Int) (n : SE), (GE.app 224 (.i n .nil)).eval σ = bah (n.eval σ)) ∧
  (∀ (σ : Nat → List Int) (l : GE) (i : SE), (GE.app 225 (.g l (.i i .nil))).eval σ = a7h ((l.eval σ).drop (i.eval σ).toNat)) ∧
  (∀ (σ : Nat → List Int) (l : GE) (i : SE), (GE.app 226 (.g l (.i i .nil))).eval σ = jnF (decide (i.eval σ = 0)) ((l.eval σ).drop (i.eval σ).toNat)) ∧
  (∀ (σ : Nat → List Int) (l : GE) (i : SE), (GE.app 227 (.g l (.i i .nil))).eval σ = jnW (decide (i.eval σ = 0)) ((l.eval σ).drop (2 * (i.eval σ).toNat))) ∧
  (∀ (σ : Nat → List Int) (g : GE), (SE.app 228 (.g g .nil)).eval σ = a6n (g.eval σ)) ∧
  (∀ (σ : Nat → List Int) (n m : SE), (SE.app 229 (.i n (.i m .nil))).eval σ = bex (n.eval σ) (m.eval σ)) ∧
  (∀ (σ : Nat → List Int) (g : GE), (SE.app 230 (.g g .nil)).eval σ = bje (g.eval σ)) :=
 ⟨by intros; rfl, by intros; rfl, by intros; rfl, by intros; rfl, by intros; rfl, by intros; rfl, by intros; rfl, by intros; rfl⟩
theorem ascN1 {l : List Int} : a6n l = 1 ↔ aad l := by
 show aay 228 [l] = 1 ↔ _
 exact at8
theorem ahi : ∀ (f : Nat) (n : Int), 0 ≤ n → aad (ats f n)
 | 0, n, h => by intro x hx; cases hx
 | f + 1, n, h => by
   unfold ats
   split
   ·intro x hx; rw [List.mem_singleton] at hx; omega
   ·intro x hx
    rcases List.mem_append.1 hx with hx | hx
    ·exact ahi f (n / 10) (by omega) x hx
    ·rw [List.mem_singleton] at hx; omega
theorem a2u (n : Int) : aad (ae5 n) := by
 unfold ae5
 split
 ·intro x hx
  rcases List.mem_cons.1 hx with hx | hx
  ·omega
  ·exact ahi 20 (-n) (by omega) x hx
 ·exact ahi 20 n (by omega)
end Go.Ev
set_option maxRecDepth 100000
set_option linter.all false
namespace Go.Ev
noncomputable section
noncomputable def bcb : List AV := [.gv (.str (.s 3) [])]
noncomputable def bg2 : List HO := []
noncomputable def bg3 : List HO := []
noncomputable def bg4 : TR := .ret (.bool true)
noncomputable def afh : TM := .mk 112 bcb 256 bg2 ([.mk true (.c 20000) (.len (.s 3)) false, .mk false (.app 228 (.g (.s 3) .nil)) (.c 1) true] ++ []) none bg4 256 bg3
noncomputable def bb0 : List AV := [.gv (.str (.s 3) [])]
noncomputable def bft : List HO := []
noncomputable def bfu : List HO := []
noncomputable def bfv : TR := .ret (sX (.len (.s 3)))
noncomputable def afe : TM := .mk 113 bb0 256 bft ([.mk true (.c 20000) (.len (.s 3)) false, .mk false (.app 228 (.g (.s 3) .nil)) (.c 1) true] ++ []) none bfv 256 bfu
noncomputable def bbd : List AV := [vI 1]
noncomputable def bd7 : List HO := []
noncomputable def bd8 : List HO := []
noncomputable def bd9 : TR := .ret (.gv (.str (.app 121 (.i (.v 1) .nil)) []))
noncomputable def ae8 : TM := .mk 99 bbd 256 bd7 ([.mk true (.v 1) (.c (-9223372036854775808)) false, .mk true (.c 9223372036854775807) (.v 1) false] ++ []) none bd9 256 bd8
end
theorem akj (l : List Int) : (av l).data.toList = l.map fun x => UInt8.ofNat x.toNat := by simp [av]
theorem avf {l : List Int} (h : aad l) : Lib.validD (av l).data.toList = true := by
 have ha : Lib.Asc (av l) (av l).size := by
  intro b hb
  have hb := List.mem_of_mem_take hb
  rw [akj] at hb
  obtain ⟨x, hx, rfl⟩ := List.mem_map.1 hb
  have := h x hx
  rw [UInt8.toNat_ofNat']; omega
 have e := Lib.valid_skip (av l) (av l).size ha
 rw [← e]
 have z : ((av l).extract (av l).size (av l).size).data.toList = [] := by
  rw [Lib.ext_list]
  exact List.drop_eq_nil_of_le (by rw [Array.length_toList]; exact zY _)
 rw [z]; rfl
theorem azs {l : List Int} (h : aad l) (j : Nat) (b : UInt8) (hb : (av l).data.toList[j]? = some b) : b.toNat < 128 := by
 have q : (av l).data.toList = l.map fun x => UInt8.ofNat x.toNat := by simp [av]
 rw [q, List.getElem?_map] at hb
 cases hx : l[j]? with
 | none => rw [hx] at hb; cases hb
 | some x =>
   rw [hx] at hb
   have := h x (List.mem_of_getElem? hx)
   have hb : UInt8.ofNat x.toNat = b := by simpa using hb
   rw [← hb, UInt8.toNat_ofNat']
   omega
theorem a9f {σ : Nat → List Int} (h : SAll σ [.mk true (.c 20000) (.len (.s 3)) false, .mk false (.app 228 (.g (.s 3) .nil)) (.c 1) true]) : ((σ 3).length : Int) ≤ 20000 ∧ aad (σ 3) := by
 simp only [sall_cons, sF, sE, evs, evq, ascN1] at h
 exact ⟨h.1, h.2.1⟩
theorem aa5 [Gv] : cy afh := by
 intro σ _ hA _
 letI : Gv := ⟨σ⟩
 obtain ⟨h20, ha⟩ := a9f (fe hA).1
 show di 112 bcb 256 bg2 bg4 256 bg3
 intro ρ args w hg hw hc hv
 unfold bcb at hv
 simp only [VRels, VRel] at hv
 obtain ⟨v, vs', ha', ⟨_, hv1, _⟩, rfl⟩ := hv
 have hargs : args = #[v] := Array.toList_inj.1 (by simpa using ha')
 subst hargs hv1
 refine Calls.mono (Go.Proofs.YtocilenpboklbaaGreatDoor.va_seat _ w (aww hg hw (by kernel_rfl)) (by show (av (σ 3)).size < _; rw [fi]; omega)) fun e w' hp => ?_
 obtain ⟨rfl, hk⟩ := hp
 refine ⟨_, ρ, rfl, ?_, agt hw hk⟩
 simp only [VRel]
 show Value.bool (Lib.validD (av (σ 3)).data.toList) = _
 rw [avf ha]
theorem aa0 [Gv] : cy afe := by
 intro σ _ hA _
 letI : Gv := ⟨σ⟩
 obtain ⟨h20, ha⟩ := a9f (fe hA).1
 show di 113 bb0 256 bft bfv 256 bfu
 intro ρ args w hg hw hc hv
 unfold bb0 at hv
 simp only [VRels, VRel] at hv
 obtain ⟨v, vs', ha', ⟨_, hv1, _⟩, rfl⟩ := hv
 have hargs : args = #[v] := Array.toList_inj.1 (by simpa using ha')
 subst hargs hv1
 refine Calls.mono (Go.Proofs.YtocilenpboklbaaGreatDoor.rc_seat _ w (by show (av (σ 3)).size < _; rw [fi]; omega) (fun j b hb => azs ha j b hb)) fun e w' hp => ?_
 obtain ⟨rfl, hk⟩ := hp
 refine ⟨_, ρ, rfl, ?_, agt hw hk⟩
 show VRel ρ (.sym .i64 (.len (.s 3)) []) _
 simp only [VRel]
 refine ⟨SAll.nil, ?_⟩
 show Value.int .i64 ((av (σ 3)).size : Int) = Value.int .i64 ((SE.len (.s 3)).eval σ)
 rw [fi]; rfl
theorem ams : ∀ (f : Nat) (u : Nat), u < 10 ^ (f + 1) → ats (f + 1) (u : Int) = (Lib.decDigits u).map fun b => (b.toNat : Int)
 | f, u, h => by
   unfold ats
   rw [Lib.decDigits]
   by_cases hu : u < 10
   ·rw [if_pos (by omega), dif_pos hu]
    show [48 + (u : Int)] = [((UInt8.ofNat (48 + u)).toNat : Int)]
    rw [UInt8.toNat_ofNat']
    congr 1; omega
   ·cases f with
    | zero => exact absurd h (by omega)
    | succ f =>
      have h : u < 10 ^ (f + 1) * 10 := h
      rw [if_neg (by omega), dif_neg hu, List.map_append, show ((u : Int) / 10) = ((u / 10 : Nat) : Int) by omega, ams f (u / 10) (by omega)]
      congr 1
      show [48 + (u : Int) % 10] = [((UInt8.ofNat (48 + u % 10)).toNat : Int)]
      rw [UInt8.toNat_ofNat']
      congr 1; omega
theorem a2v (n : Int) (h0 : -9223372036854775808 ≤ n) (h1 : n ≤ 9223372036854775807) : ae5 n = (Lib.itoa n).map fun b => (b.toNat : Int) := by
 unfold ae5 Lib.itoa
 split
 ·rw [List.map_cons, ← ams 19 n.natAbs (by omega), show ((n.natAbs : Nat) : Int) = -n by omega]; rfl
 ·rw [← ams 19 n.toNat (by omega), show ((n.toNat : Nat) : Int) = n by omega]
theorem atm (l : List UInt8) : av (l.map fun b => (b.toNat : Int)) = ⟨l.toArray⟩ := by
 unfold av
 rw [List.map_map]
 have : ((fun x : Int => UInt8.ofNat x.toNat) ∘ fun b : UInt8 => (b.toNat : Int)) = id := by
  funext b
  show UInt8.ofNat ((b.toNat : Int)).toNat = b
  rw [Int.toNat_natCast, UInt8.ofNat_toNat]
 rw [this, List.map_id]
theorem azx (l : List UInt8) : ia (l.map fun b => (b.toNat : Int)) := by
 intro x hx
 obtain ⟨b, _, rfl⟩ := List.mem_map.1 hx
 have := b.toNat_lt
 omega
theorem bd2 {σ : Nat → List Int} (h : SAll σ [.mk true (.v 1) (.c (-9223372036854775808)) false, .mk true (.c 9223372036854775807) (.v 1) false]) : -9223372036854775808 ≤ (σ 1).headD 0 ∧ (σ 1).headD 0 ≤ 9223372036854775807 := by
 simp only [sall_cons, sF, evs] at h
 exact ⟨h.1, h.2.1⟩
theorem aap [Gv] : cy ae8 := by
 intro σ _ hA _
 letI : Gv := ⟨σ⟩
 have hr := bd2 (fe hA).1
 show di 99 bbd 256 bd7 bd9 256 bd8
 intro ρ args w hg hw hc hv
 unfold bbd at hv
 simp only [VRels, vI, VRel] at hv
 obtain ⟨v, vs', ha', ⟨_, hv1⟩, rfl⟩ := hv
 have hargs : args = #[v] := Array.toList_inj.1 (by simpa using ha')
 subst hargs hv1
 refine Calls.mono (Go.Proofs.YtocilenpboklbaaGreatDoor.it_seat _ w (aww hg hw (by kernel_rfl)) hr.1 hr.2) fun e w' hp => ?_
 obtain ⟨rfl, hk⟩ := hp
 refine ⟨_, ρ, rfl, ?_, agt hw hk⟩
 have e : (GE.app 121 (.i (.v 1) .nil)).eval σ = ae5 ((σ 1).headD 0) := rfl
 simp only [VRel, GVRel]
 refine ⟨SAll.nil, ?_, ?_⟩
 ·show Value.string _ = Value.string (av ((GE.app 121 (.i (.v 1) .nil)).eval σ))
  rw [e, a2v _ hr.1 hr.2, atm]; rfl
 ·show ia ((GE.app 121 (.i (.v 1) .nil)).eval σ)
  rw [e, a2v _ hr.1 hr.2]; exact azx _
end Go.Ev
