import Derived.Test.YtocilenpboklbaaGreatDoorHpP
import Derived.Test.YtocilenpboklbaaGreatDoorHpQ
import Derived.Lib.ValidAsc
import Derived.Test.YtocilenpboklbaaGreatDoorEvRo
set_option maxRecDepth 100000
set_option linter.all false
namespace Go.Ev
section
variable [Gv]
theorem bix : br 48 [hpp] 257 [.mk 256 (hgh (.s 5))] (.ret (.bool true)) 258 [.mk 256 (hgh (.s 5))] := by
 refine aev (g := .s 5) (Lr := []) (Lo := []) (by omega) (by omega) uj oa oa (fun lim e hok => ?_) fun lim L _ e hok => ?_
 ·exact ak (n := 2000) (T := []) (E := .nil) aq al (ua e hok) trivial rfl rfl (by kernel_rfl)
 ·exact ak (n := 2000) (T := []) (E := .nil) aq al (ua e hok) trivial rfl rfl (by kernel_rfl)
end
noncomputable def bkz : TM := .mk 48 [hpp] 257 hI [] none (.ret (.bool true)) 258 hI
theorem a9k [Gv] : bo bkz := fun σ _ _ _ => @bix ⟨σ⟩
end Go.Ev
set_option maxRecDepth 100000
set_option linter.all false
namespace Go.Ev
noncomputable def azq (l : List Int) : Int := am5 228 [l]
noncomputable def bfz (l : List Int) : Int := am5 230 [l]
theorem evq : (∀ (σ : Nat → List Int) (n : SE), (GE.app 121 (.i n .nil)).eval σ = ja (n.eval σ)) ∧
  (∀ (σ : Nat → List Int) (n : SE), (GE.app 224 (.i n .nil)).eval σ = gc (n.eval σ)) ∧
  (∀ (σ : Nat → List Int) (l : GE) (i : SE), (GE.app 225 (.g l (.i i .nil))).eval σ = lg ((l.eval σ).drop (i.eval σ).toNat)) ∧
  (∀ (σ : Nat → List Int) (l : GE) (i : SE), (GE.app 226 (.g l (.i i .nil))).eval σ = jnF (decide (i.eval σ = 0)) ((l.eval σ).drop (i.eval σ).toNat)) ∧
  (∀ (σ : Nat → List Int) (l : GE) (i : SE), (GE.app 227 (.g l (.i i .nil))).eval σ = jnW (decide (i.eval σ = 0)) ((l.eval σ).drop (2 * (i.eval σ).toNat))) ∧
  (∀ (σ : Nat → List Int) (g : GE), (SE.app 228 (.g g .nil)).eval σ = azq (g.eval σ)) ∧
  (∀ (σ : Nat → List Int) (n m : SE), (SE.app 229 (.i n (.i m .nil))).eval σ = atr (n.eval σ) (m.eval σ)) ∧
  (∀ (σ : Nat → List Int) (g : GE), (SE.app 230 (.g g .nil)).eval σ = bfz (g.eval σ)) :=
 ⟨by intros; rfl, by intros; rfl, by intros; rfl, by intros; rfl, by intros; rfl, by intros; rfl, by intros; rfl, by intros; rfl⟩
theorem ascN1 {l : List Int} : azq l = 1 ↔ vz l := by
 show am5 228 [l] = 1 ↔ _
 exact ite1
theorem rngN1 {l : List Int} : bfz l = 1 ↔ abw l := by
 show am5 230 [l] = 1 ↔ _
 exact ite1
theorem axb {l : List Int} (h : abw l) (i : Nat) : -9223372036854775808 ≤ l.getD i 0 ∧ l.getD i 0 ≤ 9223372036854775807 := by
 rw [List.getD_eq_getElem?_getD]
 cases hq : l[i]? with
 | none => simp
 | some x => exact h x (List.mem_of_getElem? hq)
theorem ahe : ∀ l : List Int, (lg l).length = 2 * l.length
 | [] => rfl
 | z :: l => by
   show (lg l).length + 1 + 1 = 2 * (l.length + 1)
   rw [ahe l]; omega
theorem akc : ∀ (l : List Int) (i : Nat), (lg l).getD (2 * i) 0 = 0
 | [], i => by show ([] : List Int).getD _ 0 = 0; rfl
 | z :: l, 0 => rfl
 | z :: l, i + 1 => by
   rw [show 2 * (i + 1) = 2 * i + 1 + 1 by omega]
   show (lg l).getD (2 * i) 0 = 0
   exact akc l i
theorem aqb : ∀ (l : List Int) (i : Nat), (lg l).getD (2 * i + 1) 0 = l.getD i 0
 | [], i => by show ([] : List Int).getD _ 0 = _; rfl
 | z :: l, 0 => rfl
 | z :: l, i + 1 => by
   rw [show 2 * (i + 1) + 1 = 2 * i + 1 + 1 + 1 by omega]
   show (lg l).getD (2 * i + 1) 0 = l.getD i 0
   exact aqb l i
theorem aml : ∀ (b : Bool) (l : List Int), jnW b (lg l) = jnF b l
 | b, [] => rfl
 | b, z :: l => by
   show (if b then _ else _) ++ (ja z ++ jnW false (lg l)) = (if b then _ else _) ++ (ja z ++ jnF false l)
   rw [aml false l]
theorem a3d {l : List Int} {i : Nat} (h : i < l.length) : l.drop i = l.getD i 0 :: l.drop (i + 1) := by
 rw [List.drop_eq_getElem_cons h, List.getD_eq_getElem?_getD, zK h]; rfl
theorem bdw {l : List Int} {i : Int} (h0 : 0 ≤ i) (h : i < (l.length : Int)) : lg (l.drop i.toNat) = 0 :: l.getD i.toNat 0 :: lg (l.drop (i + 1).toNat) := by
 rw [a3d (by omega), show (i + 1).toNat = i.toNat + 1 by omega]; rfl
theorem bdv {l : List Int} {i : Int} (h : (l.length : Int) ≤ i) : lg (l.drop i.toNat) = [] := by
 rw [List.drop_eq_nil_of_le (by omega)]; rfl
theorem bj7 {l : List Int} {i : Int} (h0 : 0 ≤ i) (h : i < (l.length : Int)) : jnF (decide (i = 0)) (l.drop i.toNat) = (if i = 0 then [58, 32] else [44, 32]) ++ (ja (l.getD i.toNat 0) ++ jnF (decide (i + 1 = 0)) (l.drop (i + 1).toNat)) := by
 have e : decide (i + 1 = 0) = false := by simp; omega
 rw [a3d (by omega), e, show (i + 1).toNat = i.toNat + 1 by omega]
 by_cases hi : i = 0
 ·rw [if_pos hi]; simp only [hi, decide_true]; rfl
 ·rw [if_neg hi]; simp only [hi, decide_false]; rfl
theorem bj6 {l : List Int} {i : Int} (b : Bool) (h : (l.length : Int) ≤ i) : jnF b (l.drop i.toNat) = [] := by
 rw [List.drop_eq_nil_of_le (by omega)]; cases b <;> rfl
theorem als : ∀ (f : Nat) (n : Int), ((rr f n).length : Int) ≤ (f : Int)
 | 0, n => by show ((0 : Nat) : Int) ≤ 0; omega
 | f + 1, n => by
   unfold rr
   split
   ·show ((1 : Nat) : Int) ≤ _; omega
   ·rw [zP]
    have := als f (n / 10)
    show (((rr f (n / 10)).length + 1 : Nat) : Int) ≤ _
    omega
theorem agj : ∀ (f : Nat) (n : Int), 0 ≤ n → vz (rr f n)
 | 0, n, h => by intro x hx; cases hx
 | f + 1, n, h => by
   unfold rr
   split
   ·intro x hx; rw [List.mem_singleton] at hx; omega
   ·intro x hx
    rcases List.mem_append.1 hx with hx | hx
    ·exact agj f (n / 10) (by omega) x hx
    ·rw [List.mem_singleton] at hx; omega
theorem alp (n : Int) : ((ja n).length : Int) ≤ 21 := by
 unfold ja
 split
 ·show (((rr 20 (-n)).length + 1 : Nat) : Int) ≤ 21
  have := als 20 (-n); omega
 ·have := als 20 n; omega
theorem a26 (n : Int) : vz (ja n) := by
 unfold ja
 split
 ·intro x hx
  rcases List.mem_cons.1 hx with hx | hx
  ·omega
  ·exact agj 20 (-n) (by omega) x hx
 ·exact agj 20 n (by omega)
theorem bf (n : Int) : ((gc n).length : Int) ≤ 60 := by
 unfold gc
 rw [List.getD_eq_getElem?_getD]
 cases hq : msgL[(n - 37).toNat]? with
 | none => show ((0 : Nat) : Int) ≤ 60; omega
 | some x =>
   have h : ∀ y ∈ msgL, y.length ≤ 60 := by decide
   have := h x (List.mem_of_getElem? hq)
   show ((x.length : Nat) : Int) ≤ 60; omega
theorem a1d (n : Int) : vz (gc n) := by
 unfold gc
 rw [List.getD_eq_getElem?_getD]
 cases hq : msgL[(n - 37).toNat]? with
 | none => intro x hx; cases hx
 | some x =>
   have h : ∀ y ∈ msgL, ∀ z ∈ y, 0 ≤ z ∧ z < 128 := by decide
   exact h x (List.mem_of_getElem? hq)
theorem alq (f : Nat) (n : Int) (h : 10 ≤ n) : rr (f + 1) n = rr f (n / 10) ++ [48 + n % 10] := by
 rw [rr, if_neg (by omega)]
theorem zl (f : Nat) {n : Int} (h : n < 10) : rr (f + 1) n = [48 + n] := by rw [rr, if_pos h]
theorem a28 : ∀ (f g : Nat) (n : Nat), n < 10 ^ (f + 1) → n < 10 ^ (g + 1) → rr (f + 1) (n : Int) = rr (g + 1) (n : Int)
 | 0, g, n, h, _ => by rw [zl 0 (by omega), zl g (by omega)]
 | f + 1, 0, n, _, h => by rw [zl 0 (by omega), zl (f + 1) (by omega)]
 | f + 1, g + 1, n, h, h2 => by
   by_cases hn : n < 10
   ·rw [zl _ (by omega), zl _ (by omega)]
   ·have h : n < 10 ^ (f + 1) * 10 := h
    have h2 : n < 10 ^ (g + 1) * 10 := h2
    rw [alq (f + 1) (n : Int) (by omega), alq (g + 1) (n : Int) (by omega), show ((n : Int) / 10) = ((n / 10 : Nat) : Int) by omega, a28 f g (n / 10) (by omega) (by omega)]
theorem avy {n : Int} (h : 10 ≤ n) (h1 : n ≤ 9223372036854775808) : ja n = ja (n / 10) ++ [48 + n % 10] := by
 unfold ja
 rw [if_neg (by omega), if_neg (by omega), alq 19 n h]
 obtain ⟨m, hm⟩ : ∃ m : Nat, n / 10 = (m : Int) := ⟨(n / 10).toNat, by omega⟩
 rw [hm, a28 18 19 m (by omega) (by omega)]
theorem a25 {n : Int} (h0 : 0 ≤ n) (h : n < 10) : ja n = [48 + n] := by
 unfold ja
 rw [if_neg (by omega), zl 19 h]
theorem apg {n : Int} (h : n < 0) : ja n = 45 :: ja (-n) := by
 unfold ja
 rw [if_pos h, if_neg (by omega)]
end Go.Ev
set_option maxRecDepth 100000
set_option linter.all false
namespace Go.Ev
noncomputable section
noncomputable def bgl : List AV := [.gv (.str (.s 3) [])]
noncomputable def boc : List HO := []
noncomputable def bod : List HO := []
noncomputable def boe : TR := .ret (.bool true)
noncomputable def bgk : TM := .mk 112 bgl 256 boc ([.mk true (.c 20000) (.len (.s 3)) false, .mk false (.app 228 (.g (.s 3) .nil)) (.c 1) true] ++ []) none boe 256 bod
noncomputable def bfv : List AV := [.gv (.str (.s 3) [])]
noncomputable def bm3 : List HO := []
noncomputable def bm4 : List HO := []
noncomputable def bm5 : TR := .ret (sX (.len (.s 3)))
noncomputable def bfu : TM := .mk 113 bfv 256 bm3 ([.mk true (.c 20000) (.len (.s 3)) false, .mk false (.app 228 (.g (.s 3) .nil)) (.c 1) true] ++ []) none bm5 256 bm4
noncomputable def bdy : List AV := [vI 1]
noncomputable def bj2 : List HO := []
noncomputable def bj3 : List HO := []
noncomputable def bj4 : TR := .ret (.gv (.str (.app 121 (.i (.v 1) .nil)) []))
noncomputable def bj1 : TM := .mk 99 bdy 256 bj2 ([.mk true (.v 1) (.c (-9223372036854775808)) false, .mk true (.c 9223372036854775807) (.v 1) false] ++ []) none bj4 256 bj3
noncomputable def bqf : List AV := [hpp, wd (.v 1) (.v 2)]
noncomputable def bqc : List HO := [hH 256 (.s 5)]
noncomputable def bqd : List HO := [hH 256 (.s 5)]
noncomputable def bqe : TR := .ret (.tuple [.str 0 0, .int .i64 6])
noncomputable def boa : TM := .mk 27 bqf 257 bqc ([.mk false (.app 221 (.g (.s 5) .nil)) (.c 1) true, .mk false (.app 231 (.g (.s 5) .nil)) (.c 1) true, .mk false (.v 1) (.c 0) true] ++ []) none bqe 263 bqd
end
theorem ajf (l : List Int) : (ap l).data.toList = l.map fun x => UInt8.ofNat x.toNat := by simp [ap]
theorem auo {l : List Int} (h : vz l) : Lib.validD (ap l).data.toList = true := by
 have ha : Lib.Asc (ap l) (ap l).size := by
  intro b hb
  have hb := List.mem_of_mem_take hb
  rw [ajf] at hb
  obtain ⟨x, hx, rfl⟩ := List.mem_map.1 hb
  have := h x hx
  rw [UInt8.toNat_ofNat']; omega
 have e := Lib.valid_skip (ap l) (ap l).size ha
 rw [← e]
 have z : ((ap l).extract (ap l).size (ap l).size).data.toList = [] := by
  rw [Lib.ext_list]
  exact List.drop_eq_nil_of_le (by rw [Array.length_toList]; exact zY _)
 rw [z]; rfl
theorem azr {l : List Int} (h : vz l) (j : Nat) (b : UInt8) (hb : (ap l).data.toList[j]? = some b) : b.toNat < 128 := by
 have q : (ap l).data.toList = l.map fun x => UInt8.ofNat x.toNat := by simp [ap]
 rw [q, List.getElem?_map] at hb
 cases hx : l[j]? with
 | none => rw [hx] at hb; cases hb
 | some x =>
   rw [hx] at hb
   have := h x (List.mem_of_getElem? hx)
   have hb : UInt8.ofNat x.toNat = b := by simpa using hb
   rw [← hb, UInt8.toNat_ofNat']
   omega
theorem a1w {σ : Nat → List Int} (h : SAll σ [.mk true (.c 20000) (.len (.s 3)) false, .mk false (.app 228 (.g (.s 3) .nil)) (.c 1) true]) : ((σ 3).length : Int) ≤ 20000 ∧ vz (σ 3) := by
 simp only [sall_cons, sF, sE, evs, evq, ascN1] at h
 exact ⟨h.1, h.2.1⟩
theorem a6q [Gv] : bo bgk := by
 intro σ _ hA _
 letI : Gv := ⟨σ⟩
 obtain ⟨h20, ha⟩ := a1w (cm hA).1
 show br 112 bgl 256 boc boe 256 bod
 intro ρ args w hg hw hc hv
 unfold bgl at hv
 simp only [VRels, VRel] at hv
 obtain ⟨v, vs', ha', ⟨_, hv1, _⟩, rfl⟩ := hv
 have hargs : args = #[v] := Array.toList_inj.1 (by simpa using ha')
 subst hargs hv1
 refine Calls.mono (Go.Proofs.YtocilenpboklbaaGreatDoor.va_seat _ w (awl hg hw (by kernel_rfl)) (by show (ap (σ 3)).size < _; rw [dm]; omega)) fun e w' hp => ?_
 obtain ⟨rfl, hk⟩ := hp
 refine ⟨_, ρ, rfl, ?_, aan hw hk⟩
 simp only [VRel]
 show Value.bool (Lib.validD (ap (σ 3)).data.toList) = _
 rw [auo ha]
theorem a5x [Gv] : bo bfu := by
 intro σ _ hA _
 letI : Gv := ⟨σ⟩
 obtain ⟨h20, ha⟩ := a1w (cm hA).1
 show br 113 bfv 256 bm3 bm5 256 bm4
 intro ρ args w hg hw hc hv
 unfold bfv at hv
 simp only [VRels, VRel] at hv
 obtain ⟨v, vs', ha', ⟨_, hv1, _⟩, rfl⟩ := hv
 have hargs : args = #[v] := Array.toList_inj.1 (by simpa using ha')
 subst hargs hv1
 refine Calls.mono (Go.Proofs.YtocilenpboklbaaGreatDoor.rc_seat _ w (by show (ap (σ 3)).size < _; rw [dm]; omega) (fun j b hb => azr ha j b hb)) fun e w' hp => ?_
 obtain ⟨rfl, hk⟩ := hp
 refine ⟨_, ρ, rfl, ?_, aan hw hk⟩
 show VRel ρ (.sym .i64 (.len (.s 3)) []) _
 simp only [VRel]
 refine ⟨SAll.nil, ?_⟩
 show Value.int .i64 ((ap (σ 3)).size : Int) = Value.int .i64 ((SE.len (.s 3)).eval σ)
 rw [dm]; rfl
theorem alr : ∀ (f : Nat) (u : Nat), u < 10 ^ (f + 1) → rr (f + 1) (u : Int) = (Lib.decDigits u).map fun b => (b.toNat : Int)
 | f, u, h => by
   unfold rr
   rw [Lib.decDigits]
   by_cases hu : u < 10
   ·rw [if_pos (by omega), dif_pos hu]
    show [48 + (u : Int)] = [((UInt8.ofNat (48 + u)).toNat : Int)]
    rw [UInt8.toNat_ofNat']
    congr 1; omega
   ·cases f with
    | zero => exact absurd h (by omega)
    | succ f =>
      have h : u < 10 ^ (f + 1) * 10 := h
      rw [if_neg (by omega), dif_neg hu, List.map_append, show ((u : Int) / 10) = ((u / 10 : Nat) : Int) by omega, alr f (u / 10) (by omega)]
      congr 1
      show [48 + (u : Int) % 10] = [((UInt8.ofNat (48 + u % 10)).toNat : Int)]
      rw [UInt8.toNat_ofNat']
      congr 1; omega
theorem a3a (n : Int) (h0 : -9223372036854775808 ≤ n) (h1 : n ≤ 9223372036854775807) : ja n = (Lib.itoa n).map fun b => (b.toNat : Int) := by
 unfold ja Lib.itoa
 split
 ·rw [List.map_cons, ← alr 19 n.natAbs (by omega), show ((n.natAbs : Nat) : Int) = -n by omega]; rfl
 ·rw [← alr 19 n.toNat (by omega), show ((n.toNat : Nat) : Int) = n by omega]
theorem asv (l : List UInt8) : ap (l.map fun b => (b.toNat : Int)) = ⟨l.toArray⟩ := by
 unfold ap
 rw [List.map_map]
 have : ((fun x : Int => UInt8.ofNat x.toNat) ∘ fun b : UInt8 => (b.toNat : Int)) = id := by
  funext b
  show UInt8.ofNat ((b.toNat : Int)).toNat = b
  rw [Int.toNat_natCast, UInt8.ofNat_toNat]
 rw [this, List.map_id]
theorem azw (l : List UInt8) : ei (l.map fun b => (b.toNat : Int)) := by
 intro x hx
 obtain ⟨b, _, rfl⟩ := List.mem_map.1 hx
 have := b.toNat_lt
 omega
theorem bbd {σ : Nat → List Int} (h : SAll σ [.mk true (.v 1) (.c (-9223372036854775808)) false, .mk true (.c 9223372036854775807) (.v 1) false]) : -9223372036854775808 ≤ (σ 1).headD 0 ∧ (σ 1).headD 0 ≤ 9223372036854775807 := by
 simp only [sall_cons, sF, evs] at h
 exact ⟨h.1, h.2.1⟩
theorem bdz [Gv] : bo bj1 := by
 intro σ _ hA _
 letI : Gv := ⟨σ⟩
 have hr := bbd (cm hA).1
 show br 99 bdy 256 bj2 bj4 256 bj3
 intro ρ args w hg hw hc hv
 unfold bdy at hv
 simp only [VRels, vI, VRel] at hv
 obtain ⟨v, vs', ha', ⟨_, hv1⟩, rfl⟩ := hv
 have hargs : args = #[v] := Array.toList_inj.1 (by simpa using ha')
 subst hargs hv1
 refine Calls.mono (Go.Proofs.YtocilenpboklbaaGreatDoor.it_seat _ w (awl hg hw (by kernel_rfl)) hr.1 hr.2) fun e w' hp => ?_
 obtain ⟨rfl, hk⟩ := hp
 refine ⟨_, ρ, rfl, ?_, aan hw hk⟩
 have e : (GE.app 121 (.i (.v 1) .nil)).eval σ = ja ((σ 1).headD 0) := rfl
 simp only [VRel, GVRel]
 refine ⟨SAll.nil, ?_, ?_⟩
 ·show Value.string _ = Value.string (ap ((GE.app 121 (.i (.v 1) .nil)).eval σ))
  rw [e, a3a _ hr.1 hr.2, asv]; rfl
 ·show ei ((GE.app 121 (.i (.v 1) .nil)).eval σ)
  rw [e, a3a _ hr.1 hr.2]; exact azw _
section
variable [Gv]
theorem azn {l : List Int} (h : ach l) {n : Int} (h0 : 0 ≤ n) (h1 : n < cq l) : m9 l 2 n = 1 := by
 unfold m9
 refine if_pos ⟨h0, h1, ?_⟩
 unfold obL
 rw [if_pos h0]
 have hl : n.toNat < (recs l.tail).length := by unfold cq at h1; omega
 have e : (recs l.tail).getD n.toNat [] = (recs l.tail)[n.toNat]'hl := by rw [List.getD_eq_getElem?_getD, zK hl]; rfl
 rw [e]
 exact h _ (List.getElem_mem hl)
theorem bje (hC : ach (Gv.σ 5)) (h : (SE.v 1).eval Gv.σ = 0) : br 27 [hpp, wd (.v 1) (.v 2)] 257 [.mk 256 (hgh (.s 5))] (.ret (.tuple [.str 0 0, .int .i64 6])) 263 [.mk 256 (hgh (.s 5))] := by
 by_cases hn : 0 ≤ (SE.v 2).eval Gv.σ ∧ (SE.v 2).eval Gv.σ < cq (Gv.σ 5)
 ·have hl := azn hC hn.1 hn.2
  refine aeu (g := .s 5) (g' := .s 5) (n := .v 2) (a := wk 1) (b := wk 2) (c := wk 3) (d := wk 4) (Lr := []) (Lo := []) (by omega) (by omega) (by omega) (fun n o h => by cases h) (fun n o h => by cases h) hl ab0 fun lim L e hok => ?_
  have e0 := fw (σ := Gv.σ) (.s 5) e
  obtain ⟨b1, b2, b3, b4⟩ := hok
  exact ak (n := 2000) (A := [.mk true (.c 0) (.rd (.s 5) (.c 0)) true, .mk true (.v 2) (.c 0) false, .mk true (.v 2) (hfN (.s 5)) true, .mk false (.c 2) (.v 1) false]) (T := []) (E := .nil) aq al
   (aT (by rw [e0]; simp only [SE.eval]; omega) (aF (by simp only [SE.eval] at hn ⊢; omega) (aT hn.2 (aN (by rw [h]; simp only [SE.eval]; omega) SAll.nil)))) trivial rfl rfl (by kernel_rfl)
 ·refine aev (g := .s 5) (Lr := []) (Lo := []) (by omega) (by omega) uj oa oa (fun lim e hok => ?_) fun lim L _ e hok => ?_
  ·have e0 := fw (σ := Gv.σ) (.s 5) e
   have e1 := c7 (σ := Gv.σ) (.s 5) e
   obtain ⟨b1, b2, b3, b4⟩ := hok
   by_cases z : (SE.v 2).eval Gv.σ < 0
   ·exact ak (n := 2000) (A := [.mk true (.c 0) (.rd (.s 5) (.c 0)) true, .mk true (.v 2) (.c 0) true]) (T := []) (E := .nil) aq al (aT (by rw [e0]; simp only [SE.eval]; omega) (aT z SAll.nil)) trivial rfl rfl (by kernel_rfl)
   ·exact ak (n := 2000) (A := [.mk true (.c 0) (.rd (.s 5) (.c 0)) true, .mk true (.v 2) (.c 0) false]) (T := []) (E := .nil) aq al (aT (by rw [e0]; simp only [SE.eval]; omega) (aF (by simp only [SE.eval] at z ⊢; omega) SAll.nil)) trivial rfl rfl (by kernel_rfl)
  ·have e0 := fw (σ := Gv.σ) (.s 5) e
   obtain ⟨b1, b2, b3, b4⟩ := hok
   by_cases z : (SE.v 2).eval Gv.σ < 0
   ·exact ak (n := 2000) (A := [.mk true (.c 0) (.rd (.s 5) (.c 0)) true, .mk true (.v 2) (.c 0) true]) (T := []) (E := .nil) aq al (aT (by rw [e0]; simp only [SE.eval]; omega) (aT z SAll.nil)) trivial rfl rfl (by kernel_rfl)
   ·exact ak (n := 2000) (A := [.mk true (.c 0) (.rd (.s 5) (.c 0)) true, .mk true (.v 2) (.c 0) false, .mk true (.v 2) (hfN (.s 5)) false]) (T := []) (E := .nil) aq al (aT (by rw [e0]; simp only [SE.eval]; omega) (aF (by simp only [SE.eval] at z ⊢; omega) (aF (show (hfN (.s 5)).eval Gv.σ ≤ _ from (by omega : cq (Gv.σ 5) ≤ (SE.v 2).eval Gv.σ)) SAll.nil))) trivial rfl rfl (by kernel_rfl)
end
theorem bct {σ : Nat → List Int} (h : SAll σ [.mk false (.app 221 (.g (.s 5) .nil)) (.c 1) true, .mk false (.app 231 (.g (.s 5) .nil)) (.c 1) true, .mk false (.v 1) (.c 0) true]) : ach (σ 5) ∧ (SE.v 1).eval σ = 0 := by
 obtain ⟨_, h⟩ := sall_cons.1 h
 obtain ⟨h1, h⟩ := sall_cons.1 h
 obtain ⟨h2, _⟩ := sall_cons.1 h
 exact ⟨ite1.1 (sE.1 h1), sE.1 h2⟩
theorem bgi [Gv] : bo boa := fun σ _ hA _ => @bje ⟨σ⟩ (bct (cm hA).1).1 (bct (cm hA).1).2
end Go.Ev
