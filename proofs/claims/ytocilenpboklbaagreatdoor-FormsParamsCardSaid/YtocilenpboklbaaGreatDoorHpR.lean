import Derived.Test.YtocilenpboklbaaGreatDoorHpQ
set_option maxRecDepth 100000
set_option linter.all false
namespace Go.Ev
abbrev yg : List SA := [.mk true (.v 6) (.c 0) false, .mk true (.c 4000) (.v 6) false, .mk false (.len (.s 7)) (.v 6) true, .mk true (.v 8) (.c 0) false, .mk true (.v 6) (.v 8) false]
abbrev ari : AL := .g (.s 7) (.i (.v 1) (.i (.v 8) .nil))
abbrev arj : SE := .app 217 ari
abbrev azw : List SA := [.mk true arj (.c 0) true]
abbrev azx : List SA := [.mk true arj (.c 0) false]
abbrev ark : List SA := [.mk true (.v 6) (.c 0) false, .mk true (.c 4000) (.v 6) false, .mk false (.len (.s 7)) (.v 6) true]
abbrev azy : SE := .app 217 (.g (.s 7) (.i (.v 1) (.i (.c 0) .nil)))
abbrev bf6 : List SA := [.mk true azy (.c 0) true]
abbrev bf7 : List SA := [.mk true azy (.c 0) false]
abbrev aha : SE := .bin 6 .i64 (.v 6) (.bin 7 .i64 (.c (-1)) (.v 8))
abbrev a41 : SE := .app 213 (.g (.s 5) (.i (.v 1) (.i (.v 2) .nil)))
abbrev ahb : SE := .bin 0 .i64 (.v 8) (.c 1)
abbrev a42 : SE := .app 217 (.g (.s 7) (.i (.v 1) (.i ahb .nil)))
abbrev ahc : SE := .bin 6 .i64 (.v 6) (.bin 7 .i64 (.c (-1)) ahb)
noncomputable section
def nuR (k : Nat) (n : SE) (g : GE) : HO := .mk k (.gob (.gh 3 [.i64] n g))
def m68 : SE := .bin 6 .i64 (.v 6) (.bin 7 .i64 (.c (-1)) (.v 8))
def a67 : List AV := [.gv (.sl (K.of 256) 1 (.v 6) []), vI 1, .top, .top, .top, .top, .gv (.sl (K.of 256) 1 (.v 6) []), vI 6, vI 8, .top, .top, .top, .top, .top, .top, .top, .top, .top, .top]
def a66 : List HO := [nuR 256 (.v 6) (.s 7)]
def bbg : List HO := [nuR 256 (.v 6) (.s 7)]
def bbh : LR := (.x 0 ([.top, .top, .top, .top, .top, .top, .top, .top, .top, .top, .top, .top, .top, .top, .top, .top, .top, .top, .top]))
def bpj (m : SE) : LT := .mk 127 5 a67 257 a66 (yg ++ azw) (some (m68, m)) bbh 257 bbg
def bkd : LT := .mk 127 5 a67 257 a66 (yg ++ azw) none bbh 257 bbg
def bbe : List HO := [nuR 256 (.v 6) (.s 7)]
def bbf : LR := (.r ([.top, .top, .top, .top, sX (.app 217 ari), sX (.app 217 ari), .top, .top, .top, .top, .top, .top, .top, .top, .top, .top, .top, sX (.app 217 ari), .top]))
def bpi (m : SE) : LT := .mk 127 5 a67 257 a66 (yg ++ azx) (some (m68, m)) bbf 257 bbe
def bkc : LT := .mk 127 5 a67 257 a66 (yg ++ azx) none bbf 257 bbe
def bg9 : List AV := [.gv (.sl (K.of 256) 1 (.v 6) []), vI 1]
def bg6 : List HO := [nuR 256 (.v 6) (.s 7)]
def bjz : List HO := [nuR 256 (.v 6) (.s 7)]
def bj0 : TR := .ret (.bool false)
def bjy : TM := .mk 85 bg9 257 bg6 (ark ++ bf6) none bj0 257 bjz
def bjw : List HO := [nuR 256 (.v 6) (.s 7)]
def bjx : TR := .ret (.bool true)
def bjv : TM := .mk 85 bg9 257 bg6 (ark ++ bf7) none bjx 257 bjw
end
theorem vl (r : List Int) (v i : Int) : nj r v i = if i < (r.length : Int) then (if v = r.getD i.toNat 0 then i else nj r v (i + 1)) else -1 := by
 conv => lhs; rw [nj]
 split <;> rfl
theorem ao (ws : List Int) (i : Int) (need may : List Int) (r p : Int) : cq ws i need may r p =
 if 2 * i + 1 < (ws.length : Int) then
  if ws.getD (2 * i).toNat 0 = 1 then
   (if ws.getD (2 * i + 1).toNat 0 = 0 ∨ ws.getD (2 * i + 1).toNat 0 = 1 then ⟨10, [], [], 0, 0⟩
    else if ws.getD (2 * i + 1).toNat 0 = 11 ∧ p = 0 then cq ws (i + 1) need may r 1
    else if ws.getD (2 * i + 1).toNat 0 = 10 ∧ p < 2 then cq ws (i + 1) need may r 2
    else if ws.getD (2 * i + 1).toNat 0 = 11 ∨ ws.getD (2 * i + 1).toNat 0 = 10 ∨ p = 3 then ⟨5, [], [], 0, 0⟩
    else if 0 ≤ nj need (ws.getD (2 * i + 1).toNat 0) 0 ∨ 0 ≤ nj may (ws.getD (2 * i + 1).toNat 0) 0 then ⟨18, [], [], 0, 0⟩
    else if p = 0 then cq ws (i + 1) (need ++ [ws.getD (2 * i + 1).toNat 0]) may r p
    else if p = 1 then cq ws (i + 1) need (may ++ [ws.getD (2 * i + 1).toNat 0]) r p
    else cq ws (i + 1) need may (ws.getD (2 * i + 1).toNat 0) 3)
  else ⟨6, [], [], 0, 0⟩
 else ⟨0, need, may, r, p⟩ := by
 conv => lhs; rw [cq]
 split <;> rfl
theorem jq : ∀ v : Int, nj [] v 0 = -1 := fun v => by rw [vl, if_neg (by simp)]
theorem uy (ws : List Int) : ∀ (m : Nat) (i : Int) (need may : List Int) (r p : Int), ((ws.length : Int) - i).toNat ≤ m → (cq ws i need may r p).e = 0 →
  need.length ≤ (cq ws i need may r p).need.length ∧ may.length ≤ (cq ws i need may r p).may.length ∧ (1 ≤ p → (cq ws i need may r p).need.length = need.length) ∧ (2 ≤ p → (cq ws i need may r p).may.length = may.length)
 | m, i, need, may, r, p, h, he => by
   rw [ao] at he ⊢
   split at he
   ·rename_i hl
    rw [if_pos hl]
    cases m with
    | zero => omega
    | succ m =>
      split at he
      ·rename_i h1
       rw [if_pos h1]
       split at he
       ·cases he
       ·rename_i h2
        rw [if_neg h2]
        split at he
        ·rename_i h3
         rw [if_pos h3]
         have := uy ws m _ _ _ _ _ (by omega) he
         exact ⟨by omega, by omega, by omega, by omega⟩
        ·rename_i h3
         rw [if_neg h3]
         split at he
         ·rename_i h4
          rw [if_pos h4]
          have := uy ws m _ _ _ _ _ (by omega) he
          exact ⟨by omega, by omega, by omega, by omega⟩
         ·rename_i h4
          rw [if_neg h4]
          split at he
          ·cases he
          ·rename_i h5
           rw [if_neg h5]
           split at he
           ·cases he
           ·rename_i h6
            rw [if_neg h6]
            split at he
            ·rename_i h7
             rw [if_pos h7]
             have := uy ws m _ _ _ _ _ (by omega) he
             rw [zP, List.length_singleton] at this
             exact ⟨by omega, by omega, by omega, by omega⟩
            ·rename_i h7
             rw [if_neg h7]
             split at he
             ·rename_i h8
              rw [if_pos h8]
              have := uy ws m _ _ _ _ _ (by omega) he
              rw [zP, List.length_singleton] at this
              exact ⟨by omega, by omega, by omega, by omega⟩
             ·rename_i h8
              rw [if_neg h8]
              have := uy ws m _ _ _ _ _ (by omega) he
              exact ⟨by omega, by omega, by omega, by omega⟩
      ·cases he
   ·rename_i hl
    rw [if_neg hl]; exact ⟨zY _, zY _, fun _ => rfl, fun _ => rfl⟩
section
variable {σ : Nat → List Int}
theorem br (ws a b : GE) (i r p : SE) : (SE.app 218 (.g ws (.i i (.g a (.g b (.i r (.i p .nil))))))).eval σ = 0 → (SE.len a).eval σ ≤ (SE.len (.app 218 (.g ws (.i i (.g a (.g b (.i r (.i p .nil)))))))).eval σ ∧ (SE.len b).eval σ ≤ (SE.len (.app 219 (.g ws (.i i (.g a (.g b (.i r (.i p .nil)))))))).eval σ ∧
  (1 ≤ p.eval σ → (SE.len (.app 218 (.g ws (.i i (.g a (.g b (.i r (.i p .nil)))))))).eval σ = (SE.len a).eval σ) ∧ (2 ≤ p.eval σ → (SE.len (.app 219 (.g ws (.i i (.g a (.g b (.i r (.i p .nil)))))))).eval σ = (SE.len b).eval σ) := by
 intro h
 have := uy (ws.eval σ) _ (i.eval σ) (a.eval σ) (b.eval σ) (r.eval σ) (p.eval σ) (zY _) h
 exact ⟨Int.ofNat_le.2 this.1, Int.ofNat_le.2 this.2.1, fun q => congrArg Int.ofNat (this.2.2.1 q), fun q => congrArg Int.ofNat (this.2.2.2 q)⟩
theorem bkb (h : SAll σ yg) : 0 ≤ (σ 6).headD 0 ∧ (σ 6).headD 0 ≤ 4000 ∧ ((σ 7).length : Int) = (σ 6).headD 0 ∧ 0 ≤ (σ 8).headD 0 ∧ (σ 8).headD 0 ≤ (σ 6).headD 0 := by
 simp only [sall_cons, sE, sF, evs] at h
 exact ⟨h.1, h.2.1, h.2.2.1, h.2.2.2.1, h.2.2.2.2.1⟩
theorem bpc (h : SAll σ ark) : 0 ≤ (σ 6).headD 0 ∧ (σ 6).headD 0 ≤ 4000 ∧ ((σ 7).length : Int) = (σ 6).headD 0 := by
 simp only [sall_cons, sE, sF, evs] at h
 exact ⟨h.1, h.2.1, h.2.2.1⟩
theorem af2 (h : SAll σ [.mk true (.v 6) (.c 0) false, .mk true (.c 1000) (.v 6) false, .mk false (.len (.s 7)) (.bin 7 .i64 (.c 2) (.v 6)) true, .mk true (.v 8) (.c 0) false, .mk true (.v 6) (.v 8) false, .mk true (.v 14) (.c 0) false, .mk true (.c 3) (.v 14) false]) : 0 ≤ (σ 6).headD 0 ∧ (σ 6).headD 0 ≤ 1000 ∧ ((σ 7).length : Int) = 2 * (σ 6).headD 0 ∧ 0 ≤ (σ 8).headD 0 ∧ (σ 8).headD 0 ≤ (σ 6).headD 0 ∧ 0 ≤ (σ 14).headD 0 ∧ (σ 14).headD 0 ≤ 3 := by
 simp only [sall_cons, sE, sF, evs] at h
 exact ⟨h.1, h.2.1, h.2.2.1, h.2.2.2.1, h.2.2.2.2.1, h.2.2.2.2.2.1, h.2.2.2.2.2.2.1⟩
theorem bkr (h : SAll σ [.mk false (.len (.s 11)) (.v 21) true, .mk true (.v 21) (.c 1) false, .mk true (.c 3000) (.bin 6 .i64 (.v 21) aha) false]) : ((σ 11).length : Int) = (σ 21).headD 0 ∧ 1 ≤ (σ 21).headD 0 ∧ (σ 21).headD 0 + ((σ 6).headD 0 + -1 * (σ 8).headD 0) ≤ 3000 := by
 simp only [sall_cons, sE, sF, evs] at h
 exact ⟨h.1, h.2.1, h.2.2.1⟩
theorem bkq (h : SAll σ [.mk false (.len (.s 12)) (.v 22) true, .mk true (.v 22) (.c 1) false, .mk true (.c 3000) (.bin 6 .i64 (.v 22) aha) false]) : ((σ 12).length : Int) = (σ 22).headD 0 ∧ 1 ≤ (σ 22).headD 0 ∧ (σ 22).headD 0 + ((σ 6).headD 0 + -1 * (σ 8).headD 0) ≤ 3000 := by
 simp only [sall_cons, sE, sF, evs] at h
 exact ⟨h.1, h.2.1, h.2.2.1⟩
theorem bqp (h : SAll σ [.mk false (.app 221 (.g (.s 5) .nil)) (.c 1) true, .mk true a41 (.c 0) false, .mk true (.c 1000) a41 false]) : od (σ 5) ∧ 0 ≤ j7 (σ 5) ((σ 1).headD 0) ((σ 2).headD 0) ∧ j7 (σ 5) ((σ 1).headD 0) ((σ 2).headD 0) ≤ 1000 := by
 obtain ⟨h1, h⟩ := sall_cons.1 h
 exact ⟨s221.1 (sE.1 h1), bfq h⟩
end
def bm0 [Gv] : Prop := (SAll Gv.σ azw → b8 127 5 a67 257 a66 bbh 257 bbg) ∧ (SAll Gv.σ azx → b8 127 5 a67 257 a66 bbf 257 bbe)
theorem boo [Gv] (hh : ∀ t ∈ [bpj m68, bpi m68], ar t) (hI : SAll Gv.σ yg) : bm0 := by
 obtain ⟨l1, l2, l3, l4, l5⟩ := bkb hI
 have u0 := vl (Gv.σ 7) ((Gv.σ 1).headD 0) ((Gv.σ 8).headD 0)
 rcases zl1 hI (.v 8) (.v 6) with ⟨hI, k1⟩ | ⟨hI, k1⟩
 ·rcases zq1 hI (.v 1) (.rd (.s 7) (.v 8)) with ⟨hI, k2⟩ | ⟨hI, k2⟩
  ·have u := zf3 (vl (Gv.σ 7) ((Gv.σ 1).headD 0) ((Gv.σ 8).headD 0))
   exact ⟨zn1,
    zt [] (.i (.v 8) arj .nil) al (zp hI hh) hI ze1⟩
  ·have hI := zF1 hI ahb (.c 0)
   have hI := zF1 hI (.v 6) ahb
   rcases zl1 hI a42 (.c 0) with ⟨hI, k5⟩ | ⟨hI, k5⟩
   ·have hI := zT1 hI ahc aha
    have hI := zF1 hI ahc (.c 0)
    have u := zf3 (vl (Gv.σ 7) ((Gv.σ 1).headD 0) ((Gv.σ 8).headD 0))
    exact ⟨zt0 [] al (zp hI hh) hI,
     zn1⟩
   ·have hI := zT1 hI ahc aha
    have hI := zF1 hI ahc (.c 0)
    have u := zf3 (vl (Gv.σ 7) ((Gv.σ 1).headD 0) ((Gv.σ 8).headD 0))
    exact ⟨zn1,
     zt [] (.i a42 arj .nil) al (zp hI hh) hI ze1⟩
 ·have u := zf3 (vl (Gv.σ 7) ((Gv.σ 1).headD 0) ((Gv.σ 8).headD 0))
  exact ⟨zt0 [] al (zp hI hh) hI,
   zn1⟩
theorem ao4 : ∀ (B : Nat) (σ : Nat → List Int), SAll σ yg → (m68).eval σ < (B : Int) → @bm0 ⟨σ⟩
 | 0, σ, hI, hb => by obtain ⟨l1, l2, l3, l4, l5⟩ := bkb hI; simp only [m68, evs, wr] at hb; omega
 | B + 1, σ, hI, hb => by
   have ih : ∀ σ' : Nat → List Int, SAll σ' yg → 0 ≤ (m68).eval σ' ∧ (m68).eval σ' < (m68).eval σ → @bm0 ⟨σ'⟩ := fun σ' h h' => ao4 B σ' h (by omega)
   have hh : ∀ t ∈ [bpj (m68), bpi (m68)], @ar ⟨σ⟩ t := by
    intro t ht
    simp only [List.mem_cons, zJ, or_false] at ht
    rcases ht with rfl | rfl
    ·exact fun σ' _ hA hb => (ih σ' (ap hA).1 hb).1 (ap hA).2
    ·exact fun σ' _ hA hb => (ih σ' (ap hA).1 hb).2 (ap hA).2
   exact @boo ⟨σ⟩ hh hI
theorem bhu [Gv] : ar bkd := fun σ _ hA _ => (ao4 (((m68).eval σ).toNat + 1) σ (ap hA).1 (by omega)).1 (ap hA).2
theorem bht [Gv] : ar bkc := fun σ _ hA _ => (ao4 (((m68).eval σ).toNat + 1) σ (ap hA).1 (by omega)).2 (ap hA).2
theorem bo5 [Gv] : ∀ t ∈ [bkd, bkc], ar t := by
 intro t ht
 simp only [List.mem_cons, zJ, or_false] at ht
 rcases ht with rfl | rfl
 ·exact bhu
 ·exact bht
def bsl [Gv] : Prop := (SAll Gv.σ bf6 → cm 85 bg9 257 bg6 bj0 257 bjz) ∧ (SAll Gv.σ bf7 → cm 85 bg9 257 bg6 bjx 257 bjw)
theorem bj2 [Gv] (hI : SAll Gv.σ ark) : bsl := by
 obtain ⟨l1, l2, l3⟩ := bpc hI
 rcases zl1 hI azy (.c 0) with ⟨hI, k1⟩ | ⟨hI, k1⟩
 ·have u := l1
  exact ⟨zm0 [] al (zp hI bo5) hI,
   zn1⟩
 ·have u := l1
  exact ⟨zn1,
   zm0 [] al (zp hI bo5) hI⟩
theorem bg8 [Gv] : de bjy := fun σ _ hA _ => (@bj2 ⟨σ⟩  (ap hA).1).1 (ap hA).2
theorem bg7 [Gv] : de bjv := fun σ _ hA _ => (@bj2 ⟨σ⟩  (ap hA).1).2 (ap hA).2
end Go.Ev
