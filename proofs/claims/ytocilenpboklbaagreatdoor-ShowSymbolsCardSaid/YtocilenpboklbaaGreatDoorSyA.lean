import Derived.Test.YtocilenpboklbaaGreatDoorRcP
set_option maxRecDepth 100000
set_option linter.all false
namespace Go.Ev
abbrev aeh : GE := .cat (.s 4) (.app 120 (.i (.c 1) (.g (.s 3) (.i (.v 1) .nil))))
abbrev akc : SE := .len aeh
abbrev aei : List SA := [.mk true (.c 10000) (.len (.s 3)) false, .mk true (.v 1) (.c 0) false, .mk true (.len (.s 3)) (.v 1) false, .mk true (.bin 7 .i64 (.c 5) (.v 1)) (.len (.s 4)) false, .mk true (.len (.s 4)) (.c 1) false]
abbrev bcy : AL := .i (.c 1) (.g (.s 3) (.i (.c 0) .nil))
abbrev akd : GE := .app 120 bcy
abbrev aej : SE := .len akd
abbrev ax3 : List SA := [.mk true (.c 10000) (.len (.s 3)) false, .mk true (.len (.s 3)) (.c 1) false]
abbrev aqm : List SA := [.mk true (.c 10000) (.len (.s 3)) false]
abbrev bcz : List SA := [.mk true (.len (.s 3)) (.c 1) true]
abbrev a2w : List SA := [.mk true (.len (.s 3)) (.c 1) false]
abbrev mp : SE := .dr (.s 3) (.v 1)
abbrev a2x : SE := .bin 0 .i64 mp (.c 0)
abbrev acq : SE := .bin 6 .i64 (.len (.s 4)) (.c 1)
abbrev o9 : SE := .bin 6 .i64 (.v 1) (.dw (.s 3) (.v 1))
abbrev aqe : SE := .bin 7 .i64 (.c 5) o9
abbrev aqf : GE := .app 40 (.i mp .nil)
abbrev a2y : SE := .len aqf
abbrev acr : SE := .bin 6 .i64 acq a2y
abbrev yl : SE := .bin 6 .i64 (.len (.s 3)) (.bin 7 .i64 (.c (-1)) o9)
abbrev aqg : SE := .bin 6 .i64 (.len (.s 3)) (.bin 7 .i64 (.c (-1)) (.v 1))
abbrev aqh : GE := .app 120 (.i (.c 1) (.g (.s 3) (.i o9 .nil)))
abbrev a2z : SE := .len aqh
abbrev a20 : SE := .bin 6 .i64 acr a2z
abbrev a21 : GE := .cat (.cat (.cat (.s 4) (.one (.c 92))) aqf) aqh
abbrev aqi : SE := .bin 6 .i64 (.len (.s 4)) a2y
abbrev mq : SE := .dr (.s 3) (.c 0)
abbrev a22 : SE := .bin 0 .i64 mq (.c 0)
abbrev rr : SE := .dw (.s 3) (.c 0)
abbrev aqj : SE := .bin 7 .i64 (.c 5) rr
abbrev aqk : GE := .app 40 (.i mq .nil)
abbrev agv : SE := .len aqk
abbrev acs : SE := .bin 6 .i64 (.c 1) agv
abbrev aql : GE := .app 120 (.i (.c 1) (.g (.s 3) (.i rr .nil)))
abbrev a23 : SE := .len aql
abbrev a24 : SE := .bin 6 .i64 acs a23
abbrev a25 : GE := .cat (.cat (.lit 1 92) aqk) aql
noncomputable section
def mS1 : SE := .bin 6 .i64 (.len (.s 3)) (.bin 7 .i64 (.c (-1)) (.v 1))
def bmi : List AV := ([.gv (.str (.s 3) []), .func (.func 169) [] [], .top, .top, .top, .ptr (K.of 256) 0, .top, .top, .gv (.str (.s 3) []), .ptr (K.of 257) 0] ++ tps 11)
def bmf : List HO := (buO 256 258 (.s 4) (.len (.s 4)) ++ [.mk 257 (.gob (.iter (.s 3) (.v 1) []))])
def bmg : List HO := buO 256 260 aeh akc
def bmh : LR := (.x 0 (tps 5 ++ (.ptr (K.of 256) 0 :: tps 15)))
def q11 (m : SE) : LT := .mk 102 7 bmi 259 bmf (aei ++ []) (some (mS1, m)) bmh 262 bmg
def brl : LT := .mk 102 7 bmi 259 bmf (aei ++ []) none bmh 262 bmg
def brk : List AV := ([.gv (.str (.s 3) []), .func (.func 169) [] [], .top, .top, .top, .ptr (K.of 256) 0, .top, .top, .gv (.str (.s 3) []), .ptr (K.of 257) 0] ++ tps 11)
def brh : List HO := [.mk 256 (.cells 96 false 0 0 [.nilPtr, .nilSlice]), .mk 257 (.gob (.iter (.s 3) (.c 0) []))]
def bri : List HO := buO 256 260 (.app 120 bcy) aej
def brj : LR := (.x 0 (tps 5 ++ (.ptr (K.of 256) 0 :: tps 15)))
def brg : LT := .mk 102 7 brk 258 brh (ax3 ++ []) none brj 262 bri
def q1U : List AV := [.gv (.str (.s 3) []), .func (.func 169) [] []]
def q1I : List HO := []
def brq : List HO := []
def brr : TR := .ret (.str 0 0)
def brp : TM := .mk 102 q1U 256 q1I (aqm ++ bcz) none brr 264 brq
def brn : List HO := []
def bro : TR := .ret (.gv (.str akd []))
def brm : TM := .mk 102 q1U 256 q1I (aqm ++ a2w) none bro 264 brn
end
theorem evT : (∀ σ : Nat → List Int, (GE.lit 2 23672).eval σ = [92, 120]) ∧ (∀ σ : Nat → List Int, (GE.lit 1 92).eval σ = [92]) ∧ (∀ σ : Nat → List Int, (GE.lit 1 34).eval σ = [34]) ∧ (∀ σ : Nat → List Int, (GE.lit 2 8738).eval σ = [34, 34]) :=
 ⟨fun σ => by simp only [GE.eval]; decide +kernel, fun σ => by simp only [GE.eval]; decide +kernel, fun σ => by simp only [GE.eval]; decide +kernel, fun σ => by simp only [GE.eval]; decide +kernel⟩
theorem px (k : Int) (s : List Int) (p : Int) : kk k s p =
 if p < (s.length : Int) then (if 0 < dwJ s p then (if ul k (drJ s p) = 1 then 92 :: (dh (drJ s p) ++ kk k s (p + dwJ s p)) else dh (drJ s p) ++ kk k s (p + dwJ s p)) else []) else [] := by
 conv => lhs; unfold kk
 split
 ·split
  ·split <;> rfl
  ·rfl
 ·rfl
theorem ua (s : List Int) (p : Int) : kk 1 s p =
 if p < (s.length : Int) then (if 0 < dwJ s p then (if drJ s p = 92 ∨ jo (drJ s p) = 1 then 92 :: (dh (drJ s p) ++ kk 1 s (p + dwJ s p)) else dh (drJ s p) ++ kk 1 s (p + dwJ s p)) else []) else [] := by
 rw [px]
 have : (ul 1 (drJ s p) = 1) = (drJ s p = 92 ∨ jo (drJ s p) = 1) := by
  unfold ul
  by_cases h1 : drJ s p = 92
  ·simp [h1]
  ·simp [h1]
 simp only [this]
theorem aoe (k : Int) (s : List Int) : ∀ (n : Nat) (p : Int), ((s.length : Int) - p).toNat ≤ n → 0 ≤ p → p ≤ (s.length : Int) → ((kk k s p).length : Int) ≤ 5 * ((s.length : Int) - p)
 | 0, p, h, h0, h1 => by rw [px, if_neg (by omega)]; show (0 : Int) ≤ _; omega
 | n + 1, p, h, h0, h1 => by
   rw [px]
   split
   ·rename_i hp
    split
    ·rename_i hw
     have hb := aie (σ := fun i => if i = 0 then s else [p]) (.s 0) (.v 1) h0 hp
     have hb2 : p + dwJ s p ≤ (s.length : Int) := hb.2.1
     have ih := aoe k s n (p + dwJ s p) (by omega) (by omega) hb2
     have he := (f40 (σ := fun _ => [drJ s p]) (.v 0)).2
     have he : ((dh (drJ s p)).length : Int) ≤ 4 := he
     split
     ·rw [zO, zP]; omega
     ·rw [zP]; omega
    ·show (0 : Int) ≤ _; omega
   ·show (0 : Int) ≤ _; omega
section
variable {σ : Nat → List Int}
theorem bjb (h : SAll σ aei) : ((σ 3).length : Int) ≤ 10000 ∧ 0 ≤ (σ 1).headD 0 ∧ (σ 1).headD 0 ≤ ((σ 3).length : Int) ∧ ((σ 4).length : Int) ≤ 5 * (σ 1).headD 0 ∧ 1 ≤ ((σ 4).length : Int) := by
 simp only [sall_cons, sF, evs] at h
 exact ⟨h.1, h.2.1, h.2.2.1, h.2.2.2.1, h.2.2.2.2.1⟩
theorem brf (h : SAll σ ax3) : ((σ 3).length : Int) ≤ 10000 ∧ 1 ≤ ((σ 3).length : Int) := by
 simp only [sall_cons, sF, evs] at h
 exact ⟨h.1, h.2.1⟩
theorem bic (h : SAll σ aqm) : ((σ 3).length : Int) ≤ 10000 := by
 simp only [sall_cons, sF, evs] at h
 exact h.1
theorem evq : (∀ (σ : Nat → List Int) (k : SE) (s : GE) (p : SE), (GE.app 120 (.i k (.g s (.i p .nil)))).eval σ = kk (k.eval σ) (s.eval σ) (p.eval σ)) ∧ (∀ (σ : Nat → List Int) (n : SE), (GE.app 121 (.i n .nil)).eval σ = bod (n.eval σ)) :=
 ⟨fun _ _ _ _ => rfl, fun _ _ => rfl⟩
theorem azz (k : Int) (s : List Int) (h : 0 < (s.length : Int)) : 1 ≤ ((kk k s 0).length : Int) := by
 have hb := aie (σ := fun i => if i = 0 then s else [0]) (.s 0) (.v 1) (Int.le_refl 0) h
 have hw : 1 ≤ dwJ s 0 := hb.1
 have he := (f40 (σ := fun _ => [drJ s 0]) (.v 0)).1
 have he : 1 ≤ ((dh (drJ s 0)).length : Int) := he
 rw [px, if_pos h, if_pos (by omega)]
 split
 ·rw [zO, zP]; omega
 ·rw [zP]; omega
theorem am9 (k : SE) (g : GE) : (SE.len (.app 120 (.i k (.g g (.i (.c 0) .nil))))).eval σ ≤ 5 * (SE.len g).eval σ ∧ (0 < (SE.len g).eval σ → 1 ≤ (SE.len (.app 120 (.i k (.g g (.i (.c 0) .nil))))).eval σ) := by
 have := aoe (k.eval σ) (g.eval σ) _ 0 (zY _) (Int.le_refl _) (Int.natCast_nonneg _)
 refine ⟨?_, fun h => azz (k.eval σ) (g.eval σ) h⟩
 show ((kk (k.eval σ) (g.eval σ) 0).length : Int) ≤ 5 * ((g.eval σ).length : Int)
 omega
end
theorem hqq [Gv] : ∀ t ∈ [bnr, bnq, bdy, bdx], bj t := by
 intro t ht
 simp only [List.mem_cons, zH, or_false] at ht
 rcases ht with rfl | rfl | rfl | rfl
 ·exact bbq
 ·exact bbp
 ·exact ave
 ·exact avd
def bme [Gv] : Prop := (SAll Gv.σ [] → b8 102 7 bmi 259 bmf bmh 262 bmg)
theorem bo8 [Gv] (hh : ∀ t ∈ [q11 mS1], be t) (hI : SAll Gv.σ aei) : bme := by
 obtain ⟨l1, l2, l3, l4, l5⟩ := bjb hI
 rcases bt0 hI (.v 1) (.len (.s 3)) with ⟨hI, k1⟩ | ⟨hI, k1⟩
 ·have t1 := afl (aie (σ := Gv.σ) (.s 3) (.v 1))
  rcases bhx hI a2x (.c 92) with ⟨hI, k2⟩ | ⟨hI, k2⟩
  ·have hI := il hI (.c 400000) acq
   have hI := il hI mp (.c 0)
   have hI := akj hI mp (.c 1114112)
   have hI := il hI (.c 50000) acq
   have hI := il hI o9 (.c 0)
   have hI := il hI (.len (.s 3)) o9
   have t2 := afl (f40 (σ := Gv.σ) mp)
   have hI := il hI aqe acr
   have hI := il hI acr (.c 1)
   have hI := akj hI yl aqg
   have hI := il hI yl (.c 0)
   have u := zf4 (ua (Gv.σ 3) ((Gv.σ 1).headD 0))
   exact zt [(263, 260)] (.i a20 akc (.g a21 aeh .nil)) (zh hI hqq) (zp hI hh) hI ayp
  ·rcases bhx hI (.app 41 (.i a2x .nil)) (.c 1) with ⟨hI, k3⟩ | ⟨hI, k3⟩
   ·have hI := il hI (.c 400000) acq
    have hI := il hI mp (.c 0)
    have hI := akj hI mp (.c 1114112)
    have hI := il hI (.c 50000) acq
    have hI := il hI o9 (.c 0)
    have hI := il hI (.len (.s 3)) o9
    have t3 := afl (f40 (σ := Gv.σ) mp)
    have hI := il hI aqe acr
    have hI := il hI acr (.c 1)
    have hI := akj hI yl aqg
    have hI := il hI yl (.c 0)
    have u := zf4 (ua (Gv.σ 3) ((Gv.σ 1).headD 0))
    exact zt [(263, 260)] (.i a20 akc (.g a21 aeh .nil)) (zh hI hqq) (zp hI hh) hI ayp
   ·have hI := il hI mp (.c 0)
    have hI := akj hI mp (.c 1114112)
    have hI := il hI (.c 50000) (.len (.s 4))
    have hI := il hI o9 (.c 0)
    have hI := il hI (.len (.s 3)) o9
    have t4 := afl (f40 (σ := Gv.σ) mp)
    have hI := il hI aqe aqi
    have hI := il hI aqi (.c 1)
    have hI := akj hI yl aqg
    have hI := il hI yl (.c 0)
    have u := zf4 (ua (Gv.σ 3) ((Gv.σ 1).headD 0))
    exact zt [(261, 260)] (.i (.bin 6 .i64 aqi a2z) akc (.g (.cat (.cat (.s 4) aqf) aqh) aeh .nil)) (zh hI hqq) (zp hI hh) hI ayp
 ·have u := zf4 (ua (Gv.σ 3) ((Gv.σ 1).headD 0))
  exact zt [(258, 260)] (.i (.len (.s 4)) akc (.g (.s 4) aeh .nil)) (zh hI hqq) (zp hI hh) hI ayp
theorem azy : ∀ (B : Nat) (σ : Nat → List Int), SAll σ aei → (mS1).eval σ < (B : Int) → @bme ⟨σ⟩
 | 0, σ, hI, hb => by obtain ⟨l1, l2, l3, l4, l5⟩ := bjb hI; simp only [mS1, evs, wr] at hb; omega
 | B + 1, σ, hI, hb => by
   have ih : ∀ σ' : Nat → List Int, SAll σ' aei → 0 ≤ (mS1).eval σ' ∧ (mS1).eval σ' < (mS1).eval σ → @bme ⟨σ'⟩ := fun σ' h h' => azy B σ' h (by omega)
   have hh : ∀ t ∈ [q11 (mS1)], @be ⟨σ⟩ t := by
    intro t ht
    simp only [List.mem_cons, zH, or_false] at ht
    rcases ht with rfl
    ·exact fun σ' _ hA hb => (ih σ' (ap hA).1 hb) (ap hA).2
   exact @bo8 ⟨σ⟩ hh hI
theorem bmj [Gv] : be brl := fun σ _ hA _ => (azy (((mS1).eval σ).toNat + 1) σ (ap hA).1 (by omega)) (ap hA).2
theorem blh [Gv] : ∀ t ∈ [brl], be t := gg bmj
def bzz [Gv] : Prop := (SAll Gv.σ [] → b8 102 7 brk 258 brh brj 262 bri)
theorem bo7 [Gv] (hI : SAll Gv.σ ax3) : bzz := by
 obtain ⟨l1, l2⟩ := brf hI
 have hI := akj hI (.c 0) (.len (.s 3))
 have t1 := afl (aie (σ := Gv.σ) (.s 3) (.c 0))
 rcases bhx hI a22 (.c 92) with ⟨hI, k2⟩ | ⟨hI, k2⟩
 ·have hI := il hI mq (.c 0)
  have hI := akj hI mq (.c 1114112)
  have hI := il hI rr (.c 0)
  have hI := il hI (.len (.s 3)) rr
  have t2 := afl (f40 (σ := Gv.σ) mq)
  have hI := il hI aqj acs
  have hI := il hI acs (.c 1)
  have t3 := afl (am9 (σ := Gv.σ) (.c 1) (.s 3))
  have u := zf4 (ua (Gv.σ 3) 0)
  exact zt [(262, 260)] (.i a24 aej (.g a25 akd .nil)) (zh hI hqq) (zp hI blh) hI ayp
 ·rcases bhx hI (.app 41 (.i a22 .nil)) (.c 1) with ⟨hI, k3⟩ | ⟨hI, k3⟩
  ·have hI := il hI mq (.c 0)
   have hI := akj hI mq (.c 1114112)
   have hI := il hI rr (.c 0)
   have hI := il hI (.len (.s 3)) rr
   have t4 := afl (f40 (σ := Gv.σ) mq)
   have hI := il hI aqj acs
   have hI := il hI acs (.c 1)
   have t5 := afl (am9 (σ := Gv.σ) (.c 1) (.s 3))
   have u := zf4 (ua (Gv.σ 3) 0)
   exact zt [(262, 260)] (.i a24 aej (.g a25 akd .nil)) (zh hI hqq) (zp hI blh) hI ayp
  ·have hI := il hI mq (.c 0)
   have hI := akj hI mq (.c 1114112)
   have hI := il hI rr (.c 0)
   have hI := il hI (.len (.s 3)) rr
   have t6 := afl (f40 (σ := Gv.σ) mq)
   have hI := il hI aqj agv
   have hI := il hI agv (.c 1)
   have t7 := afl (am9 (σ := Gv.σ) (.c 1) (.s 3))
   have u := zf4 (ua (Gv.σ 3) 0)
   exact zt [(260, 260)] (.i (.bin 6 .i64 agv a23) aej (.g (.cat aqk aql) akd .nil)) (zh hI hqq) (zp hI blh) hI ayp
theorem bmd [Gv] : be brg := fun σ _ hA _ => (@bo7 ⟨σ⟩  (ap hA).1) (ap hA).2
theorem bp0 [Gv] : ∀ t ∈ [brg], be t := gg bmd
def q1G [Gv] : Prop := (SAll Gv.σ bcz → aq 102 q1U 256 q1I brr 264 brq) ∧ (SAll Gv.σ a2w → aq 102 q1U 256 q1I bro 264 brn)
theorem bo6 [Gv] (hI : SAll Gv.σ aqm) : q1G := by
 have l1 := bic hI
 rcases bt0 hI (.len (.s 3)) (.c 1) with ⟨hI, k1⟩ | ⟨hI, k1⟩
 ·have hI := il hI (.c 0) (.len (.s 3))
  have u := l1
  exact ⟨zm0 [] ab (zp hI bp0) hI,
   bt1⟩
 ·have t1 := afl (am9 (σ := Gv.σ) (.c 1) (.s 3))
  have hI := akj hI (.c 0) aej
  have hI := il hI (.c 400000) aej
  have u := l1
  exact ⟨bt1,
   zm0 [] ab (zp hI bp0) hI⟩
theorem bml [Gv] : bj brp := fun σ _ hA _ => (@bo6 ⟨σ⟩  (ap hA).1).1 (ap hA).2
theorem bmk [Gv] : bj brm := fun σ _ hA _ => (@bo6 ⟨σ⟩  (ap hA).1).2 (ap hA).2
end Go.Ev
