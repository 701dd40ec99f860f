import Derived.Test.YtocilenpboklbaaGreatDoorHsU
set_option maxRecDepth 100000
set_option linter.all false
namespace Go.Ev
abbrev ao4 : SE := .bin 7 .i64 (.c (-1)) (.v 8)
abbrev apb : GE := .app 245 (.g (.s 3) (.i (.v 6) .nil))
abbrev ape : GE := .cat (.s 4) apb
abbrev api : SE := .bin 7 .i64 (.len (.s 3)) (.v 6)
abbrev avs : List SA := [.mk true (.v 6) (.c 0) false, .mk true (.c 300) (.v 6) false, .mk true (.c 600) api false, .mk true (.c 1200) (.len (.s 3)) false, .mk true (.c 5000) (.bin 6 .i64 (.len (.s 4)) api) false]
abbrev a57 : List SA := [.mk true (.v 6) (.c 0) false, .mk true (.c 300) (.v 6) false, .mk false (.len (.s 3)) (.c 1) true]
abbrev avt : SE := .bin 5 .i64 (.v 1) (.v 2)
abbrev avu : List SA := [.mk true (.v 2) (.c 1) false, .mk true (.c 100000) (.v 2) false]
abbrev a58 : AL := .i (.c 0) (.i (.c 1) (.i (.c 1) (.i (.c 0) (.i (.v 7) .nil))))
abbrev wv : AL := .g (.s 5) .nil
abbrev ao5 : SE := .app 221 wv
abbrev l7 : SE := .app 201 wv
abbrev ao6 : List SA := [.mk false ao5 (.c 1) true, .mk false (.app 237 wv) (.c 1) true, .mk false (.v 3) (.c 2) true, .mk false (.bin 6 .i64 (.v 4) (.c 1)) l7 true, .mk false (.v 8) l7 true, .mk true (.v 7) (.v 8) false, .mk true (.c 50) (.v 7) false]
abbrev ao7 : SE := .app 238 wv
abbrev agh : AL := .i (.v 9) .nil
abbrev ay9 : AL := .i ao7 agh
abbrev ao8 : SE := .bin 6 .i64 (.bin 6 .i64 ao7 (.v 9)) (.c (-1))
abbrev ao9 : List SA := [.mk false ao5 (.c 1) true, .mk false (.app 239 wv) (.c 1) true, .mk false (.v 3) (.c 4) true, .mk false (.bin 6 .i64 (.v 4) (.c 1)) l7 true, .mk false (.bin 6 .i64 (.v 8) ao7) l7 true, .mk true (.v 8) (.c 1) false, .mk true (.v 9) (.v 8) false, .mk true (.c 299) (.v 9) false]
abbrev apa : List SA := [.mk false ao5 (.c 1) true, .mk false (.app 234 wv) (.c 1) true, .mk true (.v 9) (.c 0) false, .mk true (.c 299) (.v 9) false]
abbrev aza : AL := .i l7 agh
abbrev azb : SE := .bin 6 .i64 (.bin 6 .i64 l7 (.v 9)) (.c (-1))
abbrev apc : SE := .c 9223372036854775807
abbrev azc : SE := .bin 6 .i64 (.len (.s 4)) (.len (.s 3))
abbrev ac1 : SE := .bin 6 .i64 (.len (.s 3)) (.len (.s 3))
abbrev tl : SE := .bin 3 .i64 (.v 6) (.c 2)
abbrev agi : SE := .bin 7 .i64 ac1 tl
abbrev azd : GE := .app 245 (.g (.cat (.s 3) (.s 3)) (.i tl .nil))
abbrev apd : SE := .bin 4 .i64 (.v 1) (.v 2)
abbrev agj : GE := .app 206 (.g (.s 5) (.g (.cat (.one (.c 2)) (.cat (.one (.c 0)) (.cat (.one (.c 1)) (.cat (.one (.c 1)) (.one (.c 0)))))) .nil))
abbrev apf : AL := .g (.app 207 (.g agj (.i (.v 4) (.g (.cat (.one (.c 2)) (.cat (.one (.app 204 (.g agj (.i (.v 4) (.i (.c 1) .nil))))) (.cat (.one (.app 204 (.g agj (.i (.v 4) (.i (.c 2) .nil))))) (.cat (.one (.c 2)) (.one l7))))) .nil)))) .nil
abbrev apg : SE := .bin 6 .i64 l7 (.c 1)
abbrev aze : SE := .app 201 apf
abbrev zo : SE := .bin 0 .i64 (.v 8) (.c 1)
abbrev azf : SE := .bin 7 .i64 (.c (-1)) zo
abbrev azg : SE := .bin 6 .i64 (.v 7) azf
abbrev azh : SE := .bin 0 .i64 (.app 202 wv) (.c 1)
abbrev agk : AL := .g (.app 206 (.g (.s 5) (.g (.cat (.one (.c 4)) (.cat (.one (.v 3)) (.one (.v 4)))) .nil))) .nil
abbrev azi : SE := .app 201 agk
abbrev aph : SE := .app 238 agk
abbrev azj : SE := .bin 6 .i64 (.v 9) azf
abbrev azk : GE := .app 241 ay9
abbrev agl : AL := .g (.app 206 (.g (.s 5) (.g (.cat (.one (.c 4)) (.cat (.one (.c 0)) (.one (.c 7)))) .nil))) .nil
abbrev azl : SE := .app 201 agl
abbrev apj : SE := .app 238 agl
noncomputable section
def g0E : GE := .app 109 .nil
def mV6 : SE := .v 6
def m78 : SE := .bin 6 .i64 (.v 7) ao4
def m98 : SE := .bin 6 .i64 (.v 9) ao4
def bgl : List AV := [.gv (.str (.s 3) []), vI 6, .top, .top, .top, .gv (.str (.s 4) []), .top, .top, .top, .top, .top, .top, .top, .top, .top, .top, .top, .top, .top, .top]
def bgi : List HO := []
def bgj : List HO := []
def bgk : LR := (.x 0 ([.top, .top, .top, .top, .top, .gv (.str ape []), .top, .top, .top, .top, .top, .top, .top, .top, .top, .top, .top, .top, .top, .top]))
def tml (m : SE) : LT := .mk 19 5 bgl 256 bgi (avs ++ []) (some (mV6, m)) bgk 256 bgj
def bgg : LT := znl (tml (.c 0))
def bgq : List AV := [.gv (.str (.s 3) []), vI 6]
def bgn : List HO := []
def bgo : List HO := []
def bgp : TR := .ret (.gv (.str apb []))
def bgm : TM := .mk 19 bgq 256 bgn (a57 ++ []) none bgp 256 bgo
def bew : List AV := []
def bet : List HO := []
def beu : List HO := []
def bev : TR := .ret (.bool true)
def bes : TM := .mk 9 bew 256 bet ([] ++ []) none bev 257 beu
def bfc : List AV := []
def be9 : List HO := []
def bfa : List HO := [bx 256 111 [.gv (.sl (K.of 257) 6 (.c 62) []), .map (K.of 258)], .mk 257 (.gob (.junk 171)), .mk 258 (.gob (.gmap g0E))]
def bfb : TR := .ret (.ptr (K.of 256) 0)
def be8 : TM := .mk 30 bfc 256 be9 ([] ++ []) none bfb 260 bfa
def bfq : List AV := [vI 1, vI 2]
def bfn : List HO := []
def bfo : List HO := []
def bfp : TR := .ret (sX avt)
def bfm : TM := .mk 11 bfq 256 bfn (avu ++ []) none bfp 256 bfo
def beg : List AV := [.top, vI 2, .top, .top, .top, .ptr (K.of 256) 0, .ptr (K.of 257) 0, vI 7, .ptr (K.of 258) 0, .top, .ptr (K.of 259) 0, vI 8, .top, .top, .top, .top, .top, .top, .top, .top, .top, .top, .top, .top, .top, .top, .top, .top, .top, .top, .top, .top, .top, .top, .top, .top, .top, .top, .top, .top, .top, .top, .top, .top, .top, .top, .top, .top, .top, .top, .top, .top, .top, .top, .top, .top, .top, .top, .top, .top, .top, .top, .top, .top, .top, .top, .top, .top, .top, .top, .top, .top, .top, .top, .top, .top, .top, .top, .top, .top, .top, .top, .top, .top, .top, .top, .top, .top, .top, .top, .top, .top, .top, .top, .top, .top, .top, .top, .top, .top, .top, .top, .top, .top, .top, .top, .top, .top, .top, .top, .top, .top, .top, .top, .top, .top, .top, .top, .top, .top, .top, .top, .top, .top, .top, .top, .top, .top, .top, .top, .top, .top, .top, .top, .top, .top, .top, .top, .top, .top, .top]
def bed : List HO := [hH 256 (.s 5), bx 259 29 [vI 3, vI 4]]
def bee : List HO := [hH 256 (.app 240 a58), bx 259 29 [vI 3, sX (.bin 6 .i64 (.v 7) (.c (-1)))]]
def bef : LR := (.x 0 ([.top, vI 2, .top, .top, .top, .ptr (K.of 256) 0, .ptr (K.of 257) 0, vI 7, .ptr (K.of 258) 0, .top, .ptr (K.of 259) 0, .top, .top, .top, .top, .top, .top, .top, .top, .top, .top, .top, .top, .top, .top, .top, .top, .top, .top, .top, .top, .top, .top, .top, .top, .top, .top, .top, .top, .top, .top, .top, .top, .top, .top, .top, .top, .top, .top, .top, .top, .top, .top, .top, .top, .top, .top, .top, .top, .top, .top, .top, .top, .top, .top, .top, .top, .top, .top, .top, .top, .top, .top, .top, .top, .top, .top, .top, .top, .top, .top, .top, .top, .top, .top, .top, .top, .top, .top, .top, .top, .top, .top, .top, .top, .top, .top, .top, .top, .top, .top, .top, .top, .top, .top, .top, .top, .top, .top, .top, .top, .top, .top, .top, .top, .top, .top, .top, .top, .top, .top, .top, .top, .top, .top, .top, .top, .top, .top, .top, .top, .top, .top, .top, .top, .top, .top, .top, .top, .top, .top]))
def lcn (m : SE) : LT := .mk 3 17 beg 260 bed (ao6 ++ []) (some (m78, m)) bef 300 bee
def beb : LT := znl (lcn (.c 0))
def ber : List AV := [.top, .top, .top, .top, .top, .ptr (K.of 256) 0, .ptr (K.of 257) 0, .top, .top, .top, .top, .top, .top, .top, .top, .int .i64 4, .top, .int .i64 12, vI 9, .ptr (K.of 258) 0, vI 8, .top, .top, .top, .top, .top, .top, .top, .top, .top, .top, .top, .top, .top, .top, .top, .top, .top, .top, .top, .top, .top, .top, .top, .top, .top, .top, .top, .top, .top, .top, .top, .top, .top, .top, .top, .top, .top, .top, .top, .top, .top, .top, .top, .top, .top, .top, .top, .top, .top, .top, .top, .top, .top, .top, .top, .top, .top, .top, .top, .top, .top, .top, .top, .top, .top, .top, .top, .top, .top, .top, .top, .top, .top, .top, .top, .top, .top, .top, .top, .top, .top, .top, .top, .top, .top, .top, .top, .top, .top, .top, .top, .top, .top, .top, .top, .top, .top, .top, .top, .top, .top, .top, .top, .top, .top, .top, .top, .top, .top, .top, .top, .top, .top, .top, .top, .top, .top, .top, .top, .top]
def ben : List HO := [hH 256 (.s 5), bx 258 29 [vI 3, vI 4]]
def beo : List HO := [hH 256 (.app 241 ay9), bx 258 29 [vI 3, sX ao8]]
def bep : LR := (.x 2 ([.top, .top, .top, .top, .top, .ptr (K.of 256) 0, .ptr (K.of 257) 0, .top, .top, .top, .top, .top, .top, .top, .top, .int .i64 4, .top, .int .i64 12, vI 9, .ptr (K.of 258) 0, .top, .top, .top, .top, .top, .top, .top, .top, .top, .top, .top, .top, .top, .top, .top, .top, .top, .top, .top, .top, .top, .top, .top, .top, .top, .top, .top, .top, .top, .top, .top, .top, .top, .top, .top, .top, .top, .top, .top, .top, .top, .top, .top, .top, .top, .top, .top, .top, .top, .top, .top, .top, .top, .top, .top, .top, .top, .top, .top, .top, .top, .top, .top, .top, .top, .top, .top, .top, .top, .top, .top, .top, .top, .top, .top, .top, .top, .top, .top, .top, .top, .top, .top, .top, .top, .top, .top, .top, .top, .top, .top, .top, .top, .top, .top, .top, .top, .top, .top, .top, .top, .top, .top, .top, .top, .top, .top, .top, .top, .top, .top, .top, .top, .top, .top, .top, .top, .top, .top, .top, .top]))
def lv1 (m : SE) : LT := .mk 3 43 ber 259 ben (ao9 ++ []) (some (m98, m)) bep 300 beo
def bel : LT := znl (lv1 (.c 0))
def a7y : List AV := [.top, .top, .top, .top, .top, .ptr (K.of 256) 0, .ptr (K.of 257) 0, .top, .top, .top, .top, .top, .top, .top, .top, .int .i64 4, .top, .int .i64 12, vI 9, .ptr (K.of 258) 0, .int .i64 0, .top, .top, .top, .top, .top, .top, .top, .top, .top, .top, .top, .top, .top, .top, .top, .top, .top, .top, .top, .top, .top, .top, .top, .top, .top, .top, .top, .top, .top, .top, .top, .top, .top, .top, .top, .top, .top, .top, .top, .top, .top, .top, .top, .top, .top, .top, .top, .top, .top, .top, .top, .top, .top, .top, .top, .top, .top, .top, .top, .top, .top, .top, .top, .top, .top, .top, .top, .top, .top, .top, .top, .top, .top, .top, .top, .top, .top, .top, .top, .top, .top, .top, .top, .top, .top, .top, .top, .top, .top, .top, .top, .top, .top, .top, .top, .top, .top, .top, .top, .top, .top, .top, .top, .top, .top, .top, .top, .top, .top, .top, .top, .top, .top, .top, .top, .top, .top, .top, .top, .top]
def a7w : List HO := [hH 256 (.s 5), bx 258 29 [.int .i64 0, .int .i64 7]]
def a9t : List HO := [hH 256 (.s 5), bx 258 29 [.int .i64 0, .int .i64 7]]
def a9u : LR := (.x 2 ([.top, .top, .top, .top, .top, .ptr (K.of 256) 0, .ptr (K.of 257) 0, .top, .top, .top, .top, .top, .top, .top, .top, .int .i64 4, .top, .int .i64 12, vI 9, .ptr (K.of 258) 0, .top, .top, .top, .top, .top, .top, .top, .top, .top, .top, .top, .top, .top, .top, .top, .top, .top, .top, .top, .top, .top, .top, .top, .top, .top, .top, .top, .top, .top, .top, .top, .top, .top, .top, .top, .top, .top, .top, .top, .top, .top, .top, .top, .top, .top, .top, .top, .top, .top, .top, .top, .top, .top, .top, .top, .top, .top, .top, .top, .top, .top, .top, .top, .top, .top, .top, .top, .top, .top, .top, .top, .top, .top, .top, .top, .top, .top, .top, .top, .top, .top, .top, .top, .top, .top, .top, .top, .top, .top, .top, .top, .top, .top, .top, .top, .top, .top, .top, .top, .top, .top, .top, .top, .top, .top, .top, .top, .top, .top, .top, .top, .top, .top, .top, .top, .top, .top, .top, .top, .top, .top]))
def a9s : LT := .mk 3 43 a7y 259 a7w (apa ++ [.mk false (.v 9) (.c 0) true]) none a9u 300 a9t
def a9q : List HO := [hH 256 (.app 241 aza), bx 258 29 [sX (.c 4), sX azb]]
def a9r : LR := (.x 2 ([.top, .top, .top, .top, .top, .ptr (K.of 256) 0, .ptr (K.of 257) 0, .top, .top, .top, .top, .top, .top, .top, .top, .int .i64 4, .top, .int .i64 12, vI 9, .ptr (K.of 258) 0, .top, .top, .top, .top, .top, .top, .top, .top, .top, .top, .top, .top, .top, .top, .top, .top, .top, .top, .top, .top, .top, .top, .top, .top, .top, .top, .top, .top, .top, .top, .top, .top, .top, .top, .top, .top, .top, .top, .top, .top, .top, .top, .top, .top, .top, .top, .top, .top, .top, .top, .top, .top, .top, .top, .top, .top, .top, .top, .top, .top, .top, .top, .top, .top, .top, .top, .top, .top, .top, .top, .top, .top, .top, .top, .top, .top, .top, .top, .top, .top, .top, .top, .top, .top, .top, .top, .top, .top, .top, .top, .top, .top, .top, .top, .top, .top, .top, .top, .top, .top, .top, .top, .top, .top, .top, .top, .top, .top, .top, .top, .top, .top, .top, .top, .top, .top, .top, .top, .top, .top, .top]))
def a9p : LT := .mk 3 43 a7y 259 a7w (apa ++ [.mk false (.v 9) (.c 0) false]) none a9r 300 a9q
end
theorem ev5 : (∀ (σ : Nat → List Int) (k : IntKind) (a b : SE), (SE.bin 5 k a b).eval σ = (a.eval σ).emod (b.eval σ)) ∧ (∀ x : Int, x * 0 = 0) ∧ (∀ x : Int, x - 0 = x) ∧ (-(0 : Int) = 0) := ⟨by intros; rfl, Int.mul_zero, Int.sub_zero, rfl⟩
theorem bgf {x n : Int} (h : 0 < n) : (0 ≤ x.tmod n → x.emod n = x.tmod n) ∧ (x.tmod n < 0 → x.emod n = x.tmod n + n) ∧ -n < x.tmod n ∧ x.tmod n < n := by
 have e : x.emod n = x % n := rfl
 have q := Int.emod_nonneg x (show n ≠ 0 by omega)
 have q2 := Int.emod_lt_of_pos x h
 by_cases hx : 0 ≤ x
 ·have t : x.tmod n = x % n := Int.tmod_eq_emod_of_nonneg hx
  rw [e, t]; exact ⟨fun _ => rfl, by omega, by omega, by omega⟩
 ·obtain ⟨y, rfl⟩ : ∃ y, x = -y := ⟨-x, by omega⟩
  have t : (-y).tmod n = -(y % n) := by rw [Int.neg_tmod, Int.tmod_eq_emod_of_nonneg (show 0 ≤ y by omega)]
  have r := Int.emod_nonneg y (show n ≠ 0 by omega)
  have r2 := Int.emod_lt_of_pos y h
  have d := Int.mul_ediv_add_emod y n
  have d2 := Int.mul_ediv_add_emod (-y) n
  rw [e, t]
  refine ⟨fun hh => ?_, fun hh => ?_, by omega, by omega⟩
  ·have z : y % n = 0 := by omega
   have : n ∣ -y := Int.dvd_neg.2 (Int.dvd_of_emod_eq_zero z)
   rw [Int.emod_eq_zero_of_dvd this, z]; rfl
  ·rw [Int.neg_emod, if_neg]
   ·rw [show (n.natAbs : Int) = n by omega]; omega
   ·intro hd
    have := Int.emod_eq_zero_of_dvd hd
    omega
section
variable {σ : Nat → List Int}
theorem bfr (h : SAll σ avu) : 1 ≤ (σ 2).headD 0 ∧ (σ 2).headD 0 ≤ 100000 := by
 simp only [sall_cons, sE, sF, evs] at h
 exact ⟨h.1, h.2.1⟩
end
theorem ev6 : (∀ (σ : Nat → List Int) (k : IntKind) (a b : SE), (SE.bin 3 k a b).eval σ = k.wrap ((a.eval σ).tdiv (b.eval σ))) ∧ (∀ (σ : Nat → List Int) (k : IntKind) (a b : SE), (SE.bin 5 k a b).eval σ = (a.eval σ).emod (b.eval σ)) ∧ (∀ x : Int, x * 0 = 0) ∧ (∀ x : Int, x - 0 = x) ∧ (-(0 : Int) = 0) := ⟨by intros; rfl, by intros; rfl, Int.mul_zero, Int.sub_zero, rfl⟩
theorem gd5 : (∀ a b c d e : Int, [a, b, c, d, e].getD 1 0 = b) ∧ (∀ a b c d e : Int, [a, b, c, d, e].getD 2 0 = c) ∧ (∀ a b c d e : Int, [a, b, c, d, e].getD 3 0 = d) ∧ (∀ a b c d e : Int, [a, b, c, d, e].getD 4 0 = e) := ⟨fun _ _ _ _ _ => rfl, fun _ _ _ _ _ => rfl, fun _ _ _ _ _ => rfl, fun _ _ _ _ _ => rfl⟩
section
variable {a b c d k i n : Int}
theorem ct : (fq a b c d k).getD 0 0 = 600 := rfl
theorem cu : (rv k i).getD 0 0 = 600 := rfl
theorem bh (h : 1 ≤ k) : obL (fq a b c d k) (k - 1) = [2, a, b, c, d] := by rw [afu (by omega) (by omega), if_neg (by omega)]
theorem cm (h : 1 ≤ k) (h' : k ≤ 50) : hpN (fq a b c d k) = 1 := ba9 (awq h h')
theorem aim (h : 1 ≤ k) (h' : k ≤ 50) : zz a b c d (fq a b c d k) := ⟨by rw [ak h]; exact h, by rw [ak h]; exact h', by rw [ak h]⟩
theorem cr (h : 1 ≤ k) (h' : k ≤ 50) : rgN (fq 0 1 2 0 k) = 1 := rgN1.2 (aim h h')
theorem cq (h : 1 ≤ k) (h' : k ≤ 50) : nsN (fq 2 0 1 0 k) = 1 := nsN1.2 (aim h h')
theorem cj (h : 1 ≤ k) (h' : k ≤ 50) : chN (fq 0 1 1 0 k) = 1 := chN1.2 (aim h h')
open Classical in
theorem bo (h : 1 ≤ k) : rgN (fq 2 0 1 0 k) = 0 := by
 show (if zz 0 1 2 0 (fq 2 0 1 0 k) then (1 : Int) else 0) = 0
 refine if_neg ?_
 rintro ⟨_, _, e⟩
 rw [ak h] at e
 have q := bh (a := 2) (b := 0) (c := 1) (d := 0) h
 rw [e, bh h] at q
 injection q with _ q
 injection q with q _
 cases q
theorem axu (h : 1 ≤ k) (h' : k ≤ 50) (h1 : 0 ≤ i) (h2 : i ≤ 299) : a1a (rv k i) := by
 refine ⟨by rw [au h]; exact h, by rw [au h]; exact h', by rw [au h, ap h h1]; omega, by rw [ap h h1]; omega, by rw [au h, ap h h1, show k + i - k = i by omega]⟩
theorem cg (h : 1 ≤ k) (h' : k ≤ 50) (h1 : 0 ≤ i) (h2 : i ≤ 299) : a8u (rv k i) = 1 := vcsN1.2 (axu h h' h1 h2)
theorem bp (h : 1 ≤ k) (h' : k ≤ 50) : a8u (fq 2 0 1 0 k) = 1 := by rw [← baf]; exact cg h h' (by omega) (by omega)
theorem co (h : 1 ≤ k) (h' : k ≤ 50) (h1 : 0 ≤ i) (h2 : i ≤ 299) : hpN (rv k i) = 1 := ba9 (bbb h h' h1 h2)
theorem cv (l : List Int) : n8 l 0 7 = 0 := by unfold n8; rw [if_pos ⟨rfl, rfl⟩]
theorem ay (h : 1 ≤ k) (h' : k ≤ 50) (h1 : 1 ≤ i) (h2 : i ≤ 299) : n8 (rv k i) 4 (k + i - 1) = i := by
 unfold n8
 rw [if_neg (by rintro ⟨z, _⟩; omega), if_pos ⟨rfl, axu h h' (by omega) h2, by rw [au h]; omega, by rw [ap h (by omega)]; omega⟩, au h]; omega
theorem bn (h : 1 ≤ k) (h' : 1 ≤ i) : n7 (rv k i) [4, 4, k + i - 1] = rv k (i + 1) := by
 have := av5 (k := k) (i := i) h (by omega)
 rw [if_neg (by omega)] at this; exact this
theorem bl (h : 1 ≤ k) : n7 (fq 2 0 1 0 k) [4, 0, 7] = rv k 1 := by
 have := av5 (k := k) (i := 0) h (by omega)
 rw [if_pos rfl] at this; exact this
theorem aq (h : 1 ≤ k) : sb (fq 2 0 1 0 k) = k := by rw [← baf]; exact au h
theorem a6r (h : 1 ≤ k) (h' : k ≤ 50) : iq (n7 (fq a b c d k) [2, 0, 1, 1, 0]) 2 (k - 1) = 1 ∧ obL (n7 (fq a b c d k) [2, 0, 1, 1, 0]) (k - 1) = [2, a, b, c, d] := by
 have hp := awq (a := a) (b := b) (c := c) (d := d) h h'
 have hm := ak (a := a) (b := b) (c := c) (d := d) h
 have e : recs (n7 (fq a b c d k) [2, 0, 1, 1, 0]).tail = recs (fq a b c d k).tail ++ [[2, 0, 1, 1, 0]] := ase hp
 have o : obL (n7 (fq a b c d k) [2, 0, 1, 1, 0]) (k - 1) = [2, a, b, c, d] := by
  rw [← bh (a := a) (b := b) (c := c) (d := d) h]
  unfold obL
  unfold ea at hm
  rw [if_pos (by omega), if_pos (by omega), e, List.getD_eq_getElem?_getD, List.getD_eq_getElem?_getD, List.getElem?_append_left (by omega)]
 refine ⟨?_, o⟩
 unfold iq
 unfold ea at hm
 rw [if_pos]
 exact ⟨by omega, by rw [e, zP]; show k - 1 < (((recs (fq a b c d k).tail).length + 1 : Nat) : Int); omega, by rw [o]; rfl⟩
end
def bgh [Gv] : Prop := (SAll Gv.σ [] → tm 19 5 bgl 256 bgi bgk 256 bgj)
theorem bdi [Gv] (hl : ∀ t ∈ [tml mV6], jd t) (hI : SAll Gv.σ avs) : bgh := by
 have q := zf7 (hI)
 obtain ⟨l1, l2, l3, l4, l5, _⟩ := q
 obtain ⟨t1, t2, t3, t4, t5, t6, t7, t8⟩ := bjh (L := ((Gv.σ 3).length : Int)) (n := (Gv.σ 6).headD 0) (by omega) l1
 rcases bjy hI (.c 0) (.v 6) with ⟨hI, k1⟩ | ⟨hI, k1⟩
 ·rcases bj4 hI (.bin 4 .i64 (.v 6) (.c 2)) (.c 1) with ⟨hI, k2⟩ | ⟨hI, k2⟩
  ·have hI := aef hI apc azc
   have hI := aef hI apc ac1
   have hI := aef hI tl (.c 0)
   have hI := aef hI (.c 300) tl
   have hI := aef hI (.c 600) agi
   have hI := aef hI (.c 1200) ac1
   have hI := aef hI (.c 5000) (.bin 6 .i64 azc agi)
   have hI := bhj hI tl (.v 6)
   have u := fun h => ajj (s := Gv.σ 3) (n := (Gv.σ 6).headD 0) h
   have u0 : (Gv.σ 6).headD 0 = 0 → x8 (Gv.σ 3) ((Gv.σ 6).headD 0) = [] := fun h => by rw [h]; rfl
   exact fun hC => uv (n := 2000) (T := []) (E := (.g (.cat (.cat (.s 4) (.s 3)) azd) ape .nil)) c9 (aft hI _ hl) hI (by first | (refine ⟨?_, trivial⟩; simp (disch := omega) only [evs, wr, zP, zO, zS, zJ, zD, evq, evE, evL, ah, b9, ca, cb, Nat.reduceAdd, Int.reduceAdd, Int.reduceNeg, Int.reduceMul, Int.reduceToNat, ev6]; rw [u (by omega)]; first | (rw [if_pos (by omega), List.append_assoc]) | (rw [if_neg (by omega), zD])) | (simp (disch := omega) only [EqL.all, and_true, evs, wr, zP, zO, zS, zJ, zD, evq, evE, evL, ah, b9, ca, cb, Nat.reduceAdd, Int.reduceAdd, Int.reduceNeg, Int.reduceMul, Int.reduceToNat, ev6, List.append_assoc, List.append_nil, u0])) rfl rfl (by kernel_rfl)
  ·have hI := aef hI apc ac1
   have hI := aef hI tl (.c 0)
   have hI := aef hI (.c 300) tl
   have hI := aef hI (.c 600) agi
   have hI := aef hI (.c 1200) ac1
   have hI := aef hI (.c 5000) (.bin 6 .i64 (.len (.s 4)) agi)
   have hI := bhj hI tl (.v 6)
   have u := fun h => ajj (s := Gv.σ 3) (n := (Gv.σ 6).headD 0) h
   have u0 : (Gv.σ 6).headD 0 = 0 → x8 (Gv.σ 3) ((Gv.σ 6).headD 0) = [] := fun h => by rw [h]; rfl
   exact fun hC => uv (n := 2000) (T := []) (E := (.g (.cat (.s 4) azd) ape .nil)) c9 (aft hI _ hl) hI (by first | (refine ⟨?_, trivial⟩; simp (disch := omega) only [evs, wr, zP, zO, zS, zJ, zD, evq, evE, evL, ah, b9, ca, cb, Nat.reduceAdd, Int.reduceAdd, Int.reduceNeg, Int.reduceMul, Int.reduceToNat, ev6]; rw [u (by omega)]; first | (rw [if_pos (by omega), List.append_assoc]) | (rw [if_neg (by omega), zD])) | (simp (disch := omega) only [EqL.all, and_true, evs, wr, zP, zO, zS, zJ, zD, evq, evE, evL, ah, b9, ca, cb, Nat.reduceAdd, Int.reduceAdd, Int.reduceNeg, Int.reduceMul, Int.reduceToNat, ev6, List.append_assoc, List.append_nil, u0])) rfl rfl (by kernel_rfl)
 ·have u := fun h => ajj (s := Gv.σ 3) (n := (Gv.σ 6).headD 0) h
  have u0 : (Gv.σ 6).headD 0 = 0 → x8 (Gv.σ 3) ((Gv.σ 6).headD 0) = [] := fun h => by rw [h]; rfl
  exact fun hC => uv (n := 2000) (T := []) (E := (.g (.s 4) ape .nil)) c9 (aft hI _ hl) hI (by first | (refine ⟨?_, trivial⟩; simp (disch := omega) only [evs, wr, zP, zO, zS, zJ, zD, evq, evE, evL, ah, b9, ca, cb, Nat.reduceAdd, Int.reduceAdd, Int.reduceNeg, Int.reduceMul, Int.reduceToNat, ev6]; rw [u (by omega)]; first | (rw [if_pos (by omega), List.append_assoc]) | (rw [if_neg (by omega), zD])) | (simp (disch := omega) only [EqL.all, and_true, evs, wr, zP, zO, zS, zJ, zD, evq, evE, evL, ah, b9, ca, cb, Nat.reduceAdd, Int.reduceAdd, Int.reduceNeg, Int.reduceMul, Int.reduceToNat, ev6, List.append_assoc, List.append_nil, u0])) rfl rfl (by kernel_rfl)
theorem axo : ∀ (B : Nat) (σ : Nat → List Int), (SAll σ avs → (mV6).eval σ < (B : Int) → @bgh ⟨σ⟩)
 | 0, σ => fun hI hb => by exfalso; have q := hI; simp (disch := omega) only [sall_cons, sT, sF, sE, sN, evs, evE, aeq, rgN1, nsN1, chN1, vcsN1] at q; obtain ⟨l1, l2, l3, l4, l5, _⟩ := q; simp only [mV6, evs, wr] at hb; omega
 | B + 1, σ => by
   have ih := axo B
   ·intro hI hb
    have hl : ∀ t ∈ [tml mV6], @jd ⟨σ⟩ t := by
     intro t ht
     simp only [List.mem_cons, zH, or_false] at ht
     rcases ht with rfl
     ·exact fun σ' _ hA hb' => ((ih σ') (fe hA).1 (by have z : 0 ≤ (mV6).eval σ' ∧ (mV6).eval σ' < (mV6).eval σ := hb'; omega)) (fe hA).2
    exact @bdi ⟨σ⟩ hl hI
theorem bb4 [Gv] : jd bgg := fun σ _ hA _ => ((axo (((mV6).eval σ).toNat + 1) σ) (fe hA).1 (by omega)) (fe hA).2
theorem bio [Gv] : ∀ t ∈ [bgg], jd t := wc bb4
def bji [Gv] : Prop := (SAll Gv.σ [] → di 19 bgq 256 bgn bgp 256 bgo)
theorem bdj [Gv] (hI : SAll Gv.σ a57) : bji := by
 have q := zf7 (hI)
 obtain ⟨l1, l2, l3, _⟩ := q
 have hI := bck hI (.c 600) api
 have hI := bck hI (.c 1200) (.len (.s 3))
 have hI := bck hI (.c 5000) api
 have u := l1
 exact zm [] (.g (.cat (.lit 0 0) apb) apb .nil) c9 (zp hI bio) hI ze4
theorem bb5 [Gv] : cy bgm := fun σ _ hA _ => (@bdj ⟨σ⟩  (fe hA).1) (fe hA).2
def biu [Gv] : Prop := (SAll Gv.σ [] → di 9 bew 256 bet bev 257 beu)
theorem bc8 [Gv] (hI : SAll Gv.σ []) : biu := by
 exact zm0 [] c9 d7 hI
theorem bbn [Gv] : cy bes := fun σ _ hA _ => (@bc8 ⟨σ⟩  (fe hA).1) (fe hA).2
def bi3 [Gv] : Prop := (SAll Gv.σ [] → di 30 bfc 256 be9 bfb 260 bfa)
theorem bdc [Gv] (hI : SAll Gv.σ []) : bi3 := by
 exact fun hC => ej (n := 2000) (T := [(256, 258), (257, 256), (382, 257)]) (E := (.g (.cat (.one (.c 61)) (.cat (.one (.c 27)) (.cat (.lit 27 40921301388373393901266083601415623805023030494395681591402262382) (.cat (.one (.c 60)) (.cat (.one (.c 16)) (.cat (.lit 16 130873919237818497454574540560026987641) (.cat (.one (.c 59)) (.cat (.one (.c 10)) (.cat (.lit 10 554645564019283999223666) (.cat (.one (.c 58)) (.cat (.one (.c 14)) (.cat (.lit 14 2138404743268917599816109472970864) (.cat (.one (.c 57)) (.cat (.one (.c 13)) (.cat (.lit 13 9142614481120370773387966702948) (.cat (.one (.c 56)) (.cat (.one (.c 13)) (.cat (.lit 13 8036208872164450487963119674738) (.cat (.one (.c 55)) (.cat (.one (.c 19)) (.cat (.lit 19 2194306559561233339480094508905273046698714482) (.cat (.one (.c 54)) (.cat (.one (.c 14)) (.cat (.lit 14 2360798837088724829763814128774265) (.cat (.one (.c 53)) (.cat (.one (.c 11)) (.cat (.lit 11 132251892078482770005159020) (.cat (.one (.c 52)) (.cat (.one (.c 22)) (.cat (.lit 22 37964533983826296352995798791071340672472487022915175) (.cat (.one (.c 51)) (.cat (.one (.c 13)) (.cat (.lit 13 7876222302167207231190018388852) (.cat (.one (.c 50)) (.cat (.one (.c 11)) (.cat (.lit 11 122622816042548377873378405) (.cat (.one (.c 49)) (.cat (.one (.c 19)) (.cat (.lit 19 2351200880115526969479425374119979311791628664) (.cat (.one (.c 48)) (.cat (.one (.c 16)) (.cat (.lit 16 140142493254871783820688370579714699118) (.cat (.one (.c 47)) (.cat (.one (.c 8)) (.cat (.lit 8 7957628971446985576) (.cat (.one (.c 46)) (.cat (.one (.c 16)) (.cat (.lit 16 153388003480587613335266858083767381620) (.cat (.one (.c 45)) (.cat (.one (.c 14)) (.cat (.lit 14 2260727785469235662364888815267698) (.cat (.one (.c 44)) (.cat (.one (.c 11)) (.cat (.lit 11 117806099577798128716377970) (.cat (.one (.c 43)) (.cat (.one (.c 17)) (.cat (.lit 17 33159458725503807014831810376311545685861) (.cat (.one (.c 42)) (.cat (.one (.c 25)) (.cat (.lit 25 749781051372049293057386538801311032636779409818639984915571) (.cat (.one (.c 41)) (.cat (.one (.c 19)) (.cat (.lit 19 2663757397314901095382322954879158356550184564) (.cat (.one (.c 40)) (.cat (.one (.c 13)) (.cat (.lit 13 9383403423058555373549009858414) (.cat (.one (.c 39)) (.cat (.one (.c 13)) (.cat (.lit 13 9383403423059702669977579580517) (.cat (.one (.c 38)) (.cat (.one (.c 4)) (.cat (.lit 4 1903520116) (.cat (.one (.c 37)) (.cat (.one (.c 5)) (.cat (.lit 5 435711799154) (.cat (.one (.c 36)) (.cat (.one (.c 6)) (.cat (.lit 6 126896544047468) (.cat (.one (.c 35)) (.cat (.one (.c 5)) (.cat (.lit 5 499968536439) (.cat (.one (.c 34)) (.cat (.one (.c 4)) (.cat (.lit 4 1702257004) (.cat (.one (.c 33)) (.cat (.one (.c 4)) (.cat (.lit 4 1835102307) (.cat (.one (.c 32)) (.cat (.one (.c 6)) (.cat (.lit 6 120265264816498) (.cat (.one (.c 31)) (.cat (.one (.c 5)) (.cat (.lit 5 418498243705) (.cat (.one (.c 30)) (.cat (.one (.c 7)) (.cat (.lit 7 28839564598668396) (.cat (.one (.c 29)) (.cat (.one (.c 11)) (.cat (.lit 11 127458818504976499584104037) (.cat (.one (.c 28)) (.cat (.one (.c 8)) (.cat (.lit 8 7234300996411945583) (.cat (.one (.c 27)) (.cat (.one (.c 5)) (.cat (.lit 5 431197943150) (.cat (.one (.c 26)) (.cat (.one (.c 8)) (.cat (.lit 8 7234300953697874804) (.cat (.one (.c 25)) (.cat (.one (.c 6)) (.cat (.lit 6 110386673508722) (.cat (.one (.c 24)) (.cat (.one (.c 14)) (.cat (.lit 14 2016787041542256923290239124992869) (.cat (.one (.c 23)) (.cat (.one (.c 14)) (.cat (.lit 14 2381793977678502578102143874851700) (.cat (.one (.c 22)) (.cat (.one (.c 5)) (.cat (.lit 5 426836779880) (.cat (.one (.c 21)) (.cat (.one (.c 4)) (.cat (.lit 4 1818588202) (.cat (.one (.c 20)) (.cat (.one (.c 3)) (.cat (.lit 3 7103860) (.cat (.one (.c 19)) (.cat (.one (.c 4)) (.cat (.lit 4 1936028785) (.cat (.one (.c 18)) (.cat (.one (.c 5)) (.cat (.lit 5 482956240689) (.cat (.one (.c 17)) (.cat (.one (.c 5)) (.cat (.lit 5 482956240750) (.cat (.one (.c 16)) (.cat (.one (.c 5)) (.cat (.lit 5 512852847717) (.cat (.one (.c 15)) (.cat (.one (.c 2)) (.cat (.lit 2 28530) (.cat (.one (.c 14)) (.cat (.one (.c 3)) (.cat (.lit 3 6385252) (.cat (.one (.c 13)) (.cat (.one (.c 4)) (.cat (.lit 4 1668247140) (.cat (.one (.c 12)) (.cat (.one (.c 2)) (.cat (.lit 2 26982) (.cat (.one (.c 11)) (.cat (.one (.c 9)) (.cat (.lit 9 709006320932754448748) (.cat (.one (.c 10)) (.cat (.one (.c 5)) (.cat (.lit 5 165128008564) (.cat (.one (.c 9)) (.cat (.one (.c 5)) (.cat (.lit 5 469785342575) (.cat (.one (.c 8)) (.cat (.one (.c 7)) (.cat (.lit 7 27985248628601445) (.cat (.one (.c 7)) (.cat (.one (.c 6)) (.cat (.lit 6 119165702792289) (.cat (.one (.c 6)) (.cat (.one (.c 2)) (.cat (.lit 2 11328) (.cat (.one (.c 5)) (.cat (.one (.c 1)) (.cat (.lit 1 44) (.cat (.one (.c 4)) (.cat (.one (.c 1)) (.cat (.lit 1 96) (.cat (.one (.c 3)) (.cat (.one (.c 8)) (.cat (.lit 8 7382928537577680750) (.cat (.one (.c 2)) (.cat (.one (.c 5)) (.cat (.lit 5 487301543013) (.cat (.one (.c 1)) (.cat (.one (.c 1)) (.cat (.lit 1 116) (.cat (.one (.c 0)) (.cat (.one (.c 3)) (.lit 3 7235948)))))))))))))))))))))))))))))))))))))))))))))))))))))))))))))))))))))))))))))))))))))))))))))))))))))))))))))))))))))))))))))))))))))))))))))))))))))))))))))))))))))))))))))))))))))))))) (.app 109 .nil) .nil)) c9 d7 hI (by exact ⟨by kernel_rfl, trivial⟩) rfl rfl (by kernel_rfl)
theorem bbr [Gv] : cy be8 := fun σ _ hA _ => (@bdc ⟨σ⟩  (fe hA).1) (fe hA).2
def bja [Gv] : Prop := (SAll Gv.σ [] → di 11 bfq 256 bfn bfp 256 bfo)
theorem bde [Gv] (hI : SAll Gv.σ avu) : bja := by
 obtain ⟨l1, l2⟩ := bfr hI
 obtain ⟨q1, q2, q3, q4⟩ := bgf (x := (Gv.σ 1).headD 0) (n := (Gv.σ 2).headD 0) (by omega)
 have hI := bjv hI (.c 0) (.v 2)
 have hI := bjr hI (.v 2) (.c 0)
 rcases bjz hI apd (.c 0) with ⟨hI, k3⟩ | ⟨hI, k3⟩
 ·have u := l1
  exact zm [] (.i (.bin 0 .i64 apd (.v 2)) avt .nil) c9 d7 hI ze5
 ·have u := l1
  exact zm [] (.i apd avt .nil) c9 d7 hI ze5
theorem bby [Gv] : cy bfm := fun σ _ hA _ => (@bde ⟨σ⟩  (fe hA).1) (fe hA).2
theorem hlc [Gv] : ∀ t ∈ [a6y, bb3], cy t := by
 intro t ht
 simp only [List.mem_cons, zH, or_false] at ht
 rcases ht with rfl | rfl
 ·exact amr
 ·exact axi
def bec [Gv] : Prop := (SAll Gv.σ [] → tm 3 17 beg 260 bed bef 300 bee)
theorem bc2 [Gv] (hl : ∀ t ∈ [lcn m78], jd t) (hI : SAll Gv.σ ao6) : bec := by
 have q := zf7 (hI)
 obtain ⟨hP, ⟨y1, y2, z5⟩, e3, e4, e8, l1, l2, _⟩ := q
 obtain ⟨m, hm⟩ : ∃ m, m = ea (Gv.σ 5) := ⟨_, rfl⟩
 rw [← hm] at z5 y1 y2 e4 e8
 have e4 : (Gv.σ 4).headD 0 = m - 1 := by omega
 obtain ⟨c1, c2⟩ := a6r (a := 0) (b := 1) (c := 1) (d := 0) y1 y2
 have c3 := a0h y1
 have e7 : (Gv.σ 7).headD 0 ≤ (Gv.σ 8).headD 0 → (Gv.σ 7).headD 0 = m := by omega
 rcases bj0 hI (.v 8) (.v 7) with ⟨hI, k1⟩ | ⟨hI, k1⟩
 ·have hI := bjs hI l7 (.rd (.s 5) (.c 0))
  have hI := a6j hI (.app 203 (.g agj (.i (.v 3) (.i (.v 4) .nil)))) (.c 1)
  have hI := a6j hI (.app 221 apf) (.c 1)
  have hI := a6j hI (.app 237 apf) (.c 1)
  have hI := a6j hI apg aze
  have hI := a6j hI zo aze
  have hI := bhh hI (.v 7) zo
  have hI := bjw hI azg (.bin 6 .i64 (.v 7) ao4)
  have hI := bhh hI azg (.c 0)
  have u := y1
  exact zt [] (.i (.c 2) (.v 3) .nil) (zh hI hlc) (zp hI hl) hI ze6
 ·have u := y1
  exact zt [] (.g (.s 5) (.app 240 a58) (.i (.v 4) (.bin 6 .i64 (.v 7) (.c (-1))) .nil)) (zh hI hlc) (zp hI hl) hI ze6
theorem awx : ∀ (B : Nat) (σ : Nat → List Int), (SAll σ ao6 → (m78).eval σ < (B : Int) → @bec ⟨σ⟩)
 | 0, σ => fun hI hb => by exfalso; have q := hI; simp (disch := omega) only [sall_cons, sT, sF, sE, sN, evs, evE, aeq, rgN1, nsN1, chN1, vcsN1] at q; obtain ⟨hP, ⟨y1, y2, z5⟩, e3, e4, e8, l1, l2, _⟩ := q; simp only [m78, evs, wr] at hb; omega
 | B + 1, σ => by
   have ih := awx B
   ·intro hI hb
    have hl : ∀ t ∈ [lcn m78], @jd ⟨σ⟩ t := by
     intro t ht
     simp only [List.mem_cons, zH, or_false] at ht
     rcases ht with rfl
     ·exact fun σ' _ hA hb' => ((ih σ') (fe hA).1 (by have z : 0 ≤ (m78).eval σ' ∧ (m78).eval σ' < (m78).eval σ := hb'; omega)) (fe hA).2
    exact @bc2 ⟨σ⟩ hl hI
theorem bbf [Gv] : jd beb := fun σ _ hA _ => ((awx (((m78).eval σ).toNat + 1) σ) (fe hA).1 (by omega)) (fe hA).2
theorem hv1 [Gv] : ∀ t ∈ [bg5], cy t := wc a8s
def bem [Gv] : Prop := (SAll Gv.σ [] → tm 3 43 ber 259 ben bep 300 beo)
theorem bc5 [Gv] (hl : ∀ t ∈ [lv1 m98], jd t) (hI : SAll Gv.σ ao9) : bem := by
 have q := zf7 (hI)
 obtain ⟨hP, hV, e3, e4, e8, l1, l2, l3, _⟩ := q
 obtain ⟨y1, y2, y3, y4, z5⟩ := hV
 obtain ⟨c, hc⟩ : ∃ c, c = sb (Gv.σ 5) := ⟨_, rfl⟩
 obtain ⟨i, hi⟩ : ∃ i, i = ea (Gv.σ 5) - sb (Gv.σ 5) := ⟨_, rfl⟩
 rw [← hi, ← hc] at z5
 rw [← hc] at e8 y1 y2 y3
 have hm : ea (Gv.σ 5) = c + i := by omega
 rw [hm] at e4 e8 y3 y4
 have e4 : (Gv.σ 4).headD 0 = c + i - 1 := by omega
 have e8 : (Gv.σ 8).headD 0 = i := by omega
 have e9 : (Gv.σ 9).headD 0 ≤ (Gv.σ 8).headD 0 → (Gv.σ 9).headD 0 = i := by omega
 rcases bj1 hI (.v 8) (.v 9) with ⟨hI, k1⟩ | ⟨hI, k1⟩
 ·have hI := bhk hI (.c 0) l7
  have hI := bjt hI l7 (.rd (.s 5) (.c 0))
  have hI := a9d hI (.c 1048576) azh
  have hI := a9b hI (.app 221 agk) (.c 1)
  have hI := a9b hI (.app 239 agk) (.c 1)
  have hI := a9b hI apg azi
  have hI := a9b hI (.bin 6 .i64 zo aph) azi
  have hI := a9d hI zo (.c 1)
  have hI := a9d hI (.v 9) zo
  have hI := bhk hI azj (.bin 6 .i64 (.v 9) ao4)
  have hI := a9d hI azj (.c 0)
  have u := y1
  exact zt [] (.g (.app 241 (.i aph agh)) azk (.i (.c 4) (.v 3) (.i (.bin 6 .i64 (.bin 6 .i64 aph (.v 9)) (.c (-1))) ao8 .nil))) (zh hI hv1) (zp hI hl) hI ze7
 ·have u := y1
  exact zt [] (.g (.s 5) azk (.i (.v 4) ao8 .nil)) (zh hI hv1) (zp hI hl) hI ze7
theorem aw0 : ∀ (B : Nat) (σ : Nat → List Int), (SAll σ ao9 → (m98).eval σ < (B : Int) → @bem ⟨σ⟩)
 | 0, σ => fun hI hb => by exfalso; have q := hI; simp (disch := omega) only [sall_cons, sT, sF, sE, sN, evs, evE, aeq, rgN1, nsN1, chN1, vcsN1] at q; obtain ⟨hP, hV, e3, e4, e8, l1, l2, l3, _⟩ := q; simp only [m98, evs, wr] at hb; omega
 | B + 1, σ => by
   have ih := aw0 B
   ·intro hI hb
    have hl : ∀ t ∈ [lv1 m98], @jd ⟨σ⟩ t := by
     intro t ht
     simp only [List.mem_cons, zH, or_false] at ht
     rcases ht with rfl
     ·exact fun σ' _ hA hb' => ((ih σ') (fe hA).1 (by have z : 0 ≤ (m98).eval σ' ∧ (m98).eval σ' < (m98).eval σ := hb'; omega)) (fe hA).2
    exact @bc5 ⟨σ⟩ hl hI
theorem bbl [Gv] : jd bel := fun σ _ hA _ => ((aw0 (((m98).eval σ).toNat + 1) σ) (fe hA).1 (by omega)) (fe hA).2
theorem bdv [Gv] : ∀ t ∈ [bel], jd t := wc bbl
def bis [Gv] : Prop := (SAll Gv.σ [.mk false (.v 9) (.c 0) true] → tm 3 43 a7y 259 a7w a9u 300 a9t) ∧ (SAll Gv.σ [.mk false (.v 9) (.c 0) false] → tm 3 43 a7y 259 a7w a9r 300 a9q)
theorem a9k [Gv] (hI : SAll Gv.σ apa) : bis := by
 have q := zf7 (hI)
 obtain ⟨hP, ⟨y1, y2, z5⟩, l1, l2, _⟩ := q
 obtain ⟨m, hm⟩ : ∃ m, m = ea (Gv.σ 5) := ⟨_, rfl⟩
 rw [← hm] at z5 y1 y2
 rcases bj2 hI (.c 0) (.v 9) with ⟨hI, k1⟩ | ⟨hI, k1⟩
 ·have hI := bjx hI (.c 0) l7
  have hI := bju hI l7 (.rd (.s 5) (.c 0))
  have hI := bhi hI (.c 1048576) azh
  have hI := a9c hI (.app 221 agl) (.c 1)
  have hI := a9c hI (.app 239 agl) (.c 1)
  have hI := a9c hI apg azl
  have hI := a9c hI (.bin 6 .i64 (.c 1) apj) azl
  have hI := bhi hI (.v 9) (.c 1)
  have u := y1
  exact ⟨zn3,
   zt [] (.g (.app 241 (.i apj agh)) (.app 241 aza) (.i (.bin 6 .i64 (.bin 6 .i64 apj (.v 9)) (.c (-1))) azb .nil)) (zh hI hv1) (zp hI bdv) hI ze8⟩
 ·have u := y1
  exact ⟨zt0 [] (zh hI hv1) (zp hI bdv) hI,
   zn3⟩
theorem a7z [Gv] : jd a9s := fun σ _ hA _ => (@a9k ⟨σ⟩  (fe hA).1).1 (fe hA).2
theorem a7x [Gv] : jd a9p := fun σ _ hA _ => (@a9k ⟨σ⟩  (fe hA).1).2 (fe hA).2
end Go.Ev
