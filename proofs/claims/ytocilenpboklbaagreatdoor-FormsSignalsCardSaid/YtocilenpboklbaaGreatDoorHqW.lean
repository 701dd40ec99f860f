import Derived.Test.YtocilenpboklbaaGreatDoorHqV
import Derived.Test.YtocilenpboklbaaGreatDoorHqU
set_option maxRecDepth 100000
set_option linter.all false
namespace Go.Ev
abbrev o8 : GE := .one (.c 200)
abbrev bu : AL := .i (.c 0) .nil
abbrev b7 : AL := .i (.c 1) bu
abbrev adw : SE := .c (-9223372036854775808)
abbrev bq : SE := .c 9223372036854775807
abbrev aal : List SA := [.mk true (.v 1) adw false, .mk true bq (.v 1) false, .mk true (.v 2) adw false, .mk true bq (.v 2) false]
abbrev au8 : AL := .g o8 .nil
abbrev au9 : SE := .app 221 au8
abbrev ai5 : SE := .rd o8 (.c 0)
abbrev aff : SE := .app 201 au8
abbrev azb : AL := .g o8 b7
abbrev sq : SE := .app 213 azb
abbrev azc : SE := .app 231 au8
abbrev azd : GE := .app 213 azb
abbrev aze : SE := .app 232 (.g azd .nil)
abbrev azf : SE := .bin 6 .i64 aff (.c 2)
abbrev afg : SE := .bin 7 .i64 (.c 2) (.c 0)
abbrev aog : SE := .bin 6 .i64 afg (.c 1)
abbrev afh : SE := .bin 7 .i64 (.c 2) (.c 1)
abbrev aj : SE := .bin 6 .i64 afh (.c 1)
abbrev yu : GE := .app 224 (.i (.c 38) .nil)
abbrev aoh : SE := .len yu
abbrev ip : GE := .app 227 (.g azd bu)
abbrev od : SE := .len ip
abbrev afi : SE := .bin 6 .i64 aoh od
abbrev azg : GE := .cat yu ip
abbrev afj : SE := .eqg azg (.cat azg (.lit 0 0))
abbrev yv : GE := .app 224 (.i (.c 37) .nil)
abbrev aoi : SE := .len yv
abbrev afk : SE := .bin 6 .i64 aoi od
abbrev azh : GE := .cat yv ip
abbrev afl : SE := .eqg azh (.cat azh (.lit 0 0))
abbrev oe : GE := .app 224 (.i (.c 45) .nil)
abbrev acd : SE := .len oe
abbrev ss : SE := .bin 6 .i64 acd od
abbrev azi : GE := .cat oe ip
abbrev sv : SE := .eqg azi (.cat azi (.lit 0 0))
abbrev oh : GE := .app 224 (.i (.c 54) .nil)
abbrev ace : SE := .len oh
abbrev sw : SE := .bin 6 .i64 ace od
abbrev azj : GE := .cat oh ip
abbrev sy : SE := .eqg azj (.cat azj (.lit 0 0))
abbrev azk : List SA := [.mk true (.v 1) adw false, .mk true bq (.v 1) false, .mk true (.v 2) adw false, .mk true bq (.v 2) false, .mk true (.v 12) (.c 0) false, .mk true (.c 20) (.v 13) true, .mk false (.len (.s 10)) (.v 13) true]
abbrev aoj : List SA := [.mk true (.v 1) adw false, .mk true bq (.v 1) false, .mk true (.v 2) adw false, .mk true bq (.v 2) false, .mk true (.v 12) (.c 0) false, .mk true (.v 13) (.c 1) false, .mk true (.c 20) (.v 13) false, .mk false (.len (.s 10)) (.v 13) true, .mk false (.app 230 (.g (.s 10) .nil)) (.c 1) true]
abbrev ix : GE := .app 226 (.g (.s 10) bu)
abbrev jn : SE := .len ix
noncomputable section
def xN : SE := (.bin 0 .i64 (.c 37) (.bin 5 .i64 (.v 1) (.c 25)))
def xM : SE := (.bin 0 .i64 (.c 37) (.bin 5 .i64 (.v 2) (.c 25)))
end
theorem a3e (x : Int) {n : Int} (h : 0 < n) : 0 ≤ x.emod n ∧ x.emod n < n := ⟨Int.emod_nonneg x (by omega), Int.emod_lt_of_pos x h⟩
theorem fxN {σ : Nat → List Int} : 37 ≤ xN.eval σ ∧ xN.eval σ ≤ 61 := by
 have h := a3e ((σ 1).headD 0) (n := 25) (by omega)
 have e : xN.eval σ = IntKind.i64.wrap (37 + ((σ 1).headD 0).emod 25) := rfl
 rw [e, aiw (by omega)]; omega
theorem fxM {σ : Nat → List Int} : 37 ≤ xM.eval σ ∧ xM.eval σ ≤ 61 := by
 have h := a3e ((σ 2).headD 0) (n := 25) (by omega)
 have e : xM.eval σ = IntKind.i64.wrap (37 + ((σ 2).headD 0).emod 25) := rfl
 rw [e, aiw (by omega)]; omega
noncomputable def a1x (l : List Int) : Int := am5 231 [l]
noncomputable def a0a (l : List Int) : Int := am5 232 [l]
theorem evr : (∀ (σ : Nat → List Int) (g : GE), (SE.app 231 (.g g .nil)).eval σ = a1x (g.eval σ)) ∧ (∀ (σ : Nat → List Int) (g : GE), (SE.app 232 (.g g .nil)).eval σ = a0a (g.eval σ)) := ⟨by intros; rfl, by intros; rfl⟩
theorem a1y {l : List Int} (h : ach l) : a1x l = 1 := ite1.2 h
theorem awd {l : List Int} (h : abw l) : a0a (lg l) = 1 := ite1.2 ⟨l, rfl, h⟩
theorem bv (b : Bool) : jnW b [] = [] := by cases b <;> rfl
theorem iw : (∀ l : List Int, jv l 1 0 = 0) ∧ ∀ l : List Int, ug l 1 0 = [] := by
 have e : ∀ l : List Int, li ((recs l.tail).length + 1) l 1 0 = some [] := by
  intro l
  unfold li
  rw [if_neg (by rintro ⟨z, _⟩; omega), if_pos ⟨rfl, rfl⟩]
 exact ⟨fun l => by unfold jv; rw [e l]; rfl, fun l => by unfold ug; rw [e l]; rfl⟩
theorem gk : ∀ σ : Nat → List Int, (GE.lit 0 0).eval σ = [] := fun _ => rfl
theorem p4 : (∀ x : Int, [1, 0, 1, x].getD (0 : Int).toNat 0 = 1) ∧ (∀ x : Int, [1, 0, 1, x].getD (1 : Int).toNat 0 = 0) ∧ (∀ x : Int, [1, 0, 1, x].getD (2 : Int).toNat 0 = 1) ∧ (∀ x : Int, [1, 0, 1, x].getD (2 * 1 : Int).toNat 0 = 1) ∧ (∀ x : Int, [1, 0, 1, x].getD (3 : Int).toNat 0 = x) ∧ (∀ x : Int, [1, 0, 1, x].getD (2 * 1 + 1 : Int).toNat 0 = x) ∧ (∀ x : Int, [1, 0, 1, x].getD (2 + 1 : Int).toNat 0 = x) :=
 ⟨fun _ => rfl, fun _ => rfl, fun _ => rfl, fun _ => rfl, fun _ => rfl, fun _ => rfl, fun _ => rfl⟩
theorem ib (n m : Int) : (atr n m = 1 ∧ (m = n ∨ (m = 37 ∧ n ≠ 38) ∨ (m = 44 ∧ n = 45) ∨ (m = 60 ∧ n = 54))) ∨ (atr n m = 0 ∧ ¬ (m = n ∨ (m = 37 ∧ n ≠ 38) ∨ (m = 44 ∧ n = 45) ∨ (m = 60 ∧ n = 54))) := bl5 n m
theorem bj5 (l : List Int) (h : l.length ≤ 20) : ((jnF true l).length : Int) ≤ 500 := by
 have q : ∀ m : List Int, ((jnF false m).length : Int) ≤ 23 * (m.length : Int) := by
  intro m
  induction m with
  | nil => show ((0 : Nat) : Int) ≤ _; omega
  | cons z m ih =>
    have e : jnF false (z :: m) = [44, 32] ++ (ja z ++ jnF false m) := rfl
    have d := alp z
    rw [e, zP, zP, zO (a := z)]
    show ((2 + ((ja z).length + (jnF false m).length) : Nat) : Int) ≤ _
    omega
 cases l with
 | nil => show ((0 : Nat) : Int) ≤ 500; omega
 | cons z l =>
   have e : jnF true (z :: l) = [58, 32] ++ (ja z ++ jnF false l) := rfl
   have d := alp z
   have q := q l
   have h : l.length + 1 ≤ 20 := h
   rw [e, zP, zP]
   show ((2 + ((ja z).length + (jnF false l).length) : Nat) : Int) ≤ _
   omega
noncomputable def wHs : List TM := [bed, blz, bmw, bmp, bmi, bny, bnt, a6e, a6d, bl4, a36, a38, a39, a4a, bef, bee, bnf, bmb, bl6, bb1, bby]
theorem hlw [Gv] : ∀ t ∈ wHs, bo t := by
 intro t ht
 unfold wHs at ht
 simp only [List.mem_cons, zH, or_false] at ht
 rcases ht with rfl | rfl | rfl | rfl | rfl | rfl | rfl | rfl | rfl | rfl | rfl | rfl | rfl | rfl | rfl | rfl | rfl | rfl | rfl | rfl | rfl
 ·exact a4w
 ·exact bff
 ·exact bft
 ·exact bfp
 ·exact bfm
 ·exact bf9
 ·exact bf8
 ·exact axi
 ·exact axh
 ·exact bfh
 ·exact awf
 ·exact awg
 ·exact awh
 ·exact awi
 ·exact a44
 ·exact a43
 ·exact bf6
 ·exact bfj
 ·exact bfi
 ·exact a9n
 ·exact a9l
theorem bdu [Gv] : ∀ t ∈ [a4d], eu t := na bd1
theorem az {σ : Nat → List Int} : SAll σ [] ↔ True := ⟨fun _ => trivial, fun _ => SAll.nil⟩
noncomputable def anj : GE := (.cat (.one (.c 1)) (.cat (.one (.c 0)) (.cat (.one (.c 1)) (.one xM))))
noncomputable def wwn_H2 : GE := (.app 210 (.i (.c 2) (.g o8 (.g anj b7))))
noncomputable def aiz : SE := (.app 211 (.i (.c 2) (.g o8 (.g anj b7))))
noncomputable def aur : SE := (.app 212 (.i (.c 2) (.g o8 (.g anj b7))))
noncomputable def dg : GE := (.app 213 (.g wwn_H2 (.i aiz (.i aur .nil))))
noncomputable def rm : SE := (.app 213 (.g wwn_H2 (.i aiz (.i aur .nil))))
noncomputable def bg7 : List AV := [vI 1, .nilSlice, vI 2]
noncomputable def bg4 : List HO := []
noncomputable def bg5 : List HO := []
noncomputable def bg6 : TR := .ret (.bool true)
noncomputable section
def axx : List SA := [.mk false au9 (.c 1) true, .mk true ai5 aff false, .mk true sq (.c 0) false, .mk true (.c 1000) sq false, .mk false sq (.c 0) true, .mk false azc (.c 1) true, .mk true (.c 20) sq false, .mk false aze (.c 1) true, .mk true xN (.c 37) false, .mk true (.c 61) xN false, .mk true ai5 azf false, .mk false (.app 221 (.g wwn_H2 .nil)) (.c 1) true, .mk true xM (.c 37) false, .mk true (.c 61) xM false, .mk false aiz (.c 1) false, .mk false aiz (.c 2) true, .mk true rm (.c 0) false, .mk true (.c 1000) rm false, .mk false rm (.c 0) false, .mk true (.c 0) rm true, .mk false (.rd dg afg) (.c 1) true, .mk false (.rd dg aog) (.c 0) true, .mk true (.c 1) rm true, .mk false (.rd dg afh) (.c 1) true, .mk false (.rd dg aj) (.c 0) false, .mk false (.rd dg aj) (.c 1) false]
def a64 : List SA := [.mk true xN (.c 39) true, .mk false xN xM true, .mk false xN (.c 38) true, .mk false (.c 38) xM true, .mk true bq afi false, .mk false afj (.c 1) true, .mk false (.app 229 (.i (.c 38) (.i xM .nil))) (.c 1) true, .mk false (.rd dg aj) (.c 38) true]
def a65 : List SA := [.mk true xN (.c 39) true, .mk false xN xM true, .mk false xN (.c 38) false, .mk false xN (.c 37) true, .mk false (.c 37) xM true, .mk true bq afk false, .mk false afl (.c 1) true, .mk false (.app 229 (.i (.c 37) (.i xM .nil))) (.c 1) true, .mk false (.rd dg aj) (.c 37) true]
def a66 : List SA := [.mk true xN (.c 39) true, .mk false xN xM false, .mk false xN (.c 38) true, .mk false (.c 38) xM false, .mk true bq afi false, .mk false afj (.c 1) true, .mk false (.app 229 (.i (.c 38) (.i xM .nil))) (.c 1) false, .mk false (.rd dg aj) (.c 38) false, .mk true (.c 2) rm false]
def a67 : List SA := [.mk true xN (.c 39) true, .mk false xN xM false, .mk false xN (.c 38) false, .mk false xN (.c 37) true, .mk false (.c 37) xM false, .mk true bq afk false, .mk false afl (.c 1) true, .mk false (.app 229 (.i (.c 37) (.i xM .nil))) (.c 1) false, .mk false (.rd dg aj) (.c 37) false, .mk true (.c 2) rm false]
def a68 : List SA := [.mk true xN (.c 39) false, .mk false xN (.c 45) true, .mk false (.c 45) xM true, .mk true bq ss false, .mk false sv (.c 1) true, .mk false (.app 229 (.i (.c 45) (.i xM .nil))) (.c 1) true, .mk false (.rd dg aj) (.c 45) true]
def a69 : List SA := [.mk true xN (.c 39) false, .mk false xN (.c 45) true, .mk false (.c 45) xM false, .mk false (.c 44) xM true, .mk true bq ss false, .mk false sv (.c 1) true, .mk false (.app 229 (.i (.c 45) (.i xM .nil))) (.c 1) true, .mk false (.rd dg aj) (.c 45) false, .mk false (.rd dg aj) (.c 44) true]
def a7a : List SA := [.mk true xN (.c 39) false, .mk false xN (.c 45) true, .mk false (.c 45) xM false, .mk false (.c 44) xM false, .mk false (.c 37) xM true, .mk true bq ss false, .mk false sv (.c 1) true, .mk false (.app 229 (.i (.c 45) (.i xM .nil))) (.c 1) true, .mk false (.rd dg aj) (.c 45) false, .mk false (.rd dg aj) (.c 44) false, .mk false (.rd dg aj) (.c 37) true]
def a7b : List SA := [.mk true xN (.c 39) false, .mk false xN (.c 45) true, .mk false (.c 45) xM false, .mk false (.c 44) xM false, .mk false (.c 37) xM false, .mk true bq ss false, .mk false sv (.c 1) true, .mk false (.app 229 (.i (.c 45) (.i xM .nil))) (.c 1) false, .mk false (.rd dg aj) (.c 45) false, .mk false (.rd dg aj) (.c 44) false, .mk false (.rd dg aj) (.c 37) false, .mk true (.c 2) rm false]
def a7c : List SA := [.mk true xN (.c 39) false, .mk false xN (.c 45) false, .mk false xN (.c 54) true, .mk false (.c 54) xM true, .mk true bq sw false, .mk false sy (.c 1) true, .mk false (.app 229 (.i (.c 54) (.i xM .nil))) (.c 1) true, .mk false (.rd dg aj) (.c 54) true]
def a7d : List SA := [.mk true xN (.c 39) false, .mk false xN (.c 45) false, .mk false xN (.c 54) true, .mk false (.c 54) xM false, .mk false (.c 60) xM true, .mk true bq sw false, .mk false sy (.c 1) true, .mk false (.app 229 (.i (.c 54) (.i xM .nil))) (.c 1) true, .mk false (.rd dg aj) (.c 54) false, .mk false (.rd dg aj) (.c 60) true]
def axy : List SA := [.mk true xN (.c 39) false, .mk false xN (.c 45) false, .mk false xN (.c 54) true, .mk false (.c 54) xM false, .mk false (.c 60) xM false, .mk false (.c 37) xM true, .mk true bq sw false, .mk false sy (.c 1) true, .mk false (.app 229 (.i (.c 54) (.i xM .nil))) (.c 1) true, .mk false (.rd dg aj) (.c 54) false, .mk false (.rd dg aj) (.c 60) false, .mk false (.rd dg aj) (.c 37) true]
def axz : List SA := [.mk true xN (.c 39) false, .mk false xN (.c 45) false, .mk false xN (.c 54) true, .mk false (.c 54) xM false, .mk false (.c 60) xM false, .mk false (.c 37) xM false, .mk true bq sw false, .mk false sy (.c 1) true, .mk false (.app 229 (.i (.c 54) (.i xM .nil))) (.c 1) false, .mk false (.rd dg aj) (.c 54) false, .mk false (.rd dg aj) (.c 60) false, .mk false (.rd dg aj) (.c 37) false, .mk true (.c 2) rm false]
def ax0 : List SA := [.mk true xN (.c 39) false, .mk false xN (.c 45) false, .mk false xN (.c 54) false, .mk false xN xM true, .mk false xN (.c 38) false, .mk true bq (.bin 6 .i64 (.len (.app 224 (.i xN .nil))) od) false, .mk false (.eqg (.cat (.app 224 (.i xN .nil)) ip) (.cat (.cat (.app 224 (.i xN .nil)) ip) (.lit 0 0))) (.c 1) true, .mk false (.app 229 (.i xN (.i xM .nil))) (.c 1) true, .mk false (.rd dg aj) xN true]
def ax1 : List SA := [.mk true xN (.c 39) false, .mk false xN (.c 45) false, .mk false xN (.c 54) false, .mk false xN xM false, .mk false (.c 37) xM true, .mk false xN (.c 38) false, .mk true bq (.bin 6 .i64 (.len (.app 224 (.i xN .nil))) od) false, .mk false (.eqg (.cat (.app 224 (.i xN .nil)) ip) (.cat (.cat (.app 224 (.i xN .nil)) ip) (.lit 0 0))) (.c 1) true, .mk false (.app 229 (.i xN (.i xM .nil))) (.c 1) true, .mk false (.rd dg aj) xN false, .mk false (.rd dg aj) (.c 37) true, .mk false (.c 37) xN false]
def ax2 : List SA := [.mk true xN (.c 39) false, .mk false xN (.c 45) false, .mk false xN (.c 54) false, .mk false xN xM false, .mk false (.c 37) xM false, .mk false xN (.c 38) false, .mk true bq (.bin 6 .i64 (.len (.app 224 (.i xN .nil))) od) false, .mk false (.eqg (.cat (.app 224 (.i xN .nil)) ip) (.cat (.cat (.app 224 (.i xN .nil)) ip) (.lit 0 0))) (.c 1) true, .mk false (.app 229 (.i xN (.i xM .nil))) (.c 1) false, .mk false (.rd dg aj) xN false, .mk false (.rd dg aj) (.c 37) false, .mk true (.c 2) rm false]
def asd (X : List SA) : List SA := aal ++ (axx ++ X)
def pf (X : List SA) : Bool := pl [] 256 256 .nil bg5 bg6 (enter (aby (pq (asd X) wHs) (a0i (asd X) [a4d]) 2000) 8 (aVs (asd X) bg7) (ai (aHO (asd X) bg4) 256))
end
theorem bg8 : pf a64 = true := by kernel_rfl
theorem bg9 : pf a65 = true := by kernel_rfl
theorem bha : pf a66 = true := by kernel_rfl
theorem bhb : pf a67 = true := by kernel_rfl
theorem bhc : pf a68 = true := by kernel_rfl
theorem bhd : pf a69 = true := by kernel_rfl
theorem bhe : pf a7a = true := by kernel_rfl
theorem bhf : pf a7b = true := by kernel_rfl
theorem bhg : pf a7c = true := by kernel_rfl
theorem bhh : pf a7d = true := by kernel_rfl
theorem bap : pf axy = true := by kernel_rfl
theorem baq : pf axz = true := by kernel_rfl
theorem bar : pf ax0 = true := by kernel_rfl
theorem bas : pf ax1 = true := by kernel_rfl
theorem bat : pf ax2 = true := by kernel_rfl
theorem ly [Gv] {X : List SA} (h : pf X = true) (hI : SAll Gv.σ aal) (hB : SAll Gv.σ axx) (hX : SAll Gv.σ X) : br 8 bg7 256 bg4 bg6 256 bg5 :=
 have hA : SAll Gv.σ (asd X) := ka hI (ka hB hX)
 ak (n := 2000) (T := []) (E := .nil) (cv hA _ hlw) (aey hA _ bdu) hA trivial rfl rfl h
theorem bji [Gv] (hI : SAll Gv.σ aal) : br 8 bg7 256 bg4 bg6 256 bg5 := by
 obtain ⟨n1, n2⟩ := fxN (σ := Gv.σ)
 obtain ⟨m1, m2⟩ := fxM (σ := Gv.σ)
 have d0 : ([200] : List Int).getD (0 : Int).toNat 0 = 200 := rfl
 have k0 : hpN [200] = 1 := ap9 ahb
 have c0 : cq [200] = 0 := rfl
 have s0 : jv [200] 1 0 = 0 := rfl
 have s1 : ug [200] 1 0 = [] := rfl
 have a0 : a1x [200] = 1 := a1y alg
 have i0 : a0a [] = 1 := awd (l := []) (by intro x hx; cases hx)
 obtain ⟨g1, g2, g3, g4⟩ := ado (σ := Gv.σ) (R := anj) (H := wwn_H2) (H0 := .one (.c 200)) (S := dg) (N := .c 2) (K := aiz) (M := aur) (LN := rm) (ws := [1, 0, 1, xM.eval Gv.σ]) rfl rfl rfl rfl rfl ahb (by show (0 : Int) ≤ 20; omega) rfl rfl rfl rfl
 have k2 : hpN (wwn_H2.eval Gv.σ) = 1 := ap9 g1
 have hB : SAll Gv.σ axx := by
  unfold axx
  simp (disch := omega) only [sall_cons, sT, sF, sE, sN, evs, evq, ev6, evr, evl, wr, zP, zO, zS, List.append_nil, List.append_assoc, k0, c0, d0, s0, s1, a0, i0, bv, List.drop_nil, k2, g2, g3, g4, p4, gk, eq_self, decide_true, az] <;> omega
 by_cases k : xN.eval Gv.σ < (39 : Int)
 ·by_cases k : xN.eval Gv.σ = xM.eval Gv.σ
  ·by_cases k : xN.eval Gv.σ = (38 : Int)
   ·have w := ib ((38 : Int)) (xM.eval Gv.σ)
    have wl := bf (38 : Int)
    refine ly bg8 hI hB ?_
    unfold a64
    simp (disch := omega) only [sall_cons, sT, sF, sE, sN, evs, evq, ev6, evr, evl, wr, zP, zO, zS, List.append_nil, List.append_assoc, k0, c0, d0, s0, s1, a0, i0, bv, List.drop_nil, k2, g2, g3, g4, p4, gk, eq_self, decide_true, az] <;> omega
   ·have w := ib ((37 : Int)) (xM.eval Gv.σ)
    have wl := bf (37 : Int)
    refine ly bg9 hI hB ?_
    unfold a65
    simp (disch := omega) only [sall_cons, sT, sF, sE, sN, evs, evq, ev6, evr, evl, wr, zP, zO, zS, List.append_nil, List.append_assoc, k0, c0, d0, s0, s1, a0, i0, bv, List.drop_nil, k2, g2, g3, g4, p4, gk, eq_self, decide_true, az] <;> omega
  ·by_cases k : xN.eval Gv.σ = (38 : Int)
   ·have w := ib ((38 : Int)) (xM.eval Gv.σ)
    have wl := bf (38 : Int)
    refine ly bha hI hB ?_
    unfold a66
    simp (disch := omega) only [sall_cons, sT, sF, sE, sN, evs, evq, ev6, evr, evl, wr, zP, zO, zS, List.append_nil, List.append_assoc, k0, c0, d0, s0, s1, a0, i0, bv, List.drop_nil, k2, g2, g3, g4, p4, gk, eq_self, decide_true, az] <;> omega
   ·have w := ib ((37 : Int)) (xM.eval Gv.σ)
    have wl := bf (37 : Int)
    refine ly bhb hI hB ?_
    unfold a67
    simp (disch := omega) only [sall_cons, sT, sF, sE, sN, evs, evq, ev6, evr, evl, wr, zP, zO, zS, List.append_nil, List.append_assoc, k0, c0, d0, s0, s1, a0, i0, bv, List.drop_nil, k2, g2, g3, g4, p4, gk, eq_self, decide_true, az] <;> omega
 ·by_cases k : xN.eval Gv.σ = (45 : Int)
  ·by_cases k : (45 : Int) = xM.eval Gv.σ
   ·have w := ib ((45 : Int)) (xM.eval Gv.σ)
    have wl := bf (45 : Int)
    refine ly bhc hI hB ?_
    unfold a68
    simp (disch := omega) only [sall_cons, sT, sF, sE, sN, evs, evq, ev6, evr, evl, wr, zP, zO, zS, List.append_nil, List.append_assoc, k0, c0, d0, s0, s1, a0, i0, bv, List.drop_nil, k2, g2, g3, g4, p4, gk, eq_self, decide_true, az] <;> omega
   ·by_cases k : (44 : Int) = xM.eval Gv.σ
    ·have w := ib ((45 : Int)) (xM.eval Gv.σ)
     have wl := bf (45 : Int)
     refine ly bhd hI hB ?_
     unfold a69
     simp (disch := omega) only [sall_cons, sT, sF, sE, sN, evs, evq, ev6, evr, evl, wr, zP, zO, zS, List.append_nil, List.append_assoc, k0, c0, d0, s0, s1, a0, i0, bv, List.drop_nil, k2, g2, g3, g4, p4, gk, eq_self, decide_true, az] <;> omega
    ·by_cases k : (37 : Int) = xM.eval Gv.σ
     ·have w := ib ((45 : Int)) (xM.eval Gv.σ)
      have wl := bf (45 : Int)
      refine ly bhe hI hB ?_
      unfold a7a
      simp (disch := omega) only [sall_cons, sT, sF, sE, sN, evs, evq, ev6, evr, evl, wr, zP, zO, zS, List.append_nil, List.append_assoc, k0, c0, d0, s0, s1, a0, i0, bv, List.drop_nil, k2, g2, g3, g4, p4, gk, eq_self, decide_true, az] <;> omega
     ·have w := ib ((45 : Int)) (xM.eval Gv.σ)
      have wl := bf (45 : Int)
      refine ly bhf hI hB ?_
      unfold a7b
      simp (disch := omega) only [sall_cons, sT, sF, sE, sN, evs, evq, ev6, evr, evl, wr, zP, zO, zS, List.append_nil, List.append_assoc, k0, c0, d0, s0, s1, a0, i0, bv, List.drop_nil, k2, g2, g3, g4, p4, gk, eq_self, decide_true, az] <;> omega
  ·by_cases k : xN.eval Gv.σ = (54 : Int)
   ·by_cases k : (54 : Int) = xM.eval Gv.σ
    ·have w := ib ((54 : Int)) (xM.eval Gv.σ)
     have wl := bf (54 : Int)
     refine ly bhg hI hB ?_
     unfold a7c
     simp (disch := omega) only [sall_cons, sT, sF, sE, sN, evs, evq, ev6, evr, evl, wr, zP, zO, zS, List.append_nil, List.append_assoc, k0, c0, d0, s0, s1, a0, i0, bv, List.drop_nil, k2, g2, g3, g4, p4, gk, eq_self, decide_true, az] <;> omega
    ·by_cases k : (60 : Int) = xM.eval Gv.σ
     ·have w := ib ((54 : Int)) (xM.eval Gv.σ)
      have wl := bf (54 : Int)
      refine ly bhh hI hB ?_
      unfold a7d
      simp (disch := omega) only [sall_cons, sT, sF, sE, sN, evs, evq, ev6, evr, evl, wr, zP, zO, zS, List.append_nil, List.append_assoc, k0, c0, d0, s0, s1, a0, i0, bv, List.drop_nil, k2, g2, g3, g4, p4, gk, eq_self, decide_true, az] <;> omega
     ·by_cases k : (37 : Int) = xM.eval Gv.σ
      ·have w := ib ((54 : Int)) (xM.eval Gv.σ)
       have wl := bf (54 : Int)
       refine ly bap hI hB ?_
       unfold axy
       simp (disch := omega) only [sall_cons, sT, sF, sE, sN, evs, evq, ev6, evr, evl, wr, zP, zO, zS, List.append_nil, List.append_assoc, k0, c0, d0, s0, s1, a0, i0, bv, List.drop_nil, k2, g2, g3, g4, p4, gk, eq_self, decide_true, az] <;> omega
      ·have w := ib ((54 : Int)) (xM.eval Gv.σ)
       have wl := bf (54 : Int)
       refine ly baq hI hB ?_
       unfold axz
       simp (disch := omega) only [sall_cons, sT, sF, sE, sN, evs, evq, ev6, evr, evl, wr, zP, zO, zS, List.append_nil, List.append_assoc, k0, c0, d0, s0, s1, a0, i0, bv, List.drop_nil, k2, g2, g3, g4, p4, gk, eq_self, decide_true, az] <;> omega
   ·by_cases k : xN.eval Gv.σ = xM.eval Gv.σ
    ·have w := ib (xN.eval Gv.σ) (xM.eval Gv.σ)
     have wl := bf (xN.eval Gv.σ)
     refine ly bar hI hB ?_
     unfold ax0
     simp (disch := omega) only [sall_cons, sT, sF, sE, sN, evs, evq, ev6, evr, evl, wr, zP, zO, zS, List.append_nil, List.append_assoc, k0, c0, d0, s0, s1, a0, i0, bv, List.drop_nil, k2, g2, g3, g4, p4, gk, eq_self, decide_true, az] <;> omega
    ·by_cases k : (37 : Int) = xM.eval Gv.σ
     ·have w := ib (xN.eval Gv.σ) (xM.eval Gv.σ)
      have wl := bf (xN.eval Gv.σ)
      refine ly bas hI hB ?_
      unfold ax1
      simp (disch := omega) only [sall_cons, sT, sF, sE, sN, evs, evq, ev6, evr, evl, wr, zP, zO, zS, List.append_nil, List.append_assoc, k0, c0, d0, s0, s1, a0, i0, bv, List.drop_nil, k2, g2, g3, g4, p4, gk, eq_self, decide_true, az] <;> omega
     ·have w := ib (xN.eval Gv.σ) (xM.eval Gv.σ)
      have wl := bf (xN.eval Gv.σ)
      refine ly bat hI hB ?_
      unfold ax2
      simp (disch := omega) only [sall_cons, sT, sF, sE, sN, evs, evq, ev6, evr, evl, wr, zP, zO, zS, List.append_nil, List.append_assoc, k0, c0, d0, s0, s1, a0, i0, bv, List.drop_nil, k2, g2, g3, g4, p4, gk, eq_self, decide_true, az] <;> omega
noncomputable def ani : GE := (.cat (.one (.c 1)) (.cat (.one (.c 0)) (.cat (.one (.c 1)) (.one xM))))
noncomputable def wwe_H2 : GE := (.app 210 (.i (.c 2) (.g o8 (.g ani b7))))
noncomputable def aiy : SE := (.app 211 (.i (.c 2) (.g o8 (.g ani b7))))
noncomputable def auq : SE := (.app 212 (.i (.c 2) (.g o8 (.g ani b7))))
noncomputable def df : GE := (.app 213 (.g wwe_H2 (.i aiy (.i auq .nil))))
noncomputable def rj : SE := (.app 213 (.g wwe_H2 (.i aiy (.i auq .nil))))
noncomputable def bgt : List AV := [vI 1, .esl, vI 2]
noncomputable def bgq : List HO := []
noncomputable def bgr : List HO := []
noncomputable def bgs : TR := .ret (.bool true)
noncomputable section
def axr : List SA := [.mk false au9 (.c 1) true, .mk true ai5 aff false, .mk true sq (.c 0) false, .mk true (.c 1000) sq false, .mk false sq (.c 0) true, .mk false azc (.c 1) true, .mk true (.c 20) sq false, .mk false aze (.c 1) true, .mk true xN (.c 37) false, .mk true (.c 61) xN false, .mk true ai5 azf false, .mk false (.app 221 (.g wwe_H2 .nil)) (.c 1) true, .mk true xM (.c 37) false, .mk true (.c 61) xM false, .mk false aiy (.c 1) false, .mk false aiy (.c 2) true, .mk true rj (.c 0) false, .mk true (.c 1000) rj false, .mk false rj (.c 0) false, .mk true (.c 0) rj true, .mk false (.rd df afg) (.c 1) true, .mk false (.rd df aog) (.c 0) true, .mk true (.c 1) rj true, .mk false (.rd df afh) (.c 1) true, .mk false (.rd df aj) (.c 0) false, .mk false (.rd df aj) (.c 1) false]
def a6u : List SA := [.mk true xN (.c 39) true, .mk false xN xM true, .mk false xN (.c 38) true, .mk false (.c 38) xM true, .mk true bq afi false, .mk false afj (.c 1) true, .mk false (.app 229 (.i (.c 38) (.i xM .nil))) (.c 1) true, .mk false (.rd df aj) (.c 38) true]
def a6v : List SA := [.mk true xN (.c 39) true, .mk false xN xM true, .mk false xN (.c 38) false, .mk false xN (.c 37) true, .mk false (.c 37) xM true, .mk true bq afk false, .mk false afl (.c 1) true, .mk false (.app 229 (.i (.c 37) (.i xM .nil))) (.c 1) true, .mk false (.rd df aj) (.c 37) true]
def a6w : List SA := [.mk true xN (.c 39) true, .mk false xN xM false, .mk false xN (.c 38) true, .mk false (.c 38) xM false, .mk true bq afi false, .mk false afj (.c 1) true, .mk false (.app 229 (.i (.c 38) (.i xM .nil))) (.c 1) false, .mk false (.rd df aj) (.c 38) false, .mk true (.c 2) rj false]
def a6x : List SA := [.mk true xN (.c 39) true, .mk false xN xM false, .mk false xN (.c 38) false, .mk false xN (.c 37) true, .mk false (.c 37) xM false, .mk true bq afk false, .mk false afl (.c 1) true, .mk false (.app 229 (.i (.c 37) (.i xM .nil))) (.c 1) false, .mk false (.rd df aj) (.c 37) false, .mk true (.c 2) rj false]
def a6y : List SA := [.mk true xN (.c 39) false, .mk false xN (.c 45) true, .mk false (.c 45) xM true, .mk true bq ss false, .mk false sv (.c 1) true, .mk false (.app 229 (.i (.c 45) (.i xM .nil))) (.c 1) true, .mk false (.rd df aj) (.c 45) true]
def a6z : List SA := [.mk true xN (.c 39) false, .mk false xN (.c 45) true, .mk false (.c 45) xM false, .mk false (.c 44) xM true, .mk true bq ss false, .mk false sv (.c 1) true, .mk false (.app 229 (.i (.c 45) (.i xM .nil))) (.c 1) true, .mk false (.rd df aj) (.c 45) false, .mk false (.rd df aj) (.c 44) true]
def a60 : List SA := [.mk true xN (.c 39) false, .mk false xN (.c 45) true, .mk false (.c 45) xM false, .mk false (.c 44) xM false, .mk false (.c 37) xM true, .mk true bq ss false, .mk false sv (.c 1) true, .mk false (.app 229 (.i (.c 45) (.i xM .nil))) (.c 1) true, .mk false (.rd df aj) (.c 45) false, .mk false (.rd df aj) (.c 44) false, .mk false (.rd df aj) (.c 37) true]
def a61 : List SA := [.mk true xN (.c 39) false, .mk false xN (.c 45) true, .mk false (.c 45) xM false, .mk false (.c 44) xM false, .mk false (.c 37) xM false, .mk true bq ss false, .mk false sv (.c 1) true, .mk false (.app 229 (.i (.c 45) (.i xM .nil))) (.c 1) false, .mk false (.rd df aj) (.c 45) false, .mk false (.rd df aj) (.c 44) false, .mk false (.rd df aj) (.c 37) false, .mk true (.c 2) rj false]
def a62 : List SA := [.mk true xN (.c 39) false, .mk false xN (.c 45) false, .mk false xN (.c 54) true, .mk false (.c 54) xM true, .mk true bq sw false, .mk false sy (.c 1) true, .mk false (.app 229 (.i (.c 54) (.i xM .nil))) (.c 1) true, .mk false (.rd df aj) (.c 54) true]
def a63 : List SA := [.mk true xN (.c 39) false, .mk false xN (.c 45) false, .mk false xN (.c 54) true, .mk false (.c 54) xM false, .mk false (.c 60) xM true, .mk true bq sw false, .mk false sy (.c 1) true, .mk false (.app 229 (.i (.c 54) (.i xM .nil))) (.c 1) true, .mk false (.rd df aj) (.c 54) false, .mk false (.rd df aj) (.c 60) true]
def axs : List SA := [.mk true xN (.c 39) false, .mk false xN (.c 45) false, .mk false xN (.c 54) true, .mk false (.c 54) xM false, .mk false (.c 60) xM false, .mk false (.c 37) xM true, .mk true bq sw false, .mk false sy (.c 1) true, .mk false (.app 229 (.i (.c 54) (.i xM .nil))) (.c 1) true, .mk false (.rd df aj) (.c 54) false, .mk false (.rd df aj) (.c 60) false, .mk false (.rd df aj) (.c 37) true]
def axt : List SA := [.mk true xN (.c 39) false, .mk false xN (.c 45) false, .mk false xN (.c 54) true, .mk false (.c 54) xM false, .mk false (.c 60) xM false, .mk false (.c 37) xM false, .mk true bq sw false, .mk false sy (.c 1) true, .mk false (.app 229 (.i (.c 54) (.i xM .nil))) (.c 1) false, .mk false (.rd df aj) (.c 54) false, .mk false (.rd df aj) (.c 60) false, .mk false (.rd df aj) (.c 37) false, .mk true (.c 2) rj false]
def axu : List SA := [.mk true xN (.c 39) false, .mk false xN (.c 45) false, .mk false xN (.c 54) false, .mk false xN xM true, .mk false xN (.c 38) false, .mk true bq (.bin 6 .i64 (.len (.app 224 (.i xN .nil))) od) false, .mk false (.eqg (.cat (.app 224 (.i xN .nil)) ip) (.cat (.cat (.app 224 (.i xN .nil)) ip) (.lit 0 0))) (.c 1) true, .mk false (.app 229 (.i xN (.i xM .nil))) (.c 1) true, .mk false (.rd df aj) xN true]
def axv : List SA := [.mk true xN (.c 39) false, .mk false xN (.c 45) false, .mk false xN (.c 54) false, .mk false xN xM false, .mk false (.c 37) xM true, .mk false xN (.c 38) false, .mk true bq (.bin 6 .i64 (.len (.app 224 (.i xN .nil))) od) false, .mk false (.eqg (.cat (.app 224 (.i xN .nil)) ip) (.cat (.cat (.app 224 (.i xN .nil)) ip) (.lit 0 0))) (.c 1) true, .mk false (.app 229 (.i xN (.i xM .nil))) (.c 1) true, .mk false (.rd df aj) xN false, .mk false (.rd df aj) (.c 37) true, .mk false (.c 37) xN false]
def axw : List SA := [.mk true xN (.c 39) false, .mk false xN (.c 45) false, .mk false xN (.c 54) false, .mk false xN xM false, .mk false (.c 37) xM false, .mk false xN (.c 38) false, .mk true bq (.bin 6 .i64 (.len (.app 224 (.i xN .nil))) od) false, .mk false (.eqg (.cat (.app 224 (.i xN .nil)) ip) (.cat (.cat (.app 224 (.i xN .nil)) ip) (.lit 0 0))) (.c 1) true, .mk false (.app 229 (.i xN (.i xM .nil))) (.c 1) false, .mk false (.rd df aj) xN false, .mk false (.rd df aj) (.c 37) false, .mk true (.c 2) rj false]
def asc (X : List SA) : List SA := aal ++ (axr ++ X)
def pe (X : List SA) : Bool := pl [] 256 256 .nil bgr bgs (enter (aby (pq (asc X) wHs) (a0i (asc X) [a4d]) 2000) 8 (aVs (asc X) bgt) (ai (aHO (asc X) bgq) 256))
end
theorem bgu : pe a6u = true := by kernel_rfl
theorem bgv : pe a6v = true := by kernel_rfl
theorem bgw : pe a6w = true := by kernel_rfl
theorem bgx : pe a6x = true := by kernel_rfl
theorem bgy : pe a6y = true := by kernel_rfl
theorem bgz : pe a6z = true := by kernel_rfl
theorem bg0 : pe a60 = true := by kernel_rfl
theorem bg1 : pe a61 = true := by kernel_rfl
theorem bg2 : pe a62 = true := by kernel_rfl
theorem bg3 : pe a63 = true := by kernel_rfl
theorem bak : pe axs = true := by kernel_rfl
theorem bal : pe axt = true := by kernel_rfl
theorem bam : pe axu = true := by kernel_rfl
theorem ban : pe axv = true := by kernel_rfl
theorem bao : pe axw = true := by kernel_rfl
theorem lx [Gv] {X : List SA} (h : pe X = true) (hI : SAll Gv.σ aal) (hB : SAll Gv.σ axr) (hX : SAll Gv.σ X) : br 8 bgt 256 bgq bgs 256 bgr :=
 have hA : SAll Gv.σ (asc X) := ka hI (ka hB hX)
 ak (n := 2000) (T := []) (E := .nil) (cv hA _ hlw) (aey hA _ bdu) hA trivial rfl rfl h
theorem bjh [Gv] (hI : SAll Gv.σ aal) : br 8 bgt 256 bgq bgs 256 bgr := by
 obtain ⟨n1, n2⟩ := fxN (σ := Gv.σ)
 obtain ⟨m1, m2⟩ := fxM (σ := Gv.σ)
 have d0 : ([200] : List Int).getD (0 : Int).toNat 0 = 200 := rfl
 have k0 : hpN [200] = 1 := ap9 ahb
 have c0 : cq [200] = 0 := rfl
 have s0 : jv [200] 1 0 = 0 := rfl
 have s1 : ug [200] 1 0 = [] := rfl
 have a0 : a1x [200] = 1 := a1y alg
 have i0 : a0a [] = 1 := awd (l := []) (by intro x hx; cases hx)
 obtain ⟨g1, g2, g3, g4⟩ := ado (σ := Gv.σ) (R := ani) (H := wwe_H2) (H0 := .one (.c 200)) (S := df) (N := .c 2) (K := aiy) (M := auq) (LN := rj) (ws := [1, 0, 1, xM.eval Gv.σ]) rfl rfl rfl rfl rfl ahb (by show (0 : Int) ≤ 20; omega) rfl rfl rfl rfl
 have k2 : hpN (wwe_H2.eval Gv.σ) = 1 := ap9 g1
 have hB : SAll Gv.σ axr := by
  unfold axr
  simp (disch := omega) only [sall_cons, sT, sF, sE, sN, evs, evq, ev6, evr, evl, wr, zP, zO, zS, List.append_nil, List.append_assoc, k0, c0, d0, s0, s1, a0, i0, bv, List.drop_nil, k2, g2, g3, g4, p4, gk, eq_self, decide_true, az] <;> omega
 by_cases k : xN.eval Gv.σ < (39 : Int)
 ·by_cases k : xN.eval Gv.σ = xM.eval Gv.σ
  ·by_cases k : xN.eval Gv.σ = (38 : Int)
   ·have w := ib ((38 : Int)) (xM.eval Gv.σ)
    have wl := bf (38 : Int)
    refine lx bgu hI hB ?_
    unfold a6u
    simp (disch := omega) only [sall_cons, sT, sF, sE, sN, evs, evq, ev6, evr, evl, wr, zP, zO, zS, List.append_nil, List.append_assoc, k0, c0, d0, s0, s1, a0, i0, bv, List.drop_nil, k2, g2, g3, g4, p4, gk, eq_self, decide_true, az] <;> omega
   ·have w := ib ((37 : Int)) (xM.eval Gv.σ)
    have wl := bf (37 : Int)
    refine lx bgv hI hB ?_
    unfold a6v
    simp (disch := omega) only [sall_cons, sT, sF, sE, sN, evs, evq, ev6, evr, evl, wr, zP, zO, zS, List.append_nil, List.append_assoc, k0, c0, d0, s0, s1, a0, i0, bv, List.drop_nil, k2, g2, g3, g4, p4, gk, eq_self, decide_true, az] <;> omega
  ·by_cases k : xN.eval Gv.σ = (38 : Int)
   ·have w := ib ((38 : Int)) (xM.eval Gv.σ)
    have wl := bf (38 : Int)
    refine lx bgw hI hB ?_
    unfold a6w
    simp (disch := omega) only [sall_cons, sT, sF, sE, sN, evs, evq, ev6, evr, evl, wr, zP, zO, zS, List.append_nil, List.append_assoc, k0, c0, d0, s0, s1, a0, i0, bv, List.drop_nil, k2, g2, g3, g4, p4, gk, eq_self, decide_true, az] <;> omega
   ·have w := ib ((37 : Int)) (xM.eval Gv.σ)
    have wl := bf (37 : Int)
    refine lx bgx hI hB ?_
    unfold a6x
    simp (disch := omega) only [sall_cons, sT, sF, sE, sN, evs, evq, ev6, evr, evl, wr, zP, zO, zS, List.append_nil, List.append_assoc, k0, c0, d0, s0, s1, a0, i0, bv, List.drop_nil, k2, g2, g3, g4, p4, gk, eq_self, decide_true, az] <;> omega
 ·by_cases k : xN.eval Gv.σ = (45 : Int)
  ·by_cases k : (45 : Int) = xM.eval Gv.σ
   ·have w := ib ((45 : Int)) (xM.eval Gv.σ)
    have wl := bf (45 : Int)
    refine lx bgy hI hB ?_
    unfold a6y
    simp (disch := omega) only [sall_cons, sT, sF, sE, sN, evs, evq, ev6, evr, evl, wr, zP, zO, zS, List.append_nil, List.append_assoc, k0, c0, d0, s0, s1, a0, i0, bv, List.drop_nil, k2, g2, g3, g4, p4, gk, eq_self, decide_true, az] <;> omega
   ·by_cases k : (44 : Int) = xM.eval Gv.σ
    ·have w := ib ((45 : Int)) (xM.eval Gv.σ)
     have wl := bf (45 : Int)
     refine lx bgz hI hB ?_
     unfold a6z
     simp (disch := omega) only [sall_cons, sT, sF, sE, sN, evs, evq, ev6, evr, evl, wr, zP, zO, zS, List.append_nil, List.append_assoc, k0, c0, d0, s0, s1, a0, i0, bv, List.drop_nil, k2, g2, g3, g4, p4, gk, eq_self, decide_true, az] <;> omega
    ·by_cases k : (37 : Int) = xM.eval Gv.σ
     ·have w := ib ((45 : Int)) (xM.eval Gv.σ)
      have wl := bf (45 : Int)
      refine lx bg0 hI hB ?_
      unfold a60
      simp (disch := omega) only [sall_cons, sT, sF, sE, sN, evs, evq, ev6, evr, evl, wr, zP, zO, zS, List.append_nil, List.append_assoc, k0, c0, d0, s0, s1, a0, i0, bv, List.drop_nil, k2, g2, g3, g4, p4, gk, eq_self, decide_true, az] <;> omega
     ·have w := ib ((45 : Int)) (xM.eval Gv.σ)
      have wl := bf (45 : Int)
      refine lx bg1 hI hB ?_
      unfold a61
      simp (disch := omega) only [sall_cons, sT, sF, sE, sN, evs, evq, ev6, evr, evl, wr, zP, zO, zS, List.append_nil, List.append_assoc, k0, c0, d0, s0, s1, a0, i0, bv, List.drop_nil, k2, g2, g3, g4, p4, gk, eq_self, decide_true, az] <;> omega
  ·by_cases k : xN.eval Gv.σ = (54 : Int)
   ·by_cases k : (54 : Int) = xM.eval Gv.σ
    ·have w := ib ((54 : Int)) (xM.eval Gv.σ)
     have wl := bf (54 : Int)
     refine lx bg2 hI hB ?_
     unfold a62
     simp (disch := omega) only [sall_cons, sT, sF, sE, sN, evs, evq, ev6, evr, evl, wr, zP, zO, zS, List.append_nil, List.append_assoc, k0, c0, d0, s0, s1, a0, i0, bv, List.drop_nil, k2, g2, g3, g4, p4, gk, eq_self, decide_true, az] <;> omega
    ·by_cases k : (60 : Int) = xM.eval Gv.σ
     ·have w := ib ((54 : Int)) (xM.eval Gv.σ)
      have wl := bf (54 : Int)
      refine lx bg3 hI hB ?_
      unfold a63
      simp (disch := omega) only [sall_cons, sT, sF, sE, sN, evs, evq, ev6, evr, evl, wr, zP, zO, zS, List.append_nil, List.append_assoc, k0, c0, d0, s0, s1, a0, i0, bv, List.drop_nil, k2, g2, g3, g4, p4, gk, eq_self, decide_true, az] <;> omega
     ·by_cases k : (37 : Int) = xM.eval Gv.σ
      ·have w := ib ((54 : Int)) (xM.eval Gv.σ)
       have wl := bf (54 : Int)
       refine lx bak hI hB ?_
       unfold axs
       simp (disch := omega) only [sall_cons, sT, sF, sE, sN, evs, evq, ev6, evr, evl, wr, zP, zO, zS, List.append_nil, List.append_assoc, k0, c0, d0, s0, s1, a0, i0, bv, List.drop_nil, k2, g2, g3, g4, p4, gk, eq_self, decide_true, az] <;> omega
      ·have w := ib ((54 : Int)) (xM.eval Gv.σ)
       have wl := bf (54 : Int)
       refine lx bal hI hB ?_
       unfold axt
       simp (disch := omega) only [sall_cons, sT, sF, sE, sN, evs, evq, ev6, evr, evl, wr, zP, zO, zS, List.append_nil, List.append_assoc, k0, c0, d0, s0, s1, a0, i0, bv, List.drop_nil, k2, g2, g3, g4, p4, gk, eq_self, decide_true, az] <;> omega
   ·by_cases k : xN.eval Gv.σ = xM.eval Gv.σ
    ·have w := ib (xN.eval Gv.σ) (xM.eval Gv.σ)
     have wl := bf (xN.eval Gv.σ)
     refine lx bam hI hB ?_
     unfold axu
     simp (disch := omega) only [sall_cons, sT, sF, sE, sN, evs, evq, ev6, evr, evl, wr, zP, zO, zS, List.append_nil, List.append_assoc, k0, c0, d0, s0, s1, a0, i0, bv, List.drop_nil, k2, g2, g3, g4, p4, gk, eq_self, decide_true, az] <;> omega
    ·by_cases k : (37 : Int) = xM.eval Gv.σ
     ·have w := ib (xN.eval Gv.σ) (xM.eval Gv.σ)
      have wl := bf (xN.eval Gv.σ)
      refine lx ban hI hB ?_
      unfold axv
      simp (disch := omega) only [sall_cons, sT, sF, sE, sN, evs, evq, ev6, evr, evl, wr, zP, zO, zS, List.append_nil, List.append_assoc, k0, c0, d0, s0, s1, a0, i0, bv, List.drop_nil, k2, g2, g3, g4, p4, gk, eq_self, decide_true, az] <;> omega
     ·have w := ib (xN.eval Gv.σ) (xM.eval Gv.σ)
      have wl := bf (xN.eval Gv.σ)
      refine lx bao hI hB ?_
      unfold axw
      simp (disch := omega) only [sall_cons, sT, sF, sE, sN, evs, evq, ev6, evr, evl, wr, zP, zO, zS, List.append_nil, List.append_assoc, k0, c0, d0, s0, s1, a0, i0, bv, List.drop_nil, k2, g2, g3, g4, p4, gk, eq_self, decide_true, az] <;> omega
theorem hlv [Gv] : ∀ t ∈ [bed], bo t := na a4w
noncomputable def bqn : List AV := [vI 1, .gv (.sr (K.of 256) (.v 12) (.v 13) []), vI 2]
noncomputable def bqk : List HO := [.mk 256 (.gob (.rh (.v 12) (.v 13) (.s 10)))]
noncomputable def bql : List HO := []
noncomputable def bqm : TR := .ret (.bool true)
theorem bof {σ : Nat → List Int} (h : SAll σ azk) : 20 < (σ 13).headD 0 ∧ 0 ≤ (σ 12).headD 0 := by
 simp only [sall_cons, sE, sF, sT, evs, wr] at h
 obtain ⟨_, _, _, _, a, b, _⟩ := h
 exact ⟨b, a⟩
def bqj [Gv] : Prop := (SAll Gv.σ [] → br 8 bqn 257 bqk bqm 257 bql)
theorem bjg [Gv] (hI : SAll Gv.σ azk) : bqj := by
 obtain ⟨l1, l2⟩ := bof hI
 have u := l1
 exact zm0 [] (zh hI hlv) al hI
noncomputable def wwr_R1 : GE := (.app 225 (.g (.s 10) bu))
noncomputable def wwr_H1 : GE := (.app 210 (.i (.v 13) (.g o8 (.g wwr_R1 b7))))
noncomputable def aus : SE := (.app 211 (.i (.v 13) (.g o8 (.g wwr_R1 b7))))
noncomputable def aut : SE := (.app 212 (.i (.v 13) (.g o8 (.g wwr_R1 b7))))
noncomputable def jw : GE := (.app 213 (.g wwr_H1 (.i aus (.i aut .nil))))
noncomputable def adq : SE := (.app 213 (.g wwr_H1 (.i aus (.i aut .nil))))
noncomputable def ank : GE := (.cat (.one (.c 1)) (.cat (.one (.c 0)) (.cat (.one (.c 1)) (.one xM))))
noncomputable def wwr_H2 : GE := (.app 210 (.i (.c 2) (.g wwr_H1 (.g ank b7))))
noncomputable def ai0 : SE := (.app 211 (.i (.c 2) (.g wwr_H1 (.g ank b7))))
noncomputable def auu : SE := (.app 212 (.i (.c 2) (.g wwr_H1 (.g ank b7))))
noncomputable def dh : GE := (.app 213 (.g wwr_H2 (.i ai0 (.i auu .nil))))
noncomputable def rn : SE := (.app 213 (.g wwr_H2 (.i ai0 (.i auu .nil))))
noncomputable def bhl : List AV := [vI 1, .gv (.sr (K.of 256) (.v 12) (.v 13) []), vI 2]
noncomputable def bhi : List HO := [.mk 256 (.gob (.rh (.v 12) (.v 13) (.s 10)))]
noncomputable def bhj : List HO := []
noncomputable def bhk : TR := .ret (.bool true)
noncomputable section
def ax3 : List SA := [.mk false au9 (.c 1) true, .mk true (.v 13) (.c 0) false, .mk true (.c 20000) (.v 13) false, .mk false (.len wwr_R1) (.bin 7 .i64 (.c 2) (.v 13)) true, .mk true ai5 (.bin 6 .i64 aff (.v 13)) false, .mk false (.app 221 (.g wwr_H1 .nil)) (.c 1) true, .mk true adq (.c 0) false, .mk true (.c 1000) adq false, .mk false adq (.c 0) false, .mk false (.app 231 (.g wwr_H1 .nil)) (.c 1) true, .mk true (.c 20) adq false, .mk false (.app 232 (.g jw .nil)) (.c 1) true, .mk true xN (.c 37) false, .mk true (.c 61) xN false, .mk true (.app 213 (.g wwr_H1 b7)) (.c 0) false, .mk true (.c 20) (.app 213 (.g wwr_H1 b7)) false, .mk false (.app 232 (.g (.app 213 (.g wwr_H1 b7)) .nil)) (.c 1) true, .mk true (.rd wwr_H1 (.c 0)) (.bin 6 .i64 (.app 201 (.g wwr_H1 .nil)) (.c 2)) false, .mk true (.c 1000) (.v 13) false, .mk false adq (.v 13) true, .mk false (.eqg jw wwr_R1) (.c 1) true, .mk false (.app 221 (.g wwr_H2 .nil)) (.c 1) true, .mk true xM (.c 37) false, .mk true (.c 61) xM false, .mk false ai0 (.c 1) false, .mk false ai0 (.c 2) true, .mk true rn (.c 0) false, .mk true (.c 1000) rn false, .mk false rn (.c 0) false, .mk true (.c 0) rn true, .mk false (.rd dh afg) (.c 1) true, .mk false (.rd dh aog) (.c 0) true, .mk true (.c 1) rn true, .mk false (.rd dh afh) (.c 1) true, .mk false (.rd dh aj) (.c 0) false, .mk false (.rd dh aj) (.c 1) false]
def a7e : List SA := [.mk true xN (.c 39) true, .mk false xN xM true, .mk false xN (.c 38) true, .mk false (.c 38) xM true, .mk true bq (.bin 6 .i64 (.bin 6 .i64 aoh (.len (.app 227 (.g (.app 213 (.g wwr_H1 b7)) bu)))) jn) false, .mk false (.eqg (.cat yu (.app 227 (.g jw bu))) (.cat (.cat yu (.app 227 (.g (.app 213 (.g wwr_H1 b7)) bu))) ix)) (.c 1) true, .mk false (.app 229 (.i (.c 38) (.i xM .nil))) (.c 1) true, .mk false (.rd dh aj) (.c 38) true]
def a7f : List SA := [.mk true xN (.c 39) true, .mk false xN xM true, .mk false xN (.c 38) false, .mk false xN (.c 37) true, .mk false (.c 37) xM true, .mk true bq (.bin 6 .i64 (.bin 6 .i64 aoi (.len (.app 227 (.g (.app 213 (.g wwr_H1 b7)) bu)))) jn) false, .mk false (.eqg (.cat yv (.app 227 (.g jw bu))) (.cat (.cat yv (.app 227 (.g (.app 213 (.g wwr_H1 b7)) bu))) ix)) (.c 1) true, .mk false (.app 229 (.i (.c 37) (.i xM .nil))) (.c 1) true, .mk false (.rd dh aj) (.c 37) true]
def a7g : List SA := [.mk true xN (.c 39) true, .mk false xN xM false, .mk false xN (.c 38) true, .mk false (.c 38) xM false, .mk true bq (.bin 6 .i64 (.bin 6 .i64 aoh (.len (.app 227 (.g (.app 213 (.g wwr_H1 b7)) bu)))) jn) false, .mk false (.eqg (.cat yu (.app 227 (.g jw bu))) (.cat (.cat yu (.app 227 (.g (.app 213 (.g wwr_H1 b7)) bu))) ix)) (.c 1) true, .mk false (.app 229 (.i (.c 38) (.i xM .nil))) (.c 1) false, .mk false (.rd dh aj) (.c 38) false, .mk true (.c 2) rn false]
def a7h : List SA := [.mk true xN (.c 39) true, .mk false xN xM false, .mk false xN (.c 38) false, .mk false xN (.c 37) true, .mk false (.c 37) xM false, .mk true bq (.bin 6 .i64 (.bin 6 .i64 aoi (.len (.app 227 (.g (.app 213 (.g wwr_H1 b7)) bu)))) jn) false, .mk false (.eqg (.cat yv (.app 227 (.g jw bu))) (.cat (.cat yv (.app 227 (.g (.app 213 (.g wwr_H1 b7)) bu))) ix)) (.c 1) true, .mk false (.app 229 (.i (.c 37) (.i xM .nil))) (.c 1) false, .mk false (.rd dh aj) (.c 37) false, .mk true (.c 2) rn false]
def a7i : List SA := [.mk true xN (.c 39) false, .mk false xN (.c 45) true, .mk false (.c 45) xM true, .mk true bq (.bin 6 .i64 (.bin 6 .i64 acd (.len (.app 227 (.g (.app 213 (.g wwr_H1 b7)) bu)))) jn) false, .mk false (.eqg (.cat oe (.app 227 (.g jw bu))) (.cat (.cat oe (.app 227 (.g (.app 213 (.g wwr_H1 b7)) bu))) ix)) (.c 1) true, .mk false (.app 229 (.i (.c 45) (.i xM .nil))) (.c 1) true, .mk false (.rd dh aj) (.c 45) true]
def a7j : List SA := [.mk true xN (.c 39) false, .mk false xN (.c 45) true, .mk false (.c 45) xM false, .mk false (.c 44) xM true, .mk true bq (.bin 6 .i64 (.bin 6 .i64 acd (.len (.app 227 (.g (.app 213 (.g wwr_H1 b7)) bu)))) jn) false, .mk false (.eqg (.cat oe (.app 227 (.g jw bu))) (.cat (.cat oe (.app 227 (.g (.app 213 (.g wwr_H1 b7)) bu))) ix)) (.c 1) true, .mk false (.app 229 (.i (.c 45) (.i xM .nil))) (.c 1) true, .mk false (.rd dh aj) (.c 45) false, .mk false (.rd dh aj) (.c 44) true]
def a7k : List SA := [.mk true xN (.c 39) false, .mk false xN (.c 45) true, .mk false (.c 45) xM false, .mk false (.c 44) xM false, .mk false (.c 37) xM true, .mk true bq (.bin 6 .i64 (.bin 6 .i64 acd (.len (.app 227 (.g (.app 213 (.g wwr_H1 b7)) bu)))) jn) false, .mk false (.eqg (.cat oe (.app 227 (.g jw bu))) (.cat (.cat oe (.app 227 (.g (.app 213 (.g wwr_H1 b7)) bu))) ix)) (.c 1) true, .mk false (.app 229 (.i (.c 45) (.i xM .nil))) (.c 1) true, .mk false (.rd dh aj) (.c 45) false, .mk false (.rd dh aj) (.c 44) false, .mk false (.rd dh aj) (.c 37) true]
def a7l : List SA := [.mk true xN (.c 39) false, .mk false xN (.c 45) true, .mk false (.c 45) xM false, .mk false (.c 44) xM false, .mk false (.c 37) xM false, .mk true bq (.bin 6 .i64 (.bin 6 .i64 acd (.len (.app 227 (.g (.app 213 (.g wwr_H1 b7)) bu)))) jn) false, .mk false (.eqg (.cat oe (.app 227 (.g jw bu))) (.cat (.cat oe (.app 227 (.g (.app 213 (.g wwr_H1 b7)) bu))) ix)) (.c 1) true, .mk false (.app 229 (.i (.c 45) (.i xM .nil))) (.c 1) false, .mk false (.rd dh aj) (.c 45) false, .mk false (.rd dh aj) (.c 44) false, .mk false (.rd dh aj) (.c 37) false, .mk true (.c 2) rn false]
def a7m : List SA := [.mk true xN (.c 39) false, .mk false xN (.c 45) false, .mk false xN (.c 54) true, .mk false (.c 54) xM true, .mk true bq (.bin 6 .i64 (.bin 6 .i64 ace (.len (.app 227 (.g (.app 213 (.g wwr_H1 b7)) bu)))) jn) false, .mk false (.eqg (.cat oh (.app 227 (.g jw bu))) (.cat (.cat oh (.app 227 (.g (.app 213 (.g wwr_H1 b7)) bu))) ix)) (.c 1) true, .mk false (.app 229 (.i (.c 54) (.i xM .nil))) (.c 1) true, .mk false (.rd dh aj) (.c 54) true]
def a7n : List SA := [.mk true xN (.c 39) false, .mk false xN (.c 45) false, .mk false xN (.c 54) true, .mk false (.c 54) xM false, .mk false (.c 60) xM true, .mk true bq (.bin 6 .i64 (.bin 6 .i64 ace (.len (.app 227 (.g (.app 213 (.g wwr_H1 b7)) bu)))) jn) false, .mk false (.eqg (.cat oh (.app 227 (.g jw bu))) (.cat (.cat oh (.app 227 (.g (.app 213 (.g wwr_H1 b7)) bu))) ix)) (.c 1) true, .mk false (.app 229 (.i (.c 54) (.i xM .nil))) (.c 1) true, .mk false (.rd dh aj) (.c 54) false, .mk false (.rd dh aj) (.c 60) true]
def ax4 : List SA := [.mk true xN (.c 39) false, .mk false xN (.c 45) false, .mk false xN (.c 54) true, .mk false (.c 54) xM false, .mk false (.c 60) xM false, .mk false (.c 37) xM true, .mk true bq (.bin 6 .i64 (.bin 6 .i64 ace (.len (.app 227 (.g (.app 213 (.g wwr_H1 b7)) bu)))) jn) false, .mk false (.eqg (.cat oh (.app 227 (.g jw bu))) (.cat (.cat oh (.app 227 (.g (.app 213 (.g wwr_H1 b7)) bu))) ix)) (.c 1) true, .mk false (.app 229 (.i (.c 54) (.i xM .nil))) (.c 1) true, .mk false (.rd dh aj) (.c 54) false, .mk false (.rd dh aj) (.c 60) false, .mk false (.rd dh aj) (.c 37) true]
def ax5 : List SA := [.mk true xN (.c 39) false, .mk false xN (.c 45) false, .mk false xN (.c 54) true, .mk false (.c 54) xM false, .mk false (.c 60) xM false, .mk false (.c 37) xM false, .mk true bq (.bin 6 .i64 (.bin 6 .i64 ace (.len (.app 227 (.g (.app 213 (.g wwr_H1 b7)) bu)))) jn) false, .mk false (.eqg (.cat oh (.app 227 (.g jw bu))) (.cat (.cat oh (.app 227 (.g (.app 213 (.g wwr_H1 b7)) bu))) ix)) (.c 1) true, .mk false (.app 229 (.i (.c 54) (.i xM .nil))) (.c 1) false, .mk false (.rd dh aj) (.c 54) false, .mk false (.rd dh aj) (.c 60) false, .mk false (.rd dh aj) (.c 37) false, .mk true (.c 2) rn false]
def ax6 : List SA := [.mk true xN (.c 39) false, .mk false xN (.c 45) false, .mk false xN (.c 54) false, .mk false xN xM true, .mk false xN (.c 38) false, .mk true bq (.bin 6 .i64 (.bin 6 .i64 (.len (.app 224 (.i xN .nil))) (.len (.app 227 (.g (.app 213 (.g wwr_H1 b7)) bu)))) jn) false, .mk false (.eqg (.cat (.app 224 (.i xN .nil)) (.app 227 (.g jw bu))) (.cat (.cat (.app 224 (.i xN .nil)) (.app 227 (.g (.app 213 (.g wwr_H1 b7)) bu))) ix)) (.c 1) true, .mk false (.app 229 (.i xN (.i xM .nil))) (.c 1) true, .mk false (.rd dh aj) xN true]
def ax7 : List SA := [.mk true xN (.c 39) false, .mk false xN (.c 45) false, .mk false xN (.c 54) false, .mk false xN xM false, .mk false (.c 37) xM true, .mk false xN (.c 38) false, .mk true bq (.bin 6 .i64 (.bin 6 .i64 (.len (.app 224 (.i xN .nil))) (.len (.app 227 (.g (.app 213 (.g wwr_H1 b7)) bu)))) jn) false, .mk false (.eqg (.cat (.app 224 (.i xN .nil)) (.app 227 (.g jw bu))) (.cat (.cat (.app 224 (.i xN .nil)) (.app 227 (.g (.app 213 (.g wwr_H1 b7)) bu))) ix)) (.c 1) true, .mk false (.app 229 (.i xN (.i xM .nil))) (.c 1) true, .mk false (.rd dh aj) xN false, .mk false (.rd dh aj) (.c 37) true, .mk false (.c 37) xN false]
def ax8 : List SA := [.mk true xN (.c 39) false, .mk false xN (.c 45) false, .mk false xN (.c 54) false, .mk false xN xM false, .mk false (.c 37) xM false, .mk false xN (.c 38) false, .mk true bq (.bin 6 .i64 (.bin 6 .i64 (.len (.app 224 (.i xN .nil))) (.len (.app 227 (.g (.app 213 (.g wwr_H1 b7)) bu)))) jn) false, .mk false (.eqg (.cat (.app 224 (.i xN .nil)) (.app 227 (.g jw bu))) (.cat (.cat (.app 224 (.i xN .nil)) (.app 227 (.g (.app 213 (.g wwr_H1 b7)) bu))) ix)) (.c 1) true, .mk false (.app 229 (.i xN (.i xM .nil))) (.c 1) false, .mk false (.rd dh aj) xN false, .mk false (.rd dh aj) (.c 37) false, .mk true (.c 2) rn false]
def ase (X : List SA) : List SA := aoj ++ (ax3 ++ X)
def pg (X : List SA) : Bool := pl [] 257 257 .nil bhj bhk (enter (aby (pq (ase X) wHs) (a0i (ase X) [a4d]) 2000) 8 (aVs (ase X) bhl) (ai (aHO (ase X) bhi) 257))
end
theorem bhm : pg a7e = true := by kernel_rfl
theorem bhn : pg a7f = true := by kernel_rfl
theorem bho : pg a7g = true := by kernel_rfl
theorem bhp : pg a7h = true := by kernel_rfl
theorem bhq : pg a7i = true := by kernel_rfl
theorem bhr : pg a7j = true := by kernel_rfl
theorem bhs : pg a7k = true := by kernel_rfl
theorem bht : pg a7l = true := by kernel_rfl
theorem bhu : pg a7m = true := by kernel_rfl
theorem bhv : pg a7n = true := by kernel_rfl
theorem bau : pg ax4 = true := by kernel_rfl
theorem bav : pg ax5 = true := by kernel_rfl
theorem baw : pg ax6 = true := by kernel_rfl
theorem bax : pg ax7 = true := by kernel_rfl
theorem bay : pg ax8 = true := by kernel_rfl
theorem lz [Gv] {X : List SA} (h : pg X = true) (hI : SAll Gv.σ aoj) (hB : SAll Gv.σ ax3) (hX : SAll Gv.σ X) : br 8 bhl 257 bhi bhk 257 bhj :=
 have hA : SAll Gv.σ (ase X) := ka hI (ka hB hX)
 ak (n := 2000) (T := []) (E := .nil) (cv hA _ hlw) (aey hA _ bdu) hA trivial rfl rfl h
theorem bjj [Gv] (hI : SAll Gv.σ aoj) : br 8 bhl 257 bhi bhk 257 bhj := by
 obtain ⟨n1, n2⟩ := fxN (σ := Gv.σ)
 obtain ⟨m1, m2⟩ := fxM (σ := Gv.σ)
 have d0 : ([200] : List Int).getD (0 : Int).toNat 0 = 200 := rfl
 have k0 : hpN [200] = 1 := ap9 ahb
 have c0 : cq [200] = 0 := rfl
 obtain ⟨r1, r2, r3, r4, r5⟩ := aw8 (cm (A := aal) (B := [.mk true (.v 12) (.c 0) false, .mk true (.v 13) (.c 1) false, .mk true (.c 20) (.v 13) false, .mk false (.len (.s 10)) (.v 13) true, .mk false (.app 230 (.g (.s 10) .nil)) (.c 1) true]) hI).2
 have rl : (Gv.σ 10).length ≤ 20 := by omega
 obtain ⟨f1, f2, f3, f4, f5, f6⟩ := az2 (σ := Gv.σ) (R := wwr_R1) (H := wwr_H1) (S := jw) (N := .v 13) (K := aus) (M := aut) (LN := adq) (l := Gv.σ 10) rfl rfl rfl rfl rfl rl rfl r4.symm
 have k1 : hpN (wwr_H1.eval Gv.σ) = 1 := ap9 f1
 have a1 : a1x (wwr_H1.eval Gv.σ) = 1 := a1y f2
 have i1 : a0a (lg (Gv.σ 10)) = 1 := awd r5
 have j1 : jnW true ((lg (Gv.σ 10)).drop (2 * (0 : Int).toNat)) = jnF true (Gv.σ 10) := aml true _
 have j2 : jnF true ((Gv.σ 10).drop (0 : Int).toNat) = jnF true (Gv.σ 10) := rfl
 have j3 := bj5 _ rl
 have l1 : (lg ((Gv.σ 10).drop (0 : Int).toNat)) = lg (Gv.σ 10) := rfl
 have e1 : ((lg (Gv.σ 10)).length : Int) = 2 * ((Gv.σ 10).length : Int) := akb _
 have g0 : bfz (Gv.σ 10) = 1 := rngN1.2 r5
 have e0 : wwr_R1.eval Gv.σ = lg (Gv.σ 10) := rfl
 have i0 : a0a [] = 1 := awd (l := []) (by intro x hx; cases hx)
 obtain ⟨g1, g2, g3, g4⟩ := ado (σ := Gv.σ) (R := ank) (H := wwr_H2) (H0 := wwr_H1) (S := dh) (N := .c 2) (K := ai0) (M := auu) (LN := rn) (ws := [1, 0, 1, xM.eval Gv.σ]) rfl rfl rfl rfl rfl f1 (by rw [f3]; omega) f4 rfl rfl rfl
 have k2 : hpN (wwr_H2.eval Gv.σ) = 1 := ap9 g1
 have hB : SAll Gv.σ ax3 := by
  unfold ax3
  simp (disch := omega) only [sall_cons, sT, sF, sE, sN, evs, evq, ev6, evr, evl, wr, zP, zO, zS, List.append_nil, List.append_assoc, k0, c0, d0, k1, a1, i1, j1, j2, f3, f4, f5, f6, l1, g0, e0, i0, iw, bv, List.drop_nil, zD, k2, g2, g3, g4, p4, gk, eq_self, decide_true, az] <;> omega
 by_cases k : xN.eval Gv.σ < (39 : Int)
 ·by_cases k : xN.eval Gv.σ = xM.eval Gv.σ
  ·by_cases k : xN.eval Gv.σ = (38 : Int)
   ·have w := ib ((38 : Int)) (xM.eval Gv.σ)
    have wl := bf (38 : Int)
    refine lz bhm hI hB ?_
    unfold a7e
    simp (disch := omega) only [sall_cons, sT, sF, sE, sN, evs, evq, ev6, evr, evl, wr, zP, zO, zS, List.append_nil, List.append_assoc, k0, c0, d0, k1, a1, i1, j1, j2, f3, f4, f5, f6, l1, g0, e0, i0, iw, bv, List.drop_nil, zD, k2, g2, g3, g4, p4, gk, eq_self, decide_true, az] <;> omega
   ·have w := ib ((37 : Int)) (xM.eval Gv.σ)
    have wl := bf (37 : Int)
    refine lz bhn hI hB ?_
    unfold a7f
    simp (disch := omega) only [sall_cons, sT, sF, sE, sN, evs, evq, ev6, evr, evl, wr, zP, zO, zS, List.append_nil, List.append_assoc, k0, c0, d0, k1, a1, i1, j1, j2, f3, f4, f5, f6, l1, g0, e0, i0, iw, bv, List.drop_nil, zD, k2, g2, g3, g4, p4, gk, eq_self, decide_true, az] <;> omega
  ·by_cases k : xN.eval Gv.σ = (38 : Int)
   ·have w := ib ((38 : Int)) (xM.eval Gv.σ)
    have wl := bf (38 : Int)
    refine lz bho hI hB ?_
    unfold a7g
    simp (disch := omega) only [sall_cons, sT, sF, sE, sN, evs, evq, ev6, evr, evl, wr, zP, zO, zS, List.append_nil, List.append_assoc, k0, c0, d0, k1, a1, i1, j1, j2, f3, f4, f5, f6, l1, g0, e0, i0, iw, bv, List.drop_nil, zD, k2, g2, g3, g4, p4, gk, eq_self, decide_true, az] <;> omega
   ·have w := ib ((37 : Int)) (xM.eval Gv.σ)
    have wl := bf (37 : Int)
    refine lz bhp hI hB ?_
    unfold a7h
    simp (disch := omega) only [sall_cons, sT, sF, sE, sN, evs, evq, ev6, evr, evl, wr, zP, zO, zS, List.append_nil, List.append_assoc, k0, c0, d0, k1, a1, i1, j1, j2, f3, f4, f5, f6, l1, g0, e0, i0, iw, bv, List.drop_nil, zD, k2, g2, g3, g4, p4, gk, eq_self, decide_true, az] <;> omega
 ·by_cases k : xN.eval Gv.σ = (45 : Int)
  ·by_cases k : (45 : Int) = xM.eval Gv.σ
   ·have w := ib ((45 : Int)) (xM.eval Gv.σ)
    have wl := bf (45 : Int)
    refine lz bhq hI hB ?_
    unfold a7i
    simp (disch := omega) only [sall_cons, sT, sF, sE, sN, evs, evq, ev6, evr, evl, wr, zP, zO, zS, List.append_nil, List.append_assoc, k0, c0, d0, k1, a1, i1, j1, j2, f3, f4, f5, f6, l1, g0, e0, i0, iw, bv, List.drop_nil, zD, k2, g2, g3, g4, p4, gk, eq_self, decide_true, az] <;> omega
   ·by_cases k : (44 : Int) = xM.eval Gv.σ
    ·have w := ib ((45 : Int)) (xM.eval Gv.σ)
     have wl := bf (45 : Int)
     refine lz bhr hI hB ?_
     unfold a7j
     simp (disch := omega) only [sall_cons, sT, sF, sE, sN, evs, evq, ev6, evr, evl, wr, zP, zO, zS, List.append_nil, List.append_assoc, k0, c0, d0, k1, a1, i1, j1, j2, f3, f4, f5, f6, l1, g0, e0, i0, iw, bv, List.drop_nil, zD, k2, g2, g3, g4, p4, gk, eq_self, decide_true, az] <;> omega
    ·by_cases k : (37 : Int) = xM.eval Gv.σ
     ·have w := ib ((45 : Int)) (xM.eval Gv.σ)
      have wl := bf (45 : Int)
      refine lz bhs hI hB ?_
      unfold a7k
      simp (disch := omega) only [sall_cons, sT, sF, sE, sN, evs, evq, ev6, evr, evl, wr, zP, zO, zS, List.append_nil, List.append_assoc, k0, c0, d0, k1, a1, i1, j1, j2, f3, f4, f5, f6, l1, g0, e0, i0, iw, bv, List.drop_nil, zD, k2, g2, g3, g4, p4, gk, eq_self, decide_true, az] <;> omega
     ·have w := ib ((45 : Int)) (xM.eval Gv.σ)
      have wl := bf (45 : Int)
      refine lz bht hI hB ?_
      unfold a7l
      simp (disch := omega) only [sall_cons, sT, sF, sE, sN, evs, evq, ev6, evr, evl, wr, zP, zO, zS, List.append_nil, List.append_assoc, k0, c0, d0, k1, a1, i1, j1, j2, f3, f4, f5, f6, l1, g0, e0, i0, iw, bv, List.drop_nil, zD, k2, g2, g3, g4, p4, gk, eq_self, decide_true, az] <;> omega
  ·by_cases k : xN.eval Gv.σ = (54 : Int)
   ·by_cases k : (54 : Int) = xM.eval Gv.σ
    ·have w := ib ((54 : Int)) (xM.eval Gv.σ)
     have wl := bf (54 : Int)
     refine lz bhu hI hB ?_
     unfold a7m
     simp (disch := omega) only [sall_cons, sT, sF, sE, sN, evs, evq, ev6, evr, evl, wr, zP, zO, zS, List.append_nil, List.append_assoc, k0, c0, d0, k1, a1, i1, j1, j2, f3, f4, f5, f6, l1, g0, e0, i0, iw, bv, List.drop_nil, zD, k2, g2, g3, g4, p4, gk, eq_self, decide_true, az] <;> omega
    ·by_cases k : (60 : Int) = xM.eval Gv.σ
     ·have w := ib ((54 : Int)) (xM.eval Gv.σ)
      have wl := bf (54 : Int)
      refine lz bhv hI hB ?_
      unfold a7n
      simp (disch := omega) only [sall_cons, sT, sF, sE, sN, evs, evq, ev6, evr, evl, wr, zP, zO, zS, List.append_nil, List.append_assoc, k0, c0, d0, k1, a1, i1, j1, j2, f3, f4, f5, f6, l1, g0, e0, i0, iw, bv, List.drop_nil, zD, k2, g2, g3, g4, p4, gk, eq_self, decide_true, az] <;> omega
     ·by_cases k : (37 : Int) = xM.eval Gv.σ
      ·have w := ib ((54 : Int)) (xM.eval Gv.σ)
       have wl := bf (54 : Int)
       refine lz bau hI hB ?_
       unfold ax4
       simp (disch := omega) only [sall_cons, sT, sF, sE, sN, evs, evq, ev6, evr, evl, wr, zP, zO, zS, List.append_nil, List.append_assoc, k0, c0, d0, k1, a1, i1, j1, j2, f3, f4, f5, f6, l1, g0, e0, i0, iw, bv, List.drop_nil, zD, k2, g2, g3, g4, p4, gk, eq_self, decide_true, az] <;> omega
      ·have w := ib ((54 : Int)) (xM.eval Gv.σ)
       have wl := bf (54 : Int)
       refine lz bav hI hB ?_
       unfold ax5
       simp (disch := omega) only [sall_cons, sT, sF, sE, sN, evs, evq, ev6, evr, evl, wr, zP, zO, zS, List.append_nil, List.append_assoc, k0, c0, d0, k1, a1, i1, j1, j2, f3, f4, f5, f6, l1, g0, e0, i0, iw, bv, List.drop_nil, zD, k2, g2, g3, g4, p4, gk, eq_self, decide_true, az] <;> omega
   ·by_cases k : xN.eval Gv.σ = xM.eval Gv.σ
    ·have w := ib (xN.eval Gv.σ) (xM.eval Gv.σ)
     have wl := bf (xN.eval Gv.σ)
     refine lz baw hI hB ?_
     unfold ax6
     simp (disch := omega) only [sall_cons, sT, sF, sE, sN, evs, evq, ev6, evr, evl, wr, zP, zO, zS, List.append_nil, List.append_assoc, k0, c0, d0, k1, a1, i1, j1, j2, f3, f4, f5, f6, l1, g0, e0, i0, iw, bv, List.drop_nil, zD, k2, g2, g3, g4, p4, gk, eq_self, decide_true, az] <;> omega
    ·by_cases k : (37 : Int) = xM.eval Gv.σ
     ·have w := ib (xN.eval Gv.σ) (xM.eval Gv.σ)
      have wl := bf (xN.eval Gv.σ)
      refine lz bax hI hB ?_
      unfold ax7
      simp (disch := omega) only [sall_cons, sT, sF, sE, sN, evs, evq, ev6, evr, evl, wr, zP, zO, zS, List.append_nil, List.append_assoc, k0, c0, d0, k1, a1, i1, j1, j2, f3, f4, f5, f6, l1, g0, e0, i0, iw, bv, List.drop_nil, zD, k2, g2, g3, g4, p4, gk, eq_self, decide_true, az] <;> omega
     ·have w := ib (xN.eval Gv.σ) (xM.eval Gv.σ)
      have wl := bf (xN.eval Gv.σ)
      refine lz bay hI hB ?_
      unfold ax8
      simp (disch := omega) only [sall_cons, sT, sF, sE, sN, evs, evq, ev6, evr, evl, wr, zP, zO, zS, List.append_nil, List.append_assoc, k0, c0, d0, k1, a1, i1, j1, j2, f3, f4, f5, f6, l1, g0, e0, i0, iw, bv, List.drop_nil, zD, k2, g2, g3, g4, p4, gk, eq_self, decide_true, az] <;> omega
end Go.Ev
