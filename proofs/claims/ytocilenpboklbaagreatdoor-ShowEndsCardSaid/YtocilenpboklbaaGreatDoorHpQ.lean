import Derived.Test.YtocilenpboklbaaGreatDoorHpSq
set_option maxRecDepth 100000
set_option linter.all false
namespace Go.Ev
abbrev avj : AL := .g (.s 5) (.i (.v 1) (.i (.v 2) .nil))
abbrev aoi : AL := .g (.s 5) (.g (.s 7) (.i (.v 3) (.i (.v 4) .nil)))
abbrev aom : SE := .app 221 (.g (.s 5) .nil)
abbrev avk : SE := .bin 7 .i64 (.c 2) (.v 6)
abbrev aj7 : SE := .rd (.s 5) (.c 0)
abbrev aea : SE := .app 201 (.g (.s 5) .nil)
abbrev avl : SE := .bin 6 .i64 (.v 8) (.c 1)
abbrev aeb : List SA := [.mk false aom (.c 1) true, .mk true (.v 6) (.c 0) false, .mk true (.c 20000) (.v 6) false, .mk false (.len (.s 7)) avk true, .mk true (.v 8) (.c (-1)) false, .mk true (.v 8) (.v 6) true, .mk true aj7 (.bin 6 .i64 aea avl) false]
abbrev yd : SE := .app 213 avj
abbrev a85 : SE := .bin 6 .i64 (.v 6) yd
abbrev bhm : List SA := [.mk true (.v 6) (.c 1) false, .mk true (.c 2000) (.v 6) false, .mk false (.len (.s 7)) avk true, .mk true yd (.c 0) false, .mk true (.c 2000) a85 false]
abbrev bhn : List SA := [.mk true yd (.c 0) false, .mk true (.c 1000) yd false]
abbrev bho : List SA := [.mk false yd (.c 0) true]
abbrev bhp : List SA := [.mk false yd (.c 0) false]
abbrev bhq : List SA := [.mk false aom (.c 1) true, .mk true yd (.c 0) false, .mk true (.c 1000) yd false]
abbrev axz : AL := .g (.s 5) (.g (.s 7) (.i (.c 1) (.i (.c 0) .nil)))
abbrev bhr : AL := .i (.v 6) axz
abbrev bhs : List SA := [.mk false aom (.c 1) true, .mk true (.v 6) (.c 0) false, .mk true (.c 20000) (.v 6) false, .mk false (.len (.s 7)) avk true, .mk true aj7 (.bin 6 .i64 aea (.v 6)) false]
abbrev bht : List SA := [.mk false aom (.c 1) true, .mk true aj7 aea false]
abbrev aoj : AL := .i avl aoi
abbrev ax0 : GE := .app 210 aoj
abbrev ax1 : SE := .app 211 aoj
abbrev ax2 : SE := .app 212 aoj
abbrev ax3 : SE := .rd (.s 7) (.bin 7 .i64 (.c 2) (.v 8))
abbrev ax4 : SE := .rd (.s 7) (.bin 6 .i64 (.bin 7 .i64 (.c 2) (.v 8)) (.c 1))
abbrev aok : GE := .app 206 (.g (.s 5) (.g (.cat (.one (.c 2)) (.cat (.one ax3) (.cat (.one ax4) (.cat (.one (.v 3)) (.one (.v 4)))))) .nil))
abbrev ax5 : AL := .g aok .nil
abbrev aol : SE := .bin 1 .i64 (.v 8) (.c 1)
abbrev af3 : SE := .bin 6 .i64 aol (.c 1)
abbrev aon : AL := .i af3 (.g aok (.g (.s 7) (.i (.c 2) (.i aea .nil))))
abbrev bhu : SE := .app 203 avj
abbrev a86 : SE := .bin 6 .i64 (.v 6) (.c 1)
abbrev ax6 : AL := .g (.s 5) (.i (.app 204 (.g (.s 5) (.i (.v 2) (.i (.c 3) .nil)))) (.i (.app 204 (.g (.s 5) (.i (.v 2) (.i (.c 4) .nil)))) .nil))
abbrev ax7 : SE := .app 213 ax6
abbrev bhv : SE := .bin 6 .i64 a86 ax7
abbrev bhw : GE := .cat (.one (.app 204 (.g (.s 5) (.i (.v 2) (.i (.c 1) .nil))))) (.one (.app 204 (.g (.s 5) (.i (.v 2) (.i (.c 2) .nil)))))
abbrev bhx : GE := .app 213 ax6
abbrev a87 : GE := .app 213 avj
abbrev bhy : GE := .cat (.s 7) a87
abbrev bhz : SE := .bin 6 .i64 (.c 1) ax7
abbrev bh0 : SE := .bin 1 .i64 aj7 aea
abbrev a88 : SE := .bin 1 .i64 (.v 6) (.c 1)
abbrev a89 : SE := .bin 6 .i64 a88 (.c 1)
abbrev bh1 : AL := .i a89 axz
noncomputable section
def bx (k : Nat) (t : TypeId) (l : List AV) : HO := .mk k (.cells t false 0 0 l)
def vI (n : Nat) : AV := .sym .i64 (.v n) []
def sX (e : SE) : AV := .sym .i64 e []
def hH (k : Nat) (g : GE) : HO := .mk k (hgh g)
def wdR (k : Nat) (n : SE) (g : GE) : HO := .mk k (.gob (.gh 29 [.i64, .i64] n g))
def bkH (g : GE) (a b : SE) : List HO := [bx 258 39 [.gv (.sl (K.of 257) 2 (.v 6) [])], .mk 261 (.loop 82 31 4 [.top, .top, .top, .ptr (K.of 260) 0, .top, .ptr (K.of 259) 0, .ptr (K.of 262) 0, .int .i64 0, .top, .top, .top, .top, .top, .top, .top, .top, .top, .top, .top, .top, .top, .top, .top, .top, .top, .top, .top, .top, .top, .top, .top] [21, 22] (K.of 263)), bx 260 23 [.ptr (K.of 256) 0], bx 259 29 [sX a, sX b], bx 262 29 [.int .i64 0, .int .i64 0], hH 256 g, wdR 257 (.v 6) (.s 7)]
def m8 : SE := .bin 6 .i64 (.v 8) (.c 1)
def bkU : List AV := [.func (.yield 261) [] [], .ptr (K.of 258) 0, .top, vI 8, .top, .top, .top, .top, .top, .top, .top, .top, .top, .top, .top, .top, .top, .top, .top]
def bkI : List HO := bkH (.s 5) (.v 3) (.v 4)
def bkO : List HO := bkH (.app 210 (.i m8 aoi)) (.app 211 (.i m8 aoi)) (.app 212 (.i m8 aoi))
def bkR : LR := (.x 0 ([.top, .top, .top, .top, .top, .top, .top, .top, .top, .top, .top, .top, .top, .top, .top, .top, .top, .top, .top]))
def bk (m : SE) : LT := .mk 165 3 bkU 264 bkI (aeb ++ []) (some (m8, m)) bkR 270 bkO
def bkF : LT := .mk 165 3 bkU 264 bkI (aeb ++ []) none bkR 270 bkO
end
section
variable {σ : Nat → List Int}
theorem a9g (h : SAll σ aeb) : ab8 (σ 5) ∧ (0 ≤ (σ 6).headD 0 ∧ (σ 6).headD 0 ≤ 20000 ∧ ((σ 7).length : Int) = 2 * (σ 6).headD 0) ∧ -1 ≤ (σ 8).headD 0 ∧ (σ 8).headD 0 < (σ 6).headD 0 ∧ ea (σ 5) + ((σ 8).headD 0 + 1) ≤ (σ 5).getD (0 : Int).toNat 0 := by
 obtain ⟨h1, h⟩ := sall_cons.1 h
 have h1 := s221.1 (sE.1 h1)
 simp only [sall_cons, sT, sF, sE, evs] at h
 exact ⟨h1, ⟨h.1, h.2.1, h.2.2.1⟩, h.2.2.2.1, h.2.2.2.2.1, h.2.2.2.2.2.1⟩
theorem bid (hP : ab8 (σ 5)) (hm : ea (σ 5) < (σ 5).getD (0 : Int).toNat 0) (a b c e : SE) : ea (n7 (σ 5) ((GE.cat (.one (.c 2)) (.cat (.one a) (.cat (.one b) (.cat (.one c) (.one e))))).eval σ)) = ea (σ 5) + 1 ∧
  (n7 (σ 5) ((GE.cat (.one (.c 2)) (.cat (.one a) (.cat (.one b) (.cat (.one c) (.one e))))).eval σ)).getD (0 : Int).toNat 0 = (σ 5).getD (0 : Int).toNat 0 ∧ hpN (n7 (σ 5) ((GE.cat (.one (.c 2)) (.cat (.one a) (.cat (.one b) (.cat (.one c) (.one e))))).eval σ)) = 1 :=
 ⟨a4c hP, a79 hP, ba9 (bba hP rfl hm)⟩
end
theorem hhc [Gv] : ∀ t ∈ [a6y], cy t := wc amr
def bkG [Gv] : Prop := (SAll Gv.σ [] → tm 165 3 bkU 264 bkI bkR 270 bkO)
theorem bie [Gv] (hh : ∀ t ∈ [bk m8], jd t) (hI : SAll Gv.σ aeb) : bkG := by
 obtain ⟨hP, ⟨l1, l2, l3⟩, l4, l5, l6⟩ := a9g hI
 obtain ⟨p1, p2, p3, p4⟩ := anb hP
 rcases zl1 hI (.v 8) (.c 0) with ⟨hI, k1⟩ | ⟨hI, k1⟩
 ·have u := zf2 (a9h (Gv.σ 5) (Gv.σ 7) ((Gv.σ 3).headD 0) ((Gv.σ 4).headD 0) ((Gv.σ 8).headD 0) (by omega))
  exact zt [] (.g (.s 5) ax0 (.i (.v 3) ax1 (.i (.v 4) ax2 .nil))) (zh hI hhc) (zp hI hh) hI ze1
 ·have hI := zN1 hI aea aj7
  have t1 := zf1 (bid (σ := Gv.σ) hP (by omega) ax3 ax4 (.v 3) (.v 4))
  have hI := zE1 hI (.app 221 ax5) (.c 1)
  have hI := zF1 hI aol (.c (-1))
  have hI := zT1 hI aol (.v 6)
  have hI := zF1 hI (.rd aok (.c 0)) (.bin 6 .i64 (.app 201 ax5) af3)
  have hI := zT1 hI af3 avl
  have hI := zF1 hI af3 (.c 0)
  have u := zf2 (a9h (Gv.σ 5) (Gv.σ 7) ((Gv.σ 3).headD 0) ((Gv.σ 4).headD 0) ((Gv.σ 8).headD 0) (by omega))
  exact zt [] (.g (.app 210 aon) ax0 (.i (.app 211 aon) ax1 (.i (.app 212 aon) ax2 .nil))) (zh hI hhc) (zp hI hh) hI ze1
theorem a16 : ∀ (B : Nat) (σ : Nat → List Int), SAll σ aeb → (m8).eval σ < (B : Int) → @bkG ⟨σ⟩
 | 0, σ, hI, hb => by obtain ⟨hP, ⟨l1, l2, l3⟩, l4, l5, l6⟩ := a9g hI; simp only [m8, evs, wr] at hb; omega
 | B + 1, σ, hI, hb => by
   have ih : ∀ σ' : Nat → List Int, SAll σ' aeb → 0 ≤ (m8).eval σ' ∧ (m8).eval σ' < (m8).eval σ → @bkG ⟨σ'⟩ := fun σ' h h' => a16 B σ' h (by omega)
   have hh : ∀ t ∈ [bk (m8)], @jd ⟨σ⟩ t := by
    intro t ht
    simp only [List.mem_cons, zH, or_false] at ht
    rcases ht with rfl
    ·exact fun σ' _ hA hb => (ih σ' (fe hA).1 hb) (fe hA).2
   exact @bie ⟨σ⟩ hh hI
theorem bcr [Gv] : jd bkF := fun σ _ hA _ => (a16 (((m8).eval σ).toNat + 1) σ (fe hA).1 (by omega)) (fe hA).2
theorem hbk [Gv] : ∀ t ∈ [bkF], jd t := wc bcr
end Go.Ev
