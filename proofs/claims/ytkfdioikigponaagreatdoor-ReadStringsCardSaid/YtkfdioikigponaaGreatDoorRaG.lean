import Derived.Test.YtkfdioikigponaaGreatDoorRaN
set_option maxRecDepth 100000
set_option linter.all false
namespace Go.Ev
abbrev aii : AL := .i (.v 1) .nil
abbrev wu : SE := .app 78 aii
abbrev awa : List SA := [.mk true (.v 1) (.c 0) false, .mk true (.v 1) (.c 1114112) true]
abbrev ak7 : SE := .app 77 aii
abbrev a7v : List SA := [.mk false (.app 79 aii) (.c 1) true]
abbrev baf : List SA := [.mk false (.app 79 aii) (.c 1) false]
abbrev an8 : AL := .g (.s 0) (.i (.v 1) (.i (.v 5) (.i (.v 6) .nil)))
abbrev ah2 : SE := .app 81 an8
abbrev ah4 : SE := .app 82 an8
abbrev yb : List SA := [.mk true (.v 6) (.c 0) false, .mk true (.c 6) (.v 6) false]
abbrev uv : AL := .g (.s 0) (.i (.v 1) (.i (.v 3) .nil))
abbrev a2p : SE := .app 85 uv
abbrev az3 : SE := .app 83 uv
abbrev ayw : List SA := [.mk false az3 (.c 0) true]
abbrev ab5 : SE := .app 84 uv
abbrev ays : List SA := [.mk false az3 (.c 0) false]
abbrev js : AL := .g (.s 0) aii
abbrev zb : SE := .app 89 js
abbrev a3y : SE := .app 87 js
abbrev a3v : List SA := [.mk false a3y (.c 0) true]
abbrev aho : SE := .app 88 js
abbrev azp : List SA := [.mk false a3y (.c 0) false]
abbrev bfj : SE := .app 94 js
abbrev b1r : SE := .app 100 js
abbrev a4c : SE := .app 97 js
abbrev byj : List SA := [.mk false a4c (.c 0) true]
abbrev bzr : SE := .app 98 js
abbrev b0o : List SA := [.mk false a4c (.c 0) false]
abbrev b03 : SE := .app 96 uv
abbrev b2o : SE := .app 104 js
abbrev bx0 : List SA := [.mk true (.v 1) (.len (.s 0)) true]
abbrev a1i : SE := .app 102 js
abbrev bxv : List SA := [.mk false a1i (.c 0) true]
abbrev byx : SE := .app 103 js
abbrev bxh : List SA := [.mk false a1i (.c 0) false]
abbrev uj : SE := .bin 0 .i64 (.v 1) (.c 0)
abbrev n7 : SE := .rd (.s 0) uj
abbrev a2s : AL := .i n7 .nil
abbrev azo : SE := .app 78 a2s
abbrev agm : SE := .app 80 an8
abbrev gm : SE := .bin 0 .i64 (.v 1) (.c 1)
abbrev aht : SE := .bin 0 .i64 (.v 6) (.c 1)
abbrev ay2 : SE := .bin 6 .i64 (.len (.s 0)) (.bin 7 .i64 (.c (-1)) gm)
abbrev bd0 : SE := .bin 6 .i64 (.len (.s 0)) (.bin 7 .i64 (.c (-1)) (.v 1))
abbrev a2z : SE := .bin 9 .i64 (.bin 11 .i64 (.v 5) (.c 4)) azo
abbrev aqo : AL := .g (.s 0) (.i gm (.i a2z (.i aht .nil)))
abbrev ao9 : AL := .g (.s 0) (.i (.v 1) (.i (.c 0) (.i (.c 0) .nil)))
abbrev a3j : SE := .app 80 ao9
abbrev ahy : SE := .bin 0 .i64 a3j (.c 0)
abbrev ayy : SE := .rd (.s 0) ahy
abbrev aq7 : SE := .app 81 ao9
abbrev abe : SE := .app 90 js
abbrev arb : SE := .bin 1 .i64 (.v 1) (.c 1)
abbrev ag9 : AL := .g (.s 0) (.i gm (.i arb .nil))
abbrev azf : SE := .app 77 a2s
abbrev b1n : SE := .bin 0 .i64 (.v 1) (.c 2)
abbrev bys : SE := .rd (.s 0) gm
abbrev bg0 : SE := .bin 0 .i64 gm (.c 0)
abbrev be3 : SE := .rd (.s 0) bg0
abbrev by8 : SE := .app 77 (.i be3 .nil)
abbrev bxq : SE := .bin 0 .i64 gm (.c 1)
abbrev b2d : SE := .app 101 js
abbrev b22 : SE := .app 95 uv
abbrev ayq : SE := .bin 0 .i64 (.v 1) (.c 3)
abbrev b1w : SE := .bin 6 .i64 (.len (.s 0)) (.bin 7 .i64 (.c (-1)) ayq)
abbrev bf4 : SE := .bin 9 .i64 (.v 3) bfj
abbrev b1g : AL := .g (.s 0) (.i ayq (.i bf4 .nil))
abbrev a0q : AL := .g (.s 0) (.i gm (.i (.c 0) .nil))
abbrev bg2 : SE := .app 95 a0q
abbrev a4h : AL := .g (.s 0) (.i bg2 .nil)
abbrev bec : SE := .app 101 a4h
abbrev biu : SE := .bin 0 .i64 bec (.c 0)
abbrev b0d : SE := .rd (.s 0) biu
abbrev aq5 : SE := .app 96 a0q
abbrev b2l : SE := .bin 8 .i64 aq5 (.c 67108864)
abbrev a2q : SE := .app 100 a4h
abbrev bzk : SE := .bin 9 .i64 a2q aq5
abbrev bye : SE := .app 105 js
abbrev azw : SE := .bin 13 .i64 aq5 (.c 67108864)
abbrev bzh : SE := .bin 9 .i64 (.c 127) azw
abbrev b17 : SE := .bin 9 .i64 (.bin 4 .i64 a2q (.c 32)) azw
noncomputable section
def buu : List AV := [.int .i64 (-1)]
def bvi : List HO := []
def bve : List HO := []
def bs5 : TR := .ret (.int .i64 (-1))
def bu0 : TM := .mk 104 buu 256 bvi ([] ++ []) none bs5 256 bve
def dgU : List AV := [.sym .i64 (.v 1) []]
def dgI : List HO := []
def dgO : List HO := []
def dgR : TR := .ret (.sym .i64 wu [])
def dgF : TM := .mk 104 dgU 256 dgI (awa ++ []) none dgR 256 dgO
def smU : List AV := [.sym .i64 (.v 1) []]
def smI : List HO := []
def smO : List HO := []
def smR : TR := .ret (.sym .i64 ak7 [])
def smF : TM := .mk 95 smU 256 smI ([] ++ []) none smR 256 smO
def bf6 : List AV := [.sym .i64 (.v 1) []]
def be7 : List HO := []
def bl4 : List HO := []
def bj2 : TR := .ret (.bool true)
def bmd : TM := .mk 105 bf6 256 be7 ([] ++ a7v) none bj2 256 bl4
def bmz : List HO := []
def bj0 : TR := .ret (.bool false)
def bj7 : TM := .mk 105 bf6 256 be7 ([] ++ baf) none bj0 256 bmz
def bpm : List AV := [.ptr (K.of 256) 0, .sym .i64 (.v 3) [], .top, .top, .top, .sym .i64 (.v 5) [], .sym .i64 (.v 6) []] ++ tps 50
def bos : List HO := [rdO 256 258 259 257 (.v 1) (.v 2), rwO 257]
def bqw : List HO := [rdO 256 258 259 257 (.app 80 an8) (.v 2), rwO 257]
def boh : LR := (.x 0 ([.ptr (K.of 256) 0, .sym .i64 (.v 3) [], .top, .top, .top, .sym .i64 ah2 [], .sym .i64 ah4 []] ++ tps 50))
def cdl (m : SE) : LT := .mk 94 5 bpm 260 bos ((pI ++ yb) ++ []) (some (mLn, m)) boh 260 bqw
def b29 : LT := .mk 94 5 bpm 260 bos ((pI ++ yb) ++ []) none boh 260 bqw
def bhq : List AV := [.ptr (K.of 256) 0, .sym .i64 (.v 3) []]
def bha : List HO := [rdO 256 258 259 257 (.v 1) (.v 2), rwO 257]
def bla : List HO := [rdO 256 258 259 257 (.app 86 uv) (.v 2), rwO 257]
def bkn : TR := .ret (.sym .i64 a2p [])
def blc : TM := .mk 94 bhq 260 bha (pI ++ ayw) none bkn 262 bla
def bjz : List HO := []
def bmb : TR := .pan [.mk (.iface 34 (.agg [.int .i64 5, .sym .i64 ab5 []])) false]
def bk6 : TM := .mk 94 bhq 260 bha (pI ++ ays) none bmb 262 bjz
def biw : List AV := [.ptr (K.of 256) 0]
def bf9 : List HO := [rdO 256 258 259 257 (.v 1) (.v 2), rwO 257]
def bmg : List HO := [rdO 256 258 259 257 (.app 90 js) (.v 2), rwO 257]
def bmw : TR := .ret (.sym .i64 zb [])
def a81 : TM := .mk 81 biw 260 bf9 (pI ++ a3v) none bmw 262 bmg
def bly : List HO := []
def bmj : TR := .pan [.mk (.iface 34 (.agg [.int .i64 5, .sym .i64 aho []])) false]
def bb2 : TM := .mk 81 biw 260 bf9 (pI ++ azp) none bmj 262 bly
end
theorem f78 {σ : Nat → List Int} (a : SE) : -1 ≤ (SE.app 78 (.i a .nil)).eval σ ∧ (SE.app 78 (.i a .nil)).eval σ ≤ 15 := by
 show -1 ≤ tg (a.eval σ) ∧ tg (a.eval σ) ≤ 15
 rw [rv]; repeat' split
 all_goals omega
theorem f79 {σ : Nat → List Int} (a : SE) : 0 ≤ (SE.app 79 (.i a .nil)).eval σ ∧ (SE.app 79 (.i a .nil)).eval σ ≤ 1 := by
 show 0 ≤ kh (a.eval σ) ∧ kh (a.eval σ) ≤ 1
 rw [mh]; split
 all_goals omega
theorem f77 {σ : Nat → List Int} (a : SE) : -1 ≤ (SE.app 77 (.i a .nil)).eval σ ∧ (SE.app 77 (.i a .nil)).eval σ ≤ 27 := by
 show -1 ≤ act (a.eval σ) ∧ act (a.eval σ) ≤ 27
 rw [aba]; repeat' split
 all_goals omega
theorem awp (R : List Int) : ∀ (n : Nat) (p c m : Int), ((R.length : Int) - p).toNat ≤ n → p ≤ (R.length : Int) → m ≤ 6 → p ≤ (kz R p c m).p ∧ (kz R p c m).p ≤ (R.length : Int) ∧ m ≤ (kz R p c m).a ∧ (kz R p c m).a ≤ 6
 | 0, p, c, m, h, hp, hm => by
   rw [xx, if_neg (by omega)]; dsimp only; omega
 | n + 1, p, c, m, h, hp, hm => by
   rw [xx]
   split
   ·split
    ·dsimp only; omega
    ·have := awp R n (p + 1) (gc 9 .i64 (gc 11 .i64 c 4) (tg (R.getD p.toNat 0))) (m + 1) (by omega) (by omega) (by omega)
     omega
   ·dsimp only; omega
theorem a82 (R : List Int) (p a : Int) (hp : p ≤ (R.length : Int)) : ((sq R p a).f = 0 ∨ (sq R p a).f = 5) ∧ ((sq R p a).f = 0 → p < (sq R p a).p ∧ (sq R p a).p ≤ (R.length : Int) ∧ 0 ≤ (sq R p a).c ∧ (sq R p a).c < 1114112) := by
 have h := awp R _ p 0 0 (zY _) hp (by omega)
 rw [x9]
 split
 ·split
  ·exact ⟨.inr rfl, fun h => absurd h (show ¬ (5 : Int) = 0 by decide)⟩
  ·rename_i h1 h2
   have h3 : kh (kz R p 0 0).c = 1 := by
    have : ¬ kh (kz R p 0 0).c = 0 := fun h => h2 (.inr (.inr h))
    rw [mh] at this ⊢
    split
    ·rfl
    ·rename_i h4; rw [if_neg h4] at this; exact absurd rfl this
   rw [mh] at h3
   split at h3
   ·exact ⟨.inl rfl, fun _ => by dsimp only; omega⟩
   ·exact absurd h3 (by decide)
 ·exact ⟨.inr rfl, fun h => absurd h (show ¬ (5 : Int) = 0 by decide)⟩
theorem bbs {R : List Int} (hR : rt R) (p : Int) (hp : p ≤ (R.length : Int)) : ((jd R p).f = 0 ∨ (jd R p).f = 5) ∧ ((jd R p).f = 0 → p < (jd R p).p ∧ (jd R p).p ≤ (R.length : Int) ∧ -1 ≤ (jd R p).c ∧ (jd R p).c < 1114112) := by
 have hr := bsx hR p.toNat
 rw [pq]
 split
 ·split
  ·exact ⟨.inl rfl, fun _ => by dsimp only; omega⟩
  ·split
   ·exact ⟨.inl rfl, fun _ => by dsimp only; omega⟩
   ·split
    ·obtain ⟨a, b⟩ := a82 R (p + 1) (p - 1) (by omega)
     exact ⟨a, fun h => by have := b h; omega⟩
    ·split
     ·exact ⟨.inr rfl, fun h => absurd h (show ¬ (5 : Int) = 0 by decide)⟩
     ·have := f77 (σ := fun _ => [R.getD p.toNat 0]) (.v 0)
      have : -1 ≤ act (R.getD p.toNat 0) ∧ act (R.getD p.toNat 0) ≤ 27 := this
      exact ⟨.inl rfl, fun _ => by dsimp only; omega⟩
 ·exact ⟨.inr rfl, fun h => absurd h (show ¬ (5 : Int) = 0 by decide)⟩
section
variable {σ : Nat → List Int}
theorem f80 (hR : rt (σ 0)) (a b c : SE) : a.eval σ ≤ (SE.len (.s 0)).eval σ → c.eval σ ≤ 6 → a.eval σ ≤ (SE.app 80 (.g (.s 0) (.i a (.i b (.i c .nil))))).eval σ ∧ (SE.app 80 (.g (.s 0) (.i a (.i b (.i c .nil))))).eval σ ≤ (SE.len (.s 0)).eval σ ∧ c.eval σ ≤ (SE.app 82 (.g (.s 0) (.i a (.i b (.i c .nil))))).eval σ ∧ (SE.app 82 (.g (.s 0) (.i a (.i b (.i c .nil))))).eval σ ≤ 6 := fun h h' => awp _ _ _ _ _ (zY _) h h'
theorem f83 (hR : rt (σ 0)) (a b : SE) : a.eval σ ≤ (SE.len (.s 0)).eval σ → ((SE.app 83 (.g (.s 0) (.i a (.i b .nil)))).eval σ = 0 ∨ (SE.app 83 (.g (.s 0) (.i a (.i b .nil)))).eval σ = 5) ∧ ((SE.app 83 (.g (.s 0) (.i a (.i b .nil)))).eval σ = 0 → a.eval σ < (SE.app 86 (.g (.s 0) (.i a (.i b .nil)))).eval σ ∧ (SE.app 86 (.g (.s 0) (.i a (.i b .nil)))).eval σ ≤ (SE.len (.s 0)).eval σ ∧ 0 ≤ (SE.app 85 (.g (.s 0) (.i a (.i b .nil)))).eval σ ∧ (SE.app 85 (.g (.s 0) (.i a (.i b .nil)))).eval σ < 1114112) := fun h => a82 _ _ _ h
theorem f87 (hR : rt (σ 0)) (a : SE) : a.eval σ ≤ (SE.len (.s 0)).eval σ → ((SE.app 87 (.g (.s 0) (.i a .nil))).eval σ = 0 ∨ (SE.app 87 (.g (.s 0) (.i a .nil))).eval σ = 5) ∧ ((SE.app 87 (.g (.s 0) (.i a .nil))).eval σ = 0 → a.eval σ < (SE.app 90 (.g (.s 0) (.i a .nil))).eval σ ∧ (SE.app 90 (.g (.s 0) (.i a .nil))).eval σ ≤ (SE.len (.s 0)).eval σ ∧ -1 ≤ (SE.app 89 (.g (.s 0) (.i a .nil))).eval σ ∧ (SE.app 89 (.g (.s 0) (.i a .nil))).eval σ < 1114112) := fun h => bbs hR _ h
end
theorem bvs {σ : Nat → List Int} (h : SAll σ awa) : 0 ≤ (σ 1).headD 0 ∧ (σ 1).headD 0 < 1114112 := bcv h
def b31 [Gv] : Prop := (SAll Gv.σ [] → cz 104 buu 256 bvi bs5 256 bve)
theorem bvd [Gv] (hI : SAll Gv.σ []) : b31 := by
 have u := trivial
 exact zm0 [] ac ai hI
theorem bp3 [Gv] : bn bu0 := fun σ _ hA _ => (@bvd ⟨σ⟩  (ak hA).1) (ak hA).2
def dgG [Gv] : Prop := (SAll Gv.σ [] → cz 104 dgU 256 dgI dgR 256 dgO)
theorem b5q [Gv] (hI : SAll Gv.σ awa) : dgG := by
 have hw := bvs hI
 rcases zl1 hI (.v 1) (.c 48) with ⟨hI, k1⟩ | ⟨hI, k1⟩
 ·have hI := zT1 hI (.v 1) (.c 97)
  have hI := zT1 hI (.v 1) (.c 65)
  have := zf1 (f78 (σ := Gv.σ) (.v 1))
  have u := zf7 (rv ((Gv.σ 1).headD 0))
  exact zm [] (.i (.c (-1)) wu .nil) ac ai hI ze1
 ·rcases zl1 hI (.c 57) (.v 1) with ⟨hI, k2⟩ | ⟨hI, k2⟩
  ·rcases zl1 hI (.v 1) (.c 97) with ⟨hI, k3⟩ | ⟨hI, k3⟩
   ·rcases zl1 hI (.v 1) (.c 65) with ⟨hI, k4⟩ | ⟨hI, k4⟩
    ·have := zf1 (f78 (σ := Gv.σ) (.v 1))
     have u := zf7 (rv ((Gv.σ 1).headD 0))
     exact zm [] (.i (.c (-1)) wu .nil) ac ai hI ze1
    ·rcases zl1 hI (.c 70) (.v 1) with ⟨hI, k5⟩ | ⟨hI, k5⟩
     ·have := zf1 (f78 (σ := Gv.σ) (.v 1))
      have u := zf7 (rv ((Gv.σ 1).headD 0))
      exact zm [] (.i (.c (-1)) wu .nil) ac ai hI ze1
     ·have := zf1 (f78 (σ := Gv.σ) (.v 1))
      have u := zf7 (rv ((Gv.σ 1).headD 0))
      exact zm [] (.i (.bin 0 .i64 (.bin 1 .i64 (.v 1) (.c 65)) (.c 10)) wu .nil) ac ai hI ze1
   ·rcases zl1 hI (.c 102) (.v 1) with ⟨hI, k4⟩ | ⟨hI, k4⟩
    ·have hI := zF1 hI (.v 1) (.c 65)
     have hI := zT1 hI (.c 70) (.v 1)
     have := zf1 (f78 (σ := Gv.σ) (.v 1))
     have u := zf7 (rv ((Gv.σ 1).headD 0))
     exact zm [] (.i (.c (-1)) wu .nil) ac ai hI ze1
    ·have := zf1 (f78 (σ := Gv.σ) (.v 1))
     have u := zf7 (rv ((Gv.σ 1).headD 0))
     exact zm [] (.i (.bin 0 .i64 (.bin 1 .i64 (.v 1) (.c 97)) (.c 10)) wu .nil) ac ai hI ze1
  ·have := zf1 (f78 (σ := Gv.σ) (.v 1))
   have u := zf7 (rv ((Gv.σ 1).headD 0))
   exact zm [] (.i (.bin 1 .i64 (.v 1) (.c 48)) wu .nil) ac ai hI ze1
theorem bsy [Gv] : bn dgF := fun σ _ hA _ => (@b5q ⟨σ⟩  (ak hA).1) (ak hA).2
def smG [Gv] : Prop := (SAll Gv.σ [] → cz 95 smU 256 smI smR 256 smO)
theorem b48 [Gv] (hI : SAll Gv.σ []) : smG := by
 rcases zq1 hI (.v 1) (.c 110) with ⟨hI, k1⟩ | ⟨hI, k1⟩
 ·have := zf1 (f77 (σ := Gv.σ) (.v 1))
  have u := zf7 (aba ((Gv.σ 1).headD 0))
  exact zm [] (.i (.c 10) ak7 .nil) ac ai hI ze1
 ·rcases zq1 hI (.v 1) (.c 116) with ⟨hI, k2⟩ | ⟨hI, k2⟩
  ·have := zf1 (f77 (σ := Gv.σ) (.v 1))
   have u := zf7 (aba ((Gv.σ 1).headD 0))
   exact zm [] (.i (.c 9) ak7 .nil) ac ai hI ze1
  ·rcases zq1 hI (.v 1) (.c 101) with ⟨hI, k3⟩ | ⟨hI, k3⟩
   ·have := zf1 (f77 (σ := Gv.σ) (.v 1))
    have u := zf7 (aba ((Gv.σ 1).headD 0))
    exact zm [] (.i (.c 27) ak7 .nil) ac ai hI ze1
   ·have := zf1 (f77 (σ := Gv.σ) (.v 1))
    have u := zf7 (aba ((Gv.σ 1).headD 0))
    exact zm [] (.i (.c (-1)) ak7 .nil) ac ai hI ze1
theorem btx [Gv] : bn smF := fun σ _ hA _ => (@b48 ⟨σ⟩  (ak hA).1) (ak hA).2
def b4q [Gv] : Prop := (SAll Gv.σ a7v → cz 105 bf6 256 be7 bj2 256 bl4) ∧ (SAll Gv.σ baf → cz 105 bf6 256 be7 bj0 256 bmz)
theorem bl3 [Gv] (hI : SAll Gv.σ []) : b4q := by
 rcases zl1 hI (.v 1) (.c 0) with ⟨hI, k1⟩ | ⟨hI, k1⟩
 ·have := zf1 (f79 (σ := Gv.σ) (.v 1))
  have u := zf7 (mh ((Gv.σ 1).headD 0))
  exact ⟨zn1,
   zm0 [] ac ai hI⟩
 ·rcases zl1 hI (.c 1114111) (.v 1) with ⟨hI, k2⟩ | ⟨hI, k2⟩
  ·have := zf1 (f79 (σ := Gv.σ) (.v 1))
   have u := zf7 (mh ((Gv.σ 1).headD 0))
   exact ⟨zn1,
    zm0 [] ac ai hI⟩
  ·rcases zl1 hI (.v 1) (.c 55296) with ⟨hI, k3⟩ | ⟨hI, k3⟩
   ·have := zf1 (f79 (σ := Gv.σ) (.v 1))
    have u := zf7 (mh ((Gv.σ 1).headD 0))
    exact ⟨zm0 [] ac ai hI,
     zn1⟩
   ·rcases zl1 hI (.c 57343) (.v 1) with ⟨hI, k4⟩ | ⟨hI, k4⟩
    ·have := zf1 (f79 (σ := Gv.σ) (.v 1))
     have u := zf7 (mh ((Gv.σ 1).headD 0))
     exact ⟨zm0 [] ac ai hI,
      zn1⟩
    ·have := zf1 (f79 (σ := Gv.σ) (.v 1))
     have u := zf7 (mh ((Gv.σ 1).headD 0))
     exact ⟨zn1,
      zm0 [] ac ai hI⟩
theorem bdo [Gv] : bn bmd := fun σ _ hA _ => (@bl3 ⟨σ⟩  (ak hA).1).1 (ak hA).2
theorem bfg [Gv] : bn bj7 := fun σ _ hA _ => (@bl3 ⟨σ⟩  (ak hA).1).2 (ak hA).2
theorem bu8 {σ : Nat → List Int} (h : SAll σ (pI ++ yb)) : (rt (σ 0) ∧ 0 ≤ (σ 1).headD 0 ∧ (σ 1).headD 0 ≤ ((σ 0).length : Int) ∧ (σ 0).length ≤ 4000) ∧ 0 ≤ (σ 6).headD 0 ∧ (σ 6).headD 0 ≤ 6 := by
 refine ⟨s9 (ak h).1, ?_⟩
 have := (ak h).2
 simp only [sall_cons, sF, evs] at this
 exact ⟨this.1, this.2.1⟩
theorem dg2 [Gv] : ∀ t ∈ [bu0, dgF], bn t := aor bp3 bsy
def bn3 [Gv] : Prop := (SAll Gv.σ [] → di 94 5 bpm 260 bos boh 260 bqw)
theorem bwv [Gv] (hh : ∀ t ∈ [cdl (mLn)], bh t) (hI : SAll Gv.σ (pI ++ yb)) : bn3 := by
 obtain ⟨⟨hR, hp0, hpl, hL⟩, hn0, hn6⟩ := bu8 hI
 rcases zl1 hI (.v 6) (.c 6) with ⟨hI, k1⟩ | ⟨hI, k1⟩
 ·rcases zl1 hI uj (.len (.s 0)) with ⟨hI, k2⟩ | ⟨hI, k2⟩
  ·have hI := zF1 hI uj (.c 0)
   have := zf1 (aq8 hR uj)
   have hI := zF1 hI n7 (.c 0)
   have hI := zT1 hI n7 (.c 1114112)
   have := zf1 (f78 (σ := Gv.σ) n7)
   rcases zl1 hI azo (.c 0) with ⟨hI, k6⟩ | ⟨hI, k6⟩
   ·have := zf1 (f80 hR (.v 1) (.v 5) (.v 6))
    have u := zf4 (xx (Gv.σ 0) ((Gv.σ 1).headD 0) ((Gv.σ 5).headD 0) ((Gv.σ 6).headD 0))
    exact zt [] (.i (.v 5) ah2 (.i (.v 6) ah4 (.i (.v 1) agm .nil))) (zh hI dg2) (zp hI hh) hI ze1
   ·have hI := zF1 hI gm (.c 0)
    have hI := zF1 hI (.len (.s 0)) gm
    have hI := zF1 hI aht (.c 0)
    have hI := zF1 hI (.c 6) aht
    have hI := zT1 hI ay2 bd0
    have hI := zF1 hI ay2 (.c 0)
    have := zf1 (f80 hR gm a2z aht)
    have := zf1 (f80 hR (.v 1) (.v 5) (.v 6))
    have u := zf4 (xx (Gv.σ 0) ((Gv.σ 1).headD 0) ((Gv.σ 5).headD 0) ((Gv.σ 6).headD 0))
    exact zt [] (.i (.app 81 aqo) ah2 (.i (.app 82 aqo) ah4 (.i (.app 80 aqo) agm .nil))) (zh hI dg2) (zp hI hh) hI ze1
  ·have := zf1 (f80 hR (.v 1) (.v 5) (.v 6))
   have u := zf4 (xx (Gv.σ 0) ((Gv.σ 1).headD 0) ((Gv.σ 5).headD 0) ((Gv.σ 6).headD 0))
   exact zt [] (.i (.v 5) ah2 (.i (.v 6) ah4 (.i (.v 1) agm .nil))) (zh hI dg2) (zp hI hh) hI ze1
 ·have := zf1 (f80 hR (.v 1) (.v 5) (.v 6))
  have u := zf4 (xx (Gv.σ 0) ((Gv.σ 1).headD 0) ((Gv.σ 5).headD 0) ((Gv.σ 6).headD 0))
  exact zt [] (.i (.v 5) ah2 (.i (.v 6) ah4 (.i (.v 1) agm .nil))) (zh hI dg2) (zp hI hh) hI ze1
theorem a0x : ∀ (B : Nat) (σ : Nat → List Int), SAll σ (pI ++ yb) → (mLn).eval σ < (B : Int) → @bn3 ⟨σ⟩
 | 0, σ, hI, hb => by obtain ⟨h1, h2, h3, h4⟩ := s9 (ak hI).1; simp only [mLn, evs, wr] at hb; omega
 | B + 1, σ, hI, hb => by
   have ih : ∀ σ' : Nat → List Int, SAll σ' (pI ++ yb) → 0 ≤ (mLn).eval σ' ∧ (mLn).eval σ' < (mLn).eval σ → @bn3 ⟨σ'⟩ := fun σ' h h' => a0x B σ' h (by omega)
   have hh : ∀ t ∈ [cdl (mLn)], @bh ⟨σ⟩ t := by
    intro t ht
    simp only [List.mem_cons, zH, or_false] at ht
    rcases ht with rfl
    ·exact fun σ' _ hA hb => (ih σ' (ak hA).1 hb) (ak hA).2
   exact @bwv ⟨σ⟩ hh hI
theorem aij [Gv] : bh b29 := fun σ _ hA _ => (a0x (((mLn).eval σ).toNat + 1) σ (ak hA).1 (by omega)) (ak hA).2
theorem is2 [Gv] : ∀ t ∈ [bmd, bj7], bn t := aor bdo bfg
def b35 [Gv] : Prop := (SAll Gv.σ ayw → cz 94 bhq 260 bha bkn 262 bla) ∧ (SAll Gv.σ ays → cz 94 bhq 260 bha bmb 262 bjz)
theorem blj [Gv] (hI : SAll Gv.σ pI) : b35 := by
 obtain ⟨hR, hp0, hpl, hL⟩ := s9 hI
 have := zf1 (f80 hR (.v 1) (.c 0) (.c 0))
 rcases zl1 hI ahy (.len (.s 0)) with ⟨hI, k1⟩ | ⟨hI, k1⟩
 ·have hI := zF1 hI ahy (.c 0)
  have := zf1 (aq8 hR ahy)
  have hI := zF1 hI ayy (.c 0)
  rcases zq1 hI (.app 82 ao9) (.c 0) with ⟨hI, k4⟩ | ⟨hI, k4⟩
  ·have := zf1 (f83 hR (.v 1) (.v 3))
   have u := zf4 (x9 (Gv.σ 0) ((Gv.σ 1).headD 0) ((Gv.σ 3).headD 0))
   exact ⟨zn1,
    zm [] (.i (.v 3) ab5 .nil) (zh hI is2) (zp hI (j5 aij)) hI ze1⟩
  ·rcases zq1 hI ayy (.c 92) with ⟨hI, k5⟩ | ⟨hI, k5⟩
   ·have := zf1 (f79 (σ := Gv.σ) aq7)
    rcases zq1 hI (.app 79 (.i aq7 .nil)) (.c 1) with ⟨hI, k6⟩ | ⟨hI, k6⟩
    ·have := zf1 (f83 hR (.v 1) (.v 3))
     have u := zf4 (x9 (Gv.σ 0) ((Gv.σ 1).headD 0) ((Gv.σ 3).headD 0))
     exact ⟨zm [] (.i aq7 a2p (.i (.bin 0 .i64 a3j (.c 1)) (.app 86 uv) .nil)) (zh hI is2) (zp hI (j5 aij)) hI ze1,
      zn1⟩
    ·have := zf1 (f83 hR (.v 1) (.v 3))
     have u := zf4 (x9 (Gv.σ 0) ((Gv.σ 1).headD 0) ((Gv.σ 3).headD 0))
     exact ⟨zn1,
      zm [] (.i (.v 3) ab5 .nil) (zh hI is2) (zp hI (j5 aij)) hI ze1⟩
   ·have := zf1 (f83 hR (.v 1) (.v 3))
    have u := zf4 (x9 (Gv.σ 0) ((Gv.σ 1).headD 0) ((Gv.σ 3).headD 0))
    exact ⟨zn1,
     zm [] (.i (.v 3) ab5 .nil) (zh hI is2) (zp hI (j5 aij)) hI ze1⟩
 ·have := zf1 (f83 hR (.v 1) (.v 3))
  have u := zf4 (x9 (Gv.σ 0) ((Gv.σ 1).headD 0) ((Gv.σ 3).headD 0))
  exact ⟨zn1,
   zm [] (.i (.len (.s 0)) ab5 .nil) (zh hI is2) (zp hI (j5 aij)) hI ze1⟩
theorem bio [Gv] : bn blc := fun σ _ hA _ => (@blj ⟨σ⟩  (ak hA).1).1 (ak hA).2
theorem bey [Gv] : bn bk6 := fun σ _ hA _ => (@blj ⟨σ⟩  (ak hA).1).2 (ak hA).2
theorem es3 [Gv] : ∀ t ∈ [smF, blc, bk6], bn t := by
 intro t ht
 simp only [List.mem_cons, zH, or_false] at ht
 rcases ht with rfl | rfl | rfl
 ·exact btx
 ·exact bio
 ·exact bey
def b3n [Gv] : Prop := (SAll Gv.σ a3v → cz 81 biw 260 bf9 bmw 262 bmg) ∧ (SAll Gv.σ azp → cz 81 biw 260 bf9 bmj 262 bly)
theorem bmu [Gv] (hI : SAll Gv.σ pI) : b3n := by
 obtain ⟨hR, hp0, hpl, hL⟩ := s9 hI
 rcases zl1 hI uj (.len (.s 0)) with ⟨hI, k1⟩ | ⟨hI, k1⟩
 ·have hI := zF1 hI uj (.c 0)
  have := zf1 (aq8 hR uj)
  have hI := zF1 hI n7 (.c 0)
  rcases zq1 hI n7 (.c 10) with ⟨hI, k4⟩ | ⟨hI, k4⟩
  ·have := zf1 (f87 hR (.v 1))
   have u := zf4 (pq (Gv.σ 0) ((Gv.σ 1).headD 0))
   exact ⟨zm [] (.i (.c (-1)) zb (.i gm abe .nil)) (zh hI es3) ai hI ze1,
    zn1⟩
  ·rcases zq1 hI n7 (.c 92) with ⟨hI, k5⟩ | ⟨hI, k5⟩
   ·have := zf1 (f87 hR (.v 1))
    have u := zf4 (pq (Gv.σ 0) ((Gv.σ 1).headD 0))
    exact ⟨zm [] (.i (.c 92) zb (.i gm abe .nil)) (zh hI es3) ai hI ze1,
     zn1⟩
   ·rcases zq1 hI n7 (.c 34) with ⟨hI, k6⟩ | ⟨hI, k6⟩
    ·have := zf1 (f87 hR (.v 1))
     have u := zf4 (pq (Gv.σ 0) ((Gv.σ 1).headD 0))
     exact ⟨zm [] (.i (.c 34) zb (.i gm abe .nil)) (zh hI es3) ai hI ze1,
      zn1⟩
    ·rcases zq1 hI n7 (.c 120) with ⟨hI, k7⟩ | ⟨hI, k7⟩
     ·have hI := zF1 hI gm (.c 0)
      have hI := zF1 hI (.len (.s 0)) gm
      have := zf1 (f83 hR gm arb)
      rcases zq1 hI (.app 83 ag9) (.c 0) with ⟨hI, k10⟩ | ⟨hI, k10⟩
      ·have := zf1 (f87 hR (.v 1))
       have u := zf4 (pq (Gv.σ 0) ((Gv.σ 1).headD 0))
       exact ⟨zm [] (.i (.app 85 ag9) zb (.i (.app 86 ag9) abe .nil)) (zh hI es3) ai hI ze1,
        zn1⟩
      ·have := zf1 (f87 hR (.v 1))
       have u := zf4 (pq (Gv.σ 0) ((Gv.σ 1).headD 0))
       exact ⟨zn1,
        zm [] (.i (.app 84 ag9) aho .nil) (zh hI es3) ai hI ze1⟩
     ·have := zf1 (f77 (σ := Gv.σ) n7)
      rcases zl1 hI azf (.c 0) with ⟨hI, k8⟩ | ⟨hI, k8⟩
      ·have := zf1 (f87 hR (.v 1))
       have u := zf4 (pq (Gv.σ 0) ((Gv.σ 1).headD 0))
       exact ⟨zn1,
        zm [] (.i arb aho .nil) (zh hI es3) ai hI ze1⟩
      ·have := zf1 (f87 hR (.v 1))
       have u := zf4 (pq (Gv.σ 0) ((Gv.σ 1).headD 0))
       exact ⟨zm [] (.i azf zb (.i gm abe .nil)) (zh hI es3) ai hI ze1,
        zn1⟩
 ·have := zf1 (f87 hR (.v 1))
  have u := zf4 (pq (Gv.σ 0) ((Gv.σ 1).headD 0))
  exact ⟨zn1,
   zm [] (.i (.len (.s 0)) aho .nil) (zh hI es3) ai hI ze1⟩
theorem a1l [Gv] : bn a81 := fun σ _ hA _ => (@bmu ⟨σ⟩  (ak hA).1).1 (ak hA).2
theorem a16 [Gv] : bn bb2 := fun σ _ hA _ => (@bmu ⟨σ⟩  (ak hA).1).2 (ak hA).2
end Go.Ev
