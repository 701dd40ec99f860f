import Derived.Test.YtocilenpboklbaaGreatDoorHsD
set_option maxRecDepth 100000
set_option linter.all false
namespace Go.Ev
abbrev avr : AL := .g (.s 5) (.i (.v 1) (.i (.v 2) .nil))
abbrev aa6 : AL := .g (.s 5) .nil
abbrev aox : SE := .app 221 aa6
abbrev wu : SE := .app 235 avr
abbrev a52 : SE := .bin 7 .i64 (.c 2) wu
abbrev ao3 : List SA := [.mk false aox (.c 1) true, .mk false (.app 239 aa6) (.c 1) true, .mk true wu (.c 0) false, .mk true (.v 21) (.c 0) false, .mk false (.len (.s 20)) (.v 23) true, .mk true (.v 23) (.c 1) false, .mk true (.bin 6 .i64 (.v 21) (.c 10)) (.v 23) false, .mk true (.c 200) (.v 22) false, .mk true (.v 22) (.c 0) false, .mk true (.c 30000) (.bin 6 .i64 (.v 21) a52) false]
abbrev a54 : SE := .bin 6 .i64 (.v 22) wu
abbrev a55 : List SA := [.mk true (.c 200) a54 false]
abbrev a56 : List SA := [.mk true (.c 200) a54 true]
abbrev ayl : List SA := [.mk true (.len (.s 3)) (.c 1) false, .mk true (.c 20000) (.len (.s 3)) false]
abbrev aym : List SA := [.mk false aox (.c 1) true, .mk false (.app 233 aa6) (.c 1) true, .mk false (.v 1) (.c 2) true, .mk false (.v 2) (.c 0) true]
abbrev ayn : List SA := [.mk false aox (.c 1) true, .mk false (.app 234 aa6) (.c 1) true, .mk false (.v 1) (.c 2) true, .mk false (.v 2) (.c 0) true]
abbrev aou : List SA := [.mk false aox (.c 1) true, .mk false (.app 239 aa6) (.c 1) true, .mk true wu (.c 0) false]
abbrev ayo : List SA := [.mk true (.c 200) wu false]
abbrev ayp : List SA := [.mk true (.c 200) wu true]
abbrev agc : SE := .app 203 avr
abbrev zn : SE := .app 236 (.g (.s 5) (.i (.v 2) .nil))
abbrev acw : SE := .bin 0 .i64 (.v 21) (.c 1)
abbrev acx : SE := .bin 6 .i64 (.v 23) (.c 1)
abbrev ayq : GE := .app 208 (.g (.s 5) (.i (.v 2) .nil))
abbrev te : SE := .app 235 (.g (.s 5) (.i (.rd ayq (.bin 7 .i64 (.c 2) (.c 0))) (.i (.rd ayq (.bin 6 .i64 (.bin 7 .i64 (.c 2) (.c 0)) (.c 1))) .nil)))
abbrev agd : SE := .bin 0 .i64 (.v 22) (.c 1)
abbrev aov : SE := .bin 7 .i64 (.c 2) te
abbrev aow : SE := .bin 6 .i64 aov (.c 1)
abbrev ayr : SE := .bin 0 .i64 (.bin 6 .i64 acw aow) (.c 1)
abbrev ays : SE := .bin 6 .i64 (.bin 6 .i64 acx aow) (.c 1)
abbrev ayt : SE := .bin 6 .i64 a52 (.c 1)
abbrev ayu : SE := .bin 6 .i64 (.v 23) ayt
abbrev ayv : SE := .bin 6 .i64 (.v 21) ayt
abbrev ayw : AL := .i te .nil
abbrev ayx : GE := .cat (.app 245 (.g (.one (.c 91)) ayw)) (.cat (.one (.c 55)) (.app 245 (.g (.one (.c 93)) ayw)))
abbrev ayy : AL := .i wu .nil
abbrev aoy : GE := .cat (.app 245 (.g (.one (.c 91)) ayy)) (.cat (.one (.c 55)) (.app 245 (.g (.one (.c 93)) ayy)))
abbrev ayz : GE := .cat (.s 20) aoy
abbrev acy : SE := .c (-9223372036854775808)
abbrev acz : SE := .c 9223372036854775807
abbrev age : GE := .app 121 (.i (.v 2) .nil)
abbrev tf : SE := .len age
abbrev ay0 : SE := .app 228 (.g age .nil)
abbrev ay1 : SE := .bin 0 .i64 (.v 21) tf
abbrev ay2 : SE := .bin 6 .i64 (.v 23) tf
abbrev aoz : SE := .app 204 (.g (.s 5) (.i (.v 2) (.i (.c 3) .nil)))
abbrev ao0 : AL := .g (.s 5) (.i (.v 2) (.i (.c 4) .nil))
abbrev tg : SE := .app 204 ao0
abbrev ay3 : SE := .app 203 (.g (.s 5) (.i aoz (.i tg .nil)))
abbrev ay4 : SE := .app 204 (.g (.s 5) (.i tg (.i (.c 3) .nil)))
abbrev agf : SE := .app 228 (.g (.lit 1 40) .nil)
abbrev th : SE := .app 204 (.g (.s 5) (.i (.v 2) (.i (.c 1) .nil)))
abbrev ti : SE := .app 204 (.g (.s 5) (.i (.v 2) (.i (.c 2) .nil)))
abbrev ay5 : GE := .app 121 (.i ti .nil)
abbrev ac0 : SE := .len ay5
abbrev ao1 : SE := .app 228 (.g ay5 .nil)
abbrev tj : SE := .bin 0 .i64 (.c 1) ac0
abbrev pa : SE := .bin 6 .i64 (.c 1) ac0
abbrev ao2 : SE := .bin 6 .i64 tj (.c 10)
abbrev ay6 : SE := .bin 6 .i64 (.bin 6 .i64 tj (.bin 7 .i64 (.c (-2)) tg)) (.c 22000)
abbrev ay7 : SE := .bin 6 .i64 (.c 1) aow
abbrev ay8 : SE := .bin 6 .i64 ay7 (.c 1)
noncomputable section
def mVd : SE := (.app 235 avr)
def a83 : List AV := [.ptr (K.of 257) 0, wd (.v 1) (.v 2)]
def a80 : List HO := [bx 257 98 [.ptr (K.of 257) 0, .gv (.sl (K.of 259) 1 (.v 23) []), .ptr (K.of 256) 0, .ptr (K.of 258) 0, .bool true, sX (.v 21), sX (.v 22)], hH 256 (.s 5), .mk 259 (.gob (.gh 5 [.u8] (.v 23) (.s 20)))]
def baj : List HO := [bx 257 98 [.ptr (K.of 257) 0, .gv (.sl (K.of 290) 1 (.bin 6 .i64 (.v 23) (.bin 6 .i64 (.bin 7 .i64 (.c 2) mVd) (.c 1))) []), .ptr (K.of 256) 0, .ptr (K.of 258) 0, .bool true, sX (.bin 6 .i64 (.v 21) (.bin 6 .i64 (.bin 7 .i64 (.c 2) mVd) (.c 1))), sX (.v 22)], hH 256 (.s 5), .mk 290 (.gob (.gh 5 [.u8] (.bin 6 .i64 (.v 23) (.bin 6 .i64 (.bin 7 .i64 (.c 2) mVd) (.c 1))) (.cat (.s 20) (.cat (.app 245 (.g (.one (.c 91)) (.i mVd .nil))) (.cat (.one (.c 55)) (.app 245 (.g (.one (.c 93)) (.i mVd .nil))))))))]
def bak : TR := .ret (.tuple [])
def bch (m : SE) : TM := .mk 54 a83 260 a80 (ao3 ++ a55) (some (mVd, m)) bak 300 baj
def bai : TM := znm (bch (.c 0))
def bam : List HO := [hH 256 (.s 5)]
def ban : TR := .pan [.mk (.iface 30 (.int .i64 12)) false]
def bci (m : SE) : TM := .mk 54 a83 260 a80 (ao3 ++ a56) (some (mVd, m)) ban 300 bam
def bal : TM := znm (bci (.c 0))
def bhf : List AV := [.ptr (K.of 257) 0, .gv (.str (.s 3) [])]
def bhc : List HO := [bx 257 98 [.nilPtr, .nilSlice, .ptr (K.of 256) 0, .ptr (K.of 258) 0, .bool true, sX (.v 21), sX (.v 22)]]
def bhd : List HO := [bx 257 98 [.ptr (K.of 257) 0, .gv (.sl (K.of 259) 1 (.len (.s 3)) []), .ptr (K.of 256) 0, .ptr (K.of 258) 0, .bool true, sX (.v 21), sX (.v 22)], .mk 259 (.gob (.gh 5 [.u8] (.len (.s 3)) (.s 3)))]
def bhe : TR := .ret (.tuple [sX (.len (.s 3)), .nilIface])
def a8v : TM := .mk 132 bhf 259 bhc (ayl ++ []) none bhe 265 bhd
def bg0 : List AV := [hpp, .ptr (K.of 257) 0, wd (.v 1) (.v 2), .bool true]
def bgx : List HO := [hH 256 (.s 5), bx 257 111 [.gv (.sl (K.of 258) 6 (.c 62) []), .map (K.of 259)], .mk 258 (.gob (.junk 171)), .mk 259 (.gob (.gmap (.s 4)))]
def bgy : List HO := [hH 256 (.s 5), bx 257 111 [.gv (.sl (K.of 258) 6 (.c 62) []), .map (K.of 259)], .mk 258 (.gob (.junk 171)), .mk 259 (.gob (.gmap (.s 4)))]
def bgz : TR := .ret (.tuple [.str 0 0, .int .i64 4])
def bgw : TM := .mk 16 bg0 260 bgx (aym ++ []) none bgz 320 bgy
def bgv : List AV := [hpp, .ptr (K.of 257) 0, wd (.v 1) (.v 2), .bool true]
def bgs : List HO := [hH 256 (.s 5), bx 257 111 [.gv (.sl (K.of 258) 6 (.c 62) []), .map (K.of 259)], .mk 258 (.gob (.junk 171)), .mk 259 (.gob (.gmap (.s 4)))]
def bgt : List HO := [hH 256 (.s 5), bx 257 111 [.gv (.sl (K.of 258) 6 (.c 62) []), .map (K.of 259)], .mk 258 (.gob (.junk 171)), .mk 259 (.gob (.gmap (.s 4)))]
def bgu : TR := .ret (.tuple [.str 0 0, .int .i64 12])
def bgr : TM := .mk 16 bgv 260 bgs (ayn ++ []) none bgu 320 bgt
def a8p : List AV := [hpp, .ptr (K.of 257) 0, wd (.v 1) (.v 2), .bool true]
def a8m : List HO := [hH 256 (.s 5), bx 257 111 [.gv (.sl (K.of 258) 6 (.c 62) []), .map (K.of 259)], .mk 258 (.gob (.junk 171)), .mk 259 (.gob (.gmap (.s 4)))]
def a99 : List HO := [hH 256 (.s 5), bx 257 111 [.gv (.sl (K.of 258) 6 (.c 62) []), .map (K.of 259)], .mk 258 (.gob (.junk 171)), .mk 259 (.gob (.gmap (.s 4)))]
def baa : TR := .ret (.tuple [.gv (.str (.cat (.app 245 (.g (.one (.c 91)) (.i mVd .nil))) (.cat (.one (.c 55)) (.app 245 (.g (.one (.c 93)) (.i mVd .nil))))) []), .int .i64 0])
def a98 : TM := .mk 16 a8p 260 a8m (aou ++ ayo) none baa 320 a99
def bac : List HO := [hH 256 (.s 5), bx 257 111 [.gv (.sl (K.of 258) 6 (.c 62) []), .map (K.of 259)], .mk 258 (.gob (.junk 171)), .mk 259 (.gob (.gmap (.s 4)))]
def bae : TR := .ret (.tuple [.str 0 0, .int .i64 12])
def bab : TM := .mk 16 a8p 260 a8m (aou ++ ayp) none bae 320 bac
end
def bhg [Gv] : Prop := (SAll Gv.σ a55 → di 54 a83 260 a80 bak 300 baj) ∧ (SAll Gv.σ a56 → di 54 a83 260 a80 ban 300 bam)
theorem bdq [Gv] (hw : ∀ t ∈ [ae9, afd, ae3, ae4, afa, afb, ae8, afe, afh, a70, a8t, bch mVd, bci mVd], cy t) (hI : SAll Gv.σ ao3) : bhg := by
 have q := zf7 (hI)
 obtain ⟨hP, hV, l1, b1, b2, b3, b4, b5, b6, b7, _⟩ := q
 have w := fvd l1 hV
 have r4 : (Gv.σ 1).headD 0 = 4 → n8 (Gv.σ 5) ((Gv.σ 1).headD 0) ((Gv.σ 2).headD 0) = n8 (Gv.σ 5) ((obL (Gv.σ 5) ((Gv.σ 2).headD 0)).tail.getD 0 0) ((obL (Gv.σ 5) ((Gv.σ 2).headD 0)).tail.getD 1 0) + 1 := by omega
 have r0 : (Gv.σ 1).headD 0 = 0 → n8 (Gv.σ 5) ((Gv.σ 1).headD 0) ((Gv.σ 2).headD 0) = 0 := by omega
 have hI := bcl hI (.v 1) (.c 2)
 rcases bhl hI (.v 1) (.c 4) with ⟨hI, k2⟩ | ⟨hI, k2⟩
 ·have hI := akd hI agc (.c 1)
  have hI := a1p hI (.c 0) zn
  have hI := m0 hI (.c 400000) zn
  rcases bcm hI (.v 22) (.c 200) with ⟨hI, k6⟩ | ⟨hI, k6⟩
  ·have hI := akd hI (.app 228 (.g (.lit 1 91) .nil)) (.c 1)
   have hI := m0 hI (.c 65536) acw
   have hI := m0 hI (.c 400000) acx
   have hI := m0 hI te (.c 0)
   have hI := m0 hI acw (.c 0)
   have hI := akd hI (.bin 6 .i64 (.len (.s 20)) (.c 1)) acx
   have hI := m0 hI acx (.c 1)
   have hI := m0 hI (.bin 6 .i64 acw (.c 10)) acx
   have hI := m0 hI (.c 200) agd
   have hI := m0 hI agd (.c 0)
   have hI := m0 hI (.c 30000) (.bin 6 .i64 acw aov)
   rcases bcm hI (.c 200) (.bin 6 .i64 agd te) with ⟨hI, k18⟩ | ⟨hI, k18⟩
   ·have hI := a1p hI te wu
    have u := l1
    exact ⟨zn2,
     zm0 [] (zh hI hw) d7 hI⟩
   ·have hI := a1p hI te wu
    have hI := m0 hI (.c 1) zn
    have hI := akd hI (.app 228 (.g (.lit 1 93) .nil)) (.c 1)
    have hI := m0 hI (.c 65536) ayr
    have hI := m0 hI (.c 400000) ays
    have u := l1
    exact ⟨zm [(319, 290)] (.i ays ayu (.i ayr ayv (.i (.bin 1 .i64 agd (.c 1)) (.v 22) (.g (.cat (.cat (.cat (.s 20) (.lit 1 91)) ayx) (.lit 1 93)) ayz .nil)))) (zh hI hw) d7 hI ze3,
     zn2⟩
  ·have u := l1
   exact ⟨zn2,
    zm0 [] (zh hI hw) d7 hI⟩
 ·have hI := akd hI (.v 1) (.c 0)
  have hI := m0 hI (.v 2) acy
  have hI := m0 hI acz (.v 2)
  have hI := m0 hI (.c 20000) tf
  have hI := akd hI ay0 (.c 1)
  have hI := m0 hI (.c 65536) ay1
  have hI := m0 hI (.c 400000) ay2
  have u := l1
  exact ⟨zm [(264, 290)] (.i ay2 ayu (.i ay1 ayv (.g (.cat (.s 20) age) ayz .nil))) (zh hI hw) d7 hI ze3,
   zn2⟩
theorem aoe : ∀ (B : Nat) (σ : Nat → List Int), (SAll σ ao3 → (mVd).eval σ < (B : Int) → @bhg ⟨σ⟩)
 | 0, σ => fun hI hb => by exfalso; have q := hI; simp (disch := omega) only [sall_cons, sT, sF, sE, sN, evs, evE, aeq, rgN1, nsN1, chN1, vcsN1] at q; obtain ⟨hP, hV, l1, b1, b2, b3, b4, b5, b6, b7, _⟩ := q; simp only [mVd, evs, evE, wr] at hb; omega
 | B + 1, σ => by
   have ih := aoe B
   ·intro hI hb
    have hw : ∀ t ∈ [ae9, afd, ae3, ae4, afa, afb, ae8, afe, afh, a70, a8t, bch mVd, bci mVd], @cy ⟨σ⟩ t := by
     intro t ht
     simp only [List.mem_cons, zH, or_false] at ht
     rcases ht with rfl | rfl | rfl | rfl | rfl | rfl | rfl | rfl | rfl | rfl | rfl | rfl | rfl
     ·exact @vz ⟨σ⟩
     ·exact @wa ⟨σ⟩
     ·exact @vk ⟨σ⟩
     ·exact @vl ⟨σ⟩
     ·exact @v6 ⟨σ⟩
     ·exact @v8 ⟨σ⟩
     ·exact @aap ⟨σ⟩
     ·exact @aa0 ⟨σ⟩
     ·exact @aa5 ⟨σ⟩
     ·exact @aw5 ⟨σ⟩
     ·exact @axt ⟨σ⟩
     ·exact fun σ' _ hA hb' => ((ih σ') (fe hA).1 (by have z : 0 ≤ (mVd).eval σ' ∧ (mVd).eval σ' < (mVd).eval σ := hb'; omega)).1 (fe hA).2
     ·exact fun σ' _ hA hb' => ((ih σ') (fe hA).1 (by have z : 0 ≤ (mVd).eval σ' ∧ (mVd).eval σ' < (mVd).eval σ := hb'; omega)).2 (fe hA).2
    exact @bdq ⟨σ⟩ hw hI
theorem a81 [Gv] : cy bai := fun σ _ hA _ => ((aoe (((mVd).eval σ).toNat + 1) σ) (fe hA).1 (by omega)).1 (fe hA).2
theorem a82 [Gv] : cy bal := fun σ _ hA _ => ((aoe (((mVd).eval σ).toNat + 1) σ) (fe hA).1 (by omega)).2 (fe hA).2
def bjq [Gv] : Prop := (SAll Gv.σ [] → di 132 bhf 259 bhc bhe 265 bhd)
theorem bdp [Gv] (hI : SAll Gv.σ ayl) : bjq := by
 have q := zf7 (hI)
 obtain ⟨l1, l2, _⟩ := q
 have hI := zT4 hI (.c 0) (.len (.s 3))
 have hI := zF4 hI (.c 400000) (.len (.s 3))
 have u := l1
 exact zm0 [(259, 259)] c9 d7 hI
theorem avh [Gv] : cy a8v := fun σ _ hA _ => (@bdp ⟨σ⟩  (fe hA).1) (fe hA).2
theorem hwr [Gv] : ∀ t ∈ [ae9, afd, ae3, ae4, afa, afb, ae8, afe, afh, a8v], cy t := by
 intro t ht
 simp only [List.mem_cons, zH, or_false] at ht
 rcases ht with rfl | rfl | rfl | rfl | rfl | rfl | rfl | rfl | rfl | rfl
 ·exact vz
 ·exact wa
 ·exact vk
 ·exact vl
 ·exact v6
 ·exact v8
 ·exact aap
 ·exact aa0
 ·exact aa5
 ·exact avh
theorem hlr [Gv] : ∀ t ∈ [bfx], lf t := wc bb2
def bjl [Gv] : Prop := (SAll Gv.σ [] → di 16 bg0 260 bgx bgz 320 bgy)
theorem bdl [Gv] (hI : SAll Gv.σ aym) : bjl := by
 have q := zf7 (hI)
 obtain ⟨hP, hR, e1, e2, _⟩ := q
 obtain ⟨k1, k2, _⟩ := id hR
 have w := zf9 (frg (σ := Gv.σ) hR (.v 2))
 obtain ⟨p1, p2, p3, p4⟩ := anb hP
 simp (disch := omega) only [evs, wr, zP, zO, zS, zJ, zD, evq, evE, evL, ah, b9, ca, cb, Nat.reduceAdd, Int.reduceAdd, Int.reduceNeg, Int.reduceMul, Int.reduceToNat] at p1 p2 p4
 have hI := zN5 hI (.rd (.s 5) (.c 0)) (.c 0)
 have hI := zE5 hI agc (.c 1)
 have hI := zE5 hI aoz (.c 2)
 have hI := zE5 hI ay3 (.c 1)
 have t1 := zf5 (frg (σ := Gv.σ) hR (.app 204 ao0))
 have hI := zN5 hI ay4 (.c 1)
 have hI := zE5 hI agf (.c 1)
 have hI := zN5 hI th (.c 2)
 have hI := zE5 hI th (.c 0)
 have hI := zF5 hI ti acy
 have hI := zF5 hI acz ti
 have hI := zF5 hI (.c 20000) ac0
 have hI := zE5 hI ao1 (.c 1)
 have hI := zF5 hI (.c 65536) tj
 have hI := zF5 hI (.c 400000) pa
 have hI := zF5 hI tj (.c 0)
 have hI := zF5 hI pa (.c 1)
 have hI := zF5 hI (.c 70000) pa
 have hI := zF5 hI ao2 pa
 have u := e1
 exact zm0 [] (zh hI hwr) (lw hI _ hlr) hI
theorem bb7 [Gv] : cy bgw := fun σ _ hA _ => (@bdl ⟨σ⟩  (fe hA).1) (fe hA).2
theorem hwn [Gv] : ∀ t ∈ [ae9, afd, ae3, ae4, afa, afb, ae8, afe, afh, a8v, bg6], cy t := by
 intro t ht
 simp only [List.mem_cons, zH, or_false] at ht
 rcases ht with rfl | rfl | rfl | rfl | rfl | rfl | rfl | rfl | rfl | rfl | rfl
 ·exact vz
 ·exact wa
 ·exact vk
 ·exact vl
 ·exact v6
 ·exact v8
 ·exact aap
 ·exact aa0
 ·exact aa5
 ·exact avh
 ·exact bcd
theorem hln [Gv] : ∀ t ∈ [be0], lf t := wc bbp
def bjk [Gv] : Prop := (SAll Gv.σ [] → di 16 bgv 260 bgs bgu 320 bgt)
theorem bdk [Gv] (hI : SAll Gv.σ ayn) : bjk := by
 have q := zf7 (hI)
 obtain ⟨hP, hR, e1, e2, _⟩ := q
 obtain ⟨k1, k2, _⟩ := id hR
 have w := zf9 (fns (σ := Gv.σ) hR (.v 2))
 obtain ⟨p1, p2, p3, p4⟩ := anb hP
 simp (disch := omega) only [evs, wr, zP, zO, zS, zJ, zD, evq, evE, evL, ah, b9, ca, cb, Nat.reduceAdd, Int.reduceAdd, Int.reduceNeg, Int.reduceMul, Int.reduceToNat] at p1 p2 p4
 have hI := zN5 hI (.rd (.s 5) (.c 0)) (.c 0)
 have hI := zE5 hI agc (.c 1)
 rcases zq5 hI aoz (.c 2) with ⟨hI, k3⟩ | ⟨hI, k3⟩
 ·have hI := zE5 hI ay3 (.c 1)
  have t1 := zf5 (fns (σ := Gv.σ) hR (.app 204 ao0))
  rcases zq5 hI ay4 (.c 1) with ⟨hI, k5⟩ | ⟨hI, k5⟩
  ·have hI := zE5 hI (.app 204 (.g (.s 5) (.i tg (.i (.c 4) .nil)))) (.c 0)
   have hI := zN5 hI th (.c 1)
   have hI := zE5 hI agf (.c 1)
   have hI := zN5 hI th (.c 2)
   have hI := zE5 hI th (.c 0)
   have hI := zF5 hI ti acy
   have hI := zF5 hI acz ti
   have hI := zF5 hI (.c 20000) ac0
   have hI := zE5 hI ao1 (.c 1)
   have hI := zF5 hI (.c 65536) tj
   have hI := zF5 hI (.c 400000) pa
   have hI := zF5 hI tg (.c 1)
   have hI := zT5 hI tg (.app 201 aa6)
   have hI := zF5 hI tj (.c 0)
   have hI := zF5 hI pa (.c 1)
   have hI := zF5 hI ao2 pa
   have hI := zF5 hI (.c 30000) ay6
   have u := e1
   exact zm0 [] (zh hI hwn) (lw hI _ hln) hI
  ·have hI := zE5 hI agf (.c 1)
   have hI := zN5 hI th (.c 2)
   have hI := zE5 hI th (.c 0)
   have hI := zF5 hI ti acy
   have hI := zF5 hI acz ti
   have hI := zF5 hI (.c 20000) ac0
   have hI := zE5 hI ao1 (.c 1)
   have hI := zF5 hI (.c 65536) tj
   have hI := zF5 hI (.c 400000) pa
   have hI := zF5 hI tg (.c 1)
   have hI := zT5 hI tg (.app 201 aa6)
   have hI := zF5 hI tj (.c 0)
   have hI := zF5 hI pa (.c 1)
   have hI := zF5 hI ao2 pa
   have hI := zF5 hI (.c 30000) ay6
   have u := e1
   exact zm0 [] (zh hI hwn) (lw hI _ hln) hI
 ·have hI := zE5 hI agf (.c 1)
  have hI := zE5 hI th (.c 2)
  have hI := zE5 hI ti (.c 0)
  have u := e1
  exact zm0 [] (zh hI hwn) (lw hI _ hln) hI
theorem bb6 [Gv] : cy bgr := fun σ _ hA _ => (@bdk ⟨σ⟩  (fe hA).1) (fe hA).2
theorem hwx [Gv] : ∀ t ∈ [ae9, afd, ae3, ae4, afa, afb, ae8, afe, afh, a70, a8t, a8v, bai, bal], cy t := by
 intro t ht
 simp only [List.mem_cons, zH, or_false] at ht
 rcases ht with rfl | rfl | rfl | rfl | rfl | rfl | rfl | rfl | rfl | rfl | rfl | rfl | rfl | rfl
 ·exact vz
 ·exact wa
 ·exact vk
 ·exact vl
 ·exact v6
 ·exact v8
 ·exact aap
 ·exact aa0
 ·exact aa5
 ·exact aw5
 ·exact axt
 ·exact avh
 ·exact a81
 ·exact a82
def bjn [Gv] : Prop := (SAll Gv.σ ayo → di 16 a8p 260 a8m baa 320 a99) ∧ (SAll Gv.σ ayp → di 16 a8p 260 a8m bae 320 bac)
theorem a9l [Gv] (hI : SAll Gv.σ aou) : bjn := by
 have q := zf7 (hI)
 obtain ⟨hP, hV, l1, _⟩ := q
 have w := fvd l1 hV
 have r4 : (Gv.σ 1).headD 0 = 4 → n8 (Gv.σ 5) ((Gv.σ 1).headD 0) ((Gv.σ 2).headD 0) = n8 (Gv.σ 5) ((obL (Gv.σ 5) ((Gv.σ 2).headD 0)).tail.getD 0 0) ((obL (Gv.σ 5) ((Gv.σ 2).headD 0)).tail.getD 1 0) + 1 := by omega
 have r0 : (Gv.σ 1).headD 0 = 0 → n8 (Gv.σ 5) ((Gv.σ 1).headD 0) ((Gv.σ 2).headD 0) = 0 := by omega
 obtain ⟨p1, p2, p3, p4⟩ := anb hP
 simp (disch := omega) only [evs, wr, zP, zO, zS, zJ, zD, evq, evE, evL, ah, b9, ca, cb, Nat.reduceAdd, Int.reduceAdd, Int.reduceNeg, Int.reduceMul, Int.reduceToNat] at p1 p2 p4
 have hI := bcl hI (.rd (.s 5) (.c 0)) (.c 0)
 have hI := bcl hI (.v 1) (.c 2)
 rcases bhl hI (.v 1) (.c 4) with ⟨hI, k3⟩ | ⟨hI, k3⟩
 ·have hI := akd hI agc (.c 1)
  have hI := a1p hI (.c 0) zn
  have hI := m0 hI (.c 400000) zn
  have hI := akd hI (.app 228 (.g (.lit 1 91) .nil)) (.c 1)
  have hI := m0 hI te (.c 0)
  have hI := m0 hI (.c 30000) (.bin 6 .i64 (.c 1) aov)
  rcases bcm hI (.c 200) (.bin 6 .i64 (.c 1) te) with ⟨hI, k10⟩ | ⟨hI, k10⟩
  ·have u := l1
   exact ⟨zn2,
    zm0 [] (zh hI hwx) d7 hI⟩
  ·have hI := m0 hI (.c 1) zn
   have hI := akd hI (.app 228 (.g (.lit 1 93) .nil)) (.c 1)
   have hI := m0 hI (.c 65536) (.bin 0 .i64 ay7 (.c 1))
   have hI := m0 hI (.c 400000) ay8
   have hI := a1p hI (.c 0) ay8
   have u := l1
   exact ⟨zm [] (.g (.cat (.cat (.lit 1 91) ayx) (.lit 1 93)) aoy .nil) (zh hI hwx) d7 hI ze3,
    zn2⟩
 ·have hI := akd hI (.v 1) (.c 0)
  have hI := m0 hI (.v 2) acy
  have hI := m0 hI acz (.v 2)
  have hI := m0 hI (.c 20000) tf
  have hI := akd hI ay0 (.c 1)
  have hI := m0 hI (.c 65536) (.bin 0 .i64 (.c 0) tf)
  have hI := m0 hI tf (.c 1)
  have hI := a1p hI (.c 0) tf
  have hI := m0 hI (.c 400000) tf
  have u := l1
  exact ⟨zm [] (.g age aoy .nil) (zh hI hwx) d7 hI ze3,
   zn2⟩
theorem a8n [Gv] : cy a98 := fun σ _ hA _ => (@a9l ⟨σ⟩  (fe hA).1).1 (fe hA).2
theorem a8o [Gv] : cy bab := fun σ _ hA _ => (@a9l ⟨σ⟩  (fe hA).1).2 (fe hA).2
end Go.Ev
