import Derived.Test.YtocilenpboklbaaGreatDoorHpSq
set_option maxRecDepth 100000
set_option linter.all false
namespace Go.Ev
abbrev ai4 : AL := .g (.s 5) (.i (.v 1) (.i (.v 2) .nil))
abbrev anr : AL := .g (.s 5) (.g (.s 7) (.i (.v 3) (.i (.v 4) .nil)))
abbrev anv : SE := .app 221 (.g (.s 5) .nil)
abbrev auw : SE := .bin 7 .i64 (.c 2) (.v 6)
abbrev vl : SE := .rd (.s 5) (.c 0)
abbrev aaj : SE := .app 201 (.g (.s 5) .nil)
abbrev auy : SE := .bin 6 .i64 (.v 8) (.c 1)
abbrev ads : List SA := [.mk false anv (.c 1) true, .mk true (.v 6) (.c 0) false, .mk true (.c 20000) (.v 6) false, .mk false (.len (.s 7)) auw true, .mk true (.v 8) (.c (-1)) false, .mk true (.v 8) (.v 6) true, .mk true vl (.bin 6 .i64 aaj auy) false]
abbrev rp : SE := .app 213 ai4
abbrev ano : SE := .bin 6 .i64 (.v 6) rp
abbrev yq : List SA := [.mk true (.v 6) (.c 1) false, .mk true (.c 2000) (.v 6) false, .mk false (.len (.s 7)) auw true, .mk true rp (.c 0) false, .mk true (.c 2000) ano false]
abbrev ae5 : List SA := [.mk true rp (.c 0) false, .mk true (.c 1000) rp false]
abbrev ae6 : List SA := [.mk false rp (.c 0) true]
abbrev ae7 : List SA := [.mk false rp (.c 0) false]
abbrev ae8 : List SA := [.mk false anv (.c 1) true, .mk true rp (.c 0) false, .mk true (.c 1000) rp false]
abbrev ayb : AL := .g (.s 5) (.g (.s 7) (.i (.c 1) (.i (.c 0) .nil)))
abbrev yr : AL := .i (.v 6) ayb
abbrev anp : List SA := [.mk false anv (.c 1) true, .mk true (.v 6) (.c 0) false, .mk true (.c 20000) (.v 6) false, .mk false (.len (.s 7)) auw true, .mk true vl (.bin 6 .i64 aaj (.v 6)) false]
abbrev anq : List SA := [.mk false anv (.c 1) true, .mk true vl aaj false]
abbrev ans : AL := .i auy anr
abbrev ayc : GE := .app 210 ans
abbrev ayd : SE := .app 211 ans
abbrev aye : SE := .app 212 ans
abbrev ayf : SE := .rd (.s 7) (.bin 7 .i64 (.c 2) (.v 8))
abbrev ayg : SE := .rd (.s 7) (.bin 6 .i64 (.bin 7 .i64 (.c 2) (.v 8)) (.c 1))
abbrev ant : GE := .app 206 (.g (.s 5) (.g (.cat (.one (.c 2)) (.cat (.one ayf) (.cat (.one ayg) (.cat (.one (.v 3)) (.one (.v 4)))))) .nil))
abbrev ayh : AL := .g ant .nil
abbrev anu : SE := .bin 1 .i64 (.v 8) (.c 1)
abbrev ae9 : SE := .bin 6 .i64 anu (.c 1)
abbrev anw : AL := .i ae9 (.g ant (.g (.s 7) (.i (.c 2) (.i aaj .nil))))
abbrev ayi : SE := .app 203 ai4
abbrev ab6 : SE := .bin 6 .i64 (.v 6) (.c 1)
abbrev ayj : AL := .g (.s 5) (.i (.app 204 (.g (.s 5) (.i (.v 2) (.i (.c 3) .nil)))) (.i (.app 204 (.g (.s 5) (.i (.v 2) (.i (.c 4) .nil)))) .nil))
abbrev ab7 : SE := .app 213 ayj
abbrev ayk : SE := .bin 6 .i64 ab6 ab7
abbrev ayl : GE := .cat (.one (.app 204 (.g (.s 5) (.i (.v 2) (.i (.c 1) .nil))))) (.one (.app 204 (.g (.s 5) (.i (.v 2) (.i (.c 2) .nil)))))
abbrev aym : GE := .app 213 ayj
abbrev ayn : GE := .app 213 ai4
abbrev ayo : GE := .cat (.s 7) ayn
abbrev ayp : SE := .bin 6 .i64 (.c 1) ab7
abbrev ayq : SE := .bin 1 .i64 vl aaj
abbrev anz : SE := .bin 1 .i64 (.v 6) (.c 1)
abbrev ayr : SE := .bin 6 .i64 anz (.c 1)
abbrev an0 : AL := .i ayr ayb
noncomputable section
def bx (k : Nat) (t : TypeId) (l : List AV) : HO := .mk k (.cells t false 0 0 l)
def vI (n : Nat) : AV := .sym .i64 (.v n) []
def sX (e : SE) : AV := .sym .i64 e []
def hH (k : Nat) (g : GE) : HO := .mk k (hgh g)
def wdR (k : Nat) (n : SE) (g : GE) : HO := .mk k (.gob (.gh 29 [.i64, .i64] n g))
def bkH (g : GE) (a b : SE) : List HO := [bx 258 39 [.gv (.sl (K.of 257) 2 (.v 6) [])], .mk 261 (.loop 82 31 4 [.top, .top, .top, .ptr (K.of 260) 0, .top, .ptr (K.of 259) 0, .ptr (K.of 262) 0, .int .i64 0, .top, .top, .top, .top, .top, .top, .top, .top, .top, .top, .top, .top, .top, .top, .top, .top, .top, .top, .top, .top, .top, .top, .top] [21, 22] (K.of 263)), bx 260 23 [.ptr (K.of 256) 0], bx 259 29 [sX a, sX b], bx 262 29 [.int .i64 0, .int .i64 0], hH 256 g, wdR 257 (.v 6) (.s 7)]
def m8 : SE := .bin 6 .i64 (.v 8) (.c 1)
def slH (w rest out : List AV) : List HO := [bx 257 23 [.ptr (K.of 256) 0], bx 258 29 w, bx 259 151 [.ptr (K.of 260) 0], .mk 261 (.loop 42 30 4 [.top, .top, .top, .top, .ptr (K.of 263) 0, .ptr (K.of 264) 0, .ptr (K.of 262) 0, .ptr (K.of 260) 0, .top, .top, .top, .top, .top, .top, .top, .top, .top, .top, .top, .top, .top, .top, .top, .top, .top, .top, .top, .top, .top, .top] [17, 18] (K.of 266)), bx 260 29 rest, bx 262 39 out, bx 263 39 [.nilSlice], bx 264 30 [.int .i64 0], hH 256 (.s 5)]
def mLn : SE := (.app 213 ai4)
def gLn : GE := (.app 213 ai4)
def bkU : List AV := [.func (.yield 261) [] [], .ptr (K.of 258) 0, .top, vI 8, .top, .top, .top, .top, .top, .top, .top, .top, .top, .top, .top, .top, .top, .top, .top]
def bkI : List HO := bkH (.s 5) (.v 3) (.v 4)
def bkO : List HO := bkH (.app 210 (.i m8 anr)) (.app 211 (.i m8 anr)) (.app 212 (.i m8 anr))
def bkR : LR := (.x 0 ([.top, .top, .top, .top, .top, .top, .top, .top, .top, .top, .top, .top, .top, .top, .top, .top, .top, .top, .top]))
def bk (m : SE) : LT := .mk 165 3 bkU 264 bkI (ads ++ []) (some (m8, m)) bkR 270 bkO
def bkF : LT := .mk 165 3 bkU 264 bkI (ads ++ []) none bkR 270 bkO
def bge : List AV := [.func (.yield 261) [] [], .ptr (K.of 257) 0, .ptr (K.of 258) 0, .ptr (K.of 259) 0, .top, .top, .top, .top, .top, .top, .top, .top, .top, .top, .top, .top, .top, .top, .top, .top, .top, .top, .top, .top, .top, .top, .top, .top, .top, .top]
def bgb : List HO := (slH [vI 1, vI 2] [vI 3, vI 4] [.gv (.sl (K.of 267) 2 (.v 6) [])] ++ [wdR 267 (.v 6) (.s 7)])
def bgc : List HO := (slH [sX (.c 1), sX (.c 0)] [vI 3, vI 4] [.gv (.sl (K.of 268) 2 (.bin 6 .i64 (.v 6) mLn) [])] ++ [wdR 268 (.bin 6 .i64 (.v 6) mLn) (.cat (.s 7) gLn)])
def bgd : LR := (.x 0 ([.func (.yield 261) [] [], .ptr (K.of 257) 0, .ptr (K.of 258) 0, .ptr (K.of 259) 0, .top, .top, .top, .top, .top, .top, .top, .top, .top, .top, .top, .top, .top, .top, .top, .top, .top, .top, .top, .top, .top, .top, .top, .top, .top, .top]))
def slS (m : SE) : LT := .mk 128 1 bge 268 bgb (yq ++ []) (some (mLn, m)) bgd 272 bgc
def bn3 : LT := .mk 128 1 bge 268 bgb (yq ++ []) none bgd 272 bgc
def a93 : List AV := [.func (.yield 261) [] [], .ptr (K.of 257) 0, .ptr (K.of 258) 0, .ptr (K.of 259) 0, .top, .top, .top, .top, .top, .top, .top, .top, .top, .top, .top, .top, .top, .top, .top, .top, .top, .top, .top, .top, .top, .top, .top, .top, .top, .top]
def a91 : List HO := slH [vI 1, vI 2] [vI 3, vI 4] [.nilSlice]
def bcg : List HO := slH [sX (.c 1), sX (.c 0)] [vI 3, vI 4] [.nilSlice]
def bch : LR := (.x 0 ([.func (.yield 261) [] [], .ptr (K.of 257) 0, .ptr (K.of 258) 0, .ptr (K.of 259) 0, .top, .top, .top, .top, .top, .top, .top, .top, .top, .top, .top, .top, .top, .top, .top, .top, .top, .top, .top, .top, .top, .top, .top, .top, .top, .top]))
def bcf : LT := .mk 128 1 a93 267 a91 (ae5 ++ ae6) none bch 272 bcg
def bcd : List HO := (slH [sX (.c 1), sX (.c 0)] [vI 3, vI 4] [.gv (.sl (K.of 268) 2 mLn [])] ++ [wdR 268 mLn gLn])
def bce : LR := (.x 0 ([.func (.yield 261) [] [], .ptr (K.of 257) 0, .ptr (K.of 258) 0, .ptr (K.of 259) 0, .top, .top, .top, .top, .top, .top, .top, .top, .top, .top, .top, .top, .top, .top, .top, .top, .top, .top, .top, .top, .top, .top, .top, .top, .top, .top]))
def bcc : LT := .mk 128 1 a93 267 a91 (ae5 ++ ae7) none bce 272 bcd
def a97 : List AV := [hpp, wd (.v 1) (.v 2)]
def a96 : List HO := [hH 256 (.s 5)]
def bcl : List HO := [hH 256 (.s 5)]
def bcm : TR := .ret (.tuple [.nilSlice, .int .i64 0])
def a6e : TM := .mk 42 a97 257 a96 (ae8 ++ ae6) none bcm 290 bcl
def bcj : List HO := [hH 256 (.s 5), wdR 258 mLn gLn]
def bck : TR := .ret (.tuple [.gv (.sl (K.of 258) 2 mLn []), .int .i64 0])
def a6d : TM := .mk 42 a97 257 a96 (ae8 ++ ae7) none bck 290 bcj
def bk3 : List AV := [hpp, .gv (.sl (K.of 257) 2 (.v 6) [])]
def bk0 : List HO := [hH 256 (.s 5), wdR 257 (.v 6) (.s 7)]
def bk1 : List HO := [hH 256 (.app 210 yr), wdR 257 (.v 6) (.s 7)]
def bk2 : TR := .ret (.tuple [wd (.app 211 yr) (.app 212 yr), .int .i64 0])
def bef : TM := .mk 36 bk3 258 bk0 (anp ++ []) none bk2 280 bk1
def bky : List AV := [hpp, .nilSlice]
def bkv : List HO := [hH 256 (.s 5)]
def bkw : List HO := [hH 256 (.s 5)]
def bkx : TR := .ret (.tuple [wd (.c 1) (.c 0), .int .i64 0])
def bee : TM := .mk 36 bky 257 bkv (anq ++ []) none bkx 280 bkw
end
section
variable {σ : Nat → List Int}
theorem ba2 (h : SAll σ ads) : km (σ 5) ∧ (0 ≤ (σ 6).headD 0 ∧ (σ 6).headD 0 ≤ 20000 ∧ ((σ 7).length : Int) = 2 * (σ 6).headD 0) ∧ -1 ≤ (σ 8).headD 0 ∧ (σ 8).headD 0 < (σ 6).headD 0 ∧ cq (σ 5) + ((σ 8).headD 0 + 1) ≤ (σ 5).getD (0 : Int).toNat 0 := by
 obtain ⟨h1, h⟩ := sall_cons.1 h
 have h1 := s221.1 (sE.1 h1)
 simp only [sall_cons, sT, sF, sE, evs] at h
 exact ⟨h1, ⟨h.1, h.2.1, h.2.2.1⟩, h.2.2.2.1, h.2.2.2.2.1, h.2.2.2.2.2.1⟩
theorem bii (hP : km (σ 5)) (hm : cq (σ 5) < (σ 5).getD (0 : Int).toNat 0) (a b c e : SE) : cq (pj (σ 5) ((GE.cat (.one (.c 2)) (.cat (.one a) (.cat (.one b) (.cat (.one c) (.one e))))).eval σ)) = cq (σ 5) + 1 ∧
  (pj (σ 5) ((GE.cat (.one (.c 2)) (.cat (.one a) (.cat (.one b) (.cat (.one c) (.one e))))).eval σ)).getD (0 : Int).toNat 0 = (σ 5).getD (0 : Int).toNat 0 ∧ hpN (pj (σ 5) ((GE.cat (.one (.c 2)) (.cat (.one a) (.cat (.one b) (.cat (.one c) (.one e))))).eval σ)) = 1 :=
 ⟨ahk hP, am6 hP, ap9 (atb hP rfl hm)⟩
theorem bci (h : SAll σ ae5) : 0 ≤ jv (σ 5) ((σ 1).headD 0) ((σ 2).headD 0) ∧ jv (σ 5) ((σ 1).headD 0) ((σ 2).headD 0) ≤ 1000 := by
 simp only [sall_cons, sF, evs] at h
 exact ⟨h.1, h.2.1⟩
theorem bco (h : SAll σ yq) : 1 ≤ (σ 6).headD 0 ∧ (σ 6).headD 0 ≤ 2000 ∧ ((σ 7).length : Int) = 2 * (σ 6).headD 0 ∧ 0 ≤ jv (σ 5) ((σ 1).headD 0) ((σ 2).headD 0) ∧ (σ 6).headD 0 + jv (σ 5) ((σ 1).headD 0) ((σ 2).headD 0) ≤ 2000 := by
 simp only [sall_cons, sE, sF, evs] at h
 exact ⟨h.1, h.2.1, h.2.2.1, h.2.2.2.1, h.2.2.2.2.1⟩
theorem bgg (h : SAll σ ae8) : km (σ 5) ∧ 0 ≤ jv (σ 5) ((σ 1).headD 0) ((σ 2).headD 0) ∧ jv (σ 5) ((σ 1).headD 0) ((σ 2).headD 0) ≤ 1000 := by
 obtain ⟨h1, h⟩ := sall_cons.1 h
 exact ⟨s221.1 (sE.1 h1), bci h⟩
theorem bbv (h : SAll σ anp) : km (σ 5) ∧ (0 ≤ (σ 6).headD 0 ∧ (σ 6).headD 0 ≤ 20000 ∧ ((σ 7).length : Int) = 2 * (σ 6).headD 0) ∧ cq (σ 5) + (σ 6).headD 0 ≤ (σ 5).getD (0 : Int).toNat 0 := by
 obtain ⟨h1, h⟩ := sall_cons.1 h
 have h1 := s221.1 (sE.1 h1)
 simp only [sall_cons, sT, sF, sE, evs] at h
 exact ⟨h1, ⟨h.1, h.2.1, h.2.2.1⟩, h.2.2.2.1⟩
theorem bbw (h : SAll σ anq) : km (σ 5) ∧ cq (σ 5) ≤ (σ 5).getD (0 : Int).toNat 0 := by
 obtain ⟨h1, h⟩ := sall_cons.1 h
 have h1 := s221.1 (sE.1 h1)
 simp only [sall_cons, sT, sF, sE, evs] at h
 exact ⟨h1, h.1⟩
end
theorem hhc [Gv] : ∀ t ∈ [a8h], bo t := na alo
def bkG [Gv] : Prop := (SAll Gv.σ [] → ov 165 3 bkU 264 bkI bkR 270 bkO)
theorem bo0 [Gv] (hh : ∀ t ∈ [bk m8], eu t) (hI : SAll Gv.σ ads) : bkG := by
 obtain ⟨hP, ⟨l1, l2, l3⟩, l4, l5, l6⟩ := ba2 hI
 obtain ⟨p1, p2, p3, p4⟩ := oz hP
 rcases zl1 hI (.v 8) (.c 0) with ⟨hI, k1⟩ | ⟨hI, k1⟩
 ·have u := zf2 (ba3 (Gv.σ 5) (Gv.σ 7) ((Gv.σ 3).headD 0) ((Gv.σ 4).headD 0) ((Gv.σ 8).headD 0) (by omega))
  exact zt [] (.g (.s 5) ayc (.i (.v 3) ayd (.i (.v 4) aye .nil))) (zh hI hhc) (zp hI hh) hI ze1
 ·have hI := zN1 hI aaj vl
  have t1 := zf1 (bii (σ := Gv.σ) hP (by omega) ayf ayg (.v 3) (.v 4))
  have hI := zE1 hI (.app 221 ayh) (.c 1)
  have hI := zF1 hI anu (.c (-1))
  have hI := zT1 hI anu (.v 6)
  have hI := zF1 hI (.rd ant (.c 0)) (.bin 6 .i64 (.app 201 ayh) ae9)
  have hI := zT1 hI ae9 auy
  have hI := zF1 hI ae9 (.c 0)
  have u := zf2 (ba3 (Gv.σ 5) (Gv.σ 7) ((Gv.σ 3).headD 0) ((Gv.σ 4).headD 0) ((Gv.σ 8).headD 0) (by omega))
  exact zt [] (.g (.app 210 anw) ayc (.i (.app 211 anw) ayd (.i (.app 212 anw) aye .nil))) (zh hI hhc) (zp hI hh) hI ze1
theorem a2a : ∀ (B : Nat) (σ : Nat → List Int), SAll σ ads → (m8).eval σ < (B : Int) → @bkG ⟨σ⟩
 | 0, σ, hI, hb => by obtain ⟨hP, ⟨l1, l2, l3⟩, l4, l5, l6⟩ := ba2 hI; simp only [m8, evs, wr] at hb; omega
 | B + 1, σ, hI, hb => by
   have ih : ∀ σ' : Nat → List Int, SAll σ' ads → 0 ≤ (m8).eval σ' ∧ (m8).eval σ' < (m8).eval σ → @bkG ⟨σ'⟩ := fun σ' h h' => a2a B σ' h (by omega)
   have hh : ∀ t ∈ [bk (m8)], @eu ⟨σ⟩ t := by
    intro t ht
    simp only [List.mem_cons, zH, or_false] at ht
    rcases ht with rfl
    ·exact fun σ' _ hA hb => (ih σ' (cm hA).1 hb) (cm hA).2
   exact @bo0 ⟨σ⟩ hh hI
theorem bh1 [Gv] : eu bkF := fun σ _ hA _ => (a2a (((m8).eval σ).toNat + 1) σ (cm hA).1 (by omega)) (cm hA).2
theorem hhd [Gv] : ∀ t ∈ [bc8, bc9, beb, a0f, beg, a8h], bo t := by
 intro t ht
 simp only [List.mem_cons, zH, or_false] at ht
 rcases ht with rfl | rfl | rfl | rfl | rfl | rfl
 ·exact avo
 ·exact avp
 ·exact awo
 ·exact abo
 ·exact awu
 ·exact alo
theorem hbk [Gv] : ∀ t ∈ [bkF], eu t := na bh1
def bga [Gv] : Prop := (SAll Gv.σ [] → ov 128 1 bge 268 bgb bgd 272 bgc)
theorem bjd [Gv] (hh : ∀ t ∈ [slS mLn], eu t) (hI : SAll Gv.σ yq) : bga := by
 obtain ⟨l1, l2, l3, l4, l5⟩ := bco hI
 have q := a4r (Gv.σ 5) ((Gv.σ 1).headD 0) ((Gv.σ 2).headD 0) (by omega)
 rcases zq1 hI (.v 1) (.c 2) with ⟨hI, k1⟩ | ⟨hI, k1⟩
 ·have hI := zE1 hI ayi (.c 1)
  have hI := zT1 hI (.v 6) (.c 65536)
  have hI := zF1 hI (.c 400000) ab6
  have hI := zF1 hI ab6 (.c 1)
  have hI := zF1 hI (.c 2000) ab6
  have hI := zE1 hI (.bin 6 .i64 (.len (.s 7)) (.c 2)) (.bin 7 .i64 (.c 2) ab6)
  have hI := zF1 hI ab7 (.c 0)
  have hI := zF1 hI (.c 2000) ayk
  have hI := zT1 hI ab7 rp
  have u := zf3 (awt (Gv.σ 5) ((Gv.σ 1).headD 0) ((Gv.σ 2).headD 0) (by omega))
  exact zt [(289, 268)] (.i ayk ano (.g (.cat (.cat (.s 7) ayl) aym) ayo .nil)) (zh hI hhd) (zp hI hh) hI ze1
 ·have u := zf3 (awt (Gv.σ 5) ((Gv.σ 1).headD 0) ((Gv.σ 2).headD 0) (by omega))
  exact zt [(267, 268)] (.i (.v 1) (.c 1) (.i (.v 2) (.c 0) (.i (.v 6) ano (.g (.s 7) ayo .nil)))) (zh hI hhd) (zp hI hh) hI ze1
theorem axg : ∀ (B : Nat) (σ : Nat → List Int), SAll σ yq → (mLn).eval σ < (B : Int) → @bga ⟨σ⟩
 | 0, σ, hI, hb => by obtain ⟨l1, l2, l3, l4, l5⟩ := bco hI; simp only [mLn, evs, wr] at hb; omega
 | B + 1, σ, hI, hb => by
   have ih : ∀ σ' : Nat → List Int, SAll σ' yq → 0 ≤ (mLn).eval σ' ∧ (mLn).eval σ' < (mLn).eval σ → @bga ⟨σ'⟩ := fun σ' h h' => axg B σ' h (by omega)
   have hh : ∀ t ∈ [slS (mLn)], @eu ⟨σ⟩ t := by
    intro t ht
    simp only [List.mem_cons, zH, or_false] at ht
    rcases ht with rfl
    ·exact fun σ' _ hA hb => (ih σ' (cm hA).1 hb) (cm hA).2
   exact @bjd ⟨σ⟩ hh hI
theorem bgf [Gv] : eu bn3 := fun σ _ hA _ => (axg (((mLn).eval σ).toNat + 1) σ (cm hA).1 (by omega)) (cm hA).2
theorem bjv [Gv] : ∀ t ∈ [bn3], eu t := na bgf
def bp8 [Gv] : Prop := (SAll Gv.σ ae6 → ov 128 1 a93 267 a91 bch 272 bcg) ∧ (SAll Gv.σ ae7 → ov 128 1 a93 267 a91 bce 272 bcd)
theorem ba8 [Gv] (hI : SAll Gv.σ ae5) : bp8 := by
 obtain ⟨l1, l2⟩ := bci hI
 have q := a4r (Gv.σ 5) ((Gv.σ 1).headD 0) ((Gv.σ 2).headD 0) (by omega)
 rcases zq1 hI (.v 1) (.c 2) with ⟨hI, k1⟩ | ⟨hI, k1⟩
 ·have hI := zE1 hI ayi (.c 1)
  have hI := zF1 hI ab7 (.c 0)
  have hI := zF1 hI (.c 2000) ayp
  have u := zf3 (awt (Gv.σ 5) ((Gv.σ 1).headD 0) ((Gv.σ 2).headD 0) (by omega))
  exact ⟨zn1,
   zt [(288, 268)] (.i ayp rp (.g (.cat ayl aym) ayn .nil)) (zh hI hhd) (zp hI bjv) hI ze1⟩
 ·have u := zf3 (awt (Gv.σ 5) ((Gv.σ 1).headD 0) ((Gv.σ 2).headD 0) (by omega))
  exact ⟨zt [] (.i (.v 1) (.c 1) (.i (.v 2) (.c 0) .nil)) (zh hI hhd) (zp hI bjv) hI ze1,
   zn1⟩
theorem a94 [Gv] : eu bcf := fun σ _ hA _ => (@ba8 ⟨σ⟩  (cm hA).1).1 (cm hA).2
theorem a92 [Gv] : eu bcc := fun σ _ hA _ => (@ba8 ⟨σ⟩  (cm hA).1).2 (cm hA).2
theorem bju [Gv] : ∀ t ∈ [bcf, bcc], eu t := by
 intro t ht
 simp only [List.mem_cons, zH, or_false] at ht
 rcases ht with rfl | rfl
 ·exact a94
 ·exact a92
def bp9 [Gv] : Prop := (SAll Gv.σ ae6 → br 42 a97 257 a96 bcm 290 bcl) ∧ (SAll Gv.σ ae7 → br 42 a97 257 a96 bck 290 bcj)
theorem ba9 [Gv] (hI : SAll Gv.σ ae8) : bp9 := by
 obtain ⟨hP, l1, l2⟩ := bgg hI
 obtain ⟨p1, p2, p3, p4⟩ := oz hP
 have q := a4r (Gv.σ 5) ((Gv.σ 1).headD 0) ((Gv.σ 2).headD 0) (by omega)
 have hI := zT1 hI (.c 0) vl
 rcases zq1 hI rp (.c 0) with ⟨hI, k2⟩ | ⟨hI, k2⟩
 ·have u := l1
  exact ⟨zm0 [] (zh hI hhd) (zp hI bju) hI,
   zn1⟩
 ·have u := l1
  exact ⟨zn1,
   zm0 [(269, 258)] (zh hI hhd) (zp hI bju) hI⟩
theorem axi [Gv] : bo a6e := fun σ _ hA _ => (@ba9 ⟨σ⟩  (cm hA).1).1 (cm hA).2
theorem axh [Gv] : bo a6d := fun σ _ hA _ => (@ba9 ⟨σ⟩  (cm hA).1).2 (cm hA).2
def bpi [Gv] : Prop := (SAll Gv.σ [] → br 36 bk3 258 bk0 bk2 280 bk1)
theorem biy [Gv] (hI : SAll Gv.σ anp) : bpi := by
 obtain ⟨hP, ⟨l1, l2, l3⟩, l4⟩ := bbv hI
 obtain ⟨p1, p2, p3, p4⟩ := oz hP
 have hI := zT1 hI (.c 0) vl
 have hI := zF1 hI (.c 65536) (.v 6)
 have hI := zF1 hI ayq (.v 6)
 have hI := zF1 hI anz (.c (-1))
 have hI := zT1 hI anz (.v 6)
 have hI := zF1 hI vl (.bin 6 .i64 aaj ayr)
 have u := l1
 exact zm [] (.i (.app 211 an0) (.app 211 yr) (.i (.app 212 an0) (.app 212 yr) (.g (.app 210 an0) (.app 210 yr) .nil))) (zh hI hhd) (zp hI hbk) hI ze1
theorem a44 [Gv] : bo bef := fun σ _ hA _ => (@biy ⟨σ⟩  (cm hA).1) (cm hA).2
def bph [Gv] : Prop := (SAll Gv.σ [] → br 36 bky 257 bkv bkx 280 bkw)
theorem biw [Gv] (hI : SAll Gv.σ anq) : bph := by
 obtain ⟨hP, l4⟩ := bbw hI
 obtain ⟨p1, p2, p3, p4⟩ := oz hP
 have hI := zT1 hI (.c 0) vl
 have hI := zF1 hI ayq (.c 0)
 have u := hP
 exact zm0 [] (zh hI hhd) (zp hI hbk) hI
theorem a43 [Gv] : bo bee := fun σ _ hA _ => (@biw ⟨σ⟩  (cm hA).1) (cm hA).2
end Go.Ev
