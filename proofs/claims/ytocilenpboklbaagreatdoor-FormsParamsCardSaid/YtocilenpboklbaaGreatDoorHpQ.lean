import Derived.Test.YtocilenpboklbaaGreatDoorHpSq
set_option maxRecDepth 100000
set_option linter.all false
namespace Go.Ev
abbrev alk : AL := .g (.s 5) (.i (.v 1) (.i (.v 2) .nil))
abbrev aq8 : AL := .g (.s 5) (.g (.s 7) (.i (.v 3) (.i (.v 4) .nil)))
abbrev arc : SE := .app 221 (.g (.s 5) .nil)
abbrev azu : SE := .bin 7 .i64 (.c 2) (.v 6)
abbrev wj : SE := .rd (.s 5) (.c 0)
abbrev ab0 : SE := .app 201 (.g (.s 5) .nil)
abbrev azv : SE := .bin 6 .i64 (.v 8) (.c 1)
abbrev afh : List SA := [.mk false arc (.c 1) true, .mk true (.v 6) (.c 0) false, .mk true (.c 20000) (.v 6) false, .mk false (.len (.s 7)) azu true, .mk true (.v 8) (.c (-1)) false, .mk true (.v 8) (.v 6) true, .mk true wj (.bin 6 .i64 ab0 azv) false]
abbrev sg : SE := .app 213 alk
abbrev aq5 : SE := .bin 6 .i64 (.v 6) sg
abbrev aam : List SA := [.mk true (.v 6) (.c 1) false, .mk true (.c 2000) (.v 6) false, .mk false (.len (.s 7)) azu true, .mk true sg (.c 0) false, .mk true (.c 2000) aq5 false]
abbrev ag5 : List SA := [.mk true sg (.c 0) false, .mk true (.c 1000) sg false]
abbrev ag6 : List SA := [.mk false sg (.c 0) true]
abbrev ag7 : List SA := [.mk false sg (.c 0) false]
abbrev ag8 : List SA := [.mk false arc (.c 1) true, .mk true sg (.c 0) false, .mk true (.c 1000) sg false]
abbrev a4k : AL := .g (.s 5) (.g (.s 7) (.i (.c 1) (.i (.c 0) .nil)))
abbrev aan : AL := .i (.v 6) a4k
abbrev aq6 : List SA := [.mk false arc (.c 1) true, .mk true (.v 6) (.c 0) false, .mk true (.c 20000) (.v 6) false, .mk false (.len (.s 7)) azu true, .mk true wj (.bin 6 .i64 ab0 (.v 6)) false]
abbrev aq7 : List SA := [.mk false arc (.c 1) true, .mk true wj ab0 false]
abbrev aq9 : AL := .i azv aq8
abbrev a4l : GE := .app 210 aq9
abbrev a4m : SE := .app 211 aq9
abbrev a4n : SE := .app 212 aq9
abbrev a4o : SE := .rd (.s 7) (.bin 7 .i64 (.c 2) (.v 8))
abbrev a4p : SE := .rd (.s 7) (.bin 6 .i64 (.bin 7 .i64 (.c 2) (.v 8)) (.c 1))
abbrev ara : GE := .app 206 (.g (.s 5) (.g (.cat (.one (.c 2)) (.cat (.one a4o) (.cat (.one a4p) (.cat (.one (.v 3)) (.one (.v 4)))))) .nil))
abbrev a4q : AL := .g ara .nil
abbrev arb : SE := .bin 1 .i64 (.v 8) (.c 1)
abbrev ag9 : SE := .bin 6 .i64 arb (.c 1)
abbrev ard : AL := .i ag9 (.g ara (.g (.s 7) (.i (.c 2) (.i ab0 .nil))))
abbrev a4r : SE := .app 203 alk
abbrev adp : SE := .bin 6 .i64 (.v 6) (.c 1)
abbrev a4s : AL := .g (.s 5) (.i (.app 204 (.g (.s 5) (.i (.v 2) (.i (.c 3) .nil)))) (.i (.app 204 (.g (.s 5) (.i (.v 2) (.i (.c 4) .nil)))) .nil))
abbrev adq : SE := .app 213 a4s
abbrev a4t : SE := .bin 6 .i64 adp adq
abbrev a4u : GE := .cat (.one (.app 204 (.g (.s 5) (.i (.v 2) (.i (.c 1) .nil))))) (.one (.app 204 (.g (.s 5) (.i (.v 2) (.i (.c 2) .nil)))))
abbrev a4v : GE := .app 213 a4s
abbrev a4w : GE := .app 213 alk
abbrev a4x : GE := .cat (.s 7) a4w
abbrev a4y : SE := .bin 6 .i64 (.c 1) adq
abbrev a4z : SE := .bin 1 .i64 wj ab0
abbrev arf : SE := .bin 1 .i64 (.v 6) (.c 1)
abbrev a40 : SE := .bin 6 .i64 arf (.c 1)
abbrev arh : AL := .i a40 a4k
noncomputable section
def bx (k : Nat) (t : TypeId) (l : List AV) : HO := .mk k (.cells t false 0 0 l)
def vI (n : Nat) : AV := .sym .i64 (.v n) []
def sX (e : SE) : AV := .sym .i64 e []
def hH (k : Nat) (g : GE) : HO := .mk k (hgh g)
def wdR (k : Nat) (n : SE) (g : GE) : HO := .mk k (.gob (.gh 29 [.i64, .i64] n g))
def bkH (g : GE) (a b : SE) : List HO := [bx 258 39 [.gv (.sl (K.of 257) 2 (.v 6) [])], .mk 261 (.loop 82 31 4 [.top, .top, .top, .ptr (K.of 260) 0, .top, .ptr (K.of 259) 0, .ptr (K.of 262) 0, .int .i64 0, .top, .top, .top, .top, .top, .top, .top, .top, .top, .top, .top, .top, .top, .top, .top, .top, .top, .top, .top, .top, .top, .top, .top] [21, 22] (K.of 263)), bx 260 23 [.ptr (K.of 256) 0], bx 259 29 [sX a, sX b], bx 262 29 [.int .i64 0, .int .i64 0], hH 256 g, wdR 257 (.v 6) (.s 7)]
def m8 : SE := .bin 6 .i64 (.v 8) (.c 1)
def slH (w rest out : List AV) : List HO := [bx 257 23 [.ptr (K.of 256) 0], bx 258 29 w, bx 259 151 [.ptr (K.of 260) 0], .mk 261 (.loop 42 30 4 [.top, .top, .top, .top, .ptr (K.of 263) 0, .ptr (K.of 264) 0, .ptr (K.of 262) 0, .ptr (K.of 260) 0, .top, .top, .top, .top, .top, .top, .top, .top, .top, .top, .top, .top, .top, .top, .top, .top, .top, .top, .top, .top, .top, .top] [17, 18] (K.of 266)), bx 260 29 rest, bx 262 39 out, bx 263 39 [.nilSlice], bx 264 30 [.int .i64 0], hH 256 (.s 5)]
def mLn : SE := (.app 213 alk)
def gLn : GE := (.app 213 alk)
def bkU : List AV := [.func (.yield 261) [] [], .ptr (K.of 258) 0, .top, vI 8, .top, .top, .top, .top, .top, .top, .top, .top, .top, .top, .top, .top, .top, .top, .top]
def bkI : List HO := bkH (.s 5) (.v 3) (.v 4)
def bkO : List HO := bkH (.app 210 (.i m8 aq8)) (.app 211 (.i m8 aq8)) (.app 212 (.i m8 aq8))
def bkR : LR := (.x 0 ([.top, .top, .top, .top, .top, .top, .top, .top, .top, .top, .top, .top, .top, .top, .top, .top, .top, .top, .top]))
def bk (m : SE) : LT := .mk 165 3 bkU 264 bkI (afh ++ []) (some (m8, m)) bkR 270 bkO
def bkF : LT := .mk 165 3 bkU 264 bkI (afh ++ []) none bkR 270 bkO
def bnq : List AV := [.func (.yield 261) [] [], .ptr (K.of 257) 0, .ptr (K.of 258) 0, .ptr (K.of 259) 0, .top, .top, .top, .top, .top, .top, .top, .top, .top, .top, .top, .top, .top, .top, .top, .top, .top, .top, .top, .top, .top, .top, .top, .top, .top, .top]
def bnn : List HO := (slH [vI 1, vI 2] [vI 3, vI 4] [.gv (.sl (K.of 267) 2 (.v 6) [])] ++ [wdR 267 (.v 6) (.s 7)])
def bno : List HO := (slH [sX (.c 1), sX (.c 0)] [vI 3, vI 4] [.gv (.sl (K.of 268) 2 (.bin 6 .i64 (.v 6) mLn) [])] ++ [wdR 268 (.bin 6 .i64 (.v 6) mLn) (.cat (.s 7) gLn)])
def bnp : LR := (.x 0 ([.func (.yield 261) [] [], .ptr (K.of 257) 0, .ptr (K.of 258) 0, .ptr (K.of 259) 0, .top, .top, .top, .top, .top, .top, .top, .top, .top, .top, .top, .top, .top, .top, .top, .top, .top, .top, .top, .top, .top, .top, .top, .top, .top, .top]))
def slS (m : SE) : LT := .mk 128 1 bnq 268 bnn (aam ++ []) (some (mLn, m)) bnp 272 bno
def bq2 : LT := .mk 128 1 bnq 268 bnn (aam ++ []) none bnp 272 bno
def biy : List AV := [.func (.yield 261) [] [], .ptr (K.of 257) 0, .ptr (K.of 258) 0, .ptr (K.of 259) 0, .top, .top, .top, .top, .top, .top, .top, .top, .top, .top, .top, .top, .top, .top, .top, .top, .top, .top, .top, .top, .top, .top, .top, .top, .top, .top]
def biw : List HO := slH [vI 1, vI 2] [vI 3, vI 4] [.nilSlice]
def bk4 : List HO := slH [sX (.c 1), sX (.c 0)] [vI 3, vI 4] [.nilSlice]
def bk5 : LR := (.x 0 ([.func (.yield 261) [] [], .ptr (K.of 257) 0, .ptr (K.of 258) 0, .ptr (K.of 259) 0, .top, .top, .top, .top, .top, .top, .top, .top, .top, .top, .top, .top, .top, .top, .top, .top, .top, .top, .top, .top, .top, .top, .top, .top, .top, .top]))
def bk3 : LT := .mk 128 1 biy 267 biw (ag5 ++ ag6) none bk5 272 bk4
def bk1 : List HO := (slH [sX (.c 1), sX (.c 0)] [vI 3, vI 4] [.gv (.sl (K.of 268) 2 mLn [])] ++ [wdR 268 mLn gLn])
def bk2 : LR := (.x 0 ([.func (.yield 261) [] [], .ptr (K.of 257) 0, .ptr (K.of 258) 0, .ptr (K.of 259) 0, .top, .top, .top, .top, .top, .top, .top, .top, .top, .top, .top, .top, .top, .top, .top, .top, .top, .top, .top, .top, .top, .top, .top, .top, .top, .top]))
def bk0 : LT := .mk 128 1 biy 267 biw (ag5 ++ ag7) none bk2 272 bk1
def bi3 : List AV := [hpp, wd (.v 1) (.v 2)]
def bi1 : List HO := [hH 256 (.s 5)]
def bla : List HO := [hH 256 (.s 5)]
def blb : TR := .ret (.tuple [.nilSlice, .int .i64 0])
def bk9 : TM := .mk 42 bi3 257 bi1 (ag8 ++ ag6) none blb 290 bla
def bk7 : List HO := [hH 256 (.s 5), wdR 258 mLn gLn]
def bk8 : TR := .ret (.tuple [.gv (.sl (K.of 258) 2 mLn []), .int .i64 0])
def bk6 : TM := .mk 42 bi3 257 bi1 (ag8 ++ ag7) none bk8 290 bk7
def bp5 : List AV := [hpp, .gv (.sl (K.of 257) 2 (.v 6) [])]
def bp2 : List HO := [hH 256 (.s 5), wdR 257 (.v 6) (.s 7)]
def bp3 : List HO := [hH 256 (.app 210 aan), wdR 257 (.v 6) (.s 7)]
def bp4 : TR := .ret (.tuple [wd (.app 211 aan) (.app 212 aan), .int .i64 0])
def bm9 : TM := .mk 36 bp5 258 bp2 (aq6 ++ []) none bp4 280 bp3
def bp1 : List AV := [hpp, .nilSlice]
def bpy : List HO := [hH 256 (.s 5)]
def bpz : List HO := [hH 256 (.s 5)]
def bp0 : TR := .ret (.tuple [wd (.c 1) (.c 0), .int .i64 0])
def bm8 : TM := .mk 36 bp1 257 bpy (aq7 ++ []) none bp0 280 bpz
end
section
variable {σ : Nat → List Int}
theorem bjk (h : SAll σ afh) : od (σ 5) ∧ (0 ≤ (σ 6).headD 0 ∧ (σ 6).headD 0 ≤ 20000 ∧ ((σ 7).length : Int) = 2 * (σ 6).headD 0) ∧ -1 ≤ (σ 8).headD 0 ∧ (σ 8).headD 0 < (σ 6).headD 0 ∧ co (σ 5) + ((σ 8).headD 0 + 1) ≤ (σ 5).getD (0 : Int).toNat 0 := by
 obtain ⟨h1, h⟩ := sall_cons.1 h
 have h1 := s221.1 (sE.1 h1)
 simp only [sall_cons, sT, sF, sE, evs] at h
 exact ⟨h1, ⟨h.1, h.2.1, h.2.2.1⟩, h.2.2.2.1, h.2.2.2.2.1, h.2.2.2.2.2.1⟩
theorem bsq (hP : od (σ 5)) (hm : co (σ 5) < (σ 5).getD (0 : Int).toNat 0) (a b c e : SE) : co (ua (σ 5) ((GE.cat (.one (.c 2)) (.cat (.one a) (.cat (.one b) (.cat (.one c) (.one e))))).eval σ)) = co (σ 5) + 1 ∧
  (ua (σ 5) ((GE.cat (.one (.c 2)) (.cat (.one a) (.cat (.one b) (.cat (.one c) (.one e))))).eval σ)).getD (0 : Int).toNat 0 = (σ 5).getD (0 : Int).toNat 0 ∧ hpN (ua (σ 5) ((GE.cat (.one (.c 2)) (.cat (.one a) (.cat (.one b) (.cat (.one c) (.one e))))).eval σ)) = 1 :=
 ⟨aui hP, a22 hP, qi (ba8 hP rfl hm)⟩
theorem bfq (h : SAll σ ag5) : 0 ≤ j7 (σ 5) ((σ 1).headD 0) ((σ 2).headD 0) ∧ j7 (σ 5) ((σ 1).headD 0) ((σ 2).headD 0) ≤ 1000 := by
 simp only [sall_cons, sF, evs] at h
 exact ⟨h.1, h.2.1⟩
theorem blc (h : SAll σ aam) : 1 ≤ (σ 6).headD 0 ∧ (σ 6).headD 0 ≤ 2000 ∧ ((σ 7).length : Int) = 2 * (σ 6).headD 0 ∧ 0 ≤ j7 (σ 5) ((σ 1).headD 0) ((σ 2).headD 0) ∧ (σ 6).headD 0 + j7 (σ 5) ((σ 1).headD 0) ((σ 2).headD 0) ≤ 2000 := by
 simp only [sall_cons, sE, sF, evs] at h
 exact ⟨h.1, h.2.1, h.2.2.1, h.2.2.2.1, h.2.2.2.2.1⟩
theorem bns (h : SAll σ ag8) : od (σ 5) ∧ 0 ≤ j7 (σ 5) ((σ 1).headD 0) ((σ 2).headD 0) ∧ j7 (σ 5) ((σ 1).headD 0) ((σ 2).headD 0) ≤ 1000 := by
 obtain ⟨h1, h⟩ := sall_cons.1 h
 exact ⟨s221.1 (sE.1 h1), bfq h⟩
theorem bp7 (h : SAll σ aq6) : od (σ 5) ∧ (0 ≤ (σ 6).headD 0 ∧ (σ 6).headD 0 ≤ 20000 ∧ ((σ 7).length : Int) = 2 * (σ 6).headD 0) ∧ co (σ 5) + (σ 6).headD 0 ≤ (σ 5).getD (0 : Int).toNat 0 := by
 obtain ⟨h1, h⟩ := sall_cons.1 h
 have h1 := s221.1 (sE.1 h1)
 simp only [sall_cons, sT, sF, sE, evs] at h
 exact ⟨h1, ⟨h.1, h.2.1, h.2.2.1⟩, h.2.2.2.1⟩
theorem bp8 (h : SAll σ aq7) : od (σ 5) ∧ co (σ 5) ≤ (σ 5).getD (0 : Int).toNat 0 := by
 obtain ⟨h1, h⟩ := sall_cons.1 h
 have h1 := s221.1 (sE.1 h1)
 simp only [sall_cons, sT, sF, sE, evs] at h
 exact ⟨h1, h.1⟩
end
theorem hhc [Gv] : ∀ t ∈ [bl2], de t := vv a0j
def bkG [Gv] : Prop := (SAll Gv.σ [] → b8 165 3 bkU 264 bkI bkR 270 bkO)
theorem bsr [Gv] (hh : ∀ t ∈ [bk m8], ar t) (hI : SAll Gv.σ afh) : bkG := by
 obtain ⟨hP, ⟨l1, l2, l3⟩, l4, l5, l6⟩ := bjk hI
 obtain ⟨p1, p2, p3, p4⟩ := ajo hP
 rcases zl1 hI (.v 8) (.c 0) with ⟨hI, k1⟩ | ⟨hI, k1⟩
 ·have u := zf2 (bjl (Gv.σ 5) (Gv.σ 7) ((Gv.σ 3).headD 0) ((Gv.σ 4).headD 0) ((Gv.σ 8).headD 0) (by omega))
  exact zt [] (.g (.s 5) a4l (.i (.v 3) a4m (.i (.v 4) a4n .nil))) (zh hI hhc) (zp hI hh) hI ze1
 ·have hI := zN1 hI ab0 wj
  have t1 := zf1 (bsq (σ := Gv.σ) hP (by omega) a4o a4p (.v 3) (.v 4))
  have hI := zE1 hI (.app 221 a4q) (.c 1)
  have hI := zF1 hI arb (.c (-1))
  have hI := zT1 hI arb (.v 6)
  have hI := zF1 hI (.rd ara (.c 0)) (.bin 6 .i64 (.app 201 a4q) ag9)
  have hI := zT1 hI ag9 azv
  have hI := zF1 hI ag9 (.c 0)
  have u := zf2 (bjl (Gv.σ 5) (Gv.σ 7) ((Gv.σ 3).headD 0) ((Gv.σ 4).headD 0) ((Gv.σ 8).headD 0) (by omega))
  exact zt [] (.g (.app 210 ard) a4l (.i (.app 211 ard) a4m (.i (.app 212 ard) a4n .nil))) (zh hI hhc) (zp hI hh) hI ze1
theorem a8s : ∀ (B : Nat) (σ : Nat → List Int), SAll σ afh → (m8).eval σ < (B : Int) → @bkG ⟨σ⟩
 | 0, σ, hI, hb => by obtain ⟨hP, ⟨l1, l2, l3⟩, l4, l5, l6⟩ := bjk hI; simp only [m8, evs, wr] at hb; omega
 | B + 1, σ, hI, hb => by
   have ih : ∀ σ' : Nat → List Int, SAll σ' afh → 0 ≤ (m8).eval σ' ∧ (m8).eval σ' < (m8).eval σ → @bkG ⟨σ'⟩ := fun σ' h h' => a8s B σ' h (by omega)
   have hh : ∀ t ∈ [bk (m8)], @ar ⟨σ⟩ t := by
    intro t ht
    simp only [List.mem_cons, zJ, or_false] at ht
    rcases ht with rfl
    ·exact fun σ' _ hA hb => (ih σ' (ap hA).1 hb) (ap hA).2
   exact @bsr ⟨σ⟩ hh hI
theorem bn3 [Gv] : ar bkF := fun σ _ hA _ => (a8s (((m8).eval σ).toNat + 1) σ (ap hA).1 (by omega)) (ap hA).2
theorem hhd [Gv] : ∀ t ∈ [bn8, bn9, bps, bm4, bp6, bl2], de t := by
 intro t ht
 simp only [List.mem_cons, zJ, or_false] at ht
 rcases ht with rfl | rfl | rfl | rfl | rfl | rfl
 ·exact bgp
 ·exact bgq
 ·exact bh4
 ·exact a1j
 ·exact bia
 ·exact a0j
theorem hbk [Gv] : ∀ t ∈ [bkF], ar t := vv bn3
def bnm [Gv] : Prop := (SAll Gv.σ [] → b8 128 1 bnq 268 bnn bnp 272 bno)
theorem bo0 [Gv] (hh : ∀ t ∈ [slS mLn], ar t) (hI : SAll Gv.σ aam) : bnm := by
 obtain ⟨l1, l2, l3, l4, l5⟩ := blc hI
 have q := bdm (Gv.σ 5) ((Gv.σ 1).headD 0) ((Gv.σ 2).headD 0) (by omega)
 rcases zq1 hI (.v 1) (.c 2) with ⟨hI, k1⟩ | ⟨hI, k1⟩
 ·have hI := zE1 hI a4r (.c 1)
  have hI := zT1 hI (.v 6) (.c 65536)
  have hI := zF1 hI (.c 400000) adp
  have hI := zF1 hI adp (.c 1)
  have hI := zF1 hI (.c 2000) adp
  have hI := zE1 hI (.bin 6 .i64 (.len (.s 7)) (.c 2)) (.bin 7 .i64 (.c 2) adp)
  have hI := zF1 hI adq (.c 0)
  have hI := zF1 hI (.c 2000) a4t
  have hI := zT1 hI adq sg
  have u := zf3 (a1q (Gv.σ 5) ((Gv.σ 1).headD 0) ((Gv.σ 2).headD 0) (by omega))
  exact zt [(289, 268)] (.i a4t aq5 (.g (.cat (.cat (.s 7) a4u) a4v) a4x .nil)) (zh hI hhd) (zp hI hh) hI ze1
 ·have u := zf3 (a1q (Gv.σ 5) ((Gv.σ 1).headD 0) ((Gv.σ 2).headD 0) (by omega))
  exact zt [(267, 268)] (.i (.v 1) (.c 1) (.i (.v 2) (.c 0) (.i (.v 6) aq5 (.g (.s 7) a4x .nil)))) (zh hI hhd) (zp hI hh) hI ze1
theorem a27 : ∀ (B : Nat) (σ : Nat → List Int), SAll σ aam → (mLn).eval σ < (B : Int) → @bnm ⟨σ⟩
 | 0, σ, hI, hb => by obtain ⟨l1, l2, l3, l4, l5⟩ := blc hI; simp only [mLn, evs, wr] at hb; omega
 | B + 1, σ, hI, hb => by
   have ih : ∀ σ' : Nat → List Int, SAll σ' aam → 0 ≤ (mLn).eval σ' ∧ (mLn).eval σ' < (mLn).eval σ → @bnm ⟨σ'⟩ := fun σ' h h' => a27 B σ' h (by omega)
   have hh : ∀ t ∈ [slS (mLn)], @ar ⟨σ⟩ t := by
    intro t ht
    simp only [List.mem_cons, zJ, or_false] at ht
    rcases ht with rfl
    ·exact fun σ' _ hA hb => (ih σ' (ap hA).1 hb) (ap hA).2
   exact @bo0 ⟨σ⟩ hh hI
theorem bnr [Gv] : ar bq2 := fun σ _ hA _ => (a27 (((mLn).eval σ).toNat + 1) σ (ap hA).1 (by omega)) (ap hA).2
theorem bpb [Gv] : ∀ t ∈ [bq2], ar t := vv bnr
def btl [Gv] : Prop := (SAll Gv.σ ag6 → b8 128 1 biy 267 biw bk5 272 bk4) ∧ (SAll Gv.σ ag7 → b8 128 1 biy 267 biw bk2 272 bk1)
theorem bj3 [Gv] (hI : SAll Gv.σ ag5) : btl := by
 obtain ⟨l1, l2⟩ := bfq hI
 have q := bdm (Gv.σ 5) ((Gv.σ 1).headD 0) ((Gv.σ 2).headD 0) (by omega)
 rcases zq1 hI (.v 1) (.c 2) with ⟨hI, k1⟩ | ⟨hI, k1⟩
 ·have hI := zE1 hI a4r (.c 1)
  have hI := zF1 hI adq (.c 0)
  have hI := zF1 hI (.c 2000) a4y
  have u := zf3 (a1q (Gv.σ 5) ((Gv.σ 1).headD 0) ((Gv.σ 2).headD 0) (by omega))
  exact ⟨zn1,
   zt [(288, 268)] (.i a4y sg (.g (.cat a4u a4v) a4w .nil)) (zh hI hhd) (zp hI bpb) hI ze1⟩
 ·have u := zf3 (a1q (Gv.σ 5) ((Gv.σ 1).headD 0) ((Gv.σ 2).headD 0) (by omega))
  exact ⟨zt [] (.i (.v 1) (.c 1) (.i (.v 2) (.c 0) .nil)) (zh hI hhd) (zp hI bpb) hI ze1,
   zn1⟩
theorem biz [Gv] : ar bk3 := fun σ _ hA _ => (@bj3 ⟨σ⟩  (ap hA).1).1 (ap hA).2
theorem bix [Gv] : ar bk0 := fun σ _ hA _ => (@bj3 ⟨σ⟩  (ap hA).1).2 (ap hA).2
theorem bpa [Gv] : ∀ t ∈ [bk3, bk0], ar t := by
 intro t ht
 simp only [List.mem_cons, zJ, or_false] at ht
 rcases ht with rfl | rfl
 ·exact biz
 ·exact bix
def btm [Gv] : Prop := (SAll Gv.σ ag6 → cm 42 bi3 257 bi1 blb 290 bla) ∧ (SAll Gv.σ ag7 → cm 42 bi3 257 bi1 bk8 290 bk7)
theorem bj4 [Gv] (hI : SAll Gv.σ ag8) : btm := by
 obtain ⟨hP, l1, l2⟩ := bns hI
 obtain ⟨p1, p2, p3, p4⟩ := ajo hP
 have q := bdm (Gv.σ 5) ((Gv.σ 1).headD 0) ((Gv.σ 2).headD 0) (by omega)
 have hI := zT1 hI (.c 0) wj
 rcases zq1 hI sg (.c 0) with ⟨hI, k2⟩ | ⟨hI, k2⟩
 ·have u := l1
  exact ⟨zm0 [] (zh hI hhd) (zp hI bpa) hI,
   zn1⟩
 ·have u := l1
  exact ⟨zn1,
   zm0 [(269, 258)] (zh hI hhd) (zp hI bpa) hI⟩
theorem bi4 [Gv] : de bk9 := fun σ _ hA _ => (@bj4 ⟨σ⟩  (ap hA).1).1 (ap hA).2
theorem bi2 [Gv] : de bk6 := fun σ _ hA _ => (@bj4 ⟨σ⟩  (ap hA).1).2 (ap hA).2
def bs4 [Gv] : Prop := (SAll Gv.σ [] → cm 36 bp5 258 bp2 bp4 280 bp3)
theorem bou [Gv] (hI : SAll Gv.σ aq6) : bs4 := by
 obtain ⟨hP, ⟨l1, l2, l3⟩, l4⟩ := bp7 hI
 obtain ⟨p1, p2, p3, p4⟩ := ajo hP
 have hI := zT1 hI (.c 0) wj
 have hI := zF1 hI (.c 65536) (.v 6)
 have hI := zF1 hI a4z (.v 6)
 have hI := zF1 hI arf (.c (-1))
 have hI := zT1 hI arf (.v 6)
 have hI := zF1 hI wj (.bin 6 .i64 ab0 a40)
 have u := l1
 exact zm [] (.i (.app 211 arh) (.app 211 aan) (.i (.app 212 arh) (.app 212 aan) (.g (.app 210 arh) (.app 210 aan) .nil))) (zh hI hhd) (zp hI hbk) hI ze1
theorem bdv [Gv] : de bm9 := fun σ _ hA _ => (@bou ⟨σ⟩  (ap hA).1) (ap hA).2
def bs3 [Gv] : Prop := (SAll Gv.σ [] → cm 36 bp1 257 bpy bp0 280 bpz)
theorem bos [Gv] (hI : SAll Gv.σ aq7) : bs3 := by
 obtain ⟨hP, l4⟩ := bp8 hI
 obtain ⟨p1, p2, p3, p4⟩ := ajo hP
 have hI := zT1 hI (.c 0) wj
 have hI := zF1 hI a4z (.c 0)
 have u := hP
 exact zm0 [] (zh hI hhd) (zp hI hbk) hI
theorem bdu [Gv] : de bm8 := fun σ _ hA _ => (@bos ⟨σ⟩  (ap hA).1) (ap hA).2
end Go.Ev
