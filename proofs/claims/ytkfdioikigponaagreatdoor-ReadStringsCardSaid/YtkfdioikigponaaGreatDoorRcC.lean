import Derived.Test.YtkfdioikigponaaGreatDoorRcB
set_option maxRecDepth 100000
set_option linter.all false
namespace Go.Ev
abbrev om : AL := .i (.c 0) .nil
abbrev ai8 : List SA := [.mk true (.c 20000) (.len (.s 3)) false]
abbrev cx : GE := .cat (.one (.c 1)) (.cat (.one (.c 0)) (.one (.c 0)))
abbrev arf : SE := .app 59 (.g cx (.g (.s 3) .nil))
abbrev bau : List SA := [.mk false arf (.c 0) true]
abbrev bbg : List SA := [.mk false arf (.c 0) false]
abbrev oz : GE := .cat (.one (.c 1)) (.cat (.one (.c 1)) (.one (.c 0)))
abbrev avb : SE := .app 59 (.g oz (.g (.s 3) .nil))
abbrev adk : AL := .g (.s 0) (.i (.v 1) (.g .nil .nil))
abbrev pn : List SA := [.mk false (.app 42 (.g (.s 0) .nil)) (.c 1) true, .mk true (.v 1) (.c 0) false, .mk true (.len (.s 0)) (.v 1) false]
abbrev agh : SE := .app 91 adk
abbrev eu : GE := .app 91 adk
abbrev a1m : AL := .g eu .nil
abbrev yo : SE := .app 59 (.g cx a1m)
abbrev azi : List SA := [.mk false agh (.c 0) true, .mk false yo (.c 0) true]
abbrev lk : SE := .app 92 adk
abbrev af4 : List SA := [.mk false agh (.c 0) false]
abbrev a0c : List SA := [.mk false agh (.c 0) true, .mk false yo (.c 0) false]
abbrev ag3 : AL := .g (.s 4) .nil
abbrev y9 : AL := .g (.s 0) (.i (.v 1) ag3)
abbrev pj : List SA := [.mk false (.app 42 (.g (.s 0) .nil)) (.c 1) true, .mk true (.v 1) (.c 0) false, .mk true (.len (.s 0)) (.v 1) false, .mk true (.bin 7 .i64 (.c 4) (.v 1)) (.len (.s 4)) false, .mk true (.len (.s 4)) (.c 1) false]
abbrev ahe : SE := .app 91 y9
abbrev ed : GE := .app 91 y9
abbrev azq : AL := .g ed .nil
abbrev vb : SE := .app 59 (.g cx azq)
abbrev a1k : List SA := [.mk false ahe (.c 0) true, .mk false vb (.c 0) true]
abbrev li : SE := .app 92 y9
abbrev af8 : List SA := [.mk false ahe (.c 0) false]
abbrev a01 : List SA := [.mk false ahe (.c 0) true, .mk false vb (.c 0) false]
abbrev adc : SE := .app 59 (.g oz a1m)
abbrev a2r : List SA := [.mk false agh (.c 0) true]
abbrev acn : SE := .app 59 (.g oz azq)
abbrev a1a : List SA := [.mk false ahe (.c 0) true]
abbrev ahm : SE := .app 49 (.g (.s 3) om)
abbrev azs : SE := .bin 0 .i64 (.c 0) ahm
abbrev j9 : SE := .bin 0 .i64 (.v 1) (.c 0)
abbrev j7 : SE := .rd (.s 0) j9
abbrev cb : SE := .bin 0 .i64 (.v 1) (.c 1)
abbrev agq : SE := .app 93 adk
abbrev ahj : SE := .app 49 (.g eu om)
abbrev afz : AL := .g (.s 0) (.i cb .nil)
abbrev afv : SE := .app 87 afz
abbrev acy : SE := .app 89 afz
abbrev cm : SE := .app 90 afz
abbrev ahh : AL := .g (.s 0) (.i cm (.g .nil .nil))
abbrev az8 : SE := .app 91 ahh
abbrev xk : GE := .app 91 ahh
abbrev a2c : AL := .g xk .nil
abbrev a17 : SE := .app 59 (.g cx a2c)
abbrev bl : SE := .bin 6 .i64 (.len (.s 0)) (.bin 7 .i64 (.c (-1)) cm)
abbrev cj : SE := .bin 6 .i64 (.len (.s 0)) (.bin 7 .i64 (.c (-1)) (.v 1))
abbrev azt : SE := .app 92 ahh
abbrev ka : SE := .bin 0 .i32 acy (.c 0)
abbrev yt : SE := .bin 7 .i64 (.c 4) cm
abbrev aa6 : GE := .app 40 (.i ka .nil)
abbrev adb : SE := .len aa6
abbrev ag4 : AL := .g (.s 0) (.i cm (.g aa6 .nil))
abbrev azc : SE := .app 91 ag4
abbrev yk : GE := .app 91 ag4
abbrev a3a : AL := .g yk .nil
abbrev azx : SE := .app 59 (.g cx a3a)
abbrev a4f : SE := .app 92 ag4
abbrev ags : SE := .app 88 afz
abbrev j6 : SE := .bin 0 .i32 j7 (.c 0)
abbrev ahk : SE := .bin 7 .i64 (.c 4) cb
abbrev abn : GE := .app 40 (.i j6 .nil)
abbrev aa0 : SE := .len abn
abbrev ag2 : AL := .g (.s 0) (.i cb (.g abn .nil))
abbrev a08 : SE := .app 91 ag2
abbrev yf : GE := .app 91 ag2
abbrev a3r : AL := .g yf .nil
abbrev azr : SE := .app 59 (.g cx a3r)
abbrev ff : SE := .bin 6 .i64 (.len (.s 0)) (.bin 7 .i64 (.c (-1)) cb)
abbrev a1y : SE := .app 92 ag2
abbrev a0r : SE := .app 59 (.g cx ag3)
abbrev ahq : SE := .app 93 y9
abbrev ahb : SE := .app 49 (.g ed om)
abbrev ahr : AL := .g (.s 0) (.i cm ag3)
abbrev a1o : SE := .app 91 ahr
abbrev ye : GE := .app 91 ahr
abbrev a0v : AL := .g ye .nil
abbrev aym : SE := .app 59 (.g cx a0v)
abbrev a26 : SE := .app 92 ahr
abbrev agj : SE := .bin 6 .i64 (.len (.s 4)) adb
abbrev apo : GE := .cat (.s 4) aa6
abbrev agk : AL := .g (.s 0) (.i cm (.g apo .nil))
abbrev a3c : SE := .app 91 agk
abbrev yx : GE := .app 91 agk
abbrev a3f : AL := .g yx .nil
abbrev a2y : SE := .app 59 (.g cx a3f)
abbrev a2e : SE := .app 92 agk
abbrev ag1 : SE := .bin 6 .i64 (.len (.s 4)) aa0
abbrev aqe : GE := .cat (.s 4) abn
abbrev aft : AL := .g (.s 0) (.i cb (.g aqe .nil))
abbrev a38 : SE := .app 91 aft
abbrev yv : GE := .app 91 aft
abbrev az9 : AL := .g yv .nil
abbrev a3t : SE := .app 59 (.g cx az9)
abbrev a1e : SE := .app 92 aft
abbrev ase : SE := .app 59 (.g oz (.g (.lit 0 0) .nil))
abbrev as1 : SE := .app 59 (.g oz ag3)
noncomputable section
def hz0 (k : Nat) : HO := .mk k (.cells 76 false 0 0 [.int .i64 1, .int .i64 0, .int .i64 0, .nilSlice, .nilSlice])
def hz1 (k ko kt : Nat) (g : GE) : List HO := [.mk k (.cells 76 false 0 0 [.int .i64 1, .int .i64 1, .sym .i64 (.app 49 (.g g om)) [], .slice (K.of ko) 0 1 1 (some 1), .nilSlice]), .mk ko (.cells 84 true 0 0 [.iface 81 (.ptr (K.of kt) 0)]), .mk kt (.cells 87 false 0 0 [.gv (.str g [])])]
def hx (k ko : Nat) : HO := .mk k (.cells 76 false 0 0 [.int .i64 1, .int .i64 1, sy 21, .slice (K.of ko) 0 1 1 (some 1), .nilSlice])
def bf0 : List AV := [.ptr (K.of 256) 0, .gv (.str (.s 3) [])]
def bdk : List HO := [hz0 256]
def bj9 : List HO := hz1 256 258 257 (.s 3)
def bjj : TR := .ret (.tuple [.agg [.int .i64 3, .int .i64 0], .int .i64 0])
def bmr : TM := .mk 80 bf0 257 bdk (ai8 ++ bau) none bjj 260 bj9
def bkb : List HO := [hz0 256]
def bld : TR := .ret (.tuple [.agg [.int .i64 0, .int .i64 0], .sym .i64 arf []])
def bkr : TM := .mk 80 bf0 257 bdk (ai8 ++ bbg) none bld 260 bkb
def bvl : List AV := [.ptr (K.of 256) 0, .gv (.str (.s 3) [])]
def but : List HO := [hx 256 257]
def bst : List HO := [hx 256 257]
def bw3 : TR := .ret (.tuple [.agg [.int .i64 0, .int .i64 0], .sym .i64 avb []])
def bw7 : TM := .mk 80 bvl 258 but (ai8 ++ []) none bw3 260 bst
def a4t : List AV := [.ptr (K.of 256) 0, .top, .ptr (K.of 262) 0, sy 3, .ptr (K.of 263) 0] ++ tps 44
def a4u : List HO := ([rd0, rwO 257, hz0 258, bxO 262 .top .top] ++ [.mk 263 (.cells 108 false 0 0 [.nilPtr, .nilSlice])])
def blg : List HO := ([rdO 256 258 259 257 (.app 93 adk) (.v 2), rwO 257] ++ hz1 258 266 267 (.app 91 adk) ++ [bxO 262 (.int .i64 3) (.int .i64 0)])
def bmc : LR := (.r ([.ptr (K.of 256) 0, .top, .ptr (K.of 262) 0, sy 3, .ptr (K.of 263) 0] ++ tps 44))
def bi4 (m : SE) : LT := .mk 60 4 a4t 264 a4u (pn ++ azi) (some (mLn, m)) bmc 280 blg
def blq : LT := znl (bi4 (.c 0))
def bjn : List HO := []
def bk5 : LR := (.p [.mk (.iface 34 (.agg [.int .i64 5, .sym .i64 lk []])) false] (tps 49))
def bdw (m : SE) : LT := .mk 60 4 a4t 264 a4u (pn ++ af4) (some (mLn, m)) bk5 280 bjn
def blu : LT := znl (bdw (.c 0))
def bmx : List HO := []
def bmk : LR := (.p [.mk (.iface 34 (.agg [.sym .i64 yo [], .sym .i64 (.v 3) []])) false] (tps 49))
def bdm (m : SE) : LT := .mk 60 4 a4t 264 a4u (pn ++ a0c) (some (mLn, m)) bmk 280 bmx
def bl7 : LT := znl (bdm (.c 0))
def a59 : List AV := [.ptr (K.of 256) 0, .top, .ptr (K.of 262) 0, sy 3, .ptr (K.of 263) 0] ++ tps 44
def a6z : List HO := ([rd0, rwO 257, hz0 258, bxO 262 .top .top] ++ buO 263 264 (.s 4) (.len (.s 4)))
def bjk : List HO := ([rdO 256 258 259 257 (.app 93 y9) (.v 2), rwO 257] ++ hz1 258 266 267 (.app 91 y9) ++ [bxO 262 (.int .i64 3) (.int .i64 0)])
def bkt : LR := (.r ([.ptr (K.of 256) 0, .top, .ptr (K.of 262) 0, sy 3, .ptr (K.of 263) 0] ++ tps 44))
def bnj (m : SE) : LT := .mk 60 4 a59 265 a6z (pj ++ a1k) (some (mLn, m)) bkt 280 bjk
def bko : List HO := []
def bmp : LR := (.p [.mk (.iface 34 (.agg [.int .i64 5, .sym .i64 li []])) false] (tps 49))
def bro (m : SE) : LT := .mk 60 4 a59 265 a6z (pj ++ af8) (some (mLn, m)) bmp 280 bko
def bjr : List HO := []
def bkl : LR := (.p [.mk (.iface 34 (.agg [.sym .i64 vb [], .sym .i64 (.v 3) []])) false] (tps 49))
def brk (m : SE) : LT := .mk 60 4 a59 265 a6z (pj ++ a01) (some (mLn, m)) bkl 280 bjr
def bhc : List AV := [.ptr (K.of 256) 0, .top, .ptr (K.of 262) 0, sy 3, .ptr (K.of 263) 0] ++ tps 44
def bf2 : List HO := ([rd0, rwO 257, hx 258 261, bxO 262 .top .top] ++ [.mk 263 (.cells 108 false 0 0 [.nilPtr, .nilSlice])])
def bme : List HO := [hx 258 261]
def bkj : LR := (.p [.mk (.iface 34 (.agg [.int .i64 5, .sym .i64 lk []])) false] (tps 49))
def bev (m : SE) : LT := .mk 60 4 bhc 264 bf2 (pn ++ af4) (some (mLn, m)) bkj 280 bme
def bm0 : LT := znl (bev (.c 0))
def bkk : List HO := [hx 258 261]
def bk2 : LR := (.p [.mk (.iface 34 (.agg [.sym .i64 adc [], .sym .i64 (.v 3) []])) false] (tps 49))
def bjb (m : SE) : LT := .mk 60 4 bhc 264 bf2 (pn ++ a2r) (some (mLn, m)) bk2 280 bkk
def bmv : LT := znl (bjb (.c 0))
def bfw : List AV := [.ptr (K.of 256) 0, .top, .ptr (K.of 262) 0, sy 3, .ptr (K.of 263) 0] ++ tps 44
def bed : List HO := ([rd0, rwO 257, hx 258 261, bxO 262 .top .top] ++ buO 263 264 (.s 4) (.len (.s 4)))
def bju : List HO := [hx 258 261]
def bl8 : LR := (.p [.mk (.iface 34 (.agg [.int .i64 5, .sym .i64 li []])) false] (tps 49))
def bo5 (m : SE) : LT := .mk 60 4 bfw 265 bed (pj ++ af8) (some (mLn, m)) bl8 280 bju
def bll : List HO := [hx 258 261]
def bls : LR := (.p [.mk (.iface 34 (.agg [.sym .i64 acn [], .sym .i64 (.v 3) []])) false] (tps 49))
def brc (m : SE) : LT := .mk 60 4 bfw 265 bed (pj ++ a1a) (some (mLn, m)) bls 280 bll
end
theorem evH : (∀ z : Int, ug [1, 0, 0] z = if 1048576 < z then ⟨7, [1, 0, 0]⟩ else ⟨0, [1, 1, z]⟩) ∧ (∀ z : Int, ug [1, 1, 0] z = ⟨7, [1, 1, 0]⟩) := by
 refine ⟨fun z => ?_, fun z => ?_⟩
 ·rw [ann]
  show (if (0 : Int) = 1 ∨ 1048576 < 0 + z then _ else _) = _
  by_cases h : 1048576 < z
  ·rw [if_pos (by omega), if_pos h]
  ·rw [if_neg (by omega), if_neg h]
   show (⟨0, [1, 0 + 1, 0 + z]⟩ : AR) = _
   rw [Int.zero_add, Int.zero_add]
 ·rw [ann, if_pos (.inl rfl)]
theorem evZ : nc [1, 0, 0] [] = ⟨0, [1, 1, 0]⟩ ∧ (∀ s : List Int, nc [1, 1, 0] s = ⟨(nc [1, 1, 0] s).f, [1, 1, 0]⟩) := by
 have v : b8 [] = 1 := rfl
 have c : zg [] 0 = 0 := by rw [ac6, if_neg (by decide)]
 refine ⟨by rw [qi, v, c, if_neg (by decide), if_neg (by decide), evH.1, if_neg (by decide)], fun s => ?_⟩
 rw [qi]; repeat' split
 ·rfl
 ·rfl
 ·rw [evH.2]
theorem vo {σ : Nat → List Int} (g : GE) : ¬ (SE.app 59 (.g oz (.g g .nil))).eval σ = 0 := by
 show ¬ (nc [1, 1, 0] (g.eval σ)).f = 0
 rw [qi]; repeat' split
 ·decide
 ·decide
 ·rw [evH.2]; decide
theorem hhx [Gv] : ∀ t ∈ [bpl, bn1, rcF], bn t := by
 intro t ht
 simp only [List.mem_cons, zH, or_false] at ht
 rcases ht with rfl | rfl | rfl
 ·exact a7f
 ·exact a91
 ·exact buf
def b3t [Gv] : Prop := (SAll Gv.σ bau → cz 80 bf0 257 bdk bjj 260 bj9) ∧ (SAll Gv.σ bbg → cz 80 bf0 257 bdk bld 260 bkb)
theorem bjm [Gv] (hI : SAll Gv.σ ai8) : b3t := by
 have hL := au7 hI
 have t1 := asg (bm3 (σ := Gv.σ) (.s 3))
 rcases bvr hI (.app 50 (.g (.s 3) .nil)) (.c 1) with ⟨hI, k1⟩ | ⟨hI, k1⟩
 ·have t2 := asg (f49 (σ := Gv.σ) (.s 3) (.c 0))
  have hI := bpg hI (.c 65536) ahm
  have hI := bpg hI (.c 1048576) azs
  have t3 := asg (f59 (σ := Gv.σ) cx (.s 3))
  have u := hL
  exact ⟨zm [(259, 257), (263, 258)] (.i azs ahm .nil) (zh hI hhx) ai hI bh7,
   bu9⟩
 ·have t4 := asg (f59 (σ := Gv.σ) cx (.s 3))
  have u := hL
  exact ⟨bu9,
   zm [] (.i (.c 5) arf .nil) (zh hI hhx) ai hI bh7⟩
theorem bfv [Gv] : bn bmr := fun σ _ hA _ => (@bjm ⟨σ⟩  (ak hA).1).1 (ak hA).2
theorem bi0 [Gv] : bn bkr := fun σ _ hA _ => (@bjm ⟨σ⟩  (ak hA).1).2 (ak hA).2
def b3k [Gv] : Prop := (SAll Gv.σ [] → cz 80 bvl 258 but bw3 260 bst)
theorem bsl [Gv] (hI : SAll Gv.σ ai8) : b3k := by
 have hL := au7 hI
 have t1 := asg (bm3 (σ := Gv.σ) (.s 3))
 rcases bvr hI (.app 50 (.g (.s 3) .nil)) (.c 1) with ⟨hI, k1⟩ | ⟨hI, k1⟩
 ·have t2 := asg (f49 (σ := Gv.σ) (.s 3) (.c 0))
  have hI := bpg hI (.c 65536) ahm
  have t3 := asg (vo (σ := Gv.σ) (.s 3))
  have u := hL
  exact zm [] (.i (.c 7) avb .nil) (zh hI hhx) ai hI bh7
 ·have t4 := asg (vo (σ := Gv.σ) (.s 3))
  have u := hL
  exact zm [] (.i (.c 5) avb .nil) (zh hI hhx) ai hI bh7
theorem brj [Gv] : bn bw7 := fun σ _ hA _ => (@bsl ⟨σ⟩  (ak hA).1) (ak hA).2
theorem htz [Gv] : ∀ t ∈ [a81, bb2, bnm, bm8, bmr, bkr], bn t := by
 intro t ht
 simp only [List.mem_cons, zH, or_false] at ht
 rcases ht with rfl | rfl | rfl | rfl | rfl | rfl
 ·exact a1l
 ·exact a16
 ·exact ba9
 ·exact a8w
 ·exact bfv
 ·exact bi0
def bu2 [Gv] : Prop := (SAll Gv.σ azi → di 60 4 a4t 264 a4u bmc 280 blg) ∧ (SAll Gv.σ af4 → di 60 4 a4t 264 a4u bk5 280 bjn) ∧ (SAll Gv.σ a0c → di 60 4 a4t 264 a4u bmk 280 bmx)
theorem bwy [Gv] (hh : ∀ t ∈ [bi4 mLn, bdw mLn, bdm mLn, bnj mLn, bro mLn, brk mLn], bh t) (hI : SAll Gv.σ pn) : bu2 := by
 obtain ⟨hR, hp0, hpl, hL⟩ := s9 hI
 rcases as0 hI j9 (.len (.s 0)) with ⟨hI, k1⟩ | ⟨hI, k1⟩
 ·have hI := bj hI j9 (.c 0)
  have t1 := ay (aq8 hR j9)
  have hI := bj hI j7 (.c 0)
  rcases lx hI j7 (.c 34) with ⟨hI, k4⟩ | ⟨hI, k4⟩
  ·have t2 := ay (f59 (σ := Gv.σ) cx (.lit 0 0))
   have hI := b3f hI (.app 59 (.g cx (.g (.lit 0 0) .nil))) (.c 0)
   have t3 := ay (f91 hR (.v 1) .nil)
   have t4 := ay (f49 (σ := Gv.σ) (.lit 0 0) (.c 0))
   have t5 := ay (f49 (σ := Gv.σ) eu (.c 0))
   have t6 := ay (f59 (σ := Gv.σ) cx eu)
   have u := gr (bg (Gv.σ 0) ((Gv.σ 1).headD 0) [])
   exact ⟨zt [(264, 267), (265, 266)] (.i cb agq (.i (.app 49 (.g (.lit 0 0) om)) ahj (.g (.lit 0 0) eu .nil))) (zh hI htz) (zp hI hh) hI gz,
    da,
    da⟩
  ·rcases lx hI j7 (.c 92) with ⟨hI, k5⟩ | ⟨hI, k5⟩
   ·have hI := bj hI cb (.c 0)
    have hI := bj hI (.len (.s 0)) cb
    have t7 := ay (f87 hR cb)
    rcases lx hI afv (.c 0) with ⟨hI, k8⟩ | ⟨hI, k8⟩
    ·rcases as0 hI acy (.c 0) with ⟨hI, k9⟩ | ⟨hI, k9⟩
     ·have hI := bj hI cm (.c 0)
      have hI := bj hI (.len (.s 0)) cm
      have t8 := ay (f91 hR cm .nil)
      rcases lx hI az8 (.c 0) with ⟨hI, k12⟩ | ⟨hI, k12⟩
      ·have t9 := ay (f59 (σ := Gv.σ) cx xk)
       rcases lx hI a17 (.c 0) with ⟨hI, k13⟩ | ⟨hI, k13⟩
       ·have hI := ip hI bl cj
        have hI := bj hI bl (.c 0)
        have t10 := ay (f91 hR (.v 1) .nil)
        have t11 := ay (f49 (σ := Gv.σ) xk (.c 0))
        have t12 := ay (f49 (σ := Gv.σ) eu (.c 0))
        have t13 := ay (f59 (σ := Gv.σ) cx eu)
        have u := gr (bg (Gv.σ 0) ((Gv.σ 1).headD 0) [])
        exact ⟨zt [(268, 266), (269, 267)] (.i (.app 93 ahh) agq (.i (.app 49 (.g xk om)) ahj (.g xk eu .nil))) (zh hI htz) (zp hI hh) hI gz,
         da,
         da⟩
       ·have hI := ip hI bl cj
        have hI := bj hI bl (.c 0)
        have t14 := ay (f91 hR (.v 1) .nil)
        have t15 := ay (f59 (σ := Gv.σ) cx eu)
        have u := gr (bg (Gv.σ 0) ((Gv.σ 1).headD 0) [])
        exact ⟨da,
         da,
         zt [] (.i a17 yo .nil) (zh hI htz) (zp hI hh) hI gz⟩
      ·have hI := ip hI bl cj
       have hI := bj hI bl (.c 0)
       have t16 := ay (f91 hR (.v 1) .nil)
       have u := gr (bg (Gv.σ 0) ((Gv.σ 1).headD 0) [])
       exact ⟨da,
        zt [] (.i azt lk .nil) (zh hI htz) (zp hI hh) hI gz,
        da⟩
     ·have hI := bj hI ka (.c 0)
      have hI := ip hI ka (.c 1114112)
      have hI := bj hI cm (.c 0)
      have hI := bj hI (.len (.s 0)) cm
      have t17 := ay (f40 (σ := Gv.σ) ka)
      have hI := bj hI yt adb
      have hI := bj hI adb (.c 1)
      have t18 := ay (f91 hR cm aa6)
      rcases lx hI azc (.c 0) with ⟨hI, k16⟩ | ⟨hI, k16⟩
      ·have t19 := ay (f59 (σ := Gv.σ) cx yk)
       rcases lx hI azx (.c 0) with ⟨hI, k17⟩ | ⟨hI, k17⟩
       ·have hI := ip hI bl cj
        have hI := bj hI bl (.c 0)
        have t20 := ay (f91 hR (.v 1) .nil)
        have t21 := ay (f49 (σ := Gv.σ) yk (.c 0))
        have t22 := ay (f49 (σ := Gv.σ) eu (.c 0))
        have t23 := ay (f59 (σ := Gv.σ) cx eu)
        have u := gr (bg (Gv.σ 0) ((Gv.σ 1).headD 0) [])
        exact ⟨zt [(268, 266), (269, 267)] (.i (.app 93 ag4) agq (.i (.app 49 (.g yk om)) ahj (.g yk eu .nil))) (zh hI htz) (zp hI hh) hI gz,
         da,
         da⟩
       ·have hI := ip hI bl cj
        have hI := bj hI bl (.c 0)
        have t24 := ay (f91 hR (.v 1) .nil)
        have t25 := ay (f59 (σ := Gv.σ) cx eu)
        have u := gr (bg (Gv.σ 0) ((Gv.σ 1).headD 0) [])
        exact ⟨da,
         da,
         zt [] (.i azx yo .nil) (zh hI htz) (zp hI hh) hI gz⟩
      ·have hI := ip hI bl cj
       have hI := bj hI bl (.c 0)
       have t26 := ay (f91 hR (.v 1) .nil)
       have u := gr (bg (Gv.σ 0) ((Gv.σ 1).headD 0) [])
       exact ⟨da,
        zt [] (.i a4f lk .nil) (zh hI htz) (zp hI hh) hI gz,
        da⟩
    ·have t27 := ay (f91 hR (.v 1) .nil)
     have u := gr (bg (Gv.σ 0) ((Gv.σ 1).headD 0) [])
     exact ⟨da,
      zt [] (.i ags lk .nil) (zh hI htz) (zp hI hh) hI gz,
      da⟩
   ·have hI := bj hI j6 (.c 0)
    have hI := ip hI j6 (.c 1114112)
    have hI := bj hI cb (.c 0)
    have hI := bj hI (.len (.s 0)) cb
    have t28 := ay (f40 (σ := Gv.σ) j6)
    have hI := bj hI ahk aa0
    have hI := bj hI aa0 (.c 1)
    have t29 := ay (f91 hR cb abn)
    rcases lx hI a08 (.c 0) with ⟨hI, k12⟩ | ⟨hI, k12⟩
    ·have t30 := ay (f59 (σ := Gv.σ) cx yf)
     rcases lx hI azr (.c 0) with ⟨hI, k13⟩ | ⟨hI, k13⟩
     ·have hI := ip hI ff cj
      have hI := bj hI ff (.c 0)
      have t31 := ay (f91 hR (.v 1) .nil)
      have t32 := ay (f49 (σ := Gv.σ) yf (.c 0))
      have t33 := ay (f49 (σ := Gv.σ) eu (.c 0))
      have t34 := ay (f59 (σ := Gv.σ) cx eu)
      have u := gr (bg (Gv.σ 0) ((Gv.σ 1).headD 0) [])
      exact ⟨zt [(266, 266), (267, 267)] (.i (.app 93 ag2) agq (.i (.app 49 (.g yf om)) ahj (.g yf eu .nil))) (zh hI htz) (zp hI hh) hI gz,
       da,
       da⟩
     ·have hI := ip hI ff cj
      have hI := bj hI ff (.c 0)
      have t35 := ay (f91 hR (.v 1) .nil)
      have t36 := ay (f59 (σ := Gv.σ) cx eu)
      have u := gr (bg (Gv.σ 0) ((Gv.σ 1).headD 0) [])
      exact ⟨da,
       da,
       zt [] (.i azr yo .nil) (zh hI htz) (zp hI hh) hI gz⟩
    ·have hI := ip hI ff cj
     have hI := bj hI ff (.c 0)
     have t37 := ay (f91 hR (.v 1) .nil)
     have u := gr (bg (Gv.σ 0) ((Gv.σ 1).headD 0) [])
     exact ⟨da,
      zt [] (.i a1y lk .nil) (zh hI htz) (zp hI hh) hI gz,
      da⟩
 ·have t38 := ay (f91 hR (.v 1) .nil)
  have u := gr (bg (Gv.σ 0) ((Gv.σ 1).headD 0) [])
  exact ⟨da,
   zt [] (.i (.len (.s 0)) lk .nil) (zh hI htz) (zp hI hh) hI gz,
   da⟩
def bvo [Gv] : Prop := (SAll Gv.σ a1k → di 60 4 a59 265 a6z bkt 280 bjk) ∧ (SAll Gv.σ af8 → di 60 4 a59 265 a6z bmp 280 bko) ∧ (SAll Gv.σ a01 → di 60 4 a59 265 a6z bkl 280 bjr)
theorem bvg [Gv] (hh : ∀ t ∈ [bi4 mLn, bdw mLn, bdm mLn, bnj mLn, bro mLn, brk mLn], bh t) (hI : SAll Gv.σ pj) : bvo := by
 obtain ⟨⟨hR, hp0, hpl, hL⟩, h4, h41⟩ := ahf hI
 rcases as0 hI j9 (.len (.s 0)) with ⟨hI, k1⟩ | ⟨hI, k1⟩
 ·have hI := bj hI j9 (.c 0)
  have t1 := ay (aq8 hR j9)
  have hI := bj hI j7 (.c 0)
  rcases lx hI j7 (.c 34) with ⟨hI, k4⟩ | ⟨hI, k4⟩
  ·have hI := ip hI (.c 0) (.len (.s 4))
   have hI := bj hI (.c 400000) (.len (.s 4))
   have hI := bj hI (.c 20000) (.len (.s 4))
   have t2 := ay (f59 (σ := Gv.σ) cx (.s 4))
   rcases lx hI a0r (.c 0) with ⟨hI, k8⟩ | ⟨hI, k8⟩
   ·have t3 := ay (f91 hR (.v 1) (.s 4))
    have t4 := ay (f49 (σ := Gv.σ) (.s 4) (.c 0))
    have t5 := ay (f49 (σ := Gv.σ) ed (.c 0))
    have t6 := ay (f59 (σ := Gv.σ) cx ed)
    have u := gr (bg (Gv.σ 0) ((Gv.σ 1).headD 0) (Gv.σ 4))
    exact ⟨zt [(265, 267), (266, 266)] (.i cb ahq (.i (.app 49 (.g (.s 4) om)) ahb (.g (.s 4) ed .nil))) (zh hI htz) (zp hI hh) hI gz,
     da,
     da⟩
   ·have t7 := ay (f91 hR (.v 1) (.s 4))
    have t8 := ay (f59 (σ := Gv.σ) cx ed)
    have u := gr (bg (Gv.σ 0) ((Gv.σ 1).headD 0) (Gv.σ 4))
    exact ⟨da,
     da,
     zt [] (.i a0r vb .nil) (zh hI htz) (zp hI hh) hI gz⟩
  ·rcases lx hI j7 (.c 92) with ⟨hI, k5⟩ | ⟨hI, k5⟩
   ·have hI := bj hI cb (.c 0)
    have hI := bj hI (.len (.s 0)) cb
    have t9 := ay (f87 hR cb)
    rcases lx hI afv (.c 0) with ⟨hI, k8⟩ | ⟨hI, k8⟩
    ·rcases as0 hI acy (.c 0) with ⟨hI, k9⟩ | ⟨hI, k9⟩
     ·have hI := bj hI cm (.c 0)
      have hI := bj hI (.len (.s 0)) cm
      have hI := bj hI yt (.len (.s 4))
      have t10 := ay (f91 hR cm (.s 4))
      rcases lx hI a1o (.c 0) with ⟨hI, k13⟩ | ⟨hI, k13⟩
      ·have t11 := ay (f59 (σ := Gv.σ) cx ye)
       rcases lx hI aym (.c 0) with ⟨hI, k14⟩ | ⟨hI, k14⟩
       ·have hI := ip hI bl cj
        have hI := bj hI bl (.c 0)
        have t12 := ay (f91 hR (.v 1) (.s 4))
        have t13 := ay (f49 (σ := Gv.σ) ye (.c 0))
        have t14 := ay (f49 (σ := Gv.σ) ed (.c 0))
        have t15 := ay (f59 (σ := Gv.σ) cx ed)
        have u := gr (bg (Gv.σ 0) ((Gv.σ 1).headD 0) (Gv.σ 4))
        exact ⟨zt [(268, 266), (269, 267)] (.i (.app 93 ahr) ahq (.i (.app 49 (.g ye om)) ahb (.g ye ed .nil))) (zh hI htz) (zp hI hh) hI gz,
         da,
         da⟩
       ·have hI := ip hI bl cj
        have hI := bj hI bl (.c 0)
        have t16 := ay (f91 hR (.v 1) (.s 4))
        have t17 := ay (f59 (σ := Gv.σ) cx ed)
        have u := gr (bg (Gv.σ 0) ((Gv.σ 1).headD 0) (Gv.σ 4))
        exact ⟨da,
         da,
         zt [] (.i aym vb .nil) (zh hI htz) (zp hI hh) hI gz⟩
      ·have hI := ip hI bl cj
       have hI := bj hI bl (.c 0)
       have t18 := ay (f91 hR (.v 1) (.s 4))
       have u := gr (bg (Gv.σ 0) ((Gv.σ 1).headD 0) (Gv.σ 4))
       exact ⟨da,
        zt [] (.i a26 li .nil) (zh hI htz) (zp hI hh) hI gz,
        da⟩
     ·have hI := bj hI ka (.c 0)
      have hI := ip hI ka (.c 1114112)
      have hI := bj hI (.c 50000) (.len (.s 4))
      have hI := bj hI cm (.c 0)
      have hI := bj hI (.len (.s 0)) cm
      have t19 := ay (f40 (σ := Gv.σ) ka)
      have hI := bj hI yt agj
      have hI := bj hI agj (.c 1)
      have t20 := ay (f91 hR cm apo)
      rcases lx hI a3c (.c 0) with ⟨hI, k17⟩ | ⟨hI, k17⟩
      ·have t21 := ay (f59 (σ := Gv.σ) cx yx)
       rcases lx hI a2y (.c 0) with ⟨hI, k18⟩ | ⟨hI, k18⟩
       ·have hI := ip hI bl cj
        have hI := bj hI bl (.c 0)
        have t22 := ay (f91 hR (.v 1) (.s 4))
        have t23 := ay (f49 (σ := Gv.σ) yx (.c 0))
        have t24 := ay (f49 (σ := Gv.σ) ed (.c 0))
        have t25 := ay (f59 (σ := Gv.σ) cx ed)
        have u := gr (bg (Gv.σ 0) ((Gv.σ 1).headD 0) (Gv.σ 4))
        exact ⟨zt [(269, 266), (270, 267)] (.i (.app 93 agk) ahq (.i (.app 49 (.g yx om)) ahb (.g yx ed .nil))) (zh hI htz) (zp hI hh) hI gz,
         da,
         da⟩
       ·have hI := ip hI bl cj
        have hI := bj hI bl (.c 0)
        have t26 := ay (f91 hR (.v 1) (.s 4))
        have t27 := ay (f59 (σ := Gv.σ) cx ed)
        have u := gr (bg (Gv.σ 0) ((Gv.σ 1).headD 0) (Gv.σ 4))
        exact ⟨da,
         da,
         zt [] (.i a2y vb .nil) (zh hI htz) (zp hI hh) hI gz⟩
      ·have hI := ip hI bl cj
       have hI := bj hI bl (.c 0)
       have t28 := ay (f91 hR (.v 1) (.s 4))
       have u := gr (bg (Gv.σ 0) ((Gv.σ 1).headD 0) (Gv.σ 4))
       exact ⟨da,
        zt [] (.i a2e li .nil) (zh hI htz) (zp hI hh) hI gz,
        da⟩
    ·have t29 := ay (f91 hR (.v 1) (.s 4))
     have u := gr (bg (Gv.σ 0) ((Gv.σ 1).headD 0) (Gv.σ 4))
     exact ⟨da,
      zt [] (.i ags li .nil) (zh hI htz) (zp hI hh) hI gz,
      da⟩
   ·have hI := bj hI j6 (.c 0)
    have hI := ip hI j6 (.c 1114112)
    have hI := bj hI (.c 50000) (.len (.s 4))
    have hI := bj hI cb (.c 0)
    have hI := bj hI (.len (.s 0)) cb
    have t30 := ay (f40 (σ := Gv.σ) j6)
    have hI := bj hI ahk ag1
    have hI := bj hI ag1 (.c 1)
    have t31 := ay (f91 hR cb aqe)
    rcases lx hI a38 (.c 0) with ⟨hI, k13⟩ | ⟨hI, k13⟩
    ·have t32 := ay (f59 (σ := Gv.σ) cx yv)
     rcases lx hI a3t (.c 0) with ⟨hI, k14⟩ | ⟨hI, k14⟩
     ·have hI := ip hI ff cj
      have hI := bj hI ff (.c 0)
      have t33 := ay (f91 hR (.v 1) (.s 4))
      have t34 := ay (f49 (σ := Gv.σ) yv (.c 0))
      have t35 := ay (f49 (σ := Gv.σ) ed (.c 0))
      have t36 := ay (f59 (σ := Gv.σ) cx ed)
      have u := gr (bg (Gv.σ 0) ((Gv.σ 1).headD 0) (Gv.σ 4))
      exact ⟨zt [(267, 266), (268, 267)] (.i (.app 93 aft) ahq (.i (.app 49 (.g yv om)) ahb (.g yv ed .nil))) (zh hI htz) (zp hI hh) hI gz,
       da,
       da⟩
     ·have hI := ip hI ff cj
      have hI := bj hI ff (.c 0)
      have t37 := ay (f91 hR (.v 1) (.s 4))
      have t38 := ay (f59 (σ := Gv.σ) cx ed)
      have u := gr (bg (Gv.σ 0) ((Gv.σ 1).headD 0) (Gv.σ 4))
      exact ⟨da,
       da,
       zt [] (.i a3t vb .nil) (zh hI htz) (zp hI hh) hI gz⟩
    ·have hI := ip hI ff cj
     have hI := bj hI ff (.c 0)
     have t39 := ay (f91 hR (.v 1) (.s 4))
     have u := gr (bg (Gv.σ 0) ((Gv.σ 1).headD 0) (Gv.σ 4))
     exact ⟨da,
      zt [] (.i a1e li .nil) (zh hI htz) (zp hI hh) hI gz,
      da⟩
 ·have t40 := ay (f91 hR (.v 1) (.s 4))
  have u := gr (bg (Gv.σ 0) ((Gv.σ 1).headD 0) (Gv.σ 4))
  exact ⟨da,
   zt [] (.i (.len (.s 0)) li .nil) (zh hI htz) (zp hI hh) hI gz,
   da⟩
theorem u9 : ∀ (B : Nat) (σ : Nat → List Int), mLn.eval σ < (B : Int) → (SAll σ pn → @bu2 ⟨σ⟩) ∧ (SAll σ pj → @bvo ⟨σ⟩)
 | 0, σ, hb => by
   refine ⟨fun hI => ?_, fun hI => ?_⟩
   ·obtain ⟨h1, h2, h3, h4⟩ := s9 hI; simp only [mLn, evs, wr] at hb; omega
   ·obtain ⟨⟨h1, h2, h3, h4⟩, _⟩ := ahf hI; simp only [mLn, evs, wr] at hb; omega
 | B + 1, σ, hb => by
   have hh : ∀ t ∈ [bi4 mLn, bdw mLn, bdm mLn, bnj mLn, bro mLn, brk mLn], @bh ⟨σ⟩ t := by
    intro t ht
    simp only [List.mem_cons, zH, or_false] at ht
    rcases ht with rfl | rfl | rfl | rfl | rfl | rfl
    ·exact fun σ' _ hA hb' => by
      have hb' : 0 ≤ mLn.eval σ' ∧ mLn.eval σ' < mLn.eval σ := hb'
      exact ((u9 B σ' (by omega)).1 (ak hA).1).1 (ak hA).2
    ·exact fun σ' _ hA hb' => by
      have hb' : 0 ≤ mLn.eval σ' ∧ mLn.eval σ' < mLn.eval σ := hb'
      exact ((u9 B σ' (by omega)).1 (ak hA).1).2.1 (ak hA).2
    ·exact fun σ' _ hA hb' => by
      have hb' : 0 ≤ mLn.eval σ' ∧ mLn.eval σ' < mLn.eval σ := hb'
      exact ((u9 B σ' (by omega)).1 (ak hA).1).2.2 (ak hA).2
    ·exact fun σ' _ hA hb' => by
      have hb' : 0 ≤ mLn.eval σ' ∧ mLn.eval σ' < mLn.eval σ := hb'
      exact ((u9 B σ' (by omega)).2 (ak hA).1).1 (ak hA).2
    ·exact fun σ' _ hA hb' => by
      have hb' : 0 ≤ mLn.eval σ' ∧ mLn.eval σ' < mLn.eval σ := hb'
      exact ((u9 B σ' (by omega)).2 (ak hA).1).2.1 (ak hA).2
    ·exact fun σ' _ hA hb' => by
      have hb' : 0 ≤ mLn.eval σ' ∧ mLn.eval σ' < mLn.eval σ := hb'
      exact ((u9 B σ' (by omega)).2 (ak hA).1).2.2 (ak hA).2
   exact ⟨fun hI => @bwy ⟨σ⟩ hh hI, fun hI => @bvg ⟨σ⟩ hh hI⟩
theorem be4 [Gv] : bh blq := fun σ _ hA _ => ((u9 ((mLn.eval σ).toNat + 1) σ (by omega)).1 (ak hA).1).1 (ak hA).2
theorem bez [Gv] : bh blu := fun σ _ hA _ => ((u9 ((mLn.eval σ).toNat + 1) σ (by omega)).1 (ak hA).1).2.1 (ak hA).2
theorem bfq [Gv] : bh bl7 := fun σ _ hA _ => ((u9 ((mLn.eval σ).toNat + 1) σ (by omega)).1 (ak hA).1).2.2 (ak hA).2
theorem hty [Gv] : ∀ t ∈ [a81, bb2, bnm, bm8, bw7], bn t := by
 intro t ht
 simp only [List.mem_cons, zH, or_false] at ht
 rcases ht with rfl | rfl | rfl | rfl | rfl
 ·exact a1l
 ·exact a16
 ·exact ba9
 ·exact a8w
 ·exact brj
def bua [Gv] : Prop := (SAll Gv.σ af4 → di 60 4 bhc 264 bf2 bkj 280 bme) ∧ (SAll Gv.σ a2r → di 60 4 bhc 264 bf2 bk2 280 bkk)
theorem bvp [Gv] (hh : ∀ t ∈ [bev mLn, bjb mLn, bo5 mLn, brc mLn], bh t) (hI : SAll Gv.σ pn) : bua := by
 obtain ⟨hR, hp0, hpl, hL⟩ := s9 hI
 rcases as0 hI j9 (.len (.s 0)) with ⟨hI, k1⟩ | ⟨hI, k1⟩
 ·have hI := bj hI j9 (.c 0)
  have t1 := ay (aq8 hR j9)
  have hI := bj hI j7 (.c 0)
  rcases lx hI j7 (.c 34) with ⟨hI, k4⟩ | ⟨hI, k4⟩
  ·have t2 := ay (vo (σ := Gv.σ) (.lit 0 0))
   have hI := btg hI ase (.c 0)
   have t3 := ay (f91 hR (.v 1) .nil)
   have t4 := ay (vo (σ := Gv.σ) eu)
   have u := gr (bg (Gv.σ 0) ((Gv.σ 1).headD 0) [])
   exact ⟨da,
    zt [] (.i ase adc .nil) (zh hI hty) (zp hI hh) hI gz⟩
  ·rcases lx hI j7 (.c 92) with ⟨hI, k5⟩ | ⟨hI, k5⟩
   ·have hI := bj hI cb (.c 0)
    have hI := bj hI (.len (.s 0)) cb
    have t5 := ay (f87 hR cb)
    rcases lx hI afv (.c 0) with ⟨hI, k8⟩ | ⟨hI, k8⟩
    ·rcases as0 hI acy (.c 0) with ⟨hI, k9⟩ | ⟨hI, k9⟩
     ·have hI := bj hI cm (.c 0)
      have hI := bj hI (.len (.s 0)) cm
      have t6 := ay (f91 hR cm .nil)
      rcases lx hI az8 (.c 0) with ⟨hI, k12⟩ | ⟨hI, k12⟩
      ·have hI := ip hI bl cj
       have hI := bj hI bl (.c 0)
       have t7 := ay (vo (σ := Gv.σ) xk)
       have t8 := ay (f91 hR (.v 1) .nil)
       have t9 := ay (vo (σ := Gv.σ) eu)
       have u := gr (bg (Gv.σ 0) ((Gv.σ 1).headD 0) [])
       exact ⟨da,
        zt [] (.i (.app 59 (.g oz a2c)) adc .nil) (zh hI hty) (zp hI hh) hI gz⟩
      ·have hI := ip hI bl cj
       have hI := bj hI bl (.c 0)
       have t10 := ay (f91 hR (.v 1) .nil)
       have u := gr (bg (Gv.σ 0) ((Gv.σ 1).headD 0) [])
       exact ⟨zt [] (.i azt lk .nil) (zh hI hty) (zp hI hh) hI gz,
        da⟩
     ·have hI := bj hI ka (.c 0)
      have hI := ip hI ka (.c 1114112)
      have hI := bj hI cm (.c 0)
      have hI := bj hI (.len (.s 0)) cm
      have t11 := ay (f40 (σ := Gv.σ) ka)
      have hI := bj hI yt adb
      have hI := bj hI adb (.c 1)
      have t12 := ay (f91 hR cm aa6)
      rcases lx hI azc (.c 0) with ⟨hI, k16⟩ | ⟨hI, k16⟩
      ·have hI := ip hI bl cj
       have hI := bj hI bl (.c 0)
       have t13 := ay (vo (σ := Gv.σ) yk)
       have t14 := ay (f91 hR (.v 1) .nil)
       have t15 := ay (vo (σ := Gv.σ) eu)
       have u := gr (bg (Gv.σ 0) ((Gv.σ 1).headD 0) [])
       exact ⟨da,
        zt [] (.i (.app 59 (.g oz a3a)) adc .nil) (zh hI hty) (zp hI hh) hI gz⟩
      ·have hI := ip hI bl cj
       have hI := bj hI bl (.c 0)
       have t16 := ay (f91 hR (.v 1) .nil)
       have u := gr (bg (Gv.σ 0) ((Gv.σ 1).headD 0) [])
       exact ⟨zt [] (.i a4f lk .nil) (zh hI hty) (zp hI hh) hI gz,
        da⟩
    ·have t17 := ay (f91 hR (.v 1) .nil)
     have u := gr (bg (Gv.σ 0) ((Gv.σ 1).headD 0) [])
     exact ⟨zt [] (.i ags lk .nil) (zh hI hty) (zp hI hh) hI gz,
      da⟩
   ·have hI := bj hI j6 (.c 0)
    have hI := ip hI j6 (.c 1114112)
    have hI := bj hI cb (.c 0)
    have hI := bj hI (.len (.s 0)) cb
    have t18 := ay (f40 (σ := Gv.σ) j6)
    have hI := bj hI ahk aa0
    have hI := bj hI aa0 (.c 1)
    have t19 := ay (f91 hR cb abn)
    rcases lx hI a08 (.c 0) with ⟨hI, k12⟩ | ⟨hI, k12⟩
    ·have hI := ip hI ff cj
     have hI := bj hI ff (.c 0)
     have t20 := ay (vo (σ := Gv.σ) yf)
     have t21 := ay (f91 hR (.v 1) .nil)
     have t22 := ay (vo (σ := Gv.σ) eu)
     have u := gr (bg (Gv.σ 0) ((Gv.σ 1).headD 0) [])
     exact ⟨da,
      zt [] (.i (.app 59 (.g oz a3r)) adc .nil) (zh hI hty) (zp hI hh) hI gz⟩
    ·have hI := ip hI ff cj
     have hI := bj hI ff (.c 0)
     have t23 := ay (f91 hR (.v 1) .nil)
     have u := gr (bg (Gv.σ 0) ((Gv.σ 1).headD 0) [])
     exact ⟨zt [] (.i a1y lk .nil) (zh hI hty) (zp hI hh) hI gz,
      da⟩
 ·have t24 := ay (f91 hR (.v 1) .nil)
  have u := gr (bg (Gv.σ 0) ((Gv.σ 1).headD 0) [])
  exact ⟨zt [] (.i (.len (.s 0)) lk .nil) (zh hI hty) (zp hI hh) hI gz,
   da⟩
def bun [Gv] : Prop := (SAll Gv.σ af8 → di 60 4 bfw 265 bed bl8 280 bju) ∧ (SAll Gv.σ a1a → di 60 4 bfw 265 bed bls 280 bll)
theorem bws [Gv] (hh : ∀ t ∈ [bev mLn, bjb mLn, bo5 mLn, brc mLn], bh t) (hI : SAll Gv.σ pj) : bun := by
 obtain ⟨⟨hR, hp0, hpl, hL⟩, h4, h41⟩ := ahf hI
 rcases as0 hI j9 (.len (.s 0)) with ⟨hI, k1⟩ | ⟨hI, k1⟩
 ·have hI := bj hI j9 (.c 0)
  have t1 := ay (aq8 hR j9)
  have hI := bj hI j7 (.c 0)
  rcases lx hI j7 (.c 34) with ⟨hI, k4⟩ | ⟨hI, k4⟩
  ·have hI := ip hI (.c 0) (.len (.s 4))
   have hI := bj hI (.c 400000) (.len (.s 4))
   have hI := bj hI (.c 20000) (.len (.s 4))
   have t2 := ay (vo (σ := Gv.σ) (.s 4))
   have hI := btg hI as1 (.c 0)
   have t3 := ay (f91 hR (.v 1) (.s 4))
   have t4 := ay (vo (σ := Gv.σ) ed)
   have u := gr (bg (Gv.σ 0) ((Gv.σ 1).headD 0) (Gv.σ 4))
   exact ⟨da,
    zt [] (.i as1 acn .nil) (zh hI hty) (zp hI hh) hI gz⟩
  ·rcases lx hI j7 (.c 92) with ⟨hI, k5⟩ | ⟨hI, k5⟩
   ·have hI := bj hI cb (.c 0)
    have hI := bj hI (.len (.s 0)) cb
    have t5 := ay (f87 hR cb)
    rcases lx hI afv (.c 0) with ⟨hI, k8⟩ | ⟨hI, k8⟩
    ·rcases as0 hI acy (.c 0) with ⟨hI, k9⟩ | ⟨hI, k9⟩
     ·have hI := bj hI cm (.c 0)
      have hI := bj hI (.len (.s 0)) cm
      have hI := bj hI yt (.len (.s 4))
      have t6 := ay (f91 hR cm (.s 4))
      rcases lx hI a1o (.c 0) with ⟨hI, k13⟩ | ⟨hI, k13⟩
      ·have hI := ip hI bl cj
       have hI := bj hI bl (.c 0)
       have t7 := ay (vo (σ := Gv.σ) ye)
       have t8 := ay (f91 hR (.v 1) (.s 4))
       have t9 := ay (vo (σ := Gv.σ) ed)
       have u := gr (bg (Gv.σ 0) ((Gv.σ 1).headD 0) (Gv.σ 4))
       exact ⟨da,
        zt [] (.i (.app 59 (.g oz a0v)) acn .nil) (zh hI hty) (zp hI hh) hI gz⟩
      ·have hI := ip hI bl cj
       have hI := bj hI bl (.c 0)
       have t10 := ay (f91 hR (.v 1) (.s 4))
       have u := gr (bg (Gv.σ 0) ((Gv.σ 1).headD 0) (Gv.σ 4))
       exact ⟨zt [] (.i a26 li .nil) (zh hI hty) (zp hI hh) hI gz,
        da⟩
     ·have hI := bj hI ka (.c 0)
      have hI := ip hI ka (.c 1114112)
      have hI := bj hI (.c 50000) (.len (.s 4))
      have hI := bj hI cm (.c 0)
      have hI := bj hI (.len (.s 0)) cm
      have t11 := ay (f40 (σ := Gv.σ) ka)
      have hI := bj hI yt agj
      have hI := bj hI agj (.c 1)
      have t12 := ay (f91 hR cm apo)
      rcases lx hI a3c (.c 0) with ⟨hI, k17⟩ | ⟨hI, k17⟩
      ·have hI := ip hI bl cj
       have hI := bj hI bl (.c 0)
       have t13 := ay (vo (σ := Gv.σ) yx)
       have t14 := ay (f91 hR (.v 1) (.s 4))
       have t15 := ay (vo (σ := Gv.σ) ed)
       have u := gr (bg (Gv.σ 0) ((Gv.σ 1).headD 0) (Gv.σ 4))
       exact ⟨da,
        zt [] (.i (.app 59 (.g oz a3f)) acn .nil) (zh hI hty) (zp hI hh) hI gz⟩
      ·have hI := ip hI bl cj
       have hI := bj hI bl (.c 0)
       have t16 := ay (f91 hR (.v 1) (.s 4))
       have u := gr (bg (Gv.σ 0) ((Gv.σ 1).headD 0) (Gv.σ 4))
       exact ⟨zt [] (.i a2e li .nil) (zh hI hty) (zp hI hh) hI gz,
        da⟩
    ·have t17 := ay (f91 hR (.v 1) (.s 4))
     have u := gr (bg (Gv.σ 0) ((Gv.σ 1).headD 0) (Gv.σ 4))
     exact ⟨zt [] (.i ags li .nil) (zh hI hty) (zp hI hh) hI gz,
      da⟩
   ·have hI := bj hI j6 (.c 0)
    have hI := ip hI j6 (.c 1114112)
    have hI := bj hI (.c 50000) (.len (.s 4))
    have hI := bj hI cb (.c 0)
    have hI := bj hI (.len (.s 0)) cb
    have t18 := ay (f40 (σ := Gv.σ) j6)
    have hI := bj hI ahk ag1
    have hI := bj hI ag1 (.c 1)
    have t19 := ay (f91 hR cb aqe)
    rcases lx hI a38 (.c 0) with ⟨hI, k13⟩ | ⟨hI, k13⟩
    ·have hI := ip hI ff cj
     have hI := bj hI ff (.c 0)
     have t20 := ay (vo (σ := Gv.σ) yv)
     have t21 := ay (f91 hR (.v 1) (.s 4))
     have t22 := ay (vo (σ := Gv.σ) ed)
     have u := gr (bg (Gv.σ 0) ((Gv.σ 1).headD 0) (Gv.σ 4))
     exact ⟨da,
      zt [] (.i (.app 59 (.g oz az9)) acn .nil) (zh hI hty) (zp hI hh) hI gz⟩
    ·have hI := ip hI ff cj
     have hI := bj hI ff (.c 0)
     have t23 := ay (f91 hR (.v 1) (.s 4))
     have u := gr (bg (Gv.σ 0) ((Gv.σ 1).headD 0) (Gv.σ 4))
     exact ⟨zt [] (.i a1e li .nil) (zh hI hty) (zp hI hh) hI gz,
      da⟩
 ·have t24 := ay (f91 hR (.v 1) (.s 4))
  have u := gr (bg (Gv.σ 0) ((Gv.σ 1).headD 0) (Gv.σ 4))
  exact ⟨zt [] (.i (.len (.s 0)) li .nil) (zh hI hty) (zp hI hh) hI gz,
   da⟩
theorem ae0 : ∀ (B : Nat) (σ : Nat → List Int), mLn.eval σ < (B : Int) → (SAll σ pn → @bua ⟨σ⟩) ∧ (SAll σ pj → @bun ⟨σ⟩)
 | 0, σ, hb => by
   refine ⟨fun hI => ?_, fun hI => ?_⟩
   ·obtain ⟨h1, h2, h3, h4⟩ := s9 hI; simp only [mLn, evs, wr] at hb; omega
   ·obtain ⟨⟨h1, h2, h3, h4⟩, _⟩ := ahf hI; simp only [mLn, evs, wr] at hb; omega
 | B + 1, σ, hb => by
   have hh : ∀ t ∈ [bev mLn, bjb mLn, bo5 mLn, brc mLn], @bh ⟨σ⟩ t := by
    intro t ht
    simp only [List.mem_cons, zH, or_false] at ht
    rcases ht with rfl | rfl | rfl | rfl
    ·exact fun σ' _ hA hb' => by
      have hb' : 0 ≤ mLn.eval σ' ∧ mLn.eval σ' < mLn.eval σ := hb'
      exact ((ae0 B σ' (by omega)).1 (ak hA).1).1 (ak hA).2
    ·exact fun σ' _ hA hb' => by
      have hb' : 0 ≤ mLn.eval σ' ∧ mLn.eval σ' < mLn.eval σ := hb'
      exact ((ae0 B σ' (by omega)).1 (ak hA).1).2 (ak hA).2
    ·exact fun σ' _ hA hb' => by
      have hb' : 0 ≤ mLn.eval σ' ∧ mLn.eval σ' < mLn.eval σ := hb'
      exact ((ae0 B σ' (by omega)).2 (ak hA).1).1 (ak hA).2
    ·exact fun σ' _ hA hb' => by
      have hb' : 0 ≤ mLn.eval σ' ∧ mLn.eval σ' < mLn.eval σ := hb'
      exact ((ae0 B σ' (by omega)).2 (ak hA).1).2 (ak hA).2
   exact ⟨fun hI => @bvp ⟨σ⟩ hh hI, fun hI => @bws ⟨σ⟩ hh hI⟩
theorem bej [Gv] : bh bm0 := fun σ _ hA _ => ((ae0 ((mLn.eval σ).toNat + 1) σ (by omega)).1 (ak hA).1).1 (ak hA).2
theorem be0 [Gv] : bh bmv := fun σ _ hA _ => ((ae0 ((mLn.eval σ).toNat + 1) σ (by omega)).1 (ak hA).1).2 (ak hA).2
end Go.Ev
