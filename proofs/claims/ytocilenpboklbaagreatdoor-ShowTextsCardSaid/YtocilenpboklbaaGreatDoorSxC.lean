import Derived.Test.YtocilenpboklbaaGreatDoorSxB
set_option maxRecDepth 100000
set_option linter.all false
namespace Go.Ev
abbrev oh : AL := .i (.c 0) .nil
abbrev ak2 : List SA := [.mk true (.c 20000) (.len (.s 3)) false]
abbrev ayv : GE := .cat (.one (.c 3)) (.cat (.one (.c 0)) (.one (.c 0)))
abbrev arq : SE := .app 59 (.g ayv (.g (.s 3) .nil))
abbrev bd9 : List SA := [.mk false arq (.c 0) true]
abbrev bea : List SA := [.mk false arq (.c 0) false]
abbrev aez : SE := .app 49 (.g (.s 3) oh)
abbrev beb : SE := .bin 6 .i64 (.v 21) aez
abbrev ayw : List SA := [.mk true (.c 20000) (.len (.s 3)) false, .mk true (.v 21) (.c 0) false, .mk true (.c 65536) (.v 21) false]
abbrev bn : GE := .cat (.one (.c 3)) (.cat (.one (.c 1)) (.one (.v 21)))
abbrev ag6 : SE := .app 59 (.g bn (.g (.s 3) .nil))
abbrev a31 : List SA := [.mk false ag6 (.c 0) true]
abbrev a32 : List SA := [.mk false ag6 (.c 0) false]
abbrev yz : AL := .g (.s 0) (.i (.v 1) (.g .nil .nil))
abbrev gk : GE := .app 91 yz
abbrev ac3 : SE := .bin 6 .i64 (.v 21) (.app 49 (.g gk oh))
abbrev ag7 : SE := .app 42 (.g (.s 0) .nil)
abbrev ac4 : List SA := [.mk false ag7 (.c 1) true, .mk true (.v 1) (.c 0) false, .mk true (.len (.s 0)) (.v 1) false, .mk true (.v 21) (.c 0) false, .mk true (.c 65536) (.v 21) false]
abbrev arn : SE := .app 91 yz
abbrev y0 : SE := .app 59 (.g bn (.g gk .nil))
abbrev a33 : List SA := [.mk false arn (.c 0) true, .mk false y0 (.c 0) true]
abbrev y6 : SE := .app 92 yz
abbrev a34 : List SA := [.mk false arn (.c 0) false]
abbrev a35 : List SA := [.mk false arn (.c 0) true, .mk false y0 (.c 0) false]
abbrev y7 : AL := .g (.s 0) (.i (.v 1) (.g (.s 4) .nil))
abbrev f9 : GE := .app 91 y7
abbrev ac5 : SE := .bin 6 .i64 (.v 21) (.app 49 (.g f9 oh))
abbrev ac6 : List SA := [.mk false ag7 (.c 1) true, .mk true (.v 1) (.c 0) false, .mk true (.len (.s 0)) (.v 1) false, .mk true (.bin 7 .i64 (.c 4) (.v 1)) (.len (.s 4)) false, .mk true (.len (.s 4)) (.c 1) false, .mk true (.v 21) (.c 0) false, .mk true (.c 65536) (.v 21) false]
abbrev aro : SE := .app 91 y7
abbrev vd : SE := .app 59 (.g bn (.g f9 .nil))
abbrev a36 : List SA := [.mk false aro (.c 0) true, .mk false vd (.c 0) true]
abbrev y8 : SE := .app 92 y7
abbrev a38 : List SA := [.mk false aro (.c 0) false]
abbrev a39 : List SA := [.mk false aro (.c 0) true, .mk false vd (.c 0) false]
abbrev a4a : SE := .bin 0 .i64 (.c 0) aez
abbrev a4b : SE := .bin 0 .i64 (.v 21) aez
abbrev arp : List SA := [.mk false ag7 (.c 1) true, .mk true (.v 1) (.c 0) false, .mk true (.len (.s 0)) (.v 1) false]
abbrev ve : SE := .bin 0 .i64 (.v 1) (.c 0)
abbrev vf : SE := .rd (.s 0) ve
abbrev ff : SE := .bin 0 .i64 (.v 1) (.c 1)
abbrev ag8 : SE := .app 93 yz
abbrev ag9 : AL := .g (.s 0) (.i ff .nil)
abbrev a4c : SE := .app 87 ag9
abbrev ars : SE := .app 89 ag9
abbrev ga : SE := .app 90 ag9
abbrev aha : AL := .g (.s 0) (.i ga (.g .nil .nil))
abbrev ac7 : GE := .app 91 aha
abbrev a4d : SE := .app 59 (.g bn (.g ac7 .nil))
abbrev di : SE := .bin 6 .i64 (.len (.s 0)) (.bin 7 .i64 (.c (-1)) ga)
abbrev gb : SE := .bin 6 .i64 (.len (.s 0)) (.bin 7 .i64 (.c (-1)) (.v 1))
abbrev vg : SE := .bin 0 .i32 ars (.c 0)
abbrev art : SE := .bin 7 .i64 (.c 4) ga
abbrev ahb : GE := .app 40 (.i vg .nil)
abbrev aru : SE := .len ahb
abbrev ahc : AL := .g (.s 0) (.i ga (.g ahb .nil))
abbrev ac8 : GE := .app 91 ahc
abbrev a4e : SE := .app 59 (.g bn (.g ac8 .nil))
abbrev a4f : SE := .app 88 ag9
abbrev vh : SE := .bin 0 .i32 vf (.c 0)
abbrev a4g : SE := .bin 7 .i64 (.c 4) ff
abbrev ahd : GE := .app 40 (.i vh .nil)
abbrev arv : SE := .len ahd
abbrev ahe : AL := .g (.s 0) (.i ff (.g ahd .nil))
abbrev ac9 : GE := .app 91 ahe
abbrev a4h : SE := .app 59 (.g bn (.g ac9 .nil))
abbrev lb : SE := .bin 6 .i64 (.len (.s 0)) (.bin 7 .i64 (.c (-1)) ff)
abbrev arw : List SA := [.mk false ag7 (.c 1) true, .mk true (.v 1) (.c 0) false, .mk true (.len (.s 0)) (.v 1) false, .mk true (.bin 7 .i64 (.c 4) (.v 1)) (.len (.s 4)) false, .mk true (.len (.s 4)) (.c 1) false]
abbrev a4i : SE := .app 59 (.g bn (.g (.s 4) .nil))
abbrev ahf : SE := .app 93 y7
abbrev ahg : AL := .g (.s 0) (.i ga (.g (.s 4) .nil))
abbrev ada : GE := .app 91 ahg
abbrev a4j : SE := .app 59 (.g bn (.g ada .nil))
abbrev a4k : SE := .bin 6 .i64 (.len (.s 4)) aru
abbrev a4l : GE := .cat (.s 4) ahb
abbrev ahh : AL := .g (.s 0) (.i ga (.g a4l .nil))
abbrev adb : GE := .app 91 ahh
abbrev a4m : SE := .app 59 (.g bn (.g adb .nil))
abbrev a4n : SE := .bin 6 .i64 (.len (.s 4)) arv
abbrev a4o : GE := .cat (.s 4) ahd
abbrev ahi : AL := .g (.s 0) (.i ff (.g a4o .nil))
abbrev adc : GE := .app 91 ahi
abbrev a4p : SE := .app 59 (.g bn (.g adc .nil))
noncomputable section
def hs0 (k : Nat) : HO := .mk k (.cells 132 false 0 0 [.int .i64 3, .int .i64 0, .int .i64 0, .nilSlice, .nilSlice])
def hs2 (k ko kt kt2 : Nat) (u : SE) (g g2 : GE) : List HO := [.mk k (.cells 132 false 0 0 [.int .i64 3, .int .i64 2, .sym .i64 u [], .slice (K.of ko) 0 2 2 (some 1), .nilSlice]), .mk ko (.cells 126 true 0 0 [.iface 121 (.ptr (K.of kt) 0), .iface 121 (.ptr (K.of kt2) 0)]), .mk kt (.cells 123 false 0 0 [.gv (.str g [])]), .mk kt2 (.cells 123 false 0 0 [.gv (.str g2 [])])]
def hsU (k ko kt : Nat) (u : SE) (g : GE) : List HO := [.mk k (.cells 132 false 0 0 [.int .i64 3, .int .i64 1, .sym .i64 u [], .slice (K.of ko) 0 1 1 (some 1), .nilSlice]), .mk ko (.cells 126 true 0 0 [.iface 121 (.ptr (K.of kt) 0)]), .mk kt (.cells 123 false 0 0 [.gv (.str g [])])]
def bfq : List AV := [.ptr (K.of 256) 0, .gv (.str (.s 3) [])]
def bfo : List HO := [hs0 256]
def bky : List HO := hsU 256 258 257 (.app 49 (.g (.s 3) oh)) (.s 3)
def bkz : TR := .ret (.tuple [.agg [.int .i64 3, .int .i64 0], .int .i64 0])
def bkx : TM := .mk 26 bfq 257 bfo (ak2 ++ bd9) none bkz 266 bky
def bkv : List HO := [hs0 256]
def bkw : TR := .ret (.tuple [.agg [.int .i64 0, .int .i64 0], .sym .i64 arq []])
def bku : TM := .mk 26 bfq 257 bfo (ak2 ++ bea) none bkw 266 bkv
def bfu : List AV := [.ptr (K.of 256) 0, .gv (.str (.s 3) [])]
def bfs : List HO := hs1 256 257 258 (.s 8)
def bk4 : List HO := hs2 256 260 258 259 beb (.s 8) (.s 3)
def bk5 : TR := .ret (.tuple [.agg [.int .i64 3, .int .i64 1], .int .i64 0])
def bk3 : TM := .mk 26 bfu 259 bfs (ayw ++ a31) none bk5 270 bk4
def bk1 : List HO := hs1 256 257 258 (.s 8)
def bk2 : TR := .ret (.tuple [.agg [.int .i64 0, .int .i64 0], .sym .i64 ag6 []])
def bk0 : TM := .mk 26 bfu 259 bfs (ayw ++ a32) none bk2 270 bk1
def a69 : List AV := [.ptr (K.of 256) 0, .top, .ptr (K.of 262) 0, sy 3, .ptr (K.of 263) 0] ++ tps 44
def a68 : List HO := ([rd0, rwO 257, bxO 262 .top .top] ++ hs1 258 260 261 (.s 8) ++ [.mk 263 (.cells 96 false 0 0 [.nilPtr, .nilSlice])])
def bnn : List HO := ([rdO 256 258 259 257 (.app 93 yz) (.v 2), rwO 257] ++ hs2 258 266 261 267 ac3 (.s 8) (.app 91 yz) ++ [bxO 262 (.int .i64 3) (.int .i64 1)])
def bno : LR := (.r ([.ptr (K.of 256) 0, .top, .ptr (K.of 262) 0, sy 3, .ptr (K.of 263) 0] ++ tps 44))
def bh2 (m : SE) : LT := .mk 152 4 a69 264 a68 (ac4 ++ a33) (some (mLn, m)) bno 280 bnn
def bnm : LT := znl (bh2 (.c 0))
def bnq : List HO := []
def bnr : LR := (.p [.mk (.iface 46 (.agg [.int .i64 5, .sym .i64 y6 []])) false] (tps 49))
def bh4 (m : SE) : LT := .mk 152 4 a69 264 a68 (ac4 ++ a34) (some (mLn, m)) bnr 280 bnq
def bnp : LT := znl (bh4 (.c 0))
def bnt : List HO := []
def bnu : LR := (.p [.mk (.iface 46 (.agg [.sym .i64 y0 [], .sym .i64 (.v 3) []])) false] (tps 49))
def bh6 (m : SE) : LT := .mk 152 4 a69 264 a68 (ac4 ++ a35) (some (mLn, m)) bnu 280 bnt
def bns : LT := znl (bh6 (.c 0))
def a7b : List AV := [.ptr (K.of 256) 0, .top, .ptr (K.of 262) 0, sy 3, .ptr (K.of 263) 0] ++ tps 44
def a7a : List HO := ([rd0, rwO 257, bxO 262 .top .top] ++ hs1 258 260 261 (.s 8) ++ buO 263 264 (.s 4) (.len (.s 4)))
def bnv : List HO := ([rdO 256 258 259 257 (.app 93 y7) (.v 2), rwO 257] ++ hs2 258 266 261 267 ac5 (.s 8) (.app 91 y7) ++ [bxO 262 (.int .i64 3) (.int .i64 1)])
def bnw : LR := (.r ([.ptr (K.of 256) 0, .top, .ptr (K.of 262) 0, sy 3, .ptr (K.of 263) 0] ++ tps 44))
def bq3 (m : SE) : LT := .mk 152 4 a7b 265 a7a (ac6 ++ a36) (some (mLn, m)) bnw 280 bnv
def bnx : List HO := []
def bny : LR := (.p [.mk (.iface 46 (.agg [.int .i64 5, .sym .i64 y8 []])) false] (tps 49))
def bq4 (m : SE) : LT := .mk 152 4 a7b 265 a7a (ac6 ++ a38) (some (mLn, m)) bny 280 bnx
def bnz : List HO := []
def bn0 : LR := (.p [.mk (.iface 46 (.agg [.sym .i64 vd [], .sym .i64 (.v 3) []])) false] (tps 49))
def bq5 (m : SE) : LT := .mk 152 4 a7b 265 a7a (ac6 ++ a39) (some (mLn, m)) bn0 280 bnz
end
theorem evH : (∀ z : Int, ua [3, 0, 0] z = if 1048576 < z then ⟨7, [3, 0, 0]⟩ else ⟨0, [3, 1, z]⟩) ∧ (∀ u z : Int, ua [3, 1, u] z = if 1048576 < u + z then ⟨7, [3, 1, u]⟩ else ⟨0, [3, 2, u + z]⟩) := by
 refine ⟨fun z => ?_, fun u z => ?_⟩
 ·rw [ans]
  show (if (0 : Int) = 3 ∨ 1048576 < 0 + z then _ else _) = _
  by_cases h : 1048576 < z
  ·rw [if_pos (by omega), if_pos h]
  ·rw [if_neg (by omega), if_neg h]
   show (⟨0, [3, 0 + 1, 0 + z]⟩ : AR) = _
   rw [Int.zero_add, Int.zero_add]
 ·rw [ans]
  show (if (1 : Int) = 3 ∨ 1048576 < u + z then _ else _) = _
  by_cases h : 1048576 < u + z
  ·rw [if_pos (by omega), if_pos h]
  ·rw [if_neg (by omega), if_neg h]
   show (⟨0, [3, 1 + 1, u + z]⟩ : AR) = _
   rfl
theorem evZ : ∀ u : Int, u ≤ 65536 → n8 [3, 1, u] [] = ⟨0, [3, 2, u]⟩ := fun u hu => by
 have v : bj [] = 1 := rfl
 have c : vt [] 0 = 0 := by rw [abk, if_neg (by decide)]
 rw [td, v, c, if_neg (by decide), if_neg (by decide), evH.2, if_neg (by omega), Int.add_zero]
section
variable {σ : Nat → List Int}
theorem bcq (h : SAll σ [.mk true (.v 21) (.c 0) false, .mk true (.c 65536) (.v 21) false]) : 0 ≤ (σ 21).headD 0 ∧ (σ 21).headD 0 ≤ 65536 := by
 simp only [sall_cons, sF, evs] at h
 exact ⟨h.1, h.2.1⟩
end
theorem hhx [Gv] : ∀ t ∈ [bq9, bq8, rcF], ax t := by
 intro t ht
 simp only [List.mem_cons, zH, or_false] at ht
 rcases ht with rfl | rfl | rfl
 ·exact bcx
 ·exact bcw
 ·exact ba8
def b0f [Gv] : Prop := (SAll Gv.σ bd9 → bz 26 bfq 257 bfo bkz 266 bky) ∧ (SAll Gv.σ bea → bz 26 bfq 257 bfo bkw 266 bkv)
theorem bkl [Gv] (hI : SAll Gv.σ ak2) : b0f := by
 have hL := aja hI
 have t1 := avz (atf (σ := Gv.σ) (.s 3))
 rcases bwx hI (.app 50 (.g (.s 3) .nil)) (.c 1) with ⟨hI, k1⟩ | ⟨hI, k1⟩
 ·have t2 := avz (f49 (σ := Gv.σ) (.s 3) (.c 0))
  have hI := bjx hI (.c 65536) aez
  have hI := bjx hI (.c 1048576) a4a
  have t3 := avz (f59 (σ := Gv.σ) ayv (.s 3))
  have u := hL
  exact ⟨zm [(259, 257), (263, 258)] (.i a4a aez .nil) (zh hI hhx) af hI bjy,
   bj3⟩
 ·have t4 := avz (f59 (σ := Gv.σ) ayv (.s 3))
  have u := hL
  exact ⟨bj3,
   zm [] (.i (.c 5) arq .nil) (zh hI hhx) af hI bjy⟩
theorem bfp [Gv] : ax bkx := fun σ _ hA _ => (@bkl ⟨σ⟩  (ai hA).1).1 (ai hA).2
theorem bfn [Gv] : ax bku := fun σ _ hA _ => (@bkl ⟨σ⟩  (ai hA).1).2 (ai hA).2
def b0g [Gv] : Prop := (SAll Gv.σ a31 → bz 26 bfu 259 bfs bk5 270 bk4) ∧ (SAll Gv.σ a32 → bz 26 bfu 259 bfs bk2 270 bk1)
theorem bkm [Gv] (hI : SAll Gv.σ ayw) : b0g := by
 have hL := aja (ai (A := ak2) hI).1
 obtain ⟨u1, u2⟩ := bcq (ai (A := ak2) hI).2
 have t1 := avz (atf (σ := Gv.σ) (.s 3))
 rcases bwx hI (.app 50 (.g (.s 3) .nil)) (.c 1) with ⟨hI, k1⟩ | ⟨hI, k1⟩
 ·have t2 := avz (f49 (σ := Gv.σ) (.s 3) (.c 0))
  have hI := bjx hI (.c 65536) aez
  have hI := bjx hI (.c 1048576) a4b
  have t3 := avz (f59 (σ := Gv.σ) bn (.s 3))
  have u := hL
  exact ⟨zm [(261, 259), (265, 260)] (.i a4b beb .nil) (zh hI hhx) af hI bjy,
   bj3⟩
 ·have t4 := avz (f59 (σ := Gv.σ) bn (.s 3))
  have u := hL
  exact ⟨bj3,
   zm [] (.i (.c 5) ag6 .nil) (zh hI hhx) af hI bjy⟩
theorem bft [Gv] : ax bk3 := fun σ _ hA _ => (@bkm ⟨σ⟩  (ai hA).1).1 (ai hA).2
theorem bfr [Gv] : ax bk0 := fun σ _ hA _ => (@bkm ⟨σ⟩  (ai hA).1).2 (ai hA).2
theorem htw [Gv] : ∀ t ∈ [bkd, bkg, bie, bid, bk3, bk0], ax t := by
 intro t ht
 simp only [List.mem_cons, zH, or_false] at ht
 rcases ht with rfl | rfl | rfl | rfl | rfl | rfl
 ·exact bfe
 ·exact bff
 ·exact ax3
 ·exact ax2
 ·exact bft
 ·exact bfr
def bv6 [Gv] : Prop := (SAll Gv.σ a33 → bw 152 4 a69 264 a68 bno 280 bnn) ∧ (SAll Gv.σ a34 → bw 152 4 a69 264 a68 bnr 280 bnq) ∧ (SAll Gv.σ a35 → bw 152 4 a69 264 a68 bnu 280 bnt)
theorem bs5 [Gv] (hh : ∀ t ∈ [bh2 mLn, bh4 mLn, bh6 mLn, bq3 mLn, bq4 mLn, bq5 mLn], au t) (hI : SAll Gv.σ ac4) : bv6 := by
 obtain ⟨hR, hp0, hpl, hL⟩ := tw (ai (A := arp) hI).1
 obtain ⟨u1, u2⟩ := bcq (ai (A := arp) hI).2
 rcases bj0 hI ve (.len (.s 0)) with ⟨hI, k1⟩ | ⟨hI, k1⟩
 ·have hI := dx hI ve (.c 0)
  have t1 := b9 (adu hR ve)
  have hI := dx hI vf (.c 0)
  rcases vj hI vf (.c 34) with ⟨hI, k4⟩ | ⟨hI, k4⟩
  ·have t2 := b9 (f59 (σ := Gv.σ) bn (.lit 0 0))
   have hI := b11 hI (.app 59 (.g bn (.g (.lit 0 0) .nil))) (.c 0)
   have t3 := b9 (f91 hR (.v 1) .nil)
   have t4 := b9 (f49 (σ := Gv.σ) (.lit 0 0) (.c 0))
   have t5 := b9 (f49 (σ := Gv.σ) gk (.c 0))
   have t6 := b9 (f59 (σ := Gv.σ) bn gk)
   have u := om (cq (Gv.σ 0) ((Gv.σ 1).headD 0) [])
   exact ⟨zt [(264, 267), (265, 266)] (.i ff ag8 (.i (.bin 6 .i64 (.v 21) (.app 49 (.g (.lit 0 0) oh))) ac3 (.g (.lit 0 0) gk .nil))) (zh hI htw) (zp hI hh) hI ol,
    ez,
    ez⟩
  ·rcases vj hI vf (.c 92) with ⟨hI, k5⟩ | ⟨hI, k5⟩
   ·have hI := dx hI ff (.c 0)
    have hI := dx hI (.len (.s 0)) ff
    have t7 := b9 (f87 hR ff)
    rcases vj hI a4c (.c 0) with ⟨hI, k8⟩ | ⟨hI, k8⟩
    ·rcases bj0 hI ars (.c 0) with ⟨hI, k9⟩ | ⟨hI, k9⟩
     ·have hI := dx hI ga (.c 0)
      have hI := dx hI (.len (.s 0)) ga
      have t8 := b9 (f91 hR ga .nil)
      rcases vj hI (.app 91 aha) (.c 0) with ⟨hI, k12⟩ | ⟨hI, k12⟩
      ·have t9 := b9 (f59 (σ := Gv.σ) bn ac7)
       rcases vj hI a4d (.c 0) with ⟨hI, k13⟩ | ⟨hI, k13⟩
       ·have hI := qu hI di gb
        have hI := dx hI di (.c 0)
        have t10 := b9 (f91 hR (.v 1) .nil)
        have t11 := b9 (f49 (σ := Gv.σ) ac7 (.c 0))
        have t12 := b9 (f49 (σ := Gv.σ) gk (.c 0))
        have t13 := b9 (f59 (σ := Gv.σ) bn gk)
        have u := om (cq (Gv.σ 0) ((Gv.σ 1).headD 0) [])
        exact ⟨zt [(268, 266), (269, 267)] (.i (.app 93 aha) ag8 (.i (.bin 6 .i64 (.v 21) (.app 49 (.g ac7 oh))) ac3 (.g ac7 gk .nil))) (zh hI htw) (zp hI hh) hI ol,
         ez,
         ez⟩
       ·have hI := qu hI di gb
        have hI := dx hI di (.c 0)
        have t14 := b9 (f91 hR (.v 1) .nil)
        have t15 := b9 (f59 (σ := Gv.σ) bn gk)
        have u := om (cq (Gv.σ 0) ((Gv.σ 1).headD 0) [])
        exact ⟨ez,
         ez,
         zt [] (.i a4d y0 .nil) (zh hI htw) (zp hI hh) hI ol⟩
      ·have hI := qu hI di gb
       have hI := dx hI di (.c 0)
       have t16 := b9 (f91 hR (.v 1) .nil)
       have u := om (cq (Gv.σ 0) ((Gv.σ 1).headD 0) [])
       exact ⟨ez,
        zt [] (.i (.app 92 aha) y6 .nil) (zh hI htw) (zp hI hh) hI ol,
        ez⟩
     ·have hI := dx hI vg (.c 0)
      have hI := qu hI vg (.c 1114112)
      have hI := dx hI ga (.c 0)
      have hI := dx hI (.len (.s 0)) ga
      have t17 := b9 (f40 (σ := Gv.σ) vg)
      have hI := dx hI art aru
      have hI := dx hI aru (.c 1)
      have t18 := b9 (f91 hR ga ahb)
      rcases vj hI (.app 91 ahc) (.c 0) with ⟨hI, k16⟩ | ⟨hI, k16⟩
      ·have t19 := b9 (f59 (σ := Gv.σ) bn ac8)
       rcases vj hI a4e (.c 0) with ⟨hI, k17⟩ | ⟨hI, k17⟩
       ·have hI := qu hI di gb
        have hI := dx hI di (.c 0)
        have t20 := b9 (f91 hR (.v 1) .nil)
        have t21 := b9 (f49 (σ := Gv.σ) ac8 (.c 0))
        have t22 := b9 (f49 (σ := Gv.σ) gk (.c 0))
        have t23 := b9 (f59 (σ := Gv.σ) bn gk)
        have u := om (cq (Gv.σ 0) ((Gv.σ 1).headD 0) [])
        exact ⟨zt [(268, 266), (269, 267)] (.i (.app 93 ahc) ag8 (.i (.bin 6 .i64 (.v 21) (.app 49 (.g ac8 oh))) ac3 (.g ac8 gk .nil))) (zh hI htw) (zp hI hh) hI ol,
         ez,
         ez⟩
       ·have hI := qu hI di gb
        have hI := dx hI di (.c 0)
        have t24 := b9 (f91 hR (.v 1) .nil)
        have t25 := b9 (f59 (σ := Gv.σ) bn gk)
        have u := om (cq (Gv.σ 0) ((Gv.σ 1).headD 0) [])
        exact ⟨ez,
         ez,
         zt [] (.i a4e y0 .nil) (zh hI htw) (zp hI hh) hI ol⟩
      ·have hI := qu hI di gb
       have hI := dx hI di (.c 0)
       have t26 := b9 (f91 hR (.v 1) .nil)
       have u := om (cq (Gv.σ 0) ((Gv.σ 1).headD 0) [])
       exact ⟨ez,
        zt [] (.i (.app 92 ahc) y6 .nil) (zh hI htw) (zp hI hh) hI ol,
        ez⟩
    ·have t27 := b9 (f91 hR (.v 1) .nil)
     have u := om (cq (Gv.σ 0) ((Gv.σ 1).headD 0) [])
     exact ⟨ez,
      zt [] (.i a4f y6 .nil) (zh hI htw) (zp hI hh) hI ol,
      ez⟩
   ·have hI := dx hI vh (.c 0)
    have hI := qu hI vh (.c 1114112)
    have hI := dx hI ff (.c 0)
    have hI := dx hI (.len (.s 0)) ff
    have t28 := b9 (f40 (σ := Gv.σ) vh)
    have hI := dx hI a4g arv
    have hI := dx hI arv (.c 1)
    have t29 := b9 (f91 hR ff ahd)
    rcases vj hI (.app 91 ahe) (.c 0) with ⟨hI, k12⟩ | ⟨hI, k12⟩
    ·have t30 := b9 (f59 (σ := Gv.σ) bn ac9)
     rcases vj hI a4h (.c 0) with ⟨hI, k13⟩ | ⟨hI, k13⟩
     ·have hI := qu hI lb gb
      have hI := dx hI lb (.c 0)
      have t31 := b9 (f91 hR (.v 1) .nil)
      have t32 := b9 (f49 (σ := Gv.σ) ac9 (.c 0))
      have t33 := b9 (f49 (σ := Gv.σ) gk (.c 0))
      have t34 := b9 (f59 (σ := Gv.σ) bn gk)
      have u := om (cq (Gv.σ 0) ((Gv.σ 1).headD 0) [])
      exact ⟨zt [(266, 266), (267, 267)] (.i (.app 93 ahe) ag8 (.i (.bin 6 .i64 (.v 21) (.app 49 (.g ac9 oh))) ac3 (.g ac9 gk .nil))) (zh hI htw) (zp hI hh) hI ol,
       ez,
       ez⟩
     ·have hI := qu hI lb gb
      have hI := dx hI lb (.c 0)
      have t35 := b9 (f91 hR (.v 1) .nil)
      have t36 := b9 (f59 (σ := Gv.σ) bn gk)
      have u := om (cq (Gv.σ 0) ((Gv.σ 1).headD 0) [])
      exact ⟨ez,
       ez,
       zt [] (.i a4h y0 .nil) (zh hI htw) (zp hI hh) hI ol⟩
    ·have hI := qu hI lb gb
     have hI := dx hI lb (.c 0)
     have t37 := b9 (f91 hR (.v 1) .nil)
     have u := om (cq (Gv.σ 0) ((Gv.σ 1).headD 0) [])
     exact ⟨ez,
      zt [] (.i (.app 92 ahe) y6 .nil) (zh hI htw) (zp hI hh) hI ol,
      ez⟩
 ·have t38 := b9 (f91 hR (.v 1) .nil)
  have u := om (cq (Gv.σ 0) ((Gv.σ 1).headD 0) [])
  exact ⟨ez,
   zt [] (.i (.len (.s 0)) y6 .nil) (zh hI htw) (zp hI hh) hI ol,
   ez⟩
def bv7 [Gv] : Prop := (SAll Gv.σ a36 → bw 152 4 a7b 265 a7a bnw 280 bnv) ∧ (SAll Gv.σ a38 → bw 152 4 a7b 265 a7a bny 280 bnx) ∧ (SAll Gv.σ a39 → bw 152 4 a7b 265 a7a bn0 280 bnz)
theorem bs6 [Gv] (hh : ∀ t ∈ [bh2 mLn, bh4 mLn, bh6 mLn, bq3 mLn, bq4 mLn, bq5 mLn], au t) (hI : SAll Gv.σ ac6) : bv7 := by
 obtain ⟨⟨hR, hp0, hpl, hL⟩, h4, h41⟩ := a0s (ai (A := arw) hI).1
 obtain ⟨u1, u2⟩ := bcq (ai (A := arw) hI).2
 rcases bj0 hI ve (.len (.s 0)) with ⟨hI, k1⟩ | ⟨hI, k1⟩
 ·have hI := dx hI ve (.c 0)
  have t1 := b9 (adu hR ve)
  have hI := dx hI vf (.c 0)
  rcases vj hI vf (.c 34) with ⟨hI, k4⟩ | ⟨hI, k4⟩
  ·have hI := qu hI (.c 0) (.len (.s 4))
   have hI := dx hI (.c 400000) (.len (.s 4))
   have hI := dx hI (.c 20000) (.len (.s 4))
   have t2 := b9 (f59 (σ := Gv.σ) bn (.s 4))
   rcases vj hI a4i (.c 0) with ⟨hI, k8⟩ | ⟨hI, k8⟩
   ·have t3 := b9 (f91 hR (.v 1) (.s 4))
    have t4 := b9 (f49 (σ := Gv.σ) (.s 4) (.c 0))
    have t5 := b9 (f49 (σ := Gv.σ) f9 (.c 0))
    have t6 := b9 (f59 (σ := Gv.σ) bn f9)
    have u := om (cq (Gv.σ 0) ((Gv.σ 1).headD 0) (Gv.σ 4))
    exact ⟨zt [(265, 267), (266, 266)] (.i ff ahf (.i (.bin 6 .i64 (.v 21) (.app 49 (.g (.s 4) oh))) ac5 (.g (.s 4) f9 .nil))) (zh hI htw) (zp hI hh) hI ol,
     ez,
     ez⟩
   ·have t7 := b9 (f91 hR (.v 1) (.s 4))
    have t8 := b9 (f59 (σ := Gv.σ) bn f9)
    have u := om (cq (Gv.σ 0) ((Gv.σ 1).headD 0) (Gv.σ 4))
    exact ⟨ez,
     ez,
     zt [] (.i a4i vd .nil) (zh hI htw) (zp hI hh) hI ol⟩
  ·rcases vj hI vf (.c 92) with ⟨hI, k5⟩ | ⟨hI, k5⟩
   ·have hI := dx hI ff (.c 0)
    have hI := dx hI (.len (.s 0)) ff
    have t9 := b9 (f87 hR ff)
    rcases vj hI a4c (.c 0) with ⟨hI, k8⟩ | ⟨hI, k8⟩
    ·rcases bj0 hI ars (.c 0) with ⟨hI, k9⟩ | ⟨hI, k9⟩
     ·have hI := dx hI ga (.c 0)
      have hI := dx hI (.len (.s 0)) ga
      have hI := dx hI art (.len (.s 4))
      have t10 := b9 (f91 hR ga (.s 4))
      rcases vj hI (.app 91 ahg) (.c 0) with ⟨hI, k13⟩ | ⟨hI, k13⟩
      ·have t11 := b9 (f59 (σ := Gv.σ) bn ada)
       rcases vj hI a4j (.c 0) with ⟨hI, k14⟩ | ⟨hI, k14⟩
       ·have hI := qu hI di gb
        have hI := dx hI di (.c 0)
        have t12 := b9 (f91 hR (.v 1) (.s 4))
        have t13 := b9 (f49 (σ := Gv.σ) ada (.c 0))
        have t14 := b9 (f49 (σ := Gv.σ) f9 (.c 0))
        have t15 := b9 (f59 (σ := Gv.σ) bn f9)
        have u := om (cq (Gv.σ 0) ((Gv.σ 1).headD 0) (Gv.σ 4))
        exact ⟨zt [(268, 266), (269, 267)] (.i (.app 93 ahg) ahf (.i (.bin 6 .i64 (.v 21) (.app 49 (.g ada oh))) ac5 (.g ada f9 .nil))) (zh hI htw) (zp hI hh) hI ol,
         ez,
         ez⟩
       ·have hI := qu hI di gb
        have hI := dx hI di (.c 0)
        have t16 := b9 (f91 hR (.v 1) (.s 4))
        have t17 := b9 (f59 (σ := Gv.σ) bn f9)
        have u := om (cq (Gv.σ 0) ((Gv.σ 1).headD 0) (Gv.σ 4))
        exact ⟨ez,
         ez,
         zt [] (.i a4j vd .nil) (zh hI htw) (zp hI hh) hI ol⟩
      ·have hI := qu hI di gb
       have hI := dx hI di (.c 0)
       have t18 := b9 (f91 hR (.v 1) (.s 4))
       have u := om (cq (Gv.σ 0) ((Gv.σ 1).headD 0) (Gv.σ 4))
       exact ⟨ez,
        zt [] (.i (.app 92 ahg) y8 .nil) (zh hI htw) (zp hI hh) hI ol,
        ez⟩
     ·have hI := dx hI vg (.c 0)
      have hI := qu hI vg (.c 1114112)
      have hI := dx hI (.c 50000) (.len (.s 4))
      have hI := dx hI ga (.c 0)
      have hI := dx hI (.len (.s 0)) ga
      have t19 := b9 (f40 (σ := Gv.σ) vg)
      have hI := dx hI art a4k
      have hI := dx hI a4k (.c 1)
      have t20 := b9 (f91 hR ga a4l)
      rcases vj hI (.app 91 ahh) (.c 0) with ⟨hI, k17⟩ | ⟨hI, k17⟩
      ·have t21 := b9 (f59 (σ := Gv.σ) bn adb)
       rcases vj hI a4m (.c 0) with ⟨hI, k18⟩ | ⟨hI, k18⟩
       ·have hI := qu hI di gb
        have hI := dx hI di (.c 0)
        have t22 := b9 (f91 hR (.v 1) (.s 4))
        have t23 := b9 (f49 (σ := Gv.σ) adb (.c 0))
        have t24 := b9 (f49 (σ := Gv.σ) f9 (.c 0))
        have t25 := b9 (f59 (σ := Gv.σ) bn f9)
        have u := om (cq (Gv.σ 0) ((Gv.σ 1).headD 0) (Gv.σ 4))
        exact ⟨zt [(269, 266), (270, 267)] (.i (.app 93 ahh) ahf (.i (.bin 6 .i64 (.v 21) (.app 49 (.g adb oh))) ac5 (.g adb f9 .nil))) (zh hI htw) (zp hI hh) hI ol,
         ez,
         ez⟩
       ·have hI := qu hI di gb
        have hI := dx hI di (.c 0)
        have t26 := b9 (f91 hR (.v 1) (.s 4))
        have t27 := b9 (f59 (σ := Gv.σ) bn f9)
        have u := om (cq (Gv.σ 0) ((Gv.σ 1).headD 0) (Gv.σ 4))
        exact ⟨ez,
         ez,
         zt [] (.i a4m vd .nil) (zh hI htw) (zp hI hh) hI ol⟩
      ·have hI := qu hI di gb
       have hI := dx hI di (.c 0)
       have t28 := b9 (f91 hR (.v 1) (.s 4))
       have u := om (cq (Gv.σ 0) ((Gv.σ 1).headD 0) (Gv.σ 4))
       exact ⟨ez,
        zt [] (.i (.app 92 ahh) y8 .nil) (zh hI htw) (zp hI hh) hI ol,
        ez⟩
    ·have t29 := b9 (f91 hR (.v 1) (.s 4))
     have u := om (cq (Gv.σ 0) ((Gv.σ 1).headD 0) (Gv.σ 4))
     exact ⟨ez,
      zt [] (.i a4f y8 .nil) (zh hI htw) (zp hI hh) hI ol,
      ez⟩
   ·have hI := dx hI vh (.c 0)
    have hI := qu hI vh (.c 1114112)
    have hI := dx hI (.c 50000) (.len (.s 4))
    have hI := dx hI ff (.c 0)
    have hI := dx hI (.len (.s 0)) ff
    have t30 := b9 (f40 (σ := Gv.σ) vh)
    have hI := dx hI a4g a4n
    have hI := dx hI a4n (.c 1)
    have t31 := b9 (f91 hR ff a4o)
    rcases vj hI (.app 91 ahi) (.c 0) with ⟨hI, k13⟩ | ⟨hI, k13⟩
    ·have t32 := b9 (f59 (σ := Gv.σ) bn adc)
     rcases vj hI a4p (.c 0) with ⟨hI, k14⟩ | ⟨hI, k14⟩
     ·have hI := qu hI lb gb
      have hI := dx hI lb (.c 0)
      have t33 := b9 (f91 hR (.v 1) (.s 4))
      have t34 := b9 (f49 (σ := Gv.σ) adc (.c 0))
      have t35 := b9 (f49 (σ := Gv.σ) f9 (.c 0))
      have t36 := b9 (f59 (σ := Gv.σ) bn f9)
      have u := om (cq (Gv.σ 0) ((Gv.σ 1).headD 0) (Gv.σ 4))
      exact ⟨zt [(267, 266), (268, 267)] (.i (.app 93 ahi) ahf (.i (.bin 6 .i64 (.v 21) (.app 49 (.g adc oh))) ac5 (.g adc f9 .nil))) (zh hI htw) (zp hI hh) hI ol,
       ez,
       ez⟩
     ·have hI := qu hI lb gb
      have hI := dx hI lb (.c 0)
      have t37 := b9 (f91 hR (.v 1) (.s 4))
      have t38 := b9 (f59 (σ := Gv.σ) bn f9)
      have u := om (cq (Gv.σ 0) ((Gv.σ 1).headD 0) (Gv.σ 4))
      exact ⟨ez,
       ez,
       zt [] (.i a4p vd .nil) (zh hI htw) (zp hI hh) hI ol⟩
    ·have hI := qu hI lb gb
     have hI := dx hI lb (.c 0)
     have t39 := b9 (f91 hR (.v 1) (.s 4))
     have u := om (cq (Gv.σ 0) ((Gv.σ 1).headD 0) (Gv.σ 4))
     exact ⟨ez,
      zt [] (.i (.app 92 ahi) y8 .nil) (zh hI htw) (zp hI hh) hI ol,
      ez⟩
 ·have t40 := b9 (f91 hR (.v 1) (.s 4))
  have u := om (cq (Gv.σ 0) ((Gv.σ 1).headD 0) (Gv.σ 4))
  exact ⟨ez,
   zt [] (.i (.len (.s 0)) y8 .nil) (zh hI htw) (zp hI hh) hI ol,
   ez⟩
theorem u0 : ∀ (B : Nat) (σ : Nat → List Int), mLn.eval σ < (B : Int) → (SAll σ ac4 → @bv6 ⟨σ⟩) ∧ (SAll σ ac6 → @bv7 ⟨σ⟩)
 | 0, σ, hb => by
   refine ⟨fun hI => ?_, fun hI => ?_⟩
   ·obtain ⟨h1, h2, h3, h4⟩ := tw (ai (A := arp) hI).1; simp only [mLn, evs, wr] at hb; omega
   ·obtain ⟨⟨h1, h2, h3, h4⟩, _⟩ := a0s (ai (A := arw) hI).1; simp only [mLn, evs, wr] at hb; omega
 | B + 1, σ, hb => by
   have hh : ∀ t ∈ [bh2 mLn, bh4 mLn, bh6 mLn, bq3 mLn, bq4 mLn, bq5 mLn], @au ⟨σ⟩ t := by
    intro t ht
    simp only [List.mem_cons, zH, or_false] at ht
    rcases ht with rfl | rfl | rfl | rfl | rfl | rfl
    ·exact fun σ' _ hA hb' => by
      have hb' : 0 ≤ mLn.eval σ' ∧ mLn.eval σ' < mLn.eval σ := hb'
      exact ((u0 B σ' (by omega)).1 (ai hA).1).1 (ai hA).2
    ·exact fun σ' _ hA hb' => by
      have hb' : 0 ≤ mLn.eval σ' ∧ mLn.eval σ' < mLn.eval σ := hb'
      exact ((u0 B σ' (by omega)).1 (ai hA).1).2.1 (ai hA).2
    ·exact fun σ' _ hA hb' => by
      have hb' : 0 ≤ mLn.eval σ' ∧ mLn.eval σ' < mLn.eval σ := hb'
      exact ((u0 B σ' (by omega)).1 (ai hA).1).2.2 (ai hA).2
    ·exact fun σ' _ hA hb' => by
      have hb' : 0 ≤ mLn.eval σ' ∧ mLn.eval σ' < mLn.eval σ := hb'
      exact ((u0 B σ' (by omega)).2 (ai hA).1).1 (ai hA).2
    ·exact fun σ' _ hA hb' => by
      have hb' : 0 ≤ mLn.eval σ' ∧ mLn.eval σ' < mLn.eval σ := hb'
      exact ((u0 B σ' (by omega)).2 (ai hA).1).2.1 (ai hA).2
    ·exact fun σ' _ hA hb' => by
      have hb' : 0 ≤ mLn.eval σ' ∧ mLn.eval σ' < mLn.eval σ := hb'
      exact ((u0 B σ' (by omega)).2 (ai hA).1).2.2 (ai hA).2
   exact ⟨fun hI => @bs5 ⟨σ⟩ hh hI, fun hI => @bs6 ⟨σ⟩ hh hI⟩
theorem bh3 [Gv] : au bnm := fun σ _ hA _ => ((u0 ((mLn.eval σ).toNat + 1) σ (by omega)).1 (ai hA).1).1 (ai hA).2
theorem bh5 [Gv] : au bnp := fun σ _ hA _ => ((u0 ((mLn.eval σ).toNat + 1) σ (by omega)).1 (ai hA).1).2.1 (ai hA).2
theorem bh7 [Gv] : au bns := fun σ _ hA _ => ((u0 ((mLn.eval σ).toNat + 1) σ (by omega)).1 (ai hA).1).2.2 (ai hA).2
end Go.Ev
