import Derived.Test.YtkfdioikigponaaGreatDoorRaH
import Derived.Test.YtkfdioikigponaaGreatDoorEvGh
set_option maxRecDepth 100000
set_option linter.all false
namespace Go.Ev
abbrev aop : AL := .g (.s 4) (.g (.s 3) .nil)
abbrev aym : SE := .app 55 aop
abbrev ai3 : List SA := [.mk true (.c 20000) (.len (.s 3)) false]
abbrev ace : SE := .app 54 aop
abbrev avl : List SA := [.mk false ace (.c 0) true]
abbrev ayj : List SA := [.mk false ace (.c 0) false]
abbrev afv : SE := .bin 6 .i64 (.v 9) (.c 1)
abbrev awf : AL := .g (.s 5) (.i (.v 7) (.i (.v 8) .nil))
abbrev ao7 : AL := .i afv awf
abbrev ays : SE := .app 75 ao7
abbrev azl : SE := .app 76 ao7
abbrev wy : List SA := [.mk true (.v 9) (.c (-1)) false, .mk true (.v 9) (.v 6) true, .mk true (.c 20000) (.v 6) false]
abbrev a7w : SE := .app 74 ao7
abbrev au1 : List SA := [.mk false a7w (.c 0) true]
abbrev axi : List SA := [.mk false a7w (.c 0) false]
abbrev ah2 : AL := .i (.c 2) awf
abbrev bdz : SE := .app 75 ah2
abbrev bap : SE := .app 76 ah2
abbrev bcn : SE := .app 74 ah2
abbrev bc1 : List SA := [.mk false bcn (.c 0) true]
abbrev bao : List SA := [.mk false bcn (.c 0) false]
abbrev aim : AL := .i (.v 6) awf
abbrev bda : SE := .app 75 aim
abbrev bef : SE := .app 76 aim
abbrev ank : List SA := [.mk true (.v 6) (.c 1) false, .mk true (.c 20000) (.v 6) false]
abbrev baw : SE := .app 74 aim
abbrev bci : List SA := [.mk false baw (.c 0) true]
abbrev a9w : List SA := [.mk false baw (.c 0) false]
abbrev agd : AL := .g (.s 0) (.i (.v 1) (.g .nil .nil))
abbrev ud : GE := .app 91 agd
abbrev au2 : AL := .g (.s 5) (.g ud .nil)
abbrev al0 : SE := .rd (.s 5) (.c 1)
abbrev avf : SE := .app 91 agd
abbrev zq : SE := .app 59 au2
abbrev a98 : List SA := [.mk false avf (.c 0) true, .mk false zq (.c 0) true]
abbrev ad3 : SE := .app 92 agd
abbrev a9j : List SA := [.mk false avf (.c 0) false]
abbrev baz : List SA := [.mk false avf (.c 0) true, .mk false zq (.c 0) false]
abbrev agv : AL := .g (.s 4) .nil
abbrev ah4 : AL := .g (.s 0) (.i (.v 1) agv)
abbrev uo : GE := .app 91 ah4
abbrev avd : AL := .g (.s 5) (.g uo .nil)
abbrev ac1 : List SA := [.mk true (.bin 7 .i64 (.c 4) (.v 1)) (.len (.s 4)) false, .mk true (.len (.s 4)) (.c 1) false]
abbrev axg : SE := .app 91 ah4
abbrev aaa : SE := .app 59 avd
abbrev bbh : List SA := [.mk false axg (.c 0) true, .mk false aaa (.c 0) true]
abbrev ad9 : SE := .app 92 ah4
abbrev bec : List SA := [.mk false axg (.c 0) false]
abbrev a7y : List SA := [.mk false axg (.c 0) true, .mk false aaa (.c 0) false]
abbrev agw : GE := .app 54 aop
abbrev ago : SE := .app 53 agv
abbrev bc7 : SE := .app 53 (.g agw .nil)
abbrev bd4 : SE := .bin 6 .i64 ago (.c 1)
abbrev a76 : GE := .app 74 ao7
abbrev a8n : SE := .app 57 (.g (.s 5) (.i (.c 0) .nil))
abbrev axt : SE := .bin 1 .i64 (.v 9) (.c 1)
abbrev ac5 : SE := .bin 6 .i64 axt (.c 1)
abbrev ag3 : GE := .app 57 (.g (.s 5) (.i (.c 0) .nil))
abbrev anz : AL := .i ac5 (.g ag3 (.i (.c 2) (.i al0 .nil)))
abbrev bd3 : AL := .g ag3 (.i (.c 0) .nil)
abbrev azt : SE := .bin 1 .i64 (.v 6) (.c 1)
abbrev bbw : SE := .bin 6 .i64 azt (.c 1)
abbrev aln : AL := .i bbw awf
abbrev zr : SE := .bin 0 .i64 (.v 1) (.c 0)
abbrev aax : SE := .rd (.s 0) zr
abbrev bct : SE := .app 59 (.g (.s 5) (.g (.lit 0 0) .nil))
abbrev ii : SE := .bin 0 .i64 (.v 1) (.c 1)
abbrev anf : SE := .app 93 agd
abbrev amq : GE := .app 59 au2
abbrev al8 : AL := .g (.s 0) (.i ii .nil)
abbrev a9z : SE := .app 87 al8
abbrev axk : SE := .app 89 al8
abbrev jd : SE := .app 90 al8
abbrev amb : AL := .g (.s 0) (.i jd (.g .nil .nil))
abbrev bd6 : GE := .app 91 amb
abbrev ba3 : AL := .g (.s 5) (.g bd6 .nil)
abbrev a80 : SE := .app 59 ba3
abbrev ez : SE := .bin 6 .i64 (.len (.s 0)) (.bin 7 .i64 (.c (-1)) jd)
abbrev jh : SE := .bin 6 .i64 (.len (.s 0)) (.bin 7 .i64 (.c (-1)) (.v 1))
abbrev zl : SE := .bin 0 .i32 axk (.c 0)
abbrev aw0 : SE := .bin 7 .i64 (.c 4) jd
abbrev al9 : GE := .app 40 (.i zl .nil)
abbrev awg : SE := .len al9
abbrev ame : AL := .g (.s 0) (.i jd (.g al9 .nil))
abbrev bbu : GE := .app 91 ame
abbrev bbq : AL := .g (.s 5) (.g bbu .nil)
abbrev bdq : SE := .app 59 bbq
abbrev bbt : SE := .app 88 al8
abbrev aam : SE := .bin 0 .i32 aax (.c 0)
abbrev bcm : SE := .bin 7 .i64 (.c 4) ii
abbrev amm : GE := .app 40 (.i aam .nil)
abbrev aza : SE := .len amm
abbrev am9 : AL := .g (.s 0) (.i ii (.g amm .nil))
abbrev ba1 : GE := .app 91 am9
abbrev a87 : AL := .g (.s 5) (.g ba1 .nil)
abbrev bbj : SE := .app 59 a87
abbrev ou : SE := .bin 6 .i64 (.len (.s 0)) (.bin 7 .i64 (.c (-1)) ii)
abbrev bai : SE := .app 59 (.g (.s 5) agv)
abbrev al3 : SE := .app 93 ah4
abbrev aho : GE := .app 59 avd
abbrev ahh : AL := .g (.s 0) (.i jd agv)
abbrev a3p : GE := .app 91 ahh
abbrev a4b : AL := .g (.s 5) (.g a3p .nil)
abbrev a0s : SE := .app 59 a4b
abbrev a0n : SE := .bin 6 .i64 (.len (.s 4)) awg
abbrev a29 : GE := .cat (.s 4) al9
abbrev aiu : AL := .g (.s 0) (.i jd (.g a29 .nil))
abbrev a27 : GE := .app 91 aiu
abbrev a2i : AL := .g (.s 5) (.g a27 .nil)
abbrev a3s : SE := .app 59 a2i
abbrev a17 : SE := .bin 6 .i64 (.len (.s 4)) aza
abbrev a04 : GE := .cat (.s 4) amm
abbrev aik : AL := .g (.s 0) (.i ii (.g a04 .nil))
abbrev a28 : GE := .app 91 aik
abbrev a3a : AL := .g (.s 5) (.g a28 .nil)
abbrev a30 : SE := .app 59 a3a
noncomputable section
def akf (k kj km : Nat) (g : GE) : List HO := [.mk k (.cells 80 false 0 0 [.gv (.sl (K.of kj) 6 (.app 53 (.g g .nil)) []), .map (K.of km)]), .mk kj (.gob (.junk 122)), .mk km (.gob (.gmap g))]
def hpG (k : Nat) (g : GE) : HO := .mk k (.gob (.lh 1 g))
def bxO (k : Nat) (a b : AV) : HO := .mk k (.cells 31 false 0 0 [a, b])
def sy (n : Nat) : AV := .sym .i64 (.v n) []
def rd0 : HO := rdO 256 258 259 257 (.v 1) (.v 2)
def mI1 : SE := .bin 6 .i64 (.v 9) (.c 1)
def bpj : List AV := [.ptr (K.of 256) 0, .gv (.str (.s 3) [])]
def bq8 : List HO := akf 256 257 258 (.s 4)
def buc : List HO := akf 256 259 258 (.app 54 aop)
def byf : TR := .ret (.tuple [.sym .i64 aym [], .int .i64 0])
def buv : TM := .mk 88 bpj 259 bq8 (ai3 ++ avl) none byf 260 buc
def by0 : List HO := akf 256 257 258 (.s 4)
def bun : TR := .ret (.tuple [.int .i64 0, .sym .i64 ace []])
def by5 : TM := .mk 88 bpj 259 bq8 (ai3 ++ ayj) none bun 260 by0
def bp2 : List AV := [.ptr (K.of 256) 0, .gv (.str (.s 3) []), .sym .i64 (.v 11) []]
def bpu : List HO := ([rdO 256 258 259 257 (.v 1) (.v 2)] ++ akf 259 260 261 (.s 4))
def bvf : List HO := ([rdO 256 258 259 257 (.v 1) (.v 2)] ++ akf 259 262 261 (.app 54 aop))
def bxb : TR := .ret (.agg [.int .i64 1, .sym .i64 aym []])
def a16 : TM := .mk 72 bp2 262 bpu (ai3 ++ avl) none bxb 263 bvf
def bwf : List HO := []
def bz1 : TR := .pan [.mk (.iface 34 (.agg [.sym .i64 ace [], .sym .i64 (.v 11) []])) false]
def a0j : TM := .mk 72 bp2 262 bpu (ai3 ++ ayj) none bz1 263 bwf
def beu : List AV := [.ptr (K.of 256) 0, .gv (.sl (K.of 262) 2 (.v 6) []), .top, sy 3, .top, .top, .ptr (K.of 263) 0, .top, .ptr (K.of 264) 0, sy 9] ++ tps 28
def bfp : List HO := [rd0, hpG 258 (.s 5), bxO 263 (sy 7) (sy 8), bxO 264 .top .top, wds 262 (.v 6) (.s 10)]
def bnb : List HO := [rd0, hpG 258 (.app 74 ao7), bxO 263 (.sym .i64 ays []) (.sym .i64 azl []), bxO 264 .top .top]
def blw : LR := (.x 0 ([.ptr (K.of 256) 0, .gv (.sl (K.of 262) 2 (.v 6) []), .top, sy 3, .top, .top, .ptr (K.of 263) 0, .top, .ptr (K.of 264) 0, .top] ++ tps 28))
def b6n (m : SE) : LT := .mk 77 5 beu 265 bfp (wy ++ au1) (some (mI1, m)) blw 265 bnb
def bxo : LT := .mk 77 5 beu 265 bfp (wy ++ au1) none blw 265 bnb
def bhj : List HO := []
def bkx : LR := (.p [.mk (.iface 34 (.agg [.int .i64 7, .sym .i64 (.v 3) []])) false] (tps 38))
def b9i (m : SE) : LT := .mk 77 5 beu 265 bfp (wy ++ axi) (some (mI1, m)) bkx 265 bhj
def bwg : LT := .mk 77 5 beu 265 bfp (wy ++ axi) none bkx 265 bhj
def bsm : List AV := [.ptr (K.of 256) 0, .slice (K.of 262) 0 2 2 none, .agg [sy 7, sy 8], sy 3]
def boy : List HO := [rd0, hpG 258 (.s 5), .mk 262 (.cells 31 false 0 0 [.top, .top, .top, .top])]
def bvn : List HO := [rd0, hpG 258 (.app 74 ah2)]
def bxn : TR := .ret (.agg [.sym .i64 bdz [], .sym .i64 bap []])
def a2q : TM := .mk 77 bsm 263 boy ([] ++ bc1) none bxn 264 bvn
def by2 : List HO := []
def bux : TR := .pan [.mk (.iface 34 (.agg [.int .i64 7, .sym .i64 (.v 3) []])) false]
def a05 : TM := .mk 77 bsm 263 boy ([] ++ bao) none bux 264 by2
def bti : List AV := [.ptr (K.of 256) 0, .gv (.sl (K.of 262) 2 (.v 6) []), .agg [sy 7, sy 8], sy 3]
def bn7 : List HO := [rd0, hpG 258 (.s 5), wds 262 (.v 6) (.s 10)]
def bxj : List HO := [rd0, hpG 258 (.app 74 aim)]
def byh : TR := .ret (.agg [.sym .i64 bda [], .sym .i64 bef []])
def wn : TM := .mk 77 bti 263 bn7 (ank ++ bci) none byh 264 bxj
def bve : List HO := []
def bt1 : TR := .pan [.mk (.iface 34 (.agg [.int .i64 7, .sym .i64 (.v 3) []])) false]
def xc : TM := .mk 77 bti 263 bn7 (ank ++ a9w) none bt1 264 bve
def b9p : List AV := [.ptr (K.of 256) 0, .nilSlice, .agg [sy 7, sy 8], sy 3]
def b66 : List HO := [rd0, hpG 258 (.s 5)]
def b5u : List HO := [rd0, hpG 258 (.s 5)]
def b9g : TR := .ret (.agg [sy 7, sy 8])
def ais : TM := .mk 77 b9p 263 b66 ([] ++ []) none b9g 263 b5u
def bft : List AV := [.ptr (K.of 256) 0, .top, .ptr (K.of 262) 0, sy 3, .ptr (K.of 263) 0] ++ tps 44
def be3 : List HO := [rd0, rwO 257, hpG 258 (.s 5), bxO 262 .top .top] ++ [.mk 263 (.cells 108 false 0 0 [.nilPtr, .nilSlice])]
def bup : List HO := [rdO 256 258 259 257 (.app 93 agd) (.v 2), rwO 257, hpG 258 (.app 59 au2), bxO 262 (.int .i64 3) (.sym .i64 al0 [])]
def bt6 : LR := (.r ([.ptr (K.of 256) 0, .top, .ptr (K.of 262) 0, sy 3, .ptr (K.of 263) 0] ++ tps 44))
def bpq (m : SE) : LT := .mk 60 4 bft 264 be3 (pI ++ a98) (some (mLn, m)) bt6 270 bup
def a1b : LT := znl (bpq (.c 0))
def bx7 : List HO := []
def bvb : LR := (.p [.mk (.iface 34 (.agg [.int .i64 5, .sym .i64 ad3 []])) false] (tps 49))
def btf (m : SE) : LT := .mk 60 4 bft 264 be3 (pI ++ a9j) (some (mLn, m)) bvb 270 bx7
def a3u : LT := znl (btf (.c 0))
def bub : List HO := []
def bxa : LR := (.p [.mk (.iface 34 (.agg [.sym .i64 zq [], .sym .i64 (.v 3) []])) false] (tps 49))
def brz (m : SE) : LT := .mk 60 4 bft 264 be3 (pI ++ baz) (some (mLn, m)) bxa 270 bub
def a1k : LT := znl (brz (.c 0))
def bgv : List AV := [.ptr (K.of 256) 0, .top, .ptr (K.of 262) 0, sy 3, .ptr (K.of 263) 0] ++ tps 44
def bgt : List HO := [rd0, rwO 257, hpG 258 (.s 5), bxO 262 .top .top] ++ buO 263 264 (.s 4) (.len (.s 4))
def bw9 : List HO := [rdO 256 258 259 257 (.app 93 ah4) (.v 2), rwO 257, hpG 258 (.app 59 avd), bxO 262 (.int .i64 3) (.sym .i64 al0 [])]
def bv2 : LR := (.r ([.ptr (K.of 256) 0, .top, .ptr (K.of 262) 0, sy 3, .ptr (K.of 263) 0] ++ tps 44))
def b3e (m : SE) : LT := .mk 60 4 bgv 265 bgt ((pI ++ ac1) ++ bbh) (some (mLn, m)) bv2 270 bw9
def buu : List HO := []
def bt5 : LR := (.p [.mk (.iface 34 (.agg [.int .i64 5, .sym .i64 ad9 []])) false] (tps 49))
def b14 (m : SE) : LT := .mk 60 4 bgv 265 bgt ((pI ++ ac1) ++ bec) (some (mLn, m)) bt5 270 buu
def byp : List HO := []
def bwc : LR := (.p [.mk (.iface 34 (.agg [.sym .i64 aaa [], .sym .i64 (.v 3) []])) false] (tps 49))
def b1y (m : SE) : LT := .mk 60 4 bgv 265 bgt ((pI ++ ac1) ++ a7y) (some (mLn, m)) bwc 270 byp
end
section
variable {σ : Nat → List Int}
theorem azj (h : List Int) (z : Int) : (pa h z).f = 0 ∨ (pa h z).f = 7 := by
 rw [ki]; split
 ·exact .inr rfl
 ·exact .inl rfl
theorem f57 (g : GE) (z : SE) : (SE.app 57 (.g g (.i z .nil))).eval σ = 0 ∨ (SE.app 57 (.g g (.i z .nil))).eval σ = 7 := azj _ _
theorem bl8 (h : List Int) (z : Int) : (afg h z).f = 0 ∨ (afg h z).f = 4 ∨ (afg h z).f = 7 := by
 rw [alz]; split
 ·exact .inr (.inl rfl)
 ·have := azj h z; omega
theorem f58 (g : GE) (z : SE) : (SE.app 58 (.g g (.i z .nil))).eval σ = 0 ∨ (SE.app 58 (.g g (.i z .nil))).eval σ = 4 ∨ (SE.app 58 (.g g (.i z .nil))).eval σ = 7 := bl8 _ _
theorem bdb (h s : List Int) : (qr h s).f = 0 ∨ (qr h s).f = 4 ∨ (qr h s).f = 5 ∨ (qr h s).f = 7 := by
 rw [agy]; split
 ·exact .inr (.inr (.inl rfl))
 ·split
  ·exact .inr (.inl rfl)
  ·have := azj h (td s 0); omega
theorem f59 (g s : GE) : (SE.app 59 (.g g (.g s .nil))).eval σ = 0 ∨ (SE.app 59 (.g g (.g s .nil))).eval σ = 4 ∨ (SE.app 59 (.g g (.g s .nil))).eval σ = 5 ∨ (SE.app 59 (.g g (.g s .nil))).eval σ = 7 := bdb _ _
theorem bqh (G : List Int) : 0 ≤ afn G := Int.natCast_nonneg _
theorem f53 (g : GE) : 0 ≤ (SE.app 53 (.g g .nil)).eval σ := bqh _
theorem b2p (G s : List Int) : a6a G s = 0 ∨ a6a G s = 1 := by unfold a6a; split <;> simp
theorem fmh (g s : GE) : (SE.mhas g s).eval σ = 0 ∨ (SE.mhas g s).eval σ = 1 := by
 have := b2p (g.eval σ) (s.eval σ)
 simpa only [evs] using this
theorem auc (G s : List Int) : (gb G s).f = 0 ∨ (gb G s).f = 4 ∨ (gb G s).f = 5 ∨ (gb G s).f = 7 := by
 rw [rt]
 repeat' split
 all_goals simp
theorem f54 (g s : GE) : (SE.app 54 (.g g (.g s .nil))).eval σ = 0 ∨ (SE.app 54 (.g g (.g s .nil))).eval σ = 4 ∨ (SE.app 54 (.g g (.g s .nil))).eval σ = 5 ∨ (SE.app 54 (.g g (.g s .nil))).eval σ = 7 := auc _ _
theorem ara : ∀ (f g : Nat) (l : List Int), l.length ≤ f → l.length ≤ g → agk f l = agk g l
 | 0, 0, _, _, _ => rfl
 | 0, g + 1, [], _, _ => rfl
 | f + 1, 0, [], _, _ => rfl
 | f + 1, g + 1, [], _, _ => rfl
 | f + 1, g + 1, [_], _, _ => rfl
 | f + 1, g + 1, n :: k :: l, h1, h2 => by
   unfold agk
   rw [ara f g (l.drop k.toNat) (by simp only [zO, List.length_drop] at *; omega) (by simp only [zO, List.length_drop] at *; omega)]
theorem a8c (G s : List Int) (n : Int) : afn (n :: (s.length : Int) :: (s ++ G)) = afn G + 1 := by
 unfold afn atp
 simp only [List.length_reverse]
 have e : agk (n :: (s.length : Int) :: (s ++ G)).length (n :: (s.length : Int) :: (s ++ G)) = ((s ++ G).take (s.length : Int).toNat, n) :: agk ((s ++ G).length + 1) ((s ++ G).drop (s.length : Int).toNat) := rfl
 rw [e, Int.toNat_natCast, List.drop_left, zO]
 rw [ara ((s ++ G).length + 1) G.length G (by simp; omega) (zY _)]
 omega
theorem ayu : ∀ (n : Nat) (h : List Int) (k m : Int), (aje n h k m).f = 0 ∨ (aje n h k m).f = 7
 | 0, h, k, m => .inl rfl
 | n + 1, h, k, m => by
   unfold aje
   split
   ·exact ayu n _ _ _
   ·have := azj h 0; dsimp only; omega
theorem f74 (i k n : SE) (h : GE) : (SE.app 74 (.i i (.g h (.i k (.i n .nil))))).eval σ = 0 ∨ (SE.app 74 (.i i (.g h (.i k (.i n .nil))))).eval σ = 7 := ayu _ _ _ _
theorem ae8 (h : List Int) (k n : Int) : l9 0 h k n = ⟨0, k, n, h⟩ := rfl
theorem an1 (i : Int) (hi : 0 ≤ i) (h : List Int) (k n : Int) : l9 (i + 1) h k n = if (pa h 0).f = 0 then l9 i (pa h 0).h 2 (h.getD 1 0) else ⟨(pa h 0).f, 0, 0, h⟩ := by
 unfold l9
 rw [show (i + 1).toNat = i.toNat + 1 by omega]
 rfl
theorem ayq (h : List Int) (k n : Int) : l9 2 h k n = if (pa h 0).f = 0 then (if (pa (pa h 0).h 0).f = 0 then ⟨0, 2, (pa h 0).h.getD 1 0, (pa (pa h 0).h 0).h⟩ else ⟨(pa (pa h 0).h 0).f, 0, 0, (pa h 0).h⟩) else ⟨(pa h 0).f, 0, 0, h⟩ := rfl
theorem awv (c : Int) : 1 ≤ ((ll c).length : Int) ∧ ((ll c).length : Int) ≤ 4 := f40 (σ := fun _ => [c]) (.v 0)
theorem ach {R : List Int} (hR : gn R) : ∀ (n : Nat) (p : Int) (b : List Int), ((R.length : Int) - p).toNat ≤ n → p ≤ (R.length : Int) → ((np R p b).f = 0 ∨ (np R p b).f = 5) ∧ ((np R p b).f = 0 → p < (np R p b).p ∧ (np R p b).p ≤ (R.length : Int) ∧ ((np R p b).b.length : Int) ≤ (b.length : Int) + 4 * ((np R p b).p - p))
 | 0, p, b, h, hp => by rw [c8, if_neg (by omega)]; exact ⟨.inr rfl, fun h => absurd h (show ¬ (5 : Int) = 0 by decide)⟩
 | n + 1, p, b, h, hp => by
   rw [c8]
   split
   ·split
    ·exact ⟨.inl rfl, fun _ => by dsimp only; omega⟩
    ·split
     ·rename_i h1 h2 h3
      obtain ⟨e1, e2⟩ := awy hR (p + 1) (by omega)
      split
      ·rename_i h4
       obtain ⟨e3, e4, e5, e6⟩ := e2 h4
       split
       ·split
        ·obtain ⟨a, c⟩ := ach hR n (gr R (p + 1)).p b (by omega) (by omega)
         exact ⟨a, fun h => by have := c h; omega⟩
        ·obtain ⟨a, c⟩ := ach hR n (gr R (p + 1)).p (b ++ ll (gr R (p + 1)).c) (by omega) (by omega)
         have := awv (gr R (p + 1)).c
         rw [zP] at c
         exact ⟨a, fun h => by have := c h; omega⟩
       ·exact ⟨.inr rfl, fun h => absurd h (show ¬ (5 : Int) = 0 by decide)⟩
      ·exact ⟨e1, fun h => absurd h (by assumption)⟩
     ·obtain ⟨a, c⟩ := ach hR n (p + 1) (b ++ ll (R.getD p.toNat 0)) (by omega) (by omega)
      have := awv (R.getD p.toNat 0)
      rw [zP] at c
      exact ⟨a, fun h => by have := c h; omega⟩
   ·exact ⟨.inr rfl, fun h => absurd h (show ¬ (5 : Int) = 0 by decide)⟩
theorem f91 (hR : gn (σ 0)) (a : SE) (g : GE) : a.eval σ ≤ (SE.len (.s 0)).eval σ → ((SE.app 91 (.g (.s 0) (.i a (.g g .nil)))).eval σ = 0 ∨ (SE.app 91 (.g (.s 0) (.i a (.g g .nil)))).eval σ = 5) ∧
  ((SE.app 91 (.g (.s 0) (.i a (.g g .nil)))).eval σ = 0 → a.eval σ < (SE.app 93 (.g (.s 0) (.i a (.g g .nil)))).eval σ ∧ (SE.app 93 (.g (.s 0) (.i a (.g g .nil)))).eval σ ≤ (SE.len (.s 0)).eval σ ∧ (SE.len (.app 91 (.g (.s 0) (.i a (.g g .nil))))).eval σ ≤ (SE.len g).eval σ + 4 * ((SE.app 93 (.g (.s 0) (.i a (.g g .nil)))).eval σ - a.eval σ)) := fun h => ach hR _ _ _ (zY _) h
theorem bh3 {A : List SA} (h : SAll σ (wy ++ A)) : -1 ≤ (σ 9).headD 0 ∧ (σ 9).headD 0 < (σ 6).headD 0 ∧ (σ 6).headD 0 ≤ 20000 := by
 have := (aj h).1
 simp only [sall_cons, sT, sF, evs] at this
 exact ⟨this.1, this.2.1, this.2.2.1⟩
theorem cak (h : SAll σ ank) : 1 ≤ (σ 6).headD 0 ∧ (σ 6).headD 0 ≤ 20000 := by
 simp only [sall_cons, sT, sF, evs] at h
 exact ⟨h.1, h.2.1⟩
theorem a89 (h : SAll σ (pI ++ ac1)) : (gn (σ 0) ∧ 0 ≤ (σ 1).headD 0 ∧ (σ 1).headD 0 ≤ ((σ 0).length : Int) ∧ (σ 0).length ≤ 4000) ∧ ((σ 4).length : Int) ≤ 4 * (σ 1).headD 0 ∧ 1 ≤ ((σ 4).length : Int) := by
 refine ⟨qx (aj h).1, ?_⟩
 have := (aj h).2
 simp only [sall_cons, sF, evs] at this
 exact ⟨this.1, this.2.1⟩
end
theorem bjz [Gv] : ∀ t ∈ [bq0, brr, rcF], am t := by
 intro t ht
 simp only [List.mem_cons, zH, or_false] at ht
 rcases ht with rfl | rfl | rfl
 ·exact a6p
 ·exact a7o
 ·exact bkh
def ccm [Gv] : Prop := (SAll Gv.σ avl → ba 88 bpj 259 bq8 byf 260 buc) ∧ (SAll Gv.σ ayj → ba 88 bpj 259 bq8 bun 260 by0)
theorem byq [Gv] (hI : SAll Gv.σ ai3) : ccm := by
 have h20 := aru hI
 have := zf1 (br9 (σ := Gv.σ) (.s 3))
 rcases zq1 hI (.app 50 (.g (.s 3) .nil)) (.c 1) with ⟨hI, k1⟩ | ⟨hI, k1⟩
 ·have := zf1 (f49 (σ := Gv.σ) (.s 3) (.c 0))
  rcases zl1 hI (.c 1000) (.app 49 (.g (.s 3) (.i (.c 0) .nil))) with ⟨hI, k2⟩ | ⟨hI, k2⟩
  ·have := zf1 (f54 (σ := Gv.σ) (.s 4) (.s 3))
   have u := zf4 (rt (Gv.σ 4) (Gv.σ 3))
   exact ⟨zn6,
    zm [] (.i (.c 4) ace .nil) (zh hI bjz) ag hI ze8⟩
  ·have := zf1 (fmh (σ := Gv.σ) (.s 4) (.s 3))
   rcases zq1 hI (.mhas (.s 4) (.s 3)) (.c 1) with ⟨hI, k3⟩ | ⟨hI, k3⟩
   ·have := zf1 (f53 (σ := Gv.σ) (.s 4))
    have := zf1 (f53 (σ := Gv.σ) agw)
    have := zf1 (f54 (σ := Gv.σ) (.s 4) (.s 3))
    have u := zf4 (rt (Gv.σ 4) (Gv.σ 3))
    exact ⟨zm [(257, 259)] (.i (.mget (.s 4) (.s 3)) aym (.i ago bc7 (.g (.s 4) agw .nil))) (zh hI bjz) ag hI ze8,
     zn6⟩
   ·have := zf1 (f53 (σ := Gv.σ) (.s 4))
    rcases zl1 hI ago (.c 16384) with ⟨hI, k4⟩ | ⟨hI, k4⟩
    ·have hI := zF1 hI (.c 60000) bd4
     have := zf1 (f53 (σ := Gv.σ) agw)
     have := zf1 (f54 (σ := Gv.σ) (.s 4) (.s 3))
     have u := zf4 (rt (Gv.σ 4) (Gv.σ 3))
     exact ⟨zm [(261, 259)] (.i ago aym (.i bd4 bc7 (.g (.cat (.one ago) (.cat (.one (.len (.s 3))) (.cat (.s 3) (.s 4)))) agw .nil))) (zh hI bjz) ag hI ze8,
      zn6⟩
    ·have := zf1 (f54 (σ := Gv.σ) (.s 4) (.s 3))
     have u := zf4 (rt (Gv.σ 4) (Gv.σ 3))
     exact ⟨zn6,
      zm [] (.i (.c 7) ace .nil) (zh hI bjz) ag hI ze8⟩
 ·have := zf1 (f54 (σ := Gv.σ) (.s 4) (.s 3))
  have u := zf4 (rt (Gv.σ 4) (Gv.σ 3))
  exact ⟨zn6,
   zm [] (.i (.c 5) ace .nil) (zh hI bjz) ag hI ze8⟩
theorem bsp [Gv] : am buv := fun σ _ hA _ => (@byq ⟨σ⟩  (aj hA).1).1 (aj hA).2
theorem bp5 [Gv] : am by5 := fun σ _ hA _ => (@byq ⟨σ⟩  (aj hA).1).2 (aj hA).2
theorem b91 [Gv] : ∀ t ∈ [buv, by5], am t := by
 intro t ht
 simp only [List.mem_cons, zH, or_false] at ht
 rcases ht with rfl | rfl
 ·exact bsp
 ·exact bp5
def cb7 [Gv] : Prop := (SAll Gv.σ avl → ba 72 bp2 262 bpu bxb 263 bvf) ∧ (SAll Gv.σ ayj → ba 72 bp2 262 bpu bz1 263 bwf)
theorem b0a [Gv] (hI : SAll Gv.σ ai3) : cb7 := by
 have h20 := aru hI
 have := zf1 (f54 (σ := Gv.σ) (.s 4) (.s 3))
 rcases zq1 hI ace (.c 0) with ⟨hI, k1⟩ | ⟨hI, k1⟩
 ·have u := trivial
  exact ⟨zm0 [(263, 262)] (zh hI b91) ag hI,
   zn1⟩
 ·have u := trivial
  exact ⟨zn1,
   zm0 [] (zh hI b91) ag hI⟩
theorem bpm [Gv] : am a16 := fun σ _ hA _ => (@b0a ⟨σ⟩  (aj hA).1).1 (aj hA).2
theorem bse [Gv] : am a0j := fun σ _ hA _ => (@b0a ⟨σ⟩  (aj hA).1).2 (aj hA).2
theorem ayo [Gv] : ∀ t ∈ [bzt, bt7], am t := by
 intro t ht
 simp only [List.mem_cons, zH, or_false] at ht
 rcases ht with rfl | rfl
 ·exact boj
 ·exact bqk
def b26 [Gv] : Prop := (SAll Gv.σ au1 → b7 77 5 beu 265 bfp blw 265 bnb) ∧ (SAll Gv.σ axi → b7 77 5 beu 265 bfp bkx 265 bhj)
theorem b6a [Gv] (hh : ∀ t ∈ [b6n mI1, b9i mI1], au t) (hI : SAll Gv.σ wy) : b26 := by
 obtain ⟨hi1, hi2, hi3⟩ := bh3 (A := []) hI
 rcases cc2 hI (.v 9) (.c 0) with ⟨hI, k1⟩ | ⟨hI, k1⟩
 ·have := avi (f74 (σ := Gv.σ) afv (.v 7) (.v 8) (.s 5))
  have u := ae8 (Gv.σ 5) ((Gv.σ 7).headD 0) ((Gv.σ 8).headD 0)
  have u2 := fun h => an1 ((Gv.σ 9).headD 0) h (Gv.σ 5) ((Gv.σ 7).headD 0) ((Gv.σ 8).headD 0)
  have e1 : (Gv.σ 9).headD 0 - 1 + 1 = (Gv.σ 9).headD 0 := by omega
  try simp (disch := omega) only [if_pos, if_neg, wr] at u2
  have e0 : (Gv.σ 9).headD 0 = -1 → (Gv.σ 9).headD 0 + 1 = 0 := fun h => by omega
  exact ⟨zt [] (.i (.v 7) ays (.i (.v 8) azl (.g (.s 5) a76 .nil))) (zh hI ayo) (zp hI hh) hI ze9,
   zn7⟩
 ·have := avi (f57 (σ := Gv.σ) (.s 5) (.c 0))
  rcases b19 hI a8n (.c 0) with ⟨hI, k2⟩ | ⟨hI, k2⟩
  ·have hI := bq3 hI axt (.c (-1))
   have hI := bqn hI axt (.v 6)
   have := avi (f74 (σ := Gv.σ) ac5 (.c 2) al0 ag3)
   rcases b19 hI (.app 74 anz) (.c 0) with ⟨hI, k5⟩ | ⟨hI, k5⟩
   ·have hI := bqn hI ac5 afv
    have hI := bq3 hI ac5 (.c 0)
    have := avi (f74 (σ := Gv.σ) afv (.v 7) (.v 8) (.s 5))
    have u := ae8 (Gv.σ 5) ((Gv.σ 7).headD 0) ((Gv.σ 8).headD 0)
    have u2 := fun h => an1 ((Gv.σ 9).headD 0) h (Gv.σ 5) ((Gv.σ 7).headD 0) ((Gv.σ 8).headD 0)
    have e1 : (Gv.σ 9).headD 0 - 1 + 1 = (Gv.σ 9).headD 0 := by omega
    try simp (disch := omega) only [if_pos, if_neg, wr] at u2
    have e0 : (Gv.σ 9).headD 0 = -1 → (Gv.σ 9).headD 0 + 1 = 0 := fun h => by omega
    exact ⟨zt [] (.i (.app 75 anz) ays (.i (.app 76 anz) azl (.g (.app 74 anz) a76 .nil))) (zh hI ayo) (zp hI hh) hI ze9,
     zn7⟩
   ·have hI := bqn hI ac5 afv
    have hI := bq3 hI ac5 (.c 0)
    have := avi (f74 (σ := Gv.σ) afv (.v 7) (.v 8) (.s 5))
    have u := ae8 (Gv.σ 5) ((Gv.σ 7).headD 0) ((Gv.σ 8).headD 0)
    have u2 := fun h => an1 ((Gv.σ 9).headD 0) h (Gv.σ 5) ((Gv.σ 7).headD 0) ((Gv.σ 8).headD 0)
    have e1 : (Gv.σ 9).headD 0 - 1 + 1 = (Gv.σ 9).headD 0 := by omega
    try simp (disch := omega) only [if_pos, if_neg, wr] at u2
    have e0 : (Gv.σ 9).headD 0 = -1 → (Gv.σ 9).headD 0 + 1 = 0 := fun h => by omega
    exact ⟨zn7,
     zt0 [] (zh hI ayo) (zp hI hh) hI⟩
  ·have := avi (f74 (σ := Gv.σ) afv (.v 7) (.v 8) (.s 5))
   have u := ae8 (Gv.σ 5) ((Gv.σ 7).headD 0) ((Gv.σ 8).headD 0)
   have u2 := fun h => an1 ((Gv.σ 9).headD 0) h (Gv.σ 5) ((Gv.σ 7).headD 0) ((Gv.σ 8).headD 0)
   have e1 : (Gv.σ 9).headD 0 - 1 + 1 = (Gv.σ 9).headD 0 := by omega
   try simp (disch := omega) only [if_pos, if_neg, wr] at u2
   have e0 : (Gv.σ 9).headD 0 = -1 → (Gv.σ 9).headD 0 + 1 = 0 := fun h => by omega
   exact ⟨zn7,
    zt0 [] (zh hI ayo) (zp hI hh) hI⟩
theorem axs : ∀ (B : Nat) (σ : Nat → List Int), SAll σ wy → (mI1).eval σ < (B : Int) → @b26 ⟨σ⟩
 | 0, σ, hI, hb => by have := bh3 (A := []) hI; simp only [mI1, evs, wr] at hb; omega
 | B + 1, σ, hI, hb => by
   have ih : ∀ σ' : Nat → List Int, SAll σ' wy → 0 ≤ (mI1).eval σ' ∧ (mI1).eval σ' < (mI1).eval σ → @b26 ⟨σ'⟩ := fun σ' h h' => axs B σ' h (by omega)
   have hh : ∀ t ∈ [b6n (mI1), b9i (mI1)], @au ⟨σ⟩ t := by
    intro t ht
    simp only [List.mem_cons, zH, or_false] at ht
    rcases ht with rfl | rfl
    ·exact fun σ' _ hA hb => (ih σ' (aj hA).1 hb).1 (aj hA).2
    ·exact fun σ' _ hA hb => (ih σ' (aj hA).1 hb).2 (aj hA).2
   exact @b6a ⟨σ⟩ hh hI
theorem boz [Gv] : au bxo := fun σ _ hA _ => (axs (((mI1).eval σ).toNat + 1) σ (aj hA).1 (by omega)).1 (aj hA).2
theorem brb [Gv] : au bwg := fun σ _ hA _ => (axs (((mI1).eval σ).toNat + 1) σ (aj hA).1 (by omega)).2 (aj hA).2
def cam [Gv] : Prop := (SAll Gv.σ bc1 → ba 77 bsm 263 boy bxn 264 bvn) ∧ (SAll Gv.σ bao → ba 77 bsm 263 boy bux 264 by2)
theorem byc [Gv] (hI : SAll Gv.σ []) : cam := by
 have := zf1 (f57 (σ := Gv.σ) (.s 5) (.c 0))
 rcases zq1 hI a8n (.c 0) with ⟨hI, k1⟩ | ⟨hI, k1⟩
 ·have := zf1 (f57 (σ := Gv.σ) ag3 (.c 0))
  rcases zq1 hI (.app 57 bd3) (.c 0) with ⟨hI, k2⟩ | ⟨hI, k2⟩
  ·have := zf1 (f74 (σ := Gv.σ) (.c 2) (.v 7) (.v 8) (.s 5))
   have u := zf4 (ayq (Gv.σ 5) ((Gv.σ 7).headD 0) ((Gv.σ 8).headD 0))
   exact ⟨zm [] (.i (.c 2) bdz (.i (.rd ag3 (.c 1)) bap (.g (.app 57 bd3) (.app 74 ah2) .nil))) (zh hI ayo) ag hI ze1,
    zn1⟩
  ·have := zf1 (f74 (σ := Gv.σ) (.c 2) (.v 7) (.v 8) (.s 5))
   have u := zf4 (ayq (Gv.σ 5) ((Gv.σ 7).headD 0) ((Gv.σ 8).headD 0))
   exact ⟨zn1,
    zm0 [] (zh hI ayo) ag hI⟩
 ·have := zf1 (f74 (σ := Gv.σ) (.c 2) (.v 7) (.v 8) (.s 5))
  have u := zf4 (ayq (Gv.σ 5) ((Gv.σ 7).headD 0) ((Gv.σ 8).headD 0))
  exact ⟨zn1,
   zm0 [] (zh hI ayo) ag hI⟩
theorem bsi [Gv] : am a2q := fun σ _ hA _ => (@byc ⟨σ⟩  (aj hA).1).1 (aj hA).2
theorem br7 [Gv] : am a05 := fun σ _ hA _ => (@byc ⟨σ⟩  (aj hA).1).2 (aj hA).2
theorem b5a [Gv] : ∀ t ∈ [bxo, bwg], au t := by
 intro t ht
 simp only [List.mem_cons, zH, or_false] at ht
 rcases ht with rfl | rfl
 ·exact boz
 ·exact brb
def cby [Gv] : Prop := (SAll Gv.σ bci → ba 77 bti 263 bn7 byh 264 bxj) ∧ (SAll Gv.σ a9w → ba 77 bti 263 bn7 bt1 264 bve)
theorem bt2 [Gv] (hI : SAll Gv.σ ank) : cby := by
 obtain ⟨hi1, hi2⟩ := cak hI
 have hI := bq3 hI azt (.c (-1))
 have hI := bqn hI azt (.v 6)
 have := avi (f74 (σ := Gv.σ) bbw (.v 7) (.v 8) (.s 5))
 rcases b19 hI (.app 74 aln) (.c 0) with ⟨hI, k3⟩ | ⟨hI, k3⟩
 ·have := avi (f74 (σ := Gv.σ) (.v 6) (.v 7) (.v 8) (.s 5))
  have u := trivial
  have e1 : (Gv.σ 6).headD 0 - 1 + 1 = (Gv.σ 6).headD 0 := by omega
  exact ⟨zm [] (.i (.app 75 aln) bda (.i (.app 76 aln) bef (.g (.app 74 aln) (.app 74 aim) .nil))) (zh hI ayo) (zp hI b5a) hI ccb,
   zn8⟩
 ·have := avi (f74 (σ := Gv.σ) (.v 6) (.v 7) (.v 8) (.s 5))
  have u := trivial
  have e1 : (Gv.σ 6).headD 0 - 1 + 1 = (Gv.σ 6).headD 0 := by omega
  exact ⟨zn8,
   zm0 [] (zh hI ayo) (zp hI b5a) hI⟩
theorem a71 [Gv] : am wn := fun σ _ hA _ => (@bt2 ⟨σ⟩  (aj hA).1).1 (aj hA).2
theorem a8s [Gv] : am xc := fun σ _ hA _ => (@bt2 ⟨σ⟩  (aj hA).1).2 (aj hA).2
def cc6 [Gv] : Prop := (SAll Gv.σ [] → ba 77 b9p 263 b66 b9g 263 b5u)
theorem b7f [Gv] (hI : SAll Gv.σ []) : cc6 := by
 have u := trivial
 exact zm0 [] aa ag hI
theorem bj5 [Gv] : am ais := fun σ _ hA _ => (@b7f ⟨σ⟩  (aj hA).1) (aj hA).2
theorem tx6 [Gv] : ∀ t ∈ [buw, bzy, b0u, b2o, bwr, bue], am t := by
 intro t ht
 simp only [List.mem_cons, zH, or_false] at ht
 rcases ht with rfl | rfl | rfl | rfl | rfl | rfl
 ·exact bq1
 ·exact br6
 ·exact bjx
 ·exact bmg
 ·exact bqc
 ·exact bo7
def b99 [Gv] : Prop := (SAll Gv.σ a98 → b7 60 4 bft 264 be3 bt6 270 bup) ∧ (SAll Gv.σ a9j → b7 60 4 bft 264 be3 bvb 270 bx7) ∧ (SAll Gv.σ baz → b7 60 4 bft 264 be3 bxa 270 bub)
theorem b6w [Gv] (hh : ∀ t ∈ [bpq mLn, btf mLn, brz mLn, b3e mLn, b14 mLn, b1y mLn], au t) (hI : SAll Gv.σ pI) : b99 := by
 obtain ⟨hR, hp0, hpl, hL⟩ := qx hI
 rcases asj hI zr (.len (.s 0)) with ⟨hI, k1⟩ | ⟨hI, k1⟩
 ·have hI := az hI zr (.c 0)
  have := aq (qc hR zr)
  have hI := az hI aax (.c 0)
  rcases ji hI aax (.c 34) with ⟨hI, k4⟩ | ⟨hI, k4⟩
  ·have := aq (f59 (σ := Gv.σ) (.s 5) (.lit 0 0))
   rcases ji hI bct (.c 0) with ⟨hI, k5⟩ | ⟨hI, k5⟩
   ·have := aq (f91 hR (.v 1) .nil)
    have := aq (f59 (σ := Gv.σ) (.s 5) ud)
    have u := s8 (c8 (Gv.σ 0) ((Gv.σ 1).headD 0) [])
    exact ⟨zt [] (.i ii anf (.g (.app 59 (.g (.s 5) (.g (.lit 0 0) .nil))) amq .nil)) (zh hI tx6) (zp hI hh) hI te,
     zn9,
     zn9⟩
   ·have := aq (f91 hR (.v 1) .nil)
    have := aq (f59 (σ := Gv.σ) (.s 5) ud)
    have u := s8 (c8 (Gv.σ 0) ((Gv.σ 1).headD 0) [])
    exact ⟨zn9,
     zn9,
     zt [] (.i bct zq .nil) (zh hI tx6) (zp hI hh) hI te⟩
  ·rcases ji hI aax (.c 92) with ⟨hI, k5⟩ | ⟨hI, k5⟩
   ·have hI := az hI ii (.c 0)
    have hI := az hI (.len (.s 0)) ii
    have := aq (f87 hR ii)
    rcases ji hI a9z (.c 0) with ⟨hI, k8⟩ | ⟨hI, k8⟩
    ·rcases asj hI axk (.c 0) with ⟨hI, k9⟩ | ⟨hI, k9⟩
     ·have hI := az hI jd (.c 0)
      have hI := az hI (.len (.s 0)) jd
      have := aq (f91 hR jd .nil)
      rcases ji hI (.app 91 amb) (.c 0) with ⟨hI, k12⟩ | ⟨hI, k12⟩
      ·have := aq (f59 (σ := Gv.σ) (.s 5) bd6)
       rcases ji hI a80 (.c 0) with ⟨hI, k13⟩ | ⟨hI, k13⟩
       ·have hI := fo hI ez jh
        have hI := az hI ez (.c 0)
        have := aq (f91 hR (.v 1) .nil)
        have := aq (f59 (σ := Gv.σ) (.s 5) ud)
        have u := s8 (c8 (Gv.σ 0) ((Gv.σ 1).headD 0) [])
        exact ⟨zt [] (.i (.app 93 amb) anf (.g (.app 59 ba3) amq .nil)) (zh hI tx6) (zp hI hh) hI te,
         zn9,
         zn9⟩
       ·have hI := fo hI ez jh
        have hI := az hI ez (.c 0)
        have := aq (f91 hR (.v 1) .nil)
        have := aq (f59 (σ := Gv.σ) (.s 5) ud)
        have u := s8 (c8 (Gv.σ 0) ((Gv.σ 1).headD 0) [])
        exact ⟨zn9,
         zn9,
         zt [] (.i a80 zq .nil) (zh hI tx6) (zp hI hh) hI te⟩
      ·have hI := fo hI ez jh
       have hI := az hI ez (.c 0)
       have := aq (f91 hR (.v 1) .nil)
       have u := s8 (c8 (Gv.σ 0) ((Gv.σ 1).headD 0) [])
       exact ⟨zn9,
        zt [] (.i (.app 92 amb) ad3 .nil) (zh hI tx6) (zp hI hh) hI te,
        zn9⟩
     ·have hI := az hI zl (.c 0)
      have hI := fo hI zl (.c 1114112)
      have hI := az hI jd (.c 0)
      have hI := az hI (.len (.s 0)) jd
      have := aq (f40 (σ := Gv.σ) zl)
      have hI := az hI aw0 awg
      have hI := az hI awg (.c 1)
      have := aq (f91 hR jd al9)
      rcases ji hI (.app 91 ame) (.c 0) with ⟨hI, k16⟩ | ⟨hI, k16⟩
      ·have := aq (f59 (σ := Gv.σ) (.s 5) bbu)
       rcases ji hI bdq (.c 0) with ⟨hI, k17⟩ | ⟨hI, k17⟩
       ·have hI := fo hI ez jh
        have hI := az hI ez (.c 0)
        have := aq (f91 hR (.v 1) .nil)
        have := aq (f59 (σ := Gv.σ) (.s 5) ud)
        have u := s8 (c8 (Gv.σ 0) ((Gv.σ 1).headD 0) [])
        exact ⟨zt [] (.i (.app 93 ame) anf (.g (.app 59 bbq) amq .nil)) (zh hI tx6) (zp hI hh) hI te,
         zn9,
         zn9⟩
       ·have hI := fo hI ez jh
        have hI := az hI ez (.c 0)
        have := aq (f91 hR (.v 1) .nil)
        have := aq (f59 (σ := Gv.σ) (.s 5) ud)
        have u := s8 (c8 (Gv.σ 0) ((Gv.σ 1).headD 0) [])
        exact ⟨zn9,
         zn9,
         zt [] (.i bdq zq .nil) (zh hI tx6) (zp hI hh) hI te⟩
      ·have hI := fo hI ez jh
       have hI := az hI ez (.c 0)
       have := aq (f91 hR (.v 1) .nil)
       have u := s8 (c8 (Gv.σ 0) ((Gv.σ 1).headD 0) [])
       exact ⟨zn9,
        zt [] (.i (.app 92 ame) ad3 .nil) (zh hI tx6) (zp hI hh) hI te,
        zn9⟩
    ·have := aq (f91 hR (.v 1) .nil)
     have u := s8 (c8 (Gv.σ 0) ((Gv.σ 1).headD 0) [])
     exact ⟨zn9,
      zt [] (.i bbt ad3 .nil) (zh hI tx6) (zp hI hh) hI te,
      zn9⟩
   ·have hI := az hI aam (.c 0)
    have hI := fo hI aam (.c 1114112)
    have hI := az hI ii (.c 0)
    have hI := az hI (.len (.s 0)) ii
    have := aq (f40 (σ := Gv.σ) aam)
    have hI := az hI bcm aza
    have hI := az hI aza (.c 1)
    have := aq (f91 hR ii amm)
    rcases ji hI (.app 91 am9) (.c 0) with ⟨hI, k12⟩ | ⟨hI, k12⟩
    ·have := aq (f59 (σ := Gv.σ) (.s 5) ba1)
     rcases ji hI bbj (.c 0) with ⟨hI, k13⟩ | ⟨hI, k13⟩
     ·have hI := fo hI ou jh
      have hI := az hI ou (.c 0)
      have := aq (f91 hR (.v 1) .nil)
      have := aq (f59 (σ := Gv.σ) (.s 5) ud)
      have u := s8 (c8 (Gv.σ 0) ((Gv.σ 1).headD 0) [])
      exact ⟨zt [] (.i (.app 93 am9) anf (.g (.app 59 a87) amq .nil)) (zh hI tx6) (zp hI hh) hI te,
       zn9,
       zn9⟩
     ·have hI := fo hI ou jh
      have hI := az hI ou (.c 0)
      have := aq (f91 hR (.v 1) .nil)
      have := aq (f59 (σ := Gv.σ) (.s 5) ud)
      have u := s8 (c8 (Gv.σ 0) ((Gv.σ 1).headD 0) [])
      exact ⟨zn9,
       zn9,
       zt [] (.i bbj zq .nil) (zh hI tx6) (zp hI hh) hI te⟩
    ·have hI := fo hI ou jh
     have hI := az hI ou (.c 0)
     have := aq (f91 hR (.v 1) .nil)
     have u := s8 (c8 (Gv.σ 0) ((Gv.σ 1).headD 0) [])
     exact ⟨zn9,
      zt [] (.i (.app 92 am9) ad3 .nil) (zh hI tx6) (zp hI hh) hI te,
      zn9⟩
 ·have := aq (f91 hR (.v 1) .nil)
  have u := s8 (c8 (Gv.σ 0) ((Gv.σ 1).headD 0) [])
  exact ⟨zn9,
   zt [] (.i (.len (.s 0)) ad3 .nil) (zh hI tx6) (zp hI hh) hI te,
   zn9⟩
def b7r [Gv] : Prop := (SAll Gv.σ bbh → b7 60 4 bgv 265 bgt bv2 270 bw9) ∧ (SAll Gv.σ bec → b7 60 4 bgv 265 bgt bt5 270 buu) ∧ (SAll Gv.σ a7y → b7 60 4 bgv 265 bgt bwc 270 byp)
theorem b5k [Gv] (hh : ∀ t ∈ [bpq mLn, btf mLn, brz mLn, b3e mLn, b14 mLn, b1y mLn], au t) (hI : SAll Gv.σ (pI ++ ac1)) : b7r := by
 obtain ⟨⟨hR, hp0, hpl, hL⟩, h4, h41⟩ := a89 hI
 rcases asj hI zr (.len (.s 0)) with ⟨hI, k1⟩ | ⟨hI, k1⟩
 ·have hI := az hI zr (.c 0)
  have := aq (qc hR zr)
  have hI := az hI aax (.c 0)
  rcases ji hI aax (.c 34) with ⟨hI, k4⟩ | ⟨hI, k4⟩
  ·have hI := fo hI (.c 0) (.len (.s 4))
   have hI := az hI (.c 60000) (.len (.s 4))
   have hI := az hI (.c 20000) (.len (.s 4))
   have := aq (f59 (σ := Gv.σ) (.s 5) (.s 4))
   rcases ji hI bai (.c 0) with ⟨hI, k8⟩ | ⟨hI, k8⟩
   ·have := aq (f91 hR (.v 1) (.s 4))
    have := aq (f59 (σ := Gv.σ) (.s 5) uo)
    have u := s8 (c8 (Gv.σ 0) ((Gv.σ 1).headD 0) (Gv.σ 4))
    exact ⟨zt [] (.i ii al3 (.g (.app 59 (.g (.s 5) agv)) aho .nil)) (zh hI tx6) (zp hI hh) hI te,
     zn9,
     zn9⟩
   ·have := aq (f91 hR (.v 1) (.s 4))
    have := aq (f59 (σ := Gv.σ) (.s 5) uo)
    have u := s8 (c8 (Gv.σ 0) ((Gv.σ 1).headD 0) (Gv.σ 4))
    exact ⟨zn9,
     zn9,
     zt [] (.i bai aaa .nil) (zh hI tx6) (zp hI hh) hI te⟩
  ·rcases ji hI aax (.c 92) with ⟨hI, k5⟩ | ⟨hI, k5⟩
   ·have hI := az hI ii (.c 0)
    have hI := az hI (.len (.s 0)) ii
    have := aq (f87 hR ii)
    rcases ji hI a9z (.c 0) with ⟨hI, k8⟩ | ⟨hI, k8⟩
    ·rcases asj hI axk (.c 0) with ⟨hI, k9⟩ | ⟨hI, k9⟩
     ·have hI := az hI jd (.c 0)
      have hI := az hI (.len (.s 0)) jd
      have hI := az hI aw0 (.len (.s 4))
      have := aq (f91 hR jd (.s 4))
      rcases ji hI (.app 91 ahh) (.c 0) with ⟨hI, k13⟩ | ⟨hI, k13⟩
      ·have := aq (f59 (σ := Gv.σ) (.s 5) a3p)
       rcases ji hI a0s (.c 0) with ⟨hI, k14⟩ | ⟨hI, k14⟩
       ·have hI := fo hI ez jh
        have hI := az hI ez (.c 0)
        have := aq (f91 hR (.v 1) (.s 4))
        have := aq (f59 (σ := Gv.σ) (.s 5) uo)
        have u := s8 (c8 (Gv.σ 0) ((Gv.σ 1).headD 0) (Gv.σ 4))
        exact ⟨zt [] (.i (.app 93 ahh) al3 (.g (.app 59 a4b) aho .nil)) (zh hI tx6) (zp hI hh) hI te,
         zn9,
         zn9⟩
       ·have hI := fo hI ez jh
        have hI := az hI ez (.c 0)
        have := aq (f91 hR (.v 1) (.s 4))
        have := aq (f59 (σ := Gv.σ) (.s 5) uo)
        have u := s8 (c8 (Gv.σ 0) ((Gv.σ 1).headD 0) (Gv.σ 4))
        exact ⟨zn9,
         zn9,
         zt [] (.i a0s aaa .nil) (zh hI tx6) (zp hI hh) hI te⟩
      ·have hI := fo hI ez jh
       have hI := az hI ez (.c 0)
       have := aq (f91 hR (.v 1) (.s 4))
       have u := s8 (c8 (Gv.σ 0) ((Gv.σ 1).headD 0) (Gv.σ 4))
       exact ⟨zn9,
        zt [] (.i (.app 92 ahh) ad9 .nil) (zh hI tx6) (zp hI hh) hI te,
        zn9⟩
     ·have hI := az hI zl (.c 0)
      have hI := fo hI zl (.c 1114112)
      have hI := az hI (.c 50000) (.len (.s 4))
      have hI := az hI jd (.c 0)
      have hI := az hI (.len (.s 0)) jd
      have := aq (f40 (σ := Gv.σ) zl)
      have hI := az hI aw0 a0n
      have hI := az hI a0n (.c 1)
      have := aq (f91 hR jd a29)
      rcases ji hI (.app 91 aiu) (.c 0) with ⟨hI, k17⟩ | ⟨hI, k17⟩
      ·have := aq (f59 (σ := Gv.σ) (.s 5) a27)
       rcases ji hI a3s (.c 0) with ⟨hI, k18⟩ | ⟨hI, k18⟩
       ·have hI := fo hI ez jh
        have hI := az hI ez (.c 0)
        have := aq (f91 hR (.v 1) (.s 4))
        have := aq (f59 (σ := Gv.σ) (.s 5) uo)
        have u := s8 (c8 (Gv.σ 0) ((Gv.σ 1).headD 0) (Gv.σ 4))
        exact ⟨zt [] (.i (.app 93 aiu) al3 (.g (.app 59 a2i) aho .nil)) (zh hI tx6) (zp hI hh) hI te,
         zn9,
         zn9⟩
       ·have hI := fo hI ez jh
        have hI := az hI ez (.c 0)
        have := aq (f91 hR (.v 1) (.s 4))
        have := aq (f59 (σ := Gv.σ) (.s 5) uo)
        have u := s8 (c8 (Gv.σ 0) ((Gv.σ 1).headD 0) (Gv.σ 4))
        exact ⟨zn9,
         zn9,
         zt [] (.i a3s aaa .nil) (zh hI tx6) (zp hI hh) hI te⟩
      ·have hI := fo hI ez jh
       have hI := az hI ez (.c 0)
       have := aq (f91 hR (.v 1) (.s 4))
       have u := s8 (c8 (Gv.σ 0) ((Gv.σ 1).headD 0) (Gv.σ 4))
       exact ⟨zn9,
        zt [] (.i (.app 92 aiu) ad9 .nil) (zh hI tx6) (zp hI hh) hI te,
        zn9⟩
    ·have := aq (f91 hR (.v 1) (.s 4))
     have u := s8 (c8 (Gv.σ 0) ((Gv.σ 1).headD 0) (Gv.σ 4))
     exact ⟨zn9,
      zt [] (.i bbt ad9 .nil) (zh hI tx6) (zp hI hh) hI te,
      zn9⟩
   ·have hI := az hI aam (.c 0)
    have hI := fo hI aam (.c 1114112)
    have hI := az hI (.c 50000) (.len (.s 4))
    have hI := az hI ii (.c 0)
    have hI := az hI (.len (.s 0)) ii
    have := aq (f40 (σ := Gv.σ) aam)
    have hI := az hI bcm a17
    have hI := az hI a17 (.c 1)
    have := aq (f91 hR ii a04)
    rcases ji hI (.app 91 aik) (.c 0) with ⟨hI, k13⟩ | ⟨hI, k13⟩
    ·have := aq (f59 (σ := Gv.σ) (.s 5) a28)
     rcases ji hI a30 (.c 0) with ⟨hI, k14⟩ | ⟨hI, k14⟩
     ·have hI := fo hI ou jh
      have hI := az hI ou (.c 0)
      have := aq (f91 hR (.v 1) (.s 4))
      have := aq (f59 (σ := Gv.σ) (.s 5) uo)
      have u := s8 (c8 (Gv.σ 0) ((Gv.σ 1).headD 0) (Gv.σ 4))
      exact ⟨zt [] (.i (.app 93 aik) al3 (.g (.app 59 a3a) aho .nil)) (zh hI tx6) (zp hI hh) hI te,
       zn9,
       zn9⟩
     ·have hI := fo hI ou jh
      have hI := az hI ou (.c 0)
      have := aq (f91 hR (.v 1) (.s 4))
      have := aq (f59 (σ := Gv.σ) (.s 5) uo)
      have u := s8 (c8 (Gv.σ 0) ((Gv.σ 1).headD 0) (Gv.σ 4))
      exact ⟨zn9,
       zn9,
       zt [] (.i a30 aaa .nil) (zh hI tx6) (zp hI hh) hI te⟩
    ·have hI := fo hI ou jh
     have hI := az hI ou (.c 0)
     have := aq (f91 hR (.v 1) (.s 4))
     have u := s8 (c8 (Gv.σ 0) ((Gv.σ 1).headD 0) (Gv.σ 4))
     exact ⟨zn9,
      zt [] (.i (.app 92 aik) ad9 .nil) (zh hI tx6) (zp hI hh) hI te,
      zn9⟩
 ·have := aq (f91 hR (.v 1) (.s 4))
  have u := s8 (c8 (Gv.σ 0) ((Gv.σ 1).headD 0) (Gv.σ 4))
  exact ⟨zn9,
   zt [] (.i (.len (.s 0)) ad9 .nil) (zh hI tx6) (zp hI hh) hI te,
   zn9⟩
theorem y4 : ∀ (B : Nat) (σ : Nat → List Int), mLn.eval σ < (B : Int) → (SAll σ pI → @b99 ⟨σ⟩) ∧ (SAll σ (pI ++ ac1) → @b7r ⟨σ⟩)
 | 0, σ, hb => by
   refine ⟨fun hI => ?_, fun hI => ?_⟩
   ·obtain ⟨h1, h2, h3, h4⟩ := qx hI; simp only [mLn, evs, wr] at hb; omega
   ·obtain ⟨⟨h1, h2, h3, h4⟩, _⟩ := a89 hI; simp only [mLn, evs, wr] at hb; omega
 | B + 1, σ, hb => by
   have hh : ∀ t ∈ [bpq mLn, btf mLn, brz mLn, b3e mLn, b14 mLn, b1y mLn], @au ⟨σ⟩ t := by
    intro t ht
    simp only [List.mem_cons, zH, or_false] at ht
    rcases ht with rfl | rfl | rfl | rfl | rfl | rfl
    ·exact fun σ' _ hA hb' => by
      have hb' : 0 ≤ mLn.eval σ' ∧ mLn.eval σ' < mLn.eval σ := hb'
      exact ((y4 B σ' (by omega)).1 (aj hA).1).1 (aj hA).2
    ·exact fun σ' _ hA hb' => by
      have hb' : 0 ≤ mLn.eval σ' ∧ mLn.eval σ' < mLn.eval σ := hb'
      exact ((y4 B σ' (by omega)).1 (aj hA).1).2.1 (aj hA).2
    ·exact fun σ' _ hA hb' => by
      have hb' : 0 ≤ mLn.eval σ' ∧ mLn.eval σ' < mLn.eval σ := hb'
      exact ((y4 B σ' (by omega)).1 (aj hA).1).2.2 (aj hA).2
    ·exact fun σ' _ hA hb' => by
      have hb' : 0 ≤ mLn.eval σ' ∧ mLn.eval σ' < mLn.eval σ := hb'
      exact ((y4 B σ' (by omega)).2 (aj hA).1).1 (aj hA).2
    ·exact fun σ' _ hA hb' => by
      have hb' : 0 ≤ mLn.eval σ' ∧ mLn.eval σ' < mLn.eval σ := hb'
      exact ((y4 B σ' (by omega)).2 (aj hA).1).2.1 (aj hA).2
    ·exact fun σ' _ hA hb' => by
      have hb' : 0 ≤ mLn.eval σ' ∧ mLn.eval σ' < mLn.eval σ := hb'
      exact ((y4 B σ' (by omega)).2 (aj hA).1).2.2 (aj hA).2
   exact ⟨fun hI => @b6w ⟨σ⟩ hh hI, fun hI => @b5k ⟨σ⟩ hh hI⟩
theorem bom [Gv] : au a1b := fun σ _ hA _ => ((y4 ((mLn.eval σ).toNat + 1) σ (by omega)).1 (aj hA).1).1 (aj hA).2
theorem boc [Gv] : au a3u := fun σ _ hA _ => ((y4 ((mLn.eval σ).toNat + 1) σ (by omega)).1 (aj hA).1).2.1 (aj hA).2
theorem bo3 [Gv] : au a1k := fun σ _ hA _ => ((y4 ((mLn.eval σ).toNat + 1) σ (by omega)).1 (aj hA).1).2.2 (aj hA).2
end Go.Ev
