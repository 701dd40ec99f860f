import Derived.Test.YtocilenpboklbaaGreatDoorRaH
import Derived.Test.YtocilenpboklbaaGreatDoorEvGh
set_option maxRecDepth 100000
set_option linter.all false
namespace Go.Ev
abbrev apj : AL := .g (.s 4) (.g (.s 3) .nil)
abbrev axn : SE := .app 55 apj
abbrev axo : List SA := [.mk true (.c 20000) (.len (.s 3)) false]
abbrev aee : SE := .app 54 apj
abbrev bco : List SA := [.mk false aee (.c 0) true]
abbrev bcp : List SA := [.mk false aee (.c 0) false]
abbrev bnx : SE := .bin 6 .i64 (.v 9) (.c 1)
abbrev apo : AL := .g (.s 5) (.i (.v 7) (.i (.v 8) .nil))
abbrev apr : AL := .i bnx apo
abbrev bv2 : SE := .app 75 apr
abbrev bv3 : SE := .app 76 apr
abbrev bv4 : List SA := [.mk true (.v 9) (.c (-1)) false, .mk true (.v 9) (.v 6) true, .mk true (.c 20000) (.v 6) false]
abbrev a1v : SE := .app 74 apr
abbrev bv5 : List SA := [.mk false a1v (.c 0) true]
abbrev bv6 : List SA := [.mk false a1v (.c 0) false]
abbrev apk : AL := .i (.c 2) apo
abbrev bv7 : SE := .app 75 apk
abbrev bv8 : SE := .app 76 apk
abbrev a1w : SE := .app 74 apk
abbrev bv9 : List SA := [.mk false a1w (.c 0) true]
abbrev bwa : List SA := [.mk false a1w (.c 0) false]
abbrev apl : AL := .i (.v 6) apo
abbrev bwb : SE := .app 75 apl
abbrev bwc : SE := .app 76 apl
abbrev bwe : List SA := [.mk true (.v 6) (.c 1) false, .mk true (.c 20000) (.v 6) false]
abbrev a1x : SE := .app 74 apl
abbrev bwf : List SA := [.mk false a1x (.c 0) true]
abbrev bwg : List SA := [.mk false a1x (.c 0) false]
abbrev agk : AL := .g (.s 0) (.i (.v 1) (.g .nil .nil))
abbrev bg6 : GE := .app 91 agk
abbrev a1y : AL := .g (.s 5) (.g bg6 .nil)
abbrev bg7 : SE := .rd (.s 5) (.c 1)
abbrev apm : SE := .app 91 agk
abbrev a1z : SE := .app 59 a1y
abbrev bwh : List SA := [.mk false apm (.c 0) true, .mk false a1z (.c 0) true]
abbrev bwi : SE := .app 92 agk
abbrev bwj : List SA := [.mk false apm (.c 0) false]
abbrev bwk : List SA := [.mk false apm (.c 0) true, .mk false a1z (.c 0) false]
abbrev agl : AL := .g (.s 4) .nil
abbrev agm : AL := .g (.s 0) (.i (.v 1) agl)
abbrev bg8 : GE := .app 91 agm
abbrev a16 : AL := .g (.s 5) (.g bg8 .nil)
abbrev bwl : List SA := [.mk true (.bin 7 .i64 (.c 4) (.v 1)) (.len (.s 4)) false, .mk true (.len (.s 4)) (.c 1) false]
abbrev apn : SE := .app 91 agm
abbrev a17 : SE := .app 59 a16
abbrev bwm : List SA := [.mk false apn (.c 0) true, .mk false a17 (.c 0) true]
abbrev bwn : SE := .app 92 agm
abbrev bwo : List SA := [.mk false apn (.c 0) false]
abbrev bwp : List SA := [.mk false apn (.c 0) true, .mk false a17 (.c 0) false]
abbrev acg : GE := .app 54 apj
abbrev ach : SE := .app 53 agl
abbrev a18 : SE := .app 53 (.g acg .nil)
abbrev a19 : SE := .bin 6 .i64 ach (.c 1)
abbrev bwq : GE := .app 74 apr
abbrev bwr : SE := .app 57 (.g (.s 5) (.i (.c 0) .nil))
abbrev bg9 : SE := .bin 1 .i64 (.v 9) (.c 1)
abbrev bha : SE := .bin 6 .i64 bg9 (.c 1)
abbrev a2a : GE := .app 57 (.g (.s 5) (.i (.c 0) .nil))
abbrev bws : AL := .i bha (.g a2a (.i (.c 2) (.i bg7 .nil)))
abbrev bwt : AL := .g a2a (.i (.c 0) .nil)
abbrev bhb : SE := .bin 1 .i64 (.v 6) (.c 1)
abbrev bhc : SE := .bin 6 .i64 bhb (.c 1)
abbrev bwu : AL := .i bhc apo
abbrev bhd : SE := .bin 0 .i64 (.v 1) (.c 0)
abbrev bhe : SE := .rd (.s 0) bhd
abbrev bwv : SE := .app 59 (.g (.s 5) (.g (.lit 0 0) .nil))
abbrev aci : SE := .bin 0 .i64 (.v 1) (.c 1)
abbrev bww : SE := .app 93 agk
abbrev bwx : GE := .app 59 a1y
abbrev agn : AL := .g (.s 0) (.i aci .nil)
abbrev bwy : SE := .app 87 agn
abbrev bhf : SE := .app 89 agn
abbrev yi : SE := .app 90 agn
abbrev bhg : AL := .g (.s 0) (.i yi (.g .nil .nil))
abbrev bhh : GE := .app 91 bhg
abbrev bhi : AL := .g (.s 5) (.g bhh .nil)
abbrev bwz : SE := .app 59 bhi
abbrev bw0 : SE := .bin 6 .i64 (.len (.s 0)) (.bin 7 .i64 (.c (-1)) yi)
abbrev bw1 : SE := .bin 6 .i64 (.len (.s 0)) (.bin 7 .i64 (.c (-1)) (.v 1))
abbrev bhj : SE := .bin 0 .i32 bhf (.c 0)
abbrev bw2 : SE := .bin 7 .i64 (.c 4) yi
abbrev apq : GE := .app 40 (.i bhj .nil)
abbrev bhk : SE := .len apq
abbrev bhl : AL := .g (.s 0) (.i yi (.g apq .nil))
abbrev bhm : GE := .app 91 bhl
abbrev bhn : AL := .g (.s 5) (.g bhm .nil)
abbrev bw3 : SE := .app 59 bhn
abbrev bw4 : SE := .app 88 agn
abbrev bho : SE := .bin 0 .i32 bhe (.c 0)
abbrev bw5 : SE := .bin 7 .i64 (.c 4) aci
abbrev aps : GE := .app 40 (.i bho .nil)
abbrev bhp : SE := .len aps
abbrev bhq : AL := .g (.s 0) (.i aci (.g aps .nil))
abbrev bhr : GE := .app 91 bhq
abbrev bhs : AL := .g (.s 5) (.g bhr .nil)
abbrev bw6 : SE := .app 59 bhs
abbrev bw7 : SE := .bin 6 .i64 (.len (.s 0)) (.bin 7 .i64 (.c (-1)) aci)
abbrev bw8 : SE := .app 59 (.g (.s 5) agl)
abbrev bw9 : SE := .app 93 agm
abbrev btm : GE := .app 59 a16
abbrev bcd : AL := .g (.s 0) (.i yi agl)
abbrev bce : GE := .app 91 bcd
abbrev bcf : AL := .g (.s 5) (.g bce .nil)
abbrev btn : SE := .app 59 bcf
abbrev bto : SE := .bin 6 .i64 (.len (.s 4)) bhk
abbrev bcg : GE := .cat (.s 4) apq
abbrev bch : AL := .g (.s 0) (.i yi (.g bcg .nil))
abbrev bci : GE := .app 91 bch
abbrev bcj : AL := .g (.s 5) (.g bci .nil)
abbrev btp : SE := .app 59 bcj
abbrev btq : SE := .bin 6 .i64 (.len (.s 4)) bhp
abbrev bck : GE := .cat (.s 4) aps
abbrev bcl : AL := .g (.s 0) (.i aci (.g bck .nil))
abbrev bcm : GE := .app 91 bcl
abbrev bcn : AL := .g (.s 5) (.g bcm .nil)
abbrev btr : SE := .app 59 bcn
noncomputable section
def awo (k kj km : Nat) (g : GE) : List HO := [.mk k (.cells 111 false 0 0 [.gv (.sl (K.of kj) 6 (.app 53 (.g g .nil)) []), .map (K.of km)]), .mk kj (.gob (.junk 171)), .mk km (.gob (.gmap g))]
def beh : List AV := [.ptr (K.of 256) 0, .gv (.str (.s 3) [])]
def bef : List HO := awo 256 257 258 (.s 4)
def bia : List HO := awo 256 259 258 (.app 54 apj)
def bib : TR := .ret (.tuple [.sym .i64 axn [], .int .i64 0])
def bh9 : TM := .mk 21 beh 259 bef (axo ++ bco) none bib 260 bia
def bh7 : List HO := awo 256 257 258 (.s 4)
def bh8 : TR := .ret (.tuple [.int .i64 0, .sym .i64 aee []])
def bh6 : TM := .mk 21 beh 259 bef (axo ++ bcp) none bh8 260 bh7
end
section
variable {σ : Nat → List Int}
theorem bdo (G : List Int) : 0 ≤ yr G := Int.natCast_nonneg _
theorem f53 (g : GE) : 0 ≤ (SE.app 53 (.g g .nil)).eval σ := bdo _
theorem blc (G s : List Int) : yu G s = 0 ∨ yu G s = 1 := by unfold yu; split <;> simp
theorem fmh (g s : GE) : (SE.mhas g s).eval σ = 0 ∨ (SE.mhas g s).eval σ = 1 := by
 have := blc (g.eval σ) (s.eval σ)
 simpa only [evs] using this
theorem a4t (G s : List Int) : (fe G s).f = 0 ∨ (fe G s).f = 4 ∨ (fe G s).f = 5 ∨ (fe G s).f = 7 := by
 rw [lj]
 repeat' split
 all_goals simp
theorem f54 (g s : GE) : (SE.app 54 (.g g (.g s .nil))).eval σ = 0 ∨ (SE.app 54 (.g g (.g s .nil))).eval σ = 4 ∨ (SE.app 54 (.g g (.g s .nil))).eval σ = 5 ∨ (SE.app 54 (.g g (.g s .nil))).eval σ = 7 := a4t _ _
theorem zv : ∀ (f g : Nat) (l : List Int), l.length ≤ f → l.length ≤ g → wj f l = wj g l
 | 0, 0, _, _, _ => rfl
 | 0, g + 1, [], _, _ => rfl
 | f + 1, 0, [], _, _ => rfl
 | f + 1, g + 1, [], _, _ => rfl
 | f + 1, g + 1, [_], _, _ => rfl
 | f + 1, g + 1, n :: k :: l, h1, h2 => by
   unfold wj
   rw [zv f g (l.drop k.toNat) (by simp only [zO, List.length_drop] at *; omega) (by simp only [zO, List.length_drop] at *; omega)]
theorem nj (G s : List Int) (n : Int) : yr (n :: (s.length : Int) :: (s ++ G)) = yr G + 1 := by
 unfold yr tg
 simp only [List.length_reverse]
 have e : wj (n :: (s.length : Int) :: (s ++ G)).length (n :: (s.length : Int) :: (s ++ G)) = ((s ++ G).take (s.length : Int).toNat, n) :: wj ((s ++ G).length + 1) ((s ++ G).drop (s.length : Int).toNat) := rfl
 rw [e, Int.toNat_natCast, List.drop_left, zO]
 rw [zv ((s ++ G).length + 1) G.length G (by simp; omega) (zY _)]
 omega
end
theorem a8c [Gv] : ∀ t ∈ [bge, bgd, rcF], bj t := by
 intro t ht
 simp only [List.mem_cons, zH, or_false] at ht
 rcases ht with rfl | rfl | rfl
 ·exact axc
 ·exact axb
 ·exact az0
def bze [Gv] : Prop := (SAll Gv.σ bco → aq 21 beh 259 bef bib 260 bia) ∧ (SAll Gv.σ bcp → aq 21 beh 259 bef bh8 260 bh7)
theorem bh2 [Gv] (hI : SAll Gv.σ axo) : bze := by
 have h20 := y3 hI
 have := zf1 (bor (σ := Gv.σ) (.s 3))
 rcases zq1 hI (.app 50 (.g (.s 3) .nil)) (.c 1) with ⟨hI, k1⟩ | ⟨hI, k1⟩
 ·have := zf1 (f49 (σ := Gv.σ) (.s 3) (.c 0))
  rcases zl1 hI (.c 1000) (.app 49 (.g (.s 3) (.i (.c 0) .nil))) with ⟨hI, k2⟩ | ⟨hI, k2⟩
  ·have := zf1 (f54 (σ := Gv.σ) (.s 4) (.s 3))
   have u := zf4 (lj (Gv.σ 4) (Gv.σ 3))
   exact ⟨zn6,
    zm [] (.i (.c 4) aee .nil) (zh hI a8c) ac hI ze8⟩
  ·have := zf1 (fmh (σ := Gv.σ) (.s 4) (.s 3))
   rcases zq1 hI (.mhas (.s 4) (.s 3)) (.c 1) with ⟨hI, k3⟩ | ⟨hI, k3⟩
   ·have := zf1 (f53 (σ := Gv.σ) (.s 4))
    have := zf1 (f53 (σ := Gv.σ) acg)
    have := zf1 (f54 (σ := Gv.σ) (.s 4) (.s 3))
    have u := zf4 (lj (Gv.σ 4) (Gv.σ 3))
    exact ⟨zm [(257, 259)] (.i (.mget (.s 4) (.s 3)) axn (.i ach a18 (.g (.s 4) acg .nil))) (zh hI a8c) ac hI ze8,
     zn6⟩
   ·have := zf1 (f53 (σ := Gv.σ) (.s 4))
    rcases zl1 hI ach (.c 16384) with ⟨hI, k4⟩ | ⟨hI, k4⟩
    ·have hI := zF1 hI (.c 400000) a19
     have := zf1 (f53 (σ := Gv.σ) acg)
     have := zf1 (f54 (σ := Gv.σ) (.s 4) (.s 3))
     have u := zf4 (lj (Gv.σ 4) (Gv.σ 3))
     exact ⟨zm [(261, 259)] (.i ach axn (.i a19 a18 (.g (.cat (.one ach) (.cat (.one (.len (.s 3))) (.cat (.s 3) (.s 4)))) acg .nil))) (zh hI a8c) ac hI ze8,
      zn6⟩
    ·have := zf1 (f54 (σ := Gv.σ) (.s 4) (.s 3))
     have u := zf4 (lj (Gv.σ 4) (Gv.σ 3))
     exact ⟨zn6,
      zm [] (.i (.c 7) aee .nil) (zh hI a8c) ac hI ze8⟩
 ·have := zf1 (f54 (σ := Gv.σ) (.s 4) (.s 3))
  have u := zf4 (lj (Gv.σ 4) (Gv.σ 3))
  exact ⟨zn6,
   zm [] (.i (.c 5) aee .nil) (zh hI a8c) ac hI ze8⟩
theorem beg [Gv] : bj bh9 := fun σ _ hA _ => (@bh2 ⟨σ⟩  (ap hA).1).1 (ap hA).2
theorem bee [Gv] : bj bh6 := fun σ _ hA _ => (@bh2 ⟨σ⟩  (ap hA).1).2 (ap hA).2
end Go.Ev
