import Derived.Test.YtocilenpboklbaaGreatDoorRaN
set_option maxRecDepth 100000
set_option linter.all false
namespace Go.Ev
abbrev akr : AL := .i (.v 1) .nil
abbrev xj : SE := .app 78 akr
abbrev ayb : List SA := [.mk true (.v 1) (.c 0) false, .mk true (.v 1) (.c 1114112) true]
abbrev aks : SE := .app 77 akr
abbrev bdj : List SA := [.mk false (.app 79 akr) (.c 1) true]
abbrev bdk : List SA := [.mk false (.app 79 akr) (.c 1) false]
abbrev ap9 : AL := .g (.s 0) (.i (.v 1) (.i (.v 5) (.i (.v 6) .nil)))
abbrev akt : SE := .app 81 ap9
abbrev aku : SE := .app 82 ap9
abbrev yq : List SA := [.mk true (.v 6) (.c 0) false, .mk true (.c 6) (.v 6) false]
abbrev u7 : AL := .g (.s 0) (.i (.v 1) (.i (.v 3) .nil))
abbrev a1u : SE := .app 85 u7
abbrev a1v : SE := .app 83 u7
abbrev a1w : List SA := [.mk false a1v (.c 0) true]
abbrev acs : SE := .app 84 u7
abbrev a1x : List SA := [.mk false a1v (.c 0) false]
abbrev jr : AL := .g (.s 0) akr
abbrev yr : SE := .app 89 jr
abbrev a1y : SE := .app 87 jr
abbrev a1z : List SA := [.mk false a1y (.c 0) true]
abbrev ago : SE := .app 88 jr
abbrev a16 : List SA := [.mk false a1y (.c 0) false]
abbrev bip : SE := .app 94 jr
abbrev bwy : SE := .app 100 jr
abbrev a17 : SE := .app 97 jr
abbrev bwz : List SA := [.mk false a17 (.c 0) true]
abbrev bw0 : SE := .app 98 jr
abbrev bw1 : List SA := [.mk false a17 (.c 0) false]
abbrev bw2 : SE := .app 96 u7
abbrev bw3 : SE := .app 104 jr
abbrev bw4 : List SA := [.mk true (.v 1) (.len (.s 0)) true]
abbrev a18 : SE := .app 102 jr
abbrev bw5 : List SA := [.mk false a18 (.c 0) true]
abbrev bw6 : SE := .app 103 jr
abbrev bw7 : List SA := [.mk false a18 (.c 0) false]
abbrev u9 : SE := .bin 0 .i64 (.v 1) (.c 0)
abbrev nu : SE := .rd (.s 0) u9
abbrev a19 : AL := .i nu .nil
abbrev a2a : SE := .app 78 a19
abbrev agp : SE := .app 80 ap9
abbrev gi : SE := .bin 0 .i64 (.v 1) (.c 1)
abbrev agq : SE := .bin 0 .i64 (.v 6) (.c 1)
abbrev a2b : SE := .bin 6 .i64 (.len (.s 0)) (.bin 7 .i64 (.c (-1)) gi)
abbrev biq : SE := .bin 6 .i64 (.len (.s 0)) (.bin 7 .i64 (.c (-1)) (.v 1))
abbrev a2c : SE := .bin 9 .i64 (.bin 11 .i64 (.v 5) (.c 4)) a2a
abbrev ap5 : AL := .g (.s 0) (.i gi (.i a2c (.i agq .nil)))
abbrev ap6 : AL := .g (.s 0) (.i (.v 1) (.i (.c 0) (.i (.c 0) .nil)))
abbrev a2d : SE := .app 80 ap6
abbrev agr : SE := .bin 0 .i64 a2d (.c 0)
abbrev a2e : SE := .rd (.s 0) agr
abbrev ap7 : SE := .app 81 ap6
abbrev act : SE := .app 90 jr
abbrev ap8 : SE := .bin 1 .i64 (.v 1) (.c 1)
abbrev ags : AL := .g (.s 0) (.i gi (.i ap8 .nil))
abbrev a2f : SE := .app 77 a19
abbrev bw8 : SE := .bin 0 .i64 (.v 1) (.c 2)
abbrev bw9 : SE := .rd (.s 0) gi
abbrev bir : SE := .bin 0 .i64 gi (.c 0)
abbrev bis : SE := .rd (.s 0) bir
abbrev bxa : SE := .app 77 (.i bis .nil)
abbrev bxb : SE := .bin 0 .i64 gi (.c 1)
abbrev bxc : SE := .app 101 jr
abbrev bxd : SE := .app 95 u7
abbrev a2g : SE := .bin 0 .i64 (.v 1) (.c 3)
abbrev bxe : SE := .bin 6 .i64 (.len (.s 0)) (.bin 7 .i64 (.c (-1)) a2g)
abbrev biu : SE := .bin 9 .i64 (.v 3) bip
abbrev bxf : AL := .g (.s 0) (.i a2g (.i biu .nil))
abbrev a2h : AL := .g (.s 0) (.i gi (.i (.c 0) .nil))
abbrev biv : SE := .app 95 a2h
abbrev a2i : AL := .g (.s 0) (.i biv .nil)
abbrev biw : SE := .app 101 a2i
abbrev bix : SE := .bin 0 .i64 biw (.c 0)
abbrev bxg : SE := .rd (.s 0) bix
abbrev aqa : SE := .app 96 a2h
abbrev bxh : SE := .bin 8 .i64 aqa (.c 67108864)
abbrev a2j : SE := .app 100 a2i
abbrev bxi : SE := .bin 9 .i64 a2j aqa
abbrev bxj : SE := .app 105 jr
abbrev a2k : SE := .bin 13 .i64 aqa (.c 67108864)
abbrev bxk : SE := .bin 9 .i64 (.c 127) a2k
abbrev bxl : SE := .bin 9 .i64 (.bin 4 .i64 a2j (.c 32)) a2k
noncomputable section
def br3 : List AV := [.int .i64 (-1)]
def br0 : List HO := []
def br1 : List HO := []
def br2 : TR := .ret (.int .i64 (-1))
def brz : TM := .mk 206 br3 256 br0 ([] ++ []) none br2 256 br1
def dgU : List AV := [.sym .i64 (.v 1) []]
def dgI : List HO := []
def dgO : List HO := []
def dgR : TR := .ret (.sym .i64 xj [])
def dgF : TM := .mk 206 dgU 256 dgI (ayb ++ []) none dgR 256 dgO
def smU : List AV := [.sym .i64 (.v 1) []]
def smI : List HO := []
def smO : List HO := []
def smR : TR := .ret (.sym .i64 aks [])
def smF : TM := .mk 193 smU 256 smI ([] ++ []) none smR 256 smO
def bfz : List AV := [.sym .i64 (.v 1) []]
def bfx : List HO := []
def bla : List HO := []
def blb : TR := .ret (.bool true)
def bk9 : TM := .mk 207 bfz 256 bfx ([] ++ bdj) none blb 256 bla
def bk7 : List HO := []
def bk8 : TR := .ret (.bool false)
def bk6 : TM := .mk 207 bfz 256 bfx ([] ++ bdk) none bk8 256 bk7
def boo : List AV := [.ptr (K.of 256) 0, .sym .i64 (.v 3) [], .top, .top, .top, .sym .i64 (.v 5) [], .sym .i64 (.v 6) []] ++ tps 50
def bol : List HO := [rdO 256 258 259 257 (.v 1) (.v 2), rwO 257]
def bom : List HO := [rdO 256 258 259 257 (.app 80 ap9) (.v 2), rwO 257]
def bon : LR := (.x 0 ([.ptr (K.of 256) 0, .sym .i64 (.v 3) [], .top, .top, .top, .sym .i64 akt [], .sym .i64 aku []] ++ tps 50))
def cdl (m : SE) : LT := .mk 192 5 boo 260 bol ((pI ++ yq) ++ []) (some (mLn, m)) bon 260 bom
def bzy : LT := .mk 192 5 boo 260 bol ((pI ++ yq) ++ []) none bon 260 bom
def be0 : List AV := [.ptr (K.of 256) 0, .sym .i64 (.v 3) []]
def bex : List HO := [rdO 256 258 259 257 (.v 1) (.v 2), rwO 257]
def bj7 : List HO := [rdO 256 258 259 257 (.app 86 u7) (.v 2), rwO 257]
def bj8 : TR := .ret (.sym .i64 a1u [])
def bj6 : TM := .mk 192 be0 260 bex (pI ++ a1w) none bj8 262 bj7
def bka : List HO := []
def bkb : TR := .pan [.mk (.iface 46 (.agg [.int .i64 5, .sym .i64 acs []])) false]
def bj9 : TM := .mk 192 be0 260 bex (pI ++ a1x) none bkb 262 bka
def bfg : List AV := [.ptr (K.of 256) 0]
def bfd : List HO := [rdO 256 258 259 257 (.v 1) (.v 2), rwO 257]
def bke : List HO := [rdO 256 258 259 257 (.app 90 jr) (.v 2), rwO 257]
def bkf : TR := .ret (.sym .i64 yr [])
def bkd : TM := .mk 177 bfg 260 bfd (pI ++ a1z) none bkf 262 bke
def bkh : List HO := []
def bki : TR := .pan [.mk (.iface 46 (.agg [.int .i64 5, .sym .i64 ago []])) false]
def bkg : TM := .mk 177 bfg 260 bfd (pI ++ a16) none bki 262 bkh
end
theorem f78 {σ : Nat → List Int} (a : SE) : -1 ≤ (SE.app 78 (.i a .nil)).eval σ ∧ (SE.app 78 (.i a .nil)).eval σ ≤ 15 := by
 show -1 ≤ aik (a.eval σ) ∧ aik (a.eval σ) ≤ 15
 rw [rc]; repeat' split
 all_goals omega
theorem f79 {σ : Nat → List Int} (a : SE) : 0 ≤ (SE.app 79 (.i a .nil)).eval σ ∧ (SE.app 79 (.i a .nil)).eval σ ≤ 1 := by
 show 0 ≤ qf (a.eval σ) ∧ qf (a.eval σ) ≤ 1
 rw [lr]; split
 all_goals omega
theorem f77 {σ : Nat → List Int} (a : SE) : -1 ≤ (SE.app 77 (.i a .nil)).eval σ ∧ (SE.app 77 (.i a .nil)).eval σ ≤ 27 := by
 show -1 ≤ acb (a.eval σ) ∧ acb (a.eval σ) ≤ 27
 rw [abl]; repeat' split
 all_goals omega
theorem awb (R : List Int) : ∀ (n : Nat) (p c m : Int), ((R.length : Int) - p).toNat ≤ n → p ≤ (R.length : Int) → m ≤ 6 → p ≤ (mp R p c m).p ∧ (mp R p c m).p ≤ (R.length : Int) ∧ m ≤ (mp R p c m).a ∧ (mp R p c m).a ≤ 6
 | 0, p, c, m, h, hp, hm => by
   rw [xu, if_neg (by omega)]; dsimp only; omega
 | n + 1, p, c, m, h, hp, hm => by
   rw [xu]
   split
   ·split
    ·dsimp only; omega
    ·have := awb R n (p + 1) (jn 9 .i64 (jn 11 .i64 c 4) (aik (R.getD p.toNat 0))) (m + 1) (by omega) (by omega) (by omega)
     omega
   ·dsimp only; omega
theorem a79 (R : List Int) (p a : Int) (hp : p ≤ (R.length : Int)) : ((ul R p a).f = 0 ∨ (ul R p a).f = 5) ∧ ((ul R p a).f = 0 → p < (ul R p a).p ∧ (ul R p a).p ≤ (R.length : Int) ∧ 0 ≤ (ul R p a).c ∧ (ul R p a).c < 1114112) := by
 have h := awb R _ p 0 0 (zY _) hp (by omega)
 rw [xr]
 split
 ·split
  ·exact ⟨.inr rfl, fun h => absurd h (show ¬ (5 : Int) = 0 by decide)⟩
  ·rename_i h1 h2
   have h3 : qf (mp R p 0 0).c = 1 := by
    have : ¬ qf (mp R p 0 0).c = 0 := fun h => h2 (.inr (.inr h))
    rw [lr] at this ⊢
    split
    ·rfl
    ·rename_i h4; rw [if_neg h4] at this; exact absurd rfl this
   rw [lr] at h3
   split at h3
   ·exact ⟨.inl rfl, fun _ => by dsimp only; omega⟩
   ·exact absurd h3 (by decide)
 ·exact ⟨.inr rfl, fun h => absurd h (show ¬ (5 : Int) = 0 by decide)⟩
theorem a8t {R : List Int} (hR : ou R) (p : Int) (hp : p ≤ (R.length : Int)) : ((jc R p).f = 0 ∨ (jc R p).f = 5) ∧ ((jc R p).f = 0 → p < (jc R p).p ∧ (jc R p).p ≤ (R.length : Int) ∧ -1 ≤ (jc R p).c ∧ (jc R p).c < 1114112) := by
 have hr := bva hR p.toNat
 rw [ov]
 split
 ·split
  ·exact ⟨.inl rfl, fun _ => by dsimp only; omega⟩
  ·split
   ·exact ⟨.inl rfl, fun _ => by dsimp only; omega⟩
   ·split
    ·obtain ⟨a, b⟩ := a79 R (p + 1) (p - 1) (by omega)
     exact ⟨a, fun h => by have := b h; omega⟩
    ·split
     ·exact ⟨.inr rfl, fun h => absurd h (show ¬ (5 : Int) = 0 by decide)⟩
     ·have := f77 (σ := fun _ => [R.getD p.toNat 0]) (.v 0)
      have : -1 ≤ acb (R.getD p.toNat 0) ∧ acb (R.getD p.toNat 0) ≤ 27 := this
      exact ⟨.inl rfl, fun _ => by dsimp only; omega⟩
 ·exact ⟨.inr rfl, fun h => absurd h (show ¬ (5 : Int) = 0 by decide)⟩
section
variable {σ : Nat → List Int}
theorem f80 (hR : ou (σ 0)) (a b c : SE) : a.eval σ ≤ (SE.len (.s 0)).eval σ → c.eval σ ≤ 6 → a.eval σ ≤ (SE.app 80 (.g (.s 0) (.i a (.i b (.i c .nil))))).eval σ ∧ (SE.app 80 (.g (.s 0) (.i a (.i b (.i c .nil))))).eval σ ≤ (SE.len (.s 0)).eval σ ∧ c.eval σ ≤ (SE.app 82 (.g (.s 0) (.i a (.i b (.i c .nil))))).eval σ ∧ (SE.app 82 (.g (.s 0) (.i a (.i b (.i c .nil))))).eval σ ≤ 6 := fun h h' => awb _ _ _ _ _ (zY _) h h'
theorem f83 (hR : ou (σ 0)) (a b : SE) : a.eval σ ≤ (SE.len (.s 0)).eval σ → ((SE.app 83 (.g (.s 0) (.i a (.i b .nil)))).eval σ = 0 ∨ (SE.app 83 (.g (.s 0) (.i a (.i b .nil)))).eval σ = 5) ∧ ((SE.app 83 (.g (.s 0) (.i a (.i b .nil)))).eval σ = 0 → a.eval σ < (SE.app 86 (.g (.s 0) (.i a (.i b .nil)))).eval σ ∧ (SE.app 86 (.g (.s 0) (.i a (.i b .nil)))).eval σ ≤ (SE.len (.s 0)).eval σ ∧ 0 ≤ (SE.app 85 (.g (.s 0) (.i a (.i b .nil)))).eval σ ∧ (SE.app 85 (.g (.s 0) (.i a (.i b .nil)))).eval σ < 1114112) := fun h => a79 _ _ _ h
theorem f87 (hR : ou (σ 0)) (a : SE) : a.eval σ ≤ (SE.len (.s 0)).eval σ → ((SE.app 87 (.g (.s 0) (.i a .nil))).eval σ = 0 ∨ (SE.app 87 (.g (.s 0) (.i a .nil))).eval σ = 5) ∧ ((SE.app 87 (.g (.s 0) (.i a .nil))).eval σ = 0 → a.eval σ < (SE.app 90 (.g (.s 0) (.i a .nil))).eval σ ∧ (SE.app 90 (.g (.s 0) (.i a .nil))).eval σ ≤ (SE.len (.s 0)).eval σ ∧ -1 ≤ (SE.app 89 (.g (.s 0) (.i a .nil))).eval σ ∧ (SE.app 89 (.g (.s 0) (.i a .nil))).eval σ < 1114112) := fun h => a8t hR _ h
end
theorem brx {σ : Nat → List Int} (h : SAll σ ayb) : 0 ≤ (σ 1).headD 0 ∧ (σ 1).headD 0 < 1114112 := bcy h
def bz3 [Gv] : Prop := (SAll Gv.σ [] → bz 206 br3 256 br0 br2 256 br1)
theorem bsj [Gv] (hI : SAll Gv.σ []) : bz3 := by
 have u := trivial
 exact zm0 [] aa af hI
theorem bov [Gv] : ax brz := fun σ _ hA _ => (@bsj ⟨σ⟩  (ai hA).1) (ai hA).2
def dgG [Gv] : Prop := (SAll Gv.σ [] → bz 206 dgU 256 dgI dgR 256 dgO)
theorem bz7 [Gv] (hI : SAll Gv.σ ayb) : dgG := by
 have hw := brx hI
 rcases zl1 hI (.v 1) (.c 48) with ⟨hI, k1⟩ | ⟨hI, k1⟩
 ·have hI := zT1 hI (.v 1) (.c 97)
  have hI := zT1 hI (.v 1) (.c 65)
  have := zf1 (f78 (σ := Gv.σ) (.v 1))
  have u := zf7 (rc ((Gv.σ 1).headD 0))
  exact zm [] (.i (.c (-1)) xj .nil) aa af hI ze1
 ·rcases zl1 hI (.c 57) (.v 1) with ⟨hI, k2⟩ | ⟨hI, k2⟩
  ·rcases zl1 hI (.v 1) (.c 97) with ⟨hI, k3⟩ | ⟨hI, k3⟩
   ·rcases zl1 hI (.v 1) (.c 65) with ⟨hI, k4⟩ | ⟨hI, k4⟩
    ·have := zf1 (f78 (σ := Gv.σ) (.v 1))
     have u := zf7 (rc ((Gv.σ 1).headD 0))
     exact zm [] (.i (.c (-1)) xj .nil) aa af hI ze1
    ·rcases zl1 hI (.c 70) (.v 1) with ⟨hI, k5⟩ | ⟨hI, k5⟩
     ·have := zf1 (f78 (σ := Gv.σ) (.v 1))
      have u := zf7 (rc ((Gv.σ 1).headD 0))
      exact zm [] (.i (.c (-1)) xj .nil) aa af hI ze1
     ·have := zf1 (f78 (σ := Gv.σ) (.v 1))
      have u := zf7 (rc ((Gv.σ 1).headD 0))
      exact zm [] (.i (.bin 0 .i64 (.bin 1 .i64 (.v 1) (.c 65)) (.c 10)) xj .nil) aa af hI ze1
   ·rcases zl1 hI (.c 102) (.v 1) with ⟨hI, k4⟩ | ⟨hI, k4⟩
    ·have hI := zF1 hI (.v 1) (.c 65)
     have hI := zT1 hI (.c 70) (.v 1)
     have := zf1 (f78 (σ := Gv.σ) (.v 1))
     have u := zf7 (rc ((Gv.σ 1).headD 0))
     exact zm [] (.i (.c (-1)) xj .nil) aa af hI ze1
    ·have := zf1 (f78 (σ := Gv.σ) (.v 1))
     have u := zf7 (rc ((Gv.σ 1).headD 0))
     exact zm [] (.i (.bin 0 .i64 (.bin 1 .i64 (.v 1) (.c 97)) (.c 10)) xj .nil) aa af hI ze1
  ·have := zf1 (f78 (σ := Gv.σ) (.v 1))
   have u := zf7 (rc ((Gv.σ 1).headD 0))
   exact zm [] (.i (.bin 1 .i64 (.v 1) (.c 48)) xj .nil) aa af hI ze1
theorem bry [Gv] : ax dgF := fun σ _ hA _ => (@bz7 ⟨σ⟩  (ai hA).1) (ai hA).2
def smG [Gv] : Prop := (SAll Gv.σ [] → bz 193 smU 256 smI smR 256 smO)
theorem bz9 [Gv] (hI : SAll Gv.σ []) : smG := by
 rcases zq1 hI (.v 1) (.c 110) with ⟨hI, k1⟩ | ⟨hI, k1⟩
 ·have := zf1 (f77 (σ := Gv.σ) (.v 1))
  have u := zf7 (abl ((Gv.σ 1).headD 0))
  exact zm [] (.i (.c 10) aks .nil) aa af hI ze1
 ·rcases zq1 hI (.v 1) (.c 116) with ⟨hI, k2⟩ | ⟨hI, k2⟩
  ·have := zf1 (f77 (σ := Gv.σ) (.v 1))
   have u := zf7 (abl ((Gv.σ 1).headD 0))
   exact zm [] (.i (.c 9) aks .nil) aa af hI ze1
  ·rcases zq1 hI (.v 1) (.c 101) with ⟨hI, k3⟩ | ⟨hI, k3⟩
   ·have := zf1 (f77 (σ := Gv.σ) (.v 1))
    have u := zf7 (abl ((Gv.σ 1).headD 0))
    exact zm [] (.i (.c 27) aks .nil) aa af hI ze1
   ·have := zf1 (f77 (σ := Gv.σ) (.v 1))
    have u := zf7 (abl ((Gv.σ 1).headD 0))
    exact zm [] (.i (.c (-1)) aks .nil) aa af hI ze1
theorem bvy [Gv] : ax smF := fun σ _ hA _ => (@bz9 ⟨σ⟩  (ai hA).1) (ai hA).2
def b0j [Gv] : Prop := (SAll Gv.σ bdj → bz 207 bfz 256 bfx blb 256 bla) ∧ (SAll Gv.σ bdk → bz 207 bfz 256 bfx bk8 256 bk7)
theorem bkn [Gv] (hI : SAll Gv.σ []) : b0j := by
 rcases zl1 hI (.v 1) (.c 0) with ⟨hI, k1⟩ | ⟨hI, k1⟩
 ·have := zf1 (f79 (σ := Gv.σ) (.v 1))
  have u := zf7 (lr ((Gv.σ 1).headD 0))
  exact ⟨zn1,
   zm0 [] aa af hI⟩
 ·rcases zl1 hI (.c 1114111) (.v 1) with ⟨hI, k2⟩ | ⟨hI, k2⟩
  ·have := zf1 (f79 (σ := Gv.σ) (.v 1))
   have u := zf7 (lr ((Gv.σ 1).headD 0))
   exact ⟨zn1,
    zm0 [] aa af hI⟩
  ·rcases zl1 hI (.v 1) (.c 55296) with ⟨hI, k3⟩ | ⟨hI, k3⟩
   ·have := zf1 (f79 (σ := Gv.σ) (.v 1))
    have u := zf7 (lr ((Gv.σ 1).headD 0))
    exact ⟨zm0 [] aa af hI,
     zn1⟩
   ·rcases zl1 hI (.c 57343) (.v 1) with ⟨hI, k4⟩ | ⟨hI, k4⟩
    ·have := zf1 (f79 (σ := Gv.σ) (.v 1))
     have u := zf7 (lr ((Gv.σ 1).headD 0))
     exact ⟨zm0 [] aa af hI,
      zn1⟩
    ·have := zf1 (f79 (σ := Gv.σ) (.v 1))
     have u := zf7 (lr ((Gv.σ 1).headD 0))
     exact ⟨zn1,
      zm0 [] aa af hI⟩
theorem bfy [Gv] : ax bk9 := fun σ _ hA _ => (@bkn ⟨σ⟩  (ai hA).1).1 (ai hA).2
theorem bfw [Gv] : ax bk6 := fun σ _ hA _ => (@bkn ⟨σ⟩  (ai hA).1).2 (ai hA).2
theorem brt {σ : Nat → List Int} (h : SAll σ (pI ++ yq)) : (ou (σ 0) ∧ 0 ≤ (σ 1).headD 0 ∧ (σ 1).headD 0 ≤ ((σ 0).length : Int) ∧ (σ 0).length ≤ 4000) ∧ 0 ≤ (σ 6).headD 0 ∧ (σ 6).headD 0 ≤ 6 := by
 refine ⟨tw (ai h).1, ?_⟩
 have := (ai h).2
 simp only [sall_cons, sF, evs] at this
 exact ⟨this.1, this.2.1⟩
theorem dg2 [Gv] : ∀ t ∈ [brz, dgF], ax t := aph bov bry
def bok [Gv] : Prop := (SAll Gv.σ [] → bw 192 5 boo 260 bol bon 260 bom)
theorem bsi [Gv] (hh : ∀ t ∈ [cdl (mLn)], au t) (hI : SAll Gv.σ (pI ++ yq)) : bok := by
 obtain ⟨⟨hR, hp0, hpl, hL⟩, hn0, hn6⟩ := brt hI
 rcases zl1 hI (.v 6) (.c 6) with ⟨hI, k1⟩ | ⟨hI, k1⟩
 ·rcases zl1 hI u9 (.len (.s 0)) with ⟨hI, k2⟩ | ⟨hI, k2⟩
  ·have hI := zF1 hI u9 (.c 0)
   have := zf1 (adu hR u9)
   have hI := zF1 hI nu (.c 0)
   have hI := zT1 hI nu (.c 1114112)
   have := zf1 (f78 (σ := Gv.σ) nu)
   rcases zl1 hI a2a (.c 0) with ⟨hI, k6⟩ | ⟨hI, k6⟩
   ·have := zf1 (f80 hR (.v 1) (.v 5) (.v 6))
    have u := zf4 (xu (Gv.σ 0) ((Gv.σ 1).headD 0) ((Gv.σ 5).headD 0) ((Gv.σ 6).headD 0))
    exact zt [] (.i (.v 5) akt (.i (.v 6) aku (.i (.v 1) agp .nil))) (zh hI dg2) (zp hI hh) hI ze1
   ·have hI := zF1 hI gi (.c 0)
    have hI := zF1 hI (.len (.s 0)) gi
    have hI := zF1 hI agq (.c 0)
    have hI := zF1 hI (.c 6) agq
    have hI := zT1 hI a2b biq
    have hI := zF1 hI a2b (.c 0)
    have := zf1 (f80 hR gi a2c agq)
    have := zf1 (f80 hR (.v 1) (.v 5) (.v 6))
    have u := zf4 (xu (Gv.σ 0) ((Gv.σ 1).headD 0) ((Gv.σ 5).headD 0) ((Gv.σ 6).headD 0))
    exact zt [] (.i (.app 81 ap5) akt (.i (.app 82 ap5) aku (.i (.app 80 ap5) agp .nil))) (zh hI dg2) (zp hI hh) hI ze1
  ·have := zf1 (f80 hR (.v 1) (.v 5) (.v 6))
   have u := zf4 (xu (Gv.σ 0) ((Gv.σ 1).headD 0) ((Gv.σ 5).headD 0) ((Gv.σ 6).headD 0))
   exact zt [] (.i (.v 5) akt (.i (.v 6) aku (.i (.v 1) agp .nil))) (zh hI dg2) (zp hI hh) hI ze1
 ·have := zf1 (f80 hR (.v 1) (.v 5) (.v 6))
  have u := zf4 (xu (Gv.σ 0) ((Gv.σ 1).headD 0) ((Gv.σ 5).headD 0) ((Gv.σ 6).headD 0))
  exact zt [] (.i (.v 5) akt (.i (.v 6) aku (.i (.v 1) agp .nil))) (zh hI dg2) (zp hI hh) hI ze1
theorem aza : ∀ (B : Nat) (σ : Nat → List Int), SAll σ (pI ++ yq) → (mLn).eval σ < (B : Int) → @bok ⟨σ⟩
 | 0, σ, hI, hb => by obtain ⟨h1, h2, h3, h4⟩ := tw (ai hI).1; simp only [mLn, evs, wr] at hb; omega
 | B + 1, σ, hI, hb => by
   have ih : ∀ σ' : Nat → List Int, SAll σ' (pI ++ yq) → 0 ≤ (mLn).eval σ' ∧ (mLn).eval σ' < (mLn).eval σ → @bok ⟨σ'⟩ := fun σ' h h' => aza B σ' h (by omega)
   have hh : ∀ t ∈ [cdl (mLn)], @au ⟨σ⟩ t := by
    intro t ht
    simp only [List.mem_cons, zH, or_false] at ht
    rcases ht with rfl
    ·exact fun σ' _ hA hb => (ih σ' (ai hA).1 hb) (ai hA).2
   exact @bsi ⟨σ⟩ hh hI
theorem ah0 [Gv] : au bzy := fun σ _ hA _ => (aza (((mLn).eval σ).toNat + 1) σ (ai hA).1 (by omega)) (ai hA).2
theorem is2 [Gv] : ∀ t ∈ [bk9, bk6], ax t := aph bfy bfw
def bz1 [Gv] : Prop := (SAll Gv.σ a1w → bz 192 be0 260 bex bj8 262 bj7) ∧ (SAll Gv.σ a1x → bz 192 be0 260 bex bkb 262 bka)
theorem bkj [Gv] (hI : SAll Gv.σ pI) : bz1 := by
 obtain ⟨hR, hp0, hpl, hL⟩ := tw hI
 have := zf1 (f80 hR (.v 1) (.c 0) (.c 0))
 rcases zl1 hI agr (.len (.s 0)) with ⟨hI, k1⟩ | ⟨hI, k1⟩
 ·have hI := zF1 hI agr (.c 0)
  have := zf1 (adu hR agr)
  have hI := zF1 hI a2e (.c 0)
  rcases zq1 hI (.app 82 ap6) (.c 0) with ⟨hI, k4⟩ | ⟨hI, k4⟩
  ·have := zf1 (f83 hR (.v 1) (.v 3))
   have u := zf4 (xr (Gv.σ 0) ((Gv.σ 1).headD 0) ((Gv.σ 3).headD 0))
   exact ⟨zn1,
    zm [] (.i (.v 3) acs .nil) (zh hI is2) (zp hI (ed ah0)) hI ze1⟩
  ·rcases zq1 hI a2e (.c 92) with ⟨hI, k5⟩ | ⟨hI, k5⟩
   ·have := zf1 (f79 (σ := Gv.σ) ap7)
    rcases zq1 hI (.app 79 (.i ap7 .nil)) (.c 1) with ⟨hI, k6⟩ | ⟨hI, k6⟩
    ·have := zf1 (f83 hR (.v 1) (.v 3))
     have u := zf4 (xr (Gv.σ 0) ((Gv.σ 1).headD 0) ((Gv.σ 3).headD 0))
     exact ⟨zm [] (.i ap7 a1u (.i (.bin 0 .i64 a2d (.c 1)) (.app 86 u7) .nil)) (zh hI is2) (zp hI (ed ah0)) hI ze1,
      zn1⟩
    ·have := zf1 (f83 hR (.v 1) (.v 3))
     have u := zf4 (xr (Gv.σ 0) ((Gv.σ 1).headD 0) ((Gv.σ 3).headD 0))
     exact ⟨zn1,
      zm [] (.i (.v 3) acs .nil) (zh hI is2) (zp hI (ed ah0)) hI ze1⟩
   ·have := zf1 (f83 hR (.v 1) (.v 3))
    have u := zf4 (xr (Gv.σ 0) ((Gv.σ 1).headD 0) ((Gv.σ 3).headD 0))
    exact ⟨zn1,
     zm [] (.i (.v 3) acs .nil) (zh hI is2) (zp hI (ed ah0)) hI ze1⟩
 ·have := zf1 (f83 hR (.v 1) (.v 3))
  have u := zf4 (xr (Gv.σ 0) ((Gv.σ 1).headD 0) ((Gv.σ 3).headD 0))
  exact ⟨zn1,
   zm [] (.i (.len (.s 0)) acs .nil) (zh hI is2) (zp hI (ed ah0)) hI ze1⟩
theorem bey [Gv] : ax bj6 := fun σ _ hA _ => (@bkj ⟨σ⟩  (ai hA).1).1 (ai hA).2
theorem bez [Gv] : ax bj9 := fun σ _ hA _ => (@bkj ⟨σ⟩  (ai hA).1).2 (ai hA).2
theorem es3 [Gv] : ∀ t ∈ [smF, bj6, bj9], ax t := by
 intro t ht
 simp only [List.mem_cons, zH, or_false] at ht
 rcases ht with rfl | rfl | rfl
 ·exact bvy
 ·exact bey
 ·exact bez
def bz5 [Gv] : Prop := (SAll Gv.σ a1z → bz 177 bfg 260 bfd bkf 262 bke) ∧ (SAll Gv.σ a16 → bz 177 bfg 260 bfd bki 262 bkh)
theorem bkk [Gv] (hI : SAll Gv.σ pI) : bz5 := by
 obtain ⟨hR, hp0, hpl, hL⟩ := tw hI
 rcases zl1 hI u9 (.len (.s 0)) with ⟨hI, k1⟩ | ⟨hI, k1⟩
 ·have hI := zF1 hI u9 (.c 0)
  have := zf1 (adu hR u9)
  have hI := zF1 hI nu (.c 0)
  rcases zq1 hI nu (.c 10) with ⟨hI, k4⟩ | ⟨hI, k4⟩
  ·have := zf1 (f87 hR (.v 1))
   have u := zf4 (ov (Gv.σ 0) ((Gv.σ 1).headD 0))
   exact ⟨zm [] (.i (.c (-1)) yr (.i gi act .nil)) (zh hI es3) af hI ze1,
    zn1⟩
  ·rcases zq1 hI nu (.c 92) with ⟨hI, k5⟩ | ⟨hI, k5⟩
   ·have := zf1 (f87 hR (.v 1))
    have u := zf4 (ov (Gv.σ 0) ((Gv.σ 1).headD 0))
    exact ⟨zm [] (.i (.c 92) yr (.i gi act .nil)) (zh hI es3) af hI ze1,
     zn1⟩
   ·rcases zq1 hI nu (.c 34) with ⟨hI, k6⟩ | ⟨hI, k6⟩
    ·have := zf1 (f87 hR (.v 1))
     have u := zf4 (ov (Gv.σ 0) ((Gv.σ 1).headD 0))
     exact ⟨zm [] (.i (.c 34) yr (.i gi act .nil)) (zh hI es3) af hI ze1,
      zn1⟩
    ·rcases zq1 hI nu (.c 120) with ⟨hI, k7⟩ | ⟨hI, k7⟩
     ·have hI := zF1 hI gi (.c 0)
      have hI := zF1 hI (.len (.s 0)) gi
      have := zf1 (f83 hR gi ap8)
      rcases zq1 hI (.app 83 ags) (.c 0) with ⟨hI, k10⟩ | ⟨hI, k10⟩
      ·have := zf1 (f87 hR (.v 1))
       have u := zf4 (ov (Gv.σ 0) ((Gv.σ 1).headD 0))
       exact ⟨zm [] (.i (.app 85 ags) yr (.i (.app 86 ags) act .nil)) (zh hI es3) af hI ze1,
        zn1⟩
      ·have := zf1 (f87 hR (.v 1))
       have u := zf4 (ov (Gv.σ 0) ((Gv.σ 1).headD 0))
       exact ⟨zn1,
        zm [] (.i (.app 84 ags) ago .nil) (zh hI es3) af hI ze1⟩
     ·have := zf1 (f77 (σ := Gv.σ) nu)
      rcases zl1 hI a2f (.c 0) with ⟨hI, k8⟩ | ⟨hI, k8⟩
      ·have := zf1 (f87 hR (.v 1))
       have u := zf4 (ov (Gv.σ 0) ((Gv.σ 1).headD 0))
       exact ⟨zn1,
        zm [] (.i ap8 ago .nil) (zh hI es3) af hI ze1⟩
      ·have := zf1 (f87 hR (.v 1))
       have u := zf4 (ov (Gv.σ 0) ((Gv.σ 1).headD 0))
       exact ⟨zm [] (.i a2f yr (.i gi act .nil)) (zh hI es3) af hI ze1,
        zn1⟩
 ·have := zf1 (f87 hR (.v 1))
  have u := zf4 (ov (Gv.σ 0) ((Gv.σ 1).headD 0))
  exact ⟨zn1,
   zm [] (.i (.len (.s 0)) ago .nil) (zh hI es3) af hI ze1⟩
theorem bfe [Gv] : ax bkd := fun σ _ hA _ => (@bkk ⟨σ⟩  (ai hA).1).1 (ai hA).2
theorem bff [Gv] : ax bkg := fun σ _ hA _ => (@bkk ⟨σ⟩  (ai hA).1).2 (ai hA).2
end Go.Ev
