import Derived.Test.YtkfdioikigponaaGreatDoorRaN
set_option maxRecDepth 100000
set_option linter.all false
namespace Go.Ev
abbrev aq8 : AL := .i (.v 1) .nil
abbrev acs : SE := .app 78 aq8
abbrev a50 : List SA := [.mk true (.v 1) (.c 0) false, .mk true (.v 1) (.c 1114112) true]
abbrev ao6 : SE := .app 77 aq8
abbrev bmf : List SA := [.mk false (.app 79 aq8) (.c 1) true]
abbrev bke : List SA := [.mk false (.app 79 aq8) (.c 1) false]
abbrev awp : AL := .g (.s 0) (.i (.v 1) (.i (.v 5) (.i (.v 6) .nil)))
abbrev ap0 : SE := .app 81 awp
abbrev ao3 : SE := .app 82 awp
abbrev adu : List SA := [.mk true (.v 6) (.c 0) false, .mk true (.c 6) (.v 6) false]
abbrev w7 : AL := .g (.s 0) (.i (.v 1) (.i (.v 3) .nil))
abbrev bed : SE := .app 85 w7
abbrev bd8 : SE := .app 83 w7
abbrev ba0 : List SA := [.mk false bd8 (.c 0) true]
abbrev ahz : SE := .app 84 w7
abbrev a9y : List SA := [.mk false bd8 (.c 0) false]
abbrev j8 : AL := .g (.s 0) aq8
abbrev ac3 : SE := .app 89 j8
abbrev a9l : SE := .app 87 j8
abbrev a9g : List SA := [.mk false a9l (.c 0) true]
abbrev ans : SE := .app 88 j8
abbrev bcv : List SA := [.mk false a9l (.c 0) false]
abbrev qf : SE := .app 94 j8
abbrev wv : SE := .app 100 j8
abbrev bas : SE := .app 97 j8
abbrev bc4 : List SA := [.mk false bas (.c 0) true]
abbrev ahs : SE := .app 98 j8
abbrev bch : List SA := [.mk false bas (.c 0) false]
abbrev awj : SE := .app 96 w7
abbrev ld : SE := .app 104 j8
abbrev amz : List SA := [.mk true (.v 1) (.len (.s 0)) true]
abbrev a7v : SE := .app 102 j8
abbrev bak : List SA := [.mk false a7v (.c 0) true]
abbrev ay3 : SE := .app 103 j8
abbrev bbg : List SA := [.mk false a7v (.c 0) false]
abbrev ni : SE := .bin 0 .i64 (.v 1) (.c 0)
abbrev mo : SE := .rd (.s 0) ni
abbrev bbv : AL := .i mo .nil
abbrev bdt : SE := .app 78 bbv
abbrev anu : SE := .app 80 awp
abbrev ev : SE := .bin 0 .i64 (.v 1) (.c 1)
abbrev alp : SE := .bin 0 .i64 (.v 6) (.c 1)
abbrev a8v : SE := .bin 6 .i64 (.len (.s 0)) (.bin 7 .i64 (.c (-1)) ev)
abbrev a8a : SE := .bin 6 .i64 (.len (.s 0)) (.bin 7 .i64 (.c (-1)) (.v 1))
abbrev bb4 : SE := .bin 9 .i64 (.bin 11 .i64 (.v 5) (.c 4)) bdt
abbrev az0 : AL := .g (.s 0) (.i ev (.i bb4 (.i alp .nil)))
abbrev ayw : AL := .g (.s 0) (.i (.v 1) (.i (.c 0) (.i (.c 0) .nil)))
abbrev bcd : SE := .app 80 ayw
abbrev ani : SE := .bin 0 .i64 bcd (.c 0)
abbrev bae : SE := .rd (.s 0) ani
abbrev av7 : SE := .app 81 ayw
abbrev ahy : SE := .app 90 j8
abbrev awn : SE := .bin 1 .i64 (.v 1) (.c 1)
abbrev ant : AL := .g (.s 0) (.i ev (.i awn .nil))
abbrev baj : SE := .app 77 bbv
abbrev al5 : SE := .bin 0 .i64 (.v 1) (.c 2)
abbrev ax9 : SE := .rd (.s 0) ev
abbrev amj : SE := .bin 0 .i64 ev (.c 0)
abbrev mj : SE := .rd (.s 0) amj
abbrev bbm : SE := .app 77 (.i mj .nil)
abbrev aef : SE := .bin 0 .i64 ev (.c 1)
abbrev aba : SE := .app 101 j8
abbrev a79 : SE := .app 95 w7
abbrev agx : SE := .bin 0 .i64 (.v 1) (.c 3)
abbrev ba7 : SE := .bin 6 .i64 (.len (.s 0)) (.bin 7 .i64 (.c (-1)) agx)
abbrev a8g : SE := .bin 9 .i64 (.v 3) qf
abbrev bdx : AL := .g (.s 0) (.i agx (.i a8g .nil))
abbrev a8r : AL := .g (.s 0) (.i ev (.i (.c 0) .nil))
abbrev amh : SE := .app 95 a8r
abbrev amc : AL := .g (.s 0) (.i amh .nil)
abbrev j6 : SE := .app 101 amc
abbrev amx : SE := .bin 0 .i64 j6 (.c 0)
abbrev bcg : SE := .rd (.s 0) amx
abbrev axp : SE := .app 96 a8r
abbrev a9q : SE := .bin 8 .i64 axp (.c 67108864)
abbrev gx : SE := .app 100 amc
abbrev wm : SE := .bin 9 .i64 gx axp
abbrev md : SE := .app 105 j8
abbrev a7z : SE := .bin 13 .i64 axp (.c 67108864)
abbrev a8h : SE := .bin 9 .i64 (.c 127) a7z
abbrev anw : SE := .bin 9 .i64 (.bin 4 .i64 gx (.c 32)) a7z
noncomputable section
def cai : List AV := [.int .i64 (-1)]
def b6r : List HO := []
def b9r : List HO := []
def b5p : TR := .ret (.int .i64 (-1))
def b9z : TM := .mk 104 cai 256 b6r ([] ++ []) none b5p 256 b9r
def dgU : List AV := [.sym .i64 (.v 1) []]
def dgI : List HO := []
def dgO : List HO := []
def dgR : TR := .ret (.sym .i64 acs [])
def dgF : TM := .mk 104 dgU 256 dgI (a50 ++ []) none dgR 256 dgO
def smU : List AV := [.sym .i64 (.v 1) []]
def smI : List HO := []
def smO : List HO := []
def smR : TR := .ret (.sym .i64 ao6 [])
def smF : TM := .mk 95 smU 256 smI ([] ++ []) none smR 256 smO
def b8w : List AV := [.int .i64 100]
def b5l : List HO := []
def b7o : List HO := []
def b7m : TR := .ret (.int .i64 (-1))
def b5y : TM := .mk 95 b8w 256 b5l ([] ++ []) none b7m 256 b7o
def b88 : List AV := [.int .i64 115]
def b4w : List HO := []
def b9c : List HO := []
def b8o : TR := .ret (.int .i64 (-1))
def b82 : TM := .mk 95 b88 256 b4w ([] ++ []) none b8o 256 b9c
def bsc : List AV := [.sym .i64 (.v 1) []]
def brn : List HO := []
def bu8 : List HO := []
def bzg : TR := .ret (.bool true)
def bye : TM := .mk 105 bsc 256 brn ([] ++ bmf) none bzg 256 bu8
def bvw : List HO := []
def bvv : TR := .ret (.bool false)
def bxw : TM := .mk 105 bsc 256 brn ([] ++ bke) none bvv 256 bvw
def b4q : List AV := [.ptr (K.of 256) 0, .sym .i64 (.v 3) [], .top, .top, .top, .sym .i64 (.v 5) [], .sym .i64 (.v 6) []] ++ tps 50
def b0i : List HO := [rdO 256 258 259 257 (.v 1) (.v 2), rwO 257]
def b4f : List HO := [rdO 256 258 259 257 (.app 80 awp) (.v 2), rwO 257]
def b1d : LR := (.x 0 ([.ptr (K.of 256) 0, .sym .i64 (.v 3) [], .top, .top, .top, .sym .i64 ap0 [], .sym .i64 ao3 []] ++ tps 50))
def cdl (m : SE) : LT := .mk 94 5 b4q 260 b0i ((pI ++ adu) ++ []) (some (mLn, m)) b1d 260 b4f
def cbg : LT := .mk 94 5 b4q 260 b0i ((pI ++ adu) ++ []) none b1d 260 b4f
def bor : List AV := [.ptr (K.of 256) 0, .sym .i64 (.v 3) []]
def bro : List HO := [rdO 256 258 259 257 (.v 1) (.v 2), rwO 257]
def bv4 : List HO := [rdO 256 258 259 257 (.app 86 w7) (.v 2), rwO 257]
def bw8 : TR := .ret (.sym .i64 bed [])
def bu5 : TM := .mk 94 bor 260 bro (pI ++ ba0) none bw8 262 bv4
def bzl : List HO := []
def bzz : TR := .pan [.mk (.iface 34 (.agg [.int .i64 5, .sym .i64 ahz []])) false]
def bvd : TM := .mk 94 bor 260 bro (pI ++ a9y) none bzz 262 bzl
def bp6 : List AV := [.ptr (K.of 256) 0]
def bqt : List HO := [rdO 256 258 259 257 (.v 1) (.v 2), rwO 257]
def bx0 : List HO := [rdO 256 258 259 257 (.app 90 j8) (.v 2), rwO 257]
def bt0 : TR := .ret (.sym .i64 ac3 [])
def buw : TM := .mk 81 bp6 260 bqt (pI ++ a9g) none bt0 262 bx0
def bxg : List HO := []
def bws : TR := .pan [.mk (.iface 34 (.agg [.int .i64 5, .sym .i64 ans []])) false]
def bzy : TM := .mk 81 bp6 260 bqt (pI ++ bcv) none bws 262 bxg
def mdU : List AV := [.ptr (K.of 256) 0]
def mdI : List HO := [rdO 256 258 259 257 (.v 1) (.v 2), rwO 257]
def mdO : List HO := [rdO 256 258 259 257 (.v 1) (.v 2), rwO 257]
def mdR : TR := .ret (.sym .i64 qf [])
def mdF : TM := .mk 82 mdU 260 mdI (pI ++ []) none mdR 260 mdO
def btm : List AV := [.ptr (K.of 256) 0]
def bpg : List HO := [rdO 256 258 259 257 (.v 1) (.v 2), rwO 257]
def bwn : List HO := [rdO 256 258 259 257 (.app 101 j8) (.v 2), rwO 257]
def bxi : TR := .ret (.sym .i64 wv [])
def bwk : TM := .mk 83 btm 260 bpg (pI ++ bc4) none bxi 262 bwn
def bzq : List HO := []
def bud : TR := .pan [.mk (.iface 34 (.agg [.int .i64 5, .sym .i64 ahs []])) false]
def bvz : TM := .mk 83 btm 260 bpg (pI ++ bch) none bud 262 bzq
def b00 : List AV := [.ptr (K.of 256) 0, .top, .ptr (K.of 260) 0, .sym .i64 (.v 3) []] ++ tps 63
def b1v : List HO := [rdO 256 258 259 257 (.v 1) (.v 2), rwO 257]
def b39 : List HO := [rdO 256 258 259 257 (.app 95 w7) (.v 2), rwO 257]
def b2r : LR := (.x 0 ([.ptr (K.of 256) 0, .top, .ptr (K.of 260) 0, .sym .i64 awj []] ++ tps 63))
def mol (m : SE) : LT := .mk 61 4 b00 261 b1v (pI ++ []) (some (mLn, m)) b2r 261 b39
def ccx : LT := .mk 61 4 b00 261 b1v (pI ++ []) none b2r 261 b39
def bqb : List AV := [.ptr (K.of 256) 0]
def bok : List HO := [rdO 256 258 259 257 (.v 1) (.v 2), rwO 257]
def bv5 : List HO := [rdO 256 258 259 257 (.app 105 j8) (.v 2), rwO 257]
def by8 : TR := .ret (.agg [.int .i64 0, .sym .i64 ld []])
def a1a : TM := .mk 61 bqb 260 bok ((pI ++ amz) ++ bak) none by8 266 bv5
def bv7 : List HO := []
def bzs : TR := .pan [.mk (.iface 34 (.agg [.int .i64 5, .sym .i64 ay3 []])) false]
def a1g : TM := .mk 61 bqb 260 bok ((pI ++ amz) ++ bbg) none bzs 266 bv7
end
theorem f78 {σ : Nat → List Int} (a : SE) : -1 ≤ (SE.app 78 (.i a .nil)).eval σ ∧ (SE.app 78 (.i a .nil)).eval σ ≤ 15 := by
 show -1 ≤ alg (a.eval σ) ∧ alg (a.eval σ) ≤ 15
 rw [w9]; repeat' split
 all_goals omega
theorem f79 {σ : Nat → List Int} (a : SE) : 0 ≤ (SE.app 79 (.i a .nil)).eval σ ∧ (SE.app 79 (.i a .nil)).eval σ ≤ 1 := by
 show 0 ≤ vf (a.eval σ) ∧ vf (a.eval σ) ≤ 1
 rw [pz]; split
 all_goals omega
theorem f77 {σ : Nat → List Int} (a : SE) : -1 ≤ (SE.app 77 (.i a .nil)).eval σ ∧ (SE.app 77 (.i a .nil)).eval σ ≤ 27 := by
 show -1 ≤ aa2 (a.eval σ) ∧ aa2 (a.eval σ) ≤ 27
 rw [ahw]; repeat' split
 all_goals omega
theorem aro (R : List Int) : ∀ (n : Nat) (p c m : Int), ((R.length : Int) - p).toNat ≤ n → p ≤ (R.length : Int) → m ≤ 6 → p ≤ (mp R p c m).p ∧ (mp R p c m).p ≤ (R.length : Int) ∧ m ≤ (mp R p c m).a ∧ (mp R p c m).a ≤ 6
 | 0, p, c, m, h, hp, hm => by
   rw [ny, if_neg (by omega)]; dsimp only; omega
 | n + 1, p, c, m, h, hp, hm => by
   rw [ny]
   split
   ·split
    ·dsimp only; omega
    ·have := aro R n (p + 1) (im 9 .i64 (im 11 .i64 c 4) (alg (R.getD p.toNat 0))) (m + 1) (by omega) (by omega) (by omega)
     omega
   ·dsimp only; omega
theorem bkv (R : List Int) (p a : Int) (hp : p ≤ (R.length : Int)) : ((vb R p a).f = 0 ∨ (vb R p a).f = 5) ∧ ((vb R p a).f = 0 → p < (vb R p a).p ∧ (vb R p a).p ≤ (R.length : Int) ∧ 0 ≤ (vb R p a).c ∧ (vb R p a).c < 1114112) := by
 have h := aro R _ p 0 0 (zY _) hp (by omega)
 rw [ue]
 split
 ·split
  ·exact ⟨.inr rfl, fun h => absurd h (show ¬ (5 : Int) = 0 by decide)⟩
  ·rename_i h1 h2
   have h3 : vf (mp R p 0 0).c = 1 := by
    have : ¬ vf (mp R p 0 0).c = 0 := fun h => h2 (.inr (.inr h))
    rw [pz] at this ⊢
    split
    ·rfl
    ·rename_i h4; rw [if_neg h4] at this; exact absurd rfl this
   rw [pz] at h3
   split at h3
   ·exact ⟨.inl rfl, fun _ => by dsimp only; omega⟩
   ·exact absurd h3 (by decide)
 ·exact ⟨.inr rfl, fun h => absurd h (show ¬ (5 : Int) = 0 by decide)⟩
theorem awy {R : List Int} (hR : gn R) (p : Int) (hp : p ≤ (R.length : Int)) : ((gr R p).f = 0 ∨ (gr R p).f = 5) ∧ ((gr R p).f = 0 → p < (gr R p).p ∧ (gr R p).p ≤ (R.length : Int) ∧ -1 ≤ (gr R p).c ∧ (gr R p).c < 1114112) := by
 have hr := bp9 hR p.toNat
 rw [nr]
 split
 ·split
  ·exact ⟨.inl rfl, fun _ => by dsimp only; omega⟩
  ·split
   ·exact ⟨.inl rfl, fun _ => by dsimp only; omega⟩
   ·split
    ·obtain ⟨a, b⟩ := bkv R (p + 1) (p - 1) (by omega)
     exact ⟨a, fun h => by have := b h; omega⟩
    ·split
     ·exact ⟨.inr rfl, fun h => absurd h (show ¬ (5 : Int) = 0 by decide)⟩
     ·have := f77 (σ := fun _ => [R.getD p.toNat 0]) (.v 0)
      have : -1 ≤ aa2 (R.getD p.toNat 0) ∧ aa2 (R.getD p.toNat 0) ≤ 27 := this
      exact ⟨.inl rfl, fun _ => by dsimp only; omega⟩
 ·exact ⟨.inr rfl, fun h => absurd h (show ¬ (5 : Int) = 0 by decide)⟩
theorem bnf (R : List Int) (p : Int) : ¬ xo R p = 0 → p + 3 ≤ (R.length : Int) := by
 intro h
 rw [mn] at h
 split at h
 ·rename_i h1
  have := h1.2
  rw [bp] at this
  split at this
  ·omega
  ·exact absurd this (by decide)
 ·exact absurd rfl h
theorem aof (R : List Int) : ∀ (n : Nat) (p b : Int), ((R.length : Int) - p).toNat ≤ n → p ≤ (R.length : Int) → p ≤ (j4 R p b).p ∧ (j4 R p b).p ≤ (R.length : Int)
 | 0, p, b, h, hp => by rw [tv, if_neg (by omega)]; dsimp only; omega
 | n + 1, p, b, h, hp => by
   rw [tv]
   split
   ·split
    ·dsimp only; omega
    ·rename_i h1
     have := bnf R p h1
     have := aof R n (p + 3) (im 9 .i64 b (xo R p)) (by omega) (by omega)
     omega
   ·dsimp only; omega
theorem a6w {R : List Int} (hR : gn R) (p : Int) : ((jl R p).f = 0 ∨ (jl R p).f = 5) ∧ ((jl R p).f = 0 → p < (jl R p).p ∧ (jl R p).p ≤ (R.length : Int) ∧ 0 ≤ (jl R p).c ∧ (jl R p).c < 1114112) := by
 have hr := bp9 hR p.toNat
 have hr1 := bp9 hR (p + 1).toNat
 have : -1 ≤ aa2 (R.getD (p + 1).toNat 0) ∧ aa2 (R.getD (p + 1).toNat 0) ≤ 27 := f77 (σ := fun _ => [R.getD (p + 1).toNat 0]) (.v 0)
 rw [j5]
 repeat' split
 all_goals dsimp only
 all_goals omega
section
variable {σ : Nat → List Int}
theorem f80 (hR : gn (σ 0)) (a b c : SE) : a.eval σ ≤ (SE.len (.s 0)).eval σ → c.eval σ ≤ 6 → a.eval σ ≤ (SE.app 80 (.g (.s 0) (.i a (.i b (.i c .nil))))).eval σ ∧ (SE.app 80 (.g (.s 0) (.i a (.i b (.i c .nil))))).eval σ ≤ (SE.len (.s 0)).eval σ ∧ c.eval σ ≤ (SE.app 82 (.g (.s 0) (.i a (.i b (.i c .nil))))).eval σ ∧ (SE.app 82 (.g (.s 0) (.i a (.i b (.i c .nil))))).eval σ ≤ 6 := fun h h' => aro _ _ _ _ _ (zY _) h h'
theorem f83 (hR : gn (σ 0)) (a b : SE) : a.eval σ ≤ (SE.len (.s 0)).eval σ → ((SE.app 83 (.g (.s 0) (.i a (.i b .nil)))).eval σ = 0 ∨ (SE.app 83 (.g (.s 0) (.i a (.i b .nil)))).eval σ = 5) ∧ ((SE.app 83 (.g (.s 0) (.i a (.i b .nil)))).eval σ = 0 → a.eval σ < (SE.app 86 (.g (.s 0) (.i a (.i b .nil)))).eval σ ∧ (SE.app 86 (.g (.s 0) (.i a (.i b .nil)))).eval σ ≤ (SE.len (.s 0)).eval σ ∧ 0 ≤ (SE.app 85 (.g (.s 0) (.i a (.i b .nil)))).eval σ ∧ (SE.app 85 (.g (.s 0) (.i a (.i b .nil)))).eval σ < 1114112) := fun h => bkv _ _ _ h
theorem f87 (hR : gn (σ 0)) (a : SE) : a.eval σ ≤ (SE.len (.s 0)).eval σ → ((SE.app 87 (.g (.s 0) (.i a .nil))).eval σ = 0 ∨ (SE.app 87 (.g (.s 0) (.i a .nil))).eval σ = 5) ∧ ((SE.app 87 (.g (.s 0) (.i a .nil))).eval σ = 0 → a.eval σ < (SE.app 90 (.g (.s 0) (.i a .nil))).eval σ ∧ (SE.app 90 (.g (.s 0) (.i a .nil))).eval σ ≤ (SE.len (.s 0)).eval σ ∧ -1 ≤ (SE.app 89 (.g (.s 0) (.i a .nil))).eval σ ∧ (SE.app 89 (.g (.s 0) (.i a .nil))).eval σ < 1114112) := fun h => awy hR _ h
theorem f94 (hR : gn (σ 0)) (a : SE) : ¬ (SE.app 94 (.g (.s 0) (.i a .nil))).eval σ = 0 → a.eval σ + 3 ≤ (SE.len (.s 0)).eval σ := bnf _ _
theorem f95 (hR : gn (σ 0)) (a b : SE) : a.eval σ ≤ (SE.len (.s 0)).eval σ → a.eval σ ≤ (SE.app 95 (.g (.s 0) (.i a (.i b .nil)))).eval σ ∧ (SE.app 95 (.g (.s 0) (.i a (.i b .nil)))).eval σ ≤ (SE.len (.s 0)).eval σ := fun h => aof _ _ _ _ (zY _) h
theorem f97 (hR : gn (σ 0)) (a : SE) : ((SE.app 97 (.g (.s 0) (.i a .nil))).eval σ = 0 ∨ (SE.app 97 (.g (.s 0) (.i a .nil))).eval σ = 5) ∧ ((SE.app 97 (.g (.s 0) (.i a .nil))).eval σ = 0 → a.eval σ < (SE.app 101 (.g (.s 0) (.i a .nil))).eval σ ∧ (SE.app 101 (.g (.s 0) (.i a .nil))).eval σ ≤ (SE.len (.s 0)).eval σ ∧ 0 ≤ (SE.app 100 (.g (.s 0) (.i a .nil))).eval σ ∧ (SE.app 100 (.g (.s 0) (.i a .nil))).eval σ < 1114112) := a6w hR _
end
theorem b5z {σ : Nat → List Int} (h : SAll σ a50) : 0 ≤ (σ 1).headD 0 ∧ (σ 1).headD 0 < 1114112 := bks h
def cas [Gv] : Prop := (SAll Gv.σ [] → ba 104 cai 256 b6r b5p 256 b9r)
theorem b9f [Gv] (hI : SAll Gv.σ []) : cas := by
 have u := trivial
 exact zm0 [] aa ag hI
theorem b0f [Gv] : am b9z := fun σ _ hA _ => (@b9f ⟨σ⟩  (aj hA).1) (aj hA).2
def dgG [Gv] : Prop := (SAll Gv.σ [] → ba 104 dgU 256 dgI dgR 256 dgO)
theorem cc8 [Gv] (hI : SAll Gv.σ a50) : dgG := by
 have hw := b5z hI
 rcases zl1 hI (.v 1) (.c 48) with ⟨hI, k1⟩ | ⟨hI, k1⟩
 ·have hI := zT1 hI (.v 1) (.c 97)
  have hI := zT1 hI (.v 1) (.c 65)
  have := zf1 (f78 (σ := Gv.σ) (.v 1))
  have u := zf7 (w9 ((Gv.σ 1).headD 0))
  exact zm [] (.i (.c (-1)) acs .nil) aa ag hI ze1
 ·rcases zl1 hI (.c 57) (.v 1) with ⟨hI, k2⟩ | ⟨hI, k2⟩
  ·rcases zl1 hI (.v 1) (.c 97) with ⟨hI, k3⟩ | ⟨hI, k3⟩
   ·rcases zl1 hI (.v 1) (.c 65) with ⟨hI, k4⟩ | ⟨hI, k4⟩
    ·have := zf1 (f78 (σ := Gv.σ) (.v 1))
     have u := zf7 (w9 ((Gv.σ 1).headD 0))
     exact zm [] (.i (.c (-1)) acs .nil) aa ag hI ze1
    ·rcases zl1 hI (.c 70) (.v 1) with ⟨hI, k5⟩ | ⟨hI, k5⟩
     ·have := zf1 (f78 (σ := Gv.σ) (.v 1))
      have u := zf7 (w9 ((Gv.σ 1).headD 0))
      exact zm [] (.i (.c (-1)) acs .nil) aa ag hI ze1
     ·have := zf1 (f78 (σ := Gv.σ) (.v 1))
      have u := zf7 (w9 ((Gv.σ 1).headD 0))
      exact zm [] (.i (.bin 0 .i64 (.bin 1 .i64 (.v 1) (.c 65)) (.c 10)) acs .nil) aa ag hI ze1
   ·rcases zl1 hI (.c 102) (.v 1) with ⟨hI, k4⟩ | ⟨hI, k4⟩
    ·have hI := zF1 hI (.v 1) (.c 65)
     have hI := zT1 hI (.c 70) (.v 1)
     have := zf1 (f78 (σ := Gv.σ) (.v 1))
     have u := zf7 (w9 ((Gv.σ 1).headD 0))
     exact zm [] (.i (.c (-1)) acs .nil) aa ag hI ze1
    ·have := zf1 (f78 (σ := Gv.σ) (.v 1))
     have u := zf7 (w9 ((Gv.σ 1).headD 0))
     exact zm [] (.i (.bin 0 .i64 (.bin 1 .i64 (.v 1) (.c 97)) (.c 10)) acs .nil) aa ag hI ze1
  ·have := zf1 (f78 (σ := Gv.σ) (.v 1))
   have u := zf7 (w9 ((Gv.σ 1).headD 0))
   exact zm [] (.i (.bin 1 .i64 (.v 1) (.c 48)) acs .nil) aa ag hI ze1
theorem b7b [Gv] : am dgF := fun σ _ hA _ => (@cc8 ⟨σ⟩  (aj hA).1) (aj hA).2
def smG [Gv] : Prop := (SAll Gv.σ [] → ba 95 smU 256 smI smR 256 smO)
theorem caz [Gv] (hI : SAll Gv.σ []) : smG := by
 rcases zq1 hI (.v 1) (.c 110) with ⟨hI, k1⟩ | ⟨hI, k1⟩
 ·have := zf1 (f77 (σ := Gv.σ) (.v 1))
  have u := zf7 (ahw ((Gv.σ 1).headD 0))
  exact zm [] (.i (.c 10) ao6 .nil) aa ag hI ze1
 ·rcases zq1 hI (.v 1) (.c 116) with ⟨hI, k2⟩ | ⟨hI, k2⟩
  ·have := zf1 (f77 (σ := Gv.σ) (.v 1))
   have u := zf7 (ahw ((Gv.σ 1).headD 0))
   exact zm [] (.i (.c 9) ao6 .nil) aa ag hI ze1
  ·rcases zq1 hI (.v 1) (.c 101) with ⟨hI, k3⟩ | ⟨hI, k3⟩
   ·have := zf1 (f77 (σ := Gv.σ) (.v 1))
    have u := zf7 (ahw ((Gv.σ 1).headD 0))
    exact zm [] (.i (.c 27) ao6 .nil) aa ag hI ze1
   ·have := zf1 (f77 (σ := Gv.σ) (.v 1))
    have u := zf7 (ahw ((Gv.σ 1).headD 0))
    exact zm [] (.i (.c (-1)) ao6 .nil) aa ag hI ze1
theorem bw0 [Gv] : am smF := fun σ _ hA _ => (@caz ⟨σ⟩  (aj hA).1) (aj hA).2
def cbj [Gv] : Prop := (SAll Gv.σ [] → ba 95 b8w 256 b5l b7m 256 b7o)
theorem b6v [Gv] (hI : SAll Gv.σ []) : cbj := by
 have u := trivial
 exact zm0 [] aa ag hI
theorem b4a [Gv] : am b5y := fun σ _ hA _ => (@b6v ⟨σ⟩  (aj hA).1) (aj hA).2
def cbq [Gv] : Prop := (SAll Gv.σ [] → ba 95 b88 256 b4w b8o 256 b9c)
theorem b8v [Gv] (hI : SAll Gv.σ []) : cbq := by
 have u := trivial
 exact zm0 [] aa ag hI
theorem b32 [Gv] : am b82 := fun σ _ hA _ => (@b8v ⟨σ⟩  (aj hA).1) (aj hA).2
theorem sm3 [Gv] : ∀ t ∈ [b5y, b82, smF], am t := by
 intro t ht
 simp only [List.mem_cons, zH, or_false] at ht
 rcases ht with rfl | rfl | rfl
 ·exact b4a
 ·exact b32
 ·exact bw0
def cav [Gv] : Prop := (SAll Gv.σ bmf → ba 105 bsc 256 brn bzg 256 bu8) ∧ (SAll Gv.σ bke → ba 105 bsc 256 brn bvv 256 bvw)
theorem bx6 [Gv] (hI : SAll Gv.σ []) : cav := by
 rcases zl1 hI (.v 1) (.c 0) with ⟨hI, k1⟩ | ⟨hI, k1⟩
 ·have := zf1 (f79 (σ := Gv.σ) (.v 1))
  have u := zf7 (pz ((Gv.σ 1).headD 0))
  exact ⟨zn1,
   zm0 [] aa ag hI⟩
 ·rcases zl1 hI (.c 1114111) (.v 1) with ⟨hI, k2⟩ | ⟨hI, k2⟩
  ·have := zf1 (f79 (σ := Gv.σ) (.v 1))
   have u := zf7 (pz ((Gv.σ 1).headD 0))
   exact ⟨zn1,
    zm0 [] aa ag hI⟩
  ·rcases zl1 hI (.v 1) (.c 55296) with ⟨hI, k3⟩ | ⟨hI, k3⟩
   ·have := zf1 (f79 (σ := Gv.σ) (.v 1))
    have u := zf7 (pz ((Gv.σ 1).headD 0))
    exact ⟨zm0 [] aa ag hI,
     zn1⟩
   ·rcases zl1 hI (.c 57343) (.v 1) with ⟨hI, k4⟩ | ⟨hI, k4⟩
    ·have := zf1 (f79 (σ := Gv.σ) (.v 1))
     have u := zf7 (pz ((Gv.σ 1).headD 0))
     exact ⟨zm0 [] aa ag hI,
      zn1⟩
    ·have := zf1 (f79 (σ := Gv.σ) (.v 1))
     have u := zf7 (pz ((Gv.σ 1).headD 0))
     exact ⟨zn1,
      zm0 [] aa ag hI⟩
theorem brc [Gv] : am bye := fun σ _ hA _ => (@bx6 ⟨σ⟩  (aj hA).1).1 (aj hA).2
theorem bot [Gv] : am bxw := fun σ _ hA _ => (@bx6 ⟨σ⟩  (aj hA).1).2 (aj hA).2
theorem b44 {σ : Nat → List Int} (h : SAll σ (pI ++ adu)) : (gn (σ 0) ∧ 0 ≤ (σ 1).headD 0 ∧ (σ 1).headD 0 ≤ ((σ 0).length : Int) ∧ (σ 0).length ≤ 4000) ∧ 0 ≤ (σ 6).headD 0 ∧ (σ 6).headD 0 ≤ 6 := by
 refine ⟨qx (aj h).1, ?_⟩
 have := (aj h).2
 simp only [sall_cons, sF, evs] at this
 exact ⟨this.1, this.2.1⟩
theorem dg2 [Gv] : ∀ t ∈ [b9z, dgF], am t := axm b0f b7b
def b1p [Gv] : Prop := (SAll Gv.σ [] → b7 94 5 b4q 260 b0i b1d 260 b4f)
theorem cal [Gv] (hh : ∀ t ∈ [cdl (mLn)], au t) (hI : SAll Gv.σ (pI ++ adu)) : b1p := by
 obtain ⟨⟨hR, hp0, hpl, hL⟩, hn0, hn6⟩ := b44 hI
 rcases zl1 hI (.v 6) (.c 6) with ⟨hI, k1⟩ | ⟨hI, k1⟩
 ·rcases zl1 hI ni (.len (.s 0)) with ⟨hI, k2⟩ | ⟨hI, k2⟩
  ·have hI := zF1 hI ni (.c 0)
   have := zf1 (qc hR ni)
   have hI := zF1 hI mo (.c 0)
   have hI := zT1 hI mo (.c 1114112)
   have := zf1 (f78 (σ := Gv.σ) mo)
   rcases zl1 hI bdt (.c 0) with ⟨hI, k6⟩ | ⟨hI, k6⟩
   ·have := zf1 (f80 hR (.v 1) (.v 5) (.v 6))
    have u := zf4 (ny (Gv.σ 0) ((Gv.σ 1).headD 0) ((Gv.σ 5).headD 0) ((Gv.σ 6).headD 0))
    exact zt [] (.i (.v 5) ap0 (.i (.v 6) ao3 (.i (.v 1) anu .nil))) (zh hI dg2) (zp hI hh) hI ze1
   ·have hI := zF1 hI ev (.c 0)
    have hI := zF1 hI (.len (.s 0)) ev
    have hI := zF1 hI alp (.c 0)
    have hI := zF1 hI (.c 6) alp
    have hI := zT1 hI a8v a8a
    have hI := zF1 hI a8v (.c 0)
    have := zf1 (f80 hR ev bb4 alp)
    have := zf1 (f80 hR (.v 1) (.v 5) (.v 6))
    have u := zf4 (ny (Gv.σ 0) ((Gv.σ 1).headD 0) ((Gv.σ 5).headD 0) ((Gv.σ 6).headD 0))
    exact zt [] (.i (.app 81 az0) ap0 (.i (.app 82 az0) ao3 (.i (.app 80 az0) anu .nil))) (zh hI dg2) (zp hI hh) hI ze1
  ·have := zf1 (f80 hR (.v 1) (.v 5) (.v 6))
   have u := zf4 (ny (Gv.σ 0) ((Gv.σ 1).headD 0) ((Gv.σ 5).headD 0) ((Gv.σ 6).headD 0))
   exact zt [] (.i (.v 5) ap0 (.i (.v 6) ao3 (.i (.v 1) anu .nil))) (zh hI dg2) (zp hI hh) hI ze1
 ·have := zf1 (f80 hR (.v 1) (.v 5) (.v 6))
  have u := zf4 (ny (Gv.σ 0) ((Gv.σ 1).headD 0) ((Gv.σ 5).headD 0) ((Gv.σ 6).headD 0))
  exact zt [] (.i (.v 5) ap0 (.i (.v 6) ao3 (.i (.v 1) anu .nil))) (zh hI dg2) (zp hI hh) hI ze1
theorem bbn : ∀ (B : Nat) (σ : Nat → List Int), SAll σ (pI ++ adu) → (mLn).eval σ < (B : Int) → @b1p ⟨σ⟩
 | 0, σ, hI, hb => by obtain ⟨h1, h2, h3, h4⟩ := qx (aj hI).1; simp only [mLn, evs, wr] at hb; omega
 | B + 1, σ, hI, hb => by
   have ih : ∀ σ' : Nat → List Int, SAll σ' (pI ++ adu) → 0 ≤ (mLn).eval σ' ∧ (mLn).eval σ' < (mLn).eval σ → @b1p ⟨σ'⟩ := fun σ' h h' => bbn B σ' h (by omega)
   have hh : ∀ t ∈ [cdl (mLn)], @au ⟨σ⟩ t := by
    intro t ht
    simp only [List.mem_cons, zH, or_false] at ht
    rcases ht with rfl
    ·exact fun σ' _ hA hb => (ih σ' (aj hA).1 hb) (aj hA).2
   exact @cal ⟨σ⟩ hh hI
theorem apd [Gv] : au cbg := fun σ _ hA _ => (bbn (((mLn).eval σ).toNat + 1) σ (aj hA).1 (by omega)) (aj hA).2
theorem is2 [Gv] : ∀ t ∈ [bye, bxw], am t := axm brc bot
def cb0 [Gv] : Prop := (SAll Gv.σ ba0 → ba 94 bor 260 bro bw8 262 bv4) ∧ (SAll Gv.σ a9y → ba 94 bor 260 bro bzz 262 bzl)
theorem bw5 [Gv] (hI : SAll Gv.σ pI) : cb0 := by
 obtain ⟨hR, hp0, hpl, hL⟩ := qx hI
 have := zf1 (f80 hR (.v 1) (.c 0) (.c 0))
 rcases zl1 hI ani (.len (.s 0)) with ⟨hI, k1⟩ | ⟨hI, k1⟩
 ·have hI := zF1 hI ani (.c 0)
  have := zf1 (qc hR ani)
  have hI := zF1 hI bae (.c 0)
  rcases zq1 hI (.app 82 ayw) (.c 0) with ⟨hI, k4⟩ | ⟨hI, k4⟩
  ·have := zf1 (f83 hR (.v 1) (.v 3))
   have u := zf4 (ue (Gv.σ 0) ((Gv.σ 1).headD 0) ((Gv.σ 3).headD 0))
   exact ⟨zn1,
    zm [] (.i (.v 3) ahz .nil) (zh hI is2) (zp hI (cg apd)) hI ze1⟩
  ·rcases zq1 hI bae (.c 92) with ⟨hI, k5⟩ | ⟨hI, k5⟩
   ·have := zf1 (f79 (σ := Gv.σ) av7)
    rcases zq1 hI (.app 79 (.i av7 .nil)) (.c 1) with ⟨hI, k6⟩ | ⟨hI, k6⟩
    ·have := zf1 (f83 hR (.v 1) (.v 3))
     have u := zf4 (ue (Gv.σ 0) ((Gv.σ 1).headD 0) ((Gv.σ 3).headD 0))
     exact ⟨zm [] (.i av7 bed (.i (.bin 0 .i64 bcd (.c 1)) (.app 86 w7) .nil)) (zh hI is2) (zp hI (cg apd)) hI ze1,
      zn1⟩
    ·have := zf1 (f83 hR (.v 1) (.v 3))
     have u := zf4 (ue (Gv.σ 0) ((Gv.σ 1).headD 0) ((Gv.σ 3).headD 0))
     exact ⟨zn1,
      zm [] (.i (.v 3) ahz .nil) (zh hI is2) (zp hI (cg apd)) hI ze1⟩
   ·have := zf1 (f83 hR (.v 1) (.v 3))
    have u := zf4 (ue (Gv.σ 0) ((Gv.σ 1).headD 0) ((Gv.σ 3).headD 0))
    exact ⟨zn1,
     zm [] (.i (.v 3) ahz .nil) (zh hI is2) (zp hI (cg apd)) hI ze1⟩
 ·have := zf1 (f83 hR (.v 1) (.v 3))
  have u := zf4 (ue (Gv.σ 0) ((Gv.σ 1).headD 0) ((Gv.σ 3).headD 0))
  exact ⟨zn1,
   zm [] (.i (.len (.s 0)) ahz .nil) (zh hI is2) (zp hI (cg apd)) hI ze1⟩
theorem bpv [Gv] : am bu5 := fun σ _ hA _ => (@bw5 ⟨σ⟩  (aj hA).1).1 (aj hA).2
theorem bqa [Gv] : am bvd := fun σ _ hA _ => (@bw5 ⟨σ⟩  (aj hA).1).2 (aj hA).2
theorem es3 [Gv] : ∀ t ∈ [smF, bu5, bvd], am t := by
 intro t ht
 simp only [List.mem_cons, zH, or_false] at ht
 rcases ht with rfl | rfl | rfl
 ·exact bw0
 ·exact bpv
 ·exact bqa
def ccl [Gv] : Prop := (SAll Gv.σ a9g → ba 81 bp6 260 bqt bt0 262 bx0) ∧ (SAll Gv.σ bcv → ba 81 bp6 260 bqt bws 262 bxg)
theorem byn [Gv] (hI : SAll Gv.σ pI) : ccl := by
 obtain ⟨hR, hp0, hpl, hL⟩ := qx hI
 rcases zl1 hI ni (.len (.s 0)) with ⟨hI, k1⟩ | ⟨hI, k1⟩
 ·have hI := zF1 hI ni (.c 0)
  have := zf1 (qc hR ni)
  have hI := zF1 hI mo (.c 0)
  rcases zq1 hI mo (.c 10) with ⟨hI, k4⟩ | ⟨hI, k4⟩
  ·have := zf1 (f87 hR (.v 1))
   have u := zf4 (nr (Gv.σ 0) ((Gv.σ 1).headD 0))
   exact ⟨zm [] (.i (.c (-1)) ac3 (.i ev ahy .nil)) (zh hI es3) ag hI ze1,
    zn1⟩
  ·rcases zq1 hI mo (.c 92) with ⟨hI, k5⟩ | ⟨hI, k5⟩
   ·have := zf1 (f87 hR (.v 1))
    have u := zf4 (nr (Gv.σ 0) ((Gv.σ 1).headD 0))
    exact ⟨zm [] (.i (.c 92) ac3 (.i ev ahy .nil)) (zh hI es3) ag hI ze1,
     zn1⟩
   ·rcases zq1 hI mo (.c 34) with ⟨hI, k6⟩ | ⟨hI, k6⟩
    ·have := zf1 (f87 hR (.v 1))
     have u := zf4 (nr (Gv.σ 0) ((Gv.σ 1).headD 0))
     exact ⟨zm [] (.i (.c 34) ac3 (.i ev ahy .nil)) (zh hI es3) ag hI ze1,
      zn1⟩
    ·rcases zq1 hI mo (.c 120) with ⟨hI, k7⟩ | ⟨hI, k7⟩
     ·have hI := zF1 hI ev (.c 0)
      have hI := zF1 hI (.len (.s 0)) ev
      have := zf1 (f83 hR ev awn)
      rcases zq1 hI (.app 83 ant) (.c 0) with ⟨hI, k10⟩ | ⟨hI, k10⟩
      ·have := zf1 (f87 hR (.v 1))
       have u := zf4 (nr (Gv.σ 0) ((Gv.σ 1).headD 0))
       exact ⟨zm [] (.i (.app 85 ant) ac3 (.i (.app 86 ant) ahy .nil)) (zh hI es3) ag hI ze1,
        zn1⟩
      ·have := zf1 (f87 hR (.v 1))
       have u := zf4 (nr (Gv.σ 0) ((Gv.σ 1).headD 0))
       exact ⟨zn1,
        zm [] (.i (.app 84 ant) ans .nil) (zh hI es3) ag hI ze1⟩
     ·have := zf1 (f77 (σ := Gv.σ) mo)
      rcases zl1 hI baj (.c 0) with ⟨hI, k8⟩ | ⟨hI, k8⟩
      ·have := zf1 (f87 hR (.v 1))
       have u := zf4 (nr (Gv.σ 0) ((Gv.σ 1).headD 0))
       exact ⟨zn1,
        zm [] (.i awn ans .nil) (zh hI es3) ag hI ze1⟩
      ·have := zf1 (f87 hR (.v 1))
       have u := zf4 (nr (Gv.σ 0) ((Gv.σ 1).headD 0))
       exact ⟨zm [] (.i baj ac3 (.i ev ahy .nil)) (zh hI es3) ag hI ze1,
        zn1⟩
 ·have := zf1 (f87 hR (.v 1))
  have u := zf4 (nr (Gv.σ 0) ((Gv.σ 1).headD 0))
  exact ⟨zn1,
   zm [] (.i (.len (.s 0)) ans .nil) (zh hI es3) ag hI ze1⟩
theorem bq1 [Gv] : am buw := fun σ _ hA _ => (@byn ⟨σ⟩  (aj hA).1).1 (aj hA).2
theorem br6 [Gv] : am bzy := fun σ _ hA _ => (@byn ⟨σ⟩  (aj hA).1).2 (aj hA).2
def mdG [Gv] : Prop := (SAll Gv.σ [] → ba 82 mdU 260 mdI mdR 260 mdO)
theorem cba [Gv] (hI : SAll Gv.σ pI) : mdG := by
 obtain ⟨hR, hp0, hpl, hL⟩ := qx hI
 rcases zl1 hI ni (.len (.s 0)) with ⟨hI, k1⟩ | ⟨hI, k1⟩
 ·have hI := zF1 hI ni (.c 0)
  have := zf1 (qc hR ni)
  rcases zq1 hI mo (.c 92) with ⟨hI, k3⟩ | ⟨hI, k3⟩
  ·rcases zl1 hI al5 (.len (.s 0)) with ⟨hI, k4⟩ | ⟨hI, k4⟩
   ·have hI := zF1 hI al5 (.c 0)
    have := zf1 (qc hR al5)
    rcases zq1 hI (.rd (.s 0) al5) (.c 45) with ⟨hI, k6⟩ | ⟨hI, k6⟩
    ·have hI := zT1 hI ev (.len (.s 0))
     have hI := zF1 hI ev (.c 0)
     have := zf1 (qc hR ev)
     rcases zq1 hI ax9 (.c 67) with ⟨hI, k9⟩ | ⟨hI, k9⟩
     ·have := zf1 (f94 hR (.v 1))
      have u := zf8 (mn (Gv.σ 0) ((Gv.σ 1).headD 0))
      exact zm [] (.i (.c 67108864) qf .nil) aa ag hI ze1
     ·rcases zq1 hI ax9 (.c 77) with ⟨hI, k10⟩ | ⟨hI, k10⟩
      ·have := zf1 (f94 hR (.v 1))
       have u := zf8 (mn (Gv.σ 0) ((Gv.σ 1).headD 0))
       exact zm [] (.i (.c 134217728) qf .nil) aa ag hI ze1
      ·rcases zq1 hI ax9 (.c 83) with ⟨hI, k11⟩ | ⟨hI, k11⟩
       ·have := zf1 (f94 hR (.v 1))
        have u := zf8 (mn (Gv.σ 0) ((Gv.σ 1).headD 0))
        exact zm [] (.i (.c 33554432) qf .nil) aa ag hI ze1
       ·have := zf1 (f94 hR (.v 1))
        have u := zf8 (mn (Gv.σ 0) ((Gv.σ 1).headD 0))
        exact zm [] (.i (.c 0) qf .nil) aa ag hI ze1
    ·have := zf1 (f94 hR (.v 1))
     have u := zf8 (mn (Gv.σ 0) ((Gv.σ 1).headD 0))
     exact zm [] (.i (.c 0) qf .nil) aa ag hI ze1
   ·have := zf1 (f94 hR (.v 1))
    have u := zf8 (mn (Gv.σ 0) ((Gv.σ 1).headD 0))
    exact zm [] (.i (.c 0) qf .nil) aa ag hI ze1
  ·have := zf1 (f94 hR (.v 1))
   have u := zf8 (mn (Gv.σ 0) ((Gv.σ 1).headD 0))
   exact zm [] (.i (.c 0) qf .nil) aa ag hI ze1
 ·have := zf1 (f94 hR (.v 1))
  have u := zf8 (mn (Gv.σ 0) ((Gv.σ 1).headD 0))
  exact zm [] (.i (.c 0) qf .nil) aa ag hI ze1
theorem but [Gv] : am mdF := fun σ _ hA _ => (@cba ⟨σ⟩  (aj hA).1) (aj hA).2
def cca [Gv] : Prop := (SAll Gv.σ bc4 → ba 83 btm 260 bpg bxi 262 bwn) ∧ (SAll Gv.σ bch → ba 83 btm 260 bpg bud 262 bzq)
theorem bxy [Gv] (hI : SAll Gv.σ pI) : cca := by
 obtain ⟨hR, hp0, hpl, hL⟩ := qx hI
 rcases zl1 hI ni (.len (.s 0)) with ⟨hI, k1⟩ | ⟨hI, k1⟩
 ·have hI := zF1 hI ni (.c 0)
  have := zf1 (qc hR ni)
  have hI := zF1 hI mo (.c 0)
  rcases zq1 hI mo (.c 92) with ⟨hI, k4⟩ | ⟨hI, k4⟩
  ·rcases zl1 hI amj (.len (.s 0)) with ⟨hI, k5⟩ | ⟨hI, k5⟩
   ·have hI := zF1 hI amj (.c 0)
    have := zf1 (qc hR amj)
    have hI := zF1 hI mj (.c 0)
    have := zf1 (f77 (σ := Gv.σ) mj)
    rcases zl1 hI bbm (.c 0) with ⟨hI, k8⟩ | ⟨hI, k8⟩
    ·rcases zq1 hI mj (.c 115) with ⟨hI, k9⟩ | ⟨hI, k9⟩
     ·have := zf1 (f97 hR (.v 1))
      have u := zf4 (j5 (Gv.σ 0) ((Gv.σ 1).headD 0))
      exact ⟨zm [] (.i (.c 32) wv (.i aef aba .nil)) (zh hI sm3) ag hI ze1,
       zn1⟩
     ·rcases zq1 hI mj (.c 100) with ⟨hI, k10⟩ | ⟨hI, k10⟩
      ·have := zf1 (f97 hR (.v 1))
       have u := zf4 (j5 (Gv.σ 0) ((Gv.σ 1).headD 0))
       exact ⟨zm [] (.i (.c 127) wv (.i aef aba .nil)) (zh hI sm3) ag hI ze1,
        zn1⟩
      ·rcases zl1 hI mj (.c 97) with ⟨hI, k11⟩ | ⟨hI, k11⟩
       ·rcases zl1 hI mj (.c 65) with ⟨hI, k12⟩ | ⟨hI, k12⟩
        ·have := zf1 (f97 hR (.v 1))
         have u := zf4 (j5 (Gv.σ 0) ((Gv.σ 1).headD 0))
         exact ⟨zm [] (.i mj wv (.i aef aba .nil)) (zh hI sm3) ag hI ze1,
          zn1⟩
        ·rcases zl1 hI (.c 90) mj with ⟨hI, k13⟩ | ⟨hI, k13⟩
         ·have := zf1 (f97 hR (.v 1))
          have u := zf4 (j5 (Gv.σ 0) ((Gv.σ 1).headD 0))
          exact ⟨zm [] (.i mj wv (.i aef aba .nil)) (zh hI sm3) ag hI ze1,
           zn1⟩
         ·have := zf1 (f97 hR (.v 1))
          have u := zf4 (j5 (Gv.σ 0) ((Gv.σ 1).headD 0))
          exact ⟨zn1,
           zm [] (.i (.v 1) ahs .nil) (zh hI sm3) ag hI ze1⟩
       ·rcases zl1 hI (.c 122) mj with ⟨hI, k12⟩ | ⟨hI, k12⟩
        ·have hI := zF1 hI mj (.c 65)
         have hI := zT1 hI (.c 90) mj
         have := zf1 (f97 hR (.v 1))
         have u := zf4 (j5 (Gv.σ 0) ((Gv.σ 1).headD 0))
         exact ⟨zm [] (.i mj wv (.i aef aba .nil)) (zh hI sm3) ag hI ze1,
          zn1⟩
        ·have := zf1 (f97 hR (.v 1))
         have u := zf4 (j5 (Gv.σ 0) ((Gv.σ 1).headD 0))
         exact ⟨zn1,
          zm [] (.i (.v 1) ahs .nil) (zh hI sm3) ag hI ze1⟩
    ·have := zf1 (f97 hR (.v 1))
     have u := zf4 (j5 (Gv.σ 0) ((Gv.σ 1).headD 0))
     exact ⟨zm [] (.i bbm wv (.i aef aba .nil)) (zh hI sm3) ag hI ze1,
      zn1⟩
   ·have := zf1 (f97 hR (.v 1))
    have u := zf4 (j5 (Gv.σ 0) ((Gv.σ 1).headD 0))
    exact ⟨zn1,
     zm [] (.i (.len (.s 0)) ahs .nil) (zh hI sm3) ag hI ze1⟩
  ·have := zf1 (f97 hR (.v 1))
   have u := zf4 (j5 (Gv.σ 0) ((Gv.σ 1).headD 0))
   exact ⟨zm [] (.i mo wv (.i ev aba .nil)) (zh hI sm3) ag hI ze1,
    zn1⟩
 ·have := zf1 (f97 hR (.v 1))
  have u := zf4 (j5 (Gv.σ 0) ((Gv.σ 1).headD 0))
  exact ⟨zn1,
   zm [] (.i (.len (.s 0)) ahs .nil) (zh hI sm3) ag hI ze1⟩
theorem bqy [Gv] : am bwk := fun σ _ hA _ => (@bxy ⟨σ⟩  (aj hA).1).1 (aj hA).2
theorem br5 [Gv] : am bvz := fun σ _ hA _ => (@bxy ⟨σ⟩  (aj hA).1).2 (aj hA).2
def b12 [Gv] : Prop := (SAll Gv.σ [] → b7 61 4 b00 261 b1v b2r 261 b39)
theorem b64 [Gv] (hh : ∀ t ∈ [mol (mLn)], au t) (hI : SAll Gv.σ pI) : b12 := by
 obtain ⟨hR, hp0, hpl, hL⟩ := qx hI
 have := zf1 (f94 hR (.v 1))
 rcases zq1 hI qf (.c 0) with ⟨hI, k1⟩ | ⟨hI, k1⟩
 ·have := zf1 (f95 hR (.v 1) (.v 3))
  have u := zf9 (tv (Gv.σ 0) ((Gv.σ 1).headD 0) ((Gv.σ 3).headD 0))
  exact zt [] (.i (.v 3) awj (.i (.v 1) a79 .nil)) (zh hI (cg but)) (zp hI hh) hI ze1
 ·have hI := zF1 hI agx (.c 0)
  have hI := zF1 hI (.len (.s 0)) agx
  have hI := zT1 hI ba7 a8a
  have hI := zF1 hI ba7 (.c 0)
  have := zf1 (f95 hR agx a8g)
  have := zf1 (f95 hR (.v 1) (.v 3))
  have u := zf9 (tv (Gv.σ 0) ((Gv.σ 1).headD 0) ((Gv.σ 3).headD 0))
  exact zt [] (.i (.app 96 bdx) awj (.i (.app 95 bdx) a79 .nil)) (zh hI (cg but)) (zp hI hh) hI ze1
theorem a8i : ∀ (B : Nat) (σ : Nat → List Int), SAll σ pI → (mLn).eval σ < (B : Int) → @b12 ⟨σ⟩
 | 0, σ, hI, hb => by obtain ⟨h1, h2, h3, h4⟩ := qx hI; simp only [mLn, evs, wr] at hb; omega
 | B + 1, σ, hI, hb => by
   have ih : ∀ σ' : Nat → List Int, SAll σ' pI → 0 ≤ (mLn).eval σ' ∧ (mLn).eval σ' < (mLn).eval σ → @b12 ⟨σ'⟩ := fun σ' h h' => a8i B σ' h (by omega)
   have hh : ∀ t ∈ [mol (mLn)], @au ⟨σ⟩ t := by
    intro t ht
    simp only [List.mem_cons, zH, or_false] at ht
    rcases ht with rfl
    ·exact fun σ' _ hA hb => (ih σ' (aj hA).1 hb) (aj hA).2
   exact @b64 ⟨σ⟩ hh hI
theorem oa [Gv] : au ccx := fun σ _ hA _ => (a8i (((mLn).eval σ).toNat + 1) σ (aj hA).1 (by omega)) (aj hA).2
theorem ch5 [Gv] : ∀ t ∈ [aen, aeh, bwk, bvz], am t := by
 intro t ht
 simp only [List.mem_cons, zH, or_false] at ht
 rcases ht with rfl | rfl | rfl | rfl
 ·exact avt
 ·exact ay0
 ·exact bqy
 ·exact br5
theorem b8q {σ : Nat → List Int} (h : SAll σ (pI ++ amz)) : (gn (σ 0) ∧ 0 ≤ (σ 1).headD 0 ∧ (σ 1).headD 0 ≤ ((σ 0).length : Int) ∧ (σ 0).length ≤ 4000) ∧ (σ 1).headD 0 < ((σ 0).length : Int) := by
 refine ⟨qx (aj h).1, ?_⟩
 have := (aj h).2
 simp only [sall_cons, sT, evs] at this
 exact this.1
def cbu [Gv] : Prop := (SAll Gv.σ bak → ba 61 bqb 260 bok by8 266 bv5) ∧ (SAll Gv.σ bbg → ba 61 bqb 260 bok bzs 266 bv7)
theorem by6 [Gv] (hI : SAll Gv.σ (pI ++ amz)) : cbu := by
 obtain ⟨⟨hR, hp0, hpl, hL⟩, hlt⟩ := b8q hI
 have hI := zF1 hI ev (.c 0)
 have hI := zF1 hI (.len (.s 0)) ev
 have := zf1 (f95 hR ev (.c 0))
 have hI := zF1 hI amh (.c 0)
 have hI := zF1 hI (.len (.s 0)) amh
 have := zf1 (f97 hR amh)
 rcases zq1 hI (.app 97 amc) (.c 0) with ⟨hI, k5⟩ | ⟨hI, k5⟩
 ·rcases zl1 hI amx (.len (.s 0)) with ⟨hI, k6⟩ | ⟨hI, k6⟩
  ·have hI := zF1 hI amx (.c 0)
   have := zf1 (qc hR amx)
   have hI := zF1 hI bcg (.c 0)
   rcases zq1 hI (.app 41 (.i bcg .nil)) (.c 1) with ⟨hI, k9⟩ | ⟨hI, k9⟩
   ·rcases zq1 hI a9q (.c 0) with ⟨hI, k10⟩ | ⟨hI, k10⟩
    ·have u := aej (ee (Gv.σ 0) ((Gv.σ 1).headD 0))
     exact ⟨zm [] (.i wm ld (.i j6 md .nil)) (zh hI ch5) (zp hI (cg oa)) hI ze1,
      zn1⟩
    ·rcases zl1 hI gx (.c 97) with ⟨hI, k11⟩ | ⟨hI, k11⟩
     ·rcases zl1 hI gx (.c 64) with ⟨hI, k12⟩ | ⟨hI, k12⟩
      ·rcases zq1 hI gx (.c 63) with ⟨hI, k13⟩ | ⟨hI, k13⟩
       ·have u := aej (ee (Gv.σ 0) ((Gv.σ 1).headD 0))
        exact ⟨zm [] (.i a8h ld (.i j6 md .nil)) (zh hI ch5) (zp hI (cg oa)) hI ze1,
         zn1⟩
       ·have u := aej (ee (Gv.σ 0) ((Gv.σ 1).headD 0))
        exact ⟨zm [] (.i wm ld (.i j6 md .nil)) (zh hI ch5) (zp hI (cg oa)) hI ze1,
         zn1⟩
      ·rcases zl1 hI (.c 95) gx with ⟨hI, k13⟩ | ⟨hI, k13⟩
       ·have hI := zN1 hI gx (.c 63)
        have u := aej (ee (Gv.σ 0) ((Gv.σ 1).headD 0))
        exact ⟨zm [] (.i wm ld (.i j6 md .nil)) (zh hI ch5) (zp hI (cg oa)) hI ze1,
         zn1⟩
       ·have u := aej (ee (Gv.σ 0) ((Gv.σ 1).headD 0))
        exact ⟨zm [] (.i anw ld (.i j6 md .nil)) (zh hI ch5) (zp hI (cg oa)) hI ze1,
         zn1⟩
     ·rcases zl1 hI (.c 122) gx with ⟨hI, k12⟩ | ⟨hI, k12⟩
      ·have hI := zF1 hI gx (.c 64)
       have hI := zT1 hI (.c 95) gx
       have hI := zN1 hI gx (.c 63)
       have u := aej (ee (Gv.σ 0) ((Gv.σ 1).headD 0))
       exact ⟨zm [] (.i wm ld (.i j6 md .nil)) (zh hI ch5) (zp hI (cg oa)) hI ze1,
        zn1⟩
      ·have u := aej (ee (Gv.σ 0) ((Gv.σ 1).headD 0))
       exact ⟨zm [] (.i anw ld (.i j6 md .nil)) (zh hI ch5) (zp hI (cg oa)) hI ze1,
        zn1⟩
   ·have u := aej (ee (Gv.σ 0) ((Gv.σ 1).headD 0))
    exact ⟨zn1,
     zm [] (.i j6 ay3 .nil) (zh hI ch5) (zp hI (cg oa)) hI ze1⟩
  ·rcases zq1 hI a9q (.c 0) with ⟨hI, k7⟩ | ⟨hI, k7⟩
   ·have u := aej (ee (Gv.σ 0) ((Gv.σ 1).headD 0))
    exact ⟨zm [] (.i wm ld (.i j6 md .nil)) (zh hI ch5) (zp hI (cg oa)) hI ze1,
     zn1⟩
   ·rcases zl1 hI gx (.c 97) with ⟨hI, k8⟩ | ⟨hI, k8⟩
    ·rcases zl1 hI gx (.c 64) with ⟨hI, k9⟩ | ⟨hI, k9⟩
     ·rcases zq1 hI gx (.c 63) with ⟨hI, k10⟩ | ⟨hI, k10⟩
      ·have u := aej (ee (Gv.σ 0) ((Gv.σ 1).headD 0))
       exact ⟨zm [] (.i a8h ld (.i j6 md .nil)) (zh hI ch5) (zp hI (cg oa)) hI ze1,
        zn1⟩
      ·have u := aej (ee (Gv.σ 0) ((Gv.σ 1).headD 0))
       exact ⟨zm [] (.i wm ld (.i j6 md .nil)) (zh hI ch5) (zp hI (cg oa)) hI ze1,
        zn1⟩
     ·rcases zl1 hI (.c 95) gx with ⟨hI, k10⟩ | ⟨hI, k10⟩
      ·have hI := zN1 hI gx (.c 63)
       have u := aej (ee (Gv.σ 0) ((Gv.σ 1).headD 0))
       exact ⟨zm [] (.i wm ld (.i j6 md .nil)) (zh hI ch5) (zp hI (cg oa)) hI ze1,
        zn1⟩
      ·have u := aej (ee (Gv.σ 0) ((Gv.σ 1).headD 0))
       exact ⟨zm [] (.i anw ld (.i j6 md .nil)) (zh hI ch5) (zp hI (cg oa)) hI ze1,
        zn1⟩
    ·rcases zl1 hI (.c 122) gx with ⟨hI, k9⟩ | ⟨hI, k9⟩
     ·have hI := zF1 hI gx (.c 64)
      have hI := zT1 hI (.c 95) gx
      have hI := zN1 hI gx (.c 63)
      have u := aej (ee (Gv.σ 0) ((Gv.σ 1).headD 0))
      exact ⟨zm [] (.i wm ld (.i j6 md .nil)) (zh hI ch5) (zp hI (cg oa)) hI ze1,
       zn1⟩
     ·have u := aej (ee (Gv.σ 0) ((Gv.σ 1).headD 0))
      exact ⟨zm [] (.i anw ld (.i j6 md .nil)) (zh hI ch5) (zp hI (cg oa)) hI ze1,
       zn1⟩
 ·have u := aej (ee (Gv.σ 0) ((Gv.σ 1).headD 0))
  exact ⟨zn1,
   zm [] (.i (.app 98 amc) ay3 .nil) (zh hI ch5) (zp hI (cg oa)) hI ze1⟩
theorem btj [Gv] : am a1a := fun σ _ hA _ => (@by6 ⟨σ⟩  (aj hA).1).1 (aj hA).2
theorem bpb [Gv] : am a1g := fun σ _ hA _ => (@by6 ⟨σ⟩  (aj hA).1).2 (aj hA).2
end Go.Ev
