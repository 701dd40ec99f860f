import Derived.Test.YtkfdioikigponaaGreatDoorRaN
set_option maxRecDepth 100000
set_option linter.all false
namespace Go.Ev
abbrev aqk : AL := .i (.v 1) .nil
abbrev ab6 : SE := .app 78 aqk
abbrev a73 : List SA := [.mk true (.v 1) (.c 0) false, .mk true (.v 1) (.c 1114112) true]
abbrev aps : SE := .app 77 aqk
abbrev bn9 : List SA := [.mk false (.app 79 aqk) (.c 1) true]
abbrev bnp : List SA := [.mk false (.app 79 aqk) (.c 1) false]
abbrev avm : AL := .g (.s 0) (.i (.v 1) (.i (.v 5) (.i (.v 6) .nil)))
abbrev aq4 : SE := .app 81 avm
abbrev aqg : SE := .app 82 avm
abbrev ael : List SA := [.mk true (.v 6) (.c 0) false, .mk true (.c 6) (.v 6) false]
abbrev xh : AL := .g (.s 0) (.i (.v 1) (.i (.v 3) .nil))
abbrev bay : SE := .app 85 xh
abbrev bcr : SE := .app 83 xh
abbrev bc7 : List SA := [.mk false bcr (.c 0) true]
abbrev ah4 : SE := .app 84 xh
abbrev bbn : List SA := [.mk false bcr (.c 0) false]
abbrev jy : AL := .g (.s 0) aqk
abbrev adf : SE := .app 89 jy
abbrev bec : SE := .app 87 jy
abbrev bai : List SA := [.mk false bec (.c 0) true]
abbrev am5 : SE := .app 88 jy
abbrev bdj : List SA := [.mk false bec (.c 0) false]
abbrev qu : SE := .app 94 jy
abbrev w8 : SE := .app 100 jy
abbrev a8j : SE := .app 97 jy
abbrev bdi : List SA := [.mk false a8j (.c 0) true]
abbrev aje : SE := .app 98 jy
abbrev a8v : List SA := [.mk false a8j (.c 0) false]
abbrev a0e : SE := .app 96 xh
abbrev kr : SE := .app 104 jy
abbrev am8 : List SA := [.mk true (.v 1) (.len (.s 0)) true]
abbrev a8g : SE := .app 102 jy
abbrev bch : List SA := [.mk false a8g (.c 0) true]
abbrev a0h : SE := .app 103 jy
abbrev a9z : List SA := [.mk false a8g (.c 0) false]
abbrev ni : SE := .bin 0 .i64 (.v 1) (.c 0)
abbrev l8 : SE := .rd (.s 0) ni
abbrev bdc : AL := .i l8 .nil
abbrev a8w : SE := .app 78 bdc
abbrev amh : SE := .app 80 avm
abbrev eu : SE := .bin 0 .i64 (.v 1) (.c 1)
abbrev am1 : SE := .bin 0 .i64 (.v 6) (.c 1)
abbrev a9k : SE := .bin 6 .i64 (.len (.s 0)) (.bin 7 .i64 (.c (-1)) eu)
abbrev a9g : SE := .bin 6 .i64 (.len (.s 0)) (.bin 7 .i64 (.c (-1)) (.v 1))
abbrev bb8 : SE := .bin 9 .i64 (.bin 11 .i64 (.v 5) (.c 4)) a8w
abbrev aw6 : AL := .g (.s 0) (.i eu (.i bb8 (.i am1 .nil)))
abbrev az5 : AL := .g (.s 0) (.i (.v 1) (.i (.c 0) (.i (.c 0) .nil)))
abbrev ba6 : SE := .app 80 az5
abbrev al6 : SE := .bin 0 .i64 ba6 (.c 0)
abbrev be3 : SE := .rd (.s 0) al6
abbrev awy : SE := .app 81 az5
abbrev ait : SE := .app 90 jy
abbrev azj : SE := .bin 1 .i64 (.v 1) (.c 1)
abbrev an0 : AL := .g (.s 0) (.i eu (.i azj .nil))
abbrev bet : SE := .app 77 bdc
abbrev amx : SE := .bin 0 .i64 (.v 1) (.c 2)
abbrev axr : SE := .rd (.s 0) eu
abbrev anh : SE := .bin 0 .i64 eu (.c 0)
abbrev md : SE := .rd (.s 0) anh
abbrev a8p : SE := .app 77 (.i md .nil)
abbrev aeg : SE := .bin 0 .i64 eu (.c 1)
abbrev abg : SE := .app 101 jy
abbrev bbw : SE := .app 95 xh
abbrev ah3 : SE := .bin 0 .i64 (.v 1) (.c 3)
abbrev a8x : SE := .bin 6 .i64 (.len (.s 0)) (.bin 7 .i64 (.c (-1)) ah3)
abbrev a9i : SE := .bin 9 .i64 (.v 3) qu
abbrev bah : AL := .g (.s 0) (.i ah3 (.i a9i .nil))
abbrev bb4 : AL := .g (.s 0) (.i eu (.i (.c 0) .nil))
abbrev al9 : SE := .app 95 bb4
abbrev am0 : AL := .g (.s 0) (.i al9 .nil)
abbrev j1 : SE := .app 101 am0
abbrev al8 : SE := .bin 0 .i64 j1 (.c 0)
abbrev bab : SE := .rd (.s 0) al8
abbrev awq : SE := .app 96 bb4
abbrev a8i : SE := .bin 8 .i64 awq (.c 67108864)
abbrev gu : SE := .app 100 am0
abbrev xc : SE := .bin 9 .i64 gu awq
abbrev mi : SE := .app 105 jy
abbrev bes : SE := .bin 13 .i64 awq (.c 67108864)
abbrev bbm : SE := .bin 9 .i64 (.c 127) bes
abbrev ami : SE := .bin 9 .i64 (.bin 4 .i64 gu (.c 32)) bes
noncomputable section
def b84 : List AV := [.int .i64 (-1)]
def b56 : List HO := []
def b4c : List HO := []
def b8u : TR := .ret (.int .i64 (-1))
def b6d : TM := .mk 104 b84 256 b56 ([] ++ []) none b8u 256 b4c
def dgU : List AV := [.sym .i64 (.v 1) []]
def dgI : List HO := []
def dgO : List HO := []
def dgR : TR := .ret (.sym .i64 ab6 [])
def dgF : TM := .mk 104 dgU 256 dgI (a73 ++ []) none dgR 256 dgO
def smU : List AV := [.sym .i64 (.v 1) []]
def smI : List HO := []
def smO : List HO := []
def smR : TR := .ret (.sym .i64 aps [])
def smF : TM := .mk 95 smU 256 smI ([] ++ []) none smR 256 smO
def b68 : List AV := [.int .i64 100]
def b8e : List HO := []
def b8c : List HO := []
def b7z : TR := .ret (.int .i64 (-1))
def b8l : TM := .mk 95 b68 256 b8e ([] ++ []) none b7z 256 b8c
def b8v : List AV := [.int .i64 115]
def b7d : List HO := []
def b4s : List HO := []
def b87 : TR := .ret (.int .i64 (-1))
def b7b : TM := .mk 95 b8v 256 b7d ([] ++ []) none b87 256 b4s
def bsf : List AV := [.sym .i64 (.v 1) []]
def bte : List HO := []
def bu0 : List HO := []
def bt2 : TR := .ret (.bool true)
def bwf : TM := .mk 105 bsf 256 bte ([] ++ bn9) none bt2 256 bu0
def bw9 : List HO := []
def byc : TR := .ret (.bool false)
def byq : TM := .mk 105 bsf 256 bte ([] ++ bnp) none byc 256 bw9
def b1v : List AV := [.ptr (K.of 256) 0, .sym .i64 (.v 3) [], .top, .top, .top, .sym .i64 (.v 5) [], .sym .i64 (.v 6) []] ++ tps 50
def b2v : List HO := [rdO 256 258 259 257 (.v 1) (.v 2), rwO 257]
def b1i : List HO := [rdO 256 258 259 257 (.app 80 avm) (.v 2), rwO 257]
def bzu : LR := (.x 0 ([.ptr (K.of 256) 0, .sym .i64 (.v 3) [], .top, .top, .top, .sym .i64 aq4 [], .sym .i64 aqg []] ++ tps 50))
def cdl (m : SE) : LT := .mk 94 5 b1v 260 b2v ((pI ++ ael) ++ []) (some (mLn, m)) bzu 260 b1i
def cae : LT := .mk 94 5 b1v 260 b2v ((pI ++ ael) ++ []) none bzu 260 b1i
def bqk : List AV := [.ptr (K.of 256) 0, .sym .i64 (.v 3) []]
def bsh : List HO := [rdO 256 258 259 257 (.v 1) (.v 2), rwO 257]
def bya : List HO := [rdO 256 258 259 257 (.app 86 xh) (.v 2), rwO 257]
def bv8 : TR := .ret (.sym .i64 bay [])
def bxz : TM := .mk 94 bqk 260 bsh (pI ++ bc7) none bv8 262 bya
def bxv : List HO := []
def bx7 : TR := .pan [.mk (.iface 34 (.agg [.int .i64 5, .sym .i64 ah4 []])) false]
def bx8 : TM := .mk 94 bqk 260 bsh (pI ++ bbn) none bx7 262 bxv
def brw : List AV := [.ptr (K.of 256) 0]
def bra : List HO := [rdO 256 258 259 257 (.v 1) (.v 2), rwO 257]
def bwg : List HO := [rdO 256 258 259 257 (.app 90 jy) (.v 2), rwO 257]
def bwx : TR := .ret (.sym .i64 adf [])
def bwc : TM := .mk 81 brw 260 bra (pI ++ bai) none bwx 262 bwg
def byh : List HO := []
def bzo : TR := .pan [.mk (.iface 34 (.agg [.int .i64 5, .sym .i64 am5 []])) false]
def bye : TM := .mk 81 brw 260 bra (pI ++ bdj) none bzo 262 byh
def mdU : List AV := [.ptr (K.of 256) 0]
def mdI : List HO := [rdO 256 258 259 257 (.v 1) (.v 2), rwO 257]
def mdO : List HO := [rdO 256 258 259 257 (.v 1) (.v 2), rwO 257]
def mdR : TR := .ret (.sym .i64 qu [])
def mdF : TM := .mk 82 mdU 260 mdI (pI ++ []) none mdR 260 mdO
def bsr : List AV := [.ptr (K.of 256) 0]
def bpx : List HO := [rdO 256 258 259 257 (.v 1) (.v 2), rwO 257]
def but : List HO := [rdO 256 258 259 257 (.app 101 jy) (.v 2), rwO 257]
def bxp : TR := .ret (.sym .i64 w8 [])
def byl : TM := .mk 83 bsr 260 bpx (pI ++ bdi) none bxp 262 but
def bxn : List HO := []
def buk : TR := .pan [.mk (.iface 34 (.agg [.int .i64 5, .sym .i64 aje []])) false]
def bwu : TM := .mk 83 bsr 260 bpx (pI ++ a8v) none buk 262 bxn
def b21 : List AV := [.ptr (K.of 256) 0, .top, .ptr (K.of 260) 0, .sym .i64 (.v 3) []] ++ tps 63
def b1k : List HO := [rdO 256 258 259 257 (.v 1) (.v 2), rwO 257]
def b3t : List HO := [rdO 256 258 259 257 (.app 95 xh) (.v 2), rwO 257]
def b2p : LR := (.x 0 ([.ptr (K.of 256) 0, .top, .ptr (K.of 260) 0, .sym .i64 a0e []] ++ tps 63))
def mol (m : SE) : LT := .mk 61 4 b21 261 b1k (pI ++ []) (some (mLn, m)) b2p 261 b3t
def cbh : LT := .mk 61 4 b21 261 b1k (pI ++ []) none b2p 261 b3t
def bp6 : List AV := [.ptr (K.of 256) 0]
def bp4 : List HO := [rdO 256 258 259 257 (.v 1) (.v 2), rwO 257]
def bvt : List HO := [rdO 256 258 259 257 (.app 105 jy) (.v 2), rwO 257]
def bwe : TR := .ret (.agg [.int .i64 0, .sym .i64 kr []])
def a37 : TM := .mk 61 bp6 260 bp4 ((pI ++ am8) ++ bch) none bwe 266 bvt
def bv7 : List HO := []
def byz : TR := .pan [.mk (.iface 34 (.agg [.int .i64 5, .sym .i64 a0h []])) false]
def a3d : TM := .mk 61 bp6 260 bp4 ((pI ++ am8) ++ a9z) none byz 266 bv7
end
theorem f78 {σ : Nat → List Int} (a : SE) : -1 ≤ (SE.app 78 (.i a .nil)).eval σ ∧ (SE.app 78 (.i a .nil)).eval σ ≤ 15 := by
 show -1 ≤ aql (a.eval σ) ∧ aql (a.eval σ) ≤ 15
 rw [wn]; repeat' split
 all_goals omega
theorem f79 {σ : Nat → List Int} (a : SE) : 0 ≤ (SE.app 79 (.i a .nil)).eval σ ∧ (SE.app 79 (.i a .nil)).eval σ ≤ 1 := by
 show 0 ≤ xn (a.eval σ) ∧ xn (a.eval σ) ≤ 1
 rw [pj]; split
 all_goals omega
theorem f77 {σ : Nat → List Int} (a : SE) : -1 ≤ (SE.app 77 (.i a .nil)).eval σ ∧ (SE.app 77 (.i a .nil)).eval σ ≤ 27 := by
 show -1 ≤ abr (a.eval σ) ∧ abr (a.eval σ) ≤ 27
 rw [aht]; repeat' split
 all_goals omega
theorem a74 (R : List Int) : ∀ (n : Nat) (p c m : Int), ((R.length : Int) - p).toNat ≤ n → p ≤ (R.length : Int) → m ≤ 6 → p ≤ (qx R p c m).p ∧ (qx R p c m).p ≤ (R.length : Int) ∧ m ≤ (qx R p c m).a ∧ (qx R p c m).a ≤ 6
 | 0, p, c, m, h, hp, hm => by
   rw [aeu, if_neg (by omega)]; dsimp only; omega
 | n + 1, p, c, m, h, hp, hm => by
   rw [aeu]
   split
   ·split
    ·dsimp only; omega
    ·have := a74 R n (p + 1) (kg 9 .i64 (kg 11 .i64 c 4) (aql (R.getD p.toNat 0))) (m + 1) (by omega) (by omega) (by omega)
     omega
   ·dsimp only; omega
theorem bni (R : List Int) (p a : Int) (hp : p ≤ (R.length : Int)) : ((aar R p a).f = 0 ∨ (aar R p a).f = 5) ∧ ((aar R p a).f = 0 → p < (aar R p a).p ∧ (aar R p a).p ≤ (R.length : Int) ∧ 0 ≤ (aar R p a).c ∧ (aar R p a).c < 1114112) := by
 have h := a74 R _ p 0 0 (Nat.le_refl _) hp (by omega)
 rw [ad9]
 split
 ·split
  ·exact ⟨.inr rfl, fun h => absurd h (show ¬ (5 : Int) = 0 by decide)⟩
  ·rename_i h1 h2
   have h3 : xn (qx R p 0 0).c = 1 := by
    have : ¬ xn (qx R p 0 0).c = 0 := fun h => h2 (.inr (.inr h))
    rw [pj] at this ⊢
    split
    ·rfl
    ·rename_i h4; rw [if_neg h4] at this; exact absurd rfl this
   rw [pj] at h3
   split at h3
   ·exact ⟨.inl rfl, fun _ => by dsimp only; omega⟩
   ·exact absurd h3 (by decide)
 ·exact ⟨.inr rfl, fun h => absurd h (show ¬ (5 : Int) = 0 by decide)⟩
theorem boc {R : List Int} (hR : gd R) (p : Int) (hp : p ≤ (R.length : Int)) : ((lu R p).f = 0 ∨ (lu R p).f = 5) ∧ ((lu R p).f = 0 → p < (lu R p).p ∧ (lu R p).p ≤ (R.length : Int) ∧ -1 ≤ (lu R p).c ∧ (lu R p).c < 1114112) := by
 have hr := brj hR p.toNat
 rw [ur]
 split
 ·split
  ·exact ⟨.inl rfl, fun _ => by dsimp only; omega⟩
  ·split
   ·exact ⟨.inl rfl, fun _ => by dsimp only; omega⟩
   ·split
    ·obtain ⟨a, b⟩ := bni R (p + 1) (p - 1) (by omega)
     exact ⟨a, fun h => by have := b h; omega⟩
    ·split
     ·exact ⟨.inr rfl, fun h => absurd h (show ¬ (5 : Int) = 0 by decide)⟩
     ·have := f77 (σ := fun _ => [R.getD p.toNat 0]) (.v 0)
      have : -1 ≤ abr (R.getD p.toNat 0) ∧ abr (R.getD p.toNat 0) ≤ 27 := this
      exact ⟨.inl rfl, fun _ => by dsimp only; omega⟩
 ·exact ⟨.inr rfl, fun h => absurd h (show ¬ (5 : Int) = 0 by decide)⟩
theorem bm6 (R : List Int) (p : Int) : ¬ asz R p = 0 → p + 3 ≤ (R.length : Int) := by
 intro h
 rw [uq] at h
 split at h
 ·rename_i h1
  have := h1.2
  rw [br] at this
  split at this
  ·omega
  ·exact absurd this (by decide)
 ·exact absurd rfl h
theorem a66 (R : List Int) : ∀ (n : Nat) (p b : Int), ((R.length : Int) - p).toNat ≤ n → p ≤ (R.length : Int) → p ≤ (rm R p b).p ∧ (rm R p b).p ≤ (R.length : Int)
 | 0, p, b, h, hp => by rw [am3, if_neg (by omega)]; dsimp only; omega
 | n + 1, p, b, h, hp => by
   rw [am3]
   split
   ·split
    ·dsimp only; omega
    ·rename_i h1
     have := bm6 R p h1
     have := a66 R n (p + 3) (kg 9 .i64 b (asz R p)) (by omega) (by omega)
     omega
   ·dsimp only; omega
theorem bll {R : List Int} (hR : gd R) (p : Int) : ((o6 R p).f = 0 ∨ (o6 R p).f = 5) ∧ ((o6 R p).f = 0 → p < (o6 R p).p ∧ (o6 R p).p ≤ (R.length : Int) ∧ 0 ≤ (o6 R p).c ∧ (o6 R p).c < 1114112) := by
 have hr := brj hR p.toNat
 have hr1 := brj hR (p + 1).toNat
 have : -1 ≤ abr (R.getD (p + 1).toNat 0) ∧ abr (R.getD (p + 1).toNat 0) ≤ 27 := f77 (σ := fun _ => [R.getD (p + 1).toNat 0]) (.v 0)
 rw [ot]
 repeat' split
 all_goals dsimp only
 all_goals omega
section
variable {σ : Nat → List Int}
theorem f80 (hR : gd (σ 0)) (a b c : SE) : a.eval σ ≤ (SE.len (.s 0)).eval σ → c.eval σ ≤ 6 → a.eval σ ≤ (SE.app 80 (.g (.s 0) (.i a (.i b (.i c .nil))))).eval σ ∧ (SE.app 80 (.g (.s 0) (.i a (.i b (.i c .nil))))).eval σ ≤ (SE.len (.s 0)).eval σ ∧ c.eval σ ≤ (SE.app 82 (.g (.s 0) (.i a (.i b (.i c .nil))))).eval σ ∧ (SE.app 82 (.g (.s 0) (.i a (.i b (.i c .nil))))).eval σ ≤ 6 := fun h h' => a74 _ _ _ _ _ (Nat.le_refl _) h h'
theorem f83 (hR : gd (σ 0)) (a b : SE) : a.eval σ ≤ (SE.len (.s 0)).eval σ → ((SE.app 83 (.g (.s 0) (.i a (.i b .nil)))).eval σ = 0 ∨ (SE.app 83 (.g (.s 0) (.i a (.i b .nil)))).eval σ = 5) ∧ ((SE.app 83 (.g (.s 0) (.i a (.i b .nil)))).eval σ = 0 → a.eval σ < (SE.app 86 (.g (.s 0) (.i a (.i b .nil)))).eval σ ∧ (SE.app 86 (.g (.s 0) (.i a (.i b .nil)))).eval σ ≤ (SE.len (.s 0)).eval σ ∧ 0 ≤ (SE.app 85 (.g (.s 0) (.i a (.i b .nil)))).eval σ ∧ (SE.app 85 (.g (.s 0) (.i a (.i b .nil)))).eval σ < 1114112) := fun h => bni _ _ _ h
theorem f87 (hR : gd (σ 0)) (a : SE) : a.eval σ ≤ (SE.len (.s 0)).eval σ → ((SE.app 87 (.g (.s 0) (.i a .nil))).eval σ = 0 ∨ (SE.app 87 (.g (.s 0) (.i a .nil))).eval σ = 5) ∧ ((SE.app 87 (.g (.s 0) (.i a .nil))).eval σ = 0 → a.eval σ < (SE.app 90 (.g (.s 0) (.i a .nil))).eval σ ∧ (SE.app 90 (.g (.s 0) (.i a .nil))).eval σ ≤ (SE.len (.s 0)).eval σ ∧ -1 ≤ (SE.app 89 (.g (.s 0) (.i a .nil))).eval σ ∧ (SE.app 89 (.g (.s 0) (.i a .nil))).eval σ < 1114112) := fun h => boc hR _ h
theorem f94 (hR : gd (σ 0)) (a : SE) : ¬ (SE.app 94 (.g (.s 0) (.i a .nil))).eval σ = 0 → a.eval σ + 3 ≤ (SE.len (.s 0)).eval σ := bm6 _ _
theorem f95 (hR : gd (σ 0)) (a b : SE) : a.eval σ ≤ (SE.len (.s 0)).eval σ → a.eval σ ≤ (SE.app 95 (.g (.s 0) (.i a (.i b .nil)))).eval σ ∧ (SE.app 95 (.g (.s 0) (.i a (.i b .nil)))).eval σ ≤ (SE.len (.s 0)).eval σ := fun h => a66 _ _ _ _ (Nat.le_refl _) h
theorem f97 (hR : gd (σ 0)) (a : SE) : ((SE.app 97 (.g (.s 0) (.i a .nil))).eval σ = 0 ∨ (SE.app 97 (.g (.s 0) (.i a .nil))).eval σ = 5) ∧ ((SE.app 97 (.g (.s 0) (.i a .nil))).eval σ = 0 → a.eval σ < (SE.app 101 (.g (.s 0) (.i a .nil))).eval σ ∧ (SE.app 101 (.g (.s 0) (.i a .nil))).eval σ ≤ (SE.len (.s 0)).eval σ ∧ 0 ≤ (SE.app 100 (.g (.s 0) (.i a .nil))).eval σ ∧ (SE.app 100 (.g (.s 0) (.i a .nil))).eval σ < 1114112) := bll hR _
end
theorem b6i {σ : Nat → List Int} (h : SAll σ a73) : 0 ≤ (σ 1).headD 0 ∧ (σ 1).headD 0 < 1114112 := blj h
def caz [Gv] : Prop := (SAll Gv.σ [] → bh 104 b84 256 b56 b8u 256 b4c)
theorem b69 [Gv] (hI : SAll Gv.σ []) : caz := by
 have u := trivial
 exact zm0 [] af ak hI
theorem b08 [Gv] : ap b6d := fun σ _ hA _ => (@b69 ⟨σ⟩  (aj hA).1) (aj hA).2
def dgG [Gv] : Prop := (SAll Gv.σ [] → bh 104 dgU 256 dgI dgR 256 dgO)
theorem b9s [Gv] (hI : SAll Gv.σ a73) : dgG := by
 have hw := b6i hI
 rcases zl1 hI (.v 1) (.c 48) with ⟨hI, k1⟩ | ⟨hI, k1⟩
 ·have hI := zT1 hI (.v 1) (.c 97)
  have hI := zT1 hI (.v 1) (.c 65)
  have := zf1 (f78 (σ := Gv.σ) (.v 1))
  have u := zf7 (wn ((Gv.σ 1).headD 0))
  exact zm [] (.i (.c (-1)) ab6 .nil) af ak hI ze1
 ·rcases zl1 hI (.c 57) (.v 1) with ⟨hI, k2⟩ | ⟨hI, k2⟩
  ·rcases zl1 hI (.v 1) (.c 97) with ⟨hI, k3⟩ | ⟨hI, k3⟩
   ·rcases zl1 hI (.v 1) (.c 65) with ⟨hI, k4⟩ | ⟨hI, k4⟩
    ·have := zf1 (f78 (σ := Gv.σ) (.v 1))
     have u := zf7 (wn ((Gv.σ 1).headD 0))
     exact zm [] (.i (.c (-1)) ab6 .nil) af ak hI ze1
    ·rcases zl1 hI (.c 70) (.v 1) with ⟨hI, k5⟩ | ⟨hI, k5⟩
     ·have := zf1 (f78 (σ := Gv.σ) (.v 1))
      have u := zf7 (wn ((Gv.σ 1).headD 0))
      exact zm [] (.i (.c (-1)) ab6 .nil) af ak hI ze1
     ·have := zf1 (f78 (σ := Gv.σ) (.v 1))
      have u := zf7 (wn ((Gv.σ 1).headD 0))
      exact zm [] (.i (.bin 0 .i64 (.bin 1 .i64 (.v 1) (.c 65)) (.c 10)) ab6 .nil) af ak hI ze1
   ·rcases zl1 hI (.c 102) (.v 1) with ⟨hI, k4⟩ | ⟨hI, k4⟩
    ·have hI := zF1 hI (.v 1) (.c 65)
     have hI := zT1 hI (.c 70) (.v 1)
     have := zf1 (f78 (σ := Gv.σ) (.v 1))
     have u := zf7 (wn ((Gv.σ 1).headD 0))
     exact zm [] (.i (.c (-1)) ab6 .nil) af ak hI ze1
    ·have := zf1 (f78 (σ := Gv.σ) (.v 1))
     have u := zf7 (wn ((Gv.σ 1).headD 0))
     exact zm [] (.i (.bin 0 .i64 (.bin 1 .i64 (.v 1) (.c 97)) (.c 10)) ab6 .nil) af ak hI ze1
  ·have := zf1 (f78 (σ := Gv.σ) (.v 1))
   have u := zf7 (wn ((Gv.σ 1).headD 0))
   exact zm [] (.i (.bin 1 .i64 (.v 1) (.c 48)) ab6 .nil) af ak hI ze1
theorem b7e [Gv] : ap dgF := fun σ _ hA _ => (@b9s ⟨σ⟩  (aj hA).1) (aj hA).2
def smG [Gv] : Prop := (SAll Gv.σ [] → bh 95 smU 256 smI smR 256 smO)
theorem cao [Gv] (hI : SAll Gv.σ []) : smG := by
 rcases zq1 hI (.v 1) (.c 110) with ⟨hI, k1⟩ | ⟨hI, k1⟩
 ·have := zf1 (f77 (σ := Gv.σ) (.v 1))
  have u := zf7 (aht ((Gv.σ 1).headD 0))
  exact zm [] (.i (.c 10) aps .nil) af ak hI ze1
 ·rcases zq1 hI (.v 1) (.c 116) with ⟨hI, k2⟩ | ⟨hI, k2⟩
  ·have := zf1 (f77 (σ := Gv.σ) (.v 1))
   have u := zf7 (aht ((Gv.σ 1).headD 0))
   exact zm [] (.i (.c 9) aps .nil) af ak hI ze1
  ·rcases zq1 hI (.v 1) (.c 101) with ⟨hI, k3⟩ | ⟨hI, k3⟩
   ·have := zf1 (f77 (σ := Gv.σ) (.v 1))
    have u := zf7 (aht ((Gv.σ 1).headD 0))
    exact zm [] (.i (.c 27) aps .nil) af ak hI ze1
   ·have := zf1 (f77 (σ := Gv.σ) (.v 1))
    have u := zf7 (aht ((Gv.σ 1).headD 0))
    exact zm [] (.i (.c (-1)) aps .nil) af ak hI ze1
theorem bvn [Gv] : ap smF := fun σ _ hA _ => (@cao ⟨σ⟩  (aj hA).1) (aj hA).2
def b90 [Gv] : Prop := (SAll Gv.σ [] → bh 95 b68 256 b8e b7z 256 b8c)
theorem b5b [Gv] (hI : SAll Gv.σ []) : b90 := by
 have u := trivial
 exact zm0 [] af ak hI
theorem b2j [Gv] : ap b8l := fun σ _ hA _ => (@b5b ⟨σ⟩  (aj hA).1) (aj hA).2
def cbc [Gv] : Prop := (SAll Gv.σ [] → bh 95 b8v 256 b7d b87 256 b4s)
theorem b55 [Gv] (hI : SAll Gv.σ []) : cbc := by
 have u := trivial
 exact zm0 [] af ak hI
theorem b0c [Gv] : ap b7b := fun σ _ hA _ => (@b55 ⟨σ⟩  (aj hA).1) (aj hA).2
theorem sm3 [Gv] : ∀ t ∈ [b8l, b7b, smF], ap t := by
 intro t ht
 simp only [List.mem_cons, List.not_mem_nil, or_false] at ht
 rcases ht with rfl | rfl | rfl
 ·exact b2j
 ·exact b0c
 ·exact bvn
def cbe [Gv] : Prop := (SAll Gv.σ bn9 → bh 105 bsf 256 bte bt2 256 bu0) ∧ (SAll Gv.σ bnp → bh 105 bsf 256 bte byc 256 bw9)
theorem bvw [Gv] (hI : SAll Gv.σ []) : cbe := by
 rcases zl1 hI (.v 1) (.c 0) with ⟨hI, k1⟩ | ⟨hI, k1⟩
 ·have := zf1 (f79 (σ := Gv.σ) (.v 1))
  have u := zf7 (pj ((Gv.σ 1).headD 0))
  exact ⟨zn1,
   zm0 [] af ak hI⟩
 ·rcases zl1 hI (.c 1114111) (.v 1) with ⟨hI, k2⟩ | ⟨hI, k2⟩
  ·have := zf1 (f79 (σ := Gv.σ) (.v 1))
   have u := zf7 (pj ((Gv.σ 1).headD 0))
   exact ⟨zn1,
    zm0 [] af ak hI⟩
  ·rcases zl1 hI (.v 1) (.c 55296) with ⟨hI, k3⟩ | ⟨hI, k3⟩
   ·have := zf1 (f79 (σ := Gv.σ) (.v 1))
    have u := zf7 (pj ((Gv.σ 1).headD 0))
    exact ⟨zm0 [] af ak hI,
     zn1⟩
   ·rcases zl1 hI (.c 57343) (.v 1) with ⟨hI, k4⟩ | ⟨hI, k4⟩
    ·have := zf1 (f79 (σ := Gv.σ) (.v 1))
     have u := zf7 (pj ((Gv.σ 1).headD 0))
     exact ⟨zm0 [] af ak hI,
      zn1⟩
    ·have := zf1 (f79 (σ := Gv.σ) (.v 1))
     have u := zf7 (pj ((Gv.σ 1).headD 0))
     exact ⟨zn1,
      zm0 [] af ak hI⟩
theorem brg [Gv] : ap bwf := fun σ _ hA _ => (@bvw ⟨σ⟩  (aj hA).1).1 (aj hA).2
theorem bsg [Gv] : ap byq := fun σ _ hA _ => (@bvw ⟨σ⟩  (aj hA).1).2 (aj hA).2
theorem b7s {σ : Nat → List Int} (h : SAll σ (pI ++ ael)) : (gd (σ 0) ∧ 0 ≤ (σ 1).headD 0 ∧ (σ 1).headD 0 ≤ ((σ 0).length : Int) ∧ (σ 0).length ≤ 4000) ∧ 0 ≤ (σ 6).headD 0 ∧ (σ 6).headD 0 ≤ 6 := by
 refine ⟨qj (aj h).1, ?_⟩
 have := (aj h).2
 simp only [sall_cons, sF, evs] at this
 exact ⟨this.1, this.2.1⟩
theorem dg2 [Gv] : ∀ t ∈ [b6d, dgF], ap t := avr b08 b7e
def b0f [Gv] : Prop := (SAll Gv.σ [] → cg 94 5 b1v 260 b2v bzu 260 b1i)
theorem b7g [Gv] (hh : ∀ t ∈ [cdl (mLn)], ba t) (hI : SAll Gv.σ (pI ++ ael)) : b0f := by
 obtain ⟨⟨hR, hp0, hpl, hL⟩, hn0, hn6⟩ := b7s hI
 rcases zl1 hI (.v 6) (.c 6) with ⟨hI, k1⟩ | ⟨hI, k1⟩
 ·rcases zl1 hI ni (.len (.s 0)) with ⟨hI, k2⟩ | ⟨hI, k2⟩
  ·have hI := zF1 hI ni (.c 0)
   have := zf1 (pz hR ni)
   have hI := zF1 hI l8 (.c 0)
   have hI := zT1 hI l8 (.c 1114112)
   have := zf1 (f78 (σ := Gv.σ) l8)
   rcases zl1 hI a8w (.c 0) with ⟨hI, k6⟩ | ⟨hI, k6⟩
   ·have := zf1 (f80 hR (.v 1) (.v 5) (.v 6))
    have u := zf4 (aeu (Gv.σ 0) ((Gv.σ 1).headD 0) ((Gv.σ 5).headD 0) ((Gv.σ 6).headD 0))
    exact zt [] (.i (.v 5) aq4 (.i (.v 6) aqg (.i (.v 1) amh .nil))) (ag _ dg2) (ao _ hh) hI ze1
   ·have hI := zF1 hI eu (.c 0)
    have hI := zF1 hI (.len (.s 0)) eu
    have hI := zF1 hI am1 (.c 0)
    have hI := zF1 hI (.c 6) am1
    have hI := zT1 hI a9k a9g
    have hI := zF1 hI a9k (.c 0)
    have := zf1 (f80 hR eu bb8 am1)
    have := zf1 (f80 hR (.v 1) (.v 5) (.v 6))
    have u := zf4 (aeu (Gv.σ 0) ((Gv.σ 1).headD 0) ((Gv.σ 5).headD 0) ((Gv.σ 6).headD 0))
    exact zt [] (.i (.app 81 aw6) aq4 (.i (.app 82 aw6) aqg (.i (.app 80 aw6) amh .nil))) (ag _ dg2) (ao _ hh) hI ze1
  ·have := zf1 (f80 hR (.v 1) (.v 5) (.v 6))
   have u := zf4 (aeu (Gv.σ 0) ((Gv.σ 1).headD 0) ((Gv.σ 5).headD 0) ((Gv.σ 6).headD 0))
   exact zt [] (.i (.v 5) aq4 (.i (.v 6) aqg (.i (.v 1) amh .nil))) (ag _ dg2) (ao _ hh) hI ze1
 ·have := zf1 (f80 hR (.v 1) (.v 5) (.v 6))
  have u := zf4 (aeu (Gv.σ 0) ((Gv.σ 1).headD 0) ((Gv.σ 5).headD 0) ((Gv.σ 6).headD 0))
  exact zt [] (.i (.v 5) aq4 (.i (.v 6) aqg (.i (.v 1) amh .nil))) (ag _ dg2) (ao _ hh) hI ze1
theorem bdd : ∀ (B : Nat) (σ : Nat → List Int), SAll σ (pI ++ ael) → (mLn).eval σ < (B : Int) → @b0f ⟨σ⟩
 | 0, σ, hI, hb => by obtain ⟨h1, h2, h3, h4⟩ := qj (aj hI).1; simp only [mLn, evs, wr] at hb; omega
 | B + 1, σ, hI, hb => by
   have ih : ∀ σ' : Nat → List Int, SAll σ' (pI ++ ael) → 0 ≤ (mLn).eval σ' ∧ (mLn).eval σ' < (mLn).eval σ → @b0f ⟨σ'⟩ := fun σ' h h' => bdd B σ' h (by omega)
   have hh : ∀ t ∈ [cdl (mLn)], @ba ⟨σ⟩ t := by
    intro t ht
    simp only [List.mem_cons, List.not_mem_nil, or_false] at ht
    rcases ht with rfl
    ·exact fun σ' _ hA hb => (ih σ' (aj hA).1 hb) (aj hA).2
   exact @b7g ⟨σ⟩ hh hI
theorem ar8 [Gv] : ba cae := fun σ _ hA _ => (bdd (((mLn).eval σ).toNat + 1) σ (aj hA).1 (by omega)) (aj hA).2
theorem is2 [Gv] : ∀ t ∈ [bwf, byq], ap t := avr brg bsg
def caf [Gv] : Prop := (SAll Gv.σ bc7 → bh 94 bqk 260 bsh bv8 262 bya) ∧ (SAll Gv.σ bbn → bh 94 bqk 260 bsh bx7 262 bxv)
theorem bzc [Gv] (hI : SAll Gv.σ pI) : caf := by
 obtain ⟨hR, hp0, hpl, hL⟩ := qj hI
 have := zf1 (f80 hR (.v 1) (.c 0) (.c 0))
 rcases zl1 hI al6 (.len (.s 0)) with ⟨hI, k1⟩ | ⟨hI, k1⟩
 ·have hI := zF1 hI al6 (.c 0)
  have := zf1 (pz hR al6)
  have hI := zF1 hI be3 (.c 0)
  rcases zq1 hI (.app 82 az5) (.c 0) with ⟨hI, k4⟩ | ⟨hI, k4⟩
  ·have := zf1 (f83 hR (.v 1) (.v 3))
   have u := zf4 (ad9 (Gv.σ 0) ((Gv.σ 1).headD 0) ((Gv.σ 3).headD 0))
   exact ⟨zn1,
    zm [] (.i (.v 3) ah4 .nil) (ag _ is2) (ao _ (cu ar8)) hI ze1⟩
  ·rcases zq1 hI be3 (.c 92) with ⟨hI, k5⟩ | ⟨hI, k5⟩
   ·have := zf1 (f79 (σ := Gv.σ) awy)
    rcases zq1 hI (.app 79 (.i awy .nil)) (.c 1) with ⟨hI, k6⟩ | ⟨hI, k6⟩
    ·have := zf1 (f83 hR (.v 1) (.v 3))
     have u := zf4 (ad9 (Gv.σ 0) ((Gv.σ 1).headD 0) ((Gv.σ 3).headD 0))
     exact ⟨zm [] (.i awy bay (.i (.bin 0 .i64 ba6 (.c 1)) (.app 86 xh) .nil)) (ag _ is2) (ao _ (cu ar8)) hI ze1,
      zn1⟩
    ·have := zf1 (f83 hR (.v 1) (.v 3))
     have u := zf4 (ad9 (Gv.σ 0) ((Gv.σ 1).headD 0) ((Gv.σ 3).headD 0))
     exact ⟨zn1,
      zm [] (.i (.v 3) ah4 .nil) (ag _ is2) (ao _ (cu ar8)) hI ze1⟩
   ·have := zf1 (f83 hR (.v 1) (.v 3))
    have u := zf4 (ad9 (Gv.σ 0) ((Gv.σ 1).headD 0) ((Gv.σ 3).headD 0))
    exact ⟨zn1,
     zm [] (.i (.v 3) ah4 .nil) (ag _ is2) (ao _ (cu ar8)) hI ze1⟩
 ·have := zf1 (f83 hR (.v 1) (.v 3))
  have u := zf4 (ad9 (Gv.σ 0) ((Gv.σ 1).headD 0) ((Gv.σ 3).headD 0))
  exact ⟨zn1,
   zm [] (.i (.len (.s 0)) ah4 .nil) (ag _ is2) (ao _ (cu ar8)) hI ze1⟩
theorem bqp [Gv] : ap bxz := fun σ _ hA _ => (@bzc ⟨σ⟩  (aj hA).1).1 (aj hA).2
theorem btd [Gv] : ap bx8 := fun σ _ hA _ => (@bzc ⟨σ⟩  (aj hA).1).2 (aj hA).2
theorem es3 [Gv] : ∀ t ∈ [smF, bxz, bx8], ap t := by
 intro t ht
 simp only [List.mem_cons, List.not_mem_nil, or_false] at ht
 rcases ht with rfl | rfl | rfl
 ·exact bvn
 ·exact bqp
 ·exact btd
def cak [Gv] : Prop := (SAll Gv.σ bai → bh 81 brw 260 bra bwx 262 bwg) ∧ (SAll Gv.σ bdj → bh 81 brw 260 bra bzo 262 byh)
theorem bxf [Gv] (hI : SAll Gv.σ pI) : cak := by
 obtain ⟨hR, hp0, hpl, hL⟩ := qj hI
 rcases zl1 hI ni (.len (.s 0)) with ⟨hI, k1⟩ | ⟨hI, k1⟩
 ·have hI := zF1 hI ni (.c 0)
  have := zf1 (pz hR ni)
  have hI := zF1 hI l8 (.c 0)
  rcases zq1 hI l8 (.c 10) with ⟨hI, k4⟩ | ⟨hI, k4⟩
  ·have := zf1 (f87 hR (.v 1))
   have u := zf4 (ur (Gv.σ 0) ((Gv.σ 1).headD 0))
   exact ⟨zm [] (.i (.c (-1)) adf (.i eu ait .nil)) (ag _ es3) ak hI ze1,
    zn1⟩
  ·rcases zq1 hI l8 (.c 92) with ⟨hI, k5⟩ | ⟨hI, k5⟩
   ·have := zf1 (f87 hR (.v 1))
    have u := zf4 (ur (Gv.σ 0) ((Gv.σ 1).headD 0))
    exact ⟨zm [] (.i (.c 92) adf (.i eu ait .nil)) (ag _ es3) ak hI ze1,
     zn1⟩
   ·rcases zq1 hI l8 (.c 34) with ⟨hI, k6⟩ | ⟨hI, k6⟩
    ·have := zf1 (f87 hR (.v 1))
     have u := zf4 (ur (Gv.σ 0) ((Gv.σ 1).headD 0))
     exact ⟨zm [] (.i (.c 34) adf (.i eu ait .nil)) (ag _ es3) ak hI ze1,
      zn1⟩
    ·rcases zq1 hI l8 (.c 120) with ⟨hI, k7⟩ | ⟨hI, k7⟩
     ·have hI := zF1 hI eu (.c 0)
      have hI := zF1 hI (.len (.s 0)) eu
      have := zf1 (f83 hR eu azj)
      rcases zq1 hI (.app 83 an0) (.c 0) with ⟨hI, k10⟩ | ⟨hI, k10⟩
      ·have := zf1 (f87 hR (.v 1))
       have u := zf4 (ur (Gv.σ 0) ((Gv.σ 1).headD 0))
       exact ⟨zm [] (.i (.app 85 an0) adf (.i (.app 86 an0) ait .nil)) (ag _ es3) ak hI ze1,
        zn1⟩
      ·have := zf1 (f87 hR (.v 1))
       have u := zf4 (ur (Gv.σ 0) ((Gv.σ 1).headD 0))
       exact ⟨zn1,
        zm [] (.i (.app 84 an0) am5 .nil) (ag _ es3) ak hI ze1⟩
     ·have := zf1 (f77 (σ := Gv.σ) l8)
      rcases zl1 hI bet (.c 0) with ⟨hI, k8⟩ | ⟨hI, k8⟩
      ·have := zf1 (f87 hR (.v 1))
       have u := zf4 (ur (Gv.σ 0) ((Gv.σ 1).headD 0))
       exact ⟨zn1,
        zm [] (.i azj am5 .nil) (ag _ es3) ak hI ze1⟩
      ·have := zf1 (f87 hR (.v 1))
       have u := zf4 (ur (Gv.σ 0) ((Gv.σ 1).headD 0))
       exact ⟨zm [] (.i bet adf (.i eu ait .nil)) (ag _ es3) ak hI ze1,
        zn1⟩
 ·have := zf1 (f87 hR (.v 1))
  have u := zf4 (ur (Gv.σ 0) ((Gv.σ 1).headD 0))
  exact ⟨zn1,
   zm [] (.i (.len (.s 0)) am5 .nil) (ag _ es3) ak hI ze1⟩
theorem bp8 [Gv] : ap bwc := fun σ _ hA _ => (@bxf ⟨σ⟩  (aj hA).1).1 (aj hA).2
theorem btf [Gv] : ap bye := fun σ _ hA _ => (@bxf ⟨σ⟩  (aj hA).1).2 (aj hA).2
def mdG [Gv] : Prop := (SAll Gv.σ [] → bh 82 mdU 260 mdI mdR 260 mdO)
theorem b9l [Gv] (hI : SAll Gv.σ pI) : mdG := by
 obtain ⟨hR, hp0, hpl, hL⟩ := qj hI
 rcases zl1 hI ni (.len (.s 0)) with ⟨hI, k1⟩ | ⟨hI, k1⟩
 ·have hI := zF1 hI ni (.c 0)
  have := zf1 (pz hR ni)
  rcases zq1 hI l8 (.c 92) with ⟨hI, k3⟩ | ⟨hI, k3⟩
  ·rcases zl1 hI amx (.len (.s 0)) with ⟨hI, k4⟩ | ⟨hI, k4⟩
   ·have hI := zF1 hI amx (.c 0)
    have := zf1 (pz hR amx)
    rcases zq1 hI (.rd (.s 0) amx) (.c 45) with ⟨hI, k6⟩ | ⟨hI, k6⟩
    ·have hI := zT1 hI eu (.len (.s 0))
     have hI := zF1 hI eu (.c 0)
     have := zf1 (pz hR eu)
     rcases zq1 hI axr (.c 67) with ⟨hI, k9⟩ | ⟨hI, k9⟩
     ·have := zf1 (f94 hR (.v 1))
      have u := zf8 (uq (Gv.σ 0) ((Gv.σ 1).headD 0))
      exact zm [] (.i (.c 67108864) qu .nil) af ak hI ze1
     ·rcases zq1 hI axr (.c 77) with ⟨hI, k10⟩ | ⟨hI, k10⟩
      ·have := zf1 (f94 hR (.v 1))
       have u := zf8 (uq (Gv.σ 0) ((Gv.σ 1).headD 0))
       exact zm [] (.i (.c 134217728) qu .nil) af ak hI ze1
      ·rcases zq1 hI axr (.c 83) with ⟨hI, k11⟩ | ⟨hI, k11⟩
       ·have := zf1 (f94 hR (.v 1))
        have u := zf8 (uq (Gv.σ 0) ((Gv.σ 1).headD 0))
        exact zm [] (.i (.c 33554432) qu .nil) af ak hI ze1
       ·have := zf1 (f94 hR (.v 1))
        have u := zf8 (uq (Gv.σ 0) ((Gv.σ 1).headD 0))
        exact zm [] (.i (.c 0) qu .nil) af ak hI ze1
    ·have := zf1 (f94 hR (.v 1))
     have u := zf8 (uq (Gv.σ 0) ((Gv.σ 1).headD 0))
     exact zm [] (.i (.c 0) qu .nil) af ak hI ze1
   ·have := zf1 (f94 hR (.v 1))
    have u := zf8 (uq (Gv.σ 0) ((Gv.σ 1).headD 0))
    exact zm [] (.i (.c 0) qu .nil) af ak hI ze1
  ·have := zf1 (f94 hR (.v 1))
   have u := zf8 (uq (Gv.σ 0) ((Gv.σ 1).headD 0))
   exact zm [] (.i (.c 0) qu .nil) af ak hI ze1
 ·have := zf1 (f94 hR (.v 1))
  have u := zf8 (uq (Gv.σ 0) ((Gv.σ 1).headD 0))
  exact zm [] (.i (.c 0) qu .nil) af ak hI ze1
theorem bxm [Gv] : ap mdF := fun σ _ hA _ => (@b9l ⟨σ⟩  (aj hA).1) (aj hA).2
def b91 [Gv] : Prop := (SAll Gv.σ bdi → bh 83 bsr 260 bpx bxp 262 but) ∧ (SAll Gv.σ a8v → bh 83 bsr 260 bpx buk 262 bxn)
theorem bw6 [Gv] (hI : SAll Gv.σ pI) : b91 := by
 obtain ⟨hR, hp0, hpl, hL⟩ := qj hI
 rcases zl1 hI ni (.len (.s 0)) with ⟨hI, k1⟩ | ⟨hI, k1⟩
 ·have hI := zF1 hI ni (.c 0)
  have := zf1 (pz hR ni)
  have hI := zF1 hI l8 (.c 0)
  rcases zq1 hI l8 (.c 92) with ⟨hI, k4⟩ | ⟨hI, k4⟩
  ·rcases zl1 hI anh (.len (.s 0)) with ⟨hI, k5⟩ | ⟨hI, k5⟩
   ·have hI := zF1 hI anh (.c 0)
    have := zf1 (pz hR anh)
    have hI := zF1 hI md (.c 0)
    have := zf1 (f77 (σ := Gv.σ) md)
    rcases zl1 hI a8p (.c 0) with ⟨hI, k8⟩ | ⟨hI, k8⟩
    ·rcases zq1 hI md (.c 115) with ⟨hI, k9⟩ | ⟨hI, k9⟩
     ·have := zf1 (f97 hR (.v 1))
      have u := zf4 (ot (Gv.σ 0) ((Gv.σ 1).headD 0))
      exact ⟨zm [] (.i (.c 32) w8 (.i aeg abg .nil)) (ag _ sm3) ak hI ze1,
       zn1⟩
     ·rcases zq1 hI md (.c 100) with ⟨hI, k10⟩ | ⟨hI, k10⟩
      ·have := zf1 (f97 hR (.v 1))
       have u := zf4 (ot (Gv.σ 0) ((Gv.σ 1).headD 0))
       exact ⟨zm [] (.i (.c 127) w8 (.i aeg abg .nil)) (ag _ sm3) ak hI ze1,
        zn1⟩
      ·rcases zl1 hI md (.c 97) with ⟨hI, k11⟩ | ⟨hI, k11⟩
       ·rcases zl1 hI md (.c 65) with ⟨hI, k12⟩ | ⟨hI, k12⟩
        ·have := zf1 (f97 hR (.v 1))
         have u := zf4 (ot (Gv.σ 0) ((Gv.σ 1).headD 0))
         exact ⟨zm [] (.i md w8 (.i aeg abg .nil)) (ag _ sm3) ak hI ze1,
          zn1⟩
        ·rcases zl1 hI (.c 90) md with ⟨hI, k13⟩ | ⟨hI, k13⟩
         ·have := zf1 (f97 hR (.v 1))
          have u := zf4 (ot (Gv.σ 0) ((Gv.σ 1).headD 0))
          exact ⟨zm [] (.i md w8 (.i aeg abg .nil)) (ag _ sm3) ak hI ze1,
           zn1⟩
         ·have := zf1 (f97 hR (.v 1))
          have u := zf4 (ot (Gv.σ 0) ((Gv.σ 1).headD 0))
          exact ⟨zn1,
           zm [] (.i (.v 1) aje .nil) (ag _ sm3) ak hI ze1⟩
       ·rcases zl1 hI (.c 122) md with ⟨hI, k12⟩ | ⟨hI, k12⟩
        ·have hI := zF1 hI md (.c 65)
         have hI := zT1 hI (.c 90) md
         have := zf1 (f97 hR (.v 1))
         have u := zf4 (ot (Gv.σ 0) ((Gv.σ 1).headD 0))
         exact ⟨zm [] (.i md w8 (.i aeg abg .nil)) (ag _ sm3) ak hI ze1,
          zn1⟩
        ·have := zf1 (f97 hR (.v 1))
         have u := zf4 (ot (Gv.σ 0) ((Gv.σ 1).headD 0))
         exact ⟨zn1,
          zm [] (.i (.v 1) aje .nil) (ag _ sm3) ak hI ze1⟩
    ·have := zf1 (f97 hR (.v 1))
     have u := zf4 (ot (Gv.σ 0) ((Gv.σ 1).headD 0))
     exact ⟨zm [] (.i a8p w8 (.i aeg abg .nil)) (ag _ sm3) ak hI ze1,
      zn1⟩
   ·have := zf1 (f97 hR (.v 1))
    have u := zf4 (ot (Gv.σ 0) ((Gv.σ 1).headD 0))
    exact ⟨zn1,
     zm [] (.i (.len (.s 0)) aje .nil) (ag _ sm3) ak hI ze1⟩
  ·have := zf1 (f97 hR (.v 1))
   have u := zf4 (ot (Gv.σ 0) ((Gv.σ 1).headD 0))
   exact ⟨zm [] (.i l8 w8 (.i eu abg .nil)) (ag _ sm3) ak hI ze1,
    zn1⟩
 ·have := zf1 (f97 hR (.v 1))
  have u := zf4 (ot (Gv.σ 0) ((Gv.σ 1).headD 0))
  exact ⟨zn1,
   zm [] (.i (.len (.s 0)) aje .nil) (ag _ sm3) ak hI ze1⟩
theorem bsw [Gv] : ap byl := fun σ _ hA _ => (@bw6 ⟨σ⟩  (aj hA).1).1 (aj hA).2
theorem brc [Gv] : ap bwu := fun σ _ hA _ => (@bw6 ⟨σ⟩  (aj hA).1).2 (aj hA).2
def b3u [Gv] : Prop := (SAll Gv.σ [] → cg 61 4 b21 261 b1k b2p 261 b3t)
theorem b5q [Gv] (hh : ∀ t ∈ [mol (mLn)], ba t) (hI : SAll Gv.σ pI) : b3u := by
 obtain ⟨hR, hp0, hpl, hL⟩ := qj hI
 have := zf1 (f94 hR (.v 1))
 rcases zq1 hI qu (.c 0) with ⟨hI, k1⟩ | ⟨hI, k1⟩
 ·have := zf1 (f95 hR (.v 1) (.v 3))
  have u := zf9 (am3 (Gv.σ 0) ((Gv.σ 1).headD 0) ((Gv.σ 3).headD 0))
  exact zt [] (.i (.v 3) a0e (.i (.v 1) bbw .nil)) (ag _ (cu bxm)) (ao _ hh) hI ze1
 ·have hI := zF1 hI ah3 (.c 0)
  have hI := zF1 hI (.len (.s 0)) ah3
  have hI := zT1 hI a8x a9g
  have hI := zF1 hI a8x (.c 0)
  have := zf1 (f95 hR ah3 a9i)
  have := zf1 (f95 hR (.v 1) (.v 3))
  have u := zf9 (am3 (Gv.σ 0) ((Gv.σ 1).headD 0) ((Gv.σ 3).headD 0))
  exact zt [] (.i (.app 96 bah) a0e (.i (.app 95 bah) bbw .nil)) (ag _ (cu bxm)) (ao _ hh) hI ze1
theorem bef : ∀ (B : Nat) (σ : Nat → List Int), SAll σ pI → (mLn).eval σ < (B : Int) → @b3u ⟨σ⟩
 | 0, σ, hI, hb => by obtain ⟨h1, h2, h3, h4⟩ := qj hI; simp only [mLn, evs, wr] at hb; omega
 | B + 1, σ, hI, hb => by
   have ih : ∀ σ' : Nat → List Int, SAll σ' pI → 0 ≤ (mLn).eval σ' ∧ (mLn).eval σ' < (mLn).eval σ → @b3u ⟨σ'⟩ := fun σ' h h' => bef B σ' h (by omega)
   have hh : ∀ t ∈ [mol (mLn)], @ba ⟨σ⟩ t := by
    intro t ht
    simp only [List.mem_cons, List.not_mem_nil, or_false] at ht
    rcases ht with rfl
    ·exact fun σ' _ hA hb => (ih σ' (aj hA).1 hb) (aj hA).2
   exact @b5q ⟨σ⟩ hh hI
theorem oa [Gv] : ba cbh := fun σ _ hA _ => (bef (((mLn).eval σ).toNat + 1) σ (aj hA).1 (by omega)) (aj hA).2
theorem ch5 [Gv] : ∀ t ∈ [aey, ae4, byl, bwu], ap t := by
 intro t ht
 simp only [List.mem_cons, List.not_mem_nil, or_false] at ht
 rcases ht with rfl | rfl | rfl | rfl
 ·exact avj
 ·exact axm
 ·exact bsw
 ·exact brc
theorem b7u {σ : Nat → List Int} (h : SAll σ (pI ++ am8)) : (gd (σ 0) ∧ 0 ≤ (σ 1).headD 0 ∧ (σ 1).headD 0 ≤ ((σ 0).length : Int) ∧ (σ 0).length ≤ 4000) ∧ (σ 1).headD 0 < ((σ 0).length : Int) := by
 refine ⟨qj (aj h).1, ?_⟩
 have := (aj h).2
 simp only [sall_cons, sT, evs] at this
 exact this.1
def b9z [Gv] : Prop := (SAll Gv.σ bch → bh 61 bp6 260 bp4 bwe 266 bvt) ∧ (SAll Gv.σ a9z → bh 61 bp6 260 bp4 byz 266 bv7)
theorem bvh [Gv] (hI : SAll Gv.σ (pI ++ am8)) : b9z := by
 obtain ⟨⟨hR, hp0, hpl, hL⟩, hlt⟩ := b7u hI
 have hI := zF1 hI eu (.c 0)
 have hI := zF1 hI (.len (.s 0)) eu
 have := zf1 (f95 hR eu (.c 0))
 have hI := zF1 hI al9 (.c 0)
 have hI := zF1 hI (.len (.s 0)) al9
 have := zf1 (f97 hR al9)
 rcases zq1 hI (.app 97 am0) (.c 0) with ⟨hI, k5⟩ | ⟨hI, k5⟩
 ·rcases zl1 hI al8 (.len (.s 0)) with ⟨hI, k6⟩ | ⟨hI, k6⟩
  ·have hI := zF1 hI al8 (.c 0)
   have := zf1 (pz hR al8)
   have hI := zF1 hI bab (.c 0)
   rcases zq1 hI (.app 41 (.i bab .nil)) (.c 1) with ⟨hI, k9⟩ | ⟨hI, k9⟩
   ·rcases zq1 hI a8i (.c 0) with ⟨hI, k10⟩ | ⟨hI, k10⟩
    ·have u := aev (gk (Gv.σ 0) ((Gv.σ 1).headD 0))
     exact ⟨zm [] (.i xc kr (.i j1 mi .nil)) (ag _ ch5) (ao _ (cu oa)) hI ze1,
      zn1⟩
    ·rcases zl1 hI gu (.c 97) with ⟨hI, k11⟩ | ⟨hI, k11⟩
     ·rcases zl1 hI gu (.c 64) with ⟨hI, k12⟩ | ⟨hI, k12⟩
      ·rcases zq1 hI gu (.c 63) with ⟨hI, k13⟩ | ⟨hI, k13⟩
       ·have u := aev (gk (Gv.σ 0) ((Gv.σ 1).headD 0))
        exact ⟨zm [] (.i bbm kr (.i j1 mi .nil)) (ag _ ch5) (ao _ (cu oa)) hI ze1,
         zn1⟩
       ·have u := aev (gk (Gv.σ 0) ((Gv.σ 1).headD 0))
        exact ⟨zm [] (.i xc kr (.i j1 mi .nil)) (ag _ ch5) (ao _ (cu oa)) hI ze1,
         zn1⟩
      ·rcases zl1 hI (.c 95) gu with ⟨hI, k13⟩ | ⟨hI, k13⟩
       ·have hI := zN1 hI gu (.c 63)
        have u := aev (gk (Gv.σ 0) ((Gv.σ 1).headD 0))
        exact ⟨zm [] (.i xc kr (.i j1 mi .nil)) (ag _ ch5) (ao _ (cu oa)) hI ze1,
         zn1⟩
       ·have u := aev (gk (Gv.σ 0) ((Gv.σ 1).headD 0))
        exact ⟨zm [] (.i ami kr (.i j1 mi .nil)) (ag _ ch5) (ao _ (cu oa)) hI ze1,
         zn1⟩
     ·rcases zl1 hI (.c 122) gu with ⟨hI, k12⟩ | ⟨hI, k12⟩
      ·have hI := zF1 hI gu (.c 64)
       have hI := zT1 hI (.c 95) gu
       have hI := zN1 hI gu (.c 63)
       have u := aev (gk (Gv.σ 0) ((Gv.σ 1).headD 0))
       exact ⟨zm [] (.i xc kr (.i j1 mi .nil)) (ag _ ch5) (ao _ (cu oa)) hI ze1,
        zn1⟩
      ·have u := aev (gk (Gv.σ 0) ((Gv.σ 1).headD 0))
       exact ⟨zm [] (.i ami kr (.i j1 mi .nil)) (ag _ ch5) (ao _ (cu oa)) hI ze1,
        zn1⟩
   ·have u := aev (gk (Gv.σ 0) ((Gv.σ 1).headD 0))
    exact ⟨zn1,
     zm [] (.i j1 a0h .nil) (ag _ ch5) (ao _ (cu oa)) hI ze1⟩
  ·rcases zq1 hI a8i (.c 0) with ⟨hI, k7⟩ | ⟨hI, k7⟩
   ·have u := aev (gk (Gv.σ 0) ((Gv.σ 1).headD 0))
    exact ⟨zm [] (.i xc kr (.i j1 mi .nil)) (ag _ ch5) (ao _ (cu oa)) hI ze1,
     zn1⟩
   ·rcases zl1 hI gu (.c 97) with ⟨hI, k8⟩ | ⟨hI, k8⟩
    ·rcases zl1 hI gu (.c 64) with ⟨hI, k9⟩ | ⟨hI, k9⟩
     ·rcases zq1 hI gu (.c 63) with ⟨hI, k10⟩ | ⟨hI, k10⟩
      ·have u := aev (gk (Gv.σ 0) ((Gv.σ 1).headD 0))
       exact ⟨zm [] (.i bbm kr (.i j1 mi .nil)) (ag _ ch5) (ao _ (cu oa)) hI ze1,
        zn1⟩
      ·have u := aev (gk (Gv.σ 0) ((Gv.σ 1).headD 0))
       exact ⟨zm [] (.i xc kr (.i j1 mi .nil)) (ag _ ch5) (ao _ (cu oa)) hI ze1,
        zn1⟩
     ·rcases zl1 hI (.c 95) gu with ⟨hI, k10⟩ | ⟨hI, k10⟩
      ·have hI := zN1 hI gu (.c 63)
       have u := aev (gk (Gv.σ 0) ((Gv.σ 1).headD 0))
       exact ⟨zm [] (.i xc kr (.i j1 mi .nil)) (ag _ ch5) (ao _ (cu oa)) hI ze1,
        zn1⟩
      ·have u := aev (gk (Gv.σ 0) ((Gv.σ 1).headD 0))
       exact ⟨zm [] (.i ami kr (.i j1 mi .nil)) (ag _ ch5) (ao _ (cu oa)) hI ze1,
        zn1⟩
    ·rcases zl1 hI (.c 122) gu with ⟨hI, k9⟩ | ⟨hI, k9⟩
     ·have hI := zF1 hI gu (.c 64)
      have hI := zT1 hI (.c 95) gu
      have hI := zN1 hI gu (.c 63)
      have u := aev (gk (Gv.σ 0) ((Gv.σ 1).headD 0))
      exact ⟨zm [] (.i xc kr (.i j1 mi .nil)) (ag _ ch5) (ao _ (cu oa)) hI ze1,
       zn1⟩
     ·have u := aev (gk (Gv.σ 0) ((Gv.σ 1).headD 0))
      exact ⟨zm [] (.i ami kr (.i j1 mi .nil)) (ag _ ch5) (ao _ (cu oa)) hI ze1,
       zn1⟩
 ·have u := aev (gk (Gv.σ 0) ((Gv.σ 1).headD 0))
  exact ⟨zn1,
   zm [] (.i (.app 98 am0) a0h .nil) (ag _ ch5) (ao _ (cu oa)) hI ze1⟩
theorem bre [Gv] : ap a37 := fun σ _ hA _ => (@bvh ⟨σ⟩  (aj hA).1).1 (aj hA).2
theorem bpu [Gv] : ap a3d := fun σ _ hA _ => (@bvh ⟨σ⟩  (aj hA).1).2 (aj hA).2
end Go.Ev
