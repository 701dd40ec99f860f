import Derived.Test.YtkfdioikigponaaGreatDoorRaK
set_option maxRecDepth 100000
set_option linter.all false
namespace Go.Ev
abbrev an9 : AL := .g (.s 5) (.g (.s 4) .nil)
abbrev za : AL := .g (.s 0) (.i (.v 1) (.i (.v 2) an9))
abbrev axp : SE := .app 42 (.g (.s 0) .nil)
abbrev ahy : List SA := [.mk false axp (.c 1) true, .mk true (.v 1) (.c 0) false, .mk true (.len (.s 0)) (.v 1) false, .mk true (.v 2) (.c 0) false, .mk true (.c 200) (.v 2) false]
abbrev ayu : SE := .app 60 za
abbrev axg : List SA := [.mk false ayu (.c 0) true]
abbrev az3 : List SA := [.mk false ayu (.c 0) false]
abbrev bd8 : AL := .i (.c 0) an9
abbrev aa6 : AL := .g (.s 0) (.i (.v 1) (.i (.v 2) (.i (.v 3) (.i (.c 0) (.i (.c 1) bd8)))))
abbrev ahf : SE := .bin 1 .i64 (.v 2) (.c 1)
abbrev acv : List SA := [.mk false axp (.c 1) true, .mk true (.v 1) (.c 0) false, .mk true (.len (.s 0)) (.v 1) false, .mk true (.v 2) (.c 0) false, .mk true (.c 200) (.v 2) false, .mk true (.v 2) (.c 1) false]
abbrev aov : SE := .app 65 aa6
abbrev a3s : List SA := [.mk false aov (.c 0) true]
abbrev a4u : List SA := [.mk false aov (.c 0) false]
abbrev vm : AL := .g (.s 0) (.i (.v 1) (.i (.v 2) (.i (.v 3) (.i (.v 6) (.i (.v 7) (.i (.v 8) an9))))))
abbrev ab0 : List SA := [.mk false axp (.c 1) true, .mk true (.v 1) (.c 0) false, .mk true (.len (.s 0)) (.v 1) false, .mk true (.v 2) (.c 0) false, .mk true (.c 200) (.v 2) false, .mk true (.v 2) (.c 1) false, .mk true (.v 6) (.c 1) false, .mk true (.v 1) (.v 6) false]
abbrev arm : SE := .app 65 vm
abbrev a4x : List SA := [.mk false arm (.c 0) true]
abbrev a4t : List SA := [.mk false arm (.c 0) false]
abbrev yp : AL := .g (.s 0) (.i (.v 1) (.i (.v 2) (.i (.v 3) bd8)))
abbrev aot : SE := .app 70 yp
abbrev a3z : List SA := [.mk false aot (.c 0) true]
abbrev a0u : List SA := [.mk false aot (.c 0) false]
abbrev ya : AL := .g (.s 0) (.i (.v 1) (.i (.v 2) (.i (.v 3) (.i (.v 6) an9))))
abbrev asb : SE := .app 70 ya
abbrev a4f : List SA := [.mk false asb (.c 0) true]
abbrev a4w : List SA := [.mk false asb (.c 0) false]
noncomputable section
def mF : SE := .bin 6 .i64 (.bin 7 .i64 (.c 2) mLn) (.c 1)
def mG : SE := .bin 6 .i64 (.bin 7 .i64 (.c 2) mLn) (.c 2)
def frL (p o : SE) (h g : GE) (kj : Nat) : List HO := [rdO 256 258 259 257 p o, rwO 257, hpG 258 h] ++ ae0 259 kj 261 g
def bg7 : List AV := [.ptr (K.of 256) 0]
def bgp : List HO := frL (.v 1) (.v 2) (.s 5) (.s 4) 260
def bnb : List HO := frL (.app 64 za) (.v 2) (.app 60 za) (.app 61 za) 262
def bjb : TR := .ret (.agg [.sym .i64 (.app 62 za) [], .sym .i64 (.app 63 za) []])
def aok (m : SE) : TM := .mk 37 bg7 262 bgp (ahy ++ axg) (some (mF, m)) bjb 263 bnb
def bjs : TM := .mk 37 bg7 262 bgp (ahy ++ axg) none bjb 263 bnb
def bix : List HO := []
def bov : TR := .pan [.mk (.iface 34 (.agg [.sym .i64 ayu [], .sym .i64 (.app 61 za) []])) false]
def apq (m : SE) : TM := .mk 37 bg7 262 bgp (ahy ++ az3) (some (mF, m)) bov 263 bix
def bl5 : TM := .mk 37 bg7 262 bgp (ahy ++ az3) none bov 263 bix
def bsx : List AV := [.ptr (K.of 256) 0, .top, .ptr (K.of 262) 0, sy 3, .nilSlice, .ptr (K.of 264) 0] ++ tps 84
def bpm : List HO := (frL (.v 1) (.v 2) (.s 5) (.s 4) 260 ++ [bxO 262 .top .top, bxO 264 (.int .i64 1) (.int .i64 0)])
def bxo : List HO := (frL (.app 69 aa6) ahf (.app 65 aa6) (.app 66 aa6) 266 ++ [bxO 262 (.sym .i64 (.app 67 aa6) []) (.sym .i64 (.app 68 aa6) [])])
def byv : LR := (.r ([.ptr (K.of 256) 0, .top, .ptr (K.of 262) 0] ++ tps 87))
def b2q (m : SE) : LT := .mk 57 4 bsx 266 bpm (acv ++ a3s) (some (mG, m)) byv 270 bxo
def bwh : List HO := []
def bu7 : LR := (.p [.mk (.iface 34 (.agg [.sym .i64 aov [], .sym .i64 (.app 66 aa6) []])) false] (tps 90))
def bz1 (m : SE) : LT := .mk 57 4 bsx 266 bpm (acv ++ a4u) (some (mG, m)) bu7 270 bwh
def brn : List AV := [.ptr (K.of 256) 0, .top, .ptr (K.of 262) 0, sy 3, .gv (.sl (K.of 265) 2 (.v 6) []), .ptr (K.of 264) 0] ++ tps 84
def btc : List HO := (frL (.v 1) (.v 2) (.s 5) (.s 4) 260 ++ [bxO 262 .top .top, bxO 264 (sy 7) (sy 8), wds 265 (.v 6) (.s 10)])
def buj : List HO := (frL (.app 69 vm) ahf (.app 65 vm) (.app 66 vm) 266 ++ [bxO 262 (.sym .i64 (.app 67 vm) []) (.sym .i64 (.app 68 vm) [])])
def bxw : LR := (.r ([.ptr (K.of 256) 0, .top, .ptr (K.of 262) 0] ++ tps 87))
def bf1 (m : SE) : LT := .mk 57 4 brn 266 btc (ab0 ++ a4x) (some (mG, m)) bxw 270 buj
def bu2 : List HO := []
def by2 : LR := (.p [.mk (.iface 34 (.agg [.sym .i64 arm [], .sym .i64 (.app 66 vm) []])) false] (tps 90))
def bhq (m : SE) : LT := .mk 57 4 brn 266 btc (ab0 ++ a4t) (some (mG, m)) by2 270 bu2
def bs0 : List AV := [.ptr (K.of 256) 0, .top, .ptr (K.of 262) 0, sy 3, .nilSlice] ++ tps 49
def btb : List HO := (frL (.v 1) (.v 2) (.s 5) (.s 4) 260 ++ [bxO 262 .top .top])
def bxs : List HO := (frL (.app 73 yp) ahf (.app 70 yp) (.app 71 yp) 266 ++ [bxO 262 (.int .i64 4) (.sym .i64 (.app 72 yp) [])])
def bxj : LR := (.r ([.ptr (K.of 256) 0, .top, .ptr (K.of 262) 0] ++ tps 51))
def b04 (m : SE) : LT := .mk 58 4 bs0 266 btb (acv ++ a3z) (some (mG, m)) bxj 270 bxs
def buq : List HO := []
def bu4 : LR := (.p [.mk (.iface 34 (.agg [.sym .i64 aot [], .sym .i64 (.app 71 yp) []])) false] (tps 54))
def b2h (m : SE) : LT := .mk 58 4 bs0 266 btb (acv ++ a0u) (some (mG, m)) bu4 270 buq
def bq3 : List AV := [.ptr (K.of 256) 0, .top, .ptr (K.of 262) 0, sy 3, .gv (.sl (K.of 265) 2 (.v 6) [])] ++ tps 49
def bta : List HO := (frL (.v 1) (.v 2) (.s 5) (.s 4) 260 ++ [bxO 262 .top .top, wds 265 (.v 6) (.s 10)])
def bvv : List HO := (frL (.app 73 ya) ahf (.app 70 ya) (.app 71 ya) 266 ++ [bxO 262 (.int .i64 4) (.sym .i64 (.app 72 ya) [])])
def bv6 : LR := (.r ([.ptr (K.of 256) 0, .top, .ptr (K.of 262) 0] ++ tps 51))
def bg6 (m : SE) : LT := .mk 58 4 bq3 266 bta (ab0 ++ a4f) (some (mG, m)) bv6 270 bvv
def bx4 : List HO := []
def bvl : LR := (.p [.mk (.iface 34 (.agg [.sym .i64 asb [], .sym .i64 (.app 71 ya) []])) false] (tps 54))
def bfh (m : SE) : LT := .mk 58 4 bq3 266 bta (ab0 ++ a4w) (some (mG, m)) bvl 270 bx4
end
section
variable {σ : Nat → List Int}
theorem bz4 (c : Int) : (xu c = 0 ∨ xu c = 1) ∧ (xu c = 1 → c = 40 ∨ c = 41 ∨ c = 91 ∨ c = 93 ∨ c = 34 ∨ c = 39 ∨ c = 96 ∨ c = 44 ∨ c = 59 ∨ ape c = 1) := by
 rw [jd]
 split
 ·exact ⟨.inr rfl, fun _ => by assumption⟩
 ·exact ⟨.inl rfl, fun h => absurd h (by decide)⟩
theorem b0t (a : SE) : 0 ≤ (SE.app 41 (.i a .nil)).eval σ ∧ (SE.app 41 (.i a .nil)).eval σ ≤ 1 := by
 have h : xu (a.eval σ) = 0 ∨ xu (a.eval σ) = 1 := (bz4 _).1
 show 0 ≤ xu (a.eval σ) ∧ xu (a.eval σ) ≤ 1
 omega
theorem b9g (R : List Int) (p : Int) (h1 : p < (R.length : Int)) (h2 : ape (R.getD p.toNat 0) = 0) (h3 : ¬ (R.getD p.toNat 0 = 40 ∨ R.getD p.toNat 0 = 41 ∨ R.getD p.toNat 0 = 91 ∨ R.getD p.toNat 0 = 93 ∨ R.getD p.toNat 0 = 34 ∨ R.getD p.toNat 0 = 39 ∨ R.getD p.toNat 0 = 96 ∨ R.getD p.toNat 0 = 44 ∨ R.getD p.toNat 0 = 59)) : alm R p = 0 := by
 rw [bg, if_pos h1, jd, if_neg (by omega)]
theorem bmr (R : List Int) (p b : Int) (h : (R.length : Int) ≤ p) : ae R p b = p := by rw [dy, if_neg (by omega)]
theorem ax (R : List Int) (p o : Int) (h G : List Int) (hp : (R.length : Int) ≤ p) : al R p o h G = ⟨5, (R.length : Int), 0, 0, 0, [], []⟩ := by
 rw [av, bmr R p 0 hp, if_neg (by omega)]; rfl
theorem bjl (R : List Int) (p o : Int) (h G : List Int) (hp : p < (R.length : Int)) (h0 : 0 ≤ p) (h46 : R.getD p.toNat 0 = 46) (hs : p + 1 < (R.length : Int) → xu (R.getD (p + 1).toNat 0) = 1) : (al R p o h G).f = 5 := by
 have hsk : ae R p 0 = p := by
  rw [dy, if_pos hp, if_neg (by decide), h46, if_neg (by decide), if_neg (by decide)]
 have hc : chA R p = 46 := by rw [br, if_pos hp, h46]
 have ht : nw R p [] 0 = ⟨0, p + 1, [46], 0⟩ := by
  rw [dg, if_pos hp, h46, if_neg (by decide), if_neg (by decide), dg]
  by_cases h1 : p + 1 < (R.length : Int)
  ·rw [if_pos h1, if_pos (hs h1)]; rfl
  ·rw [if_neg h1]; rfl
 rw [av, hsk, if_pos hp, hc]
 simp only [show ¬ ((46 : Int) = 40) by decide, show ¬ ((46 : Int) = 91) by decide, show ¬ ((46 : Int) = 41 ∨ (46 : Int) = 93) by decide, show ¬ ((46 : Int) = 34) by decide, show ¬ ((46 : Int) = 63) by decide, show ¬ ((46 : Int) = 39 ∨ (46 : Int) = 96) by decide, show ¬ ((46 : Int) = 44) by decide, show ¬ ((46 : Int) = 35) by decide, if_false]
 rw [ht]
 have hk : afk [46] = 0 := by decide +kernel
 unfold ave
 simp only [hk]
 rfl
def e46 (b : List Int) : Int := if b = [46] then 1 else 0
theorem vj (b : List Int) (i : Decidable (b = [46])) : @ite Int (b = [46]) i 1 0 = e46 b := by
 unfold e46
 by_cases h : b = [46]
 ·rw [if_pos h, if_pos h]
 ·rw [if_neg h, if_neg h]
theorem b8k (b : List Int) : e46 b = 1 ↔ b = [46] := by
 unfold e46
 by_cases h : b = [46]
 ·rw [if_pos h]; exact ⟨fun _ => h, fun _ => rfl⟩
 ·rw [if_neg h]; exact ⟨fun e => absurd e (by decide), fun e => absurd e h⟩
theorem bm (t : TK) (len q : Int) (h G : List Int) : ave t len q h G = if t.f = 0 then
  if t.q = 0 ∧ afk t.b = 2 then bad 15 q
  else if t.q = 0 ∧ afk t.b = 1 then ⟨0, 0, 0, a42 t.b, t.p, h, G⟩
  else if t.q = 0 ∧ e46 t.b = 1 then bad 5 q
  else if 1000 < tq t.b 0 then bad 4 q
  else akm G t.b q t.p h
 else bad 5 len := by
 rw [bpp]
 simp only [b8k]
theorem ali (a o : SE) (h g : GE) : a.eval σ < (SE.len (.s 0)).eval σ → 0 ≤ a.eval σ → (σ 0).getD (a.eval σ).toNat 0 = 46 → (a.eval σ + 1 < (SE.len (.s 0)).eval σ → xu ((σ 0).getD (a.eval σ + 1).toNat 0) = 1) → (SE.app 60 (.g (.s 0) (.i a (.i o (.g h (.g g .nil)))))).eval σ = 5 := fun h1 h2 h3 h4 => bjl _ _ _ _ _ h1 h2 h3 h4
theorem acd : (GE.lit 1 46).eval σ = [46] := by
 simp only [GE.eval]
 decide +kernel
theorem bh6 (h : SAll σ ahy) : (gd (σ 0) ∧ 0 ≤ (σ 1).headD 0 ∧ (σ 1).headD 0 ≤ ((σ 0).length : Int) ∧ (σ 0).length ≤ 4000) ∧ 0 ≤ (σ 2).headD 0 ∧ (σ 2).headD 0 ≤ 200 := by
 simp only [sall_cons, s42, sF, evs] at h
 exact ⟨⟨h.1, h.2.1, h.2.2.1, h.1.1⟩, h.2.2.2.1, h.2.2.2.2.1⟩
theorem a7h (h : SAll σ acv) : (gd (σ 0) ∧ 0 ≤ (σ 1).headD 0 ∧ (σ 1).headD 0 ≤ ((σ 0).length : Int) ∧ (σ 0).length ≤ 4000) ∧ 1 ≤ (σ 2).headD 0 ∧ (σ 2).headD 0 ≤ 200 := by
 simp only [sall_cons, s42, sF, evs] at h
 exact ⟨⟨h.1, h.2.1, h.2.2.1, h.1.1⟩, h.2.2.2.2.2.1, h.2.2.2.2.1⟩
theorem a5w (h : SAll σ ab0) : (gd (σ 0) ∧ 0 ≤ (σ 1).headD 0 ∧ (σ 1).headD 0 ≤ ((σ 0).length : Int) ∧ (σ 0).length ≤ 4000) ∧ (1 ≤ (σ 2).headD 0 ∧ (σ 2).headD 0 ≤ 200) ∧ 1 ≤ (σ 6).headD 0 ∧ (σ 6).headD 0 ≤ (σ 1).headD 0 := by
 simp only [sall_cons, s42, sF, evs] at h
 exact ⟨⟨h.1, h.2.1, h.2.2.1, h.1.1⟩, ⟨h.2.2.2.2.2.1, h.2.2.2.2.1⟩, h.2.2.2.2.2.2.1, h.2.2.2.2.2.2.2.1⟩
end
theorem hkf [Gv] : ∀ t ∈ [acp, aey, ae4, bfm, a37, a3d, bmx, bkt, bo2, rcF, a3m, a0s, a3a, a21, wm, xf, aiu], ap t := by
 intro t ht
 simp only [List.mem_cons, List.not_mem_nil, or_false] at ht
 rcases ht with rfl | rfl | rfl | rfl | rfl | rfl | rfl | rfl | rfl | rfl | rfl | rfl | rfl | rfl | rfl | rfl | rfl
 ·exact apl
 ·exact avj
 ·exact axm
 ·exact bms
 ·exact bre
 ·exact bpu
 ·exact b0d
 ·exact b3a
 ·exact b3h
 ·exact bkw
 ·exact brd
 ·exact bst
 ·exact bqs
 ·exact bqq
 ·exact bb7
 ·exact bbx
 ·exact bnj
theorem lpf [Gv] : ∀ t ∈ [ar4, aoz, a0x, a1f, a1u, a2o], ba t := by
 intro t ht
 simp only [List.mem_cons, List.not_mem_nil, or_false] at ht
 rcases ht with rfl | rfl | rfl | rfl | rfl | rfl
 ·exact bnz
 ·exact bim
 ·exact bqr
 ·exact bqh
 ·exact bp2
 ·exact bp5
theorem hkl [Gv] : ∀ t ∈ [acp, aey, ae4, wm, xf, aiu, afe, aff, ae6, ae8], ap t := by
 intro t ht
 simp only [List.mem_cons, List.not_mem_nil, or_false] at ht
 rcases ht with rfl | rfl | rfl | rfl | rfl | rfl | rfl | rfl | rfl | rfl
 ·exact apl
 ·exact avj
 ·exact axm
 ·exact bb7
 ·exact bbx
 ·exact bnj
 ·exact br3
 ·exact btq
 ·exact bs9
 ·exact brz
def b48 [Gv] : Prop := (SAll Gv.σ axg → bh 37 bg7 262 bgp bjb 263 bnb) ∧ (SAll Gv.σ az3 → bh 37 bg7 262 bgp bov 263 bix)
def b62 [Gv] : Prop := (SAll Gv.σ a3s → cg 57 4 bsx 266 bpm byv 270 bxo) ∧ (SAll Gv.σ a4u → cg 57 4 bsx 266 bpm bu7 270 bwh)
def b72 [Gv] : Prop := (SAll Gv.σ a4x → cg 57 4 brn 266 btc bxw 270 buj) ∧ (SAll Gv.σ a4t → cg 57 4 brn 266 btc by2 270 bu2)
def b7v [Gv] : Prop := (SAll Gv.σ a3z → cg 58 4 bs0 266 btb bxj 270 bxs) ∧ (SAll Gv.σ a0u → cg 58 4 bs0 266 btb bu4 270 buq)
def b6w [Gv] : Prop := (SAll Gv.σ a4f → cg 58 4 bq3 266 bta bv6 270 bvv) ∧ (SAll Gv.σ a4w → cg 58 4 bq3 266 bta bvl 270 bx4)
end Go.Ev
