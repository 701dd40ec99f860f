import Derived.Test.YtkfdioikigponaaGreatDoorRaK
set_option maxRecDepth 100000
set_option linter.all false
namespace Go.Ev
abbrev am7 : AL := .g (.s 5) (.g (.s 4) .nil)
abbrev aas : AL := .g (.s 0) (.i (.v 1) (.i (.v 2) am7))
abbrev avu : SE := .app 42 (.g (.s 0) .nil)
abbrev avx : List SA := [.mk false avu (.c 1) true, .mk true (.v 1) (.c 0) false, .mk true (.len (.s 0)) (.v 1) false, .mk true (.v 2) (.c 0) false, .mk true (.c 200) (.v 2) false]
abbrev azz : SE := .app 60 aas
abbrev bdl : List SA := [.mk false azz (.c 0) true]
abbrev bdk : List SA := [.mk false azz (.c 0) false]
abbrev a90 : AL := .i (.c 0) am7
abbrev aa4 : AL := .g (.s 0) (.i (.v 1) (.i (.v 2) (.i (.v 3) (.i (.c 0) (.i (.c 1) a90)))))
abbrev ag7 : SE := .bin 1 .i64 (.v 2) (.c 1)
abbrev ab4 : List SA := [.mk false avu (.c 1) true, .mk true (.v 1) (.c 0) false, .mk true (.len (.s 0)) (.v 1) false, .mk true (.v 2) (.c 0) false, .mk true (.c 200) (.v 2) false, .mk true (.v 2) (.c 1) false]
abbrev aq6 : SE := .app 65 aa4
abbrev a3i : List SA := [.mk false aq6 (.c 0) true]
abbrev a2p : List SA := [.mk false aq6 (.c 0) false]
abbrev vh : AL := .g (.s 0) (.i (.v 1) (.i (.v 2) (.i (.v 3) (.i (.v 6) (.i (.v 7) (.i (.v 8) am7))))))
abbrev acr : List SA := [.mk false avu (.c 1) true, .mk true (.v 1) (.c 0) false, .mk true (.len (.s 0)) (.v 1) false, .mk true (.v 2) (.c 0) false, .mk true (.c 200) (.v 2) false, .mk true (.v 2) (.c 1) false, .mk true (.v 6) (.c 1) false, .mk true (.v 1) (.v 6) false]
abbrev asi : SE := .app 65 vh
abbrev a3q : List SA := [.mk false asi (.c 0) true]
abbrev a2h : List SA := [.mk false asi (.c 0) false]
abbrev ya : AL := .g (.s 0) (.i (.v 1) (.i (.v 2) (.i (.v 3) a90)))
abbrev ar8 : SE := .app 70 ya
abbrev a08 : List SA := [.mk false ar8 (.c 0) true]
abbrev a0y : List SA := [.mk false ar8 (.c 0) false]
abbrev x8 : AL := .g (.s 0) (.i (.v 1) (.i (.v 2) (.i (.v 3) (.i (.v 6) am7))))
abbrev aq4 : SE := .app 70 x8
abbrev az8 : List SA := [.mk false aq4 (.c 0) true]
abbrev a4e : List SA := [.mk false aq4 (.c 0) false]
noncomputable section
def mF : SE := .bin 6 .i64 (.bin 7 .i64 (.c 2) mLn) (.c 1)
def mG : SE := .bin 6 .i64 (.bin 7 .i64 (.c 2) mLn) (.c 2)
def frL (p o : SE) (h g : GE) (kj : Nat) : List HO := [rdO 256 258 259 257 p o, rwO 257, hpG 258 h] ++ akf 259 kj 261 g
def brm : List AV := [.ptr (K.of 256) 0]
def bov : List HO := frL (.v 1) (.v 2) (.s 5) (.s 4) 260
def bw7 : List HO := frL (.app 64 aas) (.v 2) (.app 60 aas) (.app 61 aas) 262
def by4 : TR := .ret (.agg [.sym .i64 (.app 62 aas) [], .sym .i64 (.app 63 aas) []])
def alb (m : SE) : TM := .mk 37 brm 262 bov (avx ++ bdl) (some (mF, m)) by4 263 bw7
def bw2 : TM := znm (alb (.c 0))
def byo : List HO := []
def bu3 : TR := .pan [.mk (.iface 34 (.agg [.sym .i64 azz [], .sym .i64 (.app 61 aas) []])) false]
def ak9 (m : SE) : TM := .mk 37 brm 262 bov (avx ++ bdk) (some (mF, m)) bu3 263 byo
def bv1 : TM := znm (ak9 (.c 0))
def bqe : List AV := [.ptr (K.of 256) 0, .top, .ptr (K.of 262) 0, sy 3, .nilSlice, .ptr (K.of 264) 0] ++ tps 84
def bso : List HO := (frL (.v 1) (.v 2) (.s 5) (.s 4) 260 ++ [bxO 262 .top .top, bxO 264 (.int .i64 1) (.int .i64 0)])
def bx5 : List HO := (frL (.app 69 aa4) ag7 (.app 65 aa4) (.app 66 aa4) 266 ++ [bxO 262 (.sym .i64 (.app 67 aa4) []) (.sym .i64 (.app 68 aa4) [])])
def bxv : LR := (.r ([.ptr (K.of 256) 0, .top, .ptr (K.of 262) 0] ++ tps 87))
def b2k (m : SE) : LT := .mk 57 4 bqe 266 bso (ab4 ++ a3i) (some (mG, m)) bxv 270 bx5
def bxs : List HO := []
def bt3 : LR := (.p [.mk (.iface 34 (.agg [.sym .i64 aq6 [], .sym .i64 (.app 66 aa4) []])) false] (tps 90))
def b3j (m : SE) : LT := .mk 57 4 bqe 266 bso (ab4 ++ a2p) (some (mG, m)) bt3 270 bxs
def bph : List AV := [.ptr (K.of 256) 0, .top, .ptr (K.of 262) 0, sy 3, .gv (.sl (K.of 265) 2 (.v 6) []), .ptr (K.of 264) 0] ++ tps 84
def bs6 : List HO := (frL (.v 1) (.v 2) (.s 5) (.s 4) 260 ++ [bxO 262 .top .top, bxO 264 (sy 7) (sy 8), wds 265 (.v 6) (.s 10)])
def bvu : List HO := (frL (.app 69 vh) ag7 (.app 65 vh) (.app 66 vh) 266 ++ [bxO 262 (.sym .i64 (.app 67 vh) []) (.sym .i64 (.app 68 vh) [])])
def bw3 : LR := (.r ([.ptr (K.of 256) 0, .top, .ptr (K.of 262) 0] ++ tps 87))
def bgo (m : SE) : LT := .mk 57 4 bph 266 bs6 (acr ++ a3q) (some (mG, m)) bw3 270 bvu
def buh : List HO := []
def byi : LR := (.p [.mk (.iface 34 (.agg [.sym .i64 asi [], .sym .i64 (.app 66 vh) []])) false] (tps 90))
def bfs (m : SE) : LT := .mk 57 4 bph 266 bs6 (acr ++ a2h) (some (mG, m)) byi 270 buh
def brg : List AV := [.ptr (K.of 256) 0, .top, .ptr (K.of 262) 0, sy 3, .nilSlice] ++ tps 49
def btd : List HO := (frL (.v 1) (.v 2) (.s 5) (.s 4) 260 ++ [bxO 262 .top .top])
def bui : List HO := (frL (.app 73 ya) ag7 (.app 70 ya) (.app 71 ya) 266 ++ [bxO 262 (.int .i64 4) (.sym .i64 (.app 72 ya) [])])
def bu1 : LR := (.r ([.ptr (K.of 256) 0, .top, .ptr (K.of 262) 0] ++ tps 51))
def b4c (m : SE) : LT := .mk 58 4 brg 266 btd (ab4 ++ a08) (some (mG, m)) bu1 270 bui
def bwv : List HO := []
def bxc : LR := (.p [.mk (.iface 34 (.agg [.sym .i64 ar8 [], .sym .i64 (.app 71 ya) []])) false] (tps 54))
def b0y (m : SE) : LT := .mk 58 4 brg 266 btd (ab4 ++ a0y) (some (mG, m)) bxc 270 bwv
def bqr : List AV := [.ptr (K.of 256) 0, .top, .ptr (K.of 262) 0, sy 3, .gv (.sl (K.of 265) 2 (.v 6) [])] ++ tps 49
def bsh : List HO := (frL (.v 1) (.v 2) (.s 5) (.s 4) 260 ++ [bxO 262 .top .top, wds 265 (.v 6) (.s 10)])
def bzu : List HO := (frL (.app 73 x8) ag7 (.app 70 x8) (.app 71 x8) 266 ++ [bxO 262 (.int .i64 4) (.sym .i64 (.app 72 x8) [])])
def bzo : LR := (.r ([.ptr (K.of 256) 0, .top, .ptr (K.of 262) 0] ++ tps 51))
def bgp (m : SE) : LT := .mk 58 4 bqr 266 bsh (acr ++ az8) (some (mG, m)) bzo 270 bzu
def bx2 : List HO := []
def bzj : LR := (.p [.mk (.iface 34 (.agg [.sym .i64 aq4 [], .sym .i64 (.app 71 x8) []])) false] (tps 54))
def bfa (m : SE) : LT := .mk 58 4 bqr 266 bsh (acr ++ a4e) (some (mG, m)) bzj 270 bx2
end
section
variable {σ : Nat → List Int}
theorem b1i (c : Int) : (v6 c = 0 ∨ v6 c = 1) ∧ (v6 c = 1 → c = 40 ∨ c = 41 ∨ c = 91 ∨ c = 93 ∨ c = 34 ∨ c = 39 ∨ c = 96 ∨ c = 44 ∨ c = 59 ∨ ali c = 1) := by
 rw [jg]
 split
 ·exact ⟨.inr rfl, fun _ => by assumption⟩
 ·exact ⟨.inl rfl, fun h => absurd h (by decide)⟩
theorem b01 (a : SE) : 0 ≤ (SE.app 41 (.i a .nil)).eval σ ∧ (SE.app 41 (.i a .nil)).eval σ ≤ 1 := by
 have h : v6 (a.eval σ) = 0 ∨ v6 (a.eval σ) = 1 := (b1i _).1
 show 0 ≤ v6 (a.eval σ) ∧ v6 (a.eval σ) ≤ 1
 omega
theorem car (R : List Int) (p : Int) (h1 : p < (R.length : Int)) (h2 : ali (R.getD p.toNat 0) = 0) (h3 : ¬ (R.getD p.toNat 0 = 40 ∨ R.getD p.toNat 0 = 41 ∨ R.getD p.toNat 0 = 91 ∨ R.getD p.toNat 0 = 93 ∨ R.getD p.toNat 0 = 34 ∨ R.getD p.toNat 0 = 39 ∨ R.getD p.toNat 0 = 96 ∨ R.getD p.toNat 0 = 44 ∨ R.getD p.toNat 0 = 59)) : yl R p = 0 := by
 rw [ay, if_pos h1, jg, if_neg (by omega)]
theorem bie (R : List Int) (p b : Int) (h : (R.length : Int) ≤ p) : af R p b = p := by rw [dc, if_neg (by omega)]
theorem ar (R : List Int) (p o : Int) (h G : List Int) (hp : (R.length : Int) ≤ p) : al R p o h G = ⟨5, (R.length : Int), 0, 0, 0, [], []⟩ := by
 rw [ap, bie R p 0 hp, if_neg (by omega)]; rfl
theorem bk2 (R : List Int) (p o : Int) (h G : List Int) (hp : p < (R.length : Int)) (h0 : 0 ≤ p) (h46 : R.getD p.toNat 0 = 46) (hs : p + 1 < (R.length : Int) → v6 (R.getD (p + 1).toNat 0) = 1) : (al R p o h G).f = 5 := by
 have hsk : af R p 0 = p := by
  rw [dc, if_pos hp, if_neg (by decide), h46, if_neg (by decide), if_neg (by decide)]
 have hc : chA R p = 46 := by rw [bp, if_pos hp, h46]
 have ht : lg R p [] 0 = ⟨0, p + 1, [46], 0⟩ := by
  rw [c7, if_pos hp, h46, if_neg (by decide), if_neg (by decide), c7]
  by_cases h1 : p + 1 < (R.length : Int)
  ·rw [if_pos h1, if_pos (hs h1)]; rfl
  ·rw [if_neg h1]; rfl
 rw [ap, hsk, if_pos hp, hc]
 simp only [show ¬ ((46 : Int) = 40) by decide, show ¬ ((46 : Int) = 91) by decide, show ¬ ((46 : Int) = 41 ∨ (46 : Int) = 93) by decide, show ¬ ((46 : Int) = 34) by decide, show ¬ ((46 : Int) = 63) by decide, show ¬ ((46 : Int) = 39 ∨ (46 : Int) = 96) by decide, show ¬ ((46 : Int) = 44) by decide, show ¬ ((46 : Int) = 35) by decide, if_false]
 rw [ht]
 have hk : acp [46] = 0 := by decide +kernel
 unfold alj
 simp only [hk]
 rfl
def e46 (b : List Int) : Int := if b = [46] then 1 else 0
theorem vj (b : List Int) (i : Decidable (b = [46])) : @ite Int (b = [46]) i 1 0 = e46 b := by
 unfold e46
 by_cases h : b = [46]
 ·rw [if_pos h, if_pos h]
 ·rw [if_neg h, if_neg h]
theorem b65 (b : List Int) : e46 b = 1 ↔ b = [46] := by
 unfold e46
 by_cases h : b = [46]
 ·rw [if_pos h]; exact ⟨fun _ => h, fun _ => rfl⟩
 ·rw [if_neg h]; exact ⟨fun e => absurd e (by decide), fun e => absurd e h⟩
theorem bo (t : TK) (len q : Int) (h G : List Int) : alj t len q h G = if t.f = 0 then
  if t.q = 0 ∧ acp t.b = 2 then bad 15 q
  else if t.q = 0 ∧ acp t.b = 1 then ⟨0, 0, 0, a6d t.b, t.p, h, G⟩
  else if t.q = 0 ∧ e46 t.b = 1 then bad 5 q
  else if 1000 < td t.b 0 then bad 4 q
  else ai7 G t.b q t.p h
 else bad 5 len := by
 rw [al6]
 simp only [b65]
theorem ala (a o : SE) (h g : GE) : a.eval σ < (SE.len (.s 0)).eval σ → 0 ≤ a.eval σ → (σ 0).getD (a.eval σ).toNat 0 = 46 → (a.eval σ + 1 < (SE.len (.s 0)).eval σ → v6 ((σ 0).getD (a.eval σ + 1).toNat 0) = 1) → (SE.app 60 (.g (.s 0) (.i a (.i o (.g h (.g g .nil)))))).eval σ = 5 := fun h1 h2 h3 h4 => bk2 _ _ _ _ _ h1 h2 h3 h4
theorem ab6 : (GE.lit 1 46).eval σ = [46] := by
 simp only [GE.eval]
 decide +kernel
theorem bne (h : SAll σ avx) : (gn (σ 0) ∧ 0 ≤ (σ 1).headD 0 ∧ (σ 1).headD 0 ≤ ((σ 0).length : Int) ∧ (σ 0).length ≤ 4000) ∧ 0 ≤ (σ 2).headD 0 ∧ (σ 2).headD 0 ≤ 200 := by
 simp only [sall_cons, s42, sF, evs] at h
 exact ⟨⟨h.1, h.2.1, h.2.2.1, h.1.1⟩, h.2.2.2.1, h.2.2.2.2.1⟩
theorem a5h (h : SAll σ ab4) : (gn (σ 0) ∧ 0 ≤ (σ 1).headD 0 ∧ (σ 1).headD 0 ≤ ((σ 0).length : Int) ∧ (σ 0).length ≤ 4000) ∧ 1 ≤ (σ 2).headD 0 ∧ (σ 2).headD 0 ≤ 200 := by
 simp only [sall_cons, s42, sF, evs] at h
 exact ⟨⟨h.1, h.2.1, h.2.2.1, h.1.1⟩, h.2.2.2.2.2.1, h.2.2.2.2.1⟩
theorem a6m (h : SAll σ acr) : (gn (σ 0) ∧ 0 ≤ (σ 1).headD 0 ∧ (σ 1).headD 0 ≤ ((σ 0).length : Int) ∧ (σ 0).length ≤ 4000) ∧ (1 ≤ (σ 2).headD 0 ∧ (σ 2).headD 0 ≤ 200) ∧ 1 ≤ (σ 6).headD 0 ∧ (σ 6).headD 0 ≤ (σ 1).headD 0 := by
 simp only [sall_cons, s42, sF, evs] at h
 exact ⟨⟨h.1, h.2.1, h.2.2.1, h.1.1⟩, ⟨h.2.2.2.2.2.1, h.2.2.2.2.1⟩, h.2.2.2.2.2.2.1, h.2.2.2.2.2.2.2.1⟩
end
theorem hkf [Gv] : ∀ t ∈ [af8, aen, aeh, bes, a1a, a1g, bhv, bhw, bh1, rcF, a16, a0j, a2q, a05, wn, xc, ais], am t := by
 intro t ht
 simp only [List.mem_cons, zH, or_false] at ht
 rcases ht with rfl | rfl | rfl | rfl | rfl | rfl | rfl | rfl | rfl | rfl | rfl | rfl | rfl | rfl | rfl | rfl | rfl
 ·exact a54
 ·exact avt
 ·exact ay0
 ·exact bje
 ·exact btj
 ·exact bpb
 ·exact b1n
 ·exact b1h
 ·exact b0k
 ·exact bkh
 ·exact bpm
 ·exact bse
 ·exact bsi
 ·exact br7
 ·exact a71
 ·exact a8s
 ·exact bj5
theorem lpf [Gv] : ∀ t ∈ [an6, ar6, a2w, a1b, a3u, a1k], au t := by
 intro t ht
 simp only [List.mem_cons, zH, or_false] at ht
 rcases ht with rfl | rfl | rfl | rfl | rfl | rfl
 ·exact bl4
 ·exact bm6
 ·exact br0
 ·exact bom
 ·exact boc
 ·exact bo3
theorem hkl [Gv] : ∀ t ∈ [af8, aen, aeh, wn, xc, ais, aey, aev, aeq, aep], am t := by
 intro t ht
 simp only [List.mem_cons, zH, or_false] at ht
 rcases ht with rfl | rfl | rfl | rfl | rfl | rfl | rfl | rfl | rfl | rfl
 ·exact a54
 ·exact avt
 ·exact ay0
 ·exact a71
 ·exact a8s
 ·exact bj5
 ·exact bqz
 ·exact bo2
 ·exact bqx
 ·exact bsq
def b63 [Gv] : Prop := (SAll Gv.σ bdl → ba 37 brm 262 bov by4 263 bw7) ∧ (SAll Gv.σ bdk → ba 37 brm 262 bov bu3 263 byo)
def b7p [Gv] : Prop := (SAll Gv.σ a3i → b7 57 4 bqe 266 bso bxv 270 bx5) ∧ (SAll Gv.σ a2p → b7 57 4 bqe 266 bso bt3 270 bxs)
def b5g [Gv] : Prop := (SAll Gv.σ a3q → b7 57 4 bph 266 bs6 bw3 270 bvu) ∧ (SAll Gv.σ a2h → b7 57 4 bph 266 bs6 byi 270 buh)
def b48 [Gv] : Prop := (SAll Gv.σ a08 → b7 58 4 brg 266 btd bu1 270 bui) ∧ (SAll Gv.σ a0y → b7 58 4 brg 266 btd bxc 270 bwv)
def b7s [Gv] : Prop := (SAll Gv.σ az8 → b7 58 4 bqr 266 bsh bzo 270 bzu) ∧ (SAll Gv.σ a4e → b7 58 4 bqr 266 bsh bzj 270 bx2)
end Go.Ev
