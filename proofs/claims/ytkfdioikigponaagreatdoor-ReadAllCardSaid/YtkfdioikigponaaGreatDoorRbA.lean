import Derived.Test.YtkfdioikigponaaGreatDoorRaZ
set_option maxRecDepth 100000
set_option linter.all false
namespace Go.Ev
abbrev ack : GE := .app 6 (.g (.s 3) (.i (.c 0) .nil))
abbrev xp : SE := .len ack
abbrev a5r : AL := .g (.s 5) (.g (.s 4) .nil)
abbrev a5q : SE := .app 53 (.g (.s 4) .nil)
abbrev ajt : List SA := [.mk false (.app 111 (.g (.s 3) (.i (.v 1) (.i (.v 11) (.g (.s 10) (.i (.v 6) (.g (.s 7) (.g (.s 8) a5r)))))))) (.c 1) true, .mk true (.c 0) a5q true]
abbrev ajs : List SA := [.mk false (.app 112 (.g (.s 3) (.i (.v 1) (.i (.v 11) (.i (.v 12) (.i (.v 13) a5r)))))) (.c 1) true, .mk true (.c 0) a5q true]
abbrev a52 : SE := .app 50 (.g (.s 3) .nil)
abbrev a5b : SE := .app 43 (.g ack (.i (.v 1) (.i (.c 0) .nil)))
abbrev agf : AL := .g ack (.i a5b (.i (.c 0) a5r))
abbrev an3 : SE := .app 60 agf
abbrev aiz : SE := .app 64 agf
abbrev azb : GE := .app 61 agf
abbrev bek : AL := .g azb .nil
abbrev bbo : AL := .g (.app 60 agf) bek
abbrev a8m : SE := .app 53 bek
abbrev amm : SE := .bin 6 .i64 xp (.bin 7 .i64 (.c (-1)) aiz)
abbrev a8y : SE := .bin 6 .i64 xp (.bin 7 .i64 (.c (-1)) (.v 1))
abbrev a9f : SE := .app 43 (.g ack (.i (.c 0) (.i (.c 0) .nil)))
abbrev amv : AL := .g (.cat (.one (.c 3200)) (.cat (.one (.c 0)) (.one (.c 0)))) (.g (.app 109 .nil) .nil)
abbrev adh : AL := .g ack (.i a9f (.g .nil amv))
abbrev bd3 : SE := .app 106 adh
abbrev bbj : AL := .i (.c 0) amv
noncomputable section
def b8h : List AV := []
def b64 : List HO := []
def b4p : List HO := []
def b38 : TR := .ret (.bool true)
def b6u : TM := .mk 9 b8h 256 b64 ([] ++ []) none b38 256 b4p
def mD : SE := .bin 6 .i64 xp (.bin 7 .i64 (.c (-1)) (.v 1))
def feO (k : Nat) (a b : AV) : HO := .mk k (.cells 34 false 0 0 [a, b])
def lwU : List AV := ([.gv (.str (.s 3) []), .top, .top, .ptr (K.of 256) 0, .ptr (K.of 257) 0, .gv (.sl (K.of 260) 2 (.v 6) []), .ptr (K.of 261) 0, .ptr (K.of 262) 0, .ptr (K.of 263) 0, sy 1, sy 11] ++ tps 94)
def lwI : List HO := ([hpG 256 (.s 7)] ++ ae0 257 258 259 (.s 8) ++ [wds 260 (.v 6) (.s 10), feO 261 (.int .i64 0) (.int .i64 0), hpG 262 (.s 5)] ++ ae0 263 264 265 (.s 4))
def lwO : List HO := []
def lwR : LR := (.r (.top :: .top :: .bool true :: tps 102))
def lw (m : SE) : LT := .mk 8 4 lwU 266 lwI (ajt ++ []) (some (mD, m)) lwR 266 lwO
def lwF : LT := .mk 8 4 lwU 266 lwI (ajt ++ []) none lwR 266 lwO
def lfU : List AV := ([.gv (.str (.s 3) []), .top, .top, .top, .top, .nilSlice, .ptr (K.of 256) 0, .ptr (K.of 257) 0, .ptr (K.of 258) 0, sy 1, sy 11] ++ tps 94)
def lfI : List HO := ([feO 256 (sy 12) (sy 13), hpG 257 (.s 5)] ++ ae0 258 259 260 (.s 4))
def lfO : List HO := []
def lfR : LR := (.r (.top :: .top :: .bool true :: tps 102))
def lf (m : SE) : LT := .mk 8 4 lfU 261 lfI (ajs ++ []) (some (mD, m)) lfR 261 lfO
def lfF : LT := .mk 8 4 lfU 261 lfI (ajs ++ []) none lfR 261 lfO
def b3c : List AV := [.gv (.str (.s 3) [])]
def b9p : List HO := []
def cah : List HO := []
def cba : TR := .ret (.bool true)
end
section
variable {σ : Nat → List Int}
theorem bue (h : SAll σ ajt) : a4p (σ 3) ((σ 1).headD 0) ((σ 11).headD 0) (σ 10) ((σ 6).headD 0) (σ 7) (σ 8) (σ 5) (σ 4) ∧ 0 < qc (σ 4) := by
 simp only [sall_cons, sT, sE, evs, evx] at h
 exact ⟨rdaN_iff.1 h.1, h.2.1⟩
theorem bw5 (h : SAll σ ajs) : bhe (σ 3) ((σ 1).headD 0) ((σ 11).headD 0) ((σ 12).headD 0) ((σ 13).headD 0) (σ 5) (σ 4) ∧ 0 < qc (σ 4) := by
 simp only [sall_cons, sT, sE, evs, evx] at h
 exact ⟨rdbN_iff.1 h.1, h.2.1⟩
end
theorem bw4 {s : List Int} {p i : Int} {L : List Int} {n : Int} {h1 G1 h G : List Int} (H : a4p s p i L n h1 G1 h G) : (s.length : Int) ≤ 1500 ∧ jh s = 1 ∧ 0 ≤ p ∧ p ≤ ((ah s 0).length : Int) ∧ 0 ≤ i ∧ i ≤ n ∧ n ≤ 1500 ∧ (L.length : Int) = 2 * n :=
 ⟨by have := H.1; omega, H.2.2.1, H.2.2.2.1, H.2.2.2.2.1, H.2.2.2.2.2.1, H.2.2.2.2.2.2.2.2.1, H.2.2.2.2.2.2.2.2.2.1, H.2.2.2.2.2.2.2.2.2.2.1⟩
theorem bzb {s : List Int} {p i f a : Int} {h G : List Int} (H : bhe s p i f a h G) : (s.length : Int) ≤ 1500 ∧ jh s = 1 ∧ 0 ≤ p ∧ p ≤ ((ah s 0).length : Int) ∧ 0 ≤ i ∧ i ≤ p ∧ f ≠ 0 :=
 ⟨by have := H.1; omega, H.2.2.1, H.2.2.2.1, H.2.2.2.2.1, H.2.2.2.2.2.1, H.2.2.2.2.2.2.1, H.2.2.2.2.2.2.2.2.2⟩
theorem b8t {s : List Int} {p i : Int} {L : List Int} {n : Int} {h1 G1 h G : List Int} (H : a4p s p i L n h1 G1 h G) : ((ah s 0).length : Int) ≤ ae (ah s 0) p 0 → i = n ∧ h1.getD 1 0 = h.getD 1 0 ∧ qc G1 = qc G := fun hs => by
 obtain ⟨e1, e2, e3⟩ := bpo H hs
 exact ⟨e1, by rw [e2], by rw [e3]⟩
theorem b75 (s h G : List Int) : (s.length : Int) ≤ 1500 → 1 ≤ (s.length : Int) → jh s = 1 → ae (ah s 0) 0 0 < ((ah s 0).length : Int) → (fj (ah s 0) (ae (ah s 0) 0 0) [] h G).f = 0 →
  bis s 0 0 (fj (ah s 0) (ae (ah s 0) 0 0) [] h G).l (((fj (ah s 0) (ae (ah s 0) 0 0) [] h G).l.length : Int) / 2) (fj (ah s 0) (ae (ah s 0) 0 0) [] h G).h (fj (ah s 0) (ae (ah s 0) 0 0) [] h G).G h G = 1 :=
 fun h1 h2 h3 hs hf => bje (by omega) (by omega) h3 hs hf
theorem b40 (s h G : List Int) : (s.length : Int) ≤ 1500 → 1 ≤ (s.length : Int) → jh s = 1 → ¬ (fj (ah s 0) (ae (ah s 0) 0 0) [] h G).f = 0 →
  bhs s 0 0 (fj (ah s 0) (ae (ah s 0) 0 0) [] h G).f (fj (ah s 0) (ae (ah s 0) 0 0) [] h G).a h G = 1 :=
 fun h1 h2 h3 hf => blv (by omega) (by omega) h3 hf
def b93 [Gv] : Prop := (SAll Gv.σ [] → bh 9 b8h 256 b64 b38 256 b4p)
theorem b6k [Gv] (hI : SAll Gv.σ []) : b93 := by
 exact zm0 [] af ak hI
theorem b0p [Gv] : ap b6u := fun σ _ hA _ => (@b6k ⟨σ⟩  (aj hA).1) (aj hA).2
theorem hlw [Gv] : ∀ t ∈ [bz5, bja, bk1, biq, boi], ap t := by
 intro t ht
 simp only [List.mem_cons, List.not_mem_nil, or_false] at ht
 rcases ht with rfl | rfl | rfl | rfl | rfl
 ·exact bnd
 ·exact bdz
 ·exact bbp
 ·exact ba9
 ·exact bbz
def lwG [Gv] : Prop := (SAll Gv.σ [] → cg 8 4 lwU 266 lwI lwR 266 lwO)
theorem cay [Gv] (hh : ∀ t ∈ [lw mD], ba t) (hI : SAll Gv.σ ajt) : lwG := by
 obtain ⟨hrd, hcn⟩ := bue hI
 obtain ⟨b1, b2, b3, b4, b5, b6, b7, b8⟩ := bw4 hrd
 have st := biw hrd hcn
 have en := b8t hrd
 have hdl := bv (Gv.σ 3)
 have hI := abq hI (.c 3900) (.len (.s 3))
 have hI := abq hI (.v 1) (.c 0)
 have hI := abq hI xp (.v 1)
 have hI := ac0 hI a52 (.c 1)
 have t1 := xx (fSK (σ := Gv.σ) ack (.v 1))
 rcases a75 hI a5b xp with ⟨hI, k5⟩ | ⟨hI, k5⟩
 ·have hI := ac0 hI an3 (.c 0)
  have hI := as2 hI (.v 11) (.v 6)
  have hI := abq hI (.v 11) (.c 0)
  have hI := ac0 hI (.rd (.s 10) (.bin 7 .i64 (.c 2) (.v 11))) (.app 62 agf)
  have hI := ac0 hI (.rd (.s 10) (.bin 6 .i64 (.bin 7 .i64 (.c 2) (.v 11)) (.c 1))) (.app 63 agf)
  have hI := as2 hI (.v 1) aiz
  have hI := ac0 hI (.app 111 (.g (.s 3) (.i aiz (.i (.bin 0 .i64 (.v 11) (.c 1)) (.g (.s 10) (.i (.v 6) (.g (.s 7) (.g (.s 8) bbo)))))))) (.c 1)
  have t2 := xx (f53 (σ := Gv.σ) azb)
  have hI := as2 hI (.c 0) a8m
  have hI := as2 hI amm a8y
  have hI := abq hI amm (.c 0)
  have u := bv (Gv.σ 3)
  exact zt0 [] (zh hI hlw) (zp hI hh) hI
 ·have hI := ac0 hI (.v 6) (.v 11)
  have hI := ac0 hI (.rd (.s 5) (.c 1)) (.rd (.s 7) (.c 1))
  have t3 := xx (f53 (σ := Gv.σ) (.s 4))
  have t4 := xx (f53 (σ := Gv.σ) (.s 8))
  have hI := ac0 hI a5q (.app 53 (.g (.s 8) .nil))
  have u := bv (Gv.σ 3)
  exact zt0 [] (zh hI hlw) (zp hI hh) hI
theorem bk9 : ∀ (B : Nat) (σ : Nat → List Int), SAll σ ajt → (mD).eval σ < (B : Int) → @lwG ⟨σ⟩
 | 0, σ, hI, hb => by obtain ⟨hrd, _⟩ := bue hI; obtain ⟨b1, b2, b3, b4, _⟩ := bw4 hrd; simp only [mD, evs, evx, wr] at hb; omega
 | B + 1, σ, hI, hb => by
   have ih : ∀ σ' : Nat → List Int, SAll σ' ajt → 0 ≤ (mD).eval σ' ∧ (mD).eval σ' < (mD).eval σ → @lwG ⟨σ'⟩ := fun σ' h h' => bk9 B σ' h (by omega)
   have hh : ∀ t ∈ [lw (mD)], @ba ⟨σ⟩ t := by
    intro t ht
    simp only [List.mem_cons, List.not_mem_nil, or_false] at ht
    rcases ht with rfl
    ·exact fun σ' _ hA hb => (ih σ' (aj hA).1 hb) (aj hA).2
   exact @cay ⟨σ⟩ hh hI
theorem b4g [Gv] : ba lwF := fun σ _ hA _ => (bk9 (((mD).eval σ).toNat + 1) σ (aj hA).1 (by omega)) (aj hA).2
def lfG [Gv] : Prop := (SAll Gv.σ [] → cg 8 4 lfU 261 lfI lfR 261 lfO)
theorem b9v [Gv] (hh : ∀ t ∈ [lf mD], ba t) (hI : SAll Gv.σ ajs) : lfG := by
 obtain ⟨hrd, hcn⟩ := bw5 hI
 obtain ⟨b1, b2, b3, b4, b5, b6, b7⟩ := bzb hrd
 have st := bjr hrd hcn
 have hdl := bv (Gv.σ 3)
 have hI := abq hI (.c 3900) (.len (.s 3))
 have hI := abq hI (.v 1) (.c 0)
 have hI := abq hI xp (.v 1)
 have hI := ac0 hI a52 (.c 1)
 have t1 := xx (fSK (σ := Gv.σ) ack (.v 1))
 have hI := as2 hI a5b xp
 rcases ay3 hI an3 (.c 0) with ⟨hI, k6⟩ | ⟨hI, k6⟩
 ·have hI := bg0 hI (.v 12) (.c 0)
  have hI := as2 hI (.v 1) aiz
  have hI := ac0 hI (.app 112 (.g (.s 3) (.i aiz (.i (.bin 0 .i64 (.v 11) (.c 1)) (.i (.v 12) (.i (.v 13) bbo)))))) (.c 1)
  have t2 := xx (f53 (σ := Gv.σ) azb)
  have hI := as2 hI (.c 0) a8m
  have hI := as2 hI amm a8y
  have hI := abq hI amm (.c 0)
  have u := bv (Gv.σ 3)
  exact zt0 [] (zh hI hlw) (zp hI hh) hI
 ·have hI := bg0 hI an3 (.c 13)
  have hI := ac0 hI (.v 12) an3
  have hI := ac0 hI (.v 13) (.app 61 agf)
  have u := bv (Gv.σ 3)
  exact zt0 [] (zh hI hlw) (zp hI hh) hI
theorem bl1 : ∀ (B : Nat) (σ : Nat → List Int), SAll σ ajs → (mD).eval σ < (B : Int) → @lfG ⟨σ⟩
 | 0, σ, hI, hb => by obtain ⟨hrd, _⟩ := bw5 hI; obtain ⟨b1, b2, b3, b4, _⟩ := bzb hrd; simp only [mD, evs, evx, wr] at hb; omega
 | B + 1, σ, hI, hb => by
   have ih : ∀ σ' : Nat → List Int, SAll σ' ajs → 0 ≤ (mD).eval σ' ∧ (mD).eval σ' < (mD).eval σ → @lfG ⟨σ'⟩ := fun σ' h h' => bl1 B σ' h (by omega)
   have hh : ∀ t ∈ [lf (mD)], @ba ⟨σ⟩ t := by
    intro t ht
    simp only [List.mem_cons, List.not_mem_nil, or_false] at ht
    rcases ht with rfl
    ·exact fun σ' _ hA hb => (ih σ' (aj hA).1 hb) (aj hA).2
   exact @b9v ⟨σ⟩ hh hI
theorem b7y [Gv] : ba lfF := fun σ _ hA _ => (bl1 (((mD).eval σ).toNat + 1) σ (aj hA).1 (by omega)) (aj hA).2
theorem boa [Gv] : ∀ t ∈ [b6u, b5x, by0, bun, bze, by7, bz5, bja, bk1, biq, boi], ap t := by
 intro t ht
 simp only [List.mem_cons, List.not_mem_nil, or_false] at ht
 rcases ht with rfl | rfl | rfl | rfl | rfl | rfl | rfl | rfl | rfl | rfl | rfl
 ·exact b0p
 ·exact b0r
 ·exact bqe
 ·exact bri
 ·exact bqm
 ·exact bqf
 ·exact bnd
 ·exact bdz
 ·exact bbp
 ·exact ba9
 ·exact bbz
theorem hll [Gv] : ∀ t ∈ [lwF, lfF], ba t := by
 intro t ht
 simp only [List.mem_cons, List.not_mem_nil, or_false] at ht
 rcases ht with rfl | rfl
 ·exact b4g
 ·exact b7y
def b97 [Gv] : Prop := (SAll Gv.σ [] → bh 8 b3c 256 b9p cba 256 cah)
theorem b60 [Gv] (hI : SAll Gv.σ []) : b97 := by
 have hdl := bv (Gv.σ 3)
 have hps := @a7k (Gv.σ 3)
 rcases a75 hI (.c 1500) (.len (.s 3)) with ⟨hI, k1⟩ | ⟨hI, k1⟩
 ·have u := bv (Gv.σ 3)
  exact zm0 [] (zh hI boa) (zp hI hll) hI
 ·have hI := abq hI (.c 3900) (.len (.s 3))
  have t1 := xx (b00)
  have t2 := xx (f53 (σ := Gv.σ) (.app 109 .nil))
  have hI := as2 hI (.c 0) (.app 53 (.g (.app 109 .nil) .nil))
  rcases ay3 hI a52 (.c 1) with ⟨hI, k4⟩ | ⟨hI, k4⟩
  ·have t3 := xx (fSK (σ := Gv.σ) ack (.c 0))
   rcases a75 hI a9f xp with ⟨hI, k5⟩ | ⟨hI, k5⟩
   ·rcases ay3 hI bd3 (.c 0) with ⟨hI, k6⟩ | ⟨hI, k6⟩
    ·have t4 := xx (b75 (Gv.σ 3) [3200, 0, 0] g0L)
     have hI := ac0 hI (.app 111 (.g (.s 3) (.i (.c 0) (.i (.c 0) (.g (.app 106 adh) (.i (.app 110 adh) (.g (.app 107 adh) (.g (.app 108 adh) amv)))))))) (.c 1)
     have u := bv (Gv.σ 3)
     exact zm0 [] (zh hI boa) (zp hI hll) hI
    ·have t5 := xx (b40 (Gv.σ 3) [3200, 0, 0] g0L)
     have hI := ac0 hI (.app 112 (.g (.s 3) (.i (.c 0) (.i (.c 0) (.i bd3 (.i (.app 107 adh) amv)))))) (.c 1)
     have u := bv (Gv.σ 3)
     exact zm0 [] (zh hI boa) (zp hI hll) hI
   ·have t6 := xx (bke (s := Gv.σ 3) (p := 0) (i := 0) (f := 0) (a := 0) (h := [3200, 0, 0]) (G := g0L) (by omega))
    have hI := bg0 hI (.app 112 (.g (.s 3) (.i (.c 0) (.i (.c 0) (.i (.c 0) bbj))))) (.c 1)
    have hI := abq hI xp (.c 0)
    have u := bv (Gv.σ 3)
    exact zm0 [] (zh hI boa) (zp hI hll) hI
  ·have t7 := xx (bke (s := Gv.σ 3) (p := 0) (i := 0) (f := 5) (a := 0) (h := [3200, 0, 0]) (G := g0L) (by omega))
   have hI := bg0 hI (.app 112 (.g (.s 3) (.i (.c 0) (.i (.c 0) (.i (.c 5) bbj))))) (.c 1)
   have hI := abq hI xp (.c 0)
   have u := bv (Gv.σ 3)
   exact zm0 [] (zh hI boa) (zp hI hll) hI
end Go.Ev
