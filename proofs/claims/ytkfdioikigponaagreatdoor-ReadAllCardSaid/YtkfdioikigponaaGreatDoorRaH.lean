import Derived.Test.YtkfdioikigponaaGreatDoorRaV
set_option maxRecDepth 100000
set_option linter.all false
namespace Go.Ev
abbrev l7 : AL := .g (.s 5) (.i (.c 0) .nil)
abbrev ic : SE := .rd (.s 5) (.c 1)
abbrev ake : SE := .app 56 (.g (.s 5) .nil)
abbrev axj : List SA := [.mk false ake (.c 1) true, .mk false ic (.c 0) true]
abbrev bl7 : SE := .app 57 l7
abbrev axf : List SA := [.mk false bl7 (.c 0) true]
abbrev ax4 : List SA := [.mk false bl7 (.c 0) false]
abbrev apd : List SA := [.mk false ake (.c 1) true]
abbrev aoj : GE := .app 57 l7
abbrev aee : SE := .app 58 l7
abbrev ame : List SA := [.mk false aee (.c 0) true]
abbrev alz : List SA := [.mk false aee (.c 0) false]
abbrev ajd : GE := .app 58 l7
abbrev ug : AL := .g (.s 5) (.i (.v 6) .nil)
abbrev bce : List SA := [.mk false ake (.c 1) true, .mk true (.v 6) (.c 1) false, .mk true (.c 20000) (.v 6) false, .mk false ic (.c 0) true]
abbrev wy : SE := .app 58 ug
abbrev amz : List SA := [.mk false wy (.c 0) true]
abbrev amp : List SA := [.mk false wy (.c 0) false]
abbrev bap : List SA := [.mk false ake (.c 1) true, .mk true (.v 6) (.c 1) false, .mk true (.c 20000) (.v 6) false]
abbrev agx : GE := .app 58 ug
abbrev axx : List SA := [.mk true (.v 6) (.c 1) false, .mk true (.c 20000) (.v 6) false]
abbrev ut : AL := .g (.s 5) (.g (.s 3) .nil)
abbrev bao : List SA := [.mk false ake (.c 1) true, .mk true (.c 20000) (.len (.s 3)) false, .mk false ic (.c 0) true]
abbrev sj : SE := .app 59 ut
abbrev ank : List SA := [.mk false sj (.c 0) true]
abbrev amo : List SA := [.mk false sj (.c 0) false]
abbrev baz : List SA := [.mk false ake (.c 1) true, .mk true (.c 20000) (.len (.s 3)) false]
abbrev agt : GE := .app 59 ut
abbrev axi : List SA := [.mk true (.c 20000) (.len (.s 3)) false]
abbrev ew : SE := .rd (.s 5) (.c 0)
abbrev xb : SE := .bin 0 .i64 (.rd (.s 5) (.c 2)) (.c 0)
abbrev bdw : SE := .rd aoj (.c 0)
abbrev ayd : SE := .rd aoj (.c 1)
abbrev a8u : SE := .rd aoj (.c 2)
abbrev xk : SE := .bin 6 .i64 ic (.c 1)
abbrev amr : SE := .bin 0 .i64 ic (.c 1)
abbrev a8q : SE := .rd ajd (.c 0)
abbrev axk : SE := .rd ajd (.c 1)
abbrev bax : SE := .rd ajd (.c 2)
abbrev ang : SE := .bin 0 .i64 (.rd (.s 5) (.c 2)) (.v 6)
abbrev a8e : SE := .rd agx (.c 0)
abbrev ax8 : SE := .rd agx (.c 1)
abbrev a9d : SE := .rd agx (.c 2)
abbrev awf : SE := .app 49 (.g (.s 3) (.i (.c 0) .nil))
abbrev amy : SE := .bin 0 .i64 (.rd (.s 5) (.c 2)) awf
abbrev a9a : SE := .rd agt (.c 0)
abbrev ayl : SE := .rd agt (.c 1)
abbrev baw : SE := .rd agt (.c 2)
noncomputable section
def hpO (k : Nat) (g : GE) (s : AV) : HO := .mk k (.cells 76 false 0 0 [.sym .i64 (.rd g (.c 0)) [], .sym .i64 (.rd g (.c 1)) [], .sym .i64 (.rd g (.c 2)) [], s, .nilSlice])
def hpS (k k' : Nat) (g : GE) : List HO := [hpO k g (.gv (.sl (K.of k') 1 (.rd g (.c 1)) [])), .mk k' (.gob (.junk 84))]
def wdA : AV := .agg [.top, .top]
def wds (k : Nat) (n : SE) (g : GE) : HO := .mk k (.gob (.gh 31 [.i64, .i64] n g))
def bud : List AV := [.ptr (K.of 256) 0, wdA, wdA]
def bvs : List HO := [hpO 256 (.s 5) .nilSlice]
def bz9 : List HO := hpS 256 257 (.app 57 l7)
def b0x : TR := .ret (.tuple [.agg [.int .i64 2, .sym .i64 ic []], .int .i64 0])
def b0a : List HO := [hpO 256 (.s 5) .nilSlice]
def b1u : TR := .ret (.tuple [.agg [.int .i64 0, .int .i64 0], .int .i64 7])
def bzq : List AV := [.ptr (K.of 256) 0, wdA, wdA]
def buw : List HO := (hpS 256 257 (.s 5) ++ [])
def bz7 : List HO := hpS 256 258 (.app 57 l7)
def b1w : TR := .ret (.tuple [.agg [.int .i64 2, .sym .i64 ic []], .int .i64 0])
def bzr : List HO := hpS 256 257 (.s 5)
def b3w : TR := .ret (.tuple [.agg [.int .i64 0, .int .i64 0], .int .i64 7])
def btl : List AV := [.ptr (K.of 256) 0, wdA, wdA]
def btm : List HO := [.mk 256 (.gob (.lh 1 (.s 5)))]
def bw8 : List HO := [.mk 256 (.gob (.lh 1 aoj))]
def buv : TR := .ret (.tuple [.agg [.int .i64 2, .sym .i64 ic []], .int .i64 0])
def bu8 : TM := .mk 90 btl 257 btm ([] ++ axf) none buv 259 bw8
def bzd : List HO := [.mk 256 (.gob (.lh 1 (.s 5)))]
def buh : TR := .ret (.tuple [.agg [.int .i64 0, .int .i64 0], .int .i64 7])
def bx1 : TM := .mk 90 btl 257 btm ([] ++ ax4) none buh 259 bzd
def by6 : List AV := [.ptr (K.of 256) 0, .nilSlice]
def bww : List HO := [hpO 256 (.s 5) .nilSlice]
def b1l : List HO := hpS 256 257 (.app 58 l7)
def b3q : TR := .ret (.tuple [.agg [.int .i64 4, .sym .i64 ic []], .int .i64 0])
def b2o : List HO := [hpO 256 (.s 5) .nilSlice]
def b2c : TR := .ret (.tuple [.agg [.int .i64 0, .int .i64 0], .sym .i64 aee []])
def bvd : List AV := [.ptr (K.of 256) 0, .nilSlice]
def buf : List HO := (hpS 256 257 (.s 5) ++ [])
def b1b : List HO := hpS 256 258 (.app 58 l7)
def bzs : TR := .ret (.tuple [.agg [.int .i64 4, .sym .i64 ic []], .int .i64 0])
def b22 : List HO := hpS 256 257 (.s 5)
def b19 : TR := .ret (.tuple [.agg [.int .i64 0, .int .i64 0], .sym .i64 aee []])
def bsy : List AV := [.ptr (K.of 256) 0, .nilSlice]
def bro : List HO := [.mk 256 (.gob (.lh 1 (.s 5)))]
def bwj : List HO := [.mk 256 (.gob (.lh 1 ajd))]
def buz : TR := .ret (.tuple [.agg [.int .i64 4, .sym .i64 ic []], .int .i64 0])
def afe : TM := .mk 78 bsy 257 bro ([] ++ ame) none buz 259 bwj
def bu6 : List HO := [.mk 256 (.gob (.lh 1 (.s 5)))]
def bvc : TR := .ret (.tuple [.agg [.int .i64 0, .int .i64 0], .sym .i64 aee []])
def aff : TM := .mk 78 bsy 257 bro ([] ++ alz) none bvc 259 bu6
def buc : List AV := [.ptr (K.of 256) 0, .gv (.sl (K.of 257) 2 (.v 6) [])]
def bux : List HO := [hpO 256 (.s 5) .nilSlice, wds 257 (.v 6) (.s 7)]
def b3n : List HO := hpS 256 258 (.app 58 ug)
def b2k : TR := .ret (.tuple [.agg [.int .i64 4, .sym .i64 ic []], .int .i64 0])
def b2e : List HO := [hpO 256 (.s 5) .nilSlice]
def b09 : TR := .ret (.tuple [.agg [.int .i64 0, .int .i64 0], .sym .i64 wy []])
def by3 : List AV := [.ptr (K.of 256) 0, .gv (.sl (K.of 257) 2 (.v 6) [])]
def bw3 : List HO := (hpS 256 258 (.s 5) ++ [wds 257 (.v 6) (.s 7)])
def bzz : List HO := hpS 256 259 (.app 58 ug)
def b1m : TR := .ret (.tuple [.agg [.int .i64 4, .sym .i64 ic []], .int .i64 0])
def b25 : List HO := hpS 256 258 (.s 5)
def b3m : TR := .ret (.tuple [.agg [.int .i64 0, .int .i64 0], .sym .i64 wy []])
def bsv : List AV := [.ptr (K.of 256) 0, .gv (.sl (K.of 257) 2 (.v 6) [])]
def brs : List HO := [.mk 256 (.gob (.lh 1 (.s 5))), wds 257 (.v 6) (.s 7)]
def bu9 : List HO := [.mk 256 (.gob (.lh 1 agx))]
def bzi : TR := .ret (.tuple [.agg [.int .i64 4, .sym .i64 ic []], .int .i64 0])
def ae6 : TM := .mk 78 bsv 258 brs (axx ++ amz) none bzi 260 bu9
def bwo : List HO := [.mk 256 (.gob (.lh 1 (.s 5)))]
def byf : TR := .ret (.tuple [.agg [.int .i64 0, .int .i64 0], .sym .i64 wy []])
def ae8 : TM := .mk 78 bsv 258 brs (axx ++ amp) none byf 260 bwo
def bzl : List AV := [.ptr (K.of 256) 0, .gv (.str (.s 3) [])]
def bw2 : List HO := [hpO 256 (.s 5) .nilSlice]
def b13 : List HO := hpS 256 257 (.app 59 ut)
def b3r : TR := .ret (.tuple [.agg [.int .i64 3, .sym .i64 ic []], .int .i64 0])
def b14 : List HO := [hpO 256 (.s 5) .nilSlice]
def b1f : TR := .ret (.tuple [.agg [.int .i64 0, .int .i64 0], .sym .i64 sj []])
def bwl : List AV := [.ptr (K.of 256) 0, .gv (.str (.s 3) [])]
def bwz : List HO := (hpS 256 257 (.s 5) ++ [])
def b23 : List HO := hpS 256 258 (.app 59 ut)
def b3v : TR := .ret (.tuple [.agg [.int .i64 3, .sym .i64 ic []], .int .i64 0])
def bzv : List HO := hpS 256 257 (.s 5)
def b0l : TR := .ret (.tuple [.agg [.int .i64 0, .int .i64 0], .sym .i64 sj []])
def bsp : List AV := [.ptr (K.of 256) 0, .gv (.str (.s 3) [])]
def bp3 : List HO := [.mk 256 (.gob (.lh 1 (.s 5)))]
def bxa : List HO := [.mk 256 (.gob (.lh 1 agt))]
def bt8 : TR := .ret (.tuple [.agg [.int .i64 3, .sym .i64 ic []], .int .i64 0])
def bxi : TM := .mk 80 bsp 257 bp3 (axi ++ ank) none bt8 259 bxa
def bvg : List HO := [.mk 256 (.gob (.lh 1 (.s 5)))]
def bwy : TR := .ret (.tuple [.agg [.int .i64 0, .int .i64 0], .sym .i64 sj []])
def bum : TM := .mk 80 bsp 257 bp3 (axi ++ amo) none bwy 259 bvg
end
section
variable {σ : Nat → List Int}
open Classical in
theorem s56 {g : GE} : (SA.mk false (.app 56 (.g g .nil)) (.c 1) true).holds σ ↔ jo (g.eval σ) := by
 show decide (bq1 56 [g.eval σ] = 1) = true ↔ _
 rw [decide_eq_true_iff]
 exact bj8
theorem a5a (s : List Int) : ∀ (n : Nat) (p : Int), ((s.length : Int) - p).toNat ≤ n → 0 ≤ p → 0 ≤ tq s p ∧ (p ≤ (s.length : Int) → tq s p ≤ (s.length : Int) - p)
 | 0, p, h, h0 => by rw [amb, if_neg (by omega)]; omega
 | n + 1, p, h, h0 => by
   rw [amb]
   split
   ·split
    ·rename_i h1 h2
     have h3 := (re s p.toNat (by omega)).2.1
     have h4 : dwJ s p = ((Utf8.decode (ar s) p.toNat).2 : Int) := rfl
     have := a5a s n (p + dwJ s p) (by omega) (by omega)
     omega
    ·omega
   ·omega
theorem f49 (g : GE) (p : SE) : 0 ≤ p.eval σ → 0 ≤ (SE.app 49 (.g g (.i p .nil))).eval σ ∧ (p.eval σ ≤ (SE.len g).eval σ → (SE.app 49 (.g g (.i p .nil))).eval σ ≤ (SE.len g).eval σ - p.eval σ) := fun h => a5a _ _ _ (Nat.le_refl _) h
theorem br9 (g : GE) : (SE.app 50 (.g g .nil)).eval σ = 0 ∨ (SE.app 50 (.g g .nil)).eval σ = 1 := by
 show jh (g.eval σ) = 0 ∨ jh (g.eval σ) = 1
 have := f50 (g.eval σ); omega
theorem abl {A : List SA} (h : SAll σ (apd ++ A)) : 1 ≤ (σ 5).getD 0 0 ∧ (σ 5).getD 0 0 ≤ 50000 ∧ 0 ≤ (σ 5).getD 1 0 ∧ (σ 5).getD 1 0 ≤ (σ 5).getD 0 0 ∧ 0 ≤ (σ 5).getD 2 0 ∧ (σ 5).getD 2 0 ≤ 1048576 ∧ SAll σ A := by
 have h1 := (s56 (g := .s 5)).1 (h _ (by simp))
 exact ⟨h1.2.1, h1.2.2.1, h1.2.2.2.1, h1.2.2.2.2.1, h1.2.2.2.2.2.1, h1.2.2.2.2.2.2, (aj h).2⟩
end
theorem j7 (h : List Int) (z : Int) : o7 h z = if h.getD 1 0 = h.getD 0 0 ∨ 1048576 < h.getD 2 0 + z then ⟨7, h⟩ else ⟨0, [h.getD 0 0, h.getD 1 0 + 1, h.getD 2 0 + z]⟩ := br1 h z
theorem bm0 {h : List Int} (hr : jo h) {z : Int} (hz : 0 ≤ z) (h0 : (o7 h z).f = 0) : jo (o7 h z).h := by
 obtain ⟨e, h1, h2, h3, h4, h5, h6⟩ := hr
 unfold hL hM hU at *
 rw [j7] at h0 ⊢
 split at h0
 ·exact absurd h0 (show ¬ (7 : Int) = 0 by decide)
 ·rename_i hc
  rw [if_neg hc]
  refine ⟨rfl, ?_⟩
  show 1 ≤ h.getD 0 0 ∧ h.getD 0 0 ≤ 50000 ∧ 0 ≤ h.getD 1 0 + 1 ∧ h.getD 1 0 + 1 ≤ h.getD 0 0 ∧ 0 ≤ h.getD 2 0 + z ∧ h.getD 2 0 + z ≤ 1048576
  omega
theorem b5y {h : List Int} (hr : jo h) {z : Int} (hz : 0 ≤ z) (h0 : (af1 h z).f = 0) : jo (af1 h z).h := by
 rw [anv] at h0 ⊢
 split at h0
 ·exact absurd h0 (show ¬ (4 : Int) = 0 by decide)
 ·rename_i hc; rw [if_neg hc]; exact bm0 hr hz h0
theorem b71 {h s : List Int} (hr : jo h) (h0 : (qz h s).f = 0) : jo (qz h s).h := by
 rw [ahm] at h0 ⊢
 split at h0
 ·exact absurd h0 (show ¬ (5 : Int) = 0 by decide)
 ·rename_i hc
  rw [if_neg hc]
  split at h0
  ·exact absurd h0 (show ¬ (4 : Int) = 0 by decide)
  ·rename_i hd; rw [if_neg hd]; exact bm0 hr (a5a s _ 0 (Nat.le_refl _) (Int.le_refl _)).1 h0
theorem gd3 : (∀ a b c : Int, [a, b, c].getD 0 0 = a) ∧ (∀ a b c : Int, [a, b, c].getD 1 0 = b) ∧ (∀ a b c : Int, [a, b, c].getD 2 0 = c) := ⟨fun _ _ _ => rfl, fun _ _ _ => rfl, fun _ _ _ => rfl⟩
theorem v3h [Gv] : ∀ t ∈ [br4, bsc, rcF], ap t := by
 intro t ht
 simp only [List.mem_cons, List.not_mem_nil, or_false] at ht
 rcases ht with rfl | rfl | rfl
 ·exact a62
 ·exact a7i
 ·exact bkw
def b8b [Gv] : Prop := (SAll Gv.σ axf → bh 90 bud 257 bvs b0x 259 bz9) ∧ (SAll Gv.σ ax4 → bh 90 bud 257 bvs b1u 259 b0a)
theorem bkj [Gv] (hI : SAll Gv.σ axj) : b8b := by
 obtain ⟨g0, g1, g2, g3, g4, g5, hI2⟩ := abl hI
 try simp only [sall_cons, sT, sF, sE, sN, evs, wr] at hI2
 have hI := zT1 hI (.c 0) ew
 have hI := zN1 hI (.c 0) ew
 have hI := zF1 hI (.c 1048576) xb
 have u := zf4 (j7 (Gv.σ 5) 0)
 exact ⟨zm [(263, 257)] (.i (.c 0) ic (.i ew bdw (.i (.c 1) ayd (.i xb a8u .nil)))) (ag _ v3h) ak hI ze5,
  zn3⟩
def b5p [Gv] : Prop := (SAll Gv.σ axf → bh 90 bzq 258 buw b1w 259 bz7) ∧ (SAll Gv.σ ax4 → bh 90 bzq 258 buw b3w 259 bzr)
theorem boh [Gv] (hI : SAll Gv.σ apd) : b5p := by
 obtain ⟨g0, g1, g2, g3, g4, g5, hI2⟩ := abl hI
 try simp only [sall_cons, sT, sF, sE, sN, evs, wr] at hI2
 have hI := zT1 hI (.c 0) ew
 rcases zq1 hI ic ew with ⟨hI, k2⟩ | ⟨hI, k2⟩
 ·have u := zf4 (j7 (Gv.σ 5) 0)
  exact ⟨zn3,
   zm0 [] (ag _ v3h) ak hI⟩
 ·have hI := zF1 hI (.c 1048576) xb
  have hI := zF1 hI (.c 60000) xk
  have u := zf4 (j7 (Gv.σ 5) 0)
  exact ⟨zm [(264, 258)] (.i ew bdw (.i amr ayd (.i xb a8u (.i xk ayd .nil)))) (ag _ v3h) ak hI ze5,
   zn3⟩
def caj [Gv] : Prop := (SAll Gv.σ axf → bh 90 btl 257 btm buv 259 bw8) ∧ (SAll Gv.σ ax4 → bh 90 btl 257 btm buh 259 bzd)
theorem bx2 [Gv] (hI : SAll Gv.σ []) : caj := by
 have hB : xz 257 [] := by
  intro n o h
  simp at h
 have iS : jo (Gv.σ 5) → SAll Gv.σ apd := fun hr => (sc (s56.2 hr) SAll.nil)
 have iN : jo (Gv.σ 5) → hM (Gv.σ 5) = 0 → SAll Gv.σ axj := fun hr h0 => (sc (s56.2 hr) (sc (bE _ _ h0) SAll.nil))
 refine ⟨fun hC => ?_, fun hC => ?_⟩
 ·have h0 : (SE.app 57 l7).eval Gv.σ = 0 := of_decide_eq_true (hC _ (List.mem_singleton.2 rfl))
  have hr2 : jo (Gv.σ 5) → jo ((GE.app 57 l7).eval Gv.σ) := fun hr => bm0 hr (show (0 : Int) ≤ 0 by decide) h0
  refine si (kd := 1) (g := .s 5) (g' := (.app 57 l7)) (Lr := []) (loN := v8 (.s 5) .nilSlice) (loS := xw (.s 5)) (loB := xv) (loN' := v8 (.app 57 l7) .nilSlice) (loS' := xw (.app 57 l7)) (loB' := xv) (by omega) (by omega) (by omega) hB rfl rfl rfl rfl rfl (d6 (.s 5)) (d6 aoj) ?_ ?_
  ·rintro ⟨hr, hm⟩
   exact ⟨_, 257, by omega, .inr ⟨hr2 hr, rfl⟩, (bkj (iN hr hm)).1 hC⟩
  ·intro hr
   exact ⟨_, 258, by omega, .inr ⟨hr2 hr, rfl⟩, (boh (iS hr)).1 hC⟩
 ·refine si (kd := 1) (g := .s 5) (g' := (.s 5)) (Lr := []) (loN := v8 (.s 5) .nilSlice) (loS := xw (.s 5)) (loB := xv) (loN' := v8 (.s 5) .nilSlice) (loS' := xw (.s 5)) (loB' := xv) (by omega) (by omega) (by omega) hB rfl rfl rfl rfl rfl (d6 (.s 5)) (d6 (.s 5)) ?_ ?_
  ·rintro ⟨hr, hm⟩
   exact ⟨_, 257, by omega, .inl ⟨⟨hr, hm⟩, rfl⟩, (bkj (iN hr hm)).2 hC⟩
  ·intro hr
   exact ⟨_, 257, by omega, .inr ⟨hr, rfl⟩, (boh (iS hr)).2 hC⟩
theorem bpn [Gv] : ap bu8 := fun σ _ hA _ => (@bx2 ⟨σ⟩  (aj hA).1).1 (aj hA).2
theorem bs5 [Gv] : ap bx1 := fun σ _ hA _ => (@bx2 ⟨σ⟩  (aj hA).1).2 (aj hA).2
def b47 [Gv] : Prop := (SAll Gv.σ ame → bh 78 by6 257 bww b3q 259 b1l) ∧ (SAll Gv.σ alz → bh 78 by6 257 bww b2c 259 b2o)
theorem bn4 [Gv] (hI : SAll Gv.σ axj) : b47 := by
 obtain ⟨g0, g1, g2, g3, g4, g5, hI2⟩ := abl hI
 try simp only [sall_cons, sT, sF, sE, sN, evs, wr] at hI2
 have hI := zT1 hI (.c 0) ew
 have hI := zN1 hI (.c 0) ew
 have hI := zF1 hI (.c 1048576) xb
 have u := zf4 (j7 (Gv.σ 5) 0)
 exact ⟨zm [(261, 257)] (.i (.c 0) ic (.i ew a8q (.i (.c 1) axk (.i xb bax .nil)))) (ag _ v3h) ak hI ze6,
  zn4⟩
def b6p [Gv] : Prop := (SAll Gv.σ ame → bh 78 bvd 258 buf bzs 259 b1b) ∧ (SAll Gv.σ alz → bh 78 bvd 258 buf b19 259 b22)
theorem blo [Gv] (hI : SAll Gv.σ apd) : b6p := by
 obtain ⟨g0, g1, g2, g3, g4, g5, hI2⟩ := abl hI
 try simp only [sall_cons, sT, sF, sE, sN, evs, wr] at hI2
 have hI := zT1 hI (.c 0) ew
 rcases zq1 hI ic ew with ⟨hI, k2⟩ | ⟨hI, k2⟩
 ·have u := zf4 (j7 (Gv.σ 5) 0)
  exact ⟨zn4,
   zm [] (.i (.c 7) aee .nil) (ag _ v3h) ak hI ze6⟩
 ·have hI := zF1 hI (.c 1048576) xb
  have hI := zF1 hI (.c 60000) xk
  have u := zf4 (j7 (Gv.σ 5) 0)
  exact ⟨zm [(262, 258)] (.i ew a8q (.i amr axk (.i xb bax (.i xk axk .nil)))) (ag _ v3h) ak hI ze6,
   zn4⟩
def b9k [Gv] : Prop := (SAll Gv.σ ame → bh 78 bsy 257 bro buz 259 bwj) ∧ (SAll Gv.σ alz → bh 78 bsy 257 bro bvc 259 bu6)
theorem bym [Gv] (hI : SAll Gv.σ []) : b9k := by
 have hB : xz 257 [] := by
  intro n o h
  simp at h
 have iS : jo (Gv.σ 5) → SAll Gv.σ apd := fun hr => (sc (s56.2 hr) SAll.nil)
 have iN : jo (Gv.σ 5) → hM (Gv.σ 5) = 0 → SAll Gv.σ axj := fun hr h0 => (sc (s56.2 hr) (sc (bE _ _ h0) SAll.nil))
 refine ⟨fun hC => ?_, fun hC => ?_⟩
 ·have h0 : (SE.app 58 l7).eval Gv.σ = 0 := of_decide_eq_true (hC _ (List.mem_singleton.2 rfl))
  have hr2 : jo (Gv.σ 5) → jo ((GE.app 58 l7).eval Gv.σ) := fun hr => b5y hr (show (0 : Int) ≤ 0 by decide) h0
  refine si (kd := 1) (g := .s 5) (g' := (.app 58 l7)) (Lr := []) (loN := v8 (.s 5) .nilSlice) (loS := xw (.s 5)) (loB := xv) (loN' := v8 (.app 58 l7) .nilSlice) (loS' := xw (.app 58 l7)) (loB' := xv) (by omega) (by omega) (by omega) hB rfl rfl rfl rfl rfl (d6 (.s 5)) (d6 ajd) ?_ ?_
  ·rintro ⟨hr, hm⟩
   exact ⟨_, 257, by omega, .inr ⟨hr2 hr, rfl⟩, (bn4 (iN hr hm)).1 hC⟩
  ·intro hr
   exact ⟨_, 258, by omega, .inr ⟨hr2 hr, rfl⟩, (blo (iS hr)).1 hC⟩
 ·refine si (kd := 1) (g := .s 5) (g' := (.s 5)) (Lr := []) (loN := v8 (.s 5) .nilSlice) (loS := xw (.s 5)) (loB := xv) (loN' := v8 (.s 5) .nilSlice) (loS' := xw (.s 5)) (loB' := xv) (by omega) (by omega) (by omega) hB rfl rfl rfl rfl rfl (d6 (.s 5)) (d6 (.s 5)) ?_ ?_
  ·rintro ⟨hr, hm⟩
   exact ⟨_, 257, by omega, .inl ⟨⟨hr, hm⟩, rfl⟩, (bn4 (iN hr hm)).2 hC⟩
  ·intro hr
   exact ⟨_, 257, by omega, .inr ⟨hr, rfl⟩, (blo (iS hr)).2 hC⟩
theorem br3 [Gv] : ap afe := fun σ _ hA _ => (@bym ⟨σ⟩  (aj hA).1).1 (aj hA).2
theorem btq [Gv] : ap aff := fun σ _ hA _ => (@bym ⟨σ⟩  (aj hA).1).2 (aj hA).2
def b31 [Gv] : Prop := (SAll Gv.σ amz → bh 78 buc 258 bux b2k 260 b3n) ∧ (SAll Gv.σ amp → bh 78 buc 258 bux b09 260 b2e)
theorem bka [Gv] (hI : SAll Gv.σ bce) : b31 := by
 obtain ⟨g0, g1, g2, g3, g4, g5, hI2⟩ := abl hI
 try simp only [sall_cons, sT, sF, sE, sN, evs, wr] at hI2
 have hI := zT1 hI (.c 0) ew
 have hI := zF1 hI (.c 65536) (.v 6)
 have hI := zT1 hI (.c 0) (.v 6)
 have hI := zF1 hI (.c 60000) (.v 6)
 have hI := zN1 hI (.c 0) ew
 rcases zl1 hI (.c 1048576) ang with ⟨hI, k6⟩ | ⟨hI, k6⟩
 ·have u := zf4 (j7 (Gv.σ 5) ((Gv.σ 6).headD 0))
  exact ⟨zn4,
   zm [] (.i (.c 7) wy .nil) (ag _ v3h) ak hI ze6⟩
 ·have u := zf4 (j7 (Gv.σ 5) ((Gv.σ 6).headD 0))
  exact ⟨zm [(264, 258)] (.i (.c 0) ic (.i ew a8e (.i (.c 1) ax8 (.i ang a9d .nil)))) (ag _ v3h) ak hI ze6,
   zn4⟩
def b5l [Gv] : Prop := (SAll Gv.σ amz → bh 78 by3 259 bw3 b1m 260 bzz) ∧ (SAll Gv.σ amp → bh 78 by3 259 bw3 b3m 260 b25)
theorem blp [Gv] (hI : SAll Gv.σ bap) : b5l := by
 obtain ⟨g0, g1, g2, g3, g4, g5, hI2⟩ := abl hI
 try simp only [sall_cons, sT, sF, sE, sN, evs, wr] at hI2
 have hI := zT1 hI (.c 0) ew
 have hI := zF1 hI (.c 65536) (.v 6)
 have hI := zT1 hI (.c 0) (.v 6)
 have hI := zF1 hI (.c 60000) (.v 6)
 rcases zq1 hI ic ew with ⟨hI, k5⟩ | ⟨hI, k5⟩
 ·have u := zf4 (j7 (Gv.σ 5) ((Gv.σ 6).headD 0))
  exact ⟨zn4,
   zm [] (.i (.c 7) wy .nil) (ag _ v3h) ak hI ze6⟩
 ·rcases zl1 hI (.c 1048576) ang with ⟨hI, k6⟩ | ⟨hI, k6⟩
  ·have u := zf4 (j7 (Gv.σ 5) ((Gv.σ 6).headD 0))
   exact ⟨zn4,
    zm [] (.i (.c 7) wy .nil) (ag _ v3h) ak hI ze6⟩
  ·have hI := zF1 hI (.c 60000) xk
   have u := zf4 (j7 (Gv.σ 5) ((Gv.σ 6).headD 0))
   exact ⟨zm [(265, 259)] (.i ew a8e (.i amr ax8 (.i ang a9d (.i xk ax8 .nil)))) (ag _ v3h) ak hI ze6,
    zn4⟩
def cbg [Gv] : Prop := (SAll Gv.σ amz → bh 78 bsv 258 brs bzi 260 bu9) ∧ (SAll Gv.σ amp → bh 78 bsv 258 brs byf 260 bwo)
theorem byd [Gv] (hI : SAll Gv.σ axx) : cbg := by
 have hI2 := hI
 simp only [sall_cons, sT, sF, sE, sN, evs, wr] at hI2
 have hB : xz 258 [wds 257 (.v 6) (.s 7)] := by
  intro n o h
  rw [List.mem_singleton] at h
  cases h
  exact ⟨by omega, by omega, rfl⟩
 have iS : jo (Gv.σ 5) → SAll Gv.σ bap := fun hr => (sc (s56.2 hr) (sc (hI _ (by simp)) (sc (hI _ (by simp)) SAll.nil)))
 have iN : jo (Gv.σ 5) → hM (Gv.σ 5) = 0 → SAll Gv.σ bce := fun hr h0 => (sc (s56.2 hr) (sc (hI _ (by simp)) (sc (hI _ (by simp)) (sc (bE _ _ h0) SAll.nil))))
 refine ⟨fun hC => ?_, fun hC => ?_⟩
 ·have h0 : (SE.app 58 ug).eval Gv.σ = 0 := of_decide_eq_true (hC _ (List.mem_singleton.2 rfl))
  have hr2 : jo (Gv.σ 5) → jo ((GE.app 58 ug).eval Gv.σ) := fun hr => b5y hr (show (0 : Int) ≤ (Gv.σ 6).headD 0 by omega) h0
  refine si (kd := 1) (g := .s 5) (g' := (.app 58 ug)) (Lr := [wds 257 (.v 6) (.s 7)]) (loN := v8 (.s 5) .nilSlice) (loS := xw (.s 5)) (loB := xv) (loN' := v8 (.app 58 ug) .nilSlice) (loS' := xw (.app 58 ug)) (loB' := xv) (by omega) (by omega) (by omega) hB rfl rfl rfl rfl rfl (d6 (.s 5)) (d6 agx) ?_ ?_
  ·rintro ⟨hr, hm⟩
   exact ⟨_, 258, by omega, .inr ⟨hr2 hr, rfl⟩, (bka (iN hr hm)).1 hC⟩
  ·intro hr
   exact ⟨_, 259, by omega, .inr ⟨hr2 hr, rfl⟩, (blp (iS hr)).1 hC⟩
 ·refine si (kd := 1) (g := .s 5) (g' := (.s 5)) (Lr := [wds 257 (.v 6) (.s 7)]) (loN := v8 (.s 5) .nilSlice) (loS := xw (.s 5)) (loB := xv) (loN' := v8 (.s 5) .nilSlice) (loS' := xw (.s 5)) (loB' := xv) (by omega) (by omega) (by omega) hB rfl rfl rfl rfl rfl (d6 (.s 5)) (d6 (.s 5)) ?_ ?_
  ·rintro ⟨hr, hm⟩
   exact ⟨_, 258, by omega, .inl ⟨⟨hr, hm⟩, rfl⟩, (bka (iN hr hm)).2 hC⟩
  ·intro hr
   exact ⟨_, 258, by omega, .inr ⟨hr, rfl⟩, (blp (iS hr)).2 hC⟩
theorem bs9 [Gv] : ap ae6 := fun σ _ hA _ => (@byd ⟨σ⟩  (aj hA).1).1 (aj hA).2
theorem brz [Gv] : ap ae8 := fun σ _ hA _ => (@byd ⟨σ⟩  (aj hA).1).2 (aj hA).2
def b81 [Gv] : Prop := (SAll Gv.σ ank → bh 80 bzl 257 bw2 b3r 259 b13) ∧ (SAll Gv.σ amo → bh 80 bzl 257 bw2 b1f 259 b14)
theorem bkc [Gv] (hI : SAll Gv.σ bao) : b81 := by
 obtain ⟨g0, g1, g2, g3, g4, g5, hI2⟩ := abl hI
 try simp only [sall_cons, sT, sF, sE, sN, evs, wr] at hI2
 have hI := zT1 hI (.c 0) ew
 have := zf1 (br9 (σ := Gv.σ) (.s 3))
 rcases zq1 hI (.app 50 (.g (.s 3) .nil)) (.c 1) with ⟨hI, k2⟩ | ⟨hI, k2⟩
 ·have := zf1 (f49 (σ := Gv.σ) (.s 3) (.c 0))
  have hI := zF1 hI (.c 65536) awf
  have hI := zN1 hI (.c 0) ew
  rcases zl1 hI (.c 1048576) amy with ⟨hI, k5⟩ | ⟨hI, k5⟩
  ·have u := zf4 (j7 (Gv.σ 5) (tq (Gv.σ 3) 0))
   exact ⟨zn5,
    zm [] (.i (.c 7) sj .nil) (ag _ v3h) ak hI ze7⟩
  ·have u := zf4 (j7 (Gv.σ 5) (tq (Gv.σ 3) 0))
   exact ⟨zm [(263, 257)] (.i (.c 0) ic (.i ew a9a (.i (.c 1) ayl (.i amy baw .nil)))) (ag _ v3h) ak hI ze7,
    zn5⟩
 ·have u := zf4 (j7 (Gv.σ 5) (tq (Gv.σ 3) 0))
  exact ⟨zn5,
   zm [] (.i (.c 5) sj .nil) (ag _ v3h) ak hI ze7⟩
def b8o [Gv] : Prop := (SAll Gv.σ ank → bh 80 bwl 258 bwz b3v 259 b23) ∧ (SAll Gv.σ amo → bh 80 bwl 258 bwz b0l 259 bzv)
theorem boo [Gv] (hI : SAll Gv.σ baz) : b8o := by
 obtain ⟨g0, g1, g2, g3, g4, g5, hI2⟩ := abl hI
 try simp only [sall_cons, sT, sF, sE, sN, evs, wr] at hI2
 have hI := zT1 hI (.c 0) ew
 have := zf1 (br9 (σ := Gv.σ) (.s 3))
 rcases zq1 hI (.app 50 (.g (.s 3) .nil)) (.c 1) with ⟨hI, k2⟩ | ⟨hI, k2⟩
 ·have := zf1 (f49 (σ := Gv.σ) (.s 3) (.c 0))
  have hI := zF1 hI (.c 65536) awf
  rcases zq1 hI ic ew with ⟨hI, k4⟩ | ⟨hI, k4⟩
  ·have u := zf4 (j7 (Gv.σ 5) (tq (Gv.σ 3) 0))
   exact ⟨zn5,
    zm [] (.i (.c 7) sj .nil) (ag _ v3h) ak hI ze7⟩
  ·rcases zl1 hI (.c 1048576) amy with ⟨hI, k5⟩ | ⟨hI, k5⟩
   ·have u := zf4 (j7 (Gv.σ 5) (tq (Gv.σ 3) 0))
    exact ⟨zn5,
     zm [] (.i (.c 7) sj .nil) (ag _ v3h) ak hI ze7⟩
   ·have hI := zF1 hI (.c 60000) xk
    have u := zf4 (j7 (Gv.σ 5) (tq (Gv.σ 3) 0))
    exact ⟨zm [(264, 258)] (.i ew a9a (.i amr ayl (.i amy baw (.i xk ayl .nil)))) (ag _ v3h) ak hI ze7,
     zn5⟩
 ·have u := zf4 (j7 (Gv.σ 5) (tq (Gv.σ 3) 0))
  exact ⟨zn5,
   zm [] (.i (.c 5) sj .nil) (ag _ v3h) ak hI ze7⟩
def cbi [Gv] : Prop := (SAll Gv.σ ank → bh 80 bsp 257 bp3 bt8 259 bxa) ∧ (SAll Gv.σ amo → bh 80 bsp 257 bp3 bwy 259 bvg)
theorem bvz [Gv] (hI : SAll Gv.σ axi) : cbi := by
 have hB : xz 257 [] := by
  intro n o h
  simp at h
 have iS : jo (Gv.σ 5) → SAll Gv.σ baz := fun hr => (sc (s56.2 hr) (sc (hI _ (by simp)) SAll.nil))
 have iN : jo (Gv.σ 5) → hM (Gv.σ 5) = 0 → SAll Gv.σ bao := fun hr h0 => (sc (s56.2 hr) (sc (hI _ (by simp)) (sc (bE _ _ h0) SAll.nil)))
 refine ⟨fun hC => ?_, fun hC => ?_⟩
 ·have h0 : (SE.app 59 ut).eval Gv.σ = 0 := of_decide_eq_true (hC _ (List.mem_singleton.2 rfl))
  have hr2 : jo (Gv.σ 5) → jo ((GE.app 59 ut).eval Gv.σ) := fun hr => b71 hr h0
  refine si (kd := 1) (g := .s 5) (g' := (.app 59 ut)) (Lr := []) (loN := v8 (.s 5) .nilSlice) (loS := xw (.s 5)) (loB := xv) (loN' := v8 (.app 59 ut) .nilSlice) (loS' := xw (.app 59 ut)) (loB' := xv) (by omega) (by omega) (by omega) hB rfl rfl rfl rfl rfl (d6 (.s 5)) (d6 agt) ?_ ?_
  ·rintro ⟨hr, hm⟩
   exact ⟨_, 257, by omega, .inr ⟨hr2 hr, rfl⟩, (bkc (iN hr hm)).1 hC⟩
  ·intro hr
   exact ⟨_, 258, by omega, .inr ⟨hr2 hr, rfl⟩, (boo (iS hr)).1 hC⟩
 ·refine si (kd := 1) (g := .s 5) (g' := (.s 5)) (Lr := []) (loN := v8 (.s 5) .nilSlice) (loS := xw (.s 5)) (loB := xv) (loN' := v8 (.s 5) .nilSlice) (loS' := xw (.s 5)) (loB' := xv) (by omega) (by omega) (by omega) hB rfl rfl rfl rfl rfl (d6 (.s 5)) (d6 (.s 5)) ?_ ?_
  ·rintro ⟨hr, hm⟩
   exact ⟨_, 257, by omega, .inl ⟨⟨hr, hm⟩, rfl⟩, (bkc (iN hr hm)).2 hC⟩
  ·intro hr
   exact ⟨_, 257, by omega, .inr ⟨hr, rfl⟩, (boo (iS hr)).2 hC⟩
theorem bqz [Gv] : ap bxi := fun σ _ hA _ => (@bvz ⟨σ⟩  (aj hA).1).1 (aj hA).2
theorem bsu [Gv] : ap bum := fun σ _ hA _ => (@bvz ⟨σ⟩  (aj hA).1).2 (aj hA).2
end Go.Ev
