import Derived.Test.YtkfdioikigponaaGreatDoorRaV
set_option maxRecDepth 100000
set_option linter.all false
namespace Go.Ev
abbrev lw : AL := .g (.s 5) (.i (.c 0) .nil)
abbrev ib : SE := .rd (.s 5) (.c 1)
abbrev ajb : SE := .app 56 (.g (.s 5) .nil)
abbrev avk : List SA := [.mk false ajb (.c 1) true, .mk false ib (.c 0) true]
abbrev bmj : SE := .app 57 lw
abbrev ay7 : List SA := [.mk false bmj (.c 0) true]
abbrev azp : List SA := [.mk false bmj (.c 0) false]
abbrev aqh : List SA := [.mk false ajb (.c 1) true]
abbrev api : GE := .app 57 lw
abbrev ad6 : SE := .app 58 lw
abbrev am3 : List SA := [.mk false ad6 (.c 0) true]
abbrev ang : List SA := [.mk false ad6 (.c 0) false]
abbrev ah5 : GE := .app 58 lw
abbrev uf : AL := .g (.s 5) (.i (.v 6) .nil)
abbrev bdc : List SA := [.mk false ajb (.c 1) true, .mk true (.v 6) (.c 1) false, .mk true (.c 20000) (.v 6) false, .mk false ib (.c 0) true]
abbrev wh : SE := .app 58 uf
abbrev amp : List SA := [.mk false wh (.c 0) true]
abbrev am8 : List SA := [.mk false wh (.c 0) false]
abbrev bc8 : List SA := [.mk false ajb (.c 1) true, .mk true (.v 6) (.c 1) false, .mk true (.c 20000) (.v 6) false]
abbrev ain : GE := .app 58 uf
abbrev avj : List SA := [.mk true (.v 6) (.c 1) false, .mk true (.c 20000) (.v 6) false]
abbrev uj : AL := .g (.s 5) (.g (.s 3) .nil)
abbrev bdy : List SA := [.mk false ajb (.c 1) true, .mk true (.c 20000) (.len (.s 3)) false, .mk false ib (.c 0) true]
abbrev sq : SE := .app 59 uj
abbrev ama : List SA := [.mk false sq (.c 0) true]
abbrev anh : List SA := [.mk false sq (.c 0) false]
abbrev a8b : List SA := [.mk false ajb (.c 1) true, .mk true (.c 20000) (.len (.s 3)) false]
abbrev aiw : GE := .app 59 uj
abbrev awo : List SA := [.mk true (.c 20000) (.len (.s 3)) false]
abbrev eu : SE := .rd (.s 5) (.c 0)
abbrev wu : SE := .bin 0 .i64 (.rd (.s 5) (.c 2)) (.c 0)
abbrev bd5 : SE := .rd api (.c 0)
abbrev awh : SE := .rd api (.c 1)
abbrev bc9 : SE := .rd api (.c 2)
abbrev xf : SE := .bin 6 .i64 ib (.c 1)
abbrev anj : SE := .bin 0 .i64 ib (.c 1)
abbrev bb2 : SE := .rd ah5 (.c 0)
abbrev ayv : SE := .rd ah5 (.c 1)
abbrev a7x : SE := .rd ah5 (.c 2)
abbrev am2 : SE := .bin 0 .i64 (.rd (.s 5) (.c 2)) (.v 6)
abbrev a97 : SE := .rd ain (.c 0)
abbrev avv : SE := .rd ain (.c 1)
abbrev a9m : SE := .rd ain (.c 2)
abbrev avn : SE := .app 49 (.g (.s 3) (.i (.c 0) .nil))
abbrev aly : SE := .bin 0 .i64 (.rd (.s 5) (.c 2)) avn
abbrev a83 : SE := .rd aiw (.c 0)
abbrev ax3 : SE := .rd aiw (.c 1)
abbrev bdg : SE := .rd aiw (.c 2)
noncomputable section
def hpO (k : Nat) (g : GE) (s : AV) : HO := .mk k (.cells 76 false 0 0 [.sym .i64 (.rd g (.c 0)) [], .sym .i64 (.rd g (.c 1)) [], .sym .i64 (.rd g (.c 2)) [], s, .nilSlice])
def hpS (k k' : Nat) (g : GE) : List HO := [hpO k g (.gv (.sl (K.of k') 1 (.rd g (.c 1)) [])), .mk k' (.gob (.junk 84))]
def wdA : AV := .agg [.top, .top]
def wds (k : Nat) (n : SE) (g : GE) : HO := .mk k (.gob (.gh 31 [.i64, .i64] n g))
def bus : List AV := [.ptr (K.of 256) 0, wdA, wdA]
def by1 : List HO := [hpO 256 (.s 5) .nilSlice]
def b2i : List HO := hpS 256 257 (.app 57 lw)
def b16 : TR := .ret (.tuple [.agg [.int .i64 2, .sym .i64 ib []], .int .i64 0])
def b3g : List HO := [hpO 256 (.s 5) .nilSlice]
def b37 : TR := .ret (.tuple [.agg [.int .i64 0, .int .i64 0], .int .i64 7])
def buo : List AV := [.ptr (K.of 256) 0, wdA, wdA]
def bum : List HO := (hpS 256 257 (.s 5) ++ [])
def b0m : List HO := hpS 256 258 (.app 57 lw)
def b1u : TR := .ret (.tuple [.agg [.int .i64 2, .sym .i64 ib []], .int .i64 0])
def b30 : List HO := hpS 256 257 (.s 5)
def b1f : TR := .ret (.tuple [.agg [.int .i64 0, .int .i64 0], .int .i64 7])
def btw : List AV := [.ptr (K.of 256) 0, wdA, wdA]
def bpd : List HO := [.mk 256 (.gob (.lh 1 (.s 5)))]
def bzd : List HO := [.mk 256 (.gob (.lh 1 api))]
def byz : TR := .ret (.tuple [.agg [.int .i64 2, .sym .i64 ib []], .int .i64 0])
def bzt : TM := .mk 90 btw 257 bpd ([] ++ ay7) none byz 259 bzd
def bua : List HO := [.mk 256 (.gob (.lh 1 (.s 5)))]
def bwe : TR := .ret (.tuple [.agg [.int .i64 0, .int .i64 0], .int .i64 7])
def bt7 : TM := .mk 90 btw 257 bpd ([] ++ azp) none bwe 259 bua
def bzn : List AV := [.ptr (K.of 256) 0, .nilSlice]
def buj : List HO := [hpO 256 (.s 5) .nilSlice]
def b34 : List HO := hpS 256 257 (.app 58 lw)
def b4r : TR := .ret (.tuple [.agg [.int .i64 4, .sym .i64 ib []], .int .i64 0])
def b2g : List HO := [hpO 256 (.s 5) .nilSlice]
def b0o : TR := .ret (.tuple [.agg [.int .i64 0, .int .i64 0], .sym .i64 ad6 []])
def bur : List AV := [.ptr (K.of 256) 0, .nilSlice]
def bu4 : List HO := (hpS 256 257 (.s 5) ++ [])
def b2c : List HO := hpS 256 258 (.app 58 lw)
def b06 : TR := .ret (.tuple [.agg [.int .i64 4, .sym .i64 ib []], .int .i64 0])
def b3c : List HO := hpS 256 257 (.s 5)
def b36 : TR := .ret (.tuple [.agg [.int .i64 0, .int .i64 0], .sym .i64 ad6 []])
def bsu : List AV := [.ptr (K.of 256) 0, .nilSlice]
def bpf : List HO := [.mk 256 (.gob (.lh 1 (.s 5)))]
def byy : List HO := [.mk 256 (.gob (.lh 1 ah5))]
def bzc : TR := .ret (.tuple [.agg [.int .i64 4, .sym .i64 ib []], .int .i64 0])
def aey : TM := .mk 78 bsu 257 bpf ([] ++ am3) none bzc 259 byy
def bxd : List HO := [.mk 256 (.gob (.lh 1 (.s 5)))]
def byk : TR := .ret (.tuple [.agg [.int .i64 0, .int .i64 0], .sym .i64 ad6 []])
def aev : TM := .mk 78 bsu 257 bpf ([] ++ ang) none byk 259 bxd
def byu : List AV := [.ptr (K.of 256) 0, .gv (.sl (K.of 257) 2 (.v 6) [])]
def bx8 : List HO := [hpO 256 (.s 5) .nilSlice, wds 257 (.v 6) (.s 7)]
def b29 : List HO := hpS 256 258 (.app 58 uf)
def b1b : TR := .ret (.tuple [.agg [.int .i64 4, .sym .i64 ib []], .int .i64 0])
def b1a : List HO := [hpO 256 (.s 5) .nilSlice]
def b2z : TR := .ret (.tuple [.agg [.int .i64 0, .int .i64 0], .sym .i64 wh []])
def bxf : List AV := [.ptr (K.of 256) 0, .gv (.sl (K.of 257) 2 (.v 6) [])]
def bvp : List HO := (hpS 256 258 (.s 5) ++ [wds 257 (.v 6) (.s 7)])
def b4e : List HO := hpS 256 259 (.app 58 uf)
def b3q : TR := .ret (.tuple [.agg [.int .i64 4, .sym .i64 ib []], .int .i64 0])
def b1q : List HO := hpS 256 258 (.s 5)
def b2w : TR := .ret (.tuple [.agg [.int .i64 0, .int .i64 0], .sym .i64 wh []])
def btb : List AV := [.ptr (K.of 256) 0, .gv (.sl (K.of 257) 2 (.v 6) [])]
def boo : List HO := [.mk 256 (.gob (.lh 1 (.s 5))), wds 257 (.v 6) (.s 7)]
def byj : List HO := [.mk 256 (.gob (.lh 1 ain))]
def bxx : TR := .ret (.tuple [.agg [.int .i64 4, .sym .i64 ib []], .int .i64 0])
def aeq : TM := .mk 78 btb 258 boo (avj ++ amp) none bxx 260 byj
def bu2 : List HO := [.mk 256 (.gob (.lh 1 (.s 5)))]
def bvr : TR := .ret (.tuple [.agg [.int .i64 0, .int .i64 0], .sym .i64 wh []])
def aep : TM := .mk 78 btb 258 boo (avj ++ am8) none bvr 260 bu2
def bwt : List AV := [.ptr (K.of 256) 0, .gv (.str (.s 3) [])]
def bza : List HO := [hpO 256 (.s 5) .nilSlice]
def b0t : List HO := hpS 256 257 (.app 59 uj)
def b0g : TR := .ret (.tuple [.agg [.int .i64 3, .sym .i64 ib []], .int .i64 0])
def b3i : List HO := [hpO 256 (.s 5) .nilSlice]
def b4p : TR := .ret (.tuple [.agg [.int .i64 0, .int .i64 0], .sym .i64 sq []])
def bu7 : List AV := [.ptr (K.of 256) 0, .gv (.str (.s 3) [])]
def bvm : List HO := (hpS 256 257 (.s 5) ++ [])
def b02 : List HO := hpS 256 258 (.app 59 uj)
def b0x : TR := .ret (.tuple [.agg [.int .i64 3, .sym .i64 ib []], .int .i64 0])
def b21 : List HO := hpS 256 257 (.s 5)
def b13 : TR := .ret (.tuple [.agg [.int .i64 0, .int .i64 0], .sym .i64 sq []])
def brw : List AV := [.ptr (K.of 256) 0, .gv (.str (.s 3) [])]
def btg : List HO := [.mk 256 (.gob (.lh 1 (.s 5)))]
def bwl : List HO := [.mk 256 (.gob (.lh 1 aiw))]
def bzb : TR := .ret (.tuple [.agg [.int .i64 3, .sym .i64 ib []], .int .i64 0])
def bwr : TM := .mk 80 brw 257 btg (awo ++ ama) none bzb 259 bwl
def bxz : List HO := [.mk 256 (.gob (.lh 1 (.s 5)))]
def bu9 : TR := .ret (.tuple [.agg [.int .i64 0, .int .i64 0], .sym .i64 sq []])
def bue : TM := .mk 80 brw 257 btg (awo ++ anh) none bu9 259 bxz
end
section
variable {σ : Nat → List Int}
open Classical in
theorem s56 {g : GE} : (SA.mk false (.app 56 (.g g .nil)) (.c 1) true).holds σ ↔ jr (g.eval σ) := by
 show decide (bqi 56 [g.eval σ] = 1) = true ↔ _
 rw [decide_eq_true_iff]
 exact b2y
theorem a7d (s : List Int) : ∀ (n : Nat) (p : Int), ((s.length : Int) - p).toNat ≤ n → 0 ≤ p → 0 ≤ td s p ∧ (p ≤ (s.length : Int) → td s p ≤ (s.length : Int) - p)
 | 0, p, h, h0 => by rw [amt, if_neg (by omega)]; omega
 | n + 1, p, h, h0 => by
   rw [amt]
   split
   ·split
    ·rename_i h1 h2
     have h3 := (rn s p.toNat (by omega)).2.1
     have h4 : dwJ s p = ((Utf8.decode (ao s) p.toNat).2 : Int) := rfl
     have := a7d s n (p + dwJ s p) (by omega) (by omega)
     omega
    ·omega
   ·omega
theorem f49 (g : GE) (p : SE) : 0 ≤ p.eval σ → 0 ≤ (SE.app 49 (.g g (.i p .nil))).eval σ ∧ (p.eval σ ≤ (SE.len g).eval σ → (SE.app 49 (.g g (.i p .nil))).eval σ ≤ (SE.len g).eval σ - p.eval σ) := fun h => a7d _ _ _ (zY _) h
theorem br9 (g : GE) : (SE.app 50 (.g g .nil)).eval σ = 0 ∨ (SE.app 50 (.g g .nil)).eval σ = 1 := by
 show b9 (g.eval σ) = 0 ∨ b9 (g.eval σ) = 1
 have := f50 (g.eval σ); omega
theorem abd {A : List SA} (h : SAll σ (aqh ++ A)) : 1 ≤ (σ 5).getD 0 0 ∧ (σ 5).getD 0 0 ≤ 50000 ∧ 0 ≤ (σ 5).getD 1 0 ∧ (σ 5).getD 1 0 ≤ (σ 5).getD 0 0 ∧ 0 ≤ (σ 5).getD 2 0 ∧ (σ 5).getD 2 0 ≤ 1048576 ∧ SAll σ A := by
 have h1 := (s56 (g := .s 5)).1 (h _ (by simp))
 exact ⟨h1.2.1, h1.2.2.1, h1.2.2.2.1, h1.2.2.2.2.1, h1.2.2.2.2.2.1, h1.2.2.2.2.2.2, (aj h).2⟩
end
theorem ki (h : List Int) (z : Int) : pa h z = if h.getD 1 0 = h.getD 0 0 ∨ 1048576 < h.getD 2 0 + z then ⟨7, h⟩ else ⟨0, [h.getD 0 0, h.getD 1 0 + 1, h.getD 2 0 + z]⟩ := bri h z
theorem bnc {h : List Int} (hr : jr h) {z : Int} (hz : 0 ≤ z) (h0 : (pa h z).f = 0) : jr (pa h z).h := by
 obtain ⟨e, h1, h2, h3, h4, h5, h6⟩ := hr
 unfold hL hM hU at *
 rw [ki] at h0 ⊢
 split at h0
 ·exact absurd h0 (show ¬ (7 : Int) = 0 by decide)
 ·rename_i hc
  rw [if_neg hc]
  refine ⟨rfl, ?_⟩
  show 1 ≤ h.getD 0 0 ∧ h.getD 0 0 ≤ 50000 ∧ 0 ≤ h.getD 1 0 + 1 ∧ h.getD 1 0 + 1 ≤ h.getD 0 0 ∧ 0 ≤ h.getD 2 0 + z ∧ h.getD 2 0 + z ≤ 1048576
  omega
theorem b5e {h : List Int} (hr : jr h) {z : Int} (hz : 0 ≤ z) (h0 : (afg h z).f = 0) : jr (afg h z).h := by
 rw [alz] at h0 ⊢
 split at h0
 ·exact absurd h0 (show ¬ (4 : Int) = 0 by decide)
 ·rename_i hc; rw [if_neg hc]; exact bnc hr hz h0
theorem b4u {h s : List Int} (hr : jr h) (h0 : (qr h s).f = 0) : jr (qr h s).h := by
 rw [agy] at h0 ⊢
 split at h0
 ·exact absurd h0 (show ¬ (5 : Int) = 0 by decide)
 ·rename_i hc
  rw [if_neg hc]
  split at h0
  ·exact absurd h0 (show ¬ (4 : Int) = 0 by decide)
  ·rename_i hd; rw [if_neg hd]; exact bnc hr (a7d s _ 0 (zY _) (Int.le_refl _)).1 h0
theorem gd3 : (∀ a b c : Int, [a, b, c].getD 0 0 = a) ∧ (∀ a b c : Int, [a, b, c].getD 1 0 = b) ∧ (∀ a b c : Int, [a, b, c].getD 2 0 = c) := ⟨fun _ _ _ => rfl, fun _ _ _ => rfl, fun _ _ _ => rfl⟩
theorem v3h [Gv] : ∀ t ∈ [bq0, brr, rcF], am t := by
 intro t ht
 simp only [List.mem_cons, zH, or_false] at ht
 rcases ht with rfl | rfl | rfl
 ·exact a6p
 ·exact a7o
 ·exact bkh
def b46 [Gv] : Prop := (SAll Gv.σ ay7 → ba 90 bus 257 by1 b16 259 b2i) ∧ (SAll Gv.σ azp → ba 90 bus 257 by1 b37 259 b3g)
theorem bjn [Gv] (hI : SAll Gv.σ avk) : b46 := by
 obtain ⟨g0, g1, g2, g3, g4, g5, hI2⟩ := abd hI
 try simp only [sall_cons, sT, sF, sE, sN, evs, wr] at hI2
 have hI := zT1 hI (.c 0) eu
 have hI := zN1 hI (.c 0) eu
 have hI := zF1 hI (.c 1048576) wu
 have u := zf4 (ki (Gv.σ 5) 0)
 exact ⟨zm [(263, 257)] (.i (.c 0) ib (.i eu bd5 (.i (.c 1) awh (.i wu bc9 .nil)))) (zh hI v3h) ag hI ze5,
  zn3⟩
def b4v [Gv] : Prop := (SAll Gv.σ ay7 → ba 90 buo 258 bum b1u 259 b0m) ∧ (SAll Gv.σ azp → ba 90 buo 258 bum b1f 259 b30)
theorem bnt [Gv] (hI : SAll Gv.σ aqh) : b4v := by
 obtain ⟨g0, g1, g2, g3, g4, g5, hI2⟩ := abd hI
 try simp only [sall_cons, sT, sF, sE, sN, evs, wr] at hI2
 have hI := zT1 hI (.c 0) eu
 rcases zq1 hI ib eu with ⟨hI, k2⟩ | ⟨hI, k2⟩
 ·have u := zf4 (ki (Gv.σ 5) 0)
  exact ⟨zn3,
   zm0 [] (zh hI v3h) ag hI⟩
 ·have hI := zF1 hI (.c 1048576) wu
  have hI := zF1 hI (.c 60000) xf
  have u := zf4 (ki (Gv.σ 5) 0)
  exact ⟨zm [(264, 258)] (.i eu bd5 (.i anj awh (.i wu bc9 (.i xf awh .nil)))) (zh hI v3h) ag hI ze5,
   zn3⟩
def cbs [Gv] : Prop := (SAll Gv.σ ay7 → ba 90 btw 257 bpd byz 259 bzd) ∧ (SAll Gv.σ azp → ba 90 btw 257 bpd bwe 259 bua)
theorem bz2 [Gv] (hI : SAll Gv.σ []) : cbs := by
 have hB : xx 257 [] := by
  intro n o h
  simp at h
 have iS : jr (Gv.σ 5) → SAll Gv.σ aqh := fun hr => (sc (s56.2 hr) SAll.nil)
 have iN : jr (Gv.σ 5) → hM (Gv.σ 5) = 0 → SAll Gv.σ avk := fun hr h0 => (sc (s56.2 hr) (sc (bE _ _ h0) SAll.nil))
 refine ⟨fun hC => ?_, fun hC => ?_⟩
 ·have h0 : (SE.app 57 lw).eval Gv.σ = 0 := of_decide_eq_true (hC _ (List.mem_singleton.2 rfl))
  have hr2 : jr (Gv.σ 5) → jr ((GE.app 57 lw).eval Gv.σ) := fun hr => bnc hr (show (0 : Int) ≤ 0 by decide) h0
  refine so (kd := 1) (g := .s 5) (g' := (.app 57 lw)) (Lr := []) (loN := vq (.s 5) .nilSlice) (loS := xu (.s 5)) (loB := xr) (loN' := vq (.app 57 lw) .nilSlice) (loS' := xu (.app 57 lw)) (loB' := xr) (by omega) (by omega) (by omega) hB rfl rfl rfl rfl rfl (d7 (.s 5)) (d7 api) ?_ ?_
  ·rintro ⟨hr, hm⟩
   exact ⟨_, 257, by omega, .inr ⟨hr2 hr, rfl⟩, (bjn (iN hr hm)).1 hC⟩
  ·intro hr
   exact ⟨_, 258, by omega, .inr ⟨hr2 hr, rfl⟩, (bnt (iS hr)).1 hC⟩
 ·refine so (kd := 1) (g := .s 5) (g' := (.s 5)) (Lr := []) (loN := vq (.s 5) .nilSlice) (loS := xu (.s 5)) (loB := xr) (loN' := vq (.s 5) .nilSlice) (loS' := xu (.s 5)) (loB' := xr) (by omega) (by omega) (by omega) hB rfl rfl rfl rfl rfl (d7 (.s 5)) (d7 (.s 5)) ?_ ?_
  ·rintro ⟨hr, hm⟩
   exact ⟨_, 257, by omega, .inl ⟨⟨hr, hm⟩, rfl⟩, (bjn (iN hr hm)).2 hC⟩
  ·intro hr
   exact ⟨_, 257, by omega, .inr ⟨hr, rfl⟩, (bnt (iS hr)).2 hC⟩
theorem boj [Gv] : am bzt := fun σ _ hA _ => (@bz2 ⟨σ⟩  (aj hA).1).1 (aj hA).2
theorem bqk [Gv] : am bt7 := fun σ _ hA _ => (@bz2 ⟨σ⟩  (aj hA).1).2 (aj hA).2
def b9a [Gv] : Prop := (SAll Gv.σ am3 → ba 78 bzn 257 buj b4r 259 b34) ∧ (SAll Gv.σ ang → ba 78 bzn 257 buj b0o 259 b2g)
theorem blc [Gv] (hI : SAll Gv.σ avk) : b9a := by
 obtain ⟨g0, g1, g2, g3, g4, g5, hI2⟩ := abd hI
 try simp only [sall_cons, sT, sF, sE, sN, evs, wr] at hI2
 have hI := zT1 hI (.c 0) eu
 have hI := zN1 hI (.c 0) eu
 have hI := zF1 hI (.c 1048576) wu
 have u := zf4 (ki (Gv.σ 5) 0)
 exact ⟨zm [(261, 257)] (.i (.c 0) ib (.i eu bb2 (.i (.c 1) ayv (.i wu a7x .nil)))) (zh hI v3h) ag hI ze6,
  zn4⟩
def b93 [Gv] : Prop := (SAll Gv.σ am3 → ba 78 bur 258 bu4 b06 259 b2c) ∧ (SAll Gv.σ ang → ba 78 bur 258 bu4 b36 259 b3c)
theorem bjv [Gv] (hI : SAll Gv.σ aqh) : b93 := by
 obtain ⟨g0, g1, g2, g3, g4, g5, hI2⟩ := abd hI
 try simp only [sall_cons, sT, sF, sE, sN, evs, wr] at hI2
 have hI := zT1 hI (.c 0) eu
 rcases zq1 hI ib eu with ⟨hI, k2⟩ | ⟨hI, k2⟩
 ·have u := zf4 (ki (Gv.σ 5) 0)
  exact ⟨zn4,
   zm [] (.i (.c 7) ad6 .nil) (zh hI v3h) ag hI ze6⟩
 ·have hI := zF1 hI (.c 1048576) wu
  have hI := zF1 hI (.c 60000) xf
  have u := zf4 (ki (Gv.σ 5) 0)
  exact ⟨zm [(262, 258)] (.i eu bb2 (.i anj ayv (.i wu a7x (.i xf ayv .nil)))) (zh hI v3h) ag hI ze6,
   zn4⟩
def cck [Gv] : Prop := (SAll Gv.σ am3 → ba 78 bsu 257 bpf bzc 259 byy) ∧ (SAll Gv.σ ang → ba 78 bsu 257 bpf byk 259 bxd)
theorem bwb [Gv] (hI : SAll Gv.σ []) : cck := by
 have hB : xx 257 [] := by
  intro n o h
  simp at h
 have iS : jr (Gv.σ 5) → SAll Gv.σ aqh := fun hr => (sc (s56.2 hr) SAll.nil)
 have iN : jr (Gv.σ 5) → hM (Gv.σ 5) = 0 → SAll Gv.σ avk := fun hr h0 => (sc (s56.2 hr) (sc (bE _ _ h0) SAll.nil))
 refine ⟨fun hC => ?_, fun hC => ?_⟩
 ·have h0 : (SE.app 58 lw).eval Gv.σ = 0 := of_decide_eq_true (hC _ (List.mem_singleton.2 rfl))
  have hr2 : jr (Gv.σ 5) → jr ((GE.app 58 lw).eval Gv.σ) := fun hr => b5e hr (show (0 : Int) ≤ 0 by decide) h0
  refine so (kd := 1) (g := .s 5) (g' := (.app 58 lw)) (Lr := []) (loN := vq (.s 5) .nilSlice) (loS := xu (.s 5)) (loB := xr) (loN' := vq (.app 58 lw) .nilSlice) (loS' := xu (.app 58 lw)) (loB' := xr) (by omega) (by omega) (by omega) hB rfl rfl rfl rfl rfl (d7 (.s 5)) (d7 ah5) ?_ ?_
  ·rintro ⟨hr, hm⟩
   exact ⟨_, 257, by omega, .inr ⟨hr2 hr, rfl⟩, (blc (iN hr hm)).1 hC⟩
  ·intro hr
   exact ⟨_, 258, by omega, .inr ⟨hr2 hr, rfl⟩, (bjv (iS hr)).1 hC⟩
 ·refine so (kd := 1) (g := .s 5) (g' := (.s 5)) (Lr := []) (loN := vq (.s 5) .nilSlice) (loS := xu (.s 5)) (loB := xr) (loN' := vq (.s 5) .nilSlice) (loS' := xu (.s 5)) (loB' := xr) (by omega) (by omega) (by omega) hB rfl rfl rfl rfl rfl (d7 (.s 5)) (d7 (.s 5)) ?_ ?_
  ·rintro ⟨hr, hm⟩
   exact ⟨_, 257, by omega, .inl ⟨⟨hr, hm⟩, rfl⟩, (blc (iN hr hm)).2 hC⟩
  ·intro hr
   exact ⟨_, 257, by omega, .inr ⟨hr, rfl⟩, (bjv (iS hr)).2 hC⟩
theorem bqz [Gv] : am aey := fun σ _ hA _ => (@bwb ⟨σ⟩  (aj hA).1).1 (aj hA).2
theorem bo2 [Gv] : am aev := fun σ _ hA _ => (@bwb ⟨σ⟩  (aj hA).1).2 (aj hA).2
def b6s [Gv] : Prop := (SAll Gv.σ amp → ba 78 byu 258 bx8 b1b 260 b29) ∧ (SAll Gv.σ am8 → ba 78 byu 258 bx8 b2z 260 b1a)
theorem bj6 [Gv] (hI : SAll Gv.σ bdc) : b6s := by
 obtain ⟨g0, g1, g2, g3, g4, g5, hI2⟩ := abd hI
 try simp only [sall_cons, sT, sF, sE, sN, evs, wr] at hI2
 have hI := zT1 hI (.c 0) eu
 have hI := zF1 hI (.c 65536) (.v 6)
 have hI := zT1 hI (.c 0) (.v 6)
 have hI := zF1 hI (.c 60000) (.v 6)
 have hI := zN1 hI (.c 0) eu
 rcases zl1 hI (.c 1048576) am2 with ⟨hI, k6⟩ | ⟨hI, k6⟩
 ·have u := zf4 (ki (Gv.σ 5) ((Gv.σ 6).headD 0))
  exact ⟨zn4,
   zm [] (.i (.c 7) wh .nil) (zh hI v3h) ag hI ze6⟩
 ·have u := zf4 (ki (Gv.σ 5) ((Gv.σ 6).headD 0))
  exact ⟨zm [(264, 258)] (.i (.c 0) ib (.i eu a97 (.i (.c 1) avv (.i am2 a9m .nil)))) (zh hI v3h) ag hI ze6,
   zn4⟩
def b40 [Gv] : Prop := (SAll Gv.σ amp → ba 78 bxf 259 bvp b3q 260 b4e) ∧ (SAll Gv.σ am8 → ba 78 bxf 259 bvp b2w 260 b1q)
theorem bkp [Gv] (hI : SAll Gv.σ bc8) : b40 := by
 obtain ⟨g0, g1, g2, g3, g4, g5, hI2⟩ := abd hI
 try simp only [sall_cons, sT, sF, sE, sN, evs, wr] at hI2
 have hI := zT1 hI (.c 0) eu
 have hI := zF1 hI (.c 65536) (.v 6)
 have hI := zT1 hI (.c 0) (.v 6)
 have hI := zF1 hI (.c 60000) (.v 6)
 rcases zq1 hI ib eu with ⟨hI, k5⟩ | ⟨hI, k5⟩
 ·have u := zf4 (ki (Gv.σ 5) ((Gv.σ 6).headD 0))
  exact ⟨zn4,
   zm [] (.i (.c 7) wh .nil) (zh hI v3h) ag hI ze6⟩
 ·rcases zl1 hI (.c 1048576) am2 with ⟨hI, k6⟩ | ⟨hI, k6⟩
  ·have u := zf4 (ki (Gv.σ 5) ((Gv.σ 6).headD 0))
   exact ⟨zn4,
    zm [] (.i (.c 7) wh .nil) (zh hI v3h) ag hI ze6⟩
  ·have hI := zF1 hI (.c 60000) xf
   have u := zf4 (ki (Gv.σ 5) ((Gv.σ 6).headD 0))
   exact ⟨zm [(265, 259)] (.i eu a97 (.i anj avv (.i am2 a9m (.i xf avv .nil)))) (zh hI v3h) ag hI ze6,
    zn4⟩
def cc3 [Gv] : Prop := (SAll Gv.σ amp → ba 78 btb 258 boo bxx 260 byj) ∧ (SAll Gv.σ am8 → ba 78 btb 258 boo bvr 260 bu2)
theorem buy [Gv] (hI : SAll Gv.σ avj) : cc3 := by
 have hI2 := hI
 simp only [sall_cons, sT, sF, sE, sN, evs, wr] at hI2
 have hB : xx 258 [wds 257 (.v 6) (.s 7)] := by
  intro n o h
  rw [List.mem_singleton] at h
  cases h
  exact ⟨by omega, by omega, rfl⟩
 have iS : jr (Gv.σ 5) → SAll Gv.σ bc8 := fun hr => (sc (s56.2 hr) (sc (hI _ (by simp)) (sc (hI _ (by simp)) SAll.nil)))
 have iN : jr (Gv.σ 5) → hM (Gv.σ 5) = 0 → SAll Gv.σ bdc := fun hr h0 => (sc (s56.2 hr) (sc (hI _ (by simp)) (sc (hI _ (by simp)) (sc (bE _ _ h0) SAll.nil))))
 refine ⟨fun hC => ?_, fun hC => ?_⟩
 ·have h0 : (SE.app 58 uf).eval Gv.σ = 0 := of_decide_eq_true (hC _ (List.mem_singleton.2 rfl))
  have hr2 : jr (Gv.σ 5) → jr ((GE.app 58 uf).eval Gv.σ) := fun hr => b5e hr (show (0 : Int) ≤ (Gv.σ 6).headD 0 by omega) h0
  refine so (kd := 1) (g := .s 5) (g' := (.app 58 uf)) (Lr := [wds 257 (.v 6) (.s 7)]) (loN := vq (.s 5) .nilSlice) (loS := xu (.s 5)) (loB := xr) (loN' := vq (.app 58 uf) .nilSlice) (loS' := xu (.app 58 uf)) (loB' := xr) (by omega) (by omega) (by omega) hB rfl rfl rfl rfl rfl (d7 (.s 5)) (d7 ain) ?_ ?_
  ·rintro ⟨hr, hm⟩
   exact ⟨_, 258, by omega, .inr ⟨hr2 hr, rfl⟩, (bj6 (iN hr hm)).1 hC⟩
  ·intro hr
   exact ⟨_, 259, by omega, .inr ⟨hr2 hr, rfl⟩, (bkp (iS hr)).1 hC⟩
 ·refine so (kd := 1) (g := .s 5) (g' := (.s 5)) (Lr := [wds 257 (.v 6) (.s 7)]) (loN := vq (.s 5) .nilSlice) (loS := xu (.s 5)) (loB := xr) (loN' := vq (.s 5) .nilSlice) (loS' := xu (.s 5)) (loB' := xr) (by omega) (by omega) (by omega) hB rfl rfl rfl rfl rfl (d7 (.s 5)) (d7 (.s 5)) ?_ ?_
  ·rintro ⟨hr, hm⟩
   exact ⟨_, 258, by omega, .inl ⟨⟨hr, hm⟩, rfl⟩, (bj6 (iN hr hm)).2 hC⟩
  ·intro hr
   exact ⟨_, 258, by omega, .inr ⟨hr, rfl⟩, (bkp (iS hr)).2 hC⟩
theorem bqx [Gv] : am aeq := fun σ _ hA _ => (@buy ⟨σ⟩  (aj hA).1).1 (aj hA).2
theorem bsq [Gv] : am aep := fun σ _ hA _ => (@buy ⟨σ⟩  (aj hA).1).2 (aj hA).2
def b6m [Gv] : Prop := (SAll Gv.σ ama → ba 80 bwt 257 bza b0g 259 b0t) ∧ (SAll Gv.σ anh → ba 80 bwt 257 bza b4p 259 b3i)
theorem bji [Gv] (hI : SAll Gv.σ bdy) : b6m := by
 obtain ⟨g0, g1, g2, g3, g4, g5, hI2⟩ := abd hI
 try simp only [sall_cons, sT, sF, sE, sN, evs, wr] at hI2
 have hI := zT1 hI (.c 0) eu
 have := zf1 (br9 (σ := Gv.σ) (.s 3))
 rcases zq1 hI (.app 50 (.g (.s 3) .nil)) (.c 1) with ⟨hI, k2⟩ | ⟨hI, k2⟩
 ·have := zf1 (f49 (σ := Gv.σ) (.s 3) (.c 0))
  have hI := zF1 hI (.c 65536) avn
  have hI := zN1 hI (.c 0) eu
  rcases zl1 hI (.c 1048576) aly with ⟨hI, k5⟩ | ⟨hI, k5⟩
  ·have u := zf4 (ki (Gv.σ 5) (td (Gv.σ 3) 0))
   exact ⟨zn5,
    zm [] (.i (.c 7) sq .nil) (zh hI v3h) ag hI ze7⟩
  ·have u := zf4 (ki (Gv.σ 5) (td (Gv.σ 3) 0))
   exact ⟨zm [(263, 257)] (.i (.c 0) ib (.i eu a83 (.i (.c 1) ax3 (.i aly bdg .nil)))) (zh hI v3h) ag hI ze7,
    zn5⟩
 ·have u := zf4 (ki (Gv.σ 5) (td (Gv.σ 3) 0))
  exact ⟨zn5,
   zm [] (.i (.c 5) sq .nil) (zh hI v3h) ag hI ze7⟩
def b97 [Gv] : Prop := (SAll Gv.σ ama → ba 80 bu7 258 bvm b0x 259 b02) ∧ (SAll Gv.σ anh → ba 80 bu7 258 bvm b13 259 b21)
theorem bkq [Gv] (hI : SAll Gv.σ a8b) : b97 := by
 obtain ⟨g0, g1, g2, g3, g4, g5, hI2⟩ := abd hI
 try simp only [sall_cons, sT, sF, sE, sN, evs, wr] at hI2
 have hI := zT1 hI (.c 0) eu
 have := zf1 (br9 (σ := Gv.σ) (.s 3))
 rcases zq1 hI (.app 50 (.g (.s 3) .nil)) (.c 1) with ⟨hI, k2⟩ | ⟨hI, k2⟩
 ·have := zf1 (f49 (σ := Gv.σ) (.s 3) (.c 0))
  have hI := zF1 hI (.c 65536) avn
  rcases zq1 hI ib eu with ⟨hI, k4⟩ | ⟨hI, k4⟩
  ·have u := zf4 (ki (Gv.σ 5) (td (Gv.σ 3) 0))
   exact ⟨zn5,
    zm [] (.i (.c 7) sq .nil) (zh hI v3h) ag hI ze7⟩
  ·rcases zl1 hI (.c 1048576) aly with ⟨hI, k5⟩ | ⟨hI, k5⟩
   ·have u := zf4 (ki (Gv.σ 5) (td (Gv.σ 3) 0))
    exact ⟨zn5,
     zm [] (.i (.c 7) sq .nil) (zh hI v3h) ag hI ze7⟩
   ·have hI := zF1 hI (.c 60000) xf
    have u := zf4 (ki (Gv.σ 5) (td (Gv.σ 3) 0))
    exact ⟨zm [(264, 258)] (.i eu a83 (.i anj ax3 (.i aly bdg (.i xf ax3 .nil)))) (zh hI v3h) ag hI ze7,
     zn5⟩
 ·have u := zf4 (ki (Gv.σ 5) (td (Gv.σ 3) 0))
  exact ⟨zn5,
   zm [] (.i (.c 5) sq .nil) (zh hI v3h) ag hI ze7⟩
def cbe [Gv] : Prop := (SAll Gv.σ ama → ba 80 brw 257 btg bzb 259 bwl) ∧ (SAll Gv.σ anh → ba 80 brw 257 btg bu9 259 bxz)
theorem byx [Gv] (hI : SAll Gv.σ awo) : cbe := by
 have hB : xx 257 [] := by
  intro n o h
  simp at h
 have iS : jr (Gv.σ 5) → SAll Gv.σ a8b := fun hr => (sc (s56.2 hr) (sc (hI _ (by simp)) SAll.nil))
 have iN : jr (Gv.σ 5) → hM (Gv.σ 5) = 0 → SAll Gv.σ bdy := fun hr h0 => (sc (s56.2 hr) (sc (hI _ (by simp)) (sc (bE _ _ h0) SAll.nil)))
 refine ⟨fun hC => ?_, fun hC => ?_⟩
 ·have h0 : (SE.app 59 uj).eval Gv.σ = 0 := of_decide_eq_true (hC _ (List.mem_singleton.2 rfl))
  have hr2 : jr (Gv.σ 5) → jr ((GE.app 59 uj).eval Gv.σ) := fun hr => b4u hr h0
  refine so (kd := 1) (g := .s 5) (g' := (.app 59 uj)) (Lr := []) (loN := vq (.s 5) .nilSlice) (loS := xu (.s 5)) (loB := xr) (loN' := vq (.app 59 uj) .nilSlice) (loS' := xu (.app 59 uj)) (loB' := xr) (by omega) (by omega) (by omega) hB rfl rfl rfl rfl rfl (d7 (.s 5)) (d7 aiw) ?_ ?_
  ·rintro ⟨hr, hm⟩
   exact ⟨_, 257, by omega, .inr ⟨hr2 hr, rfl⟩, (bji (iN hr hm)).1 hC⟩
  ·intro hr
   exact ⟨_, 258, by omega, .inr ⟨hr2 hr, rfl⟩, (bkq (iS hr)).1 hC⟩
 ·refine so (kd := 1) (g := .s 5) (g' := (.s 5)) (Lr := []) (loN := vq (.s 5) .nilSlice) (loS := xu (.s 5)) (loB := xr) (loN' := vq (.s 5) .nilSlice) (loS' := xu (.s 5)) (loB' := xr) (by omega) (by omega) (by omega) hB rfl rfl rfl rfl rfl (d7 (.s 5)) (d7 (.s 5)) ?_ ?_
  ·rintro ⟨hr, hm⟩
   exact ⟨_, 257, by omega, .inl ⟨⟨hr, hm⟩, rfl⟩, (bji (iN hr hm)).2 hC⟩
  ·intro hr
   exact ⟨_, 257, by omega, .inr ⟨hr, rfl⟩, (bkq (iS hr)).2 hC⟩
theorem bqc [Gv] : am bwr := fun σ _ hA _ => (@byx ⟨σ⟩  (aj hA).1).1 (aj hA).2
theorem bo7 [Gv] : am bue := fun σ _ hA _ => (@byx ⟨σ⟩  (aj hA).1).2 (aj hA).2
end Go.Ev
