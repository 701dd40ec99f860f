import Derived.Test.YtocilenpboklbaaGreatDoorRaC
set_option maxRecDepth 100000
set_option linter.all false
namespace Go.Ev
abbrev aqn : SE := .bin 7 .i64 (.c (-1)) (.v 1)
abbrev aye : SE := .bin 6 .i64 (.v 2) (.app 49 (.g (.s 3) (.i (.v 1) .nil)))
abbrev aeu : List SA := [.mk true (.v 1) (.c 0) false, .mk true (.len (.s 3)) (.v 1) false, .mk true (.c 20000) (.len (.s 3)) false, .mk true (.v 2) (.c 0) false, .mk true (.v 1) (.v 2) false]
abbrev sv : List SA := [.mk true (.c 20000) (.len (.s 3)) false]
abbrev va : GE := .app 47 (.g (.s 3) .nil)
abbrev ayf : SE := .c 2305843009213693952
abbrev lj : List SA := [.mk true (.v 1) (.c 0) false, .mk true (.len (.s 4)) (.v 1) false, .mk true (.c 20000) (.len (.s 4)) false, .mk true (.v 2) (.c 0) false, .mk true (.v 5) (.v 2) false, .mk true ayf (.v 5) false]
abbrev bdy : AL := .g (.s 4) (.i (.v 1) (.i (.v 2) (.i (.v 5) (.i (.c 1) .nil))))
abbrev ayg : SE := .app 51 bdy
abbrev aqo : List SA := [.mk false ayg (.c 0) true]
abbrev yu : SE := .app 52 bdy
abbrev aqp : List SA := [.mk false ayg (.c 1) true]
abbrev aqq : List SA := [.mk false ayg (.c 2) true]
abbrev aqr : AL := .i (.v 5) (.i (.c 0) .nil)
abbrev a2y : AL := .g (.s 4) (.i (.v 1) (.i (.v 2) aqr))
abbrev a2z : SE := .app 51 a2y
abbrev aqs : List SA := [.mk false a2z (.c 0) true]
abbrev agx : SE := .app 52 a2y
abbrev aqt : List SA := [.mk false a2z (.c 2) true]
abbrev aqu : SE := .app 47 (.g (.s 3) .nil)
abbrev a21 : List SA := [.mk false aqu (.c 0) true]
abbrev aqv : SE := .app 48 (.g (.s 3) .nil)
abbrev a22 : List SA := [.mk false aqu (.c 1) true]
abbrev a23 : List SA := [.mk false aqu (.c 2) true]
abbrev acv : SE := .bin 6 .i64 (.v 1) (.dw (.s 3) (.v 1))
abbrev aqw : SE := .bin 0 .i64 (.v 2) (.c 1)
abbrev a24 : SE := .bin 6 .i64 (.len (.s 3)) (.bin 7 .i64 (.c (-1)) acv)
abbrev acw : SE := .dr (.s 4) (.v 1)
abbrev sb : SE := .bin 0 .u64 (.bin 2 .u64 (.v 2) (.c 10)) (.bin 0 .u64 (.bin 1 .i32 acw (.c 48)) (.c 0))
abbrev ie : SE := .bin 6 .i64 (.v 1) (.dw (.s 4) (.v 1))
abbrev a25 : AL := .g (.s 4) (.i ie (.i (.v 5) aqr))
abbrev agy : SE := .app 51 a25
abbrev f8 : SE := .bin 6 .i64 (.len (.s 4)) (.bin 7 .i64 (.c (-1)) ie)
abbrev pb : SE := .bin 6 .i64 (.len (.s 4)) aqn
abbrev a26 : SE := .app 52 a25
abbrev a27 : AL := .g (.s 4) (.i ie (.i sb (.i (.v 5) (.i (.c 1) .nil))))
abbrev aqx : SE := .app 51 a27
abbrev a28 : SE := .app 52 a27
abbrev a29 : AL := .g (.s 4) (.i ie (.i sb aqr))
abbrev a3a : SE := .app 51 a29
abbrev acx : SE := .len va
abbrev a3b : AL := .g va (.i (.c 0) (.i (.c 0) (.i ayf (.i (.c 1) .nil))))
abbrev aqy : SE := .app 51 a3b
abbrev a3c : AL := .g va (.i (.c 0) (.i (.c 0) (.i (.c 2305843009213693951) (.i (.c 1) .nil))))
abbrev aqz : SE := .app 51 a3c
noncomputable section
def mL3 : SE := .bin 6 .i64 (.len (.s 3)) aqn
def mL4 : SE := .bin 6 .i64 (.len (.s 4)) aqn
def bqj : List AV := [.top, .top, .sym .i64 (.v 2) [], .gv (.str (.s 3) []), .ptr (K.of 256) 0] ++ tps 5
def bqg : List HO := [.mk 256 (.gob (.iter (.s 3) (.v 1) []))]
def bqh : List HO := []
def bqi : LR := (.x 0 ([.top, .top, .sym .i64 aye []] ++ tps 7))
def rcl (m : SE) : LT := .mk 113 5 bqj 257 bqg (aeu ++ []) (some (mL3, m)) bqi 257 bqh
def b05 : LT := .mk 113 5 bqj 257 bqg (aeu ++ []) none bqi 257 bqh
def rcU : List AV := [.gv (.str (.s 3) [])]
def rcI : List HO := []
def rcO : List HO := []
def rcR : TR := .ret (.sym .i64 (.app 49 (.g (.s 3) (.i (.c 0) .nil))) [])
def rcF : TM := .mk 113 rcU 256 rcI (sv ++ []) none rcR 257 rcO
def aep : List AV := [.gv (.str (.s 3) []), .ptr (K.of 256) 0, .top, .top, .top] ++ tps 11
def avh : List HO := [.mk 256 (.cells 245 false 0 0 (List.replicate 43 (.bool false) ++ [.bool true, .bool false, .bool true] ++ List.replicate 210 (.bool false)))]
def avi : List HO := []
def avj : LR := (.x 0 ([.gv (.str va [])] ++ tps 15))
def trm (m : SE) : LT := .mk 196 3 aep 257 avh (sv ++ []) (some ((.len (.s 3)), m)) avj 257 avi
def bv5 : LT := .mk 196 3 aep 257 avh (sv ++ []) none avj 257 avi
def trU : List AV := [.gv (.str (.s 3) []), .str 2 11053]
def trI : List HO := []
def trO : List HO := []
def trR : TR := .ret (.gv (.str va []))
def trF : TM := .mk 182 trU 256 trI (sv ++ []) none trR 258 trO
def aov : List AV := [.gv (.str (.s 3) []), .top, .top, .bool false, .bool true, .gv (.str (.s 4) []), .sym .u64 (.v 5) [], .sym .u64 (.v 2) []] ++ tps 20 ++ [.ptr (K.of 256) 0] ++ tps 28
def aou : List HO := [.mk 256 (.gob (.iter (.s 4) (.v 1) []))]
def bap : List HO := []
def baq : LR := (.r ([.gv (.str (.s 3) []), .top, .int .i64 0, .bool false, .bool false, .top, .top, .top] ++ tps 20 ++ [.top] ++ tps 28))
def bpt (m : SE) : LT := .mk 160 19 aov 257 aou (lj ++ aqo) (some (mL4, m)) baq 257 bap
def bl7 : LT := .mk 160 19 aov 257 aou (lj ++ aqo) none baq 257 bap
def bal : List HO := []
def bam : LR := (.x 0 ([.gv (.str (.s 3) []), .top, .top, .bool false, .bool true, .top, .top, .sym .u64 yu []] ++ tps 20 ++ [.top] ++ tps 28))
def bpr (m : SE) : LT := .mk 160 19 aov 257 aou (lj ++ aqp) (some (mL4, m)) bam 257 bal
def bl5 : LT := .mk 160 19 aov 257 aou (lj ++ aqp) none bam 257 bal
def ban : List HO := []
def bao : LR := (.x 0 ([.gv (.str (.s 3) []), .top, .top, .bool false, .bool false, .top, .top, .sym .u64 yu []] ++ tps 20 ++ [.top] ++ tps 28))
def bps (m : SE) : LT := .mk 160 19 aov 257 aou (lj ++ aqq) (some (mL4, m)) bao 257 ban
def bl6 : LT := .mk 160 19 aov 257 aou (lj ++ aqq) none bao 257 ban
def a6g : List AV := [.gv (.str (.s 3) []), .top, .top, .bool false, .bool false, .gv (.str (.s 4) []), .sym .u64 (.v 5) [], .sym .u64 (.v 2) []] ++ tps 20 ++ [.ptr (K.of 256) 0] ++ tps 28
def a6f : List HO := [.mk 256 (.gob (.iter (.s 4) (.v 1) []))]
def baj : List HO := []
def bak : LR := (.r ([.gv (.str (.s 3) []), .top, .int .i64 0, .bool false, .bool false, .top, .top, .top] ++ tps 20 ++ [.top] ++ tps 28))
def bpp (m : SE) : LT := .mk 160 19 a6g 257 a6f (lj ++ aqs) (some (mL4, m)) bak 257 baj
def bl4 : LT := .mk 160 19 a6g 257 a6f (lj ++ aqs) none bak 257 baj
def bah : List HO := []
def bai : LR := (.x 0 ([.gv (.str (.s 3) []), .top, .top, .bool false, .bool false, .top, .top, .sym .u64 agx []] ++ tps 20 ++ [.top] ++ tps 28))
def bpo (m : SE) : LT := .mk 160 19 a6g 257 a6f (lj ++ aqt) (some (mL4, m)) bai 257 bah
def bl3 : LT := .mk 160 19 a6g 257 a6f (lj ++ aqt) none bai 257 bah
def nuU : List AV := [.gv (.str (.s 3) [])]
def nuI : List HO := []
def bui : List HO := []
def buj : TR := .ret (.tuple [.int .i64 0, .bool false, .bool false])
def buh : TM := .mk 160 nuU 256 nuI (sv ++ a21) none buj 260 bui
def buc : List HO := []
def bud : TR := .ret (.tuple [.sym .i64 aqv [], .bool true, .bool true])
def bub : TM := .mk 160 nuU 256 nuI (sv ++ a22) none bud 260 buc
def buf : List HO := []
def bug : TR := .ret (.tuple [.top, .bool true, .bool false])
def bue : TM := .mk 160 nuU 256 nuI (sv ++ a23) none bug 260 buf
end
theorem afn {σ : Nat → List Int} (g : GE) (e : SE) : 0 ≤ e.eval σ → e.eval σ < (SE.len g).eval σ → 1 ≤ (SE.dw g e).eval σ ∧ e.eval σ + (SE.dw g e).eval σ ≤ (SE.len g).eval σ ∧ 0 ≤ (SE.dr g e).eval σ ∧ (SE.dr g e).eval σ ≤ 1114111 := by
 intro h0 h1
 have h1 : e.eval σ < ((g.eval σ).length : Int) := h1
 obtain ⟨b1, b2, b3⟩ := my (g.eval σ) (e.eval σ).toNat (by omega)
 show 1 ≤ ((Utf8.decode (aj (g.eval σ)) (e.eval σ).toNat).2 : Int) ∧ e.eval σ + ((Utf8.decode (aj (g.eval σ)) (e.eval σ).toNat).2 : Int) ≤ ((g.eval σ).length : Int) ∧ 0 ≤ ((Utf8.decode (aj (g.eval σ)) (e.eval σ).toNat).1 : Int) ∧ ((Utf8.decode (aj (g.eval σ)) (e.eval σ).toNat).1 : Int) ≤ 1114111
 omega
theorem aox (d : List Int) : ∀ (n : Nat) (p s m f : Int), ((d.length : Int) - p).toNat ≤ n → 0 ≤ s → s ≤ m → (f = 0 ∨ f = 1) → ((lf d p s m f).k = 0 ∨ ((lf d p s m f).k = 1 ∧ f = 1) ∨ (lf d p s m f).k = 2) ∧ 0 ≤ (lf d p s m f).n ∧ (lf d p s m f).n ≤ m
 | 0, p, s, m, f, h, h0, h1, hf => by
   rw [gd, if_neg (by omega)]
   dsimp only
   rcases hf with rfl | rfl
   ·exact ⟨.inr (.inr (if_neg (by omega))), h0, h1⟩
   ·exact ⟨.inr (.inl ⟨if_pos rfl, rfl⟩), h0, h1⟩
 | n + 1, p, s, m, f, h, h0, h1, hf => by
   rw [gd]
   split
   ·split
    ·exact ⟨.inl rfl, Int.le_refl _, by dsimp only; omega⟩
    ·split
     ·split
      ·obtain ⟨a, b, c⟩ := aox d n (p + dwJ d p) m m 0 (by omega) (by omega) (by omega) (.inl rfl)
       refine ⟨?_, b, c⟩
       rcases a with a | a | a
       ·exact .inl a
       ·exact absurd a.2 (by omega)
       ·exact .inr (.inr a)
      ·exact aox d n (p + dwJ d p) _ m f (by omega) (by omega) (by omega) hf
     ·exact ⟨.inl rfl, Int.le_refl _, by dsimp only; omega⟩
   ·dsimp only
    rcases hf with rfl | rfl
    ·exact ⟨.inr (.inr (if_neg (by omega))), h0, h1⟩
    ·exact ⟨.inr (.inl ⟨if_pos rfl, rfl⟩), h0, h1⟩
theorem f51 {σ : Nat → List Int} (g : GE) (p s m f : SE) : 0 ≤ s.eval σ → s.eval σ ≤ m.eval σ → (f.eval σ = 0 ∨ f.eval σ = 1) → ((SE.app 51 (.g g (.i p (.i s (.i m (.i f .nil)))))).eval σ = 0 ∨ ((SE.app 51 (.g g (.i p (.i s (.i m (.i f .nil)))))).eval σ = 1 ∧ f.eval σ = 1) ∨ (SE.app 51 (.g g (.i p (.i s (.i m (.i f .nil)))))).eval σ = 2) ∧
  0 ≤ (SE.app 52 (.g g (.i p (.i s (.i m (.i f .nil)))))).eval σ ∧ (SE.app 52 (.g g (.i p (.i s (.i m (.i f .nil)))))).eval σ ≤ m.eval σ := fun h0 h1 hf => aox _ _ _ _ _ _ (zY _) h0 h1 hf
theorem aeo (c : Int) (l : List Int) : gy (c :: l) = if c = 43 ∨ c = 45 then gy l else c :: l := by
 unfold gy
 rw [List.dropWhile_cons]
 by_cases h : c = 43 ∨ c = 45
 ·rw [if_pos (decide_eq_true h), if_pos h]
 ·rw [if_neg (by simpa using h), if_neg h]
theorem a0q : ∀ l : List Int, (gy l).length ≤ l.length
 | [] => zY _
 | c :: l => by
   rw [aeo]
   split
   ·have := a0q l; simp only [zO]; omega
   ·exact zY _
theorem ba7 {σ : Nat → List Int} (h : SAll σ aeu) : 0 ≤ (σ 1).headD 0 ∧ (σ 1).headD 0 ≤ ((σ 3).length : Int) ∧ ((σ 3).length : Int) ≤ 20000 ∧ 0 ≤ (σ 2).headD 0 ∧ (σ 2).headD 0 ≤ (σ 1).headD 0 := by
 simp only [sall_cons, sF, evs] at h
 exact ⟨h.1, h.2.1, h.2.2.1, h.2.2.2.1, h.2.2.2.2.1⟩
theorem awy {σ : Nat → List Int} (h : SAll σ lj) : 0 ≤ (σ 1).headD 0 ∧ (σ 1).headD 0 ≤ ((σ 4).length : Int) ∧ ((σ 4).length : Int) ≤ 20000 ∧ 0 ≤ (σ 2).headD 0 ∧ (σ 2).headD 0 ≤ (σ 5).headD 0 ∧ (σ 5).headD 0 ≤ 2305843009213693952 := by
 simp only [sall_cons, sF, evs] at h
 exact ⟨h.1, h.2.1, h.2.2.1, h.2.2.2.1, h.2.2.2.2.1, h.2.2.2.2.2.1⟩
theorem aja {σ : Nat → List Int} (h : SAll σ sv) : ((σ 3).length : Int) ≤ 20000 := by
 simp only [sall_cons, sF, evs] at h
 exact h.1
def bqf [Gv] : Prop := (SAll Gv.σ [] → bw 113 5 bqj 257 bqg bqi 257 bqh)
theorem bsw [Gv] (hh : ∀ t ∈ [rcl (mL3)], au t) (hI : SAll Gv.σ aeu) : bqf := by
 obtain ⟨hp0, hpl, hL, hn0, hnl⟩ := ba7 hI
 rcases zl1 hI (.v 1) (.len (.s 3)) with ⟨hI, k1⟩ | ⟨hI, k1⟩
 ·have := zf1 (afn (σ := Gv.σ) (.s 3) (.v 1))
  have hI := zF1 hI acv (.c 0)
  have hI := zF1 hI (.len (.s 3)) acv
  have hI := zF1 hI aqw (.c 0)
  have hI := zF1 hI acv aqw
  have hI := zT1 hI a24 (.bin 6 .i64 (.len (.s 3)) aqn)
  have hI := zF1 hI a24 (.c 0)
  have u := zf4 (abk (Gv.σ 3) ((Gv.σ 1).headD 0))
  exact zt [] (.i (.bin 6 .i64 aqw (.app 49 (.g (.s 3) (.i acv .nil)))) aye .nil) aa (zp hI hh) hI ze1
 ·have u := zf4 (abk (Gv.σ 3) ((Gv.σ 1).headD 0))
  exact zt [] (.i (.v 2) aye .nil) aa (zp hI hh) hI ze1
theorem a0d : ∀ (B : Nat) (σ : Nat → List Int), SAll σ aeu → (mL3).eval σ < (B : Int) → @bqf ⟨σ⟩
 | 0, σ, hI, hb => by have := ba7 hI; simp only [mL3, evs, wr] at hb; omega
 | B + 1, σ, hI, hb => by
   have ih : ∀ σ' : Nat → List Int, SAll σ' aeu → 0 ≤ (mL3).eval σ' ∧ (mL3).eval σ' < (mL3).eval σ → @bqf ⟨σ'⟩ := fun σ' h h' => a0d B σ' h (by omega)
   have hh : ∀ t ∈ [rcl (mL3)], @au ⟨σ⟩ t := by
    intro t ht
    simp only [List.mem_cons, zH, or_false] at ht
    rcases ht with rfl
    ·exact fun σ' _ hA hb => (ih σ' (ai hA).1 hb) (ai hA).2
   exact @bsw ⟨σ⟩ hh hI
theorem bqk [Gv] : au b05 := fun σ _ hA _ => (a0d (((mL3).eval σ).toNat + 1) σ (ai hA).1 (by omega)) (ai hA).2
def rcG [Gv] : Prop := (SAll Gv.σ [] → bz 113 rcU 256 rcI rcR 257 rcO)
theorem bz8 [Gv] (hI : SAll Gv.σ sv) : rcG := by
 have h20 := aja hI
 have hI := zF1 hI (.len (.s 3)) (.c 0)
 have u := trivial
 exact zm0 [] aa (zp hI (ed bqk)) hI
theorem ba8 [Gv] : ax rcF := fun σ _ hA _ => (@bz8 ⟨σ⟩  (ai hA).1) (ai hA).2
noncomputable section
def tI0 : SA := .mk true (.c 20000) (.len (.s 3)) false
def trE (g : GE) : EqL := .g g va .nil
def tCut : GE := .cut (.s 3) (.c 1) (.len (.s 3))
def bqz (c : Int) : List SA := [tI0, .mk true (.c 0) (.len (.s 3)) true, .mk false (.rd (.s 3) (.c 0)) (.c c) true]
def bq0 (c : Int) : List SA := [tI0, .mk true (.c 0) (.len (.s 3)) true, .mk false (.rd (.s 3) (.c 0)) (.c c) true, .mk true (.len (.s 3)) (.c 1) false, .mk true (.c 20000) (.len tCut) false, .mk true (.len tCut) (.len (.s 3)) true, .mk true (.len tCut) (.c 0) false]
def bv4 (c : Int) : Bool := rq [] 257 257 (trE (.s 3)) avi (bq aep) avj (sh (zn 196 3) (afo aw0 bpu 2000) (.mk 196 (bq aep) false none) (.mk (nw (aVs (bqz c) aep) 0 mt) [] .none (bl (aHO (bqz c) avh) 257)))
end
theorem bco : ((List.range 256).all fun c => c == 43 || c == 45 || bv4 (c : Int)) = true := by kernel_rfl
theorem bq1 (c : Int) (h0 : 0 ≤ c) (h1 : c < 256) (h2 : ¬(c = 43 ∨ c = 45)) : bv4 c = true := by
 have := List.all_eq_true.1 bco c.toNat (List.mem_range.2 (by omega))
 rw [show ((c.toNat : Nat) : Int) = c by omega] at this
 simp only [Bool.or_eq_true, beq_iff_eq] at this
 rcases this with (this | this) | this
 ·omega
 ·omega
 ·exact this
theorem t43 [Gv] (c : Int) (hc : c = 43 ∨ c = 45) (hh : ∀ t ∈ [trm (.len (.s 3))], au t) (hI : SAll Gv.σ [tI0]) (l : List Int) (hl : Gv.σ 3 = c :: l) (hrun : rq [] 257 257 (trE (.app 47 (.g tCut .nil))) avi (bq aep) avj (sh (zn 196 3) (afo aw0 (lpT [trm (.len (.s 3))]) 2000) (.mk 196 (bq aep) false none) (.mk (nw (aVs (bq0 c) aep) 0 mt) [] .none (bl (aHO (bq0 c) avh) 257))) = true) : bw 196 3 aep 257 avh avj 257 avi := by
 have hL : ((Gv.σ 3).length : Int) = (l.length : Int) + 1 := by rw [hl]; rfl
 have h20 := aja hI
 have hcut : tCut.eval Gv.σ = l := by
  show ((Gv.σ 3).take (((Gv.σ 3).length : Int)).toNat).drop 1 = l
  rw [show (((Gv.σ 3).length : Int)).toNat = (Gv.σ 3).length by omega, List.take_length, hl]; rfl
 have hcl : (SE.len tCut).eval Gv.σ = (l.length : Int) := by show ((tCut.eval Gv.σ).length : Int) = _; rw [hcut]
 have htr : gy l = gy (Gv.σ 3) := by rw [hl, aeo, if_pos hc]
 refine na (n := 2000) (A := bq0 c) (T := []) (E := trE (.app 47 (.g tCut .nil))) aa (aoj _ hh) ?_ ⟨?_, trivial⟩ rfl rfl hrun
 ·refine sc (hI _ (List.mem_singleton.2 rfl)) (sc (bT _ _ ?_) (sc (bE _ _ ?_) (sc (bF _ _ ?_) (sc (bF _ _ ?_) (sc (bT _ _ ?_) (sc (bF _ _ ?_) SAll.nil))))))
  ·simp only [evs]; omega
  ·simp only [evs]; rw [hl]; rfl
  ·simp only [evs]; omega
  ·rw [hcl]; simp only [evs]; omega
  ·rw [hcl]; simp only [evs]; omega
  ·rw [hcl]; simp only [evs]; omega
 ·show gy (tCut.eval Gv.σ) = gy (Gv.σ 3)
  rw [hcut]; exact htr
theorem bs4 [Gv] (hh : ∀ t ∈ [trm (.len (.s 3))], au t) (hI : SAll Gv.σ [tI0]) : bw 196 3 aep 257 avh avj 257 avi := by
 intro b hb ρ a cs w hg hw hc h5 hv hd
 have hB : ay (Gv.σ 3) := by
  have hv := hv
  unfold aep at hv
  simp only [zJ, VRels, VRel] at hv
  obtain ⟨v, vs, _, ⟨_, _, hB⟩, _⟩ := hv
  exact hB
 refine (?_ : bw 196 3 aep 257 avh avj 257 avi) b hb ρ a cs w hg hw hc h5 hv hd
 cases hl : Gv.σ 3 with
 | nil =>
   refine na (n := 2000) (A := [tI0, .mk true (.c 0) (.len (.s 3)) false]) (T := []) (E := trE (.s 3)) aa af (sc (hI _ (List.mem_singleton.2 rfl)) (sc (bF _ _ ?_) SAll.nil)) ⟨?_, trivial⟩ rfl rfl (by kernel_rfl)
   ·simp only [evs]; rw [hl]; exact Int.le_refl _
   ·show Gv.σ 3 = gy (Gv.σ 3)
    rw [hl]; rfl
 | cons c l =>
   by_cases h43 : c = 43 ∨ c = 45
   ·rcases h43 with rfl | rfl
    ·exact t43 43 (.inl rfl) hh hI l hl (by kernel_rfl)
    ·exact t43 45 (.inr rfl) hh hI l hl (by kernel_rfl)
   ·have h2 := hB c (by rw [hl]; simp)
    refine na (n := 2000) (A := bqz c) (T := []) (E := trE (.s 3)) aa af (sc (hI _ (List.mem_singleton.2 rfl)) (sc (bT _ _ ?_) (sc (bE _ _ ?_) SAll.nil))) ⟨?_, trivial⟩ rfl rfl (bq1 c h2.1 h2.2 h43)
    ·simp only [evs]; rw [hl]; simp only [zO]; omega
    ·simp only [evs]; rw [hl]; rfl
    ·show Gv.σ 3 = gy (Gv.σ 3)
     rw [hl, aeo, if_neg h43]
theorem a0r : ∀ (B : Nat) (σ : Nat → List Int), SAll σ [tI0] → (σ 3).length < B → @bw ⟨σ⟩ 196 3 aep 257 avh avj 257 avi
 | 0, σ, hI, hb => by omega
 | B + 1, σ, hI, hb => by
   refine @bs4 ⟨σ⟩ ?_ hI
   intro t ht
   rw [List.mem_singleton] at ht; subst ht
   intro σ' _ hA hb'
   have h2 : ((σ' 3).length : Int) < ((σ 3).length : Int) := hb'.2
   exact a0r B σ' (ai hA).1 (by omega)
theorem bq2 [Gv] : au bv5 := fun σ _ hA _ => a0r ((σ 3).length + 1) σ (ai hA).1 (by omega)
theorem afj [Gv] : ax trF := by
 intro σ _ hA _
 have hI := (ai hA).1
 by_cases h : σ 3 = []
 ·refine @bf ⟨σ⟩ _ (@aa ⟨σ⟩) _ (@af ⟨σ⟩) 2000 _ _ _ _ [tI0, .mk false (.eqg (.s 3) (.lit 0 0)) (.c 1) true] _ _ _ [] (trE (.s 3)) (sc (hI _ (List.mem_singleton.2 rfl)) (sc (@bE ⟨σ⟩ _ _ ?_) SAll.nil)) ⟨?_, trivial⟩ rfl rfl (by kernel_rfl)
  ·simp only [evs, wr]; exact h
  ·show σ 3 = gy (σ 3)
   rw [h]; rfl
 ·refine @bf ⟨σ⟩ _ (@aa ⟨σ⟩) _ (@aoj ⟨σ⟩ [bv5] (ed (@bq2 ⟨σ⟩))) 2000 _ _ _ _ [tI0, .mk false (.eqg (.s 3) (.lit 0 0)) (.c 1) false] _ _ _ [] .nil (sc (hI _ (List.mem_singleton.2 rfl)) (sc (@bN ⟨σ⟩ _ _ ?_) SAll.nil)) trivial rfl rfl (by kernel_rfl)
  simp only [evs, wr]; exact h
theorem bcn {s : List Int} (h : ¬ gy s = []) : 1 ≤ (s.length : Int) := by
 cases s with
 | nil => exact absurd rfl h
 | cons c l => simp only [zO]; omega
def bpq [Gv] : Prop := (SAll Gv.σ aqo → bw 160 19 aov 257 aou baq 257 bap) ∧ (SAll Gv.σ aqp → bw 160 19 aov 257 aou bam 257 bal) ∧ (SAll Gv.σ aqq → bw 160 19 aov 257 aou bao 257 ban)
theorem bsr [Gv] (hh : ∀ t ∈ [bpt (mL4), bpr (mL4), bps (mL4), bpp (mL4), bpo (mL4)], au t) (hI : SAll Gv.σ lj) : bpq := by
 obtain ⟨hp0, hpl, hL, hn0, hnl, hm⟩ := awy hI
 rcases zl1 hI (.v 1) (.len (.s 4)) with ⟨hI, k1⟩ | ⟨hI, k1⟩
 ·have := zf1 (afn (σ := Gv.σ) (.s 4) (.v 1))
  rcases zl1 hI acw (.c 48) with ⟨hI, k2⟩ | ⟨hI, k2⟩
  ·have := zf1 (f51 (σ := Gv.σ) (.s 4) (.v 1) (.v 2) (.v 5) (.c 1))
   have u := zf4 (gd (Gv.σ 4) ((Gv.σ 1).headD 0) ((Gv.σ 2).headD 0) ((Gv.σ 5).headD 0) 1)
   exact ⟨zt0 [] aa (zp hI hh) hI,
    zn1,
    zn1⟩
  ·rcases zl1 hI (.c 57) acw with ⟨hI, k3⟩ | ⟨hI, k3⟩
   ·have := zf1 (f51 (σ := Gv.σ) (.s 4) (.v 1) (.v 2) (.v 5) (.c 1))
    have u := zf4 (gd (Gv.σ 4) ((Gv.σ 1).headD 0) ((Gv.σ 2).headD 0) ((Gv.σ 5).headD 0) 1)
    exact ⟨zt0 [] aa (zp hI hh) hI,
     zn1,
     zn1⟩
   ·rcases zl1 hI (.v 5) sb with ⟨hI, k4⟩ | ⟨hI, k4⟩
    ·have hI := zF1 hI ie (.c 0)
     have hI := zF1 hI (.len (.s 4)) ie
     have hI := zF1 hI (.v 5) (.c 0)
     have := zf1 (f51 (σ := Gv.σ) (.s 4) ie (.v 5) (.v 5) (.c 0))
     rcases zq1 hI agy (.c 0) with ⟨hI, k8⟩ | ⟨hI, k8⟩
     ·have hI := zT1 hI f8 pb
      have hI := zF1 hI f8 (.c 0)
      have := zf1 (f51 (σ := Gv.σ) (.s 4) (.v 1) (.v 2) (.v 5) (.c 1))
      have u := zf4 (gd (Gv.σ 4) ((Gv.σ 1).headD 0) ((Gv.σ 2).headD 0) ((Gv.σ 5).headD 0) 1)
      exact ⟨zt0 [] aa (zp hI hh) hI,
       zn1,
       zn1⟩
     ·have hI := zE1 hI agy (.c 2)
      have hI := zT1 hI f8 pb
      have hI := zF1 hI f8 (.c 0)
      have := zf1 (f51 (σ := Gv.σ) (.s 4) (.v 1) (.v 2) (.v 5) (.c 1))
      have u := zf4 (gd (Gv.σ 4) ((Gv.σ 1).headD 0) ((Gv.σ 2).headD 0) ((Gv.σ 5).headD 0) 1)
      exact ⟨zn1,
       zn1,
       zt [] (.i a26 yu .nil) aa (zp hI hh) hI ze1⟩
    ·have hI := zF1 hI ie (.c 0)
     have hI := zF1 hI (.len (.s 4)) ie
     have hI := zF1 hI sb (.c 0)
     have := zf1 (f51 (σ := Gv.σ) (.s 4) ie sb (.v 5) (.c 1))
     rcases zq1 hI aqx (.c 0) with ⟨hI, k8⟩ | ⟨hI, k8⟩
     ·have hI := zT1 hI f8 pb
      have hI := zF1 hI f8 (.c 0)
      have := zf1 (f51 (σ := Gv.σ) (.s 4) (.v 1) (.v 2) (.v 5) (.c 1))
      have u := zf4 (gd (Gv.σ 4) ((Gv.σ 1).headD 0) ((Gv.σ 2).headD 0) ((Gv.σ 5).headD 0) 1)
      exact ⟨zt0 [] aa (zp hI hh) hI,
       zn1,
       zn1⟩
     ·rcases zq1 hI aqx (.c 1) with ⟨hI, k9⟩ | ⟨hI, k9⟩
      ·have hI := zT1 hI f8 pb
       have hI := zF1 hI f8 (.c 0)
       have := zf1 (f51 (σ := Gv.σ) (.s 4) (.v 1) (.v 2) (.v 5) (.c 1))
       have u := zf4 (gd (Gv.σ 4) ((Gv.σ 1).headD 0) ((Gv.σ 2).headD 0) ((Gv.σ 5).headD 0) 1)
       exact ⟨zn1,
        zt [] (.i a28 yu .nil) aa (zp hI hh) hI ze1,
        zn1⟩
      ·have hI := zE1 hI aqx (.c 2)
       have hI := zT1 hI f8 pb
       have hI := zF1 hI f8 (.c 0)
       have := zf1 (f51 (σ := Gv.σ) (.s 4) (.v 1) (.v 2) (.v 5) (.c 1))
       have u := zf4 (gd (Gv.σ 4) ((Gv.σ 1).headD 0) ((Gv.σ 2).headD 0) ((Gv.σ 5).headD 0) 1)
       exact ⟨zn1,
        zn1,
        zt [] (.i a28 yu .nil) aa (zp hI hh) hI ze1⟩
 ·have := zf1 (f51 (σ := Gv.σ) (.s 4) (.v 1) (.v 2) (.v 5) (.c 1))
  have u := zf4 (gd (Gv.σ 4) ((Gv.σ 1).headD 0) ((Gv.σ 2).headD 0) ((Gv.σ 5).headD 0) 1)
  exact ⟨zn1,
   zt [] (.i (.v 2) yu .nil) aa (zp hI hh) hI ze1,
   zn1⟩
def bpn [Gv] : Prop := (SAll Gv.σ aqs → bw 160 19 a6g 257 a6f bak 257 baj) ∧ (SAll Gv.σ aqt → bw 160 19 a6g 257 a6f bai 257 bah)
theorem bsq [Gv] (hh : ∀ t ∈ [bpt (mL4), bpr (mL4), bps (mL4), bpp (mL4), bpo (mL4)], au t) (hI : SAll Gv.σ lj) : bpn := by
 obtain ⟨hp0, hpl, hL, hn0, hnl, hm⟩ := awy hI
 rcases zl1 hI (.v 1) (.len (.s 4)) with ⟨hI, k1⟩ | ⟨hI, k1⟩
 ·have := zf1 (afn (σ := Gv.σ) (.s 4) (.v 1))
  rcases zl1 hI acw (.c 48) with ⟨hI, k2⟩ | ⟨hI, k2⟩
  ·have := zf1 (f51 (σ := Gv.σ) (.s 4) (.v 1) (.v 2) (.v 5) (.c 0))
   have u := zf4 (gd (Gv.σ 4) ((Gv.σ 1).headD 0) ((Gv.σ 2).headD 0) ((Gv.σ 5).headD 0) 0)
   exact ⟨zt0 [] aa (zp hI hh) hI,
    zn1⟩
  ·rcases zl1 hI (.c 57) acw with ⟨hI, k3⟩ | ⟨hI, k3⟩
   ·have := zf1 (f51 (σ := Gv.σ) (.s 4) (.v 1) (.v 2) (.v 5) (.c 0))
    have u := zf4 (gd (Gv.σ 4) ((Gv.σ 1).headD 0) ((Gv.σ 2).headD 0) ((Gv.σ 5).headD 0) 0)
    exact ⟨zt0 [] aa (zp hI hh) hI,
     zn1⟩
   ·rcases zl1 hI (.v 5) sb with ⟨hI, k4⟩ | ⟨hI, k4⟩
    ·have hI := zF1 hI ie (.c 0)
     have hI := zF1 hI (.len (.s 4)) ie
     have hI := zF1 hI (.v 5) (.c 0)
     have := zf1 (f51 (σ := Gv.σ) (.s 4) ie (.v 5) (.v 5) (.c 0))
     rcases zq1 hI agy (.c 0) with ⟨hI, k8⟩ | ⟨hI, k8⟩
     ·have hI := zT1 hI f8 pb
      have hI := zF1 hI f8 (.c 0)
      have := zf1 (f51 (σ := Gv.σ) (.s 4) (.v 1) (.v 2) (.v 5) (.c 0))
      have u := zf4 (gd (Gv.σ 4) ((Gv.σ 1).headD 0) ((Gv.σ 2).headD 0) ((Gv.σ 5).headD 0) 0)
      exact ⟨zt0 [] aa (zp hI hh) hI,
       zn1⟩
     ·have hI := zE1 hI agy (.c 2)
      have hI := zT1 hI f8 pb
      have hI := zF1 hI f8 (.c 0)
      have := zf1 (f51 (σ := Gv.σ) (.s 4) (.v 1) (.v 2) (.v 5) (.c 0))
      have u := zf4 (gd (Gv.σ 4) ((Gv.σ 1).headD 0) ((Gv.σ 2).headD 0) ((Gv.σ 5).headD 0) 0)
      exact ⟨zn1,
       zt [] (.i a26 agx .nil) aa (zp hI hh) hI ze1⟩
    ·have hI := zF1 hI ie (.c 0)
     have hI := zF1 hI (.len (.s 4)) ie
     have hI := zF1 hI sb (.c 0)
     have := zf1 (f51 (σ := Gv.σ) (.s 4) ie sb (.v 5) (.c 0))
     rcases zq1 hI a3a (.c 0) with ⟨hI, k8⟩ | ⟨hI, k8⟩
     ·have hI := zT1 hI f8 pb
      have hI := zF1 hI f8 (.c 0)
      have := zf1 (f51 (σ := Gv.σ) (.s 4) (.v 1) (.v 2) (.v 5) (.c 0))
      have u := zf4 (gd (Gv.σ 4) ((Gv.σ 1).headD 0) ((Gv.σ 2).headD 0) ((Gv.σ 5).headD 0) 0)
      exact ⟨zt0 [] aa (zp hI hh) hI,
       zn1⟩
     ·have hI := zE1 hI a3a (.c 2)
      have hI := zT1 hI f8 pb
      have hI := zF1 hI f8 (.c 0)
      have := zf1 (f51 (σ := Gv.σ) (.s 4) (.v 1) (.v 2) (.v 5) (.c 0))
      have u := zf4 (gd (Gv.σ 4) ((Gv.σ 1).headD 0) ((Gv.σ 2).headD 0) ((Gv.σ 5).headD 0) 0)
      exact ⟨zn1,
       zt [] (.i (.app 52 a29) agx .nil) aa (zp hI hh) hI ze1⟩
 ·have := zf1 (f51 (σ := Gv.σ) (.s 4) (.v 1) (.v 2) (.v 5) (.c 0))
  have u := zf4 (gd (Gv.σ 4) ((Gv.σ 1).headD 0) ((Gv.σ 2).headD 0) ((Gv.σ 5).headD 0) 0)
  exact ⟨zn1,
   zt [] (.i (.v 2) agx .nil) aa (zp hI hh) hI ze1⟩
theorem aeb : ∀ (B : Nat) (σ : Nat → List Int), SAll σ lj → (mL4).eval σ < (B : Int) → @bpq ⟨σ⟩ ∧ @bpn ⟨σ⟩
 | 0, σ, hI, hb => by have := awy hI; simp only [mL4, evs, wr] at hb; omega
 | B + 1, σ, hI, hb => by
   have ih : ∀ σ' : Nat → List Int, SAll σ' lj → 0 ≤ (mL4).eval σ' ∧ (mL4).eval σ' < (mL4).eval σ → @bpq ⟨σ'⟩ ∧ @bpn ⟨σ'⟩ := fun σ' h h' => aeb B σ' h (by omega)
   have hh : ∀ t ∈ [bpt (mL4), bpr (mL4), bps (mL4), bpp (mL4), bpo (mL4)], @au ⟨σ⟩ t := by
    intro t ht
    simp only [List.mem_cons, zH, or_false] at ht
    rcases ht with rfl | rfl | rfl | rfl | rfl
    ·exact fun σ' _ hA hb => (ih σ' (ai hA).1 hb).1.1 (ai hA).2
    ·exact fun σ' _ hA hb => (ih σ' (ai hA).1 hb).1.2.1 (ai hA).2
    ·exact fun σ' _ hA hb => (ih σ' (ai hA).1 hb).1.2.2 (ai hA).2
    ·exact fun σ' _ hA hb => (ih σ' (ai hA).1 hb).2.1 (ai hA).2
    ·exact fun σ' _ hA hb => (ih σ' (ai hA).1 hb).2.2 (ai hA).2
   exact ⟨@bsr ⟨σ⟩ hh hI, @bsq ⟨σ⟩ hh hI⟩
theorem bgu [Gv] : au bl7 := fun σ _ hA _ => (aeb (((mL4).eval σ).toNat + 1) σ (ai hA).1 (by omega)).1.1 (ai hA).2
theorem bgs [Gv] : au bl5 := fun σ _ hA _ => (aeb (((mL4).eval σ).toNat + 1) σ (ai hA).1 (by omega)).1.2.1 (ai hA).2
theorem bgt [Gv] : au bl6 := fun σ _ hA _ => (aeb (((mL4).eval σ).toNat + 1) σ (ai hA).1 (by omega)).1.2.2 (ai hA).2
theorem bgr [Gv] : au bl4 := fun σ _ hA _ => (aeb (((mL4).eval σ).toNat + 1) σ (ai hA).1 (by omega)).2.1 (ai hA).2
theorem bgq [Gv] : au bl3 := fun σ _ hA _ => (aeb (((mL4).eval σ).toNat + 1) σ (ai hA).1 (by omega)).2.2 (ai hA).2
theorem nm5 [Gv] : ∀ t ∈ [bl7, bl5, bl6, bl4, bl3], au t := by
 intro t ht
 simp only [List.mem_cons, zH, or_false] at ht
 rcases ht with rfl | rfl | rfl | rfl | rfl
 ·exact bgu
 ·exact bgs
 ·exact bgt
 ·exact bgr
 ·exact bgq
def nuG [Gv] : Prop := (SAll Gv.σ a21 → bz 160 nuU 256 nuI buj 260 bui) ∧ (SAll Gv.σ a22 → bz 160 nuU 256 nuI bud 260 buc) ∧ (SAll Gv.σ a23 → bz 160 nuU 256 nuI bug 260 buf)
theorem boz [Gv] (hI : SAll Gv.σ sv) : nuG := by
 have h20 := aja hI
 have htl := a0q (Gv.σ 3)
 rcases zq1 hI (.eqg va (.lit 0 0)) (.c 1) with ⟨hI, k1⟩ | ⟨hI, k1⟩ <;> (try simp (disch := omega) only [evs, wr] at k1)
 ·have u2 := zf4 (re (Gv.σ 3))
  have u := zf6 (ow (Gv.σ 3))
  exact ⟨zm0 [] (zh hI (ed afj)) (zp hI nm5) hI,
   zn2,
   zn2⟩
 ·have := zf1 (bcn k1)
  rcases zl1 hI (.c 1) (.bin 1 .i64 (.len (.s 3)) acx) with ⟨hI, k2⟩ | ⟨hI, k2⟩
  ·have u2 := zf4 (re (Gv.σ 3))
   have u := zf6 (ow (Gv.σ 3))
   exact ⟨zm0 [] (zh hI (ed afj)) (zp hI nm5) hI,
    zn2,
    zn2⟩
  ·have hI := zT1 hI (.c 0) (.len (.s 3))
   rcases zq1 hI (.rd (.s 3) (.c 0)) (.c 45) with ⟨hI, k4⟩ | ⟨hI, k4⟩
   ·have hI := zF1 hI acx (.c 0)
    have hI := zF1 hI (.c 20000) acx
    have := zf1 (f51 (σ := Gv.σ) va (.c 0) (.c 0) ayf (.c 1))
    rcases zq1 hI aqy (.c 0) with ⟨hI, k7⟩ | ⟨hI, k7⟩
    ·have u2 := zf4 (re (Gv.σ 3))
     have u := zf6 (ow (Gv.σ 3))
     exact ⟨zm0 [] (zh hI (ed afj)) (zp hI nm5) hI,
      zn2,
      zn2⟩
    ·rcases zq1 hI aqy (.c 1) with ⟨hI, k8⟩ | ⟨hI, k8⟩
     ·have u2 := zf4 (re (Gv.σ 3))
      have u := zf6 (ow (Gv.σ 3))
      exact ⟨zn2,
       zm [] (.i (.bin 1 .i64 (.c 0) (.bin 0 .i64 (.app 52 a3b) (.c 0))) aqv .nil) (zh hI (ed afj)) (zp hI nm5) hI ze4,
       zn2⟩
     ·have hI := zE1 hI aqy (.c 2)
      have u2 := zf4 (re (Gv.σ 3))
      have u := zf6 (ow (Gv.σ 3))
      exact ⟨zn2,
       zn2,
       zm0 [] (zh hI (ed afj)) (zp hI nm5) hI⟩
   ·have hI := zF1 hI acx (.c 0)
    have hI := zF1 hI (.c 20000) acx
    have := zf1 (f51 (σ := Gv.σ) va (.c 0) (.c 0) (.c 2305843009213693951) (.c 1))
    rcases zq1 hI aqz (.c 0) with ⟨hI, k7⟩ | ⟨hI, k7⟩
    ·have u2 := zf4 (re (Gv.σ 3))
     have u := zf6 (ow (Gv.σ 3))
     exact ⟨zm0 [] (zh hI (ed afj)) (zp hI nm5) hI,
      zn2,
      zn2⟩
    ·rcases zq1 hI aqz (.c 1) with ⟨hI, k8⟩ | ⟨hI, k8⟩
     ·have u2 := zf4 (re (Gv.σ 3))
      have u := zf6 (ow (Gv.σ 3))
      exact ⟨zn2,
       zm [] (.i (.bin 0 .i64 (.app 52 a3c) (.c 0)) aqv .nil) (zh hI (ed afj)) (zp hI nm5) hI ze4,
       zn2⟩
     ·have hI := zE1 hI aqz (.c 2)
      have u2 := zf4 (re (Gv.σ 3))
      have u := zf6 (ow (Gv.σ 3))
      exact ⟨zn2,
       zn2,
       zm0 [] (zh hI (ed afj)) (zp hI nm5) hI⟩
theorem bpx [Gv] : ax buh := fun σ _ hA _ => (@boz ⟨σ⟩  (ai hA).1).1 (ai hA).2
theorem bpv [Gv] : ax bub := fun σ _ hA _ => (@boz ⟨σ⟩  (ai hA).1).2.1 (ai hA).2
theorem bpw [Gv] : ax bue := fun σ _ hA _ => (@boz ⟨σ⟩  (ai hA).1).2.2 (ai hA).2
end Go.Ev
