import Derived.Test.YtkfdioikigponaaGreatDoorRaC
set_option maxRecDepth 100000
set_option linter.all false
namespace Go.Ev
abbrev av0 : SE := .bin 7 .i64 (.c (-1)) (.v 1)
abbrev a5r : SE := .bin 6 .i64 (.v 2) (.app 49 (.g (.s 3) (.i (.v 1) .nil)))
abbrev ai8 : List SA := [.mk true (.v 1) (.c 0) false, .mk true (.len (.s 3)) (.v 1) false, .mk true (.c 20000) (.len (.s 3)) false, .mk true (.v 2) (.c 0) false, .mk true (.v 1) (.v 2) false]
abbrev xp : List SA := [.mk true (.c 20000) (.len (.s 3)) false]
abbrev zy : GE := .app 47 (.g (.s 3) .nil)
abbrev a6c : SE := .c 2305843009213693952
abbrev pe : List SA := [.mk true (.v 1) (.c 0) false, .mk true (.len (.s 4)) (.v 1) false, .mk true (.c 20000) (.len (.s 4)) false, .mk true (.v 2) (.c 0) false, .mk true (.v 5) (.v 2) false, .mk true a6c (.v 5) false]
abbrev bld : AL := .g (.s 4) (.i (.v 1) (.i (.v 2) (.i (.v 5) (.i (.c 1) .nil))))
abbrev a5l : SE := .app 51 bld
abbrev awm : List SA := [.mk false a5l (.c 0) true]
abbrev adr : SE := .app 52 bld
abbrev azh : List SA := [.mk false a5l (.c 1) true]
abbrev ayz : List SA := [.mk false a5l (.c 2) true]
abbrev aww : AL := .i (.v 5) (.i (.c 0) .nil)
abbrev bdu : AL := .g (.s 4) (.i (.v 1) (.i (.v 2) aww))
abbrev bau : SE := .app 51 bdu
abbrev azd : List SA := [.mk false bau (.c 0) true]
abbrev amy : SE := .app 52 bdu
abbrev awr : List SA := [.mk false bau (.c 2) true]
abbrev auz : SE := .app 47 (.g (.s 3) .nil)
abbrev a9x : List SA := [.mk false auz (.c 0) true]
abbrev azx : SE := .app 48 (.g (.s 3) .nil)
abbrev bb5 : List SA := [.mk false auz (.c 1) true]
abbrev a8q : List SA := [.mk false auz (.c 2) true]
abbrev aha : SE := .bin 6 .i64 (.v 1) (.dw (.s 3) (.v 1))
abbrev avm : SE := .bin 0 .i64 (.v 2) (.c 1)
abbrev a8x : SE := .bin 6 .i64 (.len (.s 3)) (.bin 7 .i64 (.c (-1)) aha)
abbrev ahr : SE := .dr (.s 4) (.v 1)
abbrev xi : SE := .bin 0 .u64 (.bin 2 .u64 (.v 2) (.c 10)) (.bin 0 .u64 (.bin 1 .i32 ahr (.c 48)) (.c 0))
abbrev ka : SE := .bin 6 .i64 (.v 1) (.dw (.s 4) (.v 1))
abbrev a9a : AL := .g (.s 4) (.i ka (.i (.v 5) aww))
abbrev ana : SE := .app 51 a9a
abbrev je : SE := .bin 6 .i64 (.len (.s 4)) (.bin 7 .i64 (.c (-1)) ka)
abbrev uc : SE := .bin 6 .i64 (.len (.s 4)) av0
abbrev bcz : SE := .app 52 a9a
abbrev a84 : AL := .g (.s 4) (.i ka (.i xi (.i (.v 5) (.i (.c 1) .nil))))
abbrev ay2 : SE := .app 51 a84
abbrev a9u : SE := .app 52 a84
abbrev a9b : AL := .g (.s 4) (.i ka (.i xi aww))
abbrev baf : SE := .app 51 a9b
abbrev agq : SE := .len zy
abbrev bd2 : AL := .g zy (.i (.c 0) (.i (.c 0) (.i a6c (.i (.c 1) .nil))))
abbrev avy : SE := .app 51 bd2
abbrev bam : AL := .g zy (.i (.c 0) (.i (.c 0) (.i (.c 2305843009213693951) (.i (.c 1) .nil))))
abbrev ax2 : SE := .app 51 bam
noncomputable section
def mL3 : SE := .bin 6 .i64 (.len (.s 3)) av0
def mL4 : SE := .bin 6 .i64 (.len (.s 4)) av0
def b3o : List AV := [.top, .top, .sym .i64 (.v 2) [], .gv (.str (.s 3) []), .ptr (K.of 256) 0] ++ tps 5
def b1x : List HO := [.mk 256 (.gob (.iter (.s 3) (.v 1) []))]
def b2l : List HO := []
def b22 : LR := (.x 0 ([.top, .top, .sym .i64 a5r []] ++ tps 7))
def rcl (m : SE) : LT := .mk 71 5 b3o 257 b1x (ai8 ++ []) (some (mL3, m)) b22 257 b2l
def ccs : LT := .mk 71 5 b3o 257 b1x (ai8 ++ []) none b22 257 b2l
def rcU : List AV := [.gv (.str (.s 3) [])]
def rcI : List HO := []
def rcO : List HO := []
def rcR : TR := .ret (.sym .i64 (.app 49 (.g (.s 3) (.i (.c 0) .nil))) [])
def rcF : TM := .mk 71 rcU 256 rcI (xp ++ []) none rcR 257 rcO
def aj9 : List AV := [.gv (.str (.s 3) []), .ptr (K.of 256) 0, .top, .top, .top] ++ tps 11
def a2f : List HO := [.mk 256 (.cells 151 false 0 0 (List.replicate 43 (.bool false) ++ [.bool true, .bool false, .bool true] ++ List.replicate 210 (.bool false)))]
def az9 : List HO := []
def a2g : LR := (.x 0 ([.gv (.str zy [])] ++ tps 15))
def trm (m : SE) : LT := .mk 100 3 aj9 257 a2f (xp ++ []) (some ((.len (.s 3)), m)) a2g 257 az9
def b69 : LT := .mk 100 3 aj9 257 a2f (xp ++ []) none a2g 257 az9
def trU : List AV := [.gv (.str (.s 3) []), .str 2 11053]
def trI : List HO := []
def trO : List HO := []
def trR : TR := .ret (.gv (.str zy []))
def trF : TM := .mk 87 trU 256 trI (xp ++ []) none trR 258 trO
def axw : List AV := [.gv (.str (.s 3) []), .top, .top, .bool false, .bool true, .gv (.str (.s 4) []), .sym .u64 (.v 5) [], .sym .u64 (.v 2) []] ++ tps 20 ++ [.ptr (K.of 256) 0] ++ tps 28
def azv : List HO := [.mk 256 (.gob (.iter (.s 4) (.v 1) []))]
def bmx : List HO := []
def bhg : LR := (.r ([.gv (.str (.s 3) []), .top, .int .i64 0, .bool false, .bool false, .top, .top, .top] ++ tps 20 ++ [.top] ++ tps 28))
def b1l (m : SE) : LT := .mk 70 19 axw 257 azv (pe ++ awm) (some (mL4, m)) bhg 257 bmx
def bzv : LT := .mk 70 19 axw 257 azv (pe ++ awm) none bhg 257 bmx
def bjk : List HO := []
def bix : LR := (.x 0 ([.gv (.str (.s 3) []), .top, .top, .bool false, .bool true, .top, .top, .sym .u64 adr []] ++ tps 20 ++ [.top] ++ tps 28))
def b3x (m : SE) : LT := .mk 70 19 axw 257 azv (pe ++ azh) (some (mL4, m)) bix 257 bjk
def bvk : LT := .mk 70 19 axw 257 azv (pe ++ azh) none bix 257 bjk
def bii : List HO := []
def bn1 : LR := (.x 0 ([.gv (.str (.s 3) []), .top, .top, .bool false, .bool false, .top, .top, .sym .u64 adr []] ++ tps 20 ++ [.top] ++ tps 28))
def b4l (m : SE) : LT := .mk 70 19 axw 257 azv (pe ++ ayz) (some (mL4, m)) bn1 257 bii
def bvt : LT := .mk 70 19 axw 257 azv (pe ++ ayz) none bn1 257 bii
def bew : List AV := [.gv (.str (.s 3) []), .top, .top, .bool false, .bool false, .gv (.str (.s 4) []), .sym .u64 (.v 5) [], .sym .u64 (.v 2) []] ++ tps 20 ++ [.ptr (K.of 256) 0] ++ tps 28
def bgs : List HO := [.mk 256 (.gob (.iter (.s 4) (.v 1) []))]
def bk3 : List HO := []
def bhu : LR := (.r ([.gv (.str (.s 3) []), .top, .int .i64 0, .bool false, .bool false, .top, .top, .top] ++ tps 20 ++ [.top] ++ tps 28))
def b3m (m : SE) : LT := .mk 70 19 bew 257 bgs (pe ++ azd) (some (mL4, m)) bhu 257 bk3
def bz8 : LT := .mk 70 19 bew 257 bgs (pe ++ azd) none bhu 257 bk3
def bmu : List HO := []
def bkl : LR := (.x 0 ([.gv (.str (.s 3) []), .top, .top, .bool false, .bool false, .top, .top, .sym .u64 amy []] ++ tps 20 ++ [.top] ++ tps 28))
def b3u (m : SE) : LT := .mk 70 19 bew 257 bgs (pe ++ awr) (some (mL4, m)) bkl 257 bmu
def bze : LT := .mk 70 19 bew 257 bgs (pe ++ awr) none bkl 257 bmu
def nuU : List AV := [.gv (.str (.s 3) [])]
def nuI : List HO := []
def b6t : List HO := []
def b7n : TR := .ret (.tuple [.int .i64 0, .bool false, .bool false])
def bhv : TM := .mk 70 nuU 256 nuI (xp ++ a9x) none b7n 260 b6t
def b71 : List HO := []
def b7g : TR := .ret (.tuple [.sym .i64 azx [], .bool true, .bool true])
def bhw : TM := .mk 70 nuU 256 nuI (xp ++ bb5) none b7g 260 b71
def b7d : List HO := []
def b95 : TR := .ret (.tuple [.top, .bool true, .bool false])
def bh1 : TM := .mk 70 nuU 256 nuI (xp ++ a8q) none b95 260 b7d
end
theorem bhf {σ : Nat → List Int} (g : GE) (e : SE) : 0 ≤ e.eval σ → e.eval σ < (SE.len g).eval σ → 1 ≤ (SE.dw g e).eval σ ∧ e.eval σ + (SE.dw g e).eval σ ≤ (SE.len g).eval σ ∧ 0 ≤ (SE.dr g e).eval σ ∧ (SE.dr g e).eval σ ≤ 1114111 := by
 intro h0 h1
 have h1 : e.eval σ < ((g.eval σ).length : Int) := h1
 obtain ⟨b1, b2, b3⟩ := rn (g.eval σ) (e.eval σ).toNat (by omega)
 show 1 ≤ ((Utf8.decode (ao (g.eval σ)) (e.eval σ).toNat).2 : Int) ∧ e.eval σ + ((Utf8.decode (ao (g.eval σ)) (e.eval σ).toNat).2 : Int) ≤ ((g.eval σ).length : Int) ∧ 0 ≤ ((Utf8.decode (ao (g.eval σ)) (e.eval σ).toNat).1 : Int) ∧ ((Utf8.decode (ao (g.eval σ)) (e.eval σ).toNat).1 : Int) ≤ 1114111
 omega
theorem au4 (d : List Int) : ∀ (n : Nat) (p s m f : Int), ((d.length : Int) - p).toNat ≤ n → 0 ≤ s → s ≤ m → (f = 0 ∨ f = 1) → ((acf d p s m f).k = 0 ∨ ((acf d p s m f).k = 1 ∧ f = 1) ∨ (acf d p s m f).k = 2) ∧ 0 ≤ (acf d p s m f).n ∧ (acf d p s m f).n ≤ m
 | 0, p, s, m, f, h, h0, h1, hf => by
   rw [js, if_neg (by omega)]
   dsimp only
   rcases hf with rfl | rfl
   ·exact ⟨.inr (.inr (if_neg (by omega))), h0, h1⟩
   ·exact ⟨.inr (.inl ⟨if_pos rfl, rfl⟩), h0, h1⟩
 | n + 1, p, s, m, f, h, h0, h1, hf => by
   rw [js]
   split
   ·split
    ·exact ⟨.inl rfl, Int.le_refl _, by dsimp only; omega⟩
    ·split
     ·split
      ·obtain ⟨a, b, c⟩ := au4 d n (p + dwJ d p) m m 0 (by omega) (by omega) (by omega) (.inl rfl)
       refine ⟨?_, b, c⟩
       rcases a with a | a | a
       ·exact .inl a
       ·exact absurd a.2 (by omega)
       ·exact .inr (.inr a)
      ·exact au4 d n (p + dwJ d p) _ m f (by omega) (by omega) (by omega) hf
     ·exact ⟨.inl rfl, Int.le_refl _, by dsimp only; omega⟩
   ·dsimp only
    rcases hf with rfl | rfl
    ·exact ⟨.inr (.inr (if_neg (by omega))), h0, h1⟩
    ·exact ⟨.inr (.inl ⟨if_pos rfl, rfl⟩), h0, h1⟩
theorem f51 {σ : Nat → List Int} (g : GE) (p s m f : SE) : 0 ≤ s.eval σ → s.eval σ ≤ m.eval σ → (f.eval σ = 0 ∨ f.eval σ = 1) → ((SE.app 51 (.g g (.i p (.i s (.i m (.i f .nil)))))).eval σ = 0 ∨ ((SE.app 51 (.g g (.i p (.i s (.i m (.i f .nil)))))).eval σ = 1 ∧ f.eval σ = 1) ∨ (SE.app 51 (.g g (.i p (.i s (.i m (.i f .nil)))))).eval σ = 2) ∧
  0 ≤ (SE.app 52 (.g g (.i p (.i s (.i m (.i f .nil)))))).eval σ ∧ (SE.app 52 (.g g (.i p (.i s (.i m (.i f .nil)))))).eval σ ≤ m.eval σ := fun h0 h1 hf => au4 _ _ _ _ _ _ (zY _) h0 h1 hf
theorem ai6 (c : Int) (l : List Int) : oo (c :: l) = if c = 43 ∨ c = 45 then oo l else c :: l := by
 unfold oo
 rw [List.dropWhile_cons]
 by_cases h : c = 43 ∨ c = 45
 ·rw [if_pos (decide_eq_true h), if_pos h]
 ·rw [if_neg (by simpa using h), if_neg h]
theorem bcp : ∀ l : List Int, (oo l).length ≤ l.length
 | [] => zY _
 | c :: l => by
   rw [ai6]
   split
   ·have := bcp l; simp only [zO]; omega
   ·exact zY _
theorem bnk {σ : Nat → List Int} (h : SAll σ ai8) : 0 ≤ (σ 1).headD 0 ∧ (σ 1).headD 0 ≤ ((σ 3).length : Int) ∧ ((σ 3).length : Int) ≤ 20000 ∧ 0 ≤ (σ 2).headD 0 ∧ (σ 2).headD 0 ≤ (σ 1).headD 0 := by
 simp only [sall_cons, sF, evs] at h
 exact ⟨h.1, h.2.1, h.2.2.1, h.2.2.2.1, h.2.2.2.2.1⟩
theorem a4l {σ : Nat → List Int} (h : SAll σ pe) : 0 ≤ (σ 1).headD 0 ∧ (σ 1).headD 0 ≤ ((σ 4).length : Int) ∧ ((σ 4).length : Int) ≤ 20000 ∧ 0 ≤ (σ 2).headD 0 ∧ (σ 2).headD 0 ≤ (σ 5).headD 0 ∧ (σ 5).headD 0 ≤ 2305843009213693952 := by
 simp only [sall_cons, sF, evs] at h
 exact ⟨h.1, h.2.1, h.2.2.1, h.2.2.2.1, h.2.2.2.2.1, h.2.2.2.2.2.1⟩
theorem aru {σ : Nat → List Int} (h : SAll σ xp) : ((σ 3).length : Int) ≤ 20000 := by
 simp only [sall_cons, sF, evs] at h
 exact h.1
def b2b [Gv] : Prop := (SAll Gv.σ [] → b7 71 5 b3o 257 b1x b22 257 b2l)
theorem b8a [Gv] (hh : ∀ t ∈ [rcl (mL3)], au t) (hI : SAll Gv.σ ai8) : b2b := by
 obtain ⟨hp0, hpl, hL, hn0, hnl⟩ := bnk hI
 rcases zl1 hI (.v 1) (.len (.s 3)) with ⟨hI, k1⟩ | ⟨hI, k1⟩
 ·have := zf1 (bhf (σ := Gv.σ) (.s 3) (.v 1))
  have hI := zF1 hI aha (.c 0)
  have hI := zF1 hI (.len (.s 3)) aha
  have hI := zF1 hI avm (.c 0)
  have hI := zF1 hI aha avm
  have hI := zT1 hI a8x (.bin 6 .i64 (.len (.s 3)) av0)
  have hI := zF1 hI a8x (.c 0)
  have u := zf4 (amt (Gv.σ 3) ((Gv.σ 1).headD 0))
  exact zt [] (.i (.bin 6 .i64 avm (.app 49 (.g (.s 3) (.i aha .nil)))) a5r .nil) aa (zp hI hh) hI ze1
 ·have u := zf4 (amt (Gv.σ 3) ((Gv.σ 1).headD 0))
  exact zt [] (.i (.v 2) a5r .nil) aa (zp hI hh) hI ze1
theorem a7u : ∀ (B : Nat) (σ : Nat → List Int), SAll σ ai8 → (mL3).eval σ < (B : Int) → @b2b ⟨σ⟩
 | 0, σ, hI, hb => by have := bnk hI; simp only [mL3, evs, wr] at hb; omega
 | B + 1, σ, hI, hb => by
   have ih : ∀ σ' : Nat → List Int, SAll σ' ai8 → 0 ≤ (mL3).eval σ' ∧ (mL3).eval σ' < (mL3).eval σ → @b2b ⟨σ'⟩ := fun σ' h h' => a7u B σ' h (by omega)
   have hh : ∀ t ∈ [rcl (mL3)], @au ⟨σ⟩ t := by
    intro t ht
    simp only [List.mem_cons, zH, or_false] at ht
    rcases ht with rfl
    ·exact fun σ' _ hA hb => (ih σ' (aj hA).1 hb) (aj hA).2
   exact @b8a ⟨σ⟩ hh hI
theorem b3n [Gv] : au ccs := fun σ _ hA _ => (a7u (((mL3).eval σ).toNat + 1) σ (aj hA).1 (by omega)) (aj hA).2
def rcG [Gv] : Prop := (SAll Gv.σ [] → ba 71 rcU 256 rcI rcR 257 rcO)
theorem cbd [Gv] (hI : SAll Gv.σ xp) : rcG := by
 have h20 := aru hI
 have hI := zF1 hI (.len (.s 3)) (.c 0)
 have u := trivial
 exact zm0 [] aa (zp hI (cg b3n)) hI
theorem bkh [Gv] : am rcF := fun σ _ hA _ => (@cbd ⟨σ⟩  (aj hA).1) (aj hA).2
noncomputable section
def tI0 : SA := .mk true (.c 20000) (.len (.s 3)) false
def trE (g : GE) : EqL := .g g zy .nil
def tCut : GE := .cut (.s 3) (.c 1) (.len (.s 3))
def b4b (c : Int) : List SA := [tI0, .mk true (.c 0) (.len (.s 3)) true, .mk false (.rd (.s 3) (.c 0)) (.c c) true]
def b3d (c : Int) : List SA := [tI0, .mk true (.c 0) (.len (.s 3)) true, .mk false (.rd (.s 3) (.c 0)) (.c c) true, .mk true (.len (.s 3)) (.c 1) false, .mk true (.c 20000) (.len tCut) false, .mk true (.len tCut) (.len (.s 3)) true, .mk true (.len tCut) (.c 0) false]
def b86 (c : Int) : Bool := xh [] 257 257 (trE (.s 3)) az9 (cy aj9) a2g (xq (afa 100 3) (ald a6k b2n 2000) (.mk 100 (cy aj9) false none) (.mk (tc (aVs (b4b c) aj9) 0 qw) [] .none (ax (aHO (b4b c) a2f) 257)))
end
theorem bhc : ((List.range 256).all fun c => c == 43 || c == 45 || b86 (c : Int)) = true := by kernel_rfl
theorem b38 (c : Int) (h0 : 0 ≤ c) (h1 : c < 256) (h2 : ¬(c = 43 ∨ c = 45)) : b86 c = true := by
 have := List.all_eq_true.1 bhc c.toNat (List.mem_range.2 (by omega))
 rw [show ((c.toNat : Nat) : Int) = c by omega] at this
 simp only [Bool.or_eq_true, beq_iff_eq] at this
 rcases this with (this | this) | this
 ·omega
 ·omega
 ·exact this
theorem t43 [Gv] (c : Int) (hc : c = 43 ∨ c = 45) (hh : ∀ t ∈ [trm (.len (.s 3))], au t) (hI : SAll Gv.σ [tI0]) (l : List Int) (hl : Gv.σ 3 = c :: l) (hrun : xh [] 257 257 (trE (.app 47 (.g tCut .nil))) az9 (cy aj9) a2g (xq (afa 100 3) (ald a6k (lpT [trm (.len (.s 3))]) 2000) (.mk 100 (cy aj9) false none) (.mk (tc (aVs (b3d c) aj9) 0 qw) [] .none (ax (aHO (b3d c) a2f) 257))) = true) : b7 100 3 aj9 257 a2f a2g 257 az9 := by
 have hL : ((Gv.σ 3).length : Int) = (l.length : Int) + 1 := by rw [hl]; rfl
 have h20 := aru hI
 have hcut : tCut.eval Gv.σ = l := by
  show ((Gv.σ 3).take (((Gv.σ 3).length : Int)).toNat).drop 1 = l
  rw [show (((Gv.σ 3).length : Int)).toNat = (Gv.σ 3).length by omega, List.take_length, hl]; rfl
 have hcl : (SE.len tCut).eval Gv.σ = (l.length : Int) := by show ((tCut.eval Gv.σ).length : Int) = _; rw [hcut]
 have htr : oo l = oo (Gv.σ 3) := by rw [hl, ai6, if_pos hc]
 refine rq (n := 2000) (A := b3d c) (T := []) (E := trE (.app 47 (.g tCut .nil))) aa (au9 _ hh) ?_ ⟨?_, trivial⟩ rfl rfl hrun
 ·refine sc (hI _ (List.mem_singleton.2 rfl)) (sc (bT _ _ ?_) (sc (bE _ _ ?_) (sc (bF _ _ ?_) (sc (bF _ _ ?_) (sc (bT _ _ ?_) (sc (bF _ _ ?_) SAll.nil))))))
  ·simp only [evs]; omega
  ·simp only [evs]; rw [hl]; rfl
  ·simp only [evs]; omega
  ·rw [hcl]; simp only [evs]; omega
  ·rw [hcl]; simp only [evs]; omega
  ·rw [hcl]; simp only [evs]; omega
 ·show oo (tCut.eval Gv.σ) = oo (Gv.σ 3)
  rw [hcut]; exact htr
theorem b5v [Gv] (hh : ∀ t ∈ [trm (.len (.s 3))], au t) (hI : SAll Gv.σ [tI0]) : b7 100 3 aj9 257 a2f a2g 257 az9 := by
 intro b hb ρ a cs w hg hw hc h5 hv hd
 have hB : b8 (Gv.σ 3) := by
  have hv := hv
  unfold aj9 at hv
  simp only [zJ, VRels, VRel] at hv
  obtain ⟨v, vs, _, ⟨_, _, hB⟩, _⟩ := hv
  exact hB
 refine (?_ : b7 100 3 aj9 257 a2f a2g 257 az9) b hb ρ a cs w hg hw hc h5 hv hd
 cases hl : Gv.σ 3 with
 | nil =>
   refine rq (n := 2000) (A := [tI0, .mk true (.c 0) (.len (.s 3)) false]) (T := []) (E := trE (.s 3)) aa ag (sc (hI _ (List.mem_singleton.2 rfl)) (sc (bF _ _ ?_) SAll.nil)) ⟨?_, trivial⟩ rfl rfl (by kernel_rfl)
   ·simp only [evs]; rw [hl]; exact Int.le_refl _
   ·show Gv.σ 3 = oo (Gv.σ 3)
    rw [hl]; rfl
 | cons c l =>
   by_cases h43 : c = 43 ∨ c = 45
   ·rcases h43 with rfl | rfl
    ·exact t43 43 (.inl rfl) hh hI l hl (by kernel_rfl)
    ·exact t43 45 (.inr rfl) hh hI l hl (by kernel_rfl)
   ·have h2 := hB c (by rw [hl]; simp)
    refine rq (n := 2000) (A := b4b c) (T := []) (E := trE (.s 3)) aa ag (sc (hI _ (List.mem_singleton.2 rfl)) (sc (bT _ _ ?_) (sc (bE _ _ ?_) SAll.nil))) ⟨?_, trivial⟩ rfl rfl (b38 c h2.1 h2.2 h43)
    ·simp only [evs]; rw [hl]; simp only [zO]; omega
    ·simp only [evs]; rw [hl]; rfl
    ·show Gv.σ 3 = oo (Gv.σ 3)
     rw [hl, ai6, if_neg h43]
theorem bco : ∀ (B : Nat) (σ : Nat → List Int), SAll σ [tI0] → (σ 3).length < B → @b7 ⟨σ⟩ 100 3 aj9 257 a2f a2g 257 az9
 | 0, σ, hI, hb => by omega
 | B + 1, σ, hI, hb => by
   refine @b5v ⟨σ⟩ ?_ hI
   intro t ht
   rw [List.mem_singleton] at ht; subst ht
   intro σ' _ hA hb'
   have h2 : ((σ' 3).length : Int) < ((σ 3).length : Int) := hb'.2
   exact bco B σ' (aj hA).1 (by omega)
theorem b0j [Gv] : au b69 := fun σ _ hA _ => bco ((σ 3).length + 1) σ (aj hA).1 (by omega)
theorem akq [Gv] : am trF := by
 intro σ _ hA _
 have hI := (aj hA).1
 by_cases h : σ 3 = []
 ·refine @br ⟨σ⟩ _ (@aa ⟨σ⟩) _ (@ag ⟨σ⟩) 2000 _ _ _ _ [tI0, .mk false (.eqg (.s 3) (.lit 0 0)) (.c 1) true] _ _ _ [] (trE (.s 3)) (sc (hI _ (List.mem_singleton.2 rfl)) (sc (@bE ⟨σ⟩ _ _ ?_) SAll.nil)) ⟨?_, trivial⟩ rfl rfl (by kernel_rfl)
  ·simp only [evs, wr]; exact h
  ·show σ 3 = oo (σ 3)
   rw [h]; rfl
 ·refine @br ⟨σ⟩ _ (@aa ⟨σ⟩) _ (@au9 ⟨σ⟩ [b69] (cg (@b0j ⟨σ⟩))) 2000 _ _ _ _ [tI0, .mk false (.eqg (.s 3) (.lit 0 0)) (.c 1) false] _ _ _ [] .nil (sc (hI _ (List.mem_singleton.2 rfl)) (sc (@bN ⟨σ⟩ _ _ ?_) SAll.nil)) trivial rfl rfl (by kernel_rfl)
  simp only [evs, wr]; exact h
theorem bm2 {s : List Int} (h : ¬ oo s = []) : 1 ≤ (s.length : Int) := by
 cases s with
 | nil => exact absurd rfl h
 | cons c l => simp only [zO]; omega
def b03 [Gv] : Prop := (SAll Gv.σ awm → b7 70 19 axw 257 azv bhg 257 bmx) ∧ (SAll Gv.σ azh → b7 70 19 axw 257 azv bix 257 bjk) ∧ (SAll Gv.σ ayz → b7 70 19 axw 257 azv bn1 257 bii)
theorem b9l [Gv] (hh : ∀ t ∈ [b1l (mL4), b3x (mL4), b4l (mL4), b3m (mL4), b3u (mL4)], au t) (hI : SAll Gv.σ pe) : b03 := by
 obtain ⟨hp0, hpl, hL, hn0, hnl, hm⟩ := a4l hI
 rcases zl1 hI (.v 1) (.len (.s 4)) with ⟨hI, k1⟩ | ⟨hI, k1⟩
 ·have := zf1 (bhf (σ := Gv.σ) (.s 4) (.v 1))
  rcases zl1 hI ahr (.c 48) with ⟨hI, k2⟩ | ⟨hI, k2⟩
  ·have := zf1 (f51 (σ := Gv.σ) (.s 4) (.v 1) (.v 2) (.v 5) (.c 1))
   have u := zf4 (js (Gv.σ 4) ((Gv.σ 1).headD 0) ((Gv.σ 2).headD 0) ((Gv.σ 5).headD 0) 1)
   exact ⟨zt0 [] aa (zp hI hh) hI,
    zn1,
    zn1⟩
  ·rcases zl1 hI (.c 57) ahr with ⟨hI, k3⟩ | ⟨hI, k3⟩
   ·have := zf1 (f51 (σ := Gv.σ) (.s 4) (.v 1) (.v 2) (.v 5) (.c 1))
    have u := zf4 (js (Gv.σ 4) ((Gv.σ 1).headD 0) ((Gv.σ 2).headD 0) ((Gv.σ 5).headD 0) 1)
    exact ⟨zt0 [] aa (zp hI hh) hI,
     zn1,
     zn1⟩
   ·rcases zl1 hI (.v 5) xi with ⟨hI, k4⟩ | ⟨hI, k4⟩
    ·have hI := zF1 hI ka (.c 0)
     have hI := zF1 hI (.len (.s 4)) ka
     have hI := zF1 hI (.v 5) (.c 0)
     have := zf1 (f51 (σ := Gv.σ) (.s 4) ka (.v 5) (.v 5) (.c 0))
     rcases zq1 hI ana (.c 0) with ⟨hI, k8⟩ | ⟨hI, k8⟩
     ·have hI := zT1 hI je uc
      have hI := zF1 hI je (.c 0)
      have := zf1 (f51 (σ := Gv.σ) (.s 4) (.v 1) (.v 2) (.v 5) (.c 1))
      have u := zf4 (js (Gv.σ 4) ((Gv.σ 1).headD 0) ((Gv.σ 2).headD 0) ((Gv.σ 5).headD 0) 1)
      exact ⟨zt0 [] aa (zp hI hh) hI,
       zn1,
       zn1⟩
     ·have hI := zE1 hI ana (.c 2)
      have hI := zT1 hI je uc
      have hI := zF1 hI je (.c 0)
      have := zf1 (f51 (σ := Gv.σ) (.s 4) (.v 1) (.v 2) (.v 5) (.c 1))
      have u := zf4 (js (Gv.σ 4) ((Gv.σ 1).headD 0) ((Gv.σ 2).headD 0) ((Gv.σ 5).headD 0) 1)
      exact ⟨zn1,
       zn1,
       zt [] (.i bcz adr .nil) aa (zp hI hh) hI ze1⟩
    ·have hI := zF1 hI ka (.c 0)
     have hI := zF1 hI (.len (.s 4)) ka
     have hI := zF1 hI xi (.c 0)
     have := zf1 (f51 (σ := Gv.σ) (.s 4) ka xi (.v 5) (.c 1))
     rcases zq1 hI ay2 (.c 0) with ⟨hI, k8⟩ | ⟨hI, k8⟩
     ·have hI := zT1 hI je uc
      have hI := zF1 hI je (.c 0)
      have := zf1 (f51 (σ := Gv.σ) (.s 4) (.v 1) (.v 2) (.v 5) (.c 1))
      have u := zf4 (js (Gv.σ 4) ((Gv.σ 1).headD 0) ((Gv.σ 2).headD 0) ((Gv.σ 5).headD 0) 1)
      exact ⟨zt0 [] aa (zp hI hh) hI,
       zn1,
       zn1⟩
     ·rcases zq1 hI ay2 (.c 1) with ⟨hI, k9⟩ | ⟨hI, k9⟩
      ·have hI := zT1 hI je uc
       have hI := zF1 hI je (.c 0)
       have := zf1 (f51 (σ := Gv.σ) (.s 4) (.v 1) (.v 2) (.v 5) (.c 1))
       have u := zf4 (js (Gv.σ 4) ((Gv.σ 1).headD 0) ((Gv.σ 2).headD 0) ((Gv.σ 5).headD 0) 1)
       exact ⟨zn1,
        zt [] (.i a9u adr .nil) aa (zp hI hh) hI ze1,
        zn1⟩
      ·have hI := zE1 hI ay2 (.c 2)
       have hI := zT1 hI je uc
       have hI := zF1 hI je (.c 0)
       have := zf1 (f51 (σ := Gv.σ) (.s 4) (.v 1) (.v 2) (.v 5) (.c 1))
       have u := zf4 (js (Gv.σ 4) ((Gv.σ 1).headD 0) ((Gv.σ 2).headD 0) ((Gv.σ 5).headD 0) 1)
       exact ⟨zn1,
        zn1,
        zt [] (.i a9u adr .nil) aa (zp hI hh) hI ze1⟩
 ·have := zf1 (f51 (σ := Gv.σ) (.s 4) (.v 1) (.v 2) (.v 5) (.c 1))
  have u := zf4 (js (Gv.σ 4) ((Gv.σ 1).headD 0) ((Gv.σ 2).headD 0) ((Gv.σ 5).headD 0) 1)
  exact ⟨zn1,
   zt [] (.i (.v 2) adr .nil) aa (zp hI hh) hI ze1,
   zn1⟩
def b2s [Gv] : Prop := (SAll Gv.σ azd → b7 70 19 bew 257 bgs bhu 257 bk3) ∧ (SAll Gv.σ awr → b7 70 19 bew 257 bgs bkl 257 bmu)
theorem b9d [Gv] (hh : ∀ t ∈ [b1l (mL4), b3x (mL4), b4l (mL4), b3m (mL4), b3u (mL4)], au t) (hI : SAll Gv.σ pe) : b2s := by
 obtain ⟨hp0, hpl, hL, hn0, hnl, hm⟩ := a4l hI
 rcases zl1 hI (.v 1) (.len (.s 4)) with ⟨hI, k1⟩ | ⟨hI, k1⟩
 ·have := zf1 (bhf (σ := Gv.σ) (.s 4) (.v 1))
  rcases zl1 hI ahr (.c 48) with ⟨hI, k2⟩ | ⟨hI, k2⟩
  ·have := zf1 (f51 (σ := Gv.σ) (.s 4) (.v 1) (.v 2) (.v 5) (.c 0))
   have u := zf4 (js (Gv.σ 4) ((Gv.σ 1).headD 0) ((Gv.σ 2).headD 0) ((Gv.σ 5).headD 0) 0)
   exact ⟨zt0 [] aa (zp hI hh) hI,
    zn1⟩
  ·rcases zl1 hI (.c 57) ahr with ⟨hI, k3⟩ | ⟨hI, k3⟩
   ·have := zf1 (f51 (σ := Gv.σ) (.s 4) (.v 1) (.v 2) (.v 5) (.c 0))
    have u := zf4 (js (Gv.σ 4) ((Gv.σ 1).headD 0) ((Gv.σ 2).headD 0) ((Gv.σ 5).headD 0) 0)
    exact ⟨zt0 [] aa (zp hI hh) hI,
     zn1⟩
   ·rcases zl1 hI (.v 5) xi with ⟨hI, k4⟩ | ⟨hI, k4⟩
    ·have hI := zF1 hI ka (.c 0)
     have hI := zF1 hI (.len (.s 4)) ka
     have hI := zF1 hI (.v 5) (.c 0)
     have := zf1 (f51 (σ := Gv.σ) (.s 4) ka (.v 5) (.v 5) (.c 0))
     rcases zq1 hI ana (.c 0) with ⟨hI, k8⟩ | ⟨hI, k8⟩
     ·have hI := zT1 hI je uc
      have hI := zF1 hI je (.c 0)
      have := zf1 (f51 (σ := Gv.σ) (.s 4) (.v 1) (.v 2) (.v 5) (.c 0))
      have u := zf4 (js (Gv.σ 4) ((Gv.σ 1).headD 0) ((Gv.σ 2).headD 0) ((Gv.σ 5).headD 0) 0)
      exact ⟨zt0 [] aa (zp hI hh) hI,
       zn1⟩
     ·have hI := zE1 hI ana (.c 2)
      have hI := zT1 hI je uc
      have hI := zF1 hI je (.c 0)
      have := zf1 (f51 (σ := Gv.σ) (.s 4) (.v 1) (.v 2) (.v 5) (.c 0))
      have u := zf4 (js (Gv.σ 4) ((Gv.σ 1).headD 0) ((Gv.σ 2).headD 0) ((Gv.σ 5).headD 0) 0)
      exact ⟨zn1,
       zt [] (.i bcz amy .nil) aa (zp hI hh) hI ze1⟩
    ·have hI := zF1 hI ka (.c 0)
     have hI := zF1 hI (.len (.s 4)) ka
     have hI := zF1 hI xi (.c 0)
     have := zf1 (f51 (σ := Gv.σ) (.s 4) ka xi (.v 5) (.c 0))
     rcases zq1 hI baf (.c 0) with ⟨hI, k8⟩ | ⟨hI, k8⟩
     ·have hI := zT1 hI je uc
      have hI := zF1 hI je (.c 0)
      have := zf1 (f51 (σ := Gv.σ) (.s 4) (.v 1) (.v 2) (.v 5) (.c 0))
      have u := zf4 (js (Gv.σ 4) ((Gv.σ 1).headD 0) ((Gv.σ 2).headD 0) ((Gv.σ 5).headD 0) 0)
      exact ⟨zt0 [] aa (zp hI hh) hI,
       zn1⟩
     ·have hI := zE1 hI baf (.c 2)
      have hI := zT1 hI je uc
      have hI := zF1 hI je (.c 0)
      have := zf1 (f51 (σ := Gv.σ) (.s 4) (.v 1) (.v 2) (.v 5) (.c 0))
      have u := zf4 (js (Gv.σ 4) ((Gv.σ 1).headD 0) ((Gv.σ 2).headD 0) ((Gv.σ 5).headD 0) 0)
      exact ⟨zn1,
       zt [] (.i (.app 52 a9b) amy .nil) aa (zp hI hh) hI ze1⟩
 ·have := zf1 (f51 (σ := Gv.σ) (.s 4) (.v 1) (.v 2) (.v 5) (.c 0))
  have u := zf4 (js (Gv.σ 4) ((Gv.σ 1).headD 0) ((Gv.σ 2).headD 0) ((Gv.σ 5).headD 0) 0)
  exact ⟨zn1,
   zt [] (.i (.v 2) amy .nil) aa (zp hI hh) hI ze1⟩
theorem aja : ∀ (B : Nat) (σ : Nat → List Int), SAll σ pe → (mL4).eval σ < (B : Int) → @b03 ⟨σ⟩ ∧ @b2s ⟨σ⟩
 | 0, σ, hI, hb => by have := a4l hI; simp only [mL4, evs, wr] at hb; omega
 | B + 1, σ, hI, hb => by
   have ih : ∀ σ' : Nat → List Int, SAll σ' pe → 0 ≤ (mL4).eval σ' ∧ (mL4).eval σ' < (mL4).eval σ → @b03 ⟨σ'⟩ ∧ @b2s ⟨σ'⟩ := fun σ' h h' => aja B σ' h (by omega)
   have hh : ∀ t ∈ [b1l (mL4), b3x (mL4), b4l (mL4), b3m (mL4), b3u (mL4)], @au ⟨σ⟩ t := by
    intro t ht
    simp only [List.mem_cons, zH, or_false] at ht
    rcases ht with rfl | rfl | rfl | rfl | rfl
    ·exact fun σ' _ hA hb => (ih σ' (aj hA).1 hb).1.1 (aj hA).2
    ·exact fun σ' _ hA hb => (ih σ' (aj hA).1 hb).1.2.1 (aj hA).2
    ·exact fun σ' _ hA hb => (ih σ' (aj hA).1 hb).1.2.2 (aj hA).2
    ·exact fun σ' _ hA hb => (ih σ' (aj hA).1 hb).2.1 (aj hA).2
    ·exact fun σ' _ hA hb => (ih σ' (aj hA).1 hb).2.2 (aj hA).2
   exact ⟨@b9l ⟨σ⟩ hh hI, @b9d ⟨σ⟩ hh hI⟩
theorem bog [Gv] : au bzv := fun σ _ hA _ => (aja (((mL4).eval σ).toNat + 1) σ (aj hA).1 (by omega)).1.1 (aj hA).2
theorem bqv [Gv] : au bvk := fun σ _ hA _ => (aja (((mL4).eval σ).toNat + 1) σ (aj hA).1 (by omega)).1.2.1 (aj hA).2
theorem boh [Gv] : au bvt := fun σ _ hA _ => (aja (((mL4).eval σ).toNat + 1) σ (aj hA).1 (by omega)).1.2.2 (aj hA).2
theorem bqd [Gv] : au bz8 := fun σ _ hA _ => (aja (((mL4).eval σ).toNat + 1) σ (aj hA).1 (by omega)).2.1 (aj hA).2
theorem bp7 [Gv] : au bze := fun σ _ hA _ => (aja (((mL4).eval σ).toNat + 1) σ (aj hA).1 (by omega)).2.2 (aj hA).2
theorem nm5 [Gv] : ∀ t ∈ [bzv, bvk, bvt, bz8, bze], au t := by
 intro t ht
 simp only [List.mem_cons, zH, or_false] at ht
 rcases ht with rfl | rfl | rfl | rfl | rfl
 ·exact bog
 ·exact bqv
 ·exact boh
 ·exact bqd
 ·exact bp7
def nuG [Gv] : Prop := (SAll Gv.σ a9x → ba 70 nuU 256 nuI b7n 260 b6t) ∧ (SAll Gv.σ bb5 → ba 70 nuU 256 nuI b7g 260 b71) ∧ (SAll Gv.σ a8q → ba 70 nuU 256 nuI b95 260 b7d)
theorem b2e [Gv] (hI : SAll Gv.σ xp) : nuG := by
 have h20 := aru hI
 have htl := bcp (Gv.σ 3)
 rcases zq1 hI (.eqg zy (.lit 0 0)) (.c 1) with ⟨hI, k1⟩ | ⟨hI, k1⟩ <;> (try simp (disch := omega) only [evs, wr] at k1)
 ·have u2 := zf4 (xd (Gv.σ 3))
  have u := zf6 (ui (Gv.σ 3))
  exact ⟨zm0 [] (zh hI (cg akq)) (zp hI nm5) hI,
   zn2,
   zn2⟩
 ·have := zf1 (bm2 k1)
  rcases zl1 hI (.c 1) (.bin 1 .i64 (.len (.s 3)) agq) with ⟨hI, k2⟩ | ⟨hI, k2⟩
  ·have u2 := zf4 (xd (Gv.σ 3))
   have u := zf6 (ui (Gv.σ 3))
   exact ⟨zm0 [] (zh hI (cg akq)) (zp hI nm5) hI,
    zn2,
    zn2⟩
  ·have hI := zT1 hI (.c 0) (.len (.s 3))
   rcases zq1 hI (.rd (.s 3) (.c 0)) (.c 45) with ⟨hI, k4⟩ | ⟨hI, k4⟩
   ·have hI := zF1 hI agq (.c 0)
    have hI := zF1 hI (.c 20000) agq
    have := zf1 (f51 (σ := Gv.σ) zy (.c 0) (.c 0) a6c (.c 1))
    rcases zq1 hI avy (.c 0) with ⟨hI, k7⟩ | ⟨hI, k7⟩
    ·have u2 := zf4 (xd (Gv.σ 3))
     have u := zf6 (ui (Gv.σ 3))
     exact ⟨zm0 [] (zh hI (cg akq)) (zp hI nm5) hI,
      zn2,
      zn2⟩
    ·rcases zq1 hI avy (.c 1) with ⟨hI, k8⟩ | ⟨hI, k8⟩
     ·have u2 := zf4 (xd (Gv.σ 3))
      have u := zf6 (ui (Gv.σ 3))
      exact ⟨zn2,
       zm [] (.i (.bin 1 .i64 (.c 0) (.bin 0 .i64 (.app 52 bd2) (.c 0))) azx .nil) (zh hI (cg akq)) (zp hI nm5) hI ze4,
       zn2⟩
     ·have hI := zE1 hI avy (.c 2)
      have u2 := zf4 (xd (Gv.σ 3))
      have u := zf6 (ui (Gv.σ 3))
      exact ⟨zn2,
       zn2,
       zm0 [] (zh hI (cg akq)) (zp hI nm5) hI⟩
   ·have hI := zF1 hI agq (.c 0)
    have hI := zF1 hI (.c 20000) agq
    have := zf1 (f51 (σ := Gv.σ) zy (.c 0) (.c 0) (.c 2305843009213693951) (.c 1))
    rcases zq1 hI ax2 (.c 0) with ⟨hI, k7⟩ | ⟨hI, k7⟩
    ·have u2 := zf4 (xd (Gv.σ 3))
     have u := zf6 (ui (Gv.σ 3))
     exact ⟨zm0 [] (zh hI (cg akq)) (zp hI nm5) hI,
      zn2,
      zn2⟩
    ·rcases zq1 hI ax2 (.c 1) with ⟨hI, k8⟩ | ⟨hI, k8⟩
     ·have u2 := zf4 (xd (Gv.σ 3))
      have u := zf6 (ui (Gv.σ 3))
      exact ⟨zn2,
       zm [] (.i (.bin 0 .i64 (.app 52 bam) (.c 0)) azx .nil) (zh hI (cg akq)) (zp hI nm5) hI ze4,
       zn2⟩
     ·have hI := zE1 hI ax2 (.c 2)
      have u2 := zf4 (xd (Gv.σ 3))
      have u := zf6 (ui (Gv.σ 3))
      exact ⟨zn2,
       zn2,
       zm0 [] (zh hI (cg akq)) (zp hI nm5) hI⟩
theorem b1n [Gv] : am bhv := fun σ _ hA _ => (@b2e ⟨σ⟩  (aj hA).1).1 (aj hA).2
theorem b1h [Gv] : am bhw := fun σ _ hA _ => (@b2e ⟨σ⟩  (aj hA).1).2.1 (aj hA).2
theorem b0k [Gv] : am bh1 := fun σ _ hA _ => (@b2e ⟨σ⟩  (aj hA).1).2.2 (aj hA).2
end Go.Ev
