import Derived.Test.YtkfdioikigponaaGreatDoorRaC
set_option maxRecDepth 100000
set_option linter.all false
namespace Go.Ev
abbrev az6 : SE := .bin 7 .i64 (.c (-1)) (.v 1)
abbrev a41 : SE := .bin 6 .i64 (.v 2) (.app 49 (.g (.s 3) (.i (.v 1) .nil)))
abbrev aj6 : List SA := [.mk true (.v 1) (.c 0) false, .mk true (.len (.s 3)) (.v 1) false, .mk true (.c 20000) (.len (.s 3)) false, .mk true (.v 2) (.c 0) false, .mk true (.v 1) (.v 2) false]
abbrev xq : List SA := [.mk true (.c 20000) (.len (.s 3)) false]
abbrev abf : GE := .app 47 (.g (.s 3) .nil)
abbrev a5o : SE := .c 2305843009213693952
abbrev pf : List SA := [.mk true (.v 1) (.c 0) false, .mk true (.len (.s 4)) (.v 1) false, .mk true (.c 20000) (.len (.s 4)) false, .mk true (.v 2) (.c 0) false, .mk true (.v 5) (.v 2) false, .mk true a5o (.v 5) false]
abbrev blq : AL := .g (.s 4) (.i (.v 1) (.i (.v 2) (.i (.v 5) (.i (.c 1) .nil))))
abbrev a6f : SE := .app 51 blq
abbrev axq : List SA := [.mk false a6f (.c 0) true]
abbrev ade : SE := .app 52 blq
abbrev azg : List SA := [.mk false a6f (.c 1) true]
abbrev aw9 : List SA := [.mk false a6f (.c 2) true]
abbrev ayh : AL := .i (.v 5) (.i (.c 0) .nil)
abbrev bak : AL := .g (.s 4) (.i (.v 1) (.i (.v 2) ayh))
abbrev bdo : SE := .app 51 bak
abbrev azx : List SA := [.mk false bdo (.c 0) true]
abbrev alu : SE := .app 52 bak
abbrev ayq : List SA := [.mk false bdo (.c 2) true]
abbrev azz : SE := .app 47 (.g (.s 3) .nil)
abbrev bd0 : List SA := [.mk false azz (.c 0) true]
abbrev axd : SE := .app 48 (.g (.s 3) .nil)
abbrev ba3 : List SA := [.mk false azz (.c 1) true]
abbrev a9m : List SA := [.mk false azz (.c 2) true]
abbrev ajc : SE := .bin 6 .i64 (.v 1) (.dw (.s 3) (.v 1))
abbrev ayf : SE := .bin 0 .i64 (.v 2) (.c 1)
abbrev bau : SE := .bin 6 .i64 (.len (.s 3)) (.bin 7 .i64 (.c (-1)) ajc)
abbrev aix : SE := .dr (.s 4) (.v 1)
abbrev xl : SE := .bin 0 .u64 (.bin 2 .u64 (.v 2) (.c 10)) (.bin 0 .u64 (.bin 1 .i32 aix (.c 48)) (.c 0))
abbrev j2 : SE := .bin 6 .i64 (.v 1) (.dw (.s 4) (.v 1))
abbrev ba8 : AL := .g (.s 4) (.i j2 (.i (.v 5) ayh))
abbrev alp : SE := .app 51 ba8
abbrev ja : SE := .bin 6 .i64 (.len (.s 4)) (.bin 7 .i64 (.c (-1)) j2)
abbrev ux : SE := .bin 6 .i64 (.len (.s 4)) az6
abbrev bby : SE := .app 52 ba8
abbrev bcz : AL := .g (.s 4) (.i j2 (.i xl (.i (.v 5) (.i (.c 1) .nil))))
abbrev axt : SE := .app 51 bcz
abbrev bb2 : SE := .app 52 bcz
abbrev bbb : AL := .g (.s 4) (.i j2 (.i xl ayh))
abbrev a9n : SE := .app 51 bbb
abbrev aid : SE := .len abf
abbrev bc8 : AL := .g abf (.i (.c 0) (.i (.c 0) (.i a5o (.i (.c 1) .nil))))
abbrev ay9 : SE := .app 51 bc8
abbrev bb9 : AL := .g abf (.i (.c 0) (.i (.c 0) (.i (.c 2305843009213693951) (.i (.c 1) .nil))))
abbrev ay7 : SE := .app 51 bb9
noncomputable section
def mL3 : SE := .bin 6 .i64 (.len (.s 3)) az6
def mL4 : SE := .bin 6 .i64 (.len (.s 4)) az6
def b0g : List AV := [.top, .top, .sym .i64 (.v 2) [], .gv (.str (.s 3) []), .ptr (K.of 256) 0] ++ tps 5
def b3p : List HO := [.mk 256 (.gob (.iter (.s 3) (.v 1) []))]
def b17 : List HO := []
def b1d : LR := (.x 0 ([.top, .top, .sym .i64 a41 []] ++ tps 7))
def rcl (m : SE) : LT := .mk 71 5 b0g 257 b3p (aj6 ++ []) (some (mL3, m)) b1d 257 b17
def b9q : LT := .mk 71 5 b0g 257 b3p (aj6 ++ []) none b1d 257 b17
def rcU : List AV := [.gv (.str (.s 3) [])]
def rcI : List HO := []
def rcO : List HO := []
def rcR : TR := .ret (.sym .i64 (.app 49 (.g (.s 3) (.i (.c 0) .nil))) [])
def rcF : TM := .mk 71 rcU 256 rcI (xq ++ []) none rcR 257 rcO
def akb : List AV := [.gv (.str (.s 3) []), .ptr (K.of 256) 0, .top, .top, .top] ++ tps 11
def a36 : List HO := [.mk 256 (.cells 151 false 0 0 (List.replicate 43 (.bool false) ++ [.bool true, .bool false, .bool true] ++ List.replicate 210 (.bool false)))]
def a32 : List HO := []
def a4a : LR := (.x 0 ([.gv (.str abf [])] ++ tps 15))
def trm (m : SE) : LT := .mk 100 3 akb 257 a36 (xq ++ []) (some ((.len (.s 3)), m)) a4a 257 a32
def b6v : LT := .mk 100 3 akb 257 a36 (xq ++ []) none a4a 257 a32
def trU : List AV := [.gv (.str (.s 3) []), .str 2 11053]
def trI : List HO := []
def trO : List HO := []
def trR : TR := .ret (.gv (.str abf []))
def trF : TM := .mk 87 trU 256 trI (xq ++ []) none trR 258 trO
def axh : List AV := [.gv (.str (.s 3) []), .top, .top, .bool false, .bool true, .gv (.str (.s 4) []), .sym .u64 (.v 5) [], .sym .u64 (.v 2) []] ++ tps 20 ++ [.ptr (K.of 256) 0] ++ tps 28
def ay0 : List HO := [.mk 256 (.gob (.iter (.s 4) (.v 1) []))]
def bpe : List HO := []
def bod : LR := (.r ([.gv (.str (.s 3) []), .top, .int .i64 0, .bool false, .bool false, .top, .top, .top] ++ tps 20 ++ [.top] ++ tps 28))
def b1e (m : SE) : LT := .mk 70 19 axh 257 ay0 (pf ++ axq) (some (mL4, m)) bod 257 bpe
def bv2 : LT := .mk 70 19 axh 257 ay0 (pf ++ axq) none bod 257 bpe
def bph : List HO := []
def bmw : LR := (.x 0 ([.gv (.str (.s 3) []), .top, .top, .bool false, .bool true, .top, .top, .sym .u64 ade []] ++ tps 20 ++ [.top] ++ tps 28))
def b24 (m : SE) : LT := .mk 70 19 axh 257 ay0 (pf ++ azg) (some (mL4, m)) bmw 257 bph
def bw0 : LT := .mk 70 19 axh 257 ay0 (pf ++ azg) none bmw 257 bph
def bkp : List HO := []
def bo8 : LR := (.x 0 ([.gv (.str (.s 3) []), .top, .top, .bool false, .bool false, .top, .top, .sym .u64 ade []] ++ tps 20 ++ [.top] ++ tps 28))
def b2z (m : SE) : LT := .mk 70 19 axh 257 ay0 (pf ++ aw9) (some (mL4, m)) bo8 257 bkp
def byx : LT := .mk 70 19 axh 257 ay0 (pf ++ aw9) none bo8 257 bkp
def bhv : List AV := [.gv (.str (.s 3) []), .top, .top, .bool false, .bool false, .gv (.str (.s 4) []), .sym .u64 (.v 5) [], .sym .u64 (.v 2) []] ++ tps 20 ++ [.ptr (K.of 256) 0] ++ tps 28
def bgu : List HO := [.mk 256 (.gob (.iter (.s 4) (.v 1) []))]
def bh8 : List HO := []
def bjg : LR := (.r ([.gv (.str (.s 3) []), .top, .int .i64 0, .bool false, .bool false, .top, .top, .top] ++ tps 20 ++ [.top] ++ tps 28))
def bzy (m : SE) : LT := .mk 70 19 bhv 257 bgu (pf ++ azx) (some (mL4, m)) bjg 257 bh8
def bzk : LT := .mk 70 19 bhv 257 bgu (pf ++ azx) none bjg 257 bh8
def bli : List HO := []
def blc : LR := (.x 0 ([.gv (.str (.s 3) []), .top, .top, .bool false, .bool false, .top, .top, .sym .u64 alu []] ++ tps 20 ++ [.top] ++ tps 28))
def b1t (m : SE) : LT := .mk 70 19 bhv 257 bgu (pf ++ ayq) (some (mL4, m)) blc 257 bli
def byj : LT := .mk 70 19 bhv 257 bgu (pf ++ ayq) none blc 257 bli
def nuU : List AV := [.gv (.str (.s 3) [])]
def nuI : List HO := []
def b42 : List HO := []
def b6e : TR := .ret (.tuple [.int .i64 0, .bool false, .bool false])
def bmx : TM := .mk 70 nuU 256 nuI (xq ++ bd0) none b6e 260 b42
def b6m : List HO := []
def b54 : TR := .ret (.tuple [.sym .i64 axd [], .bool true, .bool true])
def bkt : TM := .mk 70 nuU 256 nuI (xq ++ ba3) none b54 260 b6m
def b6y : List HO := []
def b5v : TR := .ret (.tuple [.top, .bool true, .bool false])
def bo2 : TM := .mk 70 nuU 256 nuI (xq ++ a9m) none b5v 260 b6y
end
theorem bjq {σ : Nat → List Int} (g : GE) (e : SE) : 0 ≤ e.eval σ → e.eval σ < (SE.len g).eval σ → 1 ≤ (SE.dw g e).eval σ ∧ e.eval σ + (SE.dw g e).eval σ ≤ (SE.len g).eval σ ∧ 0 ≤ (SE.dr g e).eval σ ∧ (SE.dr g e).eval σ ≤ 1114111 := by
 intro h0 h1
 have h1 : e.eval σ < ((g.eval σ).length : Int) := h1
 obtain ⟨b1, b2, b3⟩ := re (g.eval σ) (e.eval σ).toNat (by omega)
 show 1 ≤ ((Utf8.decode (ar (g.eval σ)) (e.eval σ).toNat).2 : Int) ∧ e.eval σ + ((Utf8.decode (ar (g.eval σ)) (e.eval σ).toNat).2 : Int) ≤ ((g.eval σ).length : Int) ∧ 0 ≤ ((Utf8.decode (ar (g.eval σ)) (e.eval σ).toNat).1 : Int) ∧ ((Utf8.decode (ar (g.eval σ)) (e.eval σ).toNat).1 : Int) ≤ 1114111
 omega
theorem awg (d : List Int) : ∀ (n : Nat) (p s m f : Int), ((d.length : Int) - p).toNat ≤ n → 0 ≤ s → s ≤ m → (f = 0 ∨ f = 1) → ((ab7 d p s m f).k = 0 ∨ ((ab7 d p s m f).k = 1 ∧ f = 1) ∨ (ab7 d p s m f).k = 2) ∧ 0 ≤ (ab7 d p s m f).n ∧ (ab7 d p s m f).n ≤ m
 | 0, p, s, m, f, h, h0, h1, hf => by
   rw [jl, if_neg (by omega)]
   dsimp only
   rcases hf with rfl | rfl
   ·exact ⟨.inr (.inr (if_neg (by omega))), h0, h1⟩
   ·exact ⟨.inr (.inl ⟨if_pos rfl, rfl⟩), h0, h1⟩
 | n + 1, p, s, m, f, h, h0, h1, hf => by
   rw [jl]
   split
   ·split
    ·exact ⟨.inl rfl, Int.le_refl _, by dsimp only; omega⟩
    ·split
     ·split
      ·obtain ⟨a, b, c⟩ := awg d n (p + dwJ d p) m m 0 (by omega) (by omega) (by omega) (.inl rfl)
       refine ⟨?_, b, c⟩
       rcases a with a | a | a
       ·exact .inl a
       ·exact absurd a.2 (by omega)
       ·exact .inr (.inr a)
      ·exact awg d n (p + dwJ d p) _ m f (by omega) (by omega) (by omega) hf
     ·exact ⟨.inl rfl, Int.le_refl _, by dsimp only; omega⟩
   ·dsimp only
    rcases hf with rfl | rfl
    ·exact ⟨.inr (.inr (if_neg (by omega))), h0, h1⟩
    ·exact ⟨.inr (.inl ⟨if_pos rfl, rfl⟩), h0, h1⟩
theorem f51 {σ : Nat → List Int} (g : GE) (p s m f : SE) : 0 ≤ s.eval σ → s.eval σ ≤ m.eval σ → (f.eval σ = 0 ∨ f.eval σ = 1) → ((SE.app 51 (.g g (.i p (.i s (.i m (.i f .nil)))))).eval σ = 0 ∨ ((SE.app 51 (.g g (.i p (.i s (.i m (.i f .nil)))))).eval σ = 1 ∧ f.eval σ = 1) ∨ (SE.app 51 (.g g (.i p (.i s (.i m (.i f .nil)))))).eval σ = 2) ∧
  0 ≤ (SE.app 52 (.g g (.i p (.i s (.i m (.i f .nil)))))).eval σ ∧ (SE.app 52 (.g g (.i p (.i s (.i m (.i f .nil)))))).eval σ ≤ m.eval σ := fun h0 h1 hf => awg _ _ _ _ _ _ (Nat.le_refl _) h0 h1 hf
theorem aj3 (c : Int) (l : List Int) : od (c :: l) = if c = 43 ∨ c = 45 then od l else c :: l := by
 unfold od
 rw [List.dropWhile_cons]
 by_cases h : c = 43 ∨ c = 45
 ·rw [if_pos (decide_eq_true h), if_pos h]
 ·rw [if_neg (by simpa using h), if_neg h]
theorem bd9 : ∀ l : List Int, (od l).length ≤ l.length
 | [] => Nat.le_refl _
 | c :: l => by
   rw [aj3]
   split
   ·have := bd9 l; simp only [List.length_cons]; omega
   ·exact Nat.le_refl _
theorem bjc {σ : Nat → List Int} (h : SAll σ aj6) : 0 ≤ (σ 1).headD 0 ∧ (σ 1).headD 0 ≤ ((σ 3).length : Int) ∧ ((σ 3).length : Int) ≤ 20000 ∧ 0 ≤ (σ 2).headD 0 ∧ (σ 2).headD 0 ≤ (σ 1).headD 0 := by
 simp only [sall_cons, sF, evs] at h
 exact ⟨h.1, h.2.1, h.2.2.1, h.2.2.2.1, h.2.2.2.2.1⟩
theorem a6h {σ : Nat → List Int} (h : SAll σ pf) : 0 ≤ (σ 1).headD 0 ∧ (σ 1).headD 0 ≤ ((σ 4).length : Int) ∧ ((σ 4).length : Int) ≤ 20000 ∧ 0 ≤ (σ 2).headD 0 ∧ (σ 2).headD 0 ≤ (σ 5).headD 0 ∧ (σ 5).headD 0 ≤ 2305843009213693952 := by
 simp only [sall_cons, sF, evs] at h
 exact ⟨h.1, h.2.1, h.2.2.1, h.2.2.2.1, h.2.2.2.2.1, h.2.2.2.2.2.1⟩
theorem apj {σ : Nat → List Int} (h : SAll σ xq) : ((σ 3).length : Int) ≤ 20000 := by
 simp only [sall_cons, sF, evs] at h
 exact h.1
def b0i [Gv] : Prop := (SAll Gv.σ [] → cg 71 5 b0g 257 b3p b1d 257 b17)
theorem b74 [Gv] (hh : ∀ t ∈ [rcl (mL3)], ba t) (hI : SAll Gv.σ aj6) : b0i := by
 obtain ⟨hp0, hpl, hL, hn0, hnl⟩ := bjc hI
 rcases zl1 hI (.v 1) (.len (.s 3)) with ⟨hI, k1⟩ | ⟨hI, k1⟩
 ·have := zf1 (bjq (σ := Gv.σ) (.s 3) (.v 1))
  have hI := zF1 hI ajc (.c 0)
  have hI := zF1 hI (.len (.s 3)) ajc
  have hI := zF1 hI ayf (.c 0)
  have hI := zF1 hI ajc ayf
  have hI := zT1 hI bau (.bin 6 .i64 (.len (.s 3)) az6)
  have hI := zF1 hI bau (.c 0)
  have u := zf4 (amb (Gv.σ 3) ((Gv.σ 1).headD 0))
  exact zt [] (.i (.bin 6 .i64 ayf (.app 49 (.g (.s 3) (.i ajc .nil)))) a41 .nil) af (ao _ hh) hI ze1
 ·have u := zf4 (amb (Gv.σ 3) ((Gv.σ 1).headD 0))
  exact zt [] (.i (.v 2) a41 .nil) af (ao _ hh) hI ze1
theorem bdl : ∀ (B : Nat) (σ : Nat → List Int), SAll σ aj6 → (mL3).eval σ < (B : Int) → @b0i ⟨σ⟩
 | 0, σ, hI, hb => by have := bjc hI; simp only [mL3, evs, wr] at hb; omega
 | B + 1, σ, hI, hb => by
   have ih : ∀ σ' : Nat → List Int, SAll σ' aj6 → 0 ≤ (mL3).eval σ' ∧ (mL3).eval σ' < (mL3).eval σ → @b0i ⟨σ'⟩ := fun σ' h h' => bdl B σ' h (by omega)
   have hh : ∀ t ∈ [rcl (mL3)], @ba ⟨σ⟩ t := by
    intro t ht
    simp only [List.mem_cons, List.not_mem_nil, or_false] at ht
    rcases ht with rfl
    ·exact fun σ' _ hA hb => (ih σ' (aj hA).1 hb) (aj hA).2
   exact @b74 ⟨σ⟩ hh hI
theorem b11 [Gv] : ba b9q := fun σ _ hA _ => (bdl (((mL3).eval σ).toNat + 1) σ (aj hA).1 (by omega)) (aj hA).2
def rcG [Gv] : Prop := (SAll Gv.σ [] → bh 71 rcU 256 rcI rcR 257 rcO)
theorem b96 [Gv] (hI : SAll Gv.σ xq) : rcG := by
 have h20 := apj hI
 have hI := zF1 hI (.len (.s 3)) (.c 0)
 have u := trivial
 exact zm0 [] af (ao _ (cu b11)) hI
theorem bkw [Gv] : ap rcF := fun σ _ hA _ => (@b96 ⟨σ⟩  (aj hA).1) (aj hA).2
noncomputable section
def tI0 : SA := .mk true (.c 20000) (.len (.s 3)) false
def trE (g : GE) : EqL := .g g abf .nil
def tCut : GE := .cut (.s 3) (.c 1) (.len (.s 3))
def b3i (c : Int) : List SA := [tI0, .mk true (.c 0) (.len (.s 3)) true, .mk false (.rd (.s 3) (.c 0)) (.c c) true]
def bz2 (c : Int) : List SA := [tI0, .mk true (.c 0) (.len (.s 3)) true, .mk false (.rd (.s 3) (.c 0)) (.c c) true, .mk true (.len (.s 3)) (.c 1) false, .mk true (.c 20000) (.len tCut) false, .mk true (.len tCut) (.len (.s 3)) true, .mk true (.len tCut) (.c 0) false]
def b7j (c : Int) : Bool := w5 [] 257 257 (trE (.s 3)) a32 (cj akb) a4a (qs (tr 100 3) (aez a5t b10 2000) (.mk 100 (cj akb) false none) (.mk (kc (aVs (b3i c) akb) 0 j4) [] .none (aq (aHO (b3i c) a36) 257)))
end
theorem bos : ((List.range 256).all fun c => c == 43 || c == 45 || b7j (c : Int)) = true := by kernel_rfl
theorem bzt (c : Int) (h0 : 0 ≤ c) (h1 : c < 256) (h2 : ¬(c = 43 ∨ c = 45)) : b7j c = true := by
 have := List.all_eq_true.1 bos c.toNat (List.mem_range.2 (by omega))
 rw [show ((c.toNat : Nat) : Int) = c by omega] at this
 simp only [Bool.or_eq_true, beq_iff_eq] at this
 rcases this with (this | this) | this
 ·omega
 ·omega
 ·exact this
theorem t43 [Gv] (c : Int) (hc : c = 43 ∨ c = 45) (hh : ∀ t ∈ [trm (.len (.s 3))], ba t) (hI : SAll Gv.σ [tI0]) (l : List Int) (hl : Gv.σ 3 = c :: l) (hrun : w5 [] 257 257 (trE (.app 47 (.g tCut .nil))) a32 (cj akb) a4a (qs (tr 100 3) (aez a5t (lpT [trm (.len (.s 3))]) 2000) (.mk 100 (cj akb) false none) (.mk (kc (aVs (bz2 c) akb) 0 j4) [] .none (aq (aHO (bz2 c) a36) 257))) = true) : cg 100 3 akb 257 a36 a4a 257 a32 := by
 have hL : ((Gv.σ 3).length : Int) = (l.length : Int) + 1 := by rw [hl]; rfl
 have h20 := apj hI
 have hcut : tCut.eval Gv.σ = l := by
  show ((Gv.σ 3).take (((Gv.σ 3).length : Int)).toNat).drop 1 = l
  rw [show (((Gv.σ 3).length : Int)).toNat = (Gv.σ 3).length by omega, List.take_length, hl]; rfl
 have hcl : (SE.len tCut).eval Gv.σ = (l.length : Int) := by show ((tCut.eval Gv.σ).length : Int) = _; rw [hcut]
 have htr : od l = od (Gv.σ 3) := by rw [hl, aj3, if_pos hc]
 refine rp (n := 2000) (A := bz2 c) (T := []) (E := trE (.app 47 (.g tCut .nil))) af (ao _ hh) ?_ ⟨?_, trivial⟩ rfl rfl hrun
 ·refine sc (hI _ (List.mem_singleton.2 rfl)) (sc (bT _ _ ?_) (sc (bE _ _ ?_) (sc (bF _ _ ?_) (sc (bF _ _ ?_) (sc (bT _ _ ?_) (sc (bF _ _ ?_) SAll.nil))))))
  ·simp only [evs]; omega
  ·simp only [evs]; rw [hl]; rfl
  ·simp only [evs]; omega
  ·rw [hcl]; simp only [evs]; omega
  ·rw [hcl]; simp only [evs]; omega
  ·rw [hcl]; simp only [evs]; omega
 ·show od (tCut.eval Gv.σ) = od (Gv.σ 3)
  rw [hcut]; exact htr
theorem b39 [Gv] (hh : ∀ t ∈ [trm (.len (.s 3))], ba t) (hI : SAll Gv.σ [tI0]) : cg 100 3 akb 257 a36 a4a 257 a32 := by
 intro b hb ρ a cs w hg hw hc h5 hv hd
 have hB : jb (Gv.σ 3) := by
  have hv := hv
  unfold akb at hv
  simp only [List.cons_append, VRels, VRel] at hv
  obtain ⟨v, vs, _, ⟨_, _, hB⟩, _⟩ := hv
  exact hB
 refine (?_ : cg 100 3 akb 257 a36 a4a 257 a32) b hb ρ a cs w hg hw hc h5 hv hd
 cases hl : Gv.σ 3 with
 | nil =>
   refine rp (n := 2000) (A := [tI0, .mk true (.c 0) (.len (.s 3)) false]) (T := []) (E := trE (.s 3)) af ak (sc (hI _ (List.mem_singleton.2 rfl)) (sc (bF _ _ ?_) SAll.nil)) ⟨?_, trivial⟩ rfl rfl (by kernel_rfl)
   ·simp only [evs]; rw [hl]; exact Int.le_refl _
   ·show Gv.σ 3 = od (Gv.σ 3)
    rw [hl]; rfl
 | cons c l =>
   by_cases h43 : c = 43 ∨ c = 45
   ·rcases h43 with rfl | rfl
    ·exact t43 43 (.inl rfl) hh hI l hl (by kernel_rfl)
    ·exact t43 45 (.inr rfl) hh hI l hl (by kernel_rfl)
   ·have h2 := hB c (by rw [hl]; simp)
    refine rp (n := 2000) (A := b3i c) (T := []) (E := trE (.s 3)) af ak (sc (hI _ (List.mem_singleton.2 rfl)) (sc (bT _ _ ?_) (sc (bE _ _ ?_) SAll.nil))) ⟨?_, trivial⟩ rfl rfl (bzt c h2.1 h2.2 h43)
    ·simp only [evs]; rw [hl]; simp only [List.length_cons]; omega
    ·simp only [evs]; rw [hl]; rfl
    ·show Gv.σ 3 = od (Gv.σ 3)
     rw [hl, aj3, if_neg h43]
theorem bcc : ∀ (B : Nat) (σ : Nat → List Int), SAll σ [tI0] → (σ 3).length < B → @cg ⟨σ⟩ 100 3 akb 257 a36 a4a 257 a32
 | 0, σ, hI, hb => by omega
 | B + 1, σ, hI, hb => by
   refine @b39 ⟨σ⟩ ?_ hI
   intro t ht
   rw [List.mem_singleton] at ht; subst ht
   intro σ' _ hA hb'
   have h2 : ((σ' 3).length : Int) < ((σ 3).length : Int) := hb'.2
   exact bcc B σ' (aj hA).1 (by omega)
theorem b1c [Gv] : ba b6v := fun σ _ hA _ => bcc ((σ 3).length + 1) σ (aj hA).1 (by omega)
theorem aky [Gv] : ap trF := by
 intro σ _ hA _
 have hI := (aj hA).1
 by_cases h : σ 3 = []
 ·refine @y4 ⟨σ⟩ _ (@af ⟨σ⟩) _ (@ak ⟨σ⟩) 2000 _ _ _ _ [tI0, .mk false (.eqg (.s 3) (.lit 0 0)) (.c 1) true] _ _ _ [] (trE (.s 3)) (sc (hI _ (List.mem_singleton.2 rfl)) (sc (@bE ⟨σ⟩ _ _ ?_) SAll.nil)) ⟨?_, trivial⟩ rfl rfl (by kernel_rfl)
  ·simp only [evs, wr]; exact h
  ·show σ 3 = od (σ 3)
   rw [h]; rfl
 ·refine @y4 ⟨σ⟩ _ (@af ⟨σ⟩) _ (@ao ⟨σ⟩ [b6v] (cu (@b1c ⟨σ⟩))) 2000 _ _ _ _ [tI0, .mk false (.eqg (.s 3) (.lit 0 0)) (.c 1) false] _ _ _ [] .nil (sc (hI _ (List.mem_singleton.2 rfl)) (sc (@bN ⟨σ⟩ _ _ ?_) SAll.nil)) trivial rfl rfl (by kernel_rfl)
  simp only [evs, wr]; exact h
theorem bi2 {s : List Int} (h : ¬ od s = []) : 1 ≤ (s.length : Int) := by
 cases s with
 | nil => exact absurd rfl h
 | cons c l => simp only [List.length_cons]; omega
def b1a [Gv] : Prop := (SAll Gv.σ axq → cg 70 19 axh 257 ay0 bod 257 bpe) ∧ (SAll Gv.σ azg → cg 70 19 axh 257 ay0 bmw 257 bph) ∧ (SAll Gv.σ aw9 → cg 70 19 axh 257 ay0 bo8 257 bkp)
theorem b51 [Gv] (hh : ∀ t ∈ [b1e (mL4), b24 (mL4), b2z (mL4), bzy (mL4), b1t (mL4)], ba t) (hI : SAll Gv.σ pf) : b1a := by
 obtain ⟨hp0, hpl, hL, hn0, hnl, hm⟩ := a6h hI
 rcases zl1 hI (.v 1) (.len (.s 4)) with ⟨hI, k1⟩ | ⟨hI, k1⟩
 ·have := zf1 (bjq (σ := Gv.σ) (.s 4) (.v 1))
  rcases zl1 hI aix (.c 48) with ⟨hI, k2⟩ | ⟨hI, k2⟩
  ·have := zf1 (f51 (σ := Gv.σ) (.s 4) (.v 1) (.v 2) (.v 5) (.c 1))
   have u := zf4 (jl (Gv.σ 4) ((Gv.σ 1).headD 0) ((Gv.σ 2).headD 0) ((Gv.σ 5).headD 0) 1)
   exact ⟨zt0 [] af (ao _ hh) hI,
    zn1,
    zn1⟩
  ·rcases zl1 hI (.c 57) aix with ⟨hI, k3⟩ | ⟨hI, k3⟩
   ·have := zf1 (f51 (σ := Gv.σ) (.s 4) (.v 1) (.v 2) (.v 5) (.c 1))
    have u := zf4 (jl (Gv.σ 4) ((Gv.σ 1).headD 0) ((Gv.σ 2).headD 0) ((Gv.σ 5).headD 0) 1)
    exact ⟨zt0 [] af (ao _ hh) hI,
     zn1,
     zn1⟩
   ·rcases zl1 hI (.v 5) xl with ⟨hI, k4⟩ | ⟨hI, k4⟩
    ·have hI := zF1 hI j2 (.c 0)
     have hI := zF1 hI (.len (.s 4)) j2
     have hI := zF1 hI (.v 5) (.c 0)
     have := zf1 (f51 (σ := Gv.σ) (.s 4) j2 (.v 5) (.v 5) (.c 0))
     rcases zq1 hI alp (.c 0) with ⟨hI, k8⟩ | ⟨hI, k8⟩
     ·have hI := zT1 hI ja ux
      have hI := zF1 hI ja (.c 0)
      have := zf1 (f51 (σ := Gv.σ) (.s 4) (.v 1) (.v 2) (.v 5) (.c 1))
      have u := zf4 (jl (Gv.σ 4) ((Gv.σ 1).headD 0) ((Gv.σ 2).headD 0) ((Gv.σ 5).headD 0) 1)
      exact ⟨zt0 [] af (ao _ hh) hI,
       zn1,
       zn1⟩
     ·have hI := zE1 hI alp (.c 2)
      have hI := zT1 hI ja ux
      have hI := zF1 hI ja (.c 0)
      have := zf1 (f51 (σ := Gv.σ) (.s 4) (.v 1) (.v 2) (.v 5) (.c 1))
      have u := zf4 (jl (Gv.σ 4) ((Gv.σ 1).headD 0) ((Gv.σ 2).headD 0) ((Gv.σ 5).headD 0) 1)
      exact ⟨zn1,
       zn1,
       zt [] (.i bby ade .nil) af (ao _ hh) hI ze1⟩
    ·have hI := zF1 hI j2 (.c 0)
     have hI := zF1 hI (.len (.s 4)) j2
     have hI := zF1 hI xl (.c 0)
     have := zf1 (f51 (σ := Gv.σ) (.s 4) j2 xl (.v 5) (.c 1))
     rcases zq1 hI axt (.c 0) with ⟨hI, k8⟩ | ⟨hI, k8⟩
     ·have hI := zT1 hI ja ux
      have hI := zF1 hI ja (.c 0)
      have := zf1 (f51 (σ := Gv.σ) (.s 4) (.v 1) (.v 2) (.v 5) (.c 1))
      have u := zf4 (jl (Gv.σ 4) ((Gv.σ 1).headD 0) ((Gv.σ 2).headD 0) ((Gv.σ 5).headD 0) 1)
      exact ⟨zt0 [] af (ao _ hh) hI,
       zn1,
       zn1⟩
     ·rcases zq1 hI axt (.c 1) with ⟨hI, k9⟩ | ⟨hI, k9⟩
      ·have hI := zT1 hI ja ux
       have hI := zF1 hI ja (.c 0)
       have := zf1 (f51 (σ := Gv.σ) (.s 4) (.v 1) (.v 2) (.v 5) (.c 1))
       have u := zf4 (jl (Gv.σ 4) ((Gv.σ 1).headD 0) ((Gv.σ 2).headD 0) ((Gv.σ 5).headD 0) 1)
       exact ⟨zn1,
        zt [] (.i bb2 ade .nil) af (ao _ hh) hI ze1,
        zn1⟩
      ·have hI := zE1 hI axt (.c 2)
       have hI := zT1 hI ja ux
       have hI := zF1 hI ja (.c 0)
       have := zf1 (f51 (σ := Gv.σ) (.s 4) (.v 1) (.v 2) (.v 5) (.c 1))
       have u := zf4 (jl (Gv.σ 4) ((Gv.σ 1).headD 0) ((Gv.σ 2).headD 0) ((Gv.σ 5).headD 0) 1)
       exact ⟨zn1,
        zn1,
        zt [] (.i bb2 ade .nil) af (ao _ hh) hI ze1⟩
 ·have := zf1 (f51 (σ := Gv.σ) (.s 4) (.v 1) (.v 2) (.v 5) (.c 1))
  have u := zf4 (jl (Gv.σ 4) ((Gv.σ 1).headD 0) ((Gv.σ 2).headD 0) ((Gv.σ 5).headD 0) 1)
  exact ⟨zn1,
   zt [] (.i (.v 2) ade .nil) af (ao _ hh) hI ze1,
   zn1⟩
def b2i [Gv] : Prop := (SAll Gv.σ azx → cg 70 19 bhv 257 bgu bjg 257 bh8) ∧ (SAll Gv.σ ayq → cg 70 19 bhv 257 bgu blc 257 bli)
theorem b4d [Gv] (hh : ∀ t ∈ [b1e (mL4), b24 (mL4), b2z (mL4), bzy (mL4), b1t (mL4)], ba t) (hI : SAll Gv.σ pf) : b2i := by
 obtain ⟨hp0, hpl, hL, hn0, hnl, hm⟩ := a6h hI
 rcases zl1 hI (.v 1) (.len (.s 4)) with ⟨hI, k1⟩ | ⟨hI, k1⟩
 ·have := zf1 (bjq (σ := Gv.σ) (.s 4) (.v 1))
  rcases zl1 hI aix (.c 48) with ⟨hI, k2⟩ | ⟨hI, k2⟩
  ·have := zf1 (f51 (σ := Gv.σ) (.s 4) (.v 1) (.v 2) (.v 5) (.c 0))
   have u := zf4 (jl (Gv.σ 4) ((Gv.σ 1).headD 0) ((Gv.σ 2).headD 0) ((Gv.σ 5).headD 0) 0)
   exact ⟨zt0 [] af (ao _ hh) hI,
    zn1⟩
  ·rcases zl1 hI (.c 57) aix with ⟨hI, k3⟩ | ⟨hI, k3⟩
   ·have := zf1 (f51 (σ := Gv.σ) (.s 4) (.v 1) (.v 2) (.v 5) (.c 0))
    have u := zf4 (jl (Gv.σ 4) ((Gv.σ 1).headD 0) ((Gv.σ 2).headD 0) ((Gv.σ 5).headD 0) 0)
    exact ⟨zt0 [] af (ao _ hh) hI,
     zn1⟩
   ·rcases zl1 hI (.v 5) xl with ⟨hI, k4⟩ | ⟨hI, k4⟩
    ·have hI := zF1 hI j2 (.c 0)
     have hI := zF1 hI (.len (.s 4)) j2
     have hI := zF1 hI (.v 5) (.c 0)
     have := zf1 (f51 (σ := Gv.σ) (.s 4) j2 (.v 5) (.v 5) (.c 0))
     rcases zq1 hI alp (.c 0) with ⟨hI, k8⟩ | ⟨hI, k8⟩
     ·have hI := zT1 hI ja ux
      have hI := zF1 hI ja (.c 0)
      have := zf1 (f51 (σ := Gv.σ) (.s 4) (.v 1) (.v 2) (.v 5) (.c 0))
      have u := zf4 (jl (Gv.σ 4) ((Gv.σ 1).headD 0) ((Gv.σ 2).headD 0) ((Gv.σ 5).headD 0) 0)
      exact ⟨zt0 [] af (ao _ hh) hI,
       zn1⟩
     ·have hI := zE1 hI alp (.c 2)
      have hI := zT1 hI ja ux
      have hI := zF1 hI ja (.c 0)
      have := zf1 (f51 (σ := Gv.σ) (.s 4) (.v 1) (.v 2) (.v 5) (.c 0))
      have u := zf4 (jl (Gv.σ 4) ((Gv.σ 1).headD 0) ((Gv.σ 2).headD 0) ((Gv.σ 5).headD 0) 0)
      exact ⟨zn1,
       zt [] (.i bby alu .nil) af (ao _ hh) hI ze1⟩
    ·have hI := zF1 hI j2 (.c 0)
     have hI := zF1 hI (.len (.s 4)) j2
     have hI := zF1 hI xl (.c 0)
     have := zf1 (f51 (σ := Gv.σ) (.s 4) j2 xl (.v 5) (.c 0))
     rcases zq1 hI a9n (.c 0) with ⟨hI, k8⟩ | ⟨hI, k8⟩
     ·have hI := zT1 hI ja ux
      have hI := zF1 hI ja (.c 0)
      have := zf1 (f51 (σ := Gv.σ) (.s 4) (.v 1) (.v 2) (.v 5) (.c 0))
      have u := zf4 (jl (Gv.σ 4) ((Gv.σ 1).headD 0) ((Gv.σ 2).headD 0) ((Gv.σ 5).headD 0) 0)
      exact ⟨zt0 [] af (ao _ hh) hI,
       zn1⟩
     ·have hI := zE1 hI a9n (.c 2)
      have hI := zT1 hI ja ux
      have hI := zF1 hI ja (.c 0)
      have := zf1 (f51 (σ := Gv.σ) (.s 4) (.v 1) (.v 2) (.v 5) (.c 0))
      have u := zf4 (jl (Gv.σ 4) ((Gv.σ 1).headD 0) ((Gv.σ 2).headD 0) ((Gv.σ 5).headD 0) 0)
      exact ⟨zn1,
       zt [] (.i (.app 52 bbb) alu .nil) af (ao _ hh) hI ze1⟩
 ·have := zf1 (f51 (σ := Gv.σ) (.s 4) (.v 1) (.v 2) (.v 5) (.c 0))
  have u := zf4 (jl (Gv.σ 4) ((Gv.σ 1).headD 0) ((Gv.σ 2).headD 0) ((Gv.σ 5).headD 0) 0)
  exact ⟨zn1,
   zt [] (.i (.v 2) alu .nil) af (ao _ hh) hI ze1⟩
theorem akl : ∀ (B : Nat) (σ : Nat → List Int), SAll σ pf → (mL4).eval σ < (B : Int) → @b1a ⟨σ⟩ ∧ @b2i ⟨σ⟩
 | 0, σ, hI, hb => by have := a6h hI; simp only [mL4, evs, wr] at hb; omega
 | B + 1, σ, hI, hb => by
   have ih : ∀ σ' : Nat → List Int, SAll σ' pf → 0 ≤ (mL4).eval σ' ∧ (mL4).eval σ' < (mL4).eval σ → @b1a ⟨σ'⟩ ∧ @b2i ⟨σ'⟩ := fun σ' h h' => akl B σ' h (by omega)
   have hh : ∀ t ∈ [b1e (mL4), b24 (mL4), b2z (mL4), bzy (mL4), b1t (mL4)], @ba ⟨σ⟩ t := by
    intro t ht
    simp only [List.mem_cons, List.not_mem_nil, or_false] at ht
    rcases ht with rfl | rfl | rfl | rfl | rfl
    ·exact fun σ' _ hA hb => (ih σ' (aj hA).1 hb).1.1 (aj hA).2
    ·exact fun σ' _ hA hb => (ih σ' (aj hA).1 hb).1.2.1 (aj hA).2
    ·exact fun σ' _ hA hb => (ih σ' (aj hA).1 hb).1.2.2 (aj hA).2
    ·exact fun σ' _ hA hb => (ih σ' (aj hA).1 hb).2.1 (aj hA).2
    ·exact fun σ' _ hA hb => (ih σ' (aj hA).1 hb).2.2 (aj hA).2
   exact ⟨@b51 ⟨σ⟩ hh hI, @b4d ⟨σ⟩ hh hI⟩
theorem bps [Gv] : ba bv2 := fun σ _ hA _ => (akl (((mL4).eval σ).toNat + 1) σ (aj hA).1 (by omega)).1.1 (aj hA).2
theorem bqv [Gv] : ba bw0 := fun σ _ hA _ => (akl (((mL4).eval σ).toNat + 1) σ (aj hA).1 (by omega)).1.2.1 (aj hA).2
theorem bq6 [Gv] : ba byx := fun σ _ hA _ => (akl (((mL4).eval σ).toNat + 1) σ (aj hA).1 (by omega)).1.2.2 (aj hA).2
theorem bs7 [Gv] : ba bzk := fun σ _ hA _ => (akl (((mL4).eval σ).toNat + 1) σ (aj hA).1 (by omega)).2.1 (aj hA).2
theorem btt [Gv] : ba byj := fun σ _ hA _ => (akl (((mL4).eval σ).toNat + 1) σ (aj hA).1 (by omega)).2.2 (aj hA).2
theorem nm5 [Gv] : ∀ t ∈ [bv2, bw0, byx, bzk, byj], ba t := by
 intro t ht
 simp only [List.mem_cons, List.not_mem_nil, or_false] at ht
 rcases ht with rfl | rfl | rfl | rfl | rfl
 ·exact bps
 ·exact bqv
 ·exact bq6
 ·exact bs7
 ·exact btt
def nuG [Gv] : Prop := (SAll Gv.σ bd0 → bh 70 nuU 256 nuI b6e 260 b42) ∧ (SAll Gv.σ ba3 → bh 70 nuU 256 nuI b54 260 b6m) ∧ (SAll Gv.σ a9m → bh 70 nuU 256 nuI b5v 260 b6y)
theorem bz3 [Gv] (hI : SAll Gv.σ xq) : nuG := by
 have h20 := apj hI
 have htl := bd9 (Gv.σ 3)
 rcases zq1 hI (.eqg abf (.lit 0 0)) (.c 1) with ⟨hI, k1⟩ | ⟨hI, k1⟩ <;> (try simp (disch := omega) only [evs, wr] at k1)
 ·have u2 := zf4 (wk (Gv.σ 3))
  have u := zf6 (ua (Gv.σ 3))
  exact ⟨zm0 [] (ag _ (cu aky)) (ao _ nm5) hI,
   zn2,
   zn2⟩
 ·have := zf1 (bi2 k1)
  rcases zl1 hI (.c 1) (.bin 1 .i64 (.len (.s 3)) aid) with ⟨hI, k2⟩ | ⟨hI, k2⟩
  ·have u2 := zf4 (wk (Gv.σ 3))
   have u := zf6 (ua (Gv.σ 3))
   exact ⟨zm0 [] (ag _ (cu aky)) (ao _ nm5) hI,
    zn2,
    zn2⟩
  ·have hI := zT1 hI (.c 0) (.len (.s 3))
   rcases zq1 hI (.rd (.s 3) (.c 0)) (.c 45) with ⟨hI, k4⟩ | ⟨hI, k4⟩
   ·have hI := zF1 hI aid (.c 0)
    have hI := zF1 hI (.c 20000) aid
    have := zf1 (f51 (σ := Gv.σ) abf (.c 0) (.c 0) a5o (.c 1))
    rcases zq1 hI ay9 (.c 0) with ⟨hI, k7⟩ | ⟨hI, k7⟩
    ·have u2 := zf4 (wk (Gv.σ 3))
     have u := zf6 (ua (Gv.σ 3))
     exact ⟨zm0 [] (ag _ (cu aky)) (ao _ nm5) hI,
      zn2,
      zn2⟩
    ·rcases zq1 hI ay9 (.c 1) with ⟨hI, k8⟩ | ⟨hI, k8⟩
     ·have u2 := zf4 (wk (Gv.σ 3))
      have u := zf6 (ua (Gv.σ 3))
      exact ⟨zn2,
       zm [] (.i (.bin 1 .i64 (.c 0) (.bin 0 .i64 (.app 52 bc8) (.c 0))) axd .nil) (ag _ (cu aky)) (ao _ nm5) hI ze4,
       zn2⟩
     ·have hI := zE1 hI ay9 (.c 2)
      have u2 := zf4 (wk (Gv.σ 3))
      have u := zf6 (ua (Gv.σ 3))
      exact ⟨zn2,
       zn2,
       zm0 [] (ag _ (cu aky)) (ao _ nm5) hI⟩
   ·have hI := zF1 hI aid (.c 0)
    have hI := zF1 hI (.c 20000) aid
    have := zf1 (f51 (σ := Gv.σ) abf (.c 0) (.c 0) (.c 2305843009213693951) (.c 1))
    rcases zq1 hI ay7 (.c 0) with ⟨hI, k7⟩ | ⟨hI, k7⟩
    ·have u2 := zf4 (wk (Gv.σ 3))
     have u := zf6 (ua (Gv.σ 3))
     exact ⟨zm0 [] (ag _ (cu aky)) (ao _ nm5) hI,
      zn2,
      zn2⟩
    ·rcases zq1 hI ay7 (.c 1) with ⟨hI, k8⟩ | ⟨hI, k8⟩
     ·have u2 := zf4 (wk (Gv.σ 3))
      have u := zf6 (ua (Gv.σ 3))
      exact ⟨zn2,
       zm [] (.i (.bin 0 .i64 (.app 52 bb9) (.c 0)) axd .nil) (ag _ (cu aky)) (ao _ nm5) hI ze4,
       zn2⟩
     ·have hI := zE1 hI ay7 (.c 2)
      have u2 := zf4 (wk (Gv.σ 3))
      have u := zf6 (ua (Gv.σ 3))
      exact ⟨zn2,
       zn2,
       zm0 [] (ag _ (cu aky)) (ao _ nm5) hI⟩
theorem b0d [Gv] : ap bmx := fun σ _ hA _ => (@bz3 ⟨σ⟩  (aj hA).1).1 (aj hA).2
theorem b3a [Gv] : ap bkt := fun σ _ hA _ => (@bz3 ⟨σ⟩  (aj hA).1).2.1 (aj hA).2
theorem b3h [Gv] : ap bo2 := fun σ _ hA _ => (@bz3 ⟨σ⟩  (aj hA).1).2.2 (aj hA).2
end Go.Ev
