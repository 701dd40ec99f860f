import Derived.Test.YtocilenpboklbaaGreatDoorRaC
set_option maxRecDepth 100000
set_option linter.all false
namespace Go.Ev
abbrev apu : SE := .bin 7 .i64 (.c (-1)) (.v 1)
abbrev axp : SE := .bin 6 .i64 (.v 2) (.app 49 (.g (.s 3) (.i (.v 1) .nil)))
abbrev aef : List SA := [.mk true (.v 1) (.c 0) false, .mk true (.len (.s 3)) (.v 1) false, .mk true (.c 20000) (.len (.s 3)) false, .mk true (.v 2) (.c 0) false, .mk true (.v 1) (.v 2) false]
abbrev sg : List SA := [.mk true (.c 20000) (.len (.s 3)) false]
abbrev ux : GE := .app 47 (.g (.s 3) .nil)
abbrev axq : SE := .c 2305843009213693952
abbrev lq : List SA := [.mk true (.v 1) (.c 0) false, .mk true (.len (.s 4)) (.v 1) false, .mk true (.c 20000) (.len (.s 4)) false, .mk true (.v 2) (.c 0) false, .mk true (.v 5) (.v 2) false, .mk true axq (.v 5) false]
abbrev bcq : AL := .g (.s 4) (.i (.v 1) (.i (.v 2) (.i (.v 5) (.i (.c 1) .nil))))
abbrev axr : SE := .app 51 bcq
abbrev apv : List SA := [.mk false axr (.c 0) true]
abbrev yj : SE := .app 52 bcq
abbrev apw : List SA := [.mk false axr (.c 1) true]
abbrev apx : List SA := [.mk false axr (.c 2) true]
abbrev apy : AL := .i (.v 5) (.i (.c 0) .nil)
abbrev a2b : AL := .g (.s 4) (.i (.v 1) (.i (.v 2) apy))
abbrev a2c : SE := .app 51 a2b
abbrev apz : List SA := [.mk false a2c (.c 0) true]
abbrev ago : SE := .app 52 a2b
abbrev ap0 : List SA := [.mk false a2c (.c 2) true]
abbrev ap1 : SE := .app 47 (.g (.s 3) .nil)
abbrev a2d : List SA := [.mk false ap1 (.c 0) true]
abbrev ap2 : SE := .app 48 (.g (.s 3) .nil)
abbrev a2e : List SA := [.mk false ap1 (.c 1) true]
abbrev a2f : List SA := [.mk false ap1 (.c 2) true]
abbrev acj : SE := .bin 6 .i64 (.v 1) (.dw (.s 3) (.v 1))
abbrev ap3 : SE := .bin 0 .i64 (.v 2) (.c 1)
abbrev a2g : SE := .bin 6 .i64 (.len (.s 3)) (.bin 7 .i64 (.c (-1)) acj)
abbrev ack : SE := .dr (.s 4) (.v 1)
abbrev rp : SE := .bin 0 .u64 (.bin 2 .u64 (.v 2) (.c 10)) (.bin 0 .u64 (.bin 1 .i32 ack (.c 48)) (.c 0))
abbrev ia : SE := .bin 6 .i64 (.v 1) (.dw (.s 4) (.v 1))
abbrev a2h : AL := .g (.s 4) (.i ia (.i (.v 5) apy))
abbrev agp : SE := .app 51 a2h
abbrev gb : SE := .bin 6 .i64 (.len (.s 4)) (.bin 7 .i64 (.c (-1)) ia)
abbrev o7 : SE := .bin 6 .i64 (.len (.s 4)) apu
abbrev a2i : SE := .app 52 a2h
abbrev a2j : AL := .g (.s 4) (.i ia (.i rp (.i (.v 5) (.i (.c 1) .nil))))
abbrev ap4 : SE := .app 51 a2j
abbrev a2k : SE := .app 52 a2j
abbrev a2l : AL := .g (.s 4) (.i ia (.i rp apy))
abbrev a2m : SE := .app 51 a2l
abbrev acl : SE := .len ux
abbrev a2n : AL := .g ux (.i (.c 0) (.i (.c 0) (.i axq (.i (.c 1) .nil))))
abbrev ap5 : SE := .app 51 a2n
abbrev a2o : AL := .g ux (.i (.c 0) (.i (.c 0) (.i (.c 2305843009213693951) (.i (.c 1) .nil))))
abbrev ap6 : SE := .app 51 a2o
noncomputable section
def mL3 : SE := .bin 6 .i64 (.len (.s 3)) apu
def mL4 : SE := .bin 6 .i64 (.len (.s 4)) apu
def bmq : List AV := [.top, .top, .sym .i64 (.v 2) [], .gv (.str (.s 3) []), .ptr (K.of 256) 0] ++ tps 5
def bmn : List HO := [.mk 256 (.gob (.iter (.s 3) (.v 1) []))]
def bmo : List HO := []
def bmp : LR := (.x 0 ([.top, .top, .sym .i64 axp []] ++ tps 7))
def rcl (m : SE) : LT := .mk 113 5 bmq 257 bmn (aef ++ []) (some (mL3, m)) bmp 257 bmo
def bz0 : LT := .mk 113 5 bmq 257 bmn (aef ++ []) none bmp 257 bmo
def rcU : List AV := [.gv (.str (.s 3) [])]
def rcI : List HO := []
def rcO : List HO := []
def rcR : TR := .ret (.sym .i64 (.app 49 (.g (.s 3) (.i (.c 0) .nil))) [])
def rcF : TM := .mk 113 rcU 256 rcI (sg ++ []) none rcR 257 rcO
def aea : List AV := [.gv (.str (.s 3) []), .ptr (K.of 256) 0, .top, .top, .top] ++ tps 11
def auj : List HO := [.mk 256 (.cells 245 false 0 0 (List.replicate 43 (.bool false) ++ [.bool true, .bool false, .bool true] ++ List.replicate 210 (.bool false)))]
def auk : List HO := []
def aul : LR := (.x 0 ([.gv (.str ux [])] ++ tps 15))
def trm (m : SE) : LT := .mk 196 3 aea 257 auj (sg ++ []) (some ((.len (.s 3)), m)) aul 257 auk
def bs9 : LT := .mk 196 3 aea 257 auj (sg ++ []) none aul 257 auk
def trU : List AV := [.gv (.str (.s 3) []), .str 2 11053]
def trI : List HO := []
def trO : List HO := []
def trR : TR := .ret (.gv (.str ux []))
def trF : TM := .mk 182 trU 256 trI (sg ++ []) none trR 258 trO
def an6 : List AV := [.gv (.str (.s 3) []), .top, .top, .bool false, .bool true, .gv (.str (.s 4) []), .sym .u64 (.v 5) [], .sym .u64 (.v 2) []] ++ tps 20 ++ [.ptr (K.of 256) 0] ++ tps 28
def an5 : List HO := [.mk 256 (.gob (.iter (.s 4) (.v 1) []))]
def a9h : List HO := []
def a9i : LR := (.r ([.gv (.str (.s 3) []), .top, .int .i64 0, .bool false, .bool false, .top, .top, .top] ++ tps 20 ++ [.top] ++ tps 28))
def bl2 (m : SE) : LT := .mk 160 19 an6 257 an5 (lq ++ apv) (some (mL4, m)) a9i 257 a9h
def bi6 : LT := .mk 160 19 an6 257 an5 (lq ++ apv) none a9i 257 a9h
def a9d : List HO := []
def a9e : LR := (.x 0 ([.gv (.str (.s 3) []), .top, .top, .bool false, .bool true, .top, .top, .sym .u64 yj []] ++ tps 20 ++ [.top] ++ tps 28))
def bl0 (m : SE) : LT := .mk 160 19 an6 257 an5 (lq ++ apw) (some (mL4, m)) a9e 257 a9d
def bi4 : LT := .mk 160 19 an6 257 an5 (lq ++ apw) none a9e 257 a9d
def a9f : List HO := []
def a9g : LR := (.x 0 ([.gv (.str (.s 3) []), .top, .top, .bool false, .bool false, .top, .top, .sym .u64 yj []] ++ tps 20 ++ [.top] ++ tps 28))
def bl1 (m : SE) : LT := .mk 160 19 an6 257 an5 (lq ++ apx) (some (mL4, m)) a9g 257 a9f
def bi5 : LT := .mk 160 19 an6 257 an5 (lq ++ apx) none a9g 257 a9f
def a5b : List AV := [.gv (.str (.s 3) []), .top, .top, .bool false, .bool false, .gv (.str (.s 4) []), .sym .u64 (.v 5) [], .sym .u64 (.v 2) []] ++ tps 20 ++ [.ptr (K.of 256) 0] ++ tps 28
def a5a : List HO := [.mk 256 (.gob (.iter (.s 4) (.v 1) []))]
def a9b : List HO := []
def a9c : LR := (.r ([.gv (.str (.s 3) []), .top, .int .i64 0, .bool false, .bool false, .top, .top, .top] ++ tps 20 ++ [.top] ++ tps 28))
def bly (m : SE) : LT := .mk 160 19 a5b 257 a5a (lq ++ apz) (some (mL4, m)) a9c 257 a9b
def bi3 : LT := .mk 160 19 a5b 257 a5a (lq ++ apz) none a9c 257 a9b
def a89 : List HO := []
def a9a : LR := (.x 0 ([.gv (.str (.s 3) []), .top, .top, .bool false, .bool false, .top, .top, .sym .u64 ago []] ++ tps 20 ++ [.top] ++ tps 28))
def blx (m : SE) : LT := .mk 160 19 a5b 257 a5a (lq ++ ap0) (some (mL4, m)) a9a 257 a89
def bi2 : LT := .mk 160 19 a5b 257 a5a (lq ++ ap0) none a9a 257 a89
def nuU : List AV := [.gv (.str (.s 3) [])]
def nuI : List HO := []
def bqz : List HO := []
def bq0 : TR := .ret (.tuple [.int .i64 0, .bool false, .bool false])
def bqy : TM := .mk 160 nuU 256 nuI (sg ++ a2d) none bq0 260 bqz
def bqt : List HO := []
def bqu : TR := .ret (.tuple [.sym .i64 ap2 [], .bool true, .bool true])
def bqs : TM := .mk 160 nuU 256 nuI (sg ++ a2e) none bqu 260 bqt
def bqw : List HO := []
def bqx : TR := .ret (.tuple [.top, .bool true, .bool false])
def bqv : TM := .mk 160 nuU 256 nuI (sg ++ a2f) none bqx 260 bqw
end
theorem aie {σ : Nat → List Int} (g : GE) (e : SE) : 0 ≤ e.eval σ → e.eval σ < (SE.len g).eval σ → 1 ≤ (SE.dw g e).eval σ ∧ e.eval σ + (SE.dw g e).eval σ ≤ (SE.len g).eval σ ∧ 0 ≤ (SE.dr g e).eval σ ∧ (SE.dr g e).eval σ ≤ 1114111 := by
 intro h0 h1
 have h1 : e.eval σ < ((g.eval σ).length : Int) := h1
 obtain ⟨b1, b2, b3⟩ := mz (g.eval σ) (e.eval σ).toNat (by omega)
 show 1 ≤ ((Utf8.decode (al (g.eval σ)) (e.eval σ).toNat).2 : Int) ∧ e.eval σ + ((Utf8.decode (al (g.eval σ)) (e.eval σ).toNat).2 : Int) ≤ ((g.eval σ).length : Int) ∧ 0 ≤ ((Utf8.decode (al (g.eval σ)) (e.eval σ).toNat).1 : Int) ∧ ((Utf8.decode (al (g.eval σ)) (e.eval σ).toNat).1 : Int) ≤ 1114111
 omega
theorem an8 (d : List Int) : ∀ (n : Nat) (p s m f : Int), ((d.length : Int) - p).toNat ≤ n → 0 ≤ s → s ≤ m → (f = 0 ∨ f = 1) → ((uk d p s m f).k = 0 ∨ ((uk d p s m f).k = 1 ∧ f = 1) ∨ (uk d p s m f).k = 2) ∧ 0 ≤ (uk d p s m f).n ∧ (uk d p s m f).n ≤ m
 | 0, p, s, m, f, h, h0, h1, hf => by
   rw [gd, if_neg (by omega)]
   dsimp only
   rcases hf with rfl | rfl
   ·exact ⟨.inr (.inr (if_neg (by omega))), h0, h1⟩
   ·exact ⟨.inr (.inl ⟨if_pos rfl, rfl⟩), h0, h1⟩
 | n + 1, p, s, m, f, h, h0, h1, hf => by
   rw [gd]
   split
   ·split
    ·exact ⟨.inl rfl, Int.le_refl _, by dsimp only; omega⟩
    ·split
     ·split
      ·obtain ⟨a, b, c⟩ := an8 d n (p + dwJ d p) m m 0 (by omega) (by omega) (by omega) (.inl rfl)
       refine ⟨?_, b, c⟩
       rcases a with a | a | a
       ·exact .inl a
       ·exact absurd a.2 (by omega)
       ·exact .inr (.inr a)
      ·exact an8 d n (p + dwJ d p) _ m f (by omega) (by omega) (by omega) hf
     ·exact ⟨.inl rfl, Int.le_refl _, by dsimp only; omega⟩
   ·dsimp only
    rcases hf with rfl | rfl
    ·exact ⟨.inr (.inr (if_neg (by omega))), h0, h1⟩
    ·exact ⟨.inr (.inl ⟨if_pos rfl, rfl⟩), h0, h1⟩
theorem f51 {σ : Nat → List Int} (g : GE) (p s m f : SE) : 0 ≤ s.eval σ → s.eval σ ≤ m.eval σ → (f.eval σ = 0 ∨ f.eval σ = 1) → ((SE.app 51 (.g g (.i p (.i s (.i m (.i f .nil)))))).eval σ = 0 ∨ ((SE.app 51 (.g g (.i p (.i s (.i m (.i f .nil)))))).eval σ = 1 ∧ f.eval σ = 1) ∨ (SE.app 51 (.g g (.i p (.i s (.i m (.i f .nil)))))).eval σ = 2) ∧
  0 ≤ (SE.app 52 (.g g (.i p (.i s (.i m (.i f .nil)))))).eval σ ∧ (SE.app 52 (.g g (.i p (.i s (.i m (.i f .nil)))))).eval σ ≤ m.eval σ := fun h0 h1 hf => an8 _ _ _ _ _ _ (zY _) h0 h1 hf
theorem ng (c : Int) (l : List Int) : ew (c :: l) = if c = 43 ∨ c = 45 then ew l else c :: l := by
 unfold ew
 rw [List.dropWhile_cons]
 by_cases h : c = 43 ∨ c = 45
 ·rw [if_pos (decide_eq_true h), if_pos h]
 ·rw [if_neg (by simpa using h), if_neg h]
theorem aou : ∀ l : List Int, (ew l).length ≤ l.length
 | [] => zY _
 | c :: l => by
   rw [ng]
   split
   ·have := aou l; simp only [zO]; omega
   ·exact zY _
theorem a94 {σ : Nat → List Int} (h : SAll σ aef) : 0 ≤ (σ 1).headD 0 ∧ (σ 1).headD 0 ≤ ((σ 3).length : Int) ∧ ((σ 3).length : Int) ≤ 20000 ∧ 0 ≤ (σ 2).headD 0 ∧ (σ 2).headD 0 ≤ (σ 1).headD 0 := by
 simp only [sall_cons, sF, evs] at h
 exact ⟨h.1, h.2.1, h.2.2.1, h.2.2.2.1, h.2.2.2.2.1⟩
theorem av0 {σ : Nat → List Int} (h : SAll σ lq) : 0 ≤ (σ 1).headD 0 ∧ (σ 1).headD 0 ≤ ((σ 4).length : Int) ∧ ((σ 4).length : Int) ≤ 20000 ∧ 0 ≤ (σ 2).headD 0 ∧ (σ 2).headD 0 ≤ (σ 5).headD 0 ∧ (σ 5).headD 0 ≤ 2305843009213693952 := by
 simp only [sall_cons, sF, evs] at h
 exact ⟨h.1, h.2.1, h.2.2.1, h.2.2.2.1, h.2.2.2.2.1, h.2.2.2.2.2.1⟩
theorem y3 {σ : Nat → List Int} (h : SAll σ sg) : ((σ 3).length : Int) ≤ 20000 := by
 simp only [sall_cons, sF, evs] at h
 exact h.1
def bmm [Gv] : Prop := (SAll Gv.σ [] → b8 113 5 bmq 257 bmn bmp 257 bmo)
theorem bo9 [Gv] (hh : ∀ t ∈ [rcl (mL3)], be t) (hI : SAll Gv.σ aef) : bmm := by
 obtain ⟨hp0, hpl, hL, hn0, hnl⟩ := a94 hI
 rcases zl1 hI (.v 1) (.len (.s 3)) with ⟨hI, k1⟩ | ⟨hI, k1⟩
 ·have := zf1 (aie (σ := Gv.σ) (.s 3) (.v 1))
  have hI := zF1 hI acj (.c 0)
  have hI := zF1 hI (.len (.s 3)) acj
  have hI := zF1 hI ap3 (.c 0)
  have hI := zF1 hI acj ap3
  have hI := zT1 hI a2g (.bin 6 .i64 (.len (.s 3)) apu)
  have hI := zF1 hI a2g (.c 0)
  have u := zf4 (afs (Gv.σ 3) ((Gv.σ 1).headD 0))
  exact zt [] (.i (.bin 6 .i64 ap3 (.app 49 (.g (.s 3) (.i acj .nil)))) axp .nil) ab (zp hI hh) hI ze1
 ·have u := zf4 (afs (Gv.σ 3) ((Gv.σ 1).headD 0))
  exact zt [] (.i (.v 2) axp .nil) ab (zp hI hh) hI ze1
theorem az1 : ∀ (B : Nat) (σ : Nat → List Int), SAll σ aef → (mL3).eval σ < (B : Int) → @bmm ⟨σ⟩
 | 0, σ, hI, hb => by have := a94 hI; simp only [mL3, evs, wr] at hb; omega
 | B + 1, σ, hI, hb => by
   have ih : ∀ σ' : Nat → List Int, SAll σ' aef → 0 ≤ (mL3).eval σ' ∧ (mL3).eval σ' < (mL3).eval σ → @bmm ⟨σ'⟩ := fun σ' h h' => az1 B σ' h (by omega)
   have hh : ∀ t ∈ [rcl (mL3)], @be ⟨σ⟩ t := by
    intro t ht
    simp only [List.mem_cons, zH, or_false] at ht
    rcases ht with rfl
    ·exact fun σ' _ hA hb => (ih σ' (ap hA).1 hb) (ap hA).2
   exact @bo9 ⟨σ⟩ hh hI
theorem bmr [Gv] : be bz0 := fun σ _ hA _ => (az1 (((mL3).eval σ).toNat + 1) σ (ap hA).1 (by omega)) (ap hA).2
def rcG [Gv] : Prop := (SAll Gv.σ [] → aq 113 rcU 256 rcI rcR 257 rcO)
theorem by4 [Gv] (hI : SAll Gv.σ sg) : rcG := by
 have h20 := y3 hI
 have hI := zF1 hI (.len (.s 3)) (.c 0)
 have u := trivial
 exact zm0 [] ab (zp hI (gg bmr)) hI
theorem az0 [Gv] : bj rcF := fun σ _ hA _ => (@by4 ⟨σ⟩  (ap hA).1) (ap hA).2
noncomputable section
def tI0 : SA := .mk true (.c 20000) (.len (.s 3)) false
def trE (g : GE) : EqL := .g g ux .nil
def tCut : GE := .cut (.s 3) (.c 1) (.len (.s 3))
def bnf (c : Int) : List SA := [tI0, .mk true (.c 0) (.len (.s 3)) true, .mk false (.rd (.s 3) (.c 0)) (.c c) true]
def bng (c : Int) : List SA := [tI0, .mk true (.c 0) (.len (.s 3)) true, .mk false (.rd (.s 3) (.c 0)) (.c c) true, .mk true (.len (.s 3)) (.c 1) false, .mk true (.c 20000) (.len tCut) false, .mk true (.len tCut) (.len (.s 3)) true, .mk true (.len tCut) (.c 0) false]
def bs8 (c : Int) : Bool := lb [] 257 257 (trE (.s 3)) auk (br aea) aul (md (pn 196 3) (yw zx a9j 2000) (.mk 196 (br aea) false none) (.mk (kw (aVs (bnf c) aea) 0 kc) [] .none (bo (aHO (bnf c) auj) 257)))
end
theorem bbi : ((List.range 256).all fun c => c == 43 || c == 45 || bs8 (c : Int)) = true := by kernel_rfl
theorem bnh (c : Int) (h0 : 0 ≤ c) (h1 : c < 256) (h2 : ¬(c = 43 ∨ c = 45)) : bs8 c = true := by
 have := List.all_eq_true.1 bbi c.toNat (List.mem_range.2 (by omega))
 rw [show ((c.toNat : Nat) : Int) = c by omega] at this
 simp only [Bool.or_eq_true, beq_iff_eq] at this
 rcases this with (this | this) | this
 ·omega
 ·omega
 ·exact this
theorem t43 [Gv] (c : Int) (hc : c = 43 ∨ c = 45) (hh : ∀ t ∈ [trm (.len (.s 3))], be t) (hI : SAll Gv.σ [tI0]) (l : List Int) (hl : Gv.σ 3 = c :: l) (hrun : lb [] 257 257 (trE (.app 47 (.g tCut .nil))) auk (br aea) aul (md (pn 196 3) (yw zx (lpT [trm (.len (.s 3))]) 2000) (.mk 196 (br aea) false none) (.mk (kw (aVs (bng c) aea) 0 kc) [] .none (bo (aHO (bng c) auj) 257))) = true) : b8 196 3 aea 257 auj aul 257 auk := by
 have hL : ((Gv.σ 3).length : Int) = (l.length : Int) + 1 := by rw [hl]; rfl
 have h20 := y3 hI
 have hcut : tCut.eval Gv.σ = l := by
  show ((Gv.σ 3).take (((Gv.σ 3).length : Int)).toNat).drop 1 = l
  rw [show (((Gv.σ 3).length : Int)).toNat = (Gv.σ 3).length by omega, List.take_length, hl]; rfl
 have hcl : (SE.len tCut).eval Gv.σ = (l.length : Int) := by show ((tCut.eval Gv.σ).length : Int) = _; rw [hcut]
 have htr : ew l = ew (Gv.σ 3) := by rw [hl, ng, if_pos hc]
 refine fj (n := 2000) (A := bng c) (T := []) (E := trE (.app 47 (.g tCut .nil))) ab (adu _ hh) ?_ ⟨?_, trivial⟩ rfl rfl hrun
 ·refine sc (hI _ (List.mem_singleton.2 rfl)) (sc (bT _ _ ?_) (sc (bE _ _ ?_) (sc (bF _ _ ?_) (sc (bF _ _ ?_) (sc (bT _ _ ?_) (sc (bF _ _ ?_) SAll.nil))))))
  ·simp only [evs]; omega
  ·simp only [evs]; rw [hl]; rfl
  ·simp only [evs]; omega
  ·rw [hcl]; simp only [evs]; omega
  ·rw [hcl]; simp only [evs]; omega
  ·rw [hcl]; simp only [evs]; omega
 ·show ew (tCut.eval Gv.σ) = ew (Gv.σ 3)
  rw [hcut]; exact htr
theorem bpm [Gv] (hh : ∀ t ∈ [trm (.len (.s 3))], be t) (hI : SAll Gv.σ [tI0]) : b8 196 3 aea 257 auj aul 257 auk := by
 intro b hb ρ a cs w hg hw hc h5 hv hd
 have hB : ax (Gv.σ 3) := by
  have hv := hv
  unfold aea at hv
  simp only [zJ, VRels, VRel] at hv
  obtain ⟨v, vs, _, ⟨_, _, hB⟩, _⟩ := hv
  exact hB
 refine (?_ : b8 196 3 aea 257 auj aul 257 auk) b hb ρ a cs w hg hw hc h5 hv hd
 cases hl : Gv.σ 3 with
 | nil =>
   refine fj (n := 2000) (A := [tI0, .mk true (.c 0) (.len (.s 3)) false]) (T := []) (E := trE (.s 3)) ab ac (sc (hI _ (List.mem_singleton.2 rfl)) (sc (bF _ _ ?_) SAll.nil)) ⟨?_, trivial⟩ rfl rfl (by kernel_rfl)
   ·simp only [evs]; rw [hl]; exact Int.le_refl _
   ·show Gv.σ 3 = ew (Gv.σ 3)
    rw [hl]; rfl
 | cons c l =>
   by_cases h43 : c = 43 ∨ c = 45
   ·rcases h43 with rfl | rfl
    ·exact t43 43 (.inl rfl) hh hI l hl (by kernel_rfl)
    ·exact t43 45 (.inr rfl) hh hI l hl (by kernel_rfl)
   ·have h2 := hB c (by rw [hl]; simp)
    refine fj (n := 2000) (A := bnf c) (T := []) (E := trE (.s 3)) ab ac (sc (hI _ (List.mem_singleton.2 rfl)) (sc (bT _ _ ?_) (sc (bE _ _ ?_) SAll.nil))) ⟨?_, trivial⟩ rfl rfl (bnh c h2.1 h2.2 h43)
    ·simp only [evs]; rw [hl]; simp only [zO]; omega
    ·simp only [evs]; rw [hl]; rfl
    ·show Gv.σ 3 = ew (Gv.σ 3)
     rw [hl, ng, if_neg h43]
theorem a0c : ∀ (B : Nat) (σ : Nat → List Int), SAll σ [tI0] → (σ 3).length < B → @b8 ⟨σ⟩ 196 3 aea 257 auj aul 257 auk
 | 0, σ, hI, hb => by omega
 | B + 1, σ, hI, hb => by
   refine @bpm ⟨σ⟩ ?_ hI
   intro t ht
   rw [List.mem_singleton] at ht; subst ht
   intro σ' _ hA hb'
   have h2 : ((σ' 3).length : Int) < ((σ 3).length : Int) := hb'.2
   exact a0c B σ' (ap hA).1 (by omega)
theorem bni [Gv] : be bs9 := fun σ _ hA _ => a0c ((σ 3).length + 1) σ (ap hA).1 (by omega)
theorem afb [Gv] : bj trF := by
 intro σ _ hA _
 have hI := (ap hA).1
 by_cases h : σ 3 = []
 ·refine @ag ⟨σ⟩ _ (@ab ⟨σ⟩) _ (@ac ⟨σ⟩) 2000 _ _ _ _ [tI0, .mk false (.eqg (.s 3) (.lit 0 0)) (.c 1) true] _ _ _ [] (trE (.s 3)) (sc (hI _ (List.mem_singleton.2 rfl)) (sc (@bE ⟨σ⟩ _ _ ?_) SAll.nil)) ⟨?_, trivial⟩ rfl rfl (by kernel_rfl)
  ·simp only [evs, wr]; exact h
  ·show σ 3 = ew (σ 3)
   rw [h]; rfl
 ·refine @ag ⟨σ⟩ _ (@ab ⟨σ⟩) _ (@adu ⟨σ⟩ [bs9] (gg (@bni ⟨σ⟩))) 2000 _ _ _ _ [tI0, .mk false (.eqg (.s 3) (.lit 0 0)) (.c 1) false] _ _ _ [] .nil (sc (hI _ (List.mem_singleton.2 rfl)) (sc (@bN ⟨σ⟩ _ _ ?_) SAll.nil)) trivial rfl rfl (by kernel_rfl)
  simp only [evs, wr]; exact h
theorem bbf {s : List Int} (h : ¬ ew s = []) : 1 ≤ (s.length : Int) := by
 cases s with
 | nil => exact absurd rfl h
 | cons c l => simp only [zO]; omega
def blz [Gv] : Prop := (SAll Gv.σ apv → b8 160 19 an6 257 an5 a9i 257 a9h) ∧ (SAll Gv.σ apw → b8 160 19 an6 257 an5 a9e 257 a9d) ∧ (SAll Gv.σ apx → b8 160 19 an6 257 an5 a9g 257 a9f)
theorem bo4 [Gv] (hh : ∀ t ∈ [bl2 (mL4), bl0 (mL4), bl1 (mL4), bly (mL4), blx (mL4)], be t) (hI : SAll Gv.σ lq) : blz := by
 obtain ⟨hp0, hpl, hL, hn0, hnl, hm⟩ := av0 hI
 rcases zl1 hI (.v 1) (.len (.s 4)) with ⟨hI, k1⟩ | ⟨hI, k1⟩
 ·have := zf1 (aie (σ := Gv.σ) (.s 4) (.v 1))
  rcases zl1 hI ack (.c 48) with ⟨hI, k2⟩ | ⟨hI, k2⟩
  ·have := zf1 (f51 (σ := Gv.σ) (.s 4) (.v 1) (.v 2) (.v 5) (.c 1))
   have u := zf4 (gd (Gv.σ 4) ((Gv.σ 1).headD 0) ((Gv.σ 2).headD 0) ((Gv.σ 5).headD 0) 1)
   exact ⟨zt0 [] ab (zp hI hh) hI,
    zn1,
    zn1⟩
  ·rcases zl1 hI (.c 57) ack with ⟨hI, k3⟩ | ⟨hI, k3⟩
   ·have := zf1 (f51 (σ := Gv.σ) (.s 4) (.v 1) (.v 2) (.v 5) (.c 1))
    have u := zf4 (gd (Gv.σ 4) ((Gv.σ 1).headD 0) ((Gv.σ 2).headD 0) ((Gv.σ 5).headD 0) 1)
    exact ⟨zt0 [] ab (zp hI hh) hI,
     zn1,
     zn1⟩
   ·rcases zl1 hI (.v 5) rp with ⟨hI, k4⟩ | ⟨hI, k4⟩
    ·have hI := zF1 hI ia (.c 0)
     have hI := zF1 hI (.len (.s 4)) ia
     have hI := zF1 hI (.v 5) (.c 0)
     have := zf1 (f51 (σ := Gv.σ) (.s 4) ia (.v 5) (.v 5) (.c 0))
     rcases zq1 hI agp (.c 0) with ⟨hI, k8⟩ | ⟨hI, k8⟩
     ·have hI := zT1 hI gb o7
      have hI := zF1 hI gb (.c 0)
      have := zf1 (f51 (σ := Gv.σ) (.s 4) (.v 1) (.v 2) (.v 5) (.c 1))
      have u := zf4 (gd (Gv.σ 4) ((Gv.σ 1).headD 0) ((Gv.σ 2).headD 0) ((Gv.σ 5).headD 0) 1)
      exact ⟨zt0 [] ab (zp hI hh) hI,
       zn1,
       zn1⟩
     ·have hI := zE1 hI agp (.c 2)
      have hI := zT1 hI gb o7
      have hI := zF1 hI gb (.c 0)
      have := zf1 (f51 (σ := Gv.σ) (.s 4) (.v 1) (.v 2) (.v 5) (.c 1))
      have u := zf4 (gd (Gv.σ 4) ((Gv.σ 1).headD 0) ((Gv.σ 2).headD 0) ((Gv.σ 5).headD 0) 1)
      exact ⟨zn1,
       zn1,
       zt [] (.i a2i yj .nil) ab (zp hI hh) hI ze1⟩
    ·have hI := zF1 hI ia (.c 0)
     have hI := zF1 hI (.len (.s 4)) ia
     have hI := zF1 hI rp (.c 0)
     have := zf1 (f51 (σ := Gv.σ) (.s 4) ia rp (.v 5) (.c 1))
     rcases zq1 hI ap4 (.c 0) with ⟨hI, k8⟩ | ⟨hI, k8⟩
     ·have hI := zT1 hI gb o7
      have hI := zF1 hI gb (.c 0)
      have := zf1 (f51 (σ := Gv.σ) (.s 4) (.v 1) (.v 2) (.v 5) (.c 1))
      have u := zf4 (gd (Gv.σ 4) ((Gv.σ 1).headD 0) ((Gv.σ 2).headD 0) ((Gv.σ 5).headD 0) 1)
      exact ⟨zt0 [] ab (zp hI hh) hI,
       zn1,
       zn1⟩
     ·rcases zq1 hI ap4 (.c 1) with ⟨hI, k9⟩ | ⟨hI, k9⟩
      ·have hI := zT1 hI gb o7
       have hI := zF1 hI gb (.c 0)
       have := zf1 (f51 (σ := Gv.σ) (.s 4) (.v 1) (.v 2) (.v 5) (.c 1))
       have u := zf4 (gd (Gv.σ 4) ((Gv.σ 1).headD 0) ((Gv.σ 2).headD 0) ((Gv.σ 5).headD 0) 1)
       exact ⟨zn1,
        zt [] (.i a2k yj .nil) ab (zp hI hh) hI ze1,
        zn1⟩
      ·have hI := zE1 hI ap4 (.c 2)
       have hI := zT1 hI gb o7
       have hI := zF1 hI gb (.c 0)
       have := zf1 (f51 (σ := Gv.σ) (.s 4) (.v 1) (.v 2) (.v 5) (.c 1))
       have u := zf4 (gd (Gv.σ 4) ((Gv.σ 1).headD 0) ((Gv.σ 2).headD 0) ((Gv.σ 5).headD 0) 1)
       exact ⟨zn1,
        zn1,
        zt [] (.i a2k yj .nil) ab (zp hI hh) hI ze1⟩
 ·have := zf1 (f51 (σ := Gv.σ) (.s 4) (.v 1) (.v 2) (.v 5) (.c 1))
  have u := zf4 (gd (Gv.σ 4) ((Gv.σ 1).headD 0) ((Gv.σ 2).headD 0) ((Gv.σ 5).headD 0) 1)
  exact ⟨zn1,
   zt [] (.i (.v 2) yj .nil) ab (zp hI hh) hI ze1,
   zn1⟩
def blw [Gv] : Prop := (SAll Gv.σ apz → b8 160 19 a5b 257 a5a a9c 257 a9b) ∧ (SAll Gv.σ ap0 → b8 160 19 a5b 257 a5a a9a 257 a89)
theorem bo3 [Gv] (hh : ∀ t ∈ [bl2 (mL4), bl0 (mL4), bl1 (mL4), bly (mL4), blx (mL4)], be t) (hI : SAll Gv.σ lq) : blw := by
 obtain ⟨hp0, hpl, hL, hn0, hnl, hm⟩ := av0 hI
 rcases zl1 hI (.v 1) (.len (.s 4)) with ⟨hI, k1⟩ | ⟨hI, k1⟩
 ·have := zf1 (aie (σ := Gv.σ) (.s 4) (.v 1))
  rcases zl1 hI ack (.c 48) with ⟨hI, k2⟩ | ⟨hI, k2⟩
  ·have := zf1 (f51 (σ := Gv.σ) (.s 4) (.v 1) (.v 2) (.v 5) (.c 0))
   have u := zf4 (gd (Gv.σ 4) ((Gv.σ 1).headD 0) ((Gv.σ 2).headD 0) ((Gv.σ 5).headD 0) 0)
   exact ⟨zt0 [] ab (zp hI hh) hI,
    zn1⟩
  ·rcases zl1 hI (.c 57) ack with ⟨hI, k3⟩ | ⟨hI, k3⟩
   ·have := zf1 (f51 (σ := Gv.σ) (.s 4) (.v 1) (.v 2) (.v 5) (.c 0))
    have u := zf4 (gd (Gv.σ 4) ((Gv.σ 1).headD 0) ((Gv.σ 2).headD 0) ((Gv.σ 5).headD 0) 0)
    exact ⟨zt0 [] ab (zp hI hh) hI,
     zn1⟩
   ·rcases zl1 hI (.v 5) rp with ⟨hI, k4⟩ | ⟨hI, k4⟩
    ·have hI := zF1 hI ia (.c 0)
     have hI := zF1 hI (.len (.s 4)) ia
     have hI := zF1 hI (.v 5) (.c 0)
     have := zf1 (f51 (σ := Gv.σ) (.s 4) ia (.v 5) (.v 5) (.c 0))
     rcases zq1 hI agp (.c 0) with ⟨hI, k8⟩ | ⟨hI, k8⟩
     ·have hI := zT1 hI gb o7
      have hI := zF1 hI gb (.c 0)
      have := zf1 (f51 (σ := Gv.σ) (.s 4) (.v 1) (.v 2) (.v 5) (.c 0))
      have u := zf4 (gd (Gv.σ 4) ((Gv.σ 1).headD 0) ((Gv.σ 2).headD 0) ((Gv.σ 5).headD 0) 0)
      exact ⟨zt0 [] ab (zp hI hh) hI,
       zn1⟩
     ·have hI := zE1 hI agp (.c 2)
      have hI := zT1 hI gb o7
      have hI := zF1 hI gb (.c 0)
      have := zf1 (f51 (σ := Gv.σ) (.s 4) (.v 1) (.v 2) (.v 5) (.c 0))
      have u := zf4 (gd (Gv.σ 4) ((Gv.σ 1).headD 0) ((Gv.σ 2).headD 0) ((Gv.σ 5).headD 0) 0)
      exact ⟨zn1,
       zt [] (.i a2i ago .nil) ab (zp hI hh) hI ze1⟩
    ·have hI := zF1 hI ia (.c 0)
     have hI := zF1 hI (.len (.s 4)) ia
     have hI := zF1 hI rp (.c 0)
     have := zf1 (f51 (σ := Gv.σ) (.s 4) ia rp (.v 5) (.c 0))
     rcases zq1 hI a2m (.c 0) with ⟨hI, k8⟩ | ⟨hI, k8⟩
     ·have hI := zT1 hI gb o7
      have hI := zF1 hI gb (.c 0)
      have := zf1 (f51 (σ := Gv.σ) (.s 4) (.v 1) (.v 2) (.v 5) (.c 0))
      have u := zf4 (gd (Gv.σ 4) ((Gv.σ 1).headD 0) ((Gv.σ 2).headD 0) ((Gv.σ 5).headD 0) 0)
      exact ⟨zt0 [] ab (zp hI hh) hI,
       zn1⟩
     ·have hI := zE1 hI a2m (.c 2)
      have hI := zT1 hI gb o7
      have hI := zF1 hI gb (.c 0)
      have := zf1 (f51 (σ := Gv.σ) (.s 4) (.v 1) (.v 2) (.v 5) (.c 0))
      have u := zf4 (gd (Gv.σ 4) ((Gv.σ 1).headD 0) ((Gv.σ 2).headD 0) ((Gv.σ 5).headD 0) 0)
      exact ⟨zn1,
       zt [] (.i (.app 52 a2l) ago .nil) ab (zp hI hh) hI ze1⟩
 ·have := zf1 (f51 (σ := Gv.σ) (.s 4) (.v 1) (.v 2) (.v 5) (.c 0))
  have u := zf4 (gd (Gv.σ 4) ((Gv.σ 1).headD 0) ((Gv.σ 2).headD 0) ((Gv.σ 5).headD 0) 0)
  exact ⟨zn1,
   zt [] (.i (.v 2) ago .nil) ab (zp hI hh) hI ze1⟩
theorem ady : ∀ (B : Nat) (σ : Nat → List Int), SAll σ lq → (mL4).eval σ < (B : Int) → @blz ⟨σ⟩ ∧ @blw ⟨σ⟩
 | 0, σ, hI, hb => by have := av0 hI; simp only [mL4, evs, wr] at hb; omega
 | B + 1, σ, hI, hb => by
   have ih : ∀ σ' : Nat → List Int, SAll σ' lq → 0 ≤ (mL4).eval σ' ∧ (mL4).eval σ' < (mL4).eval σ → @blz ⟨σ'⟩ ∧ @blw ⟨σ'⟩ := fun σ' h h' => ady B σ' h (by omega)
   have hh : ∀ t ∈ [bl2 (mL4), bl0 (mL4), bl1 (mL4), bly (mL4), blx (mL4)], @be ⟨σ⟩ t := by
    intro t ht
    simp only [List.mem_cons, zH, or_false] at ht
    rcases ht with rfl | rfl | rfl | rfl | rfl
    ·exact fun σ' _ hA hb => (ih σ' (ap hA).1 hb).1.1 (ap hA).2
    ·exact fun σ' _ hA hb => (ih σ' (ap hA).1 hb).1.2.1 (ap hA).2
    ·exact fun σ' _ hA hb => (ih σ' (ap hA).1 hb).1.2.2 (ap hA).2
    ·exact fun σ' _ hA hb => (ih σ' (ap hA).1 hb).2.1 (ap hA).2
    ·exact fun σ' _ hA hb => (ih σ' (ap hA).1 hb).2.2 (ap hA).2
   exact ⟨@bo4 ⟨σ⟩ hh hI, @bo3 ⟨σ⟩ hh hI⟩
theorem bfa [Gv] : be bi6 := fun σ _ hA _ => (ady (((mL4).eval σ).toNat + 1) σ (ap hA).1 (by omega)).1.1 (ap hA).2
theorem be8 [Gv] : be bi4 := fun σ _ hA _ => (ady (((mL4).eval σ).toNat + 1) σ (ap hA).1 (by omega)).1.2.1 (ap hA).2
theorem be9 [Gv] : be bi5 := fun σ _ hA _ => (ady (((mL4).eval σ).toNat + 1) σ (ap hA).1 (by omega)).1.2.2 (ap hA).2
theorem be7 [Gv] : be bi3 := fun σ _ hA _ => (ady (((mL4).eval σ).toNat + 1) σ (ap hA).1 (by omega)).2.1 (ap hA).2
theorem be6 [Gv] : be bi2 := fun σ _ hA _ => (ady (((mL4).eval σ).toNat + 1) σ (ap hA).1 (by omega)).2.2 (ap hA).2
theorem nm5 [Gv] : ∀ t ∈ [bi6, bi4, bi5, bi3, bi2], be t := by
 intro t ht
 simp only [List.mem_cons, zH, or_false] at ht
 rcases ht with rfl | rfl | rfl | rfl | rfl
 ·exact bfa
 ·exact be8
 ·exact be9
 ·exact be7
 ·exact be6
def nuG [Gv] : Prop := (SAll Gv.σ a2d → aq 160 nuU 256 nuI bq0 260 bqz) ∧ (SAll Gv.σ a2e → aq 160 nuU 256 nuI bqu 260 bqt) ∧ (SAll Gv.σ a2f → aq 160 nuU 256 nuI bqx 260 bqw)
theorem bk5 [Gv] (hI : SAll Gv.σ sg) : nuG := by
 have h20 := y3 hI
 have htl := aou (Gv.σ 3)
 rcases zq1 hI (.eqg ux (.lit 0 0)) (.c 1) with ⟨hI, k1⟩ | ⟨hI, k1⟩ <;> (try simp (disch := omega) only [evs, wr] at k1)
 ·have u2 := zf4 (qx (Gv.σ 3))
  have u := zf6 (oq (Gv.σ 3))
  exact ⟨zm0 [] (zh hI (gg afb)) (zp hI nm5) hI,
   zn2,
   zn2⟩
 ·have := zf1 (bbf k1)
  rcases zl1 hI (.c 1) (.bin 1 .i64 (.len (.s 3)) acl) with ⟨hI, k2⟩ | ⟨hI, k2⟩
  ·have u2 := zf4 (qx (Gv.σ 3))
   have u := zf6 (oq (Gv.σ 3))
   exact ⟨zm0 [] (zh hI (gg afb)) (zp hI nm5) hI,
    zn2,
    zn2⟩
  ·have hI := zT1 hI (.c 0) (.len (.s 3))
   rcases zq1 hI (.rd (.s 3) (.c 0)) (.c 45) with ⟨hI, k4⟩ | ⟨hI, k4⟩
   ·have hI := zF1 hI acl (.c 0)
    have hI := zF1 hI (.c 20000) acl
    have := zf1 (f51 (σ := Gv.σ) ux (.c 0) (.c 0) axq (.c 1))
    rcases zq1 hI ap5 (.c 0) with ⟨hI, k7⟩ | ⟨hI, k7⟩
    ·have u2 := zf4 (qx (Gv.σ 3))
     have u := zf6 (oq (Gv.σ 3))
     exact ⟨zm0 [] (zh hI (gg afb)) (zp hI nm5) hI,
      zn2,
      zn2⟩
    ·rcases zq1 hI ap5 (.c 1) with ⟨hI, k8⟩ | ⟨hI, k8⟩
     ·have u2 := zf4 (qx (Gv.σ 3))
      have u := zf6 (oq (Gv.σ 3))
      exact ⟨zn2,
       zm [] (.i (.bin 1 .i64 (.c 0) (.bin 0 .i64 (.app 52 a2n) (.c 0))) ap2 .nil) (zh hI (gg afb)) (zp hI nm5) hI ze4,
       zn2⟩
     ·have hI := zE1 hI ap5 (.c 2)
      have u2 := zf4 (qx (Gv.σ 3))
      have u := zf6 (oq (Gv.σ 3))
      exact ⟨zn2,
       zn2,
       zm0 [] (zh hI (gg afb)) (zp hI nm5) hI⟩
   ·have hI := zF1 hI acl (.c 0)
    have hI := zF1 hI (.c 20000) acl
    have := zf1 (f51 (σ := Gv.σ) ux (.c 0) (.c 0) (.c 2305843009213693951) (.c 1))
    rcases zq1 hI ap6 (.c 0) with ⟨hI, k7⟩ | ⟨hI, k7⟩
    ·have u2 := zf4 (qx (Gv.σ 3))
     have u := zf6 (oq (Gv.σ 3))
     exact ⟨zm0 [] (zh hI (gg afb)) (zp hI nm5) hI,
      zn2,
      zn2⟩
    ·rcases zq1 hI ap6 (.c 1) with ⟨hI, k8⟩ | ⟨hI, k8⟩
     ·have u2 := zf4 (qx (Gv.σ 3))
      have u := zf6 (oq (Gv.σ 3))
      exact ⟨zn2,
       zm [] (.i (.bin 0 .i64 (.app 52 a2o) (.c 0)) ap2 .nil) (zh hI (gg afb)) (zp hI nm5) hI ze4,
       zn2⟩
     ·have hI := zE1 hI ap6 (.c 2)
      have u2 := zf4 (qx (Gv.σ 3))
      have u := zf6 (oq (Gv.σ 3))
      exact ⟨zn2,
       zn2,
       zm0 [] (zh hI (gg afb)) (zp hI nm5) hI⟩
theorem bl5 [Gv] : bj bqy := fun σ _ hA _ => (@bk5 ⟨σ⟩  (ap hA).1).1 (ap hA).2
theorem bl3 [Gv] : bj bqs := fun σ _ hA _ => (@bk5 ⟨σ⟩  (ap hA).1).2.1 (ap hA).2
theorem bl4 [Gv] : bj bqv := fun σ _ hA _ => (@bk5 ⟨σ⟩  (ap hA).1).2.2 (ap hA).2
end Go.Ev
