import Derived.Test.YtkfdioikigponaaGreatDoorRaY
set_option maxRecDepth 100000
set_option linter.all false
namespace Go.Ev
abbrev a58 : AL := .g (.s 5) (.g (.s 4) .nil)
abbrev xo : AL := .g (.s 0) (.i (.v 1) (.g (.s 10) a58))
abbrev a5g : SE := .app 110 xo
abbrev ab1 : List SA := [.mk false (.app 42 (.g (.s 0) .nil)) (.c 1) true, .mk true (.v 1) (.c 0) false, .mk true (.len (.s 0)) (.v 1) false, .mk true (.v 6) (.c 1) false, .mk true (.v 1) (.v 6) false, .mk false (.len (.s 10)) (.bin 7 .i64 (.c 2) (.v 6)) true]
abbrev ard : SE := .app 106 xo
abbrev a78 : List SA := [.mk false ard (.c 0) true]
abbrev a6s : SE := .app 107 xo
abbrev a44 : List SA := [.mk false ard (.c 0) false]
abbrev bpb : AL := .g .nil a58
abbrev sw : AL := .g (.s 0) (.i (.v 1) bpb)
abbrev a8d : SE := .app 110 sw
abbrev aio : SE := .app 106 sw
abbrev a93 : List SA := [.mk false aio (.c 0) true, .mk true (.v 1) (.len (.s 0)) true]
abbrev bbc : List SA := [.mk true (.v 1) (.len (.s 0)) false]
abbrev awz : SE := .app 107 sw
abbrev a9s : List SA := [.mk false aio (.c 0) false]
abbrev ag0 : SE := .app 50 (.g (.s 3) .nil)
abbrev bbd : List SA := [.mk false ag0 (.c 1) false]
abbrev zu : GE := .app 6 (.g (.s 3) (.i (.c 0) .nil))
abbrev up : SE := .app 43 (.g zu (.i (.c 0) (.i (.c 0) .nil)))
abbrev aam : SE := .len zu
abbrev bez : List SA := [.mk false ag0 (.c 1) true, .mk true up aam false]
abbrev aay : AL := .g zu (.i up bpb)
abbrev ann : SE := .app 106 aay
abbrev a9u : List SA := [.mk false ag0 (.c 1) true, .mk true up aam true, .mk false ann (.c 0) true]
abbrev bcv : List SA := [.mk false ag0 (.c 1) true, .mk true up aam true, .mk false ann (.c 0) false]
abbrev zn : AL := .g (.s 0) (.i (.v 1) (.i (.c 0) a58))
abbrev ane : SE := .app 60 zn
abbrev als : SE := .bin 6 .i64 (.v 6) (.c 1)
abbrev zv : SE := .app 64 zn
abbrev ui : SE := .app 43 (.g (.s 0) (.i zv (.i (.c 0) .nil)))
abbrev ba5 : GE := .cat (.one (.app 62 zn)) (.one (.app 63 zn))
abbrev bb5 : AL := .g (.app 60 zn) (.g (.app 61 zn) .nil)
abbrev adx : AL := .g (.s 0) (.i ui (.g (.cat (.s 10) ba5) bb5))
abbrev bbk : SE := .app 106 adx
abbrev anf : SE := .bin 6 .i64 (.len (.s 0)) (.bin 7 .i64 (.c (-1)) ui)
abbrev bdb : SE := .bin 6 .i64 (.len (.s 0)) (.bin 7 .i64 (.c (-1)) (.v 1))
abbrev aws : GE := .app 108 adx
abbrev ahl : GE := .app 108 xo
abbrev beh : GE := .app 107 xo
abbrev a91 : SE := .app 53 (.g ahl .nil)
abbrev bdx : GE := .app 106 xo
abbrev bds : SE := .app 61 zn
abbrev adl : AL := .g (.s 0) (.i ui (.g ba5 bb5))
abbrev bcx : SE := .app 106 adl
abbrev avl : GE := .app 108 adl
abbrev a0o : GE := .app 108 sw
noncomputable section
def lbO (k : Nat) (v : AV) : HO := .mk k (.cells 54 false 0 0 [v])
def fbO (k : Nat) : HO := .mk k (.cells 34 false 0 0 [.int .i64 0, .int .i64 0])
def alR : List HO := [rdO 262 256 257 263 (.v 1) (.c 0), rwO 263]
def bha : List AV := (tps 6 ++ [.ptr (K.of 260) 0, .ptr (K.of 261) 0, .ptr (K.of 262) 0] ++ tps 34)
def bfj : List AD := [.call (.func 46) [.ptr (K.of 261) 0, .ptr (K.of 260) 0] []]
def bhh : List HO := (alR ++ hgO (.s 5) 258 (.s 4) ++ [lbO 260 (.gv (.sl (K.of 264) 2 (.v 6) [])), fbO 261, wds 264 (.v 6) (.s 10)])
def bmo : List HO := (hgO (.app 107 xo) 267 (.app 108 xo) ++ [lbO 260 (.gv (.sl (K.of 265) 2 a5g [])), fbO 261, wds 265 (.app 110 xo) (.app 106 xo)])
def bjf : LR := (.x 0 (tps 6 ++ [.ptr (K.of 260) 0, .ptr (K.of 261) 0] ++ tps 35))
def b65 (m : SE) : LTD := .mk 25 13 bha bfj 265 bhh (ab1 ++ a78) (some (mLn, m)) bjf 268 bmo
def by1 : LTD := .mk 25 13 bha bfj 265 bhh (ab1 ++ a78) none bjf 268 bmo
def bmu : List HO := [lbO 260 .top, fbO 261]
def bkl : LR := (.p [.mk (.iface 34 (.agg [.sym .i64 ard [], .sym .i64 a6s []])) false] (tps 6 ++ [.ptr (K.of 260) 0, .ptr (K.of 261) 0] ++ tps 35))
def b4t (m : SE) : LTD := .mk 25 13 bha bfj 265 bhh (ab1 ++ a44) (some (mLn, m)) bkl 268 bmu
def buo : LTD := .mk 25 13 bha bfj 265 bhh (ab1 ++ a44) none bkl 268 bmu
def bfu : List AV := (tps 6 ++ [.ptr (K.of 260) 0, .ptr (K.of 261) 0, .ptr (K.of 262) 0] ++ tps 34)
def bhb : List AD := [.call (.func 46) [.ptr (K.of 261) 0, .ptr (K.of 260) 0] []]
def bgf : List HO := (alR ++ hgO (.s 5) 258 (.s 4) ++ [lbO 260 .nilSlice, fbO 261])
def byn : List HO := (hgO (.app 107 sw) 267 (.app 108 sw) ++ [lbO 260 (.gv (.sl (K.of 265) 2 a8d [])), fbO 261, wds 265 (.app 110 sw) (.app 106 sw)])
def byg : LR := (.x 0 (tps 6 ++ [.ptr (K.of 260) 0, .ptr (K.of 261) 0] ++ tps 35))
def bxb : LTD := .mk 25 13 bfu bhb 264 bgf (pI ++ a93) none byg 268 byn
def bul : List HO := (hgO (.s 5) 258 (.s 4) ++ [lbO 260 .nilSlice, fbO 261])
def bzm : LR := (.x 0 (tps 6 ++ [.ptr (K.of 260) 0, .ptr (K.of 261) 0] ++ tps 35))
def bv4 : LTD := .mk 25 13 bfu bhb 264 bgf (pI ++ bbc) none bzm 268 bul
def byw : List HO := [lbO 260 .top, fbO 261]
def bwb : LR := (.p [.mk (.iface 34 (.agg [.sym .i64 aio [], .sym .i64 awz []])) false] (tps 6 ++ [.ptr (K.of 260) 0, .ptr (K.of 261) 0] ++ tps 35))
def bzn : LTD := .mk 25 13 bfu bhb 264 bgf (pI ++ a9s) none bwb 268 byw
def a19 : List AV := [.ptr (K.of 256) 0, .ptr (K.of 257) 0, .gv (.str (.s 3) [])]
def a1e : List HO := hgO (.s 5) 258 (.s 4)
def bzh : List HO := hgO (.s 5) 258 (.s 4)
def bzp : TR := .ret (.tuple [.nilSlice, .agg [.int .i64 5, .int .i64 0]])
def by0 : TM := .mk 25 a19 260 a1e (A39 ++ bbd) none bzp 268 bzh
def by4 : List HO := hgO (.s 5) 258 (.s 4)
def bt6 : TR := .ret (.tuple [.nilSlice, .agg [.int .i64 0, .int .i64 0]])
def bun : TM := .mk 25 a19 260 a1e (A39 ++ bez) none bt6 268 by4
def bza : List HO := (hgO (.app 107 aay) 261 (.app 108 aay) ++ [wds 260 (.app 110 aay) (.app 106 aay)])
def bzg : TR := .ret (.tuple [.gv (.sl (K.of 260) 2 (.app 110 aay) []), .agg [.int .i64 0, .int .i64 0]])
def bze : TM := .mk 25 a19 260 a1e (A39 ++ a9u) none bzg 268 bza
def bv1 : List HO := []
def bvo : TR := .ret (.tuple [.nilSlice, .agg [.sym .i64 ann [], .sym .i64 (.app 107 aay) []]])
def by7 : TM := .mk 25 a19 260 a1e (A39 ++ bcv) none bvo 268 bv1
end
section
variable {σ : Nat → List Int}
theorem bnc (h : SAll σ ab1) : (gd (σ 0) ∧ 0 ≤ (σ 1).headD 0 ∧ (σ 1).headD 0 ≤ ((σ 0).length : Int) ∧ (σ 0).length ≤ 4000) ∧ 1 ≤ (σ 6).headD 0 ∧ (σ 6).headD 0 ≤ (σ 1).headD 0 ∧ ((σ 10).length : Int) = 2 * (σ 6).headD 0 := by
 simp only [sall_cons, s42, sF, evs] at h
 have h6 := sE.1 h.2.2.2.2.2.1
 simp only [evs] at h6
 exact ⟨⟨h.1, h.2.1, h.2.2.1, h.1.1⟩, h.2.2.2.1, h.2.2.2.2.1, h6⟩
theorem caq (R l h G : GE) (p : SE) : ¬ (SE.app 106 (.g R (.i p (.g l (.g h (.g G .nil)))))).eval σ = 0 → p.eval σ < (SE.len R).eval σ := by
 intro hf
 by_cases hp : p.eval σ < ((R.eval σ).length : Int)
 ·exact hp
 ·exact absurd (show (fj (R.eval σ) (p.eval σ) (l.eval σ) (h.eval σ) (G.eval σ)).f = 0 by rw [uw hp]) hf
end
theorem hal [Gv] : ∀ t ∈ [acp, bjs, bl5], ap t := by
 intro t ht
 simp only [List.mem_cons, List.not_mem_nil, or_false] at ht
 rcases ht with rfl | rfl | rfl
 ·exact apl
 ·exact bel
 ·exact bct
def b2t [Gv] : Prop := (SAll Gv.σ a78 → aba 25 13 bha bfj 265 bhh bjf 268 bmo) ∧ (SAll Gv.σ a44 → aba 25 13 bha bfj 265 bhh bkl 268 bmu)
theorem b6z [Gv] (hh : ∀ t ∈ [b65 mLn, b4t mLn], oh t) (hI : SAll Gv.σ ab1) : b2t := by
 obtain ⟨⟨hR, hp0, hpl, hL⟩, h61, h62, h63⟩ := bnc hI
 rcases b3y hI (.v 1) (.len (.s 0)) with ⟨hI, k1⟩ | ⟨hI, k1⟩
 ·have t1 := as4 (f60 hR (.v 1) (.c 0) (.s 5) (.s 4))
  rcases bpi hI ane (.c 0) with ⟨hI, k2⟩ | ⟨hI, k2⟩
  ·have hI := ahv hI (.c 60000) als
   have hI := ahv hI zv (.c 0)
   have hI := ahv hI (.len (.s 0)) zv
   have t2 := as4 (fSK (σ := Gv.σ) (.s 0) zv)
   have hI := ahv hI ui (.c 0)
   have hI := ahv hI (.len (.s 0)) ui
   have hI := ahv hI als (.c 1)
   have hI := ahv hI ui als
   have hI := b99 hI (.bin 6 .i64 (.len (.s 10)) (.c 2)) (.bin 7 .i64 (.c 2) als)
   rcases bpi hI bbk (.c 0) with ⟨hI, k11⟩ | ⟨hI, k11⟩
   ·have hI := b6c hI anf bdb
    have hI := ahv hI anf (.c 0)
    have t3 := as4 (f53 (σ := Gv.σ) aws)
    have t4 := as4 (f53 (σ := Gv.σ) ahl)
    have u := a4m (qh (Gv.σ 0) ((Gv.σ 1).headD 0) (Gv.σ 10) (Gv.σ 5) (Gv.σ 4))
    exact ⟨zd [(268, 265), (270, 267)] (.i (.app 110 adx) a5g (.g (.app 107 adx) beh (.i (.app 53 (.g aws .nil)) a91 (.g aws ahl (.g (.app 106 adx) bdx .nil))))) (zh hI hal) (np hI _ hh) hI a6p,
     alh⟩
   ·have hI := b6c hI anf bdb
    have hI := ahv hI anf (.c 0)
    have u := a4m (qh (Gv.σ 0) ((Gv.σ 1).headD 0) (Gv.σ 10) (Gv.σ 5) (Gv.σ 4))
    exact ⟨alh,
     zd [] (.i bbk ard (.i (.app 107 adx) a6s .nil)) (zh hI hal) (np hI _ hh) hI a6p⟩
  ·have u := a4m (qh (Gv.σ 0) ((Gv.σ 1).headD 0) (Gv.σ 10) (Gv.σ 5) (Gv.σ 4))
   exact ⟨alh,
    zd [] (.i ane ard (.i bds a6s .nil)) (zh hI hal) (np hI _ hh) hI a6p⟩
 ·have t5 := as4 (f53 (σ := Gv.σ) (.s 4))
  have t6 := as4 (f53 (σ := Gv.σ) ahl)
  have u := a4m (qh (Gv.σ 0) ((Gv.σ 1).headD 0) (Gv.σ 10) (Gv.σ 5) (Gv.σ 4))
  exact ⟨zd [(258, 267), (264, 265)] (.i (.v 6) a5g (.g (.s 5) beh (.i (.app 53 (.g (.s 4) .nil)) a91 (.g (.s 4) ahl (.g (.s 10) bdx .nil))))) (zh hI hal) (np hI _ hh) hI a6p,
   alh⟩
theorem a0a : ∀ (B : Nat) (σ : Nat → List Int), SAll σ ab1 → (mLn).eval σ < (B : Int) → @b2t ⟨σ⟩
 | 0, σ, hI, hb => by obtain ⟨⟨h1, h2, h3, h4⟩, _⟩ := bnc hI; simp only [mLn, evs, wr] at hb; omega
 | B + 1, σ, hI, hb => by
   have ih : ∀ σ' : Nat → List Int, SAll σ' ab1 → 0 ≤ (mLn).eval σ' ∧ (mLn).eval σ' < (mLn).eval σ → @b2t ⟨σ'⟩ := fun σ' h h' => a0a B σ' h (by omega)
   have hh : ∀ t ∈ [b65 (mLn), b4t (mLn)], @oh ⟨σ⟩ t := by
    intro t ht
    simp only [List.mem_cons, List.not_mem_nil, or_false] at ht
    rcases ht with rfl | rfl
    ·exact fun σ' _ hA hb => (ih σ' (aj hA).1 hb).1 (aj hA).2
    ·exact fun σ' _ hA hb => (ih σ' (aj hA).1 hb).2 (aj hA).2
   exact @b6z ⟨σ⟩ hh hI
theorem bti [Gv] : oh by1 := fun σ _ hA _ => (a0a (((mLn).eval σ).toNat + 1) σ (aj hA).1 (by omega)).1 (aj hA).2
theorem bs6 [Gv] : oh buo := fun σ _ hA _ => (a0a (((mLn).eval σ).toNat + 1) σ (aj hA).1 (by omega)).2 (aj hA).2
theorem bsb [Gv] : ∀ t ∈ [by1, buo], oh t := by
 intro t ht
 simp only [List.mem_cons, List.not_mem_nil, or_false] at ht
 rcases ht with rfl | rfl
 ·exact bti
 ·exact bs6
def cag [Gv] : Prop := (SAll Gv.σ a93 → aba 25 13 bfu bhb 264 bgf byg 268 byn) ∧ (SAll Gv.σ bbc → aba 25 13 bfu bhb 264 bgf bzm 268 bul) ∧ (SAll Gv.σ a9s → aba 25 13 bfu bhb 264 bgf bwb 268 byw)
theorem bnq [Gv] (hI : SAll Gv.σ pI) : cag := by
 obtain ⟨hR, hp0, hpl, hL⟩ := qj hI
 rcases b3y hI (.v 1) (.len (.s 0)) with ⟨hI, k1⟩ | ⟨hI, k1⟩
 ·have t1 := as4 (f60 hR (.v 1) (.c 0) (.s 5) (.s 4))
  rcases bpi hI ane (.c 0) with ⟨hI, k2⟩ | ⟨hI, k2⟩
  ·have hI := ahv hI zv (.c 0)
   have hI := ahv hI (.len (.s 0)) zv
   have t2 := as4 (fSK (σ := Gv.σ) (.s 0) zv)
   have hI := ahv hI ui (.c 0)
   have hI := ahv hI (.len (.s 0)) ui
   have hI := ahv hI ui (.c 1)
   rcases bpi hI bcx (.c 0) with ⟨hI, k8⟩ | ⟨hI, k8⟩
   ·have t3 := as4 (f53 (σ := Gv.σ) avl)
    have t4 := as4 (f53 (σ := Gv.σ) a0o)
    have u := a4m (qh (Gv.σ 0) ((Gv.σ 1).headD 0) [] (Gv.σ 5) (Gv.σ 4))
    exact ⟨zd [(267, 265), (269, 267)] (.i (.app 110 adl) a8d (.g (.app 107 adl) (.app 107 sw) (.i (.app 53 (.g avl .nil)) (.app 53 (.g a0o .nil)) (.g avl a0o (.g (.app 106 adl) (.app 106 sw) .nil))))) (zh hI hal) (np hI _ bsb) hI a6p,
     alh,
     alh⟩
   ·have u := a4m (qh (Gv.σ 0) ((Gv.σ 1).headD 0) [] (Gv.σ 5) (Gv.σ 4))
    exact ⟨alh,
     alh,
     zd [] (.i bcx aio (.i (.app 107 adl) awz .nil)) (zh hI hal) (np hI _ bsb) hI a6p⟩
  ·have u := a4m (qh (Gv.σ 0) ((Gv.σ 1).headD 0) [] (Gv.σ 5) (Gv.σ 4))
   exact ⟨alh,
    alh,
    zd [] (.i ane aio (.i bds awz .nil)) (zh hI hal) (np hI _ bsb) hI a6p⟩
 ·have u := a4m (qh (Gv.σ 0) ((Gv.σ 1).headD 0) [] (Gv.σ 5) (Gv.σ 4))
  exact ⟨alh,
   zd0 [] (zh hI hal) (np hI _ bsb) hI,
   alh⟩
theorem bp7 [Gv] : oh bxb := fun σ _ hA _ => (@bnq ⟨σ⟩  (aj hA).1).1 (aj hA).2
theorem bss [Gv] : oh bv4 := fun σ _ hA _ => (@bnq ⟨σ⟩  (aj hA).1).2.1 (aj hA).2
theorem bpt [Gv] : oh bzn := fun σ _ hA _ => (@bnq ⟨σ⟩  (aj hA).1).2.2 (aj hA).2
theorem bln [Gv] : ∀ t ∈ [bxb, bv4, bzn], oh t := by
 intro t ht
 simp only [List.mem_cons, List.not_mem_nil, or_false] at ht
 rcases ht with rfl | rfl | rfl
 ·exact bp7
 ·exact bss
 ·exact bpt
theorem nb [Gv] : ∀ t ∈ [bkr, bk2, bmc, acp], ap t := by
 intro t ht
 simp only [List.mem_cons, List.not_mem_nil, or_false] at ht
 rcases ht with rfl | rfl | rfl | rfl
 ·exact ba1
 ·exact ba0
 ·exact bba
 ·exact apl
def b94 [Gv] : Prop := (SAll Gv.σ bbd → bh 25 a19 260 a1e bzp 268 bzh) ∧ (SAll Gv.σ bez → bh 25 a19 260 a1e bt6 268 by4) ∧ (SAll Gv.σ a9u → bh 25 a19 260 a1e bzg 268 bza) ∧ (SAll Gv.σ bcv → bh 25 a19 260 a1e bvo 268 bv1)
theorem bdf [Gv] (hI : SAll Gv.σ A39) : b94 := by
 obtain ⟨hL, hc⟩ := a8c hI
 have hdl := bv (Gv.σ 3)
 rcases ay3 hI ag0 (.c 1) with ⟨hI, k1⟩ | ⟨hI, k1⟩
 ·rcases a75 hI (.len (.s 3)) (.c 1) with ⟨hI, k2⟩ | ⟨hI, k2⟩
  ·have t1 := xx (fSK (σ := Gv.σ) zu (.c 0))
   have u := bv (Gv.σ 3)
   exact ⟨ml,
    zm0 [] (zh hI nb) (np hI _ bln) hI,
    ml,
    ml⟩
  ·have t2 := xx (b7p (σ := Gv.σ) (by omega))
   have hI := ac0 hI (.app 42 (.g zu .nil)) (.c 1)
   have hI := abq hI aam (.c 0)
   have t3 := xx (fSK (σ := Gv.σ) zu (.c 0))
   have hI := abq hI up (.c 0)
   have hI := abq hI aam up
   have t4 := xx (caq (σ := Gv.σ) zu .nil (.s 5) (.s 4) up)
   rcases ay3 hI ann (.c 0) with ⟨hI, k7⟩ | ⟨hI, k7⟩
   ·rcases a75 hI up aam with ⟨hI, k8⟩ | ⟨hI, k8⟩
    ·have u := bv (Gv.σ 3)
     exact ⟨ml,
      ml,
      zm0 [(265, 260), (267, 261)] (zh hI nb) (np hI _ bln) hI,
      ml⟩
    ·have u := bv (Gv.σ 3)
     exact ⟨ml,
      zm0 [] (zh hI nb) (np hI _ bln) hI,
      ml,
      ml⟩
   ·have hI := as2 hI up aam
    have u := bv (Gv.σ 3)
    exact ⟨ml,
     ml,
     ml,
     zm0 [] (zh hI nb) (np hI _ bln) hI⟩
 ·have u := bv (Gv.σ 3)
  exact ⟨zm0 [] (zh hI nb) (np hI _ bln) hI,
   ml,
   ml,
   ml⟩
theorem bqe [Gv] : ap by0 := fun σ _ hA _ => (@bdf ⟨σ⟩  (aj hA).1).1 (aj hA).2
theorem bri [Gv] : ap bun := fun σ _ hA _ => (@bdf ⟨σ⟩  (aj hA).1).2.1 (aj hA).2
theorem bqm [Gv] : ap bze := fun σ _ hA _ => (@bdf ⟨σ⟩  (aj hA).1).2.2.1 (aj hA).2
theorem bqf [Gv] : ap by7 := fun σ _ hA _ => (@bdf ⟨σ⟩  (aj hA).1).2.2.2 (aj hA).2
end Go.Ev
