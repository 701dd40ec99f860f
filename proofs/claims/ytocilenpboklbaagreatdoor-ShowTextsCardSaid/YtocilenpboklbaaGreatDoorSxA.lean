import Derived.Test.YtocilenpboklbaaGreatDoorSxI
set_option maxRecDepth 100000
set_option linter.all false
namespace Go.Ev
abbrev aew : GE := .cat (.s 4) (.app 120 (.i (.c 0) (.g (.s 3) (.i (.v 1) .nil))))
abbrev aky : SE := .len aew
abbrev aex : List SA := [.mk true (.c 10000) (.len (.s 3)) false, .mk true (.v 1) (.c 0) false, .mk true (.len (.s 3)) (.v 1) false, .mk true (.bin 7 .i64 (.c 5) (.v 1)) (.len (.s 4)) false, .mk true (.len (.s 4)) (.c 1) false]
abbrev bd6 : AL := .i (.c 0) (.g (.s 3) (.i (.c 0) .nil))
abbrev akz : GE := .app 120 bd6
abbrev aey : SE := .len akz
abbrev ays : List SA := [.mk true (.c 10000) (.len (.s 3)) false, .mk true (.len (.s 3)) (.c 1) false]
abbrev arh : List SA := [.mk true (.c 10000) (.len (.s 3)) false]
abbrev bd7 : List SA := [.mk true (.len (.s 3)) (.c 1) true]
abbrev a3k : List SA := [.mk true (.len (.s 3)) (.c 1) false]
abbrev bjp : GE := .cat (.s 4) (.app 120 (.i (.c 1) (.g (.s 3) (.i (.v 1) .nil))))
abbrev bzo : SE := .len bjp
abbrev bjq : AL := .i (.c 1) (.g (.s 3) (.i (.c 0) .nil))
abbrev bjr : GE := .app 120 bjq
abbrev bzp : SE := .len bjr
abbrev mn : SE := .dr (.s 3) (.v 1)
abbrev a3l : SE := .bin 0 .i64 mn (.c 0)
abbrev ac2 : SE := .bin 6 .i64 (.len (.s 4)) (.c 1)
abbrev pd : SE := .bin 6 .i64 (.v 1) (.dw (.s 3) (.v 1))
abbrev aq7 : SE := .bin 7 .i64 (.c 5) pd
abbrev aq8 : GE := .app 40 (.i mn .nil)
abbrev a3m : SE := .len aq8
abbrev yw : SE := .bin 6 .i64 ac2 a3m
abbrev yx : SE := .bin 6 .i64 (.len (.s 3)) (.bin 7 .i64 (.c (-1)) pd)
abbrev aq9 : SE := .bin 6 .i64 (.len (.s 3)) (.bin 7 .i64 (.c (-1)) (.v 1))
abbrev a3n : AL := .g (.s 3) (.i pd .nil)
abbrev ara : GE := .app 120 (.i (.c 0) a3n)
abbrev a3o : SE := .len ara
abbrev a3p : SE := .bin 6 .i64 yw a3o
abbrev a3q : GE := .cat (.cat (.s 4) (.one (.c 92))) aq8
abbrev a3r : GE := .cat a3q ara
abbrev arb : SE := .bin 6 .i64 (.len (.s 4)) a3m
abbrev bjs : GE := .cat (.s 4) aq8
abbrev mo : SE := .dr (.s 3) (.c 0)
abbrev a3s : SE := .bin 0 .i64 mo (.c 0)
abbrev sg : SE := .dw (.s 3) (.c 0)
abbrev arc : SE := .bin 7 .i64 (.c 5) sg
abbrev ard : GE := .app 40 (.i mo .nil)
abbrev ag4 : SE := .len ard
abbrev yy : SE := .bin 6 .i64 (.c 1) ag4
abbrev a3t : AL := .g (.s 3) (.i sg .nil)
abbrev arf : GE := .app 120 (.i (.c 0) a3t)
abbrev a3u : SE := .len arf
abbrev a3v : SE := .bin 6 .i64 yy a3u
abbrev a3w : GE := .cat (.lit 1 92) ard
abbrev a3x : GE := .cat a3w arf
abbrev a3y : GE := .app 120 (.i (.c 1) a3n)
abbrev bjt : SE := .len a3y
abbrev bzq : SE := .bin 6 .i64 yw bjt
abbrev bzr : GE := .cat a3q a3y
abbrev a3z : GE := .app 120 (.i (.c 1) a3t)
abbrev bju : SE := .len a3z
abbrev bzs : SE := .bin 6 .i64 yy bju
abbrev bzt : GE := .cat a3w a3z
noncomputable section
def mS1 : SE := .bin 6 .i64 (.len (.s 3)) (.bin 7 .i64 (.c (-1)) (.v 1))
def bqb : List AV := ([.gv (.str (.s 3) []), .func (.func 103) [] [], .top, .top, .top, .ptr (K.of 256) 0, .top, .top, .gv (.str (.s 3) []), .ptr (K.of 257) 0] ++ tps 11)
def bp8 : List HO := (buO 256 258 (.s 4) (.len (.s 4)) ++ [.mk 257 (.gob (.iter (.s 3) (.v 1) []))])
def bp9 : List HO := buO 256 260 aew aky
def bqa : LR := (.x 0 (tps 5 ++ (.ptr (K.of 256) 0 :: tps 15)))
def q01 (m : SE) : LT := .mk 102 7 bqb 259 bp8 (aex ++ []) (some (mS1, m)) bqa 262 bp9
def bu2 : LT := .mk 102 7 bqb 259 bp8 (aex ++ []) none bqa 262 bp9
def bu1 : List AV := ([.gv (.str (.s 3) []), .func (.func 103) [] [], .top, .top, .top, .ptr (K.of 256) 0, .top, .top, .gv (.str (.s 3) []), .ptr (K.of 257) 0] ++ tps 11)
def buy : List HO := [.mk 256 (.cells 96 false 0 0 [.nilPtr, .nilSlice]), .mk 257 (.gob (.iter (.s 3) (.c 0) []))]
def buz : List HO := buO 256 260 (.app 120 bd6) aey
def bu0 : LR := (.x 0 (tps 5 ++ (.ptr (K.of 256) 0 :: tps 15)))
def bux : LT := .mk 102 7 bu1 258 buy (ays ++ []) none bu0 262 buz
def q0U : List AV := [.gv (.str (.s 3) []), .func (.func 103) [] []]
def q0I : List HO := []
def bu7 : List HO := []
def bu8 : TR := .ret (.str 0 0)
def bu6 : TM := .mk 102 q0U 256 q0I (arh ++ bd7) none bu8 264 bu7
def bu4 : List HO := []
def bu5 : TR := .ret (.gv (.str akz []))
def bu3 : TM := .mk 102 q0U 256 q0I (arh ++ a3k) none bu5 264 bu4
end
theorem evT : (∀ σ : Nat → List Int, (GE.lit 2 23672).eval σ = [92, 120]) ∧ (∀ σ : Nat → List Int, (GE.lit 1 92).eval σ = [92]) ∧ (∀ σ : Nat → List Int, (GE.lit 1 34).eval σ = [34]) ∧ (∀ σ : Nat → List Int, (GE.lit 2 8738).eval σ = [34, 34]) :=
 ⟨fun σ => by simp only [GE.eval]; decide +kernel, fun σ => by simp only [GE.eval]; decide +kernel, fun σ => by simp only [GE.eval]; decide +kernel, fun σ => by simp only [GE.eval]; decide +kernel⟩
theorem oa (k : Int) (s : List Int) (p : Int) : l9 k s p =
 if p < (s.length : Int) then (if 0 < dwJ s p then (if acf k (drJ s p) = 1 then 92 :: (c9 (drJ s p) ++ l9 k s (p + dwJ s p)) else c9 (drJ s p) ++ l9 k s (p + dwJ s p)) else []) else [] := by
 conv => lhs; unfold l9
 split
 ·split
  ·split <;> rfl
  ·rfl
 ·rfl
theorem uq (s : List Int) (p : Int) : l9 0 s p =
 if p < (s.length : Int) then (if 0 < dwJ s p then (if drJ s p = 92 ∨ drJ s p = 34 then 92 :: (c9 (drJ s p) ++ l9 0 s (p + dwJ s p)) else c9 (drJ s p) ++ l9 0 s (p + dwJ s p)) else []) else [] := by
 rw [oa]
 have : (acf 0 (drJ s p) = 1) = (drJ s p = 92 ∨ drJ s p = 34) := by
  unfold acf
  by_cases h1 : drJ s p = 92
  ·simp [h1]
  ·by_cases h2 : drJ s p = 34
   ·simp [h2]
   ·simp [h1, h2]
 simp only [this]
theorem a0c (k : Int) (s : List Int) : ∀ (n : Nat) (p : Int), ((s.length : Int) - p).toNat ≤ n → 0 ≤ p → p ≤ (s.length : Int) → ((l9 k s p).length : Int) ≤ 5 * ((s.length : Int) - p)
 | 0, p, h, h0, h1 => by rw [oa, if_neg (by omega)]; show (0 : Int) ≤ _; omega
 | n + 1, p, h, h0, h1 => by
   rw [oa]
   split
   ·rename_i hp
    split
    ·rename_i hw
     have hb := afn (σ := fun i => if i = 0 then s else [p]) (.s 0) (.v 1) h0 hp
     have hb2 : p + dwJ s p ≤ (s.length : Int) := hb.2.1
     have ih := a0c k s n (p + dwJ s p) (by omega) (by omega) hb2
     have he := (f40 (σ := fun _ => [drJ s p]) (.v 0)).2
     have he : ((c9 (drJ s p)).length : Int) ≤ 4 := he
     split
     ·rw [zO, zP]; omega
     ·rw [zP]; omega
    ·show (0 : Int) ≤ _; omega
   ·show (0 : Int) ≤ _; omega
section
variable {σ : Nat → List Int}
theorem bmc (h : SAll σ aex) : ((σ 3).length : Int) ≤ 10000 ∧ 0 ≤ (σ 1).headD 0 ∧ (σ 1).headD 0 ≤ ((σ 3).length : Int) ∧ ((σ 4).length : Int) ≤ 5 * (σ 1).headD 0 ∧ 1 ≤ ((σ 4).length : Int) := by
 simp only [sall_cons, sF, evs] at h
 exact ⟨h.1, h.2.1, h.2.2.1, h.2.2.2.1, h.2.2.2.2.1⟩
theorem bu9 (h : SAll σ ays) : ((σ 3).length : Int) ≤ 10000 ∧ 1 ≤ ((σ 3).length : Int) := by
 simp only [sall_cons, sF, evs] at h
 exact ⟨h.1, h.2.1⟩
theorem bt0 (h : SAll σ arh) : ((σ 3).length : Int) ≤ 10000 := by
 simp only [sall_cons, sF, evs] at h
 exact h.1
theorem evq : (∀ (σ : Nat → List Int) (k : SE) (s : GE) (p : SE), (GE.app 120 (.i k (.g s (.i p .nil)))).eval σ = l9 (k.eval σ) (s.eval σ) (p.eval σ)) ∧ (∀ (σ : Nat → List Int) (n : SE), (GE.app 121 (.i n .nil)).eval σ = ej (n.eval σ)) :=
 ⟨fun _ _ _ _ => rfl, fun _ _ => rfl⟩
theorem bg3 (k : Int) (s : List Int) (h : 0 < (s.length : Int)) : 1 ≤ ((l9 k s 0).length : Int) := by
 have hb := afn (σ := fun i => if i = 0 then s else [0]) (.s 0) (.v 1) (Int.le_refl 0) h
 have hw : 1 ≤ dwJ s 0 := hb.1
 have he := (f40 (σ := fun _ => [drJ s 0]) (.v 0)).1
 have he : 1 ≤ ((c9 (drJ s 0)).length : Int) := he
 rw [oa, if_pos h, if_pos (by omega)]
 split
 ·rw [zO, zP]; omega
 ·rw [zP]; omega
theorem a8w (k : SE) (g : GE) : (SE.len (.app 120 (.i k (.g g (.i (.c 0) .nil))))).eval σ ≤ 5 * (SE.len g).eval σ ∧ (0 < (SE.len g).eval σ → 1 ≤ (SE.len (.app 120 (.i k (.g g (.i (.c 0) .nil))))).eval σ) := by
 have := a0c (k.eval σ) (g.eval σ) _ 0 (zY _) (Int.le_refl _) (Int.natCast_nonneg _)
 refine ⟨?_, fun h => bg3 (k.eval σ) (g.eval σ) h⟩
 show ((l9 (k.eval σ) (g.eval σ) 0).length : Int) ≤ 5 * ((g.eval σ).length : Int)
 omega
end
theorem hqq [Gv] : ∀ t ∈ [bie, bid, be9, be8], ax t := by
 intro t ht
 simp only [List.mem_cons, zH, or_false] at ht
 rcases ht with rfl | rfl | rfl | rfl
 ·exact ax3
 ·exact ax2
 ·exact awf
 ·exact awe
def bp7 [Gv] : Prop := (SAll Gv.σ [] → bw 102 7 bqb 259 bp8 bqa 262 bp9)
theorem bsv [Gv] (hh : ∀ t ∈ [q01 mS1], au t) (hI : SAll Gv.σ aex) : bp7 := by
 obtain ⟨l1, l2, l3, l4, l5⟩ := bmc hI
 rcases bwt hI (.v 1) (.len (.s 3)) with ⟨hI, k1⟩ | ⟨hI, k1⟩
 ·have t1 := afs (afn (σ := Gv.σ) (.s 3) (.v 1))
  rcases bj4 hI a3l (.c 92) with ⟨hI, k2⟩ | ⟨hI, k2⟩
  ·have hI := ip hI (.c 400000) ac2
   have hI := ip hI mn (.c 0)
   have hI := ak8 hI mn (.c 1114112)
   have hI := ip hI (.c 50000) ac2
   have hI := ip hI pd (.c 0)
   have hI := ip hI (.len (.s 3)) pd
   have t2 := afs (f40 (σ := Gv.σ) mn)
   have hI := ip hI aq7 yw
   have hI := ip hI yw (.c 1)
   have hI := ak8 hI yx aq9
   have hI := ip hI yx (.c 0)
   have u := zf4 (uq (Gv.σ 3) ((Gv.σ 1).headD 0))
   exact zt [(263, 260)] (.i a3p aky (.g a3r aew .nil)) (zh hI hqq) (zp hI hh) hI ay2
  ·rcases bj4 hI a3l (.c 34) with ⟨hI, k3⟩ | ⟨hI, k3⟩
   ·have hI := ip hI (.c 400000) ac2
    have hI := ip hI mn (.c 0)
    have hI := ak8 hI mn (.c 1114112)
    have hI := ip hI (.c 50000) ac2
    have hI := ip hI pd (.c 0)
    have hI := ip hI (.len (.s 3)) pd
    have t3 := afs (f40 (σ := Gv.σ) mn)
    have hI := ip hI aq7 yw
    have hI := ip hI yw (.c 1)
    have hI := ak8 hI yx aq9
    have hI := ip hI yx (.c 0)
    have u := zf4 (uq (Gv.σ 3) ((Gv.σ 1).headD 0))
    exact zt [(263, 260)] (.i a3p aky (.g a3r aew .nil)) (zh hI hqq) (zp hI hh) hI ay2
   ·have hI := ip hI mn (.c 0)
    have hI := ak8 hI mn (.c 1114112)
    have hI := ip hI (.c 50000) (.len (.s 4))
    have hI := ip hI pd (.c 0)
    have hI := ip hI (.len (.s 3)) pd
    have t4 := afs (f40 (σ := Gv.σ) mn)
    have hI := ip hI aq7 arb
    have hI := ip hI arb (.c 1)
    have hI := ak8 hI yx aq9
    have hI := ip hI yx (.c 0)
    have u := zf4 (uq (Gv.σ 3) ((Gv.σ 1).headD 0))
    exact zt [(261, 260)] (.i (.bin 6 .i64 arb a3o) aky (.g (.cat bjs ara) aew .nil)) (zh hI hqq) (zp hI hh) hI ay2
 ·have u := zf4 (uq (Gv.σ 3) ((Gv.σ 1).headD 0))
  exact zt [(258, 260)] (.i (.len (.s 4)) aky (.g (.s 4) aew .nil)) (zh hI hqq) (zp hI hh) hI ay2
theorem a0b : ∀ (B : Nat) (σ : Nat → List Int), SAll σ aex → (mS1).eval σ < (B : Int) → @bp7 ⟨σ⟩
 | 0, σ, hI, hb => by obtain ⟨l1, l2, l3, l4, l5⟩ := bmc hI; simp only [mS1, evs, wr] at hb; omega
 | B + 1, σ, hI, hb => by
   have ih : ∀ σ' : Nat → List Int, SAll σ' aex → 0 ≤ (mS1).eval σ' ∧ (mS1).eval σ' < (mS1).eval σ → @bp7 ⟨σ'⟩ := fun σ' h h' => a0b B σ' h (by omega)
   have hh : ∀ t ∈ [q01 (mS1)], @au ⟨σ⟩ t := by
    intro t ht
    simp only [List.mem_cons, zH, or_false] at ht
    rcases ht with rfl
    ·exact fun σ' _ hA hb => (ih σ' (ai hA).1 hb) (ai hA).2
   exact @bsv ⟨σ⟩ hh hI
theorem bqc [Gv] : au bu2 := fun σ _ hA _ => (a0b (((mS1).eval σ).toNat + 1) σ (ai hA).1 (by omega)) (ai hA).2
theorem bo8 [Gv] : ∀ t ∈ [bu2], au t := ed bqc
def b04 [Gv] : Prop := (SAll Gv.σ [] → bw 102 7 bu1 258 buy bu0 262 buz)
theorem bsu [Gv] (hI : SAll Gv.σ ays) : b04 := by
 obtain ⟨l1, l2⟩ := bu9 hI
 have hI := ak8 hI (.c 0) (.len (.s 3))
 have t1 := afs (afn (σ := Gv.σ) (.s 3) (.c 0))
 rcases bj4 hI a3s (.c 92) with ⟨hI, k2⟩ | ⟨hI, k2⟩
 ·have hI := ip hI mo (.c 0)
  have hI := ak8 hI mo (.c 1114112)
  have hI := ip hI sg (.c 0)
  have hI := ip hI (.len (.s 3)) sg
  have t2 := afs (f40 (σ := Gv.σ) mo)
  have hI := ip hI arc yy
  have hI := ip hI yy (.c 1)
  have t3 := afs (a8w (σ := Gv.σ) (.c 0) (.s 3))
  have u := zf4 (uq (Gv.σ 3) 0)
  exact zt [(262, 260)] (.i a3v aey (.g a3x akz .nil)) (zh hI hqq) (zp hI bo8) hI ay2
 ·rcases bj4 hI a3s (.c 34) with ⟨hI, k3⟩ | ⟨hI, k3⟩
  ·have hI := ip hI mo (.c 0)
   have hI := ak8 hI mo (.c 1114112)
   have hI := ip hI sg (.c 0)
   have hI := ip hI (.len (.s 3)) sg
   have t4 := afs (f40 (σ := Gv.σ) mo)
   have hI := ip hI arc yy
   have hI := ip hI yy (.c 1)
   have t5 := afs (a8w (σ := Gv.σ) (.c 0) (.s 3))
   have u := zf4 (uq (Gv.σ 3) 0)
   exact zt [(262, 260)] (.i a3v aey (.g a3x akz .nil)) (zh hI hqq) (zp hI bo8) hI ay2
  ·have hI := ip hI mo (.c 0)
   have hI := ak8 hI mo (.c 1114112)
   have hI := ip hI sg (.c 0)
   have hI := ip hI (.len (.s 3)) sg
   have t6 := afs (f40 (σ := Gv.σ) mo)
   have hI := ip hI arc ag4
   have hI := ip hI ag4 (.c 1)
   have t7 := afs (a8w (σ := Gv.σ) (.c 0) (.s 3))
   have u := zf4 (uq (Gv.σ 3) 0)
   exact zt [(260, 260)] (.i (.bin 6 .i64 ag4 a3u) aey (.g (.cat ard arf) akz .nil)) (zh hI hqq) (zp hI bo8) hI ay2
theorem bp6 [Gv] : au bux := fun σ _ hA _ => (@bsu ⟨σ⟩  (ai hA).1) (ai hA).2
theorem btl [Gv] : ∀ t ∈ [bux], au t := ed bp6
def q0G [Gv] : Prop := (SAll Gv.σ bd7 → bz 102 q0U 256 q0I bu8 264 bu7) ∧ (SAll Gv.σ a3k → bz 102 q0U 256 q0I bu5 264 bu4)
theorem bst [Gv] (hI : SAll Gv.σ arh) : q0G := by
 have l1 := bt0 hI
 rcases bwt hI (.len (.s 3)) (.c 1) with ⟨hI, k1⟩ | ⟨hI, k1⟩
 ·have hI := ip hI (.c 0) (.len (.s 3))
  have u := l1
  exact ⟨zm0 [] aa (zp hI btl) hI,
   bwv⟩
 ·have t1 := afs (a8w (σ := Gv.σ) (.c 0) (.s 3))
  have hI := ak8 hI (.c 0) aey
  have hI := ip hI (.c 400000) aey
  have u := l1
  exact ⟨bwv,
   zm0 [] aa (zp hI btl) hI⟩
theorem bqe [Gv] : ax bu6 := fun σ _ hA _ => (@bst ⟨σ⟩  (ai hA).1).1 (ai hA).2
theorem bqd [Gv] : ax bu3 := fun σ _ hA _ => (@bst ⟨σ⟩  (ai hA).1).2 (ai hA).2
end Go.Ev
