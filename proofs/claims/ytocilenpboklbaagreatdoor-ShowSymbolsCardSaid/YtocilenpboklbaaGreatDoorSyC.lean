import Derived.Test.YtocilenpboklbaaGreatDoorSyF
import Derived.Test.YtocilenpboklbaaGreatDoorRcP
set_option maxRecDepth 100000
set_option linter.all false
namespace Go.Ev
abbrev ax6 : SE := .app 50 (.g (.s 3) .nil)
abbrev ax7 : List SA := [.mk true (.c 1000) (.len (.s 3)) false, .mk false ax6 (.c 1) true, .mk false (.mhas (.s 4) (.s 3)) (.c 1) false]
abbrev ax8 : List SA := [.mk true (.c 1000) (.len (.s 3)) false, .mk true (.len (.s 3)) (.c 1) false]
abbrev aqt : SE := .app 53 (.g (.s 4) .nil)
abbrev ax9 : List SA := [.mk true (.c 1000) (.len (.s 3)) false, .mk true (.len (.s 3)) (.c 1) false, .mk false aqt (.c 63) true]
abbrev xd : AL := .i (.c 0) .nil
abbrev sh : GE := .app 6 (.g (.s 3) xd)
abbrev aya : SE := .len sh
abbrev aqu : SE := .rd sh (.c 0)
abbrev aqo : AL := .g sh (.i (.c 0) (.g .nil xd))
abbrev aqp : GE := .app 44 aqo
abbrev a29 : SE := .len aqp
abbrev aqq : SE := .rd sh (.c 1)
abbrev agw : AL := .g sh (.i (.c 1) (.g .nil xd))
abbrev aqr : GE := .app 44 agw
abbrev a3a : SE := .len aqr
abbrev agx : SE := .app 45 agw
abbrev a3b : SE := .app 49 (.g (.s 3) xd)
abbrev agy : GE := .app 125 (.g (.s 3) .nil)
abbrev aqs : SE := .len agy
noncomputable section
def g0E : GE := .app 109 .nil
def hs0 (k : Nat) : HO := .mk k (.cells 132 false 0 0 [.int .i64 3, .int .i64 0, .int .i64 0, .nilSlice, .nilSlice])
def tb0 (k kj km : Nat) (g : GE) : List HO := [.mk k (.cells 111 false 0 0 [.slice (K.of kj) 0 62 62 (some 6), .map (K.of km)]), .mk kj (.cells 171 true 0 0 (List.replicate 372 .top)), .mk km (.gob (.gmap g))]
def g1E (g : GE) : GE := .cat (.one (.c 62)) (.cat (.one (.len (.s 3))) (.cat (.s 3) g))
def tb1 (k kj km : Nat) (g : GE) : List HO := [.mk k (.cells 111 false 0 0 [.slice (K.of kj) 0 63 63 (some 6), .map (K.of km)]), .mk kj (.cells 171 true 0 0 (List.replicate 372 .top ++ [.int .i64 0, .int .i64 0, .bool false, .gv (.str (.s 3) []), .bool true, .nilMap])), .mk km (.gob (.gmap g))]
def bqf : List AV := [.ptr (K.of 256) 0, .gv (.str (.s 3) [])]
def bqc : List HO := (tb0 256 257 258 (.s 4))
def bqd : List HO := tb1 256 260 258 (g1E (.s 4))
def bqe : TR := .ret (.tuple [.int .i64 62, .int .i64 0])
def bqb : TM := .mk 21 bqf 259 bqc (ax7 ++ []) none bqe 262 bqd
def bd8 : List AV := [.int .i64 3]
def bd6 : List HO := []
def bpr : List HO := ([hs0 256] ++ tb0 257 258 259 g0E)
def bd7 : TR := .ret (.tuple [.ptr (K.of 256) 0, .ptr (K.of 257) 0])
def bpq : TM := .mk 10 bd8 256 bd6 ([] ++ []) none bd7 260 bpr
def bsr : List AV := [.ptr (K.of 256) 0, .ptr (K.of 257) 0, .agg [.int .i64 1, .int .i64 62], .bool true]
def bso : List HO := (hs0 256 :: tb1 257 258 259 (.s 4))
def bsp : List HO := (hs0 256 :: tb1 257 258 259 (.s 4))
def bsq : TR := .ret (.tuple [.gv (.str (.app 126 (.g (.s 3) .nil)) []), .int .i64 0])
def bsn : TM := .mk 16 bsr 260 bso (ax8 ++ []) none bsq 290 bsp
def bsx : List AV := [.ptr (K.of 256) 0, .ptr (K.of 257) 0, .agg [.int .i64 1, .int .i64 62], .bool false]
def bsu : List HO := (hs0 256 :: tb1 257 258 259 (.s 4))
def bsv : List HO := (hs0 256 :: awo 257 258 259 (.s 4))
def bsw : TR := .ret (.tuple [.gv (.str (.s 3) []), .int .i64 0])
def bst : TM := .mk 16 bsx 260 bsu (ax9 ++ []) none bsw 290 bsv
end
section
variable {σ : Nat → List Int}
theorem bqg (h : SAll σ ax7) : ((σ 3).length : Int) ≤ 1000 ∧ ar (σ 3) = 1 ∧ ¬ yu (σ 4) (σ 3) = 1 := by
 simp only [sall_cons, sT, sF, sE, sN, evs] at h
 exact ⟨h.1, h.2.1, h.2.2.1⟩
theorem bsm (h : SAll σ ax8) : ((σ 3).length : Int) ≤ 1000 ∧ 1 ≤ ((σ 3).length : Int) := by
 simp only [sall_cons, sT, sF, evs] at h
 exact ⟨h.1, h.2.1⟩
theorem bsk (h : SAll σ ax9) : (((σ 3).length : Int) ≤ 1000 ∧ 1 ≤ ((σ 3).length : Int)) ∧ yr (σ 4) = 63 := by
 simp only [sall_cons, sT, sF, sE, evs, evx] at h
 exact ⟨⟨h.1, h.2.1⟩, h.2.2.1⟩
theorem br5 (h : SAll σ [.mk true (.c 3900) (.len (.s 3)) false, .mk true (.c 0) aqt true, .mk false ax6 (.c 1) true, .mk true aya (.c 1) false, .mk false (.app 41 (.i aqu .nil)) (.c 1) false, .mk false aqu (.c 63) false, .mk false aqu (.c 35) false, .mk false (.app 43 (.g sh (.i (.c 0) xd))) (.c 0) true, .mk false (.app 44 aqo) (.c 0) true, .mk false (.app 123 (.g aqp (.i (.app 46 aqo) .nil))) (.c 1) true, .mk true (.c 1000) a29 false, .mk true a29 (.c 1) false, .mk false (.app 54 (.g (.s 4) (.g aqp .nil))) (.c 0) true]) : (((σ 3).length : Int) ≤ 3900 ∧ 0 < yr (σ 4)) ∧ ar (σ 3) = 1 ∧ 1 ≤ ((ae (σ 3) 0).length : Int) ∧ ¬ jo ((ae (σ 3) 0).getD 0 0) = 1 ∧ ¬ (ae (σ 3) 0).getD 0 0 = 63 ∧ ¬ (ae (σ 3) 0).getD 0 0 = 35 ∧
  ao (ae (σ 3) 0) 0 0 = 0 ∧ (cu (ae (σ 3) 0) 0 [] 0).f = 0 ∧ aac (cu (ae (σ 3) 0) 0 [] 0).b (cu (ae (σ 3) 0) 0 [] 0).q = 1 ∧ ((cu (ae (σ 3) 0) 0 [] 0).b.length : Int) ≤ 1000 ∧ 1 ≤ ((cu (ae (σ 3) 0) 0 [] 0).b.length : Int) ∧ (fe (σ 4) (cu (ae (σ 3) 0) 0 [] 0).b).f = 0 := by
 simp only [sall_cons, sT, sF, sE, sN, evs, evx, evy, Int.toNat_zero] at h
 exact ⟨⟨h.1, h.2.1⟩, h.2.2.1, h.2.2.2.1, h.2.2.2.2.1, h.2.2.2.2.2.1, h.2.2.2.2.2.2.1, h.2.2.2.2.2.2.2.1, h.2.2.2.2.2.2.2.2.1, h.2.2.2.2.2.2.2.2.2.1, h.2.2.2.2.2.2.2.2.2.2.1, h.2.2.2.2.2.2.2.2.2.2.2.1, h.2.2.2.2.2.2.2.2.2.2.2.2.1⟩
theorem bru (h : SAll σ [.mk true (.c 3900) (.len (.s 3)) false, .mk true (.c 0) aqt true, .mk false aqu (.c 40) true, .mk false ax6 (.c 1) true, .mk true aya (.c 2) false, .mk false (.app 41 (.i aqq .nil)) (.c 1) false, .mk false aqq (.c 63) false, .mk false aqq (.c 35) false, .mk false (.app 43 (.g sh (.i (.c 1) xd))) (.c 1) true, .mk false (.app 44 agw) (.c 0) true, .mk false (.app 123 (.g aqr (.i (.app 46 agw) .nil))) (.c 1) true, .mk true (.c 1000) a3a false, .mk true a3a (.c 1) false, .mk false (.app 54 (.g (.s 4) (.g aqr .nil))) (.c 0) true, .mk true agx aya true, .mk false (.app 43 (.g sh (.i agx xd))) agx true, .mk false (.rd sh agx) (.c 41) true]) : (((σ 3).length : Int) ≤ 3900 ∧ 0 < yr (σ 4)) ∧ (ae (σ 3) 0).getD 0 0 = 40 ∧ ar (σ 3) = 1 ∧ 2 ≤ ((ae (σ 3) 0).length : Int) ∧ ¬ jo ((ae (σ 3) 0).getD 1 0) = 1 ∧ ¬ (ae (σ 3) 0).getD 1 0 = 63 ∧ ¬ (ae (σ 3) 0).getD 1 0 = 35 ∧
  ao (ae (σ 3) 0) 1 0 = 1 ∧ (cu (ae (σ 3) 0) 1 [] 0).f = 0 ∧ aac (cu (ae (σ 3) 0) 1 [] 0).b (cu (ae (σ 3) 0) 1 [] 0).q = 1 ∧ ((cu (ae (σ 3) 0) 1 [] 0).b.length : Int) ≤ 1000 ∧ 1 ≤ ((cu (ae (σ 3) 0) 1 [] 0).b.length : Int) ∧ (fe (σ 4) (cu (ae (σ 3) 0) 1 [] 0).b).f = 0 ∧
  (cu (ae (σ 3) 0) 1 [] 0).p < ((ae (σ 3) 0).length : Int) ∧ ao (ae (σ 3) 0) (cu (ae (σ 3) 0) 1 [] 0).p 0 = (cu (ae (σ 3) 0) 1 [] 0).p ∧ (ae (σ 3) 0).getD ((cu (ae (σ 3) 0) 1 [] 0).p).toNat 0 = 41 := by
 simp only [sall_cons, sT, sF, sE, sN, evs, evx, evy, Int.toNat_zero, Int.toNat_one] at h
 exact ⟨⟨h.1, h.2.1⟩, h.2.2.1, h.2.2.2.1, h.2.2.2.2.1, h.2.2.2.2.2.1, h.2.2.2.2.2.2.1, h.2.2.2.2.2.2.2.1, h.2.2.2.2.2.2.2.2.1, h.2.2.2.2.2.2.2.2.2.1, h.2.2.2.2.2.2.2.2.2.2.1, h.2.2.2.2.2.2.2.2.2.2.2.1, h.2.2.2.2.2.2.2.2.2.2.2.2.1, h.2.2.2.2.2.2.2.2.2.2.2.2.2.1, h.2.2.2.2.2.2.2.2.2.2.2.2.2.2.1, h.2.2.2.2.2.2.2.2.2.2.2.2.2.2.2.1, h.2.2.2.2.2.2.2.2.2.2.2.2.2.2.2.2.1⟩
theorem boq (h : ((σ 3).length : Int) ≤ 3900) : (SE.app 42 (.g sh .nil)).eval σ = 1 := of_decide_eq_true (s42.2 (a5q (s := σ 3) (by omega)))
end
theorem aly (s : List Int) : ((bp s).length : Int) ≤ 5 * (s.length : Int) + 1 ∧ (1 ≤ (s.length : Int) → 1 ≤ ((bp s).length : Int)) := by
 have h := aoe 1 s _ 0 (zY _) (Int.le_refl _) (Int.natCast_nonneg _)
 have h2 := azz 1 s
 rw [wk]
 split
 ·rw [zO]; omega
 ·omega
theorem by1 {σ : Nat → List Int} (g : GE) : (SE.len (.app 125 (.g g .nil))).eval σ ≤ 5 * (SE.len g).eval σ + 1 ∧ (1 ≤ (SE.len g).eval σ → 1 ≤ (SE.len (.app 125 (.g g .nil))).eval σ) := aly _
theorem bj5 {s : List Int} (h : 1 ≤ (s.length : Int)) : syA s = bp s := if_neg (fun e => by rw [e] at h; exact absurd h (by decide))
theorem az6 {b : List Int} {q : Int} (h : aac b q = 1) : q = 1 ∨ (abu b = 0 ∧ ¬ a4u b = 1) := by
 unfold aac at h
 split at h
 ·rename_i hc
  rcases hc with h | ⟨h1, h2⟩
  ·exact .inl h
  ·exact .inr ⟨h1, fun e => h2 (bq4 e)⟩
 ·exact absurd h (by decide)
theorem amx {c : Int} (h : ¬ jo c = 1) : ¬ c = 40 ∧ ¬ c = 41 ∧ ¬ c = 91 ∧ ¬ c = 93 ∧ ¬ c = 34 ∧ ¬ c = 39 ∧ ¬ c = 96 ∧ ¬ c = 44 ∧ ¬ c = 59 ∧ jo c = 0 := by
 unfold jo at *
 split at h
 ·exact absurd rfl h
 ·rename_i hc
  rw [if_neg hc]
  refine ⟨?_, ?_, ?_, ?_, ?_, ?_, ?_, ?_, ?_, rfl⟩ <;> (intro e; exact hc (by simp [e]))
theorem bj4 {R : List Int} {i : Int} (h1 : i < (R.length : Int)) (h : jo (R.getD i.toNat 0) = 0) : aon R i = 0 := by
 unfold aon
 rw [if_pos h1]; exact h
theorem bk2 {R : List Int} (h2 : 2 ≤ (R.length : Int)) (hs : aac (cu R 1 [] 0).b (cu R 1 [] 0).q = 1) : R.getD 1 0 = 46 → ¬ jo (R.getD 2 0) = 1 := by
 intro e hd
 have t : cu R 1 [] 0 = ⟨0, 2, [46], 0⟩ := by
  rw [cu, dif_pos (by omega), show (1 : Int).toNat = 1 from rfl, e, if_neg (by decide), if_neg (by decide)]
  by_cases hl : (1 : Int) + 1 < (R.length : Int)
  ·rw [cu, dif_pos hl, show ((1 : Int) + 1).toNat = 2 from rfl, if_pos hd]; rfl
  ·rw [cu, dif_neg hl]; rfl
 rw [t] at hs
 unfold aac at hs
 rw [if_neg (by rintro (h | ⟨_, h⟩); exact absurd h (by decide); exact h rfl)] at hs
 exact absurd hs (by decide)
theorem a95 {s : List Int} (hv : ar s = 1) (i : Nat) : 0 ≤ (ae s 0).getD i 0 ∧ (ae s 0).getD i 0 < 1114112 := by
 by_cases h : i < (ae s 0).length
 ·have := aj0 hv i h; exact ⟨this.1, this.2.1⟩
 ·have e : (ae s 0).getD i 0 = 0 := by rw [List.getD_eq_getElem?_getD, List.getElem?_eq_none (by omega)]; rfl
  rw [e]; decide
theorem bm0 {R : List Int} (h1 : 1 ≤ (R.length : Int)) (h2 : R.getD 0 0 = 40) : ao R 0 0 = 0 := by
 have e : R.getD (0 : Int).toNat 0 = 40 := h2
 rw [ao, dif_pos (by omega), if_neg (by decide), e, if_neg (by decide), if_neg (by decide)]
def by6 [Gv] : Prop := (SAll Gv.σ [] → aq 10 bd8 256 bd6 bd7 260 bpr)
theorem bov [Gv] (hI : SAll Gv.σ []) : by6 := by
 exact fun hC => ag (n := 2000) (T := [(256, 256), (257, 259), (258, 257), (383, 258)]) (E := (.g (.cat (.one (.c 61)) (.cat (.one (.c 27)) (.cat (.lit 27 40921301388373393901266083601415623805023030494395681591402262382) (.cat (.one (.c 60)) (.cat (.one (.c 16)) (.cat (.lit 16 130873919237818497454574540560026987641) (.cat (.one (.c 59)) (.cat (.one (.c 10)) (.cat (.lit 10 554645564019283999223666) (.cat (.one (.c 58)) (.cat (.one (.c 14)) (.cat (.lit 14 2138404743268917599816109472970864) (.cat (.one (.c 57)) (.cat (.one (.c 13)) (.cat (.lit 13 9142614481120370773387966702948) (.cat (.one (.c 56)) (.cat (.one (.c 13)) (.cat (.lit 13 8036208872164450487963119674738) (.cat (.one (.c 55)) (.cat (.one (.c 19)) (.cat (.lit 19 2194306559561233339480094508905273046698714482) (.cat (.one (.c 54)) (.cat (.one (.c 14)) (.cat (.lit 14 2360798837088724829763814128774265) (.cat (.one (.c 53)) (.cat (.one (.c 11)) (.cat (.lit 11 132251892078482770005159020) (.cat (.one (.c 52)) (.cat (.one (.c 22)) (.cat (.lit 22 37964533983826296352995798791071340672472487022915175) (.cat (.one (.c 51)) (.cat (.one (.c 13)) (.cat (.lit 13 7876222302167207231190018388852) (.cat (.one (.c 50)) (.cat (.one (.c 11)) (.cat (.lit 11 122622816042548377873378405) (.cat (.one (.c 49)) (.cat (.one (.c 19)) (.cat (.lit 19 2351200880115526969479425374119979311791628664) (.cat (.one (.c 48)) (.cat (.one (.c 16)) (.cat (.lit 16 140142493254871783820688370579714699118) (.cat (.one (.c 47)) (.cat (.one (.c 8)) (.cat (.lit 8 7957628971446985576) (.cat (.one (.c 46)) (.cat (.one (.c 16)) (.cat (.lit 16 153388003480587613335266858083767381620) (.cat (.one (.c 45)) (.cat (.one (.c 14)) (.cat (.lit 14 2260727785469235662364888815267698) (.cat (.one (.c 44)) (.cat (.one (.c 11)) (.cat (.lit 11 117806099577798128716377970) (.cat (.one (.c 43)) (.cat (.one (.c 17)) (.cat (.lit 17 33159458725503807014831810376311545685861) (.cat (.one (.c 42)) (.cat (.one (.c 25)) (.cat (.lit 25 749781051372049293057386538801311032636779409818639984915571) (.cat (.one (.c 41)) (.cat (.one (.c 19)) (.cat (.lit 19 2663757397314901095382322954879158356550184564) (.cat (.one (.c 40)) (.cat (.one (.c 13)) (.cat (.lit 13 9383403423058555373549009858414) (.cat (.one (.c 39)) (.cat (.one (.c 13)) (.cat (.lit 13 9383403423059702669977579580517) (.cat (.one (.c 38)) (.cat (.one (.c 4)) (.cat (.lit 4 1903520116) (.cat (.one (.c 37)) (.cat (.one (.c 5)) (.cat (.lit 5 435711799154) (.cat (.one (.c 36)) (.cat (.one (.c 6)) (.cat (.lit 6 126896544047468) (.cat (.one (.c 35)) (.cat (.one (.c 5)) (.cat (.lit 5 499968536439) (.cat (.one (.c 34)) (.cat (.one (.c 4)) (.cat (.lit 4 1702257004) (.cat (.one (.c 33)) (.cat (.one (.c 4)) (.cat (.lit 4 1835102307) (.cat (.one (.c 32)) (.cat (.one (.c 6)) (.cat (.lit 6 120265264816498) (.cat (.one (.c 31)) (.cat (.one (.c 5)) (.cat (.lit 5 418498243705) (.cat (.one (.c 30)) (.cat (.one (.c 7)) (.cat (.lit 7 28839564598668396) (.cat (.one (.c 29)) (.cat (.one (.c 11)) (.cat (.lit 11 127458818504976499584104037) (.cat (.one (.c 28)) (.cat (.one (.c 8)) (.cat (.lit 8 7234300996411945583) (.cat (.one (.c 27)) (.cat (.one (.c 5)) (.cat (.lit 5 431197943150) (.cat (.one (.c 26)) (.cat (.one (.c 8)) (.cat (.lit 8 7234300953697874804) (.cat (.one (.c 25)) (.cat (.one (.c 6)) (.cat (.lit 6 110386673508722) (.cat (.one (.c 24)) (.cat (.one (.c 14)) (.cat (.lit 14 2016787041542256923290239124992869) (.cat (.one (.c 23)) (.cat (.one (.c 14)) (.cat (.lit 14 2381793977678502578102143874851700) (.cat (.one (.c 22)) (.cat (.one (.c 5)) (.cat (.lit 5 426836779880) (.cat (.one (.c 21)) (.cat (.one (.c 4)) (.cat (.lit 4 1818588202) (.cat (.one (.c 20)) (.cat (.one (.c 3)) (.cat (.lit 3 7103860) (.cat (.one (.c 19)) (.cat (.one (.c 4)) (.cat (.lit 4 1936028785) (.cat (.one (.c 18)) (.cat (.one (.c 5)) (.cat (.lit 5 482956240689) (.cat (.one (.c 17)) (.cat (.one (.c 5)) (.cat (.lit 5 482956240750) (.cat (.one (.c 16)) (.cat (.one (.c 5)) (.cat (.lit 5 512852847717) (.cat (.one (.c 15)) (.cat (.one (.c 2)) (.cat (.lit 2 28530) (.cat (.one (.c 14)) (.cat (.one (.c 3)) (.cat (.lit 3 6385252) (.cat (.one (.c 13)) (.cat (.one (.c 4)) (.cat (.lit 4 1668247140) (.cat (.one (.c 12)) (.cat (.one (.c 2)) (.cat (.lit 2 26982) (.cat (.one (.c 11)) (.cat (.one (.c 9)) (.cat (.lit 9 709006320932754448748) (.cat (.one (.c 10)) (.cat (.one (.c 5)) (.cat (.lit 5 165128008564) (.cat (.one (.c 9)) (.cat (.one (.c 5)) (.cat (.lit 5 469785342575) (.cat (.one (.c 8)) (.cat (.one (.c 7)) (.cat (.lit 7 27985248628601445) (.cat (.one (.c 7)) (.cat (.one (.c 6)) (.cat (.lit 6 119165702792289) (.cat (.one (.c 6)) (.cat (.one (.c 2)) (.cat (.lit 2 11328) (.cat (.one (.c 5)) (.cat (.one (.c 1)) (.cat (.lit 1 44) (.cat (.one (.c 4)) (.cat (.one (.c 1)) (.cat (.lit 1 96) (.cat (.one (.c 3)) (.cat (.one (.c 8)) (.cat (.lit 8 7382928537577680750) (.cat (.one (.c 2)) (.cat (.one (.c 5)) (.cat (.lit 5 487301543013) (.cat (.one (.c 1)) (.cat (.one (.c 1)) (.cat (.lit 1 116) (.cat (.one (.c 0)) (.cat (.one (.c 3)) (.lit 3 7235948)))))))))))))))))))))))))))))))))))))))))))))))))))))))))))))))))))))))))))))))))))))))))))))))))))))))))))))))))))))))))))))))))))))))))))))))))))))))))))))))))))))))))))))))))))))))))) (.app 109 .nil) .nil)) ab ac hI (by exact ⟨by kernel_rfl, trivial⟩) rfl rfl (by kernel_rfl)
theorem bk8 [Gv] : bj bpq := fun σ _ hA _ => (@bov ⟨σ⟩  (ap hA).1) (ap hA).2
theorem bza [Gv] : ∀ t ∈ [bge, bgd, rcF], bj t := by
 intro t ht
 simp only [List.mem_cons, zH, or_false] at ht
 rcases ht with rfl | rfl | rfl
 ·exact axc
 ·exact axb
 ·exact az0
def bzd [Gv] : Prop := (SAll Gv.σ [] → aq 21 bqf 259 bqc bqe 262 bqd)
theorem boy [Gv] (hI : SAll Gv.σ ax7) : bzd := by
 obtain ⟨l1, l2, l3⟩ := bqg hI
 have hI := ark hI (.c 20000) (.len (.s 3))
 have t1 := bdc (f49 (σ := Gv.σ) (.s 3) (.c 0))
 have hI := ark hI (.c 1000) a3b
 have u := l1
 exact zm0 [(261, 260)] (zh hI bza) ac hI
theorem bll [Gv] : bj bqb := fun σ _ hA _ => (@boy ⟨σ⟩  (ap hA).1) (ap hA).2
theorem bp4 [Gv] : ∀ t ∈ [br9, rcF], bj t := by
 intro t ht
 simp only [List.mem_cons, zH, or_false] at ht
 rcases ht with rfl | rfl
 ·exact bmv
 ·exact az0
def b0b [Gv] : Prop := (SAll Gv.σ [] → aq 16 bsr 260 bso bsq 290 bsp)
theorem bpg [Gv] (hI : SAll Gv.σ ax8) : b0b := by
 obtain ⟨l1, l2⟩ := bsm hI
 have hI := btt hI (.eqg (.s 3) (.lit 0 0)) (.c 1)
 have hI := ark hI (.c 10000) (.len (.s 3))
 have t1 := bdc (by1 (σ := Gv.σ) (.s 3))
 have hI := ark hI (.c 20000) aqs
 have t2 := bdc (f49 (σ := Gv.σ) agy (.c 0))
 have hI := ark hI (.c 65536) (.bin 0 .i64 (.c 0) (.app 49 (.g agy xd)))
 have hI := btv hI (.c 0) aqs
 have hI := ark hI (.c 400000) aqs
 have u := bj5 l2
 exact zm [] (.g agy (.app 126 (.g (.s 3) .nil)) .nil) (zh hI bp4) ac hI btx
theorem bm2 [Gv] : bj bsn := fun σ _ hA _ => (@bpg ⟨σ⟩  (ap hA).1) (ap hA).2
def b0c [Gv] : Prop := (SAll Gv.σ [] → aq 16 bsx 260 bsu bsw 290 bsv)
theorem bph [Gv] (hI : SAll Gv.σ ax9) : b0c := by
 obtain ⟨⟨l1, l2⟩, l3⟩ := bsk hI
 have hI := btt hI (.eqg (.s 3) (.lit 0 0)) (.c 1)
 have hI := ark hI (.c 20000) (.len (.s 3))
 have t1 := bdc (f49 (σ := Gv.σ) (.s 3) (.c 0))
 have hI := ark hI (.c 65536) (.bin 0 .i64 (.c 0) a3b)
 have hI := btv hI (.c 0) (.len (.s 3))
 have hI := ark hI (.c 400000) (.len (.s 3))
 have t2 := bdc (f53 (σ := Gv.σ) (.s 4))
 have u := l3
 exact zm [] (.i (.c 63) aqt .nil) (zh hI bp4) ac hI btx
theorem bm3 [Gv] : bj bst := fun σ _ hA _ => (@bph ⟨σ⟩  (ap hA).1) (ap hA).2
end Go.Ev
