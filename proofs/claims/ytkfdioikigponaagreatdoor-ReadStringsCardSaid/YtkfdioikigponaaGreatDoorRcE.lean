import Derived.Test.YtkfdioikigponaaGreatDoorRcD
import Derived.Test.YtkfdioikigponaaGreatDoorRbH
set_option maxRecDepth 100000
set_option linter.all false
namespace Go.Ev
abbrev bou : GE := .cat (.one (.c 0)) (.one (.c 0))
abbrev bc0 : List SA := [.mk false (.v 13) (.len (.s 10)) true, .mk true (.v 13) (.c 1) false, .mk false (.v 15) (.len (.s 16)) true, .mk true (.v 15) (.c 1) false, .mk true (.v 12) (.c 0) false]
abbrev aw9 : List SA := [.mk false (.v 13) (.len (.s 10)) true, .mk true (.v 13) (.c 1) false, .mk true (.v 12) (.c 0) false]
abbrev awy : List SA := [.mk false (.v 15) (.len (.s 16)) true, .mk true (.v 15) (.c 1) false]
abbrev bbk : SE := .app 53 (.g (.app 109 .nil) .nil)
abbrev ap1 : AL := .i (.c 0) .nil
abbrev av3 : SE := .app 115 (.g (.s 10) ap1)
abbrev a8o : GE := .app 116 (.g (.s 10) (.g (.s 16) ap1))
abbrev aoj : SE := .bin 6 .i64 (.c 1) (.len a8o)
abbrev a04 : SE := .bin 6 .i64 aoj (.c 1)
abbrev apx : GE := .cat (.lit 1 34) a8o
abbrev a3p : GE := .cat apx (.lit 1 34)
abbrev arl : GE := .app 6 (.g a3p ap1)
abbrev aql : AL := .g arl (.i (.c 1) (.g .nil .nil))
abbrev a1g : GE := .app 91 aql
abbrev apd : GE := .app 6 (.g apx ap1)
abbrev a2i : SE := .len apd
abbrev a18 : AL := .g apd (.i (.c 1) (.g .nil .nil))
abbrev ay5 : SE := .app 93 aql
noncomputable section
def bt8 : List AV := []
def bw8 : List HO := []
def bv5 : List HO := []
def bu6 : TR := .ret (.bool true)
def boa : TM := .mk 9 bt8 256 bw8 ([] ++ []) none bu6 256 bv5
def bvv : List AV := [.int .i64 1]
def bwq : List HO := []
def bux : List HO := ([hz0 256] ++ bf1 257 258 259 g0E)
def bus : TR := .ret (.tuple [.ptr (K.of 256) 0, .ptr (K.of 257) 0])
def bs7 : TM := .mk 11 bvv 256 bwq ([] ++ []) none bus 260 bux
def b53 : List AV := [.gv (.sr (K.of 256) (.v 12) (.v 13) []), .gv (.sr (K.of 257) (.v 14) (.v 15) [])]
def b3z : List HO := [roI 256, rbI 257]
def b4s : List HO := []
def b4j : TR := .ret (.bool true)
def b33 : List AV := [.gv (.sr (K.of 256) (.v 12) (.v 13) []), .nilSlice]
def b4m : List HO := [roI 256]
def b3r : List HO := []
def b5f : TR := .ret (.bool true)
def b6c : List AV := [.gv (.sr (K.of 256) (.v 12) (.v 13) []), .esl]
def b58 : List HO := [roI 256]
def b5z : List HO := []
def b5r : TR := .ret (.bool true)
def b5e : List AV := [.nilSlice, .gv (.sr (K.of 256) (.v 14) (.v 15) [])]
def b4n : List HO := [rbI 256]
def b5v : List HO := []
def b38 : TR := .ret (.bool true)
def b41 : List AV := [.esl, .gv (.sr (K.of 256) (.v 14) (.v 15) [])]
def b5j : List HO := [rbI 256]
def b5d : List HO := []
def b3c : TR := .ret (.bool true)
end
section
variable {σ : Nat → List Int}
theorem bwa (h : SAll σ bc0) : ((σ 13).headD 0 = ((σ 10).length : Int) ∧ 1 ≤ (σ 13).headD 0) ∧ (σ 15).headD 0 = ((σ 16).length : Int) ∧ 1 ≤ (σ 15).headD 0 ∧ 0 ≤ (σ 12).headD 0 := by
 simp only [sall_cons, sF, sE, evs] at h
 exact ⟨⟨h.1, h.2.1⟩, h.2.2.1, h.2.2.2.1, h.2.2.2.2.1⟩
theorem blm (h : SAll σ aw9) : ((σ 13).headD 0 = ((σ 10).length : Int) ∧ 1 ≤ (σ 13).headD 0) ∧ 0 ≤ (σ 12).headD 0 := by
 simp only [sall_cons, sF, sE, evs] at h
 exact ⟨⟨h.1, h.2.1⟩, h.2.2.1⟩
theorem bms (h : SAll σ awy) : (σ 15).headD 0 = ((σ 16).length : Int) ∧ 1 ≤ (σ 15).headD 0 := by
 simp only [sall_cons, sF, sE, evs] at h
 exact ⟨h.1, h.2.1⟩
end
theorem bfh {l : List Int} (h : sv l 0 = 1) : ∀ c ∈ l, isC c := by
 intro c hc
 unfold sv at h
 split at h
 ·rename_i ha
  have := List.all_eq_true.1 ha c hc
  have := eq_of_beq this
  unfold kh at this
  split at this
  ·assumption
  ·cases this
 ·cases h
theorem a1c : ∀ l : List Int, (∀ c ∈ l, isC c) → bp (l.flatMap ee) ∧ b8 (l.flatMap ee) = 1 ∧ ((l.flatMap ee).length : Int) ≤ 4 * (l.length : Int)
 | [], _ => ⟨fun x hx => (zH hx).elim, rfl, Int.le_refl _⟩
 | c :: l, h => by
   obtain ⟨i0, i1, i2⟩ := a1c l fun x hx => h x (zA _ hx)
   have hc := h c (List.mem_cons_self ..)
   rw [List.flatMap_cons]
   have := abx hc
   exact ⟨aom (ano c hc) i0, (aou hc i0).2 i1, by rw [zP, zO]; omega⟩
structure Lit (l y : List Int) : Prop where
 v1 : b8 (34 :: (nj l y ++ [34])) = 1
 d1 : av (34 :: (nj l y ++ [34])) 0 = 34 :: (im l y ++ [34])
 t1 : gi (34 :: (im l y ++ [34])) 1 [] = ⟨0, 0, l.flatMap ee, 2 + ((im l y).length : Int)⟩
 v0 : b8 (34 :: nj l y) = 1
 d0 : av (34 :: nj l y) 0 = 34 :: im l y
 t0 : gi (34 :: im l y) 1 [] = ⟨5, 1 + ((im l y).length : Int), [], 0⟩
 b : ((nj l y).length : Int) ≤ 9 * (l.length : Int)
 r : ((im l y).length : Int) ≤ 9 * (l.length : Int)
 x : (nc [1, 0, 0] (l.flatMap ee)).f = 0
theorem u2 (l y : List Int) (h : sv l 0 = 1) (h1 : (l.length : Int) ≤ (y.length : Int)) (h2 : (l.length : Int) ≤ 300) : Lit l y := by
 have hc := bfh h
 obtain ⟨⟨a0, a1, a2, a3⟩, b0, b1, b2, b3⟩ := a6p l y hc (by omega)
 have hb := ay3 l y hc
 have hd := tz (34 :: nj l y)
 refine ⟨b1, b2, b3, a1, a2, a3, hb, ?_, ?_⟩
 ·have a2 : av (34 :: nj l y) 0 = 34 :: im l y := a2
  rw [a2, zO, zO] at hd
  omega
 ·obtain ⟨f0, f1, f2⟩ := a1c l hc
  have hu := (au9 (l.flatMap ee) _ 0 (zY _) (Int.le_refl _)).2 (by omega)
  rw [qi, f1, if_neg (by decide), if_neg (by omega), evH.1, if_neg (by omega)]
theorem a4p (l : List Int) (n : Int) (h : n = (l.length : Int)) : alv l 0 n = l.flatMap ee := by
 unfold alv
 rw [h, Int.toNat_natCast, List.take_length]; rfl
def b36 [Gv] : Prop := (SAll Gv.σ [] → cz 9 bt8 256 bw8 bu6 256 bv5)
theorem bsh [Gv] (hI : SAll Gv.σ []) : b36 := by
 exact zm0 [] ac ai hI
theorem a8v [Gv] : bn boa := fun σ _ hA _ => (@bsh ⟨σ⟩  (ak hA).1) (ak hA).2
def b54 [Gv] : Prop := (SAll Gv.σ [] → cz 11 bvv 256 bwq bus 260 bux)
theorem bvz [Gv] (hI : SAll Gv.σ []) : b54 := by
 exact fun hC => bf (n := 2000) (T := [(256, 256), (257, 259), (258, 257), (383, 258)]) (E := (.i (.c 62) bbk (.g (.cat (.one (.c 61)) (.cat (.one (.c 27)) (.cat (.lit 27 40921301388373393901266083601415623805023030494395681591402262382) (.cat (.one (.c 60)) (.cat (.one (.c 16)) (.cat (.lit 16 130873919237818497454574540560026987641) (.cat (.one (.c 59)) (.cat (.one (.c 10)) (.cat (.lit 10 554645564019283999223666) (.cat (.one (.c 58)) (.cat (.one (.c 14)) (.cat (.lit 14 2138404743268917599816109472970864) (.cat (.one (.c 57)) (.cat (.one (.c 13)) (.cat (.lit 13 9142614481120370773387966702948) (.cat (.one (.c 56)) (.cat (.one (.c 13)) (.cat (.lit 13 8036208872164450487963119674738) (.cat (.one (.c 55)) (.cat (.one (.c 19)) (.cat (.lit 19 2194306559561233339480094508905273046698714482) (.cat (.one (.c 54)) (.cat (.one (.c 14)) (.cat (.lit 14 2360798837088724829763814128774265) (.cat (.one (.c 53)) (.cat (.one (.c 11)) (.cat (.lit 11 132251892078482770005159020) (.cat (.one (.c 52)) (.cat (.one (.c 22)) (.cat (.lit 22 37964533983826296352995798791071340672472487022915175) (.cat (.one (.c 51)) (.cat (.one (.c 13)) (.cat (.lit 13 7876222302167207231190018388852) (.cat (.one (.c 50)) (.cat (.one (.c 11)) (.cat (.lit 11 122622816042548377873378405) (.cat (.one (.c 49)) (.cat (.one (.c 19)) (.cat (.lit 19 2351200880115526969479425374119979311791628664) (.cat (.one (.c 48)) (.cat (.one (.c 16)) (.cat (.lit 16 140142493254871783820688370579714699118) (.cat (.one (.c 47)) (.cat (.one (.c 8)) (.cat (.lit 8 7957628971446985576) (.cat (.one (.c 46)) (.cat (.one (.c 16)) (.cat (.lit 16 153388003480587613335266858083767381620) (.cat (.one (.c 45)) (.cat (.one (.c 14)) (.cat (.lit 14 2260727785469235662364888815267698) (.cat (.one (.c 44)) (.cat (.one (.c 11)) (.cat (.lit 11 117806099577798128716377970) (.cat (.one (.c 43)) (.cat (.one (.c 17)) (.cat (.lit 17 33159458725503807014831810376311545685861) (.cat (.one (.c 42)) (.cat (.one (.c 25)) (.cat (.lit 25 749781051372049293057386538801311032636779409818639984915571) (.cat (.one (.c 41)) (.cat (.one (.c 19)) (.cat (.lit 19 2663757397314901095382322954879158356550184564) (.cat (.one (.c 40)) (.cat (.one (.c 13)) (.cat (.lit 13 9383403423058555373549009858414) (.cat (.one (.c 39)) (.cat (.one (.c 13)) (.cat (.lit 13 9383403423059702669977579580517) (.cat (.one (.c 38)) (.cat (.one (.c 4)) (.cat (.lit 4 1903520116) (.cat (.one (.c 37)) (.cat (.one (.c 5)) (.cat (.lit 5 435711799154) (.cat (.one (.c 36)) (.cat (.one (.c 6)) (.cat (.lit 6 126896544047468) (.cat (.one (.c 35)) (.cat (.one (.c 5)) (.cat (.lit 5 499968536439) (.cat (.one (.c 34)) (.cat (.one (.c 4)) (.cat (.lit 4 1702257004) (.cat (.one (.c 33)) (.cat (.one (.c 4)) (.cat (.lit 4 1835102307) (.cat (.one (.c 32)) (.cat (.one (.c 6)) (.cat (.lit 6 120265264816498) (.cat (.one (.c 31)) (.cat (.one (.c 5)) (.cat (.lit 5 418498243705) (.cat (.one (.c 30)) (.cat (.one (.c 7)) (.cat (.lit 7 28839564598668396) (.cat (.one (.c 29)) (.cat (.one (.c 11)) (.cat (.lit 11 127458818504976499584104037) (.cat (.one (.c 28)) (.cat (.one (.c 8)) (.cat (.lit 8 7234300996411945583) (.cat (.one (.c 27)) (.cat (.one (.c 5)) (.cat (.lit 5 431197943150) (.cat (.one (.c 26)) (.cat (.one (.c 8)) (.cat (.lit 8 7234300953697874804) (.cat (.one (.c 25)) (.cat (.one (.c 6)) (.cat (.lit 6 110386673508722) (.cat (.one (.c 24)) (.cat (.one (.c 14)) (.cat (.lit 14 2016787041542256923290239124992869) (.cat (.one (.c 23)) (.cat (.one (.c 14)) (.cat (.lit 14 2381793977678502578102143874851700) (.cat (.one (.c 22)) (.cat (.one (.c 5)) (.cat (.lit 5 426836779880) (.cat (.one (.c 21)) (.cat (.one (.c 4)) (.cat (.lit 4 1818588202) (.cat (.one (.c 20)) (.cat (.one (.c 3)) (.cat (.lit 3 7103860) (.cat (.one (.c 19)) (.cat (.one (.c 4)) (.cat (.lit 4 1936028785) (.cat (.one (.c 18)) (.cat (.one (.c 5)) (.cat (.lit 5 482956240689) (.cat (.one (.c 17)) (.cat (.one (.c 5)) (.cat (.lit 5 482956240750) (.cat (.one (.c 16)) (.cat (.one (.c 5)) (.cat (.lit 5 512852847717) (.cat (.one (.c 15)) (.cat (.one (.c 2)) (.cat (.lit 2 28530) (.cat (.one (.c 14)) (.cat (.one (.c 3)) (.cat (.lit 3 6385252) (.cat (.one (.c 13)) (.cat (.one (.c 4)) (.cat (.lit 4 1668247140) (.cat (.one (.c 12)) (.cat (.one (.c 2)) (.cat (.lit 2 26982) (.cat (.one (.c 11)) (.cat (.one (.c 9)) (.cat (.lit 9 709006320932754448748) (.cat (.one (.c 10)) (.cat (.one (.c 5)) (.cat (.lit 5 165128008564) (.cat (.one (.c 9)) (.cat (.one (.c 5)) (.cat (.lit 5 469785342575) (.cat (.one (.c 8)) (.cat (.one (.c 7)) (.cat (.lit 7 27985248628601445) (.cat (.one (.c 7)) (.cat (.one (.c 6)) (.cat (.lit 6 119165702792289) (.cat (.one (.c 6)) (.cat (.one (.c 2)) (.cat (.lit 2 11328) (.cat (.one (.c 5)) (.cat (.one (.c 1)) (.cat (.lit 1 44) (.cat (.one (.c 4)) (.cat (.one (.c 1)) (.cat (.lit 1 96) (.cat (.one (.c 3)) (.cat (.one (.c 8)) (.cat (.lit 8 7382928537577680750) (.cat (.one (.c 2)) (.cat (.one (.c 5)) (.cat (.lit 5 487301543013) (.cat (.one (.c 1)) (.cat (.one (.c 1)) (.cat (.lit 1 116) (.cat (.one (.c 0)) (.cat (.one (.c 3)) (.lit 3 7235948)))))))))))))))))))))))))))))))))))))))))))))))))))))))))))))))))))))))))))))))))))))))))))))))))))))))))))))))))))))))))))))))))))))))))))))))))))))))))))))))))))))))))))))))))))))))))) (.app 109 .nil) .nil))) ac ai hI (by exact ⟨by kernel_rfl, by kernel_rfl, trivial⟩) rfl rfl (by kernel_rfl)
theorem bq2 [Gv] : bn bs7 := fun σ _ hA _ => (@bvz ⟨σ⟩  (ak hA).1) (ak hA).2
theorem hlw [Gv] : ∀ t ∈ [boa, bs7, bl9, bm1, blv, btw, bs6, bjy, bkf, bk1], bn t := by
 intro t ht
 simp only [List.mem_cons, zH, or_false] at ht
 rcases ht with rfl | rfl | rfl | rfl | rfl | rfl | rfl | rfl | rfl | rfl
 ·exact a8v
 ·exact bq2
 ·exact bib
 ·exact bhj
 ·exact beb
 ·exact bn6
 ·exact bp2
 ·exact bge
 ·exact bdu
 ·exact bei
theorem avf [Gv] : ∀ t ∈ [btj], bh t := j5 bnk
theorem hlv [Gv] : ∀ t ∈ [boa], bn t := j5 a8v
def b42 [Gv] : Prop := (SAll Gv.σ [] → cz 6 b53 258 b3z b4j 258 b4s)
theorem btm [Gv] (hI : SAll Gv.σ bc0) : b42 := by
 obtain ⟨⟨l1, l3⟩, l4, l5, l6⟩ := bwa hI
 have ew := a4p (Gv.σ 10) ((Gv.σ 13).headD 0) l1
 rw [l1] at ew
 have z1 := (fun (h : sv (Gv.σ 10) 0 = 1) (h1 : ((Gv.σ 10).length : Int) ≤ ((Gv.σ 16).length : Int)) (h2 : ((Gv.σ 10).length : Int) ≤ 300) => (u2 (Gv.σ 10) (Gv.σ 16) h h1 h2).v1)
 have z2 := (fun (h : sv (Gv.σ 10) 0 = 1) (h1 : ((Gv.σ 10).length : Int) ≤ ((Gv.σ 16).length : Int)) (h2 : ((Gv.σ 10).length : Int) ≤ 300) => (u2 (Gv.σ 10) (Gv.σ 16) h h1 h2).d1)
 have z3 := (fun (h : sv (Gv.σ 10) 0 = 1) (h1 : ((Gv.σ 10).length : Int) ≤ ((Gv.σ 16).length : Int)) (h2 : ((Gv.σ 10).length : Int) ≤ 300) => (u2 (Gv.σ 10) (Gv.σ 16) h h1 h2).t1)
 have z4 := (fun (h : sv (Gv.σ 10) 0 = 1) (h1 : ((Gv.σ 10).length : Int) ≤ ((Gv.σ 16).length : Int)) (h2 : ((Gv.σ 10).length : Int) ≤ 300) => (u2 (Gv.σ 10) (Gv.σ 16) h h1 h2).v0)
 have z5 := (fun (h : sv (Gv.σ 10) 0 = 1) (h1 : ((Gv.σ 10).length : Int) ≤ ((Gv.σ 16).length : Int)) (h2 : ((Gv.σ 10).length : Int) ≤ 300) => (u2 (Gv.σ 10) (Gv.σ 16) h h1 h2).d0)
 have z6 := (fun (h : sv (Gv.σ 10) 0 = 1) (h1 : ((Gv.σ 10).length : Int) ≤ ((Gv.σ 16).length : Int)) (h2 : ((Gv.σ 10).length : Int) ≤ 300) => (u2 (Gv.σ 10) (Gv.σ 16) h h1 h2).t0)
 have z7 := (fun (h : sv (Gv.σ 10) 0 = 1) (h1 : ((Gv.σ 10).length : Int) ≤ ((Gv.σ 16).length : Int)) (h2 : ((Gv.σ 10).length : Int) ≤ 300) => (u2 (Gv.σ 10) (Gv.σ 16) h h1 h2).x)
 have z8 := (fun (h : sv (Gv.σ 10) 0 = 1) (h1 : ((Gv.σ 10).length : Int) ≤ ((Gv.σ 16).length : Int)) (h2 : ((Gv.σ 10).length : Int) ≤ 300) => (u2 (Gv.σ 10) (Gv.σ 16) h h1 h2).b)
 have z9 := (fun (h : sv (Gv.σ 10) 0 = 1) (h1 : ((Gv.σ 10).length : Int) ≤ ((Gv.σ 16).length : Int)) (h2 : ((Gv.σ 10).length : Int) ≤ 300) => (u2 (Gv.σ 10) (Gv.σ 16) h h1 h2).r)
 rcases bdb hI (.c 65536) (.v 13) with ⟨hI, k1⟩ | ⟨hI, k1⟩
 ·have hI := bsj hI (.c 300) (.v 13)
  have u := l1
  exact zm0 [] (zh hI hlw) (zp hI avf) hI
 ·rcases b4i hI av3 (.c 1) with ⟨hI, k2⟩ | ⟨hI, k2⟩
  ·rcases bdb hI (.c 300) (.v 13) with ⟨hI, k3⟩ | ⟨hI, k3⟩
   ·have u := l1
    exact zm0 [] (zh hI hlw) (zp hI avf) hI
   ·rcases bdb hI (.v 15) (.v 13) with ⟨hI, k4⟩ | ⟨hI, k4⟩
    ·have u := l1
     exact zm0 [] (zh hI hlw) (zp hI avf) hI
    ·have hI := auh hI (.v 13) (.c 0)
     have hI := auh hI (.c 9223372036854775807) a04
     have hI := auh hI (.c 3900) a04
     have hI := bsj hI (.c 0) bbk
     have hI := aqj hI (.app 50 (.g a3p .nil)) (.c 1)
     have hI := auh hI (.len arl) (.c 1)
     have hI := aqj hI (.rd arl (.c 0)) (.c 34)
     have hI := aqj hI (.app 91 aql) (.c 0)
     have hI := aqj hI (.app 59 (.g (.cat (.one (.c 1)) bou) (.g a1g .nil))) (.c 0)
     have hI := auh hI (.c 3900) aoj
     have hI := aqj hI (.app 50 (.g apx .nil)) (.c 1)
     have hI := auh hI a2i (.c 1)
     have hI := aqj hI (.rd apd (.c 0)) (.c 34)
     have hI := b4t hI (.app 91 a18) (.c 0)
     have hI := aqj hI (.eqg a1g (.app 110 (.g (.s 10) (.i (.c 0) (.i (.v 13) .nil))))) (.c 1)
     have hI := auh hI (.c 4000) aoj
     have hI := auh hI aoj (.c 1)
     have hI := aqj hI ay5 (.bin 0 .i64 a2i (.c 1))
     have hI := aqj hI (.app 92 a18) (.bin 1 .i64 ay5 (.c 1))
     have u := l1
     exact zm0 [] (zh hI hlw) (zp hI avf) hI
  ·rcases bdb hI (.c 300) (.v 13) with ⟨hI, k3⟩ | ⟨hI, k3⟩
   ·have u := l1
    exact zm0 [] (zh hI hlw) (zp hI avf) hI
   ·rcases bdb hI (.v 15) (.v 13) with ⟨hI, k4⟩ | ⟨hI, k4⟩
    ·have u := l1
     exact zm0 [] (zh hI hlw) (zp hI avf) hI
    ·have u := l1
     exact zm0 [] (zh hI hlw) (zp hI avf) hI
def b26 [Gv] : Prop := (SAll Gv.σ [] → cz 6 b33 257 b4m b5f 257 b3r)
theorem bvy [Gv] (hI : SAll Gv.σ aw9) : b26 := by
 obtain ⟨⟨l1, l3⟩, l6⟩ := blm hI
 rcases a67 hI (.c 65536) (.v 13) with ⟨hI, k1⟩ | ⟨hI, k1⟩
 ·have hI := a6k hI (.c 300) (.v 13)
  have u := l1
  exact zm0 [] (zh hI hlw) ai hI
 ·rcases buk hI av3 (.c 1) with ⟨hI, k2⟩ | ⟨hI, k2⟩
  ·rcases a67 hI (.c 300) (.v 13) with ⟨hI, k3⟩ | ⟨hI, k3⟩
   ·have u := l1
    exact zm0 [] (zh hI hlw) ai hI
   ·have hI := a6k hI (.c 0) (.v 13)
    have u := l1
    exact zm0 [] (zh hI hlw) ai hI
  ·rcases a67 hI (.c 300) (.v 13) with ⟨hI, k3⟩ | ⟨hI, k3⟩
   ·have u := l1
    exact zm0 [] (zh hI hlw) ai hI
   ·have hI := a6k hI (.c 0) (.v 13)
    have u := l1
    exact zm0 [] (zh hI hlw) ai hI
def b40 [Gv] : Prop := (SAll Gv.σ [] → cz 6 b6c 257 b58 b5r 257 b5z)
theorem bvm [Gv] (hI : SAll Gv.σ aw9) : b40 := by
 obtain ⟨⟨l1, l3⟩, l6⟩ := blm hI
 rcases a67 hI (.c 65536) (.v 13) with ⟨hI, k1⟩ | ⟨hI, k1⟩
 ·have hI := a6k hI (.c 300) (.v 13)
  have u := l1
  exact zm0 [] (zh hI hlw) ai hI
 ·rcases buk hI av3 (.c 1) with ⟨hI, k2⟩ | ⟨hI, k2⟩
  ·rcases a67 hI (.c 300) (.v 13) with ⟨hI, k3⟩ | ⟨hI, k3⟩
   ·have u := l1
    exact zm0 [] (zh hI hlw) ai hI
   ·have hI := a6k hI (.c 0) (.v 13)
    have u := l1
    exact zm0 [] (zh hI hlw) ai hI
  ·rcases a67 hI (.c 300) (.v 13) with ⟨hI, k3⟩ | ⟨hI, k3⟩
   ·have u := l1
    exact zm0 [] (zh hI hlw) ai hI
   ·have hI := a6k hI (.c 0) (.v 13)
    have u := l1
    exact zm0 [] (zh hI hlw) ai hI
def b3p [Gv] : Prop := (SAll Gv.σ [] → cz 6 b5e 257 b4n b38 257 b5v)
theorem btd [Gv] (hI : SAll Gv.σ awy) : b3p := by
 obtain ⟨l4, l5⟩ := bms hI
 have hI := btp hI (.v 15) (.c 0)
 have u := l4
 exact zm0 [] (zh hI hlv) ai hI
def b5c [Gv] : Prop := (SAll Gv.σ [] → cz 6 b41 257 b5j b3c 257 b5d)
theorem buq [Gv] (hI : SAll Gv.σ awy) : b5c := by
 obtain ⟨l4, l5⟩ := bms hI
 have hI := btp hI (.v 15) (.c 0)
 have u := l4
 exact zm0 [] (zh hI hlv) ai hI
theorem bg1 : ayl (enter (run aes 20000) 6 [.nilSlice, .nilSlice] wS) (.bool true) = true := by kernel_rfl
theorem bg6 : ayl (enter (run aes 20000) 6 [.nilSlice, .esl] wS) (.bool true) = true := by kernel_rfl
theorem be1 : ayl (enter (run aes 20000) 6 [.esl, .nilSlice] wS) (.bool true) = true := by kernel_rfl
theorem bek : ayl (enter (run aes 20000) 6 [.esl, .esl] wS) (.bool true) = true := by kernel_rfl
end Go.Ev
