import Derived.Test.YtocilenpboklbaaGreatDoorSxM
import Derived.Test.YtocilenpboklbaaGreatDoorRbH
set_option maxRecDepth 100000
set_option linter.all false
namespace Go.Ev
abbrev brh : GE := .cat (.one (.c 0)) (.one (.c 0))
abbrev bee : List SA := [.mk true (.v 1) (.c (-9223372036854775808)) false, .mk true (.c 9223372036854775807) (.v 1) false]
abbrev ar8 : GE := .app 109 .nil
abbrev bef : SE := .app 53 (.g ar8 .nil)
abbrev beg : GE := .cat (.one (.c 3)) brh
abbrev aax : AL := .i (.c 0) .nil
abbrev ayz : GE := .app 6 (.g (.lit 2 8738) aax)
abbrev ak4 : SE := .app 49 (.g (.s 3) aax)
abbrev beh : AL := .g ayz (.i (.c 1) (.g .nil .nil))
abbrev ahm : GE := .cat (.one (.c 3)) (.cat (.one (.c 1)) (.one ak4))
abbrev ar4 : GE := .app 91 beh
abbrev adg : GE := .app 121 (.i (.v 1) .nil)
abbrev a43 : SE := .len adg
abbrev a44 : SE := .app 50 (.g adg .nil)
abbrev ahn : GE := .app 6 (.g adg aax)
abbrev a45 : SE := .len ahn
abbrev adh : SE := .rd ahn (.c 0)
abbrev a47 : SE := .app 41 (.i adh .nil)
abbrev a48 : SE := .app 43 (.g ahn (.i (.c 0) aax))
abbrev ar5 : AL := .g ahn (.i (.c 0) (.g .nil aax))
abbrev a49 : SE := .app 44 ar5
abbrev a5a : SE := .app 46 ar5
abbrev a5b : AL := .g (.app 44 ar5) .nil
abbrev aho : SE := .app 47 a5b
abbrev ahp : SE := .c (-2305843009213693952)
abbrev ahq : SE := .c 2305843009213693951
abbrev ar6 : SE := .eqg (.lit 0 0) (.s 3)
abbrev ar7 : SE := .eqg ar4 (.s 3)
abbrev a5c : SE := .app 48 a5b
abbrev a5d : GE := .app 120 (.i (.c 0) (.g (.s 3) aax))
abbrev ar9 : GE := .cat (.cat (.lit 1 34) a5d) (.lit 1 34)
abbrev asa : GE := .app 6 (.g ar9 aax)
abbrev a5e : AL := .g asa (.i (.c 1) (.g .nil .nil))
abbrev asb : GE := .app 91 a5e
abbrev asc : SE := .eqg (.s 3) (.s 3)
abbrev asd : SE := .eqg asb (.s 3)
noncomputable section
def g0E : GE := .app 109 .nil
def bt7 : List AV := []
def bt4 : List HO := []
def bt5 : List HO := []
def bt6 : TR := .ret (.bool true)
def bt3 : TM := .mk 9 bt7 256 bt4 ([] ++ []) none bt6 256 bt5
def btd : List AV := [.int .i64 3]
def bta : List HO := []
def btb : List HO := ([hs0 256] ++ ael 257 258 259 g0E)
def btc : TR := .ret (.tuple [.ptr (K.of 256) 0, .ptr (K.of 257) 0])
def bs9 : TM := .mk 10 btd 256 bta ([] ++ []) none btc 260 btb
def bpm : List AV := [.gv (.str (.s 3) []), .sym .i64 (.v 1) []]
def b0q : List HO := []
def b0r : List HO := []
def b0s : TR := .ret (.bool true)
end
def b0m [Gv] : Prop := (SAll Gv.σ [] → bz 9 bt7 256 bt4 bt6 256 bt5)
theorem bsn [Gv] (hI : SAll Gv.σ []) : b0m := by
 exact zm0 [] aa af hI
theorem bph [Gv] : ax bt3 := fun σ _ hA _ => (@bsn ⟨σ⟩  (ai hA).1) (ai hA).2
def b0b [Gv] : Prop := (SAll Gv.σ [] → bz 10 btd 256 bta btc 260 btb)
theorem bsm [Gv] (hI : SAll Gv.σ []) : b0b := by
 have t1 := zf1 (f53 (σ := Gv.σ) ar8)
 exact fun hC => bf (n := 2000) (T := [(256, 256), (257, 259), (258, 257), (383, 258)]) (E := (.i (.c 62) bef (.g (.cat (.one (.c 61)) (.cat (.one (.c 27)) (.cat (.lit 27 40921301388373393901266083601415623805023030494395681591402262382) (.cat (.one (.c 60)) (.cat (.one (.c 16)) (.cat (.lit 16 130873919237818497454574540560026987641) (.cat (.one (.c 59)) (.cat (.one (.c 10)) (.cat (.lit 10 554645564019283999223666) (.cat (.one (.c 58)) (.cat (.one (.c 14)) (.cat (.lit 14 2138404743268917599816109472970864) (.cat (.one (.c 57)) (.cat (.one (.c 13)) (.cat (.lit 13 9142614481120370773387966702948) (.cat (.one (.c 56)) (.cat (.one (.c 13)) (.cat (.lit 13 8036208872164450487963119674738) (.cat (.one (.c 55)) (.cat (.one (.c 19)) (.cat (.lit 19 2194306559561233339480094508905273046698714482) (.cat (.one (.c 54)) (.cat (.one (.c 14)) (.cat (.lit 14 2360798837088724829763814128774265) (.cat (.one (.c 53)) (.cat (.one (.c 11)) (.cat (.lit 11 132251892078482770005159020) (.cat (.one (.c 52)) (.cat (.one (.c 22)) (.cat (.lit 22 37964533983826296352995798791071340672472487022915175) (.cat (.one (.c 51)) (.cat (.one (.c 13)) (.cat (.lit 13 7876222302167207231190018388852) (.cat (.one (.c 50)) (.cat (.one (.c 11)) (.cat (.lit 11 122622816042548377873378405) (.cat (.one (.c 49)) (.cat (.one (.c 19)) (.cat (.lit 19 2351200880115526969479425374119979311791628664) (.cat (.one (.c 48)) (.cat (.one (.c 16)) (.cat (.lit 16 140142493254871783820688370579714699118) (.cat (.one (.c 47)) (.cat (.one (.c 8)) (.cat (.lit 8 7957628971446985576) (.cat (.one (.c 46)) (.cat (.one (.c 16)) (.cat (.lit 16 153388003480587613335266858083767381620) (.cat (.one (.c 45)) (.cat (.one (.c 14)) (.cat (.lit 14 2260727785469235662364888815267698) (.cat (.one (.c 44)) (.cat (.one (.c 11)) (.cat (.lit 11 117806099577798128716377970) (.cat (.one (.c 43)) (.cat (.one (.c 17)) (.cat (.lit 17 33159458725503807014831810376311545685861) (.cat (.one (.c 42)) (.cat (.one (.c 25)) (.cat (.lit 25 749781051372049293057386538801311032636779409818639984915571) (.cat (.one (.c 41)) (.cat (.one (.c 19)) (.cat (.lit 19 2663757397314901095382322954879158356550184564) (.cat (.one (.c 40)) (.cat (.one (.c 13)) (.cat (.lit 13 9383403423058555373549009858414) (.cat (.one (.c 39)) (.cat (.one (.c 13)) (.cat (.lit 13 9383403423059702669977579580517) (.cat (.one (.c 38)) (.cat (.one (.c 4)) (.cat (.lit 4 1903520116) (.cat (.one (.c 37)) (.cat (.one (.c 5)) (.cat (.lit 5 435711799154) (.cat (.one (.c 36)) (.cat (.one (.c 6)) (.cat (.lit 6 126896544047468) (.cat (.one (.c 35)) (.cat (.one (.c 5)) (.cat (.lit 5 499968536439) (.cat (.one (.c 34)) (.cat (.one (.c 4)) (.cat (.lit 4 1702257004) (.cat (.one (.c 33)) (.cat (.one (.c 4)) (.cat (.lit 4 1835102307) (.cat (.one (.c 32)) (.cat (.one (.c 6)) (.cat (.lit 6 120265264816498) (.cat (.one (.c 31)) (.cat (.one (.c 5)) (.cat (.lit 5 418498243705) (.cat (.one (.c 30)) (.cat (.one (.c 7)) (.cat (.lit 7 28839564598668396) (.cat (.one (.c 29)) (.cat (.one (.c 11)) (.cat (.lit 11 127458818504976499584104037) (.cat (.one (.c 28)) (.cat (.one (.c 8)) (.cat (.lit 8 7234300996411945583) (.cat (.one (.c 27)) (.cat (.one (.c 5)) (.cat (.lit 5 431197943150) (.cat (.one (.c 26)) (.cat (.one (.c 8)) (.cat (.lit 8 7234300953697874804) (.cat (.one (.c 25)) (.cat (.one (.c 6)) (.cat (.lit 6 110386673508722) (.cat (.one (.c 24)) (.cat (.one (.c 14)) (.cat (.lit 14 2016787041542256923290239124992869) (.cat (.one (.c 23)) (.cat (.one (.c 14)) (.cat (.lit 14 2381793977678502578102143874851700) (.cat (.one (.c 22)) (.cat (.one (.c 5)) (.cat (.lit 5 426836779880) (.cat (.one (.c 21)) (.cat (.one (.c 4)) (.cat (.lit 4 1818588202) (.cat (.one (.c 20)) (.cat (.one (.c 3)) (.cat (.lit 3 7103860) (.cat (.one (.c 19)) (.cat (.one (.c 4)) (.cat (.lit 4 1936028785) (.cat (.one (.c 18)) (.cat (.one (.c 5)) (.cat (.lit 5 482956240689) (.cat (.one (.c 17)) (.cat (.one (.c 5)) (.cat (.lit 5 482956240750) (.cat (.one (.c 16)) (.cat (.one (.c 5)) (.cat (.lit 5 512852847717) (.cat (.one (.c 15)) (.cat (.one (.c 2)) (.cat (.lit 2 28530) (.cat (.one (.c 14)) (.cat (.one (.c 3)) (.cat (.lit 3 6385252) (.cat (.one (.c 13)) (.cat (.one (.c 4)) (.cat (.lit 4 1668247140) (.cat (.one (.c 12)) (.cat (.one (.c 2)) (.cat (.lit 2 26982) (.cat (.one (.c 11)) (.cat (.one (.c 9)) (.cat (.lit 9 709006320932754448748) (.cat (.one (.c 10)) (.cat (.one (.c 5)) (.cat (.lit 5 165128008564) (.cat (.one (.c 9)) (.cat (.one (.c 5)) (.cat (.lit 5 469785342575) (.cat (.one (.c 8)) (.cat (.one (.c 7)) (.cat (.lit 7 27985248628601445) (.cat (.one (.c 7)) (.cat (.one (.c 6)) (.cat (.lit 6 119165702792289) (.cat (.one (.c 6)) (.cat (.one (.c 2)) (.cat (.lit 2 11328) (.cat (.one (.c 5)) (.cat (.one (.c 1)) (.cat (.lit 1 44) (.cat (.one (.c 4)) (.cat (.one (.c 1)) (.cat (.lit 1 96) (.cat (.one (.c 3)) (.cat (.one (.c 8)) (.cat (.lit 8 7382928537577680750) (.cat (.one (.c 2)) (.cat (.one (.c 5)) (.cat (.lit 5 487301543013) (.cat (.one (.c 1)) (.cat (.one (.c 1)) (.cat (.lit 1 116) (.cat (.one (.c 0)) (.cat (.one (.c 3)) (.lit 3 7235948)))))))))))))))))))))))))))))))))))))))))))))))))))))))))))))))))))))))))))))))))))))))))))))))))))))))))))))))))))))))))))))))))))))))))))))))))))))))))))))))))))))))))))))))))))))))))) ar8 .nil))) aa af hI (by exact ⟨by kernel_rfl, by kernel_rfl, trivial⟩) rfl rfl (by kernel_rfl)
theorem bo1 [Gv] : ax bs9 := fun σ _ hA _ => (@bsm ⟨σ⟩  (ai hA).1) (ai hA).2
section
variable {σ : Nat → List Int}
theorem btz (h : SAll σ bee) : -9223372036854775808 ≤ (σ 1).headD 0 ∧ (σ 1).headD 0 ≤ 9223372036854775807 := by
 simp only [sall_cons, sF, sT, sE, evs] at h
 exact ⟨h.1, h.2.1⟩
end
theorem bga : bj [34, 34] = 1 ∧ ak [34, 34] 0 = [34, 34] ∧ jp [34, 34] 1 [] = ⟨0, 0, [], 2⟩ := by
 have q : l9 0 [] 0 = [] := by rw [oa, if_neg (by decide)]
 have L := rn (s := []) (fun x hx => (zH hx).elim) rfl (by decide)
 have a := L.v; have b := L.d; have c := L.t
 rw [q] at a b
 exact ⟨a, b, c⟩
theorem atq [Gv] : ∀ t ∈ [bt3, bs9, bn4, bn1, bkx, bku, bm1, bmy, bmv, bms, bvd, bvn, bmd, bmg], ax t := by
 intro t ht
 simp only [List.mem_cons, zH, or_false] at ht
 rcases ht with rfl | rfl | rfl | rfl | rfl | rfl | rfl | rfl | rfl | rfl | rfl | rfl | rfl | rfl
 ·exact bph
 ·exact bo1
 ·exact bib
 ·exact bh9
 ·exact bfp
 ·exact bfn
 ·exact bhk
 ·exact bhi
 ·exact bhf
 ·exact bhd
 ·exact bqm
 ·exact bqn
 ·exact bg7
 ·exact bg8
def b0p [Gv] : Prop := (SAll Gv.σ [] → bz 5 bpm 256 b0q b0s 256 b0r)
theorem bsp [Gv] (hB : ay (Gv.σ 3))(hI : SAll Gv.σ bee) : b0p := by
 obtain ⟨n0, n1⟩ := btz hI
 have D := be7 n0 n1
 have z1 := (fun (h : bj (Gv.σ 3) = 1) (h1 : ((Gv.σ 3).length : Int) ≤ 1000) => (rn hB h h1).v)
 have z2 := (fun (h : bj (Gv.σ 3) = 1) (h1 : ((Gv.σ 3).length : Int) ≤ 1000) => (rn hB h h1).d)
 have z3 := (fun (h : bj (Gv.σ 3) = 1) (h1 : ((Gv.σ 3).length : Int) ≤ 1000) => (rn hB h h1).t)
 have z4 := (fun (h : bj (Gv.σ 3) = 1) (h1 : ((Gv.σ 3).length : Int) ≤ 1000) => (rn hB h h1).b)
 have z5 := (fun (h : bj (Gv.σ 3) = 1) (h1 : ((Gv.σ 3).length : Int) ≤ 1000) => (rn hB h h1).x0)
 have z6 := (fun (h : bj (Gv.σ 3) = 1) (h1 : ((Gv.σ 3).length : Int) ≤ 1000) => (rn hB h h1).x1)
 obtain ⟨y1, y2, y3⟩ := bga
 have y4 : ¬ ((Gv.σ 3).length : Int) < 1 → Gv.σ 3 ≠ [] := fun h e => h (by rw [e]; decide)
 have d1 := D.l
 have d2 := D.v
 have d3 := D.d
 have d4 := D.c1
 have d5 := D.c2
 have d6 := D.c3
 have d7 := D.sk
 have d8 := D.tk
 have d9 := D.k
 have e1 : ¬ (-2305843009213693952 ≤ (Gv.σ 1).headD 0 ∧ (Gv.σ 1).headD 0 ≤ 2305843009213693951) ∨ (qw (ej ((Gv.σ 1).headD 0)) = 1 ∧ auo (ej ((Gv.σ 1).headD 0)) = (Gv.σ 1).headD 0) := by by_cases h : (-2305843009213693952 ≤ (Gv.σ 1).headD 0 ∧ (Gv.σ 1).headD 0 ≤ 2305843009213693951); exact .inr (D.kin h.1 h.2); exact .inl h
 have e2 : ¬ qw (ej ((Gv.σ 1).headD 0)) = 1 ∨ (-2305843009213693952 ≤ (Gv.σ 1).headD 0 ∧ (Gv.σ 1).headD 0 ≤ 2305843009213693951) := by by_cases h : qw (ej ((Gv.σ 1).headD 0)) = 1; exact .inr (D.kou h); exact .inl h
 have e3 : ((Gv.σ 3).length : Int) < 1 → (([] : List Int) = Gv.σ 3) = True := fun h => eq_true (List.length_eq_zero_iff.1 (by omega)).symm
 have e4 : ((Gv.σ 3).length : Int) < 1 → (n8 [3, 1, vt (Gv.σ 3) 0] []).f = 0 := fun h => by have e := List.length_eq_zero_iff.1 (show (Gv.σ 3).length = 0 by omega); have z := (rn (s := []) (fun x hx => (zH hx).elim) rfl (by decide)).x1; rw [e]; exact z
 rcases bj1 hI (.c 1000) (.len (.s 3)) with ⟨hI, k1⟩ | ⟨hI, k1⟩
 ·have u := d1
  exact zm0 [] (zh hI atq) af hI
 ·have hI := vw hI (.c 4000) (.len (.s 3))
  have t1 := ak9 (atf (σ := Gv.σ) (.s 3))
  rcases brl hI (.app 50 (.g (.s 3) .nil)) (.c 1) with ⟨hI, k3⟩ | ⟨hI, k3⟩
  ·have hI := vw hI (.c 20000) (.len (.s 3))
   have t2 := ak9 (f59 (σ := Gv.σ) beg (.s 3))
   have hI := lk hI (.app 59 (.g beg (.g (.s 3) .nil))) (.c 0)
   have hI := vw hI (.c 2000) (.len (.s 3))
   have t3 := ak9 (f53 (σ := Gv.σ) ar8)
   have hI := brj hI (.c 0) bef
   rcases bj1 hI (.len (.s 3)) (.c 1) with ⟨hI, k8⟩ | ⟨hI, k8⟩
   ·have t4 := ak9 (atf (σ := Gv.σ) (.lit 2 8738))
    have hI := lk hI (.app 50 (.g (.lit 2 8738) .nil)) (.c 1)
    have hI := vw hI (.len ayz) (.c 1)
    have hI := lk hI (.rd ayz (.c 0)) (.c 34)
    have t5 := ak9 (f49 (σ := Gv.σ) (.s 3) (.c 0))
    have hI := vw hI ak4 (.c 0)
    have hI := vw hI (.c 65536) ak4
    have hI := lk hI (.app 91 beh) (.c 0)
    have t6 := ak9 (f59 (σ := Gv.σ) ahm ar4)
    have hI := lk hI (.app 59 (.g ahm (.g ar4 .nil))) (.c 0)
    have hI := vw hI (.c 3900) a43
    have t7 := ak9 (atf (σ := Gv.σ) adg)
    have hI := lk hI a44 (.c 1)
    have hI := vw hI a45 (.c 1)
    have hI := avy hI a47 (.c 1)
    have hI := avy hI adh (.c 63)
    have hI := avy hI adh (.c 35)
    have hI := lk hI a48 (.c 0)
    have hI := lk hI a49 (.c 0)
    have hI := lk hI a5a (.c 0)
    have hI := avy hI aho (.c 0)
    rcases brl hI aho (.c 1) with ⟨hI, k26⟩ | ⟨hI, k26⟩
    ·have hI := vw hI (.v 1) ahp
     have hI := vw hI ahq (.v 1)
     have hI := lk hI ar6 (.c 1)
     have hI := lk hI ar7 (.c 1)
     have hI := lk hI a5c (.v 1)
     have u := d1
     exact zm0 [] (zh hI atq) af hI
    ·rcases bj1 hI (.v 1) ahp with ⟨hI, k27⟩ | ⟨hI, k27⟩
     ·have hI := lk hI ar6 (.c 1)
      have hI := lk hI ar7 (.c 1)
      have u := d1
      exact zm0 [] (zh hI atq) af hI
     ·have hI := brj hI ahq (.v 1)
      have hI := lk hI ar6 (.c 1)
      have hI := lk hI ar7 (.c 1)
      have u := d1
      exact zm0 [] (zh hI atq) af hI
   ·have hI := vw hI (.c 3900) (.bin 6 .i64 (.bin 6 .i64 (.c 1) (.len a5d)) (.c 1))
    have t8 := ak9 (atf (σ := Gv.σ) ar9)
    have hI := lk hI (.app 50 (.g ar9 .nil)) (.c 1)
    have hI := vw hI (.len asa) (.c 1)
    have hI := lk hI (.rd asa (.c 0)) (.c 34)
    have t9 := ak9 (f49 (σ := Gv.σ) (.s 3) (.c 0))
    have hI := vw hI ak4 (.c 0)
    have hI := vw hI (.c 65536) ak4
    have hI := lk hI (.app 91 a5e) (.c 0)
    have t10 := ak9 (f59 (σ := Gv.σ) ahm asb)
    have hI := lk hI (.app 59 (.g ahm (.g asb .nil))) (.c 0)
    have hI := vw hI (.c 3900) a43
    have t11 := ak9 (atf (σ := Gv.σ) adg)
    have hI := lk hI a44 (.c 1)
    have hI := vw hI a45 (.c 1)
    have hI := avy hI a47 (.c 1)
    have hI := avy hI adh (.c 63)
    have hI := avy hI adh (.c 35)
    have hI := lk hI a48 (.c 0)
    have hI := lk hI a49 (.c 0)
    have hI := lk hI a5a (.c 0)
    have hI := avy hI aho (.c 0)
    rcases brl hI aho (.c 1) with ⟨hI, k27⟩ | ⟨hI, k27⟩
    ·have hI := vw hI (.v 1) ahp
     have hI := vw hI ahq (.v 1)
     have hI := lk hI asc (.c 1)
     have hI := lk hI asd (.c 1)
     have hI := lk hI a5c (.v 1)
     have u := d1
     exact zm0 [] (zh hI atq) af hI
    ·rcases bj1 hI (.v 1) ahp with ⟨hI, k28⟩ | ⟨hI, k28⟩
     ·have hI := lk hI asc (.c 1)
      have hI := lk hI asd (.c 1)
      have u := d1
      exact zm0 [] (zh hI atq) af hI
     ·have hI := brj hI ahq (.v 1)
      have hI := lk hI asc (.c 1)
      have hI := lk hI asd (.c 1)
      have u := d1
      exact zm0 [] (zh hI atq) af hI
  ·have u := d1
   exact zm0 [] (zh hI atq) af hI
end Go.Ev
