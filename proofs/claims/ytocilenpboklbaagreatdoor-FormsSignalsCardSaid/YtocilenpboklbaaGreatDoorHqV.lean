import Derived.Test.YtocilenpboklbaaGreatDoorHqP
set_option maxRecDepth 100000
set_option linter.all false
namespace Go.Ev
abbrev au5 : SE := .bin 5 .i64 (.v 1) (.v 2)
abbrev au6 : List SA := [.mk true (.v 2) (.c 1) false, .mk true (.c 100000) (.v 2) false]
abbrev au7 : SE := .bin 4 .i64 (.v 1) (.v 2)
noncomputable section
def g0E : GE := .app 109 .nil
def bm0 : List AV := [vI 1, vI 2]
def bmx : List HO := []
def bmy : List HO := []
def bmz : TR := .ret (sX au5)
def bmw : TM := .mk 11 bm0 256 bmx (au6 ++ []) none bmz 256 bmy
def bkp : List AV := []
def bkm : List HO := []
def bkn : List HO := []
def bko : TR := .ret (.bool true)
def bed : TM := .mk 28 bkp 256 bkm ([] ++ []) none bko 257 bkn
def bmm : List AV := []
def bmj : List HO := []
def bmk : List HO := [bx 256 111 [.gv (.sl (K.of 257) 6 (.c 62) []), .map (K.of 258)], .mk 257 (.gob (.junk 171)), .mk 258 (.gob (.gmap g0E))]
def bml : TR := .ret (.ptr (K.of 256) 0)
def bmi : TM := .mk 30 bmm 256 bmj ([] ++ []) none bml 260 bmk
end
theorem ev5 : (∀ (σ : Nat → List Int) (k : IntKind) (a b : SE), (SE.bin 5 k a b).eval σ = (a.eval σ).emod (b.eval σ)) ∧ (∀ x : Int, x * 0 = 0) ∧ (∀ x : Int, x - 0 = x) ∧ (-(0 : Int) = 0) := ⟨by intros; rfl, Int.mul_zero, Int.sub_zero, rfl⟩
theorem bn9 {x n : Int} (h : 0 < n) : (0 ≤ x.tmod n → x.emod n = x.tmod n) ∧ (x.tmod n < 0 → x.emod n = x.tmod n + n) ∧ -n < x.tmod n ∧ x.tmod n < n := by
 have e : x.emod n = x % n := rfl
 have q := Int.emod_nonneg x (show n ≠ 0 by omega)
 have q2 := Int.emod_lt_of_pos x h
 by_cases hx : 0 ≤ x
 ·have t : x.tmod n = x % n := Int.tmod_eq_emod_of_nonneg hx
  rw [e, t]; exact ⟨fun _ => rfl, by omega, by omega, by omega⟩
 ·obtain ⟨y, rfl⟩ : ∃ y, x = -y := ⟨-x, by omega⟩
  have t : (-y).tmod n = -(y % n) := by rw [Int.neg_tmod, Int.tmod_eq_emod_of_nonneg (show 0 ≤ y by omega)]
  have r := Int.emod_nonneg y (show n ≠ 0 by omega)
  have r2 := Int.emod_lt_of_pos y h
  have d := Int.mul_ediv_add_emod y n
  have d2 := Int.mul_ediv_add_emod (-y) n
  rw [e, t]
  refine ⟨fun hh => ?_, fun hh => ?_, by omega, by omega⟩
  ·have z : y % n = 0 := by omega
   have : n ∣ -y := Int.dvd_neg.2 (Int.dvd_of_emod_eq_zero z)
   rw [Int.emod_eq_zero_of_dvd this, z]; rfl
  ·rw [Int.neg_emod, if_neg]
   ·rw [show (n.natAbs : Int) = n by omega]; omega
   ·intro hd
    have := Int.emod_eq_zero_of_dvd hd
    omega
section
variable {σ : Nat → List Int}
theorem bm1 (h : SAll σ au6) : 1 ≤ (σ 2).headD 0 ∧ (σ 2).headD 0 ≤ 100000 := by
 simp only [sall_cons, sE, sF, evs] at h
 exact ⟨h.1, h.2.1⟩
end
def bpy [Gv] : Prop := (SAll Gv.σ [] → br 11 bm0 256 bmx bmz 256 bmy)
theorem bi6 [Gv] (hI : SAll Gv.σ au6) : bpy := by
 obtain ⟨l1, l2⟩ := bm1 hI
 obtain ⟨q1, q2, q3, q4⟩ := bn9 (x := (Gv.σ 1).headD 0) (n := (Gv.σ 2).headD 0) (by omega)
 have hI := zT7 hI (.c 0) (.v 2)
 have hI := zN7 hI (.v 2) (.c 0)
 rcases zl7 hI au7 (.c 0) with ⟨hI, k3⟩ | ⟨hI, k3⟩
 ·have u := l1
  exact zm [] (.i (.bin 0 .i64 au7 (.v 2)) au5 .nil) aq al hI ze3
 ·have u := l1
  exact zm [] (.i au7 au5 .nil) aq al hI ze3
theorem bft [Gv] : bo bmw := fun σ _ hA _ => (@bi6 ⟨σ⟩  (cm hA).1) (cm hA).2
def bpg [Gv] : Prop := (SAll Gv.σ [] → br 28 bkp 256 bkm bko 257 bkn)
theorem biv [Gv] (hI : SAll Gv.σ []) : bpg := by
 exact zm0 [] aq al hI
theorem a4w [Gv] : bo bed := fun σ _ hA _ => (@biv ⟨σ⟩  (cm hA).1) (cm hA).2
def bpq [Gv] : Prop := (SAll Gv.σ [] → br 30 bmm 256 bmj bml 260 bmk)
theorem bi4 [Gv] (hI : SAll Gv.σ []) : bpq := by
 exact fun hC => ak (n := 2000) (T := [(256, 258), (257, 256), (382, 257)]) (E := (.g (.cat (.one (.c 61)) (.cat (.one (.c 27)) (.cat (.lit 27 40921301388373393901266083601415623805023030494395681591402262382) (.cat (.one (.c 60)) (.cat (.one (.c 16)) (.cat (.lit 16 130873919237818497454574540560026987641) (.cat (.one (.c 59)) (.cat (.one (.c 10)) (.cat (.lit 10 554645564019283999223666) (.cat (.one (.c 58)) (.cat (.one (.c 14)) (.cat (.lit 14 2138404743268917599816109472970864) (.cat (.one (.c 57)) (.cat (.one (.c 13)) (.cat (.lit 13 9142614481120370773387966702948) (.cat (.one (.c 56)) (.cat (.one (.c 13)) (.cat (.lit 13 8036208872164450487963119674738) (.cat (.one (.c 55)) (.cat (.one (.c 19)) (.cat (.lit 19 2194306559561233339480094508905273046698714482) (.cat (.one (.c 54)) (.cat (.one (.c 14)) (.cat (.lit 14 2360798837088724829763814128774265) (.cat (.one (.c 53)) (.cat (.one (.c 11)) (.cat (.lit 11 132251892078482770005159020) (.cat (.one (.c 52)) (.cat (.one (.c 22)) (.cat (.lit 22 37964533983826296352995798791071340672472487022915175) (.cat (.one (.c 51)) (.cat (.one (.c 13)) (.cat (.lit 13 7876222302167207231190018388852) (.cat (.one (.c 50)) (.cat (.one (.c 11)) (.cat (.lit 11 122622816042548377873378405) (.cat (.one (.c 49)) (.cat (.one (.c 19)) (.cat (.lit 19 2351200880115526969479425374119979311791628664) (.cat (.one (.c 48)) (.cat (.one (.c 16)) (.cat (.lit 16 140142493254871783820688370579714699118) (.cat (.one (.c 47)) (.cat (.one (.c 8)) (.cat (.lit 8 7957628971446985576) (.cat (.one (.c 46)) (.cat (.one (.c 16)) (.cat (.lit 16 153388003480587613335266858083767381620) (.cat (.one (.c 45)) (.cat (.one (.c 14)) (.cat (.lit 14 2260727785469235662364888815267698) (.cat (.one (.c 44)) (.cat (.one (.c 11)) (.cat (.lit 11 117806099577798128716377970) (.cat (.one (.c 43)) (.cat (.one (.c 17)) (.cat (.lit 17 33159458725503807014831810376311545685861) (.cat (.one (.c 42)) (.cat (.one (.c 25)) (.cat (.lit 25 749781051372049293057386538801311032636779409818639984915571) (.cat (.one (.c 41)) (.cat (.one (.c 19)) (.cat (.lit 19 2663757397314901095382322954879158356550184564) (.cat (.one (.c 40)) (.cat (.one (.c 13)) (.cat (.lit 13 9383403423058555373549009858414) (.cat (.one (.c 39)) (.cat (.one (.c 13)) (.cat (.lit 13 9383403423059702669977579580517) (.cat (.one (.c 38)) (.cat (.one (.c 4)) (.cat (.lit 4 1903520116) (.cat (.one (.c 37)) (.cat (.one (.c 5)) (.cat (.lit 5 435711799154) (.cat (.one (.c 36)) (.cat (.one (.c 6)) (.cat (.lit 6 126896544047468) (.cat (.one (.c 35)) (.cat (.one (.c 5)) (.cat (.lit 5 499968536439) (.cat (.one (.c 34)) (.cat (.one (.c 4)) (.cat (.lit 4 1702257004) (.cat (.one (.c 33)) (.cat (.one (.c 4)) (.cat (.lit 4 1835102307) (.cat (.one (.c 32)) (.cat (.one (.c 6)) (.cat (.lit 6 120265264816498) (.cat (.one (.c 31)) (.cat (.one (.c 5)) (.cat (.lit 5 418498243705) (.cat (.one (.c 30)) (.cat (.one (.c 7)) (.cat (.lit 7 28839564598668396) (.cat (.one (.c 29)) (.cat (.one (.c 11)) (.cat (.lit 11 127458818504976499584104037) (.cat (.one (.c 28)) (.cat (.one (.c 8)) (.cat (.lit 8 7234300996411945583) (.cat (.one (.c 27)) (.cat (.one (.c 5)) (.cat (.lit 5 431197943150) (.cat (.one (.c 26)) (.cat (.one (.c 8)) (.cat (.lit 8 7234300953697874804) (.cat (.one (.c 25)) (.cat (.one (.c 6)) (.cat (.lit 6 110386673508722) (.cat (.one (.c 24)) (.cat (.one (.c 14)) (.cat (.lit 14 2016787041542256923290239124992869) (.cat (.one (.c 23)) (.cat (.one (.c 14)) (.cat (.lit 14 2381793977678502578102143874851700) (.cat (.one (.c 22)) (.cat (.one (.c 5)) (.cat (.lit 5 426836779880) (.cat (.one (.c 21)) (.cat (.one (.c 4)) (.cat (.lit 4 1818588202) (.cat (.one (.c 20)) (.cat (.one (.c 3)) (.cat (.lit 3 7103860) (.cat (.one (.c 19)) (.cat (.one (.c 4)) (.cat (.lit 4 1936028785) (.cat (.one (.c 18)) (.cat (.one (.c 5)) (.cat (.lit 5 482956240689) (.cat (.one (.c 17)) (.cat (.one (.c 5)) (.cat (.lit 5 482956240750) (.cat (.one (.c 16)) (.cat (.one (.c 5)) (.cat (.lit 5 512852847717) (.cat (.one (.c 15)) (.cat (.one (.c 2)) (.cat (.lit 2 28530) (.cat (.one (.c 14)) (.cat (.one (.c 3)) (.cat (.lit 3 6385252) (.cat (.one (.c 13)) (.cat (.one (.c 4)) (.cat (.lit 4 1668247140) (.cat (.one (.c 12)) (.cat (.one (.c 2)) (.cat (.lit 2 26982) (.cat (.one (.c 11)) (.cat (.one (.c 9)) (.cat (.lit 9 709006320932754448748) (.cat (.one (.c 10)) (.cat (.one (.c 5)) (.cat (.lit 5 165128008564) (.cat (.one (.c 9)) (.cat (.one (.c 5)) (.cat (.lit 5 469785342575) (.cat (.one (.c 8)) (.cat (.one (.c 7)) (.cat (.lit 7 27985248628601445) (.cat (.one (.c 7)) (.cat (.one (.c 6)) (.cat (.lit 6 119165702792289) (.cat (.one (.c 6)) (.cat (.one (.c 2)) (.cat (.lit 2 11328) (.cat (.one (.c 5)) (.cat (.one (.c 1)) (.cat (.lit 1 44) (.cat (.one (.c 4)) (.cat (.one (.c 1)) (.cat (.lit 1 96) (.cat (.one (.c 3)) (.cat (.one (.c 8)) (.cat (.lit 8 7382928537577680750) (.cat (.one (.c 2)) (.cat (.one (.c 5)) (.cat (.lit 5 487301543013) (.cat (.one (.c 1)) (.cat (.one (.c 1)) (.cat (.lit 1 116) (.cat (.one (.c 0)) (.cat (.one (.c 3)) (.lit 3 7235948)))))))))))))))))))))))))))))))))))))))))))))))))))))))))))))))))))))))))))))))))))))))))))))))))))))))))))))))))))))))))))))))))))))))))))))))))))))))))))))))))))))))))))))))))))))))))) (.app 109 .nil) .nil)) aq al hI (by exact ⟨by kernel_rfl, trivial⟩) rfl rfl (by kernel_rfl)
theorem bfm [Gv] : bo bmi := fun σ _ hA _ => (@bi4 ⟨σ⟩  (cm hA).1) (cm hA).2
end Go.Ev
