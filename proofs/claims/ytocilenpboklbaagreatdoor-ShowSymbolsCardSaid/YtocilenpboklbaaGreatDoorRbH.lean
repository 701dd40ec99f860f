import Derived.Test.YtocilenpboklbaaGreatDoorRcP
set_option maxRecDepth 100000
set_option linter.all false
namespace Go.Ev
abbrev da : SE := .app 114 (.g (.s 3) .nil)
abbrev ce : SE := .app 113 (.g (.s 3) .nil)
abbrev axv : List SA := [.mk true (.len (.s 3)) (.c 1) false, .mk true (.c 4000) (.len (.s 3)) false]
abbrev axw : AL := .g (.s 3) (.i (.c 0) .nil)
abbrev axx : GE := .app 6 axw
abbrev aeg : SE := .len axx
abbrev aqb : SE := .bin 6 .i64 (.v 6) aeg
abbrev axy : GE := .cat (.s 10) axx
abbrev xa : List SA := [.mk true (.c 4000) (.len (.s 3)) false, .mk false (.v 6) (.len (.s 10)) true, .mk true (.v 6) (.c 1) false, .mk true (.c 8000) (.bin 6 .i64 (.v 6) (.len (.s 3))) false]
abbrev acm : SE := .app 50 (.g (.s 3) .nil)
abbrev acn : List SA := [.mk false acm (.c 1) true]
abbrev o8 : List SA := [.mk false acm (.c 1) false]
abbrev ld : List SA := [.mk true (.c 4000) (.len (.s 3)) false]
abbrev agq : List SA := [.mk true (.len (.s 3)) (.c 1) true]
abbrev agr : List SA := [.mk false acm (.c 1) true, .mk true (.len (.s 3)) (.c 1) false]
abbrev jn : SE := .bin 0 .i64 (.rd (.s 3) (.c 0)) (.c 0)
abbrev uy : SE := .rd (.s 3) (.c 1)
abbrev ap8 : SE := .bin 0 .i64 uy (.c 0)
abbrev aco : SE := .rd (.s 3) (.c 2)
abbrev a2s : SE := .bin 0 .i64 aco (.c 0)
abbrev uz : SE := .bin 1 .i64 (.bin 0 .i64 (.bin 2 .i64 (.bin 1 .i64 (.bin 0 .i64 (.bin 2 .i64 (.bin 1 .i64 jn (.c 224)) (.c 64)) ap8) (.c 128)) (.c 64)) a2s) (.c 128)
abbrev yk : SE := .bin 1 .i64 (.bin 0 .i64 (.bin 2 .i64 (.bin 1 .i64 (.bin 0 .i64 (.bin 2 .i64 (.bin 1 .i64 (.bin 0 .i64 (.bin 2 .i64 (.bin 1 .i64 jn (.c 240)) (.c 64)) ap8) (.c 128)) (.c 64)) a2s) (.c 128)) (.c 64)) (.bin 0 .i64 (.rd (.s 3) (.c 3)) (.c 0))) (.c 128)
abbrev acp : SE := .bin 6 .i64 (.v 6) (.c 1)
abbrev ap9 : GE := .cut (.s 3) ce (.len (.s 3))
abbrev rq : SE := .len ap9
abbrev a2t : SE := .app 50 (.g ap9 .nil)
abbrev aqa : GE := .app 6 (.g ap9 (.i (.c 0) .nil))
abbrev a2u : SE := .len aqa
abbrev a2v : GE := .one da
noncomputable section
def brc : List AV := [.gv (.str (.s 3) [])]
def bra : List HO := []
def brb : List HO := []
def bma : TR := .ret (.tuple [.sym .i64 da [], .sym .i64 ce []])
def bq9 : TM := .mk 105 brc 256 bra (axv ++ []) none bma 256 brb
def mS3 : SE := .len (.s 3)
def ro3 (k : Nat) (n : SE) (g : GE) : HO := .mk k (.gob (.gh 3 [.i64] n g))
def a44 : List AV := (.gv (.str (.s 3) []) :: .top :: .top :: .top :: .gv (.sl (K.of 256) 1 (.v 6) []) :: tps 20)
def a43 : List HO := [ro3 256 (.v 6) (.s 10)]
def a8t : List HO := [ro3 257 aqb axy]
def a8u : LR := (.x 0 (.top :: .top :: .top :: .top :: .gv (.sl (K.of 257) 1 aqb []) :: tps 20))
def bqo (m : SE) : LT := .mk 57 5 a44 257 a43 (xa ++ acn) (some (mS3, m)) a8u 258 a8t
def bir : LT := .mk 57 5 a44 257 a43 (xa ++ acn) none a8u 258 a8t
def a8r : List HO := []
def a8s : LR := (.r (.top :: .top :: .nilSlice :: .int .i64 5 :: tps 21))
def bqn (m : SE) : LT := .mk 57 5 a44 257 a43 (xa ++ o8) (some (mS3, m)) a8s 258 a8r
def biq : LT := .mk 57 5 a44 257 a43 (xa ++ o8) none a8s 258 a8r
def a42 : List AV := (.gv (.str (.s 3) []) :: .top :: .top :: .top :: .nilSlice :: tps 20)
def a41 : List HO := []
def bio : List HO := []
def bip : LR := (.x 0 (.top :: .top :: .top :: .top :: .nilSlice :: tps 20))
def bim : LT := .mk 57 5 a42 256 a41 (ld ++ agq) none bip 258 bio
def bik : List HO := [ro3 257 aeg (.app 6 axw)]
def bil : LR := (.x 0 (.top :: .top :: .top :: .top :: .gv (.sl (K.of 257) 1 aeg []) :: tps 20))
def bij : LT := .mk 57 5 a42 256 a41 (ld ++ agr) none bil 258 bik
def bih : List HO := []
def bii : LR := (.r (.top :: .top :: .nilSlice :: .int .i64 5 :: tps 21))
def bie : LT := .mk 57 5 a42 256 a41 (ld ++ o8) none bii 258 bih
def a47 : List AV := [.gv (.str (.s 3) [])]
def a45 : List HO := []
def bix : List HO := []
def biy : TR := .ret (.tuple [.nilSlice, .int .i64 0])
def a8z : TM := .mk 57 a47 256 a45 (ld ++ agq) none biy 258 bix
def biv : List HO := [ro3 257 aeg (.app 6 axw)]
def biw : TR := .ret (.tuple [.gv (.sl (K.of 257) 1 aeg []), .int .i64 0])
def a8y : TM := .mk 57 a47 256 a45 (ld ++ agr) none biw 258 biv
def bis : List HO := []
def biu : TR := .ret (.tuple [.nilSlice, .int .i64 5])
def a8x : TM := .mk 57 a47 256 a45 (ld ++ o8) none biu 258 bis
def bgi : List AV := [.gv (.str (.s 3) [])]
def bgg : List HO := []
def bkh : List HO := []
def bki : TR := .ret (.bool true)
def bkg : TM := .mk 20 bgi 256 bgg (ld ++ acn) none bki 258 bkh
def bke : List HO := []
def bkf : TR := .ret (.bool false)
def bkd : TM := .mk 20 bgi 256 bgg (ld ++ o8) none bkf 258 bke
end
section
variable {σ : Nat → List Int}
theorem bmb (h : SAll σ axv) : 1 ≤ ((σ 3).length : Int) ∧ ((σ 3).length : Int) ≤ 4000 := by
 simp only [sall_cons, sF, evs] at h
 exact ⟨h.1, h.2.1⟩
theorem a77 (h : SAll σ ld) : ((σ 3).length : Int) ≤ 4000 := by
 simp only [sall_cons, sF, evs] at h
 exact h.1
theorem blv (h : SAll σ xa) : ((σ 3).length : Int) ≤ 4000 ∧ (σ 6).headD 0 = ((σ 10).length : Int) ∧ 1 ≤ (σ 6).headD 0 ∧ (σ 6).headD 0 + ((σ 3).length : Int) ≤ 8000 := by
 simp only [sall_cons, sF, sE, evs] at h
 exact ⟨h.1, h.2.1, h.2.2.1, h.2.2.2.1⟩
end
theorem tn : Int.toNat 1 = 1 ∧ Int.toNat 2 = 2 ∧ Int.toNat 3 = 3 := ⟨rfl, rfl, rfl⟩
theorem jy (s : List Int) : s.take (s.length : Int).toNat = s := by rw [Int.toNat_natCast, List.take_length]
theorem bdf (s : List Int) : akm s ↔ drJ s 0 = 65533 ∧ dwJ s 0 ≤ 1 := by
 have h1 := Lib.decodeL_width (u8L s)
 rw [a4g, avf]
 unfold akm
 omega
theorem bfg {s : List Int} (h : 0 < (s.length : Int)) : 0 ≤ ptN s ∧ ptN s ≤ (s.length : Int) ∧ (¬ ptN s = 0 ↔ ¬ akm s) ∧ (¬ akm s → ptN s = ((Lib.decodeL (u8L s)).2 : Int) ∧ ptC s = drJ s 0) := by
 have h1 := Lib.decodeL_width (u8L s)
 have h2 := Lib.decodeL_le (u8L s) (by intro e; have := congrArg List.length e; rw [ajz, zS] at this; omega)
 rw [ajz] at h2
 have h3 : dwJ s 0 = ((Lib.decodeL (u8L s)).2 : Int) := rfl
 unfold ptN ptC
 rw [bdf]
 by_cases hc : drJ s 0 = 65533 ∧ dwJ s 0 ≤ 1
 ·rw [if_pos hc]; exact ⟨by omega, by omega, ⟨fun x => absurd rfl x, fun x => absurd hc x⟩, fun x => absurd hc x⟩
 ·rw [if_neg hc, if_neg hc]; exact ⟨by omega, by omega, ⟨fun _ => hc, fun _ => by omega⟩, fun _ => ⟨h3, rfl⟩⟩
theorem bre (s : List Int) (h : 0 < (s.length : Int)) : (ptN s = 0 → ¬ ar s = 1) ∧ (¬ ptN s = 0 → (ar s = 1 ↔ ar (s.drop (ptN s).toNat) = 1)) := by
 have hs : s ≠ [] := by rintro rfl; simp at h
 obtain ⟨b1, b2, b3, b4⟩ := bfg h
 rw [ut hs]
 by_cases hc : akm s
 ·exact ⟨fun _ x => x.1 hc, fun x => absurd hc (b3.1 x)⟩
 ·obtain ⟨e1, e2⟩ := b4 hc
  have e3 : (ptN s).toNat = (Lib.decodeL (u8L s)).2 := by omega
  rw [e3]
  exact ⟨fun x => absurd x (b3.2 hc), fun _ => ⟨fun x => x.2, fun x => ⟨hc, x⟩⟩⟩
theorem brd (s : List Int) (h : 0 < (s.length : Int)) (h0 : ¬ ptN s = 0) : ae s 0 = ptC s :: ae (s.drop (ptN s).toNat) 0 := by
 have hs : s ≠ [] := by rintro rfl; simp at h
 obtain ⟨b1, b2, b3, b4⟩ := bfg h
 obtain ⟨e1, e2⟩ := b4 (b3.1 h0)
 have e3 : (ptN s).toNat = (Lib.decodeL (u8L s)).2 := by omega
 rw [e3, e2, ir hs]
theorem ab5 {s : List Int} (h : (s.length : Int) ≤ 0) : ar s = 1 ∧ ae s 0 = [] := by
 have : s = [] := List.eq_nil_of_length_eq_zero (by omega)
 subst this
 exact ⟨rfl, rfl⟩
theorem bop {σ : Nat → List Int} (g : GE) : 0 < (SE.len g).eval σ → 0 ≤ (SE.app 113 (.g g .nil)).eval σ ∧ (SE.app 113 (.g g .nil)).eval σ ≤ (SE.len g).eval σ := fun h => ⟨(bfg h).1, (bfg h).2.1⟩
theorem bgc {s : List Int} (h : (s.length : Int) ≤ 0) : ar s = 1 := (ab5 h).1
def bzx [Gv] : Prop := (SAll Gv.σ [] → aq 105 brc 256 bra bma 256 brb)
theorem bo5 [Gv] (hB : ax (Gv.σ 3)) (hI : SAll Gv.σ axv) : bzx := by
 obtain ⟨hl1, hl2⟩ := bmb hI
 have r0 := o0 hB 0; have r1 := o0 hB 1; have r2 := o0 hB 2; have r3 := o0 hB 3
 have hI := ayo hI (.c 0) (.len (.s 3))
 rcases mw hI jn (.c 128) with ⟨hI, k2⟩ | ⟨hI, k2⟩
 ·have u := r0
  exact fun hC => ag (n := 2000) (T := []) (E := (.i jn da (.i (.c 1) ce .nil))) ab ac hI (by simp (disch := omega) only [EqL.all, and_true, evs, evx, wr, tn]; have hps := cj hB (by omega); omega) rfl rfl (by kernel_rfl)
 ·rcases mw hI jn (.c 194) with ⟨hI, k3⟩ | ⟨hI, k3⟩
  ·have hI := ayo hI jn (.c 224)
   have hI := ayo hI jn (.c 240)
   have u := r0
   exact fun hC => ag (n := 2000) (T := []) (E := (.i (.c 0) da (.i (.c 0) ce .nil))) ab ac hI (by simp (disch := omega) only [EqL.all, and_true, evs, evx, wr, tn]; have hps := cj hB (by omega); omega) rfl rfl (by kernel_rfl)
  ·rcases mw hI jn (.c 224) with ⟨hI, k4⟩ | ⟨hI, k4⟩
   ·rcases mw hI (.c 1) (.len (.s 3)) with ⟨hI, k5⟩ | ⟨hI, k5⟩
    ·rcases mw hI uy (.c 128) with ⟨hI, k6⟩ | ⟨hI, k6⟩
     ·have hI := ayo hI jn (.c 240)
      have u := r0
      exact fun hC => ag (n := 2000) (T := []) (E := (.i (.c 0) da (.i (.c 0) ce .nil))) ab ac hI (by simp (disch := omega) only [EqL.all, and_true, evs, evx, wr, tn]; have hps := cj hB (by omega); omega) rfl rfl (by kernel_rfl)
     ·rcases mw hI uy (.c 192) with ⟨hI, k7⟩ | ⟨hI, k7⟩
      ·have u := r0
       exact fun hC => ag (n := 2000) (T := []) (E := (.i (.bin 1 .i64 (.bin 0 .i64 (.bin 2 .i64 (.bin 1 .i64 jn (.c 192)) (.c 64)) ap8) (.c 128)) da (.i (.c 2) ce .nil))) ab ac hI (by simp (disch := omega) only [EqL.all, and_true, evs, evx, wr, tn]; have hps := cj hB (by omega); omega) rfl rfl (by kernel_rfl)
      ·have hI := ayo hI jn (.c 240)
       have u := r0
       exact fun hC => ag (n := 2000) (T := []) (E := (.i (.c 0) da (.i (.c 0) ce .nil))) ab ac hI (by simp (disch := omega) only [EqL.all, and_true, evs, evx, wr, tn]; have hps := cj hB (by omega); omega) rfl rfl (by kernel_rfl)
    ·have hI := ayo hI jn (.c 240)
     have u := r0
     exact fun hC => ag (n := 2000) (T := []) (E := (.i (.c 0) da (.i (.c 0) ce .nil))) ab ac hI (by simp (disch := omega) only [EqL.all, and_true, evs, evx, wr, tn]; have hps := cj hB (by omega); omega) rfl rfl (by kernel_rfl)
   ·rcases mw hI jn (.c 240) with ⟨hI, k5⟩ | ⟨hI, k5⟩
    ·rcases mw hI (.c 1) (.len (.s 3)) with ⟨hI, k6⟩ | ⟨hI, k6⟩
     ·rcases mw hI uy (.c 128) with ⟨hI, k7⟩ | ⟨hI, k7⟩
      ·have u := r0
       exact fun hC => ag (n := 2000) (T := []) (E := (.i (.c 0) da (.i (.c 0) ce .nil))) ab ac hI (by simp (disch := omega) only [EqL.all, and_true, evs, evx, wr, tn]; have hps := cj hB (by omega); omega) rfl rfl (by kernel_rfl)
      ·rcases mw hI uy (.c 192) with ⟨hI, k8⟩ | ⟨hI, k8⟩
       ·rcases mw hI (.c 2) (.len (.s 3)) with ⟨hI, k9⟩ | ⟨hI, k9⟩
        ·rcases mw hI aco (.c 128) with ⟨hI, k10⟩ | ⟨hI, k10⟩
         ·have u := r0
          exact fun hC => ag (n := 2000) (T := []) (E := (.i (.c 0) da (.i (.c 0) ce .nil))) ab ac hI (by simp (disch := omega) only [EqL.all, and_true, evs, evx, wr, tn]; have hps := cj hB (by omega); omega) rfl rfl (by kernel_rfl)
         ·rcases mw hI aco (.c 192) with ⟨hI, k11⟩ | ⟨hI, k11⟩
          ·rcases mw hI uz (.c 2048) with ⟨hI, k12⟩ | ⟨hI, k12⟩
           ·have u := r0
            exact fun hC => ag (n := 2000) (T := []) (E := (.i (.c 0) da (.i (.c 0) ce .nil))) ab ac hI (by simp (disch := omega) only [EqL.all, and_true, evs, evx, wr, tn]; have hps := cj hB (by omega); omega) rfl rfl (by kernel_rfl)
           ·have hI := bht hI uz (.c 0)
            have hI := bht hI (.c 1114111) uz
            rcases mw hI uz (.c 55296) with ⟨hI, k15⟩ | ⟨hI, k15⟩
            ·have u := r0
             exact fun hC => ag (n := 2000) (T := []) (E := (.i uz da (.i (.c 3) ce .nil))) ab ac hI (by simp (disch := omega) only [EqL.all, and_true, evs, evx, wr, tn]; have hps := cj hB (by omega); omega) rfl rfl (by kernel_rfl)
            ·rcases mw hI (.c 57343) uz with ⟨hI, k16⟩ | ⟨hI, k16⟩
             ·have u := r0
              exact fun hC => ag (n := 2000) (T := []) (E := (.i uz da (.i (.c 3) ce .nil))) ab ac hI (by simp (disch := omega) only [EqL.all, and_true, evs, evx, wr, tn]; have hps := cj hB (by omega); omega) rfl rfl (by kernel_rfl)
             ·have u := r0
              exact fun hC => ag (n := 2000) (T := []) (E := (.i (.c 0) da (.i (.c 0) ce .nil))) ab ac hI (by simp (disch := omega) only [EqL.all, and_true, evs, evx, wr, tn]; have hps := cj hB (by omega); omega) rfl rfl (by kernel_rfl)
          ·have u := r0
           exact fun hC => ag (n := 2000) (T := []) (E := (.i (.c 0) da (.i (.c 0) ce .nil))) ab ac hI (by simp (disch := omega) only [EqL.all, and_true, evs, evx, wr, tn]; have hps := cj hB (by omega); omega) rfl rfl (by kernel_rfl)
        ·have u := r0
         exact fun hC => ag (n := 2000) (T := []) (E := (.i (.c 0) da (.i (.c 0) ce .nil))) ab ac hI (by simp (disch := omega) only [EqL.all, and_true, evs, evx, wr, tn]; have hps := cj hB (by omega); omega) rfl rfl (by kernel_rfl)
       ·have u := r0
        exact fun hC => ag (n := 2000) (T := []) (E := (.i (.c 0) da (.i (.c 0) ce .nil))) ab ac hI (by simp (disch := omega) only [EqL.all, and_true, evs, evx, wr, tn]; have hps := cj hB (by omega); omega) rfl rfl (by kernel_rfl)
     ·have u := r0
      exact fun hC => ag (n := 2000) (T := []) (E := (.i (.c 0) da (.i (.c 0) ce .nil))) ab ac hI (by simp (disch := omega) only [EqL.all, and_true, evs, evx, wr, tn]; have hps := cj hB (by omega); omega) rfl rfl (by kernel_rfl)
    ·rcases mw hI jn (.c 245) with ⟨hI, k6⟩ | ⟨hI, k6⟩
     ·rcases mw hI (.c 1) (.len (.s 3)) with ⟨hI, k7⟩ | ⟨hI, k7⟩
      ·rcases mw hI uy (.c 128) with ⟨hI, k8⟩ | ⟨hI, k8⟩
       ·have u := r0
        exact fun hC => ag (n := 2000) (T := []) (E := (.i (.c 0) da (.i (.c 0) ce .nil))) ab ac hI (by simp (disch := omega) only [EqL.all, and_true, evs, evx, wr, tn]; have hps := cj hB (by omega); omega) rfl rfl (by kernel_rfl)
       ·rcases mw hI uy (.c 192) with ⟨hI, k9⟩ | ⟨hI, k9⟩
        ·rcases mw hI (.c 2) (.len (.s 3)) with ⟨hI, k10⟩ | ⟨hI, k10⟩
         ·rcases mw hI aco (.c 128) with ⟨hI, k11⟩ | ⟨hI, k11⟩
          ·have u := r0
           exact fun hC => ag (n := 2000) (T := []) (E := (.i (.c 0) da (.i (.c 0) ce .nil))) ab ac hI (by simp (disch := omega) only [EqL.all, and_true, evs, evx, wr, tn]; have hps := cj hB (by omega); omega) rfl rfl (by kernel_rfl)
          ·rcases mw hI aco (.c 192) with ⟨hI, k12⟩ | ⟨hI, k12⟩
           ·rcases mw hI (.c 3) (.len (.s 3)) with ⟨hI, k13⟩ | ⟨hI, k13⟩
            ·rcases mw hI (.rd (.s 3) (.c 3)) (.c 128) with ⟨hI, k14⟩ | ⟨hI, k14⟩
             ·have u := r0
              exact fun hC => ag (n := 2000) (T := []) (E := (.i (.c 0) da (.i (.c 0) ce .nil))) ab ac hI (by simp (disch := omega) only [EqL.all, and_true, evs, evx, wr, tn]; have hps := cj hB (by omega); omega) rfl rfl (by kernel_rfl)
             ·rcases mw hI (.rd (.s 3) (.c 3)) (.c 192) with ⟨hI, k15⟩ | ⟨hI, k15⟩
              ·rcases mw hI yk (.c 65536) with ⟨hI, k16⟩ | ⟨hI, k16⟩
               ·have u := r0
                exact fun hC => ag (n := 2000) (T := []) (E := (.i (.c 0) da (.i (.c 0) ce .nil))) ab ac hI (by simp (disch := omega) only [EqL.all, and_true, evs, evx, wr, tn]; have hps := cj hB (by omega); omega) rfl rfl (by kernel_rfl)
               ·have hI := bht hI yk (.c 0)
                rcases mw hI (.c 1114111) yk with ⟨hI, k18⟩ | ⟨hI, k18⟩
                ·have u := r0
                 exact fun hC => ag (n := 2000) (T := []) (E := (.i (.c 0) da (.i (.c 0) ce .nil))) ab ac hI (by simp (disch := omega) only [EqL.all, and_true, evs, evx, wr, tn]; have hps := cj hB (by omega); omega) rfl rfl (by kernel_rfl)
                ·have hI := bht hI yk (.c 55296)
                 have hI := ayo hI (.c 57343) yk
                 have u := r0
                 exact fun hC => ag (n := 2000) (T := []) (E := (.i yk da (.i (.c 4) ce .nil))) ab ac hI (by simp (disch := omega) only [EqL.all, and_true, evs, evx, wr, tn]; have hps := cj hB (by omega); omega) rfl rfl (by kernel_rfl)
              ·have u := r0
               exact fun hC => ag (n := 2000) (T := []) (E := (.i (.c 0) da (.i (.c 0) ce .nil))) ab ac hI (by simp (disch := omega) only [EqL.all, and_true, evs, evx, wr, tn]; have hps := cj hB (by omega); omega) rfl rfl (by kernel_rfl)
            ·have u := r0
             exact fun hC => ag (n := 2000) (T := []) (E := (.i (.c 0) da (.i (.c 0) ce .nil))) ab ac hI (by simp (disch := omega) only [EqL.all, and_true, evs, evx, wr, tn]; have hps := cj hB (by omega); omega) rfl rfl (by kernel_rfl)
           ·have u := r0
            exact fun hC => ag (n := 2000) (T := []) (E := (.i (.c 0) da (.i (.c 0) ce .nil))) ab ac hI (by simp (disch := omega) only [EqL.all, and_true, evs, evx, wr, tn]; have hps := cj hB (by omega); omega) rfl rfl (by kernel_rfl)
         ·have u := r0
          exact fun hC => ag (n := 2000) (T := []) (E := (.i (.c 0) da (.i (.c 0) ce .nil))) ab ac hI (by simp (disch := omega) only [EqL.all, and_true, evs, evx, wr, tn]; have hps := cj hB (by omega); omega) rfl rfl (by kernel_rfl)
        ·have u := r0
         exact fun hC => ag (n := 2000) (T := []) (E := (.i (.c 0) da (.i (.c 0) ce .nil))) ab ac hI (by simp (disch := omega) only [EqL.all, and_true, evs, evx, wr, tn]; have hps := cj hB (by omega); omega) rfl rfl (by kernel_rfl)
      ·have u := r0
       exact fun hC => ag (n := 2000) (T := []) (E := (.i (.c 0) da (.i (.c 0) ce .nil))) ab ac hI (by simp (disch := omega) only [EqL.all, and_true, evs, evx, wr, tn]; have hps := cj hB (by omega); omega) rfl rfl (by kernel_rfl)
     ·have u := r0
      exact fun hC => ag (n := 2000) (T := []) (E := (.i (.c 0) da (.i (.c 0) ce .nil))) ab ac hI (by simp (disch := omega) only [EqL.all, and_true, evs, evx, wr, tn]; have hps := cj hB (by omega); omega) rfl rfl (by kernel_rfl)
theorem bmc [Gv] : bj bq9 := fun σ _ hA _ => by
 show @aq ⟨σ⟩ 105 (.gv (.str (.s 3) []) :: []) 256 [] bma 256 []
 exact @a7s ⟨σ⟩ _ _ _ _ _ _ _ _ fun hB => @bo5 ⟨σ⟩ hB (ap hA).1 (ap hA).2
theorem asv [Gv] : ∀ t ∈ [bq9], bj t := gg bmc
def blu [Gv] : Prop := (SAll Gv.σ acn → b8 57 5 a44 257 a43 a8u 258 a8t) ∧ (SAll Gv.σ o8 → b8 57 5 a44 257 a43 a8s 258 a8r)
theorem bo0 [Gv] (hh : ∀ t ∈ [bqo mS3, bqn mS3], be t) (hI : SAll Gv.σ xa) : blu := by
 obtain ⟨l1, l2, l3, l4⟩ := blv hI
 have dz : 0 < ((Gv.σ 3).length : Int) → ¬ ptN (Gv.σ 3) = 0 → ae (Gv.σ 3) 0 = _ := fun h h0 => brd (Gv.σ 3) h h0
 have dn : ((Gv.σ 3).length : Int) ≤ 0 → ar (Gv.σ 3) = 1 := bgc
 have en : ((Gv.σ 3).length : Int) ≤ 0 → ae (Gv.σ 3) 0 = [] := fun h => (ab5 h).2
 have vv := bre (Gv.σ 3)
 rcases bhw hI (.c 0) (.len (.s 3)) with ⟨hI, k1⟩ | ⟨hI, k1⟩
 ·have hI := acy hI (.len (.s 3)) (.c 1)
  have t1 := btz (bop (σ := Gv.σ) (.s 3))
  rcases a6k hI ce (.c 0) with ⟨hI, k3⟩ | ⟨hI, k3⟩
  ·have u := dz
   exact ⟨afm,
    zt0 [] (zh hI asv) (zp hI hh) hI⟩
  ·have hI := acy hI (.c 400000) acp
   have hI := acy hI ce (.c 0)
   have hI := acy hI (.len (.s 3)) ce
   have hI := acy hI (.c 4000) rq
   have hI := b01 hI acp (.bin 6 .i64 (.len (.s 10)) (.c 1))
   have hI := acy hI acp (.c 1)
   have hI := acy hI (.c 8000) (.bin 6 .i64 acp rq)
   rcases a6k hI a2t (.c 1) with ⟨hI, k11⟩ | ⟨hI, k11⟩
   ·have hI := btu hI rq (.len (.s 3))
    have hI := acy hI rq (.c 0)
    have u := dz
    exact ⟨zt [(259, 257)] (.i (.bin 6 .i64 acp a2u) aqb (.g (.cat (.cat (.s 10) a2v) aqa) axy .nil)) (zh hI asv) (zp hI hh) hI bn1,
     afm⟩
   ·have hI := btu hI rq (.len (.s 3))
    have hI := acy hI rq (.c 0)
    have u := dz
    exact ⟨afm,
     zt0 [] (zh hI asv) (zp hI hh) hI⟩
 ·have u := dz
  exact ⟨zt [(256, 257)] (.i (.v 6) aqb (.g (.s 10) axy .nil)) (zh hI asv) (zp hI hh) hI bn1,
   afm⟩
theorem anu : ∀ (B : Nat) (σ : Nat → List Int), SAll σ xa → (mS3).eval σ < (B : Int) → @blu ⟨σ⟩
 | 0, σ, hI, hb => by simp only [mS3, evs] at hb; omega
 | B + 1, σ, hI, hb => by
   have ih : ∀ σ' : Nat → List Int, SAll σ' xa → 0 ≤ (mS3).eval σ' ∧ (mS3).eval σ' < (mS3).eval σ → @blu ⟨σ'⟩ := fun σ' h h' => anu B σ' h (by omega)
   have hh : ∀ t ∈ [bqo (mS3), bqn (mS3)], @be ⟨σ⟩ t := by
    intro t ht
    simp only [List.mem_cons, zH, or_false] at ht
    rcases ht with rfl | rfl
    ·exact fun σ' _ hA hb => (ih σ' (ap hA).1 hb).1 (ap hA).2
    ·exact fun σ' _ hA hb => (ih σ' (ap hA).1 hb).2 (ap hA).2
   exact @bo0 ⟨σ⟩ hh hI
theorem be3 [Gv] : be bir := fun σ _ hA _ => (anu (((mS3).eval σ).toNat + 1) σ (ap hA).1 (by omega)).1 (ap hA).2
theorem be2 [Gv] : be biq := fun σ _ hA _ => (anu (((mS3).eval σ).toNat + 1) σ (ap hA).1 (by omega)).2 (ap hA).2
theorem beb [Gv] : ∀ t ∈ [bir, biq], be t := by
 intro t ht
 simp only [List.mem_cons, zH, or_false] at ht
 rcases ht with rfl | rfl
 ·exact be3
 ·exact be2
def bzi [Gv] : Prop := (SAll Gv.σ agq → b8 57 5 a42 256 a41 bip 258 bio) ∧ (SAll Gv.σ agr → b8 57 5 a42 256 a41 bil 258 bik) ∧ (SAll Gv.σ o8 → b8 57 5 a42 256 a41 bii 258 bih)
theorem a7o [Gv] (hI : SAll Gv.σ ld) : bzi := by
 have l1 := a77 hI
 have dz : 0 < ((Gv.σ 3).length : Int) → ¬ ptN (Gv.σ 3) = 0 → ae (Gv.σ 3) 0 = _ := fun h h0 => brd (Gv.σ 3) h h0
 have dn : ((Gv.σ 3).length : Int) ≤ 0 → ar (Gv.σ 3) = 1 := bgc
 have en : ((Gv.σ 3).length : Int) ≤ 0 → ae (Gv.σ 3) 0 = [] := fun h => (ab5 h).2
 have vv := bre (Gv.σ 3)
 rcases bhw hI (.c 0) (.len (.s 3)) with ⟨hI, k1⟩ | ⟨hI, k1⟩
 ·have hI := acy hI (.len (.s 3)) (.c 1)
  have t1 := btz (bop (σ := Gv.σ) (.s 3))
  rcases a6k hI ce (.c 0) with ⟨hI, k3⟩ | ⟨hI, k3⟩
  ·have u := dz
   exact ⟨afm,
    afm,
    zt0 [] (zh hI asv) (zp hI beb) hI⟩
  ·have hI := acy hI ce (.c 0)
   have hI := acy hI (.len (.s 3)) ce
   have hI := acy hI (.c 4000) rq
   have hI := acy hI (.c 8000) (.bin 6 .i64 (.c 1) rq)
   rcases a6k hI a2t (.c 1) with ⟨hI, k8⟩ | ⟨hI, k8⟩
   ·have u := dz
    exact ⟨afm,
     zt [(258, 257)] (.i (.bin 6 .i64 (.c 1) a2u) aeg (.g (.cat a2v aqa) axx .nil)) (zh hI asv) (zp hI beb) hI bn1,
     afm⟩
   ·have u := dz
    exact ⟨afm,
     afm,
     zt0 [] (zh hI asv) (zp hI beb) hI⟩
 ·have u := dz
  exact ⟨zt0 [] (zh hI asv) (zp hI beb) hI,
   afm,
   afm⟩
theorem be1 [Gv] : be bim := fun σ _ hA _ => (@a7o ⟨σ⟩  (ap hA).1).1 (ap hA).2
theorem be0 [Gv] : be bij := fun σ _ hA _ => (@a7o ⟨σ⟩  (ap hA).1).2.1 (ap hA).2
theorem bez [Gv] : be bie := fun σ _ hA _ => (@a7o ⟨σ⟩  (ap hA).1).2.2 (ap hA).2
theorem bld [Gv] : ∀ t ∈ [bim, bij, bie], be t := by
 intro t ht
 simp only [List.mem_cons, zH, or_false] at ht
 rcases ht with rfl | rfl | rfl
 ·exact be1
 ·exact be0
 ·exact bez
def bzj [Gv] : Prop := (SAll Gv.σ agq → aq 57 a47 256 a45 biy 258 bix) ∧ (SAll Gv.σ agr → aq 57 a47 256 a45 biw 258 biv) ∧ (SAll Gv.σ o8 → aq 57 a47 256 a45 biu 258 bis)
theorem a7p [Gv] (hI : SAll Gv.σ ld) : bzj := by
 have l1 := a77 hI
 have dn : ((Gv.σ 3).length : Int) ≤ 0 → ar (Gv.σ 3) = 1 := bgc
 have en : ((Gv.σ 3).length : Int) ≤ 0 → ae (Gv.σ 3) 0 = [] := fun h => (ab5 h).2
 rcases bhw hI (.len (.s 3)) (.c 1) with ⟨hI, k1⟩ | ⟨hI, k1⟩
 ·have u := en
  exact ⟨zm0 [] ab (zp hI bld) hI,
   arl,
   arl⟩
 ·rcases a6k hI acm (.c 1) with ⟨hI, k2⟩ | ⟨hI, k2⟩
  ·have u := en
   exact ⟨arl,
    zm0 [(257, 257)] ab (zp hI bld) hI,
    arl⟩
  ·have u := en
   exact ⟨arl,
    arl,
    zm0 [] ab (zp hI bld) hI⟩
theorem azq [Gv] : bj a8z := fun σ _ hA _ => (@a7p ⟨σ⟩  (ap hA).1).1 (ap hA).2
theorem azp [Gv] : bj a8y := fun σ _ hA _ => (@a7p ⟨σ⟩  (ap hA).1).2.1 (ap hA).2
theorem azo [Gv] : bj a8x := fun σ _ hA _ => (@a7p ⟨σ⟩  (ap hA).1).2.2 (ap hA).2
theorem blf [Gv] : ∀ t ∈ [a8z, a8y, a8x], bj t := by
 intro t ht
 simp only [List.mem_cons, zH, or_false] at ht
 rcases ht with rfl | rfl | rfl
 ·exact azq
 ·exact azp
 ·exact azo
def b0m [Gv] : Prop := (SAll Gv.σ acn → aq 20 bgi 256 bgg bki 258 bkh) ∧ (SAll Gv.σ o8 → aq 20 bgi 256 bgg bkf 258 bke)
theorem bh4 [Gv] (hI : SAll Gv.σ ld) : b0m := by
 have l1 := a77 hI
 have dn : ((Gv.σ 3).length : Int) ≤ 0 → ar (Gv.σ 3) = 1 := bgc
 have en : ((Gv.σ 3).length : Int) ≤ 0 → ae (Gv.σ 3) 0 = [] := fun h => (ab5 h).2
 rcases bhw hI (.len (.s 3)) (.c 1) with ⟨hI, k1⟩ | ⟨hI, k1⟩
 ·have u := en
  exact ⟨zm0 [] (zh hI blf) ac hI,
   arl⟩
 ·rcases a6k hI acm (.c 1) with ⟨hI, k2⟩ | ⟨hI, k2⟩
  ·have u := en
   exact ⟨zm0 [] (zh hI blf) ac hI,
    arl⟩
  ·have u := en
   exact ⟨arl,
    zm0 [] (zh hI blf) ac hI⟩
theorem bgh [Gv] : bj bkg := fun σ _ hA _ => (@bh4 ⟨σ⟩  (ap hA).1).1 (ap hA).2
theorem bgf [Gv] : bj bkd := fun σ _ hA _ => (@bh4 ⟨σ⟩  (ap hA).1).2 (ap hA).2
end Go.Ev
