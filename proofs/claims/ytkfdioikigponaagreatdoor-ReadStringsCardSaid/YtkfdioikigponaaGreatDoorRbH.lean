import Derived.Test.YtkfdioikigponaaGreatDoorRcP
set_option maxRecDepth 100000
set_option linter.all false
namespace Go.Ev
abbrev dj : SE := .app 114 (.g (.s 3) .nil)
abbrev cq : SE := .app 113 (.g (.s 3) .nil)
abbrev awk : List SA := [.mk true (.len (.s 3)) (.c 1) false, .mk true (.c 4000) (.len (.s 3)) false]
abbrev axe : AL := .g (.s 3) (.i (.c 0) .nil)
abbrev ax5 : GE := .app 6 axe
abbrev aen : SE := .len ax5
abbrev aqp : SE := .bin 6 .i64 (.v 6) aen
abbrev avw : GE := .cat (.s 10) ax5
abbrev wv : List SA := [.mk true (.c 4000) (.len (.s 3)) false, .mk false (.v 6) (.len (.s 10)) true, .mk true (.v 6) (.c 1) false, .mk true (.c 8000) (.bin 6 .i64 (.v 6) (.len (.s 3))) false]
abbrev ahi : SE := .app 50 (.g (.s 3) .nil)
abbrev ant : List SA := [.mk false ahi (.c 1) true]
abbrev vf : List SA := [.mk false ahi (.c 1) false]
abbrev pd : List SA := [.mk true (.c 4000) (.len (.s 3)) false]
abbrev afy : List SA := [.mk true (.len (.s 3)) (.c 1) true]
abbrev agc : List SA := [.mk false ahi (.c 1) true, .mk true (.len (.s 3)) (.c 1) false]
abbrev jr : SE := .bin 0 .i64 (.rd (.s 3) (.c 0)) (.c 0)
abbrev ve : SE := .rd (.s 3) (.c 1)
abbrev aop : SE := .bin 0 .i64 ve (.c 0)
abbrev ab2 : SE := .rd (.s 3) (.c 2)
abbrev a0j : SE := .bin 0 .i64 ab2 (.c 0)
abbrev u5 : SE := .bin 1 .i64 (.bin 0 .i64 (.bin 2 .i64 (.bin 1 .i64 (.bin 0 .i64 (.bin 2 .i64 (.bin 1 .i64 jr (.c 224)) (.c 64)) aop) (.c 128)) (.c 64)) a0j) (.c 128)
abbrev yc : SE := .bin 1 .i64 (.bin 0 .i64 (.bin 2 .i64 (.bin 1 .i64 (.bin 0 .i64 (.bin 2 .i64 (.bin 1 .i64 (.bin 0 .i64 (.bin 2 .i64 (.bin 1 .i64 jr (.c 240)) (.c 64)) aop) (.c 128)) (.c 64)) a0j) (.c 128)) (.c 64)) (.bin 0 .i64 (.rd (.s 3) (.c 3)) (.c 0))) (.c 128)
abbrev aa8 : SE := .bin 6 .i64 (.v 6) (.c 1)
abbrev aqh : GE := .cut (.s 3) cq (.len (.s 3))
abbrev sm : SE := .len aqh
abbrev az0 : SE := .app 50 (.g aqh .nil)
abbrev apa : GE := .app 6 (.g aqh (.i (.c 0) .nil))
abbrev ay4 : SE := .len apa
abbrev a20 : GE := .one dj
noncomputable section
def bs0 : List AV := [.gv (.str (.s 3) [])]
def bw0 : List HO := []
def bw5 : List HO := []
def brp : TR := .ret (.tuple [.sym .i64 dj [], .sym .i64 cq []])
def btt : TM := .mk 54 bs0 256 bw0 (awk ++ []) none brp 256 bw5
def mS3 : SE := .len (.s 3)
def ro3 (k : Nat) (n : SE) (g : GE) : HO := .mk k (.gob (.gh 3 [.i64] n g))
def a7a : List AV := (.gv (.str (.s 3) []) :: .top :: .top :: .top :: .gv (.sl (K.of 256) 1 (.v 6) []) :: tps 20)
def a43 : List HO := [ro3 256 (.v 6) (.s 10)]
def a8i : List HO := [ro3 257 aqp avw]
def a9f : LR := (.x 0 (.top :: .top :: .top :: .top :: .gv (.sl (K.of 257) 1 aqp []) :: tps 20))
def bsu (m : SE) : LT := .mk 38 5 a7a 257 a43 (wv ++ ant) (some (mS3, m)) a9f 258 a8i
def blo : LT := .mk 38 5 a7a 257 a43 (wv ++ ant) none a9f 258 a8i
def a7j : List HO := []
def bbp : LR := (.r (.top :: .top :: .nilSlice :: .int .i64 5 :: tps 21))
def btq (m : SE) : LT := .mk 38 5 a7a 257 a43 (wv ++ vf) (some (mS3, m)) bbp 258 a7j
def bkv : LT := .mk 38 5 a7a 257 a43 (wv ++ vf) none bbp 258 a7j
def a5s : List AV := (.gv (.str (.s 3) []) :: .top :: .top :: .top :: .nilSlice :: tps 20)
def a58 : List HO := []
def bl2 : List HO := []
def bmq : LR := (.x 0 (.top :: .top :: .top :: .top :: .nilSlice :: tps 20))
def bj1 : LT := .mk 38 5 a5s 256 a58 (pd ++ afy) none bmq 258 bl2
def bmy : List HO := [ro3 257 aen (.app 6 axe)]
def bkm : LR := (.x 0 (.top :: .top :: .top :: .top :: .gv (.sl (K.of 257) 1 aen []) :: tps 20))
def bkx : LT := .mk 38 5 a5s 256 a58 (pd ++ agc) none bkm 258 bmy
def bk8 : List HO := []
def bmi : LR := (.r (.top :: .top :: .nilSlice :: .int .i64 5 :: tps 21))
def bml : LT := .mk 38 5 a5s 256 a58 (pd ++ vf) none bmi 258 bk8
def a6x : List AV := [.gv (.str (.s 3) [])]
def a6n : List HO := []
def bj8 : List HO := []
def bjc : TR := .ret (.tuple [.nilSlice, .int .i64 0])
def bjy : TM := .mk 38 a6x 256 a6n (pd ++ afy) none bjc 258 bj8
def bk9 : List HO := [ro3 257 aen (.app 6 axe)]
def bje : TR := .ret (.tuple [.gv (.sl (K.of 257) 1 aen []), .int .i64 0])
def bkf : TM := .mk 38 a6x 256 a6n (pd ++ agc) none bje 258 bk9
def bln : List HO := []
def bjd : TR := .ret (.tuple [.nilSlice, .int .i64 5])
def bk1 : TM := .mk 38 a6x 256 a6n (pd ++ vf) none bjd 258 bln
end
section
variable {σ : Nat → List Int}
theorem bnz (h : SAll σ awk) : 1 ≤ ((σ 3).length : Int) ∧ ((σ 3).length : Int) ≤ 4000 := by
 simp only [sall_cons, sF, evs] at h
 exact ⟨h.1, h.2.1⟩
theorem bku (h : SAll σ pd) : ((σ 3).length : Int) ≤ 4000 := by
 simp only [sall_cons, sF, evs] at h
 exact h.1
theorem bpr (h : SAll σ wv) : ((σ 3).length : Int) ≤ 4000 ∧ (σ 6).headD 0 = ((σ 10).length : Int) ∧ 1 ≤ (σ 6).headD 0 ∧ (σ 6).headD 0 + ((σ 3).length : Int) ≤ 8000 := by
 simp only [sall_cons, sF, sE, evs] at h
 exact ⟨h.1, h.2.1, h.2.2.1, h.2.2.2.1⟩
end
theorem tn : Int.toNat 1 = 1 ∧ Int.toNat 2 = 2 ∧ Int.toNat 3 = 3 := ⟨rfl, rfl, rfl⟩
theorem j1 (s : List Int) : s.take (s.length : Int).toNat = s := by rw [Int.toNat_natCast, List.take_length]
theorem bdg (s : List Int) : au2 s ↔ drJ s 0 = 65533 ∧ dwJ s 0 ≤ 1 := by
 have h1 := Lib.decodeL_width (u8L s)
 rw [bpb, bum]
 unfold au2
 omega
theorem bdy {s : List Int} (h : 0 < (s.length : Int)) : 0 ≤ ptN s ∧ ptN s ≤ (s.length : Int) ∧ (¬ ptN s = 0 ↔ ¬ au2 s) ∧ (¬ au2 s → ptN s = ((Lib.decodeL (u8L s)).2 : Int) ∧ ptC s = drJ s 0) := by
 have h1 := Lib.decodeL_width (u8L s)
 have h2 := Lib.decodeL_le (u8L s) (by intro e; have := congrArg List.length e; rw [aqb, zS] at this; omega)
 rw [aqb] at h2
 have h3 : dwJ s 0 = ((Lib.decodeL (u8L s)).2 : Int) := rfl
 unfold ptN ptC
 rw [bdg]
 by_cases hc : drJ s 0 = 65533 ∧ dwJ s 0 ≤ 1
 ·rw [if_pos hc]; exact ⟨by omega, by omega, ⟨fun x => absurd rfl x, fun x => absurd hc x⟩, fun x => absurd hc x⟩
 ·rw [if_neg hc, if_neg hc]; exact ⟨by omega, by omega, ⟨fun _ => hc, fun _ => by omega⟩, fun _ => ⟨h3, rfl⟩⟩
theorem bvh (s : List Int) (h : 0 < (s.length : Int)) : (ptN s = 0 → ¬ b8 s = 1) ∧ (¬ ptN s = 0 → (b8 s = 1 ↔ b8 (s.drop (ptN s).toNat) = 1)) := by
 have hs : s ≠ [] := by rintro rfl; simp at h
 obtain ⟨b1, b2, b3, b4⟩ := bdy h
 rw [ajl hs]
 by_cases hc : au2 s
 ·exact ⟨fun _ x => x.1 hc, fun x => absurd hc (b3.1 x)⟩
 ·obtain ⟨e1, e2⟩ := b4 hc
  have e3 : (ptN s).toNat = (Lib.decodeL (u8L s)).2 := by omega
  rw [e3]
  exact ⟨fun x => absurd x (b3.2 hc), fun _ => ⟨fun x => x.2, fun x => ⟨hc, x⟩⟩⟩
theorem bsr (s : List Int) (h : 0 < (s.length : Int)) (h0 : ¬ ptN s = 0) : av s 0 = ptC s :: av (s.drop (ptN s).toNat) 0 := by
 have hs : s ≠ [] := by rintro rfl; simp at h
 obtain ⟨b1, b2, b3, b4⟩ := bdy h
 obtain ⟨e1, e2⟩ := b4 (b3.1 h0)
 have e3 : (ptN s).toNat = (Lib.decodeL (u8L s)).2 := by omega
 rw [e3, e2, afc hs]
theorem af6 {s : List Int} (h : (s.length : Int) ≤ 0) : b8 s = 1 ∧ av s 0 = [] := by
 have : s = [] := List.eq_nil_of_length_eq_zero (by omega)
 subst this
 exact ⟨rfl, rfl⟩
theorem bup {σ : Nat → List Int} (g : GE) : 0 < (SE.len g).eval σ → 0 ≤ (SE.app 113 (.g g .nil)).eval σ ∧ (SE.app 113 (.g g .nil)).eval σ ≤ (SE.len g).eval σ := fun h => ⟨(bdy h).1, (bdy h).2.1⟩
theorem bqm {s : List Int} (h : (s.length : Int) ≤ 0) : b8 s = 1 := (af6 h).1
def b3q [Gv] : Prop := (SAll Gv.σ [] → cz 54 bs0 256 bw0 brp 256 bw5)
theorem bww [Gv] (hB : bp (Gv.σ 3)) (hI : SAll Gv.σ awk) : b3q := by
 obtain ⟨hl1, hl2⟩ := bnz hI
 have r0 := po hB 0; have r1 := po hB 1; have r2 := po hB 2; have r3 := po hB 3
 have hI := ayb hI (.c 0) (.len (.s 3))
 rcases m9 hI jr (.c 128) with ⟨hI, k2⟩ | ⟨hI, k2⟩
 ·have u := r0
  exact fun hC => bf (n := 2000) (T := []) (E := (.i jr dj (.i (.c 1) cq .nil))) ac ai hI (by simp (disch := omega) only [EqL.all, and_true, evs, evx, wr, tn]; have hps := cu hB (by omega); omega) rfl rfl (by kernel_rfl)
 ·rcases m9 hI jr (.c 194) with ⟨hI, k3⟩ | ⟨hI, k3⟩
  ·have hI := ayb hI jr (.c 224)
   have hI := ayb hI jr (.c 240)
   have u := r0
   exact fun hC => bf (n := 2000) (T := []) (E := (.i (.c 0) dj (.i (.c 0) cq .nil))) ac ai hI (by simp (disch := omega) only [EqL.all, and_true, evs, evx, wr, tn]; have hps := cu hB (by omega); omega) rfl rfl (by kernel_rfl)
  ·rcases m9 hI jr (.c 224) with ⟨hI, k4⟩ | ⟨hI, k4⟩
   ·rcases m9 hI (.c 1) (.len (.s 3)) with ⟨hI, k5⟩ | ⟨hI, k5⟩
    ·rcases m9 hI ve (.c 128) with ⟨hI, k6⟩ | ⟨hI, k6⟩
     ·have hI := ayb hI jr (.c 240)
      have u := r0
      exact fun hC => bf (n := 2000) (T := []) (E := (.i (.c 0) dj (.i (.c 0) cq .nil))) ac ai hI (by simp (disch := omega) only [EqL.all, and_true, evs, evx, wr, tn]; have hps := cu hB (by omega); omega) rfl rfl (by kernel_rfl)
     ·rcases m9 hI ve (.c 192) with ⟨hI, k7⟩ | ⟨hI, k7⟩
      ·have u := r0
       exact fun hC => bf (n := 2000) (T := []) (E := (.i (.bin 1 .i64 (.bin 0 .i64 (.bin 2 .i64 (.bin 1 .i64 jr (.c 192)) (.c 64)) aop) (.c 128)) dj (.i (.c 2) cq .nil))) ac ai hI (by simp (disch := omega) only [EqL.all, and_true, evs, evx, wr, tn]; have hps := cu hB (by omega); omega) rfl rfl (by kernel_rfl)
      ·have hI := ayb hI jr (.c 240)
       have u := r0
       exact fun hC => bf (n := 2000) (T := []) (E := (.i (.c 0) dj (.i (.c 0) cq .nil))) ac ai hI (by simp (disch := omega) only [EqL.all, and_true, evs, evx, wr, tn]; have hps := cu hB (by omega); omega) rfl rfl (by kernel_rfl)
    ·have hI := ayb hI jr (.c 240)
     have u := r0
     exact fun hC => bf (n := 2000) (T := []) (E := (.i (.c 0) dj (.i (.c 0) cq .nil))) ac ai hI (by simp (disch := omega) only [EqL.all, and_true, evs, evx, wr, tn]; have hps := cu hB (by omega); omega) rfl rfl (by kernel_rfl)
   ·rcases m9 hI jr (.c 240) with ⟨hI, k5⟩ | ⟨hI, k5⟩
    ·rcases m9 hI (.c 1) (.len (.s 3)) with ⟨hI, k6⟩ | ⟨hI, k6⟩
     ·rcases m9 hI ve (.c 128) with ⟨hI, k7⟩ | ⟨hI, k7⟩
      ·have u := r0
       exact fun hC => bf (n := 2000) (T := []) (E := (.i (.c 0) dj (.i (.c 0) cq .nil))) ac ai hI (by simp (disch := omega) only [EqL.all, and_true, evs, evx, wr, tn]; have hps := cu hB (by omega); omega) rfl rfl (by kernel_rfl)
      ·rcases m9 hI ve (.c 192) with ⟨hI, k8⟩ | ⟨hI, k8⟩
       ·rcases m9 hI (.c 2) (.len (.s 3)) with ⟨hI, k9⟩ | ⟨hI, k9⟩
        ·rcases m9 hI ab2 (.c 128) with ⟨hI, k10⟩ | ⟨hI, k10⟩
         ·have u := r0
          exact fun hC => bf (n := 2000) (T := []) (E := (.i (.c 0) dj (.i (.c 0) cq .nil))) ac ai hI (by simp (disch := omega) only [EqL.all, and_true, evs, evx, wr, tn]; have hps := cu hB (by omega); omega) rfl rfl (by kernel_rfl)
         ·rcases m9 hI ab2 (.c 192) with ⟨hI, k11⟩ | ⟨hI, k11⟩
          ·rcases m9 hI u5 (.c 2048) with ⟨hI, k12⟩ | ⟨hI, k12⟩
           ·have u := r0
            exact fun hC => bf (n := 2000) (T := []) (E := (.i (.c 0) dj (.i (.c 0) cq .nil))) ac ai hI (by simp (disch := omega) only [EqL.all, and_true, evs, evx, wr, tn]; have hps := cu hB (by omega); omega) rfl rfl (by kernel_rfl)
           ·have hI := bfr hI u5 (.c 0)
            have hI := bfr hI (.c 1114111) u5
            rcases m9 hI u5 (.c 55296) with ⟨hI, k15⟩ | ⟨hI, k15⟩
            ·have u := r0
             exact fun hC => bf (n := 2000) (T := []) (E := (.i u5 dj (.i (.c 3) cq .nil))) ac ai hI (by simp (disch := omega) only [EqL.all, and_true, evs, evx, wr, tn]; have hps := cu hB (by omega); omega) rfl rfl (by kernel_rfl)
            ·rcases m9 hI (.c 57343) u5 with ⟨hI, k16⟩ | ⟨hI, k16⟩
             ·have u := r0
              exact fun hC => bf (n := 2000) (T := []) (E := (.i u5 dj (.i (.c 3) cq .nil))) ac ai hI (by simp (disch := omega) only [EqL.all, and_true, evs, evx, wr, tn]; have hps := cu hB (by omega); omega) rfl rfl (by kernel_rfl)
             ·have u := r0
              exact fun hC => bf (n := 2000) (T := []) (E := (.i (.c 0) dj (.i (.c 0) cq .nil))) ac ai hI (by simp (disch := omega) only [EqL.all, and_true, evs, evx, wr, tn]; have hps := cu hB (by omega); omega) rfl rfl (by kernel_rfl)
          ·have u := r0
           exact fun hC => bf (n := 2000) (T := []) (E := (.i (.c 0) dj (.i (.c 0) cq .nil))) ac ai hI (by simp (disch := omega) only [EqL.all, and_true, evs, evx, wr, tn]; have hps := cu hB (by omega); omega) rfl rfl (by kernel_rfl)
        ·have u := r0
         exact fun hC => bf (n := 2000) (T := []) (E := (.i (.c 0) dj (.i (.c 0) cq .nil))) ac ai hI (by simp (disch := omega) only [EqL.all, and_true, evs, evx, wr, tn]; have hps := cu hB (by omega); omega) rfl rfl (by kernel_rfl)
       ·have u := r0
        exact fun hC => bf (n := 2000) (T := []) (E := (.i (.c 0) dj (.i (.c 0) cq .nil))) ac ai hI (by simp (disch := omega) only [EqL.all, and_true, evs, evx, wr, tn]; have hps := cu hB (by omega); omega) rfl rfl (by kernel_rfl)
     ·have u := r0
      exact fun hC => bf (n := 2000) (T := []) (E := (.i (.c 0) dj (.i (.c 0) cq .nil))) ac ai hI (by simp (disch := omega) only [EqL.all, and_true, evs, evx, wr, tn]; have hps := cu hB (by omega); omega) rfl rfl (by kernel_rfl)
    ·rcases m9 hI jr (.c 245) with ⟨hI, k6⟩ | ⟨hI, k6⟩
     ·rcases m9 hI (.c 1) (.len (.s 3)) with ⟨hI, k7⟩ | ⟨hI, k7⟩
      ·rcases m9 hI ve (.c 128) with ⟨hI, k8⟩ | ⟨hI, k8⟩
       ·have u := r0
        exact fun hC => bf (n := 2000) (T := []) (E := (.i (.c 0) dj (.i (.c 0) cq .nil))) ac ai hI (by simp (disch := omega) only [EqL.all, and_true, evs, evx, wr, tn]; have hps := cu hB (by omega); omega) rfl rfl (by kernel_rfl)
       ·rcases m9 hI ve (.c 192) with ⟨hI, k9⟩ | ⟨hI, k9⟩
        ·rcases m9 hI (.c 2) (.len (.s 3)) with ⟨hI, k10⟩ | ⟨hI, k10⟩
         ·rcases m9 hI ab2 (.c 128) with ⟨hI, k11⟩ | ⟨hI, k11⟩
          ·have u := r0
           exact fun hC => bf (n := 2000) (T := []) (E := (.i (.c 0) dj (.i (.c 0) cq .nil))) ac ai hI (by simp (disch := omega) only [EqL.all, and_true, evs, evx, wr, tn]; have hps := cu hB (by omega); omega) rfl rfl (by kernel_rfl)
          ·rcases m9 hI ab2 (.c 192) with ⟨hI, k12⟩ | ⟨hI, k12⟩
           ·rcases m9 hI (.c 3) (.len (.s 3)) with ⟨hI, k13⟩ | ⟨hI, k13⟩
            ·rcases m9 hI (.rd (.s 3) (.c 3)) (.c 128) with ⟨hI, k14⟩ | ⟨hI, k14⟩
             ·have u := r0
              exact fun hC => bf (n := 2000) (T := []) (E := (.i (.c 0) dj (.i (.c 0) cq .nil))) ac ai hI (by simp (disch := omega) only [EqL.all, and_true, evs, evx, wr, tn]; have hps := cu hB (by omega); omega) rfl rfl (by kernel_rfl)
             ·rcases m9 hI (.rd (.s 3) (.c 3)) (.c 192) with ⟨hI, k15⟩ | ⟨hI, k15⟩
              ·rcases m9 hI yc (.c 65536) with ⟨hI, k16⟩ | ⟨hI, k16⟩
               ·have u := r0
                exact fun hC => bf (n := 2000) (T := []) (E := (.i (.c 0) dj (.i (.c 0) cq .nil))) ac ai hI (by simp (disch := omega) only [EqL.all, and_true, evs, evx, wr, tn]; have hps := cu hB (by omega); omega) rfl rfl (by kernel_rfl)
               ·have hI := bfr hI yc (.c 0)
                rcases m9 hI (.c 1114111) yc with ⟨hI, k18⟩ | ⟨hI, k18⟩
                ·have u := r0
                 exact fun hC => bf (n := 2000) (T := []) (E := (.i (.c 0) dj (.i (.c 0) cq .nil))) ac ai hI (by simp (disch := omega) only [EqL.all, and_true, evs, evx, wr, tn]; have hps := cu hB (by omega); omega) rfl rfl (by kernel_rfl)
                ·have hI := bfr hI yc (.c 55296)
                 have hI := ayb hI (.c 57343) yc
                 have u := r0
                 exact fun hC => bf (n := 2000) (T := []) (E := (.i yc dj (.i (.c 4) cq .nil))) ac ai hI (by simp (disch := omega) only [EqL.all, and_true, evs, evx, wr, tn]; have hps := cu hB (by omega); omega) rfl rfl (by kernel_rfl)
              ·have u := r0
               exact fun hC => bf (n := 2000) (T := []) (E := (.i (.c 0) dj (.i (.c 0) cq .nil))) ac ai hI (by simp (disch := omega) only [EqL.all, and_true, evs, evx, wr, tn]; have hps := cu hB (by omega); omega) rfl rfl (by kernel_rfl)
            ·have u := r0
             exact fun hC => bf (n := 2000) (T := []) (E := (.i (.c 0) dj (.i (.c 0) cq .nil))) ac ai hI (by simp (disch := omega) only [EqL.all, and_true, evs, evx, wr, tn]; have hps := cu hB (by omega); omega) rfl rfl (by kernel_rfl)
           ·have u := r0
            exact fun hC => bf (n := 2000) (T := []) (E := (.i (.c 0) dj (.i (.c 0) cq .nil))) ac ai hI (by simp (disch := omega) only [EqL.all, and_true, evs, evx, wr, tn]; have hps := cu hB (by omega); omega) rfl rfl (by kernel_rfl)
         ·have u := r0
          exact fun hC => bf (n := 2000) (T := []) (E := (.i (.c 0) dj (.i (.c 0) cq .nil))) ac ai hI (by simp (disch := omega) only [EqL.all, and_true, evs, evx, wr, tn]; have hps := cu hB (by omega); omega) rfl rfl (by kernel_rfl)
        ·have u := r0
         exact fun hC => bf (n := 2000) (T := []) (E := (.i (.c 0) dj (.i (.c 0) cq .nil))) ac ai hI (by simp (disch := omega) only [EqL.all, and_true, evs, evx, wr, tn]; have hps := cu hB (by omega); omega) rfl rfl (by kernel_rfl)
      ·have u := r0
       exact fun hC => bf (n := 2000) (T := []) (E := (.i (.c 0) dj (.i (.c 0) cq .nil))) ac ai hI (by simp (disch := omega) only [EqL.all, and_true, evs, evx, wr, tn]; have hps := cu hB (by omega); omega) rfl rfl (by kernel_rfl)
     ·have u := r0
      exact fun hC => bf (n := 2000) (T := []) (E := (.i (.c 0) dj (.i (.c 0) cq .nil))) ac ai hI (by simp (disch := omega) only [EqL.all, and_true, evs, evx, wr, tn]; have hps := cu hB (by omega); omega) rfl rfl (by kernel_rfl)
theorem bop [Gv] : bn btt := fun σ _ hA _ => by
 show @cz ⟨σ⟩ 54 (.gv (.str (.s 3) []) :: []) 256 [] brp 256 []
 exact @bar ⟨σ⟩ _ _ _ _ _ _ _ _ fun hB => @bww ⟨σ⟩ hB (ak hA).1 (ak hA).2
theorem atg [Gv] : ∀ t ∈ [btt], bn t := j5 bop
def bo1 [Gv] : Prop := (SAll Gv.σ ant → di 38 5 a7a 257 a43 a9f 258 a8i) ∧ (SAll Gv.σ vf → di 38 5 a7a 257 a43 bbp 258 a7j)
theorem bta [Gv] (hh : ∀ t ∈ [bsu mS3, btq mS3], bh t) (hI : SAll Gv.σ wv) : bo1 := by
 obtain ⟨l1, l2, l3, l4⟩ := bpr hI
 have dz : 0 < ((Gv.σ 3).length : Int) → ¬ ptN (Gv.σ 3) = 0 → av (Gv.σ 3) 0 = _ := fun h h0 => bsr (Gv.σ 3) h h0
 have dn : ((Gv.σ 3).length : Int) ≤ 0 → b8 (Gv.σ 3) = 1 := bqm
 have en : ((Gv.σ 3).length : Int) ≤ 0 → av (Gv.σ 3) 0 = [] := fun h => (af6 h).2
 have vv := bvh (Gv.σ 3)
 rcases bnn hI (.c 0) (.len (.s 3)) with ⟨hI, k1⟩ | ⟨hI, k1⟩
 ·have hI := abm hI (.len (.s 3)) (.c 1)
  have t1 := bt6 (bup (σ := Gv.σ) (.s 3))
  rcases bbj hI cq (.c 0) with ⟨hI, k3⟩ | ⟨hI, k3⟩
  ·have u := dz
   exact ⟨afq,
    zt0 [] (zh hI atg) (zp hI hh) hI⟩
  ·have hI := abm hI (.c 400000) aa8
   have hI := abm hI cq (.c 0)
   have hI := abm hI (.len (.s 3)) cq
   have hI := abm hI (.c 4000) sm
   have hI := b4l hI aa8 (.bin 6 .i64 (.len (.s 10)) (.c 1))
   have hI := abm hI aa8 (.c 1)
   have hI := abm hI (.c 8000) (.bin 6 .i64 aa8 sm)
   rcases bbj hI az0 (.c 1) with ⟨hI, k11⟩ | ⟨hI, k11⟩
   ·have hI := bwz hI sm (.len (.s 3))
    have hI := abm hI sm (.c 0)
    have u := dz
    exact ⟨zt [(259, 257)] (.i (.bin 6 .i64 aa8 ay4) aqp (.g (.cat (.cat (.s 10) a20) apa) avw .nil)) (zh hI atg) (zp hI hh) hI bqa,
     afq⟩
   ·have hI := bwz hI sm (.len (.s 3))
    have hI := abm hI sm (.c 0)
    have u := dz
    exact ⟨afq,
     zt0 [] (zh hI atg) (zp hI hh) hI⟩
 ·have u := dz
  exact ⟨zt [(256, 257)] (.i (.v 6) aqp (.g (.s 10) avw .nil)) (zh hI atg) (zp hI hh) hI bqa,
   afq⟩
theorem ard : ∀ (B : Nat) (σ : Nat → List Int), SAll σ wv → (mS3).eval σ < (B : Int) → @bo1 ⟨σ⟩
 | 0, σ, hI, hb => by simp only [mS3, evs] at hb; omega
 | B + 1, σ, hI, hb => by
   have ih : ∀ σ' : Nat → List Int, SAll σ' wv → 0 ≤ (mS3).eval σ' ∧ (mS3).eval σ' < (mS3).eval σ → @bo1 ⟨σ'⟩ := fun σ' h h' => ard B σ' h (by omega)
   have hh : ∀ t ∈ [bsu (mS3), btq (mS3)], @bh ⟨σ⟩ t := by
    intro t ht
    simp only [List.mem_cons, zH, or_false] at ht
    rcases ht with rfl | rfl
    ·exact fun σ' _ hA hb => (ih σ' (ak hA).1 hb).1 (ak hA).2
    ·exact fun σ' _ hA hb => (ih σ' (ak hA).1 hb).2 (ak hA).2
   exact @bta ⟨σ⟩ hh hI
theorem bgr [Gv] : bh blo := fun σ _ hA _ => (ard (((mS3).eval σ).toNat + 1) σ (ak hA).1 (by omega)).1 (ak hA).2
theorem biq [Gv] : bh bkv := fun σ _ hA _ => (ard (((mS3).eval σ).toNat + 1) σ (ak hA).1 (by omega)).2 (ak hA).2
theorem bhu [Gv] : ∀ t ∈ [blo, bkv], bh t := by
 intro t ht
 simp only [List.mem_cons, zH, or_false] at ht
 rcases ht with rfl | rfl
 ·exact bgr
 ·exact biq
def b6b [Gv] : Prop := (SAll Gv.σ afy → di 38 5 a5s 256 a58 bmq 258 bl2) ∧ (SAll Gv.σ agc → di 38 5 a5s 256 a58 bkm 258 bmy) ∧ (SAll Gv.σ vf → di 38 5 a5s 256 a58 bmi 258 bk8)
theorem a93 [Gv] (hI : SAll Gv.σ pd) : b6b := by
 have l1 := bku hI
 have dz : 0 < ((Gv.σ 3).length : Int) → ¬ ptN (Gv.σ 3) = 0 → av (Gv.σ 3) 0 = _ := fun h h0 => bsr (Gv.σ 3) h h0
 have dn : ((Gv.σ 3).length : Int) ≤ 0 → b8 (Gv.σ 3) = 1 := bqm
 have en : ((Gv.σ 3).length : Int) ≤ 0 → av (Gv.σ 3) 0 = [] := fun h => (af6 h).2
 have vv := bvh (Gv.σ 3)
 rcases bnn hI (.c 0) (.len (.s 3)) with ⟨hI, k1⟩ | ⟨hI, k1⟩
 ·have hI := abm hI (.len (.s 3)) (.c 1)
  have t1 := bt6 (bup (σ := Gv.σ) (.s 3))
  rcases bbj hI cq (.c 0) with ⟨hI, k3⟩ | ⟨hI, k3⟩
  ·have u := dz
   exact ⟨afq,
    afq,
    zt0 [] (zh hI atg) (zp hI bhu) hI⟩
  ·have hI := abm hI cq (.c 0)
   have hI := abm hI (.len (.s 3)) cq
   have hI := abm hI (.c 4000) sm
   have hI := abm hI (.c 8000) (.bin 6 .i64 (.c 1) sm)
   rcases bbj hI az0 (.c 1) with ⟨hI, k8⟩ | ⟨hI, k8⟩
   ·have u := dz
    exact ⟨afq,
     zt [(258, 257)] (.i (.bin 6 .i64 (.c 1) ay4) aen (.g (.cat a20 apa) ax5 .nil)) (zh hI atg) (zp hI bhu) hI bqa,
     afq⟩
   ·have u := dz
    exact ⟨afq,
     afq,
     zt0 [] (zh hI atg) (zp hI bhu) hI⟩
 ·have u := dz
  exact ⟨zt0 [] (zh hI atg) (zp hI bhu) hI,
   afq,
   afq⟩
theorem bet [Gv] : bh bj1 := fun σ _ hA _ => (@a93 ⟨σ⟩  (ak hA).1).1 (ak hA).2
theorem bhk [Gv] : bh bkx := fun σ _ hA _ => (@a93 ⟨σ⟩  (ak hA).1).2.1 (ak hA).2
theorem bem [Gv] : bh bml := fun σ _ hA _ => (@a93 ⟨σ⟩  (ak hA).1).2.2 (ak hA).2
theorem bqv [Gv] : ∀ t ∈ [bj1, bkx, bml], bh t := by
 intro t ht
 simp only [List.mem_cons, zH, or_false] at ht
 rcases ht with rfl | rfl | rfl
 ·exact bet
 ·exact bhk
 ·exact bem
def b44 [Gv] : Prop := (SAll Gv.σ afy → cz 38 a6x 256 a6n bjc 258 bj8) ∧ (SAll Gv.σ agc → cz 38 a6x 256 a6n bje 258 bk9) ∧ (SAll Gv.σ vf → cz 38 a6x 256 a6n bjd 258 bln)
theorem bb0 [Gv] (hI : SAll Gv.σ pd) : b44 := by
 have l1 := bku hI
 have dn : ((Gv.σ 3).length : Int) ≤ 0 → b8 (Gv.σ 3) = 1 := bqm
 have en : ((Gv.σ 3).length : Int) ≤ 0 → av (Gv.σ 3) 0 = [] := fun h => (af6 h).2
 rcases bnn hI (.len (.s 3)) (.c 1) with ⟨hI, k1⟩ | ⟨hI, k1⟩
 ·have u := en
  exact ⟨zm0 [] ac (zp hI bqv) hI,
   a52,
   a52⟩
 ·rcases bbj hI ahi (.c 1) with ⟨hI, k2⟩ | ⟨hI, k2⟩
  ·have u := en
   exact ⟨a52,
    zm0 [(257, 257)] ac (zp hI bqv) hI,
    a52⟩
  ·have u := en
   exact ⟨a52,
    a52,
    zm0 [] ac (zp hI bqv) hI⟩
theorem bge [Gv] : bn bjy := fun σ _ hA _ => (@bb0 ⟨σ⟩  (ak hA).1).1 (ak hA).2
theorem bdu [Gv] : bn bkf := fun σ _ hA _ => (@bb0 ⟨σ⟩  (ak hA).1).2.1 (ak hA).2
theorem bei [Gv] : bn bk1 := fun σ _ hA _ => (@bb0 ⟨σ⟩  (ak hA).1).2.2 (ak hA).2
end Go.Ev
