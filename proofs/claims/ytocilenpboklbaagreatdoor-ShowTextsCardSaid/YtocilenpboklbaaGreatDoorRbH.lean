import Derived.Test.YtocilenpboklbaaGreatDoorRcP
set_option maxRecDepth 100000
set_option linter.all false
namespace Go.Ev
abbrev db : SE := .app 114 (.g (.s 3) .nil)
abbrev cb : SE := .app 113 (.g (.s 3) .nil)
abbrev ayk : List SA := [.mk true (.len (.s 3)) (.c 1) false, .mk true (.c 4000) (.len (.s 3)) false]
abbrev ayl : AL := .g (.s 3) (.i (.c 0) .nil)
abbrev aym : GE := .app 6 ayl
abbrev aev : SE := .len aym
abbrev aq4 : SE := .bin 6 .i64 (.v 6) aev
abbrev ayn : GE := .cat (.s 10) aym
abbrev xk : List SA := [.mk true (.c 4000) (.len (.s 3)) false, .mk false (.v 6) (.len (.s 10)) true, .mk true (.v 6) (.c 1) false, .mk true (.c 8000) (.bin 6 .i64 (.v 6) (.len (.s 3))) false]
abbrev acy : SE := .app 50 (.g (.s 3) .nil)
abbrev acz : List SA := [.mk false acy (.c 1) true]
abbrev pc : List SA := [.mk false acy (.c 1) false]
abbrev kz : List SA := [.mk true (.c 4000) (.len (.s 3)) false]
abbrev agz : List SA := [.mk true (.len (.s 3)) (.c 1) true]
abbrev ag0 : List SA := [.mk false acy (.c 1) true, .mk true (.len (.s 3)) (.c 1) false]
abbrev js : SE := .bin 0 .i64 (.rd (.s 3) (.c 0)) (.c 0)
abbrev vb : SE := .rd (.s 3) (.c 1)
abbrev aq1 : SE := .bin 0 .i64 vb (.c 0)
abbrev ac0 : SE := .rd (.s 3) (.c 2)
abbrev a3g : SE := .bin 0 .i64 ac0 (.c 0)
abbrev vc : SE := .bin 1 .i64 (.bin 0 .i64 (.bin 2 .i64 (.bin 1 .i64 (.bin 0 .i64 (.bin 2 .i64 (.bin 1 .i64 js (.c 224)) (.c 64)) aq1) (.c 128)) (.c 64)) a3g) (.c 128)
abbrev yv : SE := .bin 1 .i64 (.bin 0 .i64 (.bin 2 .i64 (.bin 1 .i64 (.bin 0 .i64 (.bin 2 .i64 (.bin 1 .i64 (.bin 0 .i64 (.bin 2 .i64 (.bin 1 .i64 js (.c 240)) (.c 64)) aq1) (.c 128)) (.c 64)) a3g) (.c 128)) (.c 64)) (.bin 0 .i64 (.rd (.s 3) (.c 3)) (.c 0))) (.c 128)
abbrev ac1 : SE := .bin 6 .i64 (.v 6) (.c 1)
abbrev aq2 : GE := .cut (.s 3) cb (.len (.s 3))
abbrev sd : SE := .len aq2
abbrev a3h : SE := .app 50 (.g aq2 .nil)
abbrev aq3 : GE := .app 6 (.g aq2 (.i (.c 0) .nil))
abbrev a3i : SE := .len aq3
abbrev a3j : GE := .one db
noncomputable section
def buu : List AV := [.gv (.str (.s 3) [])]
def bus : List HO := []
def but : List HO := []
def bp3 : TR := .ret (.tuple [.sym .i64 db [], .sym .i64 cb []])
def bur : TM := .mk 105 buu 256 bus (ayk ++ []) none bp3 256 but
def mS3 : SE := .len (.s 3)
def ro3 (k : Nat) (n : SE) (g : GE) : HO := .mk k (.gob (.gh 3 [.i64] n g))
def a6a : List AV := (.gv (.str (.s 3) []) :: .top :: .top :: .top :: .gv (.sl (K.of 256) 1 (.v 6) []) :: tps 20)
def a59 : List HO := [ro3 256 (.v 6) (.s 10)]
def a93 : List HO := [ro3 257 aq4 ayn]
def a94 : LR := (.x 0 (.top :: .top :: .top :: .top :: .gv (.sl (K.of 257) 1 aq4 []) :: tps 20))
def bt9 (m : SE) : LT := .mk 57 5 a6a 257 a59 (xk ++ acz) (some (mS3, m)) a94 258 a93
def blp : LT := .mk 57 5 a6a 257 a59 (xk ++ acz) none a94 258 a93
def a91 : List HO := []
def a92 : LR := (.r (.top :: .top :: .nilSlice :: .int .i64 5 :: tps 21))
def bt8 (m : SE) : LT := .mk 57 5 a6a 257 a59 (xk ++ pc) (some (mS3, m)) a92 258 a91
def blo : LT := .mk 57 5 a6a 257 a59 (xk ++ pc) none a92 258 a91
def a58 : List AV := (.gv (.str (.s 3) []) :: .top :: .top :: .top :: .nilSlice :: tps 20)
def a57 : List HO := []
def blm : List HO := []
def bln : LR := (.x 0 (.top :: .top :: .top :: .top :: .nilSlice :: tps 20))
def bll : LT := .mk 57 5 a58 256 a57 (kz ++ agz) none bln 258 blm
def bli : List HO := [ro3 257 aev (.app 6 ayl)]
def blj : LR := (.x 0 (.top :: .top :: .top :: .top :: .gv (.sl (K.of 257) 1 aev []) :: tps 20))
def blh : LT := .mk 57 5 a58 256 a57 (kz ++ ag0) none blj 258 bli
def blf : List HO := []
def blg : LR := (.r (.top :: .top :: .nilSlice :: .int .i64 5 :: tps 21))
def bld : LT := .mk 57 5 a58 256 a57 (kz ++ pc) none blg 258 blf
def a6c : List AV := [.gv (.str (.s 3) [])]
def a6b : List HO := []
def bly : List HO := []
def blz : TR := .ret (.tuple [.nilSlice, .int .i64 0])
def blx : TM := .mk 57 a6c 256 a6b (kz ++ agz) none blz 258 bly
def blv : List HO := [ro3 257 aev (.app 6 ayl)]
def blw : TR := .ret (.tuple [.gv (.sl (K.of 257) 1 aev []), .int .i64 0])
def blu : TM := .mk 57 a6c 256 a6b (kz ++ ag0) none blw 258 blv
def blr : List HO := []
def bls : TR := .ret (.tuple [.nilSlice, .int .i64 5])
def blq : TM := .mk 57 a6c 256 a6b (kz ++ pc) none bls 258 blr
def bic : List AV := [.gv (.str (.s 3) [])]
def bia : List HO := []
def bn5 : List HO := []
def bn6 : TR := .ret (.bool true)
def bn4 : TM := .mk 20 bic 256 bia (kz ++ acz) none bn6 258 bn5
def bn2 : List HO := []
def bn3 : TR := .ret (.bool false)
def bn1 : TM := .mk 20 bic 256 bia (kz ++ pc) none bn3 258 bn2
end
section
variable {σ : Nat → List Int}
theorem bp4 (h : SAll σ ayk) : 1 ≤ ((σ 3).length : Int) ∧ ((σ 3).length : Int) ≤ 4000 := by
 simp only [sall_cons, sF, evs] at h
 exact ⟨h.1, h.2.1⟩
theorem a9i (h : SAll σ kz) : ((σ 3).length : Int) ≤ 4000 := by
 simp only [sall_cons, sF, evs] at h
 exact h.1
theorem bpl (h : SAll σ xk) : ((σ 3).length : Int) ≤ 4000 ∧ (σ 6).headD 0 = ((σ 10).length : Int) ∧ 1 ≤ (σ 6).headD 0 ∧ (σ 6).headD 0 + ((σ 3).length : Int) ≤ 8000 := by
 simp only [sall_cons, sF, sE, evs] at h
 exact ⟨h.1, h.2.1, h.2.2.1, h.2.2.2.1⟩
end
theorem tn : Int.toNat 1 = 1 ∧ Int.toNat 2 = 2 ∧ Int.toNat 3 = 3 := ⟨rfl, rfl, rfl⟩
theorem j4 (s : List Int) : s.take (s.length : Int).toNat = s := by rw [Int.toNat_natCast, List.take_length]
theorem bem (s : List Int) : alc s ↔ drJ s 0 = 65533 ∧ dwJ s 0 ≤ 1 := by
 have h1 := Lib.decodeL_width (u8L s)
 rw [a5p, a5q]
 unfold alc
 omega
theorem bg0 {s : List Int} (h : 0 < (s.length : Int)) : 0 ≤ ptN s ∧ ptN s ≤ (s.length : Int) ∧ (¬ ptN s = 0 ↔ ¬ alc s) ∧ (¬ alc s → ptN s = ((Lib.decodeL (u8L s)).2 : Int) ∧ ptC s = drJ s 0) := by
 have h1 := Lib.decodeL_width (u8L s)
 have h2 := Lib.decodeL_le (u8L s) (by intro e; have := congrArg List.length e; rw [aeq, zS] at this; omega)
 rw [aeq] at h2
 have h3 : dwJ s 0 = ((Lib.decodeL (u8L s)).2 : Int) := rfl
 unfold ptN ptC
 rw [bem]
 by_cases hc : drJ s 0 = 65533 ∧ dwJ s 0 ≤ 1
 ·rw [if_pos hc]; exact ⟨by omega, by omega, ⟨fun x => absurd rfl x, fun x => absurd hc x⟩, fun x => absurd hc x⟩
 ·rw [if_neg hc, if_neg hc]; exact ⟨by omega, by omega, ⟨fun _ => hc, fun _ => by omega⟩, fun _ => ⟨h3, rfl⟩⟩
theorem buw (s : List Int) (h : 0 < (s.length : Int)) : (ptN s = 0 → ¬ bj s = 1) ∧ (¬ ptN s = 0 → (bj s = 1 ↔ bj (s.drop (ptN s).toNat) = 1)) := by
 have hs : s ≠ [] := by rintro rfl; simp at h
 obtain ⟨b1, b2, b3, b4⟩ := bg0 h
 rw [qq hs]
 by_cases hc : alc s
 ·exact ⟨fun _ x => x.1 hc, fun x => absurd hc (b3.1 x)⟩
 ·obtain ⟨e1, e2⟩ := b4 hc
  have e3 : (ptN s).toNat = (Lib.decodeL (u8L s)).2 := by omega
  rw [e3]
  exact ⟨fun x => absurd x (b3.2 hc), fun _ => ⟨fun x => x.2, fun x => ⟨hc, x⟩⟩⟩
theorem buv (s : List Int) (h : 0 < (s.length : Int)) (h0 : ¬ ptN s = 0) : ak s 0 = ptC s :: ak (s.drop (ptN s).toNat) 0 := by
 have hs : s ≠ [] := by rintro rfl; simp at h
 obtain ⟨b1, b2, b3, b4⟩ := bg0 h
 obtain ⟨e1, e2⟩ := b4 (b3.1 h0)
 have e3 : (ptN s).toNat = (Lib.decodeL (u8L s)).2 := by omega
 rw [e3, e2, jt hs]
theorem acj {s : List Int} (h : (s.length : Int) ≤ 0) : bj s = 1 ∧ ak s 0 = [] := by
 have : s = [] := List.eq_nil_of_length_eq_zero (by omega)
 subst this
 exact ⟨rfl, rfl⟩
theorem bsf {σ : Nat → List Int} (g : GE) : 0 < (SE.len g).eval σ → 0 ≤ (SE.app 113 (.g g .nil)).eval σ ∧ (SE.app 113 (.g g .nil)).eval σ ≤ (SE.len g).eval σ := fun h => ⟨(bg0 h).1, (bg0 h).2.1⟩
theorem bh8 {s : List Int} (h : (s.length : Int) ≤ 0) : bj s = 1 := (acj h).1
def b02 [Gv] : Prop := (SAll Gv.σ [] → bz 105 buu 256 bus bp3 256 but)
theorem bss [Gv] (hB : ay (Gv.σ 3)) (hI : SAll Gv.σ ayk) : b02 := by
 obtain ⟨hl1, hl2⟩ := bp4 hI
 have r0 := o8 hB 0; have r1 := o8 hB 1; have r2 := o8 hB 2; have r3 := o8 hB 3
 have hI := ay1 hI (.c 0) (.len (.s 3))
 rcases mr hI js (.c 128) with ⟨hI, k2⟩ | ⟨hI, k2⟩
 ·have u := r0
  exact fun hC => bf (n := 2000) (T := []) (E := (.i js db (.i (.c 1) cb .nil))) aa af hI (by simp (disch := omega) only [EqL.all, and_true, evs, evx, wr, tn]; have hps := ci hB (by omega); omega) rfl rfl (by kernel_rfl)
 ·rcases mr hI js (.c 194) with ⟨hI, k3⟩ | ⟨hI, k3⟩
  ·have hI := ay1 hI js (.c 224)
   have hI := ay1 hI js (.c 240)
   have u := r0
   exact fun hC => bf (n := 2000) (T := []) (E := (.i (.c 0) db (.i (.c 0) cb .nil))) aa af hI (by simp (disch := omega) only [EqL.all, and_true, evs, evx, wr, tn]; have hps := ci hB (by omega); omega) rfl rfl (by kernel_rfl)
  ·rcases mr hI js (.c 224) with ⟨hI, k4⟩ | ⟨hI, k4⟩
   ·rcases mr hI (.c 1) (.len (.s 3)) with ⟨hI, k5⟩ | ⟨hI, k5⟩
    ·rcases mr hI vb (.c 128) with ⟨hI, k6⟩ | ⟨hI, k6⟩
     ·have hI := ay1 hI js (.c 240)
      have u := r0
      exact fun hC => bf (n := 2000) (T := []) (E := (.i (.c 0) db (.i (.c 0) cb .nil))) aa af hI (by simp (disch := omega) only [EqL.all, and_true, evs, evx, wr, tn]; have hps := ci hB (by omega); omega) rfl rfl (by kernel_rfl)
     ·rcases mr hI vb (.c 192) with ⟨hI, k7⟩ | ⟨hI, k7⟩
      ·have u := r0
       exact fun hC => bf (n := 2000) (T := []) (E := (.i (.bin 1 .i64 (.bin 0 .i64 (.bin 2 .i64 (.bin 1 .i64 js (.c 192)) (.c 64)) aq1) (.c 128)) db (.i (.c 2) cb .nil))) aa af hI (by simp (disch := omega) only [EqL.all, and_true, evs, evx, wr, tn]; have hps := ci hB (by omega); omega) rfl rfl (by kernel_rfl)
      ·have hI := ay1 hI js (.c 240)
       have u := r0
       exact fun hC => bf (n := 2000) (T := []) (E := (.i (.c 0) db (.i (.c 0) cb .nil))) aa af hI (by simp (disch := omega) only [EqL.all, and_true, evs, evx, wr, tn]; have hps := ci hB (by omega); omega) rfl rfl (by kernel_rfl)
    ·have hI := ay1 hI js (.c 240)
     have u := r0
     exact fun hC => bf (n := 2000) (T := []) (E := (.i (.c 0) db (.i (.c 0) cb .nil))) aa af hI (by simp (disch := omega) only [EqL.all, and_true, evs, evx, wr, tn]; have hps := ci hB (by omega); omega) rfl rfl (by kernel_rfl)
   ·rcases mr hI js (.c 240) with ⟨hI, k5⟩ | ⟨hI, k5⟩
    ·rcases mr hI (.c 1) (.len (.s 3)) with ⟨hI, k6⟩ | ⟨hI, k6⟩
     ·rcases mr hI vb (.c 128) with ⟨hI, k7⟩ | ⟨hI, k7⟩
      ·have u := r0
       exact fun hC => bf (n := 2000) (T := []) (E := (.i (.c 0) db (.i (.c 0) cb .nil))) aa af hI (by simp (disch := omega) only [EqL.all, and_true, evs, evx, wr, tn]; have hps := ci hB (by omega); omega) rfl rfl (by kernel_rfl)
      ·rcases mr hI vb (.c 192) with ⟨hI, k8⟩ | ⟨hI, k8⟩
       ·rcases mr hI (.c 2) (.len (.s 3)) with ⟨hI, k9⟩ | ⟨hI, k9⟩
        ·rcases mr hI ac0 (.c 128) with ⟨hI, k10⟩ | ⟨hI, k10⟩
         ·have u := r0
          exact fun hC => bf (n := 2000) (T := []) (E := (.i (.c 0) db (.i (.c 0) cb .nil))) aa af hI (by simp (disch := omega) only [EqL.all, and_true, evs, evx, wr, tn]; have hps := ci hB (by omega); omega) rfl rfl (by kernel_rfl)
         ·rcases mr hI ac0 (.c 192) with ⟨hI, k11⟩ | ⟨hI, k11⟩
          ·rcases mr hI vc (.c 2048) with ⟨hI, k12⟩ | ⟨hI, k12⟩
           ·have u := r0
            exact fun hC => bf (n := 2000) (T := []) (E := (.i (.c 0) db (.i (.c 0) cb .nil))) aa af hI (by simp (disch := omega) only [EqL.all, and_true, evs, evx, wr, tn]; have hps := ci hB (by omega); omega) rfl rfl (by kernel_rfl)
           ·have hI := bjw hI vc (.c 0)
            have hI := bjw hI (.c 1114111) vc
            rcases mr hI vc (.c 55296) with ⟨hI, k15⟩ | ⟨hI, k15⟩
            ·have u := r0
             exact fun hC => bf (n := 2000) (T := []) (E := (.i vc db (.i (.c 3) cb .nil))) aa af hI (by simp (disch := omega) only [EqL.all, and_true, evs, evx, wr, tn]; have hps := ci hB (by omega); omega) rfl rfl (by kernel_rfl)
            ·rcases mr hI (.c 57343) vc with ⟨hI, k16⟩ | ⟨hI, k16⟩
             ·have u := r0
              exact fun hC => bf (n := 2000) (T := []) (E := (.i vc db (.i (.c 3) cb .nil))) aa af hI (by simp (disch := omega) only [EqL.all, and_true, evs, evx, wr, tn]; have hps := ci hB (by omega); omega) rfl rfl (by kernel_rfl)
             ·have u := r0
              exact fun hC => bf (n := 2000) (T := []) (E := (.i (.c 0) db (.i (.c 0) cb .nil))) aa af hI (by simp (disch := omega) only [EqL.all, and_true, evs, evx, wr, tn]; have hps := ci hB (by omega); omega) rfl rfl (by kernel_rfl)
          ·have u := r0
           exact fun hC => bf (n := 2000) (T := []) (E := (.i (.c 0) db (.i (.c 0) cb .nil))) aa af hI (by simp (disch := omega) only [EqL.all, and_true, evs, evx, wr, tn]; have hps := ci hB (by omega); omega) rfl rfl (by kernel_rfl)
        ·have u := r0
         exact fun hC => bf (n := 2000) (T := []) (E := (.i (.c 0) db (.i (.c 0) cb .nil))) aa af hI (by simp (disch := omega) only [EqL.all, and_true, evs, evx, wr, tn]; have hps := ci hB (by omega); omega) rfl rfl (by kernel_rfl)
       ·have u := r0
        exact fun hC => bf (n := 2000) (T := []) (E := (.i (.c 0) db (.i (.c 0) cb .nil))) aa af hI (by simp (disch := omega) only [EqL.all, and_true, evs, evx, wr, tn]; have hps := ci hB (by omega); omega) rfl rfl (by kernel_rfl)
     ·have u := r0
      exact fun hC => bf (n := 2000) (T := []) (E := (.i (.c 0) db (.i (.c 0) cb .nil))) aa af hI (by simp (disch := omega) only [EqL.all, and_true, evs, evx, wr, tn]; have hps := ci hB (by omega); omega) rfl rfl (by kernel_rfl)
    ·rcases mr hI js (.c 245) with ⟨hI, k6⟩ | ⟨hI, k6⟩
     ·rcases mr hI (.c 1) (.len (.s 3)) with ⟨hI, k7⟩ | ⟨hI, k7⟩
      ·rcases mr hI vb (.c 128) with ⟨hI, k8⟩ | ⟨hI, k8⟩
       ·have u := r0
        exact fun hC => bf (n := 2000) (T := []) (E := (.i (.c 0) db (.i (.c 0) cb .nil))) aa af hI (by simp (disch := omega) only [EqL.all, and_true, evs, evx, wr, tn]; have hps := ci hB (by omega); omega) rfl rfl (by kernel_rfl)
       ·rcases mr hI vb (.c 192) with ⟨hI, k9⟩ | ⟨hI, k9⟩
        ·rcases mr hI (.c 2) (.len (.s 3)) with ⟨hI, k10⟩ | ⟨hI, k10⟩
         ·rcases mr hI ac0 (.c 128) with ⟨hI, k11⟩ | ⟨hI, k11⟩
          ·have u := r0
           exact fun hC => bf (n := 2000) (T := []) (E := (.i (.c 0) db (.i (.c 0) cb .nil))) aa af hI (by simp (disch := omega) only [EqL.all, and_true, evs, evx, wr, tn]; have hps := ci hB (by omega); omega) rfl rfl (by kernel_rfl)
          ·rcases mr hI ac0 (.c 192) with ⟨hI, k12⟩ | ⟨hI, k12⟩
           ·rcases mr hI (.c 3) (.len (.s 3)) with ⟨hI, k13⟩ | ⟨hI, k13⟩
            ·rcases mr hI (.rd (.s 3) (.c 3)) (.c 128) with ⟨hI, k14⟩ | ⟨hI, k14⟩
             ·have u := r0
              exact fun hC => bf (n := 2000) (T := []) (E := (.i (.c 0) db (.i (.c 0) cb .nil))) aa af hI (by simp (disch := omega) only [EqL.all, and_true, evs, evx, wr, tn]; have hps := ci hB (by omega); omega) rfl rfl (by kernel_rfl)
             ·rcases mr hI (.rd (.s 3) (.c 3)) (.c 192) with ⟨hI, k15⟩ | ⟨hI, k15⟩
              ·rcases mr hI yv (.c 65536) with ⟨hI, k16⟩ | ⟨hI, k16⟩
               ·have u := r0
                exact fun hC => bf (n := 2000) (T := []) (E := (.i (.c 0) db (.i (.c 0) cb .nil))) aa af hI (by simp (disch := omega) only [EqL.all, and_true, evs, evx, wr, tn]; have hps := ci hB (by omega); omega) rfl rfl (by kernel_rfl)
               ·have hI := bjw hI yv (.c 0)
                rcases mr hI (.c 1114111) yv with ⟨hI, k18⟩ | ⟨hI, k18⟩
                ·have u := r0
                 exact fun hC => bf (n := 2000) (T := []) (E := (.i (.c 0) db (.i (.c 0) cb .nil))) aa af hI (by simp (disch := omega) only [EqL.all, and_true, evs, evx, wr, tn]; have hps := ci hB (by omega); omega) rfl rfl (by kernel_rfl)
                ·have hI := bjw hI yv (.c 55296)
                 have hI := ay1 hI (.c 57343) yv
                 have u := r0
                 exact fun hC => bf (n := 2000) (T := []) (E := (.i yv db (.i (.c 4) cb .nil))) aa af hI (by simp (disch := omega) only [EqL.all, and_true, evs, evx, wr, tn]; have hps := ci hB (by omega); omega) rfl rfl (by kernel_rfl)
              ·have u := r0
               exact fun hC => bf (n := 2000) (T := []) (E := (.i (.c 0) db (.i (.c 0) cb .nil))) aa af hI (by simp (disch := omega) only [EqL.all, and_true, evs, evx, wr, tn]; have hps := ci hB (by omega); omega) rfl rfl (by kernel_rfl)
            ·have u := r0
             exact fun hC => bf (n := 2000) (T := []) (E := (.i (.c 0) db (.i (.c 0) cb .nil))) aa af hI (by simp (disch := omega) only [EqL.all, and_true, evs, evx, wr, tn]; have hps := ci hB (by omega); omega) rfl rfl (by kernel_rfl)
           ·have u := r0
            exact fun hC => bf (n := 2000) (T := []) (E := (.i (.c 0) db (.i (.c 0) cb .nil))) aa af hI (by simp (disch := omega) only [EqL.all, and_true, evs, evx, wr, tn]; have hps := ci hB (by omega); omega) rfl rfl (by kernel_rfl)
         ·have u := r0
          exact fun hC => bf (n := 2000) (T := []) (E := (.i (.c 0) db (.i (.c 0) cb .nil))) aa af hI (by simp (disch := omega) only [EqL.all, and_true, evs, evx, wr, tn]; have hps := ci hB (by omega); omega) rfl rfl (by kernel_rfl)
        ·have u := r0
         exact fun hC => bf (n := 2000) (T := []) (E := (.i (.c 0) db (.i (.c 0) cb .nil))) aa af hI (by simp (disch := omega) only [EqL.all, and_true, evs, evx, wr, tn]; have hps := ci hB (by omega); omega) rfl rfl (by kernel_rfl)
      ·have u := r0
       exact fun hC => bf (n := 2000) (T := []) (E := (.i (.c 0) db (.i (.c 0) cb .nil))) aa af hI (by simp (disch := omega) only [EqL.all, and_true, evs, evx, wr, tn]; have hps := ci hB (by omega); omega) rfl rfl (by kernel_rfl)
     ·have u := r0
      exact fun hC => bf (n := 2000) (T := []) (E := (.i (.c 0) db (.i (.c 0) cb .nil))) aa af hI (by simp (disch := omega) only [EqL.all, and_true, evs, evx, wr, tn]; have hps := ci hB (by omega); omega) rfl rfl (by kernel_rfl)
theorem bp5 [Gv] : ax bur := fun σ _ hA _ => by
 show @bz ⟨σ⟩ 105 (.gv (.str (.s 3) []) :: []) 256 [] bp3 256 []
 exact @a83 ⟨σ⟩ _ _ _ _ _ _ _ _ fun hB => @bss ⟨σ⟩ hB (ai hA).1 (ai hA).2
theorem ats [Gv] : ∀ t ∈ [bur], ax t := ed bp5
def bpk [Gv] : Prop := (SAll Gv.σ acz → bw 57 5 a6a 257 a59 a94 258 a93) ∧ (SAll Gv.σ pc → bw 57 5 a6a 257 a59 a92 258 a91)
theorem bso [Gv] (hh : ∀ t ∈ [bt9 mS3, bt8 mS3], au t) (hI : SAll Gv.σ xk) : bpk := by
 obtain ⟨l1, l2, l3, l4⟩ := bpl hI
 have dz : 0 < ((Gv.σ 3).length : Int) → ¬ ptN (Gv.σ 3) = 0 → ak (Gv.σ 3) 0 = _ := fun h h0 => buv (Gv.σ 3) h h0
 have dn : ((Gv.σ 3).length : Int) ≤ 0 → bj (Gv.σ 3) = 1 := bh8
 have en : ((Gv.σ 3).length : Int) ≤ 0 → ak (Gv.σ 3) 0 = [] := fun h => (acj h).2
 have vv := buw (Gv.σ 3)
 rcases bjz hI (.c 0) (.len (.s 3)) with ⟨hI, k1⟩ | ⟨hI, k1⟩
 ·have hI := adi hI (.len (.s 3)) (.c 1)
  have t1 := bws (bsf (σ := Gv.σ) (.s 3))
  rcases a7t hI cb (.c 0) with ⟨hI, k3⟩ | ⟨hI, k3⟩
  ·have u := dz
   exact ⟨aft,
    zt0 [] (zh hI ats) (zp hI hh) hI⟩
  ·have hI := adi hI (.c 400000) ac1
   have hI := adi hI cb (.c 0)
   have hI := adi hI (.len (.s 3)) cb
   have hI := adi hI (.c 4000) sd
   have hI := b10 hI ac1 (.bin 6 .i64 (.len (.s 10)) (.c 1))
   have hI := adi hI ac1 (.c 1)
   have hI := adi hI (.c 8000) (.bin 6 .i64 ac1 sd)
   rcases a7t hI a3h (.c 1) with ⟨hI, k11⟩ | ⟨hI, k11⟩
   ·have hI := bwo hI sd (.len (.s 3))
    have hI := adi hI sd (.c 0)
    have u := dz
    exact ⟨zt [(259, 257)] (.i (.bin 6 .i64 ac1 a3i) aq4 (.g (.cat (.cat (.s 10) a3j) aq3) ayn .nil)) (zh hI ats) (zp hI hh) hI brk,
     aft⟩
   ·have hI := bwo hI sd (.len (.s 3))
    have hI := adi hI sd (.c 0)
    have u := dz
    exact ⟨aft,
     zt0 [] (zh hI ats) (zp hI hh) hI⟩
 ·have u := dz
  exact ⟨zt [(256, 257)] (.i (.v 6) aq4 (.g (.s 10) ayn .nil)) (zh hI ats) (zp hI hh) hI brk,
   aft⟩
theorem aok : ∀ (B : Nat) (σ : Nat → List Int), SAll σ xk → (mS3).eval σ < (B : Int) → @bpk ⟨σ⟩
 | 0, σ, hI, hb => by simp only [mS3, evs] at hb; omega
 | B + 1, σ, hI, hb => by
   have ih : ∀ σ' : Nat → List Int, SAll σ' xk → 0 ≤ (mS3).eval σ' ∧ (mS3).eval σ' < (mS3).eval σ → @bpk ⟨σ'⟩ := fun σ' h h' => aok B σ' h (by omega)
   have hh : ∀ t ∈ [bt9 (mS3), bt8 (mS3)], @au ⟨σ⟩ t := by
    intro t ht
    simp only [List.mem_cons, zH, or_false] at ht
    rcases ht with rfl | rfl
    ·exact fun σ' _ hA hb => (ih σ' (ai hA).1 hb).1 (ai hA).2
    ·exact fun σ' _ hA hb => (ih σ' (ai hA).1 hb).2 (ai hA).2
   exact @bso ⟨σ⟩ hh hI
theorem bgk [Gv] : au blp := fun σ _ hA _ => (aok (((mS3).eval σ).toNat + 1) σ (ai hA).1 (by omega)).1 (ai hA).2
theorem bgj [Gv] : au blo := fun σ _ hA _ => (aok (((mS3).eval σ).toNat + 1) σ (ai hA).1 (by omega)).2 (ai hA).2
theorem bfm [Gv] : ∀ t ∈ [blp, blo], au t := by
 intro t ht
 simp only [List.mem_cons, zH, or_false] at ht
 rcases ht with rfl | rfl
 ·exact bgk
 ·exact bgj
def b0n [Gv] : Prop := (SAll Gv.σ agz → bw 57 5 a58 256 a57 bln 258 blm) ∧ (SAll Gv.σ ag0 → bw 57 5 a58 256 a57 blj 258 bli) ∧ (SAll Gv.σ pc → bw 57 5 a58 256 a57 blg 258 blf)
theorem a8z [Gv] (hI : SAll Gv.σ kz) : b0n := by
 have l1 := a9i hI
 have dz : 0 < ((Gv.σ 3).length : Int) → ¬ ptN (Gv.σ 3) = 0 → ak (Gv.σ 3) 0 = _ := fun h h0 => buv (Gv.σ 3) h h0
 have dn : ((Gv.σ 3).length : Int) ≤ 0 → bj (Gv.σ 3) = 1 := bh8
 have en : ((Gv.σ 3).length : Int) ≤ 0 → ak (Gv.σ 3) 0 = [] := fun h => (acj h).2
 have vv := buw (Gv.σ 3)
 rcases bjz hI (.c 0) (.len (.s 3)) with ⟨hI, k1⟩ | ⟨hI, k1⟩
 ·have hI := adi hI (.len (.s 3)) (.c 1)
  have t1 := bws (bsf (σ := Gv.σ) (.s 3))
  rcases a7t hI cb (.c 0) with ⟨hI, k3⟩ | ⟨hI, k3⟩
  ·have u := dz
   exact ⟨aft,
    aft,
    zt0 [] (zh hI ats) (zp hI bfm) hI⟩
  ·have hI := adi hI cb (.c 0)
   have hI := adi hI (.len (.s 3)) cb
   have hI := adi hI (.c 4000) sd
   have hI := adi hI (.c 8000) (.bin 6 .i64 (.c 1) sd)
   rcases a7t hI a3h (.c 1) with ⟨hI, k8⟩ | ⟨hI, k8⟩
   ·have u := dz
    exact ⟨aft,
     zt [(258, 257)] (.i (.bin 6 .i64 (.c 1) a3i) aev (.g (.cat a3j aq3) aym .nil)) (zh hI ats) (zp hI bfm) hI brk,
     aft⟩
   ·have u := dz
    exact ⟨aft,
     aft,
     zt0 [] (zh hI ats) (zp hI bfm) hI⟩
 ·have u := dz
  exact ⟨zt0 [] (zh hI ats) (zp hI bfm) hI,
   aft,
   aft⟩
theorem bgi [Gv] : au bll := fun σ _ hA _ => (@a8z ⟨σ⟩  (ai hA).1).1 (ai hA).2
theorem bgh [Gv] : au blh := fun σ _ hA _ => (@a8z ⟨σ⟩  (ai hA).1).2.1 (ai hA).2
theorem bgg [Gv] : au bld := fun σ _ hA _ => (@a8z ⟨σ⟩  (ai hA).1).2.2 (ai hA).2
theorem bo6 [Gv] : ∀ t ∈ [bll, blh, bld], au t := by
 intro t ht
 simp only [List.mem_cons, zH, or_false] at ht
 rcases ht with rfl | rfl | rfl
 ·exact bgi
 ·exact bgh
 ·exact bgg
def b0o [Gv] : Prop := (SAll Gv.σ agz → bz 57 a6c 256 a6b blz 258 bly) ∧ (SAll Gv.σ ag0 → bz 57 a6c 256 a6b blw 258 blv) ∧ (SAll Gv.σ pc → bz 57 a6c 256 a6b bls 258 blr)
theorem a80 [Gv] (hI : SAll Gv.σ kz) : b0o := by
 have l1 := a9i hI
 have dn : ((Gv.σ 3).length : Int) ≤ 0 → bj (Gv.σ 3) = 1 := bh8
 have en : ((Gv.σ 3).length : Int) ≤ 0 → ak (Gv.σ 3) 0 = [] := fun h => (acj h).2
 rcases bjz hI (.len (.s 3)) (.c 1) with ⟨hI, k1⟩ | ⟨hI, k1⟩
 ·have u := en
  exact ⟨zm0 [] aa (zp hI bo6) hI,
   ash,
   ash⟩
 ·rcases a7t hI acy (.c 1) with ⟨hI, k2⟩ | ⟨hI, k2⟩
  ·have u := en
   exact ⟨ash,
    zm0 [(257, 257)] aa (zp hI bo6) hI,
    ash⟩
  ·have u := en
   exact ⟨ash,
    ash,
    zm0 [] aa (zp hI bo6) hI⟩
theorem bgn [Gv] : ax blx := fun σ _ hA _ => (@a80 ⟨σ⟩  (ai hA).1).1 (ai hA).2
theorem bgm [Gv] : ax blu := fun σ _ hA _ => (@a80 ⟨σ⟩  (ai hA).1).2.1 (ai hA).2
theorem bgl [Gv] : ax blq := fun σ _ hA _ => (@a80 ⟨σ⟩  (ai hA).1).2.2 (ai hA).2
theorem bo7 [Gv] : ∀ t ∈ [blx, blu, blq], ax t := by
 intro t ht
 simp only [List.mem_cons, zH, or_false] at ht
 rcases ht with rfl | rfl | rfl
 ·exact bgn
 ·exact bgm
 ·exact bgl
def b1o [Gv] : Prop := (SAll Gv.σ acz → bz 20 bic 256 bia bn6 258 bn5) ∧ (SAll Gv.σ pc → bz 20 bic 256 bia bn3 258 bn2)
theorem bkr [Gv] (hI : SAll Gv.σ kz) : b1o := by
 have l1 := a9i hI
 have dn : ((Gv.σ 3).length : Int) ≤ 0 → bj (Gv.σ 3) = 1 := bh8
 have en : ((Gv.σ 3).length : Int) ≤ 0 → ak (Gv.σ 3) 0 = [] := fun h => (acj h).2
 rcases bjz hI (.len (.s 3)) (.c 1) with ⟨hI, k1⟩ | ⟨hI, k1⟩
 ·have u := en
  exact ⟨zm0 [] (zh hI bo7) af hI,
   ash⟩
 ·rcases a7t hI acy (.c 1) with ⟨hI, k2⟩ | ⟨hI, k2⟩
  ·have u := en
   exact ⟨zm0 [] (zh hI bo7) af hI,
    ash⟩
  ·have u := en
   exact ⟨ash,
    zm0 [] (zh hI bo7) af hI⟩
theorem bib [Gv] : ax bn4 := fun σ _ hA _ => (@bkr ⟨σ⟩  (ai hA).1).1 (ai hA).2
theorem bh9 [Gv] : ax bn1 := fun σ _ hA _ => (@bkr ⟨σ⟩  (ai hA).1).2 (ai hA).2
end Go.Ev
