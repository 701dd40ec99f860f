import Derived.Test.YtkfdioikigponaaGreatDoorRbG
set_option maxRecDepth 100000
set_option linter.all false
namespace Go.Ev
abbrev ea : SE := .app 114 (.g (.s 3) .nil)
abbrev dg : SE := .app 113 (.g (.s 3) .nil)
abbrev a5t : List SA := [.mk true (.len (.s 3)) (.c 1) false, .mk true (.c 4000) (.len (.s 3)) false]
abbrev a7f : AL := .g (.s 3) (.i (.c 0) .nil)
abbrev a5b : GE := .app 6 a7f
abbrev ai5 : SE := .len a5b
abbrev av4 : SE := .bin 6 .i64 (.v 6) ai5
abbrev a7m : GE := .cat (.s 10) a5b
abbrev acd : List SA := [.mk true (.c 4000) (.len (.s 3)) false, .mk false (.v 6) (.len (.s 10)) true, .mk true (.v 6) (.c 1) false, .mk true (.c 8000) (.bin 6 .i64 (.v 6) (.len (.s 3))) false]
abbrev ag9 : SE := .app 50 (.g (.s 3) .nil)
abbrev aiq : List SA := [.mk false ag9 (.c 1) true]
abbrev tz : List SA := [.mk false ag9 (.c 1) false]
abbrev oq : List SA := [.mk true (.c 4000) (.len (.s 3)) false]
abbrev alw : List SA := [.mk true (.len (.s 3)) (.c 1) true]
abbrev ano : List SA := [.mk false ag9 (.c 1) true, .mk true (.len (.s 3)) (.c 1) false]
abbrev mh : SE := .bin 0 .i64 (.rd (.s 3) (.c 0)) (.c 0)
abbrev aaj : SE := .rd (.s 3) (.c 1)
abbrev awe : SE := .bin 0 .i64 aaj (.c 0)
abbrev ahu : SE := .rd (.s 3) (.c 2)
abbrev a7t : SE := .bin 0 .i64 ahu (.c 0)
abbrev ze : SE := .bin 1 .i64 (.bin 0 .i64 (.bin 2 .i64 (.bin 1 .i64 (.bin 0 .i64 (.bin 2 .i64 (.bin 1 .i64 mh (.c 224)) (.c 64)) awe) (.c 128)) (.c 64)) a7t) (.c 128)
abbrev adz : SE := .bin 1 .i64 (.bin 0 .i64 (.bin 2 .i64 (.bin 1 .i64 (.bin 0 .i64 (.bin 2 .i64 (.bin 1 .i64 (.bin 0 .i64 (.bin 2 .i64 (.bin 1 .i64 mh (.c 240)) (.c 64)) awe) (.c 128)) (.c 64)) a7t) (.c 128)) (.c 64)) (.bin 0 .i64 (.rd (.s 3) (.c 3)) (.c 0))) (.c 128)
abbrev aib : SE := .bin 6 .i64 (.v 6) (.c 1)
abbrev av8 : GE := .cut (.s 3) dg (.len (.s 3))
abbrev xm : SE := .len av8
abbrev a8o : SE := .app 50 (.g av8 .nil)
abbrev az2 : GE := .app 6 (.g av8 (.i (.c 0) .nil))
abbrev bdw : SE := .len az2
abbrev bcw : GE := .one ea
noncomputable section
def b6x : List AV := [.gv (.str (.s 3) [])]
def b80 : List HO := []
def b68 : List HO := []
def b2m : TR := .ret (.tuple [.sym .i64 ea [], .sym .i64 dg []])
def b7y : TM := .mk 54 b6x 256 b80 (a5t ++ []) none b2m 256 b68
def mS3 : SE := .len (.s 3)
def ro3 (k : Nat) (n : SE) (g : GE) : HO := .mk k (.gob (.gh 3 [.i64] n g))
def bei : List AV := (.gv (.str (.s 3) []) :: .top :: .top :: .top :: .gv (.sl (K.of 256) 1 (.v 6) []) :: tps 20)
def bff : List HO := [ro3 256 (.v 6) (.s 10)]
def bhm : List HO := [ro3 257 av4 a7m]
def blr : LR := (.x 0 (.top :: .top :: .top :: .top :: .gv (.sl (K.of 257) 1 av4 []) :: tps 20))
def b70 (m : SE) : LT := .mk 38 5 bei 257 bff (acd ++ aiq) (some (mS3, m)) blr 258 bhm
def buk : LT := .mk 38 5 bei 257 bff (acd ++ aiq) none blr 258 bhm
def bkg : List HO := []
def bml : LR := (.r (.top :: .top :: .nilSlice :: .int .i64 5 :: tps 21))
def b60 (m : SE) : LT := .mk 38 5 bei 257 bff (acd ++ tz) (some (mS3, m)) bml 258 bkg
def bwz : LT := .mk 38 5 bei 257 bff (acd ++ tz) none bml 258 bkg
def bgc : List AV := (.gv (.str (.s 3) []) :: .top :: .top :: .top :: .nilSlice :: tps 20)
def bgr : List HO := []
def bvs : List HO := []
def bww : LR := (.x 0 (.top :: .top :: .top :: .top :: .nilSlice :: tps 20))
def bxu : LT := .mk 38 5 bgc 256 bgr (oq ++ alw) none bww 258 bvs
def bz9 : List HO := [ro3 257 ai5 (.app 6 a7f)]
def bxr : LR := (.x 0 (.top :: .top :: .top :: .top :: .gv (.sl (K.of 257) 1 ai5 []) :: tps 20))
def by7 : LT := .mk 38 5 bgc 256 bgr (oq ++ ano) none bxr 258 bz9
def bvy : List HO := []
def bva : LR := (.r (.top :: .top :: .nilSlice :: .int .i64 5 :: tps 21))
def bwh : LT := .mk 38 5 bgc 256 bgr (oq ++ tz) none bva 258 bvy
def bfk : List AV := [.gv (.str (.s 3) [])]
def beh : List HO := []
def bxe : List HO := []
def bvi : TR := .ret (.tuple [.nilSlice, .int .i64 0])
def bv0 : TM := .mk 38 bfk 256 beh (oq ++ alw) none bvi 258 bxe
def bx9 : List HO := [ro3 257 ai5 (.app 6 a7f)]
def bvc : TR := .ret (.tuple [.gv (.sl (K.of 257) 1 ai5 []), .int .i64 0])
def bzp : TM := .mk 38 bfk 256 beh (oq ++ ano) none bvc 258 bx9
def byr : List HO := []
def bwm : TR := .ret (.tuple [.nilSlice, .int .i64 5])
def bxp : TM := .mk 38 bfk 256 beh (oq ++ tz) none bwm 258 byr
def brf : List AV := [.gv (.str (.s 3) [])]
def bs1 : List HO := []
def btz : List HO := []
def bug : TR := .ret (.bool true)
def bys : TM := .mk 13 brf 256 bs1 (oq ++ aiq) none bug 258 btz
def bwi : List HO := []
def bzi : TR := .ret (.bool false)
def bvj : TM := .mk 13 brf 256 bs1 (oq ++ tz) none bzi 258 bwi
end
section
variable {σ : Nat → List Int}
theorem b27 (h : SAll σ a5t) : 1 ≤ ((σ 3).length : Int) ∧ ((σ 3).length : Int) ≤ 4000 := by
 simp only [sall_cons, sF, evs] at h
 exact ⟨h.1, h.2.1⟩
theorem blo (h : SAll σ oq) : ((σ 3).length : Int) ≤ 4000 := by
 simp only [sall_cons, sF, evs] at h
 exact h.1
theorem b3l (h : SAll σ acd) : ((σ 3).length : Int) ≤ 4000 ∧ (σ 6).headD 0 = ((σ 10).length : Int) ∧ 1 ≤ (σ 6).headD 0 ∧ (σ 6).headD 0 + ((σ 3).length : Int) ≤ 8000 := by
 simp only [sall_cons, sF, sE, evs] at h
 exact ⟨h.1, h.2.1, h.2.2.1, h.2.2.2.1⟩
end
theorem tn : Int.toNat 1 = 1 ∧ Int.toNat 2 = 2 ∧ Int.toNat 3 = 3 := ⟨rfl, rfl, rfl⟩
theorem nh (s : List Int) : s.take (s.length : Int).toNat = s := by rw [Int.toNat_natCast, List.take_length]
theorem bo9 (s : List Int) : aoz s ↔ drJ s 0 = 65533 ∧ dwJ s 0 ≤ 1 := by
 have h1 := Lib.decodeL_width (u8L s)
 rw [a5x, b9n]
 unfold aoz
 omega
theorem bou {s : List Int} (h : 0 < (s.length : Int)) : 0 ≤ ptN s ∧ ptN s ≤ (s.length : Int) ∧ (¬ ptN s = 0 ↔ ¬ aoz s) ∧ (¬ aoz s → ptN s = ((Lib.decodeL (u8L s)).2 : Int) ∧ ptC s = drJ s 0) := by
 have h1 := Lib.decodeL_width (u8L s)
 have h2 := Lib.decodeL_le (u8L s) (by intro e; have := congrArg List.length e; rw [axu, zS] at this; omega)
 rw [axu] at h2
 have h3 : dwJ s 0 = ((Lib.decodeL (u8L s)).2 : Int) := rfl
 unfold ptN ptC
 rw [bo9]
 by_cases hc : drJ s 0 = 65533 ∧ dwJ s 0 ≤ 1
 ·rw [if_pos hc]; exact ⟨by omega, by omega, ⟨fun x => absurd rfl x, fun x => absurd hc x⟩, fun x => absurd hc x⟩
 ·rw [if_neg hc, if_neg hc]; exact ⟨by omega, by omega, ⟨fun _ => hc, fun _ => by omega⟩, fun _ => ⟨h3, rfl⟩⟩
theorem b5x (s : List Int) (h : 0 < (s.length : Int)) : (ptN s = 0 → ¬ b9 s = 1) ∧ (¬ ptN s = 0 → (b9 s = 1 ↔ b9 (s.drop (ptN s).toNat) = 1)) := by
 have hs : s ≠ [] := by rintro rfl; simp at h
 obtain ⟨b1, b2, b3, b4⟩ := bou h
 rw [aav hs]
 by_cases hc : aoz s
 ·exact ⟨fun _ x => x.1 hc, fun x => absurd hc (b3.1 x)⟩
 ·obtain ⟨e1, e2⟩ := b4 hc
  have e3 : (ptN s).toNat = (Lib.decodeL (u8L s)).2 := by omega
  rw [e3]
  exact ⟨fun x => absurd x (b3.2 hc), fun _ => ⟨fun x => x.2, fun x => ⟨hc, x⟩⟩⟩
theorem b9k (s : List Int) (h : 0 < (s.length : Int)) (h0 : ¬ ptN s = 0) : ai s 0 = ptC s :: ai (s.drop (ptN s).toNat) 0 := by
 have hs : s ≠ [] := by rintro rfl; simp at h
 obtain ⟨b1, b2, b3, b4⟩ := bou h
 obtain ⟨e1, e2⟩ := b4 (b3.1 h0)
 have e3 : (ptN s).toNat = (Lib.decodeL (u8L s)).2 := by omega
 rw [e3, e2, tg hs]
theorem ahv {s : List Int} (h : (s.length : Int) ≤ 0) : b9 s = 1 ∧ ai s 0 = [] := by
 have : s = [] := List.eq_nil_of_length_eq_zero (by omega)
 subst this
 exact ⟨rfl, rfl⟩
theorem b7c {σ : Nat → List Int} (g : GE) : 0 < (SE.len g).eval σ → 0 ≤ (SE.app 113 (.g g .nil)).eval σ ∧ (SE.app 113 (.g g .nil)).eval σ ≤ (SE.len g).eval σ := fun h => ⟨(bou h).1, (bou h).2.1⟩
theorem btk {s : List Int} (h : (s.length : Int) ≤ 0) : b9 s = 1 := (ahv h).1
def cci [Gv] : Prop := (SAll Gv.σ [] → ba 54 b6x 256 b80 b2m 256 b68)
theorem b7a [Gv] (hB : b8 (Gv.σ 3)) (hI : SAll Gv.σ a5t) : cci := by
 obtain ⟨hl1, hl2⟩ := b27 hI
 have r0 := tu hB 0; have r1 := tu hB 1; have r2 := tu hB 2; have r3 := tu hB 3
 have hI := a5e hI (.c 0) (.len (.s 3))
 rcases qv hI mh (.c 128) with ⟨hI, k2⟩ | ⟨hI, k2⟩
 ·have u := r0
  exact fun hC => br (n := 2000) (T := []) (E := (.i mh ea (.i (.c 1) dg .nil))) aa ag hI (by simp (disch := omega) only [EqL.all, and_true, evs, evx, wr, tn]; have hps := dh hB (by omega); omega) rfl rfl (by kernel_rfl)
 ·rcases qv hI mh (.c 194) with ⟨hI, k3⟩ | ⟨hI, k3⟩
  ·have hI := a5e hI mh (.c 224)
   have hI := a5e hI mh (.c 240)
   have u := r0
   exact fun hC => br (n := 2000) (T := []) (E := (.i (.c 0) ea (.i (.c 0) dg .nil))) aa ag hI (by simp (disch := omega) only [EqL.all, and_true, evs, evx, wr, tn]; have hps := dh hB (by omega); omega) rfl rfl (by kernel_rfl)
  ·rcases qv hI mh (.c 224) with ⟨hI, k4⟩ | ⟨hI, k4⟩
   ·rcases qv hI (.c 1) (.len (.s 3)) with ⟨hI, k5⟩ | ⟨hI, k5⟩
    ·rcases qv hI aaj (.c 128) with ⟨hI, k6⟩ | ⟨hI, k6⟩
     ·have hI := a5e hI mh (.c 240)
      have u := r0
      exact fun hC => br (n := 2000) (T := []) (E := (.i (.c 0) ea (.i (.c 0) dg .nil))) aa ag hI (by simp (disch := omega) only [EqL.all, and_true, evs, evx, wr, tn]; have hps := dh hB (by omega); omega) rfl rfl (by kernel_rfl)
     ·rcases qv hI aaj (.c 192) with ⟨hI, k7⟩ | ⟨hI, k7⟩
      ·have u := r0
       exact fun hC => br (n := 2000) (T := []) (E := (.i (.bin 1 .i64 (.bin 0 .i64 (.bin 2 .i64 (.bin 1 .i64 mh (.c 192)) (.c 64)) awe) (.c 128)) ea (.i (.c 2) dg .nil))) aa ag hI (by simp (disch := omega) only [EqL.all, and_true, evs, evx, wr, tn]; have hps := dh hB (by omega); omega) rfl rfl (by kernel_rfl)
      ·have hI := a5e hI mh (.c 240)
       have u := r0
       exact fun hC => br (n := 2000) (T := []) (E := (.i (.c 0) ea (.i (.c 0) dg .nil))) aa ag hI (by simp (disch := omega) only [EqL.all, and_true, evs, evx, wr, tn]; have hps := dh hB (by omega); omega) rfl rfl (by kernel_rfl)
    ·have hI := a5e hI mh (.c 240)
     have u := r0
     exact fun hC => br (n := 2000) (T := []) (E := (.i (.c 0) ea (.i (.c 0) dg .nil))) aa ag hI (by simp (disch := omega) only [EqL.all, and_true, evs, evx, wr, tn]; have hps := dh hB (by omega); omega) rfl rfl (by kernel_rfl)
   ·rcases qv hI mh (.c 240) with ⟨hI, k5⟩ | ⟨hI, k5⟩
    ·rcases qv hI (.c 1) (.len (.s 3)) with ⟨hI, k6⟩ | ⟨hI, k6⟩
     ·rcases qv hI aaj (.c 128) with ⟨hI, k7⟩ | ⟨hI, k7⟩
      ·have u := r0
       exact fun hC => br (n := 2000) (T := []) (E := (.i (.c 0) ea (.i (.c 0) dg .nil))) aa ag hI (by simp (disch := omega) only [EqL.all, and_true, evs, evx, wr, tn]; have hps := dh hB (by omega); omega) rfl rfl (by kernel_rfl)
      ·rcases qv hI aaj (.c 192) with ⟨hI, k8⟩ | ⟨hI, k8⟩
       ·rcases qv hI (.c 2) (.len (.s 3)) with ⟨hI, k9⟩ | ⟨hI, k9⟩
        ·rcases qv hI ahu (.c 128) with ⟨hI, k10⟩ | ⟨hI, k10⟩
         ·have u := r0
          exact fun hC => br (n := 2000) (T := []) (E := (.i (.c 0) ea (.i (.c 0) dg .nil))) aa ag hI (by simp (disch := omega) only [EqL.all, and_true, evs, evx, wr, tn]; have hps := dh hB (by omega); omega) rfl rfl (by kernel_rfl)
         ·rcases qv hI ahu (.c 192) with ⟨hI, k11⟩ | ⟨hI, k11⟩
          ·rcases qv hI ze (.c 2048) with ⟨hI, k12⟩ | ⟨hI, k12⟩
           ·have u := r0
            exact fun hC => br (n := 2000) (T := []) (E := (.i (.c 0) ea (.i (.c 0) dg .nil))) aa ag hI (by simp (disch := omega) only [EqL.all, and_true, evs, evx, wr, tn]; have hps := dh hB (by omega); omega) rfl rfl (by kernel_rfl)
           ·have hI := btc hI ze (.c 0)
            have hI := btc hI (.c 1114111) ze
            rcases qv hI ze (.c 55296) with ⟨hI, k15⟩ | ⟨hI, k15⟩
            ·have u := r0
             exact fun hC => br (n := 2000) (T := []) (E := (.i ze ea (.i (.c 3) dg .nil))) aa ag hI (by simp (disch := omega) only [EqL.all, and_true, evs, evx, wr, tn]; have hps := dh hB (by omega); omega) rfl rfl (by kernel_rfl)
            ·rcases qv hI (.c 57343) ze with ⟨hI, k16⟩ | ⟨hI, k16⟩
             ·have u := r0
              exact fun hC => br (n := 2000) (T := []) (E := (.i ze ea (.i (.c 3) dg .nil))) aa ag hI (by simp (disch := omega) only [EqL.all, and_true, evs, evx, wr, tn]; have hps := dh hB (by omega); omega) rfl rfl (by kernel_rfl)
             ·have u := r0
              exact fun hC => br (n := 2000) (T := []) (E := (.i (.c 0) ea (.i (.c 0) dg .nil))) aa ag hI (by simp (disch := omega) only [EqL.all, and_true, evs, evx, wr, tn]; have hps := dh hB (by omega); omega) rfl rfl (by kernel_rfl)
          ·have u := r0
           exact fun hC => br (n := 2000) (T := []) (E := (.i (.c 0) ea (.i (.c 0) dg .nil))) aa ag hI (by simp (disch := omega) only [EqL.all, and_true, evs, evx, wr, tn]; have hps := dh hB (by omega); omega) rfl rfl (by kernel_rfl)
        ·have u := r0
         exact fun hC => br (n := 2000) (T := []) (E := (.i (.c 0) ea (.i (.c 0) dg .nil))) aa ag hI (by simp (disch := omega) only [EqL.all, and_true, evs, evx, wr, tn]; have hps := dh hB (by omega); omega) rfl rfl (by kernel_rfl)
       ·have u := r0
        exact fun hC => br (n := 2000) (T := []) (E := (.i (.c 0) ea (.i (.c 0) dg .nil))) aa ag hI (by simp (disch := omega) only [EqL.all, and_true, evs, evx, wr, tn]; have hps := dh hB (by omega); omega) rfl rfl (by kernel_rfl)
     ·have u := r0
      exact fun hC => br (n := 2000) (T := []) (E := (.i (.c 0) ea (.i (.c 0) dg .nil))) aa ag hI (by simp (disch := omega) only [EqL.all, and_true, evs, evx, wr, tn]; have hps := dh hB (by omega); omega) rfl rfl (by kernel_rfl)
    ·rcases qv hI mh (.c 245) with ⟨hI, k6⟩ | ⟨hI, k6⟩
     ·rcases qv hI (.c 1) (.len (.s 3)) with ⟨hI, k7⟩ | ⟨hI, k7⟩
      ·rcases qv hI aaj (.c 128) with ⟨hI, k8⟩ | ⟨hI, k8⟩
       ·have u := r0
        exact fun hC => br (n := 2000) (T := []) (E := (.i (.c 0) ea (.i (.c 0) dg .nil))) aa ag hI (by simp (disch := omega) only [EqL.all, and_true, evs, evx, wr, tn]; have hps := dh hB (by omega); omega) rfl rfl (by kernel_rfl)
       ·rcases qv hI aaj (.c 192) with ⟨hI, k9⟩ | ⟨hI, k9⟩
        ·rcases qv hI (.c 2) (.len (.s 3)) with ⟨hI, k10⟩ | ⟨hI, k10⟩
         ·rcases qv hI ahu (.c 128) with ⟨hI, k11⟩ | ⟨hI, k11⟩
          ·have u := r0
           exact fun hC => br (n := 2000) (T := []) (E := (.i (.c 0) ea (.i (.c 0) dg .nil))) aa ag hI (by simp (disch := omega) only [EqL.all, and_true, evs, evx, wr, tn]; have hps := dh hB (by omega); omega) rfl rfl (by kernel_rfl)
          ·rcases qv hI ahu (.c 192) with ⟨hI, k12⟩ | ⟨hI, k12⟩
           ·rcases qv hI (.c 3) (.len (.s 3)) with ⟨hI, k13⟩ | ⟨hI, k13⟩
            ·rcases qv hI (.rd (.s 3) (.c 3)) (.c 128) with ⟨hI, k14⟩ | ⟨hI, k14⟩
             ·have u := r0
              exact fun hC => br (n := 2000) (T := []) (E := (.i (.c 0) ea (.i (.c 0) dg .nil))) aa ag hI (by simp (disch := omega) only [EqL.all, and_true, evs, evx, wr, tn]; have hps := dh hB (by omega); omega) rfl rfl (by kernel_rfl)
             ·rcases qv hI (.rd (.s 3) (.c 3)) (.c 192) with ⟨hI, k15⟩ | ⟨hI, k15⟩
              ·rcases qv hI adz (.c 65536) with ⟨hI, k16⟩ | ⟨hI, k16⟩
               ·have u := r0
                exact fun hC => br (n := 2000) (T := []) (E := (.i (.c 0) ea (.i (.c 0) dg .nil))) aa ag hI (by simp (disch := omega) only [EqL.all, and_true, evs, evx, wr, tn]; have hps := dh hB (by omega); omega) rfl rfl (by kernel_rfl)
               ·have hI := btc hI adz (.c 0)
                rcases qv hI (.c 1114111) adz with ⟨hI, k18⟩ | ⟨hI, k18⟩
                ·have u := r0
                 exact fun hC => br (n := 2000) (T := []) (E := (.i (.c 0) ea (.i (.c 0) dg .nil))) aa ag hI (by simp (disch := omega) only [EqL.all, and_true, evs, evx, wr, tn]; have hps := dh hB (by omega); omega) rfl rfl (by kernel_rfl)
                ·have hI := btc hI adz (.c 55296)
                 have hI := a5e hI (.c 57343) adz
                 have u := r0
                 exact fun hC => br (n := 2000) (T := []) (E := (.i adz ea (.i (.c 4) dg .nil))) aa ag hI (by simp (disch := omega) only [EqL.all, and_true, evs, evx, wr, tn]; have hps := dh hB (by omega); omega) rfl rfl (by kernel_rfl)
              ·have u := r0
               exact fun hC => br (n := 2000) (T := []) (E := (.i (.c 0) ea (.i (.c 0) dg .nil))) aa ag hI (by simp (disch := omega) only [EqL.all, and_true, evs, evx, wr, tn]; have hps := dh hB (by omega); omega) rfl rfl (by kernel_rfl)
            ·have u := r0
             exact fun hC => br (n := 2000) (T := []) (E := (.i (.c 0) ea (.i (.c 0) dg .nil))) aa ag hI (by simp (disch := omega) only [EqL.all, and_true, evs, evx, wr, tn]; have hps := dh hB (by omega); omega) rfl rfl (by kernel_rfl)
           ·have u := r0
            exact fun hC => br (n := 2000) (T := []) (E := (.i (.c 0) ea (.i (.c 0) dg .nil))) aa ag hI (by simp (disch := omega) only [EqL.all, and_true, evs, evx, wr, tn]; have hps := dh hB (by omega); omega) rfl rfl (by kernel_rfl)
         ·have u := r0
          exact fun hC => br (n := 2000) (T := []) (E := (.i (.c 0) ea (.i (.c 0) dg .nil))) aa ag hI (by simp (disch := omega) only [EqL.all, and_true, evs, evx, wr, tn]; have hps := dh hB (by omega); omega) rfl rfl (by kernel_rfl)
        ·have u := r0
         exact fun hC => br (n := 2000) (T := []) (E := (.i (.c 0) ea (.i (.c 0) dg .nil))) aa ag hI (by simp (disch := omega) only [EqL.all, and_true, evs, evx, wr, tn]; have hps := dh hB (by omega); omega) rfl rfl (by kernel_rfl)
      ·have u := r0
       exact fun hC => br (n := 2000) (T := []) (E := (.i (.c 0) ea (.i (.c 0) dg .nil))) aa ag hI (by simp (disch := omega) only [EqL.all, and_true, evs, evx, wr, tn]; have hps := dh hB (by omega); omega) rfl rfl (by kernel_rfl)
     ·have u := r0
      exact fun hC => br (n := 2000) (T := []) (E := (.i (.c 0) ea (.i (.c 0) dg .nil))) aa ag hI (by simp (disch := omega) only [EqL.all, and_true, evs, evx, wr, tn]; have hps := dh hB (by omega); omega) rfl rfl (by kernel_rfl)
theorem b1g [Gv] : am b7y := fun σ _ hA _ => by
 show @ba ⟨σ⟩ 54 (.gv (.str (.s 3) []) :: []) 256 [] b2m 256 []
 exact @bg7 ⟨σ⟩ _ _ _ _ _ _ _ _ fun hB => @b7a ⟨σ⟩ hB (aj hA).1 (aj hA).2
theorem a2u [Gv] : ∀ t ∈ [b7y], am t := cg b1g
def b3s [Gv] : Prop := (SAll Gv.σ aiq → b7 38 5 bei 257 bff blr 258 bhm) ∧ (SAll Gv.σ tz → b7 38 5 bei 257 bff bml 258 bkg)
theorem b9q [Gv] (hh : ∀ t ∈ [b70 mS3, b60 mS3], au t) (hI : SAll Gv.σ acd) : b3s := by
 obtain ⟨l1, l2, l3, l4⟩ := b3l hI
 have dz : 0 < ((Gv.σ 3).length : Int) → ¬ ptN (Gv.σ 3) = 0 → ai (Gv.σ 3) 0 = _ := fun h h0 => b9k (Gv.σ 3) h h0
 have dn : ((Gv.σ 3).length : Int) ≤ 0 → b9 (Gv.σ 3) = 1 := btk
 have en : ((Gv.σ 3).length : Int) ≤ 0 → ai (Gv.σ 3) 0 = [] := fun h => (ahv h).2
 have vv := b5x (Gv.σ 3)
 rcases bql hI (.c 0) (.len (.s 3)) with ⟨hI, k1⟩ | ⟨hI, k1⟩
 ·have hI := aic hI (.len (.s 3)) (.c 1)
  have t1 := b8h (b7c (σ := Gv.σ) (.s 3))
  rcases bgj hI dg (.c 0) with ⟨hI, k3⟩ | ⟨hI, k3⟩
  ·have u := dz
   exact ⟨alh,
    zt0 [] (zh hI a2u) (zp hI hh) hI⟩
  ·have hI := aic hI (.c 60000) aib
   have hI := aic hI dg (.c 0)
   have hI := aic hI (.len (.s 3)) dg
   have hI := aic hI (.c 4000) xm
   have hI := cbb hI aib (.bin 6 .i64 (.len (.s 10)) (.c 1))
   have hI := aic hI aib (.c 1)
   have hI := aic hI (.c 8000) (.bin 6 .i64 aib xm)
   rcases bgj hI a8o (.c 1) with ⟨hI, k11⟩ | ⟨hI, k11⟩
   ·have hI := b96 hI xm (.len (.s 3))
    have hI := aic hI xm (.c 0)
    have u := dz
    exact ⟨zt [(259, 257)] (.i (.bin 6 .i64 aib bdw) av4 (.g (.cat (.cat (.s 10) bcw) az2) a7m .nil)) (zh hI a2u) (zp hI hh) hI b1k,
     alh⟩
   ·have hI := b96 hI xm (.len (.s 3))
    have hI := aic hI xm (.c 0)
    have u := dz
    exact ⟨alh,
     zt0 [] (zh hI a2u) (zp hI hh) hI⟩
 ·have u := dz
  exact ⟨zt [(256, 257)] (.i (.v 6) av4 (.g (.s 10) a7m .nil)) (zh hI a2u) (zp hI hh) hI b1k,
   alh⟩
theorem ayt : ∀ (B : Nat) (σ : Nat → List Int), SAll σ acd → (mS3).eval σ < (B : Int) → @b3s ⟨σ⟩
 | 0, σ, hI, hb => by simp only [mS3, evs] at hb; omega
 | B + 1, σ, hI, hb => by
   have ih : ∀ σ' : Nat → List Int, SAll σ' acd → 0 ≤ (mS3).eval σ' ∧ (mS3).eval σ' < (mS3).eval σ → @b3s ⟨σ'⟩ := fun σ' h h' => ayt B σ' h (by omega)
   have hh : ∀ t ∈ [b70 (mS3), b60 (mS3)], @au ⟨σ⟩ t := by
    intro t ht
    simp only [List.mem_cons, zH, or_false] at ht
    rcases ht with rfl | rfl
    ·exact fun σ' _ hA hb => (ih σ' (aj hA).1 hb).1 (aj hA).2
    ·exact fun σ' _ hA hb => (ih σ' (aj hA).1 hb).2 (aj hA).2
   exact @b9q ⟨σ⟩ hh hI
theorem bqp [Gv] : au buk := fun σ _ hA _ => (ayt (((mS3).eval σ).toNat + 1) σ (aj hA).1 (by omega)).1 (aj hA).2
theorem bsz [Gv] : au bwz := fun σ _ hA _ => (ayt (((mS3).eval σ).toNat + 1) σ (aj hA).1 (by omega)).2 (aj hA).2
theorem bto [Gv] : ∀ t ∈ [buk, bwz], au t := by
 intro t ht
 simp only [List.mem_cons, zH, or_false] at ht
 rcases ht with rfl | rfl
 ·exact bqp
 ·exact bsz
def cbt [Gv] : Prop := (SAll Gv.σ alw → b7 38 5 bgc 256 bgr bww 258 bvs) ∧ (SAll Gv.σ ano → b7 38 5 bgc 256 bgr bxr 258 bz9) ∧ (SAll Gv.σ tz → b7 38 5 bgc 256 bgr bva 258 bvy)
theorem bjf [Gv] (hI : SAll Gv.σ oq) : cbt := by
 have l1 := blo hI
 have dz : 0 < ((Gv.σ 3).length : Int) → ¬ ptN (Gv.σ 3) = 0 → ai (Gv.σ 3) 0 = _ := fun h h0 => b9k (Gv.σ 3) h h0
 have dn : ((Gv.σ 3).length : Int) ≤ 0 → b9 (Gv.σ 3) = 1 := btk
 have en : ((Gv.σ 3).length : Int) ≤ 0 → ai (Gv.σ 3) 0 = [] := fun h => (ahv h).2
 have vv := b5x (Gv.σ 3)
 rcases bql hI (.c 0) (.len (.s 3)) with ⟨hI, k1⟩ | ⟨hI, k1⟩
 ·have hI := aic hI (.len (.s 3)) (.c 1)
  have t1 := b8h (b7c (σ := Gv.σ) (.s 3))
  rcases bgj hI dg (.c 0) with ⟨hI, k3⟩ | ⟨hI, k3⟩
  ·have u := dz
   exact ⟨alh,
    alh,
    zt0 [] (zh hI a2u) (zp hI bto) hI⟩
  ·have hI := aic hI dg (.c 0)
   have hI := aic hI (.len (.s 3)) dg
   have hI := aic hI (.c 4000) xm
   have hI := aic hI (.c 8000) (.bin 6 .i64 (.c 1) xm)
   rcases bgj hI a8o (.c 1) with ⟨hI, k8⟩ | ⟨hI, k8⟩
   ·have u := dz
    exact ⟨alh,
     zt [(258, 257)] (.i (.bin 6 .i64 (.c 1) bdw) ai5 (.g (.cat bcw az2) a5b .nil)) (zh hI a2u) (zp hI bto) hI b1k,
     alh⟩
   ·have u := dz
    exact ⟨alh,
     alh,
     zt0 [] (zh hI a2u) (zp hI bto) hI⟩
 ·have u := dz
  exact ⟨zt0 [] (zh hI a2u) (zp hI bto) hI,
   alh,
   alh⟩
theorem bow [Gv] : au bxu := fun σ _ hA _ => (@bjf ⟨σ⟩  (aj hA).1).1 (aj hA).2
theorem brk [Gv] : au by7 := fun σ _ hA _ => (@bjf ⟨σ⟩  (aj hA).1).2.1 (aj hA).2
theorem bq2 [Gv] : au bwh := fun σ _ hA _ => (@bjf ⟨σ⟩  (aj hA).1).2.2 (aj hA).2
theorem b4j [Gv] : ∀ t ∈ [bxu, by7, bwh], au t := by
 intro t ht
 simp only [List.mem_cons, zH, or_false] at ht
 rcases ht with rfl | rfl | rfl
 ·exact bow
 ·exact brk
 ·exact bq2
def cc0 [Gv] : Prop := (SAll Gv.σ alw → ba 38 bfk 256 beh bvi 258 bxe) ∧ (SAll Gv.σ ano → ba 38 bfk 256 beh bvc 258 bx9) ∧ (SAll Gv.σ tz → ba 38 bfk 256 beh bwm 258 byr)
theorem bma [Gv] (hI : SAll Gv.σ oq) : cc0 := by
 have l1 := blo hI
 have dn : ((Gv.σ 3).length : Int) ≤ 0 → b9 (Gv.σ 3) = 1 := btk
 have en : ((Gv.σ 3).length : Int) ≤ 0 → ai (Gv.σ 3) 0 = [] := fun h => (ahv h).2
 rcases bql hI (.len (.s 3)) (.c 1) with ⟨hI, k1⟩ | ⟨hI, k1⟩
 ·have u := en
  exact ⟨zm0 [] aa (zp hI b4j) hI,
   aws,
   aws⟩
 ·rcases bgj hI ag9 (.c 1) with ⟨hI, k2⟩ | ⟨hI, k2⟩
  ·have u := en
   exact ⟨aws,
    zm0 [(257, 257)] aa (zp hI b4j) hI,
    aws⟩
  ·have u := en
   exact ⟨aws,
    aws,
    zm0 [] aa (zp hI b4j) hI⟩
theorem bpx [Gv] : am bv0 := fun σ _ hA _ => (@bma ⟨σ⟩  (aj hA).1).1 (aj hA).2
theorem brq [Gv] : am bzp := fun σ _ hA _ => (@bma ⟨σ⟩  (aj hA).1).2.1 (aj hA).2
theorem bn8 [Gv] : am bxp := fun σ _ hA _ => (@bma ⟨σ⟩  (aj hA).1).2.2 (aj hA).2
theorem bo4 [Gv] : ∀ t ∈ [bv0, bzp, bxp], am t := by
 intro t ht
 simp only [List.mem_cons, zH, or_false] at ht
 rcases ht with rfl | rfl | rfl
 ·exact bpx
 ·exact brq
 ·exact bn8
def ccc [Gv] : Prop := (SAll Gv.σ aiq → ba 13 brf 256 bs1 bug 258 btz) ∧ (SAll Gv.σ tz → ba 13 brf 256 bs1 bzi 258 bwi)
theorem byw [Gv] (hI : SAll Gv.σ oq) : ccc := by
 have l1 := blo hI
 have dn : ((Gv.σ 3).length : Int) ≤ 0 → b9 (Gv.σ 3) = 1 := btk
 have en : ((Gv.σ 3).length : Int) ≤ 0 → ai (Gv.σ 3) 0 = [] := fun h => (ahv h).2
 rcases bql hI (.len (.s 3)) (.c 1) with ⟨hI, k1⟩ | ⟨hI, k1⟩
 ·have u := en
  exact ⟨zm0 [] (zh hI bo4) ag hI,
   aws⟩
 ·rcases bgj hI ag9 (.c 1) with ⟨hI, k2⟩ | ⟨hI, k2⟩
  ·have u := en
   exact ⟨zm0 [] (zh hI bo4) ag hI,
    aws⟩
  ·have u := en
   exact ⟨aws,
    zm0 [] (zh hI bo4) ag hI⟩
theorem bo8 [Gv] : am bys := fun σ _ hA _ => (@byw ⟨σ⟩  (aj hA).1).1 (aj hA).2
theorem boq [Gv] : am bvj := fun σ _ hA _ => (@byw ⟨σ⟩  (aj hA).1).2 (aj hA).2
end Go.Ev
