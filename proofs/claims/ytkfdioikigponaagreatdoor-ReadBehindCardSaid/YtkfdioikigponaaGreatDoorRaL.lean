import Derived.Test.YtkfdioikigponaaGreatDoorRaL0
set_option maxRecDepth 100000
set_option linter.all false
namespace Go.Ev
abbrev an7 : AL := .i (.c 0) .nil
abbrev cx : SE := .app 43 (.g (.s 0) (.i (.v 1) an7))
abbrev az1 : SE := .bin 0 .i64 cx (.c 0)
abbrev wa : SE := .rd (.s 0) az1
abbrev dq : SE := .bin 0 .i64 cx (.c 1)
abbrev ec : SE := .bin 0 .i64 (.v 2) (.c 1)
abbrev a7i : AL := .g (.s 5) (.g (.s 4) .nil)
abbrev bkc : AL := .i (.c 0) a7i
abbrev aft : AL := .g (.s 0) (.i dq (.i ec (.i cx (.i (.c 0) (.i (.c 1) bkc)))))
abbrev bbc : SE := .app 65 aft
abbrev a93 : SE := .bin 7 .i64 (.c 2) (.bin 6 .i64 (.len (.s 0)) (.bin 7 .i64 (.c (-1)) dq))
abbrev wz : SE := .bin 6 .i64 a93 (.c 2)
abbrev kw : SE := .bin 6 .i64 (.bin 7 .i64 (.c 2) (.bin 6 .i64 (.len (.s 0)) (.bin 7 .i64 (.c (-1)) (.v 1)))) (.c 1)
abbrev awi : GE := .app 66 aft
abbrev zo : AL := .g (.s 0) (.i (.v 1) (.i (.v 2) a7i))
abbrev di : GE := .app 61 zo
abbrev mf : SE := .app 62 zo
abbrev ml : SE := .app 63 zo
abbrev mi : SE := .app 64 zo
abbrev za : SE := .bin 1 .i64 ec (.c 1)
abbrev mm : GE := .app 60 zo
abbrev me : SE := .app 53 (.g di .nil)
abbrev cb : SE := .app 60 zo
abbrev ca : SE := .app 61 zo
abbrev adg : AL := .g (.s 0) (.i dq (.i ec (.i cx bkc)))
abbrev bdj : SE := .app 70 adg
abbrev awl : GE := .app 71 adg
abbrev al4 : AL := .g (.s 0) (.i dq (.g .nil .nil))
abbrev bbr : GE := .app 91 al4
abbrev a8e : AL := .g (.s 5) (.g bbr .nil)
abbrev bcf : SE := .app 59 a8e
abbrev avh : SE := .app 53 (.g (.s 4) .nil)
abbrev ah9 : AL := .g (.s 0) (.i cx .nil)
abbrev bd0 : AL := .i ec a7i
abbrev agi : AL := .g (.s 0) (.i dq bd0)
abbrev w6 : SE := .app 60 agi
abbrev mc : SE := .bin 6 .i64 a93 (.c 1)
abbrev amd : GE := .app 60 agi
abbrev anq : AL := .i (.c 2) (.g amd (.i (.c 1) an7))
abbrev awz : SE := .app 74 anq
abbrev zv : GE := .app 61 agi
abbrev awt : SE := .app 75 anq
abbrev ayx : SE := .app 76 anq
abbrev avz : SE := .app 64 agi
abbrev ax8 : GE := .app 74 anq
abbrev azy : SE := .app 53 (.g zv .nil)
abbrev aml : SE := .app 61 agi
abbrev azf : SE := .rd (.s 0) dq
abbrev ma : SE := .bin 0 .i64 cx (.c 2)
abbrev air : AL := .g (.s 0) (.i ma bd0)
abbrev am0 : SE := .app 60 air
abbrev xk : SE := .bin 6 .i64 (.bin 7 .i64 (.c 2) (.bin 6 .i64 (.len (.s 0)) (.bin 7 .i64 (.c (-1)) ma))) (.c 1)
abbrev avp : GE := .app 60 air
abbrev anr : AL := .i (.c 2) (.g avp (.i (.c 1) an7))
abbrev bb7 : SE := .app 74 anr
abbrev agf : GE := .app 61 air
abbrev a8k : SE := .app 75 anr
abbrev a9f : SE := .app 76 anr
abbrev bcr : SE := .app 64 air
abbrev bac : GE := .app 74 anr
abbrev a86 : SE := .app 53 (.g agf .nil)
abbrev bcu : SE := .app 61 air
abbrev axy : SE := .rd (.s 0) ma
abbrev ay4 : AL := .g (.s 4) (.g (.lit 0 0) .nil)
abbrev an0 : SE := .app 54 ay4
abbrev ahq : GE := .app 54 ay4
abbrev a82 : SE := .app 55 ay4
abbrev bcl : SE := .app 53 (.g ahq .nil)
abbrev al2 : AL := .g (.s 0) (.i cx (.g .nil an7))
abbrev a9e : SE := .app 46 al2
abbrev ug : GE := .app 44 al2
abbrev ads : SE := .len ug
abbrev avb : AL := .g ug .nil
abbrev az3 : SE := .app 47 avb
abbrev bdr : SE := .app 49 (.g ug an7)
abbrev azo : AL := .g (.s 4) avb
abbrev amg : SE := .app 54 azo
abbrev aij : GE := .app 54 azo
abbrev a78 : SE := .app 55 azo
abbrev au5 : SE := .app 45 al2
abbrev a8t : SE := .app 53 (.g aij .nil)
set_option maxHeartbeats 100000000 in
theorem b55 [Gv] (hT : ∀ t ∈ [af8, aen, aeh, bes, a1a, a1g, bhv, bhw, bh1, rcF, a16, a0j, a2q, a05, wn, xc, ais, alb mF, ak9 mF], am t) (hh : ∀ t ∈ [an6, ar6, a2w, a1b, a3u, a1k, b2k mF, b3j mF, b4c mF, b0y mF], au t) (hI : SAll Gv.σ [.mk false (.app 42 (.g (.s 0) .nil)) (.c 1) true, .mk true (.v 1) (.c 0) false, .mk true (.len (.s 0)) (.v 1) false, .mk true (.v 2) (.c 0) false, .mk true (.c 200) (.v 2) false]) : b63 := by
 obtain ⟨⟨hR, hp0, hpl, hL⟩, ho0, ho1⟩ := bne hI
 have t1 := bz (bf1 (σ := Gv.σ) (.v 1))
 rcases ahl hI az1 (.len (.s 0)) with ⟨hI, k1⟩ | ⟨hI, k1⟩
 ·have hI := d8 hI az1 (.c 0)
  have t2 := bz (qc hR az1)
  have hI := d8 hI wa (.c 0)
  rcases lk hI wa (.c 40) with ⟨hI, k4⟩ | ⟨hI, k4⟩
  ·rcases ahl hI (.v 2) (.c 200) with ⟨hI, k5⟩ | ⟨hI, k5⟩
   ·have hI := d8 hI dq (.c 0)
    have hI := d8 hI (.len (.s 0)) dq
    have hI := d8 hI ec (.c 0)
    have hI := d8 hI (.c 200) ec
    have hI := d8 hI ec (.c 1)
    have t3 := bz (f65 hR dq ec cx (.c 0) (.c 1) (.c 0) (.s 5) (.s 4))
    rcases lk hI bbc (.c 0) with ⟨hI, k11⟩ | ⟨hI, k11⟩
    ·have hI := abk hI wz kw
     have hI := d8 hI wz (.c 0)
     have t4 := bz (f60 hR (.v 1) (.v 2) (.s 5) (.s 4))
     have t5 := bz (f53 (σ := Gv.σ) awi)
     have t6 := bz (f53 (σ := Gv.σ) di)
     have u := ap (Gv.σ 0) ((Gv.σ 1).headD 0) ((Gv.σ 2).headD 0) (Gv.σ 5) (Gv.σ 4)
     simp (disch := (clear t1 t2 t3 t4 t5 t6;  omega)) only [bp, ay, bo, bj, bl, bn, bh, bm, ar, bad, if_pos, if_neg, wr] at u
     exact ⟨zm [(267, 262)] (.i (.app 67 aft) mf (.i (.app 68 aft) ml (.i (.app 69 aft) mi (.i za (.v 2) (.g (.app 65 aft) mm (.i (.app 53 (.g awi .nil)) me (.g awi di .nil))))))) (zh hI hT) (zp hI hh) hI gc,
      gi⟩
    ·have hI := abk hI wz kw
     have hI := d8 hI wz (.c 0)
     have t7 := bz (f60 hR (.v 1) (.v 2) (.s 5) (.s 4))
     have u := ap (Gv.σ 0) ((Gv.σ 1).headD 0) ((Gv.σ 2).headD 0) (Gv.σ 5) (Gv.σ 4)
     simp (disch := (clear t1 t2 t3 t7;  omega)) only [bp, ay, bo, bj, bl, bn, bh, bm, ar, bad, if_pos, if_neg, wr] at u
     exact ⟨gi,
      zm [] (.i bbc cb (.i (.app 66 aft) ca .nil)) (zh hI hT) (zp hI hh) hI gc⟩
   ·have t8 := bz (f60 hR (.v 1) (.v 2) (.s 5) (.s 4))
    have u := ap (Gv.σ 0) ((Gv.σ 1).headD 0) ((Gv.σ 2).headD 0) (Gv.σ 5) (Gv.σ 4)
    simp (disch := (clear t1 t2 t8;  omega)) only [bp, ay, bo, bj, bl, bn, bh, bm, ar, bad, if_pos, if_neg, wr] at u
    exact ⟨gi,
     zm [] (.i (.c 12) cb (.i cx ca .nil)) (zh hI hT) (zp hI hh) hI gc⟩
  ·rcases lk hI wa (.c 91) with ⟨hI, k5⟩ | ⟨hI, k5⟩
   ·rcases ahl hI (.v 2) (.c 200) with ⟨hI, k6⟩ | ⟨hI, k6⟩
    ·have hI := d8 hI dq (.c 0)
     have hI := d8 hI (.len (.s 0)) dq
     have hI := d8 hI ec (.c 0)
     have hI := d8 hI (.c 200) ec
     have hI := d8 hI ec (.c 1)
     have t9 := bz ((And.intro (f70 hR dq ec cx (.c 0) (.s 5) (.s 4)) (cax (σ := Gv.σ) dq ec cx (.c 0) (.s 5) (.s 4))))
     rcases lk hI bdj (.c 0) with ⟨hI, k12⟩ | ⟨hI, k12⟩
     ·have hI := abk hI wz kw
      have hI := d8 hI wz (.c 0)
      have t10 := bz (f60 hR (.v 1) (.v 2) (.s 5) (.s 4))
      have t11 := bz (f53 (σ := Gv.σ) awl)
      have t12 := bz (f53 (σ := Gv.σ) di)
      have u := ap (Gv.σ 0) ((Gv.σ 1).headD 0) ((Gv.σ 2).headD 0) (Gv.σ 5) (Gv.σ 4)
      simp (disch := (clear t1 t2 t9 t10 t11 t12;  omega)) only [bp, ay, bo, bj, bl, bn, bh, bm, ar, bad, if_pos, if_neg, wr] at u
      exact ⟨zm [(265, 262)] (.i (.c 4) mf (.i (.app 72 adg) ml (.i (.app 73 adg) mi (.i za (.v 2) (.g (.app 70 adg) mm (.i (.app 53 (.g awl .nil)) me (.g awl di .nil))))))) (zh hI hT) (zp hI hh) hI gc,
       gi⟩
     ·have hI := abk hI wz kw
      have hI := d8 hI wz (.c 0)
      have t13 := bz (f60 hR (.v 1) (.v 2) (.s 5) (.s 4))
      have u := ap (Gv.σ 0) ((Gv.σ 1).headD 0) ((Gv.σ 2).headD 0) (Gv.σ 5) (Gv.σ 4)
      simp (disch := (clear t1 t2 t9 t13;  omega)) only [bp, ay, bo, bj, bl, bn, bh, bm, ar, bad, if_pos, if_neg, wr] at u
      exact ⟨gi,
       zm [] (.i bdj cb (.i (.app 71 adg) ca .nil)) (zh hI hT) (zp hI hh) hI gc⟩
    ·have t14 := bz (f60 hR (.v 1) (.v 2) (.s 5) (.s 4))
     have u := ap (Gv.σ 0) ((Gv.σ 1).headD 0) ((Gv.σ 2).headD 0) (Gv.σ 5) (Gv.σ 4)
     simp (disch := (clear t1 t2 t14;  omega)) only [bp, ay, bo, bj, bl, bn, bh, bm, ar, bad, if_pos, if_neg, wr] at u
     exact ⟨gi,
      zm [] (.i (.c 12) cb (.i cx ca .nil)) (zh hI hT) (zp hI hh) hI gc⟩
   ·rcases lk hI wa (.c 41) with ⟨hI, k6⟩ | ⟨hI, k6⟩
    ·have t15 := bz (f60 hR (.v 1) (.v 2) (.s 5) (.s 4))
     have u := ap (Gv.σ 0) ((Gv.σ 1).headD 0) ((Gv.σ 2).headD 0) (Gv.σ 5) (Gv.σ 4)
     simp (disch := (clear t1 t2 t15;  omega)) only [bp, ay, bo, bj, bl, bn, bh, bm, ar, bad, if_pos, if_neg, wr] at u
     exact ⟨gi,
      zm [] (.i (.c 5) cb (.i cx ca .nil)) (zh hI hT) (zp hI hh) hI gc⟩
    ·rcases lk hI wa (.c 93) with ⟨hI, k7⟩ | ⟨hI, k7⟩
     ·have t16 := bz (f60 hR (.v 1) (.v 2) (.s 5) (.s 4))
      have u := ap (Gv.σ 0) ((Gv.σ 1).headD 0) ((Gv.σ 2).headD 0) (Gv.σ 5) (Gv.σ 4)
      simp (disch := (clear t1 t2 t16;  omega)) only [bp, ay, bo, bj, bl, bn, bh, bm, ar, bad, if_pos, if_neg, wr] at u
      exact ⟨gi,
       zm [] (.i (.c 5) cb (.i cx ca .nil)) (zh hI hT) (zp hI hh) hI gc⟩
     ·rcases lk hI wa (.c 34) with ⟨hI, k8⟩ | ⟨hI, k8⟩
      ·have hI := d8 hI dq (.c 0)
       have hI := d8 hI (.len (.s 0)) dq
       have t17 := bz (f91 hR dq .nil)
       rcases lk hI (.app 91 al4) (.c 0) with ⟨hI, k11⟩ | ⟨hI, k11⟩
       ·have t18 := bz (f59 (σ := Gv.σ) (.s 5) bbr)
        rcases lk hI bcf (.c 0) with ⟨hI, k12⟩ | ⟨hI, k12⟩
        ·have t19 := bz (f60 hR (.v 1) (.v 2) (.s 5) (.s 4))
         have t20 := bz (f53 (σ := Gv.σ) (.s 4))
         have t21 := bz (f53 (σ := Gv.σ) di)
         have u := ap (Gv.σ 0) ((Gv.σ 1).headD 0) ((Gv.σ 2).headD 0) (Gv.σ 5) (Gv.σ 4)
         simp (disch := (clear t1 t2 t17 t18 t19 t20 t21;  omega)) only [bp, ay, bo, bj, bl, bn, bh, bm, ar, bad, if_pos, if_neg, wr] at u
         exact ⟨zm [(260, 262)] (.i (.c 3) mf (.i (.rd (.s 5) (.c 1)) ml (.i (.app 93 al4) mi (.g (.app 59 a8e) mm (.i avh me (.g (.s 4) di .nil)))))) (zh hI hT) (zp hI hh) hI gc,
          gi⟩
        ·have t22 := bz (f60 hR (.v 1) (.v 2) (.s 5) (.s 4))
         have u := ap (Gv.σ 0) ((Gv.σ 1).headD 0) ((Gv.σ 2).headD 0) (Gv.σ 5) (Gv.σ 4)
         simp (disch := (clear t1 t2 t17 t18 t22;  omega)) only [bp, ay, bo, bj, bl, bn, bh, bm, ar, bad, if_pos, if_neg, wr] at u
         exact ⟨gi,
          zm [] (.i bcf cb (.i cx ca .nil)) (zh hI hT) (zp hI hh) hI gc⟩
       ·have t23 := bz (f60 hR (.v 1) (.v 2) (.s 5) (.s 4))
        have u := ap (Gv.σ 0) ((Gv.σ 1).headD 0) ((Gv.σ 2).headD 0) (Gv.σ 5) (Gv.σ 4)
        simp (disch := (clear t1 t2 t17 t23;  omega)) only [bp, ay, bo, bj, bl, bn, bh, bm, ar, bad, if_pos, if_neg, wr] at u
        exact ⟨gi,
         zm [] (.i (.c 5) cb (.i (.app 92 al4) ca .nil)) (zh hI hT) (zp hI hh) hI gc⟩
      ·rcases lk hI wa (.c 63) with ⟨hI, k9⟩ | ⟨hI, k9⟩
       ·have hI := d8 hI cx (.c 0)
        have hI := d8 hI (.len (.s 0)) cx
        have hI := abk hI cx (.len (.s 0))
        have t24 := bz (cbv hR cx)
        rcases lk hI (.app 102 ah9) (.c 0) with ⟨hI, k13⟩ | ⟨hI, k13⟩
        ·have t25 := bz (f60 hR (.v 1) (.v 2) (.s 5) (.s 4))
         have t26 := bz (f53 (σ := Gv.σ) (.s 4))
         have t27 := bz (f53 (σ := Gv.σ) di)
         have u := ap (Gv.σ 0) ((Gv.σ 1).headD 0) ((Gv.σ 2).headD 0) (Gv.σ 5) (Gv.σ 4)
         simp (disch := (clear t1 t2 t24 t25 t26 t27;  omega)) only [bp, ay, bo, bj, bl, bn, bh, bm, ar, bad, if_pos, if_neg, wr] at u
         exact ⟨zm [(260, 262)] (.i (.c 0) mf (.i (.app 104 ah9) ml (.i (.app 105 ah9) mi (.g (.s 5) mm (.i avh me (.g (.s 4) di .nil)))))) (zh hI hT) (zp hI hh) hI gc,
          gi⟩
        ·have t28 := bz (f60 hR (.v 1) (.v 2) (.s 5) (.s 4))
         have u := ap (Gv.σ 0) ((Gv.σ 1).headD 0) ((Gv.σ 2).headD 0) (Gv.σ 5) (Gv.σ 4)
         simp (disch := (clear t1 t2 t24 t28;  omega)) only [bp, ay, bo, bj, bl, bn, bh, bm, ar, bad, if_pos, if_neg, wr] at u
         exact ⟨gi,
          zm [] (.i (.c 5) cb (.i (.app 103 ah9) ca .nil)) (zh hI hT) (zp hI hh) hI gc⟩
       ·rcases lk hI wa (.c 39) with ⟨hI, k10⟩ | ⟨hI, k10⟩
        ·rcases ahl hI (.v 2) (.c 200) with ⟨hI, k11⟩ | ⟨hI, k11⟩
         ·have hI := d8 hI dq (.c 0)
          have hI := d8 hI (.len (.s 0)) dq
          have hI := d8 hI ec (.c 0)
          have hI := d8 hI (.c 200) ec
          have t29 := bz (f60 hR dq ec (.s 5) (.s 4))
          rcases lk hI w6 (.c 0) with ⟨hI, k16⟩ | ⟨hI, k16⟩
          ·have hI := abk hI mc kw
           have hI := d8 hI mc (.c 0)
           have t30 := bz (f74 (σ := Gv.σ) (.c 2) (.c 1) (.c 0) amd)
           rcases lk hI awz (.c 0) with ⟨hI, k19⟩ | ⟨hI, k19⟩
           ·have t31 := bz (f60 hR (.v 1) (.v 2) (.s 5) (.s 4))
            have t32 := bz (f53 (σ := Gv.σ) zv)
            have t33 := bz (f53 (σ := Gv.σ) di)
            have u := ap (Gv.σ 0) ((Gv.σ 1).headD 0) ((Gv.σ 2).headD 0) (Gv.σ 5) (Gv.σ 4)
            simp (disch := (clear t1 t2 t29 t30 t31 t32 t33;  omega)) only [bp, ay, bo, bj, bl, bn, bh, bm, ar, bad, if_pos, if_neg, wr] at u
            exact ⟨zm [(266, 262)] (.i awt mf (.i ayx ml (.i avz mi (.i za (.v 2) (.g ax8 mm (.i azy me (.g zv di .nil))))))) (zh hI hT) (zp hI hh) hI gc,
             gi⟩
           ·have t34 := bz (f60 hR (.v 1) (.v 2) (.s 5) (.s 4))
            have u := ap (Gv.σ 0) ((Gv.σ 1).headD 0) ((Gv.σ 2).headD 0) (Gv.σ 5) (Gv.σ 4)
            simp (disch := (clear t1 t2 t29 t30 t34;  omega)) only [bp, ay, bo, bj, bl, bn, bh, bm, ar, bad, if_pos, if_neg, wr] at u
            exact ⟨gi,
             zm [] (.i (.c 7) cb (.i cx ca .nil)) (zh hI hT) (zp hI hh) hI gc⟩
          ·have hI := abk hI mc kw
           have hI := d8 hI mc (.c 0)
           have t35 := bz (f60 hR (.v 1) (.v 2) (.s 5) (.s 4))
           have u := ap (Gv.σ 0) ((Gv.σ 1).headD 0) ((Gv.σ 2).headD 0) (Gv.σ 5) (Gv.σ 4)
           simp (disch := (clear t1 t2 t29 t35;  omega)) only [bp, ay, bo, bj, bl, bn, bh, bm, ar, bad, if_pos, if_neg, wr] at u
           exact ⟨gi,
            zm [] (.i w6 cb (.i aml ca .nil)) (zh hI hT) (zp hI hh) hI gc⟩
         ·have t36 := bz (f60 hR (.v 1) (.v 2) (.s 5) (.s 4))
          have u := ap (Gv.σ 0) ((Gv.σ 1).headD 0) ((Gv.σ 2).headD 0) (Gv.σ 5) (Gv.σ 4)
          simp (disch := (clear t1 t2 t36;  omega)) only [bp, ay, bo, bj, bl, bn, bh, bm, ar, bad, if_pos, if_neg, wr] at u
          exact ⟨gi,
           zm [] (.i (.c 12) cb (.i cx ca .nil)) (zh hI hT) (zp hI hh) hI gc⟩
        ·rcases lk hI wa (.c 96) with ⟨hI, k11⟩ | ⟨hI, k11⟩
         ·rcases ahl hI (.v 2) (.c 200) with ⟨hI, k12⟩ | ⟨hI, k12⟩
          ·have hI := d8 hI dq (.c 0)
           have hI := d8 hI (.len (.s 0)) dq
           have hI := d8 hI ec (.c 0)
           have hI := d8 hI (.c 200) ec
           have t37 := bz (f60 hR dq ec (.s 5) (.s 4))
           rcases lk hI w6 (.c 0) with ⟨hI, k17⟩ | ⟨hI, k17⟩
           ·have hI := abk hI mc kw
            have hI := d8 hI mc (.c 0)
            have t38 := bz (f74 (σ := Gv.σ) (.c 2) (.c 1) (.c 0) amd)
            rcases lk hI awz (.c 0) with ⟨hI, k20⟩ | ⟨hI, k20⟩
            ·have t39 := bz (f60 hR (.v 1) (.v 2) (.s 5) (.s 4))
             have t40 := bz (f53 (σ := Gv.σ) zv)
             have t41 := bz (f53 (σ := Gv.σ) di)
             have u := ap (Gv.σ 0) ((Gv.σ 1).headD 0) ((Gv.σ 2).headD 0) (Gv.σ 5) (Gv.σ 4)
             simp (disch := (clear t1 t2 t37 t38 t39 t40 t41;  omega)) only [bp, ay, bo, bj, bl, bn, bh, bm, ar, bad, if_pos, if_neg, wr] at u
             exact ⟨zm [(266, 262)] (.i awt mf (.i ayx ml (.i avz mi (.i za (.v 2) (.g ax8 mm (.i azy me (.g zv di .nil))))))) (zh hI hT) (zp hI hh) hI gc,
              gi⟩
            ·have t42 := bz (f60 hR (.v 1) (.v 2) (.s 5) (.s 4))
             have u := ap (Gv.σ 0) ((Gv.σ 1).headD 0) ((Gv.σ 2).headD 0) (Gv.σ 5) (Gv.σ 4)
             simp (disch := (clear t1 t2 t37 t38 t42;  omega)) only [bp, ay, bo, bj, bl, bn, bh, bm, ar, bad, if_pos, if_neg, wr] at u
             exact ⟨gi,
              zm [] (.i (.c 7) cb (.i cx ca .nil)) (zh hI hT) (zp hI hh) hI gc⟩
           ·have hI := abk hI mc kw
            have hI := d8 hI mc (.c 0)
            have t43 := bz (f60 hR (.v 1) (.v 2) (.s 5) (.s 4))
            have u := ap (Gv.σ 0) ((Gv.σ 1).headD 0) ((Gv.σ 2).headD 0) (Gv.σ 5) (Gv.σ 4)
            simp (disch := (clear t1 t2 t37 t43;  omega)) only [bp, ay, bo, bj, bl, bn, bh, bm, ar, bad, if_pos, if_neg, wr] at u
            exact ⟨gi,
             zm [] (.i w6 cb (.i aml ca .nil)) (zh hI hT) (zp hI hh) hI gc⟩
          ·have t44 := bz (f60 hR (.v 1) (.v 2) (.s 5) (.s 4))
           have u := ap (Gv.σ 0) ((Gv.σ 1).headD 0) ((Gv.σ 2).headD 0) (Gv.σ 5) (Gv.σ 4)
           simp (disch := (clear t1 t2 t44;  omega)) only [bp, ay, bo, bj, bl, bn, bh, bm, ar, bad, if_pos, if_neg, wr] at u
           exact ⟨gi,
            zm [] (.i (.c 12) cb (.i cx ca .nil)) (zh hI hT) (zp hI hh) hI gc⟩
         ·rcases lk hI wa (.c 44) with ⟨hI, k12⟩ | ⟨hI, k12⟩
          ·rcases ahl hI dq (.len (.s 0)) with ⟨hI, k13⟩ | ⟨hI, k13⟩
           ·have hI := d8 hI dq (.c 0)
            have t45 := bz (qc hR dq)
            rcases lk hI azf (.c 64) with ⟨hI, k15⟩ | ⟨hI, k15⟩
            ·rcases ahl hI (.v 2) (.c 200) with ⟨hI, k16⟩ | ⟨hI, k16⟩
             ·have hI := d8 hI ma (.c 0)
              have hI := d8 hI (.len (.s 0)) ma
              have hI := d8 hI ec (.c 0)
              have hI := d8 hI (.c 200) ec
              have t46 := bz (f60 hR ma ec (.s 5) (.s 4))
              rcases lk hI am0 (.c 0) with ⟨hI, k21⟩ | ⟨hI, k21⟩
              ·have hI := abk hI xk kw
               have hI := d8 hI xk (.c 0)
               have t47 := bz (f74 (σ := Gv.σ) (.c 2) (.c 1) (.c 0) avp)
               rcases lk hI bb7 (.c 0) with ⟨hI, k24⟩ | ⟨hI, k24⟩
               ·have t48 := bz (f60 hR (.v 1) (.v 2) (.s 5) (.s 4))
                have t49 := bz (f53 (σ := Gv.σ) agf)
                have t50 := bz (f53 (σ := Gv.σ) di)
                have u := ap (Gv.σ 0) ((Gv.σ 1).headD 0) ((Gv.σ 2).headD 0) (Gv.σ 5) (Gv.σ 4)
                simp (disch := (clear t1 t2 t45 t46 t47 t48 t49 t50;  omega)) only [bp, ay, bo, bj, bl, bn, bh, bm, ar, bad, if_pos, if_neg, wr] at u
                exact ⟨zm [(266, 262)] (.i a8k mf (.i a9f ml (.i bcr mi (.i za (.v 2) (.g bac mm (.i a86 me (.g agf di .nil))))))) (zh hI hT) (zp hI hh) hI gc,
                 gi⟩
               ·have t51 := bz (f60 hR (.v 1) (.v 2) (.s 5) (.s 4))
                have u := ap (Gv.σ 0) ((Gv.σ 1).headD 0) ((Gv.σ 2).headD 0) (Gv.σ 5) (Gv.σ 4)
                simp (disch := (clear t1 t2 t45 t46 t47 t51;  omega)) only [bp, ay, bo, bj, bl, bn, bh, bm, ar, bad, if_pos, if_neg, wr] at u
                exact ⟨gi,
                 zm [] (.i (.c 7) cb (.i cx ca .nil)) (zh hI hT) (zp hI hh) hI gc⟩
              ·have hI := abk hI xk kw
               have hI := d8 hI xk (.c 0)
               have t52 := bz (f60 hR (.v 1) (.v 2) (.s 5) (.s 4))
               have u := ap (Gv.σ 0) ((Gv.σ 1).headD 0) ((Gv.σ 2).headD 0) (Gv.σ 5) (Gv.σ 4)
               simp (disch := (clear t1 t2 t45 t46 t52;  omega)) only [bp, ay, bo, bj, bl, bn, bh, bm, ar, bad, if_pos, if_neg, wr] at u
               exact ⟨gi,
                zm [] (.i am0 cb (.i bcu ca .nil)) (zh hI hT) (zp hI hh) hI gc⟩
             ·have t53 := bz (f60 hR (.v 1) (.v 2) (.s 5) (.s 4))
              have u := ap (Gv.σ 0) ((Gv.σ 1).headD 0) ((Gv.σ 2).headD 0) (Gv.σ 5) (Gv.σ 4)
              simp (disch := (clear t1 t2 t45 t53;  omega)) only [bp, ay, bo, bj, bl, bn, bh, bm, ar, bad, if_pos, if_neg, wr] at u
              exact ⟨gi,
               zm [] (.i (.c 12) cb (.i cx ca .nil)) (zh hI hT) (zp hI hh) hI gc⟩
            ·rcases ahl hI (.v 2) (.c 200) with ⟨hI, k16⟩ | ⟨hI, k16⟩
             ·have hI := d8 hI (.len (.s 0)) dq
              have hI := d8 hI ec (.c 0)
              have hI := d8 hI (.c 200) ec
              have t54 := bz (f60 hR dq ec (.s 5) (.s 4))
              rcases lk hI w6 (.c 0) with ⟨hI, k20⟩ | ⟨hI, k20⟩
              ·have hI := abk hI mc kw
               have hI := d8 hI mc (.c 0)
               have t55 := bz (f74 (σ := Gv.σ) (.c 2) (.c 1) (.c 0) amd)
               rcases lk hI awz (.c 0) with ⟨hI, k23⟩ | ⟨hI, k23⟩
               ·have t56 := bz (f60 hR (.v 1) (.v 2) (.s 5) (.s 4))
                have t57 := bz (f53 (σ := Gv.σ) zv)
                have t58 := bz (f53 (σ := Gv.σ) di)
                have u := ap (Gv.σ 0) ((Gv.σ 1).headD 0) ((Gv.σ 2).headD 0) (Gv.σ 5) (Gv.σ 4)
                simp (disch := (clear t1 t2 t45 t54 t55 t56 t57 t58;  omega)) only [bp, ay, bo, bj, bl, bn, bh, bm, ar, bad, if_pos, if_neg, wr] at u
                exact ⟨zm [(266, 262)] (.i awt mf (.i ayx ml (.i avz mi (.i za (.v 2) (.g ax8 mm (.i azy me (.g zv di .nil))))))) (zh hI hT) (zp hI hh) hI gc,
                 gi⟩
               ·have t59 := bz (f60 hR (.v 1) (.v 2) (.s 5) (.s 4))
                have u := ap (Gv.σ 0) ((Gv.σ 1).headD 0) ((Gv.σ 2).headD 0) (Gv.σ 5) (Gv.σ 4)
                simp (disch := (clear t1 t2 t45 t54 t55 t59;  omega)) only [bp, ay, bo, bj, bl, bn, bh, bm, ar, bad, if_pos, if_neg, wr] at u
                exact ⟨gi,
                 zm [] (.i (.c 7) cb (.i cx ca .nil)) (zh hI hT) (zp hI hh) hI gc⟩
              ·have hI := abk hI mc kw
               have hI := d8 hI mc (.c 0)
               have t60 := bz (f60 hR (.v 1) (.v 2) (.s 5) (.s 4))
               have u := ap (Gv.σ 0) ((Gv.σ 1).headD 0) ((Gv.σ 2).headD 0) (Gv.σ 5) (Gv.σ 4)
               simp (disch := (clear t1 t2 t45 t54 t60;  omega)) only [bp, ay, bo, bj, bl, bn, bh, bm, ar, bad, if_pos, if_neg, wr] at u
               exact ⟨gi,
                zm [] (.i w6 cb (.i aml ca .nil)) (zh hI hT) (zp hI hh) hI gc⟩
             ·have t61 := bz (f60 hR (.v 1) (.v 2) (.s 5) (.s 4))
              have u := ap (Gv.σ 0) ((Gv.σ 1).headD 0) ((Gv.σ 2).headD 0) (Gv.σ 5) (Gv.σ 4)
              simp (disch := (clear t1 t2 t45 t61;  omega)) only [bp, ay, bo, bj, bl, bn, bh, bm, ar, bad, if_pos, if_neg, wr] at u
              exact ⟨gi,
               zm [] (.i (.c 12) cb (.i cx ca .nil)) (zh hI hT) (zp hI hh) hI gc⟩
           ·rcases ahl hI (.v 2) (.c 200) with ⟨hI, k14⟩ | ⟨hI, k14⟩
            ·have hI := d8 hI dq (.c 0)
             have hI := d8 hI (.len (.s 0)) dq
             have hI := d8 hI ec (.c 0)
             have hI := d8 hI (.c 200) ec
             have t62 := bz (f60 hR dq ec (.s 5) (.s 4))
             have hI := cb2 hI w6 (.c 0)
             have hI := abk hI mc kw
             have hI := d8 hI mc (.c 0)
             have t63 := bz (f60 hR (.v 1) (.v 2) (.s 5) (.s 4))
             have u := ap (Gv.σ 0) ((Gv.σ 1).headD 0) ((Gv.σ 2).headD 0) (Gv.σ 5) (Gv.σ 4)
             simp (disch := (clear t1 t2 t62 t63;  omega)) only [bp, ay, bo, bj, bl, bn, bh, bm, ar, bad, if_pos, if_neg, wr] at u
             exact ⟨gi,
              zm [] (.i w6 cb (.i aml ca .nil)) (zh hI hT) (zp hI hh) hI gc⟩
            ·have t64 := bz (f60 hR (.v 1) (.v 2) (.s 5) (.s 4))
             have u := ap (Gv.σ 0) ((Gv.σ 1).headD 0) ((Gv.σ 2).headD 0) (Gv.σ 5) (Gv.σ 4)
             simp (disch := (clear t1 t2 t64;  omega)) only [bp, ay, bo, bj, bl, bn, bh, bm, ar, bad, if_pos, if_neg, wr] at u
             exact ⟨gi,
              zm [] (.i (.c 12) cb (.i cx ca .nil)) (zh hI hT) (zp hI hh) hI gc⟩
          ·rcases lk hI wa (.c 35) with ⟨hI, k13⟩ | ⟨hI, k13⟩
           ·rcases ahl hI dq (.len (.s 0)) with ⟨hI, k14⟩ | ⟨hI, k14⟩
            ·have hI := d8 hI dq (.c 0)
             have t65 := bz (qc hR dq)
             rcases lk hI azf (.c 39) with ⟨hI, k16⟩ | ⟨hI, k16⟩
             ·rcases ahl hI (.v 2) (.c 200) with ⟨hI, k17⟩ | ⟨hI, k17⟩
              ·have hI := d8 hI ma (.c 0)
               have hI := d8 hI (.len (.s 0)) ma
               have hI := d8 hI ec (.c 0)
               have hI := d8 hI (.c 200) ec
               have t66 := bz (f60 hR ma ec (.s 5) (.s 4))
               rcases lk hI am0 (.c 0) with ⟨hI, k22⟩ | ⟨hI, k22⟩
               ·have hI := abk hI xk kw
                have hI := d8 hI xk (.c 0)
                have t67 := bz (f74 (σ := Gv.σ) (.c 2) (.c 1) (.c 0) avp)
                rcases lk hI bb7 (.c 0) with ⟨hI, k25⟩ | ⟨hI, k25⟩
                ·have t68 := bz (f60 hR (.v 1) (.v 2) (.s 5) (.s 4))
                 have t69 := bz (f53 (σ := Gv.σ) agf)
                 have t70 := bz (f53 (σ := Gv.σ) di)
                 have u := ap (Gv.σ 0) ((Gv.σ 1).headD 0) ((Gv.σ 2).headD 0) (Gv.σ 5) (Gv.σ 4)
                 simp (disch := (clear t1 t2 t65 t66 t67 t68 t69 t70;  omega)) only [bp, ay, bo, bj, bl, bn, bh, bm, ar, bad, if_pos, if_neg, wr] at u
                 exact ⟨zm [(266, 262)] (.i a8k mf (.i a9f ml (.i bcr mi (.i za (.v 2) (.g bac mm (.i a86 me (.g agf di .nil))))))) (zh hI hT) (zp hI hh) hI gc,
                  gi⟩
                ·have t71 := bz (f60 hR (.v 1) (.v 2) (.s 5) (.s 4))
                 have u := ap (Gv.σ 0) ((Gv.σ 1).headD 0) ((Gv.σ 2).headD 0) (Gv.σ 5) (Gv.σ 4)
                 simp (disch := (clear t1 t2 t65 t66 t67 t71;  omega)) only [bp, ay, bo, bj, bl, bn, bh, bm, ar, bad, if_pos, if_neg, wr] at u
                 exact ⟨gi,
                  zm [] (.i (.c 7) cb (.i cx ca .nil)) (zh hI hT) (zp hI hh) hI gc⟩
               ·have hI := abk hI xk kw
                have hI := d8 hI xk (.c 0)
                have t72 := bz (f60 hR (.v 1) (.v 2) (.s 5) (.s 4))
                have u := ap (Gv.σ 0) ((Gv.σ 1).headD 0) ((Gv.σ 2).headD 0) (Gv.σ 5) (Gv.σ 4)
                simp (disch := (clear t1 t2 t65 t66 t72;  omega)) only [bp, ay, bo, bj, bl, bn, bh, bm, ar, bad, if_pos, if_neg, wr] at u
                exact ⟨gi,
                 zm [] (.i am0 cb (.i bcu ca .nil)) (zh hI hT) (zp hI hh) hI gc⟩
              ·have t73 := bz (f60 hR (.v 1) (.v 2) (.s 5) (.s 4))
               have u := ap (Gv.σ 0) ((Gv.σ 1).headD 0) ((Gv.σ 2).headD 0) (Gv.σ 5) (Gv.σ 4)
               simp (disch := (clear t1 t2 t65 t73;  omega)) only [bp, ay, bo, bj, bl, bn, bh, bm, ar, bad, if_pos, if_neg, wr] at u
               exact ⟨gi,
                zm [] (.i (.c 12) cb (.i cx ca .nil)) (zh hI hT) (zp hI hh) hI gc⟩
             ·rcases lk hI azf (.c 35) with ⟨hI, k17⟩ | ⟨hI, k17⟩
              ·rcases ahl hI ma (.len (.s 0)) with ⟨hI, k18⟩ | ⟨hI, k18⟩
               ·have hI := d8 hI ma (.c 0)
                have t74 := bz (qc hR ma)
                have hI := d8 hI axy (.c 0)
                have t75 := bz (b01 (σ := Gv.σ) axy)
                rcases lk hI (.app 41 (.i axy .nil)) (.c 1) with ⟨hI, k21⟩ | ⟨hI, k21⟩
                ·have t76 := bz (f54 (σ := Gv.σ) (.s 4) (.lit 0 0))
                 rcases lk hI an0 (.c 0) with ⟨hI, k22⟩ | ⟨hI, k22⟩
                 ·have t77 := bz (f60 hR (.v 1) (.v 2) (.s 5) (.s 4))
                  have t78 := bz (f53 (σ := Gv.σ) ahq)
                  have t79 := bz (f53 (σ := Gv.σ) di)
                  have u := ap (Gv.σ 0) ((Gv.σ 1).headD 0) ((Gv.σ 2).headD 0) (Gv.σ 5) (Gv.σ 4)
                  simp (disch := (clear t1 t2 t65 t74 t75 t76 t77 t78 t79;  omega)) only [bp, ay, bo, bj, bl, bn, bh, bm, ar, bad, if_pos, if_neg, wr] at u
                  exact ⟨zm [(265, 262)] (.i (.c 1) mf (.i a82 ml (.i ma mi (.g (.s 5) mm (.i bcl me (.g ahq di .nil)))))) (zh hI hT) (zp hI hh) hI gc,
                   gi⟩
                 ·have t80 := bz (f60 hR (.v 1) (.v 2) (.s 5) (.s 4))
                  have u := ap (Gv.σ 0) ((Gv.σ 1).headD 0) ((Gv.σ 2).headD 0) (Gv.σ 5) (Gv.σ 4)
                  simp (disch := (clear t1 t2 t65 t74 t75 t76 t80;  omega)) only [bp, ay, bo, bj, bl, bn, bh, bm, ar, bad, if_pos, if_neg, wr] at u
                  exact ⟨gi,
                   zm [] (.i an0 cb (.i cx ca .nil)) (zh hI hT) (zp hI hh) hI gc⟩
                ·have t81 := bz (f60 hR (.v 1) (.v 2) (.s 5) (.s 4))
                 have u := ap (Gv.σ 0) ((Gv.σ 1).headD 0) ((Gv.σ 2).headD 0) (Gv.σ 5) (Gv.σ 4)
                 simp (disch := (clear t1 t2 t65 t74 t75 t81;  omega)) only [bp, ay, bo, bj, bl, bn, bh, bm, ar, bad, if_pos, if_neg, wr] at u
                 exact ⟨gi,
                  zm [] (.i (.c 5) cb (.i cx ca .nil)) (zh hI hT) (zp hI hh) hI gc⟩
               ·have t82 := bz (f54 (σ := Gv.σ) (.s 4) (.lit 0 0))
                rcases lk hI an0 (.c 0) with ⟨hI, k19⟩ | ⟨hI, k19⟩
                ·have t83 := bz (f60 hR (.v 1) (.v 2) (.s 5) (.s 4))
                 have t84 := bz (f53 (σ := Gv.σ) ahq)
                 have t85 := bz (f53 (σ := Gv.σ) di)
                 have u := ap (Gv.σ 0) ((Gv.σ 1).headD 0) ((Gv.σ 2).headD 0) (Gv.σ 5) (Gv.σ 4)
                 simp (disch := (clear t1 t2 t65 t82 t83 t84 t85;  omega)) only [bp, ay, bo, bj, bl, bn, bh, bm, ar, bad, if_pos, if_neg, wr] at u
                 exact ⟨zm [(265, 262)] (.i (.c 1) mf (.i a82 ml (.i ma mi (.g (.s 5) mm (.i bcl me (.g ahq di .nil)))))) (zh hI hT) (zp hI hh) hI gc,
                  gi⟩
                ·have t86 := bz (f60 hR (.v 1) (.v 2) (.s 5) (.s 4))
                 have u := ap (Gv.σ 0) ((Gv.σ 1).headD 0) ((Gv.σ 2).headD 0) (Gv.σ 5) (Gv.σ 4)
                 simp (disch := (clear t1 t2 t65 t82 t86;  omega)) only [bp, ay, bo, bj, bl, bn, bh, bm, ar, bad, if_pos, if_neg, wr] at u
                 exact ⟨gi,
                  zm [] (.i an0 cb (.i cx ca .nil)) (zh hI hT) (zp hI hh) hI gc⟩
              ·have t87 := bz (f60 hR (.v 1) (.v 2) (.s 5) (.s 4))
               have u := ap (Gv.σ 0) ((Gv.σ 1).headD 0) ((Gv.σ 2).headD 0) (Gv.σ 5) (Gv.σ 4)
               simp (disch := (clear t1 t2 t65 t87;  omega)) only [bp, ay, bo, bj, bl, bn, bh, bm, ar, bad, if_pos, if_neg, wr] at u
               exact ⟨gi,
                zm [] (.i (.c 5) cb (.i cx ca .nil)) (zh hI hT) (zp hI hh) hI gc⟩
            ·have t88 := bz (f60 hR (.v 1) (.v 2) (.s 5) (.s 4))
             have u := ap (Gv.σ 0) ((Gv.σ 1).headD 0) ((Gv.σ 2).headD 0) (Gv.σ 5) (Gv.σ 4)
             simp (disch := (clear t1 t2 t88;  omega)) only [bp, ay, bo, bj, bl, bn, bh, bm, ar, bad, if_pos, if_neg, wr] at u
             exact ⟨gi,
              zm [] (.i (.c 5) cb (.i cx ca .nil)) (zh hI hT) (zp hI hh) hI gc⟩
           ·have hI := d8 hI cx (.c 0)
            have hI := d8 hI (.len (.s 0)) cx
            have := car (Gv.σ 0) (af (Gv.σ 0) ((Gv.σ 1).headD 0) 0) (by omega) (by omega) (by omega)
            have hI := b0d hI (.app 108 ah9) (.c 0)
            have t89 := bz ((And.intro (f44 (σ := Gv.σ) cx .nil (.c 0)) (ca4 (σ := Gv.σ) cx)))
            rcases lk hI (.app 44 al2) (.c 0) with ⟨hI, k17⟩ | ⟨hI, k17⟩
            ·rcases lk hI a9e (.c 0) with ⟨hI, k18⟩ | ⟨hI, k18⟩
             ·have hI := abk hI (.c 0) ads
              have hI := d8 hI (.c 60000) ads
              have hI := d8 hI (.c 20000) ads
              have t90 := bz (f47 (σ := Gv.σ) ug)
              rcases lk hI az3 (.c 0) with ⟨hI, k22⟩ | ⟨hI, k22⟩
              ·rcases lk hI (.eqg ug (.lit 1 46)) (.c 1) with ⟨hI, k23⟩ | ⟨hI, k23⟩
               ·have t91 := bz (f60 hR (.v 1) (.v 2) (.s 5) (.s 4))
                have u := ap (Gv.σ 0) ((Gv.σ 1).headD 0) ((Gv.σ 2).headD 0) (Gv.σ 5) (Gv.σ 4)
                simp (disch := (clear t1 t2 t89 t91;  omega)) only [bp, ay, bo, bj, bl, bn, bh, bm, ar, bad, if_pos, if_neg, wr] at u
                exact ⟨gi,
                 zm [] (.i (.c 5) cb (.i cx ca .nil)) (zh hI hT) (zp hI hh) hI gc⟩
               ·have t92 := bz (f49 (σ := Gv.σ) ug (.c 0))
                rcases ahl hI (.c 1000) bdr with ⟨hI, k24⟩ | ⟨hI, k24⟩
                ·have t93 := bz (f60 hR (.v 1) (.v 2) (.s 5) (.s 4))
                 have u := ap (Gv.σ 0) ((Gv.σ 1).headD 0) ((Gv.σ 2).headD 0) (Gv.σ 5) (Gv.σ 4)
                 simp (disch := (clear t1 t2 t89 t92 t93;  omega)) only [bp, ay, bo, bj, bl, bn, bh, bm, ar, bad, if_pos, if_neg, wr] at u
                 exact ⟨gi,
                  zm [] (.i (.c 4) cb (.i cx ca .nil)) (zh hI hT) (zp hI hh) hI gc⟩
                ·have t94 := bz (f54 (σ := Gv.σ) (.s 4) ug)
                 rcases lk hI amg (.c 0) with ⟨hI, k25⟩ | ⟨hI, k25⟩
                 ·have t95 := bz (f60 hR (.v 1) (.v 2) (.s 5) (.s 4))
                  have t96 := bz (f53 (σ := Gv.σ) aij)
                  have t97 := bz (f53 (σ := Gv.σ) di)
                  have u := ap (Gv.σ 0) ((Gv.σ 1).headD 0) ((Gv.σ 2).headD 0) (Gv.σ 5) (Gv.σ 4)
                  simp (disch := (clear t1 t2 t89 t92 t94 t95 t96 t97;  omega)) only [bp, ay, bo, bj, bl, bn, bh, bm, ar, bad, if_pos, if_neg, wr] at u
                  exact ⟨zm [(272, 262)] (.i (.c 1) mf (.i a78 ml (.i au5 mi (.g (.s 5) mm (.i a8t me (.g aij di .nil)))))) (zh hI hT) (zp hI hh) hI gc,
                   gi⟩
                 ·have t98 := bz (f60 hR (.v 1) (.v 2) (.s 5) (.s 4))
                  have u := ap (Gv.σ 0) ((Gv.σ 1).headD 0) ((Gv.σ 2).headD 0) (Gv.σ 5) (Gv.σ 4)
                  simp (disch := (clear t1 t2 t89 t92 t94 t98;  omega)) only [bp, ay, bo, bj, bl, bn, bh, bm, ar, bad, if_pos, if_neg, wr] at u
                  exact ⟨gi,
                   zm [] (.i amg cb (.i cx ca .nil)) (zh hI hT) (zp hI hh) hI gc⟩
              ·rcases lk hI az3 (.c 1) with ⟨hI, k23⟩ | ⟨hI, k23⟩
               ·have t99 := bz (f60 hR (.v 1) (.v 2) (.s 5) (.s 4))
                have t100 := bz (f53 (σ := Gv.σ) (.s 4))
                have t101 := bz (f53 (σ := Gv.σ) di)
                have u := ap (Gv.σ 0) ((Gv.σ 1).headD 0) ((Gv.σ 2).headD 0) (Gv.σ 5) (Gv.σ 4)
                simp (disch := (clear t1 t2 t89 t99 t100 t101;  omega)) only [bp, ay, bo, bj, bl, bn, bh, bm, ar, bad, if_pos, if_neg, wr] at u
                exact ⟨zm [(260, 262)] (.i (.c 0) mf (.i (.app 48 avb) ml (.i au5 mi (.g (.s 5) mm (.i avh me (.g (.s 4) di .nil)))))) (zh hI hT) (zp hI hh) hI gc,
                 gi⟩
               ·have hI := b0d hI az3 (.c 2)
                have t102 := bz (f60 hR (.v 1) (.v 2) (.s 5) (.s 4))
                have u := ap (Gv.σ 0) ((Gv.σ 1).headD 0) ((Gv.σ 2).headD 0) (Gv.σ 5) (Gv.σ 4)
                simp (disch := (clear t1 t2 t89 t102;  omega)) only [bp, ay, bo, bj, bl, bn, bh, bm, ar, bad, if_pos, if_neg, wr] at u
                exact ⟨gi,
                 zm [] (.i (.c 15) cb (.i cx ca .nil)) (zh hI hT) (zp hI hh) hI gc⟩
             ·have hI := b0d hI a9e (.c 1)
              have hI := abk hI (.c 0) ads
              have hI := d8 hI (.c 60000) ads
              have hI := d8 hI (.c 20000) ads
              have t103 := bz (f49 (σ := Gv.σ) ug (.c 0))
              rcases ahl hI (.c 1000) bdr with ⟨hI, k23⟩ | ⟨hI, k23⟩
              ·have t104 := bz (f60 hR (.v 1) (.v 2) (.s 5) (.s 4))
               have u := ap (Gv.σ 0) ((Gv.σ 1).headD 0) ((Gv.σ 2).headD 0) (Gv.σ 5) (Gv.σ 4)
               simp (disch := (clear t1 t2 t89 t103 t104;  omega)) only [bp, ay, bo, bj, bl, bn, bh, bm, ar, bad, if_pos, if_neg, wr] at u
               exact ⟨gi,
                zm [] (.i (.c 4) cb (.i cx ca .nil)) (zh hI hT) (zp hI hh) hI gc⟩
              ·have t105 := bz (f54 (σ := Gv.σ) (.s 4) ug)
               rcases lk hI amg (.c 0) with ⟨hI, k24⟩ | ⟨hI, k24⟩
               ·have t106 := bz (f60 hR (.v 1) (.v 2) (.s 5) (.s 4))
                have t107 := bz (f53 (σ := Gv.σ) aij)
                have t108 := bz (f53 (σ := Gv.σ) di)
                have u := ap (Gv.σ 0) ((Gv.σ 1).headD 0) ((Gv.σ 2).headD 0) (Gv.σ 5) (Gv.σ 4)
                simp (disch := (clear t1 t2 t89 t103 t105 t106 t107 t108;  omega)) only [bp, ay, bo, bj, bl, bn, bh, bm, ar, bad, if_pos, if_neg, wr] at u
                exact ⟨zm [(268, 262)] (.i (.c 1) mf (.i a78 ml (.i au5 mi (.g (.s 5) mm (.i a8t me (.g aij di .nil)))))) (zh hI hT) (zp hI hh) hI gc,
                 gi⟩
               ·have t109 := bz (f60 hR (.v 1) (.v 2) (.s 5) (.s 4))
                have u := ap (Gv.σ 0) ((Gv.σ 1).headD 0) ((Gv.σ 2).headD 0) (Gv.σ 5) (Gv.σ 4)
                simp (disch := (clear t1 t2 t89 t103 t105 t109;  omega)) only [bp, ay, bo, bj, bl, bn, bh, bm, ar, bad, if_pos, if_neg, wr] at u
                exact ⟨gi,
                 zm [] (.i amg cb (.i cx ca .nil)) (zh hI hT) (zp hI hh) hI gc⟩
            ·have t110 := bz (f60 hR (.v 1) (.v 2) (.s 5) (.s 4))
             have u := ap (Gv.σ 0) ((Gv.σ 1).headD 0) ((Gv.σ 2).headD 0) (Gv.σ 5) (Gv.σ 4)
             simp (disch := (clear t1 t2 t89 t110;  omega)) only [bp, ay, bo, bj, bl, bn, bh, bm, ar, bad, if_pos, if_neg, wr] at u
             exact ⟨gi,
              zm [] (.i (.c 5) cb (.i (.len (.s 0)) ca .nil)) (zh hI hT) (zp hI hh) hI gc⟩
 ·have t111 := bz (f60 hR (.v 1) (.v 2) (.s 5) (.s 4))
  have u := ap (Gv.σ 0) ((Gv.σ 1).headD 0) ((Gv.σ 2).headD 0) (Gv.σ 5) (Gv.σ 4)
  simp (disch := (clear t1 t111;  omega)) only [bp, ay, bo, bj, bl, bn, bh, bm, ar, bad, if_pos, if_neg, wr] at u
  exact ⟨gi,
   zm [] (.i (.c 5) cb (.i (.len (.s 0)) ca .nil)) (zh hI hT) (zp hI hh) hI gc⟩
end Go.Ev
