import Derived.Test.YtkfdioikigponaaGreatDoorRaL0
set_option maxRecDepth 100000
set_option linter.all false
namespace Go.Ev
abbrev asp : AL := .i (.c 0) .nil
abbrev cx : SE := .app 43 (.g (.s 0) (.i (.v 1) asp))
abbrev awu : SE := .bin 0 .i64 cx (.c 0)
abbrev vo : SE := .rd (.s 0) awu
abbrev dp : SE := .bin 0 .i64 cx (.c 1)
abbrev ec : SE := .bin 0 .i64 (.v 2) (.c 1)
abbrev a68 : AL := .g (.s 5) (.g (.s 4) .nil)
abbrev bi4 : AL := .i (.c 0) a68
abbrev af4 : AL := .g (.s 0) (.i dp (.i ec (.i cx (.i (.c 0) (.i (.c 1) bi4)))))
abbrev a9q : SE := .app 65 af4
abbrev bar : SE := .bin 7 .i64 (.c 2) (.bin 6 .i64 (.len (.s 0)) (.bin 7 .i64 (.c (-1)) dp))
abbrev wz : SE := .bin 6 .i64 bar (.c 2)
abbrev kp : SE := .bin 6 .i64 (.bin 7 .i64 (.c 2) (.bin 6 .i64 (.len (.s 0)) (.bin 7 .i64 (.c (-1)) (.v 1)))) (.c 1)
abbrev ax7 : GE := .app 66 af4
abbrev aac : AL := .g (.s 0) (.i (.v 1) (.i (.v 2) a68))
abbrev de : GE := .app 61 aac
abbrev mb : SE := .app 62 aac
abbrev ma : SE := .app 63 aac
abbrev mc : SE := .app 64 aac
abbrev aax : SE := .bin 1 .i64 ec (.c 1)
abbrev mh : GE := .app 60 aac
abbrev me : SE := .app 53 (.g de .nil)
abbrev ce : SE := .app 60 aac
abbrev cb : SE := .app 61 aac
abbrev aem : AL := .g (.s 0) (.i dp (.i ec (.i cx bi4)))
abbrev a90 : SE := .app 70 aem
abbrev av5 : GE := .app 71 aem
abbrev ano : AL := .g (.s 0) (.i dp (.g .nil .nil))
abbrev bdq : GE := .app 91 ano
abbrev bb6 : AL := .g (.s 5) (.g bdq .nil)
abbrev a8r : SE := .app 59 bb6
abbrev awr : SE := .app 53 (.g (.s 4) .nil)
abbrev aib : AL := .g (.s 0) (.i cx .nil)
abbrev beg : AL := .i ec a68
abbrev aiy : AL := .g (.s 0) (.i dp beg)
abbrev xj : SE := .app 60 aiy
abbrev mf : SE := .bin 6 .i64 bar (.c 1)
abbrev ama : GE := .app 60 aiy
abbrev alo : AL := .i (.c 2) (.g ama (.i (.c 1) asp))
abbrev azw : SE := .app 74 alo
abbrev aab : GE := .app 61 aiy
abbrev axs : SE := .app 75 alo
abbrev axz : SE := .app 76 alo
abbrev awt : SE := .app 64 aiy
abbrev a0l : GE := .app 74 alo
abbrev a0d : SE := .app 53 (.g aab .nil)
abbrev amq : SE := .app 61 aiy
abbrev aze : SE := .rd (.s 0) dp
abbrev mj : SE := .bin 0 .i64 cx (.c 2)
abbrev aih : AL := .g (.s 0) (.i mj beg)
abbrev am4 : SE := .app 60 aih
abbrev wv : SE := .bin 6 .i64 (.bin 7 .i64 (.c 2) (.bin 6 .i64 (.len (.s 0)) (.bin 7 .i64 (.c (-1)) mj))) (.c 1)
abbrev az4 : GE := .app 60 aih
abbrev anp : AL := .i (.c 2) (.g az4 (.i (.c 1) asp))
abbrev a80 : SE := .app 74 anp
abbrev ag5 : GE := .app 61 aih
abbrev bbv : SE := .app 75 anp
abbrev bea : SE := .app 76 anp
abbrev beu : SE := .app 64 aih
abbrev baa : GE := .app 74 anp
abbrev a9t : SE := .app 53 (.g ag5 .nil)
abbrev bcy : SE := .app 61 aih
abbrev awa : SE := .rd (.s 0) mj
abbrev avk : AL := .g (.s 4) (.g (.lit 0 0) .nil)
abbrev am6 : SE := .app 54 avk
abbrev ahn : GE := .app 54 avk
abbrev a8z : SE := .app 55 avk
abbrev bdm : SE := .app 53 (.g ahn .nil)
abbrev anb : AL := .g (.s 0) (.i cx (.g .nil asp))
abbrev ber : SE := .app 46 anb
abbrev ub : GE := .app 44 anb
abbrev adq : SE := .len ub
abbrev azn : AL := .g ub .nil
abbrev awm : SE := .app 47 azn
abbrev a83 : SE := .app 49 (.g ub asp)
abbrev axw : AL := .g (.s 4) azn
abbrev al7 : SE := .app 54 axw
abbrev ag4 : GE := .app 54 axw
abbrev bdr : SE := .app 55 axw
abbrev ax2 : SE := .app 45 anb
abbrev bcs : SE := .app 53 (.g ag4 .nil)
set_option maxHeartbeats 100000000 in
theorem b3z [Gv] (hT : ∀ t ∈ [acp, aey, ae4, bfm, a37, a3d, bmx, bkt, bo2, rcF, a3m, a0s, a3a, a21, wm, xf, aiu, aok mF, apq mF], ap t) (hh : ∀ t ∈ [ar4, aoz, a0x, a1f, a1u, a2o, b2q mF, bz1 mF, b04 mF, b2h mF], ba t) (hI : SAll Gv.σ [.mk false (.app 42 (.g (.s 0) .nil)) (.c 1) true, .mk true (.v 1) (.c 0) false, .mk true (.len (.s 0)) (.v 1) false, .mk true (.v 2) (.c 0) false, .mk true (.c 200) (.v 2) false]) : b48 := by
 obtain ⟨⟨hR, hp0, hpl, hL⟩, ho0, ho1⟩ := bh6 hI
 have t1 := ca (bfr (σ := Gv.σ) (.v 1))
 rcases ajf hI awu (.len (.s 0)) with ⟨hI, k1⟩ | ⟨hI, k1⟩
 ·have hI := d9 hI awu (.c 0)
  have t2 := ca (pz hR awu)
  have hI := d9 hI vo (.c 0)
  rcases li hI vo (.c 40) with ⟨hI, k4⟩ | ⟨hI, k4⟩
  ·rcases ajf hI (.v 2) (.c 200) with ⟨hI, k5⟩ | ⟨hI, k5⟩
   ·have hI := d9 hI dp (.c 0)
    have hI := d9 hI (.len (.s 0)) dp
    have hI := d9 hI ec (.c 0)
    have hI := d9 hI (.c 200) ec
    have hI := d9 hI ec (.c 1)
    have t3 := ca (f65 hR dp ec cx (.c 0) (.c 1) (.c 0) (.s 5) (.s 4))
    rcases li hI a9q (.c 0) with ⟨hI, k11⟩ | ⟨hI, k11⟩
    ·have hI := abt hI wz kp
     have hI := d9 hI wz (.c 0)
     have t4 := ca (f60 hR (.v 1) (.v 2) (.s 5) (.s 4))
     have t5 := ca (f53 (σ := Gv.σ) ax7)
     have t6 := ca (f53 (σ := Gv.σ) de)
     have u := av (Gv.σ 0) ((Gv.σ 1).headD 0) ((Gv.σ 2).headD 0) (Gv.σ 5) (Gv.σ 4)
     simp (disch := (clear t1 t2 t3 t4 t5 t6;  omega)) only [br, bg, bm, bo, bp, bn, bj, bl, ax, bad, if_pos, if_neg, wr] at u
     exact ⟨zm [(267, 262)] (.i (.app 67 af4) mb (.i (.app 68 af4) ma (.i (.app 69 af4) mc (.i aax (.v 2) (.g (.app 65 af4) mh (.i (.app 53 (.g ax7 .nil)) me (.g ax7 de .nil))))))) (zh hI hT) (zp hI hh) hI gp,
      gi⟩
    ·have hI := abt hI wz kp
     have hI := d9 hI wz (.c 0)
     have t7 := ca (f60 hR (.v 1) (.v 2) (.s 5) (.s 4))
     have u := av (Gv.σ 0) ((Gv.σ 1).headD 0) ((Gv.σ 2).headD 0) (Gv.σ 5) (Gv.σ 4)
     simp (disch := (clear t1 t2 t3 t7;  omega)) only [br, bg, bm, bo, bp, bn, bj, bl, ax, bad, if_pos, if_neg, wr] at u
     exact ⟨gi,
      zm [] (.i a9q ce (.i (.app 66 af4) cb .nil)) (zh hI hT) (zp hI hh) hI gp⟩
   ·have t8 := ca (f60 hR (.v 1) (.v 2) (.s 5) (.s 4))
    have u := av (Gv.σ 0) ((Gv.σ 1).headD 0) ((Gv.σ 2).headD 0) (Gv.σ 5) (Gv.σ 4)
    simp (disch := (clear t1 t2 t8;  omega)) only [br, bg, bm, bo, bp, bn, bj, bl, ax, bad, if_pos, if_neg, wr] at u
    exact ⟨gi,
     zm [] (.i (.c 12) ce (.i cx cb .nil)) (zh hI hT) (zp hI hh) hI gp⟩
  ·rcases li hI vo (.c 91) with ⟨hI, k5⟩ | ⟨hI, k5⟩
   ·rcases ajf hI (.v 2) (.c 200) with ⟨hI, k6⟩ | ⟨hI, k6⟩
    ·have hI := d9 hI dp (.c 0)
     have hI := d9 hI (.len (.s 0)) dp
     have hI := d9 hI ec (.c 0)
     have hI := d9 hI (.c 200) ec
     have hI := d9 hI ec (.c 1)
     have t9 := ca ((And.intro (f70 hR dp ec cx (.c 0) (.s 5) (.s 4)) (cbm (σ := Gv.σ) dp ec cx (.c 0) (.s 5) (.s 4))))
     rcases li hI a90 (.c 0) with ⟨hI, k12⟩ | ⟨hI, k12⟩
     ·have hI := abt hI wz kp
      have hI := d9 hI wz (.c 0)
      have t10 := ca (f60 hR (.v 1) (.v 2) (.s 5) (.s 4))
      have t11 := ca (f53 (σ := Gv.σ) av5)
      have t12 := ca (f53 (σ := Gv.σ) de)
      have u := av (Gv.σ 0) ((Gv.σ 1).headD 0) ((Gv.σ 2).headD 0) (Gv.σ 5) (Gv.σ 4)
      simp (disch := (clear t1 t2 t9 t10 t11 t12;  omega)) only [br, bg, bm, bo, bp, bn, bj, bl, ax, bad, if_pos, if_neg, wr] at u
      exact ⟨zm [(265, 262)] (.i (.c 4) mb (.i (.app 72 aem) ma (.i (.app 73 aem) mc (.i aax (.v 2) (.g (.app 70 aem) mh (.i (.app 53 (.g av5 .nil)) me (.g av5 de .nil))))))) (zh hI hT) (zp hI hh) hI gp,
       gi⟩
     ·have hI := abt hI wz kp
      have hI := d9 hI wz (.c 0)
      have t13 := ca (f60 hR (.v 1) (.v 2) (.s 5) (.s 4))
      have u := av (Gv.σ 0) ((Gv.σ 1).headD 0) ((Gv.σ 2).headD 0) (Gv.σ 5) (Gv.σ 4)
      simp (disch := (clear t1 t2 t9 t13;  omega)) only [br, bg, bm, bo, bp, bn, bj, bl, ax, bad, if_pos, if_neg, wr] at u
      exact ⟨gi,
       zm [] (.i a90 ce (.i (.app 71 aem) cb .nil)) (zh hI hT) (zp hI hh) hI gp⟩
    ·have t14 := ca (f60 hR (.v 1) (.v 2) (.s 5) (.s 4))
     have u := av (Gv.σ 0) ((Gv.σ 1).headD 0) ((Gv.σ 2).headD 0) (Gv.σ 5) (Gv.σ 4)
     simp (disch := (clear t1 t2 t14;  omega)) only [br, bg, bm, bo, bp, bn, bj, bl, ax, bad, if_pos, if_neg, wr] at u
     exact ⟨gi,
      zm [] (.i (.c 12) ce (.i cx cb .nil)) (zh hI hT) (zp hI hh) hI gp⟩
   ·rcases li hI vo (.c 41) with ⟨hI, k6⟩ | ⟨hI, k6⟩
    ·have t15 := ca (f60 hR (.v 1) (.v 2) (.s 5) (.s 4))
     have u := av (Gv.σ 0) ((Gv.σ 1).headD 0) ((Gv.σ 2).headD 0) (Gv.σ 5) (Gv.σ 4)
     simp (disch := (clear t1 t2 t15;  omega)) only [br, bg, bm, bo, bp, bn, bj, bl, ax, bad, if_pos, if_neg, wr] at u
     exact ⟨gi,
      zm [] (.i (.c 5) ce (.i cx cb .nil)) (zh hI hT) (zp hI hh) hI gp⟩
    ·rcases li hI vo (.c 93) with ⟨hI, k7⟩ | ⟨hI, k7⟩
     ·have t16 := ca (f60 hR (.v 1) (.v 2) (.s 5) (.s 4))
      have u := av (Gv.σ 0) ((Gv.σ 1).headD 0) ((Gv.σ 2).headD 0) (Gv.σ 5) (Gv.σ 4)
      simp (disch := (clear t1 t2 t16;  omega)) only [br, bg, bm, bo, bp, bn, bj, bl, ax, bad, if_pos, if_neg, wr] at u
      exact ⟨gi,
       zm [] (.i (.c 5) ce (.i cx cb .nil)) (zh hI hT) (zp hI hh) hI gp⟩
     ·rcases li hI vo (.c 34) with ⟨hI, k8⟩ | ⟨hI, k8⟩
      ·have hI := d9 hI dp (.c 0)
       have hI := d9 hI (.len (.s 0)) dp
       have t17 := ca (f91 hR dp .nil)
       rcases li hI (.app 91 ano) (.c 0) with ⟨hI, k11⟩ | ⟨hI, k11⟩
       ·have t18 := ca (f59 (σ := Gv.σ) (.s 5) bdq)
        rcases li hI a8r (.c 0) with ⟨hI, k12⟩ | ⟨hI, k12⟩
        ·have t19 := ca (f60 hR (.v 1) (.v 2) (.s 5) (.s 4))
         have t20 := ca (f53 (σ := Gv.σ) (.s 4))
         have t21 := ca (f53 (σ := Gv.σ) de)
         have u := av (Gv.σ 0) ((Gv.σ 1).headD 0) ((Gv.σ 2).headD 0) (Gv.σ 5) (Gv.σ 4)
         simp (disch := (clear t1 t2 t17 t18 t19 t20 t21;  omega)) only [br, bg, bm, bo, bp, bn, bj, bl, ax, bad, if_pos, if_neg, wr] at u
         exact ⟨zm [(260, 262)] (.i (.c 3) mb (.i (.rd (.s 5) (.c 1)) ma (.i (.app 93 ano) mc (.g (.app 59 bb6) mh (.i awr me (.g (.s 4) de .nil)))))) (zh hI hT) (zp hI hh) hI gp,
          gi⟩
        ·have t22 := ca (f60 hR (.v 1) (.v 2) (.s 5) (.s 4))
         have u := av (Gv.σ 0) ((Gv.σ 1).headD 0) ((Gv.σ 2).headD 0) (Gv.σ 5) (Gv.σ 4)
         simp (disch := (clear t1 t2 t17 t18 t22;  omega)) only [br, bg, bm, bo, bp, bn, bj, bl, ax, bad, if_pos, if_neg, wr] at u
         exact ⟨gi,
          zm [] (.i a8r ce (.i cx cb .nil)) (zh hI hT) (zp hI hh) hI gp⟩
       ·have t23 := ca (f60 hR (.v 1) (.v 2) (.s 5) (.s 4))
        have u := av (Gv.σ 0) ((Gv.σ 1).headD 0) ((Gv.σ 2).headD 0) (Gv.σ 5) (Gv.σ 4)
        simp (disch := (clear t1 t2 t17 t23;  omega)) only [br, bg, bm, bo, bp, bn, bj, bl, ax, bad, if_pos, if_neg, wr] at u
        exact ⟨gi,
         zm [] (.i (.c 5) ce (.i (.app 92 ano) cb .nil)) (zh hI hT) (zp hI hh) hI gp⟩
      ·rcases li hI vo (.c 63) with ⟨hI, k9⟩ | ⟨hI, k9⟩
       ·have hI := d9 hI cx (.c 0)
        have hI := d9 hI (.len (.s 0)) cx
        have hI := abt hI cx (.len (.s 0))
        have t24 := ca (cbf hR cx)
        rcases li hI (.app 102 aib) (.c 0) with ⟨hI, k13⟩ | ⟨hI, k13⟩
        ·have t25 := ca (f60 hR (.v 1) (.v 2) (.s 5) (.s 4))
         have t26 := ca (f53 (σ := Gv.σ) (.s 4))
         have t27 := ca (f53 (σ := Gv.σ) de)
         have u := av (Gv.σ 0) ((Gv.σ 1).headD 0) ((Gv.σ 2).headD 0) (Gv.σ 5) (Gv.σ 4)
         simp (disch := (clear t1 t2 t24 t25 t26 t27;  omega)) only [br, bg, bm, bo, bp, bn, bj, bl, ax, bad, if_pos, if_neg, wr] at u
         exact ⟨zm [(260, 262)] (.i (.c 0) mb (.i (.app 104 aib) ma (.i (.app 105 aib) mc (.g (.s 5) mh (.i awr me (.g (.s 4) de .nil)))))) (zh hI hT) (zp hI hh) hI gp,
          gi⟩
        ·have t28 := ca (f60 hR (.v 1) (.v 2) (.s 5) (.s 4))
         have u := av (Gv.σ 0) ((Gv.σ 1).headD 0) ((Gv.σ 2).headD 0) (Gv.σ 5) (Gv.σ 4)
         simp (disch := (clear t1 t2 t24 t28;  omega)) only [br, bg, bm, bo, bp, bn, bj, bl, ax, bad, if_pos, if_neg, wr] at u
         exact ⟨gi,
          zm [] (.i (.c 5) ce (.i (.app 103 aib) cb .nil)) (zh hI hT) (zp hI hh) hI gp⟩
       ·rcases li hI vo (.c 39) with ⟨hI, k10⟩ | ⟨hI, k10⟩
        ·rcases ajf hI (.v 2) (.c 200) with ⟨hI, k11⟩ | ⟨hI, k11⟩
         ·have hI := d9 hI dp (.c 0)
          have hI := d9 hI (.len (.s 0)) dp
          have hI := d9 hI ec (.c 0)
          have hI := d9 hI (.c 200) ec
          have t29 := ca (f60 hR dp ec (.s 5) (.s 4))
          rcases li hI xj (.c 0) with ⟨hI, k16⟩ | ⟨hI, k16⟩
          ·have hI := abt hI mf kp
           have hI := d9 hI mf (.c 0)
           have t30 := ca (f74 (σ := Gv.σ) (.c 2) (.c 1) (.c 0) ama)
           rcases li hI azw (.c 0) with ⟨hI, k19⟩ | ⟨hI, k19⟩
           ·have t31 := ca (f60 hR (.v 1) (.v 2) (.s 5) (.s 4))
            have t32 := ca (f53 (σ := Gv.σ) aab)
            have t33 := ca (f53 (σ := Gv.σ) de)
            have u := av (Gv.σ 0) ((Gv.σ 1).headD 0) ((Gv.σ 2).headD 0) (Gv.σ 5) (Gv.σ 4)
            simp (disch := (clear t1 t2 t29 t30 t31 t32 t33;  omega)) only [br, bg, bm, bo, bp, bn, bj, bl, ax, bad, if_pos, if_neg, wr] at u
            exact ⟨zm [(266, 262)] (.i axs mb (.i axz ma (.i awt mc (.i aax (.v 2) (.g a0l mh (.i a0d me (.g aab de .nil))))))) (zh hI hT) (zp hI hh) hI gp,
             gi⟩
           ·have t34 := ca (f60 hR (.v 1) (.v 2) (.s 5) (.s 4))
            have u := av (Gv.σ 0) ((Gv.σ 1).headD 0) ((Gv.σ 2).headD 0) (Gv.σ 5) (Gv.σ 4)
            simp (disch := (clear t1 t2 t29 t30 t34;  omega)) only [br, bg, bm, bo, bp, bn, bj, bl, ax, bad, if_pos, if_neg, wr] at u
            exact ⟨gi,
             zm [] (.i (.c 7) ce (.i cx cb .nil)) (zh hI hT) (zp hI hh) hI gp⟩
          ·have hI := abt hI mf kp
           have hI := d9 hI mf (.c 0)
           have t35 := ca (f60 hR (.v 1) (.v 2) (.s 5) (.s 4))
           have u := av (Gv.σ 0) ((Gv.σ 1).headD 0) ((Gv.σ 2).headD 0) (Gv.σ 5) (Gv.σ 4)
           simp (disch := (clear t1 t2 t29 t35;  omega)) only [br, bg, bm, bo, bp, bn, bj, bl, ax, bad, if_pos, if_neg, wr] at u
           exact ⟨gi,
            zm [] (.i xj ce (.i amq cb .nil)) (zh hI hT) (zp hI hh) hI gp⟩
         ·have t36 := ca (f60 hR (.v 1) (.v 2) (.s 5) (.s 4))
          have u := av (Gv.σ 0) ((Gv.σ 1).headD 0) ((Gv.σ 2).headD 0) (Gv.σ 5) (Gv.σ 4)
          simp (disch := (clear t1 t2 t36;  omega)) only [br, bg, bm, bo, bp, bn, bj, bl, ax, bad, if_pos, if_neg, wr] at u
          exact ⟨gi,
           zm [] (.i (.c 12) ce (.i cx cb .nil)) (zh hI hT) (zp hI hh) hI gp⟩
        ·rcases li hI vo (.c 96) with ⟨hI, k11⟩ | ⟨hI, k11⟩
         ·rcases ajf hI (.v 2) (.c 200) with ⟨hI, k12⟩ | ⟨hI, k12⟩
          ·have hI := d9 hI dp (.c 0)
           have hI := d9 hI (.len (.s 0)) dp
           have hI := d9 hI ec (.c 0)
           have hI := d9 hI (.c 200) ec
           have t37 := ca (f60 hR dp ec (.s 5) (.s 4))
           rcases li hI xj (.c 0) with ⟨hI, k17⟩ | ⟨hI, k17⟩
           ·have hI := abt hI mf kp
            have hI := d9 hI mf (.c 0)
            have t38 := ca (f74 (σ := Gv.σ) (.c 2) (.c 1) (.c 0) ama)
            rcases li hI azw (.c 0) with ⟨hI, k20⟩ | ⟨hI, k20⟩
            ·have t39 := ca (f60 hR (.v 1) (.v 2) (.s 5) (.s 4))
             have t40 := ca (f53 (σ := Gv.σ) aab)
             have t41 := ca (f53 (σ := Gv.σ) de)
             have u := av (Gv.σ 0) ((Gv.σ 1).headD 0) ((Gv.σ 2).headD 0) (Gv.σ 5) (Gv.σ 4)
             simp (disch := (clear t1 t2 t37 t38 t39 t40 t41;  omega)) only [br, bg, bm, bo, bp, bn, bj, bl, ax, bad, if_pos, if_neg, wr] at u
             exact ⟨zm [(266, 262)] (.i axs mb (.i axz ma (.i awt mc (.i aax (.v 2) (.g a0l mh (.i a0d me (.g aab de .nil))))))) (zh hI hT) (zp hI hh) hI gp,
              gi⟩
            ·have t42 := ca (f60 hR (.v 1) (.v 2) (.s 5) (.s 4))
             have u := av (Gv.σ 0) ((Gv.σ 1).headD 0) ((Gv.σ 2).headD 0) (Gv.σ 5) (Gv.σ 4)
             simp (disch := (clear t1 t2 t37 t38 t42;  omega)) only [br, bg, bm, bo, bp, bn, bj, bl, ax, bad, if_pos, if_neg, wr] at u
             exact ⟨gi,
              zm [] (.i (.c 7) ce (.i cx cb .nil)) (zh hI hT) (zp hI hh) hI gp⟩
           ·have hI := abt hI mf kp
            have hI := d9 hI mf (.c 0)
            have t43 := ca (f60 hR (.v 1) (.v 2) (.s 5) (.s 4))
            have u := av (Gv.σ 0) ((Gv.σ 1).headD 0) ((Gv.σ 2).headD 0) (Gv.σ 5) (Gv.σ 4)
            simp (disch := (clear t1 t2 t37 t43;  omega)) only [br, bg, bm, bo, bp, bn, bj, bl, ax, bad, if_pos, if_neg, wr] at u
            exact ⟨gi,
             zm [] (.i xj ce (.i amq cb .nil)) (zh hI hT) (zp hI hh) hI gp⟩
          ·have t44 := ca (f60 hR (.v 1) (.v 2) (.s 5) (.s 4))
           have u := av (Gv.σ 0) ((Gv.σ 1).headD 0) ((Gv.σ 2).headD 0) (Gv.σ 5) (Gv.σ 4)
           simp (disch := (clear t1 t2 t44;  omega)) only [br, bg, bm, bo, bp, bn, bj, bl, ax, bad, if_pos, if_neg, wr] at u
           exact ⟨gi,
            zm [] (.i (.c 12) ce (.i cx cb .nil)) (zh hI hT) (zp hI hh) hI gp⟩
         ·rcases li hI vo (.c 44) with ⟨hI, k12⟩ | ⟨hI, k12⟩
          ·rcases ajf hI dp (.len (.s 0)) with ⟨hI, k13⟩ | ⟨hI, k13⟩
           ·have hI := d9 hI dp (.c 0)
            have t45 := ca (pz hR dp)
            rcases li hI aze (.c 64) with ⟨hI, k15⟩ | ⟨hI, k15⟩
            ·rcases ajf hI (.v 2) (.c 200) with ⟨hI, k16⟩ | ⟨hI, k16⟩
             ·have hI := d9 hI mj (.c 0)
              have hI := d9 hI (.len (.s 0)) mj
              have hI := d9 hI ec (.c 0)
              have hI := d9 hI (.c 200) ec
              have t46 := ca (f60 hR mj ec (.s 5) (.s 4))
              rcases li hI am4 (.c 0) with ⟨hI, k21⟩ | ⟨hI, k21⟩
              ·have hI := abt hI wv kp
               have hI := d9 hI wv (.c 0)
               have t47 := ca (f74 (σ := Gv.σ) (.c 2) (.c 1) (.c 0) az4)
               rcases li hI a80 (.c 0) with ⟨hI, k24⟩ | ⟨hI, k24⟩
               ·have t48 := ca (f60 hR (.v 1) (.v 2) (.s 5) (.s 4))
                have t49 := ca (f53 (σ := Gv.σ) ag5)
                have t50 := ca (f53 (σ := Gv.σ) de)
                have u := av (Gv.σ 0) ((Gv.σ 1).headD 0) ((Gv.σ 2).headD 0) (Gv.σ 5) (Gv.σ 4)
                simp (disch := (clear t1 t2 t45 t46 t47 t48 t49 t50;  omega)) only [br, bg, bm, bo, bp, bn, bj, bl, ax, bad, if_pos, if_neg, wr] at u
                exact ⟨zm [(266, 262)] (.i bbv mb (.i bea ma (.i beu mc (.i aax (.v 2) (.g baa mh (.i a9t me (.g ag5 de .nil))))))) (zh hI hT) (zp hI hh) hI gp,
                 gi⟩
               ·have t51 := ca (f60 hR (.v 1) (.v 2) (.s 5) (.s 4))
                have u := av (Gv.σ 0) ((Gv.σ 1).headD 0) ((Gv.σ 2).headD 0) (Gv.σ 5) (Gv.σ 4)
                simp (disch := (clear t1 t2 t45 t46 t47 t51;  omega)) only [br, bg, bm, bo, bp, bn, bj, bl, ax, bad, if_pos, if_neg, wr] at u
                exact ⟨gi,
                 zm [] (.i (.c 7) ce (.i cx cb .nil)) (zh hI hT) (zp hI hh) hI gp⟩
              ·have hI := abt hI wv kp
               have hI := d9 hI wv (.c 0)
               have t52 := ca (f60 hR (.v 1) (.v 2) (.s 5) (.s 4))
               have u := av (Gv.σ 0) ((Gv.σ 1).headD 0) ((Gv.σ 2).headD 0) (Gv.σ 5) (Gv.σ 4)
               simp (disch := (clear t1 t2 t45 t46 t52;  omega)) only [br, bg, bm, bo, bp, bn, bj, bl, ax, bad, if_pos, if_neg, wr] at u
               exact ⟨gi,
                zm [] (.i am4 ce (.i bcy cb .nil)) (zh hI hT) (zp hI hh) hI gp⟩
             ·have t53 := ca (f60 hR (.v 1) (.v 2) (.s 5) (.s 4))
              have u := av (Gv.σ 0) ((Gv.σ 1).headD 0) ((Gv.σ 2).headD 0) (Gv.σ 5) (Gv.σ 4)
              simp (disch := (clear t1 t2 t45 t53;  omega)) only [br, bg, bm, bo, bp, bn, bj, bl, ax, bad, if_pos, if_neg, wr] at u
              exact ⟨gi,
               zm [] (.i (.c 12) ce (.i cx cb .nil)) (zh hI hT) (zp hI hh) hI gp⟩
            ·rcases ajf hI (.v 2) (.c 200) with ⟨hI, k16⟩ | ⟨hI, k16⟩
             ·have hI := d9 hI (.len (.s 0)) dp
              have hI := d9 hI ec (.c 0)
              have hI := d9 hI (.c 200) ec
              have t54 := ca (f60 hR dp ec (.s 5) (.s 4))
              rcases li hI xj (.c 0) with ⟨hI, k20⟩ | ⟨hI, k20⟩
              ·have hI := abt hI mf kp
               have hI := d9 hI mf (.c 0)
               have t55 := ca (f74 (σ := Gv.σ) (.c 2) (.c 1) (.c 0) ama)
               rcases li hI azw (.c 0) with ⟨hI, k23⟩ | ⟨hI, k23⟩
               ·have t56 := ca (f60 hR (.v 1) (.v 2) (.s 5) (.s 4))
                have t57 := ca (f53 (σ := Gv.σ) aab)
                have t58 := ca (f53 (σ := Gv.σ) de)
                have u := av (Gv.σ 0) ((Gv.σ 1).headD 0) ((Gv.σ 2).headD 0) (Gv.σ 5) (Gv.σ 4)
                simp (disch := (clear t1 t2 t45 t54 t55 t56 t57 t58;  omega)) only [br, bg, bm, bo, bp, bn, bj, bl, ax, bad, if_pos, if_neg, wr] at u
                exact ⟨zm [(266, 262)] (.i axs mb (.i axz ma (.i awt mc (.i aax (.v 2) (.g a0l mh (.i a0d me (.g aab de .nil))))))) (zh hI hT) (zp hI hh) hI gp,
                 gi⟩
               ·have t59 := ca (f60 hR (.v 1) (.v 2) (.s 5) (.s 4))
                have u := av (Gv.σ 0) ((Gv.σ 1).headD 0) ((Gv.σ 2).headD 0) (Gv.σ 5) (Gv.σ 4)
                simp (disch := (clear t1 t2 t45 t54 t55 t59;  omega)) only [br, bg, bm, bo, bp, bn, bj, bl, ax, bad, if_pos, if_neg, wr] at u
                exact ⟨gi,
                 zm [] (.i (.c 7) ce (.i cx cb .nil)) (zh hI hT) (zp hI hh) hI gp⟩
              ·have hI := abt hI mf kp
               have hI := d9 hI mf (.c 0)
               have t60 := ca (f60 hR (.v 1) (.v 2) (.s 5) (.s 4))
               have u := av (Gv.σ 0) ((Gv.σ 1).headD 0) ((Gv.σ 2).headD 0) (Gv.σ 5) (Gv.σ 4)
               simp (disch := (clear t1 t2 t45 t54 t60;  omega)) only [br, bg, bm, bo, bp, bn, bj, bl, ax, bad, if_pos, if_neg, wr] at u
               exact ⟨gi,
                zm [] (.i xj ce (.i amq cb .nil)) (zh hI hT) (zp hI hh) hI gp⟩
             ·have t61 := ca (f60 hR (.v 1) (.v 2) (.s 5) (.s 4))
              have u := av (Gv.σ 0) ((Gv.σ 1).headD 0) ((Gv.σ 2).headD 0) (Gv.σ 5) (Gv.σ 4)
              simp (disch := (clear t1 t2 t45 t61;  omega)) only [br, bg, bm, bo, bp, bn, bj, bl, ax, bad, if_pos, if_neg, wr] at u
              exact ⟨gi,
               zm [] (.i (.c 12) ce (.i cx cb .nil)) (zh hI hT) (zp hI hh) hI gp⟩
           ·rcases ajf hI (.v 2) (.c 200) with ⟨hI, k14⟩ | ⟨hI, k14⟩
            ·have hI := d9 hI dp (.c 0)
             have hI := d9 hI (.len (.s 0)) dp
             have hI := d9 hI ec (.c 0)
             have hI := d9 hI (.c 200) ec
             have t62 := ca (f60 hR dp ec (.s 5) (.s 4))
             have hI := cav hI xj (.c 0)
             have hI := abt hI mf kp
             have hI := d9 hI mf (.c 0)
             have t63 := ca (f60 hR (.v 1) (.v 2) (.s 5) (.s 4))
             have u := av (Gv.σ 0) ((Gv.σ 1).headD 0) ((Gv.σ 2).headD 0) (Gv.σ 5) (Gv.σ 4)
             simp (disch := (clear t1 t2 t62 t63;  omega)) only [br, bg, bm, bo, bp, bn, bj, bl, ax, bad, if_pos, if_neg, wr] at u
             exact ⟨gi,
              zm [] (.i xj ce (.i amq cb .nil)) (zh hI hT) (zp hI hh) hI gp⟩
            ·have t64 := ca (f60 hR (.v 1) (.v 2) (.s 5) (.s 4))
             have u := av (Gv.σ 0) ((Gv.σ 1).headD 0) ((Gv.σ 2).headD 0) (Gv.σ 5) (Gv.σ 4)
             simp (disch := (clear t1 t2 t64;  omega)) only [br, bg, bm, bo, bp, bn, bj, bl, ax, bad, if_pos, if_neg, wr] at u
             exact ⟨gi,
              zm [] (.i (.c 12) ce (.i cx cb .nil)) (zh hI hT) (zp hI hh) hI gp⟩
          ·rcases li hI vo (.c 35) with ⟨hI, k13⟩ | ⟨hI, k13⟩
           ·rcases ajf hI dp (.len (.s 0)) with ⟨hI, k14⟩ | ⟨hI, k14⟩
            ·have hI := d9 hI dp (.c 0)
             have t65 := ca (pz hR dp)
             rcases li hI aze (.c 39) with ⟨hI, k16⟩ | ⟨hI, k16⟩
             ·rcases ajf hI (.v 2) (.c 200) with ⟨hI, k17⟩ | ⟨hI, k17⟩
              ·have hI := d9 hI mj (.c 0)
               have hI := d9 hI (.len (.s 0)) mj
               have hI := d9 hI ec (.c 0)
               have hI := d9 hI (.c 200) ec
               have t66 := ca (f60 hR mj ec (.s 5) (.s 4))
               rcases li hI am4 (.c 0) with ⟨hI, k22⟩ | ⟨hI, k22⟩
               ·have hI := abt hI wv kp
                have hI := d9 hI wv (.c 0)
                have t67 := ca (f74 (σ := Gv.σ) (.c 2) (.c 1) (.c 0) az4)
                rcases li hI a80 (.c 0) with ⟨hI, k25⟩ | ⟨hI, k25⟩
                ·have t68 := ca (f60 hR (.v 1) (.v 2) (.s 5) (.s 4))
                 have t69 := ca (f53 (σ := Gv.σ) ag5)
                 have t70 := ca (f53 (σ := Gv.σ) de)
                 have u := av (Gv.σ 0) ((Gv.σ 1).headD 0) ((Gv.σ 2).headD 0) (Gv.σ 5) (Gv.σ 4)
                 simp (disch := (clear t1 t2 t65 t66 t67 t68 t69 t70;  omega)) only [br, bg, bm, bo, bp, bn, bj, bl, ax, bad, if_pos, if_neg, wr] at u
                 exact ⟨zm [(266, 262)] (.i bbv mb (.i bea ma (.i beu mc (.i aax (.v 2) (.g baa mh (.i a9t me (.g ag5 de .nil))))))) (zh hI hT) (zp hI hh) hI gp,
                  gi⟩
                ·have t71 := ca (f60 hR (.v 1) (.v 2) (.s 5) (.s 4))
                 have u := av (Gv.σ 0) ((Gv.σ 1).headD 0) ((Gv.σ 2).headD 0) (Gv.σ 5) (Gv.σ 4)
                 simp (disch := (clear t1 t2 t65 t66 t67 t71;  omega)) only [br, bg, bm, bo, bp, bn, bj, bl, ax, bad, if_pos, if_neg, wr] at u
                 exact ⟨gi,
                  zm [] (.i (.c 7) ce (.i cx cb .nil)) (zh hI hT) (zp hI hh) hI gp⟩
               ·have hI := abt hI wv kp
                have hI := d9 hI wv (.c 0)
                have t72 := ca (f60 hR (.v 1) (.v 2) (.s 5) (.s 4))
                have u := av (Gv.σ 0) ((Gv.σ 1).headD 0) ((Gv.σ 2).headD 0) (Gv.σ 5) (Gv.σ 4)
                simp (disch := (clear t1 t2 t65 t66 t72;  omega)) only [br, bg, bm, bo, bp, bn, bj, bl, ax, bad, if_pos, if_neg, wr] at u
                exact ⟨gi,
                 zm [] (.i am4 ce (.i bcy cb .nil)) (zh hI hT) (zp hI hh) hI gp⟩
              ·have t73 := ca (f60 hR (.v 1) (.v 2) (.s 5) (.s 4))
               have u := av (Gv.σ 0) ((Gv.σ 1).headD 0) ((Gv.σ 2).headD 0) (Gv.σ 5) (Gv.σ 4)
               simp (disch := (clear t1 t2 t65 t73;  omega)) only [br, bg, bm, bo, bp, bn, bj, bl, ax, bad, if_pos, if_neg, wr] at u
               exact ⟨gi,
                zm [] (.i (.c 12) ce (.i cx cb .nil)) (zh hI hT) (zp hI hh) hI gp⟩
             ·rcases li hI aze (.c 35) with ⟨hI, k17⟩ | ⟨hI, k17⟩
              ·rcases ajf hI mj (.len (.s 0)) with ⟨hI, k18⟩ | ⟨hI, k18⟩
               ·have hI := d9 hI mj (.c 0)
                have t74 := ca (pz hR mj)
                have hI := d9 hI awa (.c 0)
                have t75 := ca (b0t (σ := Gv.σ) awa)
                rcases li hI (.app 41 (.i awa .nil)) (.c 1) with ⟨hI, k21⟩ | ⟨hI, k21⟩
                ·have t76 := ca (f54 (σ := Gv.σ) (.s 4) (.lit 0 0))
                 rcases li hI am6 (.c 0) with ⟨hI, k22⟩ | ⟨hI, k22⟩
                 ·have t77 := ca (f60 hR (.v 1) (.v 2) (.s 5) (.s 4))
                  have t78 := ca (f53 (σ := Gv.σ) ahn)
                  have t79 := ca (f53 (σ := Gv.σ) de)
                  have u := av (Gv.σ 0) ((Gv.σ 1).headD 0) ((Gv.σ 2).headD 0) (Gv.σ 5) (Gv.σ 4)
                  simp (disch := (clear t1 t2 t65 t74 t75 t76 t77 t78 t79;  omega)) only [br, bg, bm, bo, bp, bn, bj, bl, ax, bad, if_pos, if_neg, wr] at u
                  exact ⟨zm [(265, 262)] (.i (.c 1) mb (.i a8z ma (.i mj mc (.g (.s 5) mh (.i bdm me (.g ahn de .nil)))))) (zh hI hT) (zp hI hh) hI gp,
                   gi⟩
                 ·have t80 := ca (f60 hR (.v 1) (.v 2) (.s 5) (.s 4))
                  have u := av (Gv.σ 0) ((Gv.σ 1).headD 0) ((Gv.σ 2).headD 0) (Gv.σ 5) (Gv.σ 4)
                  simp (disch := (clear t1 t2 t65 t74 t75 t76 t80;  omega)) only [br, bg, bm, bo, bp, bn, bj, bl, ax, bad, if_pos, if_neg, wr] at u
                  exact ⟨gi,
                   zm [] (.i am6 ce (.i cx cb .nil)) (zh hI hT) (zp hI hh) hI gp⟩
                ·have t81 := ca (f60 hR (.v 1) (.v 2) (.s 5) (.s 4))
                 have u := av (Gv.σ 0) ((Gv.σ 1).headD 0) ((Gv.σ 2).headD 0) (Gv.σ 5) (Gv.σ 4)
                 simp (disch := (clear t1 t2 t65 t74 t75 t81;  omega)) only [br, bg, bm, bo, bp, bn, bj, bl, ax, bad, if_pos, if_neg, wr] at u
                 exact ⟨gi,
                  zm [] (.i (.c 5) ce (.i cx cb .nil)) (zh hI hT) (zp hI hh) hI gp⟩
               ·have t82 := ca (f54 (σ := Gv.σ) (.s 4) (.lit 0 0))
                rcases li hI am6 (.c 0) with ⟨hI, k19⟩ | ⟨hI, k19⟩
                ·have t83 := ca (f60 hR (.v 1) (.v 2) (.s 5) (.s 4))
                 have t84 := ca (f53 (σ := Gv.σ) ahn)
                 have t85 := ca (f53 (σ := Gv.σ) de)
                 have u := av (Gv.σ 0) ((Gv.σ 1).headD 0) ((Gv.σ 2).headD 0) (Gv.σ 5) (Gv.σ 4)
                 simp (disch := (clear t1 t2 t65 t82 t83 t84 t85;  omega)) only [br, bg, bm, bo, bp, bn, bj, bl, ax, bad, if_pos, if_neg, wr] at u
                 exact ⟨zm [(265, 262)] (.i (.c 1) mb (.i a8z ma (.i mj mc (.g (.s 5) mh (.i bdm me (.g ahn de .nil)))))) (zh hI hT) (zp hI hh) hI gp,
                  gi⟩
                ·have t86 := ca (f60 hR (.v 1) (.v 2) (.s 5) (.s 4))
                 have u := av (Gv.σ 0) ((Gv.σ 1).headD 0) ((Gv.σ 2).headD 0) (Gv.σ 5) (Gv.σ 4)
                 simp (disch := (clear t1 t2 t65 t82 t86;  omega)) only [br, bg, bm, bo, bp, bn, bj, bl, ax, bad, if_pos, if_neg, wr] at u
                 exact ⟨gi,
                  zm [] (.i am6 ce (.i cx cb .nil)) (zh hI hT) (zp hI hh) hI gp⟩
              ·have t87 := ca (f60 hR (.v 1) (.v 2) (.s 5) (.s 4))
               have u := av (Gv.σ 0) ((Gv.σ 1).headD 0) ((Gv.σ 2).headD 0) (Gv.σ 5) (Gv.σ 4)
               simp (disch := (clear t1 t2 t65 t87;  omega)) only [br, bg, bm, bo, bp, bn, bj, bl, ax, bad, if_pos, if_neg, wr] at u
               exact ⟨gi,
                zm [] (.i (.c 5) ce (.i cx cb .nil)) (zh hI hT) (zp hI hh) hI gp⟩
            ·have t88 := ca (f60 hR (.v 1) (.v 2) (.s 5) (.s 4))
             have u := av (Gv.σ 0) ((Gv.σ 1).headD 0) ((Gv.σ 2).headD 0) (Gv.σ 5) (Gv.σ 4)
             simp (disch := (clear t1 t2 t88;  omega)) only [br, bg, bm, bo, bp, bn, bj, bl, ax, bad, if_pos, if_neg, wr] at u
             exact ⟨gi,
              zm [] (.i (.c 5) ce (.i cx cb .nil)) (zh hI hT) (zp hI hh) hI gp⟩
           ·have hI := d9 hI cx (.c 0)
            have hI := d9 hI (.len (.s 0)) cx
            have := b9g (Gv.σ 0) (ae (Gv.σ 0) ((Gv.σ 1).headD 0) 0) (by omega) (by omega) (by omega)
            have hI := bz6 hI (.app 108 aib) (.c 0)
            have t89 := ca ((And.intro (f44 (σ := Gv.σ) cx .nil (.c 0)) (ca8 (σ := Gv.σ) cx)))
            rcases li hI (.app 44 anb) (.c 0) with ⟨hI, k17⟩ | ⟨hI, k17⟩
            ·rcases li hI ber (.c 0) with ⟨hI, k18⟩ | ⟨hI, k18⟩
             ·have hI := abt hI (.c 0) adq
              have hI := d9 hI (.c 60000) adq
              have hI := d9 hI (.c 20000) adq
              have t90 := ca (f47 (σ := Gv.σ) ub)
              rcases li hI awm (.c 0) with ⟨hI, k22⟩ | ⟨hI, k22⟩
              ·rcases li hI (.eqg ub (.lit 1 46)) (.c 1) with ⟨hI, k23⟩ | ⟨hI, k23⟩
               ·have t91 := ca (f60 hR (.v 1) (.v 2) (.s 5) (.s 4))
                have u := av (Gv.σ 0) ((Gv.σ 1).headD 0) ((Gv.σ 2).headD 0) (Gv.σ 5) (Gv.σ 4)
                simp (disch := (clear t1 t2 t89 t91;  omega)) only [br, bg, bm, bo, bp, bn, bj, bl, ax, bad, if_pos, if_neg, wr] at u
                exact ⟨gi,
                 zm [] (.i (.c 5) ce (.i cx cb .nil)) (zh hI hT) (zp hI hh) hI gp⟩
               ·have t92 := ca (f49 (σ := Gv.σ) ub (.c 0))
                rcases ajf hI (.c 1000) a83 with ⟨hI, k24⟩ | ⟨hI, k24⟩
                ·have t93 := ca (f60 hR (.v 1) (.v 2) (.s 5) (.s 4))
                 have u := av (Gv.σ 0) ((Gv.σ 1).headD 0) ((Gv.σ 2).headD 0) (Gv.σ 5) (Gv.σ 4)
                 simp (disch := (clear t1 t2 t89 t92 t93;  omega)) only [br, bg, bm, bo, bp, bn, bj, bl, ax, bad, if_pos, if_neg, wr] at u
                 exact ⟨gi,
                  zm [] (.i (.c 4) ce (.i cx cb .nil)) (zh hI hT) (zp hI hh) hI gp⟩
                ·have t94 := ca (f54 (σ := Gv.σ) (.s 4) ub)
                 rcases li hI al7 (.c 0) with ⟨hI, k25⟩ | ⟨hI, k25⟩
                 ·have t95 := ca (f60 hR (.v 1) (.v 2) (.s 5) (.s 4))
                  have t96 := ca (f53 (σ := Gv.σ) ag4)
                  have t97 := ca (f53 (σ := Gv.σ) de)
                  have u := av (Gv.σ 0) ((Gv.σ 1).headD 0) ((Gv.σ 2).headD 0) (Gv.σ 5) (Gv.σ 4)
                  simp (disch := (clear t1 t2 t89 t92 t94 t95 t96 t97;  omega)) only [br, bg, bm, bo, bp, bn, bj, bl, ax, bad, if_pos, if_neg, wr] at u
                  exact ⟨zm [(272, 262)] (.i (.c 1) mb (.i bdr ma (.i ax2 mc (.g (.s 5) mh (.i bcs me (.g ag4 de .nil)))))) (zh hI hT) (zp hI hh) hI gp,
                   gi⟩
                 ·have t98 := ca (f60 hR (.v 1) (.v 2) (.s 5) (.s 4))
                  have u := av (Gv.σ 0) ((Gv.σ 1).headD 0) ((Gv.σ 2).headD 0) (Gv.σ 5) (Gv.σ 4)
                  simp (disch := (clear t1 t2 t89 t92 t94 t98;  omega)) only [br, bg, bm, bo, bp, bn, bj, bl, ax, bad, if_pos, if_neg, wr] at u
                  exact ⟨gi,
                   zm [] (.i al7 ce (.i cx cb .nil)) (zh hI hT) (zp hI hh) hI gp⟩
              ·rcases li hI awm (.c 1) with ⟨hI, k23⟩ | ⟨hI, k23⟩
               ·have t99 := ca (f60 hR (.v 1) (.v 2) (.s 5) (.s 4))
                have t100 := ca (f53 (σ := Gv.σ) (.s 4))
                have t101 := ca (f53 (σ := Gv.σ) de)
                have u := av (Gv.σ 0) ((Gv.σ 1).headD 0) ((Gv.σ 2).headD 0) (Gv.σ 5) (Gv.σ 4)
                simp (disch := (clear t1 t2 t89 t99 t100 t101;  omega)) only [br, bg, bm, bo, bp, bn, bj, bl, ax, bad, if_pos, if_neg, wr] at u
                exact ⟨zm [(260, 262)] (.i (.c 0) mb (.i (.app 48 azn) ma (.i ax2 mc (.g (.s 5) mh (.i awr me (.g (.s 4) de .nil)))))) (zh hI hT) (zp hI hh) hI gp,
                 gi⟩
               ·have hI := bz6 hI awm (.c 2)
                have t102 := ca (f60 hR (.v 1) (.v 2) (.s 5) (.s 4))
                have u := av (Gv.σ 0) ((Gv.σ 1).headD 0) ((Gv.σ 2).headD 0) (Gv.σ 5) (Gv.σ 4)
                simp (disch := (clear t1 t2 t89 t102;  omega)) only [br, bg, bm, bo, bp, bn, bj, bl, ax, bad, if_pos, if_neg, wr] at u
                exact ⟨gi,
                 zm [] (.i (.c 15) ce (.i cx cb .nil)) (zh hI hT) (zp hI hh) hI gp⟩
             ·have hI := bz6 hI ber (.c 1)
              have hI := abt hI (.c 0) adq
              have hI := d9 hI (.c 60000) adq
              have hI := d9 hI (.c 20000) adq
              have t103 := ca (f49 (σ := Gv.σ) ub (.c 0))
              rcases ajf hI (.c 1000) a83 with ⟨hI, k23⟩ | ⟨hI, k23⟩
              ·have t104 := ca (f60 hR (.v 1) (.v 2) (.s 5) (.s 4))
               have u := av (Gv.σ 0) ((Gv.σ 1).headD 0) ((Gv.σ 2).headD 0) (Gv.σ 5) (Gv.σ 4)
               simp (disch := (clear t1 t2 t89 t103 t104;  omega)) only [br, bg, bm, bo, bp, bn, bj, bl, ax, bad, if_pos, if_neg, wr] at u
               exact ⟨gi,
                zm [] (.i (.c 4) ce (.i cx cb .nil)) (zh hI hT) (zp hI hh) hI gp⟩
              ·have t105 := ca (f54 (σ := Gv.σ) (.s 4) ub)
               rcases li hI al7 (.c 0) with ⟨hI, k24⟩ | ⟨hI, k24⟩
               ·have t106 := ca (f60 hR (.v 1) (.v 2) (.s 5) (.s 4))
                have t107 := ca (f53 (σ := Gv.σ) ag4)
                have t108 := ca (f53 (σ := Gv.σ) de)
                have u := av (Gv.σ 0) ((Gv.σ 1).headD 0) ((Gv.σ 2).headD 0) (Gv.σ 5) (Gv.σ 4)
                simp (disch := (clear t1 t2 t89 t103 t105 t106 t107 t108;  omega)) only [br, bg, bm, bo, bp, bn, bj, bl, ax, bad, if_pos, if_neg, wr] at u
                exact ⟨zm [(268, 262)] (.i (.c 1) mb (.i bdr ma (.i ax2 mc (.g (.s 5) mh (.i bcs me (.g ag4 de .nil)))))) (zh hI hT) (zp hI hh) hI gp,
                 gi⟩
               ·have t109 := ca (f60 hR (.v 1) (.v 2) (.s 5) (.s 4))
                have u := av (Gv.σ 0) ((Gv.σ 1).headD 0) ((Gv.σ 2).headD 0) (Gv.σ 5) (Gv.σ 4)
                simp (disch := (clear t1 t2 t89 t103 t105 t109;  omega)) only [br, bg, bm, bo, bp, bn, bj, bl, ax, bad, if_pos, if_neg, wr] at u
                exact ⟨gi,
                 zm [] (.i al7 ce (.i cx cb .nil)) (zh hI hT) (zp hI hh) hI gp⟩
            ·have t110 := ca (f60 hR (.v 1) (.v 2) (.s 5) (.s 4))
             have u := av (Gv.σ 0) ((Gv.σ 1).headD 0) ((Gv.σ 2).headD 0) (Gv.σ 5) (Gv.σ 4)
             simp (disch := (clear t1 t2 t89 t110;  omega)) only [br, bg, bm, bo, bp, bn, bj, bl, ax, bad, if_pos, if_neg, wr] at u
             exact ⟨gi,
              zm [] (.i (.c 5) ce (.i (.len (.s 0)) cb .nil)) (zh hI hT) (zp hI hh) hI gp⟩
 ·have t111 := ca (f60 hR (.v 1) (.v 2) (.s 5) (.s 4))
  have u := av (Gv.σ 0) ((Gv.σ 1).headD 0) ((Gv.σ 2).headD 0) (Gv.σ 5) (Gv.σ 4)
  simp (disch := (clear t1 t111;  omega)) only [br, bg, bm, bo, bp, bn, bj, bl, ax, bad, if_pos, if_neg, wr] at u
  exact ⟨gi,
   zm [] (.i (.c 5) ce (.i (.len (.s 0)) cb .nil)) (zh hI hT) (zp hI hh) hI gp⟩
end Go.Ev
