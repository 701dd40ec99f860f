import Derived.Test.YtkfdioikigponaaGreatDoorRaL0
set_option maxRecDepth 100000
set_option linter.all false
namespace Go.Ev
abbrev fq : SE := .app 43 (.g (.s 0) (.i (.v 1) (.i (.c 0) .nil)))
abbrev ad7 : SE := .bin 0 .i64 fq (.c 0)
abbrev ako : SE := .rd (.s 0) ad7
abbrev ad8 : AL := .i (.v 6) (.g (.s 5) (.i (.v 7) (.i (.v 8) .nil)))
abbrev rn : AL := .g (.s 0) (.i (.v 1) (.i (.v 2) (.i (.v 3) (.i (.v 6) (.i (.v 7) (.i (.v 8) (.g (.s 5) (.g (.s 4) .nil))))))))
abbrev nj : GE := .app 66 rn
abbrev eo : SE := .bin 0 .i64 fq (.c 1)
abbrev ad3 : SE := .app 69 rn
abbrev aeh : SE := .app 67 rn
abbrev abc : SE := .app 68 rn
abbrev aai : GE := .app 65 rn
abbrev aao : SE := .app 53 (.g nj .nil)
abbrev iv : SE := .app 65 rn
abbrev ip : SE := .app 66 rn
abbrev agp : SE := .rd (.s 0) eo
abbrev ar5 : AL := .i (.v 2) (.g (.s 5) (.g (.s 4) .nil))
abbrev pe : AL := .g (.s 0) (.i eo ar5)
abbrev aa2 : SE := .app 60 pe
abbrev rv : SE := .bin 6 .i64 (.bin 7 .i64 (.c 2) (.bin 6 .i64 (.len (.s 0)) (.bin 7 .i64 (.c (-1)) eo))) (.c 1)
abbrev ga : SE := .bin 6 .i64 (.bin 7 .i64 (.c 2) (.bin 6 .i64 (.len (.s 0)) (.bin 7 .i64 (.c (-1)) (.v 1)))) (.c 2)
abbrev aaz : SE := .app 64 pe
abbrev ke : SE := .app 43 (.g (.s 0) (.i aaz (.i (.c 0) .nil)))
abbrev zc : SE := .bin 0 .i64 ke (.c 0)
abbrev asc : SE := .app 62 pe
abbrev aqo : SE := .app 63 pe
abbrev ass : GE := .app 60 pe
abbrev apz : GE := .app 61 pe
abbrev pa : AL := .g (.s 0) (.i ke (.i (.v 2) (.i (.v 3) (.i (.v 6) (.i asc (.i aqo (.g ass (.g apz .nil))))))))
abbrev apu : SE := .app 65 pa
abbrev aa8 : SE := .bin 6 .i64 (.bin 7 .i64 (.c 2) (.bin 6 .i64 (.len (.s 0)) (.bin 7 .i64 (.c (-1)) ke))) (.c 2)
abbrev aft : GE := .app 66 pa
abbrev ap0 : SE := .app 61 pe
abbrev vu : AL := .g (.s 0) (.i fq ar5)
abbrev abe : SE := .app 60 vu
abbrev mw : SE := .bin 6 .i64 (.bin 7 .i64 (.c 2) (.bin 6 .i64 (.len (.s 0)) (.bin 7 .i64 (.c (-1)) fq))) (.c 1)
abbrev ko : SE := .bin 6 .i64 (.v 6) (.c 1)
abbrev jv : SE := .app 64 vu
abbrev afv : GE := .app 60 vu
abbrev aga : GE := .app 61 vu
abbrev ou : AL := .g (.s 0) (.i jv (.i (.v 2) (.i (.v 3) (.i ko (.i (.v 7) (.i (.v 8) (.g afv (.g aga .nil))))))))
abbrev aah : SE := .app 65 ou
abbrev m0 : SE := .bin 6 .i64 (.bin 7 .i64 (.c 2) (.bin 6 .i64 (.len (.s 0)) (.bin 7 .i64 (.c (-1)) jv))) (.c 2)
abbrev vt : GE := .app 66 ou
abbrev aqj : SE := .app 69 ou
abbrev ao1 : SE := .app 67 ou
abbrev apc : SE := .app 68 ou
abbrev ark : GE := .app 65 ou
abbrev apm : SE := .app 53 (.g vt .nil)
abbrev aq1 : SE := .app 66 ou
abbrev aoq : SE := .app 61 vu
set_option maxHeartbeats 100000000 in
theorem b4m [Gv] (hT : ∀ t ∈ [acp, aey, ae4, wm, xf, aiu, afe, aff, ae6, ae8, aok mG, apq mG], ap t) (hh : ∀ t ∈ [bf1 mG, bhq mG, bg6 mG, bfh mG], ba t) (hI : SAll Gv.σ [.mk false (.app 42 (.g (.s 0) .nil)) (.c 1) true, .mk true (.v 1) (.c 0) false, .mk true (.len (.s 0)) (.v 1) false, .mk true (.v 2) (.c 0) false, .mk true (.c 200) (.v 2) false, .mk true (.v 2) (.c 1) false, .mk true (.v 6) (.c 1) false, .mk true (.v 1) (.v 6) false]) : b72 := by
 obtain ⟨⟨hR, hp0, hpl, hL⟩, ⟨ho0, ho1⟩, h61, h62⟩ := a5w hI
 have t1 := au (bfr (σ := Gv.σ) (.v 1))
 rcases arb hI ad7 (.len (.s 0)) with ⟨hI, k1⟩ | ⟨hI, k1⟩
 ·have hI := be hI ad7 (.c 0)
  have t2 := au (pz hR ad7)
  have hI := be hI ako (.c 0)
  rcases jf hI ako (.c 41) with ⟨hI, k4⟩ | ⟨hI, k4⟩
  ·have hI := be hI (.c 20000) (.v 6)
   have t3 := au (f74 (σ := Gv.σ) (.v 6) (.v 7) (.v 8) (.s 5))
   rcases jf hI (.app 74 ad8) (.c 0) with ⟨hI, k6⟩ | ⟨hI, k6⟩
   ·have t4 := au (f65 hR (.v 1) (.v 2) (.v 3) (.v 6) (.v 7) (.v 8) (.s 5) (.s 4))
    have t5 := au (f53 (σ := Gv.σ) (.s 4))
    have t6 := au (f53 (σ := Gv.σ) nj)
    have u := lz (c7 (Gv.σ 0) ((Gv.σ 1).headD 0) ((Gv.σ 2).headD 0) ((Gv.σ 3).headD 0) ((Gv.σ 6).headD 0) ((Gv.σ 7).headD 0) ((Gv.σ 8).headD 0) (Gv.σ 5) (Gv.σ 4))
    exact ⟨zt [(260, 266)] (.i eo ad3 (.i (.app 75 ad8) aeh (.i (.app 76 ad8) abc (.g (.app 74 ad8) aai (.i (.app 53 (.g (.s 4) .nil)) aao (.g (.s 4) nj .nil)))))) (zh hI hT) (zp hI hh) hI lv,
     l6⟩
   ·have t7 := au (f65 hR (.v 1) (.v 2) (.v 3) (.v 6) (.v 7) (.v 8) (.s 5) (.s 4))
    have u := lz (c7 (Gv.σ 0) ((Gv.σ 1).headD 0) ((Gv.σ 2).headD 0) ((Gv.σ 3).headD 0) ((Gv.σ 6).headD 0) ((Gv.σ 7).headD 0) ((Gv.σ 8).headD 0) (Gv.σ 5) (Gv.σ 4))
    exact ⟨l6,
     zt [] (.i (.c 7) iv (.i (.v 3) ip .nil)) (zh hI hT) (zp hI hh) hI lv⟩
  ·rcases jf hI ako (.c 46) with ⟨hI, k5⟩ | ⟨hI, k5⟩
   ·rcases arb hI eo (.len (.s 0)) with ⟨hI, k6⟩ | ⟨hI, k6⟩
    ·have hI := be hI eo (.c 0)
     have t8 := au (pz hR eo)
     have hI := be hI agp (.c 0)
     have t9 := au (b0t (σ := Gv.σ) agp)
     rcases jf hI (.app 41 (.i agp .nil)) (.c 1) with ⟨hI, k9⟩ | ⟨hI, k9⟩
     ·have hI := fu hI (.c 0) (.v 6)
      have hI := be hI (.len (.s 0)) eo
      have t10 := au ((And.intro (f60 hR eo (.v 2) (.s 5) (.s 4)) (ali (σ := Gv.σ) eo (.v 2) (.s 5) (.s 4))))
      rcases jf hI aa2 (.c 0) with ⟨hI, k12⟩ | ⟨hI, k12⟩
      ·have hI := fu hI rv ga
       have hI := be hI rv (.c 0)
       have t11 := au (f60 hR eo (.v 2) (.s 5) (.s 4))
       have hI := be hI aaz (.c 0)
       have hI := be hI (.len (.s 0)) aaz
       have t12 := au (bfr (σ := Gv.σ) aaz)
       rcases arb hI zc (.len (.s 0)) with ⟨hI, k17⟩ | ⟨hI, k17⟩
       ·have hI := be hI zc (.c 0)
        have t13 := au (pz hR zc)
        rcases jf hI (.rd (.s 0) zc) (.c 41) with ⟨hI, k19⟩ | ⟨hI, k19⟩
        ·have hI := be hI ke (.c 0)
         have hI := be hI (.len (.s 0)) ke
         have hI := be hI ke (.v 6)
         have t14 := au (f65 hR ke (.v 2) (.v 3) (.v 6) asc aqo ass apz)
         rcases jf hI apu (.c 0) with ⟨hI, k23⟩ | ⟨hI, k23⟩
         ·have hI := fu hI aa8 ga
          have hI := be hI aa8 (.c 0)
          have t15 := au (f65 hR (.v 1) (.v 2) (.v 3) (.v 6) (.v 7) (.v 8) (.s 5) (.s 4))
          have t16 := au (f53 (σ := Gv.σ) aft)
          have t17 := au (f53 (σ := Gv.σ) nj)
          have u := lz (c7 (Gv.σ 0) ((Gv.σ 1).headD 0) ((Gv.σ 2).headD 0) ((Gv.σ 3).headD 0) ((Gv.σ 6).headD 0) ((Gv.σ 7).headD 0) ((Gv.σ 8).headD 0) (Gv.σ 5) (Gv.σ 4))
          exact ⟨zt [(267, 266)] (.i (.app 69 pa) ad3 (.i (.app 67 pa) aeh (.i (.app 68 pa) abc (.g (.app 65 pa) aai (.i (.app 53 (.g aft .nil)) aao (.g aft nj .nil)))))) (zh hI hT) (zp hI hh) hI lv,
           l6⟩
         ·have hI := fu hI aa8 ga
          have hI := be hI aa8 (.c 0)
          have t18 := au (f65 hR (.v 1) (.v 2) (.v 3) (.v 6) (.v 7) (.v 8) (.s 5) (.s 4))
          have u := lz (c7 (Gv.σ 0) ((Gv.σ 1).headD 0) ((Gv.σ 2).headD 0) ((Gv.σ 3).headD 0) ((Gv.σ 6).headD 0) ((Gv.σ 7).headD 0) ((Gv.σ 8).headD 0) (Gv.σ 5) (Gv.σ 4))
          exact ⟨l6,
           zt [] (.i apu iv (.i (.app 66 pa) ip .nil)) (zh hI hT) (zp hI hh) hI lv⟩
        ·have t19 := au (f65 hR (.v 1) (.v 2) (.v 3) (.v 6) (.v 7) (.v 8) (.s 5) (.s 4))
         have u := lz (c7 (Gv.σ 0) ((Gv.σ 1).headD 0) ((Gv.σ 2).headD 0) ((Gv.σ 3).headD 0) ((Gv.σ 6).headD 0) ((Gv.σ 7).headD 0) ((Gv.σ 8).headD 0) (Gv.σ 5) (Gv.σ 4))
         exact ⟨l6,
          zt [] (.i (.c 5) iv (.i ke ip .nil)) (zh hI hT) (zp hI hh) hI lv⟩
       ·have t20 := au (f65 hR (.v 1) (.v 2) (.v 3) (.v 6) (.v 7) (.v 8) (.s 5) (.s 4))
        have u := lz (c7 (Gv.σ 0) ((Gv.σ 1).headD 0) ((Gv.σ 2).headD 0) ((Gv.σ 3).headD 0) ((Gv.σ 6).headD 0) ((Gv.σ 7).headD 0) ((Gv.σ 8).headD 0) (Gv.σ 5) (Gv.σ 4))
        exact ⟨l6,
         zt [] (.i (.c 5) iv (.i ke ip .nil)) (zh hI hT) (zp hI hh) hI lv⟩
      ·have hI := fu hI rv ga
       have hI := be hI rv (.c 0)
       have t21 := au (f65 hR (.v 1) (.v 2) (.v 3) (.v 6) (.v 7) (.v 8) (.s 5) (.s 4))
       have t22 := au (f60 hR eo (.v 2) (.s 5) (.s 4))
       have u := lz (c7 (Gv.σ 0) ((Gv.σ 1).headD 0) ((Gv.σ 2).headD 0) ((Gv.σ 3).headD 0) ((Gv.σ 6).headD 0) ((Gv.σ 7).headD 0) ((Gv.σ 8).headD 0) (Gv.σ 5) (Gv.σ 4))
       exact ⟨l6,
        zt [] (.i aa2 iv (.i ap0 ip .nil)) (zh hI hT) (zp hI hh) hI lv⟩
     ·have hI := be hI fq (.c 0)
      have hI := be hI (.len (.s 0)) fq
      have t23 := au ((And.intro (f60 hR fq (.v 2) (.s 5) (.s 4)) (ali (σ := Gv.σ) fq (.v 2) (.s 5) (.s 4))))
      rcases jf hI abe (.c 0) with ⟨hI, k12⟩ | ⟨hI, k12⟩
      ·have hI := fu hI mw ga
       have hI := be hI mw (.c 0)
       have hI := be hI (.c 60000) ko
       have t24 := au (f60 hR fq (.v 2) (.s 5) (.s 4))
       have hI := be hI jv (.c 0)
       have hI := be hI (.len (.s 0)) jv
       have hI := be hI ko (.c 1)
       have hI := be hI jv ko
       have t25 := au (f65 hR jv (.v 2) (.v 3) ko (.v 7) (.v 8) afv aga)
       rcases jf hI aah (.c 0) with ⟨hI, k20⟩ | ⟨hI, k20⟩
       ·have hI := fu hI m0 ga
        have hI := be hI m0 (.c 0)
        have t26 := au (f65 hR (.v 1) (.v 2) (.v 3) (.v 6) (.v 7) (.v 8) (.s 5) (.s 4))
        have t27 := au (f53 (σ := Gv.σ) vt)
        have t28 := au (f53 (σ := Gv.σ) nj)
        have u := lz (c7 (Gv.σ 0) ((Gv.σ 1).headD 0) ((Gv.σ 2).headD 0) ((Gv.σ 3).headD 0) ((Gv.σ 6).headD 0) ((Gv.σ 7).headD 0) ((Gv.σ 8).headD 0) (Gv.σ 5) (Gv.σ 4))
        exact ⟨zt [(269, 266)] (.i aqj ad3 (.i ao1 aeh (.i apc abc (.g ark aai (.i apm aao (.g vt nj .nil)))))) (zh hI hT) (zp hI hh) hI lv,
         l6⟩
       ·have hI := fu hI m0 ga
        have hI := be hI m0 (.c 0)
        have t29 := au (f65 hR (.v 1) (.v 2) (.v 3) (.v 6) (.v 7) (.v 8) (.s 5) (.s 4))
        have u := lz (c7 (Gv.σ 0) ((Gv.σ 1).headD 0) ((Gv.σ 2).headD 0) ((Gv.σ 3).headD 0) ((Gv.σ 6).headD 0) ((Gv.σ 7).headD 0) ((Gv.σ 8).headD 0) (Gv.σ 5) (Gv.σ 4))
        exact ⟨l6,
         zt [] (.i aah iv (.i aq1 ip .nil)) (zh hI hT) (zp hI hh) hI lv⟩
      ·have hI := fu hI mw ga
       have hI := be hI mw (.c 0)
       have t30 := au (f65 hR (.v 1) (.v 2) (.v 3) (.v 6) (.v 7) (.v 8) (.s 5) (.s 4))
       have t31 := au (f60 hR fq (.v 2) (.s 5) (.s 4))
       have u := lz (c7 (Gv.σ 0) ((Gv.σ 1).headD 0) ((Gv.σ 2).headD 0) ((Gv.σ 3).headD 0) ((Gv.σ 6).headD 0) ((Gv.σ 7).headD 0) ((Gv.σ 8).headD 0) (Gv.σ 5) (Gv.σ 4))
       exact ⟨l6,
        zt [] (.i abe iv (.i aoq ip .nil)) (zh hI hT) (zp hI hh) hI lv⟩
    ·have hI := fu hI (.c 0) (.v 6)
     have hI := be hI eo (.c 0)
     have hI := be hI (.len (.s 0)) eo
     have t32 := au ((And.intro (f60 hR eo (.v 2) (.s 5) (.s 4)) (ali (σ := Gv.σ) eo (.v 2) (.s 5) (.s 4))))
     have hI := bn2 hI aa2 (.c 0)
     have hI := fu hI rv ga
     have hI := be hI rv (.c 0)
     have t33 := au (f65 hR (.v 1) (.v 2) (.v 3) (.v 6) (.v 7) (.v 8) (.s 5) (.s 4))
     have t34 := au (f60 hR eo (.v 2) (.s 5) (.s 4))
     have u := lz (c7 (Gv.σ 0) ((Gv.σ 1).headD 0) ((Gv.σ 2).headD 0) ((Gv.σ 3).headD 0) ((Gv.σ 6).headD 0) ((Gv.σ 7).headD 0) ((Gv.σ 8).headD 0) (Gv.σ 5) (Gv.σ 4))
     exact ⟨l6,
      zt [] (.i aa2 iv (.i ap0 ip .nil)) (zh hI hT) (zp hI hh) hI lv⟩
   ·have hI := be hI fq (.c 0)
    have hI := be hI (.len (.s 0)) fq
    have t35 := au ((And.intro (f60 hR fq (.v 2) (.s 5) (.s 4)) (ali (σ := Gv.σ) fq (.v 2) (.s 5) (.s 4))))
    rcases jf hI abe (.c 0) with ⟨hI, k8⟩ | ⟨hI, k8⟩
    ·have hI := fu hI mw ga
     have hI := be hI mw (.c 0)
     have hI := be hI (.c 60000) ko
     have t36 := au (f60 hR fq (.v 2) (.s 5) (.s 4))
     have hI := be hI jv (.c 0)
     have hI := be hI (.len (.s 0)) jv
     have hI := be hI ko (.c 1)
     have hI := be hI jv ko
     have t37 := au (f65 hR jv (.v 2) (.v 3) ko (.v 7) (.v 8) afv aga)
     rcases jf hI aah (.c 0) with ⟨hI, k16⟩ | ⟨hI, k16⟩
     ·have hI := fu hI m0 ga
      have hI := be hI m0 (.c 0)
      have t38 := au (f65 hR (.v 1) (.v 2) (.v 3) (.v 6) (.v 7) (.v 8) (.s 5) (.s 4))
      have t39 := au (f53 (σ := Gv.σ) vt)
      have t40 := au (f53 (σ := Gv.σ) nj)
      have u := lz (c7 (Gv.σ 0) ((Gv.σ 1).headD 0) ((Gv.σ 2).headD 0) ((Gv.σ 3).headD 0) ((Gv.σ 6).headD 0) ((Gv.σ 7).headD 0) ((Gv.σ 8).headD 0) (Gv.σ 5) (Gv.σ 4))
      exact ⟨zt [(269, 266)] (.i aqj ad3 (.i ao1 aeh (.i apc abc (.g ark aai (.i apm aao (.g vt nj .nil)))))) (zh hI hT) (zp hI hh) hI lv,
       l6⟩
     ·have hI := fu hI m0 ga
      have hI := be hI m0 (.c 0)
      have t41 := au (f65 hR (.v 1) (.v 2) (.v 3) (.v 6) (.v 7) (.v 8) (.s 5) (.s 4))
      have u := lz (c7 (Gv.σ 0) ((Gv.σ 1).headD 0) ((Gv.σ 2).headD 0) ((Gv.σ 3).headD 0) ((Gv.σ 6).headD 0) ((Gv.σ 7).headD 0) ((Gv.σ 8).headD 0) (Gv.σ 5) (Gv.σ 4))
      exact ⟨l6,
       zt [] (.i aah iv (.i aq1 ip .nil)) (zh hI hT) (zp hI hh) hI lv⟩
    ·have hI := fu hI mw ga
     have hI := be hI mw (.c 0)
     have t42 := au (f65 hR (.v 1) (.v 2) (.v 3) (.v 6) (.v 7) (.v 8) (.s 5) (.s 4))
     have t43 := au (f60 hR fq (.v 2) (.s 5) (.s 4))
     have u := lz (c7 (Gv.σ 0) ((Gv.σ 1).headD 0) ((Gv.σ 2).headD 0) ((Gv.σ 3).headD 0) ((Gv.σ 6).headD 0) ((Gv.σ 7).headD 0) ((Gv.σ 8).headD 0) (Gv.σ 5) (Gv.σ 4))
     exact ⟨l6,
      zt [] (.i abe iv (.i aoq ip .nil)) (zh hI hT) (zp hI hh) hI lv⟩
 ·have t44 := au (f65 hR (.v 1) (.v 2) (.v 3) (.v 6) (.v 7) (.v 8) (.s 5) (.s 4))
  have u := lz (c7 (Gv.σ 0) ((Gv.σ 1).headD 0) ((Gv.σ 2).headD 0) ((Gv.σ 3).headD 0) ((Gv.σ 6).headD 0) ((Gv.σ 7).headD 0) ((Gv.σ 8).headD 0) (Gv.σ 5) (Gv.σ 4))
  exact ⟨l6,
   zt [] (.i (.c 5) iv (.i (.len (.s 0)) ip .nil)) (zh hI hT) (zp hI hh) hI lv⟩
end Go.Ev
