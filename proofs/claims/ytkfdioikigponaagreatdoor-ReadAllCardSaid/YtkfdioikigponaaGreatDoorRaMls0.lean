import Derived.Test.YtkfdioikigponaaGreatDoorRaL0
set_option maxRecDepth 100000
set_option linter.all false
namespace Go.Ev
abbrev co : SE := .app 43 (.g (.s 0) (.i (.v 1) (.i (.c 0) .nil)))
abbrev aeo : SE := .bin 0 .i64 co (.c 0)
abbrev akc : SE := .rd (.s 0) aeo
abbrev rc : AL := .g (.s 0) (.i (.v 1) (.i (.v 2) (.i (.v 3) (.i (.c 0) (.i (.c 1) (.i (.c 0) (.g (.s 5) (.g (.s 4) .nil))))))))
abbrev rr : GE := .app 66 rc
abbrev yr : SE := .bin 0 .i64 co (.c 1)
abbrev ajy : SE := .app 69 rc
abbrev ajq : SE := .app 67 rc
abbrev aj1 : SE := .app 68 rc
abbrev agk : GE := .app 65 rc
abbrev agm : SE := .app 53 (.g rr .nil)
abbrev afn : SE := .rd (.s 0) yr
abbrev vz : AL := .g (.s 0) (.i co (.i (.v 2) (.g (.s 5) (.g (.s 4) .nil))))
abbrev nc : SE := .app 60 vz
abbrev gz : SE := .bin 6 .i64 (.bin 7 .i64 (.c 2) (.bin 6 .i64 (.len (.s 0)) (.bin 7 .i64 (.c (-1)) co))) (.c 1)
abbrev jt : SE := .bin 6 .i64 (.bin 7 .i64 (.c 2) (.bin 6 .i64 (.len (.s 0)) (.bin 7 .i64 (.c (-1)) (.v 1)))) (.c 2)
abbrev o8 : SE := .app 65 rc
abbrev aaw : SE := .app 61 vz
abbrev ov : SE := .app 66 rc
abbrev js : SE := .app 64 vz
abbrev agh : GE := .app 60 vz
abbrev afu : GE := .app 61 vz
abbrev o0 : AL := .g (.s 0) (.i js (.i (.v 2) (.i (.v 3) (.i (.c 1) (.i (.c 1) (.i (.c 0) (.g agh (.g afu .nil))))))))
abbrev aaf : SE := .app 65 o0
abbrev m9 : SE := .bin 6 .i64 (.bin 7 .i64 (.c 2) (.bin 6 .i64 (.len (.s 0)) (.bin 7 .i64 (.c (-1)) js))) (.c 2)
abbrev wh : GE := .app 66 o0
abbrev apk : SE := .app 69 o0
abbrev asa : SE := .app 67 o0
abbrev asr : SE := .app 68 o0
abbrev aq3 : GE := .app 65 o0
abbrev aom : SE := .app 53 (.g wh .nil)
abbrev aou : SE := .app 66 o0
set_option maxHeartbeats 100000000 in
theorem b45 [Gv] (hT : ∀ t ∈ [acp, aey, ae4, wm, xf, aiu, afe, aff, ae6, ae8, aok mG, apq mG], ap t) (hh : ∀ t ∈ [bf1 mG, bhq mG, bg6 mG, bfh mG], ba t) (hI : SAll Gv.σ [.mk false (.app 42 (.g (.s 0) .nil)) (.c 1) true, .mk true (.v 1) (.c 0) false, .mk true (.len (.s 0)) (.v 1) false, .mk true (.v 2) (.c 0) false, .mk true (.c 200) (.v 2) false, .mk true (.v 2) (.c 1) false]) : b62 := by
 obtain ⟨⟨hR, hp0, hpl, hL⟩, ho0, ho1⟩ := a7h hI
 have t1 := au (bfr (σ := Gv.σ) (.v 1))
 rcases arb hI aeo (.len (.s 0)) with ⟨hI, k1⟩ | ⟨hI, k1⟩
 ·have hI := be hI aeo (.c 0)
  have t2 := au (pz hR aeo)
  have hI := be hI akc (.c 0)
  rcases jf hI akc (.c 41) with ⟨hI, k4⟩ | ⟨hI, k4⟩
  ·have t3 := au (f65 hR (.v 1) (.v 2) (.v 3) (.c 0) (.c 1) (.c 0) (.s 5) (.s 4))
   have t4 := au (f53 (σ := Gv.σ) (.s 4))
   have t5 := au (f53 (σ := Gv.σ) rr)
   have u := lz (c7 (Gv.σ 0) ((Gv.σ 1).headD 0) ((Gv.σ 2).headD 0) ((Gv.σ 3).headD 0) 0 1 0 (Gv.σ 5) (Gv.σ 4))
   exact ⟨zt [(260, 266)] (.i yr ajy (.i (.c 1) ajq (.i (.c 0) aj1 (.g (.s 5) agk (.i (.app 53 (.g (.s 4) .nil)) agm (.g (.s 4) rr .nil)))))) (zh hI hT) (zp hI hh) hI lv,
    l6⟩
  ·rcases jf hI akc (.c 46) with ⟨hI, k5⟩ | ⟨hI, k5⟩
   ·rcases arb hI yr (.len (.s 0)) with ⟨hI, k6⟩ | ⟨hI, k6⟩
    ·have hI := be hI yr (.c 0)
     have t6 := au (pz hR yr)
     have hI := be hI afn (.c 0)
     have t7 := au (b0t (σ := Gv.σ) afn)
     rcases jf hI (.app 41 (.i afn .nil)) (.c 1) with ⟨hI, k9⟩ | ⟨hI, k9⟩
     ·have hI := be hI co (.c 0)
      have hI := be hI (.len (.s 0)) co
      have t8 := au ((And.intro (f60 hR co (.v 2) (.s 5) (.s 4)) (ali (σ := Gv.σ) co (.v 2) (.s 5) (.s 4))))
      have hI := bn2 hI nc (.c 0)
      have hI := fu hI gz jt
      have hI := be hI gz (.c 0)
      have t9 := au (f65 hR (.v 1) (.v 2) (.v 3) (.c 0) (.c 1) (.c 0) (.s 5) (.s 4))
      have t10 := au (f60 hR co (.v 2) (.s 5) (.s 4))
      have u := lz (c7 (Gv.σ 0) ((Gv.σ 1).headD 0) ((Gv.σ 2).headD 0) ((Gv.σ 3).headD 0) 0 1 0 (Gv.σ 5) (Gv.σ 4))
      exact ⟨l6,
       zt [] (.i nc o8 (.i aaw ov .nil)) (zh hI hT) (zp hI hh) hI lv⟩
     ·have hI := be hI co (.c 0)
      have hI := be hI (.len (.s 0)) co
      have t11 := au ((And.intro (f60 hR co (.v 2) (.s 5) (.s 4)) (ali (σ := Gv.σ) co (.v 2) (.s 5) (.s 4))))
      rcases jf hI nc (.c 0) with ⟨hI, k12⟩ | ⟨hI, k12⟩
      ·have hI := fu hI gz jt
       have hI := be hI gz (.c 0)
       have t12 := au (f60 hR co (.v 2) (.s 5) (.s 4))
       have hI := be hI js (.c 0)
       have hI := be hI (.len (.s 0)) js
       have hI := be hI js (.c 1)
       have t13 := au (f65 hR js (.v 2) (.v 3) (.c 1) (.c 1) (.c 0) agh afu)
       rcases jf hI aaf (.c 0) with ⟨hI, k18⟩ | ⟨hI, k18⟩
       ·have hI := fu hI m9 jt
        have hI := be hI m9 (.c 0)
        have t14 := au (f65 hR (.v 1) (.v 2) (.v 3) (.c 0) (.c 1) (.c 0) (.s 5) (.s 4))
        have t15 := au (f53 (σ := Gv.σ) wh)
        have t16 := au (f53 (σ := Gv.σ) rr)
        have u := lz (c7 (Gv.σ 0) ((Gv.σ 1).headD 0) ((Gv.σ 2).headD 0) ((Gv.σ 3).headD 0) 0 1 0 (Gv.σ 5) (Gv.σ 4))
        exact ⟨zt [(269, 266)] (.i apk ajy (.i asa ajq (.i asr aj1 (.g aq3 agk (.i aom agm (.g wh rr .nil)))))) (zh hI hT) (zp hI hh) hI lv,
         l6⟩
       ·have hI := fu hI m9 jt
        have hI := be hI m9 (.c 0)
        have t17 := au (f65 hR (.v 1) (.v 2) (.v 3) (.c 0) (.c 1) (.c 0) (.s 5) (.s 4))
        have u := lz (c7 (Gv.σ 0) ((Gv.σ 1).headD 0) ((Gv.σ 2).headD 0) ((Gv.σ 3).headD 0) 0 1 0 (Gv.σ 5) (Gv.σ 4))
        exact ⟨l6,
         zt [] (.i aaf o8 (.i aou ov .nil)) (zh hI hT) (zp hI hh) hI lv⟩
      ·have hI := fu hI gz jt
       have hI := be hI gz (.c 0)
       have t18 := au (f65 hR (.v 1) (.v 2) (.v 3) (.c 0) (.c 1) (.c 0) (.s 5) (.s 4))
       have t19 := au (f60 hR co (.v 2) (.s 5) (.s 4))
       have u := lz (c7 (Gv.σ 0) ((Gv.σ 1).headD 0) ((Gv.σ 2).headD 0) ((Gv.σ 3).headD 0) 0 1 0 (Gv.σ 5) (Gv.σ 4))
       exact ⟨l6,
        zt [] (.i nc o8 (.i aaw ov .nil)) (zh hI hT) (zp hI hh) hI lv⟩
    ·have hI := be hI co (.c 0)
     have hI := be hI (.len (.s 0)) co
     have t20 := au ((And.intro (f60 hR co (.v 2) (.s 5) (.s 4)) (ali (σ := Gv.σ) co (.v 2) (.s 5) (.s 4))))
     have hI := bn2 hI nc (.c 0)
     have hI := fu hI gz jt
     have hI := be hI gz (.c 0)
     have t21 := au (f65 hR (.v 1) (.v 2) (.v 3) (.c 0) (.c 1) (.c 0) (.s 5) (.s 4))
     have t22 := au (f60 hR co (.v 2) (.s 5) (.s 4))
     have u := lz (c7 (Gv.σ 0) ((Gv.σ 1).headD 0) ((Gv.σ 2).headD 0) ((Gv.σ 3).headD 0) 0 1 0 (Gv.σ 5) (Gv.σ 4))
     exact ⟨l6,
      zt [] (.i nc o8 (.i aaw ov .nil)) (zh hI hT) (zp hI hh) hI lv⟩
   ·have hI := be hI co (.c 0)
    have hI := be hI (.len (.s 0)) co
    have t23 := au ((And.intro (f60 hR co (.v 2) (.s 5) (.s 4)) (ali (σ := Gv.σ) co (.v 2) (.s 5) (.s 4))))
    rcases jf hI nc (.c 0) with ⟨hI, k8⟩ | ⟨hI, k8⟩
    ·have hI := fu hI gz jt
     have hI := be hI gz (.c 0)
     have t24 := au (f60 hR co (.v 2) (.s 5) (.s 4))
     have hI := be hI js (.c 0)
     have hI := be hI (.len (.s 0)) js
     have hI := be hI js (.c 1)
     have t25 := au (f65 hR js (.v 2) (.v 3) (.c 1) (.c 1) (.c 0) agh afu)
     rcases jf hI aaf (.c 0) with ⟨hI, k14⟩ | ⟨hI, k14⟩
     ·have hI := fu hI m9 jt
      have hI := be hI m9 (.c 0)
      have t26 := au (f65 hR (.v 1) (.v 2) (.v 3) (.c 0) (.c 1) (.c 0) (.s 5) (.s 4))
      have t27 := au (f53 (σ := Gv.σ) wh)
      have t28 := au (f53 (σ := Gv.σ) rr)
      have u := lz (c7 (Gv.σ 0) ((Gv.σ 1).headD 0) ((Gv.σ 2).headD 0) ((Gv.σ 3).headD 0) 0 1 0 (Gv.σ 5) (Gv.σ 4))
      exact ⟨zt [(269, 266)] (.i apk ajy (.i asa ajq (.i asr aj1 (.g aq3 agk (.i aom agm (.g wh rr .nil)))))) (zh hI hT) (zp hI hh) hI lv,
       l6⟩
     ·have hI := fu hI m9 jt
      have hI := be hI m9 (.c 0)
      have t29 := au (f65 hR (.v 1) (.v 2) (.v 3) (.c 0) (.c 1) (.c 0) (.s 5) (.s 4))
      have u := lz (c7 (Gv.σ 0) ((Gv.σ 1).headD 0) ((Gv.σ 2).headD 0) ((Gv.σ 3).headD 0) 0 1 0 (Gv.σ 5) (Gv.σ 4))
      exact ⟨l6,
       zt [] (.i aaf o8 (.i aou ov .nil)) (zh hI hT) (zp hI hh) hI lv⟩
    ·have hI := fu hI gz jt
     have hI := be hI gz (.c 0)
     have t30 := au (f65 hR (.v 1) (.v 2) (.v 3) (.c 0) (.c 1) (.c 0) (.s 5) (.s 4))
     have t31 := au (f60 hR co (.v 2) (.s 5) (.s 4))
     have u := lz (c7 (Gv.σ 0) ((Gv.σ 1).headD 0) ((Gv.σ 2).headD 0) ((Gv.σ 3).headD 0) 0 1 0 (Gv.σ 5) (Gv.σ 4))
     exact ⟨l6,
      zt [] (.i nc o8 (.i aaw ov .nil)) (zh hI hT) (zp hI hh) hI lv⟩
 ·have t32 := au (f65 hR (.v 1) (.v 2) (.v 3) (.c 0) (.c 1) (.c 0) (.s 5) (.s 4))
  have u := lz (c7 (Gv.σ 0) ((Gv.σ 1).headD 0) ((Gv.σ 2).headD 0) ((Gv.σ 3).headD 0) 0 1 0 (Gv.σ 5) (Gv.σ 4))
  exact ⟨l6,
   zt [] (.i (.c 5) o8 (.i (.len (.s 0)) ov .nil)) (zh hI hT) (zp hI hh) hI lv⟩
end Go.Ev
