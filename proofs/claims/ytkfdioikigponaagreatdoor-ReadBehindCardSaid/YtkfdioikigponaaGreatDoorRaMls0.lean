import Derived.Test.YtkfdioikigponaaGreatDoorRaL0
set_option maxRecDepth 100000
set_option linter.all false
namespace Go.Ev
abbrev cm : SE := .app 43 (.g (.s 0) (.i (.v 1) (.i (.c 0) .nil)))
abbrev ad1 : SE := .bin 0 .i64 cm (.c 0)
abbrev akb : SE := .rd (.s 0) ad1
abbrev rj : AL := .g (.s 0) (.i (.v 1) (.i (.v 2) (.i (.v 3) (.i (.c 0) (.i (.c 1) (.i (.c 0) (.g (.s 5) (.g (.s 4) .nil))))))))
abbrev sa : GE := .app 66 rj
abbrev yv : SE := .bin 0 .i64 cm (.c 1)
abbrev ai0 : SE := .app 69 rj
abbrev ajv : SE := .app 67 rj
abbrev aj3 : SE := .app 68 rj
abbrev afy : GE := .app 65 rj
abbrev aez : SE := .app 53 (.g sa .nil)
abbrev ae3 : SE := .rd (.s 0) yv
abbrev vp : AL := .g (.s 0) (.i cm (.i (.v 2) (.g (.s 5) (.g (.s 4) .nil))))
abbrev mq : SE := .app 60 vp
abbrev ie : SE := .bin 6 .i64 (.bin 7 .i64 (.c 2) (.bin 6 .i64 (.len (.s 0)) (.bin 7 .i64 (.c (-1)) cm))) (.c 1)
abbrev jx : SE := .bin 6 .i64 (.bin 7 .i64 (.c 2) (.bin 6 .i64 (.len (.s 0)) (.bin 7 .i64 (.c (-1)) (.v 1)))) (.c 2)
abbrev o0 : SE := .app 65 rj
abbrev zd : SE := .app 61 vp
abbrev pd : SE := .app 66 rj
abbrev jy : SE := .app 64 vp
abbrev af5 : GE := .app 60 vp
abbrev afz : GE := .app 61 vp
abbrev o9 : AL := .g (.s 0) (.i jy (.i (.v 2) (.i (.v 3) (.i (.c 1) (.i (.c 1) (.i (.c 0) (.g af5 (.g afz .nil))))))))
abbrev aai : SE := .app 65 o9
abbrev mr : SE := .bin 6 .i64 (.bin 7 .i64 (.c 2) (.bin 6 .i64 (.len (.s 0)) (.bin 7 .i64 (.c (-1)) jy))) (.c 2)
abbrev wc : GE := .app 66 o9
abbrev aqm : SE := .app 69 o9
abbrev aqq : SE := .app 67 o9
abbrev aon : SE := .app 68 o9
abbrev ao9 : GE := .app 65 o9
abbrev ard : SE := .app 53 (.g wc .nil)
abbrev aq0 : SE := .app 66 o9
set_option maxHeartbeats 100000000 in
theorem b9w [Gv] (hT : ∀ t ∈ [af8, aen, aeh, wn, xc, ais, aey, aev, aeq, aep, alb mG, ak9 mG], am t) (hh : ∀ t ∈ [bgo mG, bfs mG, bgp mG, bfa mG], au t) (hI : SAll Gv.σ [.mk false (.app 42 (.g (.s 0) .nil)) (.c 1) true, .mk true (.v 1) (.c 0) false, .mk true (.len (.s 0)) (.v 1) false, .mk true (.v 2) (.c 0) false, .mk true (.c 200) (.v 2) false, .mk true (.v 2) (.c 1) false]) : b7p := by
 obtain ⟨⟨hR, hp0, hpl, hL⟩, ho0, ho1⟩ := a5h hI
 have t1 := aq (bf1 (σ := Gv.σ) (.v 1))
 rcases asj hI ad1 (.len (.s 0)) with ⟨hI, k1⟩ | ⟨hI, k1⟩
 ·have hI := az hI ad1 (.c 0)
  have t2 := aq (qc hR ad1)
  have hI := az hI akb (.c 0)
  rcases ji hI akb (.c 41) with ⟨hI, k4⟩ | ⟨hI, k4⟩
  ·have t3 := aq (f65 hR (.v 1) (.v 2) (.v 3) (.c 0) (.c 1) (.c 0) (.s 5) (.s 4))
   have t4 := aq (f53 (σ := Gv.σ) (.s 4))
   have t5 := aq (f53 (σ := Gv.σ) sa)
   have u := l8 (ce (Gv.σ 0) ((Gv.σ 1).headD 0) ((Gv.σ 2).headD 0) ((Gv.σ 3).headD 0) 0 1 0 (Gv.σ 5) (Gv.σ 4))
   exact ⟨zt [(260, 266)] (.i yv ai0 (.i (.c 1) ajv (.i (.c 0) aj3 (.g (.s 5) afy (.i (.app 53 (.g (.s 4) .nil)) aez (.g (.s 4) sa .nil)))))) (zh hI hT) (zp hI hh) hI l6,
    l7⟩
  ·rcases ji hI akb (.c 46) with ⟨hI, k5⟩ | ⟨hI, k5⟩
   ·rcases asj hI yv (.len (.s 0)) with ⟨hI, k6⟩ | ⟨hI, k6⟩
    ·have hI := az hI yv (.c 0)
     have t6 := aq (qc hR yv)
     have hI := az hI ae3 (.c 0)
     have t7 := aq (b01 (σ := Gv.σ) ae3)
     rcases ji hI (.app 41 (.i ae3 .nil)) (.c 1) with ⟨hI, k9⟩ | ⟨hI, k9⟩
     ·have hI := az hI cm (.c 0)
      have hI := az hI (.len (.s 0)) cm
      have t8 := aq ((And.intro (f60 hR cm (.v 2) (.s 5) (.s 4)) (ala (σ := Gv.σ) cm (.v 2) (.s 5) (.s 4))))
      have hI := bi7 hI mq (.c 0)
      have hI := fo hI ie jx
      have hI := az hI ie (.c 0)
      have t9 := aq (f65 hR (.v 1) (.v 2) (.v 3) (.c 0) (.c 1) (.c 0) (.s 5) (.s 4))
      have t10 := aq (f60 hR cm (.v 2) (.s 5) (.s 4))
      have u := l8 (ce (Gv.σ 0) ((Gv.σ 1).headD 0) ((Gv.σ 2).headD 0) ((Gv.σ 3).headD 0) 0 1 0 (Gv.σ 5) (Gv.σ 4))
      exact ⟨l7,
       zt [] (.i mq o0 (.i zd pd .nil)) (zh hI hT) (zp hI hh) hI l6⟩
     ·have hI := az hI cm (.c 0)
      have hI := az hI (.len (.s 0)) cm
      have t11 := aq ((And.intro (f60 hR cm (.v 2) (.s 5) (.s 4)) (ala (σ := Gv.σ) cm (.v 2) (.s 5) (.s 4))))
      rcases ji hI mq (.c 0) with ⟨hI, k12⟩ | ⟨hI, k12⟩
      ·have hI := fo hI ie jx
       have hI := az hI ie (.c 0)
       have t12 := aq (f60 hR cm (.v 2) (.s 5) (.s 4))
       have hI := az hI jy (.c 0)
       have hI := az hI (.len (.s 0)) jy
       have hI := az hI jy (.c 1)
       have t13 := aq (f65 hR jy (.v 2) (.v 3) (.c 1) (.c 1) (.c 0) af5 afz)
       rcases ji hI aai (.c 0) with ⟨hI, k18⟩ | ⟨hI, k18⟩
       ·have hI := fo hI mr jx
        have hI := az hI mr (.c 0)
        have t14 := aq (f65 hR (.v 1) (.v 2) (.v 3) (.c 0) (.c 1) (.c 0) (.s 5) (.s 4))
        have t15 := aq (f53 (σ := Gv.σ) wc)
        have t16 := aq (f53 (σ := Gv.σ) sa)
        have u := l8 (ce (Gv.σ 0) ((Gv.σ 1).headD 0) ((Gv.σ 2).headD 0) ((Gv.σ 3).headD 0) 0 1 0 (Gv.σ 5) (Gv.σ 4))
        exact ⟨zt [(269, 266)] (.i aqm ai0 (.i aqq ajv (.i aon aj3 (.g ao9 afy (.i ard aez (.g wc sa .nil)))))) (zh hI hT) (zp hI hh) hI l6,
         l7⟩
       ·have hI := fo hI mr jx
        have hI := az hI mr (.c 0)
        have t17 := aq (f65 hR (.v 1) (.v 2) (.v 3) (.c 0) (.c 1) (.c 0) (.s 5) (.s 4))
        have u := l8 (ce (Gv.σ 0) ((Gv.σ 1).headD 0) ((Gv.σ 2).headD 0) ((Gv.σ 3).headD 0) 0 1 0 (Gv.σ 5) (Gv.σ 4))
        exact ⟨l7,
         zt [] (.i aai o0 (.i aq0 pd .nil)) (zh hI hT) (zp hI hh) hI l6⟩
      ·have hI := fo hI ie jx
       have hI := az hI ie (.c 0)
       have t18 := aq (f65 hR (.v 1) (.v 2) (.v 3) (.c 0) (.c 1) (.c 0) (.s 5) (.s 4))
       have t19 := aq (f60 hR cm (.v 2) (.s 5) (.s 4))
       have u := l8 (ce (Gv.σ 0) ((Gv.σ 1).headD 0) ((Gv.σ 2).headD 0) ((Gv.σ 3).headD 0) 0 1 0 (Gv.σ 5) (Gv.σ 4))
       exact ⟨l7,
        zt [] (.i mq o0 (.i zd pd .nil)) (zh hI hT) (zp hI hh) hI l6⟩
    ·have hI := az hI cm (.c 0)
     have hI := az hI (.len (.s 0)) cm
     have t20 := aq ((And.intro (f60 hR cm (.v 2) (.s 5) (.s 4)) (ala (σ := Gv.σ) cm (.v 2) (.s 5) (.s 4))))
     have hI := bi7 hI mq (.c 0)
     have hI := fo hI ie jx
     have hI := az hI ie (.c 0)
     have t21 := aq (f65 hR (.v 1) (.v 2) (.v 3) (.c 0) (.c 1) (.c 0) (.s 5) (.s 4))
     have t22 := aq (f60 hR cm (.v 2) (.s 5) (.s 4))
     have u := l8 (ce (Gv.σ 0) ((Gv.σ 1).headD 0) ((Gv.σ 2).headD 0) ((Gv.σ 3).headD 0) 0 1 0 (Gv.σ 5) (Gv.σ 4))
     exact ⟨l7,
      zt [] (.i mq o0 (.i zd pd .nil)) (zh hI hT) (zp hI hh) hI l6⟩
   ·have hI := az hI cm (.c 0)
    have hI := az hI (.len (.s 0)) cm
    have t23 := aq ((And.intro (f60 hR cm (.v 2) (.s 5) (.s 4)) (ala (σ := Gv.σ) cm (.v 2) (.s 5) (.s 4))))
    rcases ji hI mq (.c 0) with ⟨hI, k8⟩ | ⟨hI, k8⟩
    ·have hI := fo hI ie jx
     have hI := az hI ie (.c 0)
     have t24 := aq (f60 hR cm (.v 2) (.s 5) (.s 4))
     have hI := az hI jy (.c 0)
     have hI := az hI (.len (.s 0)) jy
     have hI := az hI jy (.c 1)
     have t25 := aq (f65 hR jy (.v 2) (.v 3) (.c 1) (.c 1) (.c 0) af5 afz)
     rcases ji hI aai (.c 0) with ⟨hI, k14⟩ | ⟨hI, k14⟩
     ·have hI := fo hI mr jx
      have hI := az hI mr (.c 0)
      have t26 := aq (f65 hR (.v 1) (.v 2) (.v 3) (.c 0) (.c 1) (.c 0) (.s 5) (.s 4))
      have t27 := aq (f53 (σ := Gv.σ) wc)
      have t28 := aq (f53 (σ := Gv.σ) sa)
      have u := l8 (ce (Gv.σ 0) ((Gv.σ 1).headD 0) ((Gv.σ 2).headD 0) ((Gv.σ 3).headD 0) 0 1 0 (Gv.σ 5) (Gv.σ 4))
      exact ⟨zt [(269, 266)] (.i aqm ai0 (.i aqq ajv (.i aon aj3 (.g ao9 afy (.i ard aez (.g wc sa .nil)))))) (zh hI hT) (zp hI hh) hI l6,
       l7⟩
     ·have hI := fo hI mr jx
      have hI := az hI mr (.c 0)
      have t29 := aq (f65 hR (.v 1) (.v 2) (.v 3) (.c 0) (.c 1) (.c 0) (.s 5) (.s 4))
      have u := l8 (ce (Gv.σ 0) ((Gv.σ 1).headD 0) ((Gv.σ 2).headD 0) ((Gv.σ 3).headD 0) 0 1 0 (Gv.σ 5) (Gv.σ 4))
      exact ⟨l7,
       zt [] (.i aai o0 (.i aq0 pd .nil)) (zh hI hT) (zp hI hh) hI l6⟩
    ·have hI := fo hI ie jx
     have hI := az hI ie (.c 0)
     have t30 := aq (f65 hR (.v 1) (.v 2) (.v 3) (.c 0) (.c 1) (.c 0) (.s 5) (.s 4))
     have t31 := aq (f60 hR cm (.v 2) (.s 5) (.s 4))
     have u := l8 (ce (Gv.σ 0) ((Gv.σ 1).headD 0) ((Gv.σ 2).headD 0) ((Gv.σ 3).headD 0) 0 1 0 (Gv.σ 5) (Gv.σ 4))
     exact ⟨l7,
      zt [] (.i mq o0 (.i zd pd .nil)) (zh hI hT) (zp hI hh) hI l6⟩
 ·have t32 := aq (f65 hR (.v 1) (.v 2) (.v 3) (.c 0) (.c 1) (.c 0) (.s 5) (.s 4))
  have u := l8 (ce (Gv.σ 0) ((Gv.σ 1).headD 0) ((Gv.σ 2).headD 0) ((Gv.σ 3).headD 0) 0 1 0 (Gv.σ 5) (Gv.σ 4))
  exact ⟨l7,
   zt [] (.i (.c 5) o0 (.i (.len (.s 0)) pd .nil)) (zh hI hT) (zp hI hh) hI l6⟩
end Go.Ev
