import Derived.Test.YtkfdioikigponaaGreatDoorRaL0
set_option maxRecDepth 100000
set_option linter.all false
namespace Go.Ev
abbrev fy : SE := .app 43 (.g (.s 0) (.i (.v 1) (.i (.c 0) .nil)))
abbrev ad2 : SE := .bin 0 .i64 fy (.c 0)
abbrev asz : SE := .app 58 (.g (.s 5) (.i (.v 6) .nil))
abbrev ut : AL := .g (.s 0) (.i (.v 1) (.i (.v 2) (.i (.v 3) (.i (.v 6) (.g (.s 5) (.g (.s 4) .nil))))))
abbrev x9 : GE := .app 71 ut
abbrev att : SE := .app 73 ut
abbrev at4 : SE := .app 72 ut
abbrev ati : GE := .app 70 ut
abbrev atm : SE := .app 53 (.g x9 .nil)
abbrev y3 : SE := .app 70 ut
abbrev zb : SE := .app 71 ut
abbrev ve : AL := .g (.s 0) (.i fy (.i (.v 2) (.g (.s 5) (.g (.s 4) .nil))))
abbrev aal : SE := .app 60 ve
abbrev sb : SE := .bin 6 .i64 (.bin 7 .i64 (.c 2) (.bin 6 .i64 (.len (.s 0)) (.bin 7 .i64 (.c (-1)) fy))) (.c 1)
abbrev vt : SE := .bin 6 .i64 (.bin 7 .i64 (.c 2) (.bin 6 .i64 (.len (.s 0)) (.bin 7 .i64 (.c (-1)) (.v 1)))) (.c 2)
abbrev vd : SE := .bin 6 .i64 (.v 6) (.c 1)
abbrev rc : SE := .app 64 ve
abbrev apc : GE := .app 60 ve
abbrev aoa : GE := .app 61 ve
abbrev sd : AL := .g (.s 0) (.i rc (.i (.v 2) (.i (.v 3) (.i vd (.g apc (.g aoa .nil))))))
abbrev aqo : SE := .app 70 sd
abbrev aan : SE := .bin 6 .i64 (.bin 7 .i64 (.c 2) (.bin 6 .i64 (.len (.s 0)) (.bin 7 .i64 (.c (-1)) rc))) (.c 2)
abbrev afw : GE := .app 71 sd
abbrev ar4 : SE := .app 61 ve
set_option maxHeartbeats 100000000 in
theorem b61 [Gv] (hT : ∀ t ∈ [af8, aen, aeh, wn, xc, ais, aey, aev, aeq, aep, alb mG, ak9 mG], am t) (hh : ∀ t ∈ [bgo mG, bfs mG, bgp mG, bfa mG], au t) (hI : SAll Gv.σ [.mk false (.app 42 (.g (.s 0) .nil)) (.c 1) true, .mk true (.v 1) (.c 0) false, .mk true (.len (.s 0)) (.v 1) false, .mk true (.v 2) (.c 0) false, .mk true (.c 200) (.v 2) false, .mk true (.v 2) (.c 1) false, .mk true (.v 6) (.c 1) false, .mk true (.v 1) (.v 6) false]) : b7s := by
 obtain ⟨⟨hR, hp0, hpl, hL⟩, ⟨ho0, ho1⟩, h61, h62⟩ := a6m hI
 have t1 := aq (bf1 (σ := Gv.σ) (.v 1))
 rcases asj hI ad2 (.len (.s 0)) with ⟨hI, k1⟩ | ⟨hI, k1⟩
 ·have hI := az hI ad2 (.c 0)
  have t2 := aq (qc hR ad2)
  rcases ji hI (.rd (.s 0) ad2) (.c 93) with ⟨hI, k3⟩ | ⟨hI, k3⟩
  ·have hI := az hI (.c 20000) (.v 6)
   have t3 := aq (f58 (σ := Gv.σ) (.s 5) (.v 6))
   rcases ji hI asz (.c 0) with ⟨hI, k5⟩ | ⟨hI, k5⟩
   ·have t4 := aq (f70 hR (.v 1) (.v 2) (.v 3) (.v 6) (.s 5) (.s 4))
    have t5 := aq (f53 (σ := Gv.σ) (.s 4))
    have t6 := aq (f53 (σ := Gv.σ) x9)
    have u := l8 (ga (Gv.σ 0) ((Gv.σ 1).headD 0) ((Gv.σ 2).headD 0) ((Gv.σ 3).headD 0) ((Gv.σ 6).headD 0) (Gv.σ 5) (Gv.σ 4))
    exact ⟨zt [(260, 266)] (.i (.bin 0 .i64 fy (.c 1)) att (.i (.rd (.s 5) (.c 1)) at4 (.g (.app 58 (.g (.s 5) (.i (.v 6) .nil))) ati (.i (.app 53 (.g (.s 4) .nil)) atm (.g (.s 4) x9 .nil))))) (zh hI hT) (zp hI hh) hI l6,
     l7⟩
   ·have t7 := aq (f70 hR (.v 1) (.v 2) (.v 3) (.v 6) (.s 5) (.s 4))
    have u := l8 (ga (Gv.σ 0) ((Gv.σ 1).headD 0) ((Gv.σ 2).headD 0) ((Gv.σ 3).headD 0) ((Gv.σ 6).headD 0) (Gv.σ 5) (Gv.σ 4))
    exact ⟨l7,
     zt [] (.i asz y3 (.i (.v 3) zb .nil)) (zh hI hT) (zp hI hh) hI l6⟩
  ·have hI := az hI fy (.c 0)
   have hI := az hI (.len (.s 0)) fy
   have t8 := aq ((And.intro (f60 hR fy (.v 2) (.s 5) (.s 4)) (ala (σ := Gv.σ) fy (.v 2) (.s 5) (.s 4))))
   rcases ji hI aal (.c 0) with ⟨hI, k6⟩ | ⟨hI, k6⟩
   ·have hI := fo hI sb vt
    have hI := az hI sb (.c 0)
    have hI := az hI (.c 60000) vd
    have t9 := aq (f60 hR fy (.v 2) (.s 5) (.s 4))
    have hI := az hI rc (.c 0)
    have hI := az hI (.len (.s 0)) rc
    have hI := az hI vd (.c 1)
    have hI := az hI rc vd
    have t10 := aq (f70 hR rc (.v 2) (.v 3) vd apc aoa)
    rcases ji hI aqo (.c 0) with ⟨hI, k14⟩ | ⟨hI, k14⟩
    ·have hI := fo hI aan vt
     have hI := az hI aan (.c 0)
     have t11 := aq (f70 hR (.v 1) (.v 2) (.v 3) (.v 6) (.s 5) (.s 4))
     have t12 := aq (f53 (σ := Gv.σ) afw)
     have t13 := aq (f53 (σ := Gv.σ) x9)
     have u := l8 (ga (Gv.σ 0) ((Gv.σ 1).headD 0) ((Gv.σ 2).headD 0) ((Gv.σ 3).headD 0) ((Gv.σ 6).headD 0) (Gv.σ 5) (Gv.σ 4))
     exact ⟨zt [(269, 266)] (.i (.app 73 sd) att (.i (.app 72 sd) at4 (.g (.app 70 sd) ati (.i (.app 53 (.g afw .nil)) atm (.g afw x9 .nil))))) (zh hI hT) (zp hI hh) hI l6,
      l7⟩
    ·have hI := fo hI aan vt
     have hI := az hI aan (.c 0)
     have t14 := aq (f70 hR (.v 1) (.v 2) (.v 3) (.v 6) (.s 5) (.s 4))
     have u := l8 (ga (Gv.σ 0) ((Gv.σ 1).headD 0) ((Gv.σ 2).headD 0) ((Gv.σ 3).headD 0) ((Gv.σ 6).headD 0) (Gv.σ 5) (Gv.σ 4))
     exact ⟨l7,
      zt [] (.i aqo y3 (.i (.app 71 sd) zb .nil)) (zh hI hT) (zp hI hh) hI l6⟩
   ·have hI := fo hI sb vt
    have hI := az hI sb (.c 0)
    have t15 := aq (f70 hR (.v 1) (.v 2) (.v 3) (.v 6) (.s 5) (.s 4))
    have t16 := aq (f60 hR fy (.v 2) (.s 5) (.s 4))
    have u := l8 (ga (Gv.σ 0) ((Gv.σ 1).headD 0) ((Gv.σ 2).headD 0) ((Gv.σ 3).headD 0) ((Gv.σ 6).headD 0) (Gv.σ 5) (Gv.σ 4))
    exact ⟨l7,
     zt [] (.i aal y3 (.i ar4 zb .nil)) (zh hI hT) (zp hI hh) hI l6⟩
 ·have hI := az hI fy (.c 0)
  have hI := az hI (.len (.s 0)) fy
  have t17 := aq ((And.intro (f60 hR fy (.v 2) (.s 5) (.s 4)) (ala (σ := Gv.σ) fy (.v 2) (.s 5) (.s 4))))
  have hI := bi7 hI aal (.c 0)
  have hI := fo hI sb vt
  have hI := az hI sb (.c 0)
  have t18 := aq (f70 hR (.v 1) (.v 2) (.v 3) (.v 6) (.s 5) (.s 4))
  have t19 := aq (f60 hR fy (.v 2) (.s 5) (.s 4))
  have u := l8 (ga (Gv.σ 0) ((Gv.σ 1).headD 0) ((Gv.σ 2).headD 0) ((Gv.σ 3).headD 0) ((Gv.σ 6).headD 0) (Gv.σ 5) (Gv.σ 4))
  exact ⟨l7,
   zt [] (.i aal y3 (.i ar4 zb .nil)) (zh hI hT) (zp hI hh) hI l6⟩
end Go.Ev
