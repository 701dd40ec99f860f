import Derived.Test.YtkfdioikigponaaGreatDoorRaL0
set_option maxRecDepth 100000
set_option linter.all false
namespace Go.Ev
abbrev f9 : SE := .app 43 (.g (.s 0) (.i (.v 1) (.i (.c 0) .nil)))
abbrev adb : SE := .bin 0 .i64 f9 (.c 0)
abbrev atg : SE := .app 58 (.g (.s 5) (.i (.c 0) .nil))
abbrev uu : AL := .g (.s 0) (.i (.v 1) (.i (.v 2) (.i (.v 3) (.i (.c 0) (.g (.s 5) (.g (.s 4) .nil))))))
abbrev yf : GE := .app 71 uu
abbrev aug : SE := .app 73 uu
abbrev atq : SE := .app 72 uu
abbrev aui : GE := .app 70 uu
abbrev auj : SE := .app 53 (.g yf .nil)
abbrev aa9 : SE := .app 70 uu
abbrev aa6 : SE := .app 71 uu
abbrev vi : AL := .g (.s 0) (.i f9 (.i (.v 2) (.g (.s 5) (.g (.s 4) .nil))))
abbrev aar : SE := .app 60 vi
abbrev rp : SE := .bin 6 .i64 (.bin 7 .i64 (.c 2) (.bin 6 .i64 (.len (.s 0)) (.bin 7 .i64 (.c (-1)) f9))) (.c 1)
abbrev vz : SE := .bin 6 .i64 (.bin 7 .i64 (.c 2) (.bin 6 .i64 (.len (.s 0)) (.bin 7 .i64 (.c (-1)) (.v 1)))) (.c 2)
abbrev re : SE := .app 64 vi
abbrev aqd : GE := .app 60 vi
abbrev asf : GE := .app 61 vi
abbrev ra : AL := .g (.s 0) (.i re (.i (.v 2) (.i (.v 3) (.i (.c 1) (.g aqd (.g asf .nil))))))
abbrev ap3 : SE := .app 70 ra
abbrev aak : SE := .bin 6 .i64 (.bin 7 .i64 (.c 2) (.bin 6 .i64 (.len (.s 0)) (.bin 7 .i64 (.c (-1)) re))) (.c 2)
abbrev ae5 : GE := .app 71 ra
abbrev aqf : SE := .app 61 vi
set_option maxHeartbeats 100000000 in
theorem b8e [Gv] (hT : ∀ t ∈ [af8, aen, aeh, wn, xc, ais, aey, aev, aeq, aep, alb mG, ak9 mG], am t) (hh : ∀ t ∈ [bgo mG, bfs mG, bgp mG, bfa mG], au t) (hI : SAll Gv.σ [.mk false (.app 42 (.g (.s 0) .nil)) (.c 1) true, .mk true (.v 1) (.c 0) false, .mk true (.len (.s 0)) (.v 1) false, .mk true (.v 2) (.c 0) false, .mk true (.c 200) (.v 2) false, .mk true (.v 2) (.c 1) false]) : b48 := by
 obtain ⟨⟨hR, hp0, hpl, hL⟩, ho0, ho1⟩ := a5h hI
 have t1 := aq (bf1 (σ := Gv.σ) (.v 1))
 rcases asj hI adb (.len (.s 0)) with ⟨hI, k1⟩ | ⟨hI, k1⟩
 ·have hI := az hI adb (.c 0)
  have t2 := aq (qc hR adb)
  rcases ji hI (.rd (.s 0) adb) (.c 93) with ⟨hI, k3⟩ | ⟨hI, k3⟩
  ·have t3 := aq (f58 (σ := Gv.σ) (.s 5) (.c 0))
   rcases ji hI atg (.c 0) with ⟨hI, k4⟩ | ⟨hI, k4⟩
   ·have t4 := aq (f70 hR (.v 1) (.v 2) (.v 3) (.c 0) (.s 5) (.s 4))
    have t5 := aq (f53 (σ := Gv.σ) (.s 4))
    have t6 := aq (f53 (σ := Gv.σ) yf)
    have u := l8 (ga (Gv.σ 0) ((Gv.σ 1).headD 0) ((Gv.σ 2).headD 0) ((Gv.σ 3).headD 0) 0 (Gv.σ 5) (Gv.σ 4))
    exact ⟨zt [(260, 266)] (.i (.bin 0 .i64 f9 (.c 1)) aug (.i (.rd (.s 5) (.c 1)) atq (.g (.app 58 (.g (.s 5) (.i (.c 0) .nil))) aui (.i (.app 53 (.g (.s 4) .nil)) auj (.g (.s 4) yf .nil))))) (zh hI hT) (zp hI hh) hI l6,
     l7⟩
   ·have t7 := aq (f70 hR (.v 1) (.v 2) (.v 3) (.c 0) (.s 5) (.s 4))
    have u := l8 (ga (Gv.σ 0) ((Gv.σ 1).headD 0) ((Gv.σ 2).headD 0) ((Gv.σ 3).headD 0) 0 (Gv.σ 5) (Gv.σ 4))
    exact ⟨l7,
     zt [] (.i atg aa9 (.i (.v 3) aa6 .nil)) (zh hI hT) (zp hI hh) hI l6⟩
  ·have hI := az hI f9 (.c 0)
   have hI := az hI (.len (.s 0)) f9
   have t8 := aq ((And.intro (f60 hR f9 (.v 2) (.s 5) (.s 4)) (ala (σ := Gv.σ) f9 (.v 2) (.s 5) (.s 4))))
   rcases ji hI aar (.c 0) with ⟨hI, k6⟩ | ⟨hI, k6⟩
   ·have hI := fo hI rp vz
    have hI := az hI rp (.c 0)
    have t9 := aq (f60 hR f9 (.v 2) (.s 5) (.s 4))
    have hI := az hI re (.c 0)
    have hI := az hI (.len (.s 0)) re
    have hI := az hI re (.c 1)
    have t10 := aq (f70 hR re (.v 2) (.v 3) (.c 1) aqd asf)
    rcases ji hI ap3 (.c 0) with ⟨hI, k12⟩ | ⟨hI, k12⟩
    ·have hI := fo hI aak vz
     have hI := az hI aak (.c 0)
     have t11 := aq (f70 hR (.v 1) (.v 2) (.v 3) (.c 0) (.s 5) (.s 4))
     have t12 := aq (f53 (σ := Gv.σ) ae5)
     have t13 := aq (f53 (σ := Gv.σ) yf)
     have u := l8 (ga (Gv.σ 0) ((Gv.σ 1).headD 0) ((Gv.σ 2).headD 0) ((Gv.σ 3).headD 0) 0 (Gv.σ 5) (Gv.σ 4))
     exact ⟨zt [(269, 266)] (.i (.app 73 ra) aug (.i (.app 72 ra) atq (.g (.app 70 ra) aui (.i (.app 53 (.g ae5 .nil)) auj (.g ae5 yf .nil))))) (zh hI hT) (zp hI hh) hI l6,
      l7⟩
    ·have hI := fo hI aak vz
     have hI := az hI aak (.c 0)
     have t14 := aq (f70 hR (.v 1) (.v 2) (.v 3) (.c 0) (.s 5) (.s 4))
     have u := l8 (ga (Gv.σ 0) ((Gv.σ 1).headD 0) ((Gv.σ 2).headD 0) ((Gv.σ 3).headD 0) 0 (Gv.σ 5) (Gv.σ 4))
     exact ⟨l7,
      zt [] (.i ap3 aa9 (.i (.app 71 ra) aa6 .nil)) (zh hI hT) (zp hI hh) hI l6⟩
   ·have hI := fo hI rp vz
    have hI := az hI rp (.c 0)
    have t15 := aq (f70 hR (.v 1) (.v 2) (.v 3) (.c 0) (.s 5) (.s 4))
    have t16 := aq (f60 hR f9 (.v 2) (.s 5) (.s 4))
    have u := l8 (ga (Gv.σ 0) ((Gv.σ 1).headD 0) ((Gv.σ 2).headD 0) ((Gv.σ 3).headD 0) 0 (Gv.σ 5) (Gv.σ 4))
    exact ⟨l7,
     zt [] (.i aar aa9 (.i aqf aa6 .nil)) (zh hI hT) (zp hI hh) hI l6⟩
 ·have hI := az hI f9 (.c 0)
  have hI := az hI (.len (.s 0)) f9
  have t17 := aq ((And.intro (f60 hR f9 (.v 2) (.s 5) (.s 4)) (ala (σ := Gv.σ) f9 (.v 2) (.s 5) (.s 4))))
  have hI := bi7 hI aar (.c 0)
  have hI := fo hI rp vz
  have hI := az hI rp (.c 0)
  have t18 := aq (f70 hR (.v 1) (.v 2) (.v 3) (.c 0) (.s 5) (.s 4))
  have t19 := aq (f60 hR f9 (.v 2) (.s 5) (.s 4))
  have u := l8 (ga (Gv.σ 0) ((Gv.σ 1).headD 0) ((Gv.σ 2).headD 0) ((Gv.σ 3).headD 0) 0 (Gv.σ 5) (Gv.σ 4))
  exact ⟨l7,
   zt [] (.i aar aa9 (.i aqf aa6 .nil)) (zh hI hT) (zp hI hh) hI l6⟩
end Go.Ev
