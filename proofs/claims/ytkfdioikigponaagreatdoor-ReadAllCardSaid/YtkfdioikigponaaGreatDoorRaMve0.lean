import Derived.Test.YtkfdioikigponaaGreatDoorRaL0
set_option maxRecDepth 100000
set_option linter.all false
namespace Go.Ev
abbrev gc : SE := .app 43 (.g (.s 0) (.i (.v 1) (.i (.c 0) .nil)))
abbrev aer : SE := .bin 0 .i64 gc (.c 0)
abbrev atn : SE := .app 58 (.g (.s 5) (.i (.c 0) .nil))
abbrev u7 : AL := .g (.s 0) (.i (.v 1) (.i (.v 2) (.i (.v 3) (.i (.c 0) (.g (.s 5) (.g (.s 4) .nil))))))
abbrev yx : GE := .app 71 u7
abbrev ath : SE := .app 73 u7
abbrev au0 : SE := .app 72 u7
abbrev aut : GE := .app 70 u7
abbrev at3 : SE := .app 53 (.g yx .nil)
abbrev aal : SE := .app 70 u7
abbrev zy : SE := .app 71 u7
abbrev vi : AL := .g (.s 0) (.i gc (.i (.v 2) (.g (.s 5) (.g (.s 4) .nil))))
abbrev abh : SE := .app 60 vi
abbrev sa : SE := .bin 6 .i64 (.bin 7 .i64 (.c 2) (.bin 6 .i64 (.len (.s 0)) (.bin 7 .i64 (.c (-1)) gc))) (.c 1)
abbrev v6 : SE := .bin 6 .i64 (.bin 7 .i64 (.c 2) (.bin 6 .i64 (.len (.s 0)) (.bin 7 .i64 (.c (-1)) (.v 1)))) (.c 2)
abbrev sb : SE := .app 64 vi
abbrev aoh : GE := .app 60 vi
abbrev apy : GE := .app 61 vi
abbrev rq : AL := .g (.s 0) (.i sb (.i (.v 2) (.i (.v 3) (.i (.c 1) (.g aoh (.g apy .nil))))))
abbrev arq : SE := .app 70 rq
abbrev zr : SE := .bin 6 .i64 (.bin 7 .i64 (.c 2) (.bin 6 .i64 (.len (.s 0)) (.bin 7 .i64 (.c (-1)) sb))) (.c 2)
abbrev afl : GE := .app 71 rq
abbrev aoc : SE := .app 61 vi
set_option maxHeartbeats 100000000 in
theorem b4q [Gv] (hT : ∀ t ∈ [acp, aey, ae4, wm, xf, aiu, afe, aff, ae6, ae8, aok mG, apq mG], ap t) (hh : ∀ t ∈ [bf1 mG, bhq mG, bg6 mG, bfh mG], ba t) (hI : SAll Gv.σ [.mk false (.app 42 (.g (.s 0) .nil)) (.c 1) true, .mk true (.v 1) (.c 0) false, .mk true (.len (.s 0)) (.v 1) false, .mk true (.v 2) (.c 0) false, .mk true (.c 200) (.v 2) false, .mk true (.v 2) (.c 1) false]) : b7v := by
 obtain ⟨⟨hR, hp0, hpl, hL⟩, ho0, ho1⟩ := a7h hI
 have t1 := au (bfr (σ := Gv.σ) (.v 1))
 rcases arb hI aer (.len (.s 0)) with ⟨hI, k1⟩ | ⟨hI, k1⟩
 ·have hI := be hI aer (.c 0)
  have t2 := au (pz hR aer)
  rcases jf hI (.rd (.s 0) aer) (.c 93) with ⟨hI, k3⟩ | ⟨hI, k3⟩
  ·have t3 := au (f58 (σ := Gv.σ) (.s 5) (.c 0))
   rcases jf hI atn (.c 0) with ⟨hI, k4⟩ | ⟨hI, k4⟩
   ·have t4 := au (f70 hR (.v 1) (.v 2) (.v 3) (.c 0) (.s 5) (.s 4))
    have t5 := au (f53 (σ := Gv.σ) (.s 4))
    have t6 := au (f53 (σ := Gv.σ) yx)
    have u := lz (jn (Gv.σ 0) ((Gv.σ 1).headD 0) ((Gv.σ 2).headD 0) ((Gv.σ 3).headD 0) 0 (Gv.σ 5) (Gv.σ 4))
    exact ⟨zt [(260, 266)] (.i (.bin 0 .i64 gc (.c 1)) ath (.i (.rd (.s 5) (.c 1)) au0 (.g (.app 58 (.g (.s 5) (.i (.c 0) .nil))) aut (.i (.app 53 (.g (.s 4) .nil)) at3 (.g (.s 4) yx .nil))))) (zh hI hT) (zp hI hh) hI lv,
     l6⟩
   ·have t7 := au (f70 hR (.v 1) (.v 2) (.v 3) (.c 0) (.s 5) (.s 4))
    have u := lz (jn (Gv.σ 0) ((Gv.σ 1).headD 0) ((Gv.σ 2).headD 0) ((Gv.σ 3).headD 0) 0 (Gv.σ 5) (Gv.σ 4))
    exact ⟨l6,
     zt [] (.i atn aal (.i (.v 3) zy .nil)) (zh hI hT) (zp hI hh) hI lv⟩
  ·have hI := be hI gc (.c 0)
   have hI := be hI (.len (.s 0)) gc
   have t8 := au ((And.intro (f60 hR gc (.v 2) (.s 5) (.s 4)) (ali (σ := Gv.σ) gc (.v 2) (.s 5) (.s 4))))
   rcases jf hI abh (.c 0) with ⟨hI, k6⟩ | ⟨hI, k6⟩
   ·have hI := fu hI sa v6
    have hI := be hI sa (.c 0)
    have t9 := au (f60 hR gc (.v 2) (.s 5) (.s 4))
    have hI := be hI sb (.c 0)
    have hI := be hI (.len (.s 0)) sb
    have hI := be hI sb (.c 1)
    have t10 := au (f70 hR sb (.v 2) (.v 3) (.c 1) aoh apy)
    rcases jf hI arq (.c 0) with ⟨hI, k12⟩ | ⟨hI, k12⟩
    ·have hI := fu hI zr v6
     have hI := be hI zr (.c 0)
     have t11 := au (f70 hR (.v 1) (.v 2) (.v 3) (.c 0) (.s 5) (.s 4))
     have t12 := au (f53 (σ := Gv.σ) afl)
     have t13 := au (f53 (σ := Gv.σ) yx)
     have u := lz (jn (Gv.σ 0) ((Gv.σ 1).headD 0) ((Gv.σ 2).headD 0) ((Gv.σ 3).headD 0) 0 (Gv.σ 5) (Gv.σ 4))
     exact ⟨zt [(269, 266)] (.i (.app 73 rq) ath (.i (.app 72 rq) au0 (.g (.app 70 rq) aut (.i (.app 53 (.g afl .nil)) at3 (.g afl yx .nil))))) (zh hI hT) (zp hI hh) hI lv,
      l6⟩
    ·have hI := fu hI zr v6
     have hI := be hI zr (.c 0)
     have t14 := au (f70 hR (.v 1) (.v 2) (.v 3) (.c 0) (.s 5) (.s 4))
     have u := lz (jn (Gv.σ 0) ((Gv.σ 1).headD 0) ((Gv.σ 2).headD 0) ((Gv.σ 3).headD 0) 0 (Gv.σ 5) (Gv.σ 4))
     exact ⟨l6,
      zt [] (.i arq aal (.i (.app 71 rq) zy .nil)) (zh hI hT) (zp hI hh) hI lv⟩
   ·have hI := fu hI sa v6
    have hI := be hI sa (.c 0)
    have t15 := au (f70 hR (.v 1) (.v 2) (.v 3) (.c 0) (.s 5) (.s 4))
    have t16 := au (f60 hR gc (.v 2) (.s 5) (.s 4))
    have u := lz (jn (Gv.σ 0) ((Gv.σ 1).headD 0) ((Gv.σ 2).headD 0) ((Gv.σ 3).headD 0) 0 (Gv.σ 5) (Gv.σ 4))
    exact ⟨l6,
     zt [] (.i abh aal (.i aoc zy .nil)) (zh hI hT) (zp hI hh) hI lv⟩
 ·have hI := be hI gc (.c 0)
  have hI := be hI (.len (.s 0)) gc
  have t17 := au ((And.intro (f60 hR gc (.v 2) (.s 5) (.s 4)) (ali (σ := Gv.σ) gc (.v 2) (.s 5) (.s 4))))
  have hI := bn2 hI abh (.c 0)
  have hI := fu hI sa v6
  have hI := be hI sa (.c 0)
  have t18 := au (f70 hR (.v 1) (.v 2) (.v 3) (.c 0) (.s 5) (.s 4))
  have t19 := au (f60 hR gc (.v 2) (.s 5) (.s 4))
  have u := lz (jn (Gv.σ 0) ((Gv.σ 1).headD 0) ((Gv.σ 2).headD 0) ((Gv.σ 3).headD 0) 0 (Gv.σ 5) (Gv.σ 4))
  exact ⟨l6,
   zt [] (.i abh aal (.i aoc zy .nil)) (zh hI hT) (zp hI hh) hI lv⟩
end Go.Ev
