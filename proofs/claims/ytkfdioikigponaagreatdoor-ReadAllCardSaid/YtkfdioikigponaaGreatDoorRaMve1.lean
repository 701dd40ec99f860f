import Derived.Test.YtkfdioikigponaaGreatDoorRaL0
set_option maxRecDepth 100000
set_option linter.all false
namespace Go.Ev
abbrev gb : SE := .app 43 (.g (.s 0) (.i (.v 1) (.i (.c 0) .nil)))
abbrev adt : SE := .bin 0 .i64 gb (.c 0)
abbrev aus : SE := .app 58 (.g (.s 5) (.i (.v 6) .nil))
abbrev u3 : AL := .g (.s 0) (.i (.v 1) (.i (.v 2) (.i (.v 3) (.i (.v 6) (.g (.s 5) (.g (.s 4) .nil))))))
abbrev ym : GE := .app 71 u3
abbrev au7 : SE := .app 73 u3
abbrev atj : SE := .app 72 u3
abbrev atq : GE := .app 70 u3
abbrev auk : SE := .app 53 (.g ym .nil)
abbrev ze : SE := .app 70 u3
abbrev zo : SE := .app 71 u3
abbrev vb : AL := .g (.s 0) (.i gb (.i (.v 2) (.g (.s 5) (.g (.s 4) .nil))))
abbrev zf : SE := .app 60 vb
abbrev rz : SE := .bin 6 .i64 (.bin 7 .i64 (.c 2) (.bin 6 .i64 (.len (.s 0)) (.bin 7 .i64 (.c (-1)) gb))) (.c 1)
abbrev vr : SE := .bin 6 .i64 (.bin 7 .i64 (.c 2) (.bin 6 .i64 (.len (.s 0)) (.bin 7 .i64 (.c (-1)) (.v 1)))) (.c 2)
abbrev vq : SE := .bin 6 .i64 (.v 6) (.c 1)
abbrev rt : SE := .app 64 vb
abbrev arj : GE := .app 60 vb
abbrev asq : GE := .app 61 vb
abbrev sh : AL := .g (.s 0) (.i rt (.i (.v 2) (.i (.v 3) (.i vq (.g arj (.g asq .nil))))))
abbrev ash : SE := .app 70 sh
abbrev aa0 : SE := .bin 6 .i64 (.bin 7 .i64 (.c 2) (.bin 6 .i64 (.len (.s 0)) (.bin 7 .i64 (.c (-1)) rt))) (.c 2)
abbrev afi : GE := .app 71 sh
abbrev ao2 : SE := .app 61 vb
set_option maxHeartbeats 100000000 in
theorem b80 [Gv] (hT : ∀ t ∈ [acp, aey, ae4, wm, xf, aiu, afe, aff, ae6, ae8, aok mG, apq mG], ap t) (hh : ∀ t ∈ [bf1 mG, bhq mG, bg6 mG, bfh mG], ba t) (hI : SAll Gv.σ [.mk false (.app 42 (.g (.s 0) .nil)) (.c 1) true, .mk true (.v 1) (.c 0) false, .mk true (.len (.s 0)) (.v 1) false, .mk true (.v 2) (.c 0) false, .mk true (.c 200) (.v 2) false, .mk true (.v 2) (.c 1) false, .mk true (.v 6) (.c 1) false, .mk true (.v 1) (.v 6) false]) : b6w := by
 obtain ⟨⟨hR, hp0, hpl, hL⟩, ⟨ho0, ho1⟩, h61, h62⟩ := a5w hI
 have t1 := au (bfr (σ := Gv.σ) (.v 1))
 rcases arb hI adt (.len (.s 0)) with ⟨hI, k1⟩ | ⟨hI, k1⟩
 ·have hI := be hI adt (.c 0)
  have t2 := au (pz hR adt)
  rcases jf hI (.rd (.s 0) adt) (.c 93) with ⟨hI, k3⟩ | ⟨hI, k3⟩
  ·have hI := be hI (.c 20000) (.v 6)
   have t3 := au (f58 (σ := Gv.σ) (.s 5) (.v 6))
   rcases jf hI aus (.c 0) with ⟨hI, k5⟩ | ⟨hI, k5⟩
   ·have t4 := au (f70 hR (.v 1) (.v 2) (.v 3) (.v 6) (.s 5) (.s 4))
    have t5 := au (f53 (σ := Gv.σ) (.s 4))
    have t6 := au (f53 (σ := Gv.σ) ym)
    have u := lz (jn (Gv.σ 0) ((Gv.σ 1).headD 0) ((Gv.σ 2).headD 0) ((Gv.σ 3).headD 0) ((Gv.σ 6).headD 0) (Gv.σ 5) (Gv.σ 4))
    exact ⟨zt [(260, 266)] (.i (.bin 0 .i64 gb (.c 1)) au7 (.i (.rd (.s 5) (.c 1)) atj (.g (.app 58 (.g (.s 5) (.i (.v 6) .nil))) atq (.i (.app 53 (.g (.s 4) .nil)) auk (.g (.s 4) ym .nil))))) (zh hI hT) (zp hI hh) hI lv,
     l6⟩
   ·have t7 := au (f70 hR (.v 1) (.v 2) (.v 3) (.v 6) (.s 5) (.s 4))
    have u := lz (jn (Gv.σ 0) ((Gv.σ 1).headD 0) ((Gv.σ 2).headD 0) ((Gv.σ 3).headD 0) ((Gv.σ 6).headD 0) (Gv.σ 5) (Gv.σ 4))
    exact ⟨l6,
     zt [] (.i aus ze (.i (.v 3) zo .nil)) (zh hI hT) (zp hI hh) hI lv⟩
  ·have hI := be hI gb (.c 0)
   have hI := be hI (.len (.s 0)) gb
   have t8 := au ((And.intro (f60 hR gb (.v 2) (.s 5) (.s 4)) (ali (σ := Gv.σ) gb (.v 2) (.s 5) (.s 4))))
   rcases jf hI zf (.c 0) with ⟨hI, k6⟩ | ⟨hI, k6⟩
   ·have hI := fu hI rz vr
    have hI := be hI rz (.c 0)
    have hI := be hI (.c 60000) vq
    have t9 := au (f60 hR gb (.v 2) (.s 5) (.s 4))
    have hI := be hI rt (.c 0)
    have hI := be hI (.len (.s 0)) rt
    have hI := be hI vq (.c 1)
    have hI := be hI rt vq
    have t10 := au (f70 hR rt (.v 2) (.v 3) vq arj asq)
    rcases jf hI ash (.c 0) with ⟨hI, k14⟩ | ⟨hI, k14⟩
    ·have hI := fu hI aa0 vr
     have hI := be hI aa0 (.c 0)
     have t11 := au (f70 hR (.v 1) (.v 2) (.v 3) (.v 6) (.s 5) (.s 4))
     have t12 := au (f53 (σ := Gv.σ) afi)
     have t13 := au (f53 (σ := Gv.σ) ym)
     have u := lz (jn (Gv.σ 0) ((Gv.σ 1).headD 0) ((Gv.σ 2).headD 0) ((Gv.σ 3).headD 0) ((Gv.σ 6).headD 0) (Gv.σ 5) (Gv.σ 4))
     exact ⟨zt [(269, 266)] (.i (.app 73 sh) au7 (.i (.app 72 sh) atj (.g (.app 70 sh) atq (.i (.app 53 (.g afi .nil)) auk (.g afi ym .nil))))) (zh hI hT) (zp hI hh) hI lv,
      l6⟩
    ·have hI := fu hI aa0 vr
     have hI := be hI aa0 (.c 0)
     have t14 := au (f70 hR (.v 1) (.v 2) (.v 3) (.v 6) (.s 5) (.s 4))
     have u := lz (jn (Gv.σ 0) ((Gv.σ 1).headD 0) ((Gv.σ 2).headD 0) ((Gv.σ 3).headD 0) ((Gv.σ 6).headD 0) (Gv.σ 5) (Gv.σ 4))
     exact ⟨l6,
      zt [] (.i ash ze (.i (.app 71 sh) zo .nil)) (zh hI hT) (zp hI hh) hI lv⟩
   ·have hI := fu hI rz vr
    have hI := be hI rz (.c 0)
    have t15 := au (f70 hR (.v 1) (.v 2) (.v 3) (.v 6) (.s 5) (.s 4))
    have t16 := au (f60 hR gb (.v 2) (.s 5) (.s 4))
    have u := lz (jn (Gv.σ 0) ((Gv.σ 1).headD 0) ((Gv.σ 2).headD 0) ((Gv.σ 3).headD 0) ((Gv.σ 6).headD 0) (Gv.σ 5) (Gv.σ 4))
    exact ⟨l6,
     zt [] (.i zf ze (.i ao2 zo .nil)) (zh hI hT) (zp hI hh) hI lv⟩
 ·have hI := be hI gb (.c 0)
  have hI := be hI (.len (.s 0)) gb
  have t17 := au ((And.intro (f60 hR gb (.v 2) (.s 5) (.s 4)) (ali (σ := Gv.σ) gb (.v 2) (.s 5) (.s 4))))
  have hI := bn2 hI zf (.c 0)
  have hI := fu hI rz vr
  have hI := be hI rz (.c 0)
  have t18 := au (f70 hR (.v 1) (.v 2) (.v 3) (.v 6) (.s 5) (.s 4))
  have t19 := au (f60 hR gb (.v 2) (.s 5) (.s 4))
  have u := lz (jn (Gv.σ 0) ((Gv.σ 1).headD 0) ((Gv.σ 2).headD 0) ((Gv.σ 3).headD 0) ((Gv.σ 6).headD 0) (Gv.σ 5) (Gv.σ 4))
  exact ⟨l6,
   zt [] (.i zf ze (.i ao2 zo .nil)) (zh hI hT) (zp hI hh) hI lv⟩
end Go.Ev
