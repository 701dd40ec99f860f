import Derived.Test.YtkfdioikigponaaGreatDoorRaL0
set_option maxRecDepth 100000
set_option linter.all false
namespace Go.Ev
abbrev fm : SE := .app 43 (.g (.s 0) (.i (.v 1) (.i (.c 0) .nil)))
abbrev ade : SE := .bin 0 .i64 fm (.c 0)
abbrev aj2 : SE := .rd (.s 0) ade
abbrev acy : AL := .i (.v 6) (.g (.s 5) (.i (.v 7) (.i (.v 8) .nil)))
abbrev rv : AL := .g (.s 0) (.i (.v 1) (.i (.v 2) (.i (.v 3) (.i (.v 6) (.i (.v 7) (.i (.v 8) (.g (.s 5) (.g (.s 4) .nil))))))))
abbrev nv : GE := .app 66 rv
abbrev er : SE := .bin 0 .i64 fm (.c 1)
abbrev adw : SE := .app 69 rv
abbrev ac9 : SE := .app 67 rv
abbrev aaz : SE := .app 68 rv
abbrev zf : GE := .app 65 rv
abbrev zn : SE := .app 53 (.g nv .nil)
abbrev iq : SE := .app 65 rv
abbrev jb : SE := .app 66 rv
abbrev af1 : SE := .rd (.s 0) er
abbrev aq9 : AL := .i (.v 2) (.g (.s 5) (.g (.s 4) .nil))
abbrev ow : AL := .g (.s 0) (.i er aq9)
abbrev zc : SE := .app 60 ow
abbrev rb : SE := .bin 6 .i64 (.bin 7 .i64 (.c 2) (.bin 6 .i64 (.len (.s 0)) (.bin 7 .i64 (.c (-1)) er))) (.c 1)
abbrev fw : SE := .bin 6 .i64 (.bin 7 .i64 (.c 2) (.bin 6 .i64 (.len (.s 0)) (.bin 7 .i64 (.c (-1)) (.v 1)))) (.c 2)
abbrev aae : SE := .app 64 ow
abbrev kz : SE := .app 43 (.g (.s 0) (.i aae (.i (.c 0) .nil)))
abbrev zw : SE := .bin 0 .i64 kz (.c 0)
abbrev ap6 : SE := .app 62 ow
abbrev ao2 : SE := .app 63 ow
abbrev aoc : GE := .app 60 ow
abbrev aox : GE := .app 61 ow
abbrev o7 : AL := .g (.s 0) (.i kz (.i (.v 2) (.i (.v 3) (.i (.v 6) (.i ap6 (.i ao2 (.g aoc (.g aox .nil))))))))
abbrev apx : SE := .app 65 o7
abbrev aac : SE := .bin 6 .i64 (.bin 7 .i64 (.c 2) (.bin 6 .i64 (.len (.s 0)) (.bin 7 .i64 (.c (-1)) kz))) (.c 2)
abbrev ae9 : GE := .app 66 o7
abbrev aqs : SE := .app 61 ow
abbrev vw : AL := .g (.s 0) (.i fm aq9)
abbrev y9 : SE := .app 60 vw
abbrev na : SE := .bin 6 .i64 (.bin 7 .i64 (.c 2) (.bin 6 .i64 (.len (.s 0)) (.bin 7 .i64 (.c (-1)) fm))) (.c 1)
abbrev kr : SE := .bin 6 .i64 (.v 6) (.c 1)
abbrev jv : SE := .app 64 vw
abbrev afx : GE := .app 60 vw
abbrev ae6 : GE := .app 61 vw
abbrev o8 : AL := .g (.s 0) (.i jv (.i (.v 2) (.i (.v 3) (.i kr (.i (.v 7) (.i (.v 8) (.g afx (.g ae6 .nil))))))))
abbrev abb : SE := .app 65 o8
abbrev ng : SE := .bin 6 .i64 (.bin 7 .i64 (.c 2) (.bin 6 .i64 (.len (.s 0)) (.bin 7 .i64 (.c (-1)) jv))) (.c 2)
abbrev u4 : GE := .app 66 o8
abbrev aqr : SE := .app 69 o8
abbrev ap2 : SE := .app 67 o8
abbrev ap4 : SE := .app 68 o8
abbrev aq2 : GE := .app 65 o8
abbrev aol : SE := .app 53 (.g u4 .nil)
abbrev apr : SE := .app 66 o8
abbrev apj : SE := .app 61 vw
set_option maxHeartbeats 100000000 in
theorem b81 [Gv] (hT : ∀ t ∈ [af8, aen, aeh, wn, xc, ais, aey, aev, aeq, aep, alb mG, ak9 mG], am t) (hh : ∀ t ∈ [bgo mG, bfs mG, bgp mG, bfa mG], au t) (hI : SAll Gv.σ [.mk false (.app 42 (.g (.s 0) .nil)) (.c 1) true, .mk true (.v 1) (.c 0) false, .mk true (.len (.s 0)) (.v 1) false, .mk true (.v 2) (.c 0) false, .mk true (.c 200) (.v 2) false, .mk true (.v 2) (.c 1) false, .mk true (.v 6) (.c 1) false, .mk true (.v 1) (.v 6) false]) : b5g := by
 obtain ⟨⟨hR, hp0, hpl, hL⟩, ⟨ho0, ho1⟩, h61, h62⟩ := a6m hI
 have t1 := aq (bf1 (σ := Gv.σ) (.v 1))
 rcases asj hI ade (.len (.s 0)) with ⟨hI, k1⟩ | ⟨hI, k1⟩
 ·have hI := az hI ade (.c 0)
  have t2 := aq (qc hR ade)
  have hI := az hI aj2 (.c 0)
  rcases ji hI aj2 (.c 41) with ⟨hI, k4⟩ | ⟨hI, k4⟩
  ·have hI := az hI (.c 20000) (.v 6)
   have t3 := aq (f74 (σ := Gv.σ) (.v 6) (.v 7) (.v 8) (.s 5))
   rcases ji hI (.app 74 acy) (.c 0) with ⟨hI, k6⟩ | ⟨hI, k6⟩
   ·have t4 := aq (f65 hR (.v 1) (.v 2) (.v 3) (.v 6) (.v 7) (.v 8) (.s 5) (.s 4))
    have t5 := aq (f53 (σ := Gv.σ) (.s 4))
    have t6 := aq (f53 (σ := Gv.σ) nv)
    have u := l8 (ce (Gv.σ 0) ((Gv.σ 1).headD 0) ((Gv.σ 2).headD 0) ((Gv.σ 3).headD 0) ((Gv.σ 6).headD 0) ((Gv.σ 7).headD 0) ((Gv.σ 8).headD 0) (Gv.σ 5) (Gv.σ 4))
    exact ⟨zt [(260, 266)] (.i er adw (.i (.app 75 acy) ac9 (.i (.app 76 acy) aaz (.g (.app 74 acy) zf (.i (.app 53 (.g (.s 4) .nil)) zn (.g (.s 4) nv .nil)))))) (zh hI hT) (zp hI hh) hI l6,
     l7⟩
   ·have t7 := aq (f65 hR (.v 1) (.v 2) (.v 3) (.v 6) (.v 7) (.v 8) (.s 5) (.s 4))
    have u := l8 (ce (Gv.σ 0) ((Gv.σ 1).headD 0) ((Gv.σ 2).headD 0) ((Gv.σ 3).headD 0) ((Gv.σ 6).headD 0) ((Gv.σ 7).headD 0) ((Gv.σ 8).headD 0) (Gv.σ 5) (Gv.σ 4))
    exact ⟨l7,
     zt [] (.i (.c 7) iq (.i (.v 3) jb .nil)) (zh hI hT) (zp hI hh) hI l6⟩
  ·rcases ji hI aj2 (.c 46) with ⟨hI, k5⟩ | ⟨hI, k5⟩
   ·rcases asj hI er (.len (.s 0)) with ⟨hI, k6⟩ | ⟨hI, k6⟩
    ·have hI := az hI er (.c 0)
     have t8 := aq (qc hR er)
     have hI := az hI af1 (.c 0)
     have t9 := aq (b01 (σ := Gv.σ) af1)
     rcases ji hI (.app 41 (.i af1 .nil)) (.c 1) with ⟨hI, k9⟩ | ⟨hI, k9⟩
     ·have hI := fo hI (.c 0) (.v 6)
      have hI := az hI (.len (.s 0)) er
      have t10 := aq ((And.intro (f60 hR er (.v 2) (.s 5) (.s 4)) (ala (σ := Gv.σ) er (.v 2) (.s 5) (.s 4))))
      rcases ji hI zc (.c 0) with ⟨hI, k12⟩ | ⟨hI, k12⟩
      ·have hI := fo hI rb fw
       have hI := az hI rb (.c 0)
       have t11 := aq (f60 hR er (.v 2) (.s 5) (.s 4))
       have hI := az hI aae (.c 0)
       have hI := az hI (.len (.s 0)) aae
       have t12 := aq (bf1 (σ := Gv.σ) aae)
       rcases asj hI zw (.len (.s 0)) with ⟨hI, k17⟩ | ⟨hI, k17⟩
       ·have hI := az hI zw (.c 0)
        have t13 := aq (qc hR zw)
        rcases ji hI (.rd (.s 0) zw) (.c 41) with ⟨hI, k19⟩ | ⟨hI, k19⟩
        ·have hI := az hI kz (.c 0)
         have hI := az hI (.len (.s 0)) kz
         have hI := az hI kz (.v 6)
         have t14 := aq (f65 hR kz (.v 2) (.v 3) (.v 6) ap6 ao2 aoc aox)
         rcases ji hI apx (.c 0) with ⟨hI, k23⟩ | ⟨hI, k23⟩
         ·have hI := fo hI aac fw
          have hI := az hI aac (.c 0)
          have t15 := aq (f65 hR (.v 1) (.v 2) (.v 3) (.v 6) (.v 7) (.v 8) (.s 5) (.s 4))
          have t16 := aq (f53 (σ := Gv.σ) ae9)
          have t17 := aq (f53 (σ := Gv.σ) nv)
          have u := l8 (ce (Gv.σ 0) ((Gv.σ 1).headD 0) ((Gv.σ 2).headD 0) ((Gv.σ 3).headD 0) ((Gv.σ 6).headD 0) ((Gv.σ 7).headD 0) ((Gv.σ 8).headD 0) (Gv.σ 5) (Gv.σ 4))
          exact ⟨zt [(267, 266)] (.i (.app 69 o7) adw (.i (.app 67 o7) ac9 (.i (.app 68 o7) aaz (.g (.app 65 o7) zf (.i (.app 53 (.g ae9 .nil)) zn (.g ae9 nv .nil)))))) (zh hI hT) (zp hI hh) hI l6,
           l7⟩
         ·have hI := fo hI aac fw
          have hI := az hI aac (.c 0)
          have t18 := aq (f65 hR (.v 1) (.v 2) (.v 3) (.v 6) (.v 7) (.v 8) (.s 5) (.s 4))
          have u := l8 (ce (Gv.σ 0) ((Gv.σ 1).headD 0) ((Gv.σ 2).headD 0) ((Gv.σ 3).headD 0) ((Gv.σ 6).headD 0) ((Gv.σ 7).headD 0) ((Gv.σ 8).headD 0) (Gv.σ 5) (Gv.σ 4))
          exact ⟨l7,
           zt [] (.i apx iq (.i (.app 66 o7) jb .nil)) (zh hI hT) (zp hI hh) hI l6⟩
        ·have t19 := aq (f65 hR (.v 1) (.v 2) (.v 3) (.v 6) (.v 7) (.v 8) (.s 5) (.s 4))
         have u := l8 (ce (Gv.σ 0) ((Gv.σ 1).headD 0) ((Gv.σ 2).headD 0) ((Gv.σ 3).headD 0) ((Gv.σ 6).headD 0) ((Gv.σ 7).headD 0) ((Gv.σ 8).headD 0) (Gv.σ 5) (Gv.σ 4))
         exact ⟨l7,
          zt [] (.i (.c 5) iq (.i kz jb .nil)) (zh hI hT) (zp hI hh) hI l6⟩
       ·have t20 := aq (f65 hR (.v 1) (.v 2) (.v 3) (.v 6) (.v 7) (.v 8) (.s 5) (.s 4))
        have u := l8 (ce (Gv.σ 0) ((Gv.σ 1).headD 0) ((Gv.σ 2).headD 0) ((Gv.σ 3).headD 0) ((Gv.σ 6).headD 0) ((Gv.σ 7).headD 0) ((Gv.σ 8).headD 0) (Gv.σ 5) (Gv.σ 4))
        exact ⟨l7,
         zt [] (.i (.c 5) iq (.i kz jb .nil)) (zh hI hT) (zp hI hh) hI l6⟩
      ·have hI := fo hI rb fw
       have hI := az hI rb (.c 0)
       have t21 := aq (f65 hR (.v 1) (.v 2) (.v 3) (.v 6) (.v 7) (.v 8) (.s 5) (.s 4))
       have t22 := aq (f60 hR er (.v 2) (.s 5) (.s 4))
       have u := l8 (ce (Gv.σ 0) ((Gv.σ 1).headD 0) ((Gv.σ 2).headD 0) ((Gv.σ 3).headD 0) ((Gv.σ 6).headD 0) ((Gv.σ 7).headD 0) ((Gv.σ 8).headD 0) (Gv.σ 5) (Gv.σ 4))
       exact ⟨l7,
        zt [] (.i zc iq (.i aqs jb .nil)) (zh hI hT) (zp hI hh) hI l6⟩
     ·have hI := az hI fm (.c 0)
      have hI := az hI (.len (.s 0)) fm
      have t23 := aq ((And.intro (f60 hR fm (.v 2) (.s 5) (.s 4)) (ala (σ := Gv.σ) fm (.v 2) (.s 5) (.s 4))))
      rcases ji hI y9 (.c 0) with ⟨hI, k12⟩ | ⟨hI, k12⟩
      ·have hI := fo hI na fw
       have hI := az hI na (.c 0)
       have hI := az hI (.c 60000) kr
       have t24 := aq (f60 hR fm (.v 2) (.s 5) (.s 4))
       have hI := az hI jv (.c 0)
       have hI := az hI (.len (.s 0)) jv
       have hI := az hI kr (.c 1)
       have hI := az hI jv kr
       have t25 := aq (f65 hR jv (.v 2) (.v 3) kr (.v 7) (.v 8) afx ae6)
       rcases ji hI abb (.c 0) with ⟨hI, k20⟩ | ⟨hI, k20⟩
       ·have hI := fo hI ng fw
        have hI := az hI ng (.c 0)
        have t26 := aq (f65 hR (.v 1) (.v 2) (.v 3) (.v 6) (.v 7) (.v 8) (.s 5) (.s 4))
        have t27 := aq (f53 (σ := Gv.σ) u4)
        have t28 := aq (f53 (σ := Gv.σ) nv)
        have u := l8 (ce (Gv.σ 0) ((Gv.σ 1).headD 0) ((Gv.σ 2).headD 0) ((Gv.σ 3).headD 0) ((Gv.σ 6).headD 0) ((Gv.σ 7).headD 0) ((Gv.σ 8).headD 0) (Gv.σ 5) (Gv.σ 4))
        exact ⟨zt [(269, 266)] (.i aqr adw (.i ap2 ac9 (.i ap4 aaz (.g aq2 zf (.i aol zn (.g u4 nv .nil)))))) (zh hI hT) (zp hI hh) hI l6,
         l7⟩
       ·have hI := fo hI ng fw
        have hI := az hI ng (.c 0)
        have t29 := aq (f65 hR (.v 1) (.v 2) (.v 3) (.v 6) (.v 7) (.v 8) (.s 5) (.s 4))
        have u := l8 (ce (Gv.σ 0) ((Gv.σ 1).headD 0) ((Gv.σ 2).headD 0) ((Gv.σ 3).headD 0) ((Gv.σ 6).headD 0) ((Gv.σ 7).headD 0) ((Gv.σ 8).headD 0) (Gv.σ 5) (Gv.σ 4))
        exact ⟨l7,
         zt [] (.i abb iq (.i apr jb .nil)) (zh hI hT) (zp hI hh) hI l6⟩
      ·have hI := fo hI na fw
       have hI := az hI na (.c 0)
       have t30 := aq (f65 hR (.v 1) (.v 2) (.v 3) (.v 6) (.v 7) (.v 8) (.s 5) (.s 4))
       have t31 := aq (f60 hR fm (.v 2) (.s 5) (.s 4))
       have u := l8 (ce (Gv.σ 0) ((Gv.σ 1).headD 0) ((Gv.σ 2).headD 0) ((Gv.σ 3).headD 0) ((Gv.σ 6).headD 0) ((Gv.σ 7).headD 0) ((Gv.σ 8).headD 0) (Gv.σ 5) (Gv.σ 4))
       exact ⟨l7,
        zt [] (.i y9 iq (.i apj jb .nil)) (zh hI hT) (zp hI hh) hI l6⟩
    ·have hI := fo hI (.c 0) (.v 6)
     have hI := az hI er (.c 0)
     have hI := az hI (.len (.s 0)) er
     have t32 := aq ((And.intro (f60 hR er (.v 2) (.s 5) (.s 4)) (ala (σ := Gv.σ) er (.v 2) (.s 5) (.s 4))))
     have hI := bi7 hI zc (.c 0)
     have hI := fo hI rb fw
     have hI := az hI rb (.c 0)
     have t33 := aq (f65 hR (.v 1) (.v 2) (.v 3) (.v 6) (.v 7) (.v 8) (.s 5) (.s 4))
     have t34 := aq (f60 hR er (.v 2) (.s 5) (.s 4))
     have u := l8 (ce (Gv.σ 0) ((Gv.σ 1).headD 0) ((Gv.σ 2).headD 0) ((Gv.σ 3).headD 0) ((Gv.σ 6).headD 0) ((Gv.σ 7).headD 0) ((Gv.σ 8).headD 0) (Gv.σ 5) (Gv.σ 4))
     exact ⟨l7,
      zt [] (.i zc iq (.i aqs jb .nil)) (zh hI hT) (zp hI hh) hI l6⟩
   ·have hI := az hI fm (.c 0)
    have hI := az hI (.len (.s 0)) fm
    have t35 := aq ((And.intro (f60 hR fm (.v 2) (.s 5) (.s 4)) (ala (σ := Gv.σ) fm (.v 2) (.s 5) (.s 4))))
    rcases ji hI y9 (.c 0) with ⟨hI, k8⟩ | ⟨hI, k8⟩
    ·have hI := fo hI na fw
     have hI := az hI na (.c 0)
     have hI := az hI (.c 60000) kr
     have t36 := aq (f60 hR fm (.v 2) (.s 5) (.s 4))
     have hI := az hI jv (.c 0)
     have hI := az hI (.len (.s 0)) jv
     have hI := az hI kr (.c 1)
     have hI := az hI jv kr
     have t37 := aq (f65 hR jv (.v 2) (.v 3) kr (.v 7) (.v 8) afx ae6)
     rcases ji hI abb (.c 0) with ⟨hI, k16⟩ | ⟨hI, k16⟩
     ·have hI := fo hI ng fw
      have hI := az hI ng (.c 0)
      have t38 := aq (f65 hR (.v 1) (.v 2) (.v 3) (.v 6) (.v 7) (.v 8) (.s 5) (.s 4))
      have t39 := aq (f53 (σ := Gv.σ) u4)
      have t40 := aq (f53 (σ := Gv.σ) nv)
      have u := l8 (ce (Gv.σ 0) ((Gv.σ 1).headD 0) ((Gv.σ 2).headD 0) ((Gv.σ 3).headD 0) ((Gv.σ 6).headD 0) ((Gv.σ 7).headD 0) ((Gv.σ 8).headD 0) (Gv.σ 5) (Gv.σ 4))
      exact ⟨zt [(269, 266)] (.i aqr adw (.i ap2 ac9 (.i ap4 aaz (.g aq2 zf (.i aol zn (.g u4 nv .nil)))))) (zh hI hT) (zp hI hh) hI l6,
       l7⟩
     ·have hI := fo hI ng fw
      have hI := az hI ng (.c 0)
      have t41 := aq (f65 hR (.v 1) (.v 2) (.v 3) (.v 6) (.v 7) (.v 8) (.s 5) (.s 4))
      have u := l8 (ce (Gv.σ 0) ((Gv.σ 1).headD 0) ((Gv.σ 2).headD 0) ((Gv.σ 3).headD 0) ((Gv.σ 6).headD 0) ((Gv.σ 7).headD 0) ((Gv.σ 8).headD 0) (Gv.σ 5) (Gv.σ 4))
      exact ⟨l7,
       zt [] (.i abb iq (.i apr jb .nil)) (zh hI hT) (zp hI hh) hI l6⟩
    ·have hI := fo hI na fw
     have hI := az hI na (.c 0)
     have t42 := aq (f65 hR (.v 1) (.v 2) (.v 3) (.v 6) (.v 7) (.v 8) (.s 5) (.s 4))
     have t43 := aq (f60 hR fm (.v 2) (.s 5) (.s 4))
     have u := l8 (ce (Gv.σ 0) ((Gv.σ 1).headD 0) ((Gv.σ 2).headD 0) ((Gv.σ 3).headD 0) ((Gv.σ 6).headD 0) ((Gv.σ 7).headD 0) ((Gv.σ 8).headD 0) (Gv.σ 5) (Gv.σ 4))
     exact ⟨l7,
      zt [] (.i y9 iq (.i apj jb .nil)) (zh hI hT) (zp hI hh) hI l6⟩
 ·have t44 := aq (f65 hR (.v 1) (.v 2) (.v 3) (.v 6) (.v 7) (.v 8) (.s 5) (.s 4))
  have u := l8 (ce (Gv.σ 0) ((Gv.σ 1).headD 0) ((Gv.σ 2).headD 0) ((Gv.σ 3).headD 0) ((Gv.σ 6).headD 0) ((Gv.σ 7).headD 0) ((Gv.σ 8).headD 0) (Gv.σ 5) (Gv.σ 4))
  exact ⟨l7,
   zt [] (.i (.c 5) iq (.i (.len (.s 0)) jb .nil)) (zh hI hT) (zp hI hh) hI l6⟩
end Go.Ev
