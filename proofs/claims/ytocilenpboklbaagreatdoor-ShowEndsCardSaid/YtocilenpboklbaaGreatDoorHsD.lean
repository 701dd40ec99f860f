import Derived.Test.YtocilenpboklbaaGreatDoorHsB
set_option maxRecDepth 100000
set_option linter.all false
namespace Go.Ev
abbrev aec : SE := .bin 6 .i64 (.c 30050) (.bin 7 .i64 (.c (-150)) (.v 22))
abbrev a5z : SE := .bin 6 .i64 (.c 30110) (.bin 7 .i64 (.c (-150)) (.v 22))
abbrev avm : SE := .bin 6 .i64 a5z (.bin 7 .i64 (.c (-1)) (.v 2))
abbrev aj8 : AL := .g (.s 5) .nil
abbrev avn : SE := .app 221 aj8
abbrev avo : SE := .app 203 (.g (.s 5) (.i (.v 1) (.i (.v 2) .nil)))
abbrev avp : SE := .bin 6 .i64 (.v 21) (.c 10)
abbrev avq : List SA := [.mk false avn (.c 1) true, .mk false (.app 233 aj8) (.c 1) true, .mk false (.v 1) (.c 2) true, .mk false avo (.c 1) true, .mk true (.v 21) (.c 0) false, .mk true (.c 65536) (.v 21) false, .mk false (.len (.s 20)) (.v 23) true, .mk true (.v 23) (.c 1) false, .mk true (.c 70000) (.v 23) false, .mk true avp (.v 23) false]
abbrev a50 : SE := .bin 6 .i64 (.c 22000) (.bin 7 .i64 (.c (-110)) (.v 22))
abbrev aoo : List SA := [.mk false avn (.c 1) true, .mk false (.app 234 aj8) (.c 1) true, .mk false (.v 1) (.c 2) true, .mk false (.v 2) (.c 0) true, .mk true (.v 21) (.c 0) false, .mk false (.len (.s 20)) (.v 23) true, .mk true (.v 23) (.c 1) false, .mk true avp (.v 23) false, .mk true (.c 200) (.v 22) false, .mk true (.v 22) (.c 0) false, .mk true (.c 30000) (.bin 6 .i64 (.v 21) a50) false]
abbrev af4 : SE := .app 201 aj8
abbrev ax8 : SE := .bin 6 .i64 (.c 22110) (.bin 7 .i64 (.c (-110)) (.v 22))
abbrev aop : List SA := [.mk false avn (.c 1) true, .mk false (.app 234 aj8) (.c 1) true, .mk false (.v 1) (.c 2) true, .mk true (.v 2) (.c 1) false, .mk true (.v 2) af4 true, .mk true (.v 21) (.c 0) false, .mk false (.len (.s 20)) (.v 23) true, .mk true (.v 23) (.c 1) false, .mk true avp (.v 23) false, .mk true (.c 200) (.v 22) false, .mk true (.v 22) (.c 1) false, .mk true (.c 30000) (.bin 6 .i64 (.bin 6 .i64 (.v 21) (.bin 7 .i64 (.c (-2)) (.v 2))) ax8) false]
abbrev nw : SE := .bin 0 .i64 (.v 21) (.c 1)
abbrev ml : SE := .bin 6 .i64 (.v 23) (.c 1)
abbrev o9 : SE := .app 204 (.g (.s 5) (.i (.v 2) (.i (.c 1) .nil)))
abbrev ny : SE := .app 204 (.g (.s 5) (.i (.v 2) (.i (.c 2) .nil)))
abbrev af5 : SE := .c (-9223372036854775808)
abbrev af6 : SE := .c 9223372036854775807
abbrev ax9 : GE := .app 121 (.i ny .nil)
abbrev wq : SE := .len ax9
abbrev af7 : SE := .app 228 (.g ax9 .nil)
abbrev n5 : SE := .bin 0 .i64 nw wq
abbrev jm : SE := .bin 6 .i64 ml wq
abbrev af8 : SE := .app 204 (.g (.s 5) (.i (.v 2) (.i (.c 3) .nil)))
abbrev aya : AL := .g (.s 5) (.i (.v 2) (.i (.c 4) .nil))
abbrev n6 : SE := .app 204 aya
abbrev ayb : SE := .app 203 (.g (.s 5) (.i af8 (.i n6 .nil)))
abbrev aoq : SE := .bin 6 .i64 (.len (.s 20)) (.c 1)
abbrev af9 : SE := .bin 6 .i64 aoq wq
abbrev aga : SE := .bin 6 .i64 n5 (.c 10)
abbrev ayc : SE := .bin 6 .i64 (.c 65537) (.bin 7 .i64 (.c (-1)) n5)
abbrev aor : SE := .app 228 (.g (.lit 1 40) .nil)
abbrev qk : SE := .bin 0 .i64 (.v 22) (.c 1)
abbrev ayd : SE := .bin 6 .i64 n5 (.bin 7 .i64 (.c (-2)) n6)
abbrev aye : SE := .bin 7 .i64 (.c (-110)) qk
abbrev ayf : SE := .bin 6 .i64 ayd (.bin 6 .i64 (.c 22110) aye)
abbrev ayg : SE := .bin 7 .i64 (.c (-150)) qk
abbrev ayh : SE := .bin 7 .i64 (.c (-1)) n6
abbrev agb : SE := .bin 6 .i64 (.bin 6 .i64 (.c 30110) ayg) ayh
abbrev aot : SE := .bin 1 .i64 qk (.c 1)
abbrev ayi : SE := .bin 6 .i64 nw (.c 10)
abbrev ayj : SE := .bin 6 .i64 (.c 30050) ayg
abbrev ayk : SE := .bin 6 .i64 a5z ayh
noncomputable section
def mLg : SE := .bin 6 .i64 (.c 65537) (.bin 7 .i64 (.c (-1)) (.v 21))
def mWn : SE := aec
def mNl : SE := avm
def bf2 : List AV := [.top, .top, .ptr (K.of 261) 0, .top, .top, .ptr (K.of 260) 0, .top, .top, .top, .top, .top, .top, .top, .top, .top, .top, .top, .top, .top, .top, .top, .top, .top, .top, .top, .top, .top, .top, .top, .top, .top, .top, .top, .top, .top, .top, .top, .top, .top, .top, .top, .top, .top, .top, .top, .top, .top, .top, .top, .top, .top, .top, .top, .top, .top, .top, .top, .top, .top, .top, .top, .top, .top, .top, .top, .top, .top, .top, .top, .top, .top, .top, .top, .top, .top, .top, .top, .top, .top, .top, .top, .top]
def bfw : List AD := [.call (.func 142) [.ptr (K.of 261) 0] []]
def bfz : List HO := [bx 261 92 [.ptr (K.of 257) 0], bx 257 98 [.ptr (K.of 257) 0, .gv (.sl (K.of 259) 1 (.v 23) []), .ptr (K.of 256) 0, .ptr (K.of 258) 0, .bool true, sX (.v 21), sX (.v 22)], hH 256 (.s 5), .mk 259 (.gob (.gh 5 [.u8] (.v 23) (.s 20))), bx 260 29 [vI 1, vI 2]]
def bf0 : List HO := [bx 261 92 [.ptr (K.of 257) 0], bx 257 98 [.top, .top, .top, .top, .top, .top, sX (.v 22)], hH 256 (.s 5)]
def bf1 : LR := (.p [.mk (.iface 30 (.int .i64 4)) false] ([.top, .top, .top, .top, .top, .top, .top, .top, .top, .top, .top, .top, .top, .top, .top, .top, .top, .top, .top, .top, .top, .top, .top, .top, .top, .top, .top, .top, .top, .top, .top, .top, .top, .top, .top, .top, .top, .top, .top, .top, .top, .top, .top, .top, .top, .top, .top, .top, .top, .top, .top, .top, .top, .top, .top, .top, .top, .top, .top, .top, .top, .top, .top, .top, .top, .top, .top, .top, .top, .top, .top, .top, .top, .top, .top, .top, .top, .top, .top, .top, .top, .top]))
def rgk (m : SE) : LTD := .mk 101 4 bf2 bfw 262 bfz (avq ++ []) (some (mLg, m)) bf1 300 bf0
def bfx : LTD := znd (rgk (.c 0))
def bhb : List AV := [.ptr (K.of 257) 0, wd (.v 1) (.v 2)]
def bg8 : List HO := [bx 257 98 [.ptr (K.of 257) 0, .gv (.sl (K.of 259) 1 (.v 23) []), .ptr (K.of 256) 0, .ptr (K.of 258) 0, .bool true, sX (.v 21), sX (.v 22)], hH 256 (.s 5), .mk 259 (.gob (.gh 5 [.u8] (.v 23) (.s 20)))]
def bg9 : List HO := [bx 257 98 [.top, .top, .top, .top, .top, .top, sX (.v 22)], hH 256 (.s 5)]
def bha : TR := .pan [.mk (.iface 30 (.int .i64 12)) false]
def wnt (m : SE) : TM := .mk 54 bhb 260 bg8 (aoo ++ []) (some (mWn, m)) bha 300 bg9
def bg6 : TM := znm (wnt (.c 0))
def be5 : List AV := [.top, .top, .ptr (K.of 261) 0, .top, .top, .ptr (K.of 260) 0, .top, .top, .top, .top, .top, .top, .top, .top, .top, .top, .top, .top, .top, .top, .top, .top, .top, .top, .top, .top, .top, .top, .top, .top, .top, .top, .top, .top, .top, .top, .top, .top, .top, .top, .top, .top, .top, .top, .top, .top, .top, .top, .top, .top, .top, .top, .top, .top, .top, .top, .top, .top, .top, .top, .top, .top, .top, .top, .top, .top, .top, .top, .top, .top, .top, .top, .top, .top, .top, .top, .top, .top, .top, .top, .top, .top]
def bez : List AD := [.call (.func 142) [.ptr (K.of 261) 0] []]
def be2 : List HO := [bx 261 92 [.ptr (K.of 257) 0], bx 257 98 [.ptr (K.of 257) 0, .gv (.sl (K.of 259) 1 (.v 23) []), .ptr (K.of 256) 0, .ptr (K.of 258) 0, .bool true, sX (.v 21), sX (.v 22)], hH 256 (.s 5), .mk 259 (.gob (.gh 5 [.u8] (.v 23) (.s 20))), bx 260 29 [vI 1, vI 2]]
def be3 : List HO := [bx 261 92 [.ptr (K.of 257) 0], bx 257 98 [.top, .top, .top, .top, .top, .top, sX (.v 22)], hH 256 (.s 5)]
def be4 : LR := (.p [.mk (.iface 30 (.int .i64 12)) false] ([.top, .top, .top, .top, .top, .top, .top, .top, .top, .top, .top, .top, .top, .top, .top, .top, .top, .top, .top, .top, .top, .top, .top, .top, .top, .top, .top, .top, .top, .top, .top, .top, .top, .top, .top, .top, .top, .top, .top, .top, .top, .top, .top, .top, .top, .top, .top, .top, .top, .top, .top, .top, .top, .top, .top, .top, .top, .top, .top, .top, .top, .top, .top, .top, .top, .top, .top, .top, .top, .top, .top, .top, .top, .top, .top, .top, .top, .top, .top, .top, .top, .top]))
def nlp (m : SE) : LTD := .mk 101 4 be5 bez 262 be2 (aop ++ []) (some (mNl, m)) be4 300 be3
def be0 : LTD := znd (nlp (.c 0))
end
def bfy [Gv] : Prop := (SAll Gv.σ [] → agq 101 4 bf2 bfw 262 bfz bf1 300 bf0)
theorem bdf [Gv] (hw : ∀ t ∈ [ae9, afd, ae3, ae4, afa, afb, ae8, afe, afh], cy t) (hl : ∀ t ∈ [rgk mLg], lf t) (hI : SAll Gv.σ avq) : bfy := by
 have q := zf7 (hI)
 obtain ⟨hP, hR, e1, lv, b1, b2, b3, b4, b5, b6, _⟩ := q
 rw [e1] at lv
 obtain ⟨n0, n1⟩ := bbm lv
 have w := zf8 (frg (σ := Gv.σ) hR (.v 2))
 have hI := zE4 hI (.app 228 (.g (.lit 1 32) .nil)) (.c 1)
 rcases zl4 hI (.c 65536) nw with ⟨hI, k2⟩ | ⟨hI, k2⟩
 ·have u := n0
  exact zd0 [] (zh hI hw) (lw hI _ hl) hI
 ·have hI := zF4 hI (.c 400000) ml
  have hI := zN4 hI o9 (.c 2)
  have hI := zE4 hI o9 (.c 0)
  have hI := zF4 hI ny af5
  have hI := zF4 hI af6 ny
  have hI := zF4 hI (.c 20000) wq
  have hI := zE4 hI af7 (.c 1)
  rcases zl4 hI (.c 65536) n5 with ⟨hI, k10⟩ | ⟨hI, k10⟩
  ·have u := n0
   exact zd0 [] (zh hI hw) (lw hI _ hl) hI
  ·have hI := zF4 hI (.c 400000) jm
   have hI := zE4 hI af8 (.c 2)
   have hI := zE4 hI ayb (.c 1)
   have hI := zF4 hI n5 (.c 0)
   have hI := zE4 hI af9 jm
   have hI := zF4 hI jm (.c 1)
   have hI := zF4 hI (.c 70000) jm
   have hI := zF4 hI aga jm
   have hI := zT4 hI ayc (.bin 6 .i64 (.c 65537) (.bin 7 .i64 (.c (-1)) (.v 21)))
   have hI := zF4 hI ayc (.c 0)
   have u := n0
   exact zd0 [] (zh hI hw) (lw hI _ hl) hI
theorem axg : ∀ (B : Nat) (σ : Nat → List Int), (SAll σ avq → (mLg).eval σ < (B : Int) → @bfy ⟨σ⟩)
 | 0, σ => fun hI hb => by exfalso; have q := hI; simp (disch := omega) only [sall_cons, sT, sF, sE, sN, evs, evE, aeq, rgN1, nsN1, chN1, vcsN1] at q; obtain ⟨_, _, _, _, b1, b2, _⟩ := q; simp only [mLg, evs, wr] at hb; omega
 | B + 1, σ => by
   have ih := axg B
   ·intro hI hb
    have hw : ∀ t ∈ [ae9, afd, ae3, ae4, afa, afb, ae8, afe, afh], @cy ⟨σ⟩ t := by
     intro t ht
     simp only [List.mem_cons, zH, or_false] at ht
     rcases ht with rfl | rfl | rfl | rfl | rfl | rfl | rfl | rfl | rfl
     ·exact @vz ⟨σ⟩
     ·exact @wa ⟨σ⟩
     ·exact @vk ⟨σ⟩
     ·exact @vl ⟨σ⟩
     ·exact @v6 ⟨σ⟩
     ·exact @v8 ⟨σ⟩
     ·exact @aap ⟨σ⟩
     ·exact @aa0 ⟨σ⟩
     ·exact @aa5 ⟨σ⟩
    have hl : ∀ t ∈ [rgk mLg], @lf ⟨σ⟩ t := by
     intro t ht
     simp only [List.mem_cons, zH, or_false] at ht
     rcases ht with rfl
     ·exact fun σ' _ hA hb' => ((ih σ') (fe hA).1 (by have z : 0 ≤ (mLg).eval σ' ∧ (mLg).eval σ' < (mLg).eval σ := hb'; omega)) (fe hA).2
    exact @bdf ⟨σ⟩ hw hl hI
theorem bb2 [Gv] : lf bfx := fun σ _ hA _ => ((axg (((mLg).eval σ).toNat + 1) σ) (fe hA).1 (by omega)) (fe hA).2
def bg7 [Gv] : Prop := (SAll Gv.σ [] → di 54 bhb 260 bg8 bha 300 bg9)
theorem bdo [Gv] (hw : ∀ t ∈ [ae9, afd, ae3, ae4, afa, afb, ae8, afe, afh, wnt mWn], cy t) (hl : ∀ t ∈ [nlp mWn], lf t) (hI : SAll Gv.σ aoo) : bg7 := by
 have q := zf7 (hI)
 obtain ⟨hP, hR, e1, e2, b1, b2, b3, b4, b5, b6, b7, _⟩ := q
 obtain ⟨k1, k2, _⟩ := id hR
 have w := zf9 (fns (σ := Gv.σ) hR (.v 2))
 have hI := zE5 hI avo (.c 1)
 rcases zl5 hI (.v 22) (.c 200) with ⟨hI, k2⟩ | ⟨hI, k2⟩
 ·rcases zq5 hI af8 (.c 2) with ⟨hI, k3⟩ | ⟨hI, k3⟩
  ·have hI := zE5 hI ayb (.c 1)
   have t1 := zf5 (fns (σ := Gv.σ) hR (.app 204 aya))
   rcases zq5 hI (.app 204 (.g (.s 5) (.i n6 (.i (.c 3) .nil)))) (.c 1) with ⟨hI, k5⟩ | ⟨hI, k5⟩
   ·have hI := zE5 hI (.app 204 (.g (.s 5) (.i n6 (.i (.c 4) .nil)))) (.c 0)
    have hI := zN5 hI o9 (.c 1)
    have hI := zE5 hI aor (.c 1)
    have hI := zF5 hI (.c 65536) nw
    have hI := zF5 hI (.c 400000) ml
    have hI := zN5 hI o9 (.c 2)
    have hI := zE5 hI o9 (.c 0)
    have hI := zF5 hI ny af5
    have hI := zF5 hI af6 ny
    have hI := zF5 hI (.c 20000) wq
    have hI := zE5 hI af7 (.c 1)
    have hI := zF5 hI (.c 65536) n5
    have hI := zF5 hI (.c 400000) jm
    have hI := zF5 hI n6 (.c 1)
    have hI := zT5 hI n6 af4
    have hI := zF5 hI n5 (.c 0)
    have hI := zE5 hI af9 jm
    have hI := zF5 hI jm (.c 1)
    have hI := zF5 hI aga jm
    have hI := zF5 hI (.c 200) qk
    have hI := zF5 hI qk (.c 1)
    have hI := zF5 hI (.c 30000) ayf
    have hI := zT5 hI agb aec
    have hI := zF5 hI agb (.c 0)
    have u := e1
    exact zm [] (.i aot (.v 22) .nil) (zh hI hw) (lw hI _ hl) hI ze2
   ·have hI := zE5 hI aor (.c 1)
    have hI := zF5 hI (.c 65536) nw
    have hI := zF5 hI (.c 400000) ml
    have hI := zN5 hI o9 (.c 2)
    have hI := zE5 hI o9 (.c 0)
    have hI := zF5 hI ny af5
    have hI := zF5 hI af6 ny
    have hI := zF5 hI (.c 20000) wq
    have hI := zE5 hI af7 (.c 1)
    have hI := zF5 hI (.c 65536) n5
    have hI := zF5 hI (.c 400000) jm
    have hI := zF5 hI n6 (.c 1)
    have hI := zT5 hI n6 af4
    have hI := zF5 hI n5 (.c 0)
    have hI := zE5 hI af9 jm
    have hI := zF5 hI jm (.c 1)
    have hI := zF5 hI aga jm
    have hI := zF5 hI (.c 200) qk
    have hI := zF5 hI qk (.c 1)
    have hI := zF5 hI (.c 30000) ayf
    have hI := zT5 hI agb aec
    have hI := zF5 hI agb (.c 0)
    have u := e1
    exact zm [] (.i aot (.v 22) .nil) (zh hI hw) (lw hI _ hl) hI ze2
  ·have hI := zE5 hI aor (.c 1)
   have hI := zF5 hI (.c 65536) nw
   have hI := zF5 hI (.c 400000) ml
   have hI := zE5 hI o9 (.c 2)
   have hI := zE5 hI ny (.c 0)
   have hI := zF5 hI nw (.c 0)
   have hI := zE5 hI aoq ml
   have hI := zF5 hI ml (.c 1)
   have hI := zF5 hI ayi ml
   have hI := zF5 hI (.c 200) qk
   have hI := zF5 hI qk (.c 0)
   have hI := zF5 hI (.c 30000) (.bin 6 .i64 nw (.bin 6 .i64 (.c 22000) aye))
   have hI := zT5 hI ayj aec
   have hI := zF5 hI ayj (.c 0)
   have u := e1
   exact zm [] (.i aot (.v 22) .nil) (zh hI hw) (lw hI _ hl) hI ze2
 ·have u := e1
  exact zm0 [] (zh hI hw) (lw hI _ hl) hI
def be1 [Gv] : Prop := (SAll Gv.σ [] → agq 101 4 be5 bez 262 be2 be4 300 be3)
theorem bdb [Gv] (hw : ∀ t ∈ [ae9, afd, ae3, ae4, afa, afb, ae8, afe, afh, wnt mNl], cy t) (hl : ∀ t ∈ [nlp mNl], lf t) (hI : SAll Gv.σ aop) : be1 := by
 have q := zf7 (hI)
 obtain ⟨hP, hR, e1, m1, m2, b1, b2, b3, b4, b5, b6, b7, _⟩ := q
 obtain ⟨k1, k2, _⟩ := id hR
 have w := zf4 (fns (σ := Gv.σ) hR (.v 2))
 have hI := zE6 hI avo (.c 1)
 have hI := zE6 hI (.app 228 (.g (.lit 1 32) .nil)) (.c 1)
 have hI := zF6 hI (.c 65536) nw
 have hI := zF6 hI (.c 400000) ml
 rcases zq6 hI o9 (.c 2) with ⟨hI, k5⟩ | ⟨hI, k5⟩
 ·have hI := zE6 hI ny (.c 0)
  have hI := zF6 hI nw (.c 0)
  have hI := zE6 hI aoq ml
  have hI := zF6 hI ml (.c 1)
  have hI := zF6 hI ayi ml
  have hI := zF6 hI (.v 22) (.c 0)
  have hI := zF6 hI (.c 30000) (.bin 6 .i64 nw a50)
  have hI := zT6 hI aec avm
  have hI := zF6 hI aec (.c 0)
  have u := e1
  exact zd0 [] (zh hI hw) (lw hI _ hl) hI
 ·have hI := zE6 hI o9 (.c 0)
  have hI := zF6 hI ny af5
  have hI := zF6 hI af6 ny
  have hI := zF6 hI (.c 20000) wq
  have hI := zE6 hI af7 (.c 1)
  have hI := zF6 hI (.c 65536) n5
  have hI := zF6 hI (.c 400000) jm
  have hI := zE6 hI af8 (.c 2)
  have hI := zF6 hI n6 (.c 1)
  have hI := zT6 hI n6 af4
  have hI := zF6 hI n5 (.c 0)
  have hI := zE6 hI af9 jm
  have hI := zF6 hI jm (.c 1)
  have hI := zF6 hI aga jm
  have hI := zF6 hI (.c 30000) (.bin 6 .i64 ayd ax8)
  have hI := zT6 hI ayk avm
  have hI := zF6 hI ayk (.c 0)
  have u := e1
  exact zd0 [] (zh hI hw) (lw hI _ hl) hI
theorem anz : ∀ (B : Nat) (σ : Nat → List Int), (SAll σ aoo → (mWn).eval σ < (B : Int) → @bg7 ⟨σ⟩) ∧ (SAll σ aop → (mNl).eval σ < (B : Int) → @be1 ⟨σ⟩)
 | 0, σ => ⟨fun hI hb => by exfalso; have q := hI; simp (disch := omega) only [sall_cons, sT, sF, sE, sN, evs, evE, aeq, rgN1, nsN1, chN1, vcsN1] at q; obtain ⟨hP, hR, e1, e2, b1, b2, b3, b4, b5, b6, b7, _⟩ := q; simp only [mWn, evs, wr] at hb; omega, fun hI hb => by exfalso; have q := hI; simp (disch := omega) only [sall_cons, sT, sF, sE, sN, evs, evE, aeq, rgN1, nsN1, chN1, vcsN1] at q; obtain ⟨hP, hR, e1, m1, m2, b1, b2, b3, b4, b5, b6, b7, _⟩ := q; obtain ⟨k1, k2, _⟩ := id hR; simp only [mNl, evs, wr] at hb; omega⟩
 | B + 1, σ => by
   have ih := anz B
   refine ⟨?_, ?_⟩
   ·intro hI hb
    have hw : ∀ t ∈ [ae9, afd, ae3, ae4, afa, afb, ae8, afe, afh, wnt mWn], @cy ⟨σ⟩ t := by
     intro t ht
     simp only [List.mem_cons, zH, or_false] at ht
     rcases ht with rfl | rfl | rfl | rfl | rfl | rfl | rfl | rfl | rfl | rfl
     ·exact @vz ⟨σ⟩
     ·exact @wa ⟨σ⟩
     ·exact @vk ⟨σ⟩
     ·exact @vl ⟨σ⟩
     ·exact @v6 ⟨σ⟩
     ·exact @v8 ⟨σ⟩
     ·exact @aap ⟨σ⟩
     ·exact @aa0 ⟨σ⟩
     ·exact @aa5 ⟨σ⟩
     ·exact fun σ' _ hA hb' => ((ih σ').1 (fe hA).1 (by have z : 0 ≤ (mWn).eval σ' ∧ (mWn).eval σ' < (mWn).eval σ := hb'; omega)) (fe hA).2
    have hl : ∀ t ∈ [nlp mWn], @lf ⟨σ⟩ t := by
     intro t ht
     simp only [List.mem_cons, zH, or_false] at ht
     rcases ht with rfl
     ·exact fun σ' _ hA hb' => ((ih σ').2 (fe hA).1 (by have z : 0 ≤ (mNl).eval σ' ∧ (mNl).eval σ' < (mWn).eval σ := hb'; omega)) (fe hA).2
    exact @bdo ⟨σ⟩ hw hl hI
   ·intro hI hb
    have hw : ∀ t ∈ [ae9, afd, ae3, ae4, afa, afb, ae8, afe, afh, wnt mNl], @cy ⟨σ⟩ t := by
     intro t ht
     simp only [List.mem_cons, zH, or_false] at ht
     rcases ht with rfl | rfl | rfl | rfl | rfl | rfl | rfl | rfl | rfl | rfl
     ·exact @vz ⟨σ⟩
     ·exact @wa ⟨σ⟩
     ·exact @vk ⟨σ⟩
     ·exact @vl ⟨σ⟩
     ·exact @v6 ⟨σ⟩
     ·exact @v8 ⟨σ⟩
     ·exact @aap ⟨σ⟩
     ·exact @aa0 ⟨σ⟩
     ·exact @aa5 ⟨σ⟩
     ·exact fun σ' _ hA hb' => ((ih σ').1 (fe hA).1 (by have z : 0 ≤ (mWn).eval σ' ∧ (mWn).eval σ' < (mNl).eval σ := hb'; omega)) (fe hA).2
    have hl : ∀ t ∈ [nlp mNl], @lf ⟨σ⟩ t := by
     intro t ht
     simp only [List.mem_cons, zH, or_false] at ht
     rcases ht with rfl
     ·exact fun σ' _ hA hb' => ((ih σ').2 (fe hA).1 (by have z : 0 ≤ (mNl).eval σ' ∧ (mNl).eval σ' < (mNl).eval σ := hb'; omega)) (fe hA).2
    exact @bdb ⟨σ⟩ hw hl hI
theorem bcd [Gv] : cy bg6 := fun σ _ hA _ => ((anz (((mWn).eval σ).toNat + 1) σ).1 (fe hA).1 (by omega)) (fe hA).2
theorem bbp [Gv] : lf be0 := fun σ _ hA _ => ((anz (((mNl).eval σ).toNat + 1) σ).2 (fe hA).1 (by omega)) (fe hA).2
end Go.Ev
