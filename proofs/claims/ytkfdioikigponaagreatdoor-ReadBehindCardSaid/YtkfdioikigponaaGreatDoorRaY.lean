import Derived.Test.YtkfdioikigponaaGreatDoorRaX
import Derived.Test.YtkfdioikigponaaGreatDoorEvGh
set_option maxRecDepth 100000
set_option linter.all false
namespace Go.Ev
theorem afb : ∀ (f : Nat) (s : List Int) (p : Nat), p ≤ s.length → (kc f s p).length ≤ s.length - p ∧ ∀ x ∈ kc f s p, 0 ≤ x ∧ x < 1114112
 | 0, s, p, _ => ⟨Nat.zero_le _, fun x h => by cases h⟩
 | f + 1, s, p, hp => by
   unfold kc
   split
   ·rename_i h
    have hb := rn s p h
    have hb' : 1 ≤ (Utf8.decode (va s) p).2 ∧ p + (Utf8.decode (va s) p).2 ≤ s.length ∧ (Utf8.decode (va s) p).1 ≤ 1114111 := hb
    obtain ⟨i1, i2⟩ := afb f s (p + (Utf8.decode (va s) p).2) hb'.2.1
    refine ⟨by simp only [zO]; omega, fun x hx => ?_⟩
    rcases List.mem_cons.1 hx with rfl | hx
    ·omega
    ·exact i2 x hx
   ·exact ⟨Nat.zero_le _, fun x h => by cases h⟩
theorem f8 (s : List Int) : (ai s 0).length ≤ s.length := by have := (afb s.length s 0 (Nat.zero_le _)).1; exact this
theorem ajo {s : List Int} (h : s.length ≤ 4000) : gn (ai s 0) := ⟨Nat.le_trans (f8 s) h, (afb s.length s 0 (Nat.zero_le _)).2⟩
theorem a6i {s : List Int} (h : 0 < s.length) : 0 < (ai s 0).length := by rw [wj h]; exact Nat.succ_pos _
section
variable {P : List Int → Prop}
end
def yi (r : FR) : Prop := ¬ r.f = 13
theorem fu {f a : Int} (h : ¬ f = 13) : yi (bad f a) := h
theorem fb {c : Prop} [Decidable c] {a b : FR} (h1 : c → yi a) (h2 : ¬ c → yi b) : yi (if c then a else b) := by
 by_cases h : c
 ·rw [if_pos h]; exact h1 h
 ·rw [if_neg h]; exact h2 h
theorem a8d {G s : List Int} {a e : Int} {h : List Int} : yi (ai7 G s a e h) := by
 unfold ai7
 have := auc G s
 split
 ·exact show ¬ (0 : Int) = 13 by decide
 ·exact fu (by omega)
theorem bc3 {G : List Int} {i : Nat} {h : List Int} {k n q e : Int} : yi (asv (aje i h k n) q e G) := by
 unfold asv
 have := ayu i h k n
 split
 ·exact show ¬ (0 : Int) = 13 by decide
 ·exact fu (by omega)
theorem bs5 {G h : List Int} {c q e n : Int} : yi (avr (afg h c) q e n G) := by
 unfold avr
 have := bl8 h c
 split
 ·exact show ¬ (0 : Int) = 13 by decide
 ·exact fu (by omega)
theorem brh {r : FR} {q : Int} (h : yi r) : yi (we r q) := by
 unfold we
 split
 ·exact bc3
 ·exact h
theorem bcj {R : List Int} (hR : gn R) : ∀ (n : Nat),
  (∀ p o h G, (2 * ((R.length : Int) - p).toNat + 1 ≤ n) → p ≤ (R.length : Int) → yi (al R p o h G)) ∧
  (∀ p o a c k m h G, (2 * ((R.length : Int) - p).toNat + 2 ≤ n) → p ≤ (R.length : Int) → yi (iu R p o a c k m h G)) ∧
  (∀ p o a c h G, (2 * ((R.length : Int) - p).toNat + 2 ≤ n) → p ≤ (R.length : Int) → yi (qd R p o a c h G))
 | 0 => ⟨fun _ _ _ _ h => by omega, fun _ _ _ _ _ _ _ _ h => by omega, fun _ _ _ _ _ _ h => by omega⟩
 | n + 1 => by
   obtain ⟨i1, i2, i3⟩ := bcj hR n
   refine ⟨fun p o h G hn hp => ?_, fun p o a c k m h G hn hp => ?_, fun p o a c h G hn hp => ?_⟩
   ·have hg := fq R p 0
    have hl := gm R _ p 0 (zY _) hp
    rw [ap]
    refine fb (fun hq => ?_) (fun _ => fu (by decide))
    have at1 : ∀ x : Int, 0 ≤ x → chA R (af R p 0 + 1) = x → af R p 0 + 1 < (R.length : Int) := by
     intro x hx h9
     rw [bp] at h9
     by_cases h8 : af R p 0 + 1 < (R.length : Int)
     ·exact h8
     ·rw [if_neg h8] at h9; omega
    generalize af R p 0 = q at *
    have hpre : ∀ m : Int, (m = 1 ∨ m = 2) → q + m ≤ (R.length : Int) → yi (if 200 ≤ o then bad 12 q else we (al R (q + m) (o + 1) h G) q) := fun m hm hl2 =>
     fb (fun _ => fu (by decide)) (fun _ => brh (i1 (q + m) _ _ _ (by omega) hl2))
    refine fb (fun n1 => ?_) (fun n1 => ?_)
    ·exact fb (fun _ => fu (by decide)) (fun _ => i2 (q + 1) _ _ _ _ _ _ _ (by omega) (by omega))
    refine fb (fun n2 => ?_) (fun n2 => ?_)
    ·exact fb (fun _ => fu (by decide)) (fun _ => i3 (q + 1) _ _ _ _ _ (by omega) (by omega))
    refine fb (fun n3 => fu (by decide)) (fun n3 => ?_)
    refine fb (fun n4 => ?_) (fun n4 => ?_)
    ·unfold a2r
     obtain ⟨ht, _⟩ := ach hR _ (q + 1) [] (zY _) (by omega)
     refine fb (fun h1 => ?_) (fun h1 => fu (by omega))
     have := bdb h (np R (q + 1) []).b
     exact fb (fun _ => show ¬ (0 : Int) = 13 by decide) (fun h2 => fu (by omega))
    refine fb (fun n5 => ?_) (fun n5 => ?_)
    ·unfold a4c
     obtain ⟨hc, _⟩ := azc hR q hq
     exact fb (fun h1 => show ¬ (0 : Int) = 13 by decide) (fun h1 => fu (by omega))
    refine fb (fun n6 => hpre 1 (.inl rfl) (by omega)) (fun n6 => ?_)
    refine fb (fun n7 => ?_) (fun n7 => ?_)
    ·exact fb (fun h9 => hpre 2 (.inr rfl) (by have := at1 64 (by omega) h9; omega)) (fun _ => hpre 1 (.inl rfl) (by omega))
    refine fb (fun n8 => ?_) (fun n8 => ?_)
    ·refine fb (fun h9 => hpre 2 (.inr rfl) (by have := at1 39 (by omega) h9; omega)) (fun _ => ?_)
     exact fb (fun h9 => a8d) (fun _ => fu (by decide))
    ·unfold alj
     refine fb (fun hf => ?_) (fun _ => fu (by decide))
     refine fb (fun _ => fu (by decide)) (fun _ => ?_)
     refine fb (fun _ => show ¬ (0 : Int) = 13 by decide) (fun _ => ?_)
     refine fb (fun _ => fu (by decide)) (fun _ => ?_)
     refine fb (fun _ => fu (by decide)) (fun _ => ?_)
     exact a8d
   ·have hg := fq R p 0
    have hl := gm R _ p 0 (zY _) hp
    rw [ce]
    generalize af R p 0 = s at *
    split
    ·rename_i hs
     split
     ·exact bc3
     ·split
      ·split
       ·rename_i hf
        have h1 := (dx hR _).1 (s + 1) o h G (zY _) (by omega) hf
        have h3 := fq R (al R (s + 1) o h G).p 0
        have h4 := gm R _ (al R (s + 1) o h G).p 0 (zY _) h1.2
        split
        ·split
         ·exact i2 _ _ _ _ _ _ _ _ (by omega) (by omega)
         ·exact fu (by decide)
        ·exact fu (by decide)
       ·exact i1 (s + 1) o h G (by omega) (by omega)
      ·split
       ·rename_i hf
        have h1 := (dx hR _).1 s o h G (zY _) (by omega) hf
        split
        ·exact i2 _ _ _ _ _ _ _ _ (by omega) (by omega)
        ·exact fu (by decide)
       ·exact i1 s o h G (by omega) (by omega)
    ·exact fu (by decide)
   ·have hg := fq R p 0
    have hl := gm R _ p 0 (zY _) hp
    rw [ga]
    generalize af R p 0 = s at *
    split
    ·rename_i hs
     split
     ·exact bs5
     ·split
      ·rename_i hf
       have h1 := (dx hR _).1 s o h G (zY _) (by omega) hf
       split
       ·exact i3 _ _ _ _ _ _ (by omega) (by omega)
       ·exact fu (by decide)
      ·exact i1 s o h G (by omega) (by omega)
    ·exact fu (by decide)
theorem ajd (R : List Int) (p : Int) (hp : p ≤ (R.length : Int)) : af R (af R p 0) 0 = af R p 0 := by
 by_cases h : af R p 0 < (R.length : Int)
 ·have h1 := ad0 R _ p 0 (zY _) h
  rw [dc, if_pos h, if_neg (by decide), if_neg h1.2, if_neg (by omega)]
 ·rw [dc, if_neg h]
open Classical in
noncomputable def cbx (s : List Int) (p i : Int) (L : List Int) (n : Int) (h1 G1 h G : List Int) : Int := if b6j s p i L n h1 G1 h G then 1 else 0
open Classical in
noncomputable def cay (s : List Int) (p i f a : Int) (h G : List Int) : Int := if b79 s p i f a h G then 1 else 0
theorem evx : (∀ (σ : Nat → List Int) (R l h G : GE) (p : SE), (SE.app 110 (.g R (.i p (.g l (.g h (.g G .nil)))))).eval σ = ((zu (R.eval σ) (p.eval σ) (l.eval σ) (h.eval σ) (G.eval σ)).l.length : Int) / 2) ∧
  (∀ (σ : Nat → List Int) (s L h1 G1 h G : GE) (p i n : SE), (SE.app 111 (.g s (.i p (.i i (.g L (.i n (.g h1 (.g G1 (.g h (.g G .nil)))))))))).eval σ = cbx (s.eval σ) (p.eval σ) (i.eval σ) (L.eval σ) (n.eval σ) (h1.eval σ) (G1.eval σ) (h.eval σ) (G.eval σ)) ∧
  (∀ (σ : Nat → List Int) (s h G : GE) (p i f a : SE), (SE.app 112 (.g s (.i p (.i i (.i f (.i a (.g h (.g G .nil)))))))).eval σ = cay (s.eval σ) (p.eval σ) (i.eval σ) (f.eval σ) (a.eval σ) (h.eval σ) (G.eval σ)) ∧
  (∀ (σ : Nat → List Int) (k : IntKind) (a b : SE), (SE.bin 5 k a b).eval σ = a.eval σ % b.eval σ) ∧
  (∀ (σ : Nat → List Int), (GE.app 109 .nil).eval σ = g0L) ∧ (Int.toNat 0 = 0) ∧ (∀ (σ : Nat → List Int) (s : GE), (SE.app 113 (.g s .nil)).eval σ = ptN (s.eval σ)) ∧ (∀ (σ : Nat → List Int) (s : GE), (SE.app 114 (.g s .nil)).eval σ = ptC (s.eval σ)) ∧
  (∀ (σ : Nat → List Int) (l : GE) (i n : SE), (GE.app 110 (.g l (.i i (.i n .nil)))).eval σ = wf (l.eval σ) (i.eval σ) (n.eval σ)) :=
 ⟨fun _ _ _ _ _ _ => rfl, fun _ _ _ _ _ _ _ _ _ _ => rfl, fun _ _ _ _ _ _ _ _ => rfl, fun _ _ _ _ => rfl, fun _ => rfl, rfl, fun _ _ => rfl, fun _ _ => rfl, fun _ _ _ _ => rfl⟩
theorem b2f : afn g0L = 62 := by decide +kernel
end Go.Ev
set_option maxRecDepth 100000
set_option linter.all false
namespace Go.Ev
abbrev af9 : SE := .rd (.s 5) (.c 0)
abbrev ajh : SE := .bin 6 .i64 (.c 1) (.bin 5 .i64 (.bin 6 .i64 af9 (.c (-1))) (.c 65536))
abbrev aoo : SE := .rd (.s 5) (.c 1)
abbrev bjc : List SA := [.mk false (.app 56 (.g (.s 5) .nil)) (.c 1) true, .mk false aoo (.c 0) true]
abbrev bir : List SA := [.mk false (.app 56 (.g (.s 5) .nil)) (.c 1) true]
abbrev bk1 : List SA := [.mk true (.c 3900) (.len (.s 3)) false, .mk true (.c 0) (.app 53 (.g (.s 4) .nil)) true]
abbrev abw : SE := .app 50 (.g (.s 3) .nil)
abbrev awk : List SA := [.mk false abw (.c 1) false]
abbrev bi2 : List SA := [.mk false abw (.c 1) true, .mk true (.len (.s 3)) (.c 1) true]
abbrev bc6 : List SA := [.mk false abw (.c 1) true, .mk true (.len (.s 3)) (.c 1) false]
abbrev anc : AL := .i (.c 0) .nil
abbrev ado : GE := .app 6 (.g (.s 3) anc)
abbrev uh : SE := .len ado
abbrev a94 : List SA := [.mk true (.v 1) (.c 0) false, .mk true uh (.v 1) false]
abbrev wx : SE := .app 43 (.g ado (.i (.v 1) anc))
abbrev bbb : List SA := [.mk false abw (.c 1) true, .mk true wx uh false]
abbrev aa7 : AL := .g ado (.i wx (.i (.c 0) (.g (.s 5) (.g (.s 4) .nil))))
abbrev alx : SE := .app 60 aa7
abbrev bba : List SA := [.mk false abw (.c 1) true, .mk true wx uh true, .mk false alx (.c 0) true]
abbrev bab : List SA := [.mk false abw (.c 1) true, .mk true wx uh true, .mk false alx (.c 0) false]
abbrev bah : AL := .g ado .nil
noncomputable section
def b85 : List AV := [.ptr (K.of 256) 0]
def b6e : List HO := [hpO 256 (.s 5) .nilSlice]
def b6o : List HO := [hpO 256 (.s 5) .nilSlice]
def b8t : TR := .ret (.sym .i64 ajh [])
def b9m : List AV := [.ptr (K.of 256) 0]
def b76 : List HO := (hpS 256 257 (.s 5))
def b4y : List HO := hpS 256 257 (.s 5)
def b9o : TR := .ret (.sym .i64 ajh [])
def b5w : List AV := [.ptr (K.of 256) 0]
def b5d : List HO := [hpG 256 (.s 5)]
def cac : List HO := [hpG 256 (.s 5)]
def b6u : TR := .ret (.sym .i64 ajh [])
def caf : TM := .mk 48 b5w 257 b5d ([] ++ []) none b6u 258 cac
def b8p : List AV := [.ptr (K.of 256) 0]
def b7q : List HO := [hpO 256 (.s 5) .nilSlice]
def b5m : List HO := [hpO 256 (.s 5) .nilSlice]
def cah : TR := .ret (.sym .i64 aoo [])
def b7k : List AV := [.ptr (K.of 256) 0]
def b5n : List HO := (hpS 256 257 (.s 5))
def b8s : List HO := hpS 256 257 (.s 5)
def b6i : TR := .ret (.sym .i64 aoo [])
def b6y : List AV := [.ptr (K.of 256) 0]
def b67 : List HO := [hpG 256 (.s 5)]
def b8k : List HO := [hpG 256 (.s 5)]
def b9s : TR := .ret (.sym .i64 aoo [])
def b89 : TM := .mk 15 b6y 257 b67 ([] ++ []) none b9s 258 b8k
def rdX (k h t r : Nat) (R : GE) (p o : SE) : HO := .mk k (.cells 65 false 0 0 [.ptr (K.of h) 0, .ptr (K.of t) 0, .gv (.sl (K.of r) 1 (.len R) []), .sym .i64 p [], .sym .i64 o []])
def rwX (r : Nat) (R : GE) : HO := .mk r (.gob (.gh 3 [.i64] (.len R) R))
def hgO (g : GE) (kj : Nat) (m : GE) : List HO := [hpG 256 g] ++ akf 257 kj 259 m
def rdN (k h t : Nat) : HO := .mk k (.cells 65 false 0 0 [.ptr (K.of h) 0, .ptr (K.of t) 0, .nilSlice, .int .i64 0, .int .i64 0])
def A39 : List SA := bk1
def be5 : List AV := [.ptr (K.of 256) 0, .ptr (K.of 257) 0, .gv (.str (.s 3) [])]
def bgu : List HO := hgO (.s 5) 258 (.s 4)
def bxt : List HO := hgO (.s 5) 258 (.s 4)
def bv6 : TR := .ret (.tuple [.nilPtr, .int .i64 5])
def bxk : TM := .mk 32 be5 260 bgu (A39 ++ awk) none bv6 262 bxt
def bzw : List HO := (hgO (.s 5) 258 (.s 4) ++ [rdN 260 256 257])
def bz6 : TR := .ret (.tuple [.ptr (K.of 260) 0, .int .i64 0])
def bw4 : TM := .mk 32 be5 260 bgu (A39 ++ bi2) none bz6 262 bzw
def bya : List HO := (hgO (.s 5) 258 (.s 4) ++ [rdX 260 256 257 261 deA (.c 0) (.c 0), rwX 261 deA])
def bt9 : TR := .ret (.tuple [.ptr (K.of 260) 0, .int .i64 0])
def byb : TM := .mk 32 be5 260 bgu (A39 ++ bc6) none bt9 262 bya
def bfe : List SA := A39 ++ a94
def a06 : List AV := [.ptr (K.of 256) 0, .ptr (K.of 257) 0, .gv (.str (.s 3) []), .sym .i64 (.v 1) []]
def a4a : List HO := hgO (.s 5) 258 (.s 4)
def bxm : List HO := hgO (.s 5) 258 (.s 4)
def bw1 : TR := .ret (.tuple [.agg [.int .i64 0, .int .i64 0], .int .i64 0, .agg [.int .i64 5, .int .i64 0]])
def bz5 : TM := .mk 12 a06 260 a4a (bfe ++ awk) none bw1 264 bxm
def bv8 : List HO := hgO (.s 5) 258 (.s 4)
def buq : TR := .ret (.tuple [.agg [.int .i64 0, .int .i64 0], .int .i64 0, .agg [.int .i64 13, .sym .i64 uh []]])
def bwj : TM := .mk 12 a06 260 a4a (bfe ++ bbb) none buq 264 bv8
def bzx : List HO := hgO (.app 60 aa7) 260 (.app 61 aa7)
def buz : TR := .ret (.tuple [.agg [.sym .i64 (.app 62 aa7) [], .sym .i64 (.app 63 aa7) []], .sym .i64 (.app 64 aa7) [], .agg [.int .i64 0, .int .i64 0]])
def buf : TM := .mk 12 a06 260 a4a (bfe ++ bba) none buz 264 bzx
def bzk : List HO := []
def bz0 : TR := .ret (.tuple [.agg [.int .i64 0, .int .i64 0], .int .i64 0, .agg [.sym .i64 alx [], .sym .i64 (.app 61 aa7) []]])
def bv9 : TM := .mk 12 a06 260 a4a (bfe ++ bab) none bz0 264 bzk
end
section
variable {σ : Nat → List Int}
theorem bk8 (h : SAll σ A39) : ((σ 3).length : Int) ≤ 3900 ∧ 0 < afn (σ 4) := by
 have h : SAll σ bk1 := h
 simp only [sall_cons, sT, sF, evs] at h
 exact ⟨h.1, h.2.1⟩
theorem btn (h : SAll σ bfe) : (((σ 3).length : Int) ≤ 3900 ∧ 0 < afn (σ 4)) ∧ 0 ≤ (σ 1).headD 0 ∧ (σ 1).headD 0 ≤ ((ai (σ 3) 0).length : Int) := by
 have h1 : SAll σ (A39 ++ a94) := h
 have h2 := (aj h1).2
 simp only [sall_cons, sF, evs, evx] at h2
 exact ⟨bk8 (aj h1).1, h2.1, h2.2.1⟩
theorem cbp (h : ((σ 3).length : Int) ≤ 3900) : (SE.app 42 bah).eval σ = 1 := of_decide_eq_true (s42.2 (ajo (s := σ 3) (by omega)))
theorem fSK (g : GE) (a : SE) : a.eval σ ≤ (SE.app 43 (.g g (.i a anc))).eval σ ∧ (a.eval σ ≤ (SE.len g).eval σ → (SE.app 43 (.g g (.i a anc))).eval σ ≤ (SE.len g).eval σ) :=
 ⟨fq _ _ _, fun h => gm _ _ _ _ (zY _) h⟩
end
def b7z [Gv] : Prop := (SAll Gv.σ [] → ba 48 b85 257 b6e b8t 258 b6o)
theorem b0r [Gv] (hI : SAll Gv.σ bjc) : b7z := by
 obtain ⟨g0, g1, g2, g3, g4, g5, hI2⟩ := abd hI
 try simp only [sall_cons, sT, sF, sE, sN, evs, wr] at hI2
 have hI := bth hI (.c 0) af9
 have u := g0
 exact zm [] (.i af9 ajh .nil) aa ag hI b10
def b6h [Gv] : Prop := (SAll Gv.σ [] → ba 48 b9m 258 b76 b9o 258 b4y)
theorem b3h [Gv] (hI : SAll Gv.σ bir) : b6h := by
 obtain ⟨g0, g1, g2, g3, g4, g5, hI2⟩ := abd hI
 try simp only [sall_cons, sT, sF, sE, sN, evs, wr] at hI2
 have hI := bth hI (.c 0) af9
 have u := g0
 exact zm [] (.i af9 ajh .nil) aa ag hI b10
def cbw [Gv] : Prop := (SAll Gv.σ [] → ba 48 b5w 257 b5d b6u 258 cac)
theorem b8i [Gv] (hI : SAll Gv.σ []) : cbw := by
 have hB : xx 257 [] := by
  intro n o h
  simp at h
 intro hC
 refine so (kd := 1) (g := .s 5) (g' := .s 5) (Lr := []) (loN := vq (.s 5) .nilSlice) (loS := xu (.s 5)) (loB := xr) (loN' := vq (.s 5) .nilSlice) (loS' := xu (.s 5)) (loB' := xr) (by omega) (by omega) (by omega) hB rfl rfl rfl rfl rfl (d7 (.s 5)) (d7 (.s 5)) ?_ ?_
 ·rintro ⟨hr, hm⟩
  exact ⟨_, 257, by omega, .inl ⟨⟨hr, hm⟩, rfl⟩, b0r (sc (s56.2 hr) (sc (bE _ _ hm) SAll.nil)) hC⟩
 ·intro hr
  exact ⟨_, 257, by omega, .inr ⟨hr, rfl⟩, b3h (sc (s56.2 hr) SAll.nil) hC⟩
theorem b18 [Gv] : am caf := fun σ _ hA _ => (@b8i ⟨σ⟩  (aj hA).1) (aj hA).2
def b57 [Gv] : Prop := (SAll Gv.σ [] → ba 15 b8p 257 b7q cah 258 b5m)
theorem b3p [Gv] (hI : SAll Gv.σ bjc) : b57 := by
 obtain ⟨g0, g1, g2, g3, g4, g5, hI2⟩ := abd hI
 try simp only [sall_cons, sT, sF, sE, sN, evs, wr] at hI2
 have hI := bth hI (.c 0) af9
 have u := g0
 exact zm [] (.i (.c 0) aoo .nil) aa ag hI b10
def cag [Gv] : Prop := (SAll Gv.σ [] → ba 15 b7k 258 b5n b6i 258 b8s)
theorem b1s [Gv] (hI : SAll Gv.σ bir) : cag := by
 obtain ⟨g0, g1, g2, g3, g4, g5, hI2⟩ := abd hI
 try simp only [sall_cons, sT, sF, sE, sN, evs, wr] at hI2
 have hI := bth hI (.c 0) af9
 have u := g0
 exact zm0 [] aa ag hI
def ccq [Gv] : Prop := (SAll Gv.σ [] → ba 15 b6y 257 b67 b9s 258 b8k)
theorem b50 [Gv] (hI : SAll Gv.σ []) : ccq := by
 have hB : xx 257 [] := by
  intro n o h
  simp at h
 intro hC
 refine so (kd := 1) (g := .s 5) (g' := .s 5) (Lr := []) (loN := vq (.s 5) .nilSlice) (loS := xu (.s 5)) (loB := xr) (loN' := vq (.s 5) .nilSlice) (loS' := xu (.s 5)) (loB' := xr) (by omega) (by omega) (by omega) hB rfl rfl rfl rfl rfl (d7 (.s 5)) (d7 (.s 5)) ?_ ?_
 ·rintro ⟨hr, hm⟩
  exact ⟨_, 257, by omega, .inl ⟨⟨hr, hm⟩, rfl⟩, b3p (sc (s56.2 hr) (sc (bE _ _ hm) SAll.nil)) hC⟩
 ·intro hr
  exact ⟨_, 257, by omega, .inr ⟨hr, rfl⟩, b1s (sc (s56.2 hr) SAll.nil) hC⟩
theorem b1r [Gv] : am b89 := fun σ _ hA _ => (@b50 ⟨σ⟩  (aj hA).1) (aj hA).2
theorem b35 [Gv] : ∀ t ∈ [caf, bwu, byv, bul], am t := by
 intro t ht
 simp only [List.mem_cons, zH, or_false] at ht
 rcases ht with rfl | rfl | rfl | rfl
 ·exact b18
 ·exact bpn
 ·exact bn9
 ·exact boe
def caw [Gv] : Prop := (SAll Gv.σ awk → ba 32 be5 260 bgu bv6 262 bxt) ∧ (SAll Gv.σ bi2 → ba 32 be5 260 bgu bz6 262 bzw) ∧ (SAll Gv.σ bc6 → ba 32 be5 260 bgu bt9 262 bya)
theorem bly [Gv] (hI : SAll Gv.σ A39) : caw := by
 obtain ⟨hL, hc⟩ := bk8 hI
 have hI := b45 hI ajh (.c 0)
 have t1 := btu (f53 (σ := Gv.σ) (.s 4))
 have hI := b45 hI (.app 53 (.g (.s 4) .nil)) (.c 0)
 rcases bqu hI abw (.c 1) with ⟨hI, k3⟩ | ⟨hI, k3⟩
 ·rcases b6z hI (.len (.s 3)) (.c 1) with ⟨hI, k4⟩ | ⟨hI, k4⟩
  ·have u := f8 (Gv.σ 3)
   exact ⟨x6,
    zm0 [(262, 260)] (zh hI b35) ag hI,
    x6⟩
  ·have u := f8 (Gv.σ 3)
   exact ⟨x6,
    x6,
    zm0 [(261, 261), (262, 260)] (zh hI b35) ag hI⟩
 ·have u := f8 (Gv.σ 3)
  exact ⟨zm0 [] (zh hI b35) ag hI,
   x6,
   x6⟩
theorem bpy [Gv] : am bxk := fun σ _ hA _ => (@bly ⟨σ⟩  (aj hA).1).1 (aj hA).2
theorem brs [Gv] : am bw4 := fun σ _ hA _ => (@bly ⟨σ⟩  (aj hA).1).2.1 (aj hA).2
theorem bpz [Gv] : am byb := fun σ _ hA _ => (@bly ⟨σ⟩  (aj hA).1).2.2 (aj hA).2
theorem bmw [Gv] : ∀ t ∈ [bxk, bw4, byb, af8, bw2, bv1], am t := by
 intro t ht
 simp only [List.mem_cons, zH, or_false] at ht
 rcases ht with rfl | rfl | rfl | rfl | rfl | rfl
 ·exact bpy
 ·exact brs
 ·exact bpz
 ·exact a54
 ·exact bq5
 ·exact bs3
def cb1 [Gv] : Prop := (SAll Gv.σ awk → ba 12 a06 260 a4a bw1 264 bxm) ∧ (SAll Gv.σ bbb → ba 12 a06 260 a4a buq 264 bv8) ∧ (SAll Gv.σ bba → ba 12 a06 260 a4a buz 264 bzx) ∧ (SAll Gv.σ bab → ba 12 a06 260 a4a bz0 264 bzk)
theorem ban [Gv] (hI : SAll Gv.σ bfe) : cb1 := by
 obtain ⟨⟨hL, hc⟩, hp0, hpl⟩ := btn hI
 have hdl := f8 (Gv.σ 3)
 rcases bqu hI abw (.c 1) with ⟨hI, k1⟩ | ⟨hI, k1⟩
 ·rcases b6z hI (.len (.s 3)) (.c 1) with ⟨hI, k2⟩ | ⟨hI, k2⟩
  ·have hI := b09 hI (.c 0) (.v 1)
   have hI := b5r hI (.v 1) (.c 0)
   have t1 := btu (fSK (σ := Gv.σ) ado (.v 1))
   have u := f8 (Gv.σ 3)
   exact ⟨x6,
    zm [] (.i (.c 0) uh .nil) (zh hI bmw) ag hI b5s,
    x6,
    x6⟩
  ·have t2 := btu (cbp (σ := Gv.σ) (by omega))
   have hI := b5r hI (.app 42 bah) (.c 1)
   have t3 := btu (fSK (σ := Gv.σ) ado (.v 1))
   rcases bqu hI wx uh with ⟨hI, k4⟩ | ⟨hI, k4⟩
   ·have u := f8 (Gv.σ 3)
    exact ⟨x6,
     zm [] (.i wx uh .nil) (zh hI bmw) ag hI b5s,
     x6,
     x6⟩
   ·have hI := b09 hI wx (.c 0)
    have hI := b09 hI uh wx
    rcases bqu hI alx (.c 0) with ⟨hI, k7⟩ | ⟨hI, k7⟩
    ·have u := f8 (Gv.σ 3)
     exact ⟨x6,
      x6,
      zm0 [(265, 260)] (zh hI bmw) ag hI,
      x6⟩
    ·have u := f8 (Gv.σ 3)
     exact ⟨x6,
      x6,
      x6,
      zm0 [] (zh hI bmw) ag hI⟩
 ·have u := f8 (Gv.σ 3)
  exact ⟨zm0 [] (zh hI bmw) ag hI,
   x6,
   x6,
   x6⟩
theorem brd [Gv] : am bz5 := fun σ _ hA _ => (@ban ⟨σ⟩  (aj hA).1).1 (aj hA).2
theorem bob [Gv] : am bwj := fun σ _ hA _ => (@ban ⟨σ⟩  (aj hA).1).2.1 (aj hA).2
theorem bss [Gv] : am buf := fun σ _ hA _ => (@ban ⟨σ⟩  (aj hA).1).2.2.1 (aj hA).2
theorem bof [Gv] : am bv9 := fun σ _ hA _ => (@ban ⟨σ⟩  (aj hA).1).2.2.2 (aj hA).2
end Go.Ev
