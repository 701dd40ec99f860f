import Derived.Test.YtocilenpboklbaaGreatDoorEvGk
set_option maxRecDepth 100000
set_option linter.all false
namespace Go.Ev
section
variable [Gv]
theorem dx {ρ : Env} {t : TypeId} {l : List AV} (hl : l.length ≤ 65536) {x : Option Obj} : ORel ρ (bu (.cells t false 0 0 l)) x ↔ ∃ arr fz, x = some (.cells arr t fz) ∧ fz.1 = fz.2 ∧ VRels ρ l arr.toList := by
 have hcc := gx l.length hl
 constructor
 ·rintro ⟨arr, fz, e1, e2, e3, e4, ⟨e5, e6⟩, e7⟩
  rw [ax] at *
  refine ⟨arr, fz, e1, ?_, VRels.of_get _ _ (by simpa using e3 rfl) fun i hi => ?_⟩
  ·apply Classical.byContradiction
   intro hne
   have := e6 fz.1 (zY _) (by omega)
   omega
  ·obtain ⟨v, h1, h2⟩ := e7 i (by omega)
   rw [ig l 0 _ i (by omega) (by omega), dif_pos ⟨Nat.zero_le _, by omega⟩] at h2
   exact ⟨v, by simpa using h1, by simpa using h2⟩
 ·rintro ⟨arr, fz, e1, e2, e3⟩
  have hlen := VRels.length _ _ e3
  simp only [Array.length_toList] at hlen
  refine ⟨arr, fz, e1, ?_, fun _ => ?_, ?_, ⟨by omega, fun i h1 h2 => by omega⟩, ?_⟩
  ·rw [ax]; omega
  ·rw [ax]; omega
  ·rw [ax, fw]; exact gx _ hl
  ·intro i hi
   rw [ax] at hi
   obtain ⟨v, h1, h2⟩ := VRels.get _ _ e3 i hi
   refine ⟨v, by simpa using h1, ?_⟩
   rw [ax, ig l 0 _ i (by omega) (by omega), dif_pos ⟨Nat.zero_le _, by omega⟩]
   simpa using h2
end
noncomputable section
def hfN (g : GE) : SE := .app 201 (.g g .nil)
def hfR (g : GE) (s : AV) : LO := .cells 132 false 0 0 [.sym .i64 (.rd g (.c 0)) [], .sym .i64 (hfN g) [], .sym .i64 (.app 202 (.g g .nil)) [], s, .nilSlice]
def hfS (g : GE) (k : Nat) : LO := hfR g (.gv (.sl (K.of k) 1 (hfN g) []))
def hfW (g : GE) (n : SE) (j : Int) : SE := .app 204 (.g g (.i n (.i (.c j) .nil)))
def hfP (g : GE) (n : SE) : LO := .cells 88 false 0 0 [.sym .i64 (hfW g n 1) [], .sym .i64 (hfW g n 2) [], .sym .i64 (hfW g n 3) [], .sym .i64 (hfW g n 4) []]
def hfO (g : GE) (n : SE) (t : TypeId) (k : Nat) : LO := .gp true 126 (hfN g) .nil [.mk n t (K.of k)]
end
theorem pf {H : Array Obj} : ∀ {L : List (List Int)} {os : List (Nat × Nat)}, lx L os H → os.length = L.length ∧ ∀ (i : Nat) (h : i < L.length) (h' : i < os.length), px L[i] os[i].1 os[i].2 H
 | [], [], _ => ⟨rfl, fun i h => by simp at h⟩
 | [], _ :: _, h => h.elim
 | _ :: _, [], h => h.elim
 | r :: L, p :: os, h => by
   obtain ⟨a, b, c, d⟩ := h
   obtain ⟨e, ih⟩ := pf d
   refine ⟨by simp [e], fun i q q' => ?_⟩
   cases i with
   | zero => exact a
   | succ i => exact ih i (by simpa using q) (by simpa using q')
theorem agy {os : List (Nat × Nat)} {i : Nat} (h : i < os.length) : j7 os os[i].1 ∧ j7 os os[i].2 := ⟨⟨os[i], List.getElem_mem h, .inl rfl⟩, ⟨os[i], List.getElem_mem h, .inr rfl⟩⟩
section
variable [Gv] {σ : Nat → List Int}
theorem ce (g : GE) {lim : Int} {L : List (List Int)} (h : g.eval σ = lim :: d6 L) : (hfN g).eval σ = (L.length : Int) := by
 show ((recs (g.eval σ).tail).length : Int) = _
 rw [h, List.tail_cons, gf]
theorem ix (g : GE) {lim : Int} {L : List (List Int)} (h : g.eval σ = lim :: d6 L) : (SE.app 202 (.g g .nil)).eval σ = du L := by
 show du (recs (g.eval σ).tail) = _
 rw [h, List.tail_cons, gf]
theorem gc (g : GE) {lim : Int} {L : List (List Int)} (h : g.eval σ = lim :: d6 L) : (SE.rd g (.c 0)).eval σ = lim := by
 show (g.eval σ).getD (0 : Int).toNat 0 = lim
 rw [h]; rfl
theorem ach {l : List Int} {lim : Int} {L : List (List Int)} (h : l = lim :: d6 L) {n : Nat} (hn : n < L.length) : obL l n = L[n] := by
 subst h
 unfold obL
 rw [if_pos (by omega), List.tail_cons, gf, Int.toNat_natCast, List.getD_eq_getElem?_getD, zK hn]; rfl
theorem afs {l : List Int} {lim : Int} {L : List (List Int)} (h : l = lim :: d6 L) {k n : Int} (hl : iq l k n = 1) : ∃ i, ∃ hi : i < L.length, n = (i : Int) ∧ L[i].getD 0 0 = k := by
 unfold iq at hl
 split at hl
 ·rename_i q
  obtain ⟨q1, q2, q3⟩ := q
  have hL : recs l.tail = L := by rw [h, List.tail_cons, gf]
  rw [hL] at q2
  obtain ⟨i, rfl⟩ : ∃ i : Nat, n = (i : Int) := ⟨n.toNat, by omega⟩
  have hi : i < L.length := by omega
  refine ⟨i, hi, rfl, ?_⟩
  rw [← q3, ach h hi]
 ·cases hl
theorem aq5 (g : GE) (n : SE) {lim : Int} {L : List (List Int)} (h : g.eval σ = lim :: d6 L) {i : Nat} (hn : n.eval σ = (i : Int)) (hi : i < L.length) (j : Nat) : (hfW g n j).eval σ = L[i].getD j 0 := by
 show (obL (g.eval σ) ([n.eval σ].headD 0)).getD ([((j : Int))].headD 0).toNat 0 = _
 simp only [List.headD_cons, hn, Int.toNat_natCast]
 rw [ach h hi]
end
end Go.Ev
set_option maxRecDepth 100000
set_option linter.all false
namespace Go.Ev
section
variable [Gv]
theorem j0 {ρ : Env} {e : SE} {z : Int} (h : e.eval Gv.σ = z) : VRel ρ (.sym .i64 e []) (aif z) := by
 simp only [VRel]
 exact ⟨SAll.nil, by rw [h]; rfl⟩
theorem a3j {g : GE} {lim : Int} {L : List (List Int)} (hg : g.eval Gv.σ = lim :: d6 L) {ρ : Env} {n : SE} {i : Nat} (hi : i < L.length) (hn : n.eval Gv.σ = (i : Int)) {os : List (Nat × Nat)} {arr : Array Value} {fz : Nat × Nat} {cap : Nat} {H : Array Obj} {b kx t : Nat}
  (hb : H[b]? = some (.cells arr 126 fz)) (hfz : fz.2 ≤ fz.1) (hcap : L.length ≤ cap) (hsz : cap ≤ arr.size) (harr : arr.toList.take L.length = (List.zipWith dq L (os.map (·.1))).map ky) (hos : os.length = L.length)
  (ht : (if dq L[i] os[i].1 % 4 = 2 then 86 else if dq L[i] os[i].1 % 4 = 3 then 121 else 101) = t) (hd : (dq L[i] os[i].1 / 4).toNat = os[i].1) (hk : ρ (K.of kx) = some os[i].1) : ORel ρ (bu (hfO g n t kx)) H[b]? := by
 have e1 := ce (σ := Gv.σ) g hg
 refine ⟨arr, fz, hb, hfz, by rw [e1]; omega, by rw [e1]; simp only [GE.eval, zS]; omega, by rw [e1]; omega, fun j hj => by simp only [GE.eval, zS] at hj; omega, ?_⟩
 intro e t' k hm
 rw [List.mem_singleton] at hm
 injection hm with m1 m2 m3
 subst m1 m2 m3
 rw [hn]
 refine ⟨by omega, os[i].1, hk, ?_⟩
 rw [Int.toNat_natCast]
 have h1 : (arr.toList.take L.length)[i]? = arr.toList[i]? := List.getElem?_take_of_lt hi
 rw [harr] at h1
 rw [← Array.getElem?_toList, ← h1]
 simp only [List.getElem?_map, List.getElem?_zipWith, zK hi, zK (show i < os.length by omega), Option.map_some]
 show some (ky (dq L[i] os[i].1)) = _
 unfold ky
 rw [ht, hd]
theorem ab5 {g : GE} {lim : Int} {L : List (List Int)} (hg : g.eval Gv.σ = lim :: d6 L) {ρ : Env} {b cap kx : Nat} {x : Option Obj} (hr : ajn lim L (.slice (some ⟨b, 0, none⟩) L.length cap) x) (hk : ρ (K.of kx) = some b) (hs : cap ≤ ρ.sz (K.of kx)) (hc : L.length ≤ cap) : ORel ρ (bu (hfS g kx)) x := by
 obtain ⟨arr, fz, hx, ha, hf⟩ := hr
 refine (dx (by simp)).2 ⟨arr, fz, hx, hf, ?_⟩
 rw [ha]
 have e1 := ce (σ := Gv.σ) g hg
 simp only [VRels]
 refine ⟨_, _, rfl, j0 (gc g hg), _, _, rfl, j0 e1, _, _, rfl, j0 (ix g hg), _, _, rfl, ?_, _, _, rfl, by simp only [VRel], rfl⟩
 simp only [VRel]
 refine ⟨SAll.nil, b, cap, hk, by rw [e1]; omega, by rw [e1]; omega, by omega, by rw [e1, Int.toNat_natCast]⟩
theorem awn {g : GE} {n : SE} {lim : Int} {L : List (List Int)} (hg : g.eval Gv.σ = lim :: d6 L) {i : Nat} (hi : i < L.length) (hn : n.eval Gv.σ = (i : Int)) (hk : L[i].getD 0 0 = 2) {ρ : Env} {o v : Nat} {H : Array Obj} (h : px L[i] o v H) : ORel ρ (bu (hfP g n)) H[o]? ∧ v = o := by
 rcases h with ⟨a, b, c, d, arr, fz, hr, hx, ha, hf, hv⟩ | ⟨bs, arr, fz, hr, _⟩ | ⟨ws, arr, fz, m, s, cap, hr, _⟩
 ·refine ⟨(dx (by simp)).2 ⟨arr, fz, hx, hf, ?_⟩, hv⟩
  rw [ha]
  have w := fun j => aq5 (σ := Gv.σ) g n hg hn hi j
  rw [hr] at w
  simp only [VRels]
  exact ⟨_, _, rfl, j0 (w 1), _, _, rfl, j0 (w 2), _, _, rfl, j0 (w 3), _, _, rfl, j0 (w 4), rfl⟩
 ·rw [hr] at hk; simp at hk
 ·rw [hr] at hk; simp at hk
end
end Go.Ev
set_option maxRecDepth 100000
set_option linter.all false
namespace Go.Ev
theorem amc {r : List Int} (hr : tc r = 0) : ∀ {L : List (List Int)} {i : Nat} (hi : i < L.length), tc L[i] = 0 → du (L.set i r) = du L
 | [], _, hi, _ => by simp at hi
 | x :: L, 0, hi, h => by
   have h : tc x = 0 := h
   show du (r :: L) = du (x :: L)
   simp only [du, List.map_cons, List.foldr_cons, hr, h]
 | x :: L, i + 1, hi, h => by
   have ih := amc hr (L := L) (i := i) (by simpa using hi) h
   show du (x :: L.set i r) = du (x :: L)
   simp only [du, List.map_cons, List.foldr_cons] at ih ⊢
   rw [ih]
theorem ak0 {r : List Int} : ∀ {L : List (List Int)} {i : Nat} (hi : i < L.length) (os : List Nat), L[i].getD 0 0 = r.getD 0 0 → List.zipWith dq (L.set i r) os = List.zipWith dq L os
 | [], _, hi, _, _ => by simp at hi
 | x :: L, _, _, [], _ => by simp
 | x :: L, 0, hi, o :: os, h => by
   have h : x.getD 0 0 = r.getD 0 0 := h
   show dq r o :: _ = dq x o :: _
   unfold dq; rw [h]
 | x :: L, i + 1, hi, o :: os, h => by
   show dq x o :: _ = dq x o :: _
   have := ak0 (L := L) (i := i) (by simpa using hi) os h
   show dq x o :: List.zipWith dq (L.set i r) os = dq x o :: List.zipWith dq L os
   rw [this]
theorem xw {H H' : Array Obj} {r : List Int} : ∀ {L : List (List Int)} {os : List (Nat × Nat)} {i : Nat} (hi : i < L.length) (ho : i < os.length), lx L os H → px r os[i].1 os[i].2 H' → (∀ x, j7 os x → x ≠ os[i].1 → x ≠ os[i].2 → H'[x]? = H[x]?) → lx (L.set i r) os H'
 | [], _, _, hi, _, _, _, _ => by simp at hi
 | _ :: _, [], _, _, ho, _, _, _ => by simp at ho
 | x :: L, p :: os, 0, hi, ho, h, hr, hF => by
   obtain ⟨a, b, c, d⟩ := h
   refine ⟨hr, b, c, kf (fun y hy => hF y ?_ ?_ ?_) d⟩
   ·obtain ⟨q, q1, q2⟩ := hy; exact ⟨q, zA _ q1, q2⟩
   ·rintro rfl; exact b hy
   ·rintro rfl; exact c hy
 | x :: L, p :: os, i + 1, hi, ho, h, hr, hF => by
   obtain ⟨a, b, c, d⟩ := h
   have ho' : i < os.length := by simpa using ho
   have g := agy ho'
   refine ⟨aew (hF _ ⟨p, List.mem_cons_self .., .inl rfl⟩ ?_ ?_) (hF _ ⟨p, List.mem_cons_self .., .inr rfl⟩ ?_ ?_) a, b, c, xw (by simpa using hi) ho' d hr fun y hy => hF y ?_⟩
   ·intro e; exact b (by rw [e]; exact g.1)
   ·intro e; exact b (by rw [e]; exact g.2)
   ·intro e; exact c (by rw [e]; exact g.1)
   ·intro e; exact c (by rw [e]; exact g.2)
   ·obtain ⟨q, q1, q2⟩ := hy; exact ⟨q, zA _ q1, q2⟩
noncomputable def hfQ (a b c d : SE) : LO := .cells 88 false 0 0 [.sym .i64 a [], .sym .i64 b [], .sym .i64 c [], .sym .i64 d []]
section
variable [Gv]
theorem bv {ρ : Env} {e : SE} {v : Value} (h : VRel ρ (.sym .i64 e []) v) : v = aif (e.eval Gv.σ) := by
 simp only [VRel] at h
 exact h.2
set_option maxHeartbeats 1000000 in
theorem yx {f nxi nxo : Nat} {g g' : GE} {n a b c d : SE} {us : List AV} {Lr Lo : List HO} {r : TR} (hi : 257 ≤ nxi) (hx : nxi + 2 ≤ 65535) (hxo : nxo ≤ 65535) (hL : agp nxi Lr)
  (hK : atg nxi 2 Lr [.mk nxi (hfO g n 86 (nxi + 1)), .mk (nxi + 1) (hfQ a b c d)] Lo)
  (hlive : iq (g.eval Gv.σ) 2 (n.eval Gv.σ) = 1) (hg' : ∀ lim L (i : Nat) (hi : i < L.length), g.eval Gv.σ = lim :: d6 L → n.eval Gv.σ = (i : Int) → (∃ x y z t, L[i] = [2, x, y, z, t]) → g'.eval Gv.σ = aks (g.eval Gv.σ) (n.eval Gv.σ) [2, a.eval Gv.σ, b.eval Gv.σ, c.eval Gv.σ, d.eval Gv.σ])
  (hf : ∀ lim L, g.eval Gv.σ = lim :: d6 L → im lim L → di f us (nxi + 2) (.mk 256 (hfS g nxi) :: .mk nxi (hfO g n 86 (nxi + 1)) :: .mk (nxi + 1) (hfP g n) :: Lr) r nxo (.mk 256 (hfS g nxi) :: .mk nxi (hfO g n 86 (nxi + 1)) :: .mk (nxi + 1) (hfQ a b c d) :: Lo)) :
  di f us nxi (.mk 256 (.gob (.lh 2 g)) :: Lr) r nxo (.mk 256 (.gob (.lh 2 g')) :: Lo) := by
 intro ρ args w hg hw hc hv
 have hk0 : aa (K.of 256) (ag (.mk 256 (.gob (.lh 2 g)) :: Lr) nxi).h ≠ .none := by
  show aa _ (ab _) ≠ _
  rw [af, if_pos rfl]; exact c7 _
 have hg0 : bi (aa (K.of 256) (ag (.mk 256 (.gob (.lh 2 g)) :: Lr) nxi).h) = some (2, g) := by
  show bi (aa _ (ab _)) = _
  rw [af, if_pos rfl]; rfl
 obtain ⟨c0, hc0, _⟩ := hw.dom _ hk0
 have q := hw.gho _ 2 g hg0
 rcases q.rel c0 hc0 with ⟨h1, _⟩ | ⟨_, hF⟩
 ·cases h1
 obtain ⟨lim, L, e, hok, hF⟩ := hF
 obtain ⟨i, hil, hn, hkind⟩ := afs e hlive
 rcases hF with ⟨h0, _⟩ | ⟨os, bb, arr, fz, cap, hFF, s1, s2, s3, s4, s5, s6, s7, s8, s9, s10, s11⟩
 ·subst h0; simp at hil
 obtain ⟨hos, hobj⟩ := pf s4
 have hio : i < os.length := by omega
 have hoi := hobj i hil hio
 have ob := agy hio
 have nb : bb ≠ os[i].1 := fun q => s3 (by rw [q]; exact ob.1)
 have n0 : os[i].1 ≠ c0 := fun q => s2 (by rw [← q]; exact ob.1)
 have ft : ∀ x, ρ.ft (K.of 256) x ↔ x = c0 ∨ x = bb ∨ j7 os x := fun x => by rw [hFF]
 obtain ⟨parr, pfz, pH⟩ : ∃ parr pfz, w.heap[os[i].1]? = some (.cells parr 88 pfz) ∧ parr.size = 4 := by
  rcases hoi with ⟨a, b, c, d, arr, fz, hr, hx, ha, _⟩ | ⟨bs, _, _, hr, _⟩ | ⟨ws, _, _, _, _, _, hr, _⟩
  ·exact ⟨arr, fz, hx, by rw [← Array.length_toList, ha]; rfl⟩
  ·rw [hr] at hkind; simp at hkind
  ·rw [hr] at hkind; simp at hkind
 have nK : ∀ j, j < 2 → (K.of (nxi + j)).num = nxi + j := fun j h => bw (by omega)
 let bs : List (Nat × Nat) := [(bb, arr.size), (os[i].1, 4)]
 have B0 : dh nxi bs (K.of nxi) = some (bb, arr.size) := by
  unfold dh
  rw [show (K.of nxi).num = nxi from nK 0 (by omega), if_pos (zY _), Nat.sub_self]; rfl
 have B1 : dh nxi bs (K.of (nxi + 1)) = some (os[i].1, 4) := by
  unfold dh
  rw [show (K.of (nxi + 1)).num = nxi + 1 from nK 1 (by omega), if_pos (by omega), show nxi + 1 - nxi = 1 by omega]; rfl
 have hO : GhOpen (K.of 256) (dh nxi bs) 2 g ρ (ag (.mk 256 (.gob (.lh 2 g)) :: Lr) nxi) w c0 (ag (.mk 256 (hfS g nxi) :: (mkL nxi [hfO g n 86 (nxi + 1), hfP g n] ++ Lr)) (nxi + 2)) := by
  refine q9 (bs := bs) (los := [hfO g n 86 (nxi + 1), hfP g n]) hi hx rfl hL rfl rfl ?_ hc0 ?_ ?_ ?_
  ·intro o ho
   rcases List.mem_cons.1 ho with rfl | ho
   ·rfl
   ·rw [List.mem_singleton] at ho; subst ho; rfl
  ·intro j h h'
   match j, h with
   | 0, _ =>
     refine ⟨(ft _).2 (.inr (.inl rfl)), s1, ?_, ?_⟩
     ·intro a' t' f' hh
      have hh : w.heap[bb]? = _ := hh
      rw [s7] at hh; injection hh with hh; injection hh with e1 _ _; rw [← e1]; rfl
     ·refine a3j e hil hn s7 s8 s9 s10 s11 hos ?_ ?_ (c8 B1).1
      ·have : dq L[i] os[i].1 % 4 = 2 := by unfold dq; rw [hkind]; simp <;> omega
       rw [if_pos this]
      ·unfold dq; rw [hkind]; simp <;> omega
   | 1, _ =>
     refine ⟨(ft _).2 (.inr (.inr ob.1)), n0, ?_, (awn e hil hn hkind hoi).1⟩
     intro a' t' f' hh
     have hh : w.heap[os[i].1]? = _ := hh
     rw [pH.1] at hh; injection hh with hh; injection hh with e1 _ _; rw [← e1]; exact pH.2
  ·intro x y h h' hxy
   match x, y, h, h' with
   | 0, 0, _, _ => rfl
   | 0, 1, _, _ => exact absurd hxy nb
   | 1, 0, _, _ => exact absurd hxy.symm nb
   | 1, 1, _, _ => rfl
  ·exact ab5 e s5 (c8 B0).1 (by rw [(c8 B0).2]; exact s10) s9
 have base : ∀ ρ2 w' , Adv (ji ρ (dh nxi bs)) (ag (.mk 256 (hfS g nxi) :: (mkL nxi [hfO g n 86 (nxi + 1), hfP g n] ++ Lr)) (nxi + 2)) w ρ2 (ag (.mk 256 (hfS g nxi) :: ([.mk nxi (hfO g n 86 (nxi + 1)), .mk (nxi + 1) (hfQ a b c d)] ++ Lo)) nxo) w' → aq0 (g'.eval Gv.σ) c0 (ρ.ft (K.of 256)) w'.heap := by
  intro ρ2 w' hA
  have n256 : (K.of 256).num = 256 := bw (by omega)
  have kn0 : K.of nxi ≠ K.of 256 := by intro z; have := congrArg K.num z; rw [n256, show (K.of nxi).num = nxi from nK 0 (by omega)] at this; omega
  have kn1 : K.of (nxi + 1) ≠ K.of 256 := by intro z; have := congrArg K.num z; rw [n256, nK 1 (by omega)] at this; omega
  have kn01 : K.of (nxi + 1) ≠ K.of nxi := by intro z; have := congrArg K.num z; rw [nK 1 (by omega), show (K.of nxi).num = nxi from nK 0 (by omega)] at this; omega
  have at2 : ∀ l c, ji ρ (dh nxi bs) l = some c → ρ2 l = some c := fun l c x => (hA.le l c x).1
  have k0 : ρ2 (K.of 256) = some c0 := at2 _ _ (by rw [(ee hO.kr0).1]; exact hc0)
  have k1 : ρ2 (K.of nxi) = some bb := at2 _ _ (c8 B0).1
  have k2 : ρ2 (K.of (nxi + 1)) = some os[i].1 := at2 _ _ (c8 B1).1
  have z1 : ρ2.sz (K.of nxi) = arr.size := ((hA.le _ _ (c8 B0).1).2).trans (c8 B0).2
  have Bin : ∀ k x m, dh nxi bs k = some (x, m) → x = bb ∨ x = os[i].1 := by
   intro k x m h
   unfold dh at h
   split at h
   ·have := List.mem_of_getElem? h
    rcases List.mem_cons.1 this with z | z
    ·injection z with z1 z2; exact .inl z1
    ·rw [List.mem_singleton] at z; injection z with z1 z2; exact .inr z1
   ·cases h
  have fr : ∀ x, j7 os x → x ≠ os[i].1 → w'.heap[x]? = w.heap[x]? := by
   intro x hx hne
   refine hO.frame hw hc hA ((ft x).2 (.inr (.inr hx))) (fun z => s2 (by rw [← z]; exact hx)) fun k m h => ?_
   rcases Bin k x m h with z | z
   ·exact absurd hx (by rw [z]; exact s3)
   ·exact absurd z hne
  have fb : w'.heap[bb]? = w.heap[bb]? := by
   refine hO.frame hw hc hA ((ft bb).2 (.inr (.inl rfl))) s1 fun k m h => ?_
   have := hO.inj k (K.of nxi) bb m arr.size h B0
   subst this
   show (aa _ (ab (.mk 256 (hfS g nxi) :: .mk nxi (hfO g n 86 (nxi + 1)) :: .mk (nxi + 1) (hfP g n) :: Lr))).isRo = true
   rw [af, if_neg kn0, af, if_pos rfl]; rfl
  obtain ⟨x0, y0, o0⟩ := hA.rel.dom (K.of 256) (by show aa _ (ab _) ≠ _; rw [af, if_pos rfl]; exact c7 _)
  rw [k0] at y0
  obtain rfl := Option.some.inj y0
  have o0 : ORel ρ2 (aa (K.of 256) (ab (.mk 256 (hfS g nxi) :: ([.mk nxi (hfO g n 86 (nxi + 1)), .mk (nxi + 1) (hfQ a b c d)] ++ Lo)))) w'.heap[c0]? := o0
  rw [af, if_pos rfl] at o0
  obtain ⟨arr0, fz0, hx0, hf0, hv0⟩ := (dx (by simp)).1 o0
  simp only [VRels] at hv0
  obtain ⟨v1, t1, q1, r1, v2, t2, q2, r2, v3, t3, q3, r3, v4, t4, q4, r4, v5, t5, q5, r5, q6⟩ := hv0
  have r1 := bv r1
  have r2 := bv r2
  have r3 := bv r3
  rw [gc g e] at r1
  rw [ce g e] at r2
  rw [ix g e] at r3
  simp only [VRel] at r4 r5
  obtain ⟨_, cc, cap', w1, w2, w3, w4, w5⟩ := r4
  rw [k1] at w1
  obtain rfl := Option.some.inj w1
  rw [ce g e] at w2 w3 w5
  rw [z1] at w4
  rw [Int.toNat_natCast] at w5
  obtain ⟨x1, y1, o1⟩ := hA.rel.dom (K.of (nxi + 1)) (by
   show aa _ (ab (.mk 256 (hfS g nxi) :: .mk nxi (hfO g n 86 (nxi + 1)) :: .mk (nxi + 1) (hfQ a b c d) :: Lo)) ≠ _
   rw [af, if_neg kn1, af, if_neg kn01, af, if_pos rfl]; exact c7 _)
  rw [k2] at y1
  obtain rfl := Option.some.inj y1
  have o1 : ORel ρ2 (aa (K.of (nxi + 1)) (ab (.mk 256 (hfS g nxi) :: .mk nxi (hfO g n 86 (nxi + 1)) :: .mk (nxi + 1) (hfQ a b c d) :: Lo))) w'.heap[os[i].1]? := o1
  rw [af, if_neg kn1, af, if_neg kn01, af, if_pos rfl] at o1
  obtain ⟨arr1, fz1, hx1, hf1, hv1⟩ := (dx (by simp)).1 o1
  simp only [VRels] at hv1
  obtain ⟨u1, t1', p1, m1, u2, t2', p2, m2, u3, t3', p3, m3, u4, t4', p4, m4, p5⟩ := hv1
  have m1 := bv m1
  have m2 := bv m2
  have m3 := bv m3
  have m4 := bv m4
  have hvo := (awn e hil hn hkind (ρ := ρ) hoi).2
  have hob : px [2, a.eval Gv.σ, b.eval Gv.σ, c.eval Gv.σ, d.eval Gv.σ] os[i].1 os[i].2 w'.heap := .inl ⟨_, _, _, _, arr1, fz1, rfl, hx1, by rw [p1, p2, p3, p4, p5, m1, m2, m3, m4], hf1, hvo⟩
  have s0 : tc L[i] = 0 := by
   rcases hoi with ⟨a, b, c, d, arr, fz, hr, _⟩ | ⟨bs, _, _, hr, _⟩ | ⟨ws, _, _, _, _, _, hr, _⟩
   ·rw [hr]; rfl
   ·rw [hr] at hkind; simp at hkind
   ·rw [hr] at hkind; simp at hkind
  have hus := amc (r := [2, a.eval Gv.σ, b.eval Gv.σ, c.eval Gv.σ, d.eval Gv.σ]) rfl hil s0
  refine ⟨lim, L.set i [2, a.eval Gv.σ, b.eval Gv.σ, c.eval Gv.σ, d.eval Gv.σ], ?_, ?_, .inr ⟨os, bb, arr, fz, cap', hFF, s1, s2, s3, xw hil hio s4 hob (fun x hx h1 _ => fr x hx h1), ⟨arr0, fz0, hx0, ?_, hf0⟩, ?_, by rw [fb]; exact s7, s8, ?_, by omega, ?_⟩⟩
  ·have hsh : ∃ x y z t, L[i] = [2, x, y, z, t] := by
    rcases hoi with ⟨a, b, c, d, arr, fz, hr, _⟩ | ⟨bs, _, _, hr, _⟩ | ⟨ws, _, _, _, _, _, hr, _⟩
    ·exact ⟨a, b, c, d, hr⟩
    ·rw [hr] at hkind; simp at hkind
    ·rw [hr] at hkind; simp at hkind
   rw [hg' lim L i hil e hn hsh, e, hn]
   unfold aks
   rw [List.headD_cons, List.tail_cons, gf, Int.toNat_natCast]
  ·obtain ⟨a1, a2, a3, a4⟩ := hok
   exact ⟨a1, a2, by rw [List.length_set]; exact a3, by rw [hus]; exact a4⟩
  ·rw [q1, q2, q3, q4, q5, q6, r1, r2, r3, w5, r5, hus, List.length_set]
  ·intro z
   have := congrArg List.length z
   rw [List.length_set] at this
   simp only [zS] at this
   omega
  ·rw [List.length_set]; omega
  ·rw [List.length_set, ak0 hil _ (by rw [hkind]; rfl)]; exact s11
 have fin : ∀ ρ2 w' , Adv (ji ρ (dh nxi bs)) (ag (.mk 256 (hfS g nxi) :: (mkL nxi [hfO g n 86 (nxi + 1), hfP g n] ++ Lr)) (nxi + 2)) w ρ2 (ag (.mk 256 (hfS g nxi) :: ([.mk nxi (hfO g n 86 (nxi + 1)), .mk (nxi + 1) (hfQ a b c d)] ++ Lo)) nxo) w' → ∃ ρ3, Adv ρ (ag (.mk 256 (.gob (.lh 2 g)) :: Lr) nxi) w ρ3 (ag (.mk 256 (.gob (.lh 2 g')) :: Lo) nxo) w' ∧ ρ2.le ρ3 := by
  intro ρ2 w' hA
  refine vq (F' := ρ.ft (K.of 256)) (bs := bs) (los := [hfO g n 86 (nxi + 1), hfP g n]) hi hx rfl hO hw hc hA rfl ?_ hK (q.root c0 hc0) (.inr ⟨rfl, base ρ2 w' hA⟩) fun c h => .inl h
  intro n' o' hm
  rcases List.mem_cons.1 hm with hm | hm
  ·injection hm with e1 _; omega
  ·rw [List.mem_singleton] at hm; injection hm with e1 _; omega
 have run := hf lim L e hok (ji ρ (dh nxi bs)) args w (hO.grel hc hg (by show 256 ≤ (K.of nxi).num; rw [show (K.of nxi).num = nxi from nK 0 (by omega)]; omega)) (hO.rel hw hc) (hO.clean hc) (VRels.mono (hO.le hc) _ _ hv)
 refine Calls.mono run fun e w' hp => ?_
 cases r with
 | ret v =>
   obtain ⟨v', ρ2, e1, e2, hA⟩ := hp
   obtain ⟨ρ3, hA3, hle⟩ := fin ρ2 w' hA
   exact ⟨v', ρ3, e1, e2.mono hle, hA3⟩
 | pan ch =>
   obtain ⟨ch', ρ2, e1, e2, hA⟩ := hp
   obtain ⟨ρ3, hA3, hle⟩ := fin ρ2 w' hA
   exact ⟨ch', ρ3, e1, e2.mono hle, hA3⟩
theorem acp {g : GE} {n : SE} (lim : Int) (L : List (List Int)) (i : Nat) (hi : i < L.length) (e : g.eval Gv.σ = lim :: d6 L) (hn : n.eval Gv.σ = (i : Int)) (hs : ∃ x y z t, L[i] = [2, x, y, z, t]) :
  g.eval Gv.σ = aks (g.eval Gv.σ) (n.eval Gv.σ) [2, (hfW g n 1).eval Gv.σ, (hfW g n 2).eval Gv.σ, (hfW g n 3).eval Gv.σ, (hfW g n 4).eval Gv.σ] := by
 have w := fun j : Nat => aq5 (σ := Gv.σ) g n e hn hi j
 have w1 := w 1
 have w2 := w 2
 have w3 := w 3
 have w4 := w 4
 obtain ⟨x, y, z, t, hs⟩ := hs
 rw [hs] at w1 w2 w3 w4
 have : L.set i L[i] = L := List.set_getElem_self hi
 rw [hs] at this
 unfold aks
 rw [show (hfW g n 1).eval Gv.σ = x from w1, show (hfW g n 2).eval Gv.σ = y from w2, show (hfW g n 3).eval Gv.σ = z from w3, show (hfW g n 4).eval Gv.σ = t from w4, e, hn, List.headD_cons, List.tail_cons, gf, Int.toNat_natCast, this]
end
end Go.Ev
set_option maxRecDepth 100000
set_option linter.all false
namespace Go.Ev
section
variable {σ : Nat → List Int}
theorem aT {x y : SE} {l : List SA} (h : x.eval σ < y.eval σ) (t : SAll σ l) : SAll σ (.mk true x y true :: l) := fun s hs => by
 rcases List.mem_cons.1 hs with rfl | hs
 ·exact decide_eq_true h
 ·exact t s hs
theorem aF {x y : SE} {l : List SA} (h : y.eval σ ≤ x.eval σ) (t : SAll σ l) : SAll σ (.mk true x y false :: l) := fun s hs => by
 rcases List.mem_cons.1 hs with rfl | hs
 ·exact decide_eq_false (by omega)
 ·exact t s hs
theorem aE {x y : SE} {l : List SA} (h : x.eval σ = y.eval σ) (t : SAll σ l) : SAll σ (.mk false x y true :: l) := fun s hs => by
 rcases List.mem_cons.1 hs with rfl | hs
 ·exact decide_eq_true h
 ·exact t s hs
theorem aN {x y : SE} {l : List SA} (h : x.eval σ ≠ y.eval σ) (t : SAll σ l) : SAll σ (.mk false x y false :: l) := fun s hs => by
 rcases List.mem_cons.1 hs with rfl | hs
 ·exact decide_eq_false h
 ·exact t s hs
theorem ofE {x y : SE} {l : List SA} (h : SAll σ (.mk false x y true :: l)) : x.eval σ = y.eval σ ∧ SAll σ l :=
 ⟨of_decide_eq_true (h _ (List.mem_cons_self ..)), fun s hs => h s (zA _ hs)⟩
end
noncomputable section
def wd (k n : SE) : AV := .agg [.sym .i64 k [], .sym .i64 n []]
def hpp : AV := .ptr (K.of 256) 0
def hgh (g : GE) : LO := .gob (.lh 2 g)
def tq (k : SE) : SE := .app 203 (.g (.s 5) (.i k (.i (.v 2) .nil)))
def wk (j : Int) : SE := hfW (.s 5) (.v 2) j
end
section
variable [Gv]
theorem yw {lim : Int} {L : List (List Int)} (e : (GE.s 5).eval Gv.σ = lim :: d6 L) (hok : im lim L) (hl : (tq (.v 1)).eval Gv.σ = 1) (h1 : (SE.v 1).eval Gv.σ = 2) :
  SAll Gv.σ [.mk true (.c 0) (.rd (.s 5) (.c 0)) true, .mk true (.v 2) (.c 0) false, .mk true (.v 2) (hfN (.s 5)) true, .mk false (.c 2) (.v 1) true, .mk false (.v 1) (.c 2) true] := by
 have hl : iq ((GE.s 5).eval Gv.σ) ((SE.v 1).eval Gv.σ) ((SE.v 2).eval Gv.σ) = 1 := hl
 obtain ⟨i, hi, hn, _⟩ := afs e hl
 have e0 := gc (σ := Gv.σ) (.s 5) e
 have e1 := ce (σ := Gv.σ) (.s 5) e
 obtain ⟨b1, b2, b3, b4⟩ := hok
 refine aT (by rw [e0]; simp only [SE.eval]; omega) (aF (by rw [hn]; simp only [SE.eval]; omega) (aT (by rw [hn, e1]; omega) (aE (by rw [h1]; simp only [SE.eval]) (aE (by rw [h1]; simp only [SE.eval]) SAll.nil))))
theorem bcz (hA : SAll Gv.σ [.mk false (tq (.v 1)) (.c 1) true, .mk false (.v 1) (.c 2) true]) :
  di 24 [hpp, wd (.v 1) (.v 2)] 257 [.mk 256 (hgh (.s 5))] (.ret (.tuple [wd (wk 1) (wk 2), .int .i64 0])) 263 [.mk 256 (hgh (.s 5))] := by
 obtain ⟨h1, hA⟩ := ofE hA
 obtain ⟨h2, _⟩ := ofE hA
 have h1 : (tq (.v 1)).eval Gv.σ = 1 := h1
 have h2 : (SE.v 1).eval Gv.σ = 2 := h2
 have hl : iq ((GE.s 5).eval Gv.σ) 2 ((SE.v 2).eval Gv.σ) = 1 := by rw [← h2]; exact h1
 refine yx (g := .s 5) (g' := .s 5) (n := .v 2) (a := wk 1) (b := wk 2) (c := wk 3) (d := wk 4) (Lr := []) (Lo := []) (by omega) (by omega) (by omega) (fun n o h => by cases h) (fun n o h => by cases h) hl acp fun lim L e hok => ?_
 exact ej (n := 2000) (T := []) (E := .nil) c9 d7 (yw e hok h1 h2) trivial rfl rfl (by kernel_rfl)
theorem bc0 (hA : SAll Gv.σ [.mk false (tq (.v 1)) (.c 1) true, .mk false (.v 1) (.c 2) true]) :
  di 80 [hpp, wd (.v 1) (.v 2)] 257 [.mk 256 (hgh (.s 5))] (.ret (.tuple [wd (wk 3) (wk 4), .int .i64 0])) 263 [.mk 256 (hgh (.s 5))] := by
 obtain ⟨h1, hA⟩ := ofE hA
 obtain ⟨h2, _⟩ := ofE hA
 have h1 : (tq (.v 1)).eval Gv.σ = 1 := h1
 have h2 : (SE.v 1).eval Gv.σ = 2 := h2
 have hl : iq ((GE.s 5).eval Gv.σ) 2 ((SE.v 2).eval Gv.σ) = 1 := by rw [← h2]; exact h1
 refine yx (g := .s 5) (g' := .s 5) (n := .v 2) (a := wk 1) (b := wk 2) (c := wk 3) (d := wk 4) (Lr := []) (Lo := []) (by omega) (by omega) (by omega) (fun n o h => by cases h) (fun n o h => by cases h) hl acp fun lim L e hok => ?_
 exact ej (n := 2000) (T := []) (E := .nil) c9 d7 (yw e hok h1 h2) trivial rfl rfl (by kernel_rfl)
theorem bdh (hA : SAll Gv.σ [.mk false (tq (.v 1)) (.c 1) true, .mk false (.v 1) (.c 2) true]) :
  di 15 [hpp, wd (.v 1) (.v 2), wd (.v 3) (.v 4)] 257 [.mk 256 (hgh (.s 5))] (.ret (.int .i64 0)) 263 [.mk 256 (hgh (.app 207 (.g (.s 5) (.i (.v 2) (.g (.cat (.one (.c 2)) (.cat (.one (wk 1)) (.cat (.one (wk 2)) (.cat (.one (.v 3)) (.one (.v 4)))))) .nil)))))] := by
 obtain ⟨h1, hA⟩ := ofE hA
 obtain ⟨h2, _⟩ := ofE hA
 have h1 : (tq (.v 1)).eval Gv.σ = 1 := h1
 have h2 : (SE.v 1).eval Gv.σ = 2 := h2
 have hl : iq ((GE.s 5).eval Gv.σ) 2 ((SE.v 2).eval Gv.σ) = 1 := by rw [← h2]; exact h1
 refine yx (g := .s 5) (n := .v 2) (a := wk 1) (b := wk 2) (c := .v 3) (d := .v 4) (Lr := []) (Lo := []) (by omega) (by omega) (by omega) (fun n o h => by cases h) (fun n o h => by cases h) hl (fun _ _ _ _ _ _ _ => rfl) fun lim L e hok => ?_
 exact ej (n := 2000) (T := []) (E := .nil) c9 d7 (yw e hok h1 h2) trivial rfl rfl (by kernel_rfl)
theorem bdg (hA : SAll Gv.σ [.mk false (tq (.v 1)) (.c 1) true, .mk false (.v 1) (.c 2) true]) :
  di 17 [hpp, wd (.v 1) (.v 2), wd (.v 3) (.v 4)] 257 [.mk 256 (hgh (.s 5))] (.ret (.int .i64 0)) 263 [.mk 256 (hgh (.app 207 (.g (.s 5) (.i (.v 2) (.g (.cat (.one (.c 2)) (.cat (.one (.v 3)) (.cat (.one (.v 4)) (.cat (.one (wk 3)) (.one (wk 4)))))) .nil)))))] := by
 obtain ⟨h1, hA⟩ := ofE hA
 obtain ⟨h2, _⟩ := ofE hA
 have h1 : (tq (.v 1)).eval Gv.σ = 1 := h1
 have h2 : (SE.v 1).eval Gv.σ = 2 := h2
 have hl : iq ((GE.s 5).eval Gv.σ) 2 ((SE.v 2).eval Gv.σ) = 1 := by rw [← h2]; exact h1
 refine yx (g := .s 5) (n := .v 2) (a := .v 3) (b := .v 4) (c := wk 3) (d := wk 4) (Lr := []) (Lo := []) (by omega) (by omega) (by omega) (fun n o h => by cases h) (fun n o h => by cases h) hl (fun _ _ _ _ _ _ _ => rfl) fun lim L e hok => ?_
 exact ej (n := 2000) (T := []) (E := .nil) c9 d7 (yw e hok h1 h2) trivial rfl rfl (by kernel_rfl)
theorem bc4 (hA : SAll Gv.σ [.mk false (tq (.v 1)) (.c 1) true, .mk false (.v 1) (.c 2) true]) :
  di 129 [hpp, wd (.v 1) (.v 2)] 257 [.mk 256 (hgh (.s 5))] (.ret (.bool true)) 262 [.mk 256 (hgh (.s 5))] := by
 obtain ⟨h1, hA⟩ := ofE hA
 obtain ⟨h2, _⟩ := ofE hA
 have h1 : (tq (.v 1)).eval Gv.σ = 1 := h1
 have h2 : (SE.v 1).eval Gv.σ = 2 := h2
 have hl : iq ((GE.s 5).eval Gv.σ) 2 ((SE.v 2).eval Gv.σ) = 1 := by rw [← h2]; exact h1
 refine yx (g := .s 5) (g' := .s 5) (n := .v 2) (a := wk 1) (b := wk 2) (c := wk 3) (d := wk 4) (Lr := []) (Lo := []) (by omega) (by omega) (by omega) (fun n o h => by cases h) (fun n o h => by cases h) hl acp fun lim L e hok => ?_
 exact ej (n := 2000) (T := []) (E := .nil) c9 d7 (yw e hok h1 h2) trivial rfl rfl (by kernel_rfl)
end
end Go.Ev
set_option maxRecDepth 100000
set_option linter.all false
namespace Go.Ev
noncomputable def hfG (g : GE) : LO := .gp true 126 (hfN g) .nil []
section
variable [Gv]
set_option maxHeartbeats 1000000 in
theorem awo {f nxi nxo : Nat} {g : GE} {us : List AV} {Lr Lo : List HO} {r : TR} (hi : 257 ≤ nxi) (hx : nxi + 2 ≤ 65535) (hL : agp nxi Lr)
  (hK0 : atg nxi 0 Lr [] Lo) (hK : atg nxi 1 Lr [.mk nxi (hfG g)] Lo)
  (hN : ∀ lim, g.eval Gv.σ = lim :: d6 [] → im lim [] → di f us nxi (.mk 256 (hfR g .nilSlice) :: Lr) r nxo (.mk 256 (hfR g .nilSlice) :: Lo))
  (hS : ∀ lim L, L ≠ [] → g.eval Gv.σ = lim :: d6 L → im lim L → di f us (nxi + 1) (.mk 256 (hfS g nxi) :: .mk nxi (hfG g) :: Lr) r nxo (.mk 256 (hfS g nxi) :: .mk nxi (hfG g) :: Lo)) :
  di f us nxi (.mk 256 (.gob (.lh 2 g)) :: Lr) r nxo (.mk 256 (.gob (.lh 2 g)) :: Lo) := by
 intro ρ args w hg hw hc hv
 have hk0 : aa (K.of 256) (ag (.mk 256 (.gob (.lh 2 g)) :: Lr) nxi).h ≠ .none := by
  show aa _ (ab _) ≠ _
  rw [af, if_pos rfl]; exact c7 _
 have hg0 : bi (aa (K.of 256) (ag (.mk 256 (.gob (.lh 2 g)) :: Lr) nxi).h) = some (2, g) := by
  show bi (aa _ (ab _)) = _
  rw [af, if_pos rfl]; rfl
 obtain ⟨c0, hc0, _⟩ := hw.dom _ hk0
 have q := hw.gho _ 2 g hg0
 have n256 : (K.of 256).num = 256 := bw (by omega)
 have nn : (K.of nxi).num = nxi := bw (by omega)
 rcases q.rel c0 hc0 with ⟨h1, _⟩ | ⟨_, hF⟩
 ·cases h1
 obtain ⟨lim, L, e, hok, hF⟩ := hF
 have h256 : 256 ≤ (ag (.mk 256 (.gob (.lh 2 g)) :: Lr) nxi).nx.num := by show 256 ≤ (K.of nxi).num; omega
 rcases hF with ⟨h0, hFF, hrt⟩ | ⟨os, bb, arr, fz, cap, hFF, s1, s2, s3, s4, s5, s6, s7, s8, s9, s10, s11⟩
 ·subst h0
  have e1 := ce (σ := Gv.σ) g e
  have rootN : ∀ ρ x, ajn lim [] (.slice none 0 0) x → ORel ρ (bu (hfR g .nilSlice)) x := by
   rintro ρ x ⟨arr, fz, hx, ha, hf⟩
   refine (dx (by simp)).2 ⟨arr, fz, hx, hf, ?_⟩
   rw [ha]
   simp only [VRels]
   exact ⟨_, _, rfl, j0 (gc g e), _, _, rfl, j0 e1, _, _, rfl, j0 (ix g e), _, _, rfl, by simp only [VRel], _, _, rfl, by simp only [VRel], rfl⟩
  have hO : GhOpen (K.of 256) (dh nxi []) 2 g ρ (ag (.mk 256 (.gob (.lh 2 g)) :: Lr) nxi) w c0 (ag (.mk 256 (hfR g .nilSlice) :: (mkL nxi [] ++ Lr)) (nxi + 0)) :=
   q9 (bs := []) (los := []) hi (by simp; omega) rfl hL rfl rfl (fun o ho => by cases ho) hc0 (fun j h => by simp at h) (fun x y h => by simp at h) (rootN _ _ hrt)
  have fin : ∀ ρ2 w' , Adv (ji ρ (dh nxi [])) (ag (.mk 256 (hfR g .nilSlice) :: (mkL nxi [] ++ Lr)) (nxi + 0)) w ρ2 (ag (.mk 256 (hfR g .nilSlice) :: ([] ++ Lo)) nxo) w' → ∃ ρ3, Adv ρ (ag (.mk 256 (.gob (.lh 2 g)) :: Lr) nxi) w ρ3 (ag (.mk 256 (.gob (.lh 2 g)) :: Lo) nxo) w' ∧ ρ2.le ρ3 := by
   intro ρ2 w' hA
   refine vq (F' := ρ.ft (K.of 256)) (bs := []) (los := []) hi (by simp; omega) rfl hO hw hc hA rfl (fun n o h => by cases h) hK0 (q.root c0 hc0) (.inr ⟨rfl, ⟨lim, [], e, hok, .inl ⟨rfl, hFF, ?_⟩⟩⟩) fun c h => .inl h
   have k0 : ρ2 (K.of 256) = some c0 := (hA.le _ _ (by rw [(ee hO.kr0).1]; exact hc0)).1
   obtain ⟨x0, y0, o0⟩ := hA.rel.dom (K.of 256) (by show aa _ (ab _) ≠ _; rw [af, if_pos rfl]; exact c7 _)
   rw [k0] at y0
   obtain rfl := Option.some.inj y0
   have o0 : ORel ρ2 (aa (K.of 256) (ab (.mk 256 (hfR g .nilSlice) :: ([] ++ Lo)))) w'.heap[c0]? := o0
   rw [af, if_pos rfl] at o0
   obtain ⟨arr0, fz0, hx0, hf0, hv0⟩ := (dx (by simp)).1 o0
   simp only [VRels] at hv0
   obtain ⟨v1, t1, q1, r1, v2, t2, q2, r2, v3, t3, q3, r3, v4, t4, q4, r4, v5, t5, q5, r5, q6⟩ := hv0
   have r1 := bv r1
   have r2 := bv r2
   have r3 := bv r3
   rw [gc g e] at r1
   rw [ce g e] at r2
   rw [ix g e] at r3
   simp only [VRel] at r4 r5
   exact ⟨arr0, fz0, hx0, by rw [q1, q2, q3, q4, q5, q6, r1, r2, r3, r4, r5], hf0⟩
  have run := hN lim e hok (ji ρ (dh nxi [])) args w (hO.grel hc hg h256) (hO.rel hw hc) (hO.clean hc) (VRels.mono (hO.le hc) _ _ hv)
  refine Calls.mono run fun e w' hp => ?_
  cases r with
  | ret v =>
    obtain ⟨v', ρ2, e1, e2, hA⟩ := hp
    obtain ⟨ρ3, hA3, hle⟩ := fin ρ2 w' hA
    exact ⟨v', ρ3, e1, e2.mono hle, hA3⟩
  | pan ch =>
    obtain ⟨ch', ρ2, e1, e2, hA⟩ := hp
    obtain ⟨ρ3, hA3, hle⟩ := fin ρ2 w' hA
    exact ⟨ch', ρ3, e1, e2.mono hle, hA3⟩
 ·have e1 := ce (σ := Gv.σ) g e
  have ft : ∀ x, ρ.ft (K.of 256) x ↔ x = c0 ∨ x = bb ∨ j7 os x := fun x => by rw [hFF]
  let bs : List (Nat × Nat) := [(bb, arr.size)]
  have B0 : dh nxi bs (K.of nxi) = some (bb, arr.size) := by
   unfold dh
   rw [nn, if_pos (zY _), Nat.sub_self]; rfl
  have hO : GhOpen (K.of 256) (dh nxi bs) 2 g ρ (ag (.mk 256 (.gob (.lh 2 g)) :: Lr) nxi) w c0 (ag (.mk 256 (hfS g nxi) :: (mkL nxi [hfG g] ++ Lr)) (nxi + 1)) := by
   refine q9 (bs := bs) (los := [hfG g]) hi (by simp; omega) rfl hL rfl rfl (fun o ho => by rw [List.mem_singleton] at ho; subst ho; rfl) hc0 ?_ ?_ ?_
   ·intro j h h'
    match j, h with
    | 0, _ =>
      refine ⟨(ft _).2 (.inr (.inl rfl)), s1, ?_, ?_⟩
      ·intro a' t' f' hh
       have hh : w.heap[bb]? = _ := hh
       rw [s7] at hh; injection hh with hh; injection hh with e1 _ _; rw [← e1]; rfl
      ·exact ⟨arr, fz, s7, s8, by rw [e1]; omega, by rw [e1]; simp only [GE.eval, zS]; omega, by rw [e1]; omega, fun j hj => by simp only [GE.eval, zS] at hj; omega, fun _ _ _ hm => by cases hm⟩
   ·intro x y h h' hxy
    match x, y, h, h' with
    | 0, 0, _, _ => rfl
   ·exact ab5 e s5 (c8 B0).1 (by rw [(c8 B0).2]; exact s10) s9
  have kn0 : K.of nxi ≠ K.of 256 := by intro z; have := congrArg K.num z; rw [n256, nn] at this; omega
  have fin : ∀ ρ2 w' , Adv (ji ρ (dh nxi bs)) (ag (.mk 256 (hfS g nxi) :: (mkL nxi [hfG g] ++ Lr)) (nxi + 1)) w ρ2 (ag (.mk 256 (hfS g nxi) :: ([.mk nxi (hfG g)] ++ Lo)) nxo) w' → ∃ ρ3, Adv ρ (ag (.mk 256 (.gob (.lh 2 g)) :: Lr) nxi) w ρ3 (ag (.mk 256 (.gob (.lh 2 g)) :: Lo) nxo) w' ∧ ρ2.le ρ3 := by
   intro ρ2 w' hA
   have k0 : ρ2 (K.of 256) = some c0 := (hA.le _ _ (by rw [(ee hO.kr0).1]; exact hc0)).1
   have k1 : ρ2 (K.of nxi) = some bb := (hA.le _ _ (c8 B0).1).1
   have z1 : ρ2.sz (K.of nxi) = arr.size := ((hA.le _ _ (c8 B0).1).2).trans (c8 B0).2
   have Bin : ∀ k x m, dh nxi bs k = some (x, m) → x = bb := by
    intro k x m h
    unfold dh at h
    split at h
    ·have z := List.mem_of_getElem? h
     rw [List.mem_singleton] at z; injection z with z1 z2
    ·cases h
   have fr : ∀ x, j7 os x → w'.heap[x]? = w.heap[x]? := by
    intro x hx
    refine hO.frame hw hc hA ((ft x).2 (.inr (.inr hx))) (fun z => s2 (by rw [← z]; exact hx)) fun k m h => ?_
    exact absurd hx (by rw [Bin k x m h]; exact s3)
   have fb : w'.heap[bb]? = w.heap[bb]? := by
    refine hO.frame hw hc hA ((ft bb).2 (.inr (.inl rfl))) s1 fun k m h => ?_
    have := hO.inj k (K.of nxi) bb m arr.size h B0
    subst this
    show (aa _ (ab (.mk 256 (hfS g nxi) :: .mk nxi (hfG g) :: Lr))).isRo = true
    rw [af, if_neg kn0, af, if_pos rfl]; rfl
   refine vq (F' := ρ.ft (K.of 256)) (bs := bs) (los := [hfG g]) hi (by simp; omega) rfl hO hw hc hA rfl ?_ hK (q.root c0 hc0) (.inr ⟨rfl, ?_⟩) fun c h => .inl h
   ·intro n' o' hm
    rw [List.mem_singleton] at hm; injection hm with e1 _; omega
   obtain ⟨x0, y0, o0⟩ := hA.rel.dom (K.of 256) (by show aa _ (ab _) ≠ _; rw [af, if_pos rfl]; exact c7 _)
   rw [k0] at y0
   obtain rfl := Option.some.inj y0
   have o0 : ORel ρ2 (aa (K.of 256) (ab (.mk 256 (hfS g nxi) :: ([.mk nxi (hfG g)] ++ Lo)))) w'.heap[c0]? := o0
   rw [af, if_pos rfl] at o0
   obtain ⟨arr0, fz0, hx0, hf0, hv0⟩ := (dx (by simp)).1 o0
   simp only [VRels] at hv0
   obtain ⟨v1, t1, q1, r1, v2, t2, q2, r2, v3, t3, q3, r3, v4, t4, q4, r4, v5, t5, q5, r5, q6⟩ := hv0
   have r1 := bv r1
   have r2 := bv r2
   have r3 := bv r3
   rw [gc g e] at r1
   rw [ce g e] at r2
   rw [ix g e] at r3
   simp only [VRel] at r4 r5
   obtain ⟨_, cc, cap', w1, w2, w3, w4, w5⟩ := r4
   rw [k1] at w1
   obtain rfl := Option.some.inj w1
   rw [ce g e] at w2 w3 w5
   rw [z1] at w4
   rw [Int.toNat_natCast] at w5
   exact ⟨lim, L, e, hok, .inr ⟨os, bb, arr, fz, cap', hFF, s1, s2, s3, kf (fun x hx => fr x hx) s4, ⟨arr0, fz0, hx0, by rw [q1, q2, q3, q4, q5, q6, r1, r2, r3, w5, r5], hf0⟩, s6, by rw [fb]; exact s7, s8, by omega, by omega, s11⟩⟩
  have run := hS lim L s6 e hok (ji ρ (dh nxi bs)) args w (hO.grel hc hg h256) (hO.rel hw hc) (hO.clean hc) (VRels.mono (hO.le hc) _ _ hv)
  refine Calls.mono run fun e w' hp => ?_
  cases r with
  | ret v =>
    obtain ⟨v', ρ2, e1, e2, hA⟩ := hp
    obtain ⟨ρ3, hA3, hle⟩ := fin ρ2 w' hA
    exact ⟨v', ρ3, e1, e2.mono hle, hA3⟩
  | pan ch =>
    obtain ⟨ch', ρ2, e1, e2, hA⟩ := hp
    obtain ⟨ρ3, hA3, hle⟩ := fin ρ2 w' hA
    exact ⟨ch', ρ3, e1, e2.mono hle, hA3⟩
end
end Go.Ev
set_option maxRecDepth 100000
set_option linter.all false
namespace Go.Ev
section
variable [Gv]
theorem sy {nxi m : Nat} {Lr outS : List HO} : atg nxi m Lr outS [] := fun n o h => by cases h
theorem uy {nxi : Nat} : agp nxi [] := fun n o h => by cases h
theorem ab4 {lim : Int} {L : List (List Int)} (e : (GE.s 5).eval Gv.σ = lim :: d6 L) (hok : im lim L) : SAll Gv.σ [.mk true (.c 0) (.rd (.s 5) (.c 0)) true] := by
 have e0 := gc (σ := Gv.σ) (.s 5) e
 obtain ⟨b1, b2, b3, b4⟩ := hok
 exact aT (by rw [e0]; simp only [SE.eval]; omega) SAll.nil
theorem bc3 : di 51 [hpp] 257 [.mk 256 (hgh (.s 5))] (.ret (.sym .i64 (.rd (.s 5) (.c 0)) [])) 258 [.mk 256 (hgh (.s 5))] := by
 refine awo (g := .s 5) (Lr := []) (Lo := []) (by omega) (by omega) uy sy sy (fun lim e hok => ?_) fun lim L _ e hok => ?_
 ·exact ej (n := 2000) (T := []) (E := .nil) c9 d7 (ab4 e hok) trivial rfl rfl (by kernel_rfl)
 ·exact ej (n := 2000) (T := []) (E := .nil) c9 d7 (ab4 e hok) trivial rfl rfl (by kernel_rfl)
end
end Go.Ev
