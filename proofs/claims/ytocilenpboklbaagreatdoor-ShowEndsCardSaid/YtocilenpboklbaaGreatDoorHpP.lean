import Derived.Test.YtocilenpboklbaaGreatDoorHpF
import Derived.Test.YtocilenpboklbaaGreatDoorEvGk
set_option maxRecDepth 100000
set_option linter.all false
namespace Go.Ev
theorem kc (r : List Int) : ∀ L, d6 (L ++ [r]) = d6 L ++ (r.length : Int) :: r
 | [] => by simp [d6]
 | x :: L => by simp only [zJ, d6, kc r L, List.append_assoc]
theorem ow (r : List Int) : ∀ L, du (L ++ [r]) = du L + tc r
 | [] => by simp [du]
 | x :: L => by
   have := ow r L
   simp only [du, zJ, List.map_cons, List.foldr_cons] at this ⊢
   omega
theorem qg {H : Array Obj} {r : List Int} {p : Nat × Nat} (hr : px r p.1 p.2 H) : ∀ {L : List (List Int)} {os : List (Nat × Nat)}, lx L os H → ¬ j7 os p.1 → ¬ j7 os p.2 → lx (L ++ [r]) (os ++ [p]) H
 | [], [], _, _, _ => ⟨hr, (fun ⟨_, q, _⟩ => by cases q), (fun ⟨_, q, _⟩ => by cases q), trivial⟩
 | [], _ :: _, h, _, _ => h.elim
 | _ :: _, [], h, _, _ => h.elim
 | x :: L, o :: os, h, h1, h2 => by
   obtain ⟨a, b, c, d⟩ := h
   have up : ∀ y, j7 os y → j7 (o :: os) y := fun y ⟨q, q1, q2⟩ => ⟨q, zA _ q1, q2⟩
   have me : ∀ y, (y = o.1 ∨ y = o.2) → y ≠ p.1 ∧ y ≠ p.2 := fun y hy => ⟨fun e => h1 ⟨o, List.mem_cons_self .., by rw [← e]; exact hy⟩, fun e => h2 ⟨o, List.mem_cons_self .., by rw [← e]; exact hy⟩⟩
   have out : ∀ y, (y = o.1 ∨ y = o.2) → ¬ j7 os y → ¬ j7 (os ++ [p]) y := by
    rintro y hy hn ⟨q, q1, q2⟩
    rcases List.mem_append.1 q1 with z | z
    ·exact hn ⟨q, z, q2⟩
    ·rw [List.mem_singleton] at z
     subst z
     rcases q2 with q2 | q2
     ·exact (me y hy).1 q2
     ·exact (me y hy).2 q2
   exact ⟨a, out _ (.inl rfl) b, out _ (.inr rfl) c, qg hr d (fun q => h1 (up _ q)) (fun q => h2 (up _ q))⟩
theorem bsIn_snoc {os : List (Nat × Nat)} {p : Nat} {x : Nat} : j7 (os ++ [(p, p)]) x ↔ j7 os x ∨ x = p := by
 constructor
 ·rintro ⟨q, q1, q2⟩
  rcases List.mem_append.1 q1 with z | z
  ·exact .inl ⟨q, z, q2⟩
  ·rw [List.mem_singleton] at z
   subst z
   rcases q2 with q2 | q2 <;> exact .inr q2
 ·rintro (⟨q, q1, q2⟩ | rfl)
  ·exact ⟨q, List.mem_append_left _ q1, q2⟩
  ·exact ⟨(x, x), by simp, .inl rfl⟩
theorem aaj {r : List Int} {p : Nat} : ∀ {L : List (List Int)} {os : List Nat}, os.length = L.length → List.zipWith dq (L ++ [r]) (os ++ [p]) = List.zipWith dq L os ++ [dq r p]
 | [], [], _ => rfl
 | [], _ :: _, h => by simp at h
 | _ :: _, [], h => by simp at h
 | x :: L, o :: os, h => by
   show dq x o :: List.zipWith dq (L ++ [r]) (os ++ [p]) = dq x o :: (List.zipWith dq L os ++ [dq r p])
   rw [aaj (by simpa using h)]
noncomputable def hfC (n : SE) (ps : List GP) : LO := .gp false 126 n (.s 90) ps
def aq3 (l : List Int) (codes : List Int) (c : Nat) (H : Array Obj) : Prop := ∃ lim L os b arr fz cap, l = lim :: d6 L ∧ codes = List.zipWith dq L (os.map (·.1)) ∧ lx L os H ∧ b ≠ c ∧ ¬ j7 os c ∧ ¬ j7 os b ∧
 ajn lim L (.slice (some ⟨b, 0, none⟩) L.length cap) H[c]? ∧ L ≠ [] ∧ H[b]? = some (.cells arr 126 fz) ∧ fz.2 ≤ fz.1 ∧ L.length ≤ cap ∧ cap ≤ arr.size ∧ arr.toList.take L.length = codes.map ky
section
variable [Gv]
theorem awp {g : GE} {lim : Int} {L : List (List Int)} (hg : g.eval Gv.σ = lim :: d6 L) {ρ : Env} {os : List Nat} {arr : Array Value} {fz : Nat × Nat} {cap : Nat} {H : Array Obj} {b : Nat} (h90 : Gv.σ 90 = List.zipWith dq L os) (hos : os.length = L.length)
  (hb : H[b]? = some (.cells arr 126 fz)) (hfz : fz.2 ≤ fz.1) (hcap : L.length ≤ cap) (hsz : cap ≤ arr.size) (harr : arr.toList.take L.length = (Gv.σ 90).map ky) : ORel ρ (bu (hfC (hfN g) [])) H[b]? := by
 have e1 := ce (σ := Gv.σ) g hg
 have hl : ((GE.s 90).eval Gv.σ).length = L.length := by
  show (Gv.σ 90).length = _
  rw [h90, List.length_zipWith, hos, Nat.min_self]
 refine ⟨arr, fz, hb, hfz, by rw [e1]; omega, by rw [e1, hl]; omega, by rw [e1]; omega, fun i hi => ?_, fun _ _ _ hm => by cases hm⟩
 have h1 : (arr.toList.take L.length)[i]? = arr.toList[i]? := List.getElem?_take_of_lt (by omega)
 rw [harr] at h1
 rw [← Array.getElem?_toList, ← h1, List.getElem?_map]
 have hi' : i < (Gv.σ 90).length := hi
 rw [zK hi']
 rfl
end
end Go.Ev
set_option maxRecDepth 100000
set_option linter.all false
namespace Go.Ev
theorem ar8 {r : List Int} {o o' : Nat} (hr : r.getD 0 0 = 2 ∨ r.getD 0 0 = 3 ∨ r.getD 0 0 = 4) (h : ky (dq r o) = ky (dq r o')) : o = o' := by
 unfold ky at h
 injection h with _ h
 injection h with h
 injection h with h
 injection h with h
 unfold dq at h
 rcases hr with hr | hr | hr <;> rw [hr] at h <;> simp at h <;> omega
theorem aum {r : List Int} {o v : Nat} {H : Array Obj} (h : px r o v H) : r.getD 0 0 = 2 ∨ r.getD 0 0 = 3 ∨ r.getD 0 0 = 4 := by
 rcases h with ⟨a, b, c, d, arr, fz, hr, _⟩ | ⟨bs, _, _, hr, _⟩ | ⟨ws, _, _, _, _, _, hr, _⟩ <;> rw [hr] <;> simp
theorem ahb {H : Array Obj} : ∀ {L : List (List Int)} {os os' : List (Nat × Nat)}, lx L os H → lx L os' H → (List.zipWith dq L (os.map (·.1))).map ky = (List.zipWith dq L (os'.map (·.1))).map ky → List.zipWith dq L (os.map (·.1)) = List.zipWith dq L (os'.map (·.1))
 | [], [], [], _, _, _ => rfl
 | [], _ :: _, _, h, _, _ => h.elim
 | [], [], _ :: _, _, h, _ => h.elim
 | _ :: _, [], _, h, _, _ => h.elim
 | _ :: _, _ :: _, [], _, h, _ => h.elim
 | r :: L, p :: os, p' :: os', h, h', e => by
   simp only [List.map_cons, List.zipWith_cons_cons] at e ⊢
   injection e with e1 e2
   have := ar8 (aum h.1) e1
   rw [this, ahb h.2.2.2 h'.2.2.2 e2]
theorem akz {l codes : List Int} {c : Nat} {H : Array Obj} (h : aq3 l codes c H) {lim : Int} {L : List (List Int)} (e : l = lim :: d6 L) {os : List (Nat × Nat)} {b cap : Nat} {arr : Array Value} {fz : Nat × Nat} (ho : lx L os H) (hr : ajn lim L (.slice (some ⟨b, 0, none⟩) L.length cap) H[c]?) (hb : H[b]? = some (.cells arr 126 fz)) (ha : arr.toList.take L.length = (List.zipWith dq L (os.map (·.1))).map ky) :
  codes = List.zipWith dq L (os.map (·.1)) := by
 obtain ⟨lim', L', os', b', arr', fz', cap', e', hc, ho', _, _, _, hr', _, hb', _, _, _, ha'⟩ := h
 rw [e] at e'
 injection e' with e1 e2
 have e3 : L = L' := by rw [← gf L, e2, gf]
 subst e1 e3
 obtain ⟨x, fx, x1, x2, _⟩ := hr
 obtain ⟨y, fy, y1, y2, _⟩ := hr'
 rw [x1] at y1
 injection y1 with y1
 injection y1 with y1 _ _
 rw [y1, y2] at x2
 injection x2 with _ x2
 injection x2 with _ x2
 injection x2 with _ x2
 injection x2 with x2 _
 injection x2 with x2 _ _
 injection x2 with x2
 injection x2 with x2 _ _
 subst x2
 rw [hb] at hb'
 injection hb' with hb'
 injection hb' with hb' _ _
 subst hb'
 rw [hc]
 refine ahb ho' ho ?_
 rw [← hc, ← ha', ha]
end Go.Ev
set_option maxRecDepth 100000
set_option linter.all false
namespace Go.Ev
theorem ai8 {a b c d : Int} {p : Nat} : ky (dq [2, a, b, c, d] p) = .iface 86 (.pointer (some ⟨p, 0, none⟩)) := by
 have h1 : dq [2, a, b, c, d] p = 4 * (p : Int) + 2 := by unfold dq; simp
 unfold ky
 rw [h1, if_pos (by omega), show ((4 * (p : Int) + 2) / 4).toNat = p by omega]
section
variable [Gv]
set_option maxHeartbeats 2000000 in
theorem a7g {f nxo kp kr : Nat} {g g' : GE} {a b c d : SE} {us : List AV} {r : TR} (hkp : 258 < kp ∧ kp ≤ 65535) (hkr : 258 < kr ∧ kr ≤ 65535) (hne : kp ≠ kr)
  (hg' : g'.eval Gv.σ = n7 (g.eval Gv.σ) [2, a.eval Gv.σ, b.eval Gv.σ, c.eval Gv.σ, d.eval Gv.σ])
  (hok' : ∀ lim L, g.eval Gv.σ = lim :: d6 L → im lim L → im lim (L ++ [[2, a.eval Gv.σ, b.eval Gv.σ, c.eval Gv.σ, d.eval Gv.σ]]))
  (hf : ∀ lim L, L ≠ [] → g.eval Gv.σ = lim :: d6 L → im lim L → (Gv.σ 90).length = L.length → di f us 258 [.mk 256 (hfS g 257), .mk 257 (hfC (hfN g) [])] r nxo [.mk 256 (hfS g' kr), .mk kp (hfQ a b c d), .mk kr (hfC (hfN g') [.mk (hfN g) 86 (K.of kp)])])
  {ρ : Env} {args : Array Value} {w : World} {c0 : Nat} (hg : GRel ρ) (hw : WRel ρ (ag [.mk 256 (.gob (.lh 2 g))] 257) w) (hc : Clean ρ (ag [.mk 256 (.gob (.lh 2 g))] 257)) (hv : VRels ρ us args.toList) (hc0 : ρ (K.of 256) = some c0) (hq : aq3 (g.eval Gv.σ) (Gv.σ 90) c0 w.heap) :
  Calls PP f args w (CPost ρ (ag [.mk 256 (.gob (.lh 2 g))] 257) w (az3 r (ag [.mk 256 (.gob (.lh 2 g'))] nxo))) := by
 have hg0 : bi (aa (K.of 256) (ag [.mk 256 (.gob (.lh 2 g))] 257).h) = some (2, g) := by
  show bi (aa _ (ab _)) = _
  rw [af, if_pos rfl]; rfl
 have q := hw.gho _ 2 g hg0
 have n256 : (K.of 256).num = 256 := bw (by omega)
 have n257 : (K.of 257).num = 257 := bw (by omega)
 have np : (K.of kp).num = kp := bw (by omega)
 have nr : (K.of kr).num = kr := bw (by omega)
 rcases q.rel c0 hc0 with ⟨h1, _⟩ | ⟨_, hF⟩
 ·cases h1
 obtain ⟨lim, L, e, hok, hF⟩ := hF
 rcases hF with ⟨h0, _⟩ | ⟨os, bb, arr, fz, cap, hFF, s1, s2, s3, s4, s5, s6, s7, s8, s9, s10, s11⟩
 ·obtain ⟨lim', L', _, _, _, _, _, e', _, _, _, _, _, _, hn, _⟩ := hq
  rw [e] at e'
  injection e' with e1 e2
  exact absurd (by rw [← gf L', ← e2, gf, h0]) hn
 have h90 := akz hq e s4 s5 s7 s11
 have hos := (pf s4).1
 have hos' : (os.map (·.1)).length = L.length := by rw [List.length_map, hos]
 have hl90 : (Gv.σ 90).length = L.length := by rw [h90, List.length_zipWith, hos', Nat.min_self]
 have e1 := ce (σ := Gv.σ) g e
 have hg'' : g'.eval Gv.σ = lim :: d6 (L ++ [[2, a.eval Gv.σ, b.eval Gv.σ, c.eval Gv.σ, d.eval Gv.σ]]) := by
  rw [hg', e, kc]; rfl
 have e1' := ce (σ := Gv.σ) g' hg''
 have ft : ∀ x, ρ.ft (K.of 256) x ↔ x = c0 ∨ x = bb ∨ j7 os x := fun x => by rw [hFF]
 let bs : List (Nat × Nat) := [(bb, arr.size)]
 have B0 : dh 257 bs (K.of 257) = some (bb, arr.size) := by
  unfold dh
  rw [n257, if_pos (zY _), Nat.sub_self]; rfl
 have hO : GhOpen (K.of 256) (dh 257 bs) 2 g ρ (ag [.mk 256 (.gob (.lh 2 g))] 257) w c0 (ag (.mk 256 (hfS g 257) :: (mkL 257 [hfC (hfN g) []] ++ [])) (257 + 1)) := by
  refine q9 (bs := bs) (los := [hfC (hfN g) []]) (by omega) (by simp) rfl uy rfl rfl (fun o ho => by rw [List.mem_singleton] at ho; subst ho; rfl) hc0 ?_ ?_ ?_
  ·intro j h h'
   match j, h with
   | 0, _ =>
     refine ⟨(ft _).2 (.inr (.inl rfl)), s1, ?_, ?_⟩
     ·intro a' t' f' hh
      have hh : w.heap[bb]? = _ := hh
      rw [s7] at hh; injection hh with hh; injection hh with e1 _ _; rw [← e1]; rfl
     ·exact awp e h90 hos' s7 s8 s9 s10 (by rw [h90]; exact s11)
  ·intro x y h h' hxy
   match x, y, h, h' with
   | 0, 0, _, _ => rfl
  ·exact ab5 e s5 (c8 B0).1 (by rw [(c8 B0).2]; exact s10) s9
 have ne : ∀ {m n : Nat}, m < 65536 → n < 65536 → m ≠ n → K.of m ≠ K.of n := by
  intro m n h1 h2 h3 z
  have := congrArg K.num z
  rw [bw h1, bw h2] at this
  exact h3 this
 have fin : ∀ ρ2 w' , Adv (ji ρ (dh 257 bs)) (ag (.mk 256 (hfS g 257) :: (mkL 257 [hfC (hfN g) []] ++ [])) (257 + 1)) w ρ2 (ag (.mk 256 (hfS g' kr) :: ([.mk kp (hfQ a b c d), .mk kr (hfC (hfN g') [.mk (hfN g) 86 (K.of kp)])] ++ [])) nxo) w' → ∃ ρ3, Adv ρ (ag [.mk 256 (.gob (.lh 2 g))] 257) w ρ3 (ag [.mk 256 (.gob (.lh 2 g'))] nxo) w' ∧ ρ2.le ρ3 := by
  intro ρ2 w' hA
  have a20 : aa (K.of 256) (ab [.mk 256 (hfS g' kr), .mk kp (hfQ a b c d), .mk kr (hfC (hfN g') [.mk (hfN g) 86 (K.of kp)])]) = bu (hfS g' kr) := by rw [af, if_pos rfl]
  have a2p : aa (K.of kp) (ab [.mk 256 (hfS g' kr), .mk kp (hfQ a b c d), .mk kr (hfC (hfN g') [.mk (hfN g) 86 (K.of kp)])]) = bu (hfQ a b c d) := by rw [af, if_neg (ne (by omega) (by omega) (by omega)), af, if_pos rfl]
  have a2r : aa (K.of kr) (ab [.mk 256 (hfS g' kr), .mk kp (hfQ a b c d), .mk kr (hfC (hfN g') [.mk (hfN g) 86 (K.of kp)])]) = bu (hfC (hfN g') [.mk (hfN g) 86 (K.of kp)]) := by rw [af, if_neg (ne (by omega) (by omega) (by omega)), af, if_neg (ne (by omega) (by omega) (by omega)), af, if_pos rfl]
  have l0 : aa (K.of 256) (ag [.mk 256 (hfS g' kr), .mk kp (hfQ a b c d), .mk kr (hfC (hfN g') [.mk (hfN g) 86 (K.of kp)])] nxo).h ≠ .none := by show aa _ (ab _) ≠ _; rw [a20]; exact c7 _
  have lp : aa (K.of kp) (ag [.mk 256 (hfS g' kr), .mk kp (hfQ a b c d), .mk kr (hfC (hfN g') [.mk (hfN g) 86 (K.of kp)])] nxo).h ≠ .none := by show aa _ (ab _) ≠ _; rw [a2p]; exact c7 _
  have lr : aa (K.of kr) (ag [.mk 256 (hfS g' kr), .mk kp (hfQ a b c d), .mk kr (hfC (hfN g') [.mk (hfN g) 86 (K.of kp)])] nxo).h ≠ .none := by show aa _ (ab _) ≠ _; rw [a2r]; exact c7 _
  have ro0 : (aa (K.of 256) (ag [.mk 256 (hfS g' kr), .mk kp (hfQ a b c d), .mk kr (hfC (hfN g') [.mk (hfN g) 86 (K.of kp)])] nxo).h).isRo = false := by show (aa _ (ab _)).isRo = _; rw [a20]; rfl
  have rop : (aa (K.of kp) (ag [.mk 256 (hfS g' kr), .mk kp (hfQ a b c d), .mk kr (hfC (hfN g') [.mk (hfN g) 86 (K.of kp)])] nxo).h).isRo = false := by show (aa _ (ab _)).isRo = _; rw [a2p]; rfl
  have ror : (aa (K.of kr) (ag [.mk 256 (hfS g' kr), .mk kp (hfQ a b c d), .mk kr (hfC (hfN g') [.mk (hfN g) 86 (K.of kp)])] nxo).h).isRo = false := by show (aa _ (ab _)).isRo = _; rw [a2r]; rfl
  have k0 : ρ2 (K.of 256) = some c0 := (hA.le _ _ (by rw [(ee hO.kr0).1]; exact hc0)).1
  obtain ⟨x0, y0, o0⟩ := hA.rel.dom (K.of 256) l0
  obtain ⟨p, kpp, op⟩ := hA.rel.dom (K.of kp) lp
  obtain ⟨b2, krr, orr⟩ := hA.rel.dom (K.of kr) lr
  rw [k0] at y0
  obtain rfl := Option.some.inj y0
  have o0 : ORel ρ2 (aa (K.of 256) (ab [.mk 256 (hfS g' kr), .mk kp (hfQ a b c d), .mk kr (hfC (hfN g') [.mk (hfN g) 86 (K.of kp)])])) w'.heap[c0]? := o0
  have op : ORel ρ2 (aa (K.of kp) (ab [.mk 256 (hfS g' kr), .mk kp (hfQ a b c d), .mk kr (hfC (hfN g') [.mk (hfN g) 86 (K.of kp)])])) w'.heap[p]? := op
  have orr : ORel ρ2 (aa (K.of kr) (ab [.mk 256 (hfS g' kr), .mk kp (hfQ a b c d), .mk kr (hfC (hfN g') [.mk (hfN g) 86 (K.of kp)])])) w'.heap[b2]? := orr
  rw [a20] at o0
  rw [a2p] at op
  rw [a2r] at orr
  have Bin : ∀ k x m, dh 257 bs k = some (x, m) → x = bb := by
   intro k x m h
   unfold dh at h
   split at h
   ·have z := List.mem_of_getElem? h
    rw [List.mem_singleton] at z; injection z with z1 z2
   ·cases h
  have nos : ∀ k y, aa k (ag [.mk 256 (hfS g' kr), .mk kp (hfQ a b c d), .mk kr (hfC (hfN g') [.mk (hfN g) 86 (K.of kp)])] nxo).h ≠ .none → (aa k (ag [.mk 256 (hfS g' kr), .mk kp (hfQ a b c d), .mk kr (hfC (hfN g') [.mk (hfN g) 86 (K.of kp)])] nxo).h).isRo = false → k ≠ K.of 256 → ρ2 k = some y → ¬ j7 os y := by
   intro k cc h1 h2 h3 h4 h5
   rcases hO.old hw hc hA l0 h1 h2 h4 ((ft cc).2 (.inr (.inr h5))) with z | ⟨l, m, z, _⟩
   ·exact h3 z
   ·rw [Bin l cc m z] at h5; exact s3 h5
  have dp : K.of kp ≠ K.of 256 := ne (by omega) (by omega) (by omega)
  have dr : K.of kr ≠ K.of 256 := ne (by omega) (by omega) (by omega)
  have dpr : K.of kp ≠ K.of kr := ne (by omega) (by omega) hne
  have npos := nos (K.of kp) p lp rop dp kpp
  have nros := nos (K.of kr) b2 lr ror dr krr
  have pc : p ≠ c0 := fun z => dp (hA.rel.inj1 lp l0 (.inl rop) (by rw [kpp, k0, z]))
  have rc : b2 ≠ c0 := fun z => dr (hA.rel.inj1 lr l0 (.inl ror) (by rw [krr, k0, z]))
  have pr : p ≠ b2 := fun z => dpr (hA.rel.inj1 lp lr (.inl rop) (by rw [kpp, krr, z]))
  have fr : ∀ x, j7 os x → w'.heap[x]? = w.heap[x]? := by
   intro x hx
   refine hO.frame hw hc hA ((ft x).2 (.inr (.inr hx))) (fun z => s2 (by rw [← z]; exact hx)) fun k m h => ?_
   exact absurd hx (by rw [Bin k x m h]; exact s3)
  obtain ⟨arr0, fz0, hx0, hf0, hv0⟩ := (dx (by simp)).1 o0
  simp only [VRels] at hv0
  obtain ⟨v1, t1, q1, r1, v2, t2, q2, r2, v3, t3, q3, r3, v4, t4, q4, r4, v5, t5, q5, r5, q6⟩ := hv0
  have r1 := bv r1
  have r2 := bv r2
  have r3 := bv r3
  rw [gc g' hg''] at r1
  rw [ce g' hg''] at r2
  rw [ix g' hg''] at r3
  simp only [VRel] at r4 r5
  obtain ⟨_, cc, cap', w1, w2, w3, w4, w5⟩ := r4
  rw [krr] at w1
  obtain rfl := Option.some.inj w1
  rw [ce g' hg''] at w2 w3 w5
  rw [Int.toNat_natCast] at w5
  obtain ⟨arr1, fz1, hx1, hf1, hv1⟩ := (dx (by simp)).1 op
  simp only [VRels] at hv1
  obtain ⟨u1, t1', p1, m1, u2, t2', p2, m2, u3, t3', p3, m3, u4, t4', p4, m4, p5⟩ := hv1
  have m1 := bv m1
  have m2 := bv m2
  have m3 := bv m3
  have m4 := bv m4
  have hob : px [2, a.eval Gv.σ, b.eval Gv.σ, c.eval Gv.σ, d.eval Gv.σ] p p w'.heap := .inl ⟨_, _, _, _, arr1, fz1, rfl, hx1, by rw [p1, p2, p3, p4, p5, m1, m2, m3, m4], hf1, rfl⟩
  obtain ⟨arr2, fz2, hb2, g1, g2, g3, g4, g5, g6⟩ := orr
  rw [e1'] at g2 g3 g4
  have z2 := hA.rel.len (K.of kr) b2 arr2 126 fz2 lr krr hb2
  rw [← z2] at w4
  obtain ⟨_, cp, h1, h2⟩ := g6 _ _ _ (List.mem_singleton.2 rfl)
  rw [kpp] at h1
  obtain rfl := Option.some.inj h1
  rw [e1, Int.toNat_natCast] at h2
  have lenL : (L ++ [[2, a.eval Gv.σ, b.eval Gv.σ, c.eval Gv.σ, d.eval Gv.σ]]).length = L.length + 1 := by simp
  rw [lenL] at w2 w3 w5 g4
  have row : arr2.toList.take (L.length + 1) = (List.zipWith dq (L ++ [[2, a.eval Gv.σ, b.eval Gv.σ, c.eval Gv.σ, d.eval Gv.σ]]) ((os ++ [(p, p)]).map (·.1))).map ky := by
   rw [List.map_append, List.map_cons, List.map_nil, aaj hos', ← h90]
   apply List.ext_getElem?
   intro i
   by_cases hi : i < L.length
   ·rw [List.getElem?_take_of_lt (by omega), Array.getElem?_toList, List.getElem?_map, List.getElem?_append_left (by omega)]
    have hi' : i < (Gv.σ 90).length := by omega
    rw [g5 i hi', zK hi']
    rfl
   ·by_cases hi2 : i = L.length
    ·subst hi2
     rw [List.getElem?_take_of_lt (by omega), Array.getElem?_toList, List.getElem?_map, List.getElem?_append_right (by omega), hl90, Nat.sub_self, h2]
     simp only [List.getElem?_cons_zero, Option.map_some]
     rw [ai8]
    ·rw [List.getElem?_eq_none (by simp; omega), List.getElem?_eq_none (by simp; omega)]
  refine vq (F' := fun x => x = c0 ∨ x = b2 ∨ j7 (os ++ [(p, p)]) x) (bs := bs) (los := [hfC (hfN g) []]) (by omega) (by simp) rfl hO hw hc hA rfl ?_ sy (.inl rfl) (.inr ⟨rfl, ?_⟩) ?_
  ·intro n' o' hm
   rcases List.mem_cons.1 hm with hm | hm
   ·injection hm with z _; omega
   ·rw [List.mem_singleton] at hm; injection hm with z _; omega
  ·refine ⟨lim, _, hg'', hok' lim L e hok, .inr ⟨os ++ [(p, p)], b2, arr2, fz2, cap', rfl, rc, ?_, ?_, qg hob (kf (fun x hx => fr x hx) s4) npos npos, ⟨arr0, fz0, hx0, ?_, hf0⟩, by simp, hb2, g1, by rw [lenL]; omega, by omega, by rw [lenL]; exact row⟩⟩
   ·rw [bsIn_snoc]; rintro (z | z)
    ·exact s2 z
    ·exact pc z.symm
   ·rw [bsIn_snoc]; rintro (z | z)
    ·exact nros z
    ·exact pr z.symm
   ·rw [q1, q2, q3, q4, q5, q6, r1, r2, r3, w5, r5, lenL]
  ·rintro y (rfl | rfl | hy)
   ·exact .inl ((ft _).2 (.inl rfl))
   ·refine .inr ⟨kr, _, zA _ (List.mem_cons_self ..), ?_, krr⟩
    show (aa (K.of kr) (ab [.mk kp (hfQ a b c d), .mk kr (hfC (hfN g') [.mk (hfN g) 86 (K.of kp)])])).isRo = false
    rw [af, if_neg (fun z => dpr z.symm), af, if_pos rfl]; rfl
   ·rcases bsIn_snoc.1 hy with z | rfl
    ·exact .inl ((ft _).2 (.inr (.inr z)))
    ·refine .inr ⟨kp, _, List.mem_cons_self .., ?_, kpp⟩
     show (aa (K.of kp) (ab [.mk kp (hfQ a b c d), .mk kr (hfC (hfN g') [.mk (hfN g) 86 (K.of kp)])])).isRo = false
     rw [af, if_pos rfl]; rfl
 have run := hf lim L s6 e hok hl90 (ji ρ (dh 257 bs)) args w (hO.grel hc hg (by show 256 ≤ (K.of 257).num; omega)) (hO.rel hw hc) (hO.clean hc) (VRels.mono (hO.le hc) _ _ hv)
 refine Calls.mono run fun e w' hp => ?_
 cases r with
 | ret v =>
   obtain ⟨v', ρ2, e1, e2, hA⟩ := hp
   obtain ⟨ρ3, hA3, hle⟩ := fin ρ2 w' hA
   exact ⟨v', ρ3, e1, e2.mono hle, hA3⟩
 | pan ch =>
   obtain ⟨ch', ρ2, e1, e2, hA⟩ := hp
   obtain ⟨ρ3, hA3, hle⟩ := fin ρ2 w' hA
   exact ⟨ch', ρ3, e1, e2.mono hle, hA3⟩
end
end Go.Ev
set_option maxRecDepth 100000
set_option linter.all false
namespace Go.Ev
noncomputable section
def cnR : GE := .cat (.one (.c 2)) (.cat (.one (.v 10)) (.cat (.one (.v 11)) (.cat (.one (.v 12)) (.one (.v 13)))))
def cnG : GE := .app 206 (.g (.s 5) (.g cnR .nil))
def usE (g : GE) : SE := .app 202 (.g g .nil)
def cnU : List AV := [hpp, wd (.v 10) (.v 11), wd (.v 12) (.v 13)]
def cnV : TR := .ret (.tuple [.agg [.int .i64 2, .sym .i64 (hfN (.s 5)) []], .int .i64 0])
end
section
variable [Gv]
theorem ba3 (hA : SAll Gv.σ [.mk true (.c 0) (.rd (.s 5) (.c 0)) true, .mk false (hfN (.s 5)) (.rd (.s 5) (.c 0)) false, .mk true (hfN (.s 5)) (.c 0) false, .mk true (.c 50000) (hfN (.s 5)) false, .mk true (usE (.s 5)) (.c 0) false, .mk true (.c 1048576) (usE (.s 5)) false, .mk false (.len (.s 90)) (hfN (.s 5)) true, .mk true (.c 1048576) (.bin 0 .i64 (usE (.s 5)) (.c 0)) false, .mk true (.c 400000) (.bin 6 .i64 (hfN (.s 5)) (.c 1)) false])
  (hE : EqL.all Gv.σ (.i (.rd (.s 5) (.c 0)) (.rd cnG (.c 0)) (.i (.bin 0 .i64 (hfN (.s 5)) (.c 1)) (hfN cnG) (.i (.bin 0 .i64 (usE (.s 5)) (.c 0)) (usE cnG) (.i (.bin 6 .i64 (hfN (.s 5)) (.c 1)) (hfN cnG) .nil))))) :
  di 12 cnU 258 [.mk 256 (hfS (.s 5) 257), .mk 257 (hfC (hfN (.s 5)) [])] cnV 265 [.mk 256 (hfS cnG 264), .mk 261 (hfQ (.v 10) (.v 11) (.v 12) (.v 13)), .mk 264 (hfC (hfN cnG) [.mk (hfN (.s 5)) 86 (K.of 261)])] :=
 ej (n := 2000) (T := [(261, 261), (264, 264)]) (E := (.i (.rd (.s 5) (.c 0)) (.rd cnG (.c 0)) (.i (.bin 0 .i64 (hfN (.s 5)) (.c 1)) (hfN cnG) (.i (.bin 0 .i64 (usE (.s 5)) (.c 0)) (usE cnG) (.i (.bin 6 .i64 (hfN (.s 5)) (.c 1)) (hfN cnG) .nil))))) c9 d7 hA hE rfl rfl (by kernel_rfl)
end
end Go.Ev
set_option maxRecDepth 100000
set_option linter.all false
namespace Go.Ev
section
variable [Gv]
set_option maxHeartbeats 2000000 in
theorem a7f {f nxo kp kr : Nat} {g g' : GE} {a b c d : SE} {us : List AV} {r : TR} (hkp : 258 < kp ∧ kp ≤ 65535) (hkr : 258 < kr ∧ kr ≤ 65535) (hne : kp ≠ kr)
  (hg' : g'.eval Gv.σ = n7 (g.eval Gv.σ) [2, a.eval Gv.σ, b.eval Gv.σ, c.eval Gv.σ, d.eval Gv.σ])
  (hok' : ∀ lim L, g.eval Gv.σ = lim :: d6 L → im lim L → im lim (L ++ [[2, a.eval Gv.σ, b.eval Gv.σ, c.eval Gv.σ, d.eval Gv.σ]]))
  (hf : ∀ lim, g.eval Gv.σ = lim :: d6 [] → im lim [] → di f us 257 [.mk 256 (hfR g .nilSlice)] r nxo [.mk 256 (hfS g' kr), .mk kp (hfQ a b c d), .mk kr (.cells 126 true 0 0 [.iface 86 (.ptr (K.of kp) 0)])])
  {ρ : Env} {args : Array Value} {w : World} {c0 : Nat} (hg : GRel ρ) (hw : WRel ρ (ag [.mk 256 (.gob (.lh 2 g))] 257) w) (hc : Clean ρ (ag [.mk 256 (.gob (.lh 2 g))] 257)) (hv : VRels ρ us args.toList) (hc0 : ρ (K.of 256) = some c0) (hq : g.eval Gv.σ = [(g.eval Gv.σ).headD 0]) :
  Calls PP f args w (CPost ρ (ag [.mk 256 (.gob (.lh 2 g))] 257) w (az3 r (ag [.mk 256 (.gob (.lh 2 g'))] nxo))) := by
 have hg0 : bi (aa (K.of 256) (ag [.mk 256 (.gob (.lh 2 g))] 257).h) = some (2, g) := by
  show bi (aa _ (ab _)) = _
  rw [af, if_pos rfl]; rfl
 have q := hw.gho _ 2 g hg0
 have n256 : (K.of 256).num = 256 := bw (by omega)
 have n257 : (K.of 257).num = 257 := bw (by omega)
 have np : (K.of kp).num = kp := bw (by omega)
 have nr : (K.of kr).num = kr := bw (by omega)
 rcases q.rel c0 hc0 with ⟨h1, _⟩ | ⟨_, hF⟩
 ·cases h1
 obtain ⟨lim, L, e, hok, hF⟩ := hF
 have hL0 : L = [] := by
  rw [e] at hq
  cases L with
  | nil => rfl
  | cons x L => simp [d6] at hq
 subst hL0
 rcases hF with ⟨_, hFF, hrt⟩ | ⟨os, bb, arr, fz, cap, hFF, s1, s2, s3, s4, s5, s6, _⟩
 case inr => exact absurd rfl s6
 have e1 := ce (σ := Gv.σ) g e
 have hg'' : g'.eval Gv.σ = lim :: d6 ([] ++ [[2, a.eval Gv.σ, b.eval Gv.σ, c.eval Gv.σ, d.eval Gv.σ]]) := by
  rw [hg', e, kc]; rfl
 have e1' := ce (σ := Gv.σ) g' hg''
 have ft : ∀ x, ρ.ft (K.of 256) x ↔ x = c0 := fun x => by rw [hFF]
 have rootN : ∀ ρ x, ajn lim [] (.slice none 0 0) x → ORel ρ (bu (hfR g .nilSlice)) x := by
  rintro ρ x ⟨arr, fz, hx, ha, hf⟩
  refine (dx (by simp)).2 ⟨arr, fz, hx, hf, ?_⟩
  rw [ha]
  simp only [VRels]
  exact ⟨_, _, rfl, j0 (gc g e), _, _, rfl, j0 e1, _, _, rfl, j0 (ix g e), _, _, rfl, by simp only [VRel], _, _, rfl, by simp only [VRel], rfl⟩
 have hO : GhOpen (K.of 256) (dh 257 []) 2 g ρ (ag [.mk 256 (.gob (.lh 2 g))] 257) w c0 (ag (.mk 256 (hfR g .nilSlice) :: (mkL 257 [] ++ [])) (257 + 0)) :=
  q9 (bs := []) (los := []) (by omega) (by simp) rfl uy rfl rfl (fun o ho => by cases ho) hc0 (fun j h => by simp at h) (fun x y h => by simp at h) (rootN _ _ hrt)
 have ne : ∀ {m n : Nat}, m < 65536 → n < 65536 → m ≠ n → K.of m ≠ K.of n := by
  intro m n h1 h2 h3 z
  have := congrArg K.num z
  rw [bw h1, bw h2] at this
  exact h3 this
 have fin : ∀ ρ2 w' , Adv (ji ρ (dh 257 [])) (ag (.mk 256 (hfR g .nilSlice) :: (mkL 257 [] ++ [])) (257 + 0)) w ρ2 (ag (.mk 256 (hfS g' kr) :: ([.mk kp (hfQ a b c d), .mk kr (.cells 126 true 0 0 [.iface 86 (.ptr (K.of kp) 0)])] ++ [])) nxo) w' → ∃ ρ3, Adv ρ (ag [.mk 256 (.gob (.lh 2 g))] 257) w ρ3 (ag [.mk 256 (.gob (.lh 2 g'))] nxo) w' ∧ ρ2.le ρ3 := by
  intro ρ2 w' hA
  have a20 : aa (K.of 256) (ab [.mk 256 (hfS g' kr), .mk kp (hfQ a b c d), .mk kr (.cells 126 true 0 0 [.iface 86 (.ptr (K.of kp) 0)])]) = bu (hfS g' kr) := by rw [af, if_pos rfl]
  have a2p : aa (K.of kp) (ab [.mk 256 (hfS g' kr), .mk kp (hfQ a b c d), .mk kr (.cells 126 true 0 0 [.iface 86 (.ptr (K.of kp) 0)])]) = bu (hfQ a b c d) := by rw [af, if_neg (ne (by omega) (by omega) (by omega)), af, if_pos rfl]
  have a2r : aa (K.of kr) (ab [.mk 256 (hfS g' kr), .mk kp (hfQ a b c d), .mk kr (.cells 126 true 0 0 [.iface 86 (.ptr (K.of kp) 0)])]) = bu (.cells 126 true 0 0 [.iface 86 (.ptr (K.of kp) 0)]) := by rw [af, if_neg (ne (by omega) (by omega) (by omega)), af, if_neg (ne (by omega) (by omega) (by omega)), af, if_pos rfl]
  have l0 : aa (K.of 256) (ag [.mk 256 (hfS g' kr), .mk kp (hfQ a b c d), .mk kr (.cells 126 true 0 0 [.iface 86 (.ptr (K.of kp) 0)])] nxo).h ≠ .none := by show aa _ (ab _) ≠ _; rw [a20]; exact c7 _
  have lp : aa (K.of kp) (ag [.mk 256 (hfS g' kr), .mk kp (hfQ a b c d), .mk kr (.cells 126 true 0 0 [.iface 86 (.ptr (K.of kp) 0)])] nxo).h ≠ .none := by show aa _ (ab _) ≠ _; rw [a2p]; exact c7 _
  have lr : aa (K.of kr) (ag [.mk 256 (hfS g' kr), .mk kp (hfQ a b c d), .mk kr (.cells 126 true 0 0 [.iface 86 (.ptr (K.of kp) 0)])] nxo).h ≠ .none := by show aa _ (ab _) ≠ _; rw [a2r]; exact c7 _
  have ro0 : (aa (K.of 256) (ag [.mk 256 (hfS g' kr), .mk kp (hfQ a b c d), .mk kr (.cells 126 true 0 0 [.iface 86 (.ptr (K.of kp) 0)])] nxo).h).isRo = false := by show (aa _ (ab _)).isRo = _; rw [a20]; rfl
  have rop : (aa (K.of kp) (ag [.mk 256 (hfS g' kr), .mk kp (hfQ a b c d), .mk kr (.cells 126 true 0 0 [.iface 86 (.ptr (K.of kp) 0)])] nxo).h).isRo = false := by show (aa _ (ab _)).isRo = _; rw [a2p]; rfl
  have ror : (aa (K.of kr) (ag [.mk 256 (hfS g' kr), .mk kp (hfQ a b c d), .mk kr (.cells 126 true 0 0 [.iface 86 (.ptr (K.of kp) 0)])] nxo).h).isRo = false := by show (aa _ (ab _)).isRo = _; rw [a2r]; rfl
  have k0 : ρ2 (K.of 256) = some c0 := (hA.le _ _ (by rw [(ee hO.kr0).1]; exact hc0)).1
  obtain ⟨x0, y0, o0⟩ := hA.rel.dom (K.of 256) l0
  obtain ⟨p, kpp, op⟩ := hA.rel.dom (K.of kp) lp
  obtain ⟨b2, krr, orr⟩ := hA.rel.dom (K.of kr) lr
  rw [k0] at y0
  obtain rfl := Option.some.inj y0
  have o0 : ORel ρ2 (aa (K.of 256) (ab [.mk 256 (hfS g' kr), .mk kp (hfQ a b c d), .mk kr (.cells 126 true 0 0 [.iface 86 (.ptr (K.of kp) 0)])])) w'.heap[c0]? := o0
  have op : ORel ρ2 (aa (K.of kp) (ab [.mk 256 (hfS g' kr), .mk kp (hfQ a b c d), .mk kr (.cells 126 true 0 0 [.iface 86 (.ptr (K.of kp) 0)])])) w'.heap[p]? := op
  have orr : ORel ρ2 (aa (K.of kr) (ab [.mk 256 (hfS g' kr), .mk kp (hfQ a b c d), .mk kr (.cells 126 true 0 0 [.iface 86 (.ptr (K.of kp) 0)])])) w'.heap[b2]? := orr
  rw [a20] at o0
  rw [a2p] at op
  rw [a2r] at orr
  have nos : ∀ k y, aa k (ag [.mk 256 (hfS g' kr), .mk kp (hfQ a b c d), .mk kr (.cells 126 true 0 0 [.iface 86 (.ptr (K.of kp) 0)])] nxo).h ≠ .none → (aa k (ag [.mk 256 (hfS g' kr), .mk kp (hfQ a b c d), .mk kr (.cells 126 true 0 0 [.iface 86 (.ptr (K.of kp) 0)])] nxo).h).isRo = false → k ≠ K.of 256 → ρ2 k = some y → ¬ j7 [] y := by
   rintro k y _ _ _ _ ⟨_, z, _⟩
   cases z
  have dp : K.of kp ≠ K.of 256 := ne (by omega) (by omega) (by omega)
  have dr : K.of kr ≠ K.of 256 := ne (by omega) (by omega) (by omega)
  have dpr : K.of kp ≠ K.of kr := ne (by omega) (by omega) hne
  have npos := nos (K.of kp) p lp rop dp kpp
  have nros := nos (K.of kr) b2 lr ror dr krr
  have pc : p ≠ c0 := fun z => dp (hA.rel.inj1 lp l0 (.inl rop) (by rw [kpp, k0, z]))
  have rc : b2 ≠ c0 := fun z => dr (hA.rel.inj1 lr l0 (.inl ror) (by rw [krr, k0, z]))
  have pr : p ≠ b2 := fun z => dpr (hA.rel.inj1 lp lr (.inl rop) (by rw [kpp, krr, z]))
  obtain ⟨arr0, fz0, hx0, hf0, hv0⟩ := (dx (by simp)).1 o0
  simp only [VRels] at hv0
  obtain ⟨v1, t1, q1, r1, v2, t2, q2, r2, v3, t3, q3, r3, v4, t4, q4, r4, v5, t5, q5, r5, q6⟩ := hv0
  have r1 := bv r1
  have r2 := bv r2
  have r3 := bv r3
  rw [gc g' hg''] at r1
  rw [ce g' hg''] at r2
  rw [ix g' hg''] at r3
  simp only [VRel] at r4 r5
  obtain ⟨_, cc, cap', w1, w2, w3, w4, w5⟩ := r4
  rw [krr] at w1
  obtain rfl := Option.some.inj w1
  rw [ce g' hg''] at w2 w3 w5
  rw [Int.toNat_natCast] at w5
  obtain ⟨arr1, fz1, hx1, hf1, hv1⟩ := (dx (by simp)).1 op
  simp only [VRels] at hv1
  obtain ⟨u1, t1', p1, m1, u2, t2', p2, m2, u3, t3', p3, m3, u4, t4', p4, m4, p5⟩ := hv1
  have m1 := bv m1
  have m2 := bv m2
  have m3 := bv m3
  have m4 := bv m4
  have hob : px [2, a.eval Gv.σ, b.eval Gv.σ, c.eval Gv.σ, d.eval Gv.σ] p p w'.heap := .inl ⟨_, _, _, _, arr1, fz1, rfl, hx1, by rw [p1, p2, p3, p4, p5, m1, m2, m3, m4], hf1, rfl⟩
  obtain ⟨arr2, fz2, hb2, f2, _, _, ⟨_, f5⟩, f6⟩ := orr
  have g4 : 1 ≤ arr2.size := f2
  have g1 : fz2.2 ≤ fz2.1 := by
   apply Classical.byContradiction
   intro hn
   have := f5 fz2.1 (zY _) (by omega)
   omega
  obtain ⟨v0, i1, i2⟩ := f6 0 (by show 0 < cx [_]; rw [ax]; simp)
  have hcap : 1 ≤ mc (j5 (cx [AV.iface 86 (AV.ptr (K.of kp) 0)])) := by rw [ax]; exact gx 1 (by omega)
  rw [ig _ 0 _ 0 (by simpa using hcap) (by omega), dif_pos ⟨zY _, by simp⟩] at i2
  simp only [Nat.sub_self, List.getElem_cons_zero, VRel] at i2
  obtain ⟨v', rfl, cp, h1, rfl⟩ := i2
  have h2 := i1
  have z2 := hA.rel.len (K.of kr) b2 arr2 126 fz2 lr krr hb2
  rw [← z2] at w4
  rw [kpp] at h1
  obtain rfl := Option.some.inj h1
  have lenL : ([] ++ [[2, a.eval Gv.σ, b.eval Gv.σ, c.eval Gv.σ, d.eval Gv.σ]]).length = 0 + 1 := by simp
  rw [lenL] at w2 w3 w5
  have row : arr2.toList.take (0 + 1) = (List.zipWith dq ([] ++ [[2, a.eval Gv.σ, b.eval Gv.σ, c.eval Gv.σ, d.eval Gv.σ]]) (([] ++ [(p, p)] : List (Nat × Nat)).map (·.1))).map ky := by
   show _ = [ky (dq _ p)]
   rw [ai8]
   apply List.ext_getElem?
   intro i
   by_cases hi : i = 0
   ·subst hi
    rw [List.getElem?_take_of_lt (by omega), Array.getElem?_toList, h2]; rfl
   ·rw [List.getElem?_eq_none (by simp; omega), List.getElem?_eq_none (by simp; omega)]
  refine vq (F' := fun x => x = c0 ∨ x = b2 ∨ j7 ([] ++ [(p, p)]) x) (bs := []) (los := []) (by omega) (by simp) rfl hO hw hc hA rfl ?_ sy (.inl rfl) (.inr ⟨rfl, ?_⟩) ?_
  ·intro n' o' hm
   rcases List.mem_cons.1 hm with hm | hm
   ·injection hm with z _; omega
   ·rw [List.mem_singleton] at hm; injection hm with z _; omega
  ·refine ⟨lim, _, hg'', hok' lim [] e hok, .inr ⟨[] ++ [(p, p)], b2, arr2, fz2, cap', rfl, rc, ?_, ?_, qg (L := []) (os := []) hob trivial npos npos, ⟨arr0, fz0, hx0, ?_, hf0⟩, by simp, hb2, g1, by rw [lenL]; omega, by omega, by rw [lenL]; exact row⟩⟩
   ·rw [bsIn_snoc]; rintro (z | z)
    ·obtain ⟨_, z, _⟩ := z; cases z
    ·exact pc z.symm
   ·rw [bsIn_snoc]; rintro (z | z)
    ·exact nros z
    ·exact pr z.symm
   ·rw [q1, q2, q3, q4, q5, q6, r1, r2, r3, w5, r5, lenL]
  ·rintro y (rfl | rfl | hy)
   ·exact .inl ((ft _).2 rfl)
   ·refine .inr ⟨kr, _, zA _ (List.mem_cons_self ..), ?_, krr⟩
    show (aa (K.of kr) (ab [.mk kp (hfQ a b c d), .mk kr (.cells 126 true 0 0 [.iface 86 (.ptr (K.of kp) 0)])])).isRo = false
    rw [af, if_neg (fun z => dpr z.symm), af, if_pos rfl]; rfl
   ·rcases bsIn_snoc.1 hy with z | rfl
    ·obtain ⟨_, z, _⟩ := z; cases z
    ·refine .inr ⟨kp, _, List.mem_cons_self .., ?_, kpp⟩
     show (aa (K.of kp) (ab [.mk kp (hfQ a b c d), .mk kr (.cells 126 true 0 0 [.iface 86 (.ptr (K.of kp) 0)])])).isRo = false
     rw [af, if_pos rfl]; rfl
 have run := hf lim e hok (ji ρ (dh 257 [])) args w (hO.grel hc hg (by show 256 ≤ (K.of 257).num; omega)) (hO.rel hw hc) (hO.clean hc) (VRels.mono (hO.le hc) _ _ hv)
 refine Calls.mono run fun e w' hp => ?_
 cases r with
 | ret v =>
   obtain ⟨v', ρ2, e1, e2, hA⟩ := hp
   obtain ⟨ρ3, hA3, hle⟩ := fin ρ2 w' hA
   exact ⟨v', ρ3, e1, e2.mono hle, hA3⟩
 | pan ch =>
   obtain ⟨ch', ρ2, e1, e2, hA⟩ := hp
   obtain ⟨ρ3, hA3, hle⟩ := fin ρ2 w' hA
   exact ⟨ch', ρ3, e1, e2.mono hle, hA3⟩
end
end Go.Ev
set_option maxRecDepth 100000
set_option linter.all false
namespace Go.Ev
section
variable [Gv]
theorem a6x (hA : SAll Gv.σ [.mk true (.c 0) (.rd (.s 5) (.c 0)) true, .mk false (hfN (.s 5)) (.rd (.s 5) (.c 0)) false, .mk false (hfN (.s 5)) (.c 0) true, .mk false (.c 0) (.rd (.s 5) (.c 0)) false, .mk true (usE (.s 5)) (.c 0) false, .mk true (.c 1048576) (usE (.s 5)) false, .mk true (.c 1048576) (.bin 0 .i64 (usE (.s 5)) (.c 0)) false])
  (hE : EqL.all Gv.σ (.i (.rd (.s 5) (.c 0)) (.rd cnG (.c 0)) (.i (.bin 0 .i64 (hfN (.s 5)) (.c 1)) (hfN cnG) (.i (.bin 0 .i64 (usE (.s 5)) (.c 0)) (usE cnG) (.i (.c 1) (hfN cnG) (.i (.c 0) (hfN (.s 5)) .nil)))))) :
  di 12 cnU 257 [.mk 256 (hfR (.s 5) .nilSlice)] cnV 265 [.mk 256 (hfS cnG 264), .mk 261 (hfQ (.v 10) (.v 11) (.v 12) (.v 13)), .mk 264 (.cells 126 true 0 0 [.iface 86 (.ptr (K.of 261) 0)])] :=
 ej (n := 2000) (T := [(260, 261), (263, 264)]) (E := (.i (.rd (.s 5) (.c 0)) (.rd cnG (.c 0)) (.i (.bin 0 .i64 (hfN (.s 5)) (.c 1)) (hfN cnG) (.i (.bin 0 .i64 (usE (.s 5)) (.c 0)) (usE cnG) (.i (.c 1) (hfN cnG) (.i (.c 0) (hfN (.s 5)) .nil)))))) c9 d7 hA hE rfl rfl (by kernel_rfl)
end
end Go.Ev
set_option maxRecDepth 100000
set_option linter.all false
namespace Go.Ev
theorem as3 {x : Int} (h : -9223372036854775808 ≤ x ∧ x ≤ 9223372036854775807) : IntKind.i64.wrap x = x := by
 simp only [IntKind.wrap, IntKind.bits, IntKind.signed]; simp; omega
section
variable [Gv]
theorem u6 : ∀ L, 0 ≤ du L
 | [] => by simp [du]
 | r :: L => by
   have := u6 L
   have h : 0 ≤ tc r := by unfold tc; split <;> omega
   simp only [du, List.map_cons, List.foldr_cons] at this ⊢
   omega
theorem a6v {lim : Int} {L : List (List Int)} (e : (GE.s 5).eval Gv.σ = lim :: d6 L) : cnG.eval Gv.σ = lim :: d6 (L ++ [[2, (SE.v 10).eval Gv.σ, (SE.v 11).eval Gv.σ, (SE.v 12).eval Gv.σ, (SE.v 13).eval Gv.σ]]) := by
 show n7 ((GE.s 5).eval Gv.σ) _ = _
 rw [e, kc]; rfl
theorem aqb {lim : Int} {L : List (List Int)} (e : (GE.s 5).eval Gv.σ = lim :: d6 L) (hok : im lim L) :
  (SE.rd (.s 5) (.c 0)).eval Gv.σ = lim ∧ (SE.rd cnG (.c 0)).eval Gv.σ = lim ∧ (hfN (.s 5)).eval Gv.σ = L.length ∧ (hfN cnG).eval Gv.σ = L.length + 1 ∧ (usE (.s 5)).eval Gv.σ = du L ∧ (usE cnG).eval Gv.σ = du L ∧
  (SE.bin 0 .i64 (hfN (.s 5)) (.c 1)).eval Gv.σ = L.length + 1 ∧ (SE.bin 6 .i64 (hfN (.s 5)) (.c 1)).eval Gv.σ = L.length + 1 ∧ (SE.bin 0 .i64 (usE (.s 5)) (.c 0)).eval Gv.σ = du L := by
 have e' := a6v e
 obtain ⟨b1, b2, b3, b4⟩ := hok
 have u := u6 L
 have n1 := ce (σ := Gv.σ) (.s 5) e
 have u1 := ix (σ := Gv.σ) (.s 5) e
 have n2 := ce (σ := Gv.σ) cnG e'
 have u2 := ix (σ := Gv.σ) cnG e'
 rw [zP] at n2
 rw [ow] at u2
 refine ⟨gc _ e, gc _ e', n1, n2, u1, by rw [show usE cnG = .app 202 (.g cnG .nil) from rfl, u2]; show du L + 0 = _; omega, ?_, ?_, ?_⟩
 ·show IntKind.i64.wrap ((hfN (.s 5)).eval Gv.σ + 1) = _
  rw [n1]; exact as3 (by omega)
 ·show (hfN (.s 5)).eval Gv.σ + 1 = _
  rw [n1]
 ·show IntKind.i64.wrap ((usE (.s 5)).eval Gv.σ + 0) = _
  rw [show (usE (.s 5)).eval Gv.σ = du L from u1, as3 (by omega)]; omega
theorem bh9 {lim : Int} {L : List (List Int)} (hL : L ≠ []) (e : (GE.s 5).eval Gv.σ = lim :: d6 L) (hok : im lim L) (h90 : (Gv.σ 90).length = L.length) (hfull : (L.length : Int) ≠ lim) :
  di 12 cnU 258 [.mk 256 (hfS (.s 5) 257), .mk 257 (hfC (hfN (.s 5)) [])] cnV 265 [.mk 256 (hfS cnG 264), .mk 261 (hfQ (.v 10) (.v 11) (.v 12) (.v 13)), .mk 264 (hfC (hfN cnG) [.mk (hfN (.s 5)) 86 (K.of 261)])] := by
 obtain ⟨f1, f2, f3, f4, f5, f6, f7, f8, f9⟩ := aqb e hok
 have u := u6 L
 have hp : 0 < L.length := by cases L with | nil => exact absurd rfl hL | cons x L => simp
 obtain ⟨b1, b2, b3, b4⟩ := hok
 refine ba3 (aT (by rw [f1]; simp only [SE.eval]; omega) (aN (by rw [f1, f3]; exact hfull) (aF (by rw [f3]; simp only [SE.eval]; omega) (aF (by rw [f3]; simp only [SE.eval]; omega) (aF (by rw [f5]; simp only [SE.eval]; omega) (aF (by rw [f5]; simp only [SE.eval]; omega) (aE (by rw [f3]; show ((Gv.σ 90).length : Int) = _; omega) (aF (by rw [f9]; simp only [SE.eval]; omega) (aF (by rw [f8]; simp only [SE.eval]; omega) SAll.nil))))))))) ⟨by rw [f1, f2], by rw [f7, f4], by rw [f9, f6], by rw [f8, f4], trivial⟩
theorem bh8 {lim : Int} (e : (GE.s 5).eval Gv.σ = lim :: d6 []) (hok : im lim []) :
  di 12 cnU 257 [.mk 256 (hfR (.s 5) .nilSlice)] cnV 265 [.mk 256 (hfS cnG 264), .mk 261 (hfQ (.v 10) (.v 11) (.v 12) (.v 13)), .mk 264 (.cells 126 true 0 0 [.iface 86 (.ptr (K.of 261) 0)])] := by
 obtain ⟨f1, f2, f3, f4, f5, f6, f7, f8, f9⟩ := aqb e hok
 obtain ⟨b1, b2, b3, b4⟩ := hok
 have u0 : du [] = 0 := rfl
 rw [u0] at f5 f6 f9
 simp only [zS] at f3 f4 f7 f8
 refine a6x (aT (by rw [f1]; simp only [SE.eval]; omega) (aN (by rw [f1, f3]; omega) (aE (by rw [f3]; rfl) (aN (by rw [f1]; simp only [SE.eval]; omega) (aF (by rw [f5]; simp only [SE.eval]; omega) (aF (by rw [f5]; simp only [SE.eval]; omega) (aF (by rw [f9]; simp only [SE.eval]; omega) SAll.nil))))))) ⟨by rw [f1, f2], by rw [f7, f4], by rw [f9, f6], by rw [f4]; rfl, by rw [f3]; rfl, trivial⟩
end
end Go.Ev
set_option maxRecDepth 100000
set_option linter.all false
namespace Go.Ev
theorem a6w : aa (K.of 256) (ab [.mk 256 (hgh (.s 5))]) ≠ .none := by
 letI : Gv := ⟨fun _ => []⟩
 rw [af, if_pos rfl]; exact c7 _
theorem bc1 {σ : Nat → List Int} (hA : (hfN (.s 5)).eval σ ≠ (SE.rd (.s 5) (.c 0)).eval σ) : @di ⟨σ⟩ 12 cnU 257 [.mk 256 (hgh (.s 5))] cnV 265 [.mk 256 (hgh cnG)] := by
 refine aqp (KL := [(256, 256)]) (fun codes c0 H => aq3 (σ 5) codes c0 H ∨ σ 5 = [(σ 5).headD 0]) (by omega) (by omega) (by omega) rfl rfl rfl rfl rfl rfl a6w (fun _ => rfl) (fun _ => rfl) (fun _ => rfl) (fun _ => rfl) ?_ ?_
 ·intro ρ w c0 hw hc0
  letI : Gv := ⟨σ⟩
  have hg0 : bi (aa (K.of 256) (ag [.mk 256 (hgh (.s 5))] 257).h) = some (2, .s 5) := by
   show bi (aa _ (ab _)) = _
   rw [af, if_pos rfl]; rfl
  have q := hw.gho _ 2 (.s 5) hg0
  rcases q.rel c0 hc0 with ⟨h1, _⟩ | ⟨_, hF⟩
  ·cases h1
  obtain ⟨lim, L, e, hok, hF⟩ := hF
  have e : σ 5 = lim :: d6 L := e
  rcases hF with ⟨h0, _⟩ | ⟨os, bb, arr, fz, cap, hFF, s1, s2, s3, s4, s5, s6, s7, s8, s9, s10, s11⟩
  ·subst h0
   exact ⟨[], .inr (by rw [e]; rfl)⟩
  ·exact ⟨_, .inl ⟨lim, L, os, bb, arr, fz, cap, e, rfl, s4, s1, s2, s3, s5, s6, s7, s8, s9, s10, s11⟩⟩
 ·intro σ' hs ρ args w c0 hg hw hc hv hc0 hq
  letI : Gv := ⟨σ'⟩
  have h5 : σ' 5 = σ 5 := hs 5 (by omega)
  rw [← h5] at hq
  have hne : (hfN (.s 5)).eval σ' ≠ (SE.rd (.s 5) (.c 0)).eval σ' := by
   intro z
   apply hA
   have z : ((recs (σ' 5).tail).length : Int) = (σ' 5).getD (0 : Int).toNat 0 := z
   rw [h5] at z
   exact z
  have full : ∀ lim L, (GE.s 5).eval σ' = lim :: d6 L → (L.length : Int) ≠ lim := by
   intro lim L e z
   exact hne (by rw [ce _ e, gc _ e, z])
  have hok' : ∀ lim L, (GE.s 5).eval σ' = lim :: d6 L → im lim L → im lim (L ++ [[2, (SE.v 10).eval σ', (SE.v 11).eval σ', (SE.v 12).eval σ', (SE.v 13).eval σ']]) := by
   intro lim L e hok
   have := full lim L e
   obtain ⟨b1, b2, b3, b4⟩ := hok
   refine ⟨b1, b2, by rw [zP]; show ((L.length + 1 : Nat) : Int) ≤ lim; omega, by rw [ow]; show du L + 0 ≤ _; omega⟩
  rcases hq with hq | hq
  ·exact a7g (g := .s 5) (g' := cnG) (by omega) (by omega) (by omega) rfl hok' (fun lim L hL e hok h90 => bh9 hL e hok h90 (full lim L e)) hg hw hc hv hc0 hq
  ·exact a7f (g := .s 5) (g' := cnG) (by omega) (by omega) (by omega) rfl hok' (fun lim e hok => bh8 e hok) hg hw hc hv hc0 hq
end Go.Ev
set_option maxRecDepth 100000
set_option linter.all false
namespace Go.Ev
noncomputable section
def ain : List SA := [.mk false (.v 1) (.c 2) true, .mk false (tq (.v 1)) (.c 1) true]
def hI : List HO := [.mk 256 (hgh (.s 5))]
def wU : List AV := [hpp, wd (.v 1) (.v 2)]
def ae3 : TM := .mk 24 wU 257 hI ain none (.ret (.tuple [wd (wk 1) (wk 2), .int .i64 0])) 263 hI
def ae4 : TM := .mk 80 wU 257 hI ain none (.ret (.tuple [wd (wk 3) (wk 4), .int .i64 0])) 263 hI
def afa : TM := .mk 129 wU 257 hI ain none (.ret (.bool true)) 262 hI
def bb3 : TM := .mk 15 [hpp, wd (.v 1) (.v 2), wd (.v 3) (.v 4)] 257 hI ain none (.ret (.int .i64 0)) 263 [.mk 256 (hgh (.app 207 (.g (.s 5) (.i (.v 2) (.g (.cat (.one (.c 2)) (.cat (.one (wk 1)) (.cat (.one (wk 2)) (.cat (.one (.v 3)) (.one (.v 4)))))) .nil)))))]
def bf6 : TM := .mk 17 [hpp, wd (.v 1) (.v 2), wd (.v 3) (.v 4)] 257 hI ain none (.ret (.int .i64 0)) 263 [.mk 256 (hgh (.app 207 (.g (.s 5) (.i (.v 2) (.g (.cat (.one (.c 2)) (.cat (.one (.v 3)) (.cat (.one (.v 4)) (.cat (.one (wk 3)) (.one (wk 4)))))) .nil)))))]
def ae9 : TM := .mk 51 [hpp] 257 hI [] none (.ret (.sym .i64 (.rd (.s 5) (.c 0)) [])) 258 hI
def a6y : TM := .mk 12 cnU 257 hI [.mk false (hfN (.s 5)) (.rd (.s 5) (.c 0)) false] none cnV 265 [.mk 256 (hgh cnG)]
end
theorem adu {σ : Nat → List Int} (h : SAll σ ain) : SAll σ [.mk false (tq (.v 1)) (.c 1) true, .mk false (.v 1) (.c 2) true] := by
 obtain ⟨a, h⟩ := ofE h
 obtain ⟨b, _⟩ := ofE h
 exact aE b (aE a SAll.nil)
theorem vk [Gv] : cy ae3 := fun σ _ hA _ => @bcz ⟨σ⟩ (adu hA)
theorem vl [Gv] : cy ae4 := fun σ _ hA _ => @bc0 ⟨σ⟩ (adu hA)
theorem v6 [Gv] : cy afa := fun σ _ hA _ => @bc4 ⟨σ⟩ (adu hA)
theorem axi [Gv] : cy bb3 := fun σ _ hA _ => @bdh ⟨σ⟩ (adu hA)
theorem a8e [Gv] : cy bf6 := fun σ _ hA _ => @bdg ⟨σ⟩ (adu hA)
theorem vz [Gv] : cy ae9 := fun σ _ _ _ => @bc3 ⟨σ⟩
theorem amr [Gv] : cy a6y := fun σ _ hA _ => bc1 (of_decide_eq_false (hA _ (List.mem_singleton.2 rfl)))
end Go.Ev
set_option maxRecDepth 100000
set_option linter.all false
namespace Go.Ev
section
variable {σ : Nat → List Int}
theorem sall_cons {A : List SA} {x : SA} : SAll σ (x :: A) ↔ x.holds σ ∧ SAll σ A := by
 constructor
 ·exact fun h => ⟨h _ (by simp), fun y hy => h y (zA _ hy)⟩
 ·rintro ⟨h1, h2⟩ y hy
  rcases List.mem_cons.1 hy with rfl | hy
  ·exact h1
  ·exact h2 y hy
theorem a3m {a b : SE} (h : a.eval σ < b.eval σ) : (SA.mk true a b true).holds σ := decide_eq_true h
theorem at4 {a b : SE} (h : ¬ a.eval σ < b.eval σ) : (SA.mk true a b false).holds σ := decide_eq_false h
theorem a3l {a b : SE} (h : ¬ a.eval σ = b.eval σ) : (SA.mk false a b false).holds σ := decide_eq_false h
theorem a3k {a b : SE} (h : a.eval σ = b.eval σ) : (SA.mk false a b true).holds σ := decide_eq_true h
theorem sc {A : List SA} {x : SA} (h : x.holds σ) (h' : SAll σ A) : SAll σ (x :: A) := sall_cons.2 ⟨h, h'⟩
theorem sT {a b : SE} : (SA.mk true a b true).holds σ ↔ a.eval σ < b.eval σ := decide_eq_true_iff
theorem sF {a b : SE} : (SA.mk true a b false).holds σ ↔ b.eval σ ≤ a.eval σ := ⟨fun h => by have := of_decide_eq_false h; omega, fun h => at4 (by omega)⟩
theorem sE {a b : SE} : (SA.mk false a b true).holds σ ↔ a.eval σ = b.eval σ := decide_eq_true_iff
theorem sN {a b : SE} : (SA.mk false a b false).holds σ ↔ ¬ a.eval σ = b.eval σ := decide_eq_false_iff_not
theorem fe {A B : List SA} (h : SAll σ (A ++ B)) : SAll σ A ∧ SAll σ B := ⟨fun x hx => h x (List.mem_append_left _ hx), fun x hx => h x (List.mem_append_right _ hx)⟩
end
theorem gl [Gv] (a b : SE) : (SA.mk true a b true).holds Gv.σ ∧ a.eval Gv.σ < b.eval Gv.σ ∨ (SA.mk true a b false).holds Gv.σ ∧ b.eval Gv.σ ≤ a.eval Gv.σ := by
 by_cases h : a.eval Gv.σ < b.eval Gv.σ
 ·exact .inl ⟨a3m h, h⟩
 ·exact .inr ⟨at4 h, by omega⟩
theorem gq [Gv] (a b : SE) : (SA.mk false a b true).holds Gv.σ ∧ a.eval Gv.σ = b.eval Gv.σ ∨ (SA.mk false a b false).holds Gv.σ ∧ ¬ a.eval Gv.σ = b.eval Gv.σ := by
 by_cases h : a.eval Gv.σ = b.eval Gv.σ
 ·exact .inl ⟨a3k h, h⟩
 ·exact .inr ⟨a3l h, h⟩
theorem bT [Gv] (a b : SE) (h : a.eval Gv.σ < b.eval Gv.σ) : (SA.mk true a b true).holds Gv.σ := a3m h
theorem bF [Gv] (a b : SE) (h : b.eval Gv.σ ≤ a.eval Gv.σ) : (SA.mk true a b false).holds Gv.σ := at4 (by omega)
theorem bE [Gv] (a b : SE) (h : a.eval Gv.σ = b.eval Gv.σ) : (SA.mk false a b true).holds Gv.σ := a3k h
theorem bN [Gv] (a b : SE) (h : ¬ a.eval Gv.σ = b.eval Gv.σ) : (SA.mk false a b false).holds Gv.σ := a3l h
theorem wc {α : Type} {p : α → Prop} {a : α} (ha : p a) : ∀ t ∈ [a], p t := by
 intro t ht
 rw [List.mem_singleton] at ht
 rw [ht]; exact ha
noncomputable def hpN (l : List Int) : Int := aay 221 [l]
theorem evs : (∀ (σ : Nat → List Int) (i : Nat), (SE.v i).eval σ = (σ i).headD 0) ∧
  (∀ (σ : Nat → List Int) (n : Int), (SE.c n).eval σ = n) ∧
  (∀ (σ : Nat → List Int) (g : GE), (SE.len g).eval σ = ((g.eval σ).length : Int)) ∧
  (∀ (σ : Nat → List Int) (g : GE) (e : SE), (SE.rd g e).eval σ = (g.eval σ).getD (e.eval σ).toNat 0) ∧
  (∀ (σ : Nat → List Int) (g h : GE), (SE.eqg g h).eval σ = if g.eval σ = h.eval σ then 1 else 0) ∧
  (∀ (σ : Nat → List Int) (k : IntKind) (a b : SE), (SE.bin 0 k a b).eval σ = k.wrap (a.eval σ + b.eval σ)) ∧
  (∀ (σ : Nat → List Int) (k : IntKind) (a b : SE), (SE.bin 1 k a b).eval σ = k.wrap (a.eval σ - b.eval σ)) ∧
  (∀ (σ : Nat → List Int) (k : IntKind) (a b : SE), (SE.bin 2 k a b).eval σ = k.wrap (a.eval σ * b.eval σ)) ∧
  (∀ (σ : Nat → List Int) (k : IntKind) (a b : SE), (SE.bin 4 k a b).eval σ = (a.eval σ).tmod (b.eval σ)) ∧
  (∀ (σ : Nat → List Int) (k : IntKind) (a b : SE), (SE.bin 6 k a b).eval σ = a.eval σ + b.eval σ) ∧
  (∀ (σ : Nat → List Int) (k : IntKind) (a b : SE), (SE.bin 7 k a b).eval σ = a.eval σ * b.eval σ) ∧
  (∀ (σ : Nat → List Int) (i : Nat), (GE.s i).eval σ = σ i) ∧
  (∀ (σ : Nat → List Int), GE.nil.eval σ = []) ∧
  (∀ (σ : Nat → List Int) (e : SE), (GE.one e).eval σ = [e.eval σ]) ∧
  (∀ (σ : Nat → List Int) (g h : GE), (GE.cat g h).eval σ = g.eval σ ++ h.eval σ) ∧
  (∀ (σ : Nat → List Int) (g : GE), (SE.app 201 (.g g .nil)).eval σ = ea (g.eval σ)) ∧
  (∀ (σ : Nat → List Int) (g : GE), (SE.app 221 (.g g .nil)).eval σ = hpN (g.eval σ)) ∧
  (∀ (σ : Nat → List Int) (g : GE), (SE.app 202 (.g g .nil)).eval σ = du (recs (g.eval σ).tail)) ∧
  (∀ (σ : Nat → List Int) (g : GE) (k n : SE), (SE.app 203 (.g g (.i k (.i n .nil)))).eval σ = iq (g.eval σ) (k.eval σ) (n.eval σ)) ∧
  (∀ (σ : Nat → List Int) (g : GE) (n j : SE), (SE.app 204 (.g g (.i n (.i j .nil)))).eval σ = (obL (g.eval σ) (n.eval σ)).getD (j.eval σ).toNat 0) ∧
  (∀ (σ : Nat → List Int) (g r : GE), (GE.app 206 (.g g (.g r .nil))).eval σ = n7 (g.eval σ) (r.eval σ)) ∧
  (∀ (σ : Nat → List Int) (l ws : GE) (i k n : SE), (GE.app 210 (.i i (.g l (.g ws (.i k (.i n .nil)))))).eval σ = (amm (i.eval σ) (l.eval σ) (ws.eval σ) (k.eval σ) (n.eval σ)).l) ∧
  (∀ (σ : Nat → List Int) (l ws : GE) (i k n : SE), (SE.app 211 (.i i (.g l (.g ws (.i k (.i n .nil)))))).eval σ = (amm (i.eval σ) (l.eval σ) (ws.eval σ) (k.eval σ) (n.eval σ)).k) ∧
  (∀ (σ : Nat → List Int) (l ws : GE) (i k n : SE), (SE.app 212 (.i i (.g l (.g ws (.i k (.i n .nil)))))).eval σ = (amm (i.eval σ) (l.eval σ) (ws.eval σ) (k.eval σ) (n.eval σ)).n) ∧
  (∀ (σ : Nat → List Int) (l : GE) (k n : SE), (SE.app 213 (.g l (.i k (.i n .nil)))).eval σ = bei (l.eval σ) (k.eval σ) (n.eval σ)) ∧
  (∀ (σ : Nat → List Int) (l : GE) (k n : SE), (GE.app 213 (.g l (.i k (.i n .nil)))).eval σ = bej (l.eval σ) (k.eval σ) (n.eval σ)) ∧
  (∀ (σ : Nat → List Int) (b i : SE), (GE.app 214 (.i b (.i i .nil))).eval σ = a8i (b.eval σ) (i.eval σ)) ∧
  (∀ (σ : Nat → List Int) (b i : SE), (GE.app 215 (.i b (.i i .nil))).eval σ = seqR (b.eval σ) (i.eval σ)) ∧
  (∀ (σ : Nat → List Int) (r : GE) (v i : SE), (SE.app 217 (.g r (.i v (.i i .nil)))).eval σ = a3n (r.eval σ) (v.eval σ) (i.eval σ)) ∧
  (∀ (σ : Nat → List Int) (ws a b : GE) (i r p : SE), (SE.app 218 (.g ws (.i i (.g a (.g b (.i r (.i p .nil))))))).eval σ = (aax (ws.eval σ) (i.eval σ) (a.eval σ) (b.eval σ) (r.eval σ) (p.eval σ)).e) ∧
  (∀ (σ : Nat → List Int) (ws a b : GE) (i r p : SE), (SE.app 219 (.g ws (.i i (.g a (.g b (.i r (.i p .nil))))))).eval σ = (aax (ws.eval σ) (i.eval σ) (a.eval σ) (b.eval σ) (r.eval σ) (p.eval σ)).r) ∧
  (∀ (σ : Nat → List Int) (ws a b : GE) (i r p : SE), (SE.app 220 (.g ws (.i i (.g a (.g b (.i r (.i p .nil))))))).eval σ = (aax (ws.eval σ) (i.eval σ) (a.eval σ) (b.eval σ) (r.eval σ) (p.eval σ)).p) ∧
  (∀ (σ : Nat → List Int) (ws a b : GE) (i r p : SE), (GE.app 218 (.g ws (.i i (.g a (.g b (.i r (.i p .nil))))))).eval σ = (aax (ws.eval σ) (i.eval σ) (a.eval σ) (b.eval σ) (r.eval σ) (p.eval σ)).need) ∧
  (∀ (σ : Nat → List Int) (ws a b : GE) (i r p : SE), (GE.app 219 (.g ws (.i i (.g a (.g b (.i r (.i p .nil))))))).eval σ = (aax (ws.eval σ) (i.eval σ) (a.eval σ) (b.eval σ) (r.eval σ) (p.eval σ)).may) ∧
  (∀ (σ : Nat → List Int) (a b c : SE), (GE.app 220 (.i a (.i b (.i c .nil)))).eval σ = bea (a.eval σ) (b.eval σ) (c.eval σ)) :=
 ⟨by intros; rfl, by intros; rfl, by intros; rfl, by intros; rfl, by intros; rfl, by intros; rfl, by intros; rfl, by intros; rfl, by intros; rfl, by intros; rfl, by intros; rfl, by intros; rfl, by intros; rfl, by intros; rfl, by intros; rfl, by intros; rfl, by intros; rfl, by intros; rfl, by intros; rfl, by intros; rfl, by intros; rfl, by intros; rfl, by intros; rfl, by intros; rfl, by intros; rfl, by intros; rfl, by intros; rfl, by intros; rfl, by intros; rfl, by intros; rfl, by intros; rfl, by intros; rfl, by intros; rfl, by intros; rfl, by intros; rfl⟩
theorem a5t {x : Int} (h : -9223372036854775808 ≤ x ∧ x ≤ 9223372036854775807) : IntKind.i64.wrap x = x := by
 simp only [IntKind.wrap, IntKind.bits, IntKind.signed]; simp; omega
theorem wr : (∀ x : Int, -9223372036854775808 ≤ x ∧ x ≤ 9223372036854775807 → IntKind.i64.wrap x = x) ∧
  (∀ x : Int, x + 0 = x) ∧ (∀ x : Int, 0 + x = x) ∧ (∀ x : Int, -1 * x = -x) ∧ (∀ x y : Int, x + -y = x - y) ∧ (∀ x : Int, x - 1 + 1 = x) ∧ (∀ x : Int, ([x] : List Int).headD 0 = x) ∧ (∀ (α : Type) (a b : α), (if True then a else b) = a) ∧ (∀ (α : Type) (a b : α), (if False then a else b) = b) ∧ (¬True ↔ False) ∧ (¬False ↔ True) ∧
  (∀ p : Prop, (False ∧ p ↔ False)) ∧ (∀ p : Prop, (True ∧ p ↔ p)) ∧ (∀ p : Prop, (p ∧ False ↔ False)) ∧ (∀ p : Prop, (p ∧ True ↔ p)) ∧ (∀ p : Prop, (p ∨ True ↔ True)) ∧ (∀ p : Prop, (p ∨ False ↔ p)) ∧ (∀ p : Prop, (True ∨ p ↔ True)) ∧ (∀ p : Prop, (False ∨ p ↔ p)) ∧ (∀ p : Prop, ((True → p) ↔ p)) ∧ (∀ p : Prop, ((False → p) ↔ True)) ∧ (∀ x : Int, x + 1 + 1 = x + 2) :=
 ⟨fun _ h => a5t h, Int.add_zero, Int.zero_add, fun x => (Int.neg_eq_neg_one_mul x).symm, fun _ _ => Int.sub_eq_add_neg.symm, by omega, fun _ => rfl, fun _ _ _ => if_pos trivial, fun _ _ _ => if_neg id, by simp, by simp, by simp, by simp, by simp, by simp, by simp, by simp, by simp, by simp, by simp, by simp, by omega⟩
open Classical in
theorem at8 {p : Prop} : (if p then (1 : Int) else 0) = 1 ↔ p := by
 by_cases h : p
 ·rw [if_pos h]; exact ⟨fun _ => h, fun _ => rfl⟩
 ·rw [if_neg h]; exact ⟨fun e => absurd e (by decide), fun e => absurd e h⟩
open Classical in
theorem s221 {σ : Nat → List Int} {g : GE} : (SE.app 221 (.g g .nil)).eval σ = 1 ↔ ab8 (g.eval σ) := by
 show aay 221 [g.eval σ] = 1 ↔ _
 exact at8
theorem ba9 {l : List Int} (h : ab8 l) : hpN l = 1 := (s221 (σ := fun _ => l) (g := .s 0)).2 h
theorem ase {l r : List Int} (h : ab8 l) : recs (n7 l r).tail = recs l.tail ++ [r] := by
 obtain ⟨lim, L, rfl, _⟩ := h
 show recs (d6 L ++ (r.length : Int) :: r) = recs (d6 L) ++ [r]
 rw [← kc, gf, gf]
theorem a4c {l r : List Int} (h : ab8 l) : ea (n7 l r) = ea l + 1 := by
 unfold ea
 rw [ase h, zP]; rfl
theorem a79 {l r : List Int} (h : ab8 l) : (n7 l r).getD (0 : Int).toNat 0 = l.getD (0 : Int).toNat 0 := by
 obtain ⟨lim, L, rfl, _⟩ := h; rfl
theorem bba {l r : List Int} (h : ab8 l) (hr : tc r = 0) (hm : ea l < l.getD (0 : Int).toNat 0) : ab8 (n7 l r) := by
 obtain ⟨lim, L, rfl, h1, h2, h3, h4⟩ := h
 refine ⟨lim, L ++ [r], ?_, h1, h2, ?_, ?_⟩
 ·show lim :: d6 L ++ (r.length : Int) :: r = _
  rw [kc]; rfl
 ·have hm : ((recs (d6 L)).length : Int) < lim := hm
  rw [gf] at hm
  rw [zP]; show ((L.length + 1 : Nat) : Int) ≤ _; omega
 ·rw [ow, hr]; omega
theorem anb {l : List Int} (h : ab8 l) : 1 ≤ l.getD (0 : Int).toNat 0 ∧ l.getD (0 : Int).toNat 0 ≤ 50000 ∧ 0 ≤ ea l ∧ ea l ≤ l.getD (0 : Int).toNat 0 := by
 obtain ⟨lim, L, rfl, h1, h2, h3, h4⟩ := h
 refine ⟨h1, h2, Int.natCast_nonneg _, ?_⟩
 show ((recs (d6 L)).length : Int) ≤ lim
 rw [gf]; exact h3
theorem a9h (l ws : List Int) (k n i : Int) (h : -1 ≤ i) : amm (i + 1) l ws k n = if i < 0 then ⟨l, k, n⟩ else amm i (n7 l [2, ws.getD (2 * i).toNat 0, ws.getD (2 * i + 1).toNat 0, k, n]) ws 2 (ea l) := by
 split
 ·rw [show i + 1 = 0 by omega]; rfl
 ·obtain ⟨j, rfl⟩ : ∃ j : Nat, i = (j : Int) := ⟨i.toNat, by omega⟩
  unfold amm
  rw [show ((j : Int) + 1).toNat = j + 1 by omega, show ((j : Int)).toNat = j by omega, show (2 * (j : Int)).toNat = 2 * j by omega, show (2 * (j : Int) + 1).toNat = 2 * j + 1 by omega]
  rfl
end Go.Ev
