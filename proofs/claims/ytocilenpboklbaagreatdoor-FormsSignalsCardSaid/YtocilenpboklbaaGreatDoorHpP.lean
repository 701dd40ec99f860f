import Derived.Test.YtocilenpboklbaaGreatDoorHpF
import Derived.Test.YtocilenpboklbaaGreatDoorEvGk
set_option maxRecDepth 100000
set_option linter.all false
namespace Go.Ev
theorem qc (r : List Int) : ∀ L, ff (L ++ [r]) = ff L ++ (r.length : Int) :: r
 | [] => by simp [ff]
 | x :: L => by simp only [zJ, ff, qc r L, List.append_assoc]
theorem vi (r : List Int) : ∀ L, gz (L ++ [r]) = gz L + zc r
 | [] => by simp [gz]
 | x :: L => by
   have := vi r L
   simp only [gz, zJ, List.map_cons, List.foldr_cons] at this ⊢
   omega
theorem ve {H : Array Obj} {r : List Int} {p : Nat × Nat} (hr : vp r p.1 p.2 H) : ∀ {L : List (List Int)} {os : List (Nat × Nat)}, ko L os H → ¬ ml os p.1 → ¬ ml os p.2 → ko (L ++ [r]) (os ++ [p]) H
 | [], [], _, _, _ => ⟨hr, (fun ⟨_, q, _⟩ => by cases q), (fun ⟨_, q, _⟩ => by cases q), trivial⟩
 | [], _ :: _, h, _, _ => h.elim
 | _ :: _, [], h, _, _ => h.elim
 | x :: L, o :: os, h, h1, h2 => by
   obtain ⟨a, b, c, d⟩ := h
   have up : ∀ y, ml os y → ml (o :: os) y := fun y ⟨q, q1, q2⟩ => ⟨q, zA _ q1, q2⟩
   have me : ∀ y, (y = o.1 ∨ y = o.2) → y ≠ p.1 ∧ y ≠ p.2 := fun y hy => ⟨fun e => h1 ⟨o, List.mem_cons_self .., by rw [← e]; exact hy⟩, fun e => h2 ⟨o, List.mem_cons_self .., by rw [← e]; exact hy⟩⟩
   have out : ∀ y, (y = o.1 ∨ y = o.2) → ¬ ml os y → ¬ ml (os ++ [p]) y := by
    rintro y hy hn ⟨q, q1, q2⟩
    rcases List.mem_append.1 q1 with z | z
    ·exact hn ⟨q, z, q2⟩
    ·rw [List.mem_singleton] at z
     subst z
     rcases q2 with q2 | q2
     ·exact (me y hy).1 q2
     ·exact (me y hy).2 q2
   exact ⟨a, out _ (.inl rfl) b, out _ (.inr rfl) c, ve hr d (fun q => h1 (up _ q)) (fun q => h2 (up _ q))⟩
theorem bsIn_snoc {os : List (Nat × Nat)} {p : Nat} {x : Nat} : ml (os ++ [(p, p)]) x ↔ ml os x ∨ x = p := by
 constructor
 ·rintro ⟨q, q1, q2⟩
  rcases List.mem_append.1 q1 with z | z
  ·exact .inl ⟨q, z, q2⟩
  ·rw [List.mem_singleton] at z
   subst z
   rcases q2 with q2 | q2 <;> exact .inr q2
 ·rintro (⟨q, q1, q2⟩ | rfl)
  ·exact ⟨q, List.mem_append_left _ q1, q2⟩
  ·exact ⟨(x, x), by simp, .inl rfl⟩
theorem agb {r : List Int} {p : Nat} : ∀ {L : List (List Int)} {os : List Nat}, os.length = L.length → List.zipWith dc (L ++ [r]) (os ++ [p]) = List.zipWith dc L os ++ [dc r p]
 | [], [], _ => rfl
 | [], _ :: _, h => by simp at h
 | _ :: _, [], h => by simp at h
 | x :: L, o :: os, h => by
   show dc x o :: List.zipWith dc (L ++ [r]) (os ++ [p]) = dc x o :: (List.zipWith dc L os ++ [dc r p])
   rw [agb (by simpa using h)]
noncomputable def hfC (n : SE) (ps : List GP) : LO := .gp false 126 n (.s 90) ps
def a3x (l : List Int) (codes : List Int) (c : Nat) (H : Array Obj) : Prop := ∃ lim L os b arr fz cap, l = lim :: ff L ∧ codes = List.zipWith dc L (os.map (·.1)) ∧ ko L os H ∧ b ≠ c ∧ ¬ ml os c ∧ ¬ ml os b ∧
 aig lim L (.slice (some ⟨b, 0, none⟩) L.length cap) H[c]? ∧ L ≠ [] ∧ H[b]? = some (.cells arr 126 fz) ∧ fz.2 ≤ fz.1 ∧ L.length ≤ cap ∧ cap ≤ arr.size ∧ arr.toList.take L.length = codes.map md
section
variable [Gv]
theorem a80 {g : GE} {lim : Int} {L : List (List Int)} (hg : g.eval Gv.σ = lim :: ff L) {ρ : Env} {os : List Nat} {arr : Array Value} {fz : Nat × Nat} {cap : Nat} {H : Array Obj} {b : Nat} (h90 : Gv.σ 90 = List.zipWith dc L os) (hos : os.length = L.length)
  (hb : H[b]? = some (.cells arr 126 fz)) (hfz : fz.2 ≤ fz.1) (hcap : L.length ≤ cap) (hsz : cap ≤ arr.size) (harr : arr.toList.take L.length = (Gv.σ 90).map md) : ORel ρ (bt (hfC (hfN g) [])) H[b]? := by
 have e1 := c7 (σ := Gv.σ) g hg
 have hl : ((GE.s 90).eval Gv.σ).length = L.length := by
  show (Gv.σ 90).length = _
  rw [h90, List.length_zipWith, hos, Nat.min_self]
 refine ⟨arr, fz, hb, hfz, by rw [e1]; omega, by rw [e1, hl]; omega, by rw [e1]; omega, fun i hi => ?_, fun _ _ _ hm => by cases hm⟩
 have h1 : (arr.toList.take L.length)[i]? = arr.toList[i]? := List.getElem?_take_of_lt (by omega)
 rw [harr] at h1
 rw [← Array.getElem?_toList, ← h1, List.getElem?_map]
 have hi' : i < (Gv.σ 90).length := hi
 rw [zK hi']
 rfl
end
end Go.Ev
set_option maxRecDepth 100000
set_option linter.all false
namespace Go.Ev
theorem arh {r : List Int} {o o' : Nat} (hr : r.getD 0 0 = 2 ∨ r.getD 0 0 = 3 ∨ r.getD 0 0 = 4) (h : md (dc r o) = md (dc r o')) : o = o' := by
 unfold md at h
 injection h with _ h
 injection h with h
 injection h with h
 injection h with h
 unfold dc at h
 rcases hr with hr | hr | hr <;> rw [hr] at h <;> simp at h <;> omega
theorem att {r : List Int} {o v : Nat} {H : Array Obj} (h : vp r o v H) : r.getD 0 0 = 2 ∨ r.getD 0 0 = 3 ∨ r.getD 0 0 = 4 := by
 rcases h with ⟨a, b, c, d, arr, fz, hr, _⟩ | ⟨bs, _, _, hr, _⟩ | ⟨ws, _, _, _, _, _, hr, _⟩ <;> rw [hr] <;> simp
theorem aga {H : Array Obj} : ∀ {L : List (List Int)} {os os' : List (Nat × Nat)}, ko L os H → ko L os' H → (List.zipWith dc L (os.map (·.1))).map md = (List.zipWith dc L (os'.map (·.1))).map md → List.zipWith dc L (os.map (·.1)) = List.zipWith dc L (os'.map (·.1))
 | [], [], [], _, _, _ => rfl
 | [], _ :: _, _, h, _, _ => h.elim
 | [], [], _ :: _, _, h, _ => h.elim
 | _ :: _, [], _, h, _, _ => h.elim
 | _ :: _, _ :: _, [], _, h, _ => h.elim
 | r :: L, p :: os, p' :: os', h, h', e => by
   simp only [List.map_cons, List.zipWith_cons_cons] at e ⊢
   injection e with e1 e2
   have := arh (att h.1) e1
   rw [this, aga h.2.2.2 h'.2.2.2 e2]
theorem az1 {l codes : List Int} {c : Nat} {H : Array Obj} (h : a3x l codes c H) {lim : Int} {L : List (List Int)} (e : l = lim :: ff L) {os : List (Nat × Nat)} {b cap : Nat} {arr : Array Value} {fz : Nat × Nat} (ho : ko L os H) (hr : aig lim L (.slice (some ⟨b, 0, none⟩) L.length cap) H[c]?) (hb : H[b]? = some (.cells arr 126 fz)) (ha : arr.toList.take L.length = (List.zipWith dc L (os.map (·.1))).map md) :
  codes = List.zipWith dc L (os.map (·.1)) := by
 obtain ⟨lim', L', os', b', arr', fz', cap', e', hc, ho', _, _, _, hr', _, hb', _, _, _, ha'⟩ := h
 rw [e] at e'
 injection e' with e1 e2
 have e3 : L = L' := by rw [← il L, e2, il]
 subst e1 e3
 obtain ⟨x, fx, x1, x2, _⟩ := hr
 obtain ⟨y, fy, y1, y2, _⟩ := hr'
 rw [x1] at y1
 injection y1 with y1
 injection y1 with y1 _ _
 rw [y1, y2] at x2
 injection x2 with _ x2
 injection x2 with _ x2
 injection x2 with _ x2
 injection x2 with x2 _
 injection x2 with x2 _ _
 injection x2 with x2
 injection x2 with x2 _ _
 subst x2
 rw [hb] at hb'
 injection hb' with hb'
 injection hb' with hb' _ _
 subst hb'
 rw [hc]
 refine aga ho' ho ?_
 rw [← hc, ← ha', ha]
end Go.Ev
set_option maxRecDepth 100000
set_option linter.all false
namespace Go.Ev
theorem ah2 {a b c d : Int} {p : Nat} : md (dc [2, a, b, c, d] p) = .iface 86 (.pointer (some ⟨p, 0, none⟩)) := by
 have h1 : dc [2, a, b, c, d] p = 4 * (p : Int) + 2 := by unfold dc; simp
 unfold md
 rw [h1, if_pos (by omega), show ((4 * (p : Int) + 2) / 4).toNat = p by omega]
section
variable [Gv]
set_option maxHeartbeats 2000000 in
theorem a8z {f nxo kp kr : Nat} {g g' : GE} {a b c d : SE} {us : List AV} {r : TR} (hkp : 258 < kp ∧ kp ≤ 65535) (hkr : 258 < kr ∧ kr ≤ 65535) (hne : kp ≠ kr)
  (hg' : g'.eval Gv.σ = pj (g.eval Gv.σ) [2, a.eval Gv.σ, b.eval Gv.σ, c.eval Gv.σ, d.eval Gv.σ])
  (hok' : ∀ lim L, g.eval Gv.σ = lim :: ff L → j0 lim L → j0 lim (L ++ [[2, a.eval Gv.σ, b.eval Gv.σ, c.eval Gv.σ, d.eval Gv.σ]]))
  (hf : ∀ lim L, L ≠ [] → g.eval Gv.σ = lim :: ff L → j0 lim L → (Gv.σ 90).length = L.length → br f us 258 [.mk 256 (hfS g 257), .mk 257 (hfC (hfN g) [])] r nxo [.mk 256 (hfS g' kr), .mk kp (hfQ a b c d), .mk kr (hfC (hfN g') [.mk (hfN g) 86 (K.of kp)])])
  {ρ : Env} {args : Array Value} {w : World} {c0 : Nat} (hg : GRel ρ) (hw : WRel ρ (ai [.mk 256 (.gob (.lh 2 g))] 257) w) (hc : Clean ρ (ai [.mk 256 (.gob (.lh 2 g))] 257)) (hv : VRels ρ us args.toList) (hc0 : ρ (K.of 256) = some c0) (hq : a3x (g.eval Gv.σ) (Gv.σ 90) c0 w.heap) :
  Calls PP f args w (CPost ρ (ai [.mk 256 (.gob (.lh 2 g))] 257) w (a2n r (ai [.mk 256 (.gob (.lh 2 g'))] nxo))) := by
 have hg0 : bi (ab (K.of 256) (ai [.mk 256 (.gob (.lh 2 g))] 257).h) = some (2, g) := by
  show bi (ab _ (ac _)) = _
  rw [ah, if_pos rfl]; rfl
 have q := hw.gho _ 2 g hg0
 have n256 : (K.of 256).num = 256 := bp (by omega)
 have n257 : (K.of 257).num = 257 := bp (by omega)
 have np : (K.of kp).num = kp := bp (by omega)
 have nr : (K.of kr).num = kr := bp (by omega)
 rcases q.rel c0 hc0 with ⟨h1, _⟩ | ⟨_, hF⟩
 ·cases h1
 obtain ⟨lim, L, e, hok, hF⟩ := hF
 rcases hF with ⟨h0, _⟩ | ⟨os, bb, arr, fz, cap, hFF, s1, s2, s3, s4, s5, s6, s7, s8, s9, s10, s11⟩
 ·obtain ⟨lim', L', _, _, _, _, _, e', _, _, _, _, _, _, hn, _⟩ := hq
  rw [e] at e'
  injection e' with e1 e2
  exact absurd (by rw [← il L', ← e2, il, h0]) hn
 have h90 := az1 hq e s4 s5 s7 s11
 have hos := (xb s4).1
 have hos' : (os.map (·.1)).length = L.length := by rw [List.length_map, hos]
 have hl90 : (Gv.σ 90).length = L.length := by rw [h90, List.length_zipWith, hos', Nat.min_self]
 have e1 := c7 (σ := Gv.σ) g e
 have hg'' : g'.eval Gv.σ = lim :: ff (L ++ [[2, a.eval Gv.σ, b.eval Gv.σ, c.eval Gv.σ, d.eval Gv.σ]]) := by
  rw [hg', e, qc]; rfl
 have e1' := c7 (σ := Gv.σ) g' hg''
 have ft : ∀ x, ρ.ft (K.of 256) x ↔ x = c0 ∨ x = bb ∨ ml os x := fun x => by rw [hFF]
 let bs : List (Nat × Nat) := [(bb, arr.size)]
 have B0 : d6 257 bs (K.of 257) = some (bb, arr.size) := by
  unfold d6
  rw [n257, if_pos (zY _), Nat.sub_self]; rfl
 have hO : GhOpen (K.of 256) (d6 257 bs) 2 g ρ (ai [.mk 256 (.gob (.lh 2 g))] 257) w c0 (ai (.mk 256 (hfS g 257) :: (mkL 257 [hfC (hfN g) []] ++ [])) (257 + 1)) := by
  refine ww (bs := bs) (los := [hfC (hfN g) []]) (by omega) (by simp) rfl uj rfl rfl (fun o ho => by rw [List.mem_singleton] at ho; subst ho; rfl) hc0 ?_ ?_ ?_
  ·intro j h h'
   match j, h with
   | 0, _ =>
     refine ⟨(ft _).2 (.inr (.inl rfl)), s1, ?_, ?_⟩
     ·intro a' t' f' hh
      have hh : w.heap[bb]? = _ := hh
      rw [s7] at hh; injection hh with hh; injection hh with e1 _ _; rw [← e1]; rfl
     ·exact a80 e h90 hos' s7 s8 s9 s10 (by rw [h90]; exact s11)
  ·intro x y h h' hxy
   match x, y, h, h' with
   | 0, 0, _, _ => rfl
  ·exact amd e s5 (dv B0).1 (by rw [(dv B0).2]; exact s10) s9
 have ne : ∀ {m n : Nat}, m < 65536 → n < 65536 → m ≠ n → K.of m ≠ K.of n := by
  intro m n h1 h2 h3 z
  have := congrArg K.num z
  rw [bp h1, bp h2] at this
  exact h3 this
 have fin : ∀ ρ2 w' , Adv (jy ρ (d6 257 bs)) (ai (.mk 256 (hfS g 257) :: (mkL 257 [hfC (hfN g) []] ++ [])) (257 + 1)) w ρ2 (ai (.mk 256 (hfS g' kr) :: ([.mk kp (hfQ a b c d), .mk kr (hfC (hfN g') [.mk (hfN g) 86 (K.of kp)])] ++ [])) nxo) w' → ∃ ρ3, Adv ρ (ai [.mk 256 (.gob (.lh 2 g))] 257) w ρ3 (ai [.mk 256 (.gob (.lh 2 g'))] nxo) w' ∧ ρ2.le ρ3 := by
  intro ρ2 w' hA
  have a20 : ab (K.of 256) (ac [.mk 256 (hfS g' kr), .mk kp (hfQ a b c d), .mk kr (hfC (hfN g') [.mk (hfN g) 86 (K.of kp)])]) = bt (hfS g' kr) := by rw [ah, if_pos rfl]
  have a2p : ab (K.of kp) (ac [.mk 256 (hfS g' kr), .mk kp (hfQ a b c d), .mk kr (hfC (hfN g') [.mk (hfN g) 86 (K.of kp)])]) = bt (hfQ a b c d) := by rw [ah, if_neg (ne (by omega) (by omega) (by omega)), ah, if_pos rfl]
  have a2r : ab (K.of kr) (ac [.mk 256 (hfS g' kr), .mk kp (hfQ a b c d), .mk kr (hfC (hfN g') [.mk (hfN g) 86 (K.of kp)])]) = bt (hfC (hfN g') [.mk (hfN g) 86 (K.of kp)]) := by rw [ah, if_neg (ne (by omega) (by omega) (by omega)), ah, if_neg (ne (by omega) (by omega) (by omega)), ah, if_pos rfl]
  have l0 : ab (K.of 256) (ai [.mk 256 (hfS g' kr), .mk kp (hfQ a b c d), .mk kr (hfC (hfN g') [.mk (hfN g) 86 (K.of kp)])] nxo).h ≠ .none := by show ab _ (ac _) ≠ _; rw [a20]; exact cy _
  have lp : ab (K.of kp) (ai [.mk 256 (hfS g' kr), .mk kp (hfQ a b c d), .mk kr (hfC (hfN g') [.mk (hfN g) 86 (K.of kp)])] nxo).h ≠ .none := by show ab _ (ac _) ≠ _; rw [a2p]; exact cy _
  have lr : ab (K.of kr) (ai [.mk 256 (hfS g' kr), .mk kp (hfQ a b c d), .mk kr (hfC (hfN g') [.mk (hfN g) 86 (K.of kp)])] nxo).h ≠ .none := by show ab _ (ac _) ≠ _; rw [a2r]; exact cy _
  have ro0 : (ab (K.of 256) (ai [.mk 256 (hfS g' kr), .mk kp (hfQ a b c d), .mk kr (hfC (hfN g') [.mk (hfN g) 86 (K.of kp)])] nxo).h).isRo = false := by show (ab _ (ac _)).isRo = _; rw [a20]; rfl
  have rop : (ab (K.of kp) (ai [.mk 256 (hfS g' kr), .mk kp (hfQ a b c d), .mk kr (hfC (hfN g') [.mk (hfN g) 86 (K.of kp)])] nxo).h).isRo = false := by show (ab _ (ac _)).isRo = _; rw [a2p]; rfl
  have ror : (ab (K.of kr) (ai [.mk 256 (hfS g' kr), .mk kp (hfQ a b c d), .mk kr (hfC (hfN g') [.mk (hfN g) 86 (K.of kp)])] nxo).h).isRo = false := by show (ab _ (ac _)).isRo = _; rw [a2r]; rfl
  have k0 : ρ2 (K.of 256) = some c0 := (hA.le _ _ (by rw [(du hO.kr0).1]; exact hc0)).1
  obtain ⟨x0, y0, o0⟩ := hA.rel.dom (K.of 256) l0
  obtain ⟨p, kpp, op⟩ := hA.rel.dom (K.of kp) lp
  obtain ⟨b2, krr, orr⟩ := hA.rel.dom (K.of kr) lr
  rw [k0] at y0
  obtain rfl := Option.some.inj y0
  have o0 : ORel ρ2 (ab (K.of 256) (ac [.mk 256 (hfS g' kr), .mk kp (hfQ a b c d), .mk kr (hfC (hfN g') [.mk (hfN g) 86 (K.of kp)])])) w'.heap[c0]? := o0
  have op : ORel ρ2 (ab (K.of kp) (ac [.mk 256 (hfS g' kr), .mk kp (hfQ a b c d), .mk kr (hfC (hfN g') [.mk (hfN g) 86 (K.of kp)])])) w'.heap[p]? := op
  have orr : ORel ρ2 (ab (K.of kr) (ac [.mk 256 (hfS g' kr), .mk kp (hfQ a b c d), .mk kr (hfC (hfN g') [.mk (hfN g) 86 (K.of kp)])])) w'.heap[b2]? := orr
  rw [a20] at o0
  rw [a2p] at op
  rw [a2r] at orr
  have Bin : ∀ k x m, d6 257 bs k = some (x, m) → x = bb := by
   intro k x m h
   unfold d6 at h
   split at h
   ·have z := List.mem_of_getElem? h
    rw [List.mem_singleton] at z; injection z with z1 z2
   ·cases h
  have nos : ∀ k y, ab k (ai [.mk 256 (hfS g' kr), .mk kp (hfQ a b c d), .mk kr (hfC (hfN g') [.mk (hfN g) 86 (K.of kp)])] nxo).h ≠ .none → (ab k (ai [.mk 256 (hfS g' kr), .mk kp (hfQ a b c d), .mk kr (hfC (hfN g') [.mk (hfN g) 86 (K.of kp)])] nxo).h).isRo = false → k ≠ K.of 256 → ρ2 k = some y → ¬ ml os y := by
   intro k cc h1 h2 h3 h4 h5
   rcases hO.old hw hc hA l0 h1 h2 h4 ((ft cc).2 (.inr (.inr h5))) with z | ⟨l, m, z, _⟩
   ·exact h3 z
   ·rw [Bin l cc m z] at h5; exact s3 h5
  have dp : K.of kp ≠ K.of 256 := ne (by omega) (by omega) (by omega)
  have dr : K.of kr ≠ K.of 256 := ne (by omega) (by omega) (by omega)
  have dpr : K.of kp ≠ K.of kr := ne (by omega) (by omega) hne
  have npos := nos (K.of kp) p lp rop dp kpp
  have nros := nos (K.of kr) b2 lr ror dr krr
  have pc : p ≠ c0 := fun z => dp (hA.rel.inj1 lp l0 (.inl rop) (by rw [kpp, k0, z]))
  have rc : b2 ≠ c0 := fun z => dr (hA.rel.inj1 lr l0 (.inl ror) (by rw [krr, k0, z]))
  have pr : p ≠ b2 := fun z => dpr (hA.rel.inj1 lp lr (.inl rop) (by rw [kpp, krr, z]))
  have fr : ∀ x, ml os x → w'.heap[x]? = w.heap[x]? := by
   intro x hx
   refine hO.frame hw hc hA ((ft x).2 (.inr (.inr hx))) (fun z => s2 (by rw [← z]; exact hx)) fun k m h => ?_
   exact absurd hx (by rw [Bin k x m h]; exact s3)
  obtain ⟨arr0, fz0, hx0, hf0, hv0⟩ := (ew (by simp)).1 o0
  simp only [VRels] at hv0
  obtain ⟨v1, t1, q1, r1, v2, t2, q2, r2, v3, t3, q3, r3, v4, t4, q4, r4, v5, t5, q5, r5, q6⟩ := hv0
  have r1 := bw r1
  have r2 := bw r2
  have r3 := bw r3
  rw [fw g' hg''] at r1
  rw [c7 g' hg''] at r2
  rw [lf g' hg''] at r3
  simp only [VRel] at r4 r5
  obtain ⟨_, cc, cap', w1, w2, w3, w4, w5⟩ := r4
  rw [krr] at w1
  obtain rfl := Option.some.inj w1
  rw [c7 g' hg''] at w2 w3 w5
  rw [Int.toNat_natCast] at w5
  obtain ⟨arr1, fz1, hx1, hf1, hv1⟩ := (ew (by simp)).1 op
  simp only [VRels] at hv1
  obtain ⟨u1, t1', p1, m1, u2, t2', p2, m2, u3, t3', p3, m3, u4, t4', p4, m4, p5⟩ := hv1
  have m1 := bw m1
  have m2 := bw m2
  have m3 := bw m3
  have m4 := bw m4
  have hob : vp [2, a.eval Gv.σ, b.eval Gv.σ, c.eval Gv.σ, d.eval Gv.σ] p p w'.heap := .inl ⟨_, _, _, _, arr1, fz1, rfl, hx1, by rw [p1, p2, p3, p4, p5, m1, m2, m3, m4], hf1, rfl⟩
  obtain ⟨arr2, fz2, hb2, g1, g2, g3, g4, g5, g6⟩ := orr
  rw [e1'] at g2 g3 g4
  have z2 := hA.rel.len (K.of kr) b2 arr2 126 fz2 lr krr hb2
  rw [← z2] at w4
  obtain ⟨_, cp, h1, h2⟩ := g6 _ _ _ (List.mem_singleton.2 rfl)
  rw [kpp] at h1
  obtain rfl := Option.some.inj h1
  rw [e1, Int.toNat_natCast] at h2
  have lenL : (L ++ [[2, a.eval Gv.σ, b.eval Gv.σ, c.eval Gv.σ, d.eval Gv.σ]]).length = L.length + 1 := by simp
  rw [lenL] at w2 w3 w5 g4
  have row : arr2.toList.take (L.length + 1) = (List.zipWith dc (L ++ [[2, a.eval Gv.σ, b.eval Gv.σ, c.eval Gv.σ, d.eval Gv.σ]]) ((os ++ [(p, p)]).map (·.1))).map md := by
   rw [List.map_append, List.map_cons, List.map_nil, agb hos', ← h90]
   apply List.ext_getElem?
   intro i
   by_cases hi : i < L.length
   ·rw [List.getElem?_take_of_lt (by omega), Array.getElem?_toList, List.getElem?_map, List.getElem?_append_left (by omega)]
    have hi' : i < (Gv.σ 90).length := by omega
    rw [g5 i hi', zK hi']
    rfl
   ·by_cases hi2 : i = L.length
    ·subst hi2
     rw [List.getElem?_take_of_lt (by omega), Array.getElem?_toList, List.getElem?_map, List.getElem?_append_right (by omega), hl90, Nat.sub_self, h2]
     simp only [List.getElem?_cons_zero, Option.map_some]
     rw [ah2]
    ·rw [List.getElem?_eq_none (by simp; omega), List.getElem?_eq_none (by simp; omega)]
  refine abg (F' := fun x => x = c0 ∨ x = b2 ∨ ml (os ++ [(p, p)]) x) (bs := bs) (los := [hfC (hfN g) []]) (by omega) (by simp) rfl hO hw hc hA rfl ?_ oa (.inl rfl) (.inr ⟨rfl, ?_⟩) ?_
  ·intro n' o' hm
   rcases List.mem_cons.1 hm with hm | hm
   ·injection hm with z _; omega
   ·rw [List.mem_singleton] at hm; injection hm with z _; omega
  ·refine ⟨lim, _, hg'', hok' lim L e hok, .inr ⟨os ++ [(p, p)], b2, arr2, fz2, cap', rfl, rc, ?_, ?_, ve hob (lj (fun x hx => fr x hx) s4) npos npos, ⟨arr0, fz0, hx0, ?_, hf0⟩, by simp, hb2, g1, by rw [lenL]; omega, by omega, by rw [lenL]; exact row⟩⟩
   ·rw [bsIn_snoc]; rintro (z | z)
    ·exact s2 z
    ·exact pc z.symm
   ·rw [bsIn_snoc]; rintro (z | z)
    ·exact nros z
    ·exact pr z.symm
   ·rw [q1, q2, q3, q4, q5, q6, r1, r2, r3, w5, r5, lenL]
  ·rintro y (rfl | rfl | hy)
   ·exact .inl ((ft _).2 (.inl rfl))
   ·refine .inr ⟨kr, _, zA _ (List.mem_cons_self ..), ?_, krr⟩
    show (ab (K.of kr) (ac [.mk kp (hfQ a b c d), .mk kr (hfC (hfN g') [.mk (hfN g) 86 (K.of kp)])])).isRo = false
    rw [ah, if_neg (fun z => dpr z.symm), ah, if_pos rfl]; rfl
   ·rcases bsIn_snoc.1 hy with z | rfl
    ·exact .inl ((ft _).2 (.inr (.inr z)))
    ·refine .inr ⟨kp, _, List.mem_cons_self .., ?_, kpp⟩
     show (ab (K.of kp) (ac [.mk kp (hfQ a b c d), .mk kr (hfC (hfN g') [.mk (hfN g) 86 (K.of kp)])])).isRo = false
     rw [ah, if_pos rfl]; rfl
 have run := hf lim L s6 e hok hl90 (jy ρ (d6 257 bs)) args w (hO.grel hc hg (by show 256 ≤ (K.of 257).num; omega)) (hO.rel hw hc) (hO.clean hc) (VRels.mono (hO.le hc) _ _ hv)
 refine Calls.mono run fun e w' hp => ?_
 cases r with
 | ret v =>
   obtain ⟨v', ρ2, e1, e2, hA⟩ := hp
   obtain ⟨ρ3, hA3, hle⟩ := fin ρ2 w' hA
   exact ⟨v', ρ3, e1, e2.mono hle, hA3⟩
 | pan ch =>
   obtain ⟨ch', ρ2, e1, e2, hA⟩ := hp
   obtain ⟨ρ3, hA3, hle⟩ := fin ρ2 w' hA
   exact ⟨ch', ρ3, e1, e2.mono hle, hA3⟩
end
end Go.Ev
set_option maxRecDepth 100000
set_option linter.all false
namespace Go.Ev
noncomputable section
def cnR : GE := .cat (.one (.c 2)) (.cat (.one (.v 10)) (.cat (.one (.v 11)) (.cat (.one (.v 12)) (.one (.v 13)))))
def cnG : GE := .app 206 (.g (.s 5) (.g cnR .nil))
def usE (g : GE) : SE := .app 202 (.g g .nil)
def cnU : List AV := [hpp, wd (.v 10) (.v 11), wd (.v 12) (.v 13)]
def cnV : TR := .ret (.tuple [.agg [.int .i64 2, .sym .i64 (hfN (.s 5)) []], .int .i64 0])
end
section
variable [Gv]
theorem bde (hA : SAll Gv.σ [.mk true (.c 0) (.rd (.s 5) (.c 0)) true, .mk false (hfN (.s 5)) (.rd (.s 5) (.c 0)) false, .mk true (hfN (.s 5)) (.c 0) false, .mk true (.c 50000) (hfN (.s 5)) false, .mk true (usE (.s 5)) (.c 0) false, .mk true (.c 1048576) (usE (.s 5)) false, .mk false (.len (.s 90)) (hfN (.s 5)) true, .mk true (.c 1048576) (.bin 0 .i64 (usE (.s 5)) (.c 0)) false, .mk true (.c 400000) (.bin 6 .i64 (hfN (.s 5)) (.c 1)) false])
  (hE : EqL.all Gv.σ (.i (.rd (.s 5) (.c 0)) (.rd cnG (.c 0)) (.i (.bin 0 .i64 (hfN (.s 5)) (.c 1)) (hfN cnG) (.i (.bin 0 .i64 (usE (.s 5)) (.c 0)) (usE cnG) (.i (.bin 6 .i64 (hfN (.s 5)) (.c 1)) (hfN cnG) .nil))))) :
  br 12 cnU 258 [.mk 256 (hfS (.s 5) 257), .mk 257 (hfC (hfN (.s 5)) [])] cnV 265 [.mk 256 (hfS cnG 264), .mk 261 (hfQ (.v 10) (.v 11) (.v 12) (.v 13)), .mk 264 (hfC (hfN cnG) [.mk (hfN (.s 5)) 86 (K.of 261)])] :=
 ak (n := 2000) (T := [(261, 261), (264, 264)]) (E := (.i (.rd (.s 5) (.c 0)) (.rd cnG (.c 0)) (.i (.bin 0 .i64 (hfN (.s 5)) (.c 1)) (hfN cnG) (.i (.bin 0 .i64 (usE (.s 5)) (.c 0)) (usE cnG) (.i (.bin 6 .i64 (hfN (.s 5)) (.c 1)) (hfN cnG) .nil))))) aq al hA hE rfl rfl (by kernel_rfl)
end
end Go.Ev
set_option maxRecDepth 100000
set_option linter.all false
namespace Go.Ev
section
variable [Gv]
set_option maxHeartbeats 2000000 in
theorem a8y {f nxo kp kr : Nat} {g g' : GE} {a b c d : SE} {us : List AV} {r : TR} (hkp : 258 < kp ∧ kp ≤ 65535) (hkr : 258 < kr ∧ kr ≤ 65535) (hne : kp ≠ kr)
  (hg' : g'.eval Gv.σ = pj (g.eval Gv.σ) [2, a.eval Gv.σ, b.eval Gv.σ, c.eval Gv.σ, d.eval Gv.σ])
  (hok' : ∀ lim L, g.eval Gv.σ = lim :: ff L → j0 lim L → j0 lim (L ++ [[2, a.eval Gv.σ, b.eval Gv.σ, c.eval Gv.σ, d.eval Gv.σ]]))
  (hf : ∀ lim, g.eval Gv.σ = lim :: ff [] → j0 lim [] → br f us 257 [.mk 256 (hfR g .nilSlice)] r nxo [.mk 256 (hfS g' kr), .mk kp (hfQ a b c d), .mk kr (.cells 126 true 0 0 [.iface 86 (.ptr (K.of kp) 0)])])
  {ρ : Env} {args : Array Value} {w : World} {c0 : Nat} (hg : GRel ρ) (hw : WRel ρ (ai [.mk 256 (.gob (.lh 2 g))] 257) w) (hc : Clean ρ (ai [.mk 256 (.gob (.lh 2 g))] 257)) (hv : VRels ρ us args.toList) (hc0 : ρ (K.of 256) = some c0) (hq : g.eval Gv.σ = [(g.eval Gv.σ).headD 0]) :
  Calls PP f args w (CPost ρ (ai [.mk 256 (.gob (.lh 2 g))] 257) w (a2n r (ai [.mk 256 (.gob (.lh 2 g'))] nxo))) := by
 have hg0 : bi (ab (K.of 256) (ai [.mk 256 (.gob (.lh 2 g))] 257).h) = some (2, g) := by
  show bi (ab _ (ac _)) = _
  rw [ah, if_pos rfl]; rfl
 have q := hw.gho _ 2 g hg0
 have n256 : (K.of 256).num = 256 := bp (by omega)
 have n257 : (K.of 257).num = 257 := bp (by omega)
 have np : (K.of kp).num = kp := bp (by omega)
 have nr : (K.of kr).num = kr := bp (by omega)
 rcases q.rel c0 hc0 with ⟨h1, _⟩ | ⟨_, hF⟩
 ·cases h1
 obtain ⟨lim, L, e, hok, hF⟩ := hF
 have hL0 : L = [] := by
  rw [e] at hq
  cases L with
  | nil => rfl
  | cons x L => simp [ff] at hq
 subst hL0
 rcases hF with ⟨_, hFF, hrt⟩ | ⟨os, bb, arr, fz, cap, hFF, s1, s2, s3, s4, s5, s6, _⟩
 case inr => exact absurd rfl s6
 have e1 := c7 (σ := Gv.σ) g e
 have hg'' : g'.eval Gv.σ = lim :: ff ([] ++ [[2, a.eval Gv.σ, b.eval Gv.σ, c.eval Gv.σ, d.eval Gv.σ]]) := by
  rw [hg', e, qc]; rfl
 have e1' := c7 (σ := Gv.σ) g' hg''
 have ft : ∀ x, ρ.ft (K.of 256) x ↔ x = c0 := fun x => by rw [hFF]
 have rootN : ∀ ρ x, aig lim [] (.slice none 0 0) x → ORel ρ (bt (hfR g .nilSlice)) x := by
  rintro ρ x ⟨arr, fz, hx, ha, hf⟩
  refine (ew (by simp)).2 ⟨arr, fz, hx, hf, ?_⟩
  rw [ha]
  simp only [VRels]
  exact ⟨_, _, rfl, jh (fw g e), _, _, rfl, jh e1, _, _, rfl, jh (lf g e), _, _, rfl, by simp only [VRel], _, _, rfl, by simp only [VRel], rfl⟩
 have hO : GhOpen (K.of 256) (d6 257 []) 2 g ρ (ai [.mk 256 (.gob (.lh 2 g))] 257) w c0 (ai (.mk 256 (hfR g .nilSlice) :: (mkL 257 [] ++ [])) (257 + 0)) :=
  ww (bs := []) (los := []) (by omega) (by simp) rfl uj rfl rfl (fun o ho => by cases ho) hc0 (fun j h => by simp at h) (fun x y h => by simp at h) (rootN _ _ hrt)
 have ne : ∀ {m n : Nat}, m < 65536 → n < 65536 → m ≠ n → K.of m ≠ K.of n := by
  intro m n h1 h2 h3 z
  have := congrArg K.num z
  rw [bp h1, bp h2] at this
  exact h3 this
 have fin : ∀ ρ2 w' , Adv (jy ρ (d6 257 [])) (ai (.mk 256 (hfR g .nilSlice) :: (mkL 257 [] ++ [])) (257 + 0)) w ρ2 (ai (.mk 256 (hfS g' kr) :: ([.mk kp (hfQ a b c d), .mk kr (.cells 126 true 0 0 [.iface 86 (.ptr (K.of kp) 0)])] ++ [])) nxo) w' → ∃ ρ3, Adv ρ (ai [.mk 256 (.gob (.lh 2 g))] 257) w ρ3 (ai [.mk 256 (.gob (.lh 2 g'))] nxo) w' ∧ ρ2.le ρ3 := by
  intro ρ2 w' hA
  have a20 : ab (K.of 256) (ac [.mk 256 (hfS g' kr), .mk kp (hfQ a b c d), .mk kr (.cells 126 true 0 0 [.iface 86 (.ptr (K.of kp) 0)])]) = bt (hfS g' kr) := by rw [ah, if_pos rfl]
  have a2p : ab (K.of kp) (ac [.mk 256 (hfS g' kr), .mk kp (hfQ a b c d), .mk kr (.cells 126 true 0 0 [.iface 86 (.ptr (K.of kp) 0)])]) = bt (hfQ a b c d) := by rw [ah, if_neg (ne (by omega) (by omega) (by omega)), ah, if_pos rfl]
  have a2r : ab (K.of kr) (ac [.mk 256 (hfS g' kr), .mk kp (hfQ a b c d), .mk kr (.cells 126 true 0 0 [.iface 86 (.ptr (K.of kp) 0)])]) = bt (.cells 126 true 0 0 [.iface 86 (.ptr (K.of kp) 0)]) := by rw [ah, if_neg (ne (by omega) (by omega) (by omega)), ah, if_neg (ne (by omega) (by omega) (by omega)), ah, if_pos rfl]
  have l0 : ab (K.of 256) (ai [.mk 256 (hfS g' kr), .mk kp (hfQ a b c d), .mk kr (.cells 126 true 0 0 [.iface 86 (.ptr (K.of kp) 0)])] nxo).h ≠ .none := by show ab _ (ac _) ≠ _; rw [a20]; exact cy _
  have lp : ab (K.of kp) (ai [.mk 256 (hfS g' kr), .mk kp (hfQ a b c d), .mk kr (.cells 126 true 0 0 [.iface 86 (.ptr (K.of kp) 0)])] nxo).h ≠ .none := by show ab _ (ac _) ≠ _; rw [a2p]; exact cy _
  have lr : ab (K.of kr) (ai [.mk 256 (hfS g' kr), .mk kp (hfQ a b c d), .mk kr (.cells 126 true 0 0 [.iface 86 (.ptr (K.of kp) 0)])] nxo).h ≠ .none := by show ab _ (ac _) ≠ _; rw [a2r]; exact cy _
  have ro0 : (ab (K.of 256) (ai [.mk 256 (hfS g' kr), .mk kp (hfQ a b c d), .mk kr (.cells 126 true 0 0 [.iface 86 (.ptr (K.of kp) 0)])] nxo).h).isRo = false := by show (ab _ (ac _)).isRo = _; rw [a20]; rfl
  have rop : (ab (K.of kp) (ai [.mk 256 (hfS g' kr), .mk kp (hfQ a b c d), .mk kr (.cells 126 true 0 0 [.iface 86 (.ptr (K.of kp) 0)])] nxo).h).isRo = false := by show (ab _ (ac _)).isRo = _; rw [a2p]; rfl
  have ror : (ab (K.of kr) (ai [.mk 256 (hfS g' kr), .mk kp (hfQ a b c d), .mk kr (.cells 126 true 0 0 [.iface 86 (.ptr (K.of kp) 0)])] nxo).h).isRo = false := by show (ab _ (ac _)).isRo = _; rw [a2r]; rfl
  have k0 : ρ2 (K.of 256) = some c0 := (hA.le _ _ (by rw [(du hO.kr0).1]; exact hc0)).1
  obtain ⟨x0, y0, o0⟩ := hA.rel.dom (K.of 256) l0
  obtain ⟨p, kpp, op⟩ := hA.rel.dom (K.of kp) lp
  obtain ⟨b2, krr, orr⟩ := hA.rel.dom (K.of kr) lr
  rw [k0] at y0
  obtain rfl := Option.some.inj y0
  have o0 : ORel ρ2 (ab (K.of 256) (ac [.mk 256 (hfS g' kr), .mk kp (hfQ a b c d), .mk kr (.cells 126 true 0 0 [.iface 86 (.ptr (K.of kp) 0)])])) w'.heap[c0]? := o0
  have op : ORel ρ2 (ab (K.of kp) (ac [.mk 256 (hfS g' kr), .mk kp (hfQ a b c d), .mk kr (.cells 126 true 0 0 [.iface 86 (.ptr (K.of kp) 0)])])) w'.heap[p]? := op
  have orr : ORel ρ2 (ab (K.of kr) (ac [.mk 256 (hfS g' kr), .mk kp (hfQ a b c d), .mk kr (.cells 126 true 0 0 [.iface 86 (.ptr (K.of kp) 0)])])) w'.heap[b2]? := orr
  rw [a20] at o0
  rw [a2p] at op
  rw [a2r] at orr
  have nos : ∀ k y, ab k (ai [.mk 256 (hfS g' kr), .mk kp (hfQ a b c d), .mk kr (.cells 126 true 0 0 [.iface 86 (.ptr (K.of kp) 0)])] nxo).h ≠ .none → (ab k (ai [.mk 256 (hfS g' kr), .mk kp (hfQ a b c d), .mk kr (.cells 126 true 0 0 [.iface 86 (.ptr (K.of kp) 0)])] nxo).h).isRo = false → k ≠ K.of 256 → ρ2 k = some y → ¬ ml [] y := by
   rintro k y _ _ _ _ ⟨_, z, _⟩
   cases z
  have dp : K.of kp ≠ K.of 256 := ne (by omega) (by omega) (by omega)
  have dr : K.of kr ≠ K.of 256 := ne (by omega) (by omega) (by omega)
  have dpr : K.of kp ≠ K.of kr := ne (by omega) (by omega) hne
  have npos := nos (K.of kp) p lp rop dp kpp
  have nros := nos (K.of kr) b2 lr ror dr krr
  have pc : p ≠ c0 := fun z => dp (hA.rel.inj1 lp l0 (.inl rop) (by rw [kpp, k0, z]))
  have rc : b2 ≠ c0 := fun z => dr (hA.rel.inj1 lr l0 (.inl ror) (by rw [krr, k0, z]))
  have pr : p ≠ b2 := fun z => dpr (hA.rel.inj1 lp lr (.inl rop) (by rw [kpp, krr, z]))
  obtain ⟨arr0, fz0, hx0, hf0, hv0⟩ := (ew (by simp)).1 o0
  simp only [VRels] at hv0
  obtain ⟨v1, t1, q1, r1, v2, t2, q2, r2, v3, t3, q3, r3, v4, t4, q4, r4, v5, t5, q5, r5, q6⟩ := hv0
  have r1 := bw r1
  have r2 := bw r2
  have r3 := bw r3
  rw [fw g' hg''] at r1
  rw [c7 g' hg''] at r2
  rw [lf g' hg''] at r3
  simp only [VRel] at r4 r5
  obtain ⟨_, cc, cap', w1, w2, w3, w4, w5⟩ := r4
  rw [krr] at w1
  obtain rfl := Option.some.inj w1
  rw [c7 g' hg''] at w2 w3 w5
  rw [Int.toNat_natCast] at w5
  obtain ⟨arr1, fz1, hx1, hf1, hv1⟩ := (ew (by simp)).1 op
  simp only [VRels] at hv1
  obtain ⟨u1, t1', p1, m1, u2, t2', p2, m2, u3, t3', p3, m3, u4, t4', p4, m4, p5⟩ := hv1
  have m1 := bw m1
  have m2 := bw m2
  have m3 := bw m3
  have m4 := bw m4
  have hob : vp [2, a.eval Gv.σ, b.eval Gv.σ, c.eval Gv.σ, d.eval Gv.σ] p p w'.heap := .inl ⟨_, _, _, _, arr1, fz1, rfl, hx1, by rw [p1, p2, p3, p4, p5, m1, m2, m3, m4], hf1, rfl⟩
  obtain ⟨arr2, fz2, hb2, f2, _, _, ⟨_, f5⟩, f6⟩ := orr
  have g4 : 1 ≤ arr2.size := f2
  have g1 : fz2.2 ≤ fz2.1 := by
   apply Classical.byContradiction
   intro hn
   have := f5 fz2.1 (zY _) (by omega)
   omega
  obtain ⟨v0, i1, i2⟩ := f6 0 (by show 0 < b9 [_]; rw [ar]; simp)
  have hcap : 1 ≤ ld (jm (b9 [AV.iface 86 (AV.ptr (K.of kp) 0)])) := by rw [ar]; exact ee 1 (by omega)
  rw [ev _ 0 _ 0 (by simpa using hcap) (by omega), dif_pos ⟨zY _, by simp⟩] at i2
  simp only [Nat.sub_self, List.getElem_cons_zero, VRel] at i2
  obtain ⟨v', rfl, cp, h1, rfl⟩ := i2
  have h2 := i1
  have z2 := hA.rel.len (K.of kr) b2 arr2 126 fz2 lr krr hb2
  rw [← z2] at w4
  rw [kpp] at h1
  obtain rfl := Option.some.inj h1
  have lenL : ([] ++ [[2, a.eval Gv.σ, b.eval Gv.σ, c.eval Gv.σ, d.eval Gv.σ]]).length = 0 + 1 := by simp
  rw [lenL] at w2 w3 w5
  have row : arr2.toList.take (0 + 1) = (List.zipWith dc ([] ++ [[2, a.eval Gv.σ, b.eval Gv.σ, c.eval Gv.σ, d.eval Gv.σ]]) (([] ++ [(p, p)] : List (Nat × Nat)).map (·.1))).map md := by
   show _ = [md (dc _ p)]
   rw [ah2]
   apply List.ext_getElem?
   intro i
   by_cases hi : i = 0
   ·subst hi
    rw [List.getElem?_take_of_lt (by omega), Array.getElem?_toList, h2]; rfl
   ·rw [List.getElem?_eq_none (by simp; omega), List.getElem?_eq_none (by simp; omega)]
  refine abg (F' := fun x => x = c0 ∨ x = b2 ∨ ml ([] ++ [(p, p)]) x) (bs := []) (los := []) (by omega) (by simp) rfl hO hw hc hA rfl ?_ oa (.inl rfl) (.inr ⟨rfl, ?_⟩) ?_
  ·intro n' o' hm
   rcases List.mem_cons.1 hm with hm | hm
   ·injection hm with z _; omega
   ·rw [List.mem_singleton] at hm; injection hm with z _; omega
  ·refine ⟨lim, _, hg'', hok' lim [] e hok, .inr ⟨[] ++ [(p, p)], b2, arr2, fz2, cap', rfl, rc, ?_, ?_, ve (L := []) (os := []) hob trivial npos npos, ⟨arr0, fz0, hx0, ?_, hf0⟩, by simp, hb2, g1, by rw [lenL]; omega, by omega, by rw [lenL]; exact row⟩⟩
   ·rw [bsIn_snoc]; rintro (z | z)
    ·obtain ⟨_, z, _⟩ := z; cases z
    ·exact pc z.symm
   ·rw [bsIn_snoc]; rintro (z | z)
    ·exact nros z
    ·exact pr z.symm
   ·rw [q1, q2, q3, q4, q5, q6, r1, r2, r3, w5, r5, lenL]
  ·rintro y (rfl | rfl | hy)
   ·exact .inl ((ft _).2 rfl)
   ·refine .inr ⟨kr, _, zA _ (List.mem_cons_self ..), ?_, krr⟩
    show (ab (K.of kr) (ac [.mk kp (hfQ a b c d), .mk kr (.cells 126 true 0 0 [.iface 86 (.ptr (K.of kp) 0)])])).isRo = false
    rw [ah, if_neg (fun z => dpr z.symm), ah, if_pos rfl]; rfl
   ·rcases bsIn_snoc.1 hy with z | rfl
    ·obtain ⟨_, z, _⟩ := z; cases z
    ·refine .inr ⟨kp, _, List.mem_cons_self .., ?_, kpp⟩
     show (ab (K.of kp) (ac [.mk kp (hfQ a b c d), .mk kr (.cells 126 true 0 0 [.iface 86 (.ptr (K.of kp) 0)])])).isRo = false
     rw [ah, if_pos rfl]; rfl
 have run := hf lim e hok (jy ρ (d6 257 [])) args w (hO.grel hc hg (by show 256 ≤ (K.of 257).num; omega)) (hO.rel hw hc) (hO.clean hc) (VRels.mono (hO.le hc) _ _ hv)
 refine Calls.mono run fun e w' hp => ?_
 cases r with
 | ret v =>
   obtain ⟨v', ρ2, e1, e2, hA⟩ := hp
   obtain ⟨ρ3, hA3, hle⟩ := fin ρ2 w' hA
   exact ⟨v', ρ3, e1, e2.mono hle, hA3⟩
 | pan ch =>
   obtain ⟨ch', ρ2, e1, e2, hA⟩ := hp
   obtain ⟨ρ3, hA3, hle⟩ := fin ρ2 w' hA
   exact ⟨ch', ρ3, e1, e2.mono hle, hA3⟩
end
end Go.Ev
set_option maxRecDepth 100000
set_option linter.all false
namespace Go.Ev
section
variable [Gv]
theorem a8g (hA : SAll Gv.σ [.mk true (.c 0) (.rd (.s 5) (.c 0)) true, .mk false (hfN (.s 5)) (.rd (.s 5) (.c 0)) false, .mk false (hfN (.s 5)) (.c 0) true, .mk false (.c 0) (.rd (.s 5) (.c 0)) false, .mk true (usE (.s 5)) (.c 0) false, .mk true (.c 1048576) (usE (.s 5)) false, .mk true (.c 1048576) (.bin 0 .i64 (usE (.s 5)) (.c 0)) false])
  (hE : EqL.all Gv.σ (.i (.rd (.s 5) (.c 0)) (.rd cnG (.c 0)) (.i (.bin 0 .i64 (hfN (.s 5)) (.c 1)) (hfN cnG) (.i (.bin 0 .i64 (usE (.s 5)) (.c 0)) (usE cnG) (.i (.c 1) (hfN cnG) (.i (.c 0) (hfN (.s 5)) .nil)))))) :
  br 12 cnU 257 [.mk 256 (hfR (.s 5) .nilSlice)] cnV 265 [.mk 256 (hfS cnG 264), .mk 261 (hfQ (.v 10) (.v 11) (.v 12) (.v 13)), .mk 264 (.cells 126 true 0 0 [.iface 86 (.ptr (K.of 261) 0)])] :=
 ak (n := 2000) (T := [(260, 261), (263, 264)]) (E := (.i (.rd (.s 5) (.c 0)) (.rd cnG (.c 0)) (.i (.bin 0 .i64 (hfN (.s 5)) (.c 1)) (hfN cnG) (.i (.bin 0 .i64 (usE (.s 5)) (.c 0)) (usE cnG) (.i (.c 1) (hfN cnG) (.i (.c 0) (hfN (.s 5)) .nil)))))) aq al hA hE rfl rfl (by kernel_rfl)
end
end Go.Ev
set_option maxRecDepth 100000
set_option linter.all false
namespace Go.Ev
theorem bcv {x : Int} (h : -9223372036854775808 ≤ x ∧ x ≤ 9223372036854775807) : IntKind.i64.wrap x = x := by
 simp only [IntKind.wrap, IntKind.bits, IntKind.signed]; simp; omega
section
variable [Gv]
theorem adp : ∀ L, 0 ≤ gz L
 | [] => by simp [gz]
 | r :: L => by
   have := adp L
   have h : 0 ≤ zc r := by unfold zc; split <;> omega
   simp only [gz, List.map_cons, List.foldr_cons] at this ⊢
   omega
theorem a8e {lim : Int} {L : List (List Int)} (e : (GE.s 5).eval Gv.σ = lim :: ff L) : cnG.eval Gv.σ = lim :: ff (L ++ [[2, (SE.v 10).eval Gv.σ, (SE.v 11).eval Gv.σ, (SE.v 12).eval Gv.σ, (SE.v 13).eval Gv.σ]]) := by
 show pj ((GE.s 5).eval Gv.σ) _ = _
 rw [e, qc]; rfl
theorem apa {lim : Int} {L : List (List Int)} (e : (GE.s 5).eval Gv.σ = lim :: ff L) (hok : j0 lim L) :
  (SE.rd (.s 5) (.c 0)).eval Gv.σ = lim ∧ (SE.rd cnG (.c 0)).eval Gv.σ = lim ∧ (hfN (.s 5)).eval Gv.σ = L.length ∧ (hfN cnG).eval Gv.σ = L.length + 1 ∧ (usE (.s 5)).eval Gv.σ = gz L ∧ (usE cnG).eval Gv.σ = gz L ∧
  (SE.bin 0 .i64 (hfN (.s 5)) (.c 1)).eval Gv.σ = L.length + 1 ∧ (SE.bin 6 .i64 (hfN (.s 5)) (.c 1)).eval Gv.σ = L.length + 1 ∧ (SE.bin 0 .i64 (usE (.s 5)) (.c 0)).eval Gv.σ = gz L := by
 have e' := a8e e
 obtain ⟨b1, b2, b3, b4⟩ := hok
 have u := adp L
 have n1 := c7 (σ := Gv.σ) (.s 5) e
 have u1 := lf (σ := Gv.σ) (.s 5) e
 have n2 := c7 (σ := Gv.σ) cnG e'
 have u2 := lf (σ := Gv.σ) cnG e'
 rw [zP] at n2
 rw [vi] at u2
 refine ⟨fw _ e, fw _ e', n1, n2, u1, by rw [show usE cnG = .app 202 (.g cnG .nil) from rfl, u2]; show gz L + 0 = _; omega, ?_, ?_, ?_⟩
 ·show IntKind.i64.wrap ((hfN (.s 5)).eval Gv.σ + 1) = _
  rw [n1]; exact bcv (by omega)
 ·show (hfN (.s 5)).eval Gv.σ + 1 = _
  rw [n1]
 ·show IntKind.i64.wrap ((usE (.s 5)).eval Gv.σ + 0) = _
  rw [show (usE (.s 5)).eval Gv.σ = gz L from u1, bcv (by omega)]; omega
theorem bos {lim : Int} {L : List (List Int)} (hL : L ≠ []) (e : (GE.s 5).eval Gv.σ = lim :: ff L) (hok : j0 lim L) (h90 : (Gv.σ 90).length = L.length) (hfull : (L.length : Int) ≠ lim) :
  br 12 cnU 258 [.mk 256 (hfS (.s 5) 257), .mk 257 (hfC (hfN (.s 5)) [])] cnV 265 [.mk 256 (hfS cnG 264), .mk 261 (hfQ (.v 10) (.v 11) (.v 12) (.v 13)), .mk 264 (hfC (hfN cnG) [.mk (hfN (.s 5)) 86 (K.of 261)])] := by
 obtain ⟨f1, f2, f3, f4, f5, f6, f7, f8, f9⟩ := apa e hok
 have u := adp L
 have hp : 0 < L.length := by cases L with | nil => exact absurd rfl hL | cons x L => simp
 obtain ⟨b1, b2, b3, b4⟩ := hok
 refine bde (aT (by rw [f1]; simp only [SE.eval]; omega) (aN (by rw [f1, f3]; exact hfull) (aF (by rw [f3]; simp only [SE.eval]; omega) (aF (by rw [f3]; simp only [SE.eval]; omega) (aF (by rw [f5]; simp only [SE.eval]; omega) (aF (by rw [f5]; simp only [SE.eval]; omega) (aE (by rw [f3]; show ((Gv.σ 90).length : Int) = _; omega) (aF (by rw [f9]; simp only [SE.eval]; omega) (aF (by rw [f8]; simp only [SE.eval]; omega) SAll.nil))))))))) ⟨by rw [f1, f2], by rw [f7, f4], by rw [f9, f6], by rw [f8, f4], trivial⟩
theorem bor {lim : Int} (e : (GE.s 5).eval Gv.σ = lim :: ff []) (hok : j0 lim []) :
  br 12 cnU 257 [.mk 256 (hfR (.s 5) .nilSlice)] cnV 265 [.mk 256 (hfS cnG 264), .mk 261 (hfQ (.v 10) (.v 11) (.v 12) (.v 13)), .mk 264 (.cells 126 true 0 0 [.iface 86 (.ptr (K.of 261) 0)])] := by
 obtain ⟨f1, f2, f3, f4, f5, f6, f7, f8, f9⟩ := apa e hok
 obtain ⟨b1, b2, b3, b4⟩ := hok
 have u0 : gz [] = 0 := rfl
 rw [u0] at f5 f6 f9
 simp only [zS] at f3 f4 f7 f8
 refine a8g (aT (by rw [f1]; simp only [SE.eval]; omega) (aN (by rw [f1, f3]; omega) (aE (by rw [f3]; rfl) (aN (by rw [f1]; simp only [SE.eval]; omega) (aF (by rw [f5]; simp only [SE.eval]; omega) (aF (by rw [f5]; simp only [SE.eval]; omega) (aF (by rw [f9]; simp only [SE.eval]; omega) SAll.nil))))))) ⟨by rw [f1, f2], by rw [f7, f4], by rw [f9, f6], by rw [f4]; rfl, by rw [f3]; rfl, trivial⟩
end
end Go.Ev
set_option maxRecDepth 100000
set_option linter.all false
namespace Go.Ev
theorem a8f : ab (K.of 256) (ac [.mk 256 (hgh (.s 5))]) ≠ .none := by
 letI : Gv := ⟨fun _ => []⟩
 rw [ah, if_pos rfl]; exact cy _
theorem bil {σ : Nat → List Int} (hA : (hfN (.s 5)).eval σ ≠ (SE.rd (.s 5) (.c 0)).eval σ) : @br ⟨σ⟩ 12 cnU 257 [.mk 256 (hgh (.s 5))] cnV 265 [.mk 256 (hgh cnG)] := by
 refine a3k (KL := [(256, 256)]) (fun codes c0 H => a3x (σ 5) codes c0 H ∨ σ 5 = [(σ 5).headD 0]) (by omega) (by omega) (by omega) rfl rfl rfl rfl rfl rfl a8f (fun _ => rfl) (fun _ => rfl) (fun _ => rfl) (fun _ => rfl) ?_ ?_
 ·intro ρ w c0 hw hc0
  letI : Gv := ⟨σ⟩
  have hg0 : bi (ab (K.of 256) (ai [.mk 256 (hgh (.s 5))] 257).h) = some (2, .s 5) := by
   show bi (ab _ (ac _)) = _
   rw [ah, if_pos rfl]; rfl
  have q := hw.gho _ 2 (.s 5) hg0
  rcases q.rel c0 hc0 with ⟨h1, _⟩ | ⟨_, hF⟩
  ·cases h1
  obtain ⟨lim, L, e, hok, hF⟩ := hF
  have e : σ 5 = lim :: ff L := e
  rcases hF with ⟨h0, _⟩ | ⟨os, bb, arr, fz, cap, hFF, s1, s2, s3, s4, s5, s6, s7, s8, s9, s10, s11⟩
  ·subst h0
   exact ⟨[], .inr (by rw [e]; rfl)⟩
  ·exact ⟨_, .inl ⟨lim, L, os, bb, arr, fz, cap, e, rfl, s4, s1, s2, s3, s5, s6, s7, s8, s9, s10, s11⟩⟩
 ·intro σ' hs ρ args w c0 hg hw hc hv hc0 hq
  letI : Gv := ⟨σ'⟩
  have h5 : σ' 5 = σ 5 := hs 5 (by omega)
  rw [← h5] at hq
  have hne : (hfN (.s 5)).eval σ' ≠ (SE.rd (.s 5) (.c 0)).eval σ' := by
   intro z
   apply hA
   have z : ((recs (σ' 5).tail).length : Int) = (σ' 5).getD (0 : Int).toNat 0 := z
   rw [h5] at z
   exact z
  have full : ∀ lim L, (GE.s 5).eval σ' = lim :: ff L → (L.length : Int) ≠ lim := by
   intro lim L e z
   exact hne (by rw [c7 _ e, fw _ e, z])
  have hok' : ∀ lim L, (GE.s 5).eval σ' = lim :: ff L → j0 lim L → j0 lim (L ++ [[2, (SE.v 10).eval σ', (SE.v 11).eval σ', (SE.v 12).eval σ', (SE.v 13).eval σ']]) := by
   intro lim L e hok
   have := full lim L e
   obtain ⟨b1, b2, b3, b4⟩ := hok
   refine ⟨b1, b2, by rw [zP]; show ((L.length + 1 : Nat) : Int) ≤ lim; omega, by rw [vi]; show gz L + 0 ≤ _; omega⟩
  rcases hq with hq | hq
  ·exact a8z (g := .s 5) (g' := cnG) (by omega) (by omega) (by omega) rfl hok' (fun lim L hL e hok h90 => bos hL e hok h90 (full lim L e)) hg hw hc hv hc0 hq
  ·exact a8y (g := .s 5) (g' := cnG) (by omega) (by omega) (by omega) rfl hok' (fun lim e hok => bor e hok) hg hw hc hv hc0 hq
end Go.Ev
set_option maxRecDepth 100000
set_option linter.all false
namespace Go.Ev
noncomputable section
def awp : List SA := [.mk false (.v 1) (.c 2) true, .mk false (amq (.v 1)) (.c 1) true]
def hI : List HO := [.mk 256 (hgh (.s 5))]
def wU : List AV := [hpp, wd (.v 1) (.v 2)]
def bc8 : TM := .mk 24 wU 257 hI awp none (.ret (.tuple [wd (wk 1) (wk 2), .int .i64 0])) 263 hI
def bc9 : TM := .mk 80 wU 257 hI awp none (.ret (.tuple [wd (wk 3) (wk 4), .int .i64 0])) 263 hI
def beb : TM := .mk 129 wU 257 hI awp none (.ret (.bool true)) 262 hI
def a0f : TM := .mk 51 [hpp] 257 hI [] none (.ret (.sym .i64 (.rd (.s 5) (.c 0)) [])) 258 hI
def beg : TM := .mk 35 [hpp] 257 hI [] none (.ret (.sym .i64 (hfN (.s 5)) [])) 258 hI
def a8h : TM := .mk 12 cnU 257 hI [.mk false (hfN (.s 5)) (.rd (.s 5) (.c 0)) false] none cnV 265 [.mk 256 (hgh cnG)]
end
theorem atk {σ : Nat → List Int} (h : SAll σ awp) : SAll σ [.mk false (amq (.v 1)) (.c 1) true, .mk false (.v 1) (.c 2) true] := by
 obtain ⟨a, h⟩ := ofE h
 obtain ⟨b, _⟩ := ofE h
 exact aE b (aE a SAll.nil)
theorem avo [Gv] : bo bc8 := fun σ _ hA _ => @bij ⟨σ⟩ (atk hA)
theorem avp [Gv] : bo bc9 := fun σ _ hA _ => @bik ⟨σ⟩ (atk hA)
theorem awo [Gv] : bo beb := fun σ _ hA _ => @biu ⟨σ⟩ (atk hA)
theorem abo [Gv] : bo a0f := fun σ _ _ _ => @bis ⟨σ⟩
theorem awu [Gv] : bo beg := fun σ _ _ _ => @biz ⟨σ⟩
theorem alo [Gv] : bo a8h := fun σ _ hA _ => bil (of_decide_eq_false (hA _ (List.mem_singleton.2 rfl)))
end Go.Ev
set_option maxRecDepth 100000
set_option linter.all false
namespace Go.Ev
section
variable {σ : Nat → List Int}
theorem sall_cons {A : List SA} {x : SA} : SAll σ (x :: A) ↔ x.holds σ ∧ SAll σ A := by
 constructor
 ·exact fun h => ⟨h _ (by simp), fun y hy => h y (zA _ hy)⟩
 ·rintro ⟨h1, h2⟩ y hy
  rcases List.mem_cons.1 hy with rfl | hy
  ·exact h1
  ·exact h2 y hy
theorem ata {a b : SE} (h : a.eval σ < b.eval σ) : (SA.mk true a b true).holds σ := decide_eq_true h
theorem ow {a b : SE} (h : ¬ a.eval σ < b.eval σ) : (SA.mk true a b false).holds σ := decide_eq_false h
theorem zu {a b : SE} (h : ¬ a.eval σ = b.eval σ) : (SA.mk false a b false).holds σ := decide_eq_false h
theorem wy {a b : SE} (h : a.eval σ = b.eval σ) : (SA.mk false a b true).holds σ := decide_eq_true h
theorem sc {A : List SA} {x : SA} (h : x.holds σ) (h' : SAll σ A) : SAll σ (x :: A) := sall_cons.2 ⟨h, h'⟩
theorem sT {a b : SE} : (SA.mk true a b true).holds σ ↔ a.eval σ < b.eval σ := decide_eq_true_iff
theorem sF {a b : SE} : (SA.mk true a b false).holds σ ↔ b.eval σ ≤ a.eval σ := ⟨fun h => by have := of_decide_eq_false h; omega, fun h => ow (by omega)⟩
theorem sE {a b : SE} : (SA.mk false a b true).holds σ ↔ a.eval σ = b.eval σ := decide_eq_true_iff
theorem sN {a b : SE} : (SA.mk false a b false).holds σ ↔ ¬ a.eval σ = b.eval σ := decide_eq_false_iff_not
theorem ka {A B : List SA} (h : SAll σ A) (h' : SAll σ B) : SAll σ (A ++ B) := by
 intro x hx
 rcases List.mem_append.1 hx with hx | hx
 ·exact h x hx
 ·exact h' x hx
theorem cm {A B : List SA} (h : SAll σ (A ++ B)) : SAll σ A ∧ SAll σ B := ⟨fun x hx => h x (List.mem_append_left _ hx), fun x hx => h x (List.mem_append_right _ hx)⟩
end
theorem gl [Gv] (a b : SE) : (SA.mk true a b true).holds Gv.σ ∧ a.eval Gv.σ < b.eval Gv.σ ∨ (SA.mk true a b false).holds Gv.σ ∧ b.eval Gv.σ ≤ a.eval Gv.σ := by
 by_cases h : a.eval Gv.σ < b.eval Gv.σ
 ·exact .inl ⟨ata h, h⟩
 ·exact .inr ⟨ow h, by omega⟩
theorem gq [Gv] (a b : SE) : (SA.mk false a b true).holds Gv.σ ∧ a.eval Gv.σ = b.eval Gv.σ ∨ (SA.mk false a b false).holds Gv.σ ∧ ¬ a.eval Gv.σ = b.eval Gv.σ := by
 by_cases h : a.eval Gv.σ = b.eval Gv.σ
 ·exact .inl ⟨wy h, h⟩
 ·exact .inr ⟨zu h, h⟩
theorem bT [Gv] (a b : SE) (h : a.eval Gv.σ < b.eval Gv.σ) : (SA.mk true a b true).holds Gv.σ := ata h
theorem bF [Gv] (a b : SE) (h : b.eval Gv.σ ≤ a.eval Gv.σ) : (SA.mk true a b false).holds Gv.σ := ow (by omega)
theorem bE [Gv] (a b : SE) (h : a.eval Gv.σ = b.eval Gv.σ) : (SA.mk false a b true).holds Gv.σ := wy h
theorem bN [Gv] (a b : SE) (h : ¬ a.eval Gv.σ = b.eval Gv.σ) : (SA.mk false a b false).holds Gv.σ := zu h
theorem na {α : Type} {p : α → Prop} {a : α} (ha : p a) : ∀ t ∈ [a], p t := by
 intro t ht
 rw [List.mem_singleton] at ht
 rw [ht]; exact ha
noncomputable def hpN (l : List Int) : Int := am5 221 [l]
theorem evs : (∀ (σ : Nat → List Int) (i : Nat), (SE.v i).eval σ = (σ i).headD 0) ∧
  (∀ (σ : Nat → List Int) (n : Int), (SE.c n).eval σ = n) ∧
  (∀ (σ : Nat → List Int) (g : GE), (SE.len g).eval σ = ((g.eval σ).length : Int)) ∧
  (∀ (σ : Nat → List Int) (g : GE) (e : SE), (SE.rd g e).eval σ = (g.eval σ).getD (e.eval σ).toNat 0) ∧
  (∀ (σ : Nat → List Int) (g h : GE), (SE.eqg g h).eval σ = if g.eval σ = h.eval σ then 1 else 0) ∧
  (∀ (σ : Nat → List Int) (k : IntKind) (a b : SE), (SE.bin 0 k a b).eval σ = k.wrap (a.eval σ + b.eval σ)) ∧
  (∀ (σ : Nat → List Int) (k : IntKind) (a b : SE), (SE.bin 1 k a b).eval σ = k.wrap (a.eval σ - b.eval σ)) ∧
  (∀ (σ : Nat → List Int) (k : IntKind) (a b : SE), (SE.bin 2 k a b).eval σ = k.wrap (a.eval σ * b.eval σ)) ∧
  (∀ (σ : Nat → List Int) (k : IntKind) (a b : SE), (SE.bin 4 k a b).eval σ = (a.eval σ).tmod (b.eval σ)) ∧
  (∀ (σ : Nat → List Int) (k : IntKind) (a b : SE), (SE.bin 6 k a b).eval σ = a.eval σ + b.eval σ) ∧
  (∀ (σ : Nat → List Int) (k : IntKind) (a b : SE), (SE.bin 7 k a b).eval σ = a.eval σ * b.eval σ) ∧
  (∀ (σ : Nat → List Int) (i : Nat), (GE.s i).eval σ = σ i) ∧
  (∀ (σ : Nat → List Int), GE.nil.eval σ = []) ∧
  (∀ (σ : Nat → List Int) (e : SE), (GE.one e).eval σ = [e.eval σ]) ∧
  (∀ (σ : Nat → List Int) (g h : GE), (GE.cat g h).eval σ = g.eval σ ++ h.eval σ) ∧
  (∀ (σ : Nat → List Int) (g : GE), (SE.app 201 (.g g .nil)).eval σ = cq (g.eval σ)) ∧
  (∀ (σ : Nat → List Int) (g : GE), (SE.app 221 (.g g .nil)).eval σ = hpN (g.eval σ)) ∧
  (∀ (σ : Nat → List Int) (g : GE), (SE.app 202 (.g g .nil)).eval σ = gz (recs (g.eval σ).tail)) ∧
  (∀ (σ : Nat → List Int) (g : GE) (k n : SE), (SE.app 203 (.g g (.i k (.i n .nil)))).eval σ = m9 (g.eval σ) (k.eval σ) (n.eval σ)) ∧
  (∀ (σ : Nat → List Int) (g : GE) (n j : SE), (SE.app 204 (.g g (.i n (.i j .nil)))).eval σ = (obL (g.eval σ) (n.eval σ)).getD (j.eval σ).toNat 0) ∧
  (∀ (σ : Nat → List Int) (g r : GE), (GE.app 206 (.g g (.g r .nil))).eval σ = pj (g.eval σ) (r.eval σ)) ∧
  (∀ (σ : Nat → List Int) (l ws : GE) (i k n : SE), (GE.app 210 (.i i (.g l (.g ws (.i k (.i n .nil)))))).eval σ = (ol (i.eval σ) (l.eval σ) (ws.eval σ) (k.eval σ) (n.eval σ)).l) ∧
  (∀ (σ : Nat → List Int) (l ws : GE) (i k n : SE), (SE.app 211 (.i i (.g l (.g ws (.i k (.i n .nil)))))).eval σ = (ol (i.eval σ) (l.eval σ) (ws.eval σ) (k.eval σ) (n.eval σ)).k) ∧
  (∀ (σ : Nat → List Int) (l ws : GE) (i k n : SE), (SE.app 212 (.i i (.g l (.g ws (.i k (.i n .nil)))))).eval σ = (ol (i.eval σ) (l.eval σ) (ws.eval σ) (k.eval σ) (n.eval σ)).n) ∧
  (∀ (σ : Nat → List Int) (l : GE) (k n : SE), (SE.app 213 (.g l (.i k (.i n .nil)))).eval σ = jv (l.eval σ) (k.eval σ) (n.eval σ)) ∧
  (∀ (σ : Nat → List Int) (l : GE) (k n : SE), (GE.app 213 (.g l (.i k (.i n .nil)))).eval σ = ug (l.eval σ) (k.eval σ) (n.eval σ)) ∧
  (∀ (σ : Nat → List Int) (b i : SE), (GE.app 214 (.i b (.i i .nil))).eval σ = baa (b.eval σ) (i.eval σ)) ∧
  (∀ (σ : Nat → List Int) (b i : SE), (GE.app 215 (.i b (.i i .nil))).eval σ = seqR (b.eval σ) (i.eval σ)) ∧
  (∀ (σ : Nat → List Int) (r : GE) (v i : SE), (SE.app 217 (.g r (.i v (.i i .nil)))).eval σ = a3y (r.eval σ) (v.eval σ) (i.eval σ)) ∧
  (∀ (σ : Nat → List Int) (ws a b : GE) (i r p : SE), (SE.app 218 (.g ws (.i i (.g a (.g b (.i r (.i p .nil))))))).eval σ = (aac (ws.eval σ) (i.eval σ) (a.eval σ) (b.eval σ) (r.eval σ) (p.eval σ)).e) ∧
  (∀ (σ : Nat → List Int) (ws a b : GE) (i r p : SE), (SE.app 219 (.g ws (.i i (.g a (.g b (.i r (.i p .nil))))))).eval σ = (aac (ws.eval σ) (i.eval σ) (a.eval σ) (b.eval σ) (r.eval σ) (p.eval σ)).r) ∧
  (∀ (σ : Nat → List Int) (ws a b : GE) (i r p : SE), (SE.app 220 (.g ws (.i i (.g a (.g b (.i r (.i p .nil))))))).eval σ = (aac (ws.eval σ) (i.eval σ) (a.eval σ) (b.eval σ) (r.eval σ) (p.eval σ)).p) ∧
  (∀ (σ : Nat → List Int) (ws a b : GE) (i r p : SE), (GE.app 218 (.g ws (.i i (.g a (.g b (.i r (.i p .nil))))))).eval σ = (aac (ws.eval σ) (i.eval σ) (a.eval σ) (b.eval σ) (r.eval σ) (p.eval σ)).need) ∧
  (∀ (σ : Nat → List Int) (ws a b : GE) (i r p : SE), (GE.app 219 (.g ws (.i i (.g a (.g b (.i r (.i p .nil))))))).eval σ = (aac (ws.eval σ) (i.eval σ) (a.eval σ) (b.eval σ) (r.eval σ) (p.eval σ)).may) ∧
  (∀ (σ : Nat → List Int) (a b c : SE), (GE.app 220 (.i a (.i b (.i c .nil)))).eval σ = bj9 (a.eval σ) (b.eval σ) (c.eval σ)) :=
 ⟨by intros; rfl, by intros; rfl, by intros; rfl, by intros; rfl, by intros; rfl, by intros; rfl, by intros; rfl, by intros; rfl, by intros; rfl, by intros; rfl, by intros; rfl, by intros; rfl, by intros; rfl, by intros; rfl, by intros; rfl, by intros; rfl, by intros; rfl, by intros; rfl, by intros; rfl, by intros; rfl, by intros; rfl, by intros; rfl, by intros; rfl, by intros; rfl, by intros; rfl, by intros; rfl, by intros; rfl, by intros; rfl, by intros; rfl, by intros; rfl, by intros; rfl, by intros; rfl, by intros; rfl, by intros; rfl, by intros; rfl⟩
theorem aiw {x : Int} (h : -9223372036854775808 ≤ x ∧ x ≤ 9223372036854775807) : IntKind.i64.wrap x = x := by
 simp only [IntKind.wrap, IntKind.bits, IntKind.signed]; simp; omega
theorem wr : (∀ x : Int, -9223372036854775808 ≤ x ∧ x ≤ 9223372036854775807 → IntKind.i64.wrap x = x) ∧
  (∀ x : Int, x + 0 = x) ∧ (∀ x : Int, 0 + x = x) ∧ (∀ x : Int, -1 * x = -x) ∧ (∀ x y : Int, x + -y = x - y) ∧ (∀ x : Int, x - 1 + 1 = x) ∧ (∀ x : Int, ([x] : List Int).headD 0 = x) ∧ (∀ (α : Type) (a b : α), (if True then a else b) = a) ∧ (∀ (α : Type) (a b : α), (if False then a else b) = b) ∧ (¬True ↔ False) ∧ (¬False ↔ True) ∧
  (∀ p : Prop, (False ∧ p ↔ False)) ∧ (∀ p : Prop, (True ∧ p ↔ p)) ∧ (∀ p : Prop, (p ∧ False ↔ False)) ∧ (∀ p : Prop, (p ∧ True ↔ p)) ∧ (∀ p : Prop, (p ∨ True ↔ True)) ∧ (∀ p : Prop, (p ∨ False ↔ p)) ∧ (∀ p : Prop, (True ∨ p ↔ True)) ∧ (∀ p : Prop, (False ∨ p ↔ p)) ∧ (∀ p : Prop, ((True → p) ↔ p)) ∧ (∀ p : Prop, ((False → p) ↔ True)) ∧ (∀ x : Int, x + 1 + 1 = x + 2) :=
 ⟨fun _ h => aiw h, Int.add_zero, Int.zero_add, fun x => (Int.neg_eq_neg_one_mul x).symm, fun _ _ => Int.sub_eq_add_neg.symm, by omega, fun _ => rfl, fun _ _ _ => if_pos trivial, fun _ _ _ => if_neg id, by simp, by simp, by simp, by simp, by simp, by simp, by simp, by simp, by simp, by simp, by simp, by simp, by omega⟩
open Classical in
theorem ite1 {p : Prop} : (if p then (1 : Int) else 0) = 1 ↔ p := by
 by_cases h : p
 ·rw [if_pos h]; exact ⟨fun _ => h, fun _ => rfl⟩
 ·rw [if_neg h]; exact ⟨fun e => absurd e (by decide), fun e => absurd e h⟩
open Classical in
theorem s221 {σ : Nat → List Int} {g : GE} : (SE.app 221 (.g g .nil)).eval σ = 1 ↔ km (g.eval σ) := by
 show am5 221 [g.eval σ] = 1 ↔ _
 exact ite1
theorem ap9 {l : List Int} (h : km l) : hpN l = 1 := (s221 (σ := fun _ => l) (g := .s 0)).2 h
theorem qz {l r : List Int} (h : km l) : recs (pj l r).tail = recs l.tail ++ [r] := by
 obtain ⟨lim, L, rfl, _⟩ := h
 show recs (ff L ++ (r.length : Int) :: r) = recs (ff L) ++ [r]
 rw [← qc, il, il]
theorem ahk {l r : List Int} (h : km l) : cq (pj l r) = cq l + 1 := by
 unfold cq
 rw [qz h, zP]; rfl
theorem am6 {l r : List Int} (h : km l) : (pj l r).getD (0 : Int).toNat 0 = l.getD (0 : Int).toNat 0 := by
 obtain ⟨lim, L, rfl, _⟩ := h; rfl
theorem atb {l r : List Int} (h : km l) (hr : zc r = 0) (hm : cq l < l.getD (0 : Int).toNat 0) : km (pj l r) := by
 obtain ⟨lim, L, rfl, h1, h2, h3, h4⟩ := h
 refine ⟨lim, L ++ [r], ?_, h1, h2, ?_, ?_⟩
 ·show lim :: ff L ++ (r.length : Int) :: r = _
  rw [qc]; rfl
 ·have hm : ((recs (ff L)).length : Int) < lim := hm
  rw [il] at hm
  rw [zP]; show ((L.length + 1 : Nat) : Int) ≤ _; omega
 ·rw [vi, hr]; omega
theorem oz {l : List Int} (h : km l) : 1 ≤ l.getD (0 : Int).toNat 0 ∧ l.getD (0 : Int).toNat 0 ≤ 50000 ∧ 0 ≤ cq l ∧ cq l ≤ l.getD (0 : Int).toNat 0 := by
 obtain ⟨lim, L, rfl, h1, h2, h3, h4⟩ := h
 refine ⟨h1, h2, Int.natCast_nonneg _, ?_⟩
 show ((recs (ff L)).length : Int) ≤ lim
 rw [il]; exact h3
theorem ba3 (l ws : List Int) (k n i : Int) (h : -1 ≤ i) : ol (i + 1) l ws k n = if i < 0 then ⟨l, k, n⟩ else ol i (pj l [2, ws.getD (2 * i).toNat 0, ws.getD (2 * i + 1).toNat 0, k, n]) ws 2 (cq l) := by
 split
 ·rw [show i + 1 = 0 by omega]; rfl
 ·obtain ⟨j, rfl⟩ : ∃ j : Nat, i = (j : Int) := ⟨i.toNat, by omega⟩
  unfold ol
  rw [show ((j : Int) + 1).toNat = j + 1 by omega, show ((j : Int)).toNat = j by omega, show (2 * (j : Int)).toNat = 2 * j by omega, show (2 * (j : Int) + 1).toNat = 2 * j + 1 by omega]
  rfl
theorem aqw : ∀ (f : Nat) (l : List Int) (k n : Int) (w : List Int), li f l k n = some w → li (f + 1) l k n = some w
 | 0, _, _, _, _, h => by simp [li] at h
 | f + 1, l, k, n, w, h => by
   unfold li at h ⊢
   split
   ·rename_i hc
    rw [if_pos hc] at h
    cases hq : li f l ((obL l n).getD 3 0) ((obL l n).getD 4 0) with
    | none => rw [hq] at h; cases h
    | some w' => rw [hq] at h; rw [aqw f l _ _ w' hq]; exact h
   ·rename_i hc
    rw [if_neg hc] at h; exact h
theorem aqv : ∀ (f : Nat) (l : List Int) (k n : Int) (w : List Int), li f l k n = some w → ∃ m : Nat, w.length = 2 * m
 | 0, _, _, _, _, h => by simp [li] at h
 | f + 1, l, k, n, w, h => by
   unfold li at h
   split at h
   ·cases hq : li f l ((obL l n).getD 3 0) ((obL l n).getD 4 0) with
    | none => rw [hq] at h; cases h
    | some w' =>
      rw [hq] at h
      injection h with h
      obtain ⟨m, hm⟩ := aqv f l _ _ w' hq
      exact ⟨m + 1, by rw [← h]; simp only [zO, hm]; omega⟩
   ·split at h
    ·injection h with h; exact ⟨0, by rw [← h]; rfl⟩
    ·cases h
theorem a4s (l : List Int) (k n : Int) (h : 0 ≤ jv l k n) :
  (k = 2 ∧ m9 l 2 n = 1 ∧ jv l k n = jv l ((obL l n).getD 3 0) ((obL l n).getD 4 0) + 1 ∧ 0 ≤ jv l ((obL l n).getD 3 0) ((obL l n).getD 4 0) ∧ ug l k n = (obL l n).getD 1 0 :: (obL l n).getD 2 0 :: ug l ((obL l n).getD 3 0) ((obL l n).getD 4 0)) ∨
  (k = 1 ∧ n = 0 ∧ jv l k n = 0 ∧ ug l k n = []) := by
 unfold jv at h
 cases hq : li ((recs l.tail).length + 1) l k n with
 | none => rw [hq] at h; simp at h
 | some w =>
   have hq' := hq
   unfold li at hq'
   split at hq'
   ·rename_i hc
    cases hr : li ((recs l.tail).length) l ((obL l n).getD 3 0) ((obL l n).getD 4 0) with
    | none => rw [hr] at hq'; cases hq'
    | some w' =>
      rw [hr] at hq'
      injection hq' with hq'
      have hm := aqw _ _ _ _ _ hr
      refine .inl ⟨hc.1, hc.2, ?_, ?_, ?_⟩
      ·unfold jv; rw [hq, hm, ← hq']; simp only [zO]; omega
      ·unfold jv; rw [hm]; show (0 : Int) ≤ (w'.length : Int) / 2; omega
      ·unfold ug; rw [hq, hm, ← hq']; rfl
   ·split at hq'
    ·rename_i hc
     injection hq' with hq'
     refine .inr ⟨hc.1, hc.2, ?_, ?_⟩
     ·unfold jv; rw [hq, ← hq']; rfl
     ·unfold ug; rw [hq, ← hq']; rfl
    ·cases hq'
theorem a4r (l : List Int) (k n : Int) (h : 0 ≤ jv l k n) :
  (k = 2 ∧ m9 l k n = 1 ∧ jv l k n = jv l ((obL l n).getD (3 : Int).toNat 0) ((obL l n).getD (4 : Int).toNat 0) + 1 ∧ 0 ≤ jv l ((obL l n).getD (3 : Int).toNat 0) ((obL l n).getD (4 : Int).toNat 0)) ∨
  (k = 1 ∧ n = 0 ∧ jv l k n = 0) := by
 rcases a4s l k n h with ⟨a, b, c, d, _⟩ | ⟨a, b, c, _⟩
 ·exact .inl ⟨a, by rw [a]; exact b, c, d⟩
 ·exact .inr ⟨a, b, c⟩
theorem awt (l : List Int) (k n : Int) (h : 0 ≤ jv l k n) :
  ug l k n = if k = 2 then (obL l n).getD (1 : Int).toNat 0 :: (obL l n).getD (2 : Int).toNat 0 :: ug l ((obL l n).getD (3 : Int).toNat 0) ((obL l n).getD (4 : Int).toNat 0) else [] := by
 rcases a4s l k n h with ⟨a, b, c, d, e⟩ | ⟨a, b, c, e⟩
 ·rw [if_pos a]; exact e
 ·rw [if_neg (by omega)]; exact e
theorem a9i (l : List Int) (k n : Int) (h : 0 ≤ jv l k n) : ((ug l k n).length : Int) = 2 * jv l k n := by
 unfold jv at h ⊢
 unfold ug
 cases hq : li ((recs l.tail).length + 1) l k n with
 | none => rw [hq] at h; simp at h
 | some w =>
   obtain ⟨m, hm⟩ := aqv _ _ _ _ _ hq
   show (w.length : Int) = 2 * ((w.length : Int) / 2)
   rw [hm]; omega
end Go.Ev
