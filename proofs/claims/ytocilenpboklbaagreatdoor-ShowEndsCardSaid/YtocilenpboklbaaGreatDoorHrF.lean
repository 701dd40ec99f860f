import Derived.Test.YtocilenpboklbaaGreatDoorHsC
set_option maxRecDepth 100000
set_option linter.all false
namespace Go.Ev
section
variable [Gv]
theorem bc6 (hA : SAll Gv.σ [.mk false (tq (.v 1)) (.c 1) true, .mk false (.v 1) (.c 2) true]) :
  di 96 [hpp, wd (.v 1) (.v 2)] 257 [.mk 256 (hgh (.s 5))] (.ret (.bool true)) 262 [.mk 256 (hgh (.s 5))] := by
 obtain ⟨h1, hA⟩ := ofE hA
 obtain ⟨h2, _⟩ := ofE hA
 have h1 : (tq (.v 1)).eval Gv.σ = 1 := h1
 have h2 : (SE.v 1).eval Gv.σ = 2 := h2
 have hl : iq ((GE.s 5).eval Gv.σ) 2 ((SE.v 2).eval Gv.σ) = 1 := by rw [← h2]; exact h1
 refine yx (g := .s 5) (g' := .s 5) (n := .v 2) (a := wk 1) (b := wk 2) (c := wk 3) (d := wk 4) (Lr := []) (Lo := []) (by omega) (by omega) (by omega) (fun n o h => by cases h) (fun n o h => by cases h) hl acp fun lim L e hok => ?_
 exact ej (n := 2000) (T := []) (E := .nil) c9 d7 (yw e hok h1 h2) trivial rfl rfl (by kernel_rfl)
end
noncomputable def afb : TM := .mk 96 wU 257 hI ain none (.ret (.bool true)) 262 hI
theorem v8 [Gv] : cy afb := fun σ _ hA _ => @bc6 ⟨σ⟩ (adu hA)
end Go.Ev
set_option maxRecDepth 100000
set_option linter.all false
namespace Go.Ev
theorem aw9 {n' : Nat} {o' : LO} : ∀ {los : List LO} {n : Nat}, HO.mk n' o' ∈ mkL n los → n ≤ n' ∧ n' < n + los.length
 | [], _, h => by cases h
 | _ :: l, n, h => by
   rcases List.mem_cons.1 h with h | h
   ·injection h with h _; simp only [zO]; omega
   ·have := aw9 h; simp only [zO]; omega
section
variable [Gv]
def amh (ρ : Env) (nxi : Nat) (bs : List (Nat × Nat)) : Prop := ∀ (j : Nat) (h : j < bs.length), ρ (K.of (nxi + j)) = some bs[j].1 ∧ ρ.sz (K.of (nxi + j)) = bs[j].2
def av4 (nxi : Nat) (los : List LO) (r : List Int) : Prop := ∀ (o v : Nat) (H : Array Obj), px r o v H → ∃ bs : List (Nat × Nat), bs.length = los.length ∧ (∀ (h : 0 < bs.length), bs[0].1 = o) ∧ (∀ p ∈ bs, p.1 = o ∨ p.1 = v) ∧
 (∀ (a b : Nat) (h : a < bs.length) (h' : b < bs.length), bs[a].1 = bs[b].1 → a = b) ∧ (∀ p ∈ bs, ∀ arr t fz, H[p.1]? = some (.cells arr t fz) → arr.size = p.2) ∧
 (∀ ρ : Env, amh ρ nxi bs → ∀ (j : Nat) (h : j < los.length) (h' : j < bs.length), ORel ρ (bu los[j]) H[bs[j].1]?) ∧
 (∀ (ρ : Env) (H' : Array Obj), amh ρ nxi bs → (∀ p ∈ bs, ∀ arr t fz, H'[p.1]? = some (.cells arr t fz) → arr.size = p.2) → (∀ (j : Nat) (h : j < los.length) (h' : j < bs.length), ORel ρ (bu los[j]) H'[bs[j].1]?) → px r o v H')
set_option maxHeartbeats 2000000 in
theorem a3i {f nxi nxo : Nat} {g : GE} {n : SE} {t : TypeId} {kd : Int} {los : List LO} {us : List AV} {Lr Lo : List HO} {r : TR} (hi : 257 ≤ nxi) (hx : nxi + 1 + los.length ≤ 65535) (hp : 0 < los.length) (hL : agp nxi Lr)
  (hK : atg nxi (1 + los.length) Lr (.mk nxi (hfO g n t (nxi + 1)) :: mkL (nxi + 1) los) Lo) (hl0 : ∀ o ∈ los, bi (bu o) = none)
  (hkd : (kd = 2 ∧ t = 86) ∨ (kd = 3 ∧ t = 121) ∨ (kd = 4 ∧ t = 101)) (hlive : iq (g.eval Gv.σ) kd (n.eval Gv.σ) = 1)
  (ho : ∀ lim L (i : Nat) (hi : i < L.length), g.eval Gv.σ = lim :: d6 L → n.eval Gv.σ = (i : Int) → L[i].getD 0 0 = kd → av4 (nxi + 1) los L[i])
  (hf : ∀ lim L, g.eval Gv.σ = lim :: d6 L → im lim L → di f us (nxi + 1 + los.length) (.mk 256 (hfS g nxi) :: .mk nxi (hfO g n t (nxi + 1)) :: (mkL (nxi + 1) los ++ Lr)) r nxo (.mk 256 (hfS g nxi) :: .mk nxi (hfO g n t (nxi + 1)) :: (mkL (nxi + 1) los ++ Lo))) :
  di f us nxi (.mk 256 (.gob (.lh 2 g)) :: Lr) r nxo (.mk 256 (.gob (.lh 2 g)) :: Lo) := by
 intro ρ args w hg hw hc hv
 have hk0 : aa (K.of 256) (ag (.mk 256 (.gob (.lh 2 g)) :: Lr) nxi).h ≠ .none := by
  show aa _ (ab _) ≠ _
  rw [af, if_pos rfl]; exact c7 _
 have hg0 : bi (aa (K.of 256) (ag (.mk 256 (.gob (.lh 2 g)) :: Lr) nxi).h) = some (2, g) := by
  show bi (aa _ (ab _)) = _
  rw [af, if_pos rfl]; rfl
 obtain ⟨c0, hc0, _⟩ := hw.dom _ hk0
 have q := hw.gho _ 2 g hg0
 rcases q.rel c0 hc0 with ⟨h1, _⟩ | ⟨_, hF⟩
 ·cases h1
 obtain ⟨lim, L, e, hok, hF⟩ := hF
 obtain ⟨i, hil, hn, hkind⟩ := afs e hlive
 rcases hF with ⟨h0, _⟩ | ⟨os, bb, arr, fz, cap, hFF, s1, s2, s3, s4, s5, s6, s7, s8, s9, s10, s11⟩
 ·subst h0; simp at hil
 obtain ⟨hos, hobj⟩ := pf s4
 have hio : i < os.length := by omega
 have hoi := hobj i hil hio
 have ob := agy hio
 obtain ⟨bs2, z1, z2, z3, z4, z5, z6, z7⟩ := ho lim L i hil e hn hkind _ _ _ hoi
 have in2 : ∀ p ∈ bs2, j7 os p.1 := fun p hp => by
  rcases z3 p hp with z | z
  ·rw [z]; exact ob.1
  ·rw [z]; exact ob.2
 have ft : ∀ x, ρ.ft (K.of 256) x ↔ x = c0 ∨ x = bb ∨ j7 os x := fun x => by rw [hFF]
 have nK : ∀ j, j < 1 + los.length → (K.of (nxi + j)).num = nxi + j := fun j h => bw (by omega)
 have nK0 : (K.of nxi).num = nxi := nK 0 (by omega)
 let bs : List (Nat × Nat) := (bb, arr.size) :: bs2
 have B0 : dh nxi bs (K.of nxi) = some (bb, arr.size) := by
  unfold dh
  rw [nK0, if_pos (zY _), Nat.sub_self]; rfl
 have Bj : ∀ (j : Nat) (h : j < bs2.length), dh nxi bs (K.of (nxi + 1 + j)) = some bs2[j] := by
  intro j h
  unfold dh
  rw [show nxi + 1 + j = nxi + (1 + j) by omega, nK (1 + j) (by omega), if_pos (by omega), show nxi + (1 + j) - nxi = j + 1 by omega]
  show (bs2)[j]? = _
  exact zK h
 have KA : amh (ji ρ (dh nxi bs)) (nxi + 1) bs2 := fun j h => c8 (Bj j h)
 have hO : GhOpen (K.of 256) (dh nxi bs) 2 g ρ (ag (.mk 256 (.gob (.lh 2 g)) :: Lr) nxi) w c0 (ag (.mk 256 (hfS g nxi) :: (mkL nxi (hfO g n t (nxi + 1) :: los) ++ Lr)) (nxi + (hfO g n t (nxi + 1) :: los).length)) := by
  refine q9 (bs := bs) (los := hfO g n t (nxi + 1) :: los) hi (by simp only [zO]; omega) (by simp only [bs, zO, z1]) hL rfl rfl ?_ hc0 ?_ ?_ ?_
  ·intro o ho
   rcases List.mem_cons.1 ho with rfl | ho
   ·rfl
   ·exact hl0 o ho
  ·intro j h h'
   match j, h, h' with
   | 0, _, _ =>
     refine ⟨(ft _).2 (.inr (.inl rfl)), s1, ?_, ?_⟩
     ·intro a' t' f' hh
      have hh : w.heap[bb]? = _ := hh
      rw [s7] at hh; injection hh with hh; injection hh with e1 _ _; rw [← e1]; rfl
     ·have k1 : ji ρ (dh nxi bs) (K.of (nxi + 1)) = some os[i].1 := by
       have := (KA 0 (by omega)).1
       rw [Nat.add_zero, z2 (by omega)] at this; exact this
      refine a3j e hil hn s7 s8 s9 s10 s11 hos ?_ ?_ k1
      ·rcases hkd with ⟨a, b⟩ | ⟨a, b⟩ | ⟨a, b⟩ <;> subst b <;> unfold dq <;> rw [hkind, a] <;> simp <;> omega
      ·rcases hkd with ⟨a, b⟩ | ⟨a, b⟩ | ⟨a, b⟩ <;> unfold dq <;> rw [hkind, a] <;> simp <;> omega
   | j + 1, h, h' =>
     have hj : j < bs2.length := by simpa [bs] using h'
     have hj' : j < los.length := by omega
     have hm : bs2[j] ∈ bs2 := List.getElem_mem hj
     have hb := in2 _ hm
     refine ⟨(ft _).2 (.inr (.inr hb)), fun z => s2 (by rw [← z]; exact hb), z5 _ hm, z6 _ KA j hj' hj⟩
  ·intro x y h h' hxy
   have nb : ∀ (j : Nat) (h : j < bs2.length), bb ≠ bs2[j].1 := fun j h z => s3 (by rw [z]; exact in2 _ (List.getElem_mem h))
   match x, y, h, h' with
   | 0, 0, _, _ => rfl
   | 0, y + 1, _, h' => exact absurd hxy (nb y (by simpa [bs] using h'))
   | x + 1, 0, h, _ => exact absurd hxy.symm (nb x (by simpa [bs] using h))
   | x + 1, y + 1, h, h' => rw [z4 x y (by simpa [bs] using h) (by simpa [bs] using h') hxy]
  ·exact ab5 e s5 (c8 B0).1 (by rw [(c8 B0).2]; exact s10) s9
 have base : ∀ ρ2 w' , Adv (ji ρ (dh nxi bs)) (ag (.mk 256 (hfS g nxi) :: (mkL nxi (hfO g n t (nxi + 1) :: los) ++ Lr)) (nxi + (hfO g n t (nxi + 1) :: los).length)) w ρ2 (ag (.mk 256 (hfS g nxi) :: (mkL nxi (hfO g n t (nxi + 1) :: los) ++ Lo)) nxo) w' → aq0 (g.eval Gv.σ) c0 (ρ.ft (K.of 256)) w'.heap := by
  intro ρ2 w' hA
  have n256 : (K.of 256).num = 256 := bw (by omega)
  have kn : ∀ j, j < 1 + los.length → K.of (nxi + j) ≠ K.of 256 := by intro j hj z; have := congrArg K.num z; rw [n256, nK j hj] at this; omega
  have at2 : ∀ l c, ji ρ (dh nxi bs) l = some c → ρ2 l = some c := fun l c x => (hA.le l c x).1
  have k0 : ρ2 (K.of 256) = some c0 := at2 _ _ (by rw [(ee hO.kr0).1]; exact hc0)
  have k1 : ρ2 (K.of nxi) = some bb := at2 _ _ (c8 B0).1
  have z1' : ρ2.sz (K.of nxi) = arr.size := ((hA.le _ _ (c8 B0).1).2).trans (c8 B0).2
  have KA2 : amh ρ2 (nxi + 1) bs2 := fun j h => ⟨at2 _ _ (KA j h).1, ((hA.le _ _ (KA j h).1).2).trans (KA j h).2⟩
  have Bin : ∀ k x m, dh nxi bs k = some (x, m) → x = bb ∨ x = os[i].1 ∨ x = os[i].2 := by
   intro k x m h
   unfold dh at h
   split at h
   ·have := List.mem_of_getElem? h
    rcases List.mem_cons.1 this with z | z
    ·injection z with z1 z2; exact .inl z1
    ·exact .inr (z3 _ z)
   ·cases h
  have fr : ∀ x, j7 os x → x ≠ os[i].1 → x ≠ os[i].2 → w'.heap[x]? = w.heap[x]? := by
   intro x hx hne hne2
   refine hO.frame hw hc hA ((ft x).2 (.inr (.inr hx))) (fun z => s2 (by rw [← z]; exact hx)) fun k m h => ?_
   rcases Bin k x m h with z | z | z
   ·exact absurd hx (by rw [z]; exact s3)
   ·exact absurd z hne
   ·exact absurd z hne2
  have fb : w'.heap[bb]? = w.heap[bb]? := by
   refine hO.frame hw hc hA ((ft bb).2 (.inr (.inl rfl))) s1 fun k m h => ?_
   have := hO.inj k (K.of nxi) bb m arr.size h B0
   subst this
   show (aa _ (ab (.mk 256 (hfS g nxi) :: .mk nxi (hfO g n t (nxi + 1)) :: (mkL (nxi + 1) los ++ Lr)))).isRo = true
   rw [af, if_neg (show K.of nxi ≠ K.of 256 from kn 0 (by omega)), af, if_pos rfl]; rfl
  obtain ⟨x0, y0, o0⟩ := hA.rel.dom (K.of 256) (by show aa _ (ab _) ≠ _; rw [af, if_pos rfl]; exact c7 _)
  rw [k0] at y0
  obtain rfl := Option.some.inj y0
  have o0 : ORel ρ2 (aa (K.of 256) (ab (.mk 256 (hfS g nxi) :: (mkL nxi (hfO g n t (nxi + 1) :: los) ++ Lo)))) w'.heap[c0]? := o0
  rw [af, if_pos rfl] at o0
  obtain ⟨arr0, fz0, hx0, hf0, hv0⟩ := (dx (by simp)).1 o0
  simp only [VRels] at hv0
  obtain ⟨v1, t1, q1, r1, v2, t2, q2, r2, v3, t3, q3, r3, v4, t4, q4, r4, v5, t5, q5, r5, q6⟩ := hv0
  have r1 := bv r1
  have r2 := bv r2
  have r3 := bv r3
  rw [gc g e] at r1
  rw [ce g e] at r2
  rw [ix g e] at r3
  simp only [VRel] at r4 r5
  obtain ⟨_, cc, cap', w1, w2, w3, w4, w5⟩ := r4
  rw [k1] at w1
  obtain rfl := Option.some.inj w1
  rw [ce g e] at w2 w3 w5
  rw [z1'] at w4
  rw [Int.toNat_natCast] at w5
  have hob : px L[i] os[i].1 os[i].2 w'.heap := by
   have hgt : ∀ (j : Nat) (h : j < los.length), aa (K.of (nxi + 1 + j)) (ab (.mk 256 (hfS g nxi) :: (mkL nxi (hfO g n t (nxi + 1) :: los) ++ Lo))) = bu los[j] := by
    intro j h
    have hne := kn (1 + j) (by omega)
    have hnum := nK (1 + j) (by omega)
    rw [show nxi + (1 + j) = nxi + 1 + j by omega] at hne hnum
    rw [af, if_neg hne, aic _ _ _ _ (by simp only [zO]; omega)]
    have : dh nxi (hfO g n t (nxi + 1) :: los) (K.of (nxi + 1 + j)) = some los[j] := by
     unfold dh
     rw [hnum, if_pos (by omega), show nxi + 1 + j - nxi = j + 1 by omega]
     show los[j]? = _
     exact zK h
    rw [this]
   have hlv : ∀ (j : Nat) (h : j < los.length), aa (K.of (nxi + 1 + j)) (ag (.mk 256 (hfS g nxi) :: (mkL nxi (hfO g n t (nxi + 1) :: los) ++ Lo)) nxo).h ≠ .none := fun j h => by show aa _ (ab _) ≠ _; rw [hgt j h]; exact c7 _
   refine z7 ρ2 _ KA2 (fun p hp arr t fz hh => ?_) fun j h h' => ?_
   ·obtain ⟨j, hj, rfl⟩ := List.getElem_of_mem hp
    rw [← (KA2 j hj).2]
    exact hA.rel.len _ _ arr t fz (hlv j (by omega)) (KA2 j hj).1 hh
   obtain ⟨x1, y1, o1⟩ := hA.rel.dom (K.of (nxi + 1 + j)) (hlv j h)
   rw [(KA2 j h').1] at y1
   obtain rfl := Option.some.inj y1
   have o1 : ORel ρ2 (aa (K.of (nxi + 1 + j)) (ab (.mk 256 (hfS g nxi) :: (mkL nxi (hfO g n t (nxi + 1) :: los) ++ Lo)))) w'.heap[bs2[j].1]? := o1
   rw [hgt j h] at o1
   exact o1
  have dg := xw hil hio s4 hob fr
  rw [List.set_getElem_self] at dg
  exact ⟨lim, L, e, hok, .inr ⟨os, bb, arr, fz, cap', hFF, s1, s2, s3, dg, ⟨arr0, fz0, hx0, by rw [q1, q2, q3, q4, q5, q6, r1, r2, r3, w5, r5], hf0⟩, s6, by rw [fb]; exact s7, s8, by omega, by omega, s11⟩⟩
 have fin : ∀ ρ2 w' , Adv (ji ρ (dh nxi bs)) (ag (.mk 256 (hfS g nxi) :: (mkL nxi (hfO g n t (nxi + 1) :: los) ++ Lr)) (nxi + (hfO g n t (nxi + 1) :: los).length)) w ρ2 (ag (.mk 256 (hfS g nxi) :: (mkL nxi (hfO g n t (nxi + 1) :: los) ++ Lo)) nxo) w' → ∃ ρ3, Adv ρ (ag (.mk 256 (.gob (.lh 2 g)) :: Lr) nxi) w ρ3 (ag (.mk 256 (.gob (.lh 2 g)) :: Lo) nxo) w' ∧ ρ2.le ρ3 := by
  intro ρ2 w' hA
  refine vq (F' := ρ.ft (K.of 256)) (bs := bs) (los := hfO g n t (nxi + 1) :: los) (outS := mkL nxi (hfO g n t (nxi + 1) :: los)) hi (by simp only [zO]; omega) (by simp only [bs, zO, z1]) hO hw hc hA rfl ?_ ?_ (q.root c0 hc0) (.inr ⟨rfl, base ρ2 w' hA⟩) fun c h => .inl h
  ·intro n' o' hm
   have : nxi ≤ n' ∧ n' < nxi + (hfO g n t (nxi + 1) :: los).length := aw9 hm
   simp only [zO] at this
   omega
  ·rw [show (hfO g n t (nxi + 1) :: los).length = 1 + los.length by simp only [zO]; omega]; exact hK
 have e1 : nxi + (hfO g n t (nxi + 1) :: los).length = nxi + 1 + los.length := by simp only [zO]; omega
 have run := hf lim L e hok (ji ρ (dh nxi bs)) args w (hO.grel hc hg (by show 256 ≤ (K.of nxi).num; omega)) (by rw [← e1]; exact hO.rel hw hc) (by rw [← e1]; exact hO.clean hc) (VRels.mono (hO.le hc) _ _ hv)
 rw [← e1] at run
 refine Calls.mono run fun e w' hp => ?_
 cases r with
 | ret v =>
   obtain ⟨v', ρ2, e1, e2, hA⟩ := hp
   obtain ⟨ρ3, hA3, hle⟩ := fin ρ2 w' hA
   exact ⟨v', ρ3, e1, e2.mono hle, hA3⟩
 | pan ch =>
   obtain ⟨ch', ρ2, e1, e2, hA⟩ := hp
   obtain ⟨ρ3, hA3, hle⟩ := fin ρ2 w' hA
   exact ⟨ch', ρ3, e1, e2.mono hle, hA3⟩
end
end Go.Ev
set_option maxRecDepth 100000
set_option linter.all false
namespace Go.Ev
noncomputable section
def vcN (g : GE) (n : SE) : SE := .app 236 (.g g (.i n .nil))
def vcG (g : GE) (n : SE) : GE := .app 208 (.g g (.i n .nil))
def hfV (m : SE) (kw : Nat) : LO := .cells 103 false 0 0 [.gv (.sl (K.of kw) 2 m [])]
def hfY (m : SE) (ws : GE) : LO := .gob (.gh 29 [.i64, .i64] m ws)
end
section
variable [Gv]
theorem aav {ρ : Env} {m : SE} {ws : GE} {x : Option Obj} {n : Nat} (hm : m.eval Gv.σ = (n : Int)) (hl : (ws.eval Gv.σ).length = 2 * n) :
  ORel ρ (bu (hfY m ws)) x ↔ ∃ arr fz, x = some (.cells arr 29 fz) ∧ fz.2 ≤ fz.1 ∧ 2 * n ≤ arr.size ∧ arr.toList.take (2 * n) = (ws.eval Gv.σ).map aif := by
 have ks : ∀ i k, [IntKind.i64, .i64][i % 2]? = some k ↔ k = .i64 := by
  intro i k
  have : i % 2 = 0 ∨ i % 2 = 1 := by omega
  rcases this with z | z <;> rw [z] <;> simp <;> exact eq_comm
 constructor
 ·rintro ⟨arr, fz, e1, e2, e3, e4, e5, _, e6⟩
  refine ⟨arr, fz, e1, e2, by omega, ?_⟩
  apply List.ext_getElem?
  intro i
  by_cases hi : i < 2 * n
  ·obtain ⟨k, k1, k2⟩ := e6 i (by omega)
   rw [(ks i k).1 k1] at k2
   rw [List.getElem?_take_of_lt hi, Array.getElem?_toList, k2, List.getElem?_map, zK (by omega)]
   rfl
  ·rw [List.getElem?_eq_none (by simp; omega), List.getElem?_eq_none (by simp; omega)]
 ·rintro ⟨arr, fz, e1, e2, e3, e4⟩
  refine ⟨arr, fz, e1, e2, by rw [hm]; omega, by rw [hl, hm]; show 2 * n = 2 * ((n : Int)).toNat; omega, by omega, (fun h => by simp at h), fun i hi => ⟨.i64, (ks i _).2 rfl, ?_⟩⟩
  have h1 : (arr.toList.take (2 * n))[i]? = arr.toList[i]? := List.getElem?_take_of_lt (by omega)
  rw [e4] at h1
  rw [← Array.getElem?_toList, ← h1, List.getElem?_map, zK hi]
  rfl
theorem axs {g : GE} {n : SE} {lim : Int} {L : List (List Int)} (e : g.eval Gv.σ = lim :: d6 L) {i : Nat} (hi : i < L.length) (hn : n.eval Gv.σ = (i : Int)) : (vcN g n).eval Gv.σ = ((L[i].length : Int) - 1) / 2 ∧ (vcG g n).eval Gv.σ = L[i].tail := by
 constructor
 ·show (((obL (g.eval Gv.σ) ([n.eval Gv.σ].headD 0)).length : Int) - 1) / 2 = _
  rw [List.headD_cons, hn, ach e hi]
 ·show (obL (g.eval Gv.σ) ([n.eval Gv.σ].headD 0)).tail = _
  rw [List.headD_cons, hn, ach e hi]
theorem as2 {g : GE} {n : SE} {nxi : Nat} {lim : Int} {L : List (List Int)} (e : g.eval Gv.σ = lim :: d6 L) {i : Nat} (hi : i < L.length) (hn : n.eval Gv.σ = (i : Int)) (hk : L[i].getD 0 0 = 4) (hl : 1 < L[i].length) :
  av4 nxi [hfV (vcN g n) (nxi + 1), hfY (vcN g n) (vcG g n)] L[i] := by
 intro o v H h
 rcases h with ⟨a, b, c, d, arr, fz, hr, _⟩ | ⟨bs, arr, fz, hr, _⟩ | ⟨ws, arr, fz, m, s, cap, hr, hw, hx, ha, hf, hv⟩
 ·rw [hr] at hk; simp at hk
 ·rw [hr] at hk; simp at hk
 have hlen : L[i].length = 2 * m + 1 := by rw [hr, zO, hw]
 rcases hv with ⟨h0, _⟩ | ⟨hm, hs, hc, hne, arr2, fz2, hx2, hf2, hsz, hts⟩
 ·omega
 obtain ⟨e1, e2⟩ := axs e hi hn
 have eN : (vcN g n).eval Gv.σ = (m : Int) := by rw [e1, hlen]; omega
 have eG : (vcG g n).eval Gv.σ = ws := by rw [e2, hr]; rfl
 have eL : ((vcG g n).eval Gv.σ).length = 2 * m := by rw [eG, hw]
 have ssz : arr.size = 1 := by rw [← Array.length_toList, ha]; rfl
 refine ⟨[(o, 1), (v, arr2.size)], rfl, fun _ => rfl, ?_, ?_, ?_, ?_, ?_⟩
 ·intro p hp
  rcases List.mem_cons.1 hp with rfl | hp
  ·exact .inl rfl
  ·rw [List.mem_singleton] at hp; subst hp; exact .inr rfl
 ·intro a b h h' q
  match a, b, h, h' with
  | 0, 0, _, _ => rfl
  | 0, 1, _, _ => exact absurd q.symm hne
  | 1, 0, _, _ => exact absurd q hne
  | 1, 1, _, _ => rfl
 ·intro p hp arr' t fz' hh
  rcases List.mem_cons.1 hp with rfl | hp
  ·have hh : H[o]? = _ := hh
   rw [hx] at hh; injection hh with hh; injection hh with q _ _; rw [← q]; exact ssz
  ·rw [List.mem_singleton] at hp; subst hp
   have hh : H[v]? = _ := hh
   rw [hx2] at hh; injection hh with hh; injection hh with q _ _; rw [← q]
 ·intro ρ hρ j h h'
  match j, h, h' with
  | 0, _, _ =>
    refine (dx (by simp)).2 ⟨arr, fz, hx, hf, ?_⟩
    rw [ha, hs]
    have k1 := hρ 1 (by simp)
    simp only [VRels]
    refine ⟨_, _, rfl, ?_, rfl⟩
    simp only [VRel]
    exact ⟨SAll.nil, v, cap, k1.1, by rw [eN]; omega, by rw [eN]; omega, by rw [k1.2]; show cap * 2 ≤ arr2.size; omega, by rw [eN]; rfl⟩
  | 1, _, _ => exact (aav eN eL).2 ⟨arr2, fz2, hx2, hf2, by omega, by rw [eG]; exact hts⟩
 ·intro ρ H' hρ hsz' h
  obtain ⟨arr', fz', hx', hf', hv'⟩ := (dx (by simp)).1 (h 0 (by simp) (by simp))
  obtain ⟨arr2', fz2', hx2', hf2', g1, g2⟩ := (aav eN eL).1 (h 1 (by simp) (by simp))
  simp only [VRels] at hv'
  obtain ⟨v1, t1, q1, r1, q2⟩ := hv'
  simp only [VRel] at r1
  obtain ⟨_, c, cap', c1, c2, c3, c4, c5⟩ := r1
  have k1 := hρ 1 (by simp)
  have c1' : ρ (K.of (nxi + 1)) = some c := c1
  have : some c = some v := by rw [← c1']; exact k1.1
  obtain rfl := Option.some.inj this
  have z2 : arr2'.size = arr2.size := hsz' (c, arr2.size) (by simp) _ _ _ hx2'
  rw [eN] at c3 c5
  have c4' : cap' * 2 ≤ arr2.size := by rw [k1.2] at c4; exact c4
  refine .inr (.inr ⟨ws, arr', fz', m, some ⟨c, 0, none⟩, cap', hr, hw, hx', by rw [q1, q2, c5]; simp, hf', .inr ⟨hm, rfl, by omega, hne, arr2', fz2', hx2', hf2', by omega, by rw [g2, eG]⟩⟩)
end
end Go.Ev
set_option maxRecDepth 100000
set_option linter.all false
namespace Go.Ev
theorem bsIn_snoc2 {os : List (Nat × Nat)} {p v x : Nat} : j7 (os ++ [(p, v)]) x ↔ j7 os x ∨ x = p ∨ x = v := by
 constructor
 ·rintro ⟨q, q1, q2⟩
  rcases List.mem_append.1 q1 with z | z
  ·exact .inl ⟨q, z, q2⟩
  ·rw [List.mem_singleton] at z
   subst z
   exact .inr q2
 ·rintro (⟨q, q1, q2⟩ | h)
  ·exact ⟨q, List.mem_append_left _ q1, q2⟩
  ·exact ⟨(p, v), by simp, h⟩
def a9e (r : List Int) (t : TypeId) : Prop := (r.getD 0 0 = 2 ∧ t = 86) ∨ (r.getD 0 0 = 3 ∧ t = 121) ∨ (r.getD 0 0 = 4 ∧ t = 101)
theorem aup {r : List Int} {t : TypeId} {p : Nat} (h : a9e r t) : ky (dq r p) = .iface t (.pointer (some ⟨p, 0, none⟩)) := by
 unfold ky dq
 rcases h with ⟨a, b⟩ | ⟨a, b⟩ | ⟨a, b⟩ <;> rw [a, b]
 ·rw [if_neg (by decide : ¬ (2 : Int) = 4), if_pos (by omega), show ((4 * (p : Int) + 2) / 4).toNat = p by omega]
 ·rw [if_neg (by decide : ¬ (3 : Int) = 4), if_neg (by omega), if_pos (by omega), show ((4 * (p : Int) + 3) / 4).toNat = p by omega]
 ·rw [if_pos rfl, if_neg (by omega), if_neg (by omega), show ((4 * (p : Int) + 0) / 4).toNat = p by omega]
section
variable [Gv]
set_option maxHeartbeats 4000000 in
theorem a7e {f nxi nxo kp kr : Nat} {t : TypeId} {g g' : GE} {r' : List Int} {us : List AV} {Lr Lo news : List HO} {r : TR} (hi : 257 ≤ nxi) (hx : nxi + 1 ≤ 65535) (hL : agp nxi Lr) (hkp : ∃ o, HO.mk kp o ∈ news) (hkr : nxi < kr ∧ kr ≤ 65535)
  (hnw : ∀ n o, HO.mk n o ∈ news → nxi < n ∧ n ≤ 65535 ∧ n ≠ kr ∧ (bu o).isRo = false ∧ aa (K.of n) (ab ((news ++ [.mk kr (hfC (hfN g') [.mk (hfN g) t (K.of kp)])]) ++ Lo)) = bu o)
  (hgr : aa (K.of kr) (ab ((news ++ [.mk kr (hfC (hfN g') [.mk (hfN g) t (K.of kp)])]) ++ Lo)) = bu (hfC (hfN g') [.mk (hfN g) t (K.of kp)]))
  (hK : atg nxi 1 Lr (news ++ [.mk kr (hfC (hfN g') [.mk (hfN g) t (K.of kp)])]) Lo) (hty : a9e r' t) (hg' : g'.eval Gv.σ = n7 (g.eval Gv.σ) r')
  (hok' : ∀ lim L, g.eval Gv.σ = lim :: d6 L → im lim L → im lim (L ++ [r']))
  (hob : ∀ (ρ2 : Env) (H : Array Obj) (p : Nat), ρ2 (K.of kp) = some p → (∀ n o, HO.mk n o ∈ news → ∃ c, ρ2 (K.of n) = some c ∧ ORel ρ2 (bu o) H[c]? ∧ ∀ arr t fz, H[c]? = some (.cells arr t fz) → arr.size = ρ2.sz (K.of n)) →
    (∀ n o n' o', HO.mk n o ∈ news → HO.mk n' o' ∈ news → n ≠ n' → ρ2 (K.of n) ≠ ρ2 (K.of n')) → ∃ v n o, HO.mk n o ∈ news ∧ ρ2 (K.of n) = some v ∧ px r' p v H)
  (hf : ∀ lim L, L ≠ [] → g.eval Gv.σ = lim :: d6 L → im lim L → (Gv.σ 90).length = L.length → di f us (nxi + 1) (.mk 256 (hfS g nxi) :: .mk nxi (hfC (hfN g) []) :: Lr) r nxo (.mk 256 (hfS g' kr) :: ((news ++ [.mk kr (hfC (hfN g') [.mk (hfN g) t (K.of kp)])]) ++ Lo)))
  {ρ : Env} {args : Array Value} {w : World} {c0 : Nat} (hg : GRel ρ) (hw : WRel ρ (ag (.mk 256 (.gob (.lh 2 g)) :: Lr) nxi) w) (hc : Clean ρ (ag (.mk 256 (.gob (.lh 2 g)) :: Lr) nxi)) (hv : VRels ρ us args.toList) (hc0 : ρ (K.of 256) = some c0) (hq : aq3 (g.eval Gv.σ) (Gv.σ 90) c0 w.heap) :
  Calls PP f args w (CPost ρ (ag (.mk 256 (.gob (.lh 2 g)) :: Lr) nxi) w (az3 r (ag (.mk 256 (.gob (.lh 2 g')) :: Lo) nxo))) := by
 have hg0 : bi (aa (K.of 256) (ag (.mk 256 (.gob (.lh 2 g)) :: Lr) nxi).h) = some (2, g) := by
  show bi (aa _ (ab _)) = _
  rw [af, if_pos rfl]; rfl
 have q := hw.gho _ 2 g hg0
 have n256 : (K.of 256).num = 256 := bw (by omega)
 have nx0 : (K.of nxi).num = nxi := bw (by omega)
 have nr : (K.of kr).num = kr := bw (by omega)
 rcases q.rel c0 hc0 with ⟨h1, _⟩ | ⟨_, hF⟩
 ·cases h1
 obtain ⟨lim, L, e, hok, hF⟩ := hF
 rcases hF with ⟨h0, _⟩ | ⟨os, bb, arr, fz, cap, hFF, s1, s2, s3, s4, s5, s6, s7, s8, s9, s10, s11⟩
 ·obtain ⟨lim', L', _, _, _, _, _, e', _, _, _, _, _, _, hn, _⟩ := hq
  rw [e] at e'
  injection e' with e1 e2
  exact absurd (by rw [← gf L', ← e2, gf, h0]) hn
 have h90 := akz hq e s4 s5 s7 s11
 have hos := (pf s4).1
 have hos' : (os.map (·.1)).length = L.length := by rw [List.length_map, hos]
 have hl90 : (Gv.σ 90).length = L.length := by rw [h90, List.length_zipWith, hos', Nat.min_self]
 have e1 := ce (σ := Gv.σ) g e
 have hg'' : g'.eval Gv.σ = lim :: d6 (L ++ [r']) := by
  rw [hg', e, kc]; rfl
 have e1' := ce (σ := Gv.σ) g' hg''
 have ft : ∀ x, ρ.ft (K.of 256) x ↔ x = c0 ∨ x = bb ∨ j7 os x := fun x => by rw [hFF]
 let bs : List (Nat × Nat) := [(bb, arr.size)]
 have B0 : dh nxi bs (K.of nxi) = some (bb, arr.size) := by
  unfold dh
  rw [nx0, if_pos (zY _), Nat.sub_self]; rfl
 have hO : GhOpen (K.of 256) (dh nxi bs) 2 g ρ (ag (.mk 256 (.gob (.lh 2 g)) :: Lr) nxi) w c0 (ag (.mk 256 (hfS g nxi) :: (mkL nxi [hfC (hfN g) []] ++ Lr)) (nxi + 1)) := by
  refine q9 (bs := bs) (los := [hfC (hfN g) []]) hi (by simp; omega) rfl hL rfl rfl (fun o ho => by rw [List.mem_singleton] at ho; subst ho; rfl) hc0 ?_ ?_ ?_
  ·intro j h h'
   match j, h with
   | 0, _ =>
     refine ⟨(ft _).2 (.inr (.inl rfl)), s1, ?_, ?_⟩
     ·intro a' t' f' hh
      have hh : w.heap[bb]? = _ := hh
      rw [s7] at hh; injection hh with hh; injection hh with e1 _ _; rw [← e1]; rfl
     ·exact awp e h90 hos' s7 s8 s9 s10 (by rw [h90]; exact s11)
  ·intro x y h h' hxy
   match x, y, h, h' with
   | 0, 0, _, _ => rfl
  ·exact ab5 e s5 (c8 B0).1 (by rw [(c8 B0).2]; exact s10) s9
 have ne : ∀ {m n : Nat}, m < 65536 → n < 65536 → m ≠ n → K.of m ≠ K.of n := by
  intro m n h1 h2 h3 z
  have := congrArg K.num z
  rw [bw h1, bw h2] at this
  exact h3 this
 generalize hrow : HO.mk kr (hfC (hfN g') [.mk (hfN g) t (K.of kp)]) = row at *
 have fin : ∀ ρ2 w' , Adv (ji ρ (dh nxi bs)) (ag (.mk 256 (hfS g nxi) :: (mkL nxi [hfC (hfN g) []] ++ Lr)) (nxi + 1)) w ρ2 (ag (.mk 256 (hfS g' kr) :: ((news ++ [row]) ++ Lo)) nxo) w' → ∃ ρ3, Adv ρ (ag (.mk 256 (.gob (.lh 2 g)) :: Lr) nxi) w ρ3 (ag (.mk 256 (.gob (.lh 2 g')) :: Lo) nxo) w' ∧ ρ2.le ρ3 := by
  intro ρ2 w' hA
  have a20 : aa (K.of 256) (ab (.mk 256 (hfS g' kr) :: ((news ++ [row]) ++ Lo))) = bu (hfS g' kr) := by rw [af, if_pos rfl]
  have a2n : ∀ n o, HO.mk n o ∈ news → aa (K.of n) (ab (.mk 256 (hfS g' kr) :: ((news ++ [row]) ++ Lo))) = bu o := by
   intro n o hm
   obtain ⟨m1, m2, m3, m4, m5⟩ := hnw n o hm
   rw [af, if_neg (ne (by omega) (by omega) (by omega))]; exact m5
  have a2r : aa (K.of kr) (ab (.mk 256 (hfS g' kr) :: ((news ++ [row]) ++ Lo))) = bu (hfC (hfN g') [.mk (hfN g) t (K.of kp)]) := by rw [af, if_neg (ne (by omega) (by omega) (by omega))]; exact hgr
  have l0 : aa (K.of 256) (ag (.mk 256 (hfS g' kr) :: ((news ++ [row]) ++ Lo)) nxo).h ≠ .none := by show aa _ (ab _) ≠ _; rw [a20]; exact c7 _
  have ln : ∀ n o, HO.mk n o ∈ news → aa (K.of n) (ag (.mk 256 (hfS g' kr) :: ((news ++ [row]) ++ Lo)) nxo).h ≠ .none := fun n o hm => by show aa _ (ab _) ≠ _; rw [a2n n o hm]; exact c7 _
  have lr : aa (K.of kr) (ag (.mk 256 (hfS g' kr) :: ((news ++ [row]) ++ Lo)) nxo).h ≠ .none := by show aa _ (ab _) ≠ _; rw [a2r]; exact c7 _
  have ro0 : (aa (K.of 256) (ag (.mk 256 (hfS g' kr) :: ((news ++ [row]) ++ Lo)) nxo).h).isRo = false := by show (aa _ (ab _)).isRo = _; rw [a20]; rfl
  have ron : ∀ n o, HO.mk n o ∈ news → (aa (K.of n) (ag (.mk 256 (hfS g' kr) :: ((news ++ [row]) ++ Lo)) nxo).h).isRo = false := fun n o hm => by show (aa _ (ab _)).isRo = _; rw [a2n n o hm]; exact (hnw n o hm).2.2.2.1
  have ror : (aa (K.of kr) (ag (.mk 256 (hfS g' kr) :: ((news ++ [row]) ++ Lo)) nxo).h).isRo = false := by show (aa _ (ab _)).isRo = _; rw [a2r]; rfl
  have k0 : ρ2 (K.of 256) = some c0 := (hA.le _ _ (by rw [(ee hO.kr0).1]; exact hc0)).1
  obtain ⟨x0, y0, o0⟩ := hA.rel.dom (K.of 256) l0
  obtain ⟨b2, krr, orr⟩ := hA.rel.dom (K.of kr) lr
  rw [k0] at y0
  obtain rfl := Option.some.inj y0
  have o0 : ORel ρ2 (aa (K.of 256) (ab (.mk 256 (hfS g' kr) :: ((news ++ [row]) ++ Lo)))) w'.heap[c0]? := o0
  have orr : ORel ρ2 (aa (K.of kr) (ab (.mk 256 (hfS g' kr) :: ((news ++ [row]) ++ Lo)))) w'.heap[b2]? := orr
  rw [a20] at o0
  rw [a2r] at orr
  have onw : ∀ n o, HO.mk n o ∈ news → ∃ c, ρ2 (K.of n) = some c ∧ ORel ρ2 (bu o) w'.heap[c]? ∧ ∀ arr t fz, w'.heap[c]? = some (.cells arr t fz) → arr.size = ρ2.sz (K.of n) := by
   intro n o hm
   obtain ⟨c, h1, h2⟩ := hA.rel.dom (K.of n) (ln n o hm)
   have h2 : ORel ρ2 (aa (K.of n) (ab (.mk 256 (hfS g' kr) :: ((news ++ [row]) ++ Lo)))) w'.heap[c]? := h2
   rw [a2n n o hm] at h2
   exact ⟨c, h1, h2, fun arr t fz hh => hA.rel.len _ _ arr t fz (ln n o hm) h1 hh⟩
  have dist : ∀ n o n' o', HO.mk n o ∈ news → HO.mk n' o' ∈ news → n ≠ n' → ρ2 (K.of n) ≠ ρ2 (K.of n') := by
   intro n o n' o' h1 h2 h3 h4
   obtain ⟨m1, m2, _⟩ := hnw n o h1
   obtain ⟨p1, p2, _⟩ := hnw n' o' h2
   exact ne (by omega) (by omega) h3 (hA.rel.inj1 (ln n o h1) (ln n' o' h2) (.inl (ron n o h1)) h4)
  obtain ⟨op, hkpm⟩ := hkp
  obtain ⟨p, kpp, _, _⟩ := onw kp op hkpm
  obtain ⟨v, kv, ov, hvm, kvv, hobj⟩ := hob ρ2 w'.heap p kpp onw dist
  have Bin : ∀ k x m, dh nxi bs k = some (x, m) → x = bb := by
   intro k x m h
   unfold dh at h
   split at h
   ·have z := List.mem_of_getElem? h
    rw [List.mem_singleton] at z; injection z with z1 z2
   ·cases h
  have nos : ∀ k y, aa k (ag (.mk 256 (hfS g' kr) :: ((news ++ [row]) ++ Lo)) nxo).h ≠ .none → (aa k (ag (.mk 256 (hfS g' kr) :: ((news ++ [row]) ++ Lo)) nxo).h).isRo = false → k ≠ K.of 256 → ρ2 k = some y → ¬ j7 os y := by
   intro k cc h1 h2 h3 h4 h5
   rcases hO.old hw hc hA l0 h1 h2 h4 ((ft cc).2 (.inr (.inr h5))) with z | ⟨l, m, z, _⟩
   ·exact h3 z
   ·rw [Bin l cc m z] at h5; exact s3 h5
  have dn : ∀ n o, HO.mk n o ∈ news → K.of n ≠ K.of 256 := fun n o hm => by obtain ⟨m1, m2, _⟩ := hnw n o hm; exact ne (by omega) (by omega) (by omega)
  have dr : K.of kr ≠ K.of 256 := ne (by omega) (by omega) (by omega)
  have dnr : ∀ n o, HO.mk n o ∈ news → K.of n ≠ K.of kr := fun n o hm => by obtain ⟨m1, m2, m3, _⟩ := hnw n o hm; exact ne (by omega) (by omega) m3
  have npos := nos (K.of kp) p (ln _ _ hkpm) (ron _ _ hkpm) (dn _ _ hkpm) kpp
  have nvos := nos (K.of kv) v (ln _ _ hvm) (ron _ _ hvm) (dn _ _ hvm) kvv
  have nros := nos (K.of kr) b2 lr ror dr krr
  have pc : p ≠ c0 := fun z => dn _ _ hkpm (hA.rel.inj1 (ln _ _ hkpm) l0 (.inl (ron _ _ hkpm)) (by rw [kpp, k0, z]))
  have vc : v ≠ c0 := fun z => dn _ _ hvm (hA.rel.inj1 (ln _ _ hvm) l0 (.inl (ron _ _ hvm)) (by rw [kvv, k0, z]))
  have rc : b2 ≠ c0 := fun z => dr (hA.rel.inj1 lr l0 (.inl ror) (by rw [krr, k0, z]))
  have pr : p ≠ b2 := fun z => dnr _ _ hkpm (hA.rel.inj1 (ln _ _ hkpm) lr (.inl (ron _ _ hkpm)) (by rw [kpp, krr, z]))
  have vr : v ≠ b2 := fun z => dnr _ _ hvm (hA.rel.inj1 (ln _ _ hvm) lr (.inl (ron _ _ hvm)) (by rw [kvv, krr, z]))
  have fr : ∀ x, j7 os x → w'.heap[x]? = w.heap[x]? := by
   intro x hx
   refine hO.frame hw hc hA ((ft x).2 (.inr (.inr hx))) (fun z => s2 (by rw [← z]; exact hx)) fun k m h => ?_
   exact absurd hx (by rw [Bin k x m h]; exact s3)
  obtain ⟨arr0, fz0, hx0, hf0, hv0⟩ := (dx (by simp)).1 o0
  simp only [VRels] at hv0
  obtain ⟨v1, t1, q1, r1, v2, t2, q2, r2, v3, t3, q3, r3, v4, t4, q4, r4, v5, t5, q5, r5, q6⟩ := hv0
  have r1 := bv r1
  have r2 := bv r2
  have r3 := bv r3
  rw [gc g' hg''] at r1
  rw [ce g' hg''] at r2
  rw [ix g' hg''] at r3
  simp only [VRel] at r4 r5
  obtain ⟨_, cc, cap', w1, w2, w3, w4, w5⟩ := r4
  rw [krr] at w1
  obtain rfl := Option.some.inj w1
  rw [ce g' hg''] at w2 w3 w5
  rw [Int.toNat_natCast] at w5
  obtain ⟨arr2, fz2, hb2, g1, g2, g3, g4, g5, g6⟩ := orr
  rw [e1'] at g2 g3 g4
  have z2 := hA.rel.len (K.of kr) b2 arr2 126 fz2 lr krr hb2
  rw [← z2] at w4
  obtain ⟨_, cp, h1, h2⟩ := g6 _ _ _ (List.mem_singleton.2 rfl)
  rw [kpp] at h1
  obtain rfl := Option.some.inj h1
  rw [e1, Int.toNat_natCast] at h2
  have lenL : (L ++ [r']).length = L.length + 1 := by simp
  rw [lenL] at w2 w3 w5 g4
  have rowE : arr2.toList.take (L.length + 1) = (List.zipWith dq (L ++ [r']) ((os ++ [(p, v)]).map (·.1))).map ky := by
   rw [List.map_append, List.map_cons, List.map_nil, aaj hos', ← h90]
   apply List.ext_getElem?
   intro i
   by_cases hi : i < L.length
   ·rw [List.getElem?_take_of_lt (by omega), Array.getElem?_toList, List.getElem?_map, List.getElem?_append_left (by omega)]
    have hi' : i < (Gv.σ 90).length := by omega
    rw [g5 i hi', zK hi']
    rfl
   ·by_cases hi2 : i = L.length
    ·subst hi2
     rw [List.getElem?_take_of_lt (by omega), Array.getElem?_toList, List.getElem?_map, List.getElem?_append_right (by omega), hl90, Nat.sub_self, h2]
     simp only [List.getElem?_cons_zero, Option.map_some]
     rw [aup hty]
    ·rw [List.getElem?_eq_none (by simp; omega), List.getElem?_eq_none (by simp; omega)]
  refine vq (F' := fun x => x = c0 ∨ x = b2 ∨ j7 (os ++ [(p, v)]) x) (bs := bs) (los := [hfC (hfN g) []]) (outS := news ++ [row]) hi (by simp; omega) rfl hO hw hc hA rfl ?_ hK (.inl rfl) (.inr ⟨rfl, ?_⟩) ?_
  ·intro n' o' hm
   rcases List.mem_append.1 hm with hm | hm
   ·obtain ⟨m1, m2, _⟩ := hnw n' o' hm; omega
   ·rw [List.mem_singleton, ← hrow] at hm; injection hm with z _; omega
  ·refine ⟨lim, _, hg'', hok' lim L e hok, .inr ⟨os ++ [(p, v)], b2, arr2, fz2, cap', rfl, rc, ?_, ?_, qg hobj (kf (fun x hx => fr x hx) s4) npos nvos, ⟨arr0, fz0, hx0, ?_, hf0⟩, by simp, hb2, g1, by rw [lenL]; omega, by omega, by rw [lenL]; exact rowE⟩⟩
   ·rw [bsIn_snoc2]; rintro (z | z | z)
    ·exact s2 z
    ·exact pc z.symm
    ·exact vc z.symm
   ·rw [bsIn_snoc2]; rintro (z | z | z)
    ·exact nros z
    ·exact pr z.symm
    ·exact vr z.symm
   ·rw [q1, q2, q3, q4, q5, q6, r1, r2, r3, w5, r5, lenL]
  ·rintro y (rfl | rfl | hy)
   ·exact .inl ((ft _).2 (.inl rfl))
   ·exact .inr ⟨kr, _, List.mem_append_right _ (by rw [← hrow]; exact List.mem_cons_self ..), by rw [hgr]; rfl, krr⟩
   ·rcases bsIn_snoc2.1 hy with z | rfl | rfl
    ·exact .inl ((ft _).2 (.inr (.inr z)))
    ·exact .inr ⟨kp, _, List.mem_append_left _ hkpm, by rw [(hnw _ _ hkpm).2.2.2.2]; exact (hnw _ _ hkpm).2.2.2.1, kpp⟩
    ·exact .inr ⟨kv, _, List.mem_append_left _ hvm, by rw [(hnw _ _ hvm).2.2.2.2]; exact (hnw _ _ hvm).2.2.2.1, kvv⟩
 have run := hf lim L s6 e hok hl90 (ji ρ (dh nxi bs)) args w (hO.grel hc hg (by show 256 ≤ (K.of nxi).num; omega)) (hO.rel hw hc) (hO.clean hc) (VRels.mono (hO.le hc) _ _ hv)
 refine Calls.mono run fun e w' hp => ?_
 cases r with
 | ret v =>
   obtain ⟨v', ρ2, e1, e2, hA⟩ := hp
   obtain ⟨ρ3, hA3, hle⟩ := fin ρ2 w' hA
   exact ⟨v', ρ3, e1, e2.mono hle, hA3⟩
 | pan ch =>
   obtain ⟨ch', ρ2, e1, e2, hA⟩ := hp
   obtain ⟨ρ3, hA3, hle⟩ := fin ρ2 w' hA
   exact ⟨ch', ρ3, e1, e2.mono hle, hA3⟩
end
end Go.Ev
set_option maxRecDepth 100000
set_option linter.all false
namespace Go.Ev
section
variable [Gv]
theorem axv {lim : Int} {L : List (List Int)} (e : (GE.s 5).eval Gv.σ = lim :: d6 L) {i : Nat} (hi : i < L.length) (hn : (SE.v 2).eval Gv.σ = (i : Int)) (h : 0 < (vcN (.s 5) (.v 2)).eval Gv.σ) : 1 < L[i].length := by
 rw [(axs e hi hn).1] at h
 omega
theorem awm {lim : Int} {L : List (List Int)} (e : (GE.s 5).eval Gv.σ = lim :: d6 L) (hok : im lim L) (hl : (tq (.v 1)).eval Gv.σ = 1) (h1 : (SE.v 1).eval Gv.σ = 4) :
  SAll Gv.σ [.mk false (.v 1) (.c 4) true, .mk true (.c 0) (.rd (.s 5) (.c 0)) true, .mk true (.v 2) (.c 0) false, .mk true (.v 2) (hfN (.s 5)) true] := by
 have hl : iq ((GE.s 5).eval Gv.σ) ((SE.v 1).eval Gv.σ) ((SE.v 2).eval Gv.σ) = 1 := hl
 obtain ⟨i, hi, hn, _⟩ := afs e hl
 have e0 := gc (σ := Gv.σ) (.s 5) e
 have e1 := ce (σ := Gv.σ) (.s 5) e
 obtain ⟨b1, b2, b3, b4⟩ := hok
 refine aE (by rw [h1]; simp only [SE.eval]) (aT (by rw [e0]; simp only [SE.eval]; omega) (aF (by rw [hn]; simp only [SE.eval]; omega) (aT (by rw [hn, e1]; omega) SAll.nil)))
theorem bc7 (hA : SAll Gv.σ [.mk false (.v 1) (.c 4) true, .mk false (tq (.v 1)) (.c 1) true, .mk true (.c 0) (vcN (.s 5) (.v 2)) true]) :
  di 96 [hpp, wd (.v 1) (.v 2)] 257 [.mk 256 (hgh (.s 5))] (.ret (.bool true)) 262 [.mk 256 (hgh (.s 5))] := by
 obtain ⟨h1, hA⟩ := ofE hA
 obtain ⟨h2, hA⟩ := ofE hA
 have h1 : (SE.v 1).eval Gv.σ = 4 := h1
 have h2 : (tq (.v 1)).eval Gv.σ = 1 := h2
 have h3 : 0 < (vcN (.s 5) (.v 2)).eval Gv.σ := of_decide_eq_true (hA _ (List.mem_singleton.2 rfl))
 have hl : iq ((GE.s 5).eval Gv.σ) 4 ((SE.v 2).eval Gv.σ) = 1 := by rw [← h1]; exact h2
 refine a3i (g := .s 5) (n := .v 2) (t := 101) (kd := 4) (los := [hfV (vcN (.s 5) (.v 2)) 259, hfY (vcN (.s 5) (.v 2)) (vcG (.s 5) (.v 2))]) (Lr := []) (Lo := []) (by omega) (by simp) (by simp) uy sy ?_ (.inr (.inr ⟨rfl, rfl⟩)) hl (fun lim L i hi e hn hk => as2 e hi hn hk (axv e hi hn h3)) fun lim L e hok => ?_
 ·intro o ho
  rcases List.mem_cons.1 ho with rfl | ho
  ·rfl
  ·rw [List.mem_singleton] at ho; subst ho; rfl
 ·exact ej (n := 2000) (T := []) (E := .nil) c9 d7 (awm e hok h2 h1) trivial rfl rfl (by kernel_rfl)
theorem bdn (hA : SAll Gv.σ [.mk false (.v 1) (.c 4) true, .mk false (tq (.v 1)) (.c 1) true, .mk true (.c 0) (vcN (.s 5) (.v 2)) true, .mk true (.c 400000) (vcN (.s 5) (.v 2)) false]) :
  di 79 [hpp, wd (.v 1) (.v 2)] 257 [.mk 256 (hgh (.s 5))] (.ret (.tuple [.gv (.sl (K.of 264) 2 (vcN (.s 5) (.v 2)) []), .int .i64 0])) 265 [.mk 256 (hgh (.s 5)), .mk 264 (hfY (vcN (.s 5) (.v 2)) (vcG (.s 5) (.v 2)))] := by
 obtain ⟨h1, hA⟩ := ofE hA
 obtain ⟨h2, hA⟩ := ofE hA
 have h1 : (SE.v 1).eval Gv.σ = 4 := h1
 have h2 : (tq (.v 1)).eval Gv.σ = 1 := h2
 have h3 : 0 < (vcN (.s 5) (.v 2)).eval Gv.σ := of_decide_eq_true (hA _ (List.mem_cons_self ..))
 have h4 : ¬ 400000 < (vcN (.s 5) (.v 2)).eval Gv.σ := of_decide_eq_false (hA (.mk true (.c 400000) (vcN (.s 5) (.v 2)) false) (zA _ (List.mem_singleton.2 rfl)))
 have hl : iq ((GE.s 5).eval Gv.σ) 4 ((SE.v 2).eval Gv.σ) = 1 := by rw [← h1]; exact h2
 refine a3i (g := .s 5) (n := .v 2) (t := 101) (kd := 4) (los := [hfV (vcN (.s 5) (.v 2)) 259, hfY (vcN (.s 5) (.v 2)) (vcG (.s 5) (.v 2))]) (Lr := []) (Lo := [.mk 264 (hfY (vcN (.s 5) (.v 2)) (vcG (.s 5) (.v 2)))]) (by omega) (by simp) (by simp) uy ?_ ?_ (.inr (.inr ⟨rfl, rfl⟩)) hl (fun lim L i hi e hn hk => as2 e hi hn hk (axv e hi hn h3)) fun lim L e hok => ?_
 ·intro n o h
  rw [List.mem_singleton] at h
  injection h with e1 e2
  subst e1 e2
  refine ⟨by omega, by omega, rfl, ?_, .inr ⟨by simp, rfl, ?_⟩⟩
  ·intro n' o' h e
   subst e
   simp [mkL] at h
  ·intro i hi
   have : i = 0 ∨ i = 1 ∨ i = 2 := by simp at hi; omega
   rcases this with rfl | rfl | rfl
   ·exact ⟨_, List.mem_cons_self ..⟩
   ·exact ⟨_, zA _ (List.mem_cons_self ..)⟩
   ·exact ⟨_, zA _ (zA _ (List.mem_cons_self ..))⟩
 ·intro o ho
  rcases List.mem_cons.1 ho with rfl | ho
  ·rfl
  ·rw [List.mem_singleton] at ho; subst ho; rfl
 ·exact ej (n := 2000) (A := [.mk false (.v 1) (.c 4) true, .mk true (.c 0) (.rd (.s 5) (.c 0)) true, .mk true (.v 2) (.c 0) false, .mk true (.v 2) (hfN (.s 5)) true] ++ [.mk true (.c 0) (vcN (.s 5) (.v 2)) true, .mk true (.c 400000) (vcN (.s 5) (.v 2)) false]) (T := [(264, 264)]) (E := .nil) c9 d7 (fun x hx => by
   rcases List.mem_append.1 hx with hx | hx
   ·exact awm e hok h2 h1 x hx
   ·exact hA x hx) trivial rfl rfl (by kernel_rfl)
end
noncomputable section
def v4A : List SA := [.mk false (.v 1) (.c 4) true, .mk false (tq (.v 1)) (.c 1) true, .mk true (.c 0) (vcN (.s 5) (.v 2)) true]
def a70 : TM := .mk 96 wU 257 hI v4A none (.ret (.bool true)) 262 hI
def a8t : TM := .mk 79 wU 257 hI (v4A ++ [.mk true (.c 400000) (vcN (.s 5) (.v 2)) false]) none (.ret (.tuple [.gv (.sl (K.of 264) 2 (vcN (.s 5) (.v 2)) []), .int .i64 0])) 265 [.mk 256 (hgh (.s 5)), .mk 264 (hfY (vcN (.s 5) (.v 2)) (vcG (.s 5) (.v 2)))]
end
theorem aw5 [Gv] : cy a70 := fun σ _ hA _ => @bc7 ⟨σ⟩ hA
theorem axt [Gv] : cy a8t := fun σ _ hA _ => @bdn ⟨σ⟩ hA
end Go.Ev
set_option maxRecDepth 100000
set_option linter.all false
namespace Go.Ev
noncomputable section
def v1R : GE := .cat (.one (.c 4)) (.cat (.one (.v 3)) (.one (.v 4)))
def v1W : GE := .cat (.one (.v 3)) (.one (.v 4))
def v1G : GE := .app 206 (.g (.s 5) (.g v1R .nil))
def v1U : List AV := [hpp, .slice (K.of 257) 0 1 1 none]
def v1B : HO := .mk 257 (.cells 29 false 0 0 [.sym .i64 (.v 3) [], .sym .i64 (.v 4) []])
def v1V : TR := .ret (.tuple [.agg [.int .i64 4, .sym .i64 (hfN (.s 5)) []], .int .i64 0])
def v1N : List HO := [.mk 262 (hfV (.c 1) 261), .mk 261 (hfY (.c 1) v1W)]
def v1A : List SA := [.mk true (.c 0) (hfN (.s 5)) true, .mk false (hfN (.s 5)) (.rd (.s 5) (.c 0)) false, .mk true (.c 1048576) (.bin 0 .i64 (usE (.s 5)) (.c 1)) false]
end
theorem a94 (a b : Int) : tc [4, a, b] = 1 := by simp [tc]
section
variable [Gv]
theorem bb9 (hA : SAll Gv.σ [.mk true (.c 0) (.rd (.s 5) (.c 0)) true, .mk false (hfN (.s 5)) (.rd (.s 5) (.c 0)) false, .mk true (.c 1048576) (.bin 0 .i64 (usE (.s 5)) (.c 1)) false, .mk true (.c 400000) (.bin 6 .i64 (hfN (.s 5)) (.c 1)) false])
  (hE : EqL.all Gv.σ (.i (.rd (.s 5) (.c 0)) (.rd v1G (.c 0)) (.i (.bin 0 .i64 (hfN (.s 5)) (.c 1)) (hfN v1G) (.i (.bin 0 .i64 (usE (.s 5)) (.c 1)) (usE v1G) (.i (.bin 6 .i64 (hfN (.s 5)) (.c 1)) (hfN v1G) .nil))))) :
  di 18 v1U 259 (.mk 256 (hfS (.s 5) 258) :: .mk 258 (hfC (hfN (.s 5)) []) :: [v1B]) v1V 266 (.mk 256 (hfS v1G 265) :: ((v1N ++ [.mk 265 (hfC (hfN v1G) [.mk (hfN (.s 5)) 101 (K.of 262)])]) ++ [])) :=
 ej (n := 2000) (T := [(261, 261), (262, 262), (265, 265)]) (E := (.i (.rd (.s 5) (.c 0)) (.rd v1G (.c 0)) (.i (.bin 0 .i64 (hfN (.s 5)) (.c 1)) (hfN v1G) (.i (.bin 0 .i64 (usE (.s 5)) (.c 1)) (usE v1G) (.i (.bin 6 .i64 (hfN (.s 5)) (.c 1)) (hfN v1G) .nil))))) c9 d7 hA hE rfl rfl (by kernel_rfl)
theorem a8q {lim : Int} {L : List (List Int)} (e : (GE.s 5).eval Gv.σ = lim :: d6 L) : v1G.eval Gv.σ = lim :: d6 (L ++ [[4, (SE.v 3).eval Gv.σ, (SE.v 4).eval Gv.σ]]) := by
 show n7 ((GE.s 5).eval Gv.σ) _ = _
 rw [e, kc]; rfl
theorem bjo {lim : Int} {L : List (List Int)} (e : (GE.s 5).eval Gv.σ = lim :: d6 L) (hok : im lim L) (hfull : (L.length : Int) ≠ lim) (hus : du L + 1 ≤ 1048576) :
  di 18 v1U 259 (.mk 256 (hfS (.s 5) 258) :: .mk 258 (hfC (hfN (.s 5)) []) :: [v1B]) v1V 266 (.mk 256 (hfS v1G 265) :: ((v1N ++ [.mk 265 (hfC (hfN v1G) [.mk (hfN (.s 5)) 101 (K.of 262)])]) ++ [])) := by
 have e' := a8q e
 obtain ⟨b1, b2, b3, b4⟩ := hok
 have u := u6 L
 have f1 := gc (σ := Gv.σ) (.s 5) e
 have f2 := gc (σ := Gv.σ) v1G e'
 have n1 := ce (σ := Gv.σ) (.s 5) e
 have u1 : (usE (.s 5)).eval Gv.σ = du L := ix (σ := Gv.σ) (.s 5) e
 have n2 := ce (σ := Gv.σ) v1G e'
 have u2 : (usE v1G).eval Gv.σ = _ := ix (σ := Gv.σ) v1G e'
 rw [zP] at n2
 rw [ow, a94] at u2
 have u2 : (usE v1G).eval Gv.σ = du L + 1 := u2
 have n2 : (hfN v1G).eval Gv.σ = (L.length : Int) + 1 := n2
 have a1 : (SE.bin 0 .i64 (usE (.s 5)) (.c 1)).eval Gv.σ = du L + 1 := by
  show IntKind.i64.wrap ((usE (.s 5)).eval Gv.σ + 1) = _
  rw [u1]; exact as3 (by omega)
 have a2 : (SE.bin 0 .i64 (hfN (.s 5)) (.c 1)).eval Gv.σ = (L.length : Int) + 1 := by
  show IntKind.i64.wrap ((hfN (.s 5)).eval Gv.σ + 1) = _
  rw [n1]; exact as3 (by omega)
 have a3 : (SE.bin 6 .i64 (hfN (.s 5)) (.c 1)).eval Gv.σ = (L.length : Int) + 1 := by
  show (hfN (.s 5)).eval Gv.σ + 1 = _
  rw [n1]
 exact bb9 (aT (by rw [f1]; simp only [SE.eval]; omega) (aN (by rw [f1, n1]; exact hfull) (aF (by rw [a1]; simp only [SE.eval]; omega) (aF (by rw [a3]; simp only [SE.eval]; omega) SAll.nil)))) ⟨by rw [f1, f2], by rw [a2, n2], by rw [a1, u2], by rw [a3, n2], trivial⟩
end
theorem a8r : aa (K.of 256) (ab [.mk 256 (hgh (.s 5)), v1B]) ≠ .none := by
 letI : Gv := ⟨fun _ => []⟩
 rw [af, if_pos rfl]; exact c7 _
theorem bdm {σ : Nat → List Int} (hA0 : SAll σ v1A) : @di ⟨σ⟩ 18 v1U 258 [.mk 256 (hgh (.s 5)), v1B] v1V 266 [.mk 256 (hgh v1G)] := by
 have hp : 0 < (hfN (.s 5)).eval σ := of_decide_eq_true (hA0 (.mk true (.c 0) (hfN (.s 5)) true) (by simp [v1A]))
 have hA : (hfN (.s 5)).eval σ ≠ (SE.rd (.s 5) (.c 0)).eval σ := of_decide_eq_false (hA0 (.mk false (hfN (.s 5)) (.rd (.s 5) (.c 0)) false) (by simp [v1A]))
 have hu : ¬ 1048576 < (SE.bin 0 .i64 (usE (.s 5)) (.c 1)).eval σ := of_decide_eq_false (hA0 (.mk true (.c 1048576) (.bin 0 .i64 (usE (.s 5)) (.c 1)) false) (by simp [v1A]))
 refine aqp (KL := [(256, 256), (257, 257)]) (fun codes c0 H => aq3 (σ 5) codes c0 H) (by omega) (by omega) (by omega) rfl rfl rfl rfl rfl rfl a8r (fun _ => rfl) (fun _ => rfl) (fun _ => rfl) (fun _ => rfl) ?_ ?_
 ·intro ρ w c0 hw hc0
  letI : Gv := ⟨σ⟩
  have hg0 : bi (aa (K.of 256) (ag [.mk 256 (hgh (.s 5)), v1B] 258).h) = some (2, .s 5) := by
   show bi (aa _ (ab _)) = _
   rw [af, if_pos rfl]; rfl
  have q := hw.gho _ 2 (.s 5) hg0
  rcases q.rel c0 hc0 with ⟨h1, _⟩ | ⟨_, hF⟩
  ·cases h1
  obtain ⟨lim, L, e, hok, hF⟩ := hF
  have e : σ 5 = lim :: d6 L := e
  rcases hF with ⟨h0, _⟩ | ⟨os, bb, arr, fz, cap, hFF, s1, s2, s3, s4, s5, s6, s7, s8, s9, s10, s11⟩
  ·subst h0
   rw [ce (σ := σ) (.s 5) e] at hp
   simp at hp
  ·exact ⟨_, ⟨lim, L, os, bb, arr, fz, cap, e, rfl, s4, s1, s2, s3, s5, s6, s7, s8, s9, s10, s11⟩⟩
 ·intro σ' hs ρ args w c0 hg hw hc hv hc0 hq
  letI : Gv := ⟨σ'⟩
  have h5 : σ' 5 = σ 5 := hs 5 (by omega)
  rw [← h5] at hq
  have full : ∀ lim L, (GE.s 5).eval σ' = lim :: d6 L → (L.length : Int) ≠ lim := by
   intro lim L e z
   have e : σ 5 = lim :: d6 L := by rw [← h5]; exact e
   exact hA (by rw [ce (.s 5) e, gc (.s 5) e, z])
  have us : ∀ lim L, (GE.s 5).eval σ' = lim :: d6 L → im lim L → du L + 1 ≤ 1048576 := by
   intro lim L e hok
   have e : σ 5 = lim :: d6 L := by rw [← h5]; exact e
   have u1 : (usE (.s 5)).eval σ = du L := ix (σ := σ) (.s 5) e
   have u := u6 L
   have hu : ¬ 1048576 < IntKind.i64.wrap ((usE (.s 5)).eval σ + 1) := hu
   rw [u1, as3 (by have := hok.2.2.2; omega)] at hu
   omega
  refine a7e (g := .s 5) (g' := v1G) (kp := 262) (kr := 265) (t := 101) (r' := [4, (SE.v 3).eval σ', (SE.v 4).eval σ']) (news := v1N) (Lr := [v1B]) (Lo := []) (by omega) (by omega) ?_ ⟨_, List.mem_cons_self ..⟩ (by omega) ?_ ?_ sy (.inr (.inr ⟨rfl, rfl⟩)) rfl ?_ ?_ (fun lim L hL e hok h90 => bjo e hok (full lim L e) (us lim L e hok)) hg hw hc hv hc0 hq
  ·intro n o h
   rw [List.mem_singleton] at h
   injection h with e1 e2
   subst e1 e2
   exact ⟨by omega, by omega, rfl⟩
  ·intro n o h
   rcases List.mem_cons.1 h with h | h
   ·injection h with e1 e2
    subst e1 e2
    refine ⟨by omega, by omega, by omega, rfl, ?_⟩
    show aa _ (ab (.mk 262 _ :: _)) = _
    rw [af, if_pos rfl]
   ·rw [List.mem_singleton] at h
    injection h with e1 e2
    subst e1 e2
    refine ⟨by omega, by omega, by omega, rfl, ?_⟩
    show aa _ (ab (.mk 262 _ :: .mk 261 _ :: _)) = _
    rw [af, if_neg (by decide), af, if_pos rfl]
  ·show aa _ (ab (.mk 262 _ :: .mk 261 _ :: .mk 265 _ :: _)) = _
   rw [af, if_neg (by decide), af, if_neg (by decide), af, if_pos rfl]
  ·intro lim L e hok
   have h1 := full lim L e
   have h2 := us lim L e hok
   obtain ⟨b1, b2, b3, b4⟩ := hok
   refine ⟨b1, b2, by rw [zP]; show ((L.length + 1 : Nat) : Int) ≤ lim; omega, by rw [ow, a94]; exact h2⟩
  ·intro ρ2 H p hkp hn hd
   have m1 : HO.mk 262 (hfV (.c 1) 261) ∈ v1N := List.mem_cons_self ..
   have m2 : HO.mk 261 (hfY (.c 1) v1W) ∈ v1N := zA _ (List.mem_cons_self ..)
   obtain ⟨c, c1, c2, c3⟩ := hn _ _ m1
   obtain ⟨v, v1, v2, v3⟩ := hn _ _ m2
   rw [hkp] at c1
   obtain rfl := Option.some.inj c1
   obtain ⟨arr, fz, hx, hf, hv⟩ := (dx (by simp)).1 c2
   obtain ⟨arr2, fz2, hx2, hf2, g1, g2⟩ := (aav (m := .c 1) (ws := v1W) (n := 1) rfl rfl).1 v2
   simp only [VRels] at hv
   obtain ⟨x1, t1, q1, r1, q2⟩ := hv
   simp only [VRel] at r1
   obtain ⟨_, d, cap', d1, d2, d3, d4, d5⟩ := r1
   have d1 : ρ2 (K.of 261) = some d := d1
   rw [v1] at d1
   obtain rfl := Option.some.inj d1
   have z := v3 _ _ _ hx2
   have hne : v ≠ p := by
    intro e
    exact hd _ _ _ _ m1 m2 (by omega) (by rw [hkp, v1, e])
   have d5 : x1 = .slice (some ⟨v, 0, none⟩) 1 cap' := d5
   have d3 : 1 ≤ cap' := d3
   exact ⟨v, 261, _, m2, v1, .inr (.inr ⟨[(SE.v 3).eval σ', (SE.v 4).eval σ'], arr, fz, 1, some ⟨v, 0, none⟩, cap', rfl, rfl, hx, by rw [q1, q2, d5], hf, .inr ⟨by omega, rfl, d3, hne, arr2, fz2, hx2, hf2, by omega, g2⟩⟩)⟩
noncomputable def bg5 : TM := .mk 18 v1U 258 [.mk 256 (hgh (.s 5)), v1B] v1A none v1V 266 [.mk 256 (hgh v1G)]
theorem a8s [Gv] : cy bg5 := fun σ _ hA _ => bdm hA
end Go.Ev
