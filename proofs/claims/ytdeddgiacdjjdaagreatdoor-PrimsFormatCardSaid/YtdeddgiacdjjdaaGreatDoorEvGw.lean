import Derived.Test.YtdeddgiacdjjdaaGreatDoorEvW
set_option linter.all false
namespace Go.Ev
variable [Gv]
def Le (r s : OR) : Prop := (∃ c, r = .no c) ∨ r = s
theorem NOK.le {ρ : Env} {a : W} {w : World} {s : Sem Next} {r r' : OR} (h : NOK ρ a w s r) (e : Le r' r) : NOK ρ a w s r' := by
 rcases e with ⟨c, rfl⟩ | rfl
 ·trivial
 ·exact h
theorem aae (b : Bool) : xv b = !b := by cases b <;> rfl
theorem asd (o : Op) (τ : F) (a : W) : Le (fOp o τ a) (x9 o τ a) := .inr rfl
end Go.Ev
set_option linter.all false
namespace Go.Ev
theorem xl {x y : Bool} (h : ur x y = true) : x = y := by cases x <;> cases y <;> first | rfl | cases h
theorem SAll.nil {σ : Nat → List Int} : SAll σ [] := fun _ h => by cases h
theorem ij {σ : Nat → List Int} {A B : List SA} (hA : SAll σ A) (hB : SAll σ B) : SAll σ (orA A B) := by cases A <;> assumption
theorem kf (l : List UInt8) : ai (l.map fun b => (b.toNat : Int)) = ⟨l.toArray⟩ := by
 unfold ai
 congr 2
 rw [List.map_map]
 conv => rhs; rw [← List.map_id l]
 apply List.map_congr_left
 intro b _
 simp
theorem jv (l : List UInt8) : c7 (l.map fun b => (b.toNat : Int)) := by
 intro x hx
 obtain ⟨b, _, rfl⟩ := List.mem_map.1 hx
 have := b.toNat_lt
 omega
theorem ux {l : List Int} (i : Nat) (h : i < l.length) : (ai l).data[i]? = some (UInt8.ofNat l[i].toNat) := by
 simp [ai, h]
theorem b8 (l : List Int) : (ai l).size = l.length := by simp [ai, ByteArray.size]
theorem oo {x : Int} (h : 0 ≤ x ∧ x < 256) : ((UInt8.ofNat x.toNat).toNat : Int) = x := by
 have : (UInt8.ofNat x.toNat).toNat = x.toNat % 256 := by simp
 rw [this]; omega
theorem akz {l m : List Int} (hl : c7 l) (hm : c7 m) (h : ai l = ai m) : l = m := by
 have hlen : l.length = m.length := by rw [← b8, h, b8]
 apply List.ext_getElem hlen
 intro i h1 h2
 have e1 := ux i h1
 have e2 := ux i h2
 rw [h, e2] at e1
 have e1 : UInt8.ofNat m[i].toNat = UInt8.ofNat l[i].toNat := by injection e1
 have b1 := oo (hl _ (List.getElem_mem h1))
 have b2 := oo (hm _ (List.getElem_mem h2))
 rw [← b1, ← b2, e1]
theorem ad1 (l m : List Int) : ai l ++ ai m = ai (l ++ m) := by
 apply ByteArray.ext
 simp [ai]
theorem ct (σ : Nat → List Int) (x y : SE) : (gk x y).eval σ = x.eval σ + y.eval σ := by
 unfold gk
 split
 ·simp only [SE.eval]; rfl
 ·simp only [SE.eval, qz]; rw [Int.add_assoc]; rfl
 ·simp only [SE.eval]; omega
 ·simp only [SE.eval]; omega
 ·simp only [SE.eval, qz]
theorem bg (σ : Nat → List Int) : ∀ g : GE, (dy g).eval σ = ((g.eval σ).length : Int)
 | .nil => by simp [dy, SE.eval, GE.eval]
 | .one _ => by simp [dy, SE.eval, GE.eval]
 | .cat x y => by simp only [dy, ct, bg σ x, bg σ y, GE.eval, zP]; omega
 | .lit l n => by simp [dy, SE.eval, GE.eval, aj]
 | .s _ | .cut .. | .enc _ | .app .. => by simp only [dy, SE.eval]
theorem an4 {l n l' n' : Nat} (σ : Nat → List Int) (h : n' < 256 ^ l') : (GE.lit (l + l') (n * Nat.pow 256 l' + n')).eval σ = (GE.lit l n).eval σ ++ (GE.lit l' n').eval σ := by
 simp only [GE.eval]
 rw [show Nat.pow 256 l' = 256 ^ l' from rfl, nv _ _ _ _ h, List.map_append]
theorem co (σ : Nat → List Int) (x y : GE) : (k7 x y).eval σ = x.eval σ ++ y.eval σ := by
 unfold k7
 split
 ·simp only [GE.eval, zD]
 ·simp only [GE.eval, List.append_nil]
 ·rw [aa]
  split
  ·rename_i h
   exact an4 σ (by simpa using h)
  ·simp only [GE.eval]
 ·rw [aa]
  split
  ·rename_i h
   rw [GE.eval, an4 σ (by simpa using h), GE.eval, List.append_assoc]
  ·simp only [GE.eval]
 ·simp only [GE.eval]
theorem ak2 (σ : Nat → List Int) (es off : Nat) (i : SE) : (anh es off i).eval σ = es * i.eval σ + off := by
 unfold anh
 rw [aa]
 split
 ·rename_i h
  obtain rfl := zW h
  rw [aa]
  split
  ·rename_i h; obtain rfl := zW h; simp
  ·rw [ct]; simp only [SE.eval]; simp
 ·rw [ct]; simp only [SE.eval, qz]; rfl
variable [Gv]
section
variable {ρ : Env} {a : W} {w : World}
theorem jb {v : AV} {x : Value} (h : VRel ρ v x) : SAll Gv.σ (aOf v) := by
 cases v <;> simp only [aOf] <;> try exact SAll.nil
 ·simp only [VRel] at h; exact h.1
 ·rename_i g
  simp only [VRel] at h
  cases g <;> exact h.1
theorem qk : ∀ {l : List AV} {xs : List Value}, VRels ρ l xs → SAll Gv.σ (agA.firstAs l)
 | [], _, _ => SAll.nil
 | v :: l, _, h => by
   simp only [VRels] at h
   obtain ⟨x, xs, _, h1, h2⟩ := h
   exact ij (jb h1) (qk h2)
theorem aq6 {v : AV} {x : Value} (h : VRel ρ v x) : SAll Gv.σ (agA v) := by
 unfold agA
 split
 ·simp only [VRel] at h; obtain ⟨ys, _, h⟩ := h; exact qk h
 ·exact jb h
theorem br {A : List SA} (hA : SAll Gv.σ A) {s : Sem Value} {x y : SE} {r : Bool} {c : Nat} {k : OR} (h : decide (x.eval Gv.σ < y.eval Gv.σ) = r → VOK ρ a w s k) : VOK ρ a w s (iw x y A r c k) := by
 unfold iw
 cases hc : cz true x y A with
 | none => trivial
 | some q =>
   dsimp only
   rw [aa]
   split <;> try trivial
   rename_i hq
   have := b7 hA hc
   have this : decide (x.eval Gv.σ < y.eval Gv.σ) = q := this
   exact h (by rw [this, xl hq])
theorem fw {v : AV} {e : SE} {x : Value} (h : q9 v = some e) (hx : VRel ρ v x) : ∃ k, knd v = some k ∧ x = .int k (e.eval Gv.σ) := by
 cases v <;> simp only [q9] at h <;> try (cases h; done)
 ·cases h; simp only [VRel] at hx; exact ⟨_, rfl, by rw [hx]; simp only [SE.eval]⟩
 ·cases h; simp only [VRel] at hx; exact ⟨_, rfl, hx.2⟩
theorem jy {v : AV} {g : GE} {x : Value} (h : adg v = some g) (hx : VRel ρ v x) : x = .string (ai (g.eval Gv.σ)) ∧ c7 (g.eval Gv.σ) := by
 cases v <;> simp only [adg] at h <;> try (cases h; done)
 ·cases h
  simp only [VRel] at hx
  obtain ⟨h1, rfl⟩ := hx
  simp only [GE.eval]
  refine ⟨by rw [kf]; rfl, jv _⟩
 ·rename_i q
  cases q <;> simp only [] at h <;> try (cases h; done)
  cases h
  simp only [VRel] at hx
  exact ⟨hx.2.1, hx.2.2⟩
theorem xe {t : TypeId} {p' : Value} {r : OR} (h : mt t = some none) (hv : VOK ρ a w (do load (← Instr.sureAddr p')) r) : VOK ρ a w (Instr.loadAt t p') r := by
 obtain ⟨d, n, hd, hs, hr⟩ := ic h
 have hagg : ei d = false := by cases e : ei d with | false => rfl | true => rw [e] at hr; simp at hr
 refine hv.of_run ?_
 simp only [Instr.loadAt, loadVar, zR]
 cases hsr : (Instr.sureAddr p').run PP w with
 | halt h w' => rfl
 | ok ad w' => simp only [zQ, zR, iy hd, hagg, zF, if_false]
theorem aym {t : TypeId} {n : Nat} {p' : Value} {r : OR} (h : mt t = some (some n)) (hv : VOK ρ a w (do pure (.agg (← loadCells (← Instr.sureAddr p') n))) r) : VOK ρ a w (Instr.loadAt t p') r := by
 obtain ⟨d, m, hd, hs, hr⟩ := ic h
 by_cases hagg : ei d = true
 ·rw [if_pos hagg] at hr
  injection hr with hr
  injection hr with hr
  subst hr
  refine hv.of_run ?_
  simp only [Instr.loadAt, loadVar, zR]
  cases hsr : (Instr.sureAddr p').run PP w with
  | halt h w' => rfl
  | ok ad w' => simp only [zQ, zR, iy hd, hagg, if_true, ax hs]
 ·rw [if_neg hagg] at hr
  split at hr <;> cases hr
theorem rm {ks : List IntKind} {g : GE} {es c : Nat} {i : SE} {A : List SA} (hA : SAll Gv.σ A) (hi : 0 ≤ i.eval Gv.σ)
  (hc : ∀ j k, ks[j]? = some k → w.cell? ⟨c, es * (i.eval Gv.σ).toNat + j, none⟩ = some (.int k ((g.eval Gv.σ).getD (es * (i.eval Gv.σ).toNat + j) 0))) :
  ∀ (n off : Nat) (l : List AV), vz ks g es i A n off = some l → ∃ l' : List Value, l'.length = n ∧ VRels ρ l l' ∧ ∀ j v, l'[j]? = some v → w.cell? ⟨c, es * (i.eval Gv.σ).toNat + off + j, none⟩ = some v
 | 0, off, l, h => by cases h; exact ⟨[], rfl, by simp only [VRels], fun j v hj => by simp at hj⟩
 | n + 1, off, l, h => by
   simp only [vz] at h
   split at h <;> try (cases h; done)
   rename_i k hk
   rw [oh] at hk
   simp only [zG] at h
   obtain ⟨r, hr, rfl⟩ := h
   obtain ⟨l', h1, h2, h3⟩ := rm hA hi hc n (off + 1) r hr
   have e : ((anh es off i).eval Gv.σ).toNat = es * (i.eval Gv.σ).toNat + off := by
    rw [ak2]
    obtain ⟨m, hm⟩ := Int.eq_ofNat_of_zero_le hi
    rw [hm]
    show ((es : Int) * (m : Int) + (off : Int)).toNat = es * (m : Int).toNat + off
    rw [← Int.natCast_mul, ← Int.natCast_add]
    exact Int.toNat_natCast _
   refine ⟨.int k ((g.eval Gv.σ).getD (es * (i.eval Gv.σ).toNat + off) 0) :: l', by simp [h1], ?_, ?_⟩
   ·simp only [VRels, VRel, ac2, SE.eval, e]
    exact ⟨_, _, rfl, ⟨hA, rfl⟩, h2⟩
   ·intro j v hj
    cases j with
    | zero => simp at hj; rw [← hj]; exact hc off k hk
    | succ j =>
      have := h3 j v (by simpa using hj)
      rw [show es * (i.eval Gv.σ).toNat + off + (j + 1) = es * (i.eval Gv.σ).toNat + (off + 1) + j by omega]
      exact this
theorem asl {t : TypeId} {ks : List IntKind} {n : SE} {g : GE} {c : Nat} {i : Nat} (ho : GORel (.gh t ks n g) (w.heap[c]?)) (hi : (i : Int) < n.eval Gv.σ) :
  ∀ j k, ks[j]? = some k → w.cell? ⟨c, ks.length * i + j, none⟩ = some (.int k ((g.eval Gv.σ).getD (ks.length * i + j) 0)) := by
 obtain ⟨arr, fz, h1, h2, h3, h4, h5, _, h6⟩ := ho
 intro j k hk
 have hj : j < ks.length := (List.getElem?_eq_some_iff.1 hk).1
 have hlt : ks.length * i + j < (g.eval Gv.σ).length := by
  rw [h4]
  have : i + 1 ≤ (n.eval Gv.σ).toNat := by omega
  have := Nat.mul_le_mul_left ks.length this
  rw [Nat.mul_add] at this
  omega
 obtain ⟨k', q1, q2⟩ := h6 _ hlt
 rw [Nat.mul_add_mod, Nat.mod_eq_of_lt hj, hk] at q1
 injection q1 with q1
 subst q1
 rw [df h1, q2]
 simp [hlt]
theorem aqw (hw : WRel ρ a w) {b : K} {c0 : Nat} {o i o' n : SE} {g : GE} {A : List SA} (hA : SAll Gv.σ A) (hc : ρ b = some c0) (hi : 0 ≤ i.eval Gv.σ) (hg : bz b a = .gob (.rh o' n g)) (t : TypeId) (c : Nat) :
  VOK ρ a w (Instr.loadAt t (.pointer (some ⟨c0, (o.eval Gv.σ).toNat + (i.eval Gv.σ).toNat, none⟩))) (ahk t o i o' n g A a c) := by
 unfold ahk
 split <;> try trivial
 rename_i k x d
 rw [aa]
 split <;> try trivial
 rename_i hoo
 have := av _ _ hoo
 subst this
 refine br hA fun h1 => br hA fun h2 => br hA fun hlt => ?_
 have h1 : 0 ≤ x.eval Gv.σ := by have := of_decide_eq_false h1; simp only [SE.eval] at this; omega
 have h2 : 0 ≤ d.eval Gv.σ := by have := of_decide_eq_false h2; simp only [SE.eval] at this; omega
 have hlt : (gk d i).eval Gv.σ < n.eval Gv.σ := by simpa using hlt
 obtain ⟨arr, t', fz, e1, e2, e3, e4⟩ := (show GORel (.rh x n g) (w.heap[c0]?) from hw.block hg (by simp) hc)
 split <;> try trivial
 rename_i ha
 have hs := ct Gv.σ d i
 have hl : ((gk d i).eval Gv.σ).toNat < (g.eval Gv.σ).length := by omega
 have ho : (SE.bin 6 k x d).eval Gv.σ = x.eval Gv.σ + d.eval Gv.σ := by simp only [SE.eval, qz]
 refine xe ha (VOK.here hw (v' := .int .i64 ((g.eval Gv.σ).getD ((gk d i).eval Gv.σ).toNat 0)) ?_ (by simp only [VRel]; exact ⟨hA, by simp only [ac2, SE.eval]⟩))
 have h5 : w.cell? ⟨c0, ((SE.bin 6 k x d).eval Gv.σ).toNat + (i.eval Gv.σ).toNat, none⟩ = some (.int .i64 ((g.eval Gv.σ).getD ((gk d i).eval Gv.σ).toNat 0)) := by
  have e : ((SE.bin 6 k x d).eval Gv.σ).toNat + (i.eval Gv.σ).toNat = (x.eval Gv.σ).toNat + ((gk d i).eval Gv.σ).toNat := by omega
  rw [e, df e1, e4 _ hl]
  simp [hl]
 simp [Instr.sureAddr, h5]
theorem ab5 {i : SE} {v : AV} : ∀ {ps : List GP}, agf i ps = some v → ∃ t k, GP.mk i t k ∈ ps ∧ v = .iface t (.ptr k 0)
 | [], h => by cases h
 | .mk e t k :: l, h => by
   simp only [agf, aa] at h
   split at h
   ·rename_i he
    obtain rfl := av _ _ he
    injection h with h
    exact ⟨t, k, List.mem_cons_self .., h.symm⟩
   ·obtain ⟨t', k', h1, h2⟩ := ab5 h
    exact ⟨t', k', zA _ h1, h2⟩
theorem aqv (hw : WRel ρ a w) {b : K} {c0 es off : Nat} {i n : SE} {g : GE} {ro : Bool} {t' : TypeId} {ps : List GP} (hc : ρ b = some c0) (hg : bz b a = .gp ro t' n g ps) (t : TypeId) (c : Nat) :
  VOK ρ a w (Instr.loadAt t (.pointer (some ⟨c0, es * (i.eval Gv.σ).toNat + off, none⟩))) (ahj t es off i ps a c) := by
 unfold ahj
 rw [aa]
 split <;> try trivial
 rename_i h
 simp only [zU] at h
 obtain rfl := zW h.1
 obtain rfl := zW h.2
 split <;> try trivial
 rename_i v ha hv
 obtain ⟨ty, k, hm, rfl⟩ := ab5 hv
 obtain ⟨arr, fz, e1, e2, e3, e4, e5, e6, e7⟩ := (show ORel ρ (.gp ro t' n g ps) (w.heap[c0]?) from hw.block hg (by simp) hc)
 obtain ⟨_, c1, q1, q2⟩ := e7 _ _ _ hm
 refine xe ha (VOK.here hw (v' := .iface ty (.pointer (some ⟨c1, 0, none⟩))) ?_ (by simp only [VRel]; exact ⟨_, rfl, c1, q1, rfl⟩))
 have h5 : w.cell? ⟨c0, (i.eval Gv.σ).toNat, none⟩ = some (.iface ty (.pointer (some ⟨c1, 0, none⟩))) := by
  rw [df e1]; exact q2
 simp [Instr.sureAddr, h5]
theorem a0e (hw : WRel ρ a w) {p : AV} {p' : Value} (hp : VRel ρ p p') (t : TypeId) (c : Nat) : VOK ρ a w (Instr.loadAt t p') (akp t p a c) := by
 unfold akp
 split <;> try trivial
 ·rename_i b es i off A
  simp only [VRel] at hp
  obtain ⟨hA, c0, hc, hi, rfl⟩ := hp
  split <;> try trivial
  ·rename_i t' ks n g hg
   rw [aa]
   split <;> try trivial
   rename_i hes
   have hes := zW hes
   rw [ao] at hes
   subst hes
   refine br hA fun hlt => ?_
   have hlt : i.eval Gv.σ < n.eval Gv.σ := by simpa using hlt
   have ho : GORel (.gh t' ks n g) (w.heap[c0]?) := hw.block hg (by simp) hc
   have hcl := asl (i := (i.eval Gv.σ).toNat) ho (by omega)
   split
   ·rename_i ha
    split <;> try trivial
    rename_i v hv
    obtain ⟨l', h1, h2, h3⟩ := rm (ρ := ρ) hA hi hcl _ _ _ hv
    simp only [VRels] at h2
    obtain ⟨x, xs, rfl, h4, _⟩ := h2
    refine xe ha (VOK.here hw (v' := x) ?_ h4)
    have := h3 0 x (by simp)
    simp only [Nat.add_zero] at this
    simp [Instr.sureAddr, this]
   ·rename_i m ha
    split <;> try trivial
    rename_i l hl
    obtain ⟨l', h1, h2, h3⟩ := rm (ρ := ρ) hA hi hcl _ _ _ hl
    refine aym ha (VOK.here hw (v' := .agg l'.toArray) ?_ (by simp only [VRel]; exact ⟨_, rfl, by simpa using h2⟩))
    simp [Instr.sureAddr, fq h1 h3]
   ·trivial
  ·rename_i hg
   exact aqv hw hc hg t c
 ·rename_i b o i A
  simp only [VRel] at hp
  obtain ⟨hA, c0, hc, hi, rfl⟩ := hp
  split <;> try trivial
  ·rename_i o' n g hg
   rw [aa]
   split
   ·rename_i hoo
    have := av _ _ hoo
    subst this
    refine br hA fun hlt => ?_
    have hlt : i.eval Gv.σ < n.eval Gv.σ := by simpa using hlt
    obtain ⟨arr, t', fz, e1, e2, e3, e4⟩ := (show GORel (.rh o n g) (w.heap[c0]?) from hw.block hg (by simp) hc)
    split <;> try trivial
    rename_i ha
    have hl : (i.eval Gv.σ).toNat < (g.eval Gv.σ).length := by omega
    refine xe ha (VOK.here hw (v' := .int .i64 ((g.eval Gv.σ).getD (i.eval Gv.σ).toNat 0)) ?_ (by simp only [VRel]; exact ⟨hA, by simp only [ac2, SE.eval]⟩))
    have h5 : w.cell? ⟨c0, (o.eval Gv.σ).toNat + (i.eval Gv.σ).toNat, none⟩ = some (.int .i64 ((g.eval Gv.σ).getD (i.eval Gv.σ).toNat 0)) := by
     rw [df e1, e4 _ hl]
     simp [hl]
    simp [Instr.sureAddr, h5]
   ·exact aqw hw hA hc hi hg t c
  ·rename_i o' n g hg
   rw [aa]
   split <;> try trivial
   rename_i hoo
   have := av _ _ hoo
   subst this
   refine br hA fun hlt => ?_
   have hlt : i.eval Gv.σ < n.eval Gv.σ := by simpa using hlt
   obtain ⟨arr, t', fz, e1, e2, e3, e4⟩ := (show GORel (.rb o n g) (w.heap[c0]?) from hw.block hg (by simp) hc)
   have hl : (i.eval Gv.σ).toNat < (g.eval Gv.σ).length := by omega
   have h5 : w.cell? ⟨c0, (o.eval Gv.σ).toNat + (i.eval Gv.σ).toNat, none⟩ = some (.bool (decide ((g.eval Gv.σ).getD (i.eval Gv.σ).toNat 0 ≠ 0))) := by
    rw [df e1, e4 _ hl]
    simp [hl]
   split <;> try trivial
   rename_i r ha hr
   have hr : decide ((g.eval Gv.σ).getD (i.eval Gv.σ).toNat 0 = 0) = r := by
    have this : decide ((ac2 g i).eval Gv.σ = (SE.c 0).eval Gv.σ) = r := b7 hA hr
    simpa only [ac2, SE.eval] using this
   refine xe ha (VOK.here hw (v' := .bool (!r)) ?_ (by simp only [VRel]))
   have h6 : decide ((g.eval Gv.σ).getD (i.eval Gv.σ).toNat 0 ≠ 0) = !r := by rw [← hr]; simp
   rw [h6] at h5
   simp [Instr.sureAddr, h5]
theorem aea (hw : WRel ρ a w) {t : TypeId} {x i : AV} {x' i' : Value} (hx : VRel ρ x x') (hi : VRel ρ i i') (c : Nat) : VOK ρ a w (Instr.indexAt t x' i') (nr t x i a c) := by
 unfold nr
 split <;> try trivial
 ·rename_i b es n A e el hse hu
  obtain ⟨k, _, rfl⟩ := fw hse hi
  have hAi := jb hi
  simp only [VRel] at hx
  obtain ⟨hA, c0, cap', hc, h1, h2, h3, rfl⟩ := hx
  rw [aa]
  split <;> try trivial
  split <;> try trivial
  rename_i s hs
  rw [aa]
  split <;> try trivial
  rename_i hes
  obtain rfl := zW hes
  refine br (ij hA hAi) fun hlo => br (ij hA hAi) fun hhi => ?_
  have hlo : 0 ≤ e.eval Gv.σ := by have := of_decide_eq_false hlo; simp only [SE.eval] at this; omega
  have hhi : e.eval Gv.σ < n.eval Gv.σ := by simpa using hhi
  refine VOK.here hw (v' := .pointer (some ⟨c0, 0 + (e.eval Gv.σ).toNat * s, none⟩)) ?_ ?_
  ·have hb : (0 : Int) ≤ e.eval Gv.σ ∧ e.eval Gv.σ < ((n.eval Gv.σ).toNat : Int) := ⟨hlo, by omega⟩
   simp only [Instr.indexAt, zR, asIntOf, zT, zQ, ab hu, hb, and_self, if_true, zR, ax hs, ba]
  ·simp only [VRel]
   exact ⟨ij hA hAi, c0, hc, hlo, by simp [Nat.mul_comm]⟩
 ·rename_i b o n A e el hse hu
  obtain ⟨k, _, rfl⟩ := fw hse hi
  have hAi := jb hi
  simp only [VRel] at hx
  obtain ⟨hA, c0, cap', hc, h1, h2, rfl⟩ := hx
  split <;> try trivial
  rename_i hs
  refine br (ij hA hAi) fun hlo => br (ij hA hAi) fun hhi => ?_
  have hlo : 0 ≤ e.eval Gv.σ := by have := of_decide_eq_false hlo; simp only [SE.eval] at this; omega
  have hhi : e.eval Gv.σ < n.eval Gv.σ := by simpa using hhi
  refine VOK.here hw (v' := .pointer (some ⟨c0, (o.eval Gv.σ).toNat + (e.eval Gv.σ).toNat * 1, none⟩)) ?_ ?_
  ·have hb : (0 : Int) ≤ e.eval Gv.σ ∧ e.eval Gv.σ < ((n.eval Gv.σ).toNat : Int) := ⟨hlo, by omega⟩
   simp only [Instr.indexAt, zR, asIntOf, zT, zQ, ab hu, hb, and_self, if_true, zR, ax hs, ba]
  ·simp only [VRel]
   exact ⟨ij hA hAi, c0, hc, hlo, by simp⟩
theorem aqu (hw : WRel ρ a w) {t : TypeId} {x i : AV} {x' i' : Value} (hx : VRel ρ x x') (hi : VRel ρ i i') (c : Nat) : VOK ρ a w (Instr.index t x' i') (ads t x i a c) := by
 unfold ads
 split <;> try trivial
 rename_i g e hsg hse hu
 obtain ⟨k, _, rfl⟩ := fw hse hi
 have hAi := ij (jb hx) (jb hi)
 obtain ⟨rfl, hb⟩ := jy hsg hx
 refine br hAi fun hlo => br hAi fun hhi => ?_
 have hlo : 0 ≤ e.eval Gv.σ := by have := of_decide_eq_false hlo; simp only [SE.eval] at this; omega
 rw [bg] at hhi
 have hhi : e.eval Gv.σ < ((g.eval Gv.σ).length : Int) := by simpa using hhi
 have hlt : (e.eval Gv.σ).toNat < (g.eval Gv.σ).length := by omega
 refine VOK.here hw (v' := .int .u8 ((g.eval Gv.σ).getD (e.eval Gv.σ).toNat 0)) ?_ (by simp only [VRel]; exact ⟨hAi, rfl⟩)
 have hg : (ai (g.eval Gv.σ))[(e.eval Gv.σ).toNat]? = some (UInt8.ofNat (g.eval Gv.σ)[(e.eval Gv.σ).toNat].toNat) := ux _ hlt
 simp only [Instr.index, zR, asIntOf, zT, zQ, ab hu, hlo, if_true]
 rw [hg]
 simp only [zT]
 have := oo (hb _ (List.getElem_mem hlt))
 rw [this]
 simp [hlt]
end
end Go.Ev
set_option linter.all false
namespace Go.Ev
variable [Gv]
section
variable {ρ : Env} {a : W} {w : World}
theorem nu {x y : Int} {r : Bool} (h : decide (x < y) = r) : (r = true → x < y) ∧ (r = false → ¬ x < y) := by subst h; exact ⟨of_decide_eq_true, of_decide_eq_false⟩
theorem px {l m : List Int} (hl : c7 l) (hm : c7 m) : ((ai l).toList == (ai m).toList) = decide (l = m) := by
 rw [Bool.eq_iff_iff, beq_iff_eq, decide_eq_true_eq]
 constructor
 ·intro e
  refine akz hl hm ?_
  have e1 : (ai l).toList = (l.map fun x => UInt8.ofNat x.toNat) := by unfold ai; rw [ByteArray.toList_mk]
  have e2 : (ai m).toList = (m.map fun x => UInt8.ofNat x.toNat) := by unfold ai; rw [ByteArray.toList_mk]
  rw [e1, e2] at e
  unfold ai
  rw [e]
 ·intro e; rw [e]
theorem af5 {σ : Nat → List Int} {g h : GE} {A : List SA} {r : Bool} (hA : SAll σ A) (hr : cz false (.eqg g h) (.c 1) A = some r) : decide (g.eval σ = h.eval σ) = r := by
 have := b7 hA hr
 have this : decide ((SE.eqg g h).eval σ = (SE.c 1).eval σ) = r := this
 rw [← this]
 simp only [SE.eval]
 by_cases e : g.eval σ = h.eval σ <;> simp [e]
theorem am7 (hw : WRel ρ a w) {op : BinOp} {t : TypeId} {x y : Operand} {g h : GE} {A : List SA} (hA : SAll Gv.σ A) (hg : c7 (g.eval Gv.σ)) (hh : c7 (h.eval Gv.σ)) (c : Nat) :
  VOK ρ a w (do eqGuard op t x y (.string (ai (g.eval Gv.σ))) (.string (ai (h.eval Gv.σ))); binOp op t (.string (ai (g.eval Gv.σ))) (.string (ai (h.eval Gv.σ)))) (aau op g h A a c) := by
 have hgd := fun op => gn (w := w) (op := op) (t := t) (x := x) (y := y) (b' := .string (ai (g.eval Gv.σ))) (c' := .string (ai (h.eval Gv.σ))) (by simp) (by simp)
 unfold aau
 split <;> try trivial
 ·refine br hA fun hlt => ?_
  rw [bg, co] at hlt
  have hlt := (nu hlt).2 rfl
  simp only [SE.eval] at hlt
  refine VOK.here hw (v' := .string (ai (g.eval Gv.σ) ++ ai (h.eval Gv.σ))) ?_ ?_
  ·have : ¬ (((ai (g.eval Gv.σ)).size + (ai (h.eval Gv.σ)).size : Nat) : Int) > IntKind.i64.max := by
    rw [b8, b8]
    simp [IntKind.max, IntKind.bits, IntKind.signed]
    simp at hlt; omega
   simp only [zR, hgd, zQ]
   simp only [binOp, Op.stringOp, this, if_false]
   rfl
  ·simp only [VRel]
   refine ⟨hA, by rw [ad1, co], ?_⟩
   rw [co]
   intro z hz
   rcases List.mem_append.1 hz with e | e
   ·exact hg z e
   ·exact hh z e
 ·cases hr : cz false (.eqg g h) (.c 1) A with
  | none => trivial
  | some r =>
    refine VOK.here hw (v' := .bool r) ?_ (d9 rfl)
    simp only [zR, hgd, zQ]
    rw [binOp_string_eql, px hg hh, af5 hA hr]
    rfl
 ·cases hr : cz false (.eqg g h) (.c 1) A with
  | none => trivial
  | some r =>
    refine VOK.here hw (v' := .bool (!r)) ?_ (d9 rfl)
    simp only [zR, hgd, zQ]
    rw [binOp_string_neq, px hg hh, af5 hA hr]
    rfl
theorem a0b (hw : WRel ρ a w) {op : BinOp} {t : TypeId} {k : IntKind} {e f : SE} {A : List SA} (hA : SAll Gv.σ A) (c : Nat) :
  VOK ρ a w (binOp op t (.int k (e.eval Gv.σ)) (.int k (f.eval Gv.σ))) (aoq op k e f A a c) := by
 unfold aoq
 split <;> try trivial
 all_goals
  refine VOK.here hw (v' := .int k _) ?_ (by simp only [VRel]; exact ⟨hA, rfl⟩)
  simp only [binOp, ne_eq, not_true_eq_false, if_false, SE.eval, qz]
  exact ir rfl
theorem aq0 (hw : WRel ρ a w) {op : BinOp} {t : TypeId} {k k' : IntKind} {e f : SE} {A : List SA} (hA : SAll Gv.σ A) (c : Nat) :
  VOK ρ a w (binOp op t (.int k (e.eval Gv.σ)) (.int k' (f.eval Gv.σ))) (ahl op k e f A a c) := by
 unfold ahl
 split <;> try trivial
 all_goals
  refine br hA fun hlt => ?_
  have hlt := (nu hlt).2 rfl
  simp only [SE.eval] at hlt
  refine VOK.here hw (v' := .int k _) ?_ (by simp only [VRel]; exact ⟨hA, rfl⟩)
  simp [binOp, Op.shift, hlt, SE.eval, qz]
theorem aqt (hw : WRel ρ a w) {A : List SA} (hA : SAll Gv.σ A) : ∀ (d : Nat) (t : TypeId) (x y : AV) (r : Bool) (x' y' : Value), aor a A d t x y = some r → VRel ρ x x' → VRel ρ y y' → aks w (d + 8) t x' y' r := by
 intro d
 induction d with
 | zero => intro t x y r x' y' h; cases h
 | succ d ih =>
   intro t x y r x' y' h hx hy D hD
   unfold aor at h
   split at h
   ·rename_i ht
    split at h <;> try (cases h; done)
    rename_i e f k k' he hf hk hk'
    rw [aa] at h
    split at h <;> try (cases h; done)
    rename_i hkk
    obtain rfl := (cq _ _).1 hkk
    obtain ⟨k1, e1, rfl⟩ := fw he hx
    obtain ⟨k2, e2, rfl⟩ := fw hf hy
    rw [hk] at e1; cases e1
    rw [hk'] at e2; cases e2
    have := b7 hA h
    have this : decide (e.eval Gv.σ = f.eval Gv.σ) = r := this
    obtain ⟨D, rfl⟩ : ∃ E, D = E + 1 := ⟨D - 1, by omega⟩
    simp only [Op.equalIn, zR, ab ht, zQ, zT, tl, this]
    first | rfl | simp
   ·rename_i ht
    split at h <;> try (cases h; done)
    rename_i g f hg hf
    obtain ⟨rfl, q1⟩ := jy hg hx
    obtain ⟨rfl, q2⟩ := jy hf hy
    obtain ⟨D, rfl⟩ : ∃ E, D = E + 1 := ⟨D - 1, by omega⟩
    simp only [Op.equalIn, zR, ab ht, zQ, beq_toListBytes, px q1 q2, af5 hA h, zT]
   ·rename_i fs ht
    split at h <;> try (cases h; done)
    rename_i xs ys
    rw [aa] at h
    split at h <;> try (cases h; done)
    rename_i hst
    simp only [VRel] at hx hy
    obtain ⟨xs', rfl, hx⟩ := hx
    obtain ⟨ys', rfl, hy⟩ := hy
    obtain ⟨D, rfl⟩ : ∃ E, D = E + 1 := ⟨D - 1, by omega⟩
    exact wk (bi ht) (by simpa using hst) (wj (d := d + 8) ih hx hy fs.toList r h D (by omega))
   ·exact o0 hw 8 t x y r x' y' h hx hy D (by omega)
theorem afq (hw : WRel ρ a w) {r : Bool} {t : TypeId} {x y : Operand} {b c : AV} {b' c' : Value} (hg : (a07 b && a07 c && ql t x y b c) = true) (hb : VRel ρ b b') (hc : VRel ρ c c') (n : Nat) :
  VOK ρ a w (do eqGuard (bc r BinOp.eql BinOp.neq) t x y b' c'; binOp (bc r BinOp.eql BinOp.neq) t b' c') (y8 r t b c a n) := by
 simp only [zU] at hg
 obtain ⟨⟨g1, g2⟩, g3⟩ := hg
 unfold y8
 have hA := ij (aq6 hb) (aq6 hc)
 split
 ·rename_i q hq
  have hrun := aqt hw hA 3 t b c q b' c' hq hb hc 10000 (by omega)
  have hgu := fun op => yi (w := w) (op := op) g3 hb hc (by rintro rfl; cases g1) (by rintro rfl; cases g2)
  cases b <;> first | (cases g1; done) | skip
  cases c <;> first | (cases g2; done) | skip
  simp only [VRel] at hb hc
  obtain ⟨xs, rfl, _⟩ := hb
  obtain ⟨ys, rfl, _⟩ := hc
  cases r
  ·refine VOK.here hw (v' := .bool (!q)) ?_ (d9 rfl)
   simp only [vq, zR, hgu, zQ]
   show (do pure (Value.bool (!(← Op.equal t (.agg xs) (.agg ys)))) : Sem Value).run PP w = _
   simp only [Op.equal, Op.maxDepth, zR, hrun, zQ, zT]
  ·refine VOK.here hw (v' := .bool q) ?_ (d9 rfl)
   simp only [vr, zR, hgu, zQ]
   show (do pure (Value.bool (← Op.equal t (.agg xs) (.agg ys))) : Sem Value).run PP w = _
   simp only [Op.equal, Op.maxDepth, zR, hrun, zQ, zT]
 ·split
  ·split <;> trivial
  ·trivial
theorem a3v (hw : WRel ρ a w) {op : BinOp} {t : TypeId} {x y : Operand} {b c : AV} {b' c' : Value} (hb : VRel ρ b b') (hc : VRel ρ c c') (n : Nat) :
  VOK ρ a w (do eqGuard op t x y b' c'; binOp op t b' c') (a0a op t x y b c a n) := by
 unfold a0a
 have hA := ij (jb hb) (jb hc)
 split
 ·rename_i g h hg hh
  obtain ⟨rfl, q1⟩ := jy hg hb
  obtain ⟨rfl, q2⟩ := jy hh hc
  exact am7 hw hA q1 q2 n
 ·split
  ·rename_i e f k k' he hf hk hk'
   obtain ⟨k1, e1, rfl⟩ := fw he hb
   obtain ⟨k2, e2, rfl⟩ := fw hf hc
   rw [hk] at e1; cases e1
   rw [hk'] at e2; cases e2
   have hgd := gn (w := w) (op := op) (t := t) (x := x) (y := y) (b' := .int k (e.eval Gv.σ)) (c' := .int k' (f.eval Gv.σ)) (by simp) (by simp)
   rw [aa]
   split
   ·exact (aq0 (t := t) (k' := k') hw hA n).of_run (by simp only [zR, hgd, zQ])
   ·rw [aa]
    split <;> try trivial
    rename_i hkk
    obtain rfl := (cq _ _).1 hkk
    exact (a0b (t := t) hw hA n).of_run (by simp only [zR, hgd, zQ])
  ·rw [aa]
   split <;> try trivial
   rename_i hg
   split <;> try trivial
   ·exact afq (r := true) hw hg hb hc n
   ·exact afq (r := false) hw hg hb hc n
theorem a0c (hw : WRel ρ a w) {src dst : TypeId} {x : AV} {x' : Value} (hx : VRel ρ x x') (c : Nat) : VOK ρ a w (convert src dst x') (ako src dst x a c) := by
 unfold ako
 split <;> try trivial
 ·rename_i d k k' e A hs hd
  simp only [VRel] at hx; obtain ⟨hA, rfl⟩ := hx
  refine VOK.here hw (v' := .int k (k.wrap (e.eval Gv.σ))) ?_ (by simp only [VRel]; exact ⟨hA, by simp [SE.eval, qz]⟩)
  simp only [convert, zR, ab hs, ab hd, zQ]
  cases d <;> simp only [Conv.intToInt, zT]
 ·rename_i d k e A hs hd
  simp only [VRel] at hx; obtain ⟨hA, rfl⟩ := hx
  refine VOK.here hw (v' := .string (Utf8.encode (e.eval Gv.σ))) ?_ ?_
  ·simp only [convert, zR, ab hs, ab hd, zQ]
   cases d <;> simp only [Conv.intToString, zT]
  ·simp only [VRel]
   exact ⟨hA, by simp only [GE.eval]; rw [kf], by simp only [GE.eval]; exact jv _⟩
 ·rename_i d g A hs hd
  have hx0 := hx
  simp only [VRel] at hx; obtain ⟨hA, rfl, hb⟩ := hx
  refine VOK.here hw (v' := .string (ai (g.eval Gv.σ))) ?_ hx0
  simp only [convert, zR, ab hs, ab hd, zQ]
  cases d <;> simp only [zT]
theorem ahw {o : Option AV} {o' : Option Value} {d e : SE} (h : a4k o d = some e) (ho : cj ρ o o') : SAll Gv.σ (a4f o) ∧ ((o' = none ∧ e = d) ∨ ∃ k, o' = some (.int k (e.eval Gv.σ))) := by
 cases o with
 | none => simp only [cj] at ho; subst ho; cases h; exact ⟨SAll.nil, .inl ⟨rfl, rfl⟩⟩
 | some v =>
   simp only [cj] at ho; obtain ⟨v', rfl, hv⟩ := ho
   obtain ⟨k, _, rfl⟩ := fw h hv
   exact ⟨jb hv, .inr ⟨k, rfl⟩⟩
theorem rf (l : List Int) (lo hi : Nat) : (ai l).extract lo hi = ai ((l.take hi).drop lo) := by
 apply ByteArray.ext
 simp only [ai, ByteArray.data_extract]
 apply Array.toList_inj.1
 simp [List.map_drop, List.map_take, List.drop_take]
theorem am6 (hw : WRel ρ a w) {t : TypeId} {x : AV} {x' : Value} {lo hi mx : Option AV} {lo' hi' mx' : Option Value} (hx : VRel ρ x x') (hlo : cj ρ lo lo') (hhi : cj ρ hi hi') (hmx : cj ρ mx mx') (c : Nat) :
  VOK ρ a w (Instr.sliceAt t x' lo' hi' mx') (aat t x lo hi mx a c) := by
 unfold aat
 split <;> try trivial
 rename_i g l hu hg hl
 simp only [cj] at hmx
 subst hmx
 split <;> try trivial
 rename_i h hh
 obtain ⟨a1, b1⟩ := ahw hl hlo
 obtain ⟨a2, b2⟩ := ahw hh hhi
 have hA := ij (jb hx) (ij a1 a2)
 obtain ⟨rfl, hb⟩ := jy hg hx
 refine br hA fun h1 => br hA fun h2 => br hA fun h3 => ?_
 have h1 := (nu h1).2 rfl
 have h2 := (nu h2).2 rfl
 have h3 := (nu h3).2 rfl
 rw [bg] at h3
 simp only [SE.eval] at h1
 generalize hle : l.eval Gv.σ = L at *
 generalize hhe : h.eval Gv.σ = H at *
 refine VOK.here hw (v' := .string ((ai (g.eval Gv.σ)).extract L.toNat H.toNat)) ?_ ?_
 ·have p1 : (0 : Int) ≤ L ∧ L ≤ (H.toNat : Int) := ⟨by omega, by omega⟩
  have p2 : (0 : Int) ≤ H ∧ H ≤ ((ai (g.eval Gv.σ)).size : Int) := ⟨by omega, by rw [b8]; omega⟩
  have e1 : lo' = none → L = 0 := by
   intro e
   rcases b1 with ⟨_, rfl⟩ | ⟨k, q⟩
   ·rw [← hle]; simp only [SE.eval]
   ·rw [e] at q; cases q
  have e2 : hi' = none → H = ((ai (g.eval Gv.σ)).size : Int) := by
   intro e
   rcases b2 with ⟨_, rfl⟩ | ⟨k, q⟩
   ·rw [← hhe, bg, b8]
   ·rw [e] at q; cases q
  have hbounds : (Instr.sliceBounds false (ai (g.eval Gv.σ)).size (ai (g.eval Gv.σ)).size lo' hi' none).run PP w = .ok (L.toNat, H.toNat, (ai (g.eval Gv.σ)).size) w := by
   rcases b1 with ⟨rfl, _⟩ | ⟨k, rfl⟩ <;> rcases b2 with ⟨rfl, _⟩ | ⟨k', rfl⟩
   ·have q1 := e1 rfl; have q2 := e2 rfl
    simp only [Instr.sliceBounds, zR, zT, zQ, q1, q2, Int.toNat_natCast, Int.toNat_zero]
   ·have q1 := e1 rfl
    simp only [Instr.sliceBounds, Instr.sliceBound, zR, asIntOf, zT, zQ, p2, and_self, if_true, q1, Int.toNat_zero]
   ·have q2 := e2 rfl
    have p3 : L ≤ ((ai (g.eval Gv.σ)).size : Int) := by omega
    simp only [Instr.sliceBounds, Instr.sliceBound, zR, asIntOf, zT, zQ, p1.1, p3, and_self, if_true, q2, Int.toNat_natCast]
   ·simp only [Instr.sliceBounds, Instr.sliceBound, zR, asIntOf, zT, zQ, p1, p2, and_self, if_true]
  simp only [Instr.sliceAt, zR, ab hu, zQ, Instr.slice, Option.isSome_none, zF, if_false, hbounds, zT]
 ·simp only [VRel]
  refine ⟨hA, ?_, ?_⟩
  ·rw [rf]; simp only [GE.eval, hle, hhe]
  ·simp only [GE.eval, hle, hhe]
   exact fun z hz => hb z (List.mem_of_mem_take (List.mem_of_mem_drop hz))
theorem am5 (hw : WRel ρ a w) {t : TypeId} {b : K} {o n : SE} {A : List SA} {x' : Value} {lo hi mx : Option AV} {lo' hi' mx' : Option Value} (hx : VRel ρ (.gv (.sr b o n A)) x') (hlo : cj ρ lo lo') (hhi : cj ρ hi hi') (hmx : cj ρ mx mx') (c : Nat) :
  VOK ρ a w (Instr.sliceAt t x' lo' hi' mx') (aas t b o n A lo hi mx a c) := by
 unfold aas
 split <;> try trivial
 rename_i e l' h' hu
 split <;> try trivial
 rename_i l l2 hs hl hh
 rw [aa]
 split <;> try trivial
 rename_i hll
 have := av _ _ hll
 subst this
 simp only [VRel] at hx
 obtain ⟨hA, c0, cap', hc, hn0, hle, rfl⟩ := hx
 simp only [cj] at hlo hhi hmx
 subst hmx
 obtain ⟨lv, rfl, hlv⟩ := hlo
 obtain ⟨hv, rfl, hhv⟩ := hhi
 obtain ⟨k1, _, rfl⟩ := fw hl hlv
 obtain ⟨k2, _, rfl⟩ := fw hh hhv
 have hB := ij hA (ij (jb hlv) (jb hhv))
 refine br hB fun h0 => br hB fun h1 => br hB fun h2 => br hB fun h3 => ?_
 have h0 := (nu h0).2 rfl
 have h1 := (nu h1).2 rfl
 have h2 := (nu h2).2 rfl
 have h3 : l2.eval Gv.σ < n.eval Gv.σ := by simpa using h3
 simp only [SE.eval] at h0 h1
 have he : (SE.bin 0 .i64 l2 (.c 1)).eval Gv.σ = IntKind.i64.wrap (l2.eval Gv.σ + 1) := by simp only [SE.eval, qz]
 rw [he] at h2 ⊢
 generalize hL : l2.eval Gv.σ = L at *
 have hw1 : IntKind.i64.wrap (L + 1) = L + 1 := by
  have e : IntKind.i64.wrap (L + 1) = if (L + 1) % 18446744073709551616 ≥ 9223372036854775808 then (L + 1) % 18446744073709551616 - 18446744073709551616 else (L + 1) % 18446744073709551616 := by
   simp [IntKind.wrap, IntKind.bits, IntKind.signed]
  rw [e] at h2 ⊢
  split at h2 <;> split <;> omega
 rw [hw1] at h2 ⊢
 refine VOK.here hw (v' := .slice (some ⟨c0, (o.eval Gv.σ).toNat + L.toNat, none⟩) 1 (cap' - L.toNat)) ?_ ?_
 ·have p1 : (0 : Int) ≤ L ∧ L ≤ ((L + 1).toNat : Int) := ⟨by omega, by omega⟩
  have p2 : (0 : Int) ≤ L + 1 ∧ L + 1 ≤ (cap' : Int) := ⟨by omega, by omega⟩
  have hbounds : (Instr.sliceBounds true (n.eval Gv.σ).toNat cap' (some (.int k1 L)) (some (.int k2 (L + 1))) none).run PP w = .ok (L.toNat, (L + 1).toNat, cap') w := by
   simp only [Instr.sliceBounds, Instr.sliceBound, zR, asIntOf, zT, zQ, p2, and_self, if_true, p1]
  have hne : ¬ cap' = L.toNat := by omega
  have h11 : (L + 1).toNat - L.toNat = 1 := by omega
  simp only [Instr.sliceAt, zR, ab hu, zQ, Instr.slice, hbounds, ax hs, zT, hne, if_false, Option.map_some, ba, Nat.mul_one, h11]
 ·simp only [VRel]
  refine ⟨hB, c0, cap' - L.toNat, hc, by simp only [SE.eval]; omega, by simp only [SE.eval]; omega, ?_⟩
  rw [ct, hL]
  simp only [SE.eval]
  rw [show (o.eval Gv.σ + L).toNat = (o.eval Gv.σ).toNat + L.toNat by omega]
  rfl
theorem aq1 (hw : WRel ρ a w) {t : TypeId} {x : AV} {x' : Value} {lo hi mx : Option AV} {lo' hi' mx' : Option Value} (hx : VRel ρ x x') (hlo : cj ρ lo lo') (hhi : cj ρ hi hi') (hmx : cj ρ mx mx') (c : Nat) :
  VOK ρ a w (Instr.sliceAt t x' lo' hi' mx') (adt t x lo hi mx a c) := by
 unfold adt
 split
 ·rename_i b es n A
  unfold ahm
  split <;> try trivial
  rename_i e h m hu
  split <;> try trivial
  rename_i s m' h' l' hs em eh el
  simp only [VRel] at hx
  obtain ⟨hA, c0, cap', hc, hn0, hle, hcap, rfl⟩ := hx
  simp only [cj] at hhi hmx
  obtain ⟨hv, rfl, hhi⟩ := hhi
  obtain ⟨mv, rfl, hmx⟩ := hmx
  have hm0 : m' ≤ 0 := (iu (w := w) em hmx (zY _) .index).2
  have hm0 : m' = 0 := by omega
  subst hm0
  have hh0 : h' ≤ 0 := (iu (w := w) eh hhi (zY _) .index).2
  have hh0 : h' = 0 := by omega
  subst hh0
  have eh' : gf (some h) (n.eval Gv.σ).toNat 0 = some 0 := eh
  obtain ⟨r, b1, b2, b3⟩ := zc (isS := true) (w := w) (len := (n.eval Gv.σ).toNat) hlo hhi hmx (Nat.zero_le cap') em eh' el
  have hl0 : l' = 0 := by omega
  subst hl0
  refine VOK.here hw (v' := .slice (some ⟨c0, 0, none⟩) 0 0) ?_ (by simp only [VRel]; exact ⟨c0, 0, hc, by omega, rfl, rfl⟩)
  simp only [Instr.sliceAt, zR, ab hu, zQ, Instr.slice, r, ax hs, zT]
  rfl
 ·exact am5 hw hx hlo hhi hmx c
 ·exact am6 hw hx hlo hhi hmx c
theorem a3w (hw : WRel ρ a w) {t ty : TypeId} {ts : Array TypeId} {x : AV} {x' : Value} (h0 : ts[0]? = some t) (hx : VRel ρ x x') (c : Nat) : VOK ρ a w (Builtin.len_ ts ty #[x']) (a0d t x a c) := by
 unfold a0d
 split <;> try trivial
 ·rename_i g A hu
  simp only [VRel] at hx; obtain ⟨hA, rfl, hb⟩ := hx
  refine VOK.here hw (v' := .int .i64 ((g.eval Gv.σ).length : Int)) ?_ (by simp only [VRel]; exact ⟨hA, by rw [bg]⟩)
  simp only [Builtin.len_, h0, zL, List.getElem?_cons_zero, zR, ab hu, zQ, b8, zT]; rfl
 ·rename_i e b es n A hu
  simp only [VRel] at hx; obtain ⟨hA, c0, cap', hc, h1, h2, h3, rfl⟩ := hx
  refine VOK.here hw (v' := .int .i64 ((n.eval Gv.σ).toNat : Int)) ?_ (by simp only [VRel]; exact ⟨hA, by rw [Int.toNat_of_nonneg h1]⟩)
  simp only [Builtin.len_, h0, zL, List.getElem?_cons_zero, zR, ab hu, zQ, zT]; rfl
 ·rename_i e b o n A hu
  simp only [VRel] at hx; obtain ⟨hA, c0, cap', hc, h1, h2, rfl⟩ := hx
  refine VOK.here hw (v' := .int .i64 ((n.eval Gv.σ).toNat : Int)) ?_ (by simp only [VRel]; exact ⟨hA, by rw [Int.toNat_of_nonneg h1]⟩)
  simp only [Builtin.len_, h0, zL, List.getElem?_cons_zero, zR, ab hu, zQ, zT]; rfl
theorem aqy (hw : WRel ρ a w) {t : TypeId} {x : AV} {x' : Value} (hx : VRel ρ x x') (c : Nat) : VOK ρ a w (Instr.range t x') (am3 t x a c) := by
 unfold am3
 split <;> try trivial
 rename_i g A hu
 simp only [VRel] at hx
 obtain ⟨hA, rfl, hb⟩ := hx
 refine ue hw (obj := .stringIter (ai (g.eval Gv.σ)) 0) (f' := fun c => .pointer (some ⟨c, 0, none⟩)) ⟨hA, by simp only [SE.eval]; rfl, by simp only [SE.eval]; omega, hb⟩ ?_ ?_
 ·intro ρ' k c hk; simp only [aqb, VRel]; exact ⟨c, hk, rfl⟩
 ·simp only [Instr.range, zR, ab hu, zQ, zT, run_newObj]; rfl
theorem a0g (hw : WRel ρ a w) {it : AV} {it' : Value} {s : Bool} {t : TypeId} (hi : VRel ρ it it') (n : Nat) : VOK ρ a w (Instr.next it' s t) (a0f it s a n) := by
 unfold a0f
 split <;> try trivial
 rename_i b
 simp only [VRel] at hi
 obtain ⟨c, hc, rfl⟩ := hi
 split <;> try trivial
 rename_i g pos A hg
 obtain ⟨hA, e1, e2, e3⟩ := (show GORel (.iter g pos A) _ from hw.block hg (by simp) hc)
 have ac := bt (w := w) e1 (by simp)
 split <;> try trivial
 ·rename_i hr
  have hr := b7 hA hr
  have hr : decide (pos.eval Gv.σ < (dy g).eval Gv.σ) = true := hr
  rw [bg] at hr
  have hlt := of_decide_eq_true hr
  have hlt : (pos.eval Gv.σ).toNat < (ai (g.eval Gv.σ)).size := by rw [b8]; omega
  intro _
  refine ⟨ρ, _, .tuple #[.bool true, .int .i64 ((pos.eval Gv.σ).toNat : Int), .int .i32 ((Utf8.decode (ai (g.eval Gv.σ)) (pos.eval Gv.σ).toNat).1 : Int)], ?_, ?_, gb (obj := .stringIter (ai (g.eval Gv.σ)) ((pos.eval Gv.σ).toNat + (Utf8.decode (ai (g.eval Gv.σ)) (pos.eval Gv.σ).toNat).2)) hw (by rw [hg]; simp) (by rw [hg]; rfl) hc e1 ⟨hA, ?_, ?_, e3⟩ (by simp) (by simp) (by rw [hg]; rfl)⟩
  ·simp only [Instr.next, zR, ac, zQ, hlt, if_true]
   rw [ea e1 (by simp)]
   rfl
  ·simp only [VRel]
   refine ⟨_, rfl, ?_⟩
   simp only [VRels]
   exact ⟨_, _, rfl, by simp only [VRel], _, _, rfl, by simp only [VRel]; exact ⟨hA, by rw [Int.toNat_of_nonneg e2]⟩, _, _, rfl, by simp only [VRel]; exact ⟨hA, rfl⟩, rfl⟩
  ·rw [ct]; simp only [SE.eval]
   congr 2
   omega
  ·rw [ct]; simp only [SE.eval]; omega
 ·rename_i hr
  have hr := b7 hA hr
  have hr : decide (pos.eval Gv.σ < (dy g).eval Gv.σ) = false := hr
  rw [bg] at hr
  have hlt := of_decide_eq_false hr
  have hlt : ¬ (pos.eval Gv.σ).toNat < (ai (g.eval Gv.σ)).size := by rw [b8]; omega
  refine VOK.here hw (v' := .tuple #[.bool false]) ?_ (by simp only [VRel]; exact ⟨_, rfl, by simp only [VRels]; exact ⟨_, _, rfl, by simp only [VRel], rfl⟩⟩)
  simp only [Instr.next, zR, ac, zQ, hlt, if_false, zT]
end
end Go.Ev
set_option linter.all false
namespace Go.Ev
variable [Gv]
section
variable {ρ : Env} {a : W} {w : World}
theorem aek {e : SE} {k : IntKind} {A : List SA} (hA : SAll Gv.σ A) {k0 : IntKind} : ∀ (es : List (AV × AV)) (ms : List MapEntry) (i : Nat) (r : Option AV), ERel ρ es ms → aej e k A es = .inr r →
  (match r with | none => Instr.findNow (.int k0) (.int k (e.eval Gv.σ)) ms i = some none | some v => ∃ j v', Instr.findNow (.int k0) (.int k (e.eval Gv.σ)) ms i = some (some (j, v')) ∧ VRel ρ v v')
 | [], _, i, r, he, h => by simp only [ERel] at he; subst he; simp only [aej] at h; cases h; rfl
 | p :: es, _, i, r, he, h => by
   simp only [ERel] at he
   obtain ⟨m, ms, rfl, h1, h2, h3⟩ := he
   unfold aej at h
   split at h <;> try (cases h; done)
   rename_i k' n hp
   rw [hp] at h1
   simp only [VRel] at h1
   rw [aa] at h
   split at h <;> try (cases h; done)
   rename_i hk
   obtain rfl := (cq _ _).1 hk
   have hsame : ∀ q, cz false e (.c n) A = some q → Instr.sameNow (.int k0) (.int k (e.eval Gv.σ)) m.key = some q := by
    intro q hq
    have := b7 hA hq
    have this : decide (e.eval Gv.σ = (SE.c n).eval Gv.σ) = q := this
    simp only [SE.eval] at this
    rw [h1]
    simp only [Instr.sameNow, if_true, tl]
    exact congrArg some ((decide_eq_decide.2 Iff.rfl).trans this)
   split at h <;> try (cases h; done)
   ·rename_i hq
    cases h
    exact ⟨i, m.val, by simp only [Instr.findNow, hsame _ hq], h2⟩
   ·rename_i hq
    have := aek hA (k0 := k0) es ms (i + 1) r h3 h
    cases r with
    | none => simp only [Instr.findNow, hsame _ hq]; exact this
    | some v => obtain ⟨j, v', x, y⟩ := this; exact ⟨j, v', by simp only [Instr.findNow, hsame _ hq]; exact x, y⟩
theorem ayv {g : List Int} (hg : c7 g) : ∀ (l : List (List Int × Int)) (ms : List MapEntry) (i : Nat), MRel l ms →
  (match l.lookup g with | none => Instr.findNow .string (.string (ai g)) ms i = some none | some n => ∃ j, Instr.findNow .string (.string (ai g)) ms i = some (some (j, .int .i64 n)))
 | [], _, i, h => by have h : _ = [] := h; subst h; rfl
 | e :: l, _, i, h => by
   obtain ⟨m, ms, rfl, h1, h2, h3, h4⟩ := h
   have ih := ayv hg l ms (i + 1) h4
   have hs : Instr.sameNow .string (.string (ai g)) m.key = some (decide (g = e.1)) := by
    rw [h1]
    simp only [Instr.sameNow, beq_toListBytes, px hg h2]
   by_cases he : g = e.1
   ·have : (g == e.1) = true := by simp [he]
    simp only [List.lookup, this]
    exact ⟨i, by simp only [Instr.findNow, hs]; simp [he, h3]⟩
   ·have : (g == e.1) = false := by simp [he]
    simp only [List.lookup, this]
    simp only [Instr.findNow, hs]
    simp only [he, decide_false]
    exact ih
theorem aci {σ : Nat → List Int} {m g : GE} {A : List SA} {r : Bool} (hA : SAll σ A) (hr : cz false (.mhas m g) (.c 1) A = some r) : ((vb (m.eval σ)).lookup (g.eval σ)).isSome = r := by
 have := b7 hA hr
 have this : decide ((SE.mhas m g).eval σ = (SE.c 1).eval σ) = r := this
 rw [← this]
 simp only [SE.eval]
 by_cases hq : ((vb (m.eval σ)).lookup (g.eval σ)).isSome = true <;> simp [hq]
theorem am2 (hw : WRel ρ a w) {t : TypeId} {m k : AV} {m' k' : Value} {ok : Bool} (hm : VRel ρ m m') (hk : VRel ρ k k') (n : Nat) : VOK ρ a w (Instr.lookup t m' k' ok) (xq t m k ok a n) := by
 unfold xq
 split <;> try trivial
 rename_i b z hz
 simp only [VRel] at hm
 obtain ⟨c, hc, rfl⟩ := hm
 split <;> try trivial
 ·rename_i es hg
  split <;> try trivial
  rename_i kd e A
  simp only [VRel] at hk
  obtain ⟨hA, rfl⟩ := hk
  rw [aa]
  split <;> try trivial
  rename_i hp
  simp only [zU] at hp
  obtain ⟨kt, et, d, hu, hkd, hd⟩ := lw hp.1
  have hdk : ∃ k0, d = .int k0 := by
   have := hp.2
   unfold aiy qn at this
   rw [hu] at this
   dsimp only at this
   rw [hkd] at this
   split at this
   ·rename_i e; injection e with e; exact ⟨_, e⟩
   ·cases this
  obtain ⟨k0, rfl⟩ := hdk
  unfold kj at hz
  rw [hu] at hz
  obtain ⟨i, z', hi, hz', rfl⟩ := b9 hz
  obtain ⟨entries, clock, e1, e2⟩ := hw.block hg (by simp) hc
  have ac := bt (w := w) e1 (by simp)
  cases hf : aej e kd A es with
  | inl q => cases q <;> trivial
  | inr r =>
    have h1 := aek hA (k0 := k0) es entries.toList 0 r e2 hf
    cases r with
    | some v =>
      obtain ⟨j, v', h1, h2⟩ := h1
      refine gi hw h2 ?_
      simp only [Instr.lookup, zR, ab hu, zQ, zT, ac, bv hkd hd, ce hkd h1]
    | none =>
      refine gi hw (di ρ z') ?_
      simp only [Instr.lookup, zR, ab hu, zQ, zT, ac, bv hkd hd, ce hkd h1, de hi hz']
 ·rename_i mg hg
  split <;> try trivial
  rename_i g hsg
  rw [aa]
  split <;> try trivial
  rename_i hp
  simp only [zU] at hp
  obtain ⟨kt, et, d, hu, hkd, hd⟩ := lw hp.1
  have hdk : d = .string := by
   have := hp.2
   unfold xb qn at this
   rw [hu] at this
   dsimp only at this
   rw [hkd] at this
   split at this
   ·rename_i e; injection e
   ·cases this
  subst hdk
  have hA := jb hk
  obtain ⟨rfl, hb⟩ := jy hsg hk
  unfold kj at hz
  rw [hu] at hz
  obtain ⟨i, z', hi, hz', hzz⟩ := b9 hz
  have hzr : VRel ρ (.int .i64 0) z' := by rw [hzz]; exact di ρ z'
  obtain ⟨entries, clock, e1, e2⟩ := (show GORel (.gmap mg) _ from hw.block hg (by simp) hc)
  have ac := bt (w := w) e1 (by simp)
  have hfind := ayv hb _ _ 0 e2
  split <;> try trivial
  ·rename_i hr
   have hh := aci hA hr
   cases hl : (vb (mg.eval Gv.σ)).lookup (g.eval Gv.σ) with
   | none => rw [hl] at hh; cases hh
   | some q =>
     rw [hl] at hfind
     obtain ⟨j, hfind⟩ := hfind
     refine gi hw (v' := .int .i64 q) (by simp only [VRel, SE.eval, hl]; exact ⟨hA, rfl⟩) ?_
     simp only [Instr.lookup, zR, ab hu, zQ, zT, ac, bv hkd hd, ce hkd hfind]
  ·rename_i hr
   have hh := aci hA hr
   cases hl : (vb (mg.eval Gv.σ)).lookup (g.eval Gv.σ) with
   | some q => rw [hl] at hh; cases hh
   | none =>
     rw [hl] at hfind
     refine gi hw hzr ?_
     simp only [Instr.lookup, zR, ab hu, zQ, zT, ac, bv hkd hd, ce hkd hfind, de hi hz']
theorem al7 : ∀ (n : Nat) (f : Nat) (l : List Int), l.length ≤ n → l.length ≤ f → ajd f l = ajd l.length l := by
 intro n
 induction n with
 | zero =>
   intro f l h1 h2
   have : l = [] := List.eq_nil_of_length_eq_zero (by omega)
   subst this
   cases f <;> rfl
 | succ n ih =>
   intro f l h1 h2
   match f, l, h1, h2 with
   | 0, [], _, _ => rfl
   | f + 1, [], _, _ => rfl
   | f + 1, [x], _, _ => rfl
   | f + 1, x :: k :: l, h1, h2 =>
     simp only [zO] at h1 h2
     simp only [ajd, zO]
     rw [ih f (l.drop k.toNat) (by simp; omega) (by simp; omega), ih (l.length + 1) (l.drop k.toNat) (by simp; omega) (by simp; omega)]
theorem ap1 (f : Nat) (l : List Int) (h : l.length ≤ f) : ajd f l = ajd l.length l := al7 l.length f l (zY _) h
theorem aey (n : Int) (g m : List Int) : vb (n :: (g.length : Int) :: (g ++ m)) = vb m ++ [(g, n)] := by
 unfold vb
 simp only [zO, ajd, Int.toNat_natCast, List.take_left, List.drop_left, List.reverse_cons]
 rw [ap1 _ m (by simp; omega)]
theorem MRel.snoc {g : List Int} {n : Int} {e : MapEntry} (h1 : e.key = .string (ai g)) (h2 : c7 g) (h3 : e.val = .int .i64 n) : ∀ (l : List (List Int × Int)) (ms : List MapEntry), MRel l ms → MRel (l ++ [(g, n)]) (ms ++ [e])
 | [], _, h => by have h : _ = [] := h; subst h; exact ⟨e, [], rfl, h1, h2, h3, rfl⟩
 | x :: l, _, h => by
   obtain ⟨m, ms, rfl, q1, q2, q3, q4⟩ := h
   exact ⟨m, ms ++ [e], rfl, q1, q2, q3, MRel.snoc h1 h2 h3 l ms q4⟩
theorem am8 (hw : WRel ρ a w) {t : TypeId} {m k v : AV} {m' k' v' : Value} (hm : VRel ρ m m') (hk : VRel ρ k k') (hv : VRel ρ v v') (n : Nat) : UOK ρ a w (Instr.mapUpdate t m' k' v') (ahn t m k v a n) := by
 unfold ahn
 split <;> try trivial
 rename_i b
 simp only [VRel] at hm
 obtain ⟨c, hc, rfl⟩ := hm
 split <;> try trivial
 rename_i mg hg
 split <;> try trivial
 rename_i g e hsg hse hkv
 rw [aa]
 split <;> try trivial
 rename_i hp
 simp only [zU] at hp
 obtain ⟨kt, et, d, hu, hkd, hd⟩ := lw hp.1
 have hdk : d = .string := by
  have := hp.2
  unfold xb qn at this
  rw [hu] at this
  dsimp only at this
  rw [hkd] at this
  split at this
  ·rename_i e; injection e
  ·cases this
 subst hdk
 have hA := ij (jb hk) (jb hv)
 obtain ⟨rfl, hb⟩ := jy hsg hk
 obtain ⟨k1, e1, rfl⟩ := fw hse hv
 rw [hkv] at e1; cases e1
 obtain ⟨entries, clock, e1, e2⟩ := (show GORel (.gmap mg) _ from hw.block hg (by simp) hc)
 have ac := bt (w := w) e1 (by simp)
 have hfind := ayv hb _ _ 0 e2
 split <;> try trivial
 rename_i hr
 have hh := aci hA hr
 cases hl : (vb (mg.eval Gv.σ)).lookup (g.eval Gv.σ) with
 | some q => rw [hl] at hh; cases hh
 | none =>
   rw [hl] at hfind
   intro _
   refine ⟨rfl, ρ, _, ?_, gb (o := .gob (.gmap (k7 (.one e) (k7 (.one (dy g)) (k7 g mg))))) (obj := .map (entries.push { key := .string (ai (g.eval Gv.σ)), val := .int .i64 (e.eval Gv.σ), born := clock }) (clock + 1)) hw (by rw [hg]; simp) (by rw [hg]; rfl) hc e1 ⟨_, _, rfl, ?_⟩ (by simp) (by simp) (by rw [hg]; rfl)⟩
   ·simp only [Instr.mapUpdate, zR, ab hu, zQ, ac, bv hkd hd, ce hkd hfind]
    exact ea e1 (by simp)
   ·rw [co, co, co]
    simp only [GE.eval, bg, List.singleton_append]
    rw [aey, Array.toList_push]
    exact MRel.snoc rfl hb rfl _ _ e2
theorem ac3 {l : List Int} (hl : c7 l) : om w 1 l.length (.string (ai l)) (l.map fun x => Value.int .u8 x) := by
 refine ⟨by simp only [Builtin.lenOf, b8], by simp, fun W _ => ?_⟩
 simp only [Builtin.firstCells, zT]
 congr 1
 have e : (ai l).extract 0 l.length = ai l := by rw [rf]; simp
 rw [e]
 unfold ai
 simp only [Array.map_map, List.map_toArray, List.map_map]
 congr 1
 apply List.map_congr_left
 intro x hx
 have := oo (hl x hx)
 show Value.int .u8 ((UInt8.ofNat x.toNat).toNat : Int) = _
 rw [this]
theorem zl (hw : WRel ρ a w) {t ty e : TypeId} {ts : Array TypeId} {i : TypeInfo} {z : Value} {b : K} {c m cap' : Nat} {x' : Value} {new' : List Value} {ks : List IntKind} {n n2 : SE} {g g2 : GE} {row : List Int} {A : List SA}
  (h0 : ts[0]? = some t) (hxt : y9 ts[1]? = true) (hu : al t = some (.slice e)) (hi : PP.info? e = some i) (hz : i.zero = some z) (hzs : z.cells.size = i.size) (hbytes : i.bytes ≤ 1000000)
  (hg : bz b a = .gob (.gh e ks n g)) (hc : ρ b = some c) (hle : (n.eval Gv.σ).toNat ≤ cap') (hcap : cap' * i.size ≤ ρ.sz b) (hks : ks.length = i.size)
  (hr : om w i.size m x' new') (hn2 : n2.eval Gv.σ = n.eval Gv.σ + m) (hg2 : g2.eval Gv.σ = g.eval Gv.σ ++ row)
  (hrow : row.length = m * i.size) (hnew : ∀ (j : Nat) (h : j < row.length), ∃ k, ks[j % ks.length]? = some k ∧ new'[j]? = some (.int k row[j])) (hb : ks = [.u8] → c7 row) (hA : SAll Gv.σ A)
  (hsmall : (n.eval Gv.σ).toNat + m ≤ 400000) :
  VOK ρ a w (Builtin.append_ ts ty #[.slice (some ⟨c, 0, none⟩) (n.eval Gv.σ).toNat cap', x']) (kz (.gob (.gh e ks n2 g2)) (fun k => .gv (.sl k i.size n2 A)) (wset b .none a)) := by
 obtain ⟨arr, fz, e1, e2, e3, e4, e5, e6, e7⟩ := (show GORel (.gh e ks n g) _ from hw.block hg (by simp) hc)
 generalize hN : (n.eval Gv.σ).toNat = N at *
 have hN2 : (n2.eval Gv.σ).toNat = N + m := by omega
 have hnlen : new'.length = m * i.size := hr.2.1
 have hglen : (g.eval Gv.σ).length = N * i.size := by rw [e4, hks, Nat.mul_comm]
 have hsum : N * i.size + new'.length = (N + m) * i.size := by rw [hnlen, Nat.add_mul]
 have hobj : ∀ (arr2 : Array Value) (fz2 : Nat × Nat), fz2.2 ≤ fz2.1 → (N + m) * i.size ≤ arr2.size → (∀ j, j < N * i.size → arr2[j]? = arr[j]?) → (∀ j, j < new'.length → arr2[N * i.size + j]? = new'[j]?) →
   GORel (.gh e ks n2 g2) (some (.cells arr2 e fz2)) := by
  intro arr2 fz2 q0 q1 q2 q3
  refine ⟨arr2, fz2, rfl, q0, by omega, ?_, ?_, ?_, ?_⟩
  ·rw [hg2, zP, hglen, hrow, hN2, hks, Nat.mul_comm i.size, Nat.add_mul]
  ·rw [hg2, zP, hglen, hrow, ← Nat.add_mul]; exact q1
  ·intro hk
   rw [hg2]
   intro x hx
   rcases List.mem_append.1 hx with q | q
   ·exact e6 hk x q
   ·exact hb hk x q
  ·intro j hj
   simp only [hg2, zP, hglen, hrow] at hj
   by_cases hjn : j < N * i.size
   ·obtain ⟨k, r1, r2⟩ := e7 j (by rw [hglen]; exact hjn)
    refine ⟨k, r1, ?_⟩
    rw [q2 j hjn, r2]
    simp only [hg2]
    rw [List.getElem_append_left (by rw [hglen]; exact hjn)]
   ·obtain ⟨k, r1, r2⟩ := hnew (j - N * i.size) (by rw [hrow]; omega)
    refine ⟨k, ?_, ?_⟩
    ·have : j % ks.length = (j - N * i.size) % ks.length := by
      rw [hks]
      conv => lhs; rw [show j = (j - N * i.size) + i.size * N by rw [Nat.mul_comm i.size]; omega]
      rw [Nat.add_mul_mod_self_left]
     rw [this]; exact r1
    ·have := q3 (j - N * i.size) (by rw [hnlen]; omega)
     rw [show N * i.size + (j - N * i.size) = j by omega] at this
     rw [this, r2]
     simp only [hg2]
     congr 2
     rw [List.getElem_append_right (by rw [hglen]; omega)]
     simp only [hglen]
 have hsz := hw.len b c arr e fz (by rw [← ar, hg]; simp) hc e1
 by_cases hroom : N + m ≤ cap'
 ·have hrun := eo (w := w) (base := some ⟨c, 0, none⟩) (sLen := N) (sCap := cap') (ty := ty) h0 hxt hu hi hr hroom
  have hfit : N * i.size + new'.length ≤ arr.size := by
   have q2 : (N + m) * i.size ≤ cap' * i.size := Nat.mul_le_mul_right _ hroom
   omega
  have hone : ∀ v ∈ new', v.oneCell' = true := by
   intro v hv
   obtain ⟨j, hj, hv⟩ := List.getElem_of_mem hv
   obtain ⟨k, _, r2⟩ := hnew j (by rw [hrow, ← hnlen]; exact hj)
   rw [zK hj, hv] at r2
   injection r2 with r2
   rw [r2]; rfl
  obtain ⟨w', arr', r1, r2, r3, r4, r5, r6, r7, r8, r9⟩ := lf c (N * i.size) e fz new' 0 w arr e1 (by omega) (fun j x y => by omega) hone
  obtain ⟨h, nx⟩ := a
  rw [c8]
  show VOK ρ (.mk h nx) w _ (bc nx.isMax (.no 1) (.val _ (.mk (bn nx _ (bn b .none h)) nx.succ)))
  rw [aa]
  split
  ·trivial
  ·rename_i hm
   have hm : nx.isMax = false := by simpa using hm
   intro fr
   have hfr : ρ nx = none := fr nx (zY _) (by simp only [W.nx_mk]; rw [K.succ_num hm]; omega)
   have hg' : ac b h = .gob (.gh e ks n g) := by rw [← hg, ar]; rfl
   refine ⟨upd ρ nx c (Obj.cellCount (.cells arr' e fz)), w', .slice (some ⟨c, 0, none⟩) (N + m) cap', ?_, ?_, ?_⟩
   ·rw [hrun]
    simp only [ba, Nat.zero_add, r1, zQ]
   ·simp only [VRel]
    refine ⟨hA, c, cap', bp ρ nx c _, by omega, by omega, ?_, by rw [hN2]⟩
    show cap' * i.size ≤ (upd ρ nx c (Obj.cellCount (.cells arr' e fz))).sz nx
    rw [ml]
    show cap' * i.size ≤ arr'.size
    omega
   ·refine s7 (obj := .cells arr' e fz) hw (by rw [hg']; simp) (by rw [hg']; rfl) hc hfr hm ?_ r2 r5 r6 r7 r8 r9 (by rw [hg']; rfl)
    refine hobj arr' fz e2 (by omega) ?_ ?_
    ·intro j hj; rw [r4 j, if_neg (by omega)]
    ·intro j hj
     rw [r4 (N * i.size + j), if_pos (by omega)]
     congr 1
     omega
 ·have ho : ∀ W : World, W.heap = w.heap → (Builtin.firstCells i.size N (.slice (some ⟨c, 0, none⟩) N cap')).run PP W = .ok (arr.toList.take (N * i.size)).toArray W := by
   intro W hW
   simp only [Builtin.firstCells]
   refine fq (by simp; omega) (fun j v hj => ?_)
   rw [k8 hW, df e1]
   have hjl : j < N * i.size := by have := (List.getElem?_eq_some_iff.1 hj).1; simp at this; omega
   rw [List.getElem?_take, if_pos hjl] at hj
   simpa using hj
  have hol : (arr.toList.take (N * i.size)).length = N * i.size := by simp; omega
  obtain ⟨cap, tail, q1, q3, q2⟩ := ej (w := w) (ty := ty) h0 hxt hu hi hz hr ho hroom hsmall hbytes hol hzs
  have hkill := ra hw b (by rw [← ar, hg]; rfl)
  have hk := ka (a := wset b .none a) (ρ := ρ) (f := fun b => .gv (.sl b i.size n2 A)) (o := .gob (.gh e ks n2 g2)) hkill.rel
   (obj := .cells ((arr.toList.take (N * i.size) ++ new') ++ tail).toArray e) (v' := .slice (some ⟨w.heap.size, 0, none⟩) (N + m) cap) ?_ ?_ q2
  ·cases hres : kz (.gob (.gh e ks n2 g2)) (fun b => .gv (.sl b i.size n2 A)) (wset b .none a) with
   | val v a' =>
     rw [hres] at hk
     intro fr
     obtain ⟨ρ', w', v', r1, r2, r3⟩ := hk (by rw [c8]; exact fr)
     exact ⟨ρ', w', v', r1, r2, hkill.trans r3⟩
   | no => trivial
   | _ => rw [hres] at hk; exact hk
  ·have hlen2 : ((arr.toList.take (N * i.size) ++ new') ++ tail).toArray.size = cap * i.size := by simpa using q3
   have : (N + m) * i.size ≤ cap * i.size := Nat.mul_le_mul_right _ q1
   refine hobj _ (0, 0) (zY _) (by rw [hlen2]; exact this) ?_ ?_
   ·intro j hj
    simp only [zL, List.append_assoc]
    rw [List.getElem?_append_left (by omega), List.getElem?_take, if_pos hj]
    simp
   ·intro j hj
    simp only [zL, List.append_assoc]
    rw [List.getElem?_append_right (by omega), List.getElem?_append_left (by omega)]
    congr 1
    omega
  ·intro ρ' k hk hsz'
   simp only [VRel]
   refine ⟨hA, _, cap, hk, by omega, by omega, ?_, by rw [hN2]⟩
   rw [hsz']
   simp only [Obj.cellCount, List.size_toArray]
   omega
theorem aip (hw : WRel ρ a w) {t ty e : TypeId} {ts : Array TypeId} {i : TypeInfo} {z : Value} {b : K} {c m cap' : Nat} {x' : Value} {new' : List Value} {n n2 : SE} {A : List SA} {gr : GE} {ty0 : TypeId} {kp : K} {cp : Nat}
  (h0 : ts[0]? = some t) (hxt : y9 ts[1]? = true) (hu : al t = some (.slice e)) (hi : PP.info? e = some i) (hz : i.zero = some z) (hzs : z.cells.size = i.size) (hbytes : i.bytes ≤ 1000000)
  (hg : bz b a = .gp false e n gr []) (hc : ρ b = some c) (hle : (n.eval Gv.σ).toNat ≤ cap') (hcap : cap' * i.size ≤ ρ.sz b) (hs1 : i.size = 1) (hm1 : m = 1) (hp : ρ kp = some cp)
  (hr : om w i.size m x' new') (hnew : new' = [.iface ty0 (.pointer (some ⟨cp, 0, none⟩))]) (hn2 : n2.eval Gv.σ = n.eval Gv.σ + m) (hA : SAll Gv.σ A)
  (hsmall : (n.eval Gv.σ).toNat + m ≤ 400000) :
  VOK ρ a w (Builtin.append_ ts ty #[.slice (some ⟨c, 0, none⟩) (n.eval Gv.σ).toNat cap', x']) (kz (.gp false e n2 gr [.mk n ty0 kp]) (fun k => .gv (.sl k i.size n2 A)) (wset b .none a)) := by
 obtain ⟨arr, fz, e1, e2, e3, e4, e5, e6, e7⟩ := (show ORel ρ (.gp false e n gr []) _ from hw.block hg (by simp) hc)
 have hnN : n.eval Gv.σ = ((n.eval Gv.σ).toNat : Int) := by omega
 generalize hN : (n.eval Gv.σ).toNat = N at *
 have hN2 : (n2.eval Gv.σ).toNat = N + m := by omega
 have hnlen : new'.length = m * i.size := hr.2.1
 have hsum : N * i.size + new'.length = (N + m) * i.size := by rw [hnlen, Nat.add_mul]
 have hobj : ∀ (ρ' : Env) (arr2 : Array Value) (fz2 : Nat × Nat), ρ' kp = some cp → fz2.2 ≤ fz2.1 → (N + m) * i.size ≤ arr2.size → (∀ j, j < N * i.size → arr2[j]? = arr[j]?) → (∀ j, j < new'.length → arr2[N * i.size + j]? = new'[j]?) →
   ORel ρ' (.gp false e n2 gr [.mk n ty0 kp]) (some (.cells arr2 e fz2)) := by
  intro ρ' arr2 fz2 qp q0 q1 q2 q3
  rw [hs1, Nat.mul_one] at q1 q2 q3
  refine ⟨arr2, fz2, rfl, q0, by omega, by omega, by omega, fun j hj => ?_, ?_⟩
  ·rw [q2 j (by omega)]; exact e6 j hj
  ·intro x t k hmm
   rw [List.mem_singleton] at hmm
   injection hmm with q4 q5 q6
   subst q4 q5 q6
   refine ⟨e3, cp, qp, ?_⟩
   have := q3 0 (by rw [hnew]; simp)
   rw [Nat.add_zero, hnew] at this
   rw [hN]; exact this
 have hsz := hw.len b c arr e fz (by rw [← ar, hg]; simp) hc e1
 have hNs : N * i.size ≤ arr.size := by
  have : N * i.size ≤ cap' * i.size := Nat.mul_le_mul_right _ hle
  omega
 by_cases hroom : N + m ≤ cap'
 ·have hrun := eo (w := w) (base := some ⟨c, 0, none⟩) (sLen := N) (sCap := cap') (ty := ty) h0 hxt hu hi hr hroom
  have hfit : N * i.size + new'.length ≤ arr.size := by
   have q2 : (N + m) * i.size ≤ cap' * i.size := Nat.mul_le_mul_right _ hroom
   omega
  have hone : ∀ v ∈ new', v.oneCell' = true := by
   intro v hv
   rw [hnew, List.mem_singleton] at hv
   rw [hv]; rfl
  obtain ⟨w', arr', r1, r2, r3, r4, r5, r6, r7, r8, r9⟩ := lf c (N * i.size) e fz new' 0 w arr e1 (by omega) (fun j x y => by omega) hone
  obtain ⟨h, nx⟩ := a
  rw [c8]
  show VOK ρ (.mk h nx) w _ (bc nx.isMax (.no 1) (.val _ (.mk (bn nx _ (bn b .none h)) nx.succ)))
  rw [aa]
  split
  ·trivial
  ·rename_i hm
   have hm : nx.isMax = false := by simpa using hm
   intro fr
   have hfr : ρ nx = none := fr nx (zY _) (by simp only [W.nx_mk]; rw [K.succ_num hm]; omega)
   have hg' : ac b h = .gp false e n gr [] := by rw [← hg, ar]; rfl
   refine ⟨upd ρ nx c (Obj.cellCount (.cells arr' e fz)), w', .slice (some ⟨c, 0, none⟩) (N + m) cap', ?_, ?_, ?_⟩
   ·rw [hrun]
    simp only [ba, Nat.zero_add, r1, zQ]
   ·simp only [VRel]
    refine ⟨hA, c, cap', bp ρ nx c _, by omega, by omega, ?_, by rw [hN2]⟩
    show cap' * i.size ≤ (upd ρ nx c (Obj.cellCount (.cells arr' e fz))).sz nx
    rw [ml]
    show cap' * i.size ≤ arr'.size
    omega
   ·refine s7 (obj := .cells arr' e fz) hw (by rw [hg']; simp) (by rw [hg']; rfl) hc hfr hm ?_ r2 r5 r6 r7 r8 r9 (by rw [hg']; rfl)
    refine hobj ρ arr' fz hp e2 (by omega) ?_ ?_
    ·intro j hj; rw [r4 j, if_neg (by omega)]
    ·intro j hj
     rw [r4 (N * i.size + j), if_pos (by omega)]
     congr 1
     omega
 ·have ho : ∀ W : World, W.heap = w.heap → (Builtin.firstCells i.size N (.slice (some ⟨c, 0, none⟩) N cap')).run PP W = .ok (arr.toList.take (N * i.size)).toArray W := by
   intro W hW
   simp only [Builtin.firstCells]
   refine fq (by simp; omega) (fun j v hj => ?_)
   rw [k8 hW, df e1]
   have hjl : j < N * i.size := by have := (List.getElem?_eq_some_iff.1 hj).1; simp at this; omega
   rw [List.getElem?_take, if_pos hjl] at hj
   simpa using hj
  have hol : (arr.toList.take (N * i.size)).length = N * i.size := by simp; omega
  obtain ⟨cap, tail, q1, q3, q2⟩ := ej (w := w) (ty := ty) h0 hxt hu hi hz hr ho hroom hsmall hbytes hol hzs
  have hkill := ra hw b (by rw [← ar, hg]; rfl)
  have hk := ka (a := wset b .none a) (ρ := ρ) (f := fun b => .gv (.sl b i.size n2 A)) (o := .gp false e n2 gr [.mk n ty0 kp]) hkill.rel
   (obj := .cells ((arr.toList.take (N * i.size) ++ new') ++ tail).toArray e) (v' := .slice (some ⟨w.heap.size, 0, none⟩) (N + m) cap) ?_ ?_ q2
  ·cases hres : kz (.gp false e n2 gr [.mk n ty0 kp]) (fun b => .gv (.sl b i.size n2 A)) (wset b .none a) with
   | val v a' =>
     rw [hres] at hk
     intro fr
     obtain ⟨ρ', w', v', r1, r2, r3⟩ := hk (by rw [c8]; exact fr)
     exact ⟨ρ', w', v', r1, r2, hkill.trans r3⟩
   | no => trivial
   | _ => rw [hres] at hk; exact hk
  ·have hlen2 : ((arr.toList.take (N * i.size) ++ new') ++ tail).toArray.size = cap * i.size := by simpa using q3
   have : (N + m) * i.size ≤ cap * i.size := Nat.mul_le_mul_right _ q1
   refine hobj ρ _ (0, 0) hp (zY _) (by rw [hlen2]; exact this) ?_ ?_
   ·intro j hj
    simp only [zL, List.append_assoc]
    rw [List.getElem?_append_left (by omega), List.getElem?_take, if_pos hj]
    simp
   ·intro j hj
    simp only [zL, List.append_assoc]
    rw [List.getElem?_append_right (by omega), List.getElem?_append_left (by omega)]
    congr 1
    omega
  ·intro ρ' k hk hsz'
   simp only [VRel]
   refine ⟨hA, _, cap, hk, by omega, by omega, ?_, by rw [hN2]⟩
   rw [hsz']
   simp only [Obj.cellCount, List.size_toArray]
   omega
theorem ad7 (hw : WRel ρ a w) {t ty e : TypeId} {ts : Array TypeId} {i : TypeInfo} {z : Value} {b : K} {c m cap' : Nat} {x' : Value} {new' : List Value} {n n2 : SE} {A : List SA}
  (h0 : ts[0]? = some t) (hxt : y9 ts[1]? = true) (hu : al t = some (.slice e)) (hi : PP.info? e = some i) (hz : i.zero = some z) (hzs : z.cells.size = i.size) (hbytes : i.bytes ≤ 1000000)
  (hg : bz b a = .gob (.junk e)) (hc : ρ b = some c) (hn0 : 0 ≤ n.eval Gv.σ) (hle : (n.eval Gv.σ).toNat ≤ cap') (hcap : cap' * i.size ≤ ρ.sz b)
  (hr : om w i.size m x' new') (hone : ∀ v ∈ new', v.oneCell' = true) (hn2 : n2.eval Gv.σ = n.eval Gv.σ + m) (hA : SAll Gv.σ A)
  (hsmall : (n.eval Gv.σ).toNat + m ≤ 400000) :
  VOK ρ a w (Builtin.append_ ts ty #[.slice (some ⟨c, 0, none⟩) (n.eval Gv.σ).toNat cap', x']) (kz (.gob (.junk e)) (fun k => .gv (.sl k i.size n2 A)) (wset b .none a)) := by
 obtain ⟨arr, fz, e1, e2⟩ := (show GORel (.junk e) _ from hw.block hg (by simp) hc)
 generalize hN : (n.eval Gv.σ).toNat = N at *
 have hN2 : (n2.eval Gv.σ).toNat = N + m := by omega
 have hnlen : new'.length = m * i.size := hr.2.1
 have hsum : N * i.size + new'.length = (N + m) * i.size := by rw [hnlen, Nat.add_mul]
 have hsz := hw.len b c arr e fz (by rw [← ar, hg]; simp) hc e1
 by_cases hroom : N + m ≤ cap'
 ·have hrun := eo (w := w) (base := some ⟨c, 0, none⟩) (sLen := N) (sCap := cap') (ty := ty) h0 hxt hu hi hr hroom
  have hfit : N * i.size + new'.length ≤ arr.size := by
   have q2 : (N + m) * i.size ≤ cap' * i.size := Nat.mul_le_mul_right _ hroom
   omega
  obtain ⟨w', arr', r1, r2, r3, r4, r5, r6, r7, r8, r9⟩ := lf c (N * i.size) e fz new' 0 w arr e1 (by omega) (fun j x y => by omega) hone
  obtain ⟨h, nx⟩ := a
  rw [c8]
  show VOK ρ (.mk h nx) w _ (bc nx.isMax (.no 1) (.val _ (.mk (bn nx _ (bn b .none h)) nx.succ)))
  rw [aa]
  split
  ·trivial
  ·rename_i hm
   have hm : nx.isMax = false := by simpa using hm
   intro fr
   have hfr : ρ nx = none := fr nx (zY _) (by simp only [W.nx_mk]; rw [K.succ_num hm]; omega)
   have hg' : ac b h = .gob (.junk e) := by rw [← hg, ar]; rfl
   refine ⟨upd ρ nx c (Obj.cellCount (.cells arr' e fz)), w', .slice (some ⟨c, 0, none⟩) (N + m) cap', ?_, ?_, ?_⟩
   ·rw [hrun]
    simp only [ba, Nat.zero_add, r1, zQ]
   ·simp only [VRel]
    refine ⟨hA, c, cap', bp ρ nx c _, by omega, by omega, ?_, by rw [hN2]⟩
    show cap' * i.size ≤ (upd ρ nx c (Obj.cellCount (.cells arr' e fz))).sz nx
    rw [ml]
    show cap' * i.size ≤ arr'.size
    omega
   ·exact s7 (o := .gob (.junk e)) (obj := .cells arr' e fz) hw (by rw [hg']; simp) (by rw [hg']; rfl) hc hfr hm ⟨arr', fz, rfl, e2⟩ r2 r5 r6 r7 r8 r9 (by rw [hg']; rfl)
 ·have hNs : N * i.size ≤ arr.size := by
   have : N * i.size ≤ cap' * i.size := Nat.mul_le_mul_right _ hle
   omega
  have ho : ∀ W : World, W.heap = w.heap → (Builtin.firstCells i.size N (.slice (some ⟨c, 0, none⟩) N cap')).run PP W = .ok (arr.toList.take (N * i.size)).toArray W := by
   intro W hW
   simp only [Builtin.firstCells]
   refine fq (by simp; omega) (fun j v hj => ?_)
   rw [k8 hW, df e1]
   have hjl : j < N * i.size := by have := (List.getElem?_eq_some_iff.1 hj).1; simp at this; omega
   rw [List.getElem?_take, if_pos hjl] at hj
   simpa using hj
  have hol : (arr.toList.take (N * i.size)).length = N * i.size := by simp; omega
  obtain ⟨cap, tail, q1, q3, q2⟩ := ej (w := w) (ty := ty) h0 hxt hu hi hz hr ho hroom hsmall hbytes hol hzs
  have hkill := ra hw b (by rw [← ar, hg]; rfl)
  have hk := ka (a := wset b .none a) (ρ := ρ) (f := fun b => .gv (.sl b i.size n2 A)) (o := .gob (.junk e)) hkill.rel
   (obj := .cells ((arr.toList.take (N * i.size) ++ new') ++ tail).toArray e) (v' := .slice (some ⟨w.heap.size, 0, none⟩) (N + m) cap) ?_ ?_ q2
  ·cases hres : kz (.gob (.junk e)) (fun b => .gv (.sl b i.size n2 A)) (wset b .none a) with
   | val v a' =>
     rw [hres] at hk
     intro fr
     obtain ⟨ρ', w', v', r1, r2, r3⟩ := hk (by rw [c8]; exact fr)
     exact ⟨ρ', w', v', r1, r2, hkill.trans r3⟩
   | no => trivial
   | _ => rw [hres] at hk; exact hk
  ·exact ⟨_, (0, 0), rfl, zY _⟩
  ·intro ρ' k hk hsz'
   simp only [VRel]
   refine ⟨hA, _, cap, hk, by omega, by omega, ?_, by rw [hN2]⟩
   rw [hsz']
   simp only [Obj.cellCount, List.size_toArray]
   omega
theorem n7 {ks : List IntKind} {A : List SA} : ∀ {l : List AV} {l' : List Value} {i : Nat}, tu ks i l = true → VRels ρ l l' → (oe l).eval Gv.σ = l'.map (fun v => match v with | .int _ n => n | _ => 0) ∧
  ∀ (j : Nat) (h : j < l'.length), ∃ k n, ks[(i + j) % ks.length]? = some k ∧ l'[j] = .int k n
 | [], l', i, _, hl => by
   simp only [VRels] at hl; subst hl
   exact ⟨by simp only [oe, GE.eval, List.map_nil], fun j h => by simp at h⟩
 | v :: l, l', i, h, hl => by
   simp only [VRels] at hl
   obtain ⟨x, xs, rfl, h1, h2⟩ := hl
   unfold tu at h
   split at h <;> try (cases h; done)
   rename_i k k' hk hk'
   rw [aa] at h
   split at h <;> try (cases h; done)
   rename_i hkk
   obtain rfl := (cq _ _).1 hkk
   obtain ⟨ih1, ih2⟩ := n7 (A := A) h h2
   rw [oh, ao] at hk
   have hse : ∃ e, q9 v = some e := by cases v <;> simp only [knd] at hk' <;> first | (cases hk'; done) | exact ⟨_, rfl⟩
   obtain ⟨e, he⟩ := hse
   obtain ⟨k1, e1, rfl⟩ := fw he h1
   rw [hk'] at e1; cases e1
   refine ⟨?_, ?_⟩
   ·simp only [oe, he, co, ih1, GE.eval, List.map_cons, List.singleton_append]
   ·intro j hj
    cases j with
    | zero => exact ⟨k, _, by simpa using hk, rfl⟩
    | succ j =>
      obtain ⟨k2, n2, q1, q2⟩ := ih2 j (by simpa using hj)
      exact ⟨k2, n2, by rw [← q1]; congr 2; omega, by simpa using q2⟩
theorem aar (x : Int) : 0 ≤ IntKind.u8.wrap x ∧ IntKind.u8.wrap x < 256 := by
 simp [IntKind.wrap, IntKind.bits, IntKind.signed]
 omega
theorem a52 {A : List SA} (hA : SAll Gv.σ A) {e : SE} (h : u8E A e = true) : 0 ≤ e.eval Gv.σ ∧ e.eval Gv.σ < 256 := by
 unfold u8E at h
 split at h
 ·rename_i n
  unfold a7y at h
  split at h
  ·have := zE h
   simp only [SE.eval]
   constructor
   ·simp
   ·rename_i m; show ((m : Nat) : Int) < 256; omega
  ·cases h
 ·simp only [SE.eval, qz]; exact aar _
 ·simp only [SE.eval, qz]; exact aar _
 ·simp only [SE.eval, qz]; exact aar _
 ·simp only [SE.eval, qz]; exact aar _
 ·simp only [zU] at h
  obtain ⟨h1, h2⟩ := h
  have key : ∀ (x y : SE) (r : Bool), dLt x y A r = true → decide (x.eval Gv.σ < y.eval Gv.σ) = r := by
   intro x y r h
   unfold dLt tp at h
   split at h
   ·rename_i c hc
    have := b7 hA hc
    have this : decide (x.eval Gv.σ < y.eval Gv.σ) = c := this
    rw [this, xl h]
   ·cases h
  have q1 := (nu (key _ _ _ h1)).2 rfl
  have q2 := (nu (key _ _ _ h2)).1 rfl
  simp only [SE.eval] at q1 q2
  omega
theorem xo {A : List SA} (hA : SAll Gv.σ A) : ∀ {l : List AV} {l' : List Value}, afo A l = true → VRels ρ l l' → ∀ x ∈ l'.map (fun v => match v with | .int _ n => n | _ => (0 : Int)), 0 ≤ x ∧ x < 256
 | [], _, _, hl => by simp only [VRels] at hl; subst hl; intro x hx; simp at hx
 | v :: l, _, h, hl => by
   simp only [VRels] at hl
   obtain ⟨y, ys, rfl, h1, h2⟩ := hl
   unfold afo at h
   split at h <;> try (cases h; done)
   rename_i e he
   obtain ⟨p1, p2⟩ := bc_and.1 h
   obtain ⟨k1, e1, rfl⟩ := fw he h1
   intro x hx
   simp only [List.map_cons, List.mem_cons] at hx
   rcases hx with rfl | hx
   ·exact a52 hA p1
   ·exact xo hA p2 h2 x hx
theorem isU8_eq {ks : List IntKind} : aiz ks = true ↔ ks = [.u8] := by
 unfold aiz
 split
 ·simp
 ·rename_i h; constructor
  ·intro e; cases e
  ·intro e; exact absurd e (h)
theorem aqs (hw : WRel ρ a w) {src dst e : TypeId} {b : K} {es : Nat} {n : SE} {A : List SA} {x' : Value} (hx : VRel ρ (.gv (.sl b es n A)) x') (hs : al src = some (.slice e)) (he : al e = some (.int .u8)) (hd : al dst = some .string) (c : Nat) :
  VOK ρ a w (convert src dst x') (ahh b n A a c) := by
 unfold ahh
 simp only [VRel] at hx
 obtain ⟨hA, c0, cap', hc, h1, h2, h3, rfl⟩ := hx
 split <;> try trivial
 rename_i t ks n' g hg
 rw [aa]
 split <;> try trivial
 rename_i hcond
 simp only [zU] at hcond
 obtain rfl := av _ _ hcond.1
 have hks := isU8_eq.1 hcond.2
 subst hks
 obtain ⟨arr, fz, e1, e2, e3, e4, e5, e6, e7⟩ := (show GORel (.gh t [.u8] n g) _ from hw.block hg (by simp) hc)
 have hbo := e6 rfl
 simp only [zO, zS, Nat.zero_add, Nat.one_mul] at e4
 have hb : ((g.eval Gv.σ).map fun x => UInt8.ofNat x.toNat).length = (n.eval Gv.σ).toNat := by rw [List.length_map, e4]
 have key := run_convert_bytes_back (P := PP) w src dst e ⟨c0, 0, none⟩ cap' ((g.eval Gv.σ).map fun x => UInt8.ofNat x.toNat) (bi hs) (bi he) (bi hd) (fun j hj => by
  have hj' : j < (g.eval Gv.σ).length := by simpa using hj
  obtain ⟨k, q1, q2⟩ := e7 j hj'
  have hk : k = .u8 := by
   rw [show [IntKind.u8].length = 1 from rfl, Nat.mod_one] at q1
   cases q1; rfl
  subst hk
  have hr := hbo _ (List.getElem_mem hj')
  rw [ba, df e1, Nat.zero_add, q2, List.getElem_map]
  congr 2
  have : (UInt8.ofNat ((g.eval Gv.σ)[j]).toNat).toNat = ((g.eval Gv.σ)[j]).toNat := by simp; omega
  rw [this]; omega)
 rw [hb] at key
 refine VOK.here hw (v' := .string ⟨((g.eval Gv.σ).map fun x => UInt8.ofNat x.toNat).toArray⟩) key ?_
 simp only [VRel, GVRel]
 exact ⟨hA, rfl, hbo⟩
theorem aqr (hw : WRel ρ a w) {src dst : TypeId} {x : AV} {x' : Value} (hx : VRel ρ x x') (c : Nat) : VOK ρ a w (convert src dst x') (adr src dst x a c) := by
 unfold adr
 split
 ·rename_i e hs hd
  split <;> try trivial
  ·rename_i b es n A he
   exact aqs hw hx hs he hd c
  ·rename_i he _
   split <;> try trivial
   rename_i l h1
   rw [aa]
   split <;> try trivial
   rename_i hu
   rw [zU] at hu
   unfold mr at h1
   split at h1 <;> try (cases h1; done)
   ·cases h1
    simp only [VRel] at hx; subst hx
    refine VOK.here hw (v' := .string .empty) ?_ ?_
    ·rw [run_convert_bytes_string (P := PP) w src dst e none 0 0 (bi hs) (bi he) (bi hd)]
     rfl
    ·simp only [VRel]
     exact ⟨SAll.nil, rfl, fun x h => by simp [oe, GE.eval] at h⟩
   ·rename_i _ _ len _ _ _
    simp only [VRel] at hx
    obtain ⟨c, cap', hc, hcap, hso, rfl⟩ := hx
    rw [Nat.mul_one] at h1
    obtain ⟨l', q1, q2, q3⟩ := j7 h1 (hw.block rfl (lc h1) hc)
    have hA : SAll Gv.σ (s8 l) := qk q2
    obtain ⟨k1, k2⟩ := n7 (A := s8 l) hu.1 q2
    have k3 := xo hA hu.2 q2
    rw [← k1] at k3
    generalize hg : (oe l).eval Gv.σ = g at k1 k3
    have hgl : g.length = l'.length := by rw [k1, List.length_map]
    have hlen : l'.length = len := by simpa using q1
    have hb : (g.map fun x => UInt8.ofNat x.toNat).length = len := by rw [List.length_map, hgl, hlen]
    have cell : ∀ j (hj : j < (g.map fun x => UInt8.ofNat x.toNat).length), l'[j]? = some (Value.int .u8 (((g.map fun x => UInt8.ofNat x.toNat)[j]).toNat : Int)) := by
     intro j hj
     have hj' : j < l'.length := by omega
     obtain ⟨k, n, e1, e2⟩ := k2 j hj'
     have hk : k = .u8 := by
      rw [Nat.zero_add, show [IntKind.u8].length = 1 from rfl, Nat.mod_one] at e1
      cases e1; rfl
     subst hk
     have hn : g[j]'(by omega) = n := by
      have : g[j]? = some n := by rw [k1, List.getElem?_map, zK hj', e2]; rfl
      exact (List.getElem?_eq_some_iff.1 this).2
     have hr := k3 n (hn ▸ List.getElem_mem _)
     rw [zK hj', e2, List.getElem_map, hn]
     congr 2
     have : (UInt8.ofNat n.toNat).toNat = n.toNat := by simp; omega
     rw [this]; omega
    have key := run_convert_bytes_back (P := PP) w src dst e ⟨c, _, none⟩ cap' (g.map fun x => UInt8.ofNat x.toNat) (bi hs) (bi he) (bi hd) (fun j hj => by
     rw [ba]
     exact q3 j _ (cell j hj))
    rw [hb] at key
    refine VOK.here hw (v' := .string ⟨(g.map fun x => UInt8.ofNat x.toNat).toArray⟩) key ?_
    simp only [VRel, GVRel]
    rw [hg]
    exact ⟨hA, rfl, k3⟩
 ·exact a0c hw hx c
theorem akk (hw : WRel ρ a w) {t ty : TypeId} {ts : Array TypeId} {s x : AV} {s' x' : Value} (h0 : ts[0]? = some t) (hs : VRel ρ s s') (hx : VRel ρ x x') (c : Nat) : VOK ρ a w (Builtin.append_ ts ty #[s', x']) (adq t ts[1]? s x a c) := by
 unfold adq
 rw [aa]
 split <;> try trivial
 rename_i hxt
 split <;> try trivial
 rename_i e b es n A hu
 split <;> try trivial
 rename_i size bytes z hsize hbytes hz
 obtain ⟨i, z', hi, hz', rfl⟩ := b9 hz
 obtain ⟨i1, hi1, rfl⟩ := j8 hsize
 obtain ⟨i2, hi2, rfl⟩ := oq hbytes
 rw [hi] at hi1; cases hi1
 rw [hi] at hi2; cases hi2
 rw [aa]
 split <;> try trivial
 rename_i hzc
 simp only [zU, ao] at hzc
 obtain ⟨⟨⟨⟨z1, z2⟩, z3⟩, z4⟩, z5⟩ := hzc
 have hzs : z'.cells.size = i.size := by
  have := VRels.length _ _ (cb (di ρ z') (dz z1))
  have h2 := zW z2
  simp only [Array.length_toList] at this
  omega
 obtain rfl := zW z3
 have z5 := zE z5
 simp only [VRel] at hs
 obtain ⟨hA, c0, cap', hc, hn0, hle, hcap, rfl⟩ := hs
 split
 ·rename_i h hh
  obtain ⟨rfl, hbo⟩ := jy hh hx
  have hA2 := ij hA (jb hx)
  rw [aa]
  split <;> try trivial
  rename_i hes
  have hes := zW hes
  refine br hA2 fun hlt => ?_
  have hlt := (nu hlt).2 rfl
  rw [ct, bg] at hlt
  simp only [SE.eval] at hlt
  unfold akl
  split <;> try trivial
  rename_i t' ks n' g hg
  rw [aa]
  split <;> try trivial
  rename_i hq
  simp only [zU] at hq
  obtain ⟨⟨q1, q2⟩, q3⟩ := hq
  obtain rfl := zW q1
  obtain rfl := av _ _ q2
  have hks := isU8_eq.1 q3
  subst hks
  have hr : om w i.size (h.eval Gv.σ).length (.string (ai (h.eval Gv.σ))) ((h.eval Gv.σ).map fun x => Value.int .u8 x) := by rw [hes]; exact ac3 hbo
  have := zl (ty := ty) (n2 := gk n (dy h)) (g2 := k7 g h) (row := h.eval Gv.σ) hw h0 hxt hu hi hz' hzs z5 hg hc hle hcap (by simp [hes]) hr
   (by rw [ct, bg]) (by rw [co]) (by rw [hes]; simp) (fun j hj => ⟨.u8, by simp [Nat.mod_one], by simp [hj]⟩) (fun _ => hbo) hA2 (by omega)
  rw [hes] at this
  exact this
 ·split <;> try trivial
  rename_i m new hsrc
  obtain ⟨new', hr, hnew⟩ := mj hw hsrc hx
  have hA2 := ij hA (qk hnew)
  refine br hA2 fun hlt => ?_
  have hlt := (nu hlt).2 rfl
  rw [ct] at hlt
  simp only [SE.eval] at hlt
  have hlt : ¬ (400000 : Int) < n.eval Gv.σ + (m : Int) := hlt
  unfold aki
  split <;> try trivial
  ·rename_i t' ks n' g hg
   rw [aa]
   split <;> try trivial
   rename_i hq
   simp only [zU] at hq
   obtain ⟨⟨⟨⟨q1, q2⟩, q3⟩, q4⟩, q5⟩ := hq
   obtain rfl := zW q1
   obtain rfl := av _ _ q2
   have q3 := zW q3
   rw [ao] at q3
   obtain ⟨k1, k2⟩ := n7 (ρ := ρ) (A := A) q4 hnew
   refine zl (ty := ty) (row := new'.map (fun v => match v with | .int _ n => n | _ => (0 : Int))) hw h0 hxt hu hi hz' hzs z5 hg hc hle hcap q3 hr
    (by rw [ct]; rfl) (by rw [co, k1]) (by rw [List.length_map]; exact hr.2.1) ?_ ?_ hA2 (by omega)
   ·intro j hj
    have hj' : j < new'.length := by simpa using hj
    obtain ⟨k, v, r1, r2⟩ := k2 j hj'
    rw [Nat.zero_add] at r1
    refine ⟨k, r1, ?_⟩
    rw [zK hj']
    simp only [List.getElem_map, r2]
   ·intro hk
    simp only [isU8_eq.2 hk, Bool.not_true, Bool.false_or] at q5
    exact xo hA2 q5 hnew
  ·rename_i t' hg
   rw [aa]
   split <;> try trivial
   rename_i hq
   simp only [zU] at hq
   obtain ⟨q1, q2⟩ := hq
   obtain rfl := zW q1
   exact ad7 (ty := ty) hw h0 hxt hu hi hz' hzs z5 hg hc hn0 hle hcap hr (fun v hv => pw new new' q2 hnew v hv) (by rw [ct]; rfl) hA2 (by omega)
  ·rename_i t' n' g hg
   split <;> try trivial
   rename_i ty0 kp
   rw [aa]
   split <;> try trivial
   rename_i hq
   simp only [zU] at hq
   obtain ⟨⟨⟨⟨q1, q2⟩, q3⟩, q4⟩, q5⟩ := hq
   obtain rfl := zW q1
   obtain rfl := av _ _ q2
   simp only [VRels, VRel] at hnew
   obtain ⟨v, vs, rfl, ⟨v2, rfl, cp, hcp, rfl⟩, rfl⟩ := hnew
   exact aip (ty := ty) hw h0 hxt hu hi hz' hzs z5 hg hc hle hcap (zW q3) (zW q4) hcp hr rfl (by rw [ct]; rfl) hA2 (by omega)
theorem zy (hw : WRel ρ a w) {t ty : TypeId} {ts : Array TypeId} {base : Option Addr} {b : K} {es : Nat} {n : SE} {A : List SA} {x' : Value} (h0 : ts[0]? = some t) (hx : VRel ρ (.gv (.sl b es n A)) x') (c : Nat) :
  VOK ρ a w (Builtin.append_ ts ty #[.slice base 0 0, x']) (xp t ts[1]? b es n A a c) := by
 unfold xp
 rw [aa]
 split <;> try trivial
 rename_i hxt
 split <;> try trivial
 rename_i e hu
 split <;> try trivial
 rename_i size bytes z t' ks n' g hsize hbytes hz hg
 obtain ⟨i, z', hi, hz', rfl⟩ := b9 hz
 obtain ⟨i1, hi1, rfl⟩ := j8 hsize
 obtain ⟨i2, hi2, rfl⟩ := oq hbytes
 rw [hi] at hi1; cases hi1
 rw [hi] at hi2; cases hi2
 rw [aa]
 split <;> try trivial
 rename_i hzc
 simp only [zU, ao] at hzc
 obtain ⟨⟨⟨⟨⟨⟨⟨z1, z2⟩, z3⟩, z4⟩, z5⟩, z6⟩, z7⟩, z8⟩ := hzc
 have hzs : z'.cells.size = i.size := by
  have := VRels.length _ _ (cb (di ρ z') (dz z1))
  have h2 := zW z2
  simp only [Array.length_toList] at this
  omega
 obtain rfl := zW z3
 have z5 := zE z5
 obtain rfl := zW z6
 obtain rfl := av _ _ z7
 have hks := zW z8
 simp only [VRel] at hx
 obtain ⟨hA, c0, cap', hc, hn0, hle, hcap, rfl⟩ := hx
 refine br hA fun h1 => br hA fun h2 => ?_
 have h1 := (nu h1).1 rfl
 have h2 := (nu h2).2 rfl
 simp only [SE.eval] at h1 h2
 obtain ⟨arr, fz, e1, e2, e3, e4, e5, e6, e7⟩ := (show GORel (.gh t' ks n g) _ from hw.block hg (by simp) hc)
 generalize hN : (n.eval Gv.σ).toNat = N at *
 have hsz := hw.len b c0 arr t' fz (by rw [← ar, hg]; simp) hc e1
 have hcs : N * i.size ≤ arr.size := by
  have : N * i.size ≤ cap' * i.size := Nat.mul_le_mul_right _ hle
  omega
 have hglen : (g.eval Gv.σ).length = N * i.size := by rw [e4, hks, Nat.mul_comm]
 have ho : ∀ W : World, W.heap = w.heap → (Builtin.firstCells i.size N (.slice (some ⟨c0, 0, none⟩) N cap')).run PP W = .ok (arr.toList.take (N * i.size)).toArray W := by
  intro W hW
  simp only [Builtin.firstCells]
  refine fq (by simp; omega) (fun j v hj => ?_)
  rw [k8 hW, df e1]
  have hjl : j < N * i.size := by have := (List.getElem?_eq_some_iff.1 hj).1; simp at this; omega
  rw [List.getElem?_take, if_pos hjl] at hj
  simpa using hj
 have hr : om w i.size N (.slice (some ⟨c0, 0, none⟩) N cap') (arr.toList.take (N * i.size)) := ⟨rfl, by simp; omega, ho⟩
 have ho0 : ∀ W : World, W.heap = w.heap → (Builtin.firstCells i.size 0 (.slice base 0 0)).run PP W = .ok ([] : List Value).toArray W := by
  intro W hW
  cases base with
  | none => simp [Builtin.firstCells]
  | some p => simp [Builtin.firstCells, loadCells, loadCellsFrom]
 obtain ⟨cap, tail, q1, q3, q2⟩ := ej (w := w) (ty := ty) (base := base) (sLen := 0) (sCap := 0) (old := []) h0 hxt hu hi hz' hr ho0 (by omega) (by omega) z5 (by simp) hzs
 refine ka hw (obj := .cells (([] ++ arr.toList.take (N * i.size)) ++ tail).toArray t') (v' := .slice (some ⟨w.heap.size, 0, none⟩) (0 + N) cap) ?_ ?_ q2
 ·refine ⟨_, (0, 0), rfl, zY _, by omega, by rw [e4, hN], ?_, e6, ?_⟩
  ·simp only [List.size_toArray, zP, List.length_take, Array.length_toList, zS]; omega
  ·intro j hj
   obtain ⟨k, r1, r2⟩ := e7 j hj
   refine ⟨k, r1, ?_⟩
   simp only [zL, zD]
   rw [List.getElem?_append_left (by simp; omega), List.getElem?_take, if_pos (by omega)]
   simpa using r2
 ·intro ρ' k hk hsz'
  simp only [VRel]
  refine ⟨hA, _, cap, hk, by omega, by omega, ?_, by rw [hN, Nat.zero_add]⟩
  rw [hsz']
  simp only [Obj.cellCount, List.size_toArray]
  omega
theorem akj (hw : WRel ρ a w) {t ty : TypeId} {ts : Array TypeId} {h : GE} {A : List SA} (h0 : ts[0]? = some t) (hA : SAll Gv.σ A) (hbo : c7 (h.eval Gv.σ)) (c : Nat) :
  VOK ρ a w (Builtin.append_ ts ty #[.slice none 0 0, .string (ai (h.eval Gv.σ))]) (adp t ts[1]? h A a c) := by
 unfold adp
 rw [aa]
 split <;> try trivial
 rename_i hxt
 split <;> try trivial
 rename_i e hu
 split <;> try trivial
 rename_i size bytes z hsize hbytes hz
 obtain ⟨i, z', hi, hz', rfl⟩ := b9 hz
 obtain ⟨i1, hi1, rfl⟩ := j8 hsize
 obtain ⟨i2, hi2, rfl⟩ := oq hbytes
 rw [hi] at hi1; cases hi1
 rw [hi] at hi2; cases hi2
 rw [aa]
 split <;> try trivial
 rename_i hzc
 simp only [zU, ao] at hzc
 obtain ⟨⟨⟨z1, z2⟩, z3⟩, z5⟩ := hzc
 have hzs : z'.cells.size = i.size := by
  have := VRels.length _ _ (cb (di ρ z') (dz z1))
  have h2 := zW z2
  simp only [Array.length_toList] at this
  omega
 have hes := zW z3
 have z5 := zE z5
 have hr : om w i.size (h.eval Gv.σ).length (.string (ai (h.eval Gv.σ))) ((h.eval Gv.σ).map fun x => Value.int .u8 x) := by rw [hes]; exact ac3 hbo
 split <;> try trivial
 ·rename_i hc1
  have h1 : decide ((SE.c 0).eval Gv.σ < (dy h).eval Gv.σ) = true := b7 hA hc1
  have h1 := (nu h1).1 rfl
  rw [bg] at h1
  simp only [SE.eval] at h1
  refine br hA fun h2 => ?_
  have h2 := (nu h2).2 rfl
  rw [bg] at h2
  simp only [SE.eval] at h2
  have ho0 : ∀ W : World, W.heap = w.heap → (Builtin.firstCells i.size 0 (.slice none 0 0)).run PP W = .ok ([] : List Value).toArray W := by
   intro W hW
   simp [Builtin.firstCells]
  obtain ⟨cap, tail, q1, q3, q2⟩ := ej (w := w) (ty := ty) (base := none) (sLen := 0) (sCap := 0) (old := []) h0 hxt hu hi hz' hr ho0 (by omega) (by omega) z5 (by simp) hzs
  rw [hes] at q3
  simp only [zP, zS, List.length_map, Nat.mul_one] at q3
  refine ka hw (obj := .cells (([] ++ (h.eval Gv.σ).map fun x => Value.int .u8 x) ++ tail).toArray e) (v' := .slice (some ⟨w.heap.size, 0, none⟩) (0 + (h.eval Gv.σ).length) cap) ?_ ?_ q2
  ·refine ⟨_, (0, 0), rfl, zY _, by rw [bg]; omega, by rw [bg]; simp, ?_, fun _ => hbo, ?_⟩
   ·simp only [List.size_toArray, zP, List.length_map, zS]; omega
   ·intro j hj
    refine ⟨.u8, by simp [Nat.mod_one], ?_⟩
    simp only [zL, zD]
    rw [List.getElem?_append_left (by simpa using hj), List.getElem?_map, zK hj]
    rfl
  ·intro ρ' k hk hsz'
   simp only [VRel, GVRel]
   refine ⟨hA, _, cap, hk, by rw [bg]; omega, by rw [bg]; omega, ?_, by rw [bg]; simp⟩
   rw [hsz']
   simp only [Obj.cellCount, List.size_toArray, zP, List.length_map, zS]
   omega
 ·rename_i hc1
  have h1 : decide ((SE.c 0).eval Gv.σ < (dy h).eval Gv.σ) = false := b7 hA hc1
  have h1 := (nu h1).2 rfl
  rw [bg] at h1
  simp only [SE.eval] at h1
  have hl : (h.eval Gv.σ).length = 0 := by omega
  rw [hl] at hr
  have key := eo (w := w) (ty := ty) (base := none) (sLen := 0) (sCap := 0) h0 hxt hu hi hr (by omega)
  refine VOK.here hw (v' := .slice none 0 0) ?_ (by simp only [VRel])
  rw [key]
  simp
theorem am1 (hw : WRel ρ a w) {t ty : TypeId} {ts : Array TypeId} {s x : AV} {s' x' : Value} (h0 : ts[0]? = some t) (hs : VRel ρ s s') (hx : VRel ρ x x') (c : Nat) : VOK ρ a w (Builtin.append_ ts ty #[s', x']) (ahg t ts[1]? s x a c) := by
 unfold ahg
 split
 ·simp only [VRel] at hs
  obtain ⟨c0, cap', hc, _, ho, rfl⟩ := hs
  obtain rfl : cap' = 0 := ho
  exact zy hw h0 hx c
 ·simp only [VRel] at hs
  subst hs
  exact zy hw h0 hx c
 ·simp only [VRel] at hs
  subst hs
  simp only [VRel, GVRel] at hx
  obtain ⟨hA, rfl, hbo⟩ := hx
  exact akj hw h0 hA hbo c
 ·exact akk hw h0 hs hx c
end
end Go.Ev
set_option linter.all false
namespace Go.Ev
variable [Gv]
section
variable {ρ : Env} {a : W} {w : World}
theorem aqz (hw : WRel ρ a w) {ty : TypeId} {ts : Array TypeId} {x : AV} {x' : Value} (hx : VRel ρ x x') (n : Nat) : VOK ρ a w (Builtin.unsafeSliceData_ ts ty #[x']) (am4 x a n) := by
 unfold am4
 split <;> try trivial
 rename_i b es m A
 simp only [VRel] at hx
 obtain ⟨hA, c, cap', hc, h0, hle, hcap, rfl⟩ := hx
 refine br hA fun hlt => ?_
 have hlt := (nu hlt).1 rfl
 simp only [SE.eval] at hlt
 have h' : cap' ≠ 0 := by omega
 exact VOK.here hw (v' := .pointer (some ⟨c, 0, none⟩)) (by show Sem.run PP (if cap' ≠ 0 then (pure (.pointer (some ⟨c, 0, none⟩)) : Sem Value) else _) w = _; rw [if_pos h', zT]) (by simp only [VRel]; exact ⟨hA, c, hc, by simp only [SE.eval]; omega, by simp [SE.eval]⟩)
theorem akq (hw : WRel ρ a w) {pt it ty : TypeId} {p n : AV} {p' n' : Value} (hp : VRel ρ p p') (hn : VRel ρ n n') (q : Nat) : VOK ρ a w (Builtin.unsafeString_ #[pt, it] ty #[p', n']) (adu pt p n a q) := by
 unfold adu
 split <;> try trivial
 rename_i b A e A'
 simp only [VRel] at hp hn
 obtain ⟨hA, c, hc, _, rfl⟩ := hp
 obtain ⟨_, rfl⟩ := hn
 split <;> try trivial
 rename_i t ks n' g hg
 rw [aa]
 split <;> try trivial
 rename_i hcond
 simp only [zU] at hcond
 obtain rfl := av _ _ hcond.1
 have hks := isU8_eq.1 hcond.2
 subst hks
 split <;> try trivial
 rename_i u s hu hsz
 rw [aa]
 split <;> try trivial
 rename_i hcond2
 simp only [zU] at hcond2
 obtain rfl := zW hcond2.1
 obtain rfl := zW hcond2.2
 refine br hA fun h1 => br hA fun h2 => ?_
 have h1 := (nu h1).1 rfl
 have h2 := (nu h2).2 rfl
 simp only [SE.eval] at h1 h2
 obtain ⟨arr, fz, e1, e2, e3, e4, e5, e6, e7⟩ := (show GORel (.gh t [.u8] e g) _ from hw.block hg (by simp) hc)
 have hbo := e6 rfl
 simp only [zO, zS, Nat.zero_add, Nat.one_mul] at e4
 have hco : PP.cellsOf t = 1 := by
  unfold Go.Ev.sizeOf at hsz
  rw [zG] at hsz
  obtain ⟨i, hi, h1⟩ := hsz
  unfold Program.cellsOf
  rw [dg hi, Option.map_some, Option.getD_some, h1]
 have hsh : w.shape? c = some (t, arr.size) := by simp [World.shape?, e1]
 generalize hbs : (g.eval Gv.σ).map (fun x => UInt8.ofNat x.toNat) = bs
 have hbl : bs.length = (e.eval Gv.σ).toNat := by rw [← hbs, List.length_map, e4]
 have hne : bs ≠ [] := by rintro rfl; simp at hbl; omega
 have hrun := Lib.run_unsafeString_row (P := PP) w pt it ty t (bi hu) hco c arr.size hsh bs hne (by omega) (by omega)
  (fun j x hj => by
    rw [ba, Nat.zero_add, df e1]
    have hjl : j < (g.eval Gv.σ).length := by
     have := (List.getElem?_eq_some_iff.1 hj).1
     rw [hbl] at this; omega
    obtain ⟨k, r1, r2⟩ := e7 j hjl
    have hk : k = .u8 := by
     rw [zO, zS, Nat.zero_add, Nat.mod_one] at r1
     simpa using r1.symm
    subst hk
    rw [r2]
    rw [← hbs, List.getElem?_map, zK hjl] at hj
    simp only [Option.map_some, Option.some.injEq] at hj
    rw [← hj, oo (hbo _ (List.getElem_mem hjl))])
 rw [hbl] at hrun
 have hpos : (e.eval Gv.σ).toNat ≠ 0 := by omega
 have heq : ((e.eval Gv.σ).toNat : Int) = e.eval Gv.σ := Int.toNat_of_nonneg e3
 rw [heq] at hrun
 intro _
 obtain ⟨lo, hi⟩ := fz
 have hlt := (zI.1 e1).1
 have hA1 : Adv ρ a w ρ (wset b (.cells t 0 true 0 (max hi (e.eval Gv.σ).toNat) (gx 0)) a) (w.freeze ⟨c, 0, none⟩ (e.eval Gv.σ).toNat) := by
  refine s6 (c := c) (obj := .cells arr t (if lo == hi then (0, 0 + (e.eval Gv.σ).toNat) else (min lo 0, max hi (0 + (e.eval Gv.σ).toNat)))) hw (by rw [← ar, hg]; simp) (by rw [← ar, hg]; rfl) hc ?_ (by simp) ?_ ?_ ?_ ?_ ?_ ?_ ?_ (by rw [← ar, hg]; rfl)
  ·refine ⟨arr, _, rfl, Nat.zero_le _, (by intro h; cases h), Nat.zero_le _, ?_, fun i hi => by omega⟩
   by_cases hlh : lo = hi
   ·subst hlh
    simp only [BEq.rfl, if_true]
    exact ⟨by omega, fun i _ hi => ⟨Nat.zero_le _, by omega⟩⟩
   ·have hb : (lo == hi) = false := by simpa using hlh
    simp only [hb, zF, if_false]
    exact ⟨by omega, fun i _ hi => ⟨Nat.zero_le _, by omega⟩⟩
  ·intro x y z e; cases e; exact hw.len b c arr t (lo, hi) (by rw [← ar, hg]; simp) hc e1
  ·unfold World.freeze; rw [if_neg hpos]; simp [Array.getElem?_modify, e1]
  ·unfold World.freeze; rw [if_neg hpos]; simp
  ·intro d hd; unfold World.freeze; rw [if_neg hpos]; simp [Array.getElem?_modify, Ne.symm hd]
  ·unfold World.freeze; rw [if_neg hpos]
  ·unfold World.freeze; rw [if_neg hpos]
  ·unfold World.freeze; rw [if_neg hpos]
 have hkill := ra hA1.rel b (by rw [c8]; simp only [W.h_mk]; rw [af]; rfl)
 have hA2 := hA1.trans hkill
 have hsame : ∀ k, ac k (wset b .none (wset b (.cells t 0 true 0 (max hi (e.eval Gv.σ).toNat) (gx 0)) a)).h = ac k (wset b .none a).h := by
  intro k
  simp only [c8, W.h_mk]
  by_cases hk : k = b
  ·subst hk; rw [af, af]
  ·rw [ak hk, ak hk, ak hk]
 have hnx : (wset b .none (wset b (.cells t 0 true 0 (max hi (e.eval Gv.σ).toNat) (gx 0)) a)).nx = (wset b .none a).nx := by simp only [c8, W.nx_mk]
 refine ⟨ρ, w.freeze ⟨c, 0, none⟩ (e.eval Gv.σ).toNat, .string ⟨bs.toArray⟩, ?_, ?_, ?_⟩
 ·simp only [SE.eval, Int.toNat_zero, Nat.mul_zero, Nat.add_zero]
  exact hrun
 ·simp only [VRel]
  exact ⟨hA, by rw [← hbs]; rfl, hbo⟩
 ·refine ⟨⟨?_, ?_, ?_, ?_⟩, hA2.le, ?_, ?_, hA2.size, ?_, ?_, hA2.frame, ?_, hA2.os, hA2.tape, hA2.output⟩
  ·intro k l hk hl e
   have := hA2.rel.inj k l (by rw [hsame]; exact hk) (by rw [hsame]; exact hl) e
   rw [hsame, hsame] at this; exact this
  ·intro k hk
   have := hA2.rel.dom k (by rw [hsame]; exact hk)
   rw [hsame] at this
   exact this
  ·intro k d x y z hk; exact hA2.rel.len k d x y z (by rw [hsame]; exact hk)
  ·intro k kd g' hk
   have q := hA2.rel.gho k kd g' (by rw [hsame]; exact hk)
   exact q.step rfl rfl (zY _) (fun _ _ => rfl) (fun l hl => q.sep l (by rw [hsame]; exact hl)) (fun l hl => q.dis l (by rw [hsame]; exact hl))
  ·intro k; have := hA2.rng k; rw [hnx] at this; exact this
  ·have := hA2.nx; rw [hnx] at this; exact this
  ·rintro d ⟨k, hk, hr, hd⟩
   exact hA2.own d ⟨k, by rw [hsame]; exact hk, by rw [hsame]; exact hr, by rw [hsame]; exact hd⟩
  ·intro k d hk hd; exact hA2.keep k d (by rw [hsame]; exact hk) hd
  ·intro k hk hl; have q := hA2.fts k hk hl; rw [hsame] at q; exact q
theorem akm (hw : WRel ρ a w) {b : Builtin} {ts : Array TypeId} {ty : TypeId} {cs : Array Bool} {vs : List AV} {args : Array Value} (hv : VRels ρ vs args.toList) (n : Nat) :
  NOK ρ a w (builtin b ts ty cs args) (sw b ts.toList vs a n) := by
 unfold sw
 split <;> try trivial
 ·rename_i t r x hts
  obtain ⟨x', rfl, hx⟩ := xi hv
  exact (a3w hw (tj hts) hx n).next
 ·rename_i t r s x hts
  obtain ⟨s', x', rfl, hs, hx⟩ := nn hv
  have h1 : r.head? = ts[1]? := by
   have := congrArg (·[1]?) hts
   simp only [Array.getElem?_toList, List.getElem?_cons_succ] at this
   rw [this, List.head?_eq_getElem?]
  rw [h1]
  exact (am1 hw (tj hts) hs hx n).next
 ·rename_i t t2 p n' hts
  obtain ⟨s', x', rfl, hs, hx⟩ := nn hv
  have : ts = #[t, t2] := by rw [← Array.toArray_toList (xs := ts), hts]
  subst this
  exact (akq hw hs hx n).next
 ·rename_i x
  obtain ⟨x', rfl, hx⟩ := xi hv
  exact (aqz hw hx n).next
variable {τ : F} {e : Operand → Value}
theorem a0h (hw : WRel ρ a w) (he : ∀ x, VRel ρ (evX x τ) (e x)) (o : Oper) (n : Nat) : NOK ρ a w (execOp e o) (xOp o.op τ a n) := by
 obtain ⟨dst, op, ty, p, q, g⟩ := o
 unfold xOp
 split <;> try trivial
 ·rename_i t x ho; cases ho; exact (a0e hw (he x) t n).next
 ·rename_i t x i ho; cases ho; exact (aea hw (he x) (he i) n).next
 ·rename_i t x i ho; cases ho; exact (aqu hw (he x) (he i) n).next
 ·rename_i op t x y _ ho; cases ho; exact (a3v hw (he x) (he y) n).next
 ·rename_i s d x ho; cases ho; exact (aqr hw (he x) n).next
 ·rename_i t x lo hi mx ho; cases ho; exact (aq1 hw (he x) (tf he lo) (tf he hi) (tf he mx) n).next
 ·rename_i t m k ok ho; cases ho; exact (am2 hw (he m) (he k) n).next
 ·rename_i t m k v ho; cases ho; exact (am8 hw (he m) (he k) (he v) n).next
 ·rename_i t x ho; cases ho; exact (aqy hw (he x) n).next
 ·rename_i it s ho; cases ho; exact (a0g hw (he it) n).next
 ·rename_i b args ts ho
  cases ho
  refine (akm hw (b := b) (ts := ts) (ty := ty) (cs := args.map fun | .const _ => true | _ => false) (m8 he args) n).of_run ?_
  simp only [execOp, resolve, zR, zT, zQ, invoke]
  rfl
theorem apw {A : List SA} (hA : SAll Gv.σ A) {e : SE} {n : Int} (h : sa e A = some n) : e.eval Gv.σ = n := by
 induction A with
 | nil =>
   unfold sa arl at h
   split at h
   ·injection h
   ·cases h
 | cons x l ih =>
   have ih := ih (fun y hy => hA y (zA _ hy))
   obtain ⟨lt, a, b, r⟩ := x
   unfold sa at h
   split at h
   ·rename_i m
    rw [aa] at h
    split at h
    ·rename_i he
     injection h with h
     have := hA (.mk false a (.c m) true) (by simp)
     have := of_decide_eq_true (this : decide (a.eval Gv.σ = (SE.c m).eval Gv.σ) = true)
     rw [av _ _ he, this, ← h]; simp only [SE.eval]
    ·exact ih h
   ·exact ih h
theorem ay2 {ρ : Env} {v : AV} {x : Value} (h : VRel ρ v x) : VRel ρ (acn v) x := by
 cases v <;> try exact h
 rename_i k e A
 show VRel ρ (a35 (sa e A) k e A) x
 cases hk : sa e A with
 | none => exact h
 | some n =>
   simp only [VRel] at h
   show VRel ρ (.int k n) x
   simp only [VRel]
   rw [h.2, apw h.1 hk]
theorem asj (o : Op) (τ : F) (a : W) : gOp o τ a = j6 (match fOp o τ a with
  | .no c => xOp o τ a c
  | r => r) := by
 unfold gOp
 cases fOp o τ a <;> rfl
theorem NOK.norm {s : Sem Next} {r : OR} (h : NOK ρ a w s r) : NOK ρ a w s (j6 r) := by
 cases r with
 | val v w' =>
   intro hc
   obtain ⟨ρ', w2, hA, h⟩ := h hc
   refine ⟨ρ', w2, hA, ?_⟩
   rcases h with ⟨v', h1, h2⟩ | ⟨h1, h2⟩
   ·exact .inl ⟨v', h1, ay2 h2⟩
   ·exact .inr ⟨h1, by rw [h2]; rfl⟩
 | _ => exact h
theorem a49 (hw : WRel ρ a w) (he : ∀ x, VRel ρ (evX x τ) (e x)) (o : Oper) : NOK ρ a w (execOp e o) (gOp o.op τ a) := by
 have h := NOK.le (a38 (τ := τ) (e := e) hw he o) (asd o.op τ a)
 rw [asj]
 refine NOK.norm ?_
 split
 ·exact a0h hw he o _
 ·exact h
theorem adx (hw : WRel ρ a w) (he : ∀ x, VRel ρ (evX x τ) (e x)) (o : Oper) : NOK ρ a w (execOp e o) (zOp o.op τ a) := by
 have h := a38 (τ := τ) (e := e) hw he o
 unfold zOp
 refine NOK.norm ?_
 split
 ·exact a0h hw he o _
 ·exact h
theorem asi (o : Op) (τ : F) (a : W) : gD o τ a = zOp o τ a := by
 rcases asd o τ a with ⟨c, h⟩ | h
 ·unfold gD; rw [h]
 ·unfold gD
  cases hf : fOp o τ a <;> rw [hf] at h <;> first
   | rfl
   | (unfold zOp; rw [← h]; rfl)
end
end Go.Ev
