import Derived.Test.YtocilenpboklbaaGreatDoorEvV
set_option linter.all false
namespace Go.Ev
variable [Gv]
section
variable {ρ : Env} {a : W} {w : World}
theorem al4 (hw : WRel ρ a w) {s : TypeId} {f : Nat} {p : AV} {p' : Value} (hp : VRel ρ p p') : VOK ρ a w (Instr.fieldAt s p' f) (l9 s f p a) := by
 unfold l9
 split <;> try trivial
 rename_i off size b o hs
 simp only [VRel] at hp
 obtain ⟨c, hc, rfl⟩ := hp
 rw [ae]
 split <;> try trivial
 rename_i h0
 obtain ⟨fa, fd, hu, hf, rfl, hsz⟩ := aio hs
 have hne : size ≠ 0 := fun e => h0 (by rw [e]; rfl)
 refine VOK.here hw (v' := .pointer (some ⟨c, o + fd.offset, none⟩)) ?_ (by simp only [VRel]; exact ⟨c, hc, rfl⟩)
 simp only [Instr.fieldAt, zR, af hu, zQ, hf, Instr.sureAddr, zT, fieldPlace, bn hsz, hne, if_false, ca]
theorem a3l (hw : WRel ρ a w) {s : TypeId} {f : Nat} {x : AV} {x' : Value} (hx : VRel ρ x x') : VOK ρ a w (Instr.field s x' f) (aa7 s f x a) := by
 unfold aa7
 split <;> try trivial
 rename_i cs fd hf
 simp only [VRel] at hx
 obtain ⟨ys, rfl, hx⟩ := hx
 cases hfo : fieldsOf s with
 | none => rw [hfo] at hf; cases hf
 | some fs =>
   obtain ⟨fa, hu, rfl⟩ := ad4 hfo
   rw [hfo] at hf
   have hf : fa[f]? = some fd := by simpa using hf
   refine im hw fun v hv => ?_
   obtain ⟨v', h1, h2⟩ := xc (w := w) hv hx
   refine ⟨v', ?_, h2⟩
   simp only [Instr.field, zR, af hu, zQ, hf, asAgg, zT, h1]
theorem ma {x : AV} {x' : Value} {n : Nat} (h : ahp x = some n) (hx : VRel ρ x x') : ∃ k, x' = .int k (Int.ofNat n) := by
 unfold ahp at h
 split at h
 ·cases h; simp only [VRel] at hx; exact ⟨_, hx⟩
 ·cases h
theorem amh (hw : WRel ρ a w) {t : TypeId} {x i : AV} {x' i' : Value} (hx : VRel ρ x x') (hi : VRel ρ i i') : VOK ρ a w (Instr.indexAt t x' i') (om t x i a) := by
 unfold om
 split
 ·rename_i n len e b o hn hu
  obtain ⟨k, rfl⟩ := ma hn hi
  simp only [VRel] at hx
  obtain ⟨c, hc, rfl⟩ := hx
  split <;> try trivial
  rename_i s hs
  rw [ae]
  split <;> try trivial
  rename_i hlt
  have hlt : n < len := by simpa using hlt
  refine VOK.here hw (v' := .pointer (some ⟨c, o + n * s, none⟩)) ?_ (by simp only [VRel]; exact ⟨c, hc, rfl⟩)
  have h1 : (0 : Int) ≤ Int.ofNat n ∧ Int.ofNat n < (len : Int) := ⟨by simp, by simp; exact hlt⟩
  simp only [Instr.indexAt, zR, asIntOf, zT, zQ, af hu, Instr.sureAddr, h1, and_self, if_true, zR, bn hs, ca]
  rfl
 ·rename_i n e b o len cap ex hn hu
  obtain ⟨k, rfl⟩ := ma hn hi
  simp only [VRel] at hx
  obtain ⟨c, cap', hc, _, _, rfl⟩ := hx
  split <;> try trivial
  rename_i s hs
  rw [ae]
  split <;> try trivial
  rename_i hlt
  have hlt : n < len := by simpa using hlt
  refine VOK.here hw (v' := .pointer (some ⟨c, o + n * s, none⟩)) ?_ (by simp only [VRel]; exact ⟨c, hc, rfl⟩)
  have h1 : (0 : Int) ≤ Int.ofNat n ∧ Int.ofNat n < (len : Int) := ⟨by simp, by simp; exact hlt⟩
  simp only [Instr.indexAt, zR, asIntOf, zT, zQ, af hu, h1, and_self, if_true, zR, bn hs, ca]
  rfl
 ·rename_i n e b kb d len hn hu
  obtain ⟨k, rfl⟩ := ma hn hi
  simp only [VRel] at hx
  obtain ⟨c, c', cap', hc, hk, _, rfl⟩ := hx
  split <;> try trivial
  rename_i s hs
  rw [ae]
  split <;> try trivial
  rename_i hs1
  obtain rfl := zW hs1
  rw [ae]
  split <;> try trivial
  rename_i hlt
  have hlt : n < len := by simpa using hlt
  refine VOK.here hw (v' := .pointer (some ⟨c, ρ.sz kb + d + n * 1, none⟩)) ?_ (by simp only [VRel]; exact ⟨c, c', hc, hk, by simp [Nat.add_assoc]⟩)
  have h1 : (0 : Int) ≤ Int.ofNat n ∧ Int.ofNat n < (len : Int) := ⟨by simp, by simp; exact hlt⟩
  simp only [Instr.indexAt, zR, asIntOf, zT, zQ, af hu, h1, and_self, if_true, zR, bn hs, ca]
  rfl
 ·trivial
theorem a3z (hw : WRel ρ a w) {t : TypeId} {x i : AV} {x' i' : Value} (hx : VRel ρ x x') (hi : VRel ρ i i') : VOK ρ a w (Instr.index t x' i') (aa8 t x i a) := by
 unfold aa8
 split
 ·rename_i n len m hn hu
  obtain ⟨k, rfl⟩ := ma hn hi
  simp only [VRel] at hx
  obtain ⟨hm, rfl⟩ := hx
  rw [ae]
  split <;> try trivial
  rename_i hlt
  have hlt : n < len := by simpa using hlt
  refine VOK.here hw (v' := .int .u8 (sAt len m n)) ?_ (cg rfl)
  have hg : (ax len m)[n]? = some (UInt8.ofNat (sAt len m n)) := by
   have h1 : (bj len m)[n]? = some (UInt8.ofNat (sAt len m n)) := by
    rw [zK (by rw [ay]; exact hlt), mn]
   show (ax len m).data[n]? = _
   simpa [ax] using h1
  have h1 : (0 : Int) ≤ Int.ofNat n := by simp
  simp only [Instr.index, zR, asIntOf, zT, zQ, af hu, h1, if_true]
  rw [show (Int.ofNat n).toNat = n from rfl, hg]
  simp only [zT, vg]
 ·rename_i n len e cs hn hu
  obtain ⟨k, rfl⟩ := ma hn hi
  simp only [VRel] at hx
  obtain ⟨ys, rfl, hx⟩ := hx
  split <;> try trivial
  rename_i s hs
  rw [ae]
  split <;> try trivial
  rename_i hlt
  have hlt : n < len := by simpa using hlt
  refine im hw fun v hv => ?_
  obtain ⟨v', h1, h2⟩ := xc (w := w) hv hx
  refine ⟨v', ?_, h2⟩
  have h3 : (0 : Int) ≤ Int.ofNat n ∧ Int.ofNat n < (len : Int) := ⟨by simp, by simp; exact hlt⟩
  simp only [Instr.index, zR, asIntOf, zT, zQ, af hu, h3, and_self, if_true, zR, bn hs]
  exact h1
 ·trivial
end
end Go.Ev
set_option linter.all false
namespace Go.Ev
variable [Gv]
section
variable {ρ : Env} {a : W} {w : World}
def d7 (ρ : Env) : Option AV → Option Value → Prop
 | none, o => o = none
 | some v, o => ∃ v', o = some v' ∧ VRel ρ v v'
theorem kh {x : AV} {x' : Value} {d y y' n : Nat} (h : jp (some x) d y = some n) (hx : VRel ρ x x') (hy : y ≤ y') (code : BoundsCode) : (Instr.sliceBound x' y' code).run PP w = .ok n w ∧ n ≤ y := by
 simp only [jp] at h
 split at h <;> try (cases h; done)
 rename_i m hm
 rw [ae] at h
 split at h <;> try (cases h; done)
 rename_i hb
 have hb := zE hb
 cases h
 obtain ⟨k, rfl⟩ := ma hm hx
 have h1 : (0 : Int) ≤ Int.ofNat n ∧ Int.ofNat n ≤ (y' : Int) := ⟨by simp, by simp; omega⟩
 refine ⟨?_, hb⟩
 simp only [Instr.sliceBound, zR, asIntOf, zT, zQ, h1, and_self, if_true]
 rfl
theorem qk {d y n : Nat} (h : jp none d y = some n) : n = d := by simp only [jp] at h; cases h; rfl
theorem ql {isS : Bool} {len cap cap' h l : Nat} {lo hi : Option AV} {lo' hi' : Option Value} (hlo : d7 ρ lo lo') (hhi : d7 ρ hi hi') (hc : cap ≤ cap') (hl : len ≤ cap)
  (e1 : jp hi len cap = some h) (e2 : jp lo 0 h = some l) : (Instr.sliceBounds isS len cap' lo' hi' none).run PP w = .ok (l, h, cap') w ∧ l ≤ h ∧ h ≤ cap := by
 cases hi with
 | none =>
   simp only [d7] at hhi; subst hhi; have := qk e1; subst this
   cases lo with
   | none => simp only [d7] at hlo; subst hlo; have := qk e2; subst this; exact ⟨rfl, Nat.zero_le _, hl⟩
   | some v =>
     simp only [d7] at hlo; obtain ⟨v', rfl, hv⟩ := hlo
     have p := fun c => kh (w := w) e2 hv (zY _) c
     exact ⟨by simp only [Instr.sliceBounds, zR, zT, zQ, (p _).1], (p .index).2, hl⟩
 | some u =>
   simp only [d7] at hhi; obtain ⟨u', rfl, hu⟩ := hhi
   have q := fun c => kh (w := w) e1 hu hc c
   cases lo with
   | none => simp only [d7] at hlo; subst hlo; have := qk e2; subst this; exact ⟨by simp only [Instr.sliceBounds, zR, zT, zQ, (q _).1], Nat.zero_le _, (q .index).2⟩
   | some v =>
     simp only [d7] at hlo; obtain ⟨v', rfl, hv⟩ := hlo
     have p := fun c => kh (w := w) e2 hv (zY _) c
     exact ⟨by simp only [Instr.sliceBounds, zR, zT, zQ, (q _).1, (p _).1], (p .index).2, (q .index).2⟩
theorem ad0 {isS : Bool} {len cap cap' h l m : Nat} {lo : Option AV} {lo' : Option Value} {hi mx : AV} {hi' mx' : Value} (hlo : d7 ρ lo lo') (hhi : VRel ρ hi hi') (hmx : VRel ρ mx mx') (hc : cap ≤ cap')
  (e0 : jp (some mx) 0 cap = some m) (e1 : jp (some hi) len m = some h) (e2 : jp lo 0 h = some l) : (Instr.sliceBounds isS len cap' lo' (some hi') (some mx')).run PP w = .ok (l, h, m) w ∧ l ≤ h ∧ h ≤ m ∧ m ≤ cap := by
 have p0 := fun c => kh (w := w) e0 hmx hc c
 have p1 := fun c => kh (w := w) e1 hhi (zY _) c
 cases lo with
 | none => simp only [d7] at hlo; subst hlo; have := qk e2; subst this; exact ⟨by simp only [Instr.sliceBounds, zR, zT, zQ, (p0 _).1, (p1 _).1], Nat.zero_le _, (p1 .index).2, (p0 .index).2⟩
 | some v =>
   simp only [d7] at hlo; obtain ⟨v', rfl, hv⟩ := hlo
   have p := fun c => kh (w := w) e2 hv (zY _) c
   exact ⟨by simp only [Instr.sliceBounds, zR, zT, zQ, (p0 _).1, (p1 _).1, (p _).1], (p .index).2, (p1 .index).2, (p0 .index).2⟩
theorem re (len n lo hi : Nat) (h1 : lo ≤ hi) (h2 : hi ≤ len) : (ax len n).extract lo hi = ax (hi - lo) (Nat.shiftRight n (8 * (len - hi)) % 256 ^ (hi - lo)) := by
 apply ByteArray.ext
 unfold ax
 rw [ao3 _ _ _ _ h1 h2]
 simp
theorem a6f (hw : WRel ρ a w) {t : TypeId} {x : AV} {x' : Value} {lo hi mx : Option AV} {lo' hi' mx' : Option Value} (hx : VRel ρ x x') (hlo : d7 ρ lo lo') (hhi : d7 ρ hi hi') (hmx : d7 ρ mx mx') :
  VOK ρ a w (Instr.sliceAt t x' lo' hi' mx') (aba t x lo hi mx a) := by
 unfold aba
 split
 ·rename_i len n hu
  simp only [VRel] at hx
  obtain ⟨hn, rfl⟩ := hx
  split <;> try trivial
  rename_i h hb
  simp only [d7] at hmx
  subst hmx
  split <;> try trivial
  rename_i l hl
  obtain ⟨r, b1, b2⟩ := ql (isS := false) (w := w) hlo hhi (zY _) (zY _) hb hl
  refine VOK.here hw (v' := .string ((ax len n).extract l h)) ?_ ?_
  ·simp only [Instr.sliceAt, zR, af hu, zQ, Instr.slice, Option.isSome_none, zF, if_false, dy]
   simp only [r, zQ, zT]
  ·unfold bnd
   simp only [VRel]
   exact ⟨Nat.mod_lt _ (Nat.pow_pos (by decide)), by rw [re _ _ _ _ b1 b2]; rfl⟩
 ·rename_i e hu
  simp only [VRel] at hx
  subst hx
  split <;> try trivial
  rename_i s h l hs hb hl
  simp only [d7] at hmx
  subst hmx
  have hh : h = 0 := by
   cases hi with
   | none => exact qk hb
   | some v => simp only [d7] at hhi; obtain ⟨v', rfl, hv⟩ := hhi; have := (kh (w := w) hb hv (zY _) .index).2; omega
  subst hh
  obtain ⟨r, b1, b2⟩ := ql (isS := true) (w := w) hlo hhi (zY _) (zY _) hb hl
  obtain rfl : l = 0 := by omega
  refine VOK.here hw (v' := .slice none 0 0) ?_ (by simp only [VRel])
  simp only [Instr.sliceAt, zR, af hu, zQ, Instr.slice, r, bn hs, if_true, zT, Nat.sub_self]
 ·rename_i e b o len cap ex hu
  simp only [VRel] at hx
  obtain ⟨c, cap', hc, ⟨hlen, hcap⟩, hex, rfl⟩ := hx
  split
  ·rename_i s hs
   simp only [d7] at hmx
   subst hmx
   split <;> try trivial
   rename_i h hb
   split <;> try trivial
   rename_i l hl
   obtain ⟨r, b1, b2⟩ := ql (isS := true) (w := w) hlo hhi hcap hlen hb hl
   split
   ·simp only [SlOk] at hex
    rw [ae]
    split
    ·rename_i hlt
     have hlt : l < cap := by simpa using hlt
     refine VOK.here hw (v' := .slice (some ⟨c, o + l * s, none⟩) (h - l) (cap' - l)) ?_ (by simp only [VRel, SlOk]; exact ⟨c, cap' - l, hc, by omega, by omega, rfl⟩)
     have : ¬ cap' = l := by omega
     simp only [Instr.sliceAt, zR, af hu, zQ, Instr.slice, r, bn hs, this, if_false, Option.map_some, ca, zT]
    ·rename_i hlt
     have hlt : ¬ l < cap := by simpa using hlt
     refine VOK.here hw (v' := .slice (some ⟨c, o, none⟩) (h - l) 0) ?_ (by simp only [VRel, SlOk]; exact ⟨c, 0, hc, by omega, rfl, rfl⟩)
     have : cap' = l := by omega
     simp only [Instr.sliceAt, zR, af hu, zQ, Instr.slice, r, bn hs, zT]
     rw [if_pos this, this, Nat.sub_self]
   ·rename_i es
    simp only [SlOk] at hex
    simp only [ae]
    split <;> try trivial
    rename_i hes
    obtain rfl := zW hes
    split
    ·rename_i hlt
     have hlt : l < cap := by simpa using hlt
     have hroom : o + l * es + (cap' - l) * es = o + cap' * es := by
      rw [Nat.add_assoc, ← Nat.add_mul]; congr 2; omega
     refine VOK.here hw (v' := .slice (some ⟨c, o + l * es, none⟩) (h - l) (cap' - l)) ?_ (by simp only [VRel, SlOk]; exact ⟨c, cap' - l, hc, by omega, by omega, rfl⟩)
     have : ¬ cap' = l := by omega
     simp only [Instr.sliceAt, zR, af hu, zQ, Instr.slice, r, bn hs, this, if_false, Option.map_some, ca, zT]
    ·split
     ·rename_i h0
      have h0 := zW h0
      refine VOK.here hw (v' := .slice (some ⟨c, o, none⟩) (h - l) (cap' - l)) ?_ (by simp only [VRel, SlOk]; exact ⟨c, cap' - l, hc, by omega, by rw [h0]; exact hex, rfl⟩)
      have hadd : (⟨c, o, none⟩ : Addr).add (l * es) = ⟨c, o, none⟩ := by rw [h0, ca]; simp
      simp only [Instr.sliceAt, zR, af hu, zQ, Instr.slice, r, bn hs, Option.map_some, hadd, ite_self, zT]
     ·rename_i hlt _
      have hlt : ¬ l < cap := by simpa using hlt
      have hz : h - l = 0 := by omega
      by_cases hcl : cap' = l
      ·refine VOK.here hw (v' := .slice (some ⟨c, o, none⟩) 0 (cap' - l)) ?_ (by simp only [VRel]; exact ⟨_, _, rfl⟩)
       simp only [Instr.sliceAt, zR, af hu, zQ, Instr.slice, r, bn hs, zT, hz]
       rw [if_pos hcl]
      ·refine VOK.here hw (v' := .slice (some ⟨c, o + l * es, none⟩) 0 (cap' - l)) ?_ (by simp only [VRel]; exact ⟨_, _, rfl⟩)
       simp only [Instr.sliceAt, zR, af hu, zQ, Instr.slice, r, bn hs, hcl, if_false, Option.map_some, ca, zT, hz]
  ·rename_i s m hs
   simp only [d7] at hmx
   obtain ⟨m', rfl, hm⟩ := hmx
   split <;> try trivial
   rename_i m hi e0
   simp only [d7] at hhi
   obtain ⟨hi', rfl, hhi⟩ := hhi
   split <;> try trivial
   rename_i h hb
   split <;> try trivial
   rename_i l hl
   obtain ⟨r, b1, b2, b3⟩ := ad0 (isS := true) (w := w) hlo hhi hm hcap e0 hb hl
   rw [ae]
   split
   ·rename_i hlt
    have hlt : l < m := by simpa using hlt
    refine VOK.here hw (v' := .slice (some ⟨c, o + l * s, none⟩) (h - l) (m - l)) ?_ (by simp only [VRel]; exact ⟨c, m - l, hc, by omega, rfl, rfl⟩)
    have : ¬ m = l := by omega
    simp only [Instr.sliceAt, zR, af hu, zQ, Instr.slice, r, bn hs, this, if_false, Option.map_some, ca, zT]
   ·rename_i hlt
    have hlt : ¬ l < m := by simpa using hlt
    refine VOK.here hw (v' := .slice (some ⟨c, o, none⟩) (h - l) 0) ?_ (by simp only [VRel]; exact ⟨c, 0, hc, by omega, rfl, rfl⟩)
    have : m = l := by omega
    simp only [Instr.sliceAt, zR, af hu, zQ, Instr.slice, r, bn hs, zT]
    rw [if_pos this, this, Nat.sub_self]
  ·trivial
 ·rename_i e b kb d n hu
  simp only [VRel] at hx
  obtain ⟨c, c', cap', hc, hk, ⟨hn1, hn2, hn3, hn4⟩, rfl⟩ := hx
  split <;> try trivial
  rename_i s hs
  simp only [d7] at hmx hhi
  subst hmx hhi
  rw [ae]
  split <;> try trivial
  rename_i hs1
  obtain rfl := zW hs1
  split <;> try trivial
  rename_i l hl
  obtain ⟨r, b1, b2⟩ := ql (isS := true) (w := w) (hi := none) (hi' := none) (len := n) (cap := n) (h := n) hlo (by simp only [d7]) hn2 (zY _) rfl hl
  rw [ae]
  split
  ·rename_i hlt
   have hlt : l < n := by simpa using hlt
   refine VOK.here hw (v' := .slice (some ⟨c, ρ.sz kb + d + l * 1, none⟩) (n - l) (cap' - l)) ?_ (by simp only [VRel]; exact ⟨c, c', cap' - l, hc, hk, by omega, by simp [Nat.add_assoc]⟩)
   have : ¬ cap' = l := by omega
   simp only [Instr.sliceAt, zR, af hu, zQ, Instr.slice, r, bn hs, this, if_false, Option.map_some, ca, zT]
  ·rename_i hlt
   have hlt : ¬ l < n := by simpa using hlt
   have hz : n - l = 0 := by omega
   by_cases hcl : cap' = l
   ·refine VOK.here hw (v' := .slice (some ⟨c, ρ.sz kb + d, none⟩) 0 (cap' - l)) ?_ (by simp only [VRel]; exact ⟨c, _, _, hc, by omega, rfl⟩)
    simp only [Instr.sliceAt, zR, af hu, zQ, Instr.slice, r, bn hs, zT, hz]
    rw [if_pos hcl]
   ·refine VOK.here hw (v' := .slice (some ⟨c, ρ.sz kb + d + l * 1, none⟩) 0 (cap' - l)) ?_ (by simp only [VRel]; exact ⟨c, _, _, hc, by omega, rfl⟩)
    simp only [Instr.sliceAt, zR, af hu, zQ, Instr.slice, r, bn hs, hcl, if_false, Option.map_some, ca, zT, hz]
 ·rename_i n e b o hu
  simp only [VRel] at hx
  obtain ⟨c, hc, rfl⟩ := hx
  split <;> try trivial
  rename_i s hs
  simp only [d7] at hmx
  subst hmx
  split <;> try trivial
  rename_i h hb
  split <;> try trivial
  rename_i l hl
  obtain ⟨r, b1, b2⟩ := ql (isS := false) (w := w) hlo hhi (zY _) (zY _) hb hl
  rw [ae]
  split
  ·rename_i hlt
   have hlt : l < n := by simpa using hlt
   refine VOK.here hw (v' := .slice (some ⟨c, o + l * s, none⟩) (h - l) (n - l)) ?_ (by simp only [VRel]; exact ⟨c, n - l, hc, by omega, rfl, rfl⟩)
   have : ¬ n = l := by omega
   simp only [Instr.sliceAt, zR, af hu, zQ, Instr.sureAddr, zT, r, bn hs, this, if_false, ca]
  ·rename_i hlt
   have hlt : ¬ l < n := by simpa using hlt
   have hnl : n = l := by omega
   refine VOK.here hw (v' := .slice (some ⟨c, o, none⟩) (h - l) 0) ?_ (by simp only [VRel]; exact ⟨c, 0, hc, by omega, rfl, rfl⟩)
   simp only [Instr.sliceAt, zR, af hu, zQ, Instr.sureAddr, zT, r, bn hs]
   rw [if_pos hnl, hnl, Nat.sub_self]
 ·trivial
end
end Go.Ev
set_option linter.all false
namespace Go.Ev
variable [Gv]
section
variable {ρ : Env} {a : W} {w : World}
theorem cz {c : Nat} {o : Obj} (h : w.heap[c]? = some o) (hn : ∀ arr t fz, o ≠ .cells arr t fz) : (getObj c).run PP w = .ok o w := by
 cases o <;> first | (exact absurd rfl (hn _ _ _)) | simp [getObj, Sem.run, h]
theorem gy {c : Nat} {o o' : Obj} (h : w.heap[c]? = some o) (hn : ∀ arr t fz, o ≠ .cells arr t fz) : (setObj c o').run PP w = .ok () { w with heap := w.heap.setIfInBounds c o' } := by
 cases o <;> first | (exact absurd rfl (hn _ _ _)) | simp [setObj, Sem.run, h]
theorem jl (hw : WRel ρ a w) {b : K} {c : Nat} {o : AObj} {x obj : Obj} (hg : db b a ≠ .none) (hr : (db b a).isRo = false) (hc : ρ b = some c) (hx : w.heap[c]? = some x) (ho : ORel ρ o (some obj)) (hn : o ≠ .none) (hcell : ∀ arr t fz, obj ≠ .cells arr t fz) (hlb : bi (db b a) = none) (hlo : bi o = none := by rfl) :
  Adv ρ a w ρ (wset b o a) { w with heap := w.heap.setIfInBounds c obj } := by
 have hlt := (zI.1 hx).1
 rw [bg] at hg hr hlb
 exact xo (c := c) hw hg hr hc ho hn (fun arr t fz e => absurd e (hcell arr t fz)) (by simp [Array.getElem?_setIfInBounds_self_of_lt hlt]) (by simp) (fun d hd => by simp [Array.getElem?_setIfInBounds_ne (Ne.symm hd)]) rfl rfl rfl hlb hlo
def nv : TypeDesc → Bool
 | .string | .int _ | .bool => true
 | _ => false
theorem ou {t : TypeId} (h : nd t = true) : ∃ k e d, ba t = some (.map k e) ∧ ba k = some d ∧ nv d = true := by
 unfold nd at h
 split at h
 ·rename_i k e hu
  split at h
  ·rename_i hk; exact ⟨k, e, _, hu, hk, rfl⟩
  ·rename_i hk; exact ⟨k, e, _, hu, hk, rfl⟩
  ·rename_i hk; exact ⟨k, e, _, hu, hk, rfl⟩
  ·cases h
 ·cases h
theorem c9 {e : Bool} {k : TypeId} {d : TypeDesc} {v : Value} (hk : ba k = some d) (hd : nv d = true) : (Instr.checkKey e 10000 k v).run PP w = .ok () w := by
 unfold Instr.checkKey
 simp only [zR, af hk, zQ]
 cases d <;> first | (cases hd; done) | (cases v <;> rfl)
theorem ub {k k1 : AV} {k' k1' : Value} {r : Bool} {d : TypeDesc} (h : pa k k1 = some r) (hk : VRel ρ k k') (hk1 : VRel ρ k1 k1') (hd : nv d = true) (hf : abm d k = true) : Instr.sameNow d k' k1' = some r := by
 unfold pa at h
 split at h <;> try (cases h; done)
 ·simp only [VRel] at hk hk1
  obtain ⟨h1, rfl⟩ := hk
  obtain ⟨h2, rfl⟩ := hk1
  cases h
  cases d <;> first | (cases hf; done) | skip
  simp only [Instr.sameNow]
  rw [beq_toListBytes, uu _ _ _ _ h1 h2]
 ·simp only [VRel] at hk hk1
  subst hk; subst hk1
  rw [ae] at h
  split at h <;> try (cases h; done)
  rename_i hk
  obtain rfl := (ec _ _).1 hk
  cases h
  cases d <;> first | (cases hf; done) | skip
  simp [Instr.sameNow, n7]
 ·simp only [VRel] at hk hk1
  subst hk; subst hk1
  cases h
  cases d <;> first | (cases hf; done) | skip
  simp [Instr.sameNow]
theorem qe {k : AV} {k' : Value} {d : TypeDesc} (hk : VRel ρ k k') (hd : nv d = true) (hf : abm d k = true) : ∀ (es : List (AV × AV)) (ms : List MapEntry) (i : Nat) (r : Option AV), ERel ρ es ms → wv k es = some r →
  (match r with | none => Instr.findNow d k' ms i = some none | some v => ∃ j v', Instr.findNow d k' ms i = some (some (j, v')) ∧ VRel ρ v v')
 | [], _, i, r, he, h => by simp only [ERel] at he; subst he; simp only [wv] at h; cases h; rfl
 | e :: es, _, i, r, he, h => by
   simp only [ERel] at he
   obtain ⟨m, ms, rfl, h1, h2, h3⟩ := he
   simp only [wv] at h
   split at h <;> try (cases h; done)
   ·rename_i hq
    cases h
    refine ⟨i, m.val, ?_, h2⟩
    simp only [Instr.findNow, ub hq hk h1 hd hf]
   ·rename_i hq
    have := qe hk hd hf es ms (i + 1) r h3 h
    cases r with
    | none => simp only [Instr.findNow, ub hq hk h1 hd hf]; exact this
    | some v => obtain ⟨j, v', x, y⟩ := this; exact ⟨j, v', by simp only [Instr.findNow, ub hq hk h1 hd hf]; exact x, y⟩
theorem jq (hw : WRel ρ a w) {s : Sem Value} {ok : Bool} {v : AV} {v' : Value} {b : Bool} (hv : VRel ρ v v') (h : s.run PP w = .ok (if ok then .tuple #[v', .bool b] else v') w) : VOK ρ a w s (qw ok v b a) := by
 unfold qw
 cases ok
 ·exact VOK.here hw h hv
 ·refine VOK.here hw h ?_
  simp only [aas, VRel, if_true]
  exact ⟨_, rfl, by simp only [VRels]; exact ⟨v', [.bool b], rfl, hv, .bool b, [], rfl, by simp only [VRel], rfl⟩⟩
theorem aqh {t k e : TypeId} {d : TypeDesc} {x : AV} (h : ake t x = true) (hu : ba t = some (.map k e)) (hk : ba k = some d) : abm d x = true := by
 unfold ake vc at h
 rw [hu] at h
 simp only [hk] at h
 exact h
theorem dx {k : TypeId} {d : TypeDesc} {k' : Value} {ms : List MapEntry} {r : Option (Nat × Value)} (hk : ba k = some d) (h : Instr.findNow d k' ms 0 = some r) : (Instr.findKey k k' ms).run PP w = .ok r w := by
 simp only [Instr.findKey, zR, af hk, zQ, h, zT]
theorem a0u {t : TypeId} (h : atw t = true) : ∃ d, ba t = some d ∧ nv d = true := by
 unfold atw at h
 split at h <;> first | (cases h; done) | (rename_i hk; exact ⟨_, hk, rfl⟩)
theorem af9 {e : Bool} {k : TypeId} {d : TypeDesc} {v : Value} (n : Nat) (hk : ba k = some d) (hd : nv d = true) : (Instr.checkKey e (n + 1) k v).run PP w = .ok () w := by
 unfold Instr.checkKey
 simp only [zR, af hk, zQ]
 cases d <;> first | (cases hd; done) | (cases v <;> rfl)
theorem vn {e : Bool} {kt : TypeId} {fs : Array Field} {cs : List AV} {cs' : Array Value} (hu : ba kt = some (.struct fs)) (hp : uc cs fs.toList = true) (hc : VRels ρ cs cs'.toList) :
  (Instr.checkKey e 10000 kt (.agg cs')).run PP w = .ok () w := by
 have loop : ∀ (l : List Field), uc cs l = true → (forIn l PUnit.unit (fun f (_ : PUnit) => (if f.name ≠ "_" then do
    let x ← part f.type cs' f.offset
    Instr.checkKey e 9999 f.type x
    pure (ForInStep.yield PUnit.unit)
   else pure (ForInStep.yield PUnit.unit) : Sem (ForInStep PUnit)))).run PP w = .ok PUnit.unit w := by
  intro l
  induction l with
  | nil => intro _; rfl
  | cons f l ih =>
    intro h
    simp only [uc, ae] at h
    split at h <;> try (cases h; done)
    rename_i hc1
    simp only [zU] at hc1
    obtain ⟨d, hd, hpd⟩ := a0u hc1.1
    obtain ⟨x, hx⟩ := Option.isSome_iff_exists.1 hc1.2
    obtain ⟨x', rx, _⟩ := xc (w := w) hx hc
    rw [List.forIn_cons]
    by_cases hn : f.name = "_"
    ·simp only [hn, ne_eq, not_true_eq_false, if_false, zR, zT, zQ]
     exact ih h
    ·simp only [ne_eq, hn, not_false_eq_true, if_true, zR, rx, zQ, af9 9998 hd hpd, zT]
     exact ih h
 have hh := loop fs.toList hp
 unfold Instr.checkKey
 simp only [zR, af hu, zQ]
 rw [← Array.forIn_toList]
 exact (congrArg (fun r : Result PUnit => r.andThen fun _ w' => Sem.run PP (pure ()) w') hh).trans rfl
theorem x7 (hw : WRel ρ a w) {kt : TypeId} {k : AV} {k' : Value} (hk : VRel ρ k k') : ∀ (es : List (AV × AV)) (ms : List MapEntry) (i : Nat) (r : Option AV), ERel ρ es ms → aj3 a kt k es = some r →
  (match r with | none => (Instr.findAsking kt k' ms i).run PP w = .ok none w | some v => ∃ j v', (Instr.findAsking kt k' ms i).run PP w = .ok (some (j, v')) w ∧ VRel ρ v v')
 | [], _, i, r, he, h => by simp only [ERel] at he; subst he; simp only [aj3] at h; cases h; rfl
 | e :: es, _, i, r, he, h => by
   simp only [ERel] at he
   obtain ⟨m, ms, rfl, h1, h2, h3⟩ := he
   simp only [aj3] at h
   split at h <;> try (cases h; done)
   ·rename_i hq
    cases h
    have := tp hw 8 kt k e.1 true k' m.key hq hk h1 Op.maxDepth (by decide)
    refine ⟨i, m.val, ?_, h2⟩
    simp only [Instr.findAsking, Op.equal, zR, this, zQ, if_true, zT]
   ·rename_i hq
    have hh := tp hw 8 kt k e.1 false k' m.key hq hk h1 Op.maxDepth (by decide)
    have := x7 hw hk es ms (i + 1) r h3 h
    cases r with
    | none => simp only [Instr.findAsking, Op.equal, zR, hh, zQ, zF, if_false]; exact this
    | some v =>
      obtain ⟨j, v', x, y⟩ := this
      refine ⟨j, v', ?_, y⟩
      simp only [Instr.findAsking, Op.equal, zR, hh, zQ, zF, if_false]; exact x
theorem mt {kt : TypeId} {fs : Array Field} {k' : Value} {ms : List MapEntry} (hu : ba kt = some (.struct fs)) : (Instr.findKey kt k' ms).run PP w = (Instr.findAsking kt k' ms 0).run PP w := by
 cases ms with
 | nil => simp only [Instr.findKey, zR, af hu, zQ, Instr.findNow, Instr.findAsking]
 | cons m ms =>
   have : Instr.findNow (.struct fs) k' (m :: ms) 0 = none := by
    simp only [Instr.findNow]
    have : Instr.sameNow (.struct fs) k' m.key = none := rfl
    rw [this]
   simp only [Instr.findKey, zR, af hu, zQ, this]
theorem awe {t kt : TypeId} {k : AV} (h : a84 t k = some kt) : ∃ e fs cs, ba t = some (.map kt e) ∧ ba kt = some (.struct fs) ∧ k = .agg cs ∧ uc cs fs.toList = true := by
 unfold a84 at h
 split at h <;> try (cases h; done)
 rename_i kt' e hu
 split at h <;> try (cases h; done)
 rename_i fs cs hk
 rw [ae] at h
 split at h <;> cases h
 rename_i hp
 exact ⟨e, fs, cs, hu, hk, rfl, hp⟩
theorem atm (hw : WRel ρ a w) {t : TypeId} {m k : AV} {m' k' : Value} {ok : Bool} (hm : VRel ρ m m') (hk : VRel ρ k k') : VOK ρ a w (Instr.lookup t m' k' ok) (xx t m k ok a) := by
 unfold xx
 split <;> try trivial
 rename_i kt hks
 obtain ⟨et, fs, cs, hu, hkd, rfl, hp⟩ := awe hks
 have hk0 := hk
 simp only [VRel] at hk
 obtain ⟨cs', rfl, hcs⟩ := hk
 have hck : ∀ e, (Instr.checkKey e 10000 kt (.agg cs')).run PP w = .ok () w := fun e => vn hkd hp hcs
 split
 ·rename_i z hz
  simp only [VRel] at hm
  subst hm
  unfold mq at hz
  rw [hu] at hz
  obtain ⟨i, z', hi, hz', rfl⟩ := di hz
  refine jq hw (fp ρ z') ?_
  have hfk : (Instr.findKey kt (.agg cs') []).run PP w = .ok none w := by rw [mt hkd]; rfl
  simp only [Instr.lookup, zR, af hu, zQ, zT, hck, hfk, fi hi hz']
 ·rename_i z b hz
  simp only [VRel] at hm
  obtain ⟨c, hc, rfl⟩ := hm
  unfold mq at hz
  rw [hu] at hz
  obtain ⟨i, z', hi, hz', rfl⟩ := di hz
  split <;> try trivial
  rename_i es hg
  obtain ⟨entries, clock, e1, e2⟩ := hw.block hg (by simp) hc
  have ab := cz (w := w) e1 (by simp)
  split <;> try trivial
  ·rename_i v hv
   obtain ⟨j, v', h1, h2⟩ := x7 hw hk0 es _ 0 _ e2 hv
   refine jq hw h2 ?_
   rw [← mt hkd] at h1
   simp only [Instr.lookup, zR, af hu, zQ, zT, ab, hck, h1]
  ·rename_i hv
   have h1 := x7 hw hk0 es _ 0 _ e2 hv
   refine jq hw (fp ρ z') ?_
   have h1 : (Instr.findAsking kt (.agg cs') entries.toList 0).run PP w = .ok none w := h1
   rw [← mt hkd] at h1
   simp only [Instr.lookup, zR, af hu, zQ, zT, ab, hck, h1, fi hi hz']
 ·trivial
theorem ERel.snoc {k v : AV} {m : MapEntry} (hk : VRel ρ k m.key) (hv : VRel ρ v m.val) : ∀ (es : List (AV × AV)) (ms : List MapEntry), ERel ρ es ms → ERel ρ (es ++ [(k, v)]) (ms ++ [m])
 | [], _, h => by simp only [ERel] at h; subst h; simp only [zD, ERel]; exact ⟨m, [], rfl, hk, hv, rfl⟩
 | e :: es, _, h => by
   simp only [ERel] at h
   obtain ⟨x, xs, rfl, h1, h2, h3⟩ := h
   simp only [zJ, ERel]
   exact ⟨x, _, rfl, h1, h2, ERel.snoc hk hv es xs h3⟩
theorem aul (hw : WRel ρ a w) {t : TypeId} {m k v : AV} {m' k' v' : Value} (hm : VRel ρ m m') (hk : VRel ρ k k') (hv : VRel ρ v v') : UOK ρ a w (Instr.mapUpdate t m' k' v') (act t m k v a) := by
 unfold act
 split <;> try trivial
 rename_i kt hks
 obtain ⟨et, fs, cs, hu, hkd, rfl, hp⟩ := awe hks
 have hk0 := hk
 simp only [VRel] at hk
 obtain ⟨cs', rfl, hcs⟩ := hk
 have hck : ∀ e, (Instr.checkKey e 10000 kt (.agg cs')).run PP w = .ok () w := fun e => vn hkd hp hcs
 split <;> try trivial
 rename_i b
 simp only [VRel] at hm
 obtain ⟨c, hc, rfl⟩ := hm
 split <;> try trivial
 rename_i es hg
 obtain ⟨entries, clock, e1, e2⟩ := hw.block hg (by simp) hc
 have ab := cz (w := w) e1 (by simp)
 split <;> try trivial
 rename_i hes
 intro _
 refine ⟨rfl, ρ, ?_⟩
 have h1 : (Instr.findAsking kt (.agg cs') entries.toList 0).run PP w = .ok none w := x7 hw hk0 es _ 0 _ e2 hes
 rw [← mt hkd] at h1
 refine ⟨_, ?_, jl (obj := .map (entries.push { key := .agg cs', val := v', born := clock }) (clock + 1)) hw (by rw [hg]; simp) (by rw [hg]; rfl) hc e1 ⟨_, _, rfl, by rw [Array.toList_push]; exact ERel.snoc hk0 hv _ _ e2⟩ (by simp) (by simp) (by rw [hg]; rfl)⟩
 simp only [Instr.mapUpdate, zR, af hu, zQ, ab, hck, h1]
 exact gy e1 (by simp)
theorem adb {k : AV} : ∀ {es : List (AV × AV)}, aeb k es = true → ∀ e ∈ es, pa k e.1 = some false
 | e :: es, h, x, hx => by
   simp only [aeb] at h
   split at h
   ·rename_i hq
    rcases List.mem_cons.1 hx with e' | e'
    ·subst e'; exact hq
    ·exact adb h x e'
   ·cases h
theorem aq7 {k : AV} : ∀ {es : List (AV × AV)}, (∀ e ∈ es, pa k e.1 = some false) → aeb k es = true
 | [], _ => rfl
 | e :: es, h => by simp only [aeb, h e (by simp)]; exact aq7 fun x hx => h x (zA _ hx)
theorem x6 {k : AV} {l2 : List (AV × AV)} : ∀ {l1 : List (AV × AV)}, (∀ x ∈ l1, pa k x.1 = some false) → wv k (l1 ++ l2) = wv k l2
 | [], _ => rfl
 | e :: l1, h => by
   simp only [zJ, wv, h e (by simp)]
   exact x6 fun x hx => h x (zA _ hx)
theorem ag1 {k : AV} : ∀ {es : List (AV × AV)} {r : Option AV}, aj4 k es = some r →
  (r = none ∧ ∀ e ∈ es, pa k e.1 = some false) ∨ ∃ pre e post, es = pre ++ e :: post ∧ (∀ x ∈ pre ++ post, pa k x.1 = some false) ∧ pa k e.1 = some true ∧ r = some e.2
 | [], r, h => by simp only [aj4] at h; cases h; exact .inl ⟨rfl, fun _ h => by cases h⟩
 | e :: es, r, h => by
   simp only [aj4] at h
   split at h
   ·rename_i hq
    rw [ae] at h
    split at h
    ·rename_i hn
     cases h
     exact .inr ⟨[], e, es, rfl, fun x hx => adb hn x hx, hq, rfl⟩
    ·cases h
   ·rename_i hq
    rcases ag1 h with ⟨h1, h2⟩ | ⟨pre, e', post, h1, h2, h3, h4⟩
    ·refine .inl ⟨h1, fun x hx => ?_⟩
     rcases List.mem_cons.1 hx with e1 | e1
     ·subst e1; exact hq
     ·exact h2 x e1
    ·refine .inr ⟨e :: pre, e', post, by rw [h1]; rfl, fun x hx => ?_, h3, h4⟩
     rcases List.mem_cons.1 hx with e1 | e1
     ·subst e1; exact hq
     ·exact h2 x e1
   ·cases h
theorem ag0 {k : AV} {es l : List (AV × AV)} {r : Option AV} (h : aj4 k es = some r) (hp : l.Perm es) : wv k l = some r := by
 rcases ag1 h with ⟨rfl, h2⟩ | ⟨pre, e, post, rfl, h2, h3, rfl⟩
 ·have := x6 (k := k) (l1 := l) (l2 := []) fun x hx => h2 x (hp.mem_iff.1 hx)
  rw [List.append_nil] at this
  rw [this]; rfl
 ·have hm : e ∈ l := hp.mem_iff.2 (by simp)
  obtain ⟨l1, l2, rfl⟩ := List.append_of_mem hm
  have hp2 : (l1 ++ l2).Perm (pre ++ post) := List.Perm.cons_inv ((List.perm_middle.symm.trans hp).trans List.perm_middle)
  rw [x6 fun x hx => h2 x (hp2.mem_iff.1 (List.mem_append_left _ hx))]
  simp only [wv, h3]
theorem a0h (hw : WRel ρ a w) {t : TypeId} {m k : AV} {m' k' : Value} {ok : Bool} (hm : VRel ρ m m') (hk : VRel ρ k k') : VOK ρ a w (Instr.lookup t m' k' ok) (wq t m k ok a) := by
 unfold wq
 rw [ae]
 split
 case isFalse => exact atm hw hm hk
 rename_i hp
 simp only [zU] at hp
 obtain ⟨kt, et, d, hu, hkd, hd⟩ := ou hp.1
 have hf := aqh hp.2 hu hkd
 split
 ·rename_i z hz
  simp only [VRel] at hm
  subst hm
  unfold mq at hz
  rw [hu] at hz
  obtain ⟨i, z', hi, hz', rfl⟩ := di hz
  refine jq hw (fp ρ z') ?_
  have hfk : (Instr.findKey kt k' []).run PP w = .ok none w := dx hkd rfl
  simp only [Instr.lookup, zR, af hu, zQ, zT, c9 hkd hd, hfk, fi hi hz']
 ·rename_i z b hz
  simp only [VRel] at hm
  obtain ⟨c, hc, rfl⟩ := hm
  unfold mq at hz
  rw [hu] at hz
  obtain ⟨i, z', hi, hz', rfl⟩ := di hz
  split <;> try trivial
  ·rename_i es hg
   obtain ⟨entries, clock, e1, e2⟩ := hw.block hg (by simp) hc
   have ab := cz (w := w) e1 (by simp)
   split <;> try trivial
   ·rename_i v hv
    obtain ⟨j, v', h1, h2⟩ := qe hk hd hf es _ 0 _ e2 hv
    refine jq hw h2 ?_
    simp only [Instr.lookup, zR, af hu, zQ, zT, ab, c9 hkd hd, dx hkd h1]
   ·rename_i hv
    have h1 := qe hk hd hf es _ 0 _ e2 hv
    refine jq hw (fp ρ z') ?_
    simp only [Instr.lookup, zR, af hu, zQ, zT, ab, c9 hkd hd, dx hkd h1, fi hi hz']
  ·rename_i es hg
   obtain ⟨entries, clock, l, e1, ep, e2⟩ := hw.block hg (by simp) hc
   have ab := cz (w := w) e1 (by simp)
   split <;> try trivial
   ·rename_i v hv
    obtain ⟨j, v', h1, h2⟩ := qe hk hd hf l _ 0 _ e2 (ag0 hv ep)
    refine jq hw h2 ?_
    simp only [Instr.lookup, zR, af hu, zQ, zT, ab, c9 hkd hd, dx hkd h1]
   ·rename_i hv
    have h1 := qe hk hd hf l _ 0 _ e2 (ag0 hv ep)
    refine jq hw (fp ρ z') ?_
    simp only [Instr.lookup, zR, af hu, zQ, zT, ab, c9 hkd hd, dx hkd h1, fi hi hz']
 ·trivial
theorem am9 {d : TypeDesc} {x y : Value} (h : Instr.sameNow d x y = some true) : Instr.sameBits 10000 y x = true := by
 unfold Instr.sameNow at h
 split at h <;> try (cases h; done)
 ·split at h <;> try (cases h; done)
  rename_i e; subst e
  simp at h
  simp [Instr.sameBits, h]
 ·simp only [Option.some.injEq] at h
  simp only [Instr.sameBits]
  rw [beq_toListBytes, beq_iff_eq] at h ⊢
  exact h.symm
 ·simp at h; simp [Instr.sameBits, h]
theorem arl {k v : AV} {k' v' : Value} {d : TypeDesc} {clock : Nat} (hk : VRel ρ k k') (hv : VRel ρ v v') (hd : nv d = true) (hf : abm d k = true) :
  ∀ (es : List (AV × AV)) (ms : List MapEntry) (i : Nat) (es' : List (AV × AV)), ERel ρ es ms → a5s k v es = some es' →
  (∃ j x m, Instr.findNow d k' ms i = some (some (i + j, x)) ∧ ms[j]? = some m ∧ Instr.sameBits 10000 m.key k' = true ∧ ERel ρ es' (ms.modify j fun e => { e with key := k', val := v' })) ∨
  (Instr.findNow d k' ms i = some none ∧ ERel ρ es' (ms ++ [{ key := k', val := v', born := clock }]))
 | [], _, i, es', he, h => by
   simp only [ERel] at he; subst he
   simp only [a5s] at h; cases h
   right
   refine ⟨rfl, ?_⟩
   simp only [zD, ERel]
   exact ⟨_, [], rfl, hk, hv, rfl⟩
 | e :: es, _, i, es', he, h => by
   simp only [ERel] at he
   obtain ⟨m, ms, rfl, h1, h2, h3⟩ := he
   simp only [a5s] at h
   split at h <;> try (cases h; done)
   ·rename_i hq
    cases h
    left
    have hn := ub hq hk h1 hd hf
    refine ⟨0, m.val, m, by simp only [Instr.findNow, hn, Nat.add_zero], rfl, am9 hn, ?_⟩
    simp only [List.modify_zero_cons, ERel]
    exact ⟨_, ms, rfl, hk, hv, h3⟩
   ·rename_i hq
    simp only [zG] at h
    obtain ⟨es1, hes, rfl⟩ := h
    have hn := ub hq hk h1 hd hf
    rcases arl hk hv hd hf es ms (i + 1) es1 h3 hes with ⟨j, x, m', q1, q2, q3, q4⟩ | ⟨q1, q2⟩
    ·left
     refine ⟨j + 1, x, m', ?_, by simpa using q2, q3, ?_⟩
     ·simp only [Instr.findNow, hn, q1]
      rw [show i + 1 + j = i + (j + 1) by omega]
     ·simp only [List.modify_succ_cons, ERel]
      exact ⟨m, _, rfl, h1, h2, q4⟩
    ·right
     refine ⟨by simp only [Instr.findNow, hn, q1], ?_⟩
     simp only [zJ, ERel]
     exact ⟨m, _, rfl, h1, h2, q2⟩
theorem ala (hw : WRel ρ a w) {t : TypeId} {m k v : AV} {m' k' v' : Value} (hm : VRel ρ m m') (hk : VRel ρ k k') (hv : VRel ρ v v') : UOK ρ a w (Instr.mapUpdate t m' k' v') (tv t m k v a) := by
 unfold tv
 rw [ae]
 split
 case isFalse => exact aul hw hm hk hv
 rename_i hp
 simp only [zU] at hp
 obtain ⟨kt, et, d, hu, hkd, hd⟩ := ou hp.1
 have hf := aqh hp.2 hu hkd
 split <;> try trivial
 rename_i b
 simp only [VRel] at hm
 obtain ⟨c, hc, rfl⟩ := hm
 split <;> try trivial
 ·rename_i es hg
  obtain ⟨entries, clock, e1, e2⟩ := hw.block hg (by simp) hc
  have ab := cz (w := w) e1 (by simp)
  split <;> try trivial
  rename_i es' hes
  intro _
  refine ⟨rfl, ρ, ?_⟩
  rcases arl (clock := clock) hk hv hd hf es entries.toList 0 es' e2 hes with ⟨j, x, e0, q1, q2, q3, q4⟩ | ⟨q1, q2⟩
  ·have hj : entries[j]? = some e0 := by simpa using q2
   refine ⟨_, ?_, jl (obj := .map (entries.modify j fun e => { e with key := k', val := v' }) clock) hw (by rw [hg]; simp) (by rw [hg]; rfl) hc e1 ⟨_, _, rfl, by rw [Array.toList_modify]; exact q4⟩ (by simp) (by simp) (by rw [hg]; rfl)⟩
   rw [Nat.zero_add] at q1
   simp only [Instr.mapUpdate, zR, af hu, zQ, ab, c9 hkd hd, dx hkd q1, hj, Option.map_some, Option.getD_some, Instr.keyThatStays, q3, if_true, zT]
   exact gy e1 (by simp)
  ·refine ⟨_, ?_, jl (obj := .map (entries.push { key := k', val := v', born := clock }) (clock + 1)) hw (by rw [hg]; simp) (by rw [hg]; rfl) hc e1 ⟨_, _, rfl, by simpa using q2⟩ (by simp) (by simp) (by rw [hg]; rfl)⟩
   simp only [Instr.mapUpdate, zR, af hu, zQ, ab, c9 hkd hd, dx hkd q1]
   exact gy e1 (by simp)
 ·rename_i es hg
  obtain ⟨entries, clock, l, e1, ep, e2⟩ := hw.block hg (by simp) hc
  have ab := cz (w := w) e1 (by simp)
  rw [ae]
  split <;> try trivial
  rename_i hn
  intro _
  refine ⟨rfl, ρ, ?_⟩
  have h0 : wv k l = some none := by
   have := x6 (k := k) (l1 := l) (l2 := []) fun x hx => adb hn x (ep.mem_iff.1 hx)
   rw [List.append_nil] at this
   rw [this]; rfl
  have h1 := qe hk hd hf l _ 0 _ e2 h0
  refine ⟨_, ?_, jl (obj := .map (entries.push { key := k', val := v', born := clock }) (clock + 1)) hw (by rw [hg]; simp) (by rw [hg]; rfl) hc e1 ⟨_, _, l ++ [(k, v)], rfl, ep.append_right _, by rw [Array.toList_push]; exact ERel.snoc hk hv _ _ e2⟩ (by simp) (by simp) (by rw [hg]; rfl)⟩
  simp only [Instr.mapUpdate, zR, af hu, zQ, ab, c9 hkd hd, dx hkd h1]
  exact gy e1 (by simp)
theorem a5w (hw : WRel ρ a w) {t : TypeId} {x : AV} {x' : Value} (hx : VRel ρ x x') : VOK ρ a w (Instr.range t x') (al0 t x a) := by
 unfold al0
 split <;> try trivial
 rename_i len n hu
 simp only [VRel] at hx
 obtain ⟨hn, rfl⟩ := hx
 refine yo hw (obj := .stringIter (ax len n) 0) (f' := fun c => .pointer (some ⟨c, 0, none⟩)) ⟨rfl, hn⟩ ?_ ?_
 ·intro ρ' k c hk; simp only [a0x, VRel]; exact ⟨c, hk, rfl⟩
 ·simp only [Instr.range, zR, af hu, zQ, zT, run_newObj]; rfl
theorem jj (len n i : Nat) (h : i < len) : ((ax len n).get! i).toNat = sAt len n i := by
 have h1 : (bj len n)[i]? = some (UInt8.ofNat (sAt len n i)) := by
  rw [zK (by rw [ay]; exact h), mn]
 have h2 : (ax len n).get! i = UInt8.ofNat (sAt len n i) := by
  show (ax len n).data[i]! = _
  rw [getElem!_def]
  have : (ax len n).data[i]? = some (UInt8.ofNat (sAt len n i)) := by simpa [ax] using h1
  rw [this]
 rw [h2, vg]
theorem a2m (len n i k : Nat) : (decide (i + k < (ax len n).size) && ((ax len n).get! (i + k)).toNat / 64 == 2) = o9 len n i k := by
 unfold o9
 rw [dy, ae]
 by_cases hk : i + k < len
 ·rw [jj len n (i + k) hk]
  have : Nat.blt (i + k) len = true := by simpa using hk
  rw [this]
  simp [hk]
  rw [Bool.eq_iff_iff]; simp
 ·have : Nat.blt (i + k) len = false := by rw [Bool.eq_false_iff]; intro e; exact hk (by simpa using e)
  rw [this]; simp [hk]
theorem tl {len n i k : Nat} (h : o9 len n i k = true) : i + k < len := by
 unfold o9 at h
 rw [ae] at h
 split at h
 ·rename_i h1; simpa using h1
 ·cases h
theorem bpn (a b : Nat) : Nat.beq a b = (a == b) := by rw [Bool.eq_iff_iff]; simp
theorem bpo (a b : Nat) : Nat.ble a b = decide (a ≤ b) := by rw [Bool.eq_iff_iff]; simp
theorem bpp (a b : Nat) : Nat.blt a b = decide (a < b) := by rw [Bool.eq_iff_iff]; simp
theorem a8o (len n i : Nat) (h : i < len) : a8n len n i = Utf8.decode (ax len n) i := by
 have e0 : ((ax len n).get! (i + 0)).toNat = sAt len n (i + 0) := jj len n (i + 0) h
 unfold a8n Utf8.decode
 simp only [a2m, e0, ae, bpn, bpo, bpp, decide_eq_true_eq]
 generalize sAt len n (i + 0) = b0
 by_cases c0 : b0 < 128
 ·rw [if_pos c0, if_pos c0]
 ·rw [if_neg c0, if_neg c0]
  by_cases c1 : (b0 / 32 == 6 && o9 len n i 1) = true
  ·rw [if_pos c1, if_pos c1]
   simp only [zU] at c1
   rw [jj len n (i + 1) (tl c1.2)]
   simp only [ge_iff_le]; rfl
  ·rw [if_neg c1, if_neg c1]
   by_cases c2 : (b0 / 16 == 14 && o9 len n i 1 && o9 len n i 2) = true
   ·rw [if_pos c2, if_pos c2]
    simp only [zU] at c2
    rw [jj len n (i + 1) (tl c2.1.2), jj len n (i + 2) (tl c2.2)]
    simp only [ge_iff_le]; rfl
   ·rw [if_neg c2, if_neg c2]
    by_cases c3 : (b0 / 8 == 30 && o9 len n i 1 && o9 len n i 2 && o9 len n i 3) = true
    ·rw [if_pos c3, if_pos c3]
     simp only [zU] at c3
     rw [jj len n (i + 1) (tl c3.1.1.2), jj len n (i + 2) (tl c3.1.2), jj len n (i + 3) (tl c3.2)]
     simp only [ge_iff_le]; rfl
    ·rw [if_neg c3, if_neg c3]; rfl
theorem a9p (hw : WRel ρ a w) {it : AV} {it' : Value} {s : Bool} {t : TypeId} (hi : VRel ρ it it') : VOK ρ a w (Instr.next it' s t) (as5 it s a) := by
 unfold as5
 split <;> try trivial
 rename_i b
 simp only [VRel] at hi
 obtain ⟨c, hc, rfl⟩ := hi
 split <;> try trivial
 rename_i len n pos hg
 obtain ⟨e1, e2⟩ := hw.block hg (by simp) hc
 have ab := cz (w := w) e1 (by simp)
 rw [ae]
 split
 ·rename_i hlt
  have hlt : pos < len := by simpa using hlt
  have hd := a8o len n pos hlt
  cases hdec : a8n len n pos with
  | mk ch wd =>
    rw [hdec] at hd
    intro _
    refine ⟨ρ, _, .tuple #[.bool true, .int .i64 pos, .int .i32 ch], ?_, ?_, jl (obj := .stringIter (ax len n) (pos + wd)) hw (by rw [hg]; simp) (by rw [hg]; rfl) hc e1 ⟨rfl, e2⟩ (by simp) (by simp) (by rw [hg]; rfl)⟩
    ·simp only [Instr.next, zR, ab, zQ, dy, hlt, if_true, ← hd]
     rw [gy e1 (by simp)]
     rfl
    ·simp only [VRel]
     refine ⟨_, rfl, ?_⟩
     simp only [VRels]
     exact ⟨_, _, rfl, by simp only [VRel], _, _, rfl, by simp only [VRel]; rfl, _, _, rfl, by simp only [VRel]; rfl, rfl⟩
 ·rename_i hlt
  have hlt : ¬ pos < len := by simpa using hlt
  refine VOK.here hw (v' := .tuple #[.bool false]) ?_ (by simp only [VRel]; exact ⟨_, rfl, by simp only [VRels]; exact ⟨_, _, rfl, by simp only [VRel], rfl⟩⟩)
  simp only [Instr.next, zR, ab, zQ, dy, hlt, if_false, zT]
end
end Go.Ev
