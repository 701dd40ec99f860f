import Derived.Test.YtdeddgiacdjjdaaGreatDoorEvV
set_option linter.all false
namespace Go.Ev
variable [Gv]
section
variable {ρ : Env} {a : W} {w : World}
theorem agc (hw : WRel ρ a w) {s : TypeId} {f : Nat} {p : AV} {p' : Value} (hp : VRel ρ p p') : VOK ρ a w (Instr.fieldAt s p' f) (j4 s f p a) := by
 unfold j4
 split <;> try trivial
 rename_i off size b o hs
 simp only [VRel] at hp
 obtain ⟨c, hc, rfl⟩ := hp
 rw [aa]
 split <;> try trivial
 rename_i h0
 obtain ⟨fa, fd, hu, hf, rfl, hsz⟩ := adh hs
 have hne : size ≠ 0 := fun e => h0 (by rw [e]; rfl)
 refine VOK.here hw (v' := .pointer (some ⟨c, o + fd.offset, none⟩)) ?_ (by simp only [VRel]; exact ⟨c, hc, rfl⟩)
 simp only [Instr.fieldAt, zR, ab hu, zQ, hf, Instr.sureAddr, zT, fieldPlace, ax hsz, hne, if_false, ba]
theorem ase (hw : WRel ρ a w) {s : TypeId} {f : Nat} {x : AV} {x' : Value} (hx : VRel ρ x x') : VOK ρ a w (Instr.field s x' f) (wn s f x a) := by
 unfold wn
 split <;> try trivial
 rename_i cs fd hf
 simp only [VRel] at hx
 obtain ⟨ys, rfl, hx⟩ := hx
 cases hfo : fieldsOf s with
 | none => rw [hfo] at hf; cases hf
 | some fs =>
   obtain ⟨fa, hu, rfl⟩ := zk hfo
   rw [hfo] at hf
   have hf : fa[f]? = some fd := by simpa using hf
   refine e9 hw fun v hv => ?_
   obtain ⟨v', h1, h2⟩ := sh (w := w) hv hx
   refine ⟨v', ?_, h2⟩
   simp only [Instr.field, zR, ab hu, zQ, hf, asAgg, zT, h1]
theorem j5 {x : AV} {x' : Value} {n : Nat} (h : ack x = some n) (hx : VRel ρ x x') : ∃ k, x' = .int k (Int.ofNat n) := by
 unfold ack at h
 split at h
 ·cases h; simp only [VRel] at hx; exact ⟨_, hx⟩
 ·cases h
theorem agn (hw : WRel ρ a w) {t : TypeId} {x i : AV} {x' i' : Value} (hx : VRel ρ x x') (hi : VRel ρ i i') : VOK ρ a w (Instr.indexAt t x' i') (lq t x i a) := by
 unfold lq
 split
 ·rename_i n len e b o hn hu
  obtain ⟨k, rfl⟩ := j5 hn hi
  simp only [VRel] at hx
  obtain ⟨c, hc, rfl⟩ := hx
  split <;> try trivial
  rename_i s hs
  rw [aa]
  split <;> try trivial
  rename_i hlt
  have hlt : n < len := by simpa using hlt
  refine VOK.here hw (v' := .pointer (some ⟨c, o + n * s, none⟩)) ?_ (by simp only [VRel]; exact ⟨c, hc, rfl⟩)
  have h1 : (0 : Int) ≤ Int.ofNat n ∧ Int.ofNat n < (len : Int) := ⟨by simp, by simp; exact hlt⟩
  simp only [Instr.indexAt, zR, asIntOf, zT, zQ, ab hu, Instr.sureAddr, h1, and_self, if_true, zR, ax hs, ba]
  rfl
 ·rename_i n e b o len cap ex hn hu
  obtain ⟨k, rfl⟩ := j5 hn hi
  simp only [VRel] at hx
  obtain ⟨c, cap', hc, _, _, rfl⟩ := hx
  split <;> try trivial
  rename_i s hs
  rw [aa]
  split <;> try trivial
  rename_i hlt
  have hlt : n < len := by simpa using hlt
  refine VOK.here hw (v' := .pointer (some ⟨c, o + n * s, none⟩)) ?_ (by simp only [VRel]; exact ⟨c, hc, rfl⟩)
  have h1 : (0 : Int) ≤ Int.ofNat n ∧ Int.ofNat n < (len : Int) := ⟨by simp, by simp; exact hlt⟩
  simp only [Instr.indexAt, zR, asIntOf, zT, zQ, ab hu, h1, and_self, if_true, zR, ax hs, ba]
  rfl
 ·rename_i n e b kb d len hn hu
  obtain ⟨k, rfl⟩ := j5 hn hi
  simp only [VRel] at hx
  obtain ⟨c, c', cap', hc, hk, _, rfl⟩ := hx
  split <;> try trivial
  rename_i s hs
  rw [aa]
  split <;> try trivial
  rename_i hs1
  obtain rfl := zW hs1
  rw [aa]
  split <;> try trivial
  rename_i hlt
  have hlt : n < len := by simpa using hlt
  refine VOK.here hw (v' := .pointer (some ⟨c, ρ.sz kb + d + n * 1, none⟩)) ?_ (by simp only [VRel]; exact ⟨c, c', hc, hk, by simp [Nat.add_assoc]⟩)
  have h1 : (0 : Int) ≤ Int.ofNat n ∧ Int.ofNat n < (len : Int) := ⟨by simp, by simp; exact hlt⟩
  simp only [Instr.indexAt, zR, asIntOf, zT, zQ, ab hu, h1, and_self, if_true, zR, ax hs, ba]
  rfl
 ·trivial
theorem asr (hw : WRel ρ a w) {t : TypeId} {x i : AV} {x' i' : Value} (hx : VRel ρ x x') (hi : VRel ρ i i') : VOK ρ a w (Instr.index t x' i') (wo t x i a) := by
 unfold wo
 split
 ·rename_i n len m hn hu
  obtain ⟨k, rfl⟩ := j5 hn hi
  simp only [VRel] at hx
  obtain ⟨hm, rfl⟩ := hx
  rw [aa]
  split <;> try trivial
  rename_i hlt
  have hlt : n < len := by simpa using hlt
  refine VOK.here hw (v' := .int .u8 (sAt len m n)) ?_ (bh rfl)
  have hg : (ap len m)[n]? = some (UInt8.ofNat (sAt len m n)) := by
   have h1 : (aq len m)[n]? = some (UInt8.ofNat (sAt len m n)) := by
    rw [zK (by rw [aj]; exact hlt), kg]
   show (ap len m).data[n]? = _
   simpa [ap] using h1
  have h1 : (0 : Int) ≤ Int.ofNat n := by simp
  simp only [Instr.index, zR, asIntOf, zT, zQ, ab hu, h1, if_true]
  rw [show (Int.ofNat n).toNat = n from rfl, hg]
  simp only [zT, qs]
 ·rename_i n len e cs hn hu
  obtain ⟨k, rfl⟩ := j5 hn hi
  simp only [VRel] at hx
  obtain ⟨ys, rfl, hx⟩ := hx
  split <;> try trivial
  rename_i s hs
  rw [aa]
  split <;> try trivial
  rename_i hlt
  have hlt : n < len := by simpa using hlt
  refine e9 hw fun v hv => ?_
  obtain ⟨v', h1, h2⟩ := sh (w := w) hv hx
  refine ⟨v', ?_, h2⟩
  have h3 : (0 : Int) ≤ Int.ofNat n ∧ Int.ofNat n < (len : Int) := ⟨by simp, by simp; exact hlt⟩
  simp only [Instr.index, zR, asIntOf, zT, zQ, ab hu, h3, and_self, if_true, zR, ax hs]
  exact h1
 ·trivial
end
end Go.Ev
set_option linter.all false
namespace Go.Ev
variable [Gv]
section
variable {ρ : Env} {a : W} {w : World}
def cj (ρ : Env) : Option AV → Option Value → Prop
 | none, o => o = none
 | some v, o => ∃ v', o = some v' ∧ VRel ρ v v'
theorem iu {x : AV} {x' : Value} {d y y' n : Nat} (h : gf (some x) d y = some n) (hx : VRel ρ x x') (hy : y ≤ y') (code : BoundsCode) : (Instr.sliceBound x' y' code).run PP w = .ok n w ∧ n ≤ y := by
 simp only [gf] at h
 split at h <;> try (cases h; done)
 rename_i m hm
 rw [aa] at h
 split at h <;> try (cases h; done)
 rename_i hb
 have hb := zE hb
 cases h
 obtain ⟨k, rfl⟩ := j5 hm hx
 have h1 : (0 : Int) ≤ Int.ofNat n ∧ Int.ofNat n ≤ (y' : Int) := ⟨by simp, by simp; omega⟩
 refine ⟨?_, hb⟩
 simp only [Instr.sliceBound, zR, asIntOf, zT, zQ, h1, and_self, if_true]
 rfl
theorem mw {d y n : Nat} (h : gf none d y = some n) : n = d := by simp only [gf] at h; cases h; rfl
theorem my {isS : Bool} {len cap cap' h l : Nat} {lo hi : Option AV} {lo' hi' : Option Value} (hlo : cj ρ lo lo') (hhi : cj ρ hi hi') (hc : cap ≤ cap') (hl : len ≤ cap)
  (e1 : gf hi len cap = some h) (e2 : gf lo 0 h = some l) : (Instr.sliceBounds isS len cap' lo' hi' none).run PP w = .ok (l, h, cap') w ∧ l ≤ h ∧ h ≤ cap := by
 cases hi with
 | none =>
   simp only [cj] at hhi; subst hhi; have := mw e1; subst this
   cases lo with
   | none => simp only [cj] at hlo; subst hlo; have := mw e2; subst this; exact ⟨rfl, Nat.zero_le _, hl⟩
   | some v =>
     simp only [cj] at hlo; obtain ⟨v', rfl, hv⟩ := hlo
     have p := fun c => iu (w := w) e2 hv (zY _) c
     exact ⟨by simp only [Instr.sliceBounds, zR, zT, zQ, (p _).1], (p .index).2, hl⟩
 | some u =>
   simp only [cj] at hhi; obtain ⟨u', rfl, hu⟩ := hhi
   have q := fun c => iu (w := w) e1 hu hc c
   cases lo with
   | none => simp only [cj] at hlo; subst hlo; have := mw e2; subst this; exact ⟨by simp only [Instr.sliceBounds, zR, zT, zQ, (q _).1], Nat.zero_le _, (q .index).2⟩
   | some v =>
     simp only [cj] at hlo; obtain ⟨v', rfl, hv⟩ := hlo
     have p := fun c => iu (w := w) e2 hv (zY _) c
     exact ⟨by simp only [Instr.sliceBounds, zR, zT, zQ, (q _).1, (p _).1], (p .index).2, (q .index).2⟩
theorem zc {isS : Bool} {len cap cap' h l m : Nat} {lo : Option AV} {lo' : Option Value} {hi mx : AV} {hi' mx' : Value} (hlo : cj ρ lo lo') (hhi : VRel ρ hi hi') (hmx : VRel ρ mx mx') (hc : cap ≤ cap')
  (e0 : gf (some mx) 0 cap = some m) (e1 : gf (some hi) len m = some h) (e2 : gf lo 0 h = some l) : (Instr.sliceBounds isS len cap' lo' (some hi') (some mx')).run PP w = .ok (l, h, m) w ∧ l ≤ h ∧ h ≤ m ∧ m ≤ cap := by
 have p0 := fun c => iu (w := w) e0 hmx hc c
 have p1 := fun c => iu (w := w) e1 hhi (zY _) c
 cases lo with
 | none => simp only [cj] at hlo; subst hlo; have := mw e2; subst this; exact ⟨by simp only [Instr.sliceBounds, zR, zT, zQ, (p0 _).1, (p1 _).1], Nat.zero_le _, (p1 .index).2, (p0 .index).2⟩
 | some v =>
   simp only [cj] at hlo; obtain ⟨v', rfl, hv⟩ := hlo
   have p := fun c => iu (w := w) e2 hv (zY _) c
   exact ⟨by simp only [Instr.sliceBounds, zR, zT, zQ, (p0 _).1, (p1 _).1, (p _).1], (p .index).2, (p1 .index).2, (p0 .index).2⟩
theorem np (len n lo hi : Nat) (h1 : lo ≤ hi) (h2 : hi ≤ len) : (ap len n).extract lo hi = ap (hi - lo) (Nat.shiftRight n (8 * (len - hi)) % 256 ^ (hi - lo)) := by
 apply ByteArray.ext
 unfold ap
 rw [ahz _ _ _ _ h1 h2]
 simp
theorem azx (hw : WRel ρ a w) {t : TypeId} {x : AV} {x' : Value} {lo hi mx : Option AV} {lo' hi' mx' : Option Value} (hx : VRel ρ x x') (hlo : cj ρ lo lo') (hhi : cj ρ hi hi') (hmx : cj ρ mx mx') :
  VOK ρ a w (Instr.sliceAt t x' lo' hi' mx') (wq t x lo hi mx a) := by
 unfold wq
 split
 ·rename_i len n hu
  simp only [VRel] at hx
  obtain ⟨hn, rfl⟩ := hx
  split <;> try trivial
  rename_i h hb
  simp only [cj] at hmx
  subst hmx
  split <;> try trivial
  rename_i l hl
  obtain ⟨r, b1, b2⟩ := my (isS := false) (w := w) hlo hhi (zY _) (zY _) hb hl
  refine VOK.here hw (v' := .string ((ap len n).extract l h)) ?_ ?_
  ·simp only [Instr.sliceAt, zR, ab hu, zQ, Instr.slice, Option.isSome_none, zF, if_false, cg]
   simp only [r, zQ, zT]
  ·unfold a87
   simp only [VRel]
   exact ⟨Nat.mod_lt _ (Nat.pow_pos (by decide)), by rw [np _ _ _ _ b1 b2]; rfl⟩
 ·rename_i e hu
  simp only [VRel] at hx
  subst hx
  split <;> try trivial
  rename_i s h l hs hb hl
  simp only [cj] at hmx
  subst hmx
  have hh : h = 0 := by
   cases hi with
   | none => exact mw hb
   | some v => simp only [cj] at hhi; obtain ⟨v', rfl, hv⟩ := hhi; have := (iu (w := w) hb hv (zY _) .index).2; omega
  subst hh
  obtain ⟨r, b1, b2⟩ := my (isS := true) (w := w) hlo hhi (zY _) (zY _) hb hl
  obtain rfl : l = 0 := by omega
  refine VOK.here hw (v' := .slice none 0 0) ?_ (by simp only [VRel])
  simp only [Instr.sliceAt, zR, ab hu, zQ, Instr.slice, r, ax hs, if_true, zT, Nat.sub_self]
 ·rename_i e b o len cap ex hu
  simp only [VRel] at hx
  obtain ⟨c, cap', hc, ⟨hlen, hcap⟩, hex, rfl⟩ := hx
  split
  ·rename_i s hs
   simp only [cj] at hmx
   subst hmx
   split <;> try trivial
   rename_i h hb
   split <;> try trivial
   rename_i l hl
   obtain ⟨r, b1, b2⟩ := my (isS := true) (w := w) hlo hhi hcap hlen hb hl
   split
   ·simp only [SlOk] at hex
    rw [aa]
    split
    ·rename_i hlt
     have hlt : l < cap := by simpa using hlt
     refine VOK.here hw (v' := .slice (some ⟨c, o + l * s, none⟩) (h - l) (cap' - l)) ?_ (by simp only [VRel, SlOk]; exact ⟨c, cap' - l, hc, by omega, by omega, rfl⟩)
     have : ¬ cap' = l := by omega
     simp only [Instr.sliceAt, zR, ab hu, zQ, Instr.slice, r, ax hs, this, if_false, Option.map_some, ba, zT]
    ·rename_i hlt
     have hlt : ¬ l < cap := by simpa using hlt
     refine VOK.here hw (v' := .slice (some ⟨c, o, none⟩) (h - l) 0) ?_ (by simp only [VRel, SlOk]; exact ⟨c, 0, hc, by omega, rfl, rfl⟩)
     have : cap' = l := by omega
     simp only [Instr.sliceAt, zR, ab hu, zQ, Instr.slice, r, ax hs, zT]
     rw [if_pos this, this, Nat.sub_self]
   ·rename_i es
    simp only [SlOk] at hex
    simp only [aa]
    split <;> try trivial
    rename_i hes
    obtain rfl := zW hes
    split
    ·rename_i hlt
     have hlt : l < cap := by simpa using hlt
     have hroom : o + l * es + (cap' - l) * es = o + cap' * es := by
      rw [Nat.add_assoc, ← Nat.add_mul]; congr 2; omega
     refine VOK.here hw (v' := .slice (some ⟨c, o + l * es, none⟩) (h - l) (cap' - l)) ?_ (by simp only [VRel, SlOk]; exact ⟨c, cap' - l, hc, by omega, by omega, rfl⟩)
     have : ¬ cap' = l := by omega
     simp only [Instr.sliceAt, zR, ab hu, zQ, Instr.slice, r, ax hs, this, if_false, Option.map_some, ba, zT]
    ·split
     ·rename_i h0
      have h0 := zW h0
      refine VOK.here hw (v' := .slice (some ⟨c, o, none⟩) (h - l) (cap' - l)) ?_ (by simp only [VRel, SlOk]; exact ⟨c, cap' - l, hc, by omega, by rw [h0]; exact hex, rfl⟩)
      have hadd : (⟨c, o, none⟩ : Addr).add (l * es) = ⟨c, o, none⟩ := by rw [h0, ba]; simp
      simp only [Instr.sliceAt, zR, ab hu, zQ, Instr.slice, r, ax hs, Option.map_some, hadd, ite_self, zT]
     ·rename_i hlt _
      have hlt : ¬ l < cap := by simpa using hlt
      have hz : h - l = 0 := by omega
      by_cases hcl : cap' = l
      ·refine VOK.here hw (v' := .slice (some ⟨c, o, none⟩) 0 (cap' - l)) ?_ (by simp only [VRel]; exact ⟨_, _, rfl⟩)
       simp only [Instr.sliceAt, zR, ab hu, zQ, Instr.slice, r, ax hs, zT, hz]
       rw [if_pos hcl]
      ·refine VOK.here hw (v' := .slice (some ⟨c, o + l * es, none⟩) 0 (cap' - l)) ?_ (by simp only [VRel]; exact ⟨_, _, rfl⟩)
       simp only [Instr.sliceAt, zR, ab hu, zQ, Instr.slice, r, ax hs, hcl, if_false, Option.map_some, ba, zT, hz]
  ·rename_i s m hs
   simp only [cj] at hmx
   obtain ⟨m', rfl, hm⟩ := hmx
   split <;> try trivial
   rename_i m hi e0
   simp only [cj] at hhi
   obtain ⟨hi', rfl, hhi⟩ := hhi
   split <;> try trivial
   rename_i h hb
   split <;> try trivial
   rename_i l hl
   obtain ⟨r, b1, b2, b3⟩ := zc (isS := true) (w := w) hlo hhi hm hcap e0 hb hl
   rw [aa]
   split
   ·rename_i hlt
    have hlt : l < m := by simpa using hlt
    refine VOK.here hw (v' := .slice (some ⟨c, o + l * s, none⟩) (h - l) (m - l)) ?_ (by simp only [VRel]; exact ⟨c, m - l, hc, by omega, rfl, rfl⟩)
    have : ¬ m = l := by omega
    simp only [Instr.sliceAt, zR, ab hu, zQ, Instr.slice, r, ax hs, this, if_false, Option.map_some, ba, zT]
   ·rename_i hlt
    have hlt : ¬ l < m := by simpa using hlt
    refine VOK.here hw (v' := .slice (some ⟨c, o, none⟩) (h - l) 0) ?_ (by simp only [VRel]; exact ⟨c, 0, hc, by omega, rfl, rfl⟩)
    have : m = l := by omega
    simp only [Instr.sliceAt, zR, ab hu, zQ, Instr.slice, r, ax hs, zT]
    rw [if_pos this, this, Nat.sub_self]
  ·trivial
 ·rename_i e b kb d n hu
  simp only [VRel] at hx
  obtain ⟨c, c', cap', hc, hk, ⟨hn1, hn2, hn3, hn4⟩, rfl⟩ := hx
  split <;> try trivial
  rename_i s hs
  simp only [cj] at hmx hhi
  subst hmx hhi
  rw [aa]
  split <;> try trivial
  rename_i hs1
  obtain rfl := zW hs1
  split <;> try trivial
  rename_i l hl
  obtain ⟨r, b1, b2⟩ := my (isS := true) (w := w) (hi := none) (hi' := none) (len := n) (cap := n) (h := n) hlo (by simp only [cj]) hn2 (zY _) rfl hl
  rw [aa]
  split
  ·rename_i hlt
   have hlt : l < n := by simpa using hlt
   refine VOK.here hw (v' := .slice (some ⟨c, ρ.sz kb + d + l * 1, none⟩) (n - l) (cap' - l)) ?_ (by simp only [VRel]; exact ⟨c, c', cap' - l, hc, hk, by omega, by simp [Nat.add_assoc]⟩)
   have : ¬ cap' = l := by omega
   simp only [Instr.sliceAt, zR, ab hu, zQ, Instr.slice, r, ax hs, this, if_false, Option.map_some, ba, zT]
  ·rename_i hlt
   have hlt : ¬ l < n := by simpa using hlt
   have hz : n - l = 0 := by omega
   by_cases hcl : cap' = l
   ·refine VOK.here hw (v' := .slice (some ⟨c, ρ.sz kb + d, none⟩) 0 (cap' - l)) ?_ (by simp only [VRel]; exact ⟨c, _, _, hc, by omega, rfl⟩)
    simp only [Instr.sliceAt, zR, ab hu, zQ, Instr.slice, r, ax hs, zT, hz]
    rw [if_pos hcl]
   ·refine VOK.here hw (v' := .slice (some ⟨c, ρ.sz kb + d + l * 1, none⟩) 0 (cap' - l)) ?_ (by simp only [VRel]; exact ⟨c, _, _, hc, by omega, rfl⟩)
    simp only [Instr.sliceAt, zR, ab hu, zQ, Instr.slice, r, ax hs, hcl, if_false, Option.map_some, ba, zT, hz]
 ·rename_i n e b o hu
  simp only [VRel] at hx
  obtain ⟨c, hc, rfl⟩ := hx
  split <;> try trivial
  rename_i s hs
  simp only [cj] at hmx
  subst hmx
  split <;> try trivial
  rename_i h hb
  split <;> try trivial
  rename_i l hl
  obtain ⟨r, b1, b2⟩ := my (isS := false) (w := w) hlo hhi (zY _) (zY _) hb hl
  rw [aa]
  split
  ·rename_i hlt
   have hlt : l < n := by simpa using hlt
   refine VOK.here hw (v' := .slice (some ⟨c, o + l * s, none⟩) (h - l) (n - l)) ?_ (by simp only [VRel]; exact ⟨c, n - l, hc, by omega, rfl, rfl⟩)
   have : ¬ n = l := by omega
   simp only [Instr.sliceAt, zR, ab hu, zQ, Instr.sureAddr, zT, r, ax hs, this, if_false, ba]
  ·rename_i hlt
   have hlt : ¬ l < n := by simpa using hlt
   have hnl : n = l := by omega
   refine VOK.here hw (v' := .slice (some ⟨c, o, none⟩) (h - l) 0) ?_ (by simp only [VRel]; exact ⟨c, 0, hc, by omega, rfl, rfl⟩)
   simp only [Instr.sliceAt, zR, ab hu, zQ, Instr.sureAddr, zT, r, ax hs]
   rw [if_pos hnl, hnl, Nat.sub_self]
 ·trivial
end
end Go.Ev
set_option linter.all false
namespace Go.Ev
variable [Gv]
section
variable {ρ : Env} {a : W} {w : World}
theorem bt {c : Nat} {o : Obj} (h : w.heap[c]? = some o) (hn : ∀ arr t fz, o ≠ .cells arr t fz) : (getObj c).run PP w = .ok o w := by
 cases o <;> first | (exact absurd rfl (hn _ _ _)) | simp [getObj, Sem.run, h]
theorem ea {c : Nat} {o o' : Obj} (h : w.heap[c]? = some o) (hn : ∀ arr t fz, o ≠ .cells arr t fz) : (setObj c o').run PP w = .ok () { w with heap := w.heap.setIfInBounds c o' } := by
 cases o <;> first | (exact absurd rfl (hn _ _ _)) | simp [setObj, Sem.run, h]
theorem gb (hw : WRel ρ a w) {b : K} {c : Nat} {o : AObj} {x obj : Obj} (hg : bz b a ≠ .none) (hr : (bz b a).isRo = false) (hc : ρ b = some c) (hx : w.heap[c]? = some x) (ho : ORel ρ o (some obj)) (hn : o ≠ .none) (hcell : ∀ arr t fz, obj ≠ .cells arr t fz) (hlb : ay (bz b a) = none) (hlo : ay o = none := by rfl) :
  Adv ρ a w ρ (wset b o a) { w with heap := w.heap.setIfInBounds c obj } := by
 have hlt := (zI.1 hx).1
 rw [ar] at hg hr hlb
 exact s6 (c := c) hw hg hr hc ho hn (fun arr t fz e => absurd e (hcell arr t fz)) (by simp [Array.getElem?_setIfInBounds_self_of_lt hlt]) (by simp) (fun d hd => by simp [Array.getElem?_setIfInBounds_ne (Ne.symm hd)]) rfl rfl rfl hlb hlo
def ld : TypeDesc → Bool
 | .string | .int _ | .bool => true
 | _ => false
theorem lw {t : TypeId} (h : kx t = true) : ∃ k e d, al t = some (.map k e) ∧ al k = some d ∧ ld d = true := by
 unfold kx at h
 split at h
 ·rename_i k e hu
  split at h
  ·rename_i hk; exact ⟨k, e, _, hu, hk, rfl⟩
  ·rename_i hk; exact ⟨k, e, _, hu, hk, rfl⟩
  ·rename_i hk; exact ⟨k, e, _, hu, hk, rfl⟩
  ·cases h
 ·cases h
theorem bv {e : Bool} {k : TypeId} {d : TypeDesc} {v : Value} (hk : al k = some d) (hd : ld d = true) : (Instr.checkKey e 10000 k v).run PP w = .ok () w := by
 unfold Instr.checkKey
 simp only [zR, ab hk, zQ]
 cases d <;> first | (cases hd; done) | (cases v <;> rfl)
theorem pb {k k1 : AV} {k' k1' : Value} {r : Bool} {d : TypeDesc} (h : l7 k k1 = some r) (hk : VRel ρ k k') (hk1 : VRel ρ k1 k1') (hd : ld d = true) (hf : xc d k = true) : Instr.sameNow d k' k1' = some r := by
 unfold l7 at h
 split at h <;> try (cases h; done)
 ·simp only [VRel] at hk hk1
  obtain ⟨h1, rfl⟩ := hk
  obtain ⟨h2, rfl⟩ := hk1
  cases h
  cases d <;> first | (cases hf; done) | skip
  simp only [Instr.sameNow]
  rw [beq_toListBytes, py _ _ _ _ h1 h2]
 ·simp only [VRel] at hk hk1
  subst hk; subst hk1
  rw [aa] at h
  split at h <;> try (cases h; done)
  rename_i hk
  obtain rfl := (cq _ _).1 hk
  cases h
  cases d <;> first | (cases hf; done) | skip
  simp [Instr.sameNow, lk]
 ·simp only [VRel] at hk hk1
  subst hk; subst hk1
  cases h
  cases d <;> first | (cases hf; done) | skip
  simp [Instr.sameNow]
theorem mo {k : AV} {k' : Value} {d : TypeDesc} (hk : VRel ρ k k') (hd : ld d = true) (hf : xc d k = true) : ∀ (es : List (AV × AV)) (ms : List MapEntry) (i : Nat) (r : Option AV), ERel ρ es ms → rz k es = some r →
  (match r with | none => Instr.findNow d k' ms i = some none | some v => ∃ j v', Instr.findNow d k' ms i = some (some (j, v')) ∧ VRel ρ v v')
 | [], _, i, r, he, h => by simp only [ERel] at he; subst he; simp only [rz] at h; cases h; rfl
 | e :: es, _, i, r, he, h => by
   simp only [ERel] at he
   obtain ⟨m, ms, rfl, h1, h2, h3⟩ := he
   simp only [rz] at h
   split at h <;> try (cases h; done)
   ·rename_i hq
    cases h
    refine ⟨i, m.val, ?_, h2⟩
    simp only [Instr.findNow, pb hq hk h1 hd hf]
   ·rename_i hq
    have := mo hk hd hf es ms (i + 1) r h3 h
    cases r with
    | none => simp only [Instr.findNow, pb hq hk h1 hd hf]; exact this
    | some v => obtain ⟨j, v', x, y⟩ := this; exact ⟨j, v', by simp only [Instr.findNow, pb hq hk h1 hd hf]; exact x, y⟩
theorem gi (hw : WRel ρ a w) {s : Sem Value} {ok : Bool} {v : AV} {v' : Value} {b : Bool} (hv : VRel ρ v v') (h : s.run PP w = .ok (if ok then .tuple #[v', .bool b] else v') w) : VOK ρ a w s (ng ok v b a) := by
 unfold ng
 cases ok
 ·exact VOK.here hw h hv
 ·refine VOK.here hw h ?_
  simp only [vr, VRel, if_true]
  exact ⟨_, rfl, by simp only [VRels]; exact ⟨v', [.bool b], rfl, hv, .bool b, [], rfl, by simp only [VRel], rfl⟩⟩
theorem ai0 {t k e : TypeId} {d : TypeDesc} {x : AV} (h : aeu t x = true) (hu : al t = some (.map k e)) (hk : al k = some d) : xc d x = true := by
 unfold aeu qn at h
 rw [hu] at h
 simp only [hk] at h
 exact h
theorem ce {k : TypeId} {d : TypeDesc} {k' : Value} {ms : List MapEntry} {r : Option (Nat × Value)} (hk : al k = some d) (h : Instr.findNow d k' ms 0 = some r) : (Instr.findKey k k' ms).run PP w = .ok r w := by
 simp only [Instr.findKey, zR, ab hk, zQ, h, zT]
theorem ap8 {t : TypeId} (h : amc t = true) : ∃ d, al t = some d ∧ ld d = true := by
 unfold amc at h
 split at h <;> first | (cases h; done) | (rename_i hk; exact ⟨_, hk, rfl⟩)
theorem abb {e : Bool} {k : TypeId} {d : TypeDesc} {v : Value} (n : Nat) (hk : al k = some d) (hd : ld d = true) : (Instr.checkKey e (n + 1) k v).run PP w = .ok () w := by
 unfold Instr.checkKey
 simp only [zR, ab hk, zQ]
 cases d <;> first | (cases hd; done) | (cases v <;> rfl)
theorem qw {e : Bool} {kt : TypeId} {fs : Array Field} {cs : List AV} {cs' : Array Value} (hu : al kt = some (.struct fs)) (hp : pc cs fs.toList = true) (hc : VRels ρ cs cs'.toList) :
  (Instr.checkKey e 10000 kt (.agg cs')).run PP w = .ok () w := by
 have loop : ∀ (l : List Field), pc cs l = true → (forIn l PUnit.unit (fun f (_ : PUnit) => (if f.name ≠ "_" then do
    let x ← part f.type cs' f.offset
    Instr.checkKey e 9999 f.type x
    pure (ForInStep.yield PUnit.unit)
   else pure (ForInStep.yield PUnit.unit) : Sem (ForInStep PUnit)))).run PP w = .ok PUnit.unit w := by
  intro l
  induction l with
  | nil => intro _; rfl
  | cons f l ih =>
    intro h
    simp only [pc, aa] at h
    split at h <;> try (cases h; done)
    rename_i hc1
    simp only [zU] at hc1
    obtain ⟨d, hd, hpd⟩ := ap8 hc1.1
    obtain ⟨x, hx⟩ := Option.isSome_iff_exists.1 hc1.2
    obtain ⟨x', rx, _⟩ := sh (w := w) hx hc
    rw [List.forIn_cons]
    by_cases hn : f.name = "_"
    ·simp only [hn, ne_eq, not_true_eq_false, if_false, zR, zT, zQ]
     exact ih h
    ·simp only [ne_eq, hn, not_false_eq_true, if_true, zR, rx, zQ, abb 9998 hd hpd, zT]
     exact ih h
 have hh := loop fs.toList hp
 unfold Instr.checkKey
 simp only [zR, ab hu, zQ]
 rw [← Array.forIn_toList]
 exact (congrArg (fun r : Result PUnit => r.andThen fun _ w' => Sem.run PP (pure ()) w') hh).trans rfl
theorem ti (hw : WRel ρ a w) {kt : TypeId} {k : AV} {k' : Value} (hk : VRel ρ k k') : ∀ (es : List (AV × AV)) (ms : List MapEntry) (i : Nat) (r : Option AV), ERel ρ es ms → ael a kt k es = some r →
  (match r with | none => (Instr.findAsking kt k' ms i).run PP w = .ok none w | some v => ∃ j v', (Instr.findAsking kt k' ms i).run PP w = .ok (some (j, v')) w ∧ VRel ρ v v')
 | [], _, i, r, he, h => by simp only [ERel] at he; subst he; simp only [ael] at h; cases h; rfl
 | e :: es, _, i, r, he, h => by
   simp only [ERel] at he
   obtain ⟨m, ms, rfl, h1, h2, h3⟩ := he
   simp only [ael] at h
   split at h <;> try (cases h; done)
   ·rename_i hq
    cases h
    have := o0 hw 8 kt k e.1 true k' m.key hq hk h1 Op.maxDepth (by decide)
    refine ⟨i, m.val, ?_, h2⟩
    simp only [Instr.findAsking, Op.equal, zR, this, zQ, if_true, zT]
   ·rename_i hq
    have hh := o0 hw 8 kt k e.1 false k' m.key hq hk h1 Op.maxDepth (by decide)
    have := ti hw hk es ms (i + 1) r h3 h
    cases r with
    | none => simp only [Instr.findAsking, Op.equal, zR, hh, zQ, zF, if_false]; exact this
    | some v =>
      obtain ⟨j, v', x, y⟩ := this
      refine ⟨j, v', ?_, y⟩
      simp only [Instr.findAsking, Op.equal, zR, hh, zQ, zF, if_false]; exact x
theorem km {kt : TypeId} {fs : Array Field} {k' : Value} {ms : List MapEntry} (hu : al kt = some (.struct fs)) : (Instr.findKey kt k' ms).run PP w = (Instr.findAsking kt k' ms 0).run PP w := by
 cases ms with
 | nil => simp only [Instr.findKey, zR, ab hu, zQ, Instr.findNow, Instr.findAsking]
 | cons m ms =>
   have : Instr.findNow (.struct fs) k' (m :: ms) 0 = none := by
    simp only [Instr.findNow]
    have : Instr.sameNow (.struct fs) k' m.key = none := rfl
    rw [this]
   simp only [Instr.findKey, zR, ab hu, zQ, this]
theorem an0 {t kt : TypeId} {k : AV} (h : a2q t k = some kt) : ∃ e fs cs, al t = some (.map kt e) ∧ al kt = some (.struct fs) ∧ k = .agg cs ∧ pc cs fs.toList = true := by
 unfold a2q at h
 split at h <;> try (cases h; done)
 rename_i kt' e hu
 split at h <;> try (cases h; done)
 rename_i fs cs hk
 rw [aa] at h
 split at h <;> cases h
 rename_i hp
 exact ⟨e, fs, cs, hu, hk, rfl, hp⟩
theorem al4 (hw : WRel ρ a w) {t : TypeId} {m k : AV} {m' k' : Value} {ok : Bool} (hm : VRel ρ m m') (hk : VRel ρ k k') : VOK ρ a w (Instr.lookup t m' k' ok) (te t m k ok a) := by
 unfold te
 split <;> try trivial
 rename_i kt hks
 obtain ⟨et, fs, cs, hu, hkd, rfl, hp⟩ := an0 hks
 have hk0 := hk
 simp only [VRel] at hk
 obtain ⟨cs', rfl, hcs⟩ := hk
 have hck : ∀ e, (Instr.checkKey e 10000 kt (.agg cs')).run PP w = .ok () w := fun e => qw hkd hp hcs
 split
 ·rename_i z hz
  simp only [VRel] at hm
  subst hm
  unfold kj at hz
  rw [hu] at hz
  obtain ⟨i, z', hi, hz', rfl⟩ := b9 hz
  refine gi hw (di ρ z') ?_
  have hfk : (Instr.findKey kt (.agg cs') []).run PP w = .ok none w := by rw [km hkd]; rfl
  simp only [Instr.lookup, zR, ab hu, zQ, zT, hck, hfk, de hi hz']
 ·rename_i z b hz
  simp only [VRel] at hm
  obtain ⟨c, hc, rfl⟩ := hm
  unfold kj at hz
  rw [hu] at hz
  obtain ⟨i, z', hi, hz', rfl⟩ := b9 hz
  split <;> try trivial
  rename_i es hg
  obtain ⟨entries, clock, e1, e2⟩ := hw.block hg (by simp) hc
  have ac := bt (w := w) e1 (by simp)
  split <;> try trivial
  ·rename_i v hv
   obtain ⟨j, v', h1, h2⟩ := ti hw hk0 es _ 0 _ e2 hv
   refine gi hw h2 ?_
   rw [← km hkd] at h1
   simp only [Instr.lookup, zR, ab hu, zQ, zT, ac, hck, h1]
  ·rename_i hv
   have h1 := ti hw hk0 es _ 0 _ e2 hv
   refine gi hw (di ρ z') ?_
   have h1 : (Instr.findAsking kt (.agg cs') entries.toList 0).run PP w = .ok none w := h1
   rw [← km hkd] at h1
   simp only [Instr.lookup, zR, ab hu, zQ, zT, ac, hck, h1, de hi hz']
 ·trivial
theorem ERel.snoc {k v : AV} {m : MapEntry} (hk : VRel ρ k m.key) (hv : VRel ρ v m.val) : ∀ (es : List (AV × AV)) (ms : List MapEntry), ERel ρ es ms → ERel ρ (es ++ [(k, v)]) (ms ++ [m])
 | [], _, h => by simp only [ERel] at h; subst h; simp only [zD, ERel]; exact ⟨m, [], rfl, hk, hv, rfl⟩
 | e :: es, _, h => by
   simp only [ERel] at h
   obtain ⟨x, xs, rfl, h1, h2, h3⟩ := h
   simp only [zJ, ERel]
   exact ⟨x, _, rfl, h1, h2, ERel.snoc hk hv es xs h3⟩
theorem amw (hw : WRel ρ a w) {t : TypeId} {m k v : AV} {m' k' v' : Value} (hm : VRel ρ m m') (hk : VRel ρ k k') (hv : VRel ρ v v') : UOK ρ a w (Instr.mapUpdate t m' k' v') (yb t m k v a) := by
 unfold yb
 split <;> try trivial
 rename_i kt hks
 obtain ⟨et, fs, cs, hu, hkd, rfl, hp⟩ := an0 hks
 have hk0 := hk
 simp only [VRel] at hk
 obtain ⟨cs', rfl, hcs⟩ := hk
 have hck : ∀ e, (Instr.checkKey e 10000 kt (.agg cs')).run PP w = .ok () w := fun e => qw hkd hp hcs
 split <;> try trivial
 rename_i b
 simp only [VRel] at hm
 obtain ⟨c, hc, rfl⟩ := hm
 split <;> try trivial
 rename_i es hg
 obtain ⟨entries, clock, e1, e2⟩ := hw.block hg (by simp) hc
 have ac := bt (w := w) e1 (by simp)
 split <;> try trivial
 rename_i hes
 intro _
 refine ⟨rfl, ρ, ?_⟩
 have h1 : (Instr.findAsking kt (.agg cs') entries.toList 0).run PP w = .ok none w := ti hw hk0 es _ 0 _ e2 hes
 rw [← km hkd] at h1
 refine ⟨_, ?_, gb (obj := .map (entries.push { key := .agg cs', val := v', born := clock }) (clock + 1)) hw (by rw [hg]; simp) (by rw [hg]; rfl) hc e1 ⟨_, _, rfl, by rw [Array.toList_push]; exact ERel.snoc hk0 hv _ _ e2⟩ (by simp) (by simp) (by rw [hg]; rfl)⟩
 simp only [Instr.mapUpdate, zR, ab hu, zQ, ac, hck, h1]
 exact ea e1 (by simp)
theorem yt {k : AV} : ∀ {es : List (AV × AV)}, zr k es = true → ∀ e ∈ es, l7 k e.1 = some false
 | e :: es, h, x, hx => by
   simp only [zr] at h
   split at h
   ·rename_i hq
    rcases List.mem_cons.1 hx with e' | e'
    ·subst e'; exact hq
    ·exact yt h x e'
   ·cases h
theorem ajk {k : AV} : ∀ {es : List (AV × AV)}, (∀ e ∈ es, l7 k e.1 = some false) → zr k es = true
 | [], _ => rfl
 | e :: es, h => by simp only [zr, h e (by simp)]; exact ajk fun x hx => h x (zA _ hx)
theorem th {k : AV} {l2 : List (AV × AV)} : ∀ {l1 : List (AV × AV)}, (∀ x ∈ l1, l7 k x.1 = some false) → rz k (l1 ++ l2) = rz k l2
 | [], _ => rfl
 | e :: l1, h => by
   simp only [zJ, rz, h e (by simp)]
   exact th fun x hx => h x (zA _ hx)
theorem ab1 {k : AV} : ∀ {es : List (AV × AV)} {r : Option AV}, aem k es = some r →
  (r = none ∧ ∀ e ∈ es, l7 k e.1 = some false) ∨ ∃ pre e post, es = pre ++ e :: post ∧ (∀ x ∈ pre ++ post, l7 k x.1 = some false) ∧ l7 k e.1 = some true ∧ r = some e.2
 | [], r, h => by simp only [aem] at h; cases h; exact .inl ⟨rfl, fun _ h => by cases h⟩
 | e :: es, r, h => by
   simp only [aem] at h
   split at h
   ·rename_i hq
    rw [aa] at h
    split at h
    ·rename_i hn
     cases h
     exact .inr ⟨[], e, es, rfl, fun x hx => yt hn x hx, hq, rfl⟩
    ·cases h
   ·rename_i hq
    rcases ab1 h with ⟨h1, h2⟩ | ⟨pre, e', post, h1, h2, h3, h4⟩
    ·refine .inl ⟨h1, fun x hx => ?_⟩
     rcases List.mem_cons.1 hx with e1 | e1
     ·subst e1; exact hq
     ·exact h2 x e1
    ·refine .inr ⟨e :: pre, e', post, by rw [h1]; rfl, fun x hx => ?_, h3, h4⟩
     rcases List.mem_cons.1 hx with e1 | e1
     ·subst e1; exact hq
     ·exact h2 x e1
   ·cases h
theorem ab0 {k : AV} {es l : List (AV × AV)} {r : Option AV} (h : aem k es = some r) (hp : l.Perm es) : rz k l = some r := by
 rcases ab1 h with ⟨rfl, h2⟩ | ⟨pre, e, post, rfl, h2, h3, rfl⟩
 ·have := th (k := k) (l1 := l) (l2 := []) fun x hx => h2 x (hp.mem_iff.1 hx)
  rw [List.append_nil] at this
  rw [this]; rfl
 ·have hm : e ∈ l := hp.mem_iff.2 (by simp)
  obtain ⟨l1, l2, rfl⟩ := List.append_of_mem hm
  have hp2 : (l1 ++ l2).Perm (pre ++ post) := List.Perm.cons_inv ((List.perm_middle.symm.trans hp).trans List.perm_middle)
  rw [th fun x hx => h2 x (hp2.mem_iff.1 (List.mem_append_left _ hx))]
  simp only [rz, h3]
theorem ap0 (hw : WRel ρ a w) {t : TypeId} {m k : AV} {m' k' : Value} {ok : Bool} (hm : VRel ρ m m') (hk : VRel ρ k k') : VOK ρ a w (Instr.lookup t m' k' ok) (ru t m k ok a) := by
 unfold ru
 rw [aa]
 split
 case isFalse => exact al4 hw hm hk
 rename_i hp
 simp only [zU] at hp
 obtain ⟨kt, et, d, hu, hkd, hd⟩ := lw hp.1
 have hf := ai0 hp.2 hu hkd
 split
 ·rename_i z hz
  simp only [VRel] at hm
  subst hm
  unfold kj at hz
  rw [hu] at hz
  obtain ⟨i, z', hi, hz', rfl⟩ := b9 hz
  refine gi hw (di ρ z') ?_
  have hfk : (Instr.findKey kt k' []).run PP w = .ok none w := ce hkd rfl
  simp only [Instr.lookup, zR, ab hu, zQ, zT, bv hkd hd, hfk, de hi hz']
 ·rename_i z b hz
  simp only [VRel] at hm
  obtain ⟨c, hc, rfl⟩ := hm
  unfold kj at hz
  rw [hu] at hz
  obtain ⟨i, z', hi, hz', rfl⟩ := b9 hz
  split <;> try trivial
  ·rename_i es hg
   obtain ⟨entries, clock, e1, e2⟩ := hw.block hg (by simp) hc
   have ac := bt (w := w) e1 (by simp)
   split <;> try trivial
   ·rename_i v hv
    obtain ⟨j, v', h1, h2⟩ := mo hk hd hf es _ 0 _ e2 hv
    refine gi hw h2 ?_
    simp only [Instr.lookup, zR, ab hu, zQ, zT, ac, bv hkd hd, ce hkd h1]
   ·rename_i hv
    have h1 := mo hk hd hf es _ 0 _ e2 hv
    refine gi hw (di ρ z') ?_
    simp only [Instr.lookup, zR, ab hu, zQ, zT, ac, bv hkd hd, ce hkd h1, de hi hz']
  ·rename_i es hg
   obtain ⟨entries, clock, l, e1, ep, e2⟩ := hw.block hg (by simp) hc
   have ac := bt (w := w) e1 (by simp)
   split <;> try trivial
   ·rename_i v hv
    obtain ⟨j, v', h1, h2⟩ := mo hk hd hf l _ 0 _ e2 (ab0 hv ep)
    refine gi hw h2 ?_
    simp only [Instr.lookup, zR, ab hu, zQ, zT, ac, bv hkd hd, ce hkd h1]
   ·rename_i hv
    have h1 := mo hk hd hf l _ 0 _ e2 (ab0 hv ep)
    refine gi hw (di ρ z') ?_
    simp only [Instr.lookup, zR, ab hu, zQ, zT, ac, bv hkd hd, ce hkd h1, de hi hz']
 ·trivial
theorem ag9 {d : TypeDesc} {x y : Value} (h : Instr.sameNow d x y = some true) : Instr.sameBits 10000 y x = true := by
 unfold Instr.sameNow at h
 split at h <;> try (cases h; done)
 ·split at h <;> try (cases h; done)
  rename_i e; subst e
  simp at h
  simp [Instr.sameBits, h]
 ·simp only [Option.some.injEq] at h
  simp only [Instr.sameBits]
  rw [beq_toListBytes, beq_iff_eq] at h ⊢
  exact h.symm
 ·simp at h; simp [Instr.sameBits, h]
theorem aju {k v : AV} {k' v' : Value} {d : TypeDesc} {clock : Nat} (hk : VRel ρ k k') (hv : VRel ρ v v') (hd : ld d = true) (hf : xc d k = true) :
  ∀ (es : List (AV × AV)) (ms : List MapEntry) (i : Nat) (es' : List (AV × AV)), ERel ρ es ms → aze k v es = some es' →
  (∃ j x m, Instr.findNow d k' ms i = some (some (i + j, x)) ∧ ms[j]? = some m ∧ Instr.sameBits 10000 m.key k' = true ∧ ERel ρ es' (ms.modify j fun e => { e with key := k', val := v' })) ∨
  (Instr.findNow d k' ms i = some none ∧ ERel ρ es' (ms ++ [{ key := k', val := v', born := clock }]))
 | [], _, i, es', he, h => by
   simp only [ERel] at he; subst he
   simp only [aze] at h; cases h
   right
   refine ⟨rfl, ?_⟩
   simp only [zD, ERel]
   exact ⟨_, [], rfl, hk, hv, rfl⟩
 | e :: es, _, i, es', he, h => by
   simp only [ERel] at he
   obtain ⟨m, ms, rfl, h1, h2, h3⟩ := he
   simp only [aze] at h
   split at h <;> try (cases h; done)
   ·rename_i hq
    cases h
    left
    have hn := pb hq hk h1 hd hf
    refine ⟨0, m.val, m, by simp only [Instr.findNow, hn, Nat.add_zero], rfl, ag9 hn, ?_⟩
    simp only [List.modify_zero_cons, ERel]
    exact ⟨_, ms, rfl, hk, hv, h3⟩
   ·rename_i hq
    simp only [zG] at h
    obtain ⟨es1, hes, rfl⟩ := h
    have hn := pb hq hk h1 hd hf
    rcases aju hk hv hd hf es ms (i + 1) es1 h3 hes with ⟨j, x, m', q1, q2, q3, q4⟩ | ⟨q1, q2⟩
    ·left
     refine ⟨j + 1, x, m', ?_, by simpa using q2, q3, ?_⟩
     ·simp only [Instr.findNow, hn, q1]
      rw [show i + 1 + j = i + (j + 1) by omega]
     ·simp only [List.modify_succ_cons, ERel]
      exact ⟨m, _, rfl, h1, h2, q4⟩
    ·right
     refine ⟨by simp only [Instr.findNow, hn, q1], ?_⟩
     simp only [zJ, ERel]
     exact ⟨m, _, rfl, h1, h2, q2⟩
theorem afp (hw : WRel ρ a w) {t : TypeId} {m k v : AV} {m' k' v' : Value} (hm : VRel ρ m m') (hk : VRel ρ k k') (hv : VRel ρ v v') : UOK ρ a w (Instr.mapUpdate t m' k' v') (o7 t m k v a) := by
 unfold o7
 rw [aa]
 split
 case isFalse => exact amw hw hm hk hv
 rename_i hp
 simp only [zU] at hp
 obtain ⟨kt, et, d, hu, hkd, hd⟩ := lw hp.1
 have hf := ai0 hp.2 hu hkd
 split <;> try trivial
 rename_i b
 simp only [VRel] at hm
 obtain ⟨c, hc, rfl⟩ := hm
 split <;> try trivial
 ·rename_i es hg
  obtain ⟨entries, clock, e1, e2⟩ := hw.block hg (by simp) hc
  have ac := bt (w := w) e1 (by simp)
  split <;> try trivial
  rename_i es' hes
  intro _
  refine ⟨rfl, ρ, ?_⟩
  rcases aju (clock := clock) hk hv hd hf es entries.toList 0 es' e2 hes with ⟨j, x, e0, q1, q2, q3, q4⟩ | ⟨q1, q2⟩
  ·have hj : entries[j]? = some e0 := by simpa using q2
   refine ⟨_, ?_, gb (obj := .map (entries.modify j fun e => { e with key := k', val := v' }) clock) hw (by rw [hg]; simp) (by rw [hg]; rfl) hc e1 ⟨_, _, rfl, by rw [Array.toList_modify]; exact q4⟩ (by simp) (by simp) (by rw [hg]; rfl)⟩
   rw [Nat.zero_add] at q1
   simp only [Instr.mapUpdate, zR, ab hu, zQ, ac, bv hkd hd, ce hkd q1, hj, Option.map_some, Option.getD_some, Instr.keyThatStays, q3, if_true, zT]
   exact ea e1 (by simp)
  ·refine ⟨_, ?_, gb (obj := .map (entries.push { key := k', val := v', born := clock }) (clock + 1)) hw (by rw [hg]; simp) (by rw [hg]; rfl) hc e1 ⟨_, _, rfl, by simpa using q2⟩ (by simp) (by simp) (by rw [hg]; rfl)⟩
   simp only [Instr.mapUpdate, zR, ab hu, zQ, ac, bv hkd hd, ce hkd q1]
   exact ea e1 (by simp)
 ·rename_i es hg
  obtain ⟨entries, clock, l, e1, ep, e2⟩ := hw.block hg (by simp) hc
  have ac := bt (w := w) e1 (by simp)
  rw [aa]
  split <;> try trivial
  rename_i hn
  intro _
  refine ⟨rfl, ρ, ?_⟩
  have h0 : rz k l = some none := by
   have := th (k := k) (l1 := l) (l2 := []) fun x hx => yt hn x (ep.mem_iff.1 hx)
   rw [List.append_nil] at this
   rw [this]; rfl
  have h1 := mo hk hd hf l _ 0 _ e2 h0
  refine ⟨_, ?_, gb (obj := .map (entries.push { key := k', val := v', born := clock }) (clock + 1)) hw (by rw [hg]; simp) (by rw [hg]; rfl) hc e1 ⟨_, _, l ++ [(k, v)], rfl, ep.append_right _, by rw [Array.toList_push]; exact ERel.snoc hk hv _ _ e2⟩ (by simp) (by simp) (by rw [hg]; rfl)⟩
  simp only [Instr.mapUpdate, zR, ab hu, zQ, ac, bv hkd hd, ce hkd h1]
  exact ea e1 (by simp)
theorem azi (hw : WRel ρ a w) {t : TypeId} {x : AV} {x' : Value} (hx : VRel ρ x x') : VOK ρ a w (Instr.range t x') (af8 t x a) := by
 unfold af8
 split <;> try trivial
 rename_i len n hu
 simp only [VRel] at hx
 obtain ⟨hn, rfl⟩ := hx
 refine ue hw (obj := .stringIter (ap len n) 0) (f' := fun c => .pointer (some ⟨c, 0, none⟩)) ⟨rfl, hn⟩ ?_ ?_
 ·intro ρ' k c hk; simp only [aqb, VRel]; exact ⟨c, hk, rfl⟩
 ·simp only [Instr.range, zR, ab hu, zQ, zT, run_newObj]; rfl
theorem f9 (len n i : Nat) (h : i < len) : ((ap len n).get! i).toNat = sAt len n i := by
 have h1 : (aq len n)[i]? = some (UInt8.ofNat (sAt len n i)) := by
  rw [zK (by rw [aj]; exact h), kg]
 have h2 : (ap len n).get! i = UInt8.ofNat (sAt len n i) := by
  show (ap len n).data[i]! = _
  rw [getElem!_def]
  have : (ap len n).data[i]? = some (UInt8.ofNat (sAt len n i)) := by simpa [ap] using h1
  rw [this]
 rw [h2, qs]
theorem arm (len n i k : Nat) : (decide (i + k < (ap len n).size) && ((ap len n).get! (i + k)).toNat / 64 == 2) = l6 len n i k := by
 unfold l6
 rw [cg, aa]
 by_cases hk : i + k < len
 ·rw [f9 len n (i + k) hk]
  have : Nat.blt (i + k) len = true := by simpa using hk
  rw [this]
  simp [hk]
  rw [Bool.eq_iff_iff]; simp
 ·have : Nat.blt (i + k) len = false := by rw [Bool.eq_false_iff]; intro e; exact hk (by simpa using e)
  rw [this]; simp [hk]
theorem ow {len n i k : Nat} (h : l6 len n i k = true) : i + k < len := by
 unfold l6 at h
 rw [aa] at h
 split at h
 ·rename_i h1; simpa using h1
 ·cases h
theorem a97 (a b : Nat) : Nat.beq a b = (a == b) := by rw [Bool.eq_iff_iff]; simp
theorem a98 (a b : Nat) : Nat.ble a b = decide (a ≤ b) := by rw [Bool.eq_iff_iff]; simp
theorem a99 (a b : Nat) : Nat.blt a b = decide (a < b) := by rw [Bool.eq_iff_iff]; simp
theorem a0x (len n i : Nat) (h : i < len) : a0w len n i = Utf8.decode (ap len n) i := by
 have e0 : ((ap len n).get! (i + 0)).toNat = sAt len n (i + 0) := f9 len n (i + 0) h
 unfold a0w Utf8.decode
 simp only [arm, e0, aa, a97, a98, a99, decide_eq_true_eq]
 generalize sAt len n (i + 0) = b0
 by_cases c0 : b0 < 128
 ·rw [if_pos c0, if_pos c0]
 ·rw [if_neg c0, if_neg c0]
  by_cases c1 : (b0 / 32 == 6 && l6 len n i 1) = true
  ·rw [if_pos c1, if_pos c1]
   simp only [zU] at c1
   rw [f9 len n (i + 1) (ow c1.2)]
   simp only [ge_iff_le]; rfl
  ·rw [if_neg c1, if_neg c1]
   by_cases c2 : (b0 / 16 == 14 && l6 len n i 1 && l6 len n i 2) = true
   ·rw [if_pos c2, if_pos c2]
    simp only [zU] at c2
    rw [f9 len n (i + 1) (ow c2.1.2), f9 len n (i + 2) (ow c2.2)]
    simp only [ge_iff_le]; rfl
   ·rw [if_neg c2, if_neg c2]
    by_cases c3 : (b0 / 8 == 30 && l6 len n i 1 && l6 len n i 2 && l6 len n i 3) = true
    ·rw [if_pos c3, if_pos c3]
     simp only [zU] at c3
     rw [f9 len n (i + 1) (ow c3.1.1.2), f9 len n (i + 2) (ow c3.1.2), f9 len n (i + 3) (ow c3.2)]
     simp only [ge_iff_le]; rfl
    ·rw [if_neg c3, if_neg c3]; rfl
theorem a3b (hw : WRel ρ a w) {it : AV} {it' : Value} {s : Bool} {t : TypeId} (hi : VRel ρ it it') : VOK ρ a w (Instr.next it' s t) (ak8 it s a) := by
 unfold ak8
 split <;> try trivial
 rename_i b
 simp only [VRel] at hi
 obtain ⟨c, hc, rfl⟩ := hi
 split <;> try trivial
 rename_i len n pos hg
 obtain ⟨e1, e2⟩ := hw.block hg (by simp) hc
 have ac := bt (w := w) e1 (by simp)
 rw [aa]
 split
 ·rename_i hlt
  have hlt : pos < len := by simpa using hlt
  have hd := a0x len n pos hlt
  cases hdec : a0w len n pos with
  | mk ch wd =>
    rw [hdec] at hd
    intro _
    refine ⟨ρ, _, .tuple #[.bool true, .int .i64 pos, .int .i32 ch], ?_, ?_, gb (obj := .stringIter (ap len n) (pos + wd)) hw (by rw [hg]; simp) (by rw [hg]; rfl) hc e1 ⟨rfl, e2⟩ (by simp) (by simp) (by rw [hg]; rfl)⟩
    ·simp only [Instr.next, zR, ac, zQ, cg, hlt, if_true, ← hd]
     rw [ea e1 (by simp)]
     rfl
    ·simp only [VRel]
     refine ⟨_, rfl, ?_⟩
     simp only [VRels]
     exact ⟨_, _, rfl, by simp only [VRel], _, _, rfl, by simp only [VRel]; rfl, _, _, rfl, by simp only [VRel]; rfl, rfl⟩
 ·rename_i hlt
  have hlt : ¬ pos < len := by simpa using hlt
  refine VOK.here hw (v' := .tuple #[.bool false]) ?_ (by simp only [VRel]; exact ⟨_, rfl, by simp only [VRels]; exact ⟨_, _, rfl, by simp only [VRel], rfl⟩⟩)
  simp only [Instr.next, zR, ac, zQ, cg, hlt, if_false, zT]
end
end Go.Ev
