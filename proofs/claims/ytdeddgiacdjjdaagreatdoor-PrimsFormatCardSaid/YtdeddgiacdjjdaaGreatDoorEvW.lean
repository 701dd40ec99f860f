import Derived.Test.YtdeddgiacdjjdaaGreatDoorEvJ
import Derived.Lib.UnsafeStr
import Derived.KernelRfl
import Derived.Laws.IdiomStrings
import Derived.Laws.Externs
import Derived.Lib.MakeNoZero
import Derived.Lib.Bytealg
set_option linter.all false
namespace Go.Ev
variable [Gv]
section
variable {ρ : Env} {a : W} {w : World}
theorem ah5 (hw : WRel ρ a w) {size n len m : Nat} {s : AV} {s' : Value} {l : List AV} (hs : VRel ρ s s') (hn : a5f s = some n) (hl : ky size (abc (min n len) s) a = some (m, l)) :
  ∃ l' : List Value, Builtin.lenOf s' = pure n ∧ (Builtin.firstCells size (min n len) s').run PP w = .ok l'.toArray w ∧ VRels ρ l l' := by
 unfold a5f at hn
 split at hn <;> cases hn
 ·simp only [VRel] at hs; subst hs
  simp only [abc, ky] at hl
  cases hl
  exact ⟨[], rfl, by simp [Builtin.firstCells], by simp only [VRels]⟩
 ·rename_i b' off' cp ex'
  simp only [abc, aa] at hl
  split at hl
  ·rename_i hk
   have hk := zE hk
   simp only [VRel] at hs
   obtain ⟨c', cp', q1, q2, q3, rfl⟩ := hs
   obtain ⟨l', ⟨r1, r2, r3⟩, r4⟩ := mj hw hl (x' := .slice (some ⟨c', off', none⟩) (min n len) cp') (by simp only [VRel]; exact ⟨c', cp', q1, ⟨by omega, q2.2⟩, q3, rfl⟩)
   have hm : m = min n len := by
    simp only [ky, zG] at hl
    obtain ⟨_, _, e⟩ := hl; cases e; rfl
   subst hm
   refine ⟨l', rfl, ?_, r4⟩
   have := r3 w rfl
   simpa only [Builtin.firstCells] using this
  ·cases hl
 ·rename_i k
  simp only [abc, aa] at hl
  split at hl
  ·rename_i hk
   have hk := zW hk
   obtain ⟨l', ⟨r1, r2, r3⟩, r4⟩ := mj hw hl hs
   have hm : m = n := by
    simp only [ky, aa] at hl
    split at hl
    ·cases hl; rfl
    ·cases hl
   subst hm
   refine ⟨l', r1, ?_, r4⟩
   rw [hk]; exact r3 w rfl
  ·cases hl
theorem a0t (hw : WRel ρ a w) {t ty : TypeId} {ts : Array TypeId} {d s : AV} {d' s' : Value} (h0 : ts[0]? = some t) (hd : VRel ρ d d') (hs : VRel ρ s s') :
  VOK ρ a w (Builtin.copy_ ts ty #[d', s']) (ak7 t d s a) := by
 unfold ak7
 split <;> try trivial
 rename_i e hu
 split <;> try trivial
 rename_i size n hsz hn
 split <;> try trivial
 rename_i b off len cap ex
 simp only [VRel] at hd
 obtain ⟨c, cap', hc, hcap, hso, rfl⟩ := hd
 have hnn : Nat.min n len = min n len := rfl
 split <;> try trivial
 ·rename_i m hl
  obtain ⟨l', k1, k2, k3⟩ := ah5 hw hs hn hl
  simp only [VRels] at k3
  subst k3
  refine VOK.here hw (v' := .int .i64 (.ofNat (min n len))) ?_ (bh rfl)
  simp only [Builtin.copy_, h0, zL, List.getElem?_cons_zero, List.getElem?_cons_succ, zR, ab hu, zQ, k1, zT, ax hsz, hnn, k2]
  rfl
 ·rename_i m x l hl
  split <;> try trivial
  rename_i o ho
  obtain ⟨l', k1, k2, k3⟩ := ah5 hw hs hn hl
  obtain ⟨w', s1, s2⟩ := vd hw hc ho k3
  intro _
  refine ⟨ρ, w', .int .i64 (.ofNat (min n len)), ?_, bh rfl, s2⟩
  simp only [Builtin.copy_, h0, zL, List.getElem?_cons_zero, List.getElem?_cons_succ, zR, ab hu, zQ, k1, zT, ax hsz, hnn, k2, s1]
  rfl
theorem a4p (hw : WRel ρ a w) {t ty : TypeId} {ts : Array TypeId} {x : AV} {x' : Value} (h0 : ts[0]? = some t) (hx : VRel ρ x x') : VOK ρ a w (Builtin.cap_ ts ty #[x']) (asa t x a) := by
 unfold asa
 split <;> try trivial
 ·rename_i hu
  exact a0o hw h0 hu hx
 ·rename_i hu
  simp only [VRel, SlOk] at hx
  obtain ⟨c, cap', hc, _, hso, rfl⟩ := hx
  subst hso
  exact VOK.here hw (by simp only [Builtin.cap_, h0, zL, List.getElem?_cons_zero, zR, ab hu, zQ, zT]; rfl) (bh rfl)
theorem azv (hw : WRel ρ a w) {ty : TypeId} {ts : Array TypeId} {x : AV} {x' : Value} (hx : VRel ρ x x') : VOK ρ a w (Builtin.unsafeSliceData_ ts ty #[x']) (af9 x a) := by
 unfold af9
 split <;> try trivial
 ·simp only [VRel] at hx; subst hx
  exact VOK.here hw (v' := .pointer none) rfl (by simp only [VRel])
 ·rename_i b off len cap ex
  simp only [VRel] at hx
  obtain ⟨c, cap', hc, hcap, hso, rfl⟩ := hx
  rw [aa]
  split <;> try trivial
  rename_i h
  have h : cap ≠ 0 := fun e => h (by rw [e]; rfl)
  have h' : cap' ≠ 0 := by omega
  exact VOK.here hw (v' := .pointer (some ⟨c, off, none⟩)) (by show Sem.run PP (if cap' ≠ 0 then (pure (.pointer (some ⟨c, off, none⟩)) : Sem Value) else _) w = _; rw [if_pos h', zT]) (by simp only [VRel]; exact ⟨c, hc, rfl⟩)
end
end Go.Ev
set_option linter.all false
namespace Go.Ev
variable [Gv]
section
variable {ρ : Env} {a : W} {w : World}
theorem re : ∀ (l : List AV) (l' : List Value) (ns : List Nat), qc l = some ns → VRels ρ l l' → ∃ bs : List UInt8, bs.length = ns.length ∧ l' = bs.map (fun b => Value.int .u8 b.toNat) ∧ ∀ x, qy ns x = kw bs x
 | [], l', ns, h, hl => by
   simp only [qc] at h; cases h
   simp only [VRels] at hl; subst hl
   exact ⟨[], rfl, rfl, fun _ => rfl⟩
 | v :: l, l', ns, h, hl => by
   unfold qc at h
   split at h
   ·rename_i e; cases e
   ·rename_i n r e
    cases e
    rw [aa] at h
    split at h <;> try (cases h; done)
    rename_i hn
    have hn := zE hn
    rw [zG] at h
    obtain ⟨ms, hm, rfl⟩ := h
    simp only [VRels, VRel] at hl
    obtain ⟨v, vs, rfl, rfl, hvs⟩ := hl
    obtain ⟨bs, h1, rfl, h3⟩ := re l vs ms hm hvs
    have hb : (UInt8.ofNat n).toNat = n := by simp; omega
    refine ⟨UInt8.ofNat n :: bs, by simp [h1], by simp only [List.map_cons, hb]; rfl, fun x => ?_⟩
    show qy ms (x * 256 + n) = kw bs (x * 256 + (UInt8.ofNat n).toNat)
    rw [h3, hb]
   ·cases h
theorem aoi {bs : List UInt8} {ns : List Nat} (h1 : bs.length = ns.length) (h : ∀ x, qy ns x = kw bs x) : VRel ρ (.str (bl ns) (qy ns 0)) (.string ⟨bs.toArray⟩) := by
 simp only [VRel]
 rw [ao, h, ← h1]
 refine ⟨ag5 bs, ?_⟩
 congr 1
 have := sv ⟨bs.toArray⟩
 simpa using this.symm
theorem amy (hw : WRel ρ a w) {pt it ty t : TypeId} {b : K} {c off n len m fl fh : Nat} (hg : bz b a = .pk t len m fl fh) (hc : ρ b = some c) (hnn : n ≠ 0) :
  VOK ρ a w (Builtin.unsafeString_ #[pt, it] ty #[.pointer (some ⟨c, off, none⟩), .int .i64 (Int.ofNat n)]) (bc (Nat.beq off 0 && Nat.beq n len && Nat.ble n 1000000) (match al pt, sizeOf t with
   | some (.pointer u), some s => bc (Nat.beq t u && Nat.beq s 1) (.val (.str len m) (wset b (.pk t len m 0 (max fh n)) a)) (.no 129)
   | _, _ => .no 130) (.no 131)) := by
 rw [aa]; split <;> try trivial
 rename_i hcond
 simp only [zU] at hcond
 obtain ⟨⟨k1, k2⟩, k3⟩ := hcond
 have k1 := zW k1
 have k2 := zW k2
 have k3 := zE k3
 subst k1 k2
 split <;> try trivial
 rename_i u s hu hsz
 rw [aa]; split <;> try trivial
 rename_i hcond
 simp only [zU] at hcond
 have k4 := zW hcond.1
 have k5 := zW hcond.2
 subst k4; subst k5
 obtain ⟨arr, fz, e1, e2, e5, e6, e7⟩ := hw.block hg (by simp) hc
 have hco : PP.cellsOf t = 1 := by
  unfold Go.Ev.sizeOf at hsz
  rw [zG] at hsz
  obtain ⟨i, hi, h1⟩ := hsz
  unfold Program.cellsOf
  rw [dg hi, Option.map_some, Option.getD_some, h1]
 have hsh : w.shape? c = some (t, arr.size) := by simp [World.shape?, e1]
 have hbl : (aq n m).length = n := aj ..
 have hrun := Lib.run_unsafeString_row (P := PP) w pt it ty t (bi hu) hco c arr.size hsh (aq n m) (by intro e; rw [e] at hbl; exact hnn hbl.symm) (by omega) (by omega)
  (fun j x hj => by
    rw [ba, Nat.zero_add, df e1]
    exact e7 j x hj)
 rw [hbl] at hrun
 intro _
 obtain ⟨lo, hi⟩ := fz
 have hlt := (zI.1 e1).1
 refine ⟨ρ, w.freeze ⟨c, 0, none⟩ n, .string ⟨(aq n m).toArray⟩, hrun, by simp only [VRel]; exact ⟨e6, rfl⟩, ?_⟩
 refine s6 (c := c) (obj := .cells arr t (if lo == hi then (0, 0 + n) else (min lo 0, max hi (0 + n)))) hw (by rw [← ar, hg]; simp) (by rw [← ar, hg]; rfl) hc ?_ (by simp) ?_ ?_ ?_ ?_ ?_ ?_ ?_ (by rw [← ar, hg]; rfl)
 ·refine ⟨arr, _, rfl, e2, ?_, e6, e7⟩
  obtain ⟨g1, g2⟩ := e5
  simp only at g1 g2
  by_cases hlh : lo = hi
  ·subst hlh
   simp only [BEq.rfl, if_true]
   exact ⟨by omega, fun i _ hi => ⟨Nat.zero_le _, by omega⟩⟩
  ·have hb : (lo == hi) = false := by simpa using hlh
   simp only [hb, zF, if_false]
   have := g2 (hi - 1) (by omega) (by omega)
   exact ⟨by omega, fun i _ hi => ⟨Nat.zero_le _, by omega⟩⟩
 ·intro x y z e; cases e; exact hw.len b c arr t (lo, hi) (by rw [← ar, hg]; simp) hc e1
 ·unfold World.freeze; rw [if_neg hnn]; simp [Array.getElem?_modify, e1]
 ·unfold World.freeze; rw [if_neg hnn]; simp
 ·intro d hd; unfold World.freeze; rw [if_neg hnn]; simp [Array.getElem?_modify, Ne.symm hd]
 ·unfold World.freeze; rw [if_neg hnn]
 ·unfold World.freeze; rw [if_neg hnn]
 ·unfold World.freeze; rw [if_neg hnn]
theorem amx (hw : WRel ρ a w) {pt it ty : TypeId} {p n : AV} {p' n' : Value} (hp : VRel ρ p p') (hn : VRel ρ n n') : VOK ρ a w (Builtin.unsafeString_ #[pt, it] ty #[p', n']) (ya pt p n a) := by
 unfold ya
 have hz : ∀ q : Option Addr, VOK ρ a w (Builtin.unsafeString_ #[pt, it] ty #[.pointer q, .int .i64 (Int.ofNat 0)]) (.val (.str 0 0) a) := fun q =>
  VOK.here hw (v' := .string .empty) (Lib.run_unsafeString_none (P := PP) w pt it ty q) (by simp only [VRel]; exact ⟨by simp, rfl⟩)
 split <;> try trivial
 ·rename_i n
  simp only [VRel] at hp hn
  subst hp; subst hn
  rw [aa]; split <;> try trivial
  rename_i h
  have h := zW h
  subst h
  exact hz none
 ·rename_i b off n
  simp only [VRel] at hp hn
  subst hn
  obtain ⟨c, hc, rfl⟩ := hp
  rw [aa]; split
  ·rename_i h
   have h := zW h
   subst h
   exact hz _
  rename_i hn0
  split <;> try trivial
  rotate_left
  ·rename_i t len m fl fh hg
   exact amy hw hg hc (fun e => hn0 (by rw [e]; rfl))
  rename_i t size ext fl fh cs hg
  rw [aa]; split <;> try trivial
  rename_i hcond
  simp only [zU] at hcond
  obtain ⟨⟨k1, k2⟩, k3⟩ := hcond
  have k1 := zW k1
  have k2 := zE k2
  have k3 := zE k3
  subst k1
  split <;> try trivial
  rename_i u s l hu hsz hl
  rw [aa]; split <;> try trivial
  rename_i hcond
  simp only [zU] at hcond
  have k4 := zW hcond.1
  have k5 := zW hcond.2
  subst k4; subst k5
  obtain ⟨arr, fz, e1, e2, e3, e4, e5, e6⟩ := hw.block hg (by simp) hc
  obtain ⟨l', q1, q2, q3⟩ := nf (i := 0) (n := n) e6 (by omega)
  obtain ⟨bs, b1, rfl, b3⟩ := re _ _ _ hl q2
  have hbn : bs.length = n := by simpa using q1
  have hco : PP.cellsOf t = 1 := by
   unfold Go.Ev.sizeOf at hsz
   rw [zG] at hsz
   obtain ⟨i, hi, h1⟩ := hsz
   unfold Program.cellsOf
   rw [dg hi, Option.map_some, Option.getD_some, h1]
  have hsh : w.shape? c = some (t, arr.size) := by simp [World.shape?, e1]
  have hnn : n ≠ 0 := fun e => hn0 (by rw [e]; rfl)
  have hrun := Lib.run_unsafeString_row (P := PP) w pt it ty t (bi hu) hco c arr.size hsh bs (by rintro rfl; exact hnn (by simpa using hbn.symm)) (by omega) (by omega)
   (fun j x hj => by
     rw [ba, Nat.zero_add, df e1]
     have := q3 j (.int .u8 x.toNat) (by simp [hj])
     simpa using this)
  rw [hbn] at hrun
  intro _
  obtain ⟨lo, hi⟩ := fz
  have hlt := (zI.1 e1).1
  refine ⟨ρ, w.freeze ⟨c, 0, none⟩ n, .string ⟨bs.toArray⟩, hrun, aoi b1 b3, ?_⟩
  refine s6 (c := c) (obj := .cells arr t (if lo == hi then (0, 0 + n) else (min lo 0, max hi (0 + n)))) hw (by rw [← ar, hg]; simp) (by rw [← ar, hg]; rfl) hc ?_ (by simp) ?_ ?_ ?_ ?_ ?_ ?_ ?_ (by rw [← ar, hg]; rfl)
  ·refine ⟨arr, _, rfl, e2, e3, e4, ?_, e6⟩
   obtain ⟨g1, g2⟩ := e5
   simp only at g1 g2
   by_cases hlh : lo = hi
   ·subst hlh
    simp only [BEq.rfl, if_true]
    exact ⟨by omega, fun i _ hi => ⟨Nat.zero_le _, by omega⟩⟩
   ·have hb : (lo == hi) = false := by simpa using hlh
    simp only [hb, zF, if_false]
    have := g2 (hi - 1) (by omega) (by omega)
    exact ⟨by omega, fun i _ hi => ⟨Nat.zero_le _, by omega⟩⟩
  ·intro x y z e; cases e; exact hw.len b c arr t (lo, hi) (by rw [← ar, hg]; simp) hc e1
  ·unfold World.freeze; rw [if_neg hnn]; simp [Array.getElem?_modify, e1]
  ·unfold World.freeze; rw [if_neg hnn]; simp
  ·intro d hd; unfold World.freeze; rw [if_neg hnn]; simp [Array.getElem?_modify, Ne.symm hd]
  ·unfold World.freeze; rw [if_neg hnn]
  ·unfold World.freeze; rw [if_neg hnn]
  ·unfold World.freeze; rw [if_neg hnn]
theorem qo {ts : Array TypeId} {ty : TypeId} (mx : Bool) (k : IntKind) (x y : Int) :
  (bif mx then Builtin.max_ ts ty #[.int k x, .int k y] else Builtin.min_ ts ty #[.int k x, .int k y]).run PP w = .ok (.int k (bc (yl x y) (bc mx y x) (bc mx x y))) w := by
 have hle := ix x y
 cases mx
 ·simp only [cond_false, Builtin.min_, List.foldlM_cons, List.foldlM_nil, Builtin.min2, zR, zT, zQ]
  rw [hle, aa]
  congr 2
  by_cases e : x ≤ y
  ·simp only [e, decide_true, if_true, aa, zF, if_false]; split <;> omega
  ·simp only [e, decide_false, aa, zF, if_false]; split <;> omega
 ·simp only [cond_true, Builtin.max_, List.foldlM_cons, List.foldlM_nil, Builtin.max2, zR, zT, zQ]
  rw [hle, aa]
  congr 2
  by_cases e : x ≤ y
  ·simp only [e, decide_true, if_true, aa]; split <;> omega
  ·simp only [e, decide_false, aa, zF, if_false, if_true]; split <;> omega
theorem aez (hw : WRel ρ a w) {ts : Array TypeId} {ty : TypeId} {mx : Bool} {l : List AV} {l' : Array Value} {c : Nat} (hl : VRels ρ l l'.toList) :
  VOK ρ a w (bif mx then Builtin.max_ ts ty l' else Builtin.min_ ts ty l') (nk (anp mx l) a c) := by
 refine e9 hw fun v hv => ?_
 have two : ∀ (x y : Value), l'.toList = [x, y] → l' = #[x, y] := fun x y h => Array.toList_inj.1 (by simpa using h)
 unfold anp at hv
 split at hv <;> try (cases hv; done)
 ·rename_i k x k' y
  rw [aa] at hv
  split at hv <;> try (cases hv; done)
  rename_i hk
  have hk := (cq _ _).1 hk
  subst hk
  cases hv
  simp only [VRels, VRel] at hl
  obtain ⟨v1, r1, h1, h2, v2, r2, h3, h4, h5⟩ := hl
  subst h2 h4 h5 h3
  rw [two _ _ h1]
  exact ⟨_, qo mx k x y, bh rfl⟩
 ·rename_i k x A k' y A'
  rw [aa] at hv
  split at hv <;> try (cases hv; done)
  rename_i hk
  have hk := (cq _ _).1 hk
  subst hk
  simp only [VRels, VRel] at hl
  obtain ⟨v1, r1, h1, ⟨hA, h2⟩, v2, r2, h3, ⟨_, h4⟩, h5⟩ := hl
  subst h2 h4 h5 h3
  rw [two _ _ h1]
  exact ⟨_, qo mx k _ _, y6 hA hv _ (bh rfl)⟩
 ·rename_i k x A k' y
  rw [aa] at hv
  split at hv <;> try (cases hv; done)
  rename_i hk
  have hk := (cq _ _).1 hk
  subst hk
  simp only [VRels, VRel] at hl
  obtain ⟨v1, r1, h1, ⟨hA, h2⟩, v2, r2, h3, h4, h5⟩ := hl
  subst h2 h4 h5 h3
  rw [two _ _ h1]
  exact ⟨_, qo mx k _ _, y6 (b := .c y) hA hv _ (bh rfl)⟩
 ·rename_i k' x k y A
  rw [aa] at hv
  split at hv <;> try (cases hv; done)
  rename_i hk
  have hk := (cq _ _).1 hk
  subst hk
  simp only [VRels, VRel] at hl
  obtain ⟨v1, r1, h1, h2, v2, r2, h3, ⟨hA, h4⟩, h5⟩ := hl
  subst h2 h4 h5 h3
  rw [two _ _ h1]
  exact ⟨_, qo mx k _ _, y6 (a := .c x) hA hv _ (bh rfl)⟩
theorem uz {t s : Nat} (h : Go.Ev.sizeOf t = some s) : PP.cellsOf t = s := by
 unfold Go.Ev.sizeOf at h
 rw [zG] at h
 obtain ⟨i, hi, h1⟩ := h
 unfold Program.cellsOf
 rw [dg hi, Option.map_some, Option.getD_some, h1]
theorem ap9 : plainStructs.all (fun t => !PP.stoodInHeld t) = true := by kernel_rfl
theorem ay3 {t : Nat} (h : asn t plainStructs = true) : PP.stoodInHeld t = false := by
 have : ∀ l : List Nat, asn t l = true → t ∈ l := by
  intro l
  induction l with
  | nil => intro h; cases h
  | cons x l ih =>
    intro h
    simp only [asn, aa] at h
    split at h
    ·rename_i e; rw [zW e]; simp
    ·exact zA _ (ih h)
 have := List.all_eq_true.1 ap9 t (this _ h)
 simpa using this
theorem zm {off u : Nat} : ∀ {l : List Field}, agi off u l = true → ∃ f ∈ l, f.offset = off ∧ f.type = u
 | f :: l, h => by
   simp only [agi, aa] at h
   split at h
   ·rename_i hc
    simp only [zU] at hc
    exact ⟨f, by simp, zW hc.1, zW hc.2⟩
   ·obtain ⟨g, h1, h2⟩ := zm h
    exact ⟨g, by simp [h1], h2⟩
theorem al2 {t size off u : Nat} (h : ayk t size off u = true) : liesAt PP PP.depth t (size / PP.cellsOf t) off u 1 = true := by
 unfold ayk at h
 split at h
 ·rename_i fs st su hu hst hsu
  simp only [zU] at h
  obtain ⟨⟨⟨⟨k0, k1⟩, k2⟩, k3⟩, k4⟩ := h
  have k0 := ay3 k0
  have k1 := zW k1
  have k2 : off < st := zE k2
  have k3 : 0 < su := zE k3
  obtain ⟨f, hf, hoff, hty⟩ := zm k4
  have hct := uz hst
  have hcu := uz hsu
  have hdp : PP.depth = (2 * (PP.types.size + Made.depth) + 1) + 1 := rfl
  have h0 : off / st = 0 := Nat.div_eq_of_lt k2
  have h1 : off % st = off := Nat.mod_eq_of_lt k2
  have hs0 : st ≠ 0 := by omega
  have hu0 : su ≠ 0 := by omega
  have hdd : st / st = 1 := Nat.div_self (by omega)
  rw [hct, k1, hdd]
  rw [hdp]
  simp only [liesAt, Bool.or_eq_true]
  left
  rw [hdp]
  have inner : rowAt PP (fun x => sameLayout PP (2 * (PP.types.size + Made.depth) + 1 + 1) x u) (2 * (PP.types.size + Made.depth) + 1) u 1 0 1 = true := by
   simp [rowAt, hcu, hu0, sameLayout]
  rw [rowAt]
  simp only [hct, hs0, if_false, h0, h1, bi hu, k0, Bool.not_false, Bool.true_and, Nat.zero_lt_one, decide_true, Bool.or_eq_true]
  right
  rw [Array.any_eq_true']
  refine ⟨f, by simpa using hf, ?_⟩
  rw [hoff, hty, hcu]
  simp only [zY, decide_true, Bool.true_and, Nat.sub_self, inner, Bool.and_true, decide_eq_true_eq]
  omega
 ·cases h
theorem a0s (hw : WRel ρ a w) {src dst : TypeId} {x : AV} {x' : Value} (hx : VRel ρ x x') : VOK ρ a w (convert src dst x') (abt src dst x a) := by
 unfold abt
 split <;> try trivial
 ·rename_i d k k' n hs hd
  simp only [VRel] at hx; subst hx
  refine VOK.here hw (v' := .int k (k.wrap n)) ?_ (bh (ec k n))
  simp only [convert, zR, ab hs, ab hd, zQ]
  cases d <;> simp only [Conv.intToInt, zT]
 ·rename_i d k n hs hd
  simp only [VRel] at hx; subst hx
  refine VOK.here hw (v' := .string (Utf8.encode n)) ?_ ?_
  ·simp only [convert, zR, ab hs, ab hd, zQ]
   cases d <;> simp only [Conv.intToString, zT]
  ·simp only [VRel]; exact ⟨ag5 _, by rw [sv]⟩
 ·rename_i d l n hs hd
  have hx0 := hx
  simp only [VRel] at hx; obtain ⟨_, rfl⟩ := hx
  refine VOK.here hw (v' := .string (ap l n)) ?_ hx0
  simp only [convert, zR, ab hs, ab hd, zQ]
  cases d <;> simp only [zT]
 ·rename_i e hs hd _ _
  split <;> try trivial
  rename_i he
  split <;> try trivial
  rename_i l hl
  rw [Option.bind_eq_some_iff] at hl
  obtain ⟨cs, h1, h2⟩ := hl
  unfold mr at h1
  split at h1 <;> try (cases h1; done)
  ·cases h1
   simp only [qc] at h2; cases h2
   simp only [VRel] at hx; subst hx
   refine VOK.here hw (v' := .string .empty) ?_ (by simp only [VRel]; exact ⟨by simp [qy, bl], rfl⟩)
   rw [run_convert_bytes_string (P := PP) w src dst e none 0 0 (bi hs) (bi he) (bi hd)]
   rfl
  ·rename_i len _ _ _ _
   simp only [VRel] at hx
   obtain ⟨c, cap', hc, hcap, hso, rfl⟩ := hx
   rw [Nat.mul_one] at h1
   obtain ⟨l', q1, q2, q3⟩ := j7 h1 (hw.block rfl (lc h1) hc)
   obtain ⟨bs, b1, rfl, b3⟩ := re _ _ _ h2 q2
   have hbn : bs.length = len := by simpa using q1
   subst hbn
   refine VOK.here hw (v' := .string ⟨bs.toArray⟩) (run_convert_bytes_back (P := PP) w src dst e _ cap' bs (bi hs) (bi he) (bi hd) ?_) (aoi b1 b3)
   intro j hj
   rw [ba]
   exact q3 j _ (by simp [zK hj])
 ·rename_i u hs hd
  simp only [VRel] at hx; subst hx
  refine VOK.here hw (v' := .pointer none) ?_ (by simp only [VRel])
  simp only [convert, zR, ab hs, ab hd, zQ, Conv.unsafePointer, zT]
 ·rename_i u b off hs hd
  split <;> try trivial
  rename_i t size ext fl fh cs s hg hsz
  have hx0 := hx
  simp only [VRel] at hx; obtain ⟨c, hc, rfl⟩ := hx
  obtain ⟨arr, fz, e1, e2, e3, e4, e5, e6⟩ := hw.block hg (by simp) hc
  have hsh : w.shape? c = some (t, arr.size) := by simp [World.shape?, e1]
  have hfin : liesAt PP PP.depth t (arr.size / PP.cellsOf t) off u 1 = true → VOK ρ a w (convert src dst (.pointer (some ⟨c, off, none⟩))) (.val (.ptr b off) a) := by
   intro hlie
   refine VOK.here hw (v' := .pointer (some ⟨c, off, none⟩)) ?_ hx0
   simp only [convert, zR, ab hs, ab hd, zQ, Conv.unsafePointer, Conv.seenAt, viewAt, run_shape, hsh, Option.isSome_some, if_true, zT, ax hsz, variablesAt, run_program, hlie, Bool.or_true]
  rw [aa]; split
  ·rename_i hcond
   simp only [zU] at hcond
   obtain ⟨⟨⟨k1, k2⟩, k3⟩, k4⟩ := hcond
   have k1 := zW k1
   have k2 := zW k2
   have k3 : 0 < s := zE k3
   have k4 := zE k4
   subst k1; subst k2
   refine hfin ?_
   have hco : PP.cellsOf t = s := uz hsz
   have hdp : PP.depth = (2 * (PP.types.size + Made.depth) + 1) + 1 := rfl
   have h1 : 1 ≤ arr.size / s := (Nat.le_div_iff_mul_le k3).2 (by omega)
   have hs0 : s ≠ 0 := by omega
   rw [hdp]
   simp only [liesAt, Bool.or_eq_true]
   left
   rw [hdp]
   simp [rowAt, hco, hs0, h1, sameLayout]
  ·rw [aa]; split <;> try trivial
   rename_i hext
   have hext : ext = false := by simpa using hext
   rw [aa]; split <;> try trivial
   rename_i hl
   refine hfin ?_
   rw [e3 hext]
   exact al2 hl
 ·rename_i u hs hd
  simp only [VRel] at hx; subst hx
  refine VOK.here hw (v' := .pointer none) ?_ (by simp only [VRel])
  simp only [convert, zR, ab hs, ab hd, zQ, Conv.unsafePointer, zT]
 ·rename_i u b off hs hd
  split <;> try trivial
  rename_i t size ext fl fh cs s hg hsz
  rw [aa]; split <;> try trivial
  rename_i hcond
  simp only [zU] at hcond
  have k1 : off < size := zE hcond.1
  have k2 : 0 < s := zE hcond.2
  have hx0 := hx
  simp only [VRel] at hx; obtain ⟨c, hc, rfl⟩ := hx
  refine VOK.here hw (v' := .pointer (some ⟨c, off, none⟩)) ?_ hx0
  obtain ⟨arr, fz, e1, e2, e3, e4, e5, e6⟩ := hw.block hg (by simp) hc
  have hsh : w.shape? c = some (t, arr.size) := by simp [World.shape?, e1]
  simp only [convert, zR, ab hs, ab hd, zQ, Conv.unsafePointer, Conv.seenAt, viewAt, cellsIn, run_shape, hsh, Option.isSome_some, if_true, zT, ax hsz]
  have n1 : ¬ s = 0 := by omega
  have n2 : ¬ off ≥ arr.size := by omega
  simp only [n1, n2, decide_false, Bool.false_and, Bool.or_self, zF, if_false, zT]
end
end Go.Ev
set_option linter.all false
namespace Go.Ev
variable [Gv]
def DRel (ρ : Env) : AD → Deferred → Prop
 | .call fn cap args, d => ∃ cap' args', d = { target := .fn fn cap', args := args' } ∧ VRels ρ cap cap'.toList ∧ VRels ρ args args'.toList
 | .coll b, d => ∃ c, ρ b = some c ∧ d = { target := .collected c, args := #[] }
def NOK (ρ : Env) (a : W) (w : World) (s : Sem Next) : OR → Prop
 | .val v a' => Fresh ρ a a' → ∃ ρ' w', Adv ρ a w ρ' a' w' ∧ ((∃ v', s.run PP w = .ok (.value v') w' ∧ VRel ρ' v v') ∨ (s.run PP w = .ok .skip w' ∧ v = ff))
 | .call f vs a' => Fresh ρ a a' → ∃ ρ' w' args, Adv ρ a w ρ' a' w' ∧ s.run PP w = .ok (.enter f args) w' ∧ VRels ρ' vs args.toList
 | .yld b vs a' => a' = a ∧ ∃ c args, ρ b = some c ∧ s.run PP w = (Instr.yield c args).run PP w ∧ VRels ρ vs args.toList
 | .pan v a' => a' = a ∧ ∃ v', s.run PP w = .halt (.panic v') w ∧ VRel ρ v v'
 | .dfr d a' => a' = a ∧ ∃ d', s.run PP w = .ok (.defer d') w ∧ DRel ρ d d'
 | .rcv a' => a' = a ∧ s.run PP w = .ok .recover w
 | .no _ => True
section
variable {ρ : Env} {a : W} {w : World}
theorem VOK.next {s : Sem Value} {r : OR} (h : VOK ρ a w s r) : NOK ρ a w (do pure (.value (← s))) r := by
 cases r <;> try trivial
 ·intro hf
  obtain ⟨ρ', w', v', h1, h2, h3⟩ := h hf
  exact ⟨ρ', w', h3, .inl ⟨v', by simp only [zR, h1, zQ, zT], h2⟩⟩
 all_goals exact h.elim
theorem UOK.next {s : Sem Unit} {r : OR} (h : UOK ρ a w s r) : NOK ρ a w (do s; pure .skip) r := by
 cases r <;> try trivial
 ·intro hf
  obtain ⟨hv, ρ', w', h1, h3⟩ := h hf
  exact ⟨ρ', w', h3, .inr ⟨by simp only [zR, h1, zQ, zT], hv⟩⟩
 all_goals exact h.elim
theorem NOK.of_run {s s' : Sem Next} {r : OR} (h : NOK ρ a w s r) (e : s.run PP w = s'.run PP w) : NOK ρ a w s' r := by
 cases r <;> simp only [NOK] at h ⊢ <;> rw [← e] <;> exact h
theorem aiw (len n c : Nat) (hc : c ≤ 255) : ∀ (k i : Nat), i + k = len → agk len n c k i = (match (List.range' i k).find? (fun j => (ap len n)[j]! == UInt8.ofNat c) with | some j => (j : Int) | none => -1)
 | 0, i, _ => rfl
 | k + 1, i, h => by
   have hu : (ap len n)[i]! = UInt8.ofNat (sAt len n i) := by
    have hi : i < (aq len n).length := by rw [aj]; omega
    have := kg len n i hi
    rw [← this]
    have hi' : i < (ap len n).size := by rw [cg]; omega
    rw [getElem!_pos _ i hi']
    simp [ap, ByteArray.getElem_eq_getElem_data]
   rw [List.range'_succ, List.find?_cons]
   show bc _ _ _ = _
   rw [aa]
   have hs := amh len n i
   by_cases e : sAt len n i = c
   ·have h1 : ((ap len n)[i]! == UInt8.ofNat c) = true := by rw [hu, e]; simp
    rw [h1, if_pos (by rw [e]; exact Nat.beq_refl c)]
    rfl
   ·have h1 : ((ap len n)[i]! == UInt8.ofNat c) = false := by
     rw [hu]
     simp only [beq_eq_false_iff_ne, ne_eq]
     intro hh
     have := congrArg UInt8.toNat hh
     simp at this
     omega
    rw [h1, if_neg (by intro hh; exact e (zW hh))]
    exact aiw len n c hc k (i + 1) (by omega)
theorem ak4 (len n c : Nat) (hc : c ≤ 255) : ∀ (k i r : Nat), i + k = len → aaf len n c k i r = r + Lib.countByte ((aq len n).drop i) (Int.ofNat c).toNat.toUInt8
 | 0, i, r, h => by
   rw [List.drop_of_length_le (by rw [aj]; omega)]
   rfl
 | k + 1, i, r, h => by
   have hi : i < (aq len n).length := by rw [aj]; omega
   rw [List.drop_eq_getElem_cons hi]
   have hu : (aq len n)[i] = UInt8.ofNat (sAt len n i) := kg len n i hi
   have hs := amh len n i
   show bc _ _ _ = _
   rw [aa]
   unfold Lib.countByte
   rw [List.count_cons]
   have e1 : (Int.ofNat c).toNat.toUInt8 = UInt8.ofNat c := rfl
   by_cases e : sAt len n i = c
   ·rw [if_pos (by rw [e]; exact Nat.beq_refl c), ak4 len n c hc k (i + 1) _ (by omega), hu, e, e1]
    unfold Lib.countByte
    simp; omega
   ·rw [if_neg (by intro hh; exact e (zW hh)), ak4 len n c hc k (i + 1) _ (by omega), hu, e1]
    unfold Lib.countByte
    have h1 : (UInt8.ofNat (sAt len n i) == UInt8.ofNat c) = false := by
     simp only [beq_eq_false_iff_ne, ne_eq]
     intro hh
     have := congrArg UInt8.toNat hh
     simp at this
     omega
    rw [h1]; simp
theorem pj {n : String} {fn : Func} (h1 : fn.name = n) (h2 : fn.origin = "") (hl : Extern.allNextRows.lookup n = none) (h0 : Extern.allNextRows.lookup "" = none) : Extern.findNext fn = none := by
 unfold Extern.findNext
 simp only [h1, h2, hl, h0]
 rfl
theorem yf {n : String} {fn : Func} {e : Array Value → Sem Value} (h1 : fn.name = n) (hg : Extern.allGenericRows.lookup n = none) (ht : Extern.allTypedRows.lookup n = none) (hl : Extern.allRows.lookup n = some e) : Extern.find fn = some e := by
 unfold Extern.find
 simp only [h1, hg, ht, hl]
 rfl
theorem ah4 (n i : Nat) : ou (gx n) i = .top := by
 have h0 : ∀ i, ov ak1 i = .top := fun i => N.get_all _ _
 have h1 : ∀ i, nw rj i = .top := fun i => (congrArg (fun x => ov x i) (N.get_all _ _)).trans (h0 i)
 have h2 : ∀ i, ny qe i = .top := fun i => (congrArg (fun x => nw x i) (N.get_all _ _)).trans (h1 i)
 have h3 : ∀ i, aa8 uy i = .top := fun i => (congrArg (fun x => ny x i) (N.get_all _ _)).trans (h2 i)
 unfold gx
 rw [aa]
 split
 ·exact h0 i
 ·rw [aa]
  split
  ·exact h1 i
  ·rw [aa]
   split
   ·exact h2 i
   ·exact h3 i
theorem ab3 {n : String} {fn : Func} {e : Extern.Typed} (h1 : fn.name = n) (hg : Extern.allGenericRows.lookup n = none) (ht : Extern.allTypedRows.lookup n = some e) : Extern.find fn = some (e fn.params fn.resultTypes) := by
 unfold Extern.find
 simp only [h1, hg, ht]
 rfl
theorem afb (hw : WRel ρ a w) {b : K} {c : Nat} (h : nh (bz b a) = true) (hc : ρ b = some c) : ∃ arr t, w.shape? c = some (t, arr) ∧ arr ≠ 0 ∧ ∀ o, w.frozen? ⟨c, o, none⟩ = false := by
 unfold nh at h
 split at h
 ·rename_i t size ext fl fh cs hg
  obtain ⟨h1, h2⟩ := bc_and.1 h
  have h1 := zE h1
  have h2 : 0 < size := zE h2
  obtain ⟨arr, fz, e1, e2, e3, e4, e5, e6⟩ := hw.block hg (by simp) hc
  refine ⟨arr.size, t, by simp [World.shape?, e1], by omega, fun o => ?_⟩
  obtain ⟨f1, f2⟩ := fz
  have := e5.2 o
  simp only [World.frozen?, e1, Bool.and_eq_false_iff, decide_eq_false_iff_not]
  simp only at this
  omega
 ·cases h
theorem azc {b : K} (h : nh (bz b a) = true) : (ac b a.h).isRo = false := by
 rw [← ar]; unfold nh at h
 split at h
 ·rename_i hg; rw [hg]; rfl
 ·cases h
theorem ajs {b : K} (h : nh (bz b a) = true) : ac b a.h ≠ .none := by
 rw [← ar]; intro e; rw [e] at h; cases h
theorem oa {α : Type} {l : List (String × α)} {n : String} (h : (l.lookup n).isNone = true) : l.lookup n = none := by simpa using h
theorem ajp (hw : WRel ρ a w) {f : FuncId} {fn : Func} {vs : List AV} {args : Array Value} (hfo : ad4 f = some fn) (hf : PP.funcs[f]? = some fn) (hv : VRels ρ vs args.toList) : NOK ρ a w (callFunc f args) (m0 f vs a) := by
 unfold m0
 rw [hfo]
 dsimp only
 rw [aa]
 split <;> try trivial
 rename_i hov
 unfold a73 at hov
 obtain ⟨o1, hov⟩ := bc_and.1 hov
 have o1 : fn.origin = "slices.overlaps" := by simpa using o1
 have hb : fn.body.isNone = true := by
  cases hb : fn.body with
  | none => rfl
  | some c => rw [hb] at hov; cases hov
 have hng : (fn.name == "runtime.NumGoroutine") = false := by
  cases hn : (fn.name == "runtime.NumGoroutine") with
  | false => rfl
  | true =>
    rw [hn] at hov
    cases hb2 : fn.body.isSome <;> rw [hb2] at hov <;> cases hov
 have hrows : al9 fn.name = true := by
  rw [hng] at hov
  have : fn.body.isSome = false := by cases hb2 : fn.body <;> simp_all
  rw [this] at hov
  exact hov
 unfold al9 at hrows
 simp only [zU] at hrows
 obtain ⟨⟨⟨n1, n2⟩, n3⟩, n4⟩ := hrows
 have n1 := oa n1
 have n2 := oa n2
 have n3 := oa n3
 have n4 := oa n4
 have hnext : Extern.findNext fn = none := by
  unfold Extern.findNext
  have : Extern.allNextRows.lookup "slices.overlaps" = none := by kernel_rfl
  simp only [o1, n4, this]
  rfl
 have hfind : Extern.find fn = some (Extern.SlicesOverlaps.overlaps fn.params fn.resultTypes) := by
  unfold Extern.find
  have g1 : Extern.allGenericRows.lookup "slices.overlaps" = none := by kernel_rfl
  have g2 : Extern.allTypedRows.lookup "slices.overlaps" = some Extern.SlicesOverlaps.overlaps := by kernel_rfl
  simp only [o1, n1, n2, n3, g1, g2]
  rfl
 split <;> try trivial
 rename_i t ts x y hp
 split <;> try trivial
 rename_i e hu
 rw [aa]
 split <;> try trivial
 rename_i hse
 obtain ⟨sz, hse⟩ := Option.isSome_iff_exists.1 hse
 obtain ⟨i, hi, rfl⟩ := j8 hse
 unfold ama
 split <;> try trivial
 rename_i b o1' l1 c1 x1 b' o2' l2 c2 x2
 rw [aa]
 split <;> try trivial
 rename_i hcond
 simp only [zU, Bool.not_eq_true'] at hcond
 obtain ⟨⟨q1, q2⟩, q3⟩ := hcond
 simp only [VRels, VRel] at hv
 obtain ⟨v1, r1, e1, ⟨cc, cap1, k1, _, _, rfl⟩, v2, r2, e2, ⟨cc', cap2, k2, _, _, rfl⟩, e3⟩ := hv
 rw [e3] at e2; rw [e2] at e1
 have ha : args = #[.slice (some ⟨cc, o1', none⟩) l1 cap1, .slice (some ⟨cc', o2', none⟩) l2 cap2] := by rw [← Array.toArray_toList (xs := args), e1]
 subst ha
 have hne : cc ≠ cc' := by
  rintro rfl
  have := hw.inj1 (ajs q2) (ajs q3) (.inl (azc q2)) (by rw [k1, k2])
  rw [this] at q1
  rw [(K.beq_iff _ _).2 rfl] at q1
  cases q1
 obtain ⟨s1, t1, p1, p2, p3⟩ := afb hw q2 k1
 obtain ⟨s2, t2, p4, p5, p6⟩ := afb hw q3 k2
 have hp0 : fn.params[0]? = some t := by
  have := congrArg (·[0]?) hp
  simpa using this
 have hrun : (Extern.SlicesOverlaps.overlaps fn.params fn.resultTypes #[.slice (some ⟨cc, o1', none⟩) l1 cap1, .slice (some ⟨cc', o2', none⟩) l2 cap2]).run PP w = .ok (.bool false) w := by
  have hbne : (cc != cc') = true := by simpa using hne
  have hbeq : (cc == cc') = false := by simpa using hne
  have hsz : (Go.sizeOf e).run PP w = .ok i.size w := by simp [Go.sizeOf, fu hi]
  change Sem.run PP (α := Value) (do
   let some t := fn.params[0]? | stuck "slices.overlaps: no parameter types"
   let .slice elem ← underlying t | stuck "slices.overlaps: slice type expected"
   let size ← Go.sizeOf elem
   match (some (⟨cc, o1', none⟩ : Addr) : Option Addr), (some (⟨cc', o2', none⟩ : Addr) : Option Addr) with
   | some a, some b =>
     if l1 = 0 ∨ l2 = 0 ∨ size = 0 then pure (Value.bool false)
     else if a.block != b.block && (← frozen a) && (← frozen b) then unsupported .addressObserved
     else do
      if a.block != b.block then do
       noView a; noView b
       if ← mayBeOne a b then return Value.bool ((← choose (.extern "sameAddr.stringBytes" 2)) == 1)
      pure (Value.bool (a.block == b.block && a.off < b.off + l2 * size && b.off < a.off + l1 * size))
   | _, _ => pure (Value.bool false)) w = _
  by_cases hz : l1 = 0 ∨ l2 = 0 ∨ i.size = 0
  ·simp [hp0, ab hu, hsz, hz]
  ·simp [hp0, ab hu, hsz, hz, hbne, hbeq, p3, p6, frozen, noView, viewAt, mayBeOne, stringish, shape, Sem.run, p1, p4]
 intro _
 refine ⟨ρ, w, Adv.refl hw, .inl ⟨.bool false, ?_, by simp only [VRel]⟩⟩
 rw [run_callFunc_extern hf hng hb hnext hfind, hrun]
 rfl
theorem xz (hw : WRel ρ a w) {f : FuncId} {vs : List AV} {args : Array Value} (hv : VRels ρ vs args.toList) : NOK ρ a w (callFunc f args) (qf f vs a) := by
 unfold qf
 unfold abw
 cases hf : ad4 f with
 | none => unfold m0; rw [hf]; trivial
 | some fn =>
   have hfo := hf
   have hf := aah hf
   dsimp only
   rw [aa]
   split
   ·rename_i heq
    split at heq
    ·cases heq
    rename_i hng
    have hng : fn.name ≠ "runtime.NumGoroutine" := by simpa using hng
    rw [aa] at heq
    split at heq
    ·rename_i hb
     obtain ⟨c, hb⟩ := Option.isSome_iff_exists.1 hb
     intro _
     refine ⟨ρ, w, args, Adv.refl hw, ?_, hv⟩
     simp [callFunc, hf, hng, hb]
    ·simp only [aa] at heq
     split at heq
     ·split at heq
      ·cases heq
      ·split at heq
       ·cases heq
       ·split at heq
        ·cases heq
        ·split at heq <;> cases heq
     ·cases heq
   ·rename_i heq
    split at heq
    ·cases heq
    rename_i hng
    rw [aa] at heq
    split at heq
    ·cases heq
    rename_i hb
    simp only [aa] at heq
    split at heq
    ·rename_i ho
     split at heq
     ·rename_i hn
      have hn : fn.name = "internal/abi.NoEscape" := by simpa using hn
      have ho : fn.origin = "" := by simpa using ho
      split <;> try trivial
      rename_i x
      simp only [VRels] at hv
      obtain ⟨x', r, h1, h2, h3⟩ := hv
      rw [h3] at h1
      have ha : args = #[x'] := by rw [← Array.toArray_toList (xs := args), h1]
      subst ha
      intro _
      refine ⟨ρ, w, Adv.refl hw, .inl ⟨x', ?_, h2⟩⟩
      rw [run_callFunc_extern hf (by simpa using hng) (by simpa using hb) (pj hn ho (by kernel_rfl) (by kernel_rfl)) (yf (e := Extern.AbiNoEscape.same) hn (by kernel_rfl) (by kernel_rfl) (by kernel_rfl))]
      rfl
     ·split at heq
      ·cases heq
      ·split at heq
       ·cases heq
       ·split at heq <;> cases heq
    ·cases heq
   ·rename_i heq
    split at heq
    ·cases heq
    rename_i hng
    rw [aa] at heq
    split at heq
    ·cases heq
    rename_i hb
    simp only [aa] at heq
    split at heq
    ·rename_i ho
     split at heq
     ·cases heq
     split at heq
     ·rename_i hn
      have hn : fn.name = "internal/bytealg.IndexByteString" := by simpa using hn
      have ho : fn.origin = "" := by simpa using ho
      split <;> try trivial
      rename_i len n c
      rw [aa]
      split <;> try trivial
      rename_i hc
      have hc := zE hc
      simp only [VRels, VRel] at hv
      obtain ⟨v1, r1, h1, ⟨h2, h2'⟩, v2, r2, h3, h4, h5⟩ := hv
      rw [h5] at h3; rw [h3, h2', h4] at h1
      have ha : args = #[.string (ap len n), .int .u8 (Int.ofNat c)] := by rw [← Array.toArray_toList (xs := args), h1]
      subst ha
      intro _
      refine ⟨ρ, w, Adv.refl hw, .inl ⟨.int .i64 (firstIdx (ap len n) (Int.ofNat c).toNat.toUInt8), ?_, bh ?_⟩⟩
      ·rw [run_callFunc_extern hf (by simpa using hng) (by simpa using hb) (pj hn ho (by kernel_rfl) (by kernel_rfl)) (yf (e := Extern.BytealgIndexByte.indexByte) hn (by kernel_rfl) (by kernel_rfl) (by kernel_rfl)), run_indexByte_string]
       rfl
      ·rw [aiw len n c hc len 0 (by omega)]
       unfold firstIdx
       rw [cg, List.range_eq_range']
       rfl
     ·split at heq
      ·cases heq
      ·split at heq <;> cases heq
    ·cases heq
   ·rename_i heq
    split at heq
    ·cases heq
    rename_i hng
    rw [aa] at heq
    split at heq
    ·cases heq
    rename_i hb
    simp only [aa] at heq
    split at heq
    ·rename_i ho
     split at heq
     ·cases heq
     split at heq
     ·cases heq
     split at heq
     ·rename_i hn
      have hn : fn.name = "internal/bytealg.MakeNoZero" := by simpa using hn
      have ho : fn.origin = "" := by simpa using ho
      split <;> try trivial
      rename_i n
      unfold al6
      rw [hfo]
      dsimp only
      split <;> try trivial
      rename_i t ht
      split <;> try trivial
      rename_i e hu
      rw [aa]
      split
      ·rename_i hn6
       have hn6 : n ≤ 60000 := by have := zE hn6; omega
       simp only [VRels, VRel] at hv
       obtain ⟨v1, r1, h1, h2, h3⟩ := hv
       rw [h3, h2] at h1
       have ha : args = #[.int .i64 (Int.ofNat n)] := by rw [← Array.toArray_toList (xs := args), h1]
       subst ha
       have hrt : fn.resultTypes = #[t] := by rw [← Array.toArray_toList (xs := fn.resultTypes), ht]
       obtain ⟨cs, q1, q2, _⟩ := Lib.run_makeNoZero w fn.params t e (bi hu) n (by omega)
       obtain ⟨hh, nx⟩ := a
       show NOK ρ (.mk hh nx) w _ (bc nx.isMax (.no 1) (.val _ (.mk (bn nx _ hh) nx.succ)))
       rw [aa]
       split
       ·trivial
       ·rename_i hm
        have hm : nx.isMax = false := by simpa using hm
        intro fr
        have hfr : ρ nx = none := fr nx (zY _) (by simp only [W.nx_mk]; rw [K.succ_num hm]; omega)
        have hor : ORel ρ (.cells e n true 0 0 (gx n)) (some (.cells cs e)) := by
         refine ⟨cs, (0, 0), rfl, q2, (fun x => by cases x), f8 n (by omega), ⟨zY _, fun i h1 h2 => by simp at h1 h2⟩, fun i hi => ?_⟩
         refine ⟨cs[i]'(by omega), Array.getElem?_eq_getElem (by omega), ?_⟩
         rw [ah4]
         simp only [VRel]
        have hA := Adv.of_drew (Adv.of_drew (s5 hw.drew.drew hfr hm hor))
        refine ⟨_, _, hA, .inl ⟨.slice (some ⟨w.heap.size, 0, none⟩) n cs.size, ?_, ?_⟩⟩
        ·rw [run_callFunc_extern hf (by simpa using hng) (by simpa using hb) (pj hn ho (by kernel_rfl) (by kernel_rfl)) (ab3 (e := Extern.BytealgMakeNoZero.makeNoZero) hn (by kernel_rfl) (by kernel_rfl)), hrt]
         exact (congrArg (fun r => Result.andThen r fun v w' => Result.ok (Next.value v) w') q1).trans rfl
        ·simp only [VRel, SlOk]
         refine ⟨w.heap.size, cs.size, bp ρ nx _ _, ⟨zY _, q2⟩, ?_, rfl⟩
         rw [ml]
         simp [Obj.cellCount]
      rw [aa]
      split <;> try trivial
      rename_i hn7
      have hn7 := zE hn7
      simp only [VRels, VRel] at hv
      obtain ⟨v1, r1, h1, h2, h3⟩ := hv
      rw [h3, h2] at h1
      have ha : args = #[.int .i64 (Int.ofNat n)] := by rw [← Array.toArray_toList (xs := args), h1]
      subst ha
      have hrt : fn.resultTypes = #[t] := by rw [← Array.toArray_toList (xs := fn.resultTypes), ht]
      obtain ⟨cs, q1, q2, _⟩ := Lib.run_makeNoZero w fn.params t e (bi hu) n (by omega)
      obtain ⟨hh, nx⟩ := a
      show NOK ρ (.mk hh nx) w _ (bc nx.isMax (.no 1) (.val _ (.mk (bn nx _ hh) nx.succ)))
      rw [aa]
      split
      ·trivial
      ·rename_i hm
       have hm : nx.isMax = false := by simpa using hm
       intro fr
       have hfr : ρ nx = none := fr nx (zY _) (by simp only [W.nx_mk]; rw [K.succ_num hm]; omega)
       have hor : ORel ρ (.pk e 0 0 0 0) (some (.cells cs e)) := ⟨cs, (0, 0), rfl, Nat.zero_le _, ⟨zY _, fun i h1 h2 => by simp at h1 h2⟩, by simp, fun i b hb => by simp [aq] at hb⟩
       have hA := Adv.of_drew (Adv.of_drew (s5 hw.drew.drew hfr hm hor))
       refine ⟨_, _, hA, .inl ⟨.slice (some ⟨w.heap.size, 0, none⟩) n cs.size, ?_, ?_⟩⟩
       ·rw [run_callFunc_extern hf (by simpa using hng) (by simpa using hb) (pj hn ho (by kernel_rfl) (by kernel_rfl)) (ab3 (e := Extern.BytealgMakeNoZero.makeNoZero) hn (by kernel_rfl) (by kernel_rfl)), hrt]
        exact (congrArg (fun r => Result.andThen r fun v w' => Result.ok (Next.value v) w') q1).trans rfl
       ·simp only [VRel, SlOk]
        refine ⟨w.heap.size, cs.size, bp ρ nx _ _, ⟨zY _, q2⟩, ?_, rfl⟩
        rw [ml]
        simp [Obj.cellCount]
     ·split at heq <;> cases heq
    ·cases heq
   ·rename_i heq
    split at heq
    ·cases heq
    rename_i hng
    rw [aa] at heq
    split at heq
    ·cases heq
    rename_i hb
    simp only [aa] at heq
    split at heq
    ·rename_i ho
     split at heq
     ·cases heq
     split at heq
     ·cases heq
     split at heq
     ·cases heq
     split at heq
     ·rename_i hn
      have hn : fn.name = "internal/bytealg.CountString" := by simpa using hn
      have ho : fn.origin = "" := by simpa using ho
      split <;> try trivial
      rename_i len n c
      rw [aa]
      split <;> try trivial
      rename_i hc
      have hc := zE hc
      simp only [VRels, VRel] at hv
      obtain ⟨v1, r1, h1, ⟨h2, h2'⟩, v2, r2, h3, h4, h5⟩ := hv
      rw [h5] at h3; rw [h3, h2', h4] at h1
      have ha : args = #[.string (ap len n), .int .u8 (Int.ofNat c)] := by rw [← Array.toArray_toList (xs := args), h1]
      subst ha
      intro _
      refine ⟨ρ, w, Adv.refl hw, .inl ⟨.int .i64 (Lib.countByte (ap len n).data.toList (Int.ofNat c).toNat.toUInt8), ?_, bh ?_⟩⟩
      ·rw [run_callFunc_extern hf (by simpa using hng) (by simpa using hb) (pj hn ho (by kernel_rfl) (by kernel_rfl)) (yf (e := Extern.BytealgCount.count) hn (by kernel_rfl) (by kernel_rfl) (by kernel_rfl)), Lib.run_countString]
       rfl
      ·rw [ak4 len n c hc len 0 0 (by omega)]
       have hdat : (ap len n).data.toList = aq len n := by unfold ap; simp
       rw [hdat]
       simp
     ·cases heq
    ·cases heq
   ·exact ajp hw hfo hf hv
end
end Go.Ev
set_option linter.all false
namespace Go.Ev
variable [Gv]
def OR.at (a : W) : OR → Prop
 | .val _ w | .call _ _ w | .yld _ _ w | .pan _ w | .dfr _ w | .rcv w => w = a
 | .no _ => True
section
variable {ρ : Env} {a : W} {w : World}
theorem NOK.after {ρ' : Env} {w' : World} {s s0 : Sem Next} {r : OR} (h : Adv ρ a w ρ' a w') (hn : NOK ρ' a w' s r) (hr : r.at a) (hw : w' = w) (hρ : ρ' = ρ) (e : s0.run PP w = s.run PP w') : NOK ρ a w s0 r := by
 subst hw; subst hρ
 exact hn.of_run e.symm
theorem aia {t : TypeId} {name : String} {f : FuncId} {o : Option TypeId} (h : v8 t name = some (f, o)) :
  ∃ (i : TypeInfo) (m : Method) (ptr : Bool) (d : TypeDesc), PP.info? t = some i ∧ i.methods.find? (·.name == name) = some m ∧ m.func = some (f, ptr) ∧ m.path = #[] ∧ al t = some d ∧
   ((∃ e, d = .pointer e ∧ o = (if ptr then none else some e)) ∨ ((∀ e, d ≠ .pointer e) ∧ ptr = false ∧ o = none)) := by
 unfold v8 at h
 split at h <;> try (cases h; done)
 rename_i m hm
 unfold ajg at hm
 rw [Option.bind_eq_some_iff] at hm
 obtain ⟨i, hi, hm⟩ := hm
 have hi := dg hi
 split at h <;> try (cases h; done)
 rename_i f' ptr hf hp
 have hp : m.path = #[] := by simpa using hp
 split at h <;> try (cases h; done)
 ·rename_i e hu
  simp only [Option.some.injEq, Prod.mk.injEq] at h
  obtain ⟨rfl, rfl⟩ := h
  exact ⟨i, m, ptr, _, hi, hm, hf, hp, hu, .inl ⟨e, rfl, by rw [aa]⟩⟩
 ·rename_i d hne hu
  rw [aa] at h
  split at h <;> try (cases h; done)
  rename_i hptr
  cases h
  exact ⟨i, m, ptr, d, hi, hm, hf, hp, hu, .inr ⟨hne, by simpa using hptr, rfl⟩⟩
theorem ach {t : TypeId} {name : String} {f : FuncId} {v r : Value} {o : Option TypeId} {n : Nat} (h : v8 t name = some (f, o))
  (hr : match o with | none => r = v | some e => (∃ ad, v = .pointer (some ad)) ∧ (Instr.loadAt e v).run PP w = .ok r w) : (Go.method (n + 1) t v name).run PP w = .ok (f, r) w := by
 obtain ⟨i, m, ptr, d, hi, hm, hf, hp, hu, hc⟩ := aia h
 simp only [Go.method, zR, fu hi, zQ, hm, hp, Array.toList_empty, follow, zT, hf]
 have key : (receiverAt t (.val v) ptr (if (#[] : Array FieldStep).isEmpty = true then some ((name.splitOn ".").getLastD name) else none)).run PP w = .ok r w := by
  rcases hc with ⟨e, rfl, ho⟩ | ⟨hne, rfl, ho⟩
  ·cases ptr
   ·simp only [zF, if_false] at ho
    subst ho
    obtain ⟨⟨ad, rfl⟩, hl⟩ := hr
    simp only [Instr.loadAt, Instr.sureAddr, zR, zT, zQ] at hl
    simp only [receiverAt, zR, ab hu, zQ, Place.get, zT, Array.isEmpty_empty, if_true]
    show Result.andThen (Sem.run PP (pure (.pointer (some ad)) : Sem Value) w) _ = _
    simp only [zT, zQ, asAddr, zR]
    exact hl
   ·simp only [if_true] at ho
    subst ho; subst hr
    simp only [receiverAt, zR, ab hu, zQ, Place.get, zT]
  ·subst ho; subst hr
   simp only [receiverAt, zR, ab hu, zQ]
   cases d <;> first | exact absurd rfl (hne _) | simp only [Place.get, zT]
 simp only [key, zQ]
theorem aew (hw : WRel ρ a w) {b : K} {off c : Nat} (hc : ρ b = some c) (t : TypeId) {r : AV} {a' : W} (hl : qh t (.ptr b off) a = .val r a') : a' = a ∧ ∃ r', (Instr.loadAt t (.pointer (some ⟨c, off, none⟩))).run PP w = .ok r' w ∧ VRel ρ r r' := by
 unfold qh at hl
 split at hl
 ·rename_i h
  obtain ⟨d, n, hd, hs, hr⟩ := ic h
  have hagg : ei d = false := by cases e : ei d with | false => rfl | true => rw [e] at hr; simp at hr
  unfold ai5 at hl
  dsimp only at hl
  split at hl <;> cases hl
  rename_i hv
  obtain ⟨v', h1, h2⟩ := aco hv (hw.block rfl (ae6 hv) hc)
  refine ⟨rfl, v', ?_, h2⟩
  simp only [Instr.loadAt, Instr.sureAddr, loadVar, zR, zT, zQ, iy hd, hagg, zF, if_false, run_load, h1]
 ·rename_i n h
  obtain ⟨d, m, hd, hs, hr⟩ := ic h
  by_cases hagg : ei d = true
  ·rw [if_pos hagg] at hr
   injection hr with hr
   injection hr with hr
   subst hr
   unfold acf at hl
   dsimp only at hl
   split at hl <;> cases hl
   rename_i hv
   obtain ⟨l', h1, h2, h3⟩ := j7 hv (hw.block rfl (lc hv) hc)
   refine ⟨rfl, .agg l'.toArray, ?_, by simp only [VRel]; exact ⟨_, rfl, by simpa using h2⟩⟩
   simp only [Instr.loadAt, Instr.sureAddr, loadVar, zR, zT, zQ, iy hd, hagg, if_true, ax hs, fq h1 h3]
  ·rw [if_neg hagg] at hr
   split at hr <;> cases hr
 ·cases hl
theorem ah2 (hw : WRel ρ a w) {x : AV} {x' : Value} {name : String} {vs : List AV} {args : Array Value} (hx : VRel ρ x x') (hv : VRels ρ vs args.toList) : NOK ρ a w (callMethod x' name args) (ang x name vs a) := by
 unfold ang
 split <;> try trivial
 rename_i t v
 simp only [VRel] at hx
 obtain ⟨v', rfl, hv'⟩ := hx
 have run : ∀ {f : FuncId} {r : Value} , (∀ n, (Go.method (n + 1) t v' name).run PP w = .ok (f, r) w) → (callMethod (.iface t v') name args).run PP w = (callFunc f (#[r] ++ args)).run PP w := by
  intro f r h
  have := h (PP.types.size + 99)
  simp only [callMethod, zR, run_program, zQ]
  rw [show PP.types.size + Made.depth = PP.types.size + 99 + 1 from rfl, this]
  rfl
 have cons : ∀ {r : AV} {r' : Value}, VRel ρ r r' → VRels ρ (r :: vs) (#[r'] ++ args).toList := by
  intro r r' h
  simp only [VRels]
  exact ⟨r', args.toList, by simp, h, hv⟩
 split <;> try trivial
 ·rename_i f hd
  exact (xz hw (cons hv')).of_run (run (fun n => ach hd rfl)).symm
 ·rename_i f e hd
  split <;> try trivial
  rename_i b off
  split <;> try trivial
  rename_i r a' hl
  simp only [VRel] at hv'
  obtain ⟨c, hc, rfl⟩ := hv'
  obtain ⟨_, r', h1, h2⟩ := aew hw hc e hl
  exact (xz hw (cons h2)).of_run (run (fun n => ach hd ⟨⟨_, rfl⟩, h1⟩)).symm
theorem ah3 (hw : WRel ρ a w) {x : AV} {x' : Value} {vs : List AV} {args : Array Value} (hx : VRel ρ x x') (hv : VRels ρ vs args.toList) :
  NOK ρ a w (do let d ← Deferred.ofValue x' args; invoke d.target d.args) (zd x vs a) := by
 unfold zd
 split <;> try trivial
 ·rename_i g first cap
  simp only [VRel] at hx
  obtain ⟨fn', f', c', rfl, hfn, hf, hc⟩ := hx
  obtain rfl := hfn.plain (by intro n h; cases h)
  refine (xz hw (args := (f' ++ args) ++ c') ?_).of_run ?_
  ·simp only [Array.toList_append]
   exact VRels.append _ _ _ _ (VRels.append _ _ _ _ hf hv) hc
  ·simp only [Deferred.ofValue, zR, zT, zQ, invoke]
 ·rename_i name first cap
  simp only [VRel] at hx
  obtain ⟨fn', f', c', rfl, hfn, hf, hc⟩ := hx
  obtain rfl := hfn.plain (by intro n h; cases h)
  split <;> try trivial
  rename_i r rest hl
  have hall : VRels ρ (r :: rest) (f' ++ args).toList := by
   rw [← hl, Array.toList_append]; exact VRels.append _ _ _ _ hf hv
  simp only [VRels] at hall
  obtain ⟨r', rs, h1, h2, h3⟩ := hall
  have he : (f' ++ args) = #[r'] ++ rs.toArray := by
   apply Array.toList_inj.1
   rw [h1]; simp
  have hx : (#[r'] ++ rs.toArray).extract 1 (#[r'] ++ rs.toArray).size = rs.toArray := by
   apply Array.toList_inj.1
   simp
  refine (ah2 hw (args := rs.toArray) (name := name) h2 (by simpa using h3)).of_run ?_
  simp only [Deferred.ofValue, zR, zT, zQ, invoke, he, hx]
  simp
 ·rename_i n cap
  simp only [VRel, VRels] at hx
  obtain ⟨fn', f', c', rfl, ⟨c, hc, rfl⟩, hf, _⟩ := hx
  have hf : f' = #[] := by cases f'; simp_all
  subst hf
  refine ⟨rfl, c, args, hc, ?_, hv⟩
  simp only [Deferred.ofValue, zR, zT, zQ, invoke, Array.empty_append]
theorem arw (hw : WRel ρ a w) {fn : Fn} (hp : ∀ n, fn ≠ .yield n) {first cap vs : List AV} {x' : Value} {args : Array Value} (hx : VRel ρ (.func fn first cap) x') (hv : VRels ρ vs args.toList) :
  NOK ρ a w (do pure (.defer (← Deferred.ofValue x' args))) (.dfr (.call fn cap (first ++ vs)) a) := by
 simp only [VRel] at hx
 obtain ⟨fn', f', c', rfl, hfn, hf, hc⟩ := hx
 obtain rfl := hfn.plain hp
 refine ⟨rfl, _, by simp only [Deferred.ofValue, zR, zT, zQ], c', f' ++ args, rfl, hc, ?_⟩
 rw [Array.toList_append]; exact VRels.append _ _ _ _ hf hv
theorem aza (hw : WRel ρ a w) {x : AV} {x' : Value} (hx : VRel ρ x x') : NOK ρ a w (do pure (.value (← Instr.panic x'))) (af7 x a) := by
 unfold af7
 split <;> try trivial
 have hx0 := hx
 simp only [VRel] at hx
 obtain ⟨v', rfl, _⟩ := hx
 exact ⟨rfl, _, rfl, hx0⟩
end
end Go.Ev
set_option linter.all false
namespace Go.Ev
variable [Gv]
section
variable {ρ : Env} {a : W} {w : World}
def GRel (ρ : Env) : Prop := ∀ g, g ≤ 255 → ρ (K.of g) = some g
def FRel (ρ : Env) (τ : F) (tmps : Array Value) : Prop := ∀ t, VRel ρ (ev t τ) (tmps.getD t undef)
theorem agb (hg : GRel ρ) {τ : F} {fr : Frame} (hf : FRel ρ τ fr.tmps) (x : Operand) : VRel ρ (evX x τ) (fr.eval x) := by
 cases x with
 | tmp t => exact hf t
 | const v => exact di ρ v
 | global g =>
   show VRel ρ (bc (Nat.ble g 255) (.ptr (K.of g) 0) .top) _
   rw [aa]
   split
   ·rename_i h
    simp only [VRel]
    exact ⟨g, hg g (zE h), rfl⟩
   ·simp only [VRel]
 | func f => simp only [evX, VRel, Frame.eval]; exact ⟨_, #[], #[], rfl, rfl, by simp only [VRels], by simp only [VRels]⟩
variable {τ : F} {e : Operand → Value}
theorem aie (he : ∀ x, VRel ρ (evX x τ) (e x)) : ∀ l : List Operand, VRels ρ (qi l τ) (l.map e)
 | [] => by simp only [qi, List.map_nil, VRels]
 | x :: l => by
   have := aie he l
   simp only [qi, List.map_cons, VRels] at this ⊢
   exact ⟨_, _, rfl, he x, this⟩
theorem m8 (he : ∀ x, VRel ρ (evX x τ) (e x)) (l : Array Operand) : VRels ρ (qi l.toList τ) (l.map e).toList := by
 rw [Array.toList_map]; exact aie he _
theorem xi {x : AV} {args : Array Value} (h : VRels ρ [x] args.toList) : ∃ x', args = #[x'] ∧ VRel ρ x x' := by
 simp only [VRels] at h
 obtain ⟨v, r, h1, h2, h3⟩ := h
 rw [h3] at h1
 exact ⟨v, by rw [← Array.toArray_toList (xs := args), h1], h2⟩
theorem nn {x y : AV} {args : Array Value} (h : VRels ρ [x, y] args.toList) : ∃ x' y', args = #[x', y'] ∧ VRel ρ x x' ∧ VRel ρ y y' := by
 simp only [VRels] at h
 obtain ⟨v, r, h1, h2, v2, r2, h3, h4, h5⟩ := h
 rw [h5] at h3; rw [h3] at h1
 exact ⟨v, v2, by rw [← Array.toArray_toList (xs := args), h1], h2, h4⟩
theorem a00 (x : Value) (l : Array Value) : (#[x] ++ l).extract 1 (#[x] ++ l).size = l := by
 obtain ⟨l⟩ := l
 apply Array.toList_inj.1
 simp
theorem a0j (x : Value) (l : Array Value) : (#[x] ++ l)[0]? = some x := by
 rw [← Array.getElem?_toList, Array.toList_append]
 rfl
theorem tj {ts : Array TypeId} {t : TypeId} {r : List TypeId} (h : ts.toList = t :: r) : ts[0]? = some t := by
 have := congrArg (·[0]?) h
 simpa using this
theorem aky (hw : WRel ρ a w) {b : Builtin} {ts : Array TypeId} {ty : TypeId} {cs : Array Bool} {vs : List AV} {args : Array Value} (hv : VRels ρ vs args.toList) :
  NOK ρ a w (builtin b ts ty cs args) (tc b ts.toList vs a) := by
 unfold tc
 split <;> try trivial
 ·rename_i t r x hts
  obtain ⟨x', rfl, hx⟩ := xi hv
  exact (a5g hw (tj hts) hx).next
 ·rename_i t tn kq k hts
  obtain ⟨s', x', rfl, hs, hx⟩ := nn hv
  simp only [VRel] at hs hx
  subst hs hx
  have hts' : ts = #[t, tn] := Array.toList_inj.1 (by simpa using hts)
  subst hts'
  exact (asm hw).next
 ·rename_i t tn bk off l cap kq k hts
  obtain ⟨s', x', rfl, hs, hx⟩ := nn hv
  simp only [VRel, SlOk] at hs hx
  subst hx
  obtain ⟨c, cap', _, _, hcap, rfl⟩ := hs
  subst hcap
  have hts' : ts = #[t, tn] := Array.toList_inj.1 (by simpa using hts)
  subst hts'
  rw [aa]
  split <;> try trivial
  rename_i h0
  simp only [zU] at h0
  have h1 := zW h0.1
  subst h1
  exact (apr hw (zE h0.2)).next
 ·rename_i t r s x _ _ hts
  obtain ⟨s', x', rfl, hs, hx⟩ := nn hv
  have h1 : r.head? = ts[1]? := by
   have := congrArg (·[1]?) hts
   simp only [Array.getElem?_toList, List.getElem?_cons_succ] at this
   rw [this, List.head?_eq_getElem?]
  rw [h1]
  exact (aox hw (tj hts) hs hx).next
 ·rename_i t r d s hts
  obtain ⟨s', x', rfl, hs, hx⟩ := nn hv
  exact (a0t hw (tj hts) hs hx).next
 ·rename_i t r x hts
  obtain ⟨x', rfl, hx⟩ := xi hv
  exact (a4p hw (tj hts) hx).next
 ·exact (show VOK ρ a w (Builtin.min_ ts ty args) _ from aez (mx := false) (ts := ts) (ty := ty) hw hv).next
 ·exact (show VOK ρ a w (Builtin.max_ ts ty args) _ from aez (mx := true) (ts := ts) (ty := ty) hw hv).next
 ·rename_i t t2 p n hts
  obtain ⟨s', x', rfl, hs, hx⟩ := nn hv
  have : ts = #[t, t2] := by rw [← Array.toArray_toList (xs := ts), hts]
  subst this
  exact (amx hw hs hx).next
 ·rename_i x
  obtain ⟨x', rfl, hx⟩ := xi hv
  exact (azv hw hx).next
theorem a0n (hw : WRel ρ a w) (he : ∀ x, VRel ρ (evX x τ) (e x)) (c : Call) (ty : TypeId) : NOK ρ a w (do let d ← resolve e c ty; invoke d.target d.args) (rt c τ a) := by
 unfold rt
 split
 ·rename_i f hc
  refine (ah3 hw (he f) (m8 he c.args)).of_run ?_
  simp only [resolve, hc]
 ·rename_i r name hc
  refine (ah2 hw (he r) (m8 he c.args) (name := name)).of_run ?_
  simp only [resolve, hc, zR, zT, zQ, invoke]
  rw [a00, a0j]
 ·rename_i b hc
  refine (aky hw (b := b) (ts := c.argTypes) (ty := ty) (cs := c.args.map fun | .const _ => true | _ => false) (m8 he c.args)).of_run ?_
  simp only [resolve, hc, zR, zT, zQ, invoke]
  rfl
theorem ajj (hw : WRel ρ a w) {x : AV} {o : Oper} {y : Operand} (ho : o.op = .nilCheck y) (hx : VRel ρ x (e y)) : NOK ρ a w (execOp e o) (k9 x a) := by
 unfold k9
 have hx0 := hx
 split <;> try trivial
 ·simp only [VRel] at hx; obtain ⟨c, hc, h⟩ := hx
  intro _; refine ⟨ρ, w, Adv.refl hw, .inl ⟨_, ?_, hx0⟩⟩
  simp only [execOp, ho, h, zT]
 ·simp only [VRel] at hx; obtain ⟨c, h, _⟩ := hx
  intro _; refine ⟨ρ, w, Adv.refl hw, .inl ⟨_, ?_, hx0⟩⟩
  simp only [execOp, ho, h, zT]
 ·simp only [VRel] at hx; obtain ⟨fn', c, d, h, hfn, _⟩ := hx
  obtain rfl := hfn.plain (by intro n h; cases h)
  intro _; refine ⟨ρ, w, Adv.refl hw, .inl ⟨_, ?_, hx0⟩⟩
  simp only [execOp, ho, h, zT]
theorem zf (he : ∀ x, VRel ρ (evX x τ) (e x)) : ∀ l : List (Nat × Operand), ady ρ (mc l τ) (l.map fun (i, x) => (i, e x))
 | [] => by simp only [mc, List.map_nil, ady]
 | (i, x) :: l => by
   have := zf he l
   simp only [mc, List.map_cons, ady] at this ⊢
   exact ⟨_, _, rfl, he x, this⟩
theorem wp (he : ∀ x, VRel ρ (evX x τ) (e x)) (l : Array (Nat × Operand)) : ady ρ (mc l.toList τ) (l.map fun (i, x) => (i, e x)).toList := by
 rw [Array.toList_map]; exact zf he _
theorem tf (he : ∀ x, VRel ρ (evX x τ) (e x)) (o : Option Operand) : cj ρ (o.map fun y => evX y τ) (o.map e) := by
 cases o with
 | none => rfl
 | some y => exact ⟨_, rfl, he y⟩
theorem aq9 (hw : WRel ρ a w) (t : TypeId) : VOK ρ a w (Instr.alloc t true (.tuple #[])) (match fy t with | some z => bc (ju z) (newRow t (cellsOf z) a) (.no 174) | none => .no 160) := by
 cases hz : fy t with
 | none => trivial
 | some z =>
   dsimp only
   obtain ⟨i, z', hi, hz', rfl⟩ := b9 hz
   rw [aa]
   split <;> try trivial
   rename_i hn
   refine (ae3 hw (t := t) (cb (di ρ z') (dz hn))).of_run ?_
   simp only [Instr.alloc, zR, de hi hz', zQ, newVar, zT]
theorem akg (hw : WRel ρ a w) {s : Sem Next} {v : AV} {v' : Value} (h : s.run PP w = .ok (.value v') w) (hv : VRel ρ v v') : NOK ρ a w s (.val v a) :=
 fun _ => ⟨ρ, w, Adv.refl hw, .inl ⟨v', h, hv⟩⟩
theorem a38 (hw : WRel ρ a w) (he : ∀ x, VRel ρ (evX x τ) (e x)) (o : Oper) : NOK ρ a w (execOp e o) (x9 o.op τ a) := by
 obtain ⟨dst, op, ty, p, q, g⟩ := o
 cases op <;> try trivial
 case move x => exact akg hw rfl (he x)
 case assign x => exact akg hw rfl (he x)
 case pick c x y => exact (a3e hw (he c) (he x) (he y)).next.of_run (by simp only [execOp, zR, zT]; cases (asBool (e c)).run PP w <;> rfl)
 case alloc t => exact (aq9 hw t).next
 case box t x =>
  show NOK ρ a w _ (bc (ju (evX x τ)) (newRow t (cellsOf (evX x τ)) a) (.no 173))
  rw [aa]
  split <;> try trivial
  rename_i hn
  exact (a4l hw (he x) (dz hn)).next
 case build t ps => exact (arb hw (wp he ps)).next
 case buildSlice t n ps => exact (ad0 hw (wp he ps)).next
 case insert t m k v => exact (afp hw (he m) (he k) (he v)).next
 case load t x => exact (a3a hw (he x) t).next
 case store t x v => exact (azy hw (he x) (he v) t).next
 case nilCheck x => exact ajj hw rfl (he x)
 case binOp op t x y _ => exact (a4i hw (he x) (he y)).next
 case unOp op t x => exact (a9j hw (he x)).next
 case convert s d x => exact (a0s hw (he x)).next
 case makeInterface t x => exact (agw hw (he x)).next
 case makeFunc fn f c => exact (ajc hw (m8 he f) (m8 he c)).next
 case makeMap t r =>
  refine (al5 hw (r := r.map fun y => evX y τ) (r' := r.map e) ?_).next
  cases r with
  | none => rfl
  | some y => exact ⟨_, rfl, he y⟩
 case makeSlice t l c => exact (agx hw (he l) (he c)).next
 case slice t x lo hi mx => exact (azx hw (he x) (tf he lo) (tf he hi) (tf he mx)).next
 case fieldAddr s x f => exact (agc hw (he x)).next
 case field s x f => exact (ase hw (he x)).next
 case indexAddr t x i => exact (agn hw (he x) (he i)).next
 case index t x i => exact (asr hw (he x) (he i)).next
 case lookup t m k ok => exact (ap0 hw (he m) (he k)).next
 case mapUpdate t m k v => exact (afp hw (he m) (he k) (he v)).next
 case range t x => exact (azi hw (he x)).next
 case next it s => exact (a3b hw (he it)).next
 case typeAssert x t t' ok => exact (aoz hw (he x)).next
 case extract t i => exact (ala hw (he t)).next
 case call c => exact a0n hw he c ty
 case defer c =>
  show NOK ρ a w _ (lj c τ a)
  unfold lj
  split <;> try trivial
  rename_i f hc
  split <;> try trivial
  rename_i g first cap hf
  have hff := he f
  rw [hf] at hff
  refine (arw hw (by intro n h; cases h) hff (m8 he c.args)).of_run ?_
  simp only [execOp, resolve, hc]
 case panic x => exact aza hw (he x)
end
end Go.Ev
