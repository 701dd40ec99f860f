import Derived.Test.YtkfdioikigponaaGreatDoorEvFr
import Derived.Laws.RangeString
import Derived.Lib.ValidAsc
import Derived.Shelf.Unicode.DecodeSlow
import Derived.Shelf.Unicode.ValidAny
import Derived.KernelRfl
import Derived.Test.YtkfdioikigponaaGreatDoorEvGh
set_option linter.all false
namespace Go.Ev
variable [Gv]
end Go.Ev
set_option linter.all false
namespace Go.Ev
variable [Gv]
theorem kept_below {w w' : World} (h : RowKit.Below w.heap.size w w') : KeptW w w' := ⟨h.size, h.block, h.os, h.tape, h.output⟩
theorem aeu {g : Nat} {k : IntKind} {zs : List Int} {w : World} (h : LaidIn laidL w) (hm : LE.mk g (zs.map fun z => .int k z) ∈ laidL) (i : Nat) (z : Int) (hz : zs[i]? = some z) : w.cell? ⟨g, i, none⟩ = some (.int k z) := by
 obtain ⟨arr, t, fz, e, hr⟩ := h g _ hm
 have hr := hr ρ00
 have hs : ∀ (zs : List Int) (vs : List Value), VRels ρ00 (zs.map fun z => .int k z) vs → vs = zs.map fun z => .int k z := by
  intro zs
  induction zs with
  | nil => intro vs hv; simpa [VRels] using hv
  | cons z zs ih =>
    intro vs hv
    simp only [List.map_cons, VRels, VRel] at hv
    obtain ⟨v, vs', rfl, rfl, hv⟩ := hv
    rw [ih _ hv, List.map_cons]
 have ha := hs _ _ hr
 simp only [World.cell?, e, Option.isSome_none, zF, if_false]
 rw [← Array.getElem?_toList, ha, List.getElem?_map, hz]
 rfl
def firstZ : List Int := (List.range 256).map fun c => (Lib.firstT c : Int)
def accZ : List Int := [128, 191, 160, 191, 128, 159, 144, 191, 128, 143, 0, 0, 0, 0, 0, 0, 0, 0, 0, 0, 0, 0, 0, 0, 0, 0, 0, 0, 0, 0, 0, 0]
theorem tabs_laid {g3 g4 : Nat} {w : World} (h : LaidIn laidL w) (h3 : LE.mk g3 (firstZ.map fun z => .int .u8 z) ∈ laidL) (h4 : LE.mk g4 (accZ.map fun z => .int .u8 z) ∈ laidL) : Lib.Utf8Tabs g3 g4 w := by
 refine ⟨fun c hc => aeu h h3 c _ ?_, fun i hi => ⟨aeu h h4 _ _ ?_, aeu h h4 _ _ ?_⟩⟩
 ·simp [firstZ, hc]
 all_goals
  revert i
  decide
theorem bda {α : Type} {m : Nat} : ∀ (zss : List (List α)) (cs : List α), cs.length = zss.length * m → (∀ (i : Nat) (h : i < zss.length), (cs.drop (i * m)).take m = zss[i]) → cs = zss.flatten
 | [], cs, hl, _ => by
   have hl : cs.length = 0 := by simpa using hl
   simpa using List.length_eq_zero_iff.1 hl
 | z :: zss, cs, hl, h => by
   have h0 := h 0 (by simp)
   simp only [Nat.zero_mul, List.drop_zero, List.getElem_cons_zero] at h0
   have ih := bda (m := m) zss (cs.drop m) (by rw [List.length_drop, hl, zO, Nat.succ_mul, Nat.add_sub_cancel]) (fun i hi => by
    have := h (i + 1) (by simpa using hi)
    rw [Nat.succ_mul] at this
    rw [List.drop_drop, Nat.add_comm m]
    simpa using this)
   rw [List.flatten_cons, ← ih, ← h0, List.take_append_drop]
theorem ints_structs {P : Program} {w : World} {n : Nat} {e t : TypeId} {fs : Array Field} {k : IntKind} {cs : List Value} {fuel : Nat} {zss : List (List Int)} {p : List MemPlace} (ht : P.underlying t = some (.array n e)) (he : P.underlying e = some (.struct fs))
  (hfs : ∀ (i : Nat) (f : Field), fs[i]? = some f → f.offset = i ∧ P.cellsOf f.type = 1 ∧ P.underlying f.type = some (.int k)) (hce : P.cellsOf e = fs.size) (hct : P.cellsOf t = n * fs.size)
  (h : DataW.trod (fun _ => ()) P w 0 (fun _ => true) false fuel t cs = some (.agg (zss.map fun zs => .agg (zs.map fun z => .lit (.int k z))), p)) : cs = zss.flatten.map fun z => .int k z := by
 obtain ⟨xs, m, _, hx, hl, hn, hf⟩ := DataW.trod_array ht h
 injection hx with hx _
 injection hx with hx
 have hlen : zss.length = n := by rw [← hn, ← List.length_map (f := fun x : DataW Unit × List MemPlace => x.1), ← hx, List.length_map]
 have hc : cs = (zss.map fun zs => zs.map fun z => (Value.int k z)).flatten := by
  refine bda (m := fs.size) _ _ (by rw [hl, hct, List.length_map, hlen]) fun i hi => ?_
  have hi : i < zss.length := by simpa using hi
  have := hf i (by omega)
  rw [hce] at this
  have hxi : i < xs.length := by rw [hn]; omega
  rw [zK hxi] at this
  have e1 : (xs[i]).1 = .agg ((zss[i]).map fun z => (DataW.lit (.int k z) : DataW Unit)) := by
   have q1 : (xs.map (·.1))[i]? = some (xs[i]).1 := by rw [List.getElem?_map, zK hxi]; rfl
   rw [← hx, List.getElem?_map, zK hi] at q1
   injection q1 with q1
   exact q1.symm
  have e2 : xs[i] = (.agg ((zss[i]).map fun z => (DataW.lit (.int k z) : DataW Unit)), (xs[i]).2) := by rw [← e1]
  rw [e2] at this
  rw [auo he hfs hce this, List.getElem_map]
 rw [hc, List.map_flatten]
end Go.Ev
set_option linter.all false
namespace Go.Ev
def VsAny [Gv] (g : FuncId) : Prop := ∀ (s : ByteArray) (w : World), LaidIn laidL w → s.size < 4294967281 →
 Calls PP g #[.string s] w fun e w' => e = .returned (.bool (Lib.validD s.data.toList)) ∧ KeptW w w'
end Go.Ev
namespace Go.Proofs.YtkfdioikigponaaGreatDoor
open Go.Proofs
variable [Go.Ev.Gv]
def ae4 : Go.Shelf.Ren := ⟨fun | 196 => 74 | 259 => 89 | n => n, fun | 9 => 9 | 4 => 4 | 3 => 3 | 5 => 5 | 12 => 12 | 119 => 135 | 0 => 0 | 46 => 139 | 139 => 138 | 138 => 137 | 53 => 131 | n => n, fun | 3 => 0 | 4 => 1 | n => n⟩
theorem bgc : Go.Proofs.Lays.n196 Tryz.prog ae4 := {
 mixed := by kernel_rfl
 f196 := Tryz.func74.trans (congrArg some (by kernel_rfl))
 f259 := Tryz.func89.trans (congrArg some (by kernel_rfl))
 t0 := Tryz.underlying0
 a0 := Tryz.isAgg0
 z0 := Tryz.sizeOf0
 v0 := Tryz.zeroValue0
 t3 := Tryz.underlying3
 a3 := Tryz.isAgg3
 z3 := Tryz.sizeOf3
 v3 := Tryz.zeroValue3
 t4 := Tryz.underlying4
 a4 := Tryz.isAgg4
 z4 := Tryz.sizeOf4
 v4 := Tryz.zeroValue4
 t5 := Tryz.underlying5
 a5 := Tryz.isAgg5
 z5 := Tryz.sizeOf5
 v5 := Tryz.zeroValue5
 t9 := Tryz.underlying9
 a9 := Tryz.isAgg9
 z9 := Tryz.sizeOf9
 v9 := Tryz.zeroValue9
 t12 := Tryz.underlying12
 a12 := Tryz.isAgg12
 z12 := Tryz.sizeOf12
 v12 := Tryz.zeroValue12
 t46 := Tryz.underlying139
 a46 := Tryz.isAgg139
 z46 := Tryz.sizeOf139
 v46 := Tryz.zeroValue139
 t53 := Tryz.underlying131
 a53 := Tryz.isAgg131
 z53 := Tryz.sizeOf131
 v53 := Tryz.zeroValue131
 t119 := Tryz.underlying135
 a119 := Tryz.isAgg135
 z119 := Tryz.sizeOf135
 t138 := Tryz.underlying137
 a138 := Tryz.isAgg137
 z138 := Tryz.sizeOf137
 v138 := Tryz.zeroValue137
 t139 := Tryz.underlying138
 a139 := Tryz.isAgg138
 z139 := Tryz.sizeOf138
 v139 := Tryz.zeroValue138
 g3 := by kernel_rfl
 g4 := by kernel_rfl }
theorem va_seat : Go.Ev.VsAny 74 := fun s w hl h1 => Calls.mono (Go.Proofs.Any.utf8_ValidString (P := Go.Ev.PP) (ρ := ae4) (by rw [Go.Ev.pp_eq]; exact bgc) s w (by omega)
 (Go.Ev.tabs_laid hl (List.mem_of_getElem? (i := 1) (by kernel_rfl)) (List.mem_of_getElem? (i := 0) (by kernel_rfl)))) fun e w2 hp => by
 obtain ⟨he, hw⟩ := hp
 exact ⟨he, Go.Ev.kept_below hw⟩
end Go.Proofs.YtkfdioikigponaaGreatDoor
set_option maxRecDepth 100000
set_option linter.all false
namespace Go.Ev
section
variable [Gv]
structure RE where
 k : Nat
 c : Nat
 s : Nat
 o : GO
noncomputable def ρR : List RE → Env
 | [] => ρ00
 | e :: l => { blk := fun k => if k = K.of e.k then some e.c else (ρR l).blk k, sz := fun k => if k = K.of e.k then e.s else (ρR l).sz k }
def hoR (l : List RE) : List HO := l.map fun e => .mk e.k (.gob e.o)
structure ROk (nxi : Nat) (w : World) (l : List RE) : Prop where
 key : ∀ e ∈ l, 256 ≤ e.k ∧ e.k < nxi
 obj : ∀ e ∈ l, (AObj.gob e.o).isRo = true ∧ ∃ arr t fz, w.heap[e.c]? = some (.cells arr t fz) ∧ arr.size = e.s ∧ GORel e.o (some (.cells arr t fz))
theorem aem (k : K) : ∀ l : List RE, (∃ e ∈ l, k = K.of e.k ∧ ae k (ag (hoR l)) = .gob e.o ∧ (ρR l) k = some e.c ∧ (ρR l).sz k = e.s) ∨
  ((∀ e ∈ l, k ≠ K.of e.k) ∧ ae k (ag (hoR l)) = ae k (ly laidL) ∧ (ρR l) k = ρ00 k ∧ (ρR l).sz k = ρ00.sz k)
 | [] => .inr ⟨fun _ h => (zH h).elim, rfl, rfl, rfl⟩
 | e :: l => by
   by_cases h : k = K.of e.k
   ·refine .inl ⟨e, List.mem_cons_self .., h, ?_, ?_, ?_⟩
    ·subst h; exact ah _ _ _
    ·show (if k = K.of e.k then some e.c else (ρR l).blk k) = _; rw [if_pos h]
    ·show (if k = K.of e.k then e.s else (ρR l).sz k) = _; rw [if_pos h]
   ·have h1 : ae k (ag (hoR (e :: l))) = ae k (ag (hoR l)) := ao h _ _
    have h2 : (ρR (e :: l)) k = (ρR l) k := by show (if k = K.of e.k then some e.c else (ρR l).blk k) = _; rw [if_neg h]
    have h3 : (ρR (e :: l)).sz k = (ρR l).sz k := by show (if k = K.of e.k then e.s else (ρR l).sz k) = _; rw [if_neg h]
    rw [h1, h2, h3]
    rcases aem k l with ⟨e', q1, q2⟩ | ⟨q1, q2⟩
    ·exact .inl ⟨e', zA _ q1, q2⟩
    ·refine .inr ⟨fun e' he => ?_, q2⟩
     rcases List.mem_cons.1 he with rfl | he
     ·exact h
     ·exact q1 e' he
variable {nxi : Nat} {w : World} {l : List RE}
theorem ROk.lt (h : ROk nxi w l) (hx : nxi ≤ 65535) {e : RE} (he : e ∈ l) : 256 ≤ (K.of e.k).num ∧ (K.of e.k).num < nxi := by
 obtain ⟨a, b⟩ := h.key e he
 rw [df (by omega)]; exact ⟨a, b⟩
theorem bwb (h : ROk nxi w l) (hx : nxi ≤ 65535) : ρ00.le (ρR l) := by
 intro k x hk
 rcases aem k l with ⟨e, he, q1, q2⟩ | ⟨q1, q2, q3, q4⟩
 ·exfalso
  have := (h.lt hx he).1
  have hk : (if k.num ≤ 255 then some k.num else none) = some x := hk
  rw [q1, if_neg (by omega)] at hk
  cases hk
 ·rw [q3, q4]; exact ⟨hk, rfl⟩
theorem bvx (h : ROk nxi w l) (hx : nxi ≤ 65535) : GRel (ρR l) := fun g hg => (bwb h hx _ _ (aec g hg)).1
theorem bn2 (h : ROk nxi w l) (hi : 256 ≤ nxi) (hx : nxi ≤ 65535) : Clean (ρR l) (bq (hoR l) nxi) := by
 intro k hk
 have hk : (K.of nxi).num ≤ k.num := hk
 rw [df (by omega)] at hk
 rcases aem k l with ⟨e, he, q1, q2⟩ | ⟨q1, q2, q3, q4⟩
 ·have := (h.lt hx he).2
  rw [← q1] at this; omega
 ·rw [q3]
  refine a2l k ?_
  show (K.of 256).num ≤ k.num
  rw [df (by omega)]; omega
theorem ayp (h : ROk nxi w l) (k : K) (hk : ae k (ag (hoR l)) ≠ .none) : (ae k (ag (hoR l))).isRo = true := by
 rcases aem k l with ⟨e, he, q1, q2, _⟩ | ⟨q1, q2, q3, q4⟩
 ·rw [q2]; exact (h.obj e he).1
 ·rw [q2] at hk ⊢
  obtain ⟨g, cs, h1, h2, h3, h4⟩ := n8 k laidL hk
  rw [h3]; rfl
theorem bsi (h : ROk nxi w l) (hx : nxi ≤ 65535) (hl : LaidIn laidL w) : WRel (ρR l) (bq (hoR l) nxi) w := by
 have h0 := bc9 hl
 refine ⟨fun k m hk hm _ => .inr ⟨ayp h k hk, ayp h m hm⟩, ?_, ?_, ?_⟩
 ·intro k hk
  have hk : ae k (ag (hoR l)) ≠ .none := hk
  show ∃ c, _ ∧ ORel _ (ae k (ag (hoR l))) _
  rcases aem k l with ⟨e, he, q1, q2, q3, q4⟩ | ⟨q1, q2, q3, q4⟩
  ·obtain ⟨_, arr, t, fz, p1, p2, p3⟩ := h.obj e he
   refine ⟨e.c, q3, ?_⟩
   rw [q2, p1]; exact p3
  ·rw [q2] at hk ⊢
   obtain ⟨c, r1, r2⟩ := h0.dom k hk
   exact ⟨c, by rw [q3]; exact r1, ORel.mono (bwb h hx) r2⟩
 ·intro k c arr t fz hk hc ha
  have hk : ae k (ag (hoR l)) ≠ .none := hk
  rcases aem k l with ⟨e, he, q1, q2, q3, q4⟩ | ⟨q1, q2, q3, q4⟩
  ·obtain ⟨_, arr', t', fz', p1, p2, p3⟩ := h.obj e he
   rw [q3] at hc; injection hc with hc; subst hc
   rw [p1] at ha; injection ha with ha; injection ha with ha; subst ha
   rw [q4]; exact p2
  ·rw [q2] at hk
   rw [q3] at hc
   rw [q4]; exact h0.len k c arr t fz hk hc ha
 ·intro k kd g hk
  have hk : bo (ae k (ag (hoR l))) = some (kd, g) := hk
  have hr := ayp h k (br (by rw [hk]; simp))
  rw [ama (by rw [hk]; simp)] at hr; cases hr
theorem b3j (h : ROk nxi w l) (x : Nat) : ¬ Own (ρR l) (bq (hoR l) nxi) x := by
 rintro ⟨k, hk, hr, _⟩
 have := ayp h k hk
 have hr : (ae k (ag (hoR l))).isRo = false := hr
 rw [this] at hr; cases hr
theorem aei (h : ROk nxi w l) (hi : 256 ≤ nxi) (hx : nxi ≤ 65535) (hl : LaidIn laidL w) {f nxo : Nat} {us : List AV} {Lo : List HO} {b : Bool} (hF : cz f us nxi (hoR l) (.ret (.bool b)) nxo Lo)
  {args : Array Value} (hv : VRels (ρR l) us args.toList) : Calls PP f args w fun e w' => e = .returned (.bool b) ∧ KeptW w w' := by
 refine Calls.mono (hF (ρR l) args w (bvx h hx) (bsi h hx hl) (bn2 h hi hx) hv) fun e w' hp => ?_
 obtain ⟨v', ρ', rfl, hv2, hA⟩ := hp
 simp only [VRel] at hv2
 subst hv2
 exact ⟨rfl, abv hA (b3j h)⟩
theorem an4 {ρ : Env} {k c oo nn cap : Nat} {o n : SE} (hk : ρ (K.of k) = some c) (ho : o.eval Gv.σ = (oo : Int)) (hn : n.eval Gv.σ = (nn : Int)) (hc : nn ≤ cap) :
  VRel ρ (.gv (.sr (K.of k) o n [])) (.slice (some ⟨c, oo, none⟩) nn cap) := by
 simp only [VRel, GVRel]
 refine ⟨SAll.nil, c, cap, hk, by omega, by omega, ?_⟩
 rw [ho, hn, Int.toNat_natCast, Int.toNat_natCast]
theorem asr {o n : SE} {g : GE} {arr : Array Value} {t : TypeId} {fz : Nat × Nat} {oo : Nat} (ho : o.eval Gv.σ = (oo : Int)) (hn : n.eval Gv.σ = ((g.eval Gv.σ).length : Int))
  (h : ∀ i (h : i < (g.eval Gv.σ).length), arr[oo + i]? = some (.int .i64 (g.eval Gv.σ)[i])) : GORel (.rh o n g) (some (.cells arr t fz)) := by
 refine ⟨arr, t, fz, rfl, by omega, by omega, fun i hi => ?_⟩
 rw [ho, Int.toNat_natCast]; exact h i hi
theorem arp {o n : SE} {g : GE} {arr : Array Value} {t : TypeId} {fz : Nat × Nat} {oo : Nat} (ho : o.eval Gv.σ = (oo : Int)) (hn : n.eval Gv.σ = ((g.eval Gv.σ).length : Int))
  (h : ∀ i (h : i < (g.eval Gv.σ).length), arr[oo + i]? = some (.bool (decide ((g.eval Gv.σ)[i] ≠ 0)))) : GORel (.rb o n g) (some (.cells arr t fz)) := by
 refine ⟨arr, t, fz, rfl, by omega, by omega, fun i hi => ?_⟩
 rw [ho, Int.toNat_natCast]; exact h i hi
end
theorem aus {w : World} {a : Addr} {v : Nat → Value} {n : Nat} (h0 : 0 < n) (h : ∀ i, i < n → w.cell? (a.add i) = some (v i)) : ∃ c o arr t fz, a = ⟨c, o, none⟩ ∧ w.heap[c]? = some (.cells arr t fz) ∧ ∀ i, i < n → arr[o + i]? = some (v i) := by
 obtain ⟨b, o, sp⟩ := a
 have c0 := h 0 h0
 unfold World.cell? at c0
 rw [show (Addr.add ⟨b, o, sp⟩ 0) = ⟨b, o, sp⟩ from rfl] at c0
 simp only at c0
 split at c0
 ·rename_i arr t fz hx
  split at c0
  ·cases c0
  ·rename_i hsp
   have hsp : sp = none := by cases sp with | none => rfl | some x => exact absurd rfl hsp
   subst hsp
   refine ⟨b, o, arr, t, fz, rfl, hx, fun i hi => ?_⟩
   have ci := h i hi
   unfold World.cell? at ci
   have e : (Addr.add ⟨b, o, none⟩ i) = ⟨b, o + i, none⟩ := by
    unfold Addr.add
    split
    ·rename_i h0; subst h0; rfl
    ·rfl
   rw [e] at ci
   simp only [hx] at ci
   simpa using ci
 ·cases c0
theorem a9e {w : World} {v : Value} (h : v = .slice none 0 0 ∨ ∃ (a : Addr) (len cap : Nat) (zs : List Int), v = .slice (some a) len cap ∧ len ≤ cap ∧ len ≤ zs.length ∧ ∀ i, i < zs.length → w.cell? (a.add i) = some (.int .i64 (zs.getD i 0))) :
  v = .slice none 0 0 ∨ (∃ a cap, v = .slice (some a) 0 cap) ∨ ∃ (c o cap : Nat) (l : List Int) (arr : Array Value) (t : TypeId) (fz : Nat × Nat), 1 ≤ l.length ∧ l.length ≤ cap ∧ v = .slice (some ⟨c, o, none⟩) l.length cap ∧ w.heap[c]? = some (.cells arr t fz) ∧ ∀ i (h : i < l.length), arr[o + i]? = some (.int .i64 l[i]) := by
 rcases h with h | ⟨a, len, cap, zs, rfl, h1, h2, h3⟩
 ·exact .inl h
 right
 cases len with
 | zero => exact .inl ⟨a, cap, rfl⟩
 | succ n =>
   right
   obtain ⟨c, o, arr, t, fz, rfl, q1, q2⟩ := aus (v := fun i => .int .i64 (zs.getD i 0)) (n := n + 1) (by omega) fun i hi => h3 i (by omega)
   have hlen : (zs.take (n + 1)).length = n + 1 := by rw [List.length_take]; omega
   refine ⟨c, o, cap, zs.take (n + 1), arr, t, fz, by omega, by omega, by rw [hlen], q1, fun i hi => ?_⟩
   rw [q2 i (by omega), List.getElem_take]
   simp [List.getD, show i < zs.length by omega]
theorem a66 {w : World} {v : Value} (h : v = .slice none 0 0 ∨ ∃ (a : Addr) (len cap : Nat) (B : Nat → Bool), v = .slice (some a) len cap ∧ len ≤ cap ∧ ∀ i, i < cap → w.cell? (a.add i) = some (.bool (B i))) :
  v = .slice none 0 0 ∨ (∃ a cap, v = .slice (some a) 0 cap) ∨ ∃ (c o cap : Nat) (l : List Int) (arr : Array Value) (t : TypeId) (fz : Nat × Nat), 1 ≤ l.length ∧ l.length ≤ cap ∧ v = .slice (some ⟨c, o, none⟩) l.length cap ∧ w.heap[c]? = some (.cells arr t fz) ∧ ∀ i (h : i < l.length), arr[o + i]? = some (.bool (decide ((l[i] : Int) ≠ 0))) := by
 rcases h with h | ⟨a, len, cap, B, rfl, h1, h3⟩
 ·exact .inl h
 right
 cases len with
 | zero => exact .inl ⟨a, cap, rfl⟩
 | succ n =>
   right
   obtain ⟨c, o, arr, t, fz, rfl, q1, q2⟩ := aus (v := fun i => .bool (B i)) (n := n + 1) (by omega) fun i hi => h3 i (by omega)
   refine ⟨c, o, cap, (List.range (n + 1)).map fun i => if B i then 1 else 0, arr, t, fz, by simp, by simpa using h1, by simp, q1, fun i hi => ?_⟩
   have hi : i < n + 1 := by simpa using hi
   rw [q2 i hi]
   simp only [List.getElem_map, List.getElem_range]
   cases B i <;> simp
end Go.Ev
