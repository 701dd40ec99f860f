import Derived.Test.YtdeddgiacdjjdaaGreatDoorEvFr
import Derived.Laws.RangeString
import Derived.Lib.ValidAsc
import Derived.Shelf.Unicode.DecodeSlow
import Derived.Shelf.Unicode.ValidAny
import Derived.KernelRfl
import Derived.Shelf.Strings.RuneCount
import Derived.Shelf.LaysM
import Derived.Shelf.Strconv.Itoa4
import Derived.Shelf.Strings.Repeat
set_option linter.all false
namespace Go.Ev
variable [Gv]
def RcOk (g : FuncId) : Prop := ∀ (s : ByteArray) (w : World), s.size < 4294967281 → (∀ (j : Nat) b, s.data.toList[j]? = some b → b.toNat < 128) →
 Calls PP g #[.string s] w fun e w' => e = .returned (.int .i64 s.size) ∧ KeptW w w'
theorem kept_iter (w : World) (s : ByteArray) (pos : Nat) : KeptW w (w.iter s pos) :=
 ⟨by show w.heap.size ≤ (w.heap.push _).size; simp, fun c hc => RowKit.Below.heap_alloc w _ c hc, rfl, rfl, rfl⟩
end Go.Ev
set_option linter.all false
namespace Go.Ev
variable [Gv]
theorem kept_below {w w' : World} (h : RowKit.Below w.heap.size w w') : KeptW w w' := ⟨h.size, h.block, h.os, h.tape, h.output⟩
theorem yn {g : Nat} {k : IntKind} {zs : List Int} {w : World} (h : LaidIn laidL w) (hm : LE.mk g (zs.map fun z => .int k z) ∈ laidL) (i : Nat) (z : Int) (hz : zs[i]? = some z) : w.cell? ⟨g, i, none⟩ = some (.int k z) := by
 obtain ⟨arr, t, fz, e, hr⟩ := h g _ hm
 have hr := hr ρ00
 have hs : ∀ (zs : List Int) (vs : List Value), VRels ρ00 (zs.map fun z => .int k z) vs → vs = zs.map fun z => .int k z := by
  intro zs
  induction zs with
  | nil => intro vs hv; simpa [VRels] using hv
  | cons z zs ih =>
    intro vs hv
    simp only [List.map_cons, VRels, VRel] at hv
    obtain ⟨v, vs', rfl, rfl, hv⟩ := hv
    rw [ih _ hv, List.map_cons]
 have ha := hs _ _ hr
 simp only [World.cell?, e, Option.isSome_none, zF, if_false]
 rw [← Array.getElem?_toList, ha, List.getElem?_map, hz]
 rfl
def firstZ : List Int := (List.range 256).map fun c => (Lib.firstT c : Int)
def accZ : List Int := [128, 191, 160, 191, 128, 159, 144, 191, 128, 143, 0, 0, 0, 0, 0, 0, 0, 0, 0, 0, 0, 0, 0, 0, 0, 0, 0, 0, 0, 0, 0, 0]
theorem tabs_laid {g3 g4 : Nat} {w : World} (h : LaidIn laidL w) (h3 : LE.mk g3 (firstZ.map fun z => .int .u8 z) ∈ laidL) (h4 : LE.mk g4 (accZ.map fun z => .int .u8 z) ∈ laidL) : Lib.Utf8Tabs g3 g4 w := by
 refine ⟨fun c hc => yn h h3 c _ ?_, fun i hi => ⟨yn h h4 _ _ ?_, yn h h4 _ _ ?_⟩⟩
 ·simp [firstZ, hc]
 all_goals
  revert i
  decide
theorem ari {α : Type} {m : Nat} : ∀ (zss : List (List α)) (cs : List α), cs.length = zss.length * m → (∀ (i : Nat) (h : i < zss.length), (cs.drop (i * m)).take m = zss[i]) → cs = zss.flatten
 | [], cs, hl, _ => by
   have hl : cs.length = 0 := by simpa using hl
   simpa using List.length_eq_zero_iff.1 hl
 | z :: zss, cs, hl, h => by
   have h0 := h 0 (by simp)
   simp only [Nat.zero_mul, List.drop_zero, List.getElem_cons_zero] at h0
   have ih := ari (m := m) zss (cs.drop m) (by rw [List.length_drop, hl, zO, Nat.succ_mul, Nat.add_sub_cancel]) (fun i hi => by
    have := h (i + 1) (by simpa using hi)
    rw [Nat.succ_mul] at this
    rw [List.drop_drop, Nat.add_comm m]
    simpa using this)
   rw [List.flatten_cons, ← ih, ← h0, List.take_append_drop]
theorem ints_structs {P : Program} {w : World} {n : Nat} {e t : TypeId} {fs : Array Field} {k : IntKind} {cs : List Value} {fuel : Nat} {zss : List (List Int)} {p : List MemPlace} (ht : P.underlying t = some (.array n e)) (he : P.underlying e = some (.struct fs))
  (hfs : ∀ (i : Nat) (f : Field), fs[i]? = some f → f.offset = i ∧ P.cellsOf f.type = 1 ∧ P.underlying f.type = some (.int k)) (hce : P.cellsOf e = fs.size) (hct : P.cellsOf t = n * fs.size)
  (h : DataW.trod (fun _ => ()) P w 0 (fun _ => true) false fuel t cs = some (.agg (zss.map fun zs => .agg (zs.map fun z => .lit (.int k z))), p)) : cs = zss.flatten.map fun z => .int k z := by
 obtain ⟨xs, m, _, hx, hl, hn, hf⟩ := DataW.trod_array ht h
 injection hx with hx _
 injection hx with hx
 have hlen : zss.length = n := by rw [← hn, ← List.length_map (f := fun x : DataW Unit × List MemPlace => x.1), ← hx, List.length_map]
 have hc : cs = (zss.map fun zs => zs.map fun z => (Value.int k z)).flatten := by
  refine ari (m := fs.size) _ _ (by rw [hl, hct, List.length_map, hlen]) fun i hi => ?_
  have hi : i < zss.length := by simpa using hi
  have := hf i (by omega)
  rw [hce] at this
  have hxi : i < xs.length := by rw [hn]; omega
  rw [zK hxi] at this
  have e1 : (xs[i]).1 = .agg ((zss[i]).map fun z => (DataW.lit (.int k z) : DataW Unit)) := by
   have q1 : (xs.map (·.1))[i]? = some (xs[i]).1 := by rw [List.getElem?_map, zK hxi]; rfl
   rw [← hx, List.getElem?_map, zK hi] at q1
   injection q1 with q1
   exact q1.symm
  have e2 : xs[i] = (.agg ((zss[i]).map fun z => (DataW.lit (.int k z) : DataW Unit)), (xs[i]).2) := by rw [← e1]
  rw [e2] at this
  rw [aix he hfs hce this, List.getElem_map]
 rw [hc, List.map_flatten]
end Go.Ev
set_option linter.all false
namespace Go.Ev
def VsAny [Gv] (g : FuncId) : Prop := ∀ (s : ByteArray) (w : World), LaidIn laidL w → s.size < 4294967281 →
 Calls PP g #[.string s] w fun e w' => e = .returned (.bool (Lib.validD s.data.toList)) ∧ KeptW w w'
end Go.Ev
namespace Go.Proofs.YtdeddgiacdjjdaaGreatDoor
open Go.Proofs
variable [Go.Ev.Gv]
def zp : Go.Shelf.Ren := ⟨fun | 196 => 41 | 259 => 73 | n => n, fun | 9 => 9 | 4 => 4 | 3 => 3 | 5 => 5 | 12 => 12 | 119 => 146 | 0 => 0 | 46 => 150 | 139 => 149 | 138 => 148 | 53 => 204 | n => n, fun | 3 => 0 | 4 => 1 | n => n⟩
theorem a25 : Go.Proofs.Lays.n196 Tryz.prog zp := {
 mixed := by kernel_rfl
 f196 := Tryz.func41.trans (congrArg some (by kernel_rfl))
 f259 := Tryz.func73.trans (congrArg some (by kernel_rfl))
 t0 := Tryz.underlying0
 a0 := Tryz.isAgg0
 z0 := Tryz.sizeOf0
 v0 := Tryz.zeroValue0
 t3 := Tryz.underlying3
 a3 := Tryz.isAgg3
 z3 := Tryz.sizeOf3
 v3 := Tryz.zeroValue3
 t4 := Tryz.underlying4
 a4 := Tryz.isAgg4
 z4 := Tryz.sizeOf4
 v4 := Tryz.zeroValue4
 t5 := Tryz.underlying5
 a5 := Tryz.isAgg5
 z5 := Tryz.sizeOf5
 v5 := Tryz.zeroValue5
 t9 := Tryz.underlying9
 a9 := Tryz.isAgg9
 z9 := Tryz.sizeOf9
 v9 := Tryz.zeroValue9
 t12 := Tryz.underlying12
 a12 := Tryz.isAgg12
 z12 := Tryz.sizeOf12
 v12 := Tryz.zeroValue12
 t46 := Tryz.underlying150
 a46 := Tryz.isAgg150
 z46 := Tryz.sizeOf150
 v46 := Tryz.zeroValue150
 t53 := Tryz.underlying204
 a53 := Tryz.isAgg204
 z53 := Tryz.sizeOf204
 v53 := Tryz.zeroValue204
 t119 := Tryz.underlying146
 a119 := Tryz.isAgg146
 z119 := Tryz.sizeOf146
 t138 := Tryz.underlying148
 a138 := Tryz.isAgg148
 z138 := Tryz.sizeOf148
 v138 := Tryz.zeroValue148
 t139 := Tryz.underlying149
 a139 := Tryz.isAgg149
 z139 := Tryz.sizeOf149
 v139 := Tryz.zeroValue149
 g3 := by kernel_rfl
 g4 := by kernel_rfl }
theorem va_seat : Go.Ev.VsAny 41 := fun s w hl h1 => Calls.mono (Go.Proofs.Any.utf8_ValidString (P := Go.Ev.PP) (ρ := zp) (by rw [Go.Ev.pp_eq]; exact a25) s w (by omega)
 (Go.Ev.tabs_laid hl (List.mem_of_getElem? (i := 1) (by kernel_rfl)) (List.mem_of_getElem? (i := 0) (by kernel_rfl)))) fun e w2 hp => by
 obtain ⟨he, hw⟩ := hp
 exact ⟨he, Go.Ev.kept_below hw⟩
end Go.Proofs.YtdeddgiacdjjdaaGreatDoor
namespace Go.Proofs.YtdeddgiacdjjdaaGreatDoor
open Go.Proofs
variable [Go.Ev.Gv]
def zo : Go.Shelf.Ren := ⟨fun | 195 => 42 | n => n, fun | 9 => 9 | 3 => 3 | 0 => 0 | 4 => 4 | n => n, fun | n => n⟩
theorem a24 : Go.Proofs.Lays.n195 Tryz.prog zo := {
 mixed := by kernel_rfl
 f195 := Tryz.func42.trans (congrArg some (by kernel_rfl))
 t0 := Tryz.underlying0
 a0 := Tryz.isAgg0
 z0 := Tryz.sizeOf0
 v0 := Tryz.zeroValue0
 t3 := Tryz.underlying3
 a3 := Tryz.isAgg3
 z3 := Tryz.sizeOf3
 v3 := Tryz.zeroValue3
 t4 := Tryz.underlying4
 a4 := Tryz.isAgg4
 z4 := Tryz.sizeOf4
 v4 := Tryz.zeroValue4
 t9 := Tryz.underlying9
 a9 := Tryz.isAgg9
 z9 := Tryz.sizeOf9
 v9 := Tryz.zeroValue9 }
theorem rc_seat : Go.Ev.RcOk 42 := fun s w h1 h2 => Calls.mono (Go.Proofs.Any.utf8_RuneCountInString_ascii (P := Go.Ev.PP) (ρ := zo) (by rw [Go.Ev.pp_eq]; exact a24) s w h1 h2) fun e w2 hp => by
 obtain ⟨he, hw⟩ := hp
 subst hw
 exact ⟨he, Go.Ev.kept_iter _ _ _⟩
end Go.Proofs.YtdeddgiacdjjdaaGreatDoor
set_option linter.all false
namespace Go.Ev
def FiAny [Gv] (g : FuncId) : Prop := ∀ (n : Int) (w : World), LaidIn laidL w → -9223372036854775808 ≤ n → n ≤ 9223372036854775807 →
 Calls PP g #[.int .i64 n, .int .i64 10] w fun e w' => e = .returned (.string ⟨(Lib.itoa n).toArray⟩) ∧ KeptW w w'
theorem kept_grow {w : World} {k : Nat} {os : Array Obj} : KeptW w (Go.Sort.grow (w.drewN k) os) := by
 refine ⟨?_, fun c hc => ?_, rfl, rfl, rfl⟩
 ·show w.heap.size ≤ (w.heap ++ os).size
  rw [Array.size_append]; exact Nat.le_add_right _ _
 ·show (w.heap ++ os)[c]? = _
  exact Array.getElem?_append_left hc
theorem aet [Gv] {ρ : Env} {k : IntKind} : ∀ {zs : List Int} {vs : List Value}, VRels ρ (zs.map fun z => .int k z) vs → vs = zs.map fun z => Value.int k z
 | [], vs, h => by simpa only [List.map_nil, VRels] using h
 | z :: zs, vs, h => by
   simp only [List.map_cons, VRels, VRel] at h
   obtain ⟨v, vs', rfl, rfl, h⟩ := h
   rw [aet h]; rfl
theorem tab_laid [Gv] {w : World} {g : Nat} {n : String} {k : IntKind} {zs : List Int} (h : LaidIn laidL w) (hn : PP.globalNamed n = some g) (hm : LE.mk g (zs.map fun z => .int k z) ∈ laidL) : Lib.TabIs PP w n k zs := by
 obtain ⟨arr, t, fz, h1, h2⟩ := h g _ hm
 have := aet (h2 ρ00)
 unfold Lib.TabIs World.var?
 rw [hn]
 simp only [Option.bind_some, h1]
 rw [← this]
end Go.Ev
namespace Go.Proofs.YtdeddgiacdjjdaaGreatDoor
open Go.Proofs
variable [Go.Ev.Gv]
def xd : Go.Shelf.Ren := ⟨fun | 173 => 324 | 246 => 344 | 283 => 378 | 284 => 379 | 285 => 380 | 286 => 381 | 129 => 398 | 317 => 397 | 318 => 399 | 319 => 400 | 320 => 401 | 337 => 408 | 338 => 409 | n => n, fun | 2 => 2 | 3 => 3 | 9 => 9 | 4 => 4 | 171 => 351 | 0 => 0 | 53 => 204 | 37 => 138 | 5 => 5 | 173 => 354 | 212 => 366 | 51 => 261 | 20 => 20 | 213 => 367 | 46 => 150 | 232 => 371 | 233 => 372 | n => n, fun | 17 => 5 | 18 => 6 | 19 => 7 | n => n⟩
theorem aye : Go.Proofs.LaysM.n173 Tryz.prog xd := {
 mixed := by kernel_rfl
 f129 := Tryz.func398.trans (congrArg some (by kernel_rfl))
 f173 := Tryz.func324.trans (congrArg some (by kernel_rfl))
 f246 := Tryz.func344.trans (congrArg some (by kernel_rfl))
 f283 := Tryz.func378.trans (congrArg some (by kernel_rfl))
 f284 := Tryz.func379.trans (congrArg some (by kernel_rfl))
 f285 := Tryz.func380.trans (congrArg some (by kernel_rfl))
 f286 := Tryz.func381.trans (congrArg some (by kernel_rfl))
 f317 := Tryz.func397.trans (congrArg some (by kernel_rfl))
 f318 := Tryz.func399.trans (congrArg some (by kernel_rfl))
 f319 := Tryz.func400.trans (congrArg some (by kernel_rfl))
 f320 := Tryz.func401.trans (congrArg some (by kernel_rfl))
 f337 := Tryz.func408.trans (congrArg some (by kernel_rfl))
 f338 := Tryz.func409.trans (congrArg some (by kernel_rfl))
 t0 := Tryz.underlying0
 a0 := Tryz.isAgg0
 z0 := Tryz.sizeOf0
 v0 := Tryz.zeroValue0
 t2 := Tryz.underlying2
 a2 := Tryz.isAgg2
 z2 := Tryz.sizeOf2
 v2 := Tryz.zeroValue2
 t3 := Tryz.underlying3
 a3 := Tryz.isAgg3
 z3 := Tryz.sizeOf3
 v3 := Tryz.zeroValue3
 t4 := Tryz.underlying4
 a4 := Tryz.isAgg4
 z4 := Tryz.sizeOf4
 v4 := Tryz.zeroValue4
 t5 := Tryz.underlying5
 a5 := Tryz.isAgg5
 z5 := Tryz.sizeOf5
 v5 := Tryz.zeroValue5
 t9 := Tryz.underlying9
 a9 := Tryz.isAgg9
 z9 := Tryz.sizeOf9
 v9 := Tryz.zeroValue9
 t20 := Tryz.underlying20
 a20 := Tryz.isAgg20
 z20 := Tryz.sizeOf20
 v20 := Tryz.zeroValue20
 t37 := Tryz.underlying138
 a37 := Tryz.isAgg138
 z37 := Tryz.sizeOf138
 v37 := Tryz.zeroValue138
 t46 := Tryz.underlying150
 a46 := Tryz.isAgg150
 z46 := Tryz.sizeOf150
 v46 := Tryz.zeroValue150
 t51 := Tryz.underlying261
 a51 := Tryz.isAgg261
 z51 := Tryz.sizeOf261
 v51 := Tryz.zeroValue261
 t53 := Tryz.underlying204
 a53 := Tryz.isAgg204
 z53 := Tryz.sizeOf204
 v53 := Tryz.zeroValue204
 t171 := Tryz.underlying351
 a171 := Tryz.isAgg351
 z171 := Tryz.sizeOf351
 v171 := Tryz.zeroValue351
 t173 := Tryz.underlying354
 a173 := Tryz.isAgg354
 z173 := Tryz.sizeOf354
 v173 := Tryz.zeroValue354
 t212 := Tryz.underlying366
 a212 := Tryz.isAgg366
 z212 := Tryz.sizeOf366
 v212 := Tryz.zeroValue366
 t213 := Tryz.underlying367
 a213 := Tryz.isAgg367
 z213 := Tryz.sizeOf367
 t232 := Tryz.underlying371
 a232 := Tryz.isAgg371
 z232 := Tryz.sizeOf371
 v232 := Tryz.zeroValue371
 t233 := Tryz.underlying372
 a233 := Tryz.isAgg372
 z233 := Tryz.sizeOf372
 v233 := Tryz.zeroValue372
 g17 := by kernel_rfl
 g18 := by kernel_rfl
 g19 := by kernel_rfl
 i0 := by kernel_rfl
 i2 := by kernel_rfl
 i3 := by kernel_rfl
 i4 := by kernel_rfl
 i5 := by kernel_rfl
 i9 := by kernel_rfl
 i20 := by kernel_rfl
 i37 := by kernel_rfl
 i46 := by kernel_rfl
 i51 := by kernel_rfl
 i53 := by kernel_rfl
 i171 := by kernel_rfl
 i173 := by kernel_rfl
 i212 := by kernel_rfl
 i232 := by kernel_rfl
 i233 := by kernel_rfl
 m17 := by kernel_rfl
 m18 := by kernel_rfl
 m19 := by kernel_rfl }
theorem fi_seat : Go.Ev.FiAny 324 := fun n w hl h0 h1 => Calls.mono (Go.Proofs.Any.strconv_FormatInt_10 (P := Go.Ev.PP) (ρ := xd) (by rw [Go.Ev.pp_eq]; exact aye) n h0 h1 w
 (Go.Ev.tab_laid (g := 5) hl (by rw [Go.Ev.pp_eq]; kernel_rfl) (List.mem_of_getElem? (i := 2) (by kernel_rfl)))) fun e w2 hp => by
 obtain ⟨he, k, os, rfl⟩ := hp
 exact ⟨he, Go.Ev.kept_grow⟩
end Go.Proofs.YtdeddgiacdjjdaaGreatDoor
set_option linter.all false
namespace Go.Ev
def RpAny [Gv] (g : FuncId) : Prop := ∀ (s : ByteArray) (c : Nat) (w : World), s.size * c ≤ 1000000 → c ≤ 1000000 →
 Calls PP g #[.string s, .int .i64 c] w fun e w' => e = .returned (.string ⟨(Lib.repeatL s.data.toList c).toArray⟩) ∧ KeptW w w'
end Go.Ev
namespace Go.Proofs.YtdeddgiacdjjdaaGreatDoor
open Go.Proofs
variable [Go.Ev.Gv]
def sb : Go.Shelf.Ren := ⟨fun | 105 => 326 | 212 => 349 | 99 => 169 | 165 => 318 | 166 => 295 | 170 => 322 | 169 => 72 | 263 => 384 | 264 => 385 | 206 => 264 | 240 => 342 | 241 => 355 | 276 => 376 | 277 => 388 | n => n, fun | 9 => 9 | 3 => 3 | 4 => 4 | 20 => 20 | 0 => 0 | 46 => 150 | 109 => 330 | 5 => 5 | 72 => 140 | 76 => 268 | 51 => 261 | 146 => 356 | 53 => 204 | 148 => 358 | 70 => 137 | 37 => 138 | 75 => 267 | 127 => 203 | 164 => 349 | 80 => 144 | n => n, fun | n => n⟩
theorem a23 : Go.Proofs.Lays.n105 Tryz.prog sb := {
 mixed := by kernel_rfl
 f99 := Tryz.func169.trans (congrArg some (by kernel_rfl))
 f105 := Tryz.func326.trans (congrArg some (by kernel_rfl))
 f165 := Tryz.func318.trans (congrArg some (by kernel_rfl))
 f166 := Tryz.func295.trans (congrArg some (by kernel_rfl))
 f169 := Tryz.func72.trans (congrArg some (by kernel_rfl))
 f170 := Tryz.func322.trans (congrArg some (by kernel_rfl))
 f206 := Tryz.func264.trans (congrArg some (by kernel_rfl))
 f212 := Tryz.func349.trans (congrArg some (by kernel_rfl))
 f240 := Tryz.func342.trans (congrArg some (by kernel_rfl))
 f241 := Tryz.func355.trans (congrArg some (by kernel_rfl))
 f263 := Tryz.func384.trans (congrArg some (by kernel_rfl))
 f264 := Tryz.func385.trans (congrArg some (by kernel_rfl))
 f276 := Tryz.func376.trans (congrArg some (by kernel_rfl))
 f277 := Tryz.func388.trans (congrArg some (by kernel_rfl))
 t0 := Tryz.underlying0
 a0 := Tryz.isAgg0
 z0 := Tryz.sizeOf0
 v0 := Tryz.zeroValue0
 t3 := Tryz.underlying3
 a3 := Tryz.isAgg3
 z3 := Tryz.sizeOf3
 v3 := Tryz.zeroValue3
 t4 := Tryz.underlying4
 a4 := Tryz.isAgg4
 z4 := Tryz.sizeOf4
 v4 := Tryz.zeroValue4
 t5 := Tryz.underlying5
 a5 := Tryz.isAgg5
 z5 := Tryz.sizeOf5
 v5 := Tryz.zeroValue5
 t9 := Tryz.underlying9
 a9 := Tryz.isAgg9
 z9 := Tryz.sizeOf9
 v9 := Tryz.zeroValue9
 t20 := Tryz.underlying20
 a20 := Tryz.isAgg20
 z20 := Tryz.sizeOf20
 v20 := Tryz.zeroValue20
 t37 := Tryz.underlying138
 a37 := Tryz.isAgg138
 z37 := Tryz.sizeOf138
 v37 := Tryz.zeroValue138
 t46 := Tryz.underlying150
 a46 := Tryz.isAgg150
 z46 := Tryz.sizeOf150
 v46 := Tryz.zeroValue150
 t51 := Tryz.underlying261
 a51 := Tryz.isAgg261
 z51 := Tryz.sizeOf261
 v51 := Tryz.zeroValue261
 t53 := Tryz.underlying204
 a53 := Tryz.isAgg204
 z53 := Tryz.sizeOf204
 v53 := Tryz.zeroValue204
 t70 := Tryz.underlying137
 a70 := Tryz.isAgg137
 z70 := Tryz.sizeOf137
 v70 := Tryz.zeroValue137
 t72 := Tryz.underlying140
 a72 := Tryz.isAgg140
 z72 := Tryz.sizeOf140
 v72 := Tryz.zeroValue140
 t75 := Tryz.underlying267
 a75 := Tryz.isAgg267
 z75 := Tryz.sizeOf267
 v75 := Tryz.zeroValue267
 t76 := Tryz.underlying268
 a76 := Tryz.isAgg268
 z76 := Tryz.sizeOf268
 v76 := Tryz.zeroValue268
 t109 := Tryz.underlying330
 a109 := Tryz.isAgg330
 z109 := Tryz.sizeOf330
 v109 := Tryz.zeroValue330
 t127 := Tryz.underlying203
 a127 := Tryz.isAgg203
 z127 := Tryz.sizeOf203
 v127 := Tryz.zeroValue203
 t146 := Tryz.underlying356
 a146 := Tryz.isAgg356
 z146 := Tryz.sizeOf356
 v146 := Tryz.zeroValue356
 t148 := Tryz.underlying358
 a148 := Tryz.isAgg358
 z148 := Tryz.sizeOf358
 v148 := Tryz.zeroValue358
 t164 := Tryz.underlying349
 a164 := Tryz.isAgg349
 z164 := Tryz.sizeOf349
 v164 := Tryz.zeroValue349 }
theorem azn : Builder.Extra (Go.Ev.PP) sb := by
 rw [Go.Ev.pp_eq]
 exact {
  sizeBuilder := by kernel_rfl
  liesBuilder := by kernel_rfl
  t5 := Tryz.underlying5
  a5 := Tryz.isAgg5
  z5 := Tryz.sizeOf5
  v5 := Tryz.zeroValue5
  infoByte := by kernel_rfl
  cellsByte := by kernel_rfl
  sizeByte := by kernel_rfl
  neB5 := by decide }
theorem rp_seat : Go.Ev.RpAny 326 := fun s c w h1 h2 => Calls.mono (Go.Proofs.Any.strings_Repeat (P := Go.Ev.PP) (ρ := sb) (by rw [Go.Ev.pp_eq]; exact a23) azn s c w (by omega) (by omega)) fun e w2 hp => by
 obtain ⟨he, hw⟩ := hp
 exact ⟨he, Go.Ev.kept_below hw⟩
end Go.Proofs.YtdeddgiacdjjdaaGreatDoor
