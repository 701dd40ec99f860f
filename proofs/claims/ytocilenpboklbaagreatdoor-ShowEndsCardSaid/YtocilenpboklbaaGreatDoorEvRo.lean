import Derived.Test.YtocilenpboklbaaGreatDoorEvFr
import Derived.Laws.RangeString
import Derived.Lib.ValidAsc
import Derived.Shelf.Unicode.DecodeSlow
import Derived.Shelf.Unicode.ValidAny
import Derived.KernelRfl
import Derived.Shelf.LaysM
import Derived.Shelf.Strconv.Itoa3
import Derived.Shelf.Strings.RuneCount
import Derived.Test.YtocilenpboklbaaGreatDoorEvGk
set_option linter.all false
namespace Go.Ev
variable [Gv]
def RcOk (g : FuncId) : Prop := ∀ (s : ByteArray) (w : World), s.size < 4294967281 → (∀ (j : Nat) b, s.data.toList[j]? = some b → b.toNat < 128) →
 Calls PP g #[.string s] w fun e w' => e = .returned (.int .i64 s.size) ∧ KeptW w w'
theorem kept_iter (w : World) (s : ByteArray) (pos : Nat) : KeptW w (w.iter s pos) :=
 ⟨by show w.heap.size ≤ (w.heap.push _).size; simp, fun c hc => RowKit.Below.heap_alloc w _ c hc, rfl, rfl, rfl⟩
end Go.Ev
set_option linter.all false
namespace Go.Ev
variable [Gv]
theorem kept_below {w w' : World} (h : RowKit.Below w.heap.size w w') : KeptW w w' := ⟨h.size, h.block, h.os, h.tape, h.output⟩
theorem ads {g : Nat} {k : IntKind} {zs : List Int} {w : World} (h : LaidIn laidL w) (hm : LE.mk g (zs.map fun z => .int k z) ∈ laidL) (i : Nat) (z : Int) (hz : zs[i]? = some z) : w.cell? ⟨g, i, none⟩ = some (.int k z) := by
 obtain ⟨arr, t, fz, e, hr⟩ := h g _ hm
 have hr := hr ρ00
 have hs : ∀ (zs : List Int) (vs : List Value), VRels ρ00 (zs.map fun z => .int k z) vs → vs = zs.map fun z => .int k z := by
  intro zs
  induction zs with
  | nil => intro vs hv; simpa [VRels] using hv
  | cons z zs ih =>
    intro vs hv
    simp only [List.map_cons, VRels, VRel] at hv
    obtain ⟨v, vs', rfl, rfl, hv⟩ := hv
    rw [ih _ hv, List.map_cons]
 have ha := hs _ _ hr
 simp only [World.cell?, e, Option.isSome_none, zF, if_false]
 rw [← Array.getElem?_toList, ha, List.getElem?_map, hz]
 rfl
def firstZ : List Int := (List.range 256).map fun c => (Lib.firstT c : Int)
def accZ : List Int := [128, 191, 160, 191, 128, 159, 144, 191, 128, 143, 0, 0, 0, 0, 0, 0, 0, 0, 0, 0, 0, 0, 0, 0, 0, 0, 0, 0, 0, 0, 0, 0]
theorem tabs_laid {g3 g4 : Nat} {w : World} (h : LaidIn laidL w) (h3 : LE.mk g3 (firstZ.map fun z => .int .u8 z) ∈ laidL) (h4 : LE.mk g4 (accZ.map fun z => .int .u8 z) ∈ laidL) : Lib.Utf8Tabs g3 g4 w := by
 refine ⟨fun c hc => ads h h3 c _ ?_, fun i hi => ⟨ads h h4 _ _ ?_, ads h h4 _ _ ?_⟩⟩
 ·simp [firstZ, hc]
 all_goals
  revert i
  decide
theorem a2c {α : Type} {m : Nat} : ∀ (zss : List (List α)) (cs : List α), cs.length = zss.length * m → (∀ (i : Nat) (h : i < zss.length), (cs.drop (i * m)).take m = zss[i]) → cs = zss.flatten
 | [], cs, hl, _ => by
   have hl : cs.length = 0 := by simpa using hl
   simpa using List.length_eq_zero_iff.1 hl
 | z :: zss, cs, hl, h => by
   have h0 := h 0 (by simp)
   simp only [Nat.zero_mul, List.drop_zero, List.getElem_cons_zero] at h0
   have ih := a2c (m := m) zss (cs.drop m) (by rw [List.length_drop, hl, zO, Nat.succ_mul, Nat.add_sub_cancel]) (fun i hi => by
    have := h (i + 1) (by simpa using hi)
    rw [Nat.succ_mul] at this
    rw [List.drop_drop, Nat.add_comm m]
    simpa using this)
   rw [List.flatten_cons, ← ih, ← h0, List.take_append_drop]
theorem ints_structs {P : Program} {w : World} {n : Nat} {e t : TypeId} {fs : Array Field} {k : IntKind} {cs : List Value} {fuel : Nat} {zss : List (List Int)} {p : List MemPlace} (ht : P.underlying t = some (.array n e)) (he : P.underlying e = some (.struct fs))
  (hfs : ∀ (i : Nat) (f : Field), fs[i]? = some f → f.offset = i ∧ P.cellsOf f.type = 1 ∧ P.underlying f.type = some (.int k)) (hce : P.cellsOf e = fs.size) (hct : P.cellsOf t = n * fs.size)
  (h : DataW.trod (fun _ => ()) P w 0 (fun _ => true) false fuel t cs = some (.agg (zss.map fun zs => .agg (zs.map fun z => .lit (.int k z))), p)) : cs = zss.flatten.map fun z => .int k z := by
 obtain ⟨xs, m, _, hx, hl, hn, hf⟩ := DataW.trod_array ht h
 injection hx with hx _
 injection hx with hx
 have hlen : zss.length = n := by rw [← hn, ← List.length_map (f := fun x : DataW Unit × List MemPlace => x.1), ← hx, List.length_map]
 have hc : cs = (zss.map fun zs => zs.map fun z => (Value.int k z)).flatten := by
  refine a2c (m := fs.size) _ _ (by rw [hl, hct, List.length_map, hlen]) fun i hi => ?_
  have hi : i < zss.length := by simpa using hi
  have := hf i (by omega)
  rw [hce] at this
  have hxi : i < xs.length := by rw [hn]; omega
  rw [zK hxi] at this
  have e1 : (xs[i]).1 = .agg ((zss[i]).map fun z => (DataW.lit (.int k z) : DataW Unit)) := by
   have q1 : (xs.map (·.1))[i]? = some (xs[i]).1 := by rw [List.getElem?_map, zK hxi]; rfl
   rw [← hx, List.getElem?_map, zK hi] at q1
   injection q1 with q1
   exact q1.symm
  have e2 : xs[i] = (.agg ((zss[i]).map fun z => (DataW.lit (.int k z) : DataW Unit)), (xs[i]).2) := by rw [← e1]
  rw [e2] at this
  rw [aq9 he hfs hce this, List.getElem_map]
 rw [hc, List.map_flatten]
end Go.Ev
set_option linter.all false
namespace Go.Ev
def VsAny [Gv] (g : FuncId) : Prop := ∀ (s : ByteArray) (w : World), LaidIn laidL w → s.size < 4294967281 →
 Calls PP g #[.string s] w fun e w' => e = .returned (.bool (Lib.validD s.data.toList)) ∧ KeptW w w'
end Go.Ev
namespace Go.Proofs.YtocilenpboklbaaGreatDoor
open Go.Proofs
variable [Go.Ev.Gv]
def aes : Go.Shelf.Ren := ⟨fun | 196 => 112 | 259 => 162 | n => n, fun | 9 => 9 | 4 => 4 | 3 => 3 | 5 => 5 | 12 => 12 | 119 => 219 | 0 => 0 | 46 => 223 | 139 => 222 | 138 => 221 | 53 => 233 | n => n, fun | 3 => 0 | 4 => 1 | n => n⟩
theorem a7r : Go.Proofs.Lays.n196 Tryz.prog aes := {
 mixed := by kernel_rfl
 f196 := Tryz.func112.trans (congrArg some (by kernel_rfl))
 f259 := Tryz.func162.trans (congrArg some (by kernel_rfl))
 t0 := Tryz.underlying0
 a0 := Tryz.isAgg0
 z0 := Tryz.sizeOf0
 v0 := Tryz.zeroValue0
 t3 := Tryz.underlying3
 a3 := Tryz.isAgg3
 z3 := Tryz.sizeOf3
 v3 := Tryz.zeroValue3
 t4 := Tryz.underlying4
 a4 := Tryz.isAgg4
 z4 := Tryz.sizeOf4
 v4 := Tryz.zeroValue4
 t5 := Tryz.underlying5
 a5 := Tryz.isAgg5
 z5 := Tryz.sizeOf5
 v5 := Tryz.zeroValue5
 t9 := Tryz.underlying9
 a9 := Tryz.isAgg9
 z9 := Tryz.sizeOf9
 v9 := Tryz.zeroValue9
 t12 := Tryz.underlying12
 a12 := Tryz.isAgg12
 z12 := Tryz.sizeOf12
 v12 := Tryz.zeroValue12
 t46 := Tryz.underlying223
 a46 := Tryz.isAgg223
 z46 := Tryz.sizeOf223
 v46 := Tryz.zeroValue223
 t53 := Tryz.underlying233
 a53 := Tryz.isAgg233
 z53 := Tryz.sizeOf233
 v53 := Tryz.zeroValue233
 t119 := Tryz.underlying219
 a119 := Tryz.isAgg219
 z119 := Tryz.sizeOf219
 t138 := Tryz.underlying221
 a138 := Tryz.isAgg221
 z138 := Tryz.sizeOf221
 v138 := Tryz.zeroValue221
 t139 := Tryz.underlying222
 a139 := Tryz.isAgg222
 z139 := Tryz.sizeOf222
 v139 := Tryz.zeroValue222
 g3 := by kernel_rfl
 g4 := by kernel_rfl }
theorem va_seat : Go.Ev.VsAny 112 := fun s w hl h1 => Calls.mono (Go.Proofs.Any.utf8_ValidString (P := Go.Ev.PP) (ρ := aes) (by rw [Go.Ev.pp_eq]; exact a7r) s w (by omega)
 (Go.Ev.tabs_laid hl (List.mem_of_getElem? (i := 1) (by kernel_rfl)) (List.mem_of_getElem? (i := 0) (by kernel_rfl)))) fun e w2 hp => by
 obtain ⟨he, hw⟩ := hp
 exact ⟨he, Go.Ev.kept_below hw⟩
end Go.Proofs.YtocilenpboklbaaGreatDoor
set_option linter.all false
namespace Go.Ev
def ItAny [Gv] (g : FuncId) : Prop := ∀ (n : Int) (w : World), LaidIn laidL w → -9223372036854775808 ≤ n → n ≤ 9223372036854775807 →
 Calls PP g #[.int .i64 n] w fun e w' => e = .returned (.string ⟨(Lib.itoa n).toArray⟩) ∧ KeptW w w'
theorem kept_grow {w : World} {k : Nat} {os : Array Obj} : KeptW w (Go.Sort.grow (w.drewN k) os) := by
 refine ⟨?_, fun c hc => ?_, rfl, rfl, rfl⟩
 ·show w.heap.size ≤ (w.heap ++ os).size
  rw [Array.size_append]; exact Nat.le_add_right _ _
 ·show (w.heap ++ os)[c]? = _
  exact Array.getElem?_append_left hc
theorem alg [Gv] {ρ : Env} {k : IntKind} : ∀ {zs : List Int} {vs : List Value}, VRels ρ (zs.map fun z => .int k z) vs → vs = zs.map fun z => Value.int k z
 | [], vs, h => by simpa only [List.map_nil, VRels] using h
 | z :: zs, vs, h => by
   simp only [List.map_cons, VRels, VRel] at h
   obtain ⟨v, vs', rfl, rfl, h⟩ := h
   rw [alg h]; rfl
theorem tab_laid [Gv] {w : World} {g : Nat} {n : String} {k : IntKind} {zs : List Int} (h : LaidIn laidL w) (hn : PP.globalNamed n = some g) (hm : LE.mk g (zs.map fun z => .int k z) ∈ laidL) : Lib.TabIs PP w n k zs := by
 obtain ⟨arr, t, fz, h1, h2⟩ := h g _ hm
 have := alg (h2 ρ00)
 unfold Lib.TabIs World.var?
 rw [hn]
 simp only [Option.bind_some, h1]
 rw [← this]
end Go.Ev
namespace Go.Proofs.YtocilenpboklbaaGreatDoor
open Go.Proofs
variable [Go.Ev.Gv]
def acb : Go.Shelf.Ren := ⟨fun | 171 => 99 | 243 => 137 | 246 => 168 | 283 => 185 | 284 => 186 | 285 => 187 | 286 => 188 | 129 => 199 | 317 => 198 | 318 => 200 | 319 => 201 | 320 => 202 | 337 => 211 | 338 => 212 | n => n, fun | 3 => 3 | 9 => 9 | 2 => 2 | 4 => 4 | 171 => 237 | 0 => 0 | 53 => 233 | 37 => 94 | 5 => 5 | 173 => 240 | 212 => 251 | 51 => 242 | 20 => 20 | 213 => 252 | 46 => 223 | 232 => 260 | 233 => 261 | n => n, fun | 17 => 3 | 18 => 4 | 19 => 5 | n => n⟩
theorem a3u : Go.Proofs.LaysM.n171 Tryz.prog acb := {
 mixed := by kernel_rfl
 f129 := Tryz.func199.trans (congrArg some (by kernel_rfl))
 f171 := Tryz.func99.trans (congrArg some (by kernel_rfl))
 f243 := Tryz.func137.trans (congrArg some (by kernel_rfl))
 f246 := Tryz.func168.trans (congrArg some (by kernel_rfl))
 f283 := Tryz.func185.trans (congrArg some (by kernel_rfl))
 f284 := Tryz.func186.trans (congrArg some (by kernel_rfl))
 f285 := Tryz.func187.trans (congrArg some (by kernel_rfl))
 f286 := Tryz.func188.trans (congrArg some (by kernel_rfl))
 f317 := Tryz.func198.trans (congrArg some (by kernel_rfl))
 f318 := Tryz.func200.trans (congrArg some (by kernel_rfl))
 f319 := Tryz.func201.trans (congrArg some (by kernel_rfl))
 f320 := Tryz.func202.trans (congrArg some (by kernel_rfl))
 f337 := Tryz.func211.trans (congrArg some (by kernel_rfl))
 f338 := Tryz.func212.trans (congrArg some (by kernel_rfl))
 t0 := Tryz.underlying0
 a0 := Tryz.isAgg0
 z0 := Tryz.sizeOf0
 v0 := Tryz.zeroValue0
 t2 := Tryz.underlying2
 a2 := Tryz.isAgg2
 z2 := Tryz.sizeOf2
 v2 := Tryz.zeroValue2
 t3 := Tryz.underlying3
 a3 := Tryz.isAgg3
 z3 := Tryz.sizeOf3
 v3 := Tryz.zeroValue3
 t4 := Tryz.underlying4
 a4 := Tryz.isAgg4
 z4 := Tryz.sizeOf4
 v4 := Tryz.zeroValue4
 t5 := Tryz.underlying5
 a5 := Tryz.isAgg5
 z5 := Tryz.sizeOf5
 v5 := Tryz.zeroValue5
 t9 := Tryz.underlying9
 a9 := Tryz.isAgg9
 z9 := Tryz.sizeOf9
 v9 := Tryz.zeroValue9
 t20 := Tryz.underlying20
 a20 := Tryz.isAgg20
 z20 := Tryz.sizeOf20
 v20 := Tryz.zeroValue20
 t37 := Tryz.underlying94
 a37 := Tryz.isAgg94
 z37 := Tryz.sizeOf94
 v37 := Tryz.zeroValue94
 t46 := Tryz.underlying223
 a46 := Tryz.isAgg223
 z46 := Tryz.sizeOf223
 v46 := Tryz.zeroValue223
 t51 := Tryz.underlying242
 a51 := Tryz.isAgg242
 z51 := Tryz.sizeOf242
 v51 := Tryz.zeroValue242
 t53 := Tryz.underlying233
 a53 := Tryz.isAgg233
 z53 := Tryz.sizeOf233
 v53 := Tryz.zeroValue233
 t171 := Tryz.underlying237
 a171 := Tryz.isAgg237
 z171 := Tryz.sizeOf237
 v171 := Tryz.zeroValue237
 t173 := Tryz.underlying240
 a173 := Tryz.isAgg240
 z173 := Tryz.sizeOf240
 v173 := Tryz.zeroValue240
 t212 := Tryz.underlying251
 a212 := Tryz.isAgg251
 z212 := Tryz.sizeOf251
 v212 := Tryz.zeroValue251
 t213 := Tryz.underlying252
 a213 := Tryz.isAgg252
 z213 := Tryz.sizeOf252
 t232 := Tryz.underlying260
 a232 := Tryz.isAgg260
 z232 := Tryz.sizeOf260
 v232 := Tryz.zeroValue260
 t233 := Tryz.underlying261
 a233 := Tryz.isAgg261
 z233 := Tryz.sizeOf261
 v233 := Tryz.zeroValue261
 g17 := by kernel_rfl
 g18 := by kernel_rfl
 g19 := by kernel_rfl
 i0 := by kernel_rfl
 i2 := by kernel_rfl
 i3 := by kernel_rfl
 i4 := by kernel_rfl
 i5 := by kernel_rfl
 i9 := by kernel_rfl
 i20 := by kernel_rfl
 i37 := by kernel_rfl
 i46 := by kernel_rfl
 i51 := by kernel_rfl
 i53 := by kernel_rfl
 i171 := by kernel_rfl
 i173 := by kernel_rfl
 i212 := by kernel_rfl
 i232 := by kernel_rfl
 i233 := by kernel_rfl
 m17 := by kernel_rfl
 m18 := by kernel_rfl
 m19 := by kernel_rfl }
theorem it_seat : Go.Ev.ItAny 99 := fun n w hl h0 h1 => Calls.mono (Go.Proofs.Any.strconv_Itoa (P := Go.Ev.PP) (ρ := acb) (by rw [Go.Ev.pp_eq]; exact a3u) n h0 h1 w
 (Go.Ev.tab_laid (g := 3) hl (by rw [Go.Ev.pp_eq]; kernel_rfl) (List.mem_of_getElem? (i := 2) (by kernel_rfl)))) fun e w2 hp => by
 obtain ⟨he, k, os, rfl⟩ := hp
 exact ⟨he, Go.Ev.kept_grow⟩
end Go.Proofs.YtocilenpboklbaaGreatDoor
namespace Go.Proofs.YtocilenpboklbaaGreatDoor
open Go.Proofs
variable [Go.Ev.Gv]
def aer : Go.Shelf.Ren := ⟨fun | 195 => 113 | n => n, fun | 9 => 9 | 3 => 3 | 0 => 0 | 4 => 4 | n => n, fun | n => n⟩
theorem a7q : Go.Proofs.Lays.n195 Tryz.prog aer := {
 mixed := by kernel_rfl
 f195 := Tryz.func113.trans (congrArg some (by kernel_rfl))
 t0 := Tryz.underlying0
 a0 := Tryz.isAgg0
 z0 := Tryz.sizeOf0
 v0 := Tryz.zeroValue0
 t3 := Tryz.underlying3
 a3 := Tryz.isAgg3
 z3 := Tryz.sizeOf3
 v3 := Tryz.zeroValue3
 t4 := Tryz.underlying4
 a4 := Tryz.isAgg4
 z4 := Tryz.sizeOf4
 v4 := Tryz.zeroValue4
 t9 := Tryz.underlying9
 a9 := Tryz.isAgg9
 z9 := Tryz.sizeOf9
 v9 := Tryz.zeroValue9 }
theorem rc_seat : Go.Ev.RcOk 113 := fun s w h1 h2 => Calls.mono (Go.Proofs.Any.utf8_RuneCountInString_ascii (P := Go.Ev.PP) (ρ := aer) (by rw [Go.Ev.pp_eq]; exact a7q) s w h1 h2) fun e w2 hp => by
 obtain ⟨he, hw⟩ := hp
 subst hw
 exact ⟨he, Go.Ev.kept_iter _ _ _⟩
end Go.Proofs.YtocilenpboklbaaGreatDoor
set_option maxRecDepth 100000
set_option linter.all false
namespace Go.Ev
section
variable [Gv]
structure RE where
 k : Nat
 c : Nat
 s : Nat
 o : GO
structure ROk (nxi : Nat) (w : World) (l : List RE) : Prop where
 key : ∀ e ∈ l, 256 ≤ e.k ∧ e.k < nxi
 obj : ∀ e ∈ l, (AObj.gob e.o).isRo = true ∧ ∃ arr t fz, w.heap[e.c]? = some (.cells arr t fz) ∧ arr.size = e.s ∧ GORel e.o (some (.cells arr t fz))
variable {nxi : Nat} {w : World} {l : List RE}
theorem ROk.lt (h : ROk nxi w l) (hx : nxi ≤ 65535) {e : RE} (he : e ∈ l) : 256 ≤ (K.of e.k).num ∧ (K.of e.k).num < nxi := by
 obtain ⟨a, b⟩ := h.key e he
 rw [bw (by omega)]; exact ⟨a, b⟩
end
end Go.Ev
