/- 'copyistlaw08.FormsParams' returns true, whatever the memory in which it is called. The closed runs are reckoned by an evaluator of the model's code that is proved sound against the model's steps (the texts Ev..); no condition besides. -/
import Derived.Test.YtocilenpboklbaaGreatDoorChecked
import Derived.Test.YtocilenpboklbaaGreatDoorRows
import Derived.Test.YtocilenpboklbaaGreatDoorCards
import Derived.Test.YtocilenpboklbaaGreatDoorTie
import Derived.Test.YtocilenpboklbaaGreatDoorHpZ
import Derived.ProofKit
import Derived.Lay
import Derived.LaidOnce
import Derived.SevenTiedAt
import Derived.Carry
set_option maxRecDepth 100000
set_option linter.all false
namespace Go.Ev
theorem chunks {α : Type} {m : Nat} : ∀ (zss : List (List α)) (cs : List α), cs.length = zss.length * m → (∀ (i : Nat) (h : i < zss.length), (cs.drop (i * m)).take m = zss[i]) → cs = zss.flatten
  | [], cs, hl, _ => by
    have hl : cs.length = 0 := by simpa using hl
    simpa using List.length_eq_zero_iff.1 hl
  | z :: zss, cs, hl, h => by
    have h0 := h 0 (by simp)
    simp only [Nat.zero_mul, List.drop_zero, List.getElem_cons_zero] at h0
    have ih := chunks (m := m) zss (cs.drop m) (by rw [List.length_drop, hl, List.length_cons, Nat.succ_mul, Nat.add_sub_cancel]) (fun i hi => by
      have := h (i + 1) (by simpa using hi)
      rw [Nat.succ_mul] at this
      rw [List.drop_drop, Nat.add_comm m]
      simpa using this)
    rw [List.flatten_cons, ← ih, ← h0, List.take_append_drop]
theorem ints_struct {P : Program} {w : World} {fs : Array Field} {t : TypeId} {k : IntKind} {cs : List Value} {fuel : Nat} {zs : List Int} {p : List MemPlace} (ht : P.underlying t = some (.struct fs))
    (hfs : ∀ (i : Nat) (f : Field), fs[i]? = some f → f.offset = i ∧ P.cellsOf f.type = 1 ∧ P.underlying f.type = some (.int k)) (hct : P.cellsOf t = fs.size)
    (h : DataW.trod (fun _ => ()) P w 0 (fun _ => true) false fuel t cs = some (.agg (zs.map fun z => .lit (.int k z)), p)) : cs = zs.map fun z => .int k z := by
  obtain ⟨xs, m, _, hx, hl, hn, hf⟩ := DataW.trod_struct ht h
  injection hx with hx _
  injection hx with hx
  have hlen : zs.length = fs.size := by rw [← hn, ← List.length_map (f := fun x : DataW Unit × List MemPlace => x.1), ← hx, List.length_map]
  apply List.ext_getElem
  · rw [hl, hct, List.length_map, hlen]
  · intro i h1 h2
    have hi : i < fs.size := by rw [hl, hct] at h1; exact h1
    have hfi : fs[i]? = some fs[i] := Array.getElem?_eq_getElem hi
    have := hf i _ hfi
    obtain ⟨g1, g2, g3⟩ := hfs i _ hfi
    rw [g1, g2] at this
    rw [List.getElem?_eq_getElem (by omega)] at this
    obtain ⟨z, q1, q2, _⟩ := DataW.trod_int g3 this
    have q3 : (cs.drop i).take 1 = [cs[i]] := by rw [List.drop_eq_getElem_cons h1]; rfl
    rw [q3] at q1
    injection q1 with q1 _
    have q4 : (xs.map (·.1))[i]'(by simp; omega) = .lit (.int k z) := by rw [List.getElem_map, q2]
    have q5 : (zs.map fun z => (DataW.lit (.int k z) : DataW Unit))[i]'(by simp; omega) = .lit (.int k z) := by
      rw [← q4]; congr 1
    rw [List.getElem_map] at q5
    rw [q1, List.getElem_map]
    injection q5 with q5
    injection q5 with _ q5
    rw [q5]
theorem ints_structs {P : Program} {w : World} {n : Nat} {e t : TypeId} {fs : Array Field} {k : IntKind} {cs : List Value} {fuel : Nat} {zss : List (List Int)} {p : List MemPlace} (ht : P.underlying t = some (.array n e)) (he : P.underlying e = some (.struct fs))
    (hfs : ∀ (i : Nat) (f : Field), fs[i]? = some f → f.offset = i ∧ P.cellsOf f.type = 1 ∧ P.underlying f.type = some (.int k)) (hce : P.cellsOf e = fs.size) (hct : P.cellsOf t = n * fs.size)
    (h : DataW.trod (fun _ => ()) P w 0 (fun _ => true) false fuel t cs = some (.agg (zss.map fun zs => .agg (zs.map fun z => .lit (.int k z))), p)) : cs = zss.flatten.map fun z => .int k z := by
  obtain ⟨xs, m, _, hx, hl, hn, hf⟩ := DataW.trod_array ht h
  injection hx with hx _
  injection hx with hx
  have hlen : zss.length = n := by rw [← hn, ← List.length_map (f := fun x : DataW Unit × List MemPlace => x.1), ← hx, List.length_map]
  have hc : cs = (zss.map fun zs => zs.map fun z => (Value.int k z)).flatten := by
    refine chunks (m := fs.size) _ _ (by rw [hl, hct, List.length_map, hlen]) fun i hi => ?_
    have hi : i < zss.length := by simpa using hi
    have := hf i (by omega)
    rw [hce] at this
    have hxi : i < xs.length := by rw [hn]; omega
    rw [List.getElem?_eq_getElem hxi] at this
    have e1 : (xs[i]).1 = .agg ((zss[i]).map fun z => (DataW.lit (.int k z) : DataW Unit)) := by
      have q1 : (xs.map (·.1))[i]? = some (xs[i]).1 := by rw [List.getElem?_map, List.getElem?_eq_getElem hxi]; rfl
      rw [← hx, List.getElem?_map, List.getElem?_eq_getElem hi] at q1
      injection q1 with q1
      exact q1.symm
    have e2 : xs[i] = (.agg ((zss[i]).map fun z => (DataW.lit (.int k z) : DataW Unit)), (xs[i]).2) := by rw [← e1]
    rw [e2] at this
    rw [ints_struct he hfs hce this, List.getElem_map]
  rw [hc, List.map_flatten]
end Go.Ev
namespace Go.Proofs.YtocilenpboklbaaGreatDoor
open Go.ChangeShapes Go.WideShapes Go.ChangeAt Go.RowKit
theorem k_a : Tryz.pinned.checked.prog.funcNamed Rows.formsParamsRow.func = some 7 := by kernel_rfl
theorem a6o {a b : Bool} (ha : a = true) (hb : b = true) : (a && b) = true := by rw [ha, hb]; rfl
set_option maxHeartbeats 100000000 in
theorem k_b : joinedFacts Tryz.pinned.checked.prog 7 Tryz.f7 Rows.formsParamsSpec Rows.formsParamsRow = true := by
  unfold joinedFacts
  repeat' with_reducible apply a6o
  all_goals (as_aux_lemma => kernel_rfl)
theorem k_c : Func.isInstance Tryz.pinned.checked.prog Tryz.f7 Rows.formsParamsRow.origin Rows.formsParamsRow.targs := of_decide_eq_true (by kernel_rfl)
theorem k_d : Func.isWrapper Tryz.pinned.checked.prog Tryz.f7 Rows.formsParamsRow.wrapper Rows.formsParamsRow.mainSum := by
  unfold Func.isWrapper; first | (rw [if_pos (by decide +kernel)]; kernel_rfl) | (rw [if_neg (by decide +kernel)]; exact ⟨rfl, rfl⟩)
theorem k_e : OpenClaim.wfByText (OpenSpec.ofChange Rows.formsParamsSpec) Rows.formsParamsRow = true := by kernel_rfl
theorem k_f : Tryz.pinned.checked.prog.mainIs = some ((true, "c444cd599936be61469ac5ddeb933365dd1e862cea4b973465f47efdaa8c6330").fst, (true, "c444cd599936be61469ac5ddeb933365dd1e862cea4b973465f47efdaa8c6330").snd.toList) := by kernel_rfl
theorem k_g : true = Tryz.pinned.checked.prog.looks [] := by kernel_rfl
theorem k_h : ([3, 3, 4, 3].all fun u => !Tryz.pinned.checked.prog.wantsStandIn u) = true := by kernel_rfl
theorem k_i : false = Rows.formsParamsRow.goesBy Tryz.pinned.checked.prog := by kernel_rfl
abbrev zB : List Int := [240, 240, 240, 240, 240, 240, 240, 240, 240, 240, 240, 240, 240, 240, 240, 240, 240, 240, 240, 240, 240, 240, 240, 240, 240, 240, 240, 240, 240, 240, 240, 240, 240, 240, 240, 240, 240, 240, 240, 240, 240, 240, 240, 240, 240, 240, 240, 240, 240, 240, 240, 240, 240, 240, 240, 240, 240, 240, 240, 240, 240, 240, 240, 240, 240, 240, 240, 240, 240, 240, 240, 240, 240, 240, 240, 240, 240, 240, 240, 240, 240, 240, 240, 240, 240, 240, 240, 240, 240, 240, 240, 240, 240, 240, 240, 240, 240, 240, 240, 240, 240, 240, 240, 240, 240, 240, 240, 240, 240, 240, 240, 240, 240, 240, 240, 240, 240, 240, 240, 240, 240, 240, 240, 240, 240, 240, 240, 240, 241, 241, 241, 241, 241, 241, 241, 241, 241, 241, 241, 241, 241, 241, 241, 241, 241, 241, 241, 241, 241, 241, 241, 241, 241, 241, 241, 241, 241, 241, 241, 241, 241, 241, 241, 241, 241, 241, 241, 241, 241, 241, 241, 241, 241, 241, 241, 241, 241, 241, 241, 241, 241, 241, 241, 241, 241, 241, 241, 241, 241, 241, 241, 241, 241, 241, 2, 2, 2, 2, 2, 2, 2, 2, 2, 2, 2, 2, 2, 2, 2, 2, 2, 2, 2, 2, 2, 2, 2, 2, 2, 2, 2, 2, 2, 2, 19, 3, 3, 3, 3, 3, 3, 3, 3, 3, 3, 3, 3, 35, 3, 3, 52, 4, 4, 4, 68, 241, 241, 241, 241, 241, 241, 241, 241, 241, 241, 241]
theorem own : ownKnob Tryz.prog.godebug = none := by kernel_rfl
theorem bhz {W : World} (h : laidMetH Tryz.prog Rows.formsParamsRow.laid W) : ∃ arr t fz, W.heap[1]? = some (.cells arr t fz) ∧ ∀ ρ, Go.Ev.VRels ρ Go.Ev.ctA arr.toList := by
  rw [MakeChecks.laidMetH_plain _ _ _ (by kernel_rfl)] at h
  obtain ⟨ps, hv, _⟩ := h
  obtain ⟨g, t, cs, fuel, p, h1, h2, h3, h4⟩ := Go.Ev.laid_at (n := "unicode/utf8.acceptRanges") (d := Rows.laid_unicode_utf8_acceptRanges) hv (List.mem_of_getElem? (i := 3) rfl)
  have hg : Tryz.prog.globalNamed "unicode/utf8.acceptRanges" = some 1 := by kernel_rfl
  have ht : (Tryz.prog.globals[1]?).map (·.type) = some 222 := by kernel_rfl
  rw [hg] at h1
  injection h1 with h1
  subst h1
  rw [ht] at h2
  injection h2 with h2
  subst h2
  unfold World.var? at h3
  rw [hg] at h3
  simp only [Option.bind_some] at h3
  split at h3
  · rename_i arr t' fz hx
    injection h3 with h3
    subst h3
    rw [show (Rows.laid_unicode_utf8_acceptRanges : DataW Unit) = .agg (([[128, 191], [160, 191], [128, 159], [144, 191], [128, 143], [0, 0], [0, 0], [0, 0], [0, 0], [0, 0], [0, 0], [0, 0], [0, 0], [0, 0], [0, 0], [0, 0]] : List (List Int)).map fun zs => .agg (zs.map fun z => .lit (.int .u8 z))) from by kernel_rfl] at h4
    have hcs := Go.Ev.ints_structs (k := .u8) (zss := [[128, 191], [160, 191], [128, 159], [144, 191], [128, 143], [0, 0], [0, 0], [0, 0], [0, 0], [0, 0], [0, 0], [0, 0], [0, 0], [0, 0], [0, 0], [0, 0]]) Tryz.underlying222 Tryz.underlying221 (fun i f hf => match i, hf with 
        | 0, hf => by simp at hf; subst hf; exact ⟨rfl, by kernel_rfl, Tryz.underlying5⟩
        | 1, hf => by simp at hf; subst hf; exact ⟨rfl, by kernel_rfl, Tryz.underlying5⟩
        | n + 2, hf => by simp at hf) (by kernel_rfl) (by kernel_rfl) h4
    exact ⟨_, _, _, hx, fun ρ => by rw [hcs]; exact Go.Ev.ints_rel ρ .u8 [128, 191, 160, 191, 128, 159, 144, 191, 128, 143, 0, 0, 0, 0, 0, 0, 0, 0, 0, 0, 0, 0, 0, 0, 0, 0, 0, 0, 0, 0, 0, 0]⟩
  · cases h3
theorem bh0 {W : World} (h : laidMetH Tryz.prog Rows.formsParamsRow.laid W) : ∃ arr t fz, W.heap[0]? = some (.cells arr t fz) ∧ ∀ ρ, Go.Ev.VRels ρ Go.Ev.ctB arr.toList := by
  rw [MakeChecks.laidMetH_plain _ _ _ (by kernel_rfl)] at h
  obtain ⟨ps, hv, _⟩ := h
  obtain ⟨g, t, cs, fuel, p, h1, h2, h3, h4⟩ := Go.Ev.laid_at (n := "unicode/utf8.first") (d := Rows.laid_unicode_utf8_first) hv (List.mem_of_getElem? (i := 4) rfl)
  have hg : Tryz.prog.globalNamed "unicode/utf8.first" = some 0 := by kernel_rfl
  have ht : (Tryz.prog.globals[0]?).map (·.type) = some 219 := by kernel_rfl
  rw [hg] at h1
  injection h1 with h1
  subst h1
  rw [ht] at h2
  injection h2 with h2
  subst h2
  unfold World.var? at h3
  rw [hg] at h3
  simp only [Option.bind_some] at h3
  split at h3
  · rename_i arr t' fz hx
    injection h3 with h3
    subst h3
    rw [show (Rows.laid_unicode_utf8_first : DataW Unit) = .agg ((zB : List Int).map fun z => .lit (.int .u8 z)) from by kernel_rfl] at h4
    have hcs := Go.Ev.ints_array (k := .u8) (zs := zB) Tryz.underlying219 Tryz.underlying5 (by kernel_rfl) (by kernel_rfl) h4
    exact ⟨_, _, _, hx, fun ρ => by rw [hcs]; exact Go.Ev.ints_rel ρ .u8 zB⟩
  · cases h3
theorem bh1 {W : World} (h : laidMetH Tryz.prog Rows.formsParamsRow.laid W) : ∃ arr t fz, W.heap[3]? = some (.cells arr t fz) ∧ ∀ ρ, Go.Ev.VRels ρ [.int .u64 1, .int .u64 10, .int .u64 100, .int .u64 1000, .int .u64 10000, .int .u64 100000, .int .u64 1000000, .int .u64 10000000, .int .u64 100000000, .int .u64 1000000000, .int .u64 10000000000, .int .u64 100000000000, .int .u64 1000000000000, .int .u64 10000000000000, .int .u64 100000000000000, .int .u64 1000000000000000, .int .u64 10000000000000000, .int .u64 100000000000000000, .int .u64 1000000000000000000, .int .u64 10000000000000000000] arr.toList := by
  rw [MakeChecks.laidMetH_plain _ _ _ (by kernel_rfl)] at h
  obtain ⟨ps, hv, _⟩ := h
  obtain ⟨g, t, cs, fuel, p, h1, h2, h3, h4⟩ := Go.Ev.laid_at (n := "internal/strconv.uint64pow10") (d := Rows.laid_internal_strconv_uint64pow10) hv (List.mem_of_getElem? (i := 2) rfl)
  have hg : Tryz.prog.globalNamed "internal/strconv.uint64pow10" = some 3 := by kernel_rfl
  have ht : (Tryz.prog.globals[3]?).map (·.type) = some 251 := by kernel_rfl
  rw [hg] at h1
  injection h1 with h1
  subst h1
  rw [ht] at h2
  injection h2 with h2
  subst h2
  unfold World.var? at h3
  rw [hg] at h3
  simp only [Option.bind_some] at h3
  split at h3
  · rename_i arr t' fz hx
    injection h3 with h3
    subst h3
    rw [show (Rows.laid_internal_strconv_uint64pow10 : DataW Unit) = .agg (([1, 10, 100, 1000, 10000, 100000, 1000000, 10000000, 100000000, 1000000000, 10000000000, 100000000000, 1000000000000, 10000000000000, 100000000000000, 1000000000000000, 10000000000000000, 100000000000000000, 1000000000000000000, 10000000000000000000] : List Int).map fun z => .lit (.int .u64 z)) from by kernel_rfl] at h4
    have hcs := Go.Ev.ints_array (k := .u64) (zs := [1, 10, 100, 1000, 10000, 100000, 1000000, 10000000, 100000000, 1000000000, 10000000000, 100000000000, 1000000000000, 10000000000000, 100000000000000, 1000000000000000, 10000000000000000, 100000000000000000, 1000000000000000000, 10000000000000000000]) Tryz.underlying251 Tryz.underlying233 (by kernel_rfl) (by kernel_rfl) h4
    exact ⟨_, _, _, hx, fun ρ => by rw [hcs]; exact Go.Ev.ints_rel ρ .u64 [1, 10, 100, 1000, 10000, 100000, 1000000, 10000000, 100000000, 1000000000, 10000000000, 100000000000, 1000000000000, 10000000000000, 100000000000000, 1000000000000000, 10000000000000000, 100000000000000000, 1000000000000000000, 10000000000000000000]⟩
  · cases h3
/-- the variables that the code reads lie as they are laid -/
theorem bhy {W : World} (h : laidMetH Tryz.prog Rows.formsParamsRow.laid W) : Go.Ev.LaidIn Go.Ev.laidL W := by
  intro g' cs' hm
  have hm : Go.Ev.LE.mk g' cs' ∈ [Go.Ev.LE.mk 1 Go.Ev.ctA, Go.Ev.LE.mk 0 Go.Ev.ctB, Go.Ev.LE.mk 3 [.int .u64 1, .int .u64 10, .int .u64 100, .int .u64 1000, .int .u64 10000, .int .u64 100000, .int .u64 1000000, .int .u64 10000000, .int .u64 100000000, .int .u64 1000000000, .int .u64 10000000000, .int .u64 100000000000, .int .u64 1000000000000, .int .u64 10000000000000, .int .u64 100000000000000, .int .u64 1000000000000000, .int .u64 10000000000000000, .int .u64 100000000000000000, .int .u64 1000000000000000000, .int .u64 10000000000000000000]] := hm
  simp only [List.mem_cons, List.not_mem_nil, or_false, Go.Ev.LE.mk.injEq] at hm
  rcases hm with ⟨e1, e2⟩ | ⟨e1, e2⟩ | ⟨e1, e2⟩
  · subst e1 e2; exact bhz h
  · subst e1 e2; exact bh0 h
  · subst e1 e2; exact bh1 h
theorem ayl (os : Os) (started : os.Started) (H : Type) (enc : TypeId × Value → H) :
    ReturnsInHanded {} Tryz.checked os 7 .any (fun w args => (Rows.formsParamsSpec.pre enc Tryz.prog Tryz.f7 [] false w args ∧ laidMetH Tryz.prog Rows.formsParamsRow.laid w) ∧ sizedMet enc Tryz.prog Tryz.f7 (OpenSpec.ofChange Rows.formsParamsSpec) false w args)
      (Rows.formsParamsSpec.post enc Tryz.prog Tryz.f7 false true false false) := by
  refine returnsInHanded_of_change_and (C := Tryz.checked) (X := fun w _ => laidMetH Tryz.prog Rows.formsParamsRow.laid w) (fun _ _ _ hh h => h.of_heap hh) own started (by kernel_rfl) Tryz.func7
    (ChangeSpec.witness_shaped (enc := enc) (C := Tryz.checked) (os := os) (X := fun w _ => laidMetH Tryz.prog Rows.formsParamsRow.laid w) false (World.laidAll Tryz.prog os Rows.formsParamsRow.laid) #[.int .i64 0, .int .i64 0, .bool false, .int .i64 0] 8 (World.laidAll_os _ _ _)
      (World.shaped_of_ZipB (by kernel_rfl) (by kernel_rfl)) (by kernel_rfl) (by kernel_rfl) (by kernel_rfl)
      (by rw [MakeChecks.laidMetH_plain _ _ _ (by kernel_rfl)]; exact laidMet_laidAll _ (by kernel_rfl) (by kernel_rfl))) ?_
  intro W base args ds gs before hval0 hW _ _ hX _
  have hval : ∀ (j : Nat) t v, Tryz.f7.params[j]? = some t → args[j]? = some v → Value.okWide Tryz.prog W .any base t v := hval0
  have hW' := hW
  obtain ⟨p, q, hA0, hV, rfl, _, _⟩ := hW
  have hA : DataW.TrodAll enc Tryz.prog W 0 (fun _ => true) true Tryz.f7.params.toList args.toList ds p := hA0
  rw [Tryz.params7] at hA hval
  obtain ⟨v0, v1, v2, v3, d0, d1, d2, d3, p0, p1, p2, p3, rfl, rfl, rfl, h0, h1, h2, h3⟩ := trodAll_four hA
  obtain ⟨rfl, rfl⟩ := trodVars_none hV
  obtain ⟨x0, rfl, rfl, rfl, wx0⟩ := open_int Tryz.underlying3 (hval 0 3 v0 rfl rfl) h0
  obtain ⟨x1, rfl, rfl, rfl, wx1⟩ := open_int Tryz.underlying3 (hval 1 3 v1 rfl rfl) h1
  obtain ⟨x2, rfl, rfl, rfl⟩ := open_bool Tryz.underlying4 (hval 2 4 v2 rfl rfl) h2
  obtain ⟨x3, rfl, rfl, rfl, wx3⟩ := open_int Tryz.underlying3 (hval 3 3 v3 rfl rfl) h3
  simp only [List.append_nil] at hW'
  have e1 : Rows.formsParamsSpec.fn H ([.lit (.int .i64 x0), .lit (.int .i64 x1), .lit (.bool x2), .lit (.int .i64 x3)] ++ []) = { results := [.lit (.bool true)], args := [.lit (.int .i64 x0), .lit (.int .i64 x1), .lit (.bool x2), .lit (.int .i64 x3)] } := by simp [Rows.formsParamsSpec]
  have hL := Go.Ev.params_wf x0 x1 x3 x2 wx0 wx1 wx3 W (bhy hX)
  rw [Go.Ev.pp_eq] at hL
  refine hL.mono fun e W' ⟨he, hk⟩ => ?_
  subst he
  refine ⟨_, rfl, _, _, _, [], [], [], hW', ?_, ?_, ?_, Go.Ev.kept_but hk _, fun h => by cases h⟩
  · rw [e1]; exact trodAll_mk1 (shut_bool Tryz.underlying4 true)
  · rw [e1]; exact trodAll_mk4 (shut_int Tryz.underlying3 wx0) (shut_int Tryz.underlying3 wx1) (shut_bool Tryz.underlying4 x2) (shut_int Tryz.underlying3 wx3)
  · rw [e1]; rfl
theorem a7a : Rows.FormsParamsSaid :=
  OpenClaim.holds_of_wide 7 Tryz.f7 rfl rfl rfl rfl rfl rfl rfl ⟨rfl, rfl, rfl, rfl, rfl⟩ rfl rfl rfl rfl rfl k_a Tryz.func7 k_b k_c k_d
    (fun os started H enc _ => ayl os started H enc)
theorem params_card : Rows.FormsParamsCardSaid :=
  Claim7.holds_tied_plain_at .later [] [.data, .data, .data, .data, .pinned] true (true, "c444cd599936be61469ac5ddeb933365dd1e862cea4b973465f47efdaa8c6330") true
    a7a (fun _ h => by cases h) k_e (fun _ h => by cases h) formsParams_row_tie rfl ⟨rfl, rfl⟩ k_f rfl
    (fun f fn hf hfn => by
      obtain rfl : f = 7 := Option.some.inj (k_a.symm.trans hf) |>.symm
      obtain rfl : fn = Tryz.f7 := (Option.some.inj (Tryz.func7.symm.trans hfn)).symm
      exact ⟨k_g, fun j t ht => by
        rw [Tryz.params7] at ht
        have hm : t ∈ [3, 3, 4, 3] := by simpa using Array.mem_of_getElem? ht
        exact (show Tryz.pinned.checked.prog.wantsStandIn t = false by simpa using List.all_eq_true.1 k_h t hm)⟩)
    k_i
#print axioms params_card
end Go.Proofs.YtocilenpboklbaaGreatDoor
