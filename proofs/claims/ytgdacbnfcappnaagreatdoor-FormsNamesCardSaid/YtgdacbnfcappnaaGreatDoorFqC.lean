import Derived.Test.YtgdacbnfcappnaaGreatDoorFqB
set_option maxRecDepth 100000
set_option linter.all false
namespace Go.Ev
/- show.quoted of a string of plain characters: the call; of a row of the letter a: a hook. -/
noncomputable section
def qD0 : SE := .dr (.s 0) (.c 0)
def qE0 : SE := .bin 0 .u8 qD0 (.c 0)
def qW0 : SE := .dw (.s 0) (.c 0)
def qT0 : GE := .cat (.one qE0) (.cut (.s 0) qW0 (.len (.s 0)))
def qN0 : SE := .bin 6 .i64 (.c 1) (.len (.cut (.s 0) qW0 (.len (.s 0))))
def qF : List SA := [.mk true (.c 0) (.len (.s 0)) true, .mk false (.bin 0 .i64 qD0 (.c 0)) (.c 92) false, .mk false (.bin 0 .i64 qD0 (.c 0)) (.c 34) false, .mk true (.c 127) (.bin 0 .u32 qD0 (.c 0)) false,
  .mk false (.app 1 (.g (.s 0) (.i qW0 (.g (.one qE0) .nil)))) (.c 1) true, .mk true (.c 0) qN0 true, .mk true (.c 60000) qN0 false]
def qLtU : LT := .mk 93 7 qUs 259 qLi [qI] none (.x 0 qUo) 260 qLo
end
section
variable [Gv]
theorem qU_ok : LtFact qLtU := by
  intro σ _ hA _
  have hA := q_inv.1 (hA _ (List.mem_singleton.2 rfl))
  exact q_all ((qM.eval σ).toNat + 1) σ hA (by omega)
open Classical in
theorem quoted_ok (h1 : ∀ x ∈ Gv.σ 0, qPlain x) (h2 : (Gv.σ 0).length ≤ 30000) (h3 : 1 ≤ (Gv.σ 0).length) :
    FactT 93 [.gv (.str (.s 0) []), .func (.func 94) [] []] 256 [] (.ret (.gv (.str (.s 0) []))) 256 [] := by
  have hl : ∀ t ∈ [qLtU], LtFact t := by intro t ht; rw [List.mem_singleton] at ht; subst ht; exact qU_ok
  have h0 : 0 < (Gv.σ 0).length := by omega
  have hx := h1 _ (List.getElem_mem h0)
  have hx1 := hx.1; have hx2 := hx.2.1
  have hi' : 0 < (bytesI (Gv.σ 0)).size := by rw [bytesI_size]; exact h0
  have hb : (bytesI (Gv.σ 0))[0]'hi' = UInt8.ofNat ((Gv.σ 0)[0]).toNat := by
    have := bytesI_get (l := Gv.σ 0) _ h0
    show (bytesI (Gv.σ 0)).data[0]'hi' = _
    rw [Array.getElem_eq_iff]; exact this
  have hn : ((bytesI (Gv.σ 0))[0]'hi').toNat = ((Gv.σ 0)[0]).toNat := by
    rw [hb, UInt8.toNat_ofNat']
    exact Nat.mod_eq_of_lt (by omega)
  have hdec := decode_ascii (bytesI (Gv.σ 0)) _ hi' (by rw [hn]; omega)
  have hd : qD0.eval Gv.σ = (Gv.σ 0)[0] := by
    show ((Utf8.decode (bytesI (Gv.σ 0)) 0).1 : Int) = _
    rw [hdec]; show ((((bytesI (Gv.σ 0))[0]'hi').toNat : Nat) : Int) = _
    rw [hn]; omega
  have hw : qW0.eval Gv.σ = 1 := by
    show ((Utf8.decode (bytesI (Gv.σ 0)) 0).2 : Int) = _
    rw [hdec]; rfl
  have hE : qE0.eval Gv.σ = (Gv.σ 0)[0] := by
    show IntKind.u8.wrap (qD0.eval Gv.σ + 0) = _
    rw [hd, wrapNear .u8 (.inr (.inr rfl)) _ ⟨hx1, hx2⟩]
  have hcut : (GE.cut (.s 0) qW0 (.len (.s 0))).eval Gv.σ = (Gv.σ 0).drop 1 := by
    show ((Gv.σ 0).take ((Gv.σ 0).length : Int).toNat).drop (qW0.eval Gv.σ).toNat = _
    rw [hw, Int.toNat_natCast, List.take_length]; rfl
  have hN : qN0.eval Gv.σ = ((Gv.σ 0).length : Int) := by
    show 1 + (((GE.cut (.s 0) qW0 (.len (.s 0))).eval Gv.σ).length : Int) = _
    rw [hcut, List.length_drop]; omega
  refine tm_of_run (n := 2000) (A := qF) (T := []) (E := .g qT0 (.s 0) .nil) noHook_ok (lpT_ok [qLtU] hl) ?_ ⟨?_, trivial⟩ rfl rfl (by kernel_rfl)
  · unfold qF
    simp only [sall_cons]
    refine ⟨holdsT ?_, holdsN ?_, holdsN ?_, holdsF ?_, ?_, holdsT ?_, holdsF ?_, SAll.nil⟩
    · show (0 : Int) < ((Gv.σ 0).length : Int); omega
    · show ¬ IntKind.i64.wrap (qD0.eval Gv.σ + 0) = 92
      rw [hd, wrapNear .i64 (.inl rfl) _ ⟨hx1, hx2⟩]; exact hx.2.2.1
    · show ¬ IntKind.i64.wrap (qD0.eval Gv.σ + 0) = 34
      rw [hd, wrapNear .i64 (.inl rfl) _ ⟨hx1, hx2⟩]; exact hx.2.2.2
    · show ¬ 127 < IntKind.u32.wrap (qD0.eval Gv.σ + 0)
      rw [hd, wrapNear .u32 (.inr (.inl rfl)) _ ⟨hx1, hx2⟩]; omega
    · show decide (phiI 1 [Gv.σ 0, [qW0.eval Gv.σ], [qE0.eval Gv.σ]] = 1) = true
      rw [hw, decide_eq_true_iff]
      show (if qInv (Gv.σ 0) 1 [qE0.eval Gv.σ] then (1 : Int) else 0) = 1
      rw [if_pos ⟨h1, h2, by omega, by omega, rfl⟩]
    · show 0 < qN0.eval Gv.σ; omega
    · show ¬ 60000 < qN0.eval Gv.σ; omega
  · show [qE0.eval Gv.σ] ++ (GE.cut (.s 0) qW0 (.len (.s 0))).eval Gv.σ = Gv.σ 0
    rw [hE, hcut]
    exact (List.drop_eq_getElem_cons h0).symm
end
/- of one letter, many times -/
noncomputable def repA (l : Nat) : Nat := Nat.mul 97 (Nat.div (Nat.sub (Nat.pow 256 l) 1) 255)
theorem rep_pow (l : Nat) : (256 ^ (l + 1) - 1) / 255 = 256 ^ l + (256 ^ l - 1) / 255 := by
  have h : 0 < 256 ^ l := Nat.pow_pos (by decide)
  have : 256 ^ (l + 1) - 1 = (256 ^ l - 1) + 255 * 256 ^ l := by rw [Nat.pow_succ]; omega
  rw [this, Nat.add_mul_div_left _ _ (by decide : 0 < 255)]
  omega
theorem pack_rep : ∀ l a, packL (List.replicate l 97) a = a * 256 ^ l + repA l
  | 0, a => by simp [packL, repA]
  | l + 1, a => by
    rw [List.replicate_succ]
    show packL (List.replicate l 97) (a * 256 + 97) = _
    rw [pack_rep l]
    show _ + 97 * ((256 ^ l - 1) / 255) = _ + 97 * ((256 ^ (l + 1) - 1) / 255)
    rw [rep_pow, Nat.pow_succ, Nat.add_mul, Nat.mul_add, Nat.mul_assoc a, Nat.mul_comm 256]
    omega
theorem bytes_rep (l : Nat) : bytesOf l (repA l) = List.replicate l 97 := by
  have := (pack_bytes l (List.replicate l 97) (by simp)).2
  rw [pack_rep, Nat.zero_mul, Nat.zero_add] at this
  exact this
noncomputable def qSt (l : Nat) : Nat → List Int := fun i => if i = 0 then (List.replicate l 97) else []
noncomputable def qH (f : FuncId) (vs : List AV) (w : W) : Option CR := bc (Nat.beq f 93) (match vs with
  | [.str l n, .func (.func 94) [] []] => bc (Nat.ble 1 l && Nat.ble l 30000 && Nat.beq n (repA l) && laidIs laidL w) (some (.ret (.str l n) w)) none
  | _ => none) none
section
theorem laid_any {G G' : Gv} {w : World} (h : @LaidIn G laidL w) : @LaidIn G' laidL w := by
  intro g cs hm
  obtain ⟨arr, t, fz, h1, h2⟩ := h g cs hm
  exact ⟨arr, t, fz, h1, fun ρ => freesAny (@fine_get G _ (@laid_fine G) g cs hm).2.1 (h2 ρ)⟩
theorem bytes_int (l : Nat) : ((bytesOf l (repA l)).map fun b => (b.toNat : Int)) = List.replicate l 97 := by
  rw [bytes_rep, List.map_replicate]; rfl
theorem qH_ok [G : Gv] : HookOk qH := by
  intro f vs aw r hr _ ρ args w hg hw hc hv
  unfold qH at hr
  rw [bc_eq] at hr
  split at hr <;> try (cases hr; done)
  rename_i hf
  have hf := Nat.eq_of_beq_eq_true hf
  subst hf
  split at hr <;> try (cases hr; done)
  rename_i l n
  rw [bc_eq] at hr
  split at hr <;> try (cases hr; done)
  rename_i hl
  injection hr with hr
  subst hr
  simp only [Bool.and_eq_true] at hl
  obtain ⟨⟨⟨l1, l2⟩, l3⟩, l4⟩ := hl
  have l1 := Nat.le_of_ble_eq_true l1
  have l2 := Nat.le_of_ble_eq_true l2
  have l3 := Nat.eq_of_beq_eq_true l3
  subst l3
  have hlaid := laid_ok hg hw l4
  have hF : @FactT ⟨qSt l⟩ 93 [.gv (.str (.s 0) []), .func (.func 94) [] []] 256 [] (.ret (.gv (.str (.s 0) []))) 256 [] := by
    refine @quoted_ok ⟨qSt l⟩ ?_ ?_ ?_
    · intro x hx
      have hx : x ∈ List.replicate l (97 : Int) := hx
      rw [(List.mem_replicate.1 hx).2]
      exact ⟨by decide, by decide, by decide, by decide⟩
    · show (List.replicate l (97 : Int)).length ≤ 30000; rw [List.length_replicate]; exact l2
    · show 1 ≤ (List.replicate l (97 : Int)).length; rw [List.length_replicate]; exact l1
  have hstr : bytesI (List.replicate l (97 : Int)) = unpack l (repA l) := by rw [← bytes_int, bytesI_bytes]; rfl
  have hv' : @VRels ⟨qSt l⟩ ρ00 [.gv (.str (.s 0) []), .func (.func 94) [] []] args.toList := by
    simp only [VRels] at hv ⊢
    obtain ⟨x, xs, e, h1, y, ys, e2, h2, h3⟩ := hv
    refine ⟨x, xs, e, ?_, y, ys, e2, ?_, h3⟩
    · simp only [VRel] at h1 ⊢
      refine ⟨SAll.nil, ?_, ?_⟩
      · show x = .string (bytesI (List.replicate l (97 : Int)))
        rw [hstr]; exact h1.2
      · intro z hz
        have hz : z ∈ List.replicate l (97 : Int) := hz
        rw [(List.mem_replicate.1 hz).2]; decide
    · simp only [VRel] at h2 ⊢
      exact h2
  have hcall := hF ρ00 args w (@grel00 ⟨qSt l⟩) (@wrel00 ⟨qSt l⟩ w (laid_any hlaid)) (@clean00 ⟨qSt l⟩) hv'
  refine Calls.mono hcall fun e w' hp => ?_
  obtain ⟨v', ρ', rfl, hv2, hA⟩ := hp
  refine ⟨v', ρ, rfl, ?_, adv_kept hw (@kept_of_adv' ⟨qSt l⟩ _ _ _ _ _ _ hA (@own00 ⟨qSt l⟩))⟩
  simp only [VRels] at hv
  obtain ⟨x, xs, e, h1, _⟩ := hv
  simp only [VRel] at h1 hv2 ⊢
  refine ⟨h1.1, ?_⟩
  rw [hv2.2.1]
  show Value.string (bytesI (List.replicate l (97 : Int))) = _
  rw [hstr]
end
end Go.Ev
