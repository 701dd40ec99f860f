import Derived.Test.YtldcnedpfagliaaGreatDoorEvI
set_option linter.all false
namespace Go.Ev
/- Assertions, picks, maps, closures. -/
section
variable {ρ : Env} {a : W} {w : World}
theorem holds_ok (hw : WRel ρ a w) {v : AV} {v' : Value} {ok : Bool} {s : Sem Value} (h : VRel ρ v v') (hs : s.run PP w = .ok (if ok then .tuple #[v', .bool true] else v') w) :
    VOK ρ a w s (.val (if ok = true then .tuple [v, .bool true] else v) a) := by
  refine VOK.here hw hs ?_
  cases ok
  · exact h
  · show VRel ρ (.tuple [v, .bool true]) (.tuple #[v', .bool true])
    simp only [VRel]
    refine ⟨_, rfl, ?_⟩
    simp only [VRels]
    exact ⟨_, _, rfl, h, _, _, rfl, by simp only [VRel], rfl⟩
theorem isIface_true {t : TypeId} (h : isIface t = true) : ∃ ms, undOf t = some (.interface ms) := by
  unfold isIface at h; split at h
  · rename_i ms hu; exact ⟨ms, hu⟩
  · cases h
theorem assert_ok (hw : WRel ρ a w) {x : AV} {x' : Value} {xt t : TypeId} {ok : Bool} (h : VRel ρ x x') : VOK ρ a w (Instr.typeAssert x' xt t ok) (evAssert x t ok a) := by
  unfold evAssert
  simp only [bc_eq]
  split
  · simp only [VRel] at h; subst h
    split <;> try trivial
    rename_i hs
    obtain ⟨d, hu⟩ := Option.isSome_iff_exists.1 hs
    split <;> try trivial
    rename_i hok; subst hok
    refine zero_pair hw fun i z hi hz => ?_
    simp only [Instr.typeAssert, Sem.run_bind, run_und hu, Result.andThen_ok]
    cases d <;> simp only [if_true, Sem.run_bind, run_zero hi hz, Result.andThen_ok, Sem.run_pure]
  · rename_i dt v
    simp only [VRel] at h; obtain ⟨v', rfl, hv⟩ := h
    split <;> try trivial
    · rename_i hA
      unfold asserts at hA
      split at hA
      · rename_i want hu
        rw [Option.map_eq_some_iff] at hA
        obtain ⟨i, hi, hm⟩ := hA
        have hi := infoOf_eq hi
        have hf : isIface t = true := by unfold isIface; rw [hu]
        rw [hf, if_pos rfl]
        have hm : Instr.missingMethod want i.methods = none := by simpa using hm
        refine holds_ok hw (v := .iface dt v) (v' := .iface dt v') (by simp only [VRel]; exact ⟨v', rfl, hv⟩) ?_
        simp only [Instr.typeAssert, Sem.run_bind, run_und hu, Result.andThen_ok, run_info hi, hm, Sem.run_pure]
      · rename_i d hne hu
        have hf : isIface t = false := by unfold isIface; rw [hu]; cases d <;> first | rfl | exact absurd rfl (hne _)
        rw [hf]
        simp only [Bool.false_eq_true, if_false]
        simp only [Option.some.injEq] at hA
        have hA := Nat.eq_of_beq_eq_true hA
        subst hA
        refine holds_ok hw hv ?_
        simp only [Instr.typeAssert, Sem.run_bind, run_und hu, Result.andThen_ok]
        cases d <;> first | exact absurd rfl (hne _) | simp only [if_true, Sem.run_pure]
      · cases hA
    · rename_i hA
      split <;> try trivial
      rename_i hok; subst hok
      refine zero_pair hw fun iz z hiz hz => ?_
      unfold asserts at hA
      split at hA
      · rename_i want hu
        rw [Option.map_eq_some_iff] at hA
        obtain ⟨i, hi, hm⟩ := hA
        have hi := infoOf_eq hi
        cases hmm : Instr.missingMethod want i.methods with
        | none => rw [hmm] at hm; cases hm
        | some m => simp only [Instr.typeAssert, Sem.run_bind, run_und hu, Result.andThen_ok, run_info hi, hmm, if_true, run_zero hiz hz, Sem.run_pure]
      · rename_i d hne hu
        simp only [Option.some.injEq] at hA
        have hA : ¬ dt = t := by intro e; subst e; simp at hA
        simp only [Instr.typeAssert, Sem.run_bind, run_und hu, Result.andThen_ok]
        cases d <;> first | exact absurd rfl (hne _) | simp only [hA, if_false, if_true, Sem.run_bind, run_zero hiz hz, Result.andThen_ok, Sem.run_pure]
      · cases hA
  · trivial
theorem pick_ok (hw : WRel ρ a w) {c x y : AV} {c' x' y' : Value} (hc : VRel ρ c c') (hx : VRel ρ x x') (hy : VRel ρ y y') :
    VOK ρ a w (do pure (if ← asBool c' then x' else y')) (evPick c x y a) := by
  unfold evPick
  split <;> try trivial
  rename_i b
  simp only [VRel] at hc; subst hc
  refine VOK.here hw (v' := if b then x' else y') (by simp only [asBool, Sem.run_bind, Sem.run_pure, Result.andThen_ok]) ?_
  cases b
  · exact hy
  · exact hx
theorem makeMap_ok (hw : WRel ρ a w) {t : TypeId} {r : Option AV} {r' : Option Value} (hr : match r with | some x => ∃ x', r' = some x' ∧ VRel ρ x x' | none => r' = none) :
    VOK ρ a w (Instr.makeMap t r') (evMakeMap t r a) := by
  have key : ∀ s : Sem Value, s.run PP w = (do pure (.map (some (← newObj (.map #[] 0)))) : Sem Value).run PP w → VOK ρ a w s (wnew (.map []) .map a) := by
    intro s hs
    refine wnew_ok hw (obj := .map #[] 0) (f' := fun c => .map (some c)) ?_ ?_ ?_
    · exact ⟨#[], 0, rfl, by simp only [ERel]⟩
    · intro ρ' k c hk; simp only [VRel]; exact ⟨c, hk, rfl⟩
    · rw [hs]; simp only [Sem.run_bind, run_newObj, Result.andThen_ok, Sem.run_pure]; rfl
  unfold evMakeMap
  split
  · dsimp only at hr; subst hr
    exact key _ (by simp only [Instr.makeMap, Sem.run_bind, Result.andThen_ok, Sem.run_pure])
  · dsimp only at hr; obtain ⟨x', rfl, hx⟩ := hr
    split <;> try trivial
    rename_i hu
    simp only [VRel] at hx; subst hx
    exact key _ (by simp only [Instr.makeMap, Sem.run_bind, run_und hu, asInt, asIntOf, Result.andThen_ok, Sem.run_pure])
theorem makeFunc_ok (hw : WRel ρ a w) {fn : Fn} {f c : List AV} {f' c' : Array Value} (hf : VRels ρ f f'.toList) (hc : VRels ρ c c'.toList) : VOK ρ a w (Instr.makeFunc fn f' c') (bc (plainFn fn) (.val (.func fn f c) a) (.no 175)) := by
  rw [bc_eq]
  split <;> try trivial
  rename_i hp
  refine VOK.here hw (v' := .func fn f' c') (by simp only [Instr.makeFunc, Sem.run_pure]) ?_
  simp only [VRel]; exact ⟨_, _, _, rfl, FnRel.refl (by rintro n rfl; cases hp), hf, hc⟩
theorem cap_nil (hw : WRel ρ a w) {t ty : TypeId} {ts : Array TypeId} {e : TypeId} {x' : Value} (h0 : ts[0]? = some t) (hu : undOf t = some (.slice e)) (hx : VRel ρ .nilSlice x') : VOK ρ a w (Builtin.cap_ ts ty #[x']) (.val (.int .i64 0) a) := by
  simp only [VRel] at hx; subst hx
  exact VOK.here hw (by simp only [Builtin.cap_, h0, List.getElem?_toArray, List.getElem?_cons_zero, Sem.run_bind, run_und hu, Result.andThen_ok, Sem.run_pure]; rfl) (rel_int rfl)
end
end Go.Ev
