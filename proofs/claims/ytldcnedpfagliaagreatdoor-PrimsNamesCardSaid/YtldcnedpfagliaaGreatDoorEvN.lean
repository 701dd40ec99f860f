import Derived.Test.YtldcnedpfagliaaGreatDoorEvM
set_option linter.all false
namespace Go.Ev
/- Method calls, builtins, deferred calls. -/
def OR.at (a : W) : OR → Prop
  | .val _ w | .call _ _ w | .yld _ _ w | .pan _ w | .dfr _ w | .rcv w => w = a
  | .no _ => True
section
variable {ρ : Env} {a : W} {w : World}
theorem fresh_self : Fresh ρ a a := fun _ h1 h2 => absurd h2 (Nat.not_lt.2 h1)
theorem NOK.after {ρ' : Env} {w' : World} {s s0 : Sem Next} {r : OR} (h : Adv ρ a w ρ' a w') (hn : NOK ρ' a w' s r) (hr : r.at a) (hw : w' = w) (hρ : ρ' = ρ) (e : s0.run PP w = s.run PP w') : NOK ρ a w s0 r := by
  subst hw; subst hρ
  exact hn.of_run e.symm
theorem dispatch_eq {t : TypeId} {name : String} {f : FuncId} {o : Option TypeId} (h : dispatch t name = some (f, o)) :
    ∃ (i : TypeInfo) (m : Method) (ptr : Bool) (d : TypeDesc), PP.info? t = some i ∧ i.methods.find? (·.name == name) = some m ∧ m.func = some (f, ptr) ∧ m.path = #[] ∧ undOf t = some d ∧
      ((∃ e, d = .pointer e ∧ o = (if ptr then none else some e)) ∨ ((∀ e, d ≠ .pointer e) ∧ ptr = false ∧ o = none)) := by
  unfold dispatch at h
  split at h <;> try (cases h; done)
  rename_i m hm
  unfold methodOf at hm
  rw [Option.bind_eq_some_iff] at hm
  obtain ⟨i, hi, hm⟩ := hm
  have hi := infoOf_eq hi
  split at h <;> try (cases h; done)
  rename_i f' ptr hf hp
  have hp : m.path = #[] := by simpa using hp
  split at h <;> try (cases h; done)
  · rename_i e hu
    simp only [Option.some.injEq, Prod.mk.injEq] at h
    obtain ⟨rfl, rfl⟩ := h
    exact ⟨i, m, ptr, _, hi, hm, hf, hp, hu, .inl ⟨e, rfl, by rw [bc_eq]⟩⟩
  · rename_i d hne hu
    rw [bc_eq] at h
    split at h <;> try (cases h; done)
    rename_i hptr
    cases h
    exact ⟨i, m, ptr, d, hi, hm, hf, hp, hu, .inr ⟨hne, by simpa using hptr, rfl⟩⟩
theorem method_run {t : TypeId} {name : String} {f : FuncId} {v r : Value} {o : Option TypeId} {n : Nat} (h : dispatch t name = some (f, o))
    (hr : match o with | none => r = v | some e => (∃ ad, v = .pointer (some ad)) ∧ (Instr.loadAt e v).run PP w = .ok r w) : (Go.method (n + 1) t v name).run PP w = .ok (f, r) w := by
  obtain ⟨i, m, ptr, d, hi, hm, hf, hp, hu, hc⟩ := dispatch_eq h
  simp only [Go.method, Sem.run_bind, run_info hi, Result.andThen_ok, hm, hp, Array.toList_empty, follow, Sem.run_pure, hf]
  have key : (receiverAt t (.val v) ptr (if (#[] : Array FieldStep).isEmpty = true then some ((name.splitOn ".").getLastD name) else none)).run PP w = .ok r w := by
    rcases hc with ⟨e, rfl, ho⟩ | ⟨hne, rfl, ho⟩
    · cases ptr
      · simp only [Bool.false_eq_true, if_false] at ho
        subst ho
        obtain ⟨⟨ad, rfl⟩, hl⟩ := hr
        simp only [Instr.loadAt, Instr.sureAddr, Sem.run_bind, Sem.run_pure, Result.andThen_ok] at hl
        simp only [receiverAt, Sem.run_bind, run_und hu, Result.andThen_ok, Place.get, Sem.run_pure, Array.isEmpty_empty, if_true]
        show Result.andThen (Sem.run PP (pure (.pointer (some ad)) : Sem Value) w) _ = _
        simp only [Sem.run_pure, Result.andThen_ok, asAddr, Sem.run_bind]
        exact hl
      · simp only [if_true] at ho
        subst ho; subst hr
        simp only [receiverAt, Sem.run_bind, run_und hu, Result.andThen_ok, Place.get, Sem.run_pure]
    · subst ho; subst hr
      simp only [receiverAt, Sem.run_bind, run_und hu, Result.andThen_ok]
      cases d <;> first | exact absurd rfl (hne _) | simp only [Place.get, Sem.run_pure]
  simp only [key, Result.andThen_ok]
theorem load_pure (hw : WRel ρ a w) {b : K} {off c : Nat} (hc : ρ b = some c) (t : TypeId) {r : AV} {a' : W} (hl : evLoad t (.ptr b off) a = .val r a') : a' = a ∧ ∃ r', (Instr.loadAt t (.pointer (some ⟨c, off, none⟩))).run PP w = .ok r' w ∧ VRel ρ r r' := by
  unfold evLoad at hl
  split at hl
  · rename_i h
    obtain ⟨d, n, hd, hs, hr⟩ := aggOf_eq h
    have hagg : aggDesc d = false := by cases e : aggDesc d with | false => rfl | true => rw [e] at hr; simp at hr
    unfold ldOne at hl
    dsimp only at hl
    split at hl <;> cases hl
    rename_i hv
    obtain ⟨v', h1, h2⟩ := objGet_rel hv (hw.block rfl (objGet_ne hv) hc)
    refine ⟨rfl, v', ?_, h2⟩
    simp only [Instr.loadAt, Instr.sureAddr, loadVar, Sem.run_bind, Sem.run_pure, Result.andThen_ok, run_isAgg hd, hagg, Bool.false_eq_true, if_false, run_load, h1]
  · rename_i n h
    obtain ⟨d, m, hd, hs, hr⟩ := aggOf_eq h
    by_cases hagg : aggDesc d = true
    · rw [if_pos hagg] at hr
      injection hr with hr
      injection hr with hr
      subst hr
      unfold ldMany at hl
      dsimp only at hl
      split at hl <;> cases hl
      rename_i hv
      obtain ⟨l', h1, h2, h3⟩ := objList_rel hv (hw.block rfl (objList_ne hv) hc)
      refine ⟨rfl, .agg l'.toArray, ?_, by simp only [VRel]; exact ⟨_, rfl, by simpa using h2⟩⟩
      simp only [Instr.loadAt, Instr.sureAddr, loadVar, Sem.run_bind, Sem.run_pure, Result.andThen_ok, run_isAgg hd, hagg, if_true, run_size hs, run_cells h1 h3]
    · rw [if_neg hagg] at hr
      split at hr <;> cases hr
  · cases hl
theorem callM_ok (hw : WRel ρ a w) {x : AV} {x' : Value} {name : String} {vs : List AV} {args : Array Value} (hx : VRel ρ x x') (hv : VRels ρ vs args.toList) : NOK ρ a w (callMethod x' name args) (callM x name vs a) := by
  unfold callM
  split <;> try trivial
  rename_i t v
  simp only [VRel] at hx
  obtain ⟨v', rfl, hv'⟩ := hx
  have run : ∀ {f : FuncId} {r : Value} , (∀ n, (Go.method (n + 1) t v' name).run PP w = .ok (f, r) w) → (callMethod (.iface t v') name args).run PP w = (callFunc f (#[r] ++ args)).run PP w := by
    intro f r h
    have := h (PP.types.size + 99)
    simp only [callMethod, Sem.run_bind, run_program, Result.andThen_ok]
    rw [show PP.types.size + Made.depth = PP.types.size + 99 + 1 from rfl, this]
    rfl
  have cons : ∀ {r : AV} {r' : Value}, VRel ρ r r' → VRels ρ (r :: vs) (#[r'] ++ args).toList := by
    intro r r' h
    simp only [VRels]
    exact ⟨r', args.toList, by simp, h, hv⟩
  split <;> try trivial
  · rename_i f hd
    exact (callFn_ok hw (cons hv')).of_run (run (fun n => method_run hd rfl)).symm
  · rename_i f e hd
    split <;> try trivial
    rename_i b off
    split <;> try trivial
    rename_i r a' hl
    simp only [VRel] at hv'
    obtain ⟨c, hc, rfl⟩ := hv'
    obtain ⟨_, r', h1, h2⟩ := load_pure hw hc e hl
    exact (callFn_ok hw (cons h2)).of_run (run (fun n => method_run hd ⟨⟨_, rfl⟩, h1⟩)).symm
theorem callV_ok (hw : WRel ρ a w) {x : AV} {x' : Value} {vs : List AV} {args : Array Value} (hx : VRel ρ x x') (hv : VRels ρ vs args.toList) :
    NOK ρ a w (do let d ← Deferred.ofValue x' args; invoke d.target d.args) (callV x vs a) := by
  unfold callV
  split <;> try trivial
  · rename_i g first cap
    simp only [VRel] at hx
    obtain ⟨fn', f', c', rfl, hfn, hf, hc⟩ := hx
    obtain rfl := hfn.plain (by intro n h; cases h)
    refine (callFn_ok hw (args := (f' ++ args) ++ c') ?_).of_run ?_
    · simp only [Array.toList_append]
      exact VRels.append _ _ _ _ (VRels.append _ _ _ _ hf hv) hc
    · simp only [Deferred.ofValue, Sem.run_bind, Sem.run_pure, Result.andThen_ok, invoke]
  · rename_i name first cap
    simp only [VRel] at hx
    obtain ⟨fn', f', c', rfl, hfn, hf, hc⟩ := hx
    obtain rfl := hfn.plain (by intro n h; cases h)
    split <;> try trivial
    rename_i r rest hl
    have hall : VRels ρ (r :: rest) (f' ++ args).toList := by
      rw [← hl, Array.toList_append]; exact VRels.append _ _ _ _ hf hv
    simp only [VRels] at hall
    obtain ⟨r', rs, h1, h2, h3⟩ := hall
    have he : (f' ++ args) = #[r'] ++ rs.toArray := by
      apply Array.toList_inj.1
      rw [h1]; simp
    have hx : (#[r'] ++ rs.toArray).extract 1 (#[r'] ++ rs.toArray).size = rs.toArray := by
      apply Array.toList_inj.1
      simp
    refine (callM_ok hw (args := rs.toArray) (name := name) h2 (by simpa using h3)).of_run ?_
    simp only [Deferred.ofValue, Sem.run_bind, Sem.run_pure, Result.andThen_ok, invoke, he, hx]
    simp
  · rename_i n cap
    simp only [VRel, VRels] at hx
    obtain ⟨fn', f', c', rfl, ⟨c, hc, rfl⟩, hf, _⟩ := hx
    have hf : f' = #[] := by cases f'; simp_all
    subst hf
    refine ⟨rfl, c, args, hc, ?_, hv⟩
    simp only [Deferred.ofValue, Sem.run_bind, Sem.run_pure, Result.andThen_ok, invoke, Array.empty_append]
theorem defer_ok (hw : WRel ρ a w) {fn : Fn} (hp : ∀ n, fn ≠ .yield n) {first cap vs : List AV} {x' : Value} {args : Array Value} (hx : VRel ρ (.func fn first cap) x') (hv : VRels ρ vs args.toList) :
    NOK ρ a w (do pure (.defer (← Deferred.ofValue x' args))) (.dfr (.call fn cap (first ++ vs)) a) := by
  simp only [VRel] at hx
  obtain ⟨fn', f', c', rfl, hfn, hf, hc⟩ := hx
  obtain rfl := hfn.plain hp
  refine ⟨rfl, _, by simp only [Deferred.ofValue, Sem.run_bind, Sem.run_pure, Result.andThen_ok], c', f' ++ args, rfl, hc, ?_⟩
  rw [Array.toList_append]; exact VRels.append _ _ _ _ hf hv
theorem panic_ok (hw : WRel ρ a w) {x : AV} {x' : Value} (hx : VRel ρ x x') : NOK ρ a w (do pure (.value (← Instr.panic x'))) (evPanic x a) := by
  unfold evPanic
  split <;> try trivial
  have hx0 := hx
  simp only [VRel] at hx
  obtain ⟨v', rfl, _⟩ := hx
  exact ⟨rfl, _, rfl, hx0⟩
end
end Go.Ev
