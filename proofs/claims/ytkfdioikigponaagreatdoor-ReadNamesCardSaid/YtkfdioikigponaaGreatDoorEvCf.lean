import Derived.Test.YtkfdioikigponaaGreatDoorEvDf
set_option linter.all false
namespace Go.Ev
/- Control: sound. -/
section
variable {ρ : Env} {nt : Nat} {d : Bool} {c₀ : Frame} {cs₀ : List Frame} {τ : F} {ds : List AD} {um : UM} {aw : W} {a : Act} {cs : List Frame} {w : World}
theorem post_then {r1 : R} {Q : Exit → Act → List Frame → World → Prop} {next : Act → List Frame → World → Prop} {e : Exit} {a' : Act} {cs' : List Frame} {w' : World}
    (hn : ∀ τ' ds' um' aw', r1 = .n (.mk τ' ds' um' aw') → Aft ρ aw w nt d c₀ cs₀ (.mk τ' ds' um' aw') a' cs' w' → next a' cs' w')
    (ho : (∀ S, r1 ≠ .n S) → Q e a' cs' w') (hp : Post ρ aw w nt d c₀ cs₀ r1 e a' cs' w') : Exit.thenS next Q e a' cs' w' := by
  cases r1 with
  | n S =>
    obtain ⟨τ', ds', um', aw'⟩ := S
    obtain ⟨rfl, hp⟩ := hp
    exact hn τ' ds' um' aw' rfl hp
  | x id S => obtain ⟨rfl, _⟩ := hp; exact ho (fun S h => by cases h)
  | r S => obtain ⟨rfl, _⟩ := hp; exact ho (fun S h => by cases h)
  | p ch S => obtain ⟨τ', ds', um', aw'⟩ := S; obtain ⟨ch', ρ', rfl, _⟩ := hp; exact ho (fun S h => by cases h)
  | no _ _ => exact hp.elim
theorem seqK_ok {r : R} {ih : Ih} {b : Code} {C : Ctx} (h : (seqK r ih b C).ok) : r.ok := by cases r <;> first | trivial | exact h
theorem seqK_other {r : R} {ih : Ih} {b : Code} {C : Ctx} (h : ∀ S, r ≠ .n S) : seqK r ih b C = r := by
  cases r with
  | n S => exact absurd rfl (h S)
  | _ => rfl
theorem step_ok {ih : Ih} (hs : Sound ih) : Sound (stepC ih) := by
  intro c f nt d ρ c₀ cs₀ τ ds um aw a cs w h hr
  have noloop : ∀ {Q : Exit → Act → List Frame → World → Prop} {c : Code}, (∀ b, c ≠ .loop b) → ∀ b, c = .loop b → WL d PP b Q a cs w := fun h b e => absurd e (h b)
  cases c with
  | skip => exact ⟨ws_skip ⟨rfl, ρ, Adv.refl h.wr, h⟩, noloop (fun b e => by cases e)⟩
  | region id ops draw =>
    refine ⟨?_, noloop (fun b e => by cases e)⟩
    cases draw with
    | false =>
      have hr : (evOps ops.toList ih ops.toList (.mk f nt d none) (.mk τ ds um aw)).ok := hr
      have := ops_ok hs (ops := ops) (f := f) ops.toList 0 rfl ρ τ ds um aw a cs w h hr
      refine ws_region ?_
      rw [List.range_eq_range']
      rw [Array.length_toList] at this
      exact this
    | true => exact draw_ok hs h hr
  | seq x y =>
    refine ⟨?_, noloop (fun b e => by cases e)⟩
    have hr : (seqK (ih x (.mk f nt d none) (.mk τ ds um aw)) ih y (.mk f nt d none)).ok := hr
    show WS d PP (.seq x y) (Post ρ aw w nt d c₀ cs₀ (seqK (ih x (.mk f nt d none) (.mk τ ds um aw)) ih y (.mk f nt d none))) a cs w
    have h1 := (hs x f nt d ρ c₀ cs₀ τ ds um aw a cs w h (seqK_ok hr)).1
    generalize ih x (.mk f nt d none) (.mk τ ds um aw) = r at hr h1
    refine ws_seq (ws_mono h1 fun e a' cs' w' hp => post_then ?_ (fun ho => by rw [seqK_other ho]; exact hp) hp)
    rintro τ' ds' um' aw' rfl ⟨ρ', hA, hS⟩
    exact ws_mono (hs y f nt d ρ' c₀ cs₀ τ' ds' um' aw' a' cs' w' hS hr).1 fun e a cs w hp => hp.trans hA
  | cond c x y =>
    refine ⟨?_, noloop (fun b e => by cases e)⟩
    have hr : (condK (evX c τ) x y ih (.mk f nt d none) (.mk τ ds um aw)).ok := hr
    show WS d PP (.cond c x y) (Post ρ aw w nt d c₀ cs₀ (condK (evX c τ) x y ih (.mk f nt d none) (.mk τ ds um aw))) a cs w
    have hv := eval_rel h c
    generalize evX c τ = v at hr hv
    cases v with
    | bool b =>
      simp only [VRel] at hv
      refine ws_cond hv ?_
      have hr : (ih (bc b x y) (.mk f nt d none) (.mk τ ds um aw)).ok := hr
      have h1 := (hs (bc b x y) f nt d ρ c₀ cs₀ τ ds um aw a cs w h hr).1
      rw [bc_eq] at h1
      show WS d PP _ (Post ρ aw w nt d c₀ cs₀ (ih (bc b x y) (.mk f nt d none) (.mk τ ds um aw))) a cs w
      rw [bc_eq]
      exact h1
    | _ => exact hr.elim
  | block id b =>
    refine ⟨?_, noloop (fun b e => by cases e)⟩
    have hr : (blockK (ih b (.mk f nt d none) (.mk τ ds um aw)) id).ok := hr
    show WS d PP (.block id b) (Post ρ aw w nt d c₀ cs₀ (blockK (ih b (.mk f nt d none) (.mk τ ds um aw)) id)) a cs w
    have h1 := hs b f nt d ρ c₀ cs₀ τ ds um aw a cs w h
    generalize ih b (.mk f nt d none) (.mk τ ds um aw) = r at hr h1
    refine ws_block (ws_mono (h1 (by cases r <;> first | trivial | exact hr)).1 fun e a' cs' w' hp => ?_)
    cases r with
    | n S => obtain ⟨rfl, hp⟩ := hp; exact ⟨rfl, hp⟩
    | x id' S =>
      obtain ⟨rfl, hp⟩ := hp
      show (if id' = id then Post ρ aw w nt d c₀ cs₀ (bc (Nat.beq id' id) (.n S) (.x id' S)) .normal a' cs' w' else Post ρ aw w nt d c₀ cs₀ (bc (Nat.beq id' id) (.n S) (.x id' S)) (.exit id') a' cs' w')
      by_cases e : id' = id
      · subst e; rw [if_pos rfl, Nat.beq_refl]; exact ⟨rfl, hp⟩
      · rw [if_neg e, bc_eq, if_neg (fun x => e (Nat.eq_of_beq_eq_true x))]; exact ⟨rfl, hp⟩
    | r S => obtain ⟨rfl, hp⟩ := hp; exact ⟨rfl, hp⟩
    | p ch S => obtain ⟨τ', ds', um', aw'⟩ := S; obtain ⟨ch', ρ', rfl, hp⟩ := hp; exact ⟨ch', ρ', rfl, hp⟩
    | no _ _ => exact hr.elim
  | loop b =>
    have hr : (seqK (ih b (.mk f nt d none) (.mk τ ds um aw)) ih (.loop b) (.mk f nt d none)).ok := hr
    show WS d PP (.loop b) (Post ρ aw w nt d c₀ cs₀ (seqK (ih b (.mk f nt d none) (.mk τ ds um aw)) ih (.loop b) (.mk f nt d none))) a cs w ∧ ∀ b', Code.loop b = .loop b' → WL d PP b' (Post ρ aw w nt d c₀ cs₀ (seqK (ih b (.mk f nt d none) (.mk τ ds um aw)) ih (.loop b) (.mk f nt d none))) a cs w
    have h1 := (hs b f nt d ρ c₀ cs₀ τ ds um aw a cs w h (seqK_ok hr)).1
    generalize ih b (.mk f nt d none) (.mk τ ds um aw) = r at hr h1
    have key := ws_loop (Q := Post ρ aw w nt d c₀ cs₀ (seqK r ih (.loop b) (.mk f nt d none))) (ws_mono h1 fun e a' cs' w' hp => post_then (next := WL d PP b (Post ρ aw w nt d c₀ cs₀ (seqK r ih (.loop b) (.mk f nt d none)))) (by
      rintro τ' ds' um' aw' rfl ⟨ρ', hA, hS⟩
      have := (hs (.loop b) f nt d ρ' c₀ cs₀ τ' ds' um' aw' a' cs' w' hS hr).2 b rfl
      intro bb k hb hro
      obtain ⟨e, a2, cs2, w2, q, r⟩ := this bb k hb hro
      exact ⟨e, a2, cs2, w2, Post.trans hA q, r⟩) (fun ho => by rw [seqK_other ho]; exact hp) hp)
    exact ⟨key.1, fun b' e => by cases e; exact key.2⟩
  | rangeFunc f' ps x y => exact hr.elim
  | exit id => exact ⟨ws_exit ⟨rfl, ρ, Adv.refl h.wr, h⟩, noloop (fun b e => by cases e)⟩
  | scope b => exact hr.elim
  | label l => exact ⟨ws_label ⟨rfl, ρ, Adv.refl h.wr, h⟩, noloop (fun b e => by cases e)⟩
  | goto l => exact hr.elim
  | ret => exact ⟨ws_ret ⟨rfl, ρ, Adv.refl h.wr, h⟩, noloop (fun b e => by cases e)⟩
  | refuse s => exact hr.elim
theorem run_ok : ∀ n, Sound (run n)
  | 0 => fun _ _ _ _ _ _ _ _ _ _ _ _ _ _ _ hr => hr.elim
  | n + 1 => step_ok (run_ok n)
end
end Go.Ev
