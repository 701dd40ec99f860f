import Derived.Test.YtdeddgiacdjjdaaGreatDoorEvDf
import GoSem.ClaimChange
import GoSem.ClaimJoined
import Derived.ChangeArms
import Derived.OpenShut
set_option linter.all false
namespace Go.Ev
variable [Gv]
section
variable {ρ : Env} {nt : Nat} {d : Bool} {rk : Option K} {ro : Option Nat} {c₀ : Frame} {cs₀ : List Frame} {τ : F} {ds : List AD} {um : UM} {aw : W} {a : Act} {cs : List Frame} {w : World}
theorem afd {r1 : R} {Q : Exit → Act → List Frame → World → Prop} {next : Act → List Frame → World → Prop} {e : Exit} {a' : Act} {cs' : List Frame} {w' : World}
  (hn : ∀ τ' ds' um' aw', r1 = .n (.mk τ' ds' um' aw') → Aft ρ aw w nt d c₀ cs₀ (.mk τ' ds' um' aw') a' cs' w' → next a' cs' w')
  (ho : (∀ S, r1 ≠ .n S) → Q e a' cs' w') (hp : Post ρ aw w nt d c₀ cs₀ r1 e a' cs' w') : Exit.thenS next Q e a' cs' w' := by
 cases r1 with
 | n S =>
   obtain ⟨τ', ds', um', aw'⟩ := S
   obtain ⟨rfl, hp⟩ := hp
   exact hn τ' ds' um' aw' rfl hp
 | x id S => obtain ⟨rfl, _⟩ := hp; exact ho (fun S h => by cases h)
 | r S => obtain ⟨rfl, _⟩ := hp; exact ho (fun S h => by cases h)
 | p ch S => obtain ⟨τ', ds', um', aw'⟩ := S; obtain ⟨ch', ρ', rfl, _⟩ := hp; exact ho (fun S h => by cases h)
 | no _ _ => exact hp.elim
theorem aoh {r : R} {ih : Ih} {b : Code} {C : Ctx} (h : (ada r ih b C).ok) : r.ok := by cases r <;> first | trivial | exact h
theorem adb {r : R} {ih : Ih} {b : Code} {C : Ctx} (h : ∀ S, r ≠ .n S) : ada r ih b C = r := by
 cases r with
 | n S => exact absurd rfl (h S)
 | _ => rfl
theorem K.of_of (k : K) : K.of k.num = k := by
 obtain ⟨a, b, c, d⟩ := k
 apply K.num_inj
 have la : ∀ i : I, i.num < 16 := by intro i; cases i <;> decide
 have h1 := la a; have h2 := la b; have h3 := la c; have h4 := la d
 show ((((I.of ((K.mk a b c d).num / 4096 % 16)).num * 16 + (I.of ((K.mk a b c d).num / 256 % 16)).num) * 16 + (I.of ((K.mk a b c d).num / 16 % 16)).num) * 16 + (I.of ((K.mk a b c d).num % 16)).num) = _
 rw [I.of_num _ (by omega), I.of_num _ (by omega), I.of_num _ (by omega), I.of_num _ (by omega), K.num_mk]
 omega
theorem aqc {ih : Ih} (hs : Sound ih) {f : Nat} {g : Operand} {ps : Array Tmp} {x y : Code} (h : SRel ρ nt d c₀ cs₀ τ ds um aw a cs w) (hro : RoRel ρ rk ro) (hin : rk = none → InF f (.rangeFunc g ps x y)) (hr : (afv g ps x y ih (.mk f nt d rk) (.mk τ ds um aw)).ok) :
  WS d ro f PP (.rangeFunc g ps x y) (Post ρ aw w nt d c₀ cs₀ (afv g ps x y ih (.mk f nt d rk) (.mk τ ds um aw))) a cs w := by
 obtain ⟨h0, nx⟩ := aw
 cases rk with
 | some k => exact hr.elim
 | none =>
   have hro : ro = none := hro
   subst hro
   have hcr : afv g ps x y ih (.mk f nt d none) (.mk τ ds um (.mk h0 nx)) = bc nx.isMax (.no 246 0) (bc nx.succ.isMax (.no 246 1)
    (ac1 ih f τ (.coll nx :: ds) um nx.succ (zd (evX g τ) [.func (.yield nx.succ.num) [] []] (.mk (bn nx.succ (.loop .ready none f nt τ ps.toList x y nx) (bn nx (.deferred (some [])) h0)) nx.succ.succ)))) := rfl
   rw [hcr] at hr ⊢
   cases hm : nx.isMax with
   | true => rw [hm] at hr; exact hr.elim
   | false =>
     rw [hm] at hr
     cases hm2 : nx.succ.isMax with
     | true => rw [hm2] at hr; exact hr.elim
     | false =>
       rw [hm2] at hr
       have hsucc := K.succ_num hm
       have hA1 : Adv ρ (.mk h0 nx) w (upd ρ nx w.heap.size 0) (.mk (bn nx (.deferred (some [])) h0) nx.succ) (w.alloc (.deferred (some []))) :=
        s5 (obj := .deferred (some [])) h.wr (h.cl nx (zY _)) hm rfl
       have hS1 := h.adv hA1
       have hA2 : Adv (upd ρ nx w.heap.size 0) (.mk (bn nx (.deferred (some [])) h0) nx.succ) (w.alloc (.deferred (some []))) (upd (upd ρ nx w.heap.size 0) nx.succ (w.alloc (.deferred (some []))).heap.size 0)
         (.mk (bn nx.succ (.loop .ready none f nt τ ps.toList x y nx) (bn nx (.deferred (some [])) h0)) nx.succ.succ) ((w.alloc (.deferred (some []))).alloc (.loop { state := .ready, pending := none, fn := f, tmps := a.tmps, params := ps, assign := x, body := y, defers := w.heap.size })) :=
        s5 (o := .loop .ready none f nt τ ps.toList x y nx) (obj := .loop { state := .ready, pending := none, fn := f, tmps := a.tmps, params := ps, assign := x, body := y, defers := w.heap.size }) hS1.wr (hS1.cl nx.succ (zY _)) hm2
         ⟨a.tmps, w.heap.size, rfl, bp ρ nx _ _, h.sz, h.le, hS1.fr, g, hin rfl⟩
       have hS2 := hS1.adv hA2
       have hl : (upd (upd ρ nx w.heap.size 0) nx.succ (w.alloc (.deferred (some []))).heap.size 0) nx.succ = some (w.alloc (.deferred (some []))).heap.size := bp _ _ _ _
       have hl0 : (upd (upd ρ nx w.heap.size 0) nx.succ (w.alloc (.deferred (some []))).heap.size 0) nx = some w.heap.size := by
        rw [dx _ (by intro e; rw [← e] at hsucc; omega)]; exact bp _ _ _ _
       generalize hL : (w.alloc (.deferred (some []))).heap.size = L at hA2 hS2 hl hl0
       have henter : (Instr.enterLoop f a.tmps ps x y none).run PP w = .ok (L, [{ target := .collected w.heap.size, args := #[] }]) ((w.alloc (.deferred (some []))).alloc (.loop { state := .ready, pending := none, fn := f, tmps := a.tmps, params := ps, assign := x, body := y, defers := w.heap.size })) := by
        simp only [Instr.enterLoop, zR, run_newObj, zQ, zT]
        rw [← hL]
        rfl
       generalize hw2 : (w.alloc (.deferred (some []))).alloc (.loop { state := .ready, pending := none, fn := f, tmps := a.tmps, params := ps, assign := x, body := y, defers := w.heap.size }) = w2 at hA2 hS2 henter
       generalize hρ2 : upd (upd ρ nx w.heap.size 0) nx.succ L 0 = ρ2 at hA2 hS2 hl hl0
       have hyv : VRels ρ2 [.func (.yield nx.succ.num) [] []] (#[Value.func (.yield L) #[] #[]] : Array Value).toList := by
        simp only [VRels, VRel]
        refine ⟨_, [], rfl, ⟨.yield L, #[], #[], rfl, ⟨L, ?_, rfl⟩, rfl, rfl⟩, rfl⟩
        rw [K.of_of]; exact hl
       have hN := ah3 hS2.wr (abv hS2 g) hyv
       have hAA := hA1.trans hA2
       have hr : (ac1 ih f τ (.coll nx :: ds) um nx.succ (zd (evX g τ) [.func (.yield nx.succ.num) [] []] (.mk (bn nx.succ (.loop .ready none f nt τ ps.toList x y nx) (bn nx (.deferred (some [])) h0)) nx.succ.succ))).ok := hr
       show WS d none f PP (.rangeFunc g ps x y) (Post ρ (.mk h0 nx) w nt d c₀ cs₀ (ac1 ih f τ (.coll nx :: ds) um nx.succ (zd (evX g τ) [.func (.yield nx.succ.num) [] []] (.mk (bn nx.succ (.loop .ready none f nt τ ps.toList x y nx) (bn nx (.deferred (some [])) h0)) nx.succ.succ)))) a cs w
       cases hcv : zd (evX g τ) [.func (.yield nx.succ.num) [] []] (.mk (bn nx.succ (.loop .ready none f nt τ ps.toList x y nx) (bn nx (.deferred (some [])) h0)) nx.succ.succ) with
       | call fid vs aw3 =>
         rw [hcv] at hN hr
         obtain ⟨ρ3, w3, args, hA3, hrun, hv⟩ := hN (hS2.cl.fresh _)
         simp only [ac1] at hr ⊢
         have hS3 : SRel ρ3 nt d c₀ cs₀ τ (.coll nx :: ds) um aw3 { a with defers := { target := .collected w.heap.size, args := #[] } :: a.defers } cs w3 := by
          have := hS2.adv hA3
          exact ⟨this.g, this.wr, this.cl, this.fr, this.sz, this.le, ⟨_, _, rfl, ⟨w.heap.size, (hA3.le _ _ hl0).1, rfl⟩, this.dr⟩, this.um⟩
         have hA13 := hAA.trans hA3
         have hl3 : ρ3 nx.succ = some L := (hA3.le _ _ hl).1
         generalize he : enter ih fid vs aw3 = r at hr
         have hok : r.ok := by cases r <;> first | trivial | exact hr
         have hC : Calls PP fid args w3 (CPost ρ3 aw3 w3 r) := by
          rw [← he]
          exact oz hs hS3.g hS3.wr hS3.cl hv (by rw [he]; exact hok)
         intro b k hb hr1 hf1
         have hstep : step PP (lone (b.atR a (.code (.rangeFunc g ps x y) :: k)) cs w) =
           .next (lone (Frame.enter PP fid args .normal) (b.atR { a with defers := { target := .collected w.heap.size, args := #[] } :: a.defers } (.inRangeFunc L :: k) :: cs) w3) := by
          simp only [zR] at hrun
          cases hd : (Deferred.ofValue (a.eval g) #[Value.func (.yield L) #[] #[]]).run PP w2 with
          | halt _ _ => rw [hd] at hrun; cases hrun
          | ok dd w2' =>
            rw [hd] at hrun
            simp only [zQ] at hrun
            refine stepR_rangeFunc (mark := [{ target := .collected w.heap.size, args := #[] }]) (d := dd) (w₁ := w2) (w₁' := w2') ?_ ?_ hrun
            ·rw [hf1, hr1]; exact henter
            ·simp only [resolve, rangeCall, List.map_toArray, List.map_cons, List.map_nil]
             exact hd
         obtain ⟨e, w4, fr, hR, hsteps, _, hleave⟩ := hC (b.atR { a with defers := { target := .collected w.heap.size, args := #[] } :: a.defers } (.inRangeFunc L :: k) :: cs)
         cases r with
         | no => exact hR.elim
         | pan ch aw4 =>
           obtain ⟨ch', ρ4, rfl, hch, hA4⟩ := hR
           refine ⟨.panic ch', _, cs, w4, ⟨ch', ρ4, rfl, hch, hA13.trans hA4, hS3.adv hA4⟩, .inRangeFunc L :: k, .head hstep (hsteps.trans (.one ?_))⟩
           rw [← Frame.raise_atR]; exact step_leave_panicked hleave
         | ret v aw4 =>
           obtain ⟨v', ρ4, rfl, hv', hA4⟩ := hR
           have hS4 := hS3.adv hA4
           have hl4 : ρ4 nx.succ = some L := (hA4.le _ _ hl3).1
           have hback : Steps PP (lone (b.atR a (.code (.rangeFunc g ps x y) :: k)) cs w) (lone (b.atR { a with defers := { target := .collected w.heap.size, args := #[] } :: a.defers } (.endRangeFunc L :: k)) cs w4) := by
            refine .head hstep (hsteps.trans (.one ?_))
            have := step_leave_returned (c := b.atR { a with defers := { target := .collected w.heap.size, args := #[] } :: a.defers } (.inRangeFunc L :: k)) (cs := cs) hleave
            exact this
           simp only [azh] at hr ⊢
           cases hg4 : bz nx.succ aw4 with
           | loop st pend fn5 nt5 τ5 ps5 x5 y5 kd5 =>
             rw [hg4] at hr
             dsimp only at hr ⊢
             obtain ⟨tmps5, cd5, q1, q2, q3, q4, q5⟩ := xf hS4.wr hl4 hg4
             have hA5 := acg (st' := .exhausted) (pend' := pend) hS4.wr hl4 hg4 q1 q2 q3 q4 q5
             have hS5 := hS4.adv hA5
             have hfin := hA13.trans (hA4.trans hA5)
             have hend : st ≠ .busy → (Instr.endLoop L).run PP w4 = .ok pend { w4 with heap := w4.heap.setIfInBounds L (.loop { state := .exhausted, pending := pend, fn := fn5, tmps := tmps5, params := ps5.toArray, assign := x5, body := y5, defers := cd5 }) } := by
              intro hst
              have hb : (st == LoopState.busy) = false := by cases st <;> first | rfl | exact absurd rfl hst
              simp only [Instr.endLoop, Instr.getLoop, zR, bt q1 (by simp), zQ, zT, hb, zF, if_false, ea q1 (by simp)]
             have hst : st ≠ .busy := by rintro rfl; exact hr.elim
             have hbc : ∀ (u v : R), bc (ast st) u v = v := by intro u v; cases st <;> first | rfl | exact absurd rfl hst
             rw [hbc] at hr ⊢
             have hgo := stepR_endRangeFunc (b := b) (a := { a with defers := { target := .collected w.heap.size, args := #[] } :: a.defers }) (k := k) (cs := cs) (hend hst)
             cases pend with
             | none => exact ⟨.normal, _, cs, _, ⟨rfl, ρ4, hfin, hS5⟩, hback.trans (.one hgo)⟩
             | some j =>
               cases j with
               | exit id =>
                 have hgo : step PP _ = .next (lone (b.atR _ (.code (.exit id) :: k)) cs _) := hgo
                 exact ⟨.exit id, _, cs, _, ⟨rfl, ρ4, hfin, hS5⟩, fun k' hk => hback.trans (.head hgo (.one (stepR_exit hk))), fun hn => ⟨k, hn, hback.trans (.one hgo)⟩⟩
               | ret =>
                 have hgo : step PP _ = .next (lone (b.atR _ (.code .ret :: k)) cs _) := hgo
                 exact ⟨.ret, _, cs, _, ⟨rfl, ρ4, hfin, hS5⟩, k, hback.trans (.one hgo)⟩
               | _ => exact hr.elim
           | _ => rw [hg4] at hr; exact hr.elim
       | _ => rw [hcv] at hr; exact hr.elim
theorem ai8 {ih : Ih} (hs : Sound ih) {f : Nat} {b : Code} (h : SRel ρ nt d c₀ cs₀ τ ds um aw a cs w) (hro : RoRel ρ rk ro) (hin : rk = none → InF f (.loop b)) (hr : (xy b ih (.mk f nt d rk) (.mk τ ds um aw)).ok) :
  WS d ro f PP (.loop b) (Post ρ aw w nt d c₀ cs₀ (xy b ih (.mk f nt d rk) (.mk τ ds um aw))) a cs w ∧ WL d ro f PP b (Post ρ aw w nt d c₀ cs₀ (xy b ih (.mk f nt d rk) (.mk τ ds um aw))) a cs w := by
 have hr : (ada (ih b (.mk f nt d rk) (.mk τ ds um aw)) ih (.loop b) (.mk f nt d rk)).ok := hr
 show WS d ro f PP (.loop b) (Post ρ aw w nt d c₀ cs₀ (ada (ih b (.mk f nt d rk) (.mk τ ds um aw)) ih (.loop b) (.mk f nt d rk))) a cs w ∧ WL d ro f PP b (Post ρ aw w nt d c₀ cs₀ (ada (ih b (.mk f nt d rk) (.mk τ ds um aw)) ih (.loop b) (.mk f nt d rk))) a cs w
 have h1 := (hs.go b f nt d rk ro ρ c₀ cs₀ τ ds um aw a cs w h hro (fun e => (hin e).sub fun _ => .loop) (aoh hr)).1
 generalize ih b (.mk f nt d rk) (.mk τ ds um aw) = r at hr h1
 exact a3t (Q := Post ρ aw w nt d c₀ cs₀ (ada r ih (.loop b) (.mk f nt d rk))) (qv h1 fun e a' cs' w' hp => afd (next := WL d ro f PP b (Post ρ aw w nt d c₀ cs₀ (ada r ih (.loop b) (.mk f nt d rk)))) (by
  rintro τ' ds' um' aw' rfl ⟨ρ', hA, hS⟩
  have := (hs.go (.loop b) f nt d rk ro ρ' c₀ cs₀ τ' ds' um' aw' a' cs' w' hS (hro.mono hA.le) hin hr).2 b rfl
  intro bb k hb hr1 hf1
  obtain ⟨e, a2, cs2, w2, q, r⟩ := this bb k hb hr1 hf1
  exact ⟨e, a2, cs2, w2, Post.trans hA q, r⟩) (fun ho => by rw [adb ho]; exact hp) hp)
theorem a3n {ih : Ih} (hs : Sound ih) : Sound ⟨ih.hook, a4b ih, ih.lp⟩ := by
 refine ⟨hs.hook, hs.lp, ?_⟩
 intro c f nt d rk ro ρ c₀ cs₀ τ ds um aw a cs w h hro hin hr
 have noloop : ∀ {Q : Exit → Act → List Frame → World → Prop} {c : Code}, (∀ b, c ≠ .loop b) → ∀ b, c = .loop b → WL d ro f PP b Q a cs w := fun h b e => absurd e (h b)
 cases c with
 | skip => exact ⟨a3u ⟨rfl, ρ, Adv.refl h.wr, h⟩, noloop (fun b e => by cases e)⟩
 | region id ops draw =>
   refine ⟨?_, noloop (fun b e => by cases e)⟩
   cases draw with
   | false =>
     have hr : (o6 ops.toList ih ops.toList (.mk f nt d rk) (.mk τ ds um aw)).ok := hr
     have := ay8 hs (ops := ops) (f := f) ops.toList 0 rfl ρ τ ds um aw a cs w h hro hr
     refine aqq ?_
     rw [List.range_eq_range']
     rw [Array.length_toList] at this
     exact this
   | true => exact a0z hs h hr
 | seq x y =>
   refine ⟨?_, noloop (fun b e => by cases e)⟩
   have hr : (ada (ih x (.mk f nt d rk) (.mk τ ds um aw)) ih y (.mk f nt d rk)).ok := hr
   show WS d ro f PP (.seq x y) (Post ρ aw w nt d c₀ cs₀ (ada (ih x (.mk f nt d rk) (.mk τ ds um aw)) ih y (.mk f nt d rk))) a cs w
   have h1 := (hs.go x f nt d rk ro ρ c₀ cs₀ τ ds um aw a cs w h hro (fun e => (hin e).sub fun _ => .seqL) (aoh hr)).1
   generalize ih x (.mk f nt d rk) (.mk τ ds um aw) = r at hr h1
   refine a59 (qv h1 fun e a' cs' w' hp => afd ?_ (fun ho => by rw [adb ho]; exact hp) hp)
   rintro τ' ds' um' aw' rfl ⟨ρ', hA, hS⟩
   exact qv (hs.go y f nt d rk ro ρ' c₀ cs₀ τ' ds' um' aw' a' cs' w' hS (hro.mono hA.le) (fun e => (hin e).sub fun _ => .seqR) hr).1 fun e a cs w hp => hp.trans hA
 | cond c x y =>
   refine ⟨?_, noloop (fun b e => by cases e)⟩
   have hr : (ark (evX c τ) x y ih (.mk f nt d rk) (.mk τ ds um aw)).ok := hr
   show WS d ro f PP (.cond c x y) (Post ρ aw w nt d c₀ cs₀ (ark (evX c τ) x y ih (.mk f nt d rk) (.mk τ ds um aw))) a cs w
   have hv := abv h c
   generalize evX c τ = v at hr hv
   cases v with
   | bool b =>
     simp only [VRel] at hv
     refine a3r hv ?_
     have hr : (ih (bc b x y) (.mk f nt d rk) (.mk τ ds um aw)).ok := hr
     have h1 := (hs.go (bc b x y) f nt d rk ro ρ c₀ cs₀ τ ds um aw a cs w h hro (fun e => (hin e).sub fun z hz => by cases b <;> first | exact .condT hz | exact .condF hz) hr).1
     rw [aa] at h1
     show WS d ro f PP _ (Post ρ aw w nt d c₀ cs₀ (ih (bc b x y) (.mk f nt d rk) (.mk τ ds um aw))) a cs w
     rw [aa]
     exact h1
   | _ => exact hr.elim
 | block id b =>
   refine ⟨?_, noloop (fun b e => by cases e)⟩
   have hr : (akw (ih b (.mk f nt d rk) (.mk τ ds um aw)) id).ok := hr
   show WS d ro f PP (.block id b) (Post ρ aw w nt d c₀ cs₀ (akw (ih b (.mk f nt d rk) (.mk τ ds um aw)) id)) a cs w
   have h1 := hs.go b f nt d rk ro ρ c₀ cs₀ τ ds um aw a cs w h hro (fun e => (hin e).sub fun _ => .block)
   generalize ih b (.mk f nt d rk) (.mk τ ds um aw) = r at hr h1
   refine az8 (qv (h1 (by cases r <;> first | trivial | exact hr)).1 fun e a' cs' w' hp => ?_)
   cases r with
   | n S => obtain ⟨rfl, hp⟩ := hp; exact ⟨rfl, hp⟩
   | x id' S =>
     obtain ⟨rfl, hp⟩ := hp
     show (if id' = id then Post ρ aw w nt d c₀ cs₀ (bc (Nat.beq id' id) (.n S) (.x id' S)) .normal a' cs' w' else Post ρ aw w nt d c₀ cs₀ (bc (Nat.beq id' id) (.n S) (.x id' S)) (.exit id') a' cs' w')
     by_cases e : id' = id
     ·subst e; rw [if_pos rfl, Nat.beq_refl]; exact ⟨rfl, hp⟩
     ·rw [if_neg e, aa, if_neg (fun x => e (zW x))]; exact ⟨rfl, hp⟩
   | r S => obtain ⟨rfl, hp⟩ := hp; exact ⟨rfl, hp⟩
   | p ch S => obtain ⟨τ', ds', um', aw'⟩ := S; obtain ⟨ch', ρ', rfl, hp⟩ := hp; exact ⟨ch', ρ', rfl, hp⟩
   | no _ _ => exact hr.elim
 | loop b =>
   have hr : (an5 (ih.lp (.mk f nt d rk) b (.mk τ ds um aw)) b ih (.mk f nt d rk) (.mk τ ds um aw)).ok := hr
   show WS d ro f PP (.loop b) (Post ρ aw w nt d c₀ cs₀ (an5 (ih.lp (.mk f nt d rk) b (.mk τ ds um aw)) b ih (.mk f nt d rk) (.mk τ ds um aw))) a cs w ∧ ∀ b', Code.loop b = .loop b' →
    WL d ro f PP b' (Post ρ aw w nt d c₀ cs₀ (an5 (ih.lp (.mk f nt d rk) b (.mk τ ds um aw)) b ih (.mk f nt d rk) (.mk τ ds um aw))) a cs w
   cases hl : ih.lp (.mk f nt d rk) b (.mk τ ds um aw) with
   | some r =>
     rw [hl] at hr
     obtain ⟨hk, key⟩ := hs.lp f nt d rk b τ ds um aw r hl hr
     subst hk
     have hro : ro = none := hro
     subst hro
     have key := key (hin rfl) ρ c₀ cs₀ a cs w h
     exact ⟨key.1, fun b' e => by cases e; exact key.2⟩
   | none =>
     rw [hl] at hr
     have key := ai8 hs h hro hin hr
     exact ⟨key.1, fun b' e => by cases e; exact key.2⟩
 | rangeFunc g ps x y => exact ⟨aqc hs h hro hin hr, noloop (fun b e => by cases e)⟩
 | exit id => exact ⟨a3s ⟨rfl, ρ, Adv.refl h.wr, h⟩, noloop (fun b e => by cases e)⟩
 | scope b => exact hr.elim
 | label l => exact ⟨az9 ⟨rfl, ρ, Adv.refl h.wr, h⟩, noloop (fun b e => by cases e)⟩
 | goto l => exact hr.elim
 | ret => exact ⟨a58 ⟨rfl, ρ, Adv.refl h.wr, h⟩, noloop (fun b e => by cases e)⟩
 | refuse s => exact hr.elim
theorem ag8 {H : akt} (hH : xr H) {L : aav} (hL : aot L) : ∀ n, Sound (ajx H L n)
 | 0 => ⟨hH, hL, fun _ _ _ _ _ _ _ _ _ _ _ _ _ _ _ _ _ _ _ hr => hr.elim⟩
 | n + 1 => a3n (ag8 hH hL n)
end
end Go.Ev
set_option linter.all false
namespace Go.Ev
variable [Gv]
theorem pp_eq : PP = Go.Proofs.Tryz.prog := by unfold PP; rfl
theorem K.of_num' {x : Nat} (h : x < 65536) : (K.of x).num = x := by
 show ((((I.of (x / 4096 % 16)).num * 16 + (I.of (x / 256 % 16)).num) * 16 + (I.of (x / 16 % 16)).num) * 16 + (I.of (x % 16)).num) = x
 rw [I.of_num _ (by omega), I.of_num _ (by omega), I.of_num _ (by omega), I.of_num _ (by omega)]
 omega
noncomputable def aqn (k : K) : List LE → Nat
 | [] => 0
 | .mk g cs :: l => if K.of g = k then cs.length else aqn k l
noncomputable def ρ00 : Env := { blk := fun k => if k.num ≤ 255 then some k.num else none, sz := fun k => aqn k laidL }
theorem ab7 : GRel ρ00 := by
 intro g hg
 show (if (K.of g).num ≤ 255 then some (K.of g).num else none) = some g
 rw [K.of_num' (by omega), if_pos hg]
theorem a0p : Clean ρ00 wS := by
 intro k hk
 have hk : (K.of 256).num ≤ k.num := hk
 rw [K.of_num' (by omega)] at hk
 show (if k.num ≤ 255 then some k.num else none) = none
 rw [if_neg (by omega)]
theorem mf (k : K) : ∀ l, ac k (kc l) ≠ .none → ∃ g cs, LE.mk g cs ∈ l ∧ k = K.of g ∧ ac k (kc l) = .ro (Nat.succ g) (bl cs) (kh cs 0 (gx (bl cs))) ∧ aqn k l = cs.length
 | [], h => absurd (apu k) h
 | .mk g cs :: l, h => by
   simp only [kc] at h ⊢
   by_cases e : k = K.of g
   ·subst e
    exact ⟨g, cs, by simp, rfl, by rw [af], by simp [aqn]⟩
   ·rw [ak e] at h ⊢
    obtain ⟨g', cs', h1, h2, h3, h4⟩ := mf k l h
    refine ⟨g', cs', zA _ h1, h2, h3, ?_⟩
    simp only [aqn]
    rw [if_neg (fun x => e x.symm), h4]
theorem gg : ∀ l, pe l = true → ∀ g cs, LE.mk g cs ∈ l → g ≤ 255 ∧ aik cs = true ∧ cs.length ≤ 65536
 | [], _, _, _, h => by cases h
 | .mk g cs :: l, h, g', cs', hm => by
   simp only [pe] at h
   obtain ⟨h1, h2⟩ := bc_and.1 h
   simp only [zU] at h1
   obtain ⟨⟨p1, p2⟩, p3⟩ := h1
   rcases List.mem_cons.1 hm with e | e
   ·injection e with e1 e2
    subst e1 e2
    rw [ao] at p3
    exact ⟨zE p1, p2, zE p3⟩
   ·exact gg l h2 g' cs' e
theorem fo : pe laidL = true := by kernel_rfl
theorem ai3 (k : K) : ay (ac k (kc laidL)) = none := by
 by_cases e : ac k (kc laidL) = .none
 ·rw [e]; rfl
 ·obtain ⟨g, cs, h1, h2, h3, h4⟩ := mf k laidL e
  rw [h3]; rfl
theorem a57 {w : World} (hl : LaidIn laidL w) : WRel ρ00 wS w := by
 refine ⟨?_, ?_, ?_, fun k kd g hk => by have hk : ay (ac k (kc laidL)) = some (kd, g) := hk; rw [ai3] at hk; cases hk⟩
 ·intro k l hk hl' e
  obtain ⟨g, cs, h1, h2, h3, h4⟩ := mf k laidL hk
  obtain ⟨g', cs', h1', h2', h3', h4'⟩ := mf l laidL hl'
  rw [h2, h2', ab7 g (gg _ fo g cs h1).1, ab7 g' (gg _ fo g' cs' h1').1] at e
  injection e with e
  left; rw [h2, h2', e]
 ·intro k hk
  obtain ⟨g, cs, h1, h2, h3, h4⟩ := mf k laidL hk
  obtain ⟨f1, f2, f3⟩ := gg _ fo g cs h1
  obtain ⟨arr, t, fz, q1, q2⟩ := hl g cs h1
  refine ⟨g, by rw [h2]; exact ab7 g f1, ?_⟩
  show ORel ρ00 (ac k (kc laidL)) _
  have hlen := VRels.length _ _ (q2 ρ00)
  rw [h3, q1, ao]
  refine ⟨arr, t, fz, rfl, by simpa using hlen, by rw [cx]; exact f8 _ f3, fun i hi => ?_, fun g' cs' e' hm' ρ' => by
   obtain rfl : g' = g := by have : g + 1 = g' + 1 := e'; omega
   obtain ⟨arr2, t2, fz2, z1, z2⟩ := hl g' cs' hm'
   rw [q1] at z1; injection z1 with z1; injection z1 with z1; subst z1; exact z2 ρ'⟩
  obtain ⟨v, r1, r2⟩ := ot (q2 ρ00) f3 i hi
  exact ⟨v, by simpa using r1, r2⟩
 ·intro k c arr t fz hk hc hx
  obtain ⟨g, cs, h1, h2, h3, h4⟩ := mf k laidL hk
  obtain ⟨f1, f2, f3⟩ := gg _ fo g cs h1
  obtain ⟨arr', t', fz', q1, q2⟩ := hl g cs h1
  rw [h2, ab7 g f1] at hc
  injection hc with hc
  subst hc
  rw [q1] at hx
  injection hx with hx
  injection hx with hx
  subst hx
  have hlen := VRels.length _ _ (q2 ρ00)
  show _ = aqn k laidL
  rw [h4]
  simpa using hlen
theorem agq {ρ ρ' : Env} {a a' : W} {w w' : World} (h : Adv ρ a w ρ' a' w') (hn : ∀ c, ¬ Own ρ a c) : KeptW w w' :=
 ⟨h.size, fun c hc => h.frame c hc (hn c), h.os, h.tape, h.output⟩
theorem kept_but {w w' : World} (h : KeptW w w') (may : MemPlace → Prop) : w.keptBut w' may := by
 refine ⟨h.os, h.output, fun i hi => ?_⟩
 rw [h.heap i hi]
 cases w.heap[i]? with
 | none => rfl
 | some o => cases o <;> first | rfl | exact ⟨rfl, rfl, rfl, fun _ _ => rfl⟩ | exact .inr ⟨rfl, rfl⟩
theorem a8l (c : Nat) : ¬ Own ρ00 wS c := by
 rintro ⟨k, hk, hr, _⟩
 obtain ⟨g, cs, h1, h2, h3, h4⟩ := mf k laidL hk
 have hr : (ac k (kc laidL)).isRo = false := hr
 rw [h3] at hr
 cases hr
theorem fp : xr ay1 := fun _ _ _ _ h => by cases h
end Go.Ev
set_option linter.all false
namespace Go.Ev
noncomputable section
def lg (τ : F) : Nat → Nat → List AV
 | 0, _ => []
 | n + 1, i => ev i τ :: lg τ n (i + 1)
def ko : Code → Nat
 | .region id _ _ => 2 * id + 1
 | .block id _ => 2 * id + 2
 | .seq a _ => ko a
 | .loop b => ko b
 | _ => 0
def dc : Code → List (Code × Code)
 | .seq a b => dc a ++ dc b
 | .cond _ a b => dc a ++ dc b
 | .block _ a => dc a
 | .loop b => dc b
 | .rangeFunc _ _ x y => [(x, y)]
 | _ => []
def ae9 (k : Nat) : List (Code × Code) → List (Code × Code)
 | [] => []
 | c :: l => bc (Nat.beq (ko c.2) k) (c :: ae9 k l) (ae9 k l)
def a8k : List (Code × Code) → Option (Code × Code)
 | [c] => some c
 | _ => none
def ud (f k : Nat) : Option (Code × Code) := match pz f with
 | some b => a8k (ae9 k (dc b.2))
 | none => none
def ame (f k : Nat) : Code := match ud f k with
 | some b => b.1
 | none => .skip
def amf (f k : Nat) : Code := match ud f k with
 | some b => b.2
 | none => .skip
end
theorem amt {a x : Code} (h : CSub a x) : ∀ b, b ∈ dc a → b ∈ dc x := by
 induction h with
 | refl => exact fun b h => h
 | seqL _ ih => exact fun b h => ih b (by simp [dc, h])
 | seqR _ ih => exact fun b h => ih b (by simp [dc, h])
 | condT _ ih => exact fun b h => ih b (by simp [dc, h])
 | condF _ ih => exact fun b h => ih b (by simp [dc, h])
 | block _ ih => exact fun b h => ih b (by simp [dc, h])
 | loop _ ih => exact fun b h => ih b (by simp [dc, h])
theorem afa {k : Nat} {c : Code × Code} : ∀ {l : List (Code × Code)}, c ∈ l → ko c.2 = k → c ∈ ae9 k l
 | [], h, _ => by cases h
 | x :: l, h, hk => by
   simp only [ae9, aa]
   rcases List.mem_cons.1 h with rfl | h
   ·rw [if_pos (by rw [hk]; exact Nat.beq_refl k)]; exact List.mem_cons_self ..
   ·have := afa h hk
    split
    ·exact zA _ this
    ·exact this
theorem ac0 {f k : Nat} (hs : (ud f k).isSome = true) {g : Operand} {ps : Array Tmp} {x y : Code} (h : InF f (.rangeFunc g ps x y)) (hk : ko y = k) : x = ame f k ∧ y = amf f k := by
 obtain ⟨fn, b, h1, h2⟩ := h
 have hm : (x, y) ∈ ae9 k (dc b) := afa (amt h2 (x, y) (by simp [dc])) hk
 unfold ame amf
 unfold ud at hs ⊢
 rw [h1] at hs ⊢
 dsimp only at hs ⊢
 unfold a8k at hs ⊢
 split at hs
 ·rename_i c hc
  rw [hc, List.mem_singleton] at hm
  subst hm
  exact ⟨rfl, rfl⟩
 ·cases hs
end Go.Ev
set_option linter.all false
namespace Go.Ev
variable [Gv]
theorem laid_at {P : Program} {w : World} {n : String} {d : DataW Unit} : ∀ {laid : List (String × DataW Unit)} {ps : List MemPlace}, DataW.LaidVars P w laid ps → (n, d) ∈ laid →
  ∃ g t cs fuel p, P.globalNamed n = some g ∧ (P.globals[g]?).map (·.type) = some t ∧ w.var? P n = some cs ∧ DataW.trod (fun _ => ()) P w 0 (fun _ => true) false fuel t cs.toList = some (d, p)
 | [], _, _, h => by cases h
 | (n', d') :: r, _, ⟨g, t, cs, fuel, p, q, h1, h2, h3, h4, h5, _⟩, h => by
   rcases List.mem_cons.1 h with e | e
   ·injection e with e1 e2
    subst e1 e2
    exact ⟨g, t, cs, fuel, p, h1, h2, h3, h4⟩
   ·exact laid_at h5 e
theorem ints_array {P : Program} {w : World} {n : Nat} {e t : TypeId} {k : IntKind} {cs : List Value} {fuel : Nat} {zs : List Int} {p : List MemPlace} (ht : P.underlying t = some (.array n e)) (he : P.underlying e = some (.int k)) (hc : P.cellsOf e = 1) (hct : P.cellsOf t = n)
  (h : DataW.trod (fun _ => ()) P w 0 (fun _ => true) false fuel t cs = some (.agg (zs.map fun z => .lit (.int k z)), p)) : cs = zs.map fun z => .int k z := by
 obtain ⟨xs, m, _, hx, hl, hn, hf⟩ := DataW.trod_array ht h
 injection hx with hx _
 injection hx with hx
 have hlen : zs.length = n := by rw [← hn, ← List.length_map (f := fun x : DataW Unit × List MemPlace => x.1), ← hx, List.length_map]
 apply List.ext_getElem
 ·rw [hl, hct, List.length_map, hlen]
 ·intro i h1 h2
  have hi : i < n := by rw [hl, hct] at h1; exact h1
  have := hf i hi
  rw [hc, Nat.mul_one] at this
  rw [zK (by omega)] at this
  obtain ⟨z, q1, q2, _⟩ := DataW.trod_int he this
  have q3 : (cs.drop i).take 1 = [cs[i]] := by rw [List.drop_eq_getElem_cons h1]; rfl
  rw [q3] at q1
  injection q1 with q1 _
  have q4 : (xs.map (·.1))[i]'(by simp; omega) = .lit (.int k z) := by rw [List.getElem_map, q2]
  have q5 : (zs.map fun z => (DataW.lit (.int k z) : DataW Unit))[i]'(by simp; omega) = .lit (.int k z) := by
   rw [← q4]; congr 1
  rw [List.getElem_map] at q5
  rw [q1, List.getElem_map]
  injection q5 with q5
  injection q5 with _ q5
  rw [q5]
theorem aix {P : Program} {w : World} {fs : Array Field} {t : TypeId} {k : IntKind} {cs : List Value} {fuel : Nat} {zs : List Int} {p : List MemPlace} (ht : P.underlying t = some (.struct fs))
  (hfs : ∀ (i : Nat) (f : Field), fs[i]? = some f → f.offset = i ∧ P.cellsOf f.type = 1 ∧ P.underlying f.type = some (.int k)) (hct : P.cellsOf t = fs.size)
  (h : DataW.trod (fun _ => ()) P w 0 (fun _ => true) false fuel t cs = some (.agg (zs.map fun z => .lit (.int k z)), p)) : cs = zs.map fun z => .int k z := by
 obtain ⟨xs, m, _, hx, hl, hn, hf⟩ := DataW.trod_struct ht h
 injection hx with hx _
 injection hx with hx
 have hlen : zs.length = fs.size := by rw [← hn, ← List.length_map (f := fun x : DataW Unit × List MemPlace => x.1), ← hx, List.length_map]
 apply List.ext_getElem
 ·rw [hl, hct, List.length_map, hlen]
 ·intro i h1 h2
  have hi : i < fs.size := by rw [hl, hct] at h1; exact h1
  have hfi : fs[i]? = some fs[i] := Array.getElem?_eq_getElem hi
  have := hf i _ hfi
  obtain ⟨g1, g2, g3⟩ := hfs i _ hfi
  rw [g1, g2] at this
  rw [zK (by omega)] at this
  obtain ⟨z, q1, q2, _⟩ := DataW.trod_int g3 this
  have q3 : (cs.drop i).take 1 = [cs[i]] := by rw [List.drop_eq_getElem_cons h1]; rfl
  rw [q3] at q1
  injection q1 with q1 _
  have q4 : (xs.map (·.1))[i]'(by simp; omega) = .lit (.int k z) := by rw [List.getElem_map, q2]
  have q5 : (zs.map fun z => (DataW.lit (.int k z) : DataW Unit))[i]'(by simp; omega) = .lit (.int k z) := by
   rw [← q4]; congr 1
  rw [List.getElem_map] at q5
  rw [q1, List.getElem_map]
  injection q5 with q5
  injection q5 with _ q5
  rw [q5]
theorem ints_rel (ρ : Env) (k : IntKind) : ∀ (zs : List Int), VRels ρ (zs.map fun z => .int k z) (zs.map fun z => .int k z)
 | [] => by simp [VRels]
 | z :: zs => by simp only [List.map_cons, VRels]; exact ⟨_, _, rfl, by simp only [VRel], ints_rel ρ k zs⟩
end Go.Ev
set_option linter.all false
namespace Go.Ev
variable [Gv]
noncomputable section
def aap (f : AV → AV → Bool) : List (AV × AV) → List (AV × AV) → Bool
 | [], [] => true
 | a :: l, b :: m => bc (f a.1 b.1) (bc (f a.2 b.2) (aap f l m) false) false
 | _, _ => false
inductive LO where
 | cells (t : TypeId) (ext : Bool) (fl fh : Nat) (l : List AV)
 | map (es : List (AV × AV))
 | win (kb : Nat) (l : List AV)
 | gob (o : GO)
 | gp (ro : Bool) (t : TypeId) (n : SE) (g : GE) (ps : List GP)
 | loop (fn nt id : Nat) (l : List AV) (ps : List Nat) (kd : K)
def ao0 : Bool → Bool → Bool
 | true, b => b
 | false, b => !b
def dh : LO → AObj
 | .cells t e fl fh l => .cells t (bl l) e fl fh (kh l 0 (gx (bl l)))
 | .map es => .map es
 | .win kb l => .win (K.of kb) l
 | .gob g => .gob g
 | .gp ro t n g ps => .gp ro t n g ps
 | .loop fn nt id l ps kd => .loop .ready none fn nt (na l 0 lr) ps (ame fn id) (amf fn id) kd
def ayd : List IntKind → List IntKind → Bool
 | [], [] => true
 | a :: l, b :: m => bc (nb a b) (ayd l m) false
 | _, _ => false
def a5a : GO → GO → Bool
 | .gh t ks n g, .gh t' ks' n' g' => Nat.beq t t' && ayd ks ks' && dk n n' && kr g g'
 | .junk t, .junk t' => Nat.beq t t'
 | .gmap m, .gmap m' => kr m m'
 | .lh k g, .lh k' g' => Nat.beq k k' && kr g g'
 | .rh o n g, .rh o' n' g' => dk o o' && dk n n' && kr g g'
 | .rb o n g, .rb o' n' g' => dk o o' && dk n n' && kr g g'
 | .iter g p A, .iter g' p' A' => kr g g' && dk p p' && ly A A'
 | _, _ => false
inductive HO where
 | mk (k : Nat) (o : LO)
def ae : List HO → H4
 | [] => kc laidL
 | .mk k o :: l => bn (K.of k) (dh o) (ae l)
def wnx (w : W) : K := match w with
 | .mk _ nx => nx
def bf (L : List HO) (nx : Nat) : W := .mk (ae L) (K.of nx)
inductive HW where
 | mk (f : FuncId) (vs : List AV) (nxi : Nat) (Li : List HO) (v : AV) (nxo : Nat) (Lo : List HO)
end
theorem acs {f : AV → AV → Bool} (hf : ∀ a b, f a b = true → a = b) : ∀ l m, aap f l m = true → l = m
 | [], [], _ => rfl
 | [], _ :: _, h => by cases h
 | _ :: _, [], h => by cases h
 | a :: l, b :: m, h => by
   simp only [aap] at h
   obtain ⟨h1, h⟩ := bc_and.1 h
   obtain ⟨h2, h3⟩ := bc_and.1 h
   rw [acs hf l m h3, show a = b from Prod.ext (hf _ _ h1) (hf _ _ h2)]
structure Sub (a' a : W) : Prop where
 nx : a'.nx = a.nx
 at_ : ∀ k, ac k a'.h ≠ .none → ac k a.h ≠ .none ∧ (ac k a'.h).isRo = (ac k a.h).isRo ∧ ∀ ρ x, ORel ρ (ac k a.h) x → ORel ρ (ac k a'.h) x
 lh : ∀ k kd g, ay (ac k a'.h) = some (kd, g) → ∃ g', ay (ac k a.h) = some (kd, g') ∧ g.eval Gv.σ = g'.eval Gv.σ
section
variable {ρ ρ' : Env} {a a' a2 : W} {w w' : World}
theorem Sub.ghost (s : Sub a' a) {k : K} (h : ay (ac k a'.h) ≠ none) : ay (ac k a.h) ≠ none := by
 obtain ⟨⟨kd, g⟩, hkg⟩ := Option.ne_none_iff_exists'.1 h
 obtain ⟨g', h1, _⟩ := s.lh k kd g hkg
 rw [h1]; simp
theorem Sub.noGhost (s : Sub a' a) {k : K} (h : ay (ac k a.h) = none) : ay (ac k a'.h) = none := by
 by_cases e : ay (ac k a'.h) = none
 ·exact e
 ·exact absurd h (s.ghost e)
theorem WRel.sub (h : WRel ρ a w) (s : Sub a' a) : WRel ρ a' w :=
 ⟨fun k l hk hl e => by have := h.inj k l (s.at_ k hk).1 (s.at_ l hl).1 e; rw [(s.at_ k hk).2.1, (s.at_ l hl).2.1]; exact this,
  fun k hk => let ⟨c, h1, h2⟩ := h.dom k (s.at_ k hk).1; ⟨c, h1, (s.at_ k hk).2.2 _ _ h2⟩,
  fun k c arr t fz hk hc hx => h.len k c arr t fz (s.at_ k hk).1 hc hx,
  fun k kd g hk => by
   obtain ⟨g', h1, h2⟩ := s.lh k kd g hk
   have q := h.gho k kd g' h1
   exact ⟨q.root, fun c hc => by rw [h2]; exact q.rel c hc, q.lt, fun l hl => q.sep l (s.at_ l hl).1, fun l hl => q.dis l (s.ghost hl)⟩⟩
theorem Own.sub {c : Nat} (h : Own ρ a' c) (s : Sub a' a) : Own ρ a c := by
 obtain ⟨k, h1, h2, h3⟩ := h
 exact ⟨k, (s.at_ k h1).1, by rw [← (s.at_ k h1).2.1]; exact h2, h3.imp id fun q => ⟨s.ghost q.1, q.2⟩⟩
theorem Adv.left (h : Adv ρ a' w ρ' a2 w') (s : Sub a' a) : Adv ρ a w ρ' a2 w' :=
 ⟨h.rel, h.le, fun k => by rw [← s.nx]; exact h.rng k, by rw [← s.nx]; exact h.nx, h.size,
  fun c hc => (h.own c hc).imp (fun x => x.sub s) id,
  fun k c hk hc => (h.keep k c hk hc).imp (fun ⟨l, h1, h2⟩ => ⟨l, (s.at_ l h1).1, h2⟩) id,
  fun c hc hn => h.frame c hc fun x => hn (x.sub s), fun k hk hl => h.fts k (by rw [s.nx]; exact hk) (s.noGhost hl), h.os, h.tape, h.output⟩
theorem Adv.right (h : Adv ρ a w ρ' a2 w') (s : Sub a' a2) : Adv ρ a w ρ' a' w' :=
 ⟨h.rel.sub s, h.le, fun k => by rw [s.nx]; exact h.rng k, by rw [s.nx]; exact h.nx, h.size,
  fun c hc => h.own c (hc.sub s), fun k c hk hc => h.keep k c (s.at_ k hk).1 hc, h.frame, fun k hk hl => let q := h.fts k hk hl; ⟨q.1, s.noGhost q.2⟩, h.os, h.tape, h.output⟩
end
theorem vt {a b : Bool} (h : ao0 a b = true) : a = b := by cases a <;> cases b <;> first | rfl | cases h
theorem agr : ∀ {l m : List IntKind}, ayd l m = true → l = m
 | [], [], _ => rfl
 | [], _ :: _, h => by cases h
 | _ :: _, [], h => by cases h
 | a :: l, b :: m, h => by
   simp only [ayd] at h
   obtain ⟨h1, h2⟩ := bc_and.1 h
   rw [(cq _ _).1 h1, agr h2]
theorem ans {a b : GO} (h : a5a a b = true) : a = b := by
 cases a <;> cases b <;> simp only [a5a, zF, zU] at h
 ·obtain ⟨⟨⟨h1, h2⟩, h3⟩, h4⟩ := h
  rw [zW h1, agr h2, av _ _ h3, bw _ _ h4]
 ·rw [zW h]
 ·rw [bw _ _ h]
 ·obtain ⟨⟨h1, h2⟩, h3⟩ := h
  rw [bw _ _ h1, av _ _ h2, ja _ _ h3]
 ·rw [zW h.1, bw _ _ h.2]
 ·obtain ⟨⟨h1, h2⟩, h3⟩ := h
  rw [av _ _ h1, av _ _ h2, bw _ _ h3]
 ·obtain ⟨⟨h1, h2⟩, h3⟩ := h
  rw [av _ _ h1, av _ _ h2, bw _ _ h3]
theorem ajn (o : LO) : dh o ≠ .none := by cases o <;> simp [dh]
theorem gm (k : K) : ∀ L, ac k (ae L) ≠ .none → (∃ n o, HO.mk n o ∈ L ∧ k = K.of n ∧ ac k (ae L) = dh o) ∨ (∃ g cs, LE.mk g cs ∈ laidL ∧ k = K.of g ∧ ac k (ae L) = .ro (Nat.succ g) (bl cs) (kh cs 0 (gx (bl cs))))
 | [], h => by
   obtain ⟨g, cs, h1, h2, h3, _⟩ := mf k laidL h
   exact .inr ⟨g, cs, h1, h2, h3⟩
 | .mk n o :: L, h => by
   simp only [ae] at h ⊢
   by_cases e : k = K.of n
   ·subst e
    exact .inl ⟨n, o, by simp, rfl, by rw [af]⟩
   ·rw [ak e] at h ⊢
    rcases gm k L h with ⟨m, p, h1, h2, h3⟩ | ⟨g, cs, h1, h2, h3⟩
    ·exact .inl ⟨m, p, zA _ h1, h2, h3⟩
    ·exact .inr ⟨g, cs, h1, h2, h3⟩
theorem u9 : ∀ {l : List LE} {w : W}, nc l w = true → ∀ g cs, LE.mk g cs ∈ l → ∃ n c, bz (K.of g) w = .ro (g + 1) n c
 | [], _, _, _, _, h => by cases h
 | .mk g cs :: l, w, h, g', cs', hm => by
   simp only [nc] at h
   split at h
   ·rename_i t size c ac
    obtain ⟨h1, h2⟩ := bc_and.1 h
    have h1 : t = g + 1 := zW h1
    rcases List.mem_cons.1 hm with e | e
    ·injection e with e1 e2
     subst e1 e2
     rw [h1] at ac
     exact ⟨size, c, ac⟩
    ·exact u9 h2 g' cs' e
   ·cases h
end Go.Ev
set_option maxRecDepth 100000
set_option linter.all false
namespace Go.Ev
variable [Gv]
noncomputable section
def shL (f : AV → AV) : List AV → List AV
 | [] => []
 | x :: l => f x :: shL f l
def shP (f : AV → AV) : List (AV × AV) → List (AV × AV)
 | [] => []
 | x :: l => (f x.1, f x.2) :: shP f l
inductive HR where
 | mk (f : FuncId) (vs : List AV) (v : AV) (n : Nat) (L : List HO)
end
section
variable {ρ ρ' : Env} {d : Nat}
end
end Go.Ev
set_option maxRecDepth 100000
set_option linter.all false
namespace Go.Ev
variable [Gv]
noncomputable section
def pd : List HO → H4 → H4
 | [], h => h
 | .mk k _ :: l, h => bn (K.of k) .none (pd l h)
def uj : List HO → H4 → H4
 | [], h => h
 | .mk k o :: l, h => bn (K.of k) (dh o) (uj l h)
def qx (k : Nat) : List HO → Bool
 | [] => false
 | .mk m _ :: l => bc (Nat.beq m k) true (qx k l)
def agu (nxi nxo : Nat) (Li : List HO) : List HO → Bool
 | [] => true
 | .mk k _ :: l => bc (Nat.ble 256 k && Nat.blt k nxo && (qx k Li || Nat.ble nxi k)) (agu nxi nxo Li l) false
def agt (nxi : Nat) : List HO → Bool
 | [] => true
 | .mk k _ :: l => bc (Nat.ble 256 k && Nat.blt k nxi) (agt nxi l) false
end
theorem keyIn_iff {k : Nat} : ∀ {l : List HO}, qx k l = true ↔ ∃ o, HO.mk k o ∈ l
 | [] => by simp [qx]
 | .mk m o :: l => by
   simp only [qx, aa]
   split
   ·rename_i h
    have := zW h
    subst this
    simp only [true_iff]
    exact ⟨o, by simp⟩
   ·rename_i h
    rw [keyIn_iff (l := l)]
    constructor
    ·rintro ⟨p, hp⟩; exact ⟨p, zA _ hp⟩
    ·rintro ⟨p, hp⟩
     rcases List.mem_cons.1 hp with e | e
     ·injection e with e1 e2
      subst e1
      exact absurd (Nat.beq_refl _) h
     ·exact ⟨p, e⟩
theorem aff (k : K) (h : H4) (B : H4) : ∀ L : List HO, (∃ m o, HO.mk m o ∈ L ∧ k = K.of m ∧ ac k (uj L h) = ac k (uj L B) ∧ ac k (uj L B) = dh o) ∨ ((∀ m o, HO.mk m o ∈ L → k ≠ K.of m) ∧ ac k (uj L h) = ac k h)
 | [] => .inr ⟨(fun _ _ h => by cases h), rfl⟩
 | .mk m o :: L => by
   simp only [uj]
   by_cases e : k = K.of m
   ·subst e
    exact .inl ⟨m, o, by simp, rfl, by rw [af, af], by rw [af]⟩
   ·rw [ak e, ak e]
    rcases aff k h B L with ⟨m', o', h1, h2, h3, h4⟩ | ⟨h1, h2⟩
    ·exact .inl ⟨m', o', zA _ h1, h2, h3, h4⟩
    ·refine .inr ⟨fun m' o' hm => ?_, h2⟩
     rcases List.mem_cons.1 hm with q | q
     ·injection q with q1 q2; rw [q1]; exact e
     ·exact h1 m' o' q
theorem ace (k : K) (h : H4) : ∀ L : List HO, ((∃ m o, HO.mk m o ∈ L ∧ k = K.of m) ∧ ac k (pd L h) = .none) ∨ ((∀ m o, HO.mk m o ∈ L → k ≠ K.of m) ∧ ac k (pd L h) = ac k h)
 | [] => .inr ⟨(fun _ _ h => by cases h), rfl⟩
 | .mk m o :: L => by
   simp only [pd]
   by_cases e : k = K.of m
   ·subst e
    exact .inl ⟨⟨m, o, by simp, rfl⟩, by rw [af]⟩
   ·rw [ak e]
    rcases ace k h L with ⟨⟨m', o', h1, h2⟩, h3⟩ | ⟨h1, h2⟩
    ·exact .inl ⟨⟨m', o', zA _ h1, h2⟩, h3⟩
    ·refine .inr ⟨fun m' o' hm => ?_, h2⟩
     rcases List.mem_cons.1 hm with q | q
     ·injection q with q1 q2; rw [q1]; exact e
     ·exact h1 m' o' q
theorem aed : ∀ L, ae L = uj L (kc laidL)
 | [] => rfl
 | .mk k o :: L => by simp only [ae, uj, aed L]
theorem yg {ρ ρ' : Env} {aw : W} {cw cw' : World} {Li Lo : List HO} {nxi nxo : Nat} (hw : WRel ρ aw cw) (hcl : Clean ρ aw) (sub : Sub (bf Li nxi) aw) (h1 : agt nxi Li = true) (h2 : agu nxi nxo Li Lo = true) (hx : nxo ≤ 65535)
  (hA : Adv ρ (bf Li nxi) cw ρ' (bf Lo nxo) cw') : Adv ρ aw cw ρ' (.mk (uj Lo (pd Li (hOf aw))) (K.of nxo)) cw' := by
 have hh : hOf aw = aw.h := by cases aw; rfl
 rw [hh]
 have hnxi : (K.of nxi).num = aw.nx.num := congrArg K.num sub.nx
 have key : ∀ k, ac k (uj Lo (pd Li aw.h)) ≠ .none → (ac k (uj Lo (pd Li aw.h)) = ac k (ae Lo) ∧ ∃ m o, HO.mk m o ∈ Lo ∧ k = K.of m) ∨
   (ac k (uj Lo (pd Li aw.h)) = ac k aw.h ∧ (∀ m o, HO.mk m o ∈ Lo → k ≠ K.of m) ∧ ∀ m o, HO.mk m o ∈ Li → k ≠ K.of m) := by
  intro k hk
  rcases aff k (pd Li aw.h) (kc laidL) Lo with ⟨m, o, q1, q2, q3, q4⟩ | ⟨q1, q2⟩
  ·exact .inl ⟨by rw [q3, aed], m, o, q1, q2⟩
  ·rcases ace k aw.h Li with ⟨_, r2⟩ | ⟨r1, r2⟩
   ·rw [q2, r2] at hk; exact absurd rfl hk
   ·exact .inr ⟨by rw [q2, r2], q1, r1⟩
 have old : ∀ k c, ac k aw.h ≠ .none → (∀ m o, HO.mk m o ∈ Li → k ≠ K.of m) → ρ k = some c → ¬ Own ρ (bf Li nxi) c := by
  rintro k c hk hn hc ⟨l, l1, l2, l3⟩
  rcases l3 with l3 | ⟨l3, l4⟩
  rotate_left
  ·obtain ⟨⟨kd, g⟩, hg⟩ := Option.ne_none_iff_exists'.1 (sub.ghost l3)
   by_cases e : k = l
   ·subst e
    rcases gm k Li l1 with ⟨m, o, q1, q2, q3⟩ | ⟨g', cs, q1, q2, q3⟩
    ·exact hn m o q1 q2
    ·have : ay (ac k (ae Li)) ≠ none := l3
     rw [q3] at this; exact this rfl
   ·exact (hw.gho l kd g hg).sep k hk e c hc l4
  have l1' : ac l (ae Li) ≠ .none := l1
  have l2' : (ac l (ae Li)).isRo = false := l2
  rcases gm l Li l1' with ⟨m, o, q1, q2, q3⟩ | ⟨g, cs, q1, q2, q3⟩
  ·have := hw.inj1 (sub.at_ l l1).1 hk (.inl (by rw [← (sub.at_ l l1).2.1]; exact l2)) (by rw [l3, hc])
   exact hn m o q1 (by rw [← this, q2])
  ·rw [q3] at l2'; cases l2'
 have lt : ∀ k c, ac k aw.h ≠ .none → ρ k = some c → c < cw.heap.size := by
  intro k c hk hc
  obtain ⟨c', hc', ho'⟩ := hw.dom k hk
  rw [hc] at hc'; cases hc'
  obtain ⟨y, hy⟩ := ho'.some hk
  exact (zI.1 hy).1
 have same : ∀ k c, ac k aw.h ≠ .none → (∀ m o, HO.mk m o ∈ Li → k ≠ K.of m) → ρ k = some c → cw'.heap[c]? = cw.heap[c]? := fun k c hk hn hc => hA.frame c (lt k c hk hc) (old k c hk hn hc)
 have diff : ∀ k l, ac k (ae Lo) ≠ .none → (∃ m o, HO.mk m o ∈ Lo ∧ k = K.of m) → ac l aw.h ≠ .none → (∀ m o, HO.mk m o ∈ Li → l ≠ K.of m) → (∀ m o, HO.mk m o ∈ Lo → l ≠ K.of m) → ρ' k = ρ' l →
   (ac k (ae Lo)).isRo = true ∧ (ac l aw.h).isRo = true := by
  rintro k l hk ⟨m, o, m1, m2⟩ hl hnl hno e
  obtain ⟨c, hc, _⟩ := hw.dom l hl
  have hc' := (hA.le _ _ hc).1
  rw [hc'] at e
  have kro : (ac k (ae Lo)).isRo = true := by
   cases hr : (ac k (ae Lo)).isRo with
   | true => rfl
   | false =>
     rcases hA.own c ⟨k, hk, hr, .inl e⟩ with q | q
     ·exact absurd q (old l c hl hnl hc)
     ·have := lt l c hl hc; omega
  refine ⟨kro, ?_⟩
  rcases hA.keep k c hk e with ⟨x, x1, x2⟩ | x
  ·have x1' : ac x (ae Li) ≠ .none := x1
   rcases hw.inj x l (sub.at_ x x1).1 hl (by rw [x2, hc]) with hxl | ⟨_, hxl⟩
   ·subst hxl
    rcases gm x Li x1' with ⟨n, p, q1, q2, q3⟩ | ⟨g, cs, q1, q2, q3⟩
    ·exact absurd q2 (hnl n p q1)
    ·rw [← (sub.at_ x x1).2.1]
     show (ac x (ae Li)).isRo = true
     rw [q3]; rfl
   ·exact hxl
  ·have := lt l c hl hc; omega
 have noLi : ∀ k, ay (ac k aw.h) ≠ none → (∀ m o, HO.mk m o ∈ Li → k ≠ K.of m) → ac k (ae Li) = .none := by
  intro k hk hn
  by_cases e : ac k (ae Li) = .none
  ·exact e
  ·exfalso
   rcases gm k Li e with ⟨n, p, q1, q2, q3⟩ | ⟨g, cs, q1, q2, q3⟩
   ·exact hn n p q1 q2
   ·have := (sub.at_ k e).2.1
    rw [show ac k (bf Li nxi).h = ac k (ae Li) from rfl, q3, ai6 hk] at this
    cases this
 have oldG : ∀ k kd g, ay (ac k aw.h) = some (kd, g) → (∀ m o, HO.mk m o ∈ Li → k ≠ K.of m) → ∀ c, ρ.ft k c → ¬ Own ρ (bf Li nxi) c := by
  rintro k kd g hk hn c hc ⟨x, x1, x2, x3⟩
  have q := hw.gho k kd g hk
  have hxk : x ≠ k := by
   rintro rfl
   exact x1 (noLi x (by rw [hk]; simp) hn)
  rcases x3 with x3 | ⟨x3, x4⟩
  ·exact q.sep x (sub.at_ x x1).1 hxk c x3 hc
  ·exact q.dis x (sub.ghost x3) hxk c x4 hc
 have fts : ∀ k, ay (ac k aw.h) ≠ none → (∀ m o, HO.mk m o ∈ Li → k ≠ K.of m) → ρ'.ft k = ρ.ft k := by
  intro k hk hn
  have hlt : k.num < (bf Li nxi).nx.num := by
   rw [show (bf Li nxi).nx.num = aw.nx.num from hnxi]
   by_cases e : k.num < aw.nx.num
   ·exact e
   ·exfalso
    obtain ⟨c, hc, _⟩ := hw.dom k (be hk)
    rw [hcl k (by omega)] at hc; cases hc
  exact (hA.fts k hlt (by rw [show ac k (bf Li nxi).h = ac k (ae Li) from rfl, noLi k hk hn]; rfl)).1
 have wrote : ∀ k, ay (ac k (ae Lo)) ≠ none → ∀ c, ρ'.ft k c → Own ρ (bf Li nxi) c ∨ cw.heap.size ≤ c := fun k hk c hc =>
  hA.own c ⟨k, be hk, ai6 hk, .inr ⟨hk, hc⟩⟩
 refine ⟨⟨?_, ?_, ?_, ?_⟩, hA.le, ?_, ?_, hA.size, ?_, ?_, ?_, ?_, hA.os, hA.tape, hA.output⟩
 ·intro k l hk hl e
  simp only [W.h_mk] at hk hl
  rcases key k hk with ⟨k1, k2⟩ | ⟨k1, k2, k3⟩
  ·rcases key l hl with ⟨l1, l2⟩ | ⟨l1, l2, l3⟩
   ·have := hA.rel.inj k l (by show ac k (ae Lo) ≠ _; rw [← k1]; exact hk) (by show ac l (ae Lo) ≠ _; rw [← l1]; exact hl) e
    simp only [W.h_mk]
    rw [k1, l1]; exact this
   ·have := diff k l (by rw [← k1]; exact hk) k2 (by rw [← l1]; exact hl) l3 l2 e
    simp only [W.h_mk]
    rw [k1, l1]; exact .inr this
  ·rcases key l hl with ⟨l1, l2⟩ | ⟨l1, l2, l3⟩
   ·have := diff l k (by rw [← l1]; exact hl) l2 (by rw [← k1]; exact hk) k3 k2 e.symm
    simp only [W.h_mk]
    rw [k1, l1]; exact .inr this.symm
   ·rw [k1] at hk; rw [l1] at hl
    obtain ⟨c, hc, _⟩ := hw.dom k hk
    obtain ⟨d, hd, _⟩ := hw.dom l hl
    rw [(hA.le _ _ hc).1, (hA.le _ _ hd).1] at e
    have := hw.inj k l hk hl (by rw [hc, hd, e])
    simp only [W.h_mk]
    rw [k1, l1]; exact this
 ·intro k hk
  simp only [W.h_mk] at hk ⊢
  rcases key k hk with ⟨k1, k2⟩ | ⟨k1, k2, k3⟩
  ·rw [k1] at hk ⊢
   exact hA.rel.dom k hk
  ·rw [k1] at hk ⊢
   obtain ⟨c, hc, ho⟩ := hw.dom k hk
   exact ⟨c, (hA.le _ _ hc).1, by rw [same k c hk k3 hc]; exact ho.mono hA.le⟩
 ·intro k c arr t fz hk hc hxx
  simp only [W.h_mk] at hk
  rcases key k hk with ⟨k1, k2⟩ | ⟨k1, k2, k3⟩
  ·rw [k1] at hk
   exact hA.rel.len k c arr t fz hk hc hxx
  ·rw [k1] at hk
   obtain ⟨d, hd, _⟩ := hw.dom k hk
   have e := (hA.le _ _ hd).1
   rw [hc] at e; injection e with e; subst e
   rw [same k c hk k3 hd] at hxx
   rw [(hA.le _ _ hd).2]
   exact hw.len k c arr t fz hk hd hxx
 ·intro k kd g hkg
  simp only [W.h_mk] at hkg
  rcases key k (be (n9 hkg)) with ⟨k1, k2⟩ | ⟨k1, k2, k3⟩
  ·rw [k1] at hkg
   have q := hA.rel.gho k kd g hkg
   refine q.step rfl rfl (zY _) (fun _ _ => rfl) (fun l hl hlk c hc hf => ?_) (fun l hl hlk c hc hf => ?_)
   ·simp only [W.h_mk] at hl
    rcases key l hl with ⟨l1, l2⟩ | ⟨l1, l2, l3⟩
    ·rw [l1] at hl; exact q.sep l hl hlk c hc hf
    ·rw [l1] at hl
     obtain ⟨d, hd, _⟩ := hw.dom l hl
     have e := (hA.le _ _ hd).1
     rw [hc] at e; injection e with e; subst e
     rcases wrote k (by rw [hkg]; simp) c hf with q1 | q1
     ·exact old l c hl l3 hd q1
     ·have := lt l c hl hd; omega
   ·simp only [W.h_mk] at hl
    rcases key l (be hl) with ⟨l1, l2⟩ | ⟨l1, l2, l3⟩
    ·rw [l1] at hl; exact q.dis l hl hlk c hc hf
    ·rw [l1] at hl
     rw [fts l hl l3] at hc
     obtain ⟨⟨kd', g'⟩, hl'⟩ := Option.ne_none_iff_exists'.1 hl
     rcases wrote k (by rw [hkg]; simp) c hf with q1 | q1
     ·exact oldG l kd' g' hl' l3 c hc q1
     ·have := (hw.gho l kd' g' hl').lt c hc; omega
  ·rw [k1] at hkg
   have hne : ay (ac k aw.h) ≠ none := by rw [hkg]; simp
   have q := hw.gho k kd g hkg
   obtain ⟨ck, hck, _⟩ := hw.dom k (be hne)
   refine q.step (by rw [(hA.le _ _ hck).1, hck]) (fts k hne k3) hA.size (fun c hc => hA.frame c (q.lt c hc) (oldG k kd g hkg k3 c hc)) (fun l hl hlk c hc hf => ?_) (fun l hl hlk c hc hf => ?_)
   ·simp only [W.h_mk] at hl
    rcases key l hl with ⟨l1, l2⟩ | ⟨l1, l2, l3⟩
    ·rw [l1] at hl
     rcases hA.keep l c hl hc with ⟨x, x1, x2⟩ | x
     ·have hxk : x ≠ k := by rintro rfl; exact x1 (noLi x hne k3)
      exact q.sep x (sub.at_ x x1).1 hxk c x2 hf
     ·have := q.lt c hf; omega
    ·rw [l1] at hl
     obtain ⟨d, hd, _⟩ := hw.dom l hl
     have e := (hA.le _ _ hd).1
     rw [hc] at e; injection e with e; subst e
     exact q.sep l hl hlk c hd hf
   ·simp only [W.h_mk] at hl
    rcases key l (be hl) with ⟨l1, l2⟩ | ⟨l1, l2, l3⟩
    ·rw [l1] at hl
     rcases wrote l hl c hc with q1 | q1
     ·exact oldG k kd g hkg k3 c hf q1
     ·have := q.lt c hf; omega
    ·rw [l1] at hl
     rw [fts l hl l3] at hc
     exact q.dis l hl hlk c hc hf
 ·intro k
  rcases hA.rng k with e | e
  ·exact .inl e
  ·exact .inr ⟨by rw [← sub.nx]; exact e.1, e.2⟩
 ·show aw.nx.num ≤ (K.of nxo).num
  rw [← sub.nx]; exact hA.nx
 ·rintro c ⟨k, hk, hr, hc⟩
  simp only [W.h_mk] at hk hr hc
  rcases key k hk with ⟨k1, k2⟩ | ⟨k1, k2, k3⟩
  ·rw [k1] at hk hr hc
   rcases hA.own c ⟨k, hk, hr, hc⟩ with q | q
   ·exact .inl (q.sub sub)
   ·exact .inr q
  ·rw [k1] at hk hr hc
   rcases hc with hc | ⟨hc1, hc2⟩
   ·obtain ⟨d, hd, _⟩ := hw.dom k hk
    have e := (hA.le _ _ hd).1
    rw [hc] at e; injection e with e; subst e
    exact .inl ⟨k, hk, hr, .inl hd⟩
   ·rw [fts k hc1 k3] at hc2
    exact .inl ⟨k, hk, hr, .inr ⟨hc1, hc2⟩⟩
 ·intro k c hk hc
  simp only [W.h_mk] at hk
  rcases key k hk with ⟨k1, k2⟩ | ⟨k1, k2, k3⟩
  ·rw [k1] at hk
   rcases hA.keep k c hk hc with ⟨x, x1, x2⟩ | q
   ·exact .inl ⟨x, (sub.at_ x x1).1, x2⟩
   ·exact .inr q
  ·rw [k1] at hk
   obtain ⟨d, hd, _⟩ := hw.dom k hk
   have e := (hA.le _ _ hd).1
   rw [hc] at e; injection e with e; subst e
   exact .inl ⟨k, hk, hd⟩
 ·intro c hc hn
  exact hA.frame c hc fun q => hn (q.sub sub)
 ·intro k hk hl
  have q := hA.fts k (by rw [show (bf Li nxi).nx.num = aw.nx.num from hnxi]; exact hk) (sub.noGhost hl)
  refine ⟨q.1, ?_⟩
  simp only [W.h_mk]
  by_cases e : ac k (uj Lo (pd Li aw.h)) = .none
  ·rw [e]; rfl
  ·rcases key k e with ⟨k1, k2⟩ | ⟨k1, k2, k3⟩
   ·rw [k1]; exact q.2
   ·rw [k1]; exact hl
end Go.Ev
