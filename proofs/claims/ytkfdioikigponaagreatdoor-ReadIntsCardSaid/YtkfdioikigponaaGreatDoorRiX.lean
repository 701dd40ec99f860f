import Derived.Test.YtkfdioikigponaaGreatDoorRiY
import Derived.Test.YtkfdioikigponaaGreatDoorEvFr
set_option maxRecDepth 100000
set_option linter.all false
namespace Go.Ev
/- copyistlaw05.ReadInts. -/
noncomputable section
def xZ : SE := .bin 5 .i64 (.v 1) (.c 40)
def xZG : GE := .app 1 (.i xZ .nil)
def xDG (e : SE) : GE := .app 2 (.i e .nil)
def xL (e : SE) : SE := .bin 6 .i64 (.len xZG) (.len (xDG e))
def xS1 (e : SE) : GE := .cat xZG (xDG e)
def xS2 (e : SE) : GE := .cat (.lit 1 45) (xS1 e)
def xS3 (e : SE) : GE := .cat (.cat (.lit 1 43) (xS1 e)) (.lit 1 41)
def xFit (g : GE) : List SA := [qA1 3 g]
def xOver (g : GE) : List SA := [.mk false (.app 3 (.g g .nil)) (.c 1) false, qA1 4 g]
def xBase (e : SE) : List SA := [.mk true e (.c 0) false, .mk true xZ (.c 40) true, .mk true (.c 9223372036854775807) (xL e) false, qA1 1 (xS1 e), qA1 2 (xS1 e), .mk true (.c 9223372036854775807) (.bin 6 .i64 (.c 1) (xL e)) false, qA1 1 (xS2 e), qA1 2 (xS2 e),
  .mk true (.c 9223372036854775807) (.bin 6 .i64 (.bin 6 .i64 (.c 1) (xL e)) (.c 1)) false, qA1 1 (xS3 e), qA1 2 (xS3 e), .mk true xZ (.c 0) false, .mk true (.c 9223372036854775807) e false]
def xF (e : SE) : List SA := xBase e ++ (xFit (xS1 e) ++ (xFit (xS2 e) ++ (xFit (xS3 e) ++ [.mk true (.c 2305843009213693951) e false, .mk false (.app 6 (.g (xS1 e) .nil)) e true, .mk false (.app 6 (.g (xS2 e) .nil)) (.bin 1 .i64 (.c 0) e) true,
  .mk false (.app 6 (.g (xS3 e) .nil)) (.app 6 (.g (xS1 e) .nil)) true, .mk false (.app 8 (.g (xS1 e) .nil)) (xL e) true, .mk false (.app 8 (.g (xS2 e) .nil)) (.bin 0 .i64 (xL e) (.c 1)) true])))
def xO (e : SE) : List SA := xBase e ++ (xOver (xS1 e) ++ (xOver (xS2 e) ++ (xOver (xS3 e) ++ [.mk true (.c 2305843009213693951) e true, .mk false e (.c 2305843009213693952) false])))
def xE1 (e : SE) : List SA := xBase e ++ (xOver (xS1 e) ++ (xFit (xS2 e) ++ xOver (xS3 e)))
def xE (e : SE) : List SA := xE1 e ++ (xE1 (.c 2305843009213693952) ++ [.mk true (.c 2305843009213693951) e true, .mk false e (.c 2305843009213693952) true, .mk false (.app 6 (.g (xS2 (.c 2305843009213693952)) .nil)) (.c (-2305843009213693952)) true])
def xN : SE := .bin 1 .i64 (.c 0) (.bin 0 .i64 (.v 0) (.c 1))
def xNeg : List SA := [.mk true (.v 0) (.c 0) true]
def xUs : List AV := [.sym .i64 (.v 0) [], .sym .i64 (.v 1) []]
def xH : Hook := orH (hooks [.mk 9 [] (.bool true)]) (hooksTM [pkT, tmT, dT, rdF, rdO])
end
theorem sall_app {σ : Nat → List Int} {A B : List SA} (hA : SAll σ A) (hB : SAll σ B) : SAll σ (A ++ B) := fun x hx => (List.mem_append.1 hx).elim (hA x) (hB x)
theorem drop_end {s d t : List Int} {n : Nat} (hs : sgN s = n) (hd : s.drop n = d ++ t) (hg : digS s = d) : s.drop (endN s) = t := by
  have := drop_dig s
  rw [hs, hd, hg] at this
  exact (List.append_cancel_left this).symm
/-- the digits, with noughts ahead -/
structure XD (d : List Int) (m : Int) : Prop where
  dig : ∀ x ∈ d, isDigB x = true
  l1 : 1 ≤ d.length
  l2 : d.length ≤ 58
  val : decV d 0 = m
theorem xd_ok {k : Nat} {m : Int} (hk : k < 40) (h0 : 0 ≤ m) (h1 : m ≤ 9223372036854775807) : XD (List.replicate k 48 ++ decD m.toNat) m := by
  have hlen : (decD m.toNat).length ≤ 19 := decF_len 18 _ _ (by omega)
  have hpos : 1 ≤ (decD m.toNat).length := decF_pos _ _ (by omega)
  refine ⟨?_, ?_, ?_, ?_⟩
  · intro x hx
    rcases List.mem_append.1 hx with h | h
    · rw [(List.mem_replicate.1 h).2]; rfl
    · exact decF_dig _ _ x h
  · rw [List.length_append]; omega
  · rw [List.length_append, List.length_replicate]; omega
  · rw [decV_zeros, decD_val]; omega
section
variable {d : List Int} {m : Int} (h : XD d m)
include h
theorem xd_dig : digR d := ⟨h.dig, h.l1, by have := h.l2; omega⟩
theorem x1_ok : intR (d ++ []) ∧ digS (d ++ []) = d ∧ neg (d ++ []) = false ∧ endN (d ++ []) = d.length := by
  obtain ⟨a, b, c⟩ := parts_plain h.dig h.l1 (t := []) (.inl rfl)
  refine ⟨⟨by rw [b]; exact xd_dig h, .inl (drop_end a (by rw [List.drop_zero]) b)⟩, b, c, ?_⟩
  show sgN _ + _ = _
  rw [a, b, Nat.zero_add]
theorem x2_ok : intR (45 :: (d ++ [])) ∧ digS (45 :: (d ++ [])) = d ∧ neg (45 :: (d ++ [])) = true ∧ endN (45 :: (d ++ [])) = d.length + 1 := by
  obtain ⟨a, b, c⟩ := parts_sign (c := 45) (.inr rfl) h.dig (t := []) (.inl rfl)
  refine ⟨⟨by rw [b]; exact xd_dig h, .inl (drop_end a rfl b)⟩, b, c, ?_⟩
  show sgN _ + _ = _
  rw [a, b]; omega
theorem x3_ok : intR (43 :: (d ++ [41])) ∧ digS (43 :: (d ++ [41])) = d ∧ neg (43 :: (d ++ [41])) = false := by
  obtain ⟨a, b, c⟩ := parts_sign (c := 43) (.inl rfl) h.dig (t := [41]) (.inr rfl)
  exact ⟨⟨by rw [b]; exact xd_dig h, .inr (drop_end a rfl b)⟩, b, c⟩
end
theorem fit_of {s : List Int} {d : List Int} {m : Int} {b : Bool} (h : digS s = d) (hn : neg s = b) (hv : decV d 0 = m) : (fitR s ↔ m ≤ bif b then 2305843009213693952 else 2305843009213693951) ∧ (overR s ↔ (bif b then 2305843009213693952 else 2305843009213693951) < m ∧ m ≤ 9223372036854775808) ∧ valI s = bif b then -m else m := by
  have hm := most_sg hn
  refine ⟨?_, ?_, ?_⟩
  · unfold fitR; rw [h, hv, hm]
  · unfold overR; rw [h, hv, hm]
  · unfold valI; rw [h, hv, hn]; cases b <;> rfl
section
variable {σ : Nat → List Int} {e : SE} {m : Int}
/-- what the three texts are -/
structure XS (σ : Nat → List Int) (e : SE) (d : List Int) : Prop where
  s1 : (xS1 e).eval σ = d ++ []
  s2 : (xS2 e).eval σ = 45 :: (d ++ [])
  s3 : (xS3 e).eval σ = 43 :: (d ++ [41])
  len : (xL e).eval σ = (d.length : Int)
theorem xs_ok (he : e.eval σ = m) (h0 : 0 ≤ m) (h1 : m ≤ 9223372036854775807) : ∃ d, XD d m ∧ XS σ e d := by
  have hz : xZ.eval σ = (σ 1).headD 0 % 40 := rfl
  have hzg : xZG.eval σ = List.replicate ((σ 1).headD 0 % 40).toNat 48 := by
    show List.replicate (xZ.eval σ).toNat 48 = _
    rw [hz]
  have hdg : (xDG e).eval σ = decD m.toNat := by
    show decD (e.eval σ).toNat = _
    rw [he]
  have hl1 : (GE.lit 1 45).eval σ = [45] := by show (bytesOf 1 45).map (fun b => (b.toNat : Int)) = _; decide +kernel
  have hl2 : (GE.lit 1 43).eval σ = [43] := by show (bytesOf 1 43).map (fun b => (b.toNat : Int)) = _; decide +kernel
  have hl3 : (GE.lit 1 41).eval σ = [41] := by show (bytesOf 1 41).map (fun b => (b.toNat : Int)) = _; decide +kernel
  have e1 : (xS1 e).eval σ = List.replicate ((σ 1).headD 0 % 40).toNat 48 ++ decD m.toNat := by
    show xZG.eval σ ++ (xDG e).eval σ = _
    rw [hzg, hdg]
  refine ⟨List.replicate ((σ 1).headD 0 % 40).toNat 48 ++ decD m.toNat, xd_ok (by omega) h0 h1, ⟨by rw [e1, List.append_nil], ?_, ?_, ?_⟩⟩
  · show (GE.lit 1 45).eval σ ++ (xS1 e).eval σ = _
    rw [hl1, e1, List.append_nil]; rfl
  · show ((GE.lit 1 43).eval σ ++ (xS1 e).eval σ) ++ (GE.lit 1 41).eval σ = _
    rw [hl2, hl3, e1]; rfl
  · show ((xZG.eval σ).length : Int) + (((xDG e).eval σ).length : Int) = _
    rw [hzg, hdg, List.length_append]; omega
theorem asc_dig {d t : List Int} {c : List Int} (h : ∀ x ∈ d, isDigB x = true) (hd : d.length ≤ 58) (hc : ∀ x ∈ c, 0 ≤ x ∧ x < 128) (ht : ∀ x ∈ t, 0 ≤ x ∧ x < 128) (hl : c.length + t.length ≤ 10) : ascR (c ++ (d ++ t)) := by
  refine ⟨fun x hx => ?_, by simp only [List.length_append]; omega⟩
  rcases List.mem_append.1 hx with h1 | h1
  · exact hc x h1
  · rcases List.mem_append.1 h1 with h2 | h2
    · have := h x h2
      simp only [isDigB, decide_eq_true_eq] at this
      exact ⟨by omega, by omega⟩
    · exact ht x h2
theorem xBase_ok (he : e.eval σ = m) (h0 : 0 ≤ m) (h1 : m ≤ 9223372036854775807) : SAll σ (xBase e) := by
  obtain ⟨d, hd, hs⟩ := xs_ok he h0 h1
  have hz : xZ.eval σ = (σ 1).headD 0 % 40 := rfl
  have hl := hd.l2
  have a1 := asc_dig hd.dig hd.l2 (c := []) (t := []) (by simp) (by simp) (by simp)
  have a2 := asc_dig hd.dig hd.l2 (c := [45]) (t := []) (by simp) (by simp) (by simp)
  have a3 := asc_dig hd.dig hd.l2 (c := [43]) (t := [41]) (by simp) (by simp) (by simp)
  unfold xBase
  simp only [sall_cons]
  refine ⟨holdsF ?_, holdsT ?_, holdsF ?_, q1.2 ?_, q2.2 ?_, holdsF ?_, q1.2 ?_, q2.2 ?_, holdsF ?_, q1.2 ?_, q2.2 ?_, holdsF ?_, holdsF ?_, SAll.nil⟩
  · rw [he]; show ¬ m < 0; omega
  · rw [hz]; show _ < (40 : Int); omega
  · rw [hs.len]; show ¬ (9223372036854775807 : Int) < _; omega
  · rw [hs.s1]; exact a1
  · rw [hs.s1]; exact (x1_ok hd).1
  · show ¬ (9223372036854775807 : Int) < 1 + (xL e).eval σ; rw [hs.len]; omega
  · rw [hs.s2]; exact a2
  · rw [hs.s2]; exact (x2_ok hd).1
  · show ¬ (9223372036854775807 : Int) < 1 + (xL e).eval σ + 1; rw [hs.len]; omega
  · rw [hs.s3]; exact a3
  · rw [hs.s3]; exact (x3_ok hd).1
  · rw [hz]; show ¬ _ < (0 : Int); omega
  · rw [he]; show ¬ (9223372036854775807 : Int) < m; omega
theorem xFit_ok {g : GE} (h : fitR (g.eval σ)) : SAll σ (xFit g) := by unfold xFit; simp only [sall_cons]; exact ⟨q3.2 h, SAll.nil⟩
theorem xOver_ok {g : GE} (h : ¬ fitR (g.eval σ)) (h' : overR (g.eval σ)) : SAll σ (xOver g) := by unfold xOver; simp only [sall_cons]; exact ⟨q3N h, q4.2 h', SAll.nil⟩
theorem xF_ok (he : e.eval σ = m) (h0 : 0 ≤ m) (h1 : m ≤ 2305843009213693951) : SAll σ (xF e) := by
  obtain ⟨d, hd, hs⟩ := xs_ok he h0 (by omega)
  obtain ⟨i1, g1, n1, l1⟩ := x1_ok hd
  obtain ⟨i2, g2, n2, l2⟩ := x2_ok hd
  obtain ⟨i3, g3, n3⟩ := x3_ok hd
  obtain ⟨p1, p2, p3⟩ := fit_of g1 n1 hd.val
  obtain ⟨r1, r2, r3⟩ := fit_of g2 n2 hd.val
  obtain ⟨t1, t2, t3⟩ := fit_of g3 n3 hd.val
  have hl := hd.l2
  refine sall_app (xBase_ok he h0 (by omega)) (sall_app (xFit_ok (by rw [hs.s1]; exact p1.2 h1)) (sall_app (xFit_ok (by rw [hs.s2]; exact r1.2 (by show m ≤ 2305843009213693952; omega))) (sall_app (xFit_ok (by rw [hs.s3]; exact t1.2 h1)) ?_)))
  simp only [sall_cons]
  refine ⟨holdsF ?_, holdsE ?_, holdsE ?_, holdsE ?_, holdsE ?_, holdsE ?_, SAll.nil⟩
  · rw [he]; show ¬ (2305843009213693951 : Int) < m; omega
  · show valI ((xS1 e).eval σ) = e.eval σ; rw [hs.s1, p3, he]; rfl
  · show valI ((xS2 e).eval σ) = IntKind.i64.wrap (0 - e.eval σ); rw [hs.s2, r3, he, wrap64 (by omega)]; show -m = 0 - m; omega
  · show valI ((xS3 e).eval σ) = valI ((xS1 e).eval σ); rw [hs.s3, hs.s1, t3, p3]
  · show ((endN ((xS1 e).eval σ) : Nat) : Int) = _; rw [hs.s1, l1, hs.len]
  · show ((endN ((xS2 e).eval σ) : Nat) : Int) = IntKind.i64.wrap ((xL e).eval σ + 1); rw [hs.s2, l2, hs.len, wrap64 (by omega)]; omega
theorem xO_ok (he : e.eval σ = m) (h0 : 2305843009213693952 < m) (h1 : m ≤ 9223372036854775807) : SAll σ (xO e) := by
  obtain ⟨d, hd, hs⟩ := xs_ok he (by omega) h1
  obtain ⟨i1, g1, n1, l1⟩ := x1_ok hd
  obtain ⟨i2, g2, n2, l2⟩ := x2_ok hd
  obtain ⟨i3, g3, n3⟩ := x3_ok hd
  obtain ⟨p1, p2, p3⟩ := fit_of g1 n1 hd.val
  obtain ⟨r1, r2, r3⟩ := fit_of g2 n2 hd.val
  obtain ⟨t1, t2, t3⟩ := fit_of g3 n3 hd.val
  have b1 : ∀ x : Int, (bif false then x else 2305843009213693951) = 2305843009213693951 := fun _ => rfl
  have b2 : (bif true then (2305843009213693952 : Int) else 2305843009213693951) = 2305843009213693952 := rfl
  rw [b1] at p1 p2 t1 t2
  rw [b2] at r1 r2
  refine sall_app (xBase_ok he (by omega) h1) (sall_app (xOver_ok (by rw [hs.s1, p1]; omega) (by rw [hs.s1, p2]; omega)) (sall_app (xOver_ok (by rw [hs.s2, r1]; omega) (by rw [hs.s2, r2]; omega)) (sall_app (xOver_ok (by rw [hs.s3, t1]; omega) (by rw [hs.s3, t2]; omega)) ?_)))
  simp only [sall_cons]
  refine ⟨holdsT ?_, holdsN ?_, SAll.nil⟩
  · rw [he]; show (2305843009213693951 : Int) < m; omega
  · rw [he]; show ¬ m = (2305843009213693952 : Int); omega
theorem xE1_ok (he : e.eval σ = 2305843009213693952) : SAll σ (xE1 e) ∧ valI ((xS2 e).eval σ) = -2305843009213693952 := by
  obtain ⟨d, hd, hs⟩ := xs_ok he (by omega) (by omega)
  obtain ⟨i1, g1, n1, l1⟩ := x1_ok hd
  obtain ⟨i2, g2, n2, l2⟩ := x2_ok hd
  obtain ⟨i3, g3, n3⟩ := x3_ok hd
  obtain ⟨p1, p2, p3⟩ := fit_of g1 n1 hd.val
  obtain ⟨r1, r2, r3⟩ := fit_of g2 n2 hd.val
  obtain ⟨t1, t2, t3⟩ := fit_of g3 n3 hd.val
  have b1 : ∀ x : Int, (bif false then x else 2305843009213693951) = 2305843009213693951 := fun _ => rfl
  have b2 : (bif true then (2305843009213693952 : Int) else 2305843009213693951) = 2305843009213693952 := rfl
  rw [b1] at p1 p2 t1 t2
  rw [b2] at r1 r2
  exact ⟨sall_app (xBase_ok he (by omega) (by omega)) (sall_app (xOver_ok (by rw [hs.s1, p1]; omega) (by rw [hs.s1, p2]; omega)) (sall_app (xFit_ok (by rw [hs.s2, r1]; omega)) (xOver_ok (by rw [hs.s3, t1]; omega) (by rw [hs.s3, t2]; omega)))), by rw [hs.s2, r3]; rfl⟩
theorem xE_ok (he : e.eval σ = 2305843009213693952) : SAll σ (xE e) := by
  have h1 := (xE1_ok he).1
  have h2 := xE1_ok (σ := σ) (e := .c 2305843009213693952) rfl
  refine sall_app h1 (sall_app h2.1 ?_)
  simp only [sall_cons]
  refine ⟨holdsT ?_, holdsE ?_, holdsE ?_, SAll.nil⟩
  · rw [he]; show (2305843009213693951 : Int) < 2305843009213693952; omega
  · rw [he]; rfl
  · exact h2.2
end
theorem lives_run : retV (enter (run noHook 20000) 9 [] wS) (.bool true) = true := by kernel_rfl
theorem xH_ok [Gv] (hV : ∀ G : Gv, @VsOk G 74) : HookOk xH := by
  refine orH_ok (hooks_ok _ ?_) (hooksTM_ok _ ?_)
  · intro f vs v h
    rw [List.mem_singleton] at h
    injection h with h1 h2 h3
    subst h1 h2 h3
    exact fact_of_run noHook_ok rfl rfl lives_run
  · intro t ht
    rcases List.mem_cons.1 ht with rfl | ht
    · exact pk_ok
    · rcases List.mem_cons.1 ht with rfl | ht
      · exact tm_ok
      · rcases List.mem_cons.1 ht with rfl | ht
        · exact d_ok
        · exact two_mem (rd_ok hV) (rdO_ok hV) t ht
theorem law_fact {σ : Nat → List Int} (hV : ∀ G : Gv, @VsOk G 74) (h : -9223372036854775808 ≤ (σ 0).headD 0 ∧ (σ 0).headD 0 ≤ 9223372036854775807) : @FactT ⟨σ⟩ 5 xUs 256 [] (.ret (.bool true)) 256 [] := by
  have hH : @HookOk ⟨σ⟩ xH := @xH_ok ⟨σ⟩ hV
  by_cases hn : (σ 0).headD 0 < 0
  · have hN : xN.eval σ = -((σ 0).headD 0 + 1) := by
      show IntKind.i64.wrap (0 - IntKind.i64.wrap ((σ 0).headD 0 + 1)) = _
      rw [wrap64 (x := (σ 0).headD 0 + 1) (by omega), wrap64 (by omega)]; omega
    have hneg : SAll σ xNeg := by unfold xNeg; simp only [sall_cons]; exact ⟨holdsT hn, SAll.nil⟩
    by_cases h1 : -((σ 0).headD 0 + 1) ≤ 2305843009213693951
    · exact @tm_of_run ⟨σ⟩ _ hH _ (@noLp_ok ⟨σ⟩) 4000 _ _ _ _ (xNeg ++ xF xN) _ _ _ [] .nil (sall_app hneg (xF_ok hN (by omega) h1)) trivial rfl rfl (by kernel_rfl)
    · by_cases h2 : -((σ 0).headD 0 + 1) = 2305843009213693952
      · exact @tm_of_run ⟨σ⟩ _ hH _ (@noLp_ok ⟨σ⟩) 4000 _ _ _ _ (xNeg ++ xE xN) _ _ _ [] .nil (sall_app hneg (xE_ok (hN.trans h2))) trivial rfl rfl (by kernel_rfl)
      · exact @tm_of_run ⟨σ⟩ _ hH _ (@noLp_ok ⟨σ⟩) 4000 _ _ _ _ (xNeg ++ xO xN) _ _ _ [] .nil (sall_app hneg (xO_ok hN (by omega) (by omega))) trivial rfl rfl (by kernel_rfl)
  · have hN : (SE.v 0).eval σ = (σ 0).headD 0 := rfl
    by_cases h1 : (σ 0).headD 0 ≤ 2305843009213693951
    · exact @tm_of_run ⟨σ⟩ _ hH _ (@noLp_ok ⟨σ⟩) 4000 _ _ _ _ (xF (.v 0)) _ _ _ [] .nil (xF_ok hN (by omega) h1) trivial rfl rfl (by kernel_rfl)
    · by_cases h2 : (σ 0).headD 0 = 2305843009213693952
      · exact @tm_of_run ⟨σ⟩ _ hH _ (@noLp_ok ⟨σ⟩) 4000 _ _ _ _ (xE (.v 0)) _ _ _ [] .nil (xE_ok (hN.trans h2)) trivial rfl rfl (by kernel_rfl)
      · exact @tm_of_run ⟨σ⟩ _ hH _ (@noLp_ok ⟨σ⟩) 4000 _ _ _ _ (xO (.v 0)) _ _ _ [] .nil (xO_ok hN (by omega) (by omega)) trivial rfl rfl (by kernel_rfl)
noncomputable instance gv0 : Gv := ⟨fun _ => []⟩
theorem laid_gv {G G' : Gv} {w : World} (h : @LaidIn G laidL w) : @LaidIn G' laidL w := by
  intro g cs hm
  obtain ⟨arr, t, fz, h1, h2⟩ := h g cs hm
  exact ⟨arr, t, fz, h1, fun ρ => freesAny (@fine_get G _ (@laid_fine G) g cs hm).2.1 (h2 ρ)⟩
theorem arith_all (hV : ∀ G : Gv, @VsOk G 74) (a b : Int) (h : -9223372036854775808 ≤ a ∧ a ≤ 9223372036854775807 ∧ -9223372036854775808 ≤ b ∧ b ≤ 9223372036854775807) (w : World) (hl : LaidIn laidL w) :
    Calls PP 5 #[.int .i64 a, .int .i64 b] w fun e w' => e = .returned (.bool true) ∧ KeptW w w' := by
  let σ : Nat → List Int := fun i => if i = 0 then [a] else if i = 1 then [b] else []
  have hF : @FactT ⟨σ⟩ 5 xUs 256 [] (.ret (.bool true)) 256 [] := law_fact hV ⟨h.1, h.2.1⟩
  have hv : @VRels ⟨σ⟩ ρ00 xUs (#[Value.int .i64 a, Value.int .i64 b] : Array Value).toList := by
    unfold xUs
    simp only [VRels, VRel]
    exact ⟨_, _, rfl, ⟨SAll.nil, rfl⟩, _, _, rfl, ⟨SAll.nil, rfl⟩, rfl⟩
  refine Calls.mono (hF ρ00 _ w (@grel00 ⟨σ⟩) (@wrel00 ⟨σ⟩ w (laid_gv hl)) (@clean00 ⟨σ⟩) hv) fun e w' hp => ?_
  obtain ⟨v', ρ', rfl, hv2, hA⟩ := hp
  simp only [VRel] at hv2
  subst hv2
  exact ⟨rfl, @kept_of_adv' ⟨σ⟩ _ _ _ _ _ _ hA (@own00 ⟨σ⟩)⟩
end Go.Ev
