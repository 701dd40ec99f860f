import Derived.Test.YtkfdioikigponaaGreatDoorRdY
import Derived.Test.YtkfdioikigponaaGreatDoorEvFr
set_option maxRecDepth 100000
set_option linter.all false
namespace Go.Ev
/- copyistlaw05.ReadDeep: the law in a memory that holds the list. -/
theorem lives_run : retV (enter (run noHook 20000) 9 [] wS) (.bool true) = true := by kernel_rfl
theorem h9_ok [Gv] : HookOk (hooks [.mk 9 [] (.bool true)]) := by
  refine hooks_ok _ ?_
  intro f vs v h
  rw [List.mem_singleton] at h
  injection h with h1 h2 h3
  subst h1 h2 h3
  exact fact_of_run noHook_ok rfl rfl lives_run
theorem laid_gv {G G' : Gv} {w : World} (h : @LaidIn G laidL w) : @LaidIn G' laidL w := by
  intro g cs hm
  obtain ⟨arr, t, fz, h1, h2⟩ := h g cs hm
  exact ⟨arr, t, fz, h1, fun ρ => freesAny (@fine_get G _ (@laid_fine G) g cs hm).2.1 (h2 ρ)⟩
noncomputable def ρ01 [Gv] (c s : Nat) : Env := { blk := fun k => if k = K.of 256 then some c else ρ00.blk k, sz := fun k => if k = K.of 256 then s else ρ00.sz k }
section
variable [Gv] {c s : Nat} {w : World}
theorem blk01 {k : K} (h : k ≠ K.of 256) : (ρ01 c s) k = ρ00 k ∧ (ρ01 c s).sz k = ρ00.sz k := ⟨if_neg h, if_neg h⟩
theorem at01 : (ρ01 c s) (K.of 256) = some c ∧ (ρ01 c s).sz (K.of 256) = s := by
  constructor
  · show (if K.of 256 = K.of 256 then some c else ρ00.blk (K.of 256)) = some c; exact if_pos rfl
  · show (if K.of 256 = K.of 256 then s else ρ00.sz (K.of 256)) = s; exact if_pos rfl
theorem le01 : ρ00.le (ρ01 c s) := by
  intro k x h
  have hk : k ≠ K.of 256 := by
    rintro rfl
    have h : (if (K.of 256).num ≤ 255 then some (K.of 256).num else none) = some x := h
    rw [K.of_num' (by omega), if_neg (by omega)] at h
    cases h
  rw [(blk01 hk).1, (blk01 hk).2]
  exact ⟨h, rfl⟩
theorem grel01 : GRel (ρ01 c s) := fun g hg => (le01 _ _ (grel00 g hg)).1
theorem clean01 : Clean (ρ01 c s) (withL wLi 257) := by
  intro k hk
  have hk : (K.of 257).num ≤ k.num := hk
  rw [K.of_num' (by omega)] at hk
  have hne : k ≠ K.of 256 := by
    rintro rfl
    rw [K.of_num' (by omega)] at hk
    omega
  rw [(blk01 hne).1]
  refine clean00 k ?_
  show (K.of 256).num ≤ k.num
  rw [K.of_num' (by omega)]; omega
theorem get01 {k : K} (h : k ≠ K.of 256) : hget k (withL wLi 257).h = hget k wS.h := hget_hset_ne h _ _
theorem get256 : hget (K.of 256) (withL wLi 257).h = .gob (.rh (.v 0) (.v 1) (.s 2)) := hget_hset_same _ _ _
theorem lay_low {k : K} (h : hget k wS.h ≠ .none) : k.num ≤ 255 ∧ ∃ g cs, LE.mk g cs ∈ laidL ∧ ρ00 k = some g := by
  obtain ⟨g, cs, h1, h2, h3, h4⟩ := lay_get k laidL h
  have f1 := (fine_get _ laid_fine g cs h1).1
  subst h2
  exact ⟨by rw [K.of_num' (by omega)]; exact f1, g, cs, h1, grel00 g f1⟩
theorem wrel01 (hl : LaidIn laidL w) (hc : ∀ g cs, LE.mk g cs ∈ laidL → g ≠ c) {arr : Array Value} {t : TypeId} {fz : Nat × Nat} (ha : w.heap[c]? = some (.cells arr t fz)) (hs : arr.size = s) (ho : GORel (.rh (.v 0) (.v 1) (.s 2)) (some (.cells arr t fz))) : WRel (ρ01 c s) (withL wLi 257) w := by
  have h0 := wrel00 hl
  have live : ∀ k, k ≠ K.of 256 → hget k (withL wLi 257).h ≠ .none → hget k wS.h ≠ .none := fun k hk h => by rw [get01 hk] at h; exact h
  have at256 : (ρ01 c s) (K.of 256) = some c := at01.1
  have no : ∀ k, k ≠ K.of 256 → hget k (withL wLi 257).h ≠ .none → (ρ01 c s) k ≠ some c := by
    intro k hk h e
    obtain ⟨_, g, cs, h1, h2⟩ := lay_low (live k hk h)
    rw [(blk01 hk).1, h2] at e
    injection e with e
    exact hc g cs h1 e
  refine ⟨?_, ?_, ?_, ?_⟩
  · intro k l hk hl' e
    by_cases ek : k = K.of 256
    · by_cases el : l = K.of 256
      · rw [ek, el]
      · rw [ek, at256] at e
        exact absurd e.symm (no l el hl')
    · by_cases el : l = K.of 256
      · rw [el, at256] at e
        exact absurd e (no k ek hk)
      · rw [(blk01 ek).1, (blk01 el).1] at e
        exact h0.inj k l (live k ek hk) (live l el hl') e
  · intro k hk
    by_cases ek : k = K.of 256
    · subst ek
      refine ⟨c, at256, ?_⟩
      rw [get256, ha]; exact ho
    · obtain ⟨x, q1, q2⟩ := h0.dom k (live k ek hk)
      refine ⟨x, (le01 _ _ q1).1, ?_⟩
      rw [get01 ek]; exact q2.mono le01
  · intro k x arr' t' fz' hk hx hh
    by_cases ek : k = K.of 256
    · subst ek
      rw [at256] at hx
      injection hx with hx
      subst hx
      rw [ha] at hh
      injection hh with hh
      injection hh with hh
      subst hh
      rw [hs]; exact at01.2.symm
    · rw [(blk01 ek).1] at hx
      rw [(blk01 ek).2]
      exact h0.len k x arr' t' fz' (live k ek hk) hx hh
  · intro k kd g hk
    by_cases ek : k = K.of 256
    · subst ek; rw [get256] at hk; cases hk
    · rw [get01 ek] at hk
      have hk : lhOf (hget k (layH laidL)) = some (kd, g) := hk
      rw [lay_noGhost] at hk; cases hk
theorem own01 (x : Nat) : ¬ Own (ρ01 c s) (withL wLi 257) x := by
  rintro ⟨k, hk, hr, _⟩
  by_cases ek : k = K.of 256
  · subst ek; rw [get256] at hr; cases hr
  · rw [get01 ek] at hk hr
    obtain ⟨g, cs, h1, h2, h3, h4⟩ := lay_get k laidL hk
    have hr : (hget k (layH laidL)).isRo = false := hr
    rw [h3] at hr
    cases hr
end
noncomputable instance gv0 : Gv := ⟨fun _ => []⟩
theorem deep_list (hV : ∀ G : Gv, @VsOk G 74) {l : List Int} (h1 : 1 ≤ l.length) {c o cap : Nat} (hcap : l.length ≤ cap) {w : World} (hl : LaidIn laidL w) (hc : ∀ g cs, LE.mk g cs ∈ laidL → g ≠ c)
    {arr : Array Value} {t : TypeId} {fz : Nat × Nat} (ha : w.heap[c]? = some (.cells arr t fz)) (hcells : ∀ i (h : i < l.length), arr[o + i]? = some (.int .i64 l[i])) :
    Calls PP 3 #[.slice (some ⟨c, o, none⟩) l.length cap] w fun e w' => e = .returned (.bool true) ∧ KeptW w w' := by
  let σ : Nat → List Int := fun i => if i = 0 then [(o : Int)] else if i = 1 then [(l.length : Int)] else if i = 2 then l else []
  have hF : @FactT ⟨σ⟩ 3 zUs 257 wLi (.ret (.bool true)) 257 wLi := @law_sr ⟨σ⟩ hV _ (@h9_ok ⟨σ⟩) rfl rfl h1
  have ho : @GORel ⟨σ⟩ (.rh (.v 0) (.v 1) (.s 2)) (some (.cells arr t fz)) := by
    refine ⟨arr, t, fz, rfl, ?_, ?_, ?_⟩
    · show (0 : Int) ≤ (l.length : Int); omega
    · show l.length = ((l.length : Int)).toNat; omega
    · intro i hi; exact hcells i hi
  have hw : @WRel ⟨σ⟩ (@ρ01 ⟨σ⟩ c arr.size) (withL wLi 257) w := @wrel01 ⟨σ⟩ c arr.size w (laid_gv hl) hc arr t fz ha rfl ho
  have hv : @VRels ⟨σ⟩ (@ρ01 ⟨σ⟩ c arr.size) zUs (#[Value.slice (some ⟨c, o, none⟩) l.length cap] : Array Value).toList := by
    unfold zUs
    simp only [VRels, VRel]
    refine ⟨_, _, rfl, ⟨SAll.nil, c, cap, (@at01 ⟨σ⟩ c arr.size).1, ?_, ?_, rfl⟩, rfl⟩
    · show (0 : Int) ≤ (l.length : Int); omega
    · show ((l.length : Int)).toNat ≤ cap; omega
  refine Calls.mono (hF _ _ w (@grel01 ⟨σ⟩ c arr.size) hw (@clean01 ⟨σ⟩ c arr.size) hv) fun e w' hp => ?_
  obtain ⟨v', ρ', rfl, hv2, hA⟩ := hp
  simp only [VRel] at hv2
  subst hv2
  exact ⟨rfl, @kept_of_adv' ⟨σ⟩ _ _ _ _ _ _ hA (@own01 ⟨σ⟩ c arr.size)⟩
theorem nil_run : retV (enter (run noHook 20000) 3 [.nilSlice] wS) (.bool true) = true := by kernel_rfl
theorem esl_run : retV (enter (run noHook 20000) 3 [.esl] wS) (.bool true) = true := by kernel_rfl
def u8s : List AV → Bool
  | [] => true
  | .int .u8 _ :: l => u8s l
  | _ => false
def laidU8 : List LE → Bool
  | [] => true
  | .mk _ cs :: l => u8s cs && laidU8 l
theorem u8s_get : ∀ {cs : List AV} {vs : List Value} {ρ : Env}, u8s cs = true → VRels ρ cs vs → ∀ (i : Nat) (n : Int), vs[i]? ≠ some (Value.int .i64 n)
  | [], vs, ρ, _, h, i, n => by simp only [VRels] at h; subst h; simp
  | x :: cs, vs, ρ, hu, h, i, n => by
    simp only [VRels] at h
    obtain ⟨v, vs', rfl, h1, h2⟩ := h
    cases x <;> first | (cases hu; done) | skip
    rename_i k m
    cases k <;> first | (cases hu; done) | skip
    cases i with
    | zero => simp only [VRel] at h1; subst h1; simp
    | succ i => simpa using u8s_get (cs := cs) hu h2 i n
theorem laidU8_get : ∀ {l : List LE}, laidU8 l = true → ∀ g cs, LE.mk g cs ∈ l → u8s cs = true
  | [], _, _, _, h => by cases h
  | .mk g' cs' :: l, h, g, cs, hm => by
    simp only [laidU8, Bool.and_eq_true] at h
    rcases List.mem_cons.1 hm with e | e
    · injection e with e1 e2; subst e1 e2; exact h.1
    · exact laidU8_get h.2 g cs e
theorem laid_u8 : laidU8 laidL = true := by kernel_rfl
/-- the law, whatever the list -/
theorem deep_any (hV : ∀ G : Gv, @VsOk G 74) {w : World} (hl : LaidIn laidL w) {v : Value}
    (h : v = .slice none 0 0 ∨ ∃ (a : Addr) (len cap : Nat) (zs : List Int), v = .slice (some a) len cap ∧ len ≤ cap ∧ len ≤ zs.length ∧ ∀ i, i < zs.length → w.cell? (a.add i) = some (.int .i64 (zs.getD i 0))) :
    Calls PP 3 #[v] w fun e w' => e = .returned (.bool true) ∧ KeptW w w' := by
  have close : ∀ {x : AV}, HookFact 3 [x] (.bool true) → VRel ρ00 x v → Calls PP 3 #[v] w fun e w' => e = .returned (.bool true) ∧ KeptW w w' := by
    intro x hf hv
    refine Calls.mono (hf ρ00 #[v] w hl (by simp only [VRels]; exact ⟨_, _, rfl, hv, rfl⟩)) fun e w' hp => ?_
    obtain ⟨v', rfl, h1, h2⟩ := hp
    have := h1 ρ00
    simp only [VRel] at this
    subst this
    exact ⟨rfl, h2⟩
  rcases h with rfl | ⟨a, len, cap, zs, rfl, h1, h2, h3⟩
  · exact close (fact_of_run noHook_ok rfl rfl nil_run) (by simp only [VRel])
  · cases len with
    | zero =>
      obtain ⟨aw, h⟩ := retV_eq esl_run
      have hv : VRels ρ00 [.esl] (#[Value.slice (some a) 0 cap] : Array Value).toList := by
        simp only [VRels, VRel]; exact ⟨_, _, rfl, ⟨_, _, rfl⟩, rfl⟩
      have key := enter_ok (run_ok noHook_ok 20000) grel00 (wrel00 hl) clean00 (f := 3) hv (by rw [h]; trivial)
      rw [h] at key
      refine Calls.mono key fun e w' hp => ?_
      obtain ⟨v', ρ', rfl, hv', hA⟩ := hp
      simp only [VRel] at hv'
      subst hv'
      exact ⟨rfl, kept_of_adv' hA own00⟩
    | succ n =>
      obtain ⟨b, o, sp⟩ := a
      have c0 := h3 0 (by omega)
      unfold World.cell? at c0
      rw [show (Addr.add ⟨b, o, sp⟩ 0) = ⟨b, o, sp⟩ from rfl] at c0
      simp only at c0
      split at c0
      · rename_i arr t fz hx
        split at c0
        · cases c0
        · rename_i hsp
          have hsp : sp = none := by cases sp with | none => rfl | some x => exact absurd rfl hsp
          subst hsp
          have hlen : (zs.take (n + 1)).length = n + 1 := by rw [List.length_take]; omega
          have key := deep_list hV (l := zs.take (n + 1)) (by omega) (c := b) (o := o) (cap := cap) (by omega) (w := w) hl ?_ hx ?_
          · rw [hlen] at key; exact key
          · intro g cs hm e
            subst e
            obtain ⟨arr', t', fz', q1, q2⟩ := hl g cs hm
            rw [hx] at q1
            injection q1 with q1
            injection q1 with q1
            subst q1
            exact u8s_get (laidU8_get laid_u8 g cs hm) (q2 ρ00) o _ (by simpa using c0)
          · intro i hi
            have ci := h3 i (by omega)
            unfold World.cell? at ci
            have e : (Addr.add ⟨b, o, none⟩ i) = ⟨b, o + i, none⟩ := by
              unfold Addr.add
              split
              · rename_i h0; subst h0; rfl
              · rfl
            rw [e] at ci
            simp only [hx] at ci
            have ci : arr[o + i]? = some (.int .i64 (zs.getD i 0)) := by simpa using ci
            rw [ci]
            congr 2
            rw [List.getElem_take]
            simp [List.getD, show i < zs.length by omega]
      · cases c0
end Go.Ev
