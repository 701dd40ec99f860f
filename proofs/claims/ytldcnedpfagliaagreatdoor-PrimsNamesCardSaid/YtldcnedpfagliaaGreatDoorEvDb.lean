import Derived.Test.YtldcnedpfagliaaGreatDoorEvDa
import Derived.Orders
set_option linter.all false
namespace Go.Ev
/- The order of a region: what is surely run before what; what the checks say. -/
section
variable {pm : PM} {ops : Array Oper}
def Closed (ops : Array Oper) (L : Nat → Bool) : Prop := ∀ j o, ops[j]? = some o → L j = true → ∀ e ∈ o.after, Region.binds .any e = true → L e.on = true
theorem tb_eq (m i : Nat) : tb m i = m.testBit i := by
  have h : tb m i = Nat.beq ((m >>> i) &&& 1) 1 := rfl
  rw [h, Nat.testBit, Nat.and_comm]
  rcases Nat.mod_two_eq_zero_or_one (m >>> i) with e | e
  · have : 1 &&& (m >>> i) = 0 := by rw [Nat.one_and_eq_mod_two, e]
    rw [this]; rfl
  · have : 1 &&& (m >>> i) = 1 := by rw [Nat.one_and_eq_mod_two, e]
    rw [this]; rfl
theorem two256_eq : two256 = 2 ^ 256 := by decide
theorem fld_bit (M t i : Nat) : (fld M t).testBit i = (decide (i < 256) && M.testBit (t * 256 + i)) := by
  have h : fld M t = (M >>> (t * 256)) % two256 := rfl
  rw [h, two256_eq, Nat.testBit_mod_two_pow, Nat.testBit_shiftRight]
theorem fldOr_bit (M t m t' i : Nat) : (fld (fldOr M t m) t').testBit i = true ↔ (fld M t').testBit i = true ∨ (t' = t ∧ i < 256 ∧ m.testBit i = true) := by
  have h : fldOr M t m = M ||| ((m % two256) <<< (t * 256)) := rfl
  rw [fld_bit, fld_bit, h, two256_eq, Nat.testBit_or, Nat.testBit_shiftLeft, Nat.testBit_mod_two_pow]
  simp only [Bool.and_eq_true, Bool.or_eq_true, decide_eq_true_eq]
  constructor
  · rintro ⟨h1, h2 | ⟨h2, h3, h4⟩⟩
    · exact .inl ⟨h1, h2⟩
    · right
      have e : t' = t := by omega
      subst e
      refine ⟨rfl, h1, ?_⟩
      have : t' * 256 + i - t' * 256 = i := by omega
      rw [this] at h4; exact h4
  · rintro (⟨h1, h2⟩ | ⟨rfl, h1, h2⟩)
    · exact ⟨h1, .inl h2⟩
    · refine ⟨h1, .inr ⟨by omega, by omega, ?_⟩⟩
      have : t' * 256 + i - t' * 256 = i := by omega
      rw [this]; exact h2
theorem one_bit (j i : Nat) : (Nat.shiftLeft 1 j).testBit i = true ↔ i = j := by
  have h : Nat.shiftLeft 1 j = 2 ^ j := Nat.one_shiftLeft j
  rw [h, Nat.testBit_two_pow]
  simp only [decide_eq_true_eq]
  exact eq_comm
theorem subM_bit {x y i : Nat} (h : subM x y = true) (hx : x.testBit i = true) : y.testBit i = true := by
  have h : x &&& y = x := Nat.eq_of_beq_eq_true h
  rw [← h, Nat.testBit_and] at hx
  simp only [Bool.and_eq_true] at hx
  exact hx.2
theorem emask_bit : ∀ (es : List Edge) (B : Nat) (s i : Nat), Nat.testBit (emask es B s) i = true → Nat.testBit s i = true ∨ ∃ e ∈ es, Region.binds .any e = true ∧ (i = e.on ∨ (fld B e.on).testBit i = true)
  | [], _, _, _, h => .inl h
  | e :: es, B, s, i, h => by
    simp only [emask] at h
    rcases emask_bit es B _ i h with h | ⟨e', h1, h2, h3⟩
    · rw [bc_eq] at h
      split at h
      · rename_i hb
        have h : ((s ||| Nat.shiftLeft 1 e.on) ||| fld B e.on).testBit i = true := h
        rw [Nat.testBit_or, Nat.testBit_or] at h
        simp only [Bool.or_eq_true] at h
        rcases h with (h | h) | h
        · exact .inl h
        · exact .inr ⟨e, by simp, hb, .inl ((one_bit _ _).1 h)⟩
        · exact .inr ⟨e, by simp, hb, .inr h⟩
      · exact .inl h
    · exact .inr ⟨e', by simp [h1], h2, h3⟩
theorem bmGo_bit {L : Nat → Bool} (hc : Closed ops L) : ∀ (l : List Oper) (j B : Nat), ops.toList.drop j = l →
    (∀ x i, (fld B x).testBit i = true → L x = true → L i = true) → ∀ x i, (fld (bmGo l j B) x).testBit i = true → L x = true → L i = true
  | [], _, _, _, h => h
  | o :: l, j, B, hl, h => by
    have ho : ops[j]? = some o := by
      have := congrArg (·[0]?) hl
      simpa using this
    refine bmGo_bit hc l _ _ ?_ ?_
    · have := congrArg List.tail hl
      simpa using this
    · intro x i hi hL
      rcases (fldOr_bit _ _ _ _ _).1 hi with hi | ⟨rfl, _, hi⟩
      · exact h x i hi hL
      · rcases emask_bit _ _ _ _ hi with h0 | ⟨e, h1, h2, h3⟩
        · simp at h0
        · have hle := hc _ o ho hL e (by simpa using h1) h2
          rcases h3 with h3 | h3
          · rw [h3]; exact hle
          · exact h _ i h3 hle
theorem isBef_closed {L : Nat → Bool} (hc : Closed ops L) {i j : Nat} (h : isBef ops i j = true) (hj : L j = true) : L i = true := by
  unfold isBef bmask bmAll at h
  rw [tb_eq] at h
  exact bmGo_bit hc ops.toList 0 0 rfl (by intro x i h; rw [fld_bit] at h; simp at h) j i h hj
theorem allN_iff {p : Nat → Bool} : ∀ n, allN p n = true ↔ ∀ i, i < n → p i = true
  | 0 => ⟨fun _ i h => by omega, fun _ => rfl⟩
  | n + 1 => by
    simp only [allN, bc_eq]
    constructor
    · intro h i hi
      split at h
      · rename_i hp
        rcases Nat.lt_or_ge i n with h1 | h1
        · exact (allN_iff n).1 h i h1
        · have : i = n := by omega
          rw [this]; exact hp
      · cases h
    · intro h
      rw [if_pos (h n (by omega))]
      exact (allN_iff n).2 fun i hi => h i (by omega)
theorem opsLen_eq (ops : Array Oper) : opsLen ops = ops.size := by unfold opsLen; rw [llen_eq]; simp
theorem nth_ops (ops : Array Oper) (j : Nat) : nth ops.toList j = ops[j]? := by rw [nth_eq]; simp
theorem clsAt_eq {j : Nat} {o : Oper} (h : ops[j]? = some o) : clsAt pm ops j = cls pm o.op := by unfold clsAt; rw [nth_ops, h]
theorem hasB_iff (d : Nat) : ∀ l, hasB d l = true ↔ d ∈ l
  | [] => by simp [hasB]
  | x :: l => by
    simp only [hasB, bc_eq, List.mem_cons]
    split
    · rename_i h; rw [Nat.eq_of_beq_eq_true h]; simp
    · rename_i h
      rw [hasB_iff d l]
      constructor
      · exact .inr
      · rintro (h' | h')
        · subst h'; exact absurd (Nat.beq_refl _) h
        · exact h'
theorem tmpsOf_mem {t : Nat} : ∀ {l : List Operand}, .tmp t ∈ l → t ∈ tmpsOf l
  | x :: l, h => by
    rcases List.mem_cons.1 h with h | h
    · subst h; simp [tmpsOf]
    · have := tmpsOf_mem h
      cases x <;> simp [tmpsOf, this]
theorem lt_of_blt {i j : Nat} (h : Nat.blt i j = true) : i < j := Nat.le_of_ble_eq_true h
theorem blt_of_lt {i j : Nat} (h : i < j) : Nat.blt i j = true := Nat.ble_eq_true_of_le h
theorem bc_imp {x y : Bool} : bc x y true = true ↔ (x = true → y = true) := by cases x <;> cases y <;> simp [bc_eq]
structure Drawn (pm : PM) (ops : Array Oper) : Prop where
  edge : ∀ j o, ops[j]? = some o → ∀ e ∈ o.after, Region.binds .any e = true → e.on < j
  tmp : ∀ i j oi oj d, i ≠ j → ops[i]? = some oi → ops[j]? = some oj → oi.dst = some d → d ∈ looksA ops.toList oj → (i < j → isBef ops i j = true) ∧ (j < i → isBef ops j i = true)
  eff : ∀ i j oi oj, i < j → ops[i]? = some oi → ops[j]? = some oj → cls pm oi.op = .ef → cls pm oj.op = .ef → isBef ops i j = true
theorem edgesOk_spec {j : Nat} : ∀ {l : List Edge}, edgesOk j l = true → ∀ e ∈ l, Region.binds .any e = true → e.on < j
  | e :: l, h, x, hx, hb => by
    simp only [edgesOk] at h
    obtain ⟨h1, h2⟩ := bc_and.1 h
    rcases List.mem_cons.1 hx with e' | e'
    · subst e'; exact lt_of_blt (bc_imp.1 h1 hb)
    · exact edgesOk_spec h2 x e' hb
theorem tmpsIn_spec {Wm b : Nat} : ∀ {l : List Nat}, tmpsIn Wm b l = true → ∀ t ∈ l, subM (fld Wm t) b = true
  | t :: l, h, x, hx => by
    obtain ⟨h1, h2⟩ := bc_and.1 h
    rcases List.mem_cons.1 hx with e | e
    · rw [e]; exact h1
    · exact tmpsIn_spec h2 x e
theorem addR_bit {j : Nat} (hj : j < 256) : ∀ (l : List Nat) (Rm t i : Nat), (fld Rm t).testBit i = true ∨ (i = j ∧ t ∈ l) → (fld (addR j l Rm) t).testBit i = true
  | [], _, _, _, h => by
    rcases h with h | ⟨_, h⟩
    · exact h
    · cases h
  | u :: l, Rm, t, i, h => by
    refine addR_bit hj l _ t i ?_
    rcases h with h | ⟨h1, h2⟩
    · exact .inl ((fldOr_bit _ _ _ _ _).2 (.inl h))
    · rcases List.mem_cons.1 h2 with e | e
      · exact .inl ((fldOr_bit _ _ _ _ _).2 (.inr ⟨e, by omega, (one_bit _ _).2 h1⟩))
      · exact .inr ⟨h1, e⟩
theorem addW_bit {j : Nat} (hj : j < 256) {Wm t i : Nat} {dst : Option Nat} (h : (fld Wm t).testBit i = true ∨ (i = j ∧ dst = some t)) : (fld (addW Wm j dst) t).testBit i = true := by
  cases dst with
  | none =>
    rcases h with h | ⟨_, h⟩
    · exact h
    · cases h
  | some d =>
    rcases h with h | ⟨h1, h2⟩
    · exact (fldOr_bit _ _ _ _ _).2 (.inl h)
    · injection h2 with h2
      exact (fldOr_bit _ _ _ _ _).2 (.inr ⟨h2.symm, by omega, (one_bit _ _).2 h1⟩)
theorem dOkGo_spec (hn : ops.size ≤ 256) : ∀ (l : List Oper) (j Wm Rm Em : Nat), ops.toList.drop j = l → dOkGo pm ops.toList (bmAll ops) l j Wm Rm Em = true →
    (∀ i oi t, i < j → ops[i]? = some oi → oi.dst = some t → (fld Wm t).testBit i = true) → (∀ i oi t, i < j → ops[i]? = some oi → t ∈ looksA ops.toList oi → (fld Rm t).testBit i = true) →
    (∀ i oi, i < j → ops[i]? = some oi → cls pm oi.op = .ef → Em.testBit i = true) →
    ∀ k o, j ≤ k → ops[k]? = some o → edgesOk k o.after.toList = true ∧ (∀ i oi t, i < k → ops[i]? = some oi → oi.dst = some t → t ∈ looksA ops.toList o → isBef ops i k = true) ∧
      (∀ i oi t, i < k → ops[i]? = some oi → o.dst = some t → t ∈ looksA ops.toList oi → isBef ops i k = true) ∧ (∀ i oi, i < k → ops[i]? = some oi → cls pm oi.op = .ef → cls pm o.op = .ef → isBef ops i k = true)
  | [], j, _, _, _, hl, _, _, _, _, k, o, hjk, hk => by
    have h1 := (Array.getElem?_eq_some_iff.1 hk).1
    have := congrArg List.length hl
    simp at this
    omega
  | o' :: l, j, Wm, Rm, Em, hl, h, hW, hR, hE, k, o, hjk, hk => by
    have ho : ops[j]? = some o' := by
      have := congrArg (·[0]?) hl
      simpa using this
    have hj : j < ops.size := (Array.getElem?_eq_some_iff.1 ho).1
    have hl' : ops.toList.drop (j + 1) = l := by
      have := congrArg List.tail hl
      simpa using this
    simp only [dOkGo] at h
    obtain ⟨k1, h⟩ := bc_and.1 h
    obtain ⟨k2, h⟩ := bc_and.1 h
    obtain ⟨k3, h⟩ := bc_and.1 h
    obtain ⟨k4, h⟩ := bc_and.1 h
    have key : ∀ i, (fld (bmAll ops) j).testBit i = true → isBef ops i j = true := by
      intro i hi; unfold isBef bmask; rw [tb_eq]; exact hi
    rcases Nat.eq_or_lt_of_le hjk with e | e
    · subst e
      rw [ho] at hk; cases hk
      refine ⟨k1, ?_, ?_, ?_⟩
      · intro i oi t hi hoi hd ht
        exact key i (subM_bit (tmpsIn_spec k2 t ht) (hW i oi t hi hoi hd))
      · intro i oi t hi hoi hd ht
        rw [hd] at k3
        exact key i (subM_bit k3 (hR i oi t hi hoi ht))
      · intro i oi hi hoi h1 h2
        rw [h2] at k4
        exact key i (subM_bit k4 (hE i oi hi hoi h1))
    · refine dOkGo_spec hn l (j + 1) _ _ _ hl' h ?_ ?_ ?_ k o (by omega) hk
      · intro i oi t hi hoi hd
        rcases Nat.lt_or_ge i j with q | q
        · exact addW_bit (by omega) (.inl (hW i oi t q hoi hd))
        · have : i = j := by omega
          subst this
          rw [ho] at hoi; cases hoi
          exact addW_bit (by omega) (.inr ⟨rfl, hd⟩)
      · intro i oi t hi hoi ht
        rcases Nat.lt_or_ge i j with q | q
        · exact addR_bit (by omega) _ _ _ _ (.inl (hR i oi t q hoi ht))
        · have : i = j := by omega
          subst this
          rw [ho] at hoi; cases hoi
          exact addR_bit (by omega) _ _ _ _ (.inr ⟨rfl, ht⟩)
      · intro i oi hi hoi hc
        rw [bc_eq]
        have mono : Em.testBit i = true → (Nat.lor Em (Nat.shiftLeft 1 j)).testBit i = true := by
          intro q
          have : (Em ||| Nat.shiftLeft 1 j).testBit i = true := by rw [Nat.testBit_or, q]; rfl
          exact this
        rcases Nat.lt_or_ge i j with q | q
        · split
          · exact mono (hE i oi q hoi hc)
          · exact hE i oi q hoi hc
        · have : i = j := by omega
          subst this
          rw [ho] at hoi; cases hoi
          rw [hc, if_pos (show isEf CL.ef = true from rfl)]
          have : (Em ||| Nat.shiftLeft 1 i).testBit i = true := by rw [Nat.testBit_or, (one_bit i i).2 rfl, Bool.or_true]
          exact this
theorem drawOk_spec (h : drawOk pm ops = true) : Drawn pm ops := by
  unfold drawOk at h
  obtain ⟨h1, h2⟩ := bc_and.1 h
  rw [opsLen_eq] at h1
  have hn := Nat.le_of_ble_eq_true h1
  have key := dOkGo_spec hn ops.toList 0 0 0 0 rfl h2 (fun i _ _ h => by omega) (fun i _ _ h => by omega) (fun i _ h => by omega)
  refine ⟨fun j o ho e he hb => edgesOk_spec (key j o (by omega) ho).1 e (by simpa using he) hb, ?_, ?_⟩
  · intro i j oi oj d hne hi hj hd hl
    exact ⟨fun q => (key j oj (by omega) hj).2.1 i oi d q hi hd hl, fun q => (key i oi (by omega) hi).2.2.1 j oj d q hj hd hl⟩
  · intro i j oi oj hlt hi hj e1 e2
    exact (key j oj (by omega) hj).2.2.2 i oi hlt hi e1 e2
theorem allL_iff {p : Nat → Bool} : ∀ l, allL p l = true ↔ ∀ i ∈ l, p i = true
  | [] => ⟨fun _ i h => (by cases h), fun _ => rfl⟩
  | x :: l => by
    simp only [allL]
    rw [bc_and, allL_iff l]
    simp
theorem effsGo_mem : ∀ (l : List Oper) (j : Nat), ops.toList.drop j = l → ∀ x o, j ≤ x → ops[x]? = some o → cls pm o.op = .ef → x ∈ effsGo pm l j
  | [], j, hl, x, o, hx, ho, _ => by
    have h1 := (Array.getElem?_eq_some_iff.1 ho).1
    have := congrArg List.length hl
    simp at this
    omega
  | o' :: l, j, hl, x, o, hx, ho, hc => by
    have ho' : ops[j]? = some o' := by
      have := congrArg (·[0]?) hl
      simpa using this
    have hl' : ops.toList.drop (j + 1) = l := by
      have := congrArg List.tail hl
      simpa using this
    simp only [effsGo, bc_eq]
    rcases Nat.eq_or_lt_of_le hx with e | e
    · subst e
      rw [ho'] at ho; cases ho
      rw [hc, if_pos (show isEf CL.ef = true from rfl)]; simp
    · have := effsGo_mem l (j + 1) hl' x o (by omega) ho hc
      split
      · exact List.mem_cons_of_mem _ this
      · exact this
theorem effsGo_lt : ∀ (l : List Oper) (j : Nat), ops.toList.drop j = l → ∀ x ∈ effsGo pm l j, ∃ o, ops[x]? = some o ∧ cls pm o.op = .ef
  | [], _, _, x, h => by cases h
  | o' :: l, j, hl, x, h => by
    have ho' : ops[j]? = some o' := by
      have := congrArg (·[0]?) hl
      simpa using this
    have hl' : ops.toList.drop (j + 1) = l := by
      have := congrArg List.tail hl
      simpa using this
    simp only [effsGo, bc_eq] at h
    split at h
    · rename_i hc
      rcases List.mem_cons.1 h with e | e
      · subst e
        refine ⟨o', ho', ?_⟩
        cases hcl : cls pm o'.op <;> rw [hcl] at hc <;> first | rfl | cases hc
      · exact effsGo_lt l (j + 1) hl' x e
    · exact effsGo_lt l (j + 1) hl' x h
/- how many are left -/
def un (L : Nat → Bool) : Nat → Nat
  | 0 => 0
  | n + 1 => un L n + bif L n then 0 else 1
theorem un_zero {L : Nat → Bool} : ∀ n, un L n = 0 → ∀ i, i < n → L i = true
  | n + 1, h, i, hi => by
    simp only [un] at h
    rcases Nat.lt_or_ge i n with h1 | h1
    · exact un_zero n (by omega) i h1
    · have : i = n := by omega
      subst this
      cases hL : L i with
      | true => rfl
      | false => rw [hL] at h; simp at h
theorem un_all {L : Nat → Bool} : ∀ n, (∀ i, i < n → L i = true) → un L n = 0
  | 0, _ => rfl
  | n + 1, h => by simp only [un, un_all n fun i hi => h i (by omega), h n (by omega), cond_true]
theorem un_congr {L L' : Nat → Bool} : ∀ n, (∀ i, i < n → L i = L' i) → un L n = un L' n
  | 0, _ => rfl
  | n + 1, h => by simp only [un, un_congr n fun i hi => h i (by omega), h n (by omega)]
def upL (L : Nat → Bool) (j : Nat) : Nat → Bool := fun i => if i = j then true else L i
theorem upL_same (L : Nat → Bool) (j : Nat) : upL L j j = true := by simp [upL]
theorem upL_ne (L : Nat → Bool) {i j : Nat} (h : i ≠ j) : upL L j i = L i := by simp [upL, h]
theorem un_up {L : Nat → Bool} {j : Nat} (hj : L j = false) : ∀ n, j < n → un L n = un (upL L j) n + 1
  | n + 1, h => by
    simp only [un]
    rcases Nat.lt_or_ge j n with h1 | h1
    · rw [un_up hj n h1, upL_ne L (by omega)]; omega
    · have : j = n := by omega
      subst this
      rw [upL_same, hj, un_congr (L' := L) j (fun i hi => upL_ne L (by omega))]
      simp
/-- what the machine's table of the operations done says -/
def ofArr (listed : Array Bool) : Nat → Bool := fun i => listed.getD i false
theorem ofArr_set {listed : Array Bool} {j : Nat} (h : j < listed.size) : ofArr (listed.setIfInBounds j true) = upL (ofArr listed) j := by
  funext i
  simp only [ofArr, upL, Array.getD_eq_getD_getElem?, Array.getElem?_setIfInBounds]
  by_cases e : i = j
  · subst e; simp [h]
  · rw [if_neg (Ne.symm e), if_neg e]
theorem ready_spec {listed : Array Bool} (hs : listed.size = ops.size) {j : Nat} (h : j ∈ Region.ready .any ops listed) :
    ofArr listed j = false ∧ ∃ o, ops[j]? = some o ∧ ∀ e ∈ o.after, Region.binds .any e = true → ofArr listed e.on = true := by
  obtain ⟨h1, o, ho, h2⟩ := mem_ready.1 h
  have hj := (Array.getElem?_eq_some_iff.1 ho).1
  refine ⟨?_, o, ho, h2⟩
  unfold ofArr
  rw [Array.getD_eq_getD_getElem?] at h1 ⊢
  rw [Array.getElem?_eq_getElem (by omega)] at h1 ⊢
  exact h1
theorem ready_nil (hd : Drawn pm ops) {listed : Array Bool} (hs : listed.size = ops.size) (h : Region.ready .any ops listed = []) : ∀ j, j < ops.size → ofArr listed j = true := by
  intro j
  induction j using Nat.strongRecOn with
  | _ j ih =>
    intro hj
    cases hL : ofArr listed j with
    | true => rfl
    | false =>
      exfalso
      have : j ∈ Region.ready .any ops listed := by
        refine mem_ready.2 ⟨?_, ops[j], Array.getElem?_eq_getElem hj, fun e he hb => ?_⟩
        · unfold ofArr at hL
          rw [Array.getD_eq_getD_getElem?] at hL ⊢
          rw [Array.getElem?_eq_getElem (by omega)] at hL ⊢
          exact hL
        · have hlt := hd.edge j ops[j] (Array.getElem?_eq_getElem hj) e he hb
          exact ih e.on hlt (by omega)
      rw [h] at this
      cases this
end
end Go.Ev
