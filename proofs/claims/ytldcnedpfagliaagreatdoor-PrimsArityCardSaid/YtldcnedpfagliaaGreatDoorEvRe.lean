import Derived.Test.YtldcnedpfagliaaGreatDoorEvWx
set_option maxRecDepth 100000
set_option linter.all false
namespace Go.Ev
/- Calls that make memory of their own: known once, used wherever the next key stands (the result and what it reaches are moved to the keys that are next). -/
noncomputable section
def sh (d : Nat) (k : K) : K := bc (Nat.ble k.num 255) k (K.of (Nat.add k.num d))
def shL (f : AV → AV) : List AV → List AV
  | [] => []
  | x :: l => f x :: shL f l
def shAV (d : Nat) : Nat → AV → AV
  | 0, _ => .top
  | n + 1, x => match x with
    | .bool b => .bool b
    | .int k n => .int k n
    | .str l n => .str l n
    | .nilPtr => .nilPtr
    | .nilSlice => .nilSlice
    | .nilMap => .nilMap
    | .nilFunc => .nilFunc
    | .nilIface => .nilIface
    | .esl => .esl
    | .ptr b o => .ptr (sh d b) o
    | .slice b o l c e => .slice (sh d b) o l c e
    | .map b => .map (sh d b)
    | .func g x y => bc (plainFn g) (.func g (shL (shAV d n) x) (shL (shAV d n) y)) .top
    | .iface t v => .iface t (shAV d n v)
    | .agg l => .agg (shL (shAV d n) l)
    | .tuple l => .tuple (shL (shAV d n) l)
    | _ => .top
def shP (f : AV → AV) : List (AV × AV) → List (AV × AV)
  | [] => []
  | x :: l => (f x.1, f x.2) :: shP f l
def shLO (d : Nat) : LO → LO
  | .cells t e fl fh l => .cells t e fl fh (shL (shAV d 8) l)
  | .map es => .map (shP (shAV d 8) es)
  | .win kb l => .win kb l
def noWin : LO → Bool
  | .win _ _ => false
  | _ => true
def putSh (d : Nat) : List HO → H4 → H4
  | [], h => h
  | .mk k o :: l, h => hset (K.of (Nat.add k d)) (objOf (shLO d o)) (putSh d l h)
def relR (v : AV) (n : Nat) (L : List HO) : W → CR
  | .mk h nx => bc (Nat.ble 256 nx.num && Nat.ble (Nat.add nx.num n) 65535) (.ret (shAV (Nat.sub nx.num 256) 8 v) (.mk (putSh (Nat.sub nx.num 256) L h) (K.of (Nat.add nx.num n)))) (.no 270 0)
/-- the written blocks lie at keys of their own -/
def lowIn (n : Nat) : List HO → Bool
  | [] => true
  | .mk k o :: l => bc (Nat.ble 256 k && Nat.blt k (Nat.add 256 n) && noWin o) (lowIn n l) false
inductive HR where
  | mk (f : FuncId) (vs : List AV) (v : AV) (n : Nat) (L : List HO)
def hooksR (l : List HR) (f : FuncId) (vs : List AV) (w : W) : Option CR := match l with
  | [] => none
  | .mk g us v n L :: l => bc (Nat.beq f g) (bc (sameL us vs) (bc (laidIs laidL w) (some (relR v n L w)) none) (hooksR l f vs w)) (hooksR l f vs w)
end
section
variable {ρ ρ' : Env} {d : Nat}
/-- the one environment seen in the other, behind the move -/
def Moves (d : Nat) (ρ ρ' : Env) : Prop := ∀ k c, ρ k = some c → ρ' (sh d k) = some c ∧ ρ'.sz (sh d k) = ρ.sz k
theorem shSl {b b' : K} {o cap cap' : Nat} {ex : Option Nat} (h : ρ'.sz b' = ρ.sz b) (e : SlOk ρ b o cap cap' ex) : SlOk ρ' b' o cap cap' ex := by
  cases ex with
  | none => exact e
  | some es => simp only [SlOk] at e ⊢; rw [h]; exact e
theorem shL_rel {f : AV → AV} (hf : ∀ x v, VRel ρ x v → VRel ρ' (f x) v) : ∀ {l : List AV} {vs : List Value}, VRels ρ l vs → VRels ρ' (shL f l) vs
  | [], _, h => by simp only [shL, VRels] at h ⊢; exact h
  | x :: l, _, h => by
    simp only [shL, VRels] at h ⊢
    obtain ⟨v, vs, e, h1, h2⟩ := h
    exact ⟨v, vs, e, hf _ _ h1, shL_rel hf h2⟩
theorem shAV_rel (hm : Moves d ρ ρ') : ∀ n x v, VRel ρ x v → VRel ρ' (shAV d n x) v
  | 0, _, _, _ => by simp only [shAV, VRel]
  | n + 1, x, v, h => by
    have ih := shAV_rel hm n
    cases x <;> simp only [shAV] <;> first
      | (simp only [VRel] at h ⊢; exact h)
      | (simp only [VRel]; done)
      | skip
    · simp only [VRel] at h ⊢; obtain ⟨c, h1, h2⟩ := h; exact ⟨c, (hm _ _ h1).1, h2⟩
    · simp only [VRel] at h ⊢; obtain ⟨c, cap', h1, h2, h3, h4⟩ := h; exact ⟨c, cap', (hm _ _ h1).1, h2, shSl (hm _ _ h1).2 h3, h4⟩
    · simp only [VRel] at h ⊢; obtain ⟨c, h1, h2⟩ := h; exact ⟨c, (hm _ _ h1).1, h2⟩
    · rename_i g x y
      rw [bc_eq]
      split
      · rename_i hp
        simp only [VRel] at h ⊢
        obtain ⟨f', x', y', h1, h0, h2, h3⟩ := h
        refine ⟨f', x', y', h1, ?_, shL_rel ih h2, shL_rel ih h3⟩
        cases g <;> first | exact h0 | cases hp
      · simp only [VRel]
    · simp only [VRel] at h ⊢; obtain ⟨v', h1, h2⟩ := h; exact ⟨v', h1, ih _ _ h2⟩
    · simp only [VRel] at h ⊢; obtain ⟨ys, h1, h2⟩ := h; exact ⟨ys, h1, shL_rel ih h2⟩
    · simp only [VRel] at h ⊢; obtain ⟨ys, h1, h2⟩ := h; exact ⟨ys, h1, shL_rel ih h2⟩
theorem shP_rel {f : AV → AV} (hf : ∀ x v, VRel ρ x v → VRel ρ' (f x) v) : ∀ {es : List (AV × AV)} {l : List MapEntry}, ERel ρ es l → ERel ρ' (shP f es) l
  | [], _, h => h
  | _ :: _, _, ⟨m, ms, h1, h2, h3, h4⟩ => ⟨m, ms, h1, hf _ _ h2, hf _ _ h3, shP_rel hf h4⟩
theorem shL_len (f : AV → AV) : ∀ l, (shL f l).length = l.length
  | [] => rfl
  | _ :: l => by simp [shL, shL_len f l]
theorem shL_get (f : AV → AV) : ∀ (l : List AV) (i : Nat) (h : i < l.length), (shL f l)[i]'(by rw [shL_len]; exact h) = f l[i]
  | [], _, h => by simp at h
  | _ :: l, 0, _ => rfl
  | _ :: l, i + 1, h => by simpa [shL] using shL_get f l i (by simpa using h)
theorem shLO_rel (hm : Moves d ρ ρ') {o : LO} (hw : noWin o = true) {x : Option Obj} (h : ORel ρ (objOf o) x) : ORel ρ' (objOf (shLO d o)) x := by
  cases o with
  | win => cases hw
  | map es =>
    obtain ⟨a, b, h1, h2⟩ := h
    exact ⟨a, b, h1, shP_rel (shAV_rel hm 8) h2⟩
  | cells t e fl fh l =>
    obtain ⟨arr, fz, h1, h2, h3, h4, h5, h6⟩ := h
    rw [llen_eq] at *
    rw [ccap_cfill] at h4
    have hl : llen (shL (shAV d 8) l) = l.length := by rw [llen_eq, shL_len]
    refine ⟨arr, fz, h1, by rw [hl]; exact h2, fun q => by rw [hl]; exact h3 q, by rw [hl, ccap_cfill]; exact h4, h5, ?_⟩
    intro i hi
    rw [hl] at hi
    obtain ⟨v, q1, q2⟩ := h6 i hi
    refine ⟨v, q1, ?_⟩
    rw [cget_cfill l 0 _ i (by omega) (by omega), dif_pos ⟨Nat.zero_le _, by omega⟩] at q2
    have hl' := shL_len (shAV d 8) l
    rw [hl, cget_cfill (shL (shAV d 8) l) 0 _ i (by omega) (by omega), dif_pos ⟨Nat.zero_le _, by omega⟩]
    have := shL_get (shAV d 8) l i hi
    simp only [Nat.sub_zero] at q2 ⊢
    rw [this]
    exact shAV_rel hm 8 _ _ q2
theorem lay_build {k : K} : ∀ L, hget k (layH laidL) ≠ .none → hget k (buildH L) ≠ .none
  | [], h => h
  | .mk m o :: L, h => by
    simp only [buildH]
    by_cases e : k = K.of m
    · subst e; rw [hget_hset_same]; exact objOf_ne o
    · rw [hget_hset_ne e]; exact lay_build L h
theorem low_mem : ∀ {L : List HO} {n : Nat}, lowIn n L = true → ∀ m o, HO.mk m o ∈ L → 256 ≤ m ∧ m < 256 + n ∧ noWin o = true
  | [], _, _, _, _, h => by cases h
  | .mk k p :: L, n, h, m, o, hm => by
    simp only [lowIn] at h
    obtain ⟨h1, h2⟩ := bc_and.1 h
    simp only [Bool.and_eq_true] at h1
    obtain ⟨⟨p1, p2⟩, p3⟩ := h1
    rcases List.mem_cons.1 hm with e | e
    · injection e with e1 e2; subst e1 e2
      exact ⟨Nat.le_of_ble_eq_true p1, by have := Nat.le_of_ble_eq_true p2; exact this, p3⟩
    · exact low_mem h2 m o e
theorem put_get {n : Nat} (hd : d + 256 + n ≤ 65535) (k : K) (h : H4) : ∀ L, lowIn n L = true →
    (∃ m o, HO.mk m o ∈ L ∧ k = K.of (m + d) ∧ hget k (putSh d L h) = objOf (shLO d o) ∧ hget (K.of m) (buildH L) = objOf o) ∨
    ((∀ m o, HO.mk m o ∈ L → k ≠ K.of (m + d)) ∧ hget k (putSh d L h) = hget k h)
  | [], _ => .inr ⟨(fun _ _ h => by cases h), rfl⟩
  | .mk m o :: L, hl => by
    have hl' := hl
    simp only [lowIn] at hl
    obtain ⟨_, h2⟩ := bc_and.1 hl
    obtain ⟨b1, b2, _⟩ := low_mem hl' m o (by simp)
    by_cases e : k = K.of (m + d)
    · refine .inl ⟨m, o, by simp, e, ?_, ?_⟩
      · show hget k (hset (K.of (m + d)) _ _) = _
        rw [e, hget_hset_same]
      · show hget (K.of m) (hset (K.of m) _ _) = _
        rw [hget_hset_same]
    · have e1 : hget k (putSh d (.mk m o :: L) h) = hget k (putSh d L h) := hget_hset_ne e _ _
      rcases put_get hd k h L h2 with ⟨m', o', q1, q2, q3, q4⟩ | ⟨q1, q2⟩
      · refine .inl ⟨m', o', List.mem_cons_of_mem _ q1, q2, by rw [e1, q3], ?_⟩
        obtain ⟨c1, c2, _⟩ := low_mem h2 m' o' q1
        show hget (K.of m') (hset (K.of m) _ _) = _
        rw [hget_hset_ne ?_, q4]
        intro hh
        have := congrArg K.num hh
        rw [K.of_num' (by omega), K.of_num' (by omega)] at this
        subst this
        exact e q2
      · refine .inr ⟨fun m' o' hm => ?_, by rw [e1, q2]⟩
        rcases List.mem_cons.1 hm with x | x
        · injection x with x1 x2; subst x1; exact e
        · exact q1 m' o' x
end
/-- a call in whatever memory, with what it makes -/
def RFact (f : FuncId) (vs : List AV) (v : AV) (n : Nat) (L : List HO) : Prop := FactW f vs 256 [] v (256 + n) L
theorem hooksR_ok : ∀ (l : List HR), (∀ f vs v n L, HR.mk f vs v n L ∈ l → RFact f vs v n L ∧ frees vs = true ∧ lowIn n L = true) → HookOk (hooksR l)
  | [], _ => fun _ _ _ _ h => by cases h
  | .mk g us v n L :: l, h => by
    have ih := hooksR_ok l fun f vs v n L hm => h f vs v n L (List.mem_cons_of_mem _ hm)
    intro f vs aw r hr hok
    simp only [hooksR, bc_eq] at hr
    split at hr
    · rename_i hf
      split at hr
      · rename_i hs
        split at hr
        · rename_i hlaid
          injection hr with hr
          subst hr
          have hf := Nat.eq_of_beq_eq_true hf
          have hs := sameL_eq _ _ hs
          subst hf hs
          obtain ⟨hF, hfr, hlow⟩ := h f us v n L (by simp)
          intro ρ args cw hg hw hc hv
          obtain ⟨hh, nx⟩ := aw
          simp only [relR, bc_eq] at hok ⊢
          split at hok
          case isFalse => exact hok.elim
          rename_i hb
          rw [if_pos hb]
          simp only [Bool.and_eq_true] at hb
          have hb1 : 256 ≤ nx.num := Nat.le_of_ble_eq_true hb.1
          have hb2 : nx.num + n ≤ 65535 := Nat.le_of_ble_eq_true hb.2
          have hlaid' := laid_ok hg hw hlaid
          let d := nx.num - 256
          let ρ2 : Env := { blk := fun k => if k.num ≤ 255 then ρ k else none, sz := ρ.sz }
          have e2 : ∀ k : K, ρ2 k = if k.num ≤ 255 then ρ k else none := fun _ => rfl
          have hg2 : GRel ρ2 := fun g hgg => by rw [e2, K.of_num' (by omega), if_pos hgg]; exact hg g hgg
          have laidK : ∀ k, hget k (layH laidL) ≠ .none → ∃ g cs, k = K.of g ∧ g ≤ 255 ∧ LE.mk g cs ∈ laidL ∧ hget k (layH laidL) = .ro (Nat.succ g) (llen cs) (cfill cs 0 (cempty (llen cs))) := by
            intro k hk
            obtain ⟨g, cs, h1, h2, h3, _⟩ := lay_get k laidL hk
            exact ⟨g, cs, h2, (fine_get _ laid_fine g cs h1).1, h1, h3⟩
          have hw2 : WRel ρ2 (withL [] 256) cw := by
            refine ⟨?_, ?_, ?_⟩
            · intro k l hk hl e
              obtain ⟨g, cs, h1, h2, h3, _⟩ := laidK k hk
              obtain ⟨g', cs', h1', h2', h3', _⟩ := laidK l hl
              rw [h1, h1', hg2 g h2, hg2 g' h2'] at e
              injection e with e
              rw [h1, h1', e]
            · intro k hk
              obtain ⟨g, cs, h1, h2, h3, h4⟩ := laidK k hk
              obtain ⟨f1, f2, f3⟩ := fine_get _ laid_fine g cs h3
              obtain ⟨arr, t, fz, q1, q2⟩ := hlaid' g cs h3
              refine ⟨g, by rw [h1]; exact hg2 g h2, ?_⟩
              show ORel ρ2 (hget k (layH laidL)) _
              have hlen := VRels.length _ _ (q2 ρ2)
              rw [h4, q1, llen_eq]
              refine ⟨arr, t, fz, rfl, by simpa using hlen, by rw [ccap_cfill]; exact ccap_cempty _ f3, fun i hi => ?_, fun g' cs' e' hm' ρ' => by
                obtain rfl : g' = g := by have : g + 1 = g' + 1 := e'; omega
                obtain ⟨arr2, t2, fz2, z1, z2⟩ := hlaid' g' cs' hm'
                rw [q1] at z1; injection z1 with z1; injection z1 with z1; subst z1; exact z2 ρ'⟩
              obtain ⟨v, r1, r2⟩ := cells_new (q2 ρ2) f3 i hi
              exact ⟨v, by simpa using r1, r2⟩
            · intro k c arr t fz hk hc' hx
              obtain ⟨g, cs, h1, h2, h3, h4⟩ := laidK k hk
              obtain ⟨t', c', r1⟩ := laidIs_get hlaid g cs h3
              rw [wget_eq] at r1
              rw [h1, hg2 g h2] at hc'
              injection hc' with hc'
              subst hc'
              show arr.size = ρ.sz k
              rw [h1]
              exact hw.len (K.of g) g arr t fz (by rw [r1]; simp) (hg g h2) hx
          have hc2 : Clean ρ2 (withL [] 256) := by
            intro k hk
            have hk : (K.of 256).num ≤ k.num := hk
            rw [K.of_num' (by omega)] at hk
            rw [e2, if_neg (by omega)]
          refine Calls.mono (hF ρ2 args cw hg2 hw2 hc2 (frees_rel hfr hv)) fun e cw' hp => ?_
          obtain ⟨v', ρ3, rfl, hv3, hA⟩ := hp
          let ρ4 : Env := { blk := fun k => if nx.num ≤ k.num ∧ k.num < nx.num + n then ρ3 (K.of (k.num - d)) else ρ k, sz := fun k => if nx.num ≤ k.num ∧ k.num < nx.num + n then ρ3.sz (K.of (k.num - d)) else ρ.sz k }
          have e4 : ∀ k : K, ρ4 k = if nx.num ≤ k.num ∧ k.num < nx.num + n then ρ3 (K.of (k.num - d)) else ρ k := fun _ => rfl
          have s4 : ∀ k : K, ρ4.sz k = if nx.num ≤ k.num ∧ k.num < nx.num + n then ρ3.sz (K.of (k.num - d)) else ρ.sz k := fun _ => rfl
          have n256 : (withL [] 256).nx.num = 256 := K.of_num' (by omega)
          have n256' : (withL L (256 + n)).nx.num = 256 + n := K.of_num' (by omega)
          have hd : d + 256 = nx.num := by show nx.num - 256 + 256 = nx.num; omega
          have hm : Moves d ρ3 ρ4 := by
            intro k c hk
            have hr := hA.rng k
            rw [n256, n256'] at hr
            unfold sh
            rw [bc_eq]
            by_cases hk1 : k.num ≤ 255
            · rw [if_pos (Nat.ble_eq_true_of_le hk1)]
              have h3 : ρ3 k = ρ2 k := by rcases hr with x | x; exact x; omega
              rw [h3] at hk
              rw [e4, s4, if_neg (by omega), if_neg (by omega)]
              have := (hA.le k c hk).2
              rw [e2, if_pos hk1] at hk
              exact ⟨hk, this.symm⟩
            · rw [if_neg (fun x => hk1 (Nat.le_of_ble_eq_true x))]
              have h3 : 256 ≤ k.num ∧ k.num < 256 + n := by
                rcases hr with x | x
                · rw [x, e2, if_neg hk1] at hk; cases hk
                · exact x
              have hn : (K.of (k.num + d)).num = k.num + d := K.of_num' (by omega)
              show ρ4 (K.of (k.num + d)) = _ ∧ ρ4.sz (K.of (k.num + d)) = _
              rw [e4, s4, hn, if_pos (by omega), if_pos (by omega), Nat.add_sub_cancel, K.of_of]
              exact ⟨hk, rfl⟩
          have noOwn : ∀ c, ¬ Own ρ2 (withL [] 256) c := by
            rintro c ⟨k, hk, hr, _⟩
            obtain ⟨g, cs, h1, h2, h3, h4⟩ := laidK k hk
            have hr : (hget k (layH laidL)).isRo = false := hr
            rw [h4] at hr
            cases hr
          have oldLt : ∀ k, hget k hh ≠ .none → ∃ c, ρ k = some c ∧ c < cw.heap.size ∧ k.num < nx.num ∧ ORel ρ (hget k hh) (cw.heap[c]?) := by
            intro k hk
            obtain ⟨c, h1, h2⟩ := hw.dom k hk
            obtain ⟨y, hy⟩ := h2.some hk
            refine ⟨c, h1, (Array.getElem?_eq_some_iff.1 hy).1, ?_, h2⟩
            apply Classical.byContradiction
            intro hn
            have := hc k (Nat.le_of_not_lt hn)
            rw [this] at h1
            cases h1
          have hle : ρ.le ρ4 := by
            intro k c hk
            have : k.num < nx.num := by
              apply Classical.byContradiction
              intro hn
              have := hc k (Nat.le_of_not_lt hn)
              rw [this] at hk
              cases hk
            rw [e4, s4, if_neg (by omega), if_neg (by omega)]
            exact ⟨hk, rfl⟩
          have newAt : ∀ m o, HO.mk m o ∈ L → hget (K.of m) (buildH L) = objOf o → ∃ c, ρ4 (K.of (m + d)) = some c ∧ ρ3 (K.of m) = some c ∧ cw.heap.size ≤ c ∧ ORel ρ4 (objOf (shLO d o)) (cw'.heap[c]?) := by
            intro m o hmem hget'
            obtain ⟨b1, b2, b3⟩ := low_mem hlow m o hmem
            have hne : hget (K.of m) (withL L (256 + n)).h ≠ .none := by show hget (K.of m) (buildH L) ≠ .none; rw [hget']; exact objOf_ne o
            obtain ⟨c, h1, h2⟩ := hA.rel.dom _ hne
            have h2 : ORel ρ3 (hget (K.of m) (buildH L)) _ := h2
            rw [hget'] at h2
            have hn : (K.of (m + d)).num = m + d := K.of_num' (by omega)
            refine ⟨c, by rw [e4, hn, if_pos (by omega), Nat.add_sub_cancel]; exact h1, h1, ?_, shLO_rel hm b3 h2⟩
            rcases hA.keep _ c hne h1 with ⟨l, q1, q2⟩ | q
            · obtain ⟨g, cs, g1, g2, g3, g4⟩ := laidK l q1
              have q3 := (hA.le l c q2).1
              have := hA.rel.inj (K.of m) l hne (lay_build L q1) (by rw [h1, q3])
              have := congrArg K.num this
              rw [g1, K.of_num' (by omega), K.of_num' (by omega)] at this
              omega
            · exact q
          have hrel : WRel ρ4 (.mk (putSh d L hh) (K.of (nx.num + n))) cw' := by
            have view : ∀ k, hget k (putSh d L hh) ≠ .none → (∃ m o c, HO.mk m o ∈ L ∧ k = K.of (m + d) ∧ hget k (putSh d L hh) = objOf (shLO d o) ∧ ρ4 k = some c ∧ ρ3 (K.of m) = some c ∧ cw.heap.size ≤ c ∧ ORel ρ4 (objOf (shLO d o)) (cw'.heap[c]?) ∧ hget (K.of m) (buildH L) = objOf o) ∨
                (∃ c, hget k hh ≠ .none ∧ hget k (putSh d L hh) = hget k hh ∧ ρ4 k = some c ∧ ρ k = some c ∧ c < cw.heap.size ∧ ORel ρ4 (hget k hh) (cw'.heap[c]?) ∧ k.num < nx.num) := by
              intro k hk
              rcases put_get (n := n) (show d + 256 + n ≤ 65535 by omega) k hh L hlow with ⟨m, o, q1, q2, q3, q4⟩ | ⟨q1, q2⟩
              · obtain ⟨c, c1, c2, c3, c4⟩ := newAt m o q1 q4
                exact .inl ⟨m, o, c, q1, q2, q3, by rw [q2]; exact c1, c2, c3, c4, q4⟩
              · rw [q2] at hk
                obtain ⟨c, c1, c2, c3, c4⟩ := oldLt k hk
                refine .inr ⟨c, hk, q2, (hle k c c1).1, c1, c2, ?_, c3⟩
                rw [hA.frame c c2 (noOwn c)]
                exact ORel.mono hle c4
            refine ⟨?_, ?_, ?_⟩
            · intro k l hk hl e
              rcases view k hk with ⟨m, o, c, q1, q2, q3, q4, q5, q6, q7, q8⟩ | ⟨c, q1, q2, q3, q4, q5, q6, q7⟩ <;>
              rcases view l hl with ⟨m', o', c', p1, p2, p3, p4, p5, p6, p7, p8⟩ | ⟨c', p1, p2, p3, p4, p5, p6, p7⟩
              · rw [q4, p4] at e
                have hne : hget (K.of m) (withL L (256 + n)).h ≠ .none := by show hget (K.of m) (buildH L) ≠ .none; rw [q8]; exact objOf_ne o
                have hne' : hget (K.of m') (withL L (256 + n)).h ≠ .none := by show hget (K.of m') (buildH L) ≠ .none; rw [p8]; exact objOf_ne o'
                have := hA.rel.inj (K.of m) (K.of m') hne hne' (by rw [q5, p5, e])
                have := congrArg K.num this
                obtain ⟨b1, b2, _⟩ := low_mem hlow m o q1
                obtain ⟨b1', b2', _⟩ := low_mem hlow m' o' p1
                rw [K.of_num' (by omega), K.of_num' (by omega)] at this
                rw [q2, p2, this]
              · rw [q4, p3] at e; injection e with e; omega
              · rw [q3, p4] at e; injection e with e; omega
              · exact hw.inj k l q1 p1 (by rw [q4, p4, ← q3, ← p3, e])
            · intro k hk
              show ∃ c, ρ4 k = some c ∧ ORel ρ4 (hget k (putSh d L hh)) _
              rcases view k hk with ⟨m, o, c, q1, q2, q3, q4, q5, q6, q7, q8⟩ | ⟨c, q1, q2, q3, q4, q5, q6, q7⟩
              · exact ⟨c, q4, by rw [q3]; exact q7⟩
              · exact ⟨c, q3, by rw [q2]; exact q6⟩
            · intro k c arr t fz hk hc' hx
              rcases view k hk with ⟨m, o, c1, q1, q2, q3, q4, q5, q6, q7, q8⟩ | ⟨c1, q1, q2, q3, q4, q5, q6, q7⟩
              · rw [q4] at hc'; injection hc' with hc'; subst hc'
                obtain ⟨b1, b2, _⟩ := low_mem hlow m o q1
                have hne : hget (K.of m) (withL L (256 + n)).h ≠ .none := by show hget (K.of m) (buildH L) ≠ .none; rw [q8]; exact objOf_ne o
                have := hA.rel.len (K.of m) c1 arr t fz hne q5 hx
                have hn : (K.of (m + d)).num = m + d := K.of_num' (by omega)
                rw [this, q2, s4, hn, if_pos (by omega), Nat.add_sub_cancel]
              · rw [q3] at hc'; injection hc' with hc'; subst hc'
                rw [hA.frame c1 q5 (noOwn c1)] at hx
                rw [hw.len k c1 arr t fz q1 q4 hx, s4, if_neg (by omega)]
          refine ⟨v', ρ4, rfl, shAV_rel hm 8 _ _ hv3, ⟨hrel, hle, ?_, ?_, hA.size, ?_, ?_, ?_, hA.os, hA.tape, hA.output⟩⟩
          · intro k
            show ρ4 k = ρ k ∨ (nx.num ≤ k.num ∧ k.num < (K.of (nx.num + n)).num)
            rw [K.of_num' (by omega), e4]
            by_cases hk : nx.num ≤ k.num ∧ k.num < nx.num + n
            · exact .inr hk
            · rw [if_neg hk]; exact .inl rfl
          · show nx.num ≤ (K.of (nx.num + n)).num
            rw [K.of_num' (by omega)]; omega
          · rintro c ⟨k, hk, hr, hkc⟩
            have hk : hget k (putSh d L hh) ≠ .none := hk
            have hr : (hget k (putSh d L hh)).isRo = false := hr
            rcases put_get (n := n) (show d + 256 + n ≤ 65535 by omega) k hh L hlow with ⟨m, o, q1, q2, q3, q4⟩ | ⟨q1, q2⟩
            · obtain ⟨c1, c1', c2, c3, c4⟩ := newAt m o q1 q4
              rw [q2, c1'] at hkc
              injection hkc with hkc
              subst hkc
              exact .inr c3
            · rw [q2] at hk hr
              obtain ⟨c1, p1, p2, p3, p4⟩ := oldLt k hk
              rw [(hle k c1 p1).1] at hkc
              injection hkc with hkc
              subst hkc
              exact .inl ⟨k, hk, hr, p1⟩
          · intro k c hk hkc
            have hk : hget k (putSh d L hh) ≠ .none := hk
            rcases put_get (n := n) (show d + 256 + n ≤ 65535 by omega) k hh L hlow with ⟨m, o, q1, q2, q3, q4⟩ | ⟨q1, q2⟩
            · obtain ⟨c1, c1', c2, c3, c4⟩ := newAt m o q1 q4
              rw [q2, c1'] at hkc
              injection hkc with hkc
              subst hkc
              exact .inr c3
            · rw [q2] at hk
              obtain ⟨c1, p1, p2, p3, p4⟩ := oldLt k hk
              rw [(hle k c1 p1).1] at hkc
              injection hkc with hkc
              subst hkc
              exact .inl ⟨k, hk, p1⟩
          · intro c hcs _
            exact hA.frame c hcs (noOwn c)
        · cases hr
      · exact ih f vs aw r hr hok
    · exact ih f vs aw r hr hok
end Go.Ev
