import Derived.Test.YtocilenpboklbaaGreatDoorSyA
set_option maxRecDepth 100000
set_option linter.all false
namespace Go.Ev
abbrev aek : AL := .g (.s 3) .nil
abbrev xb : GE := .app 122 aek
abbrev oh : List SA := [.mk true (.c 20000) (.len (.s 3)) false]
abbrev ael : GE := .app 123 aek
abbrev ax4 : GE := .app 124 aek
abbrev xc : SE := .bin 1 .i64 (.len (.s 3)) (.c 1)
abbrev bc0 : SE := .rd (.s 3) xc
abbrev aem : GE := .cut (.s 3) (.c 0) xc
abbrev ax5 : SE := .len aem
abbrev a26 : GE := .app 122 (.g aem .nil)
abbrev a27 : List SA := [.mk true (.c 20000) (.len (.s 3)) false, .mk true (.c 0) (.len (.s 3)) false]
abbrev ym : GE := .cut (.s 3) (.c 1) (.len (.s 3))
abbrev aqn : SE := .len ym
abbrev a28 : GE := .app 123 (.g ym .nil)
noncomputable section
def afi : List AV := [.gv (.str (.s 3) []), .ptr (K.of 256) 0, .top, .top, .top] ++ tps 17
def aw5 : List HO := [.mk 256 (.cells 245 false 0 0 (List.replicate 48 (.bool false) ++ List.replicate 10 (.bool true) ++ List.replicate 198 (.bool false)))]
def aw6 : List HO := [.mk 256 (.cells 245 false 0 0 (List.replicate 48 (.bool false) ++ List.replicate 10 (.bool true) ++ List.replicate 198 (.bool false)))]
def aw7 : LR := (.x 0 ([.gv (.str xb [])] ++ tps 21))
def trr (m : SE) : LT := .mk 204 3 afi 257 aw5 (oh ++ []) (some ((.len (.s 3)), m)) aw7 257 aw6
def btc : LT := .mk 204 3 afi 257 aw5 (oh ++ []) none aw7 257 aw6
def afh : List AV := [.gv (.str (.s 3) []), .ptr (K.of 256) 0, .top, .top, .top] ++ tps 11
def awy : List HO := [.mk 256 (.cells 245 false 0 0 (List.replicate 48 (.bool false) ++ List.replicate 10 (.bool true) ++ List.replicate 198 (.bool false)))]
def awz : List HO := [.mk 256 (.cells 245 false 0 0 (List.replicate 48 (.bool false) ++ List.replicate 10 (.bool true) ++ List.replicate 198 (.bool false)))]
def aw0 : LR := (.x 0 ([.gv (.str ael [])] ++ tps 15))
def trl (m : SE) : LT := .mk 196 3 afh 257 awy (oh ++ []) (some ((.len (.s 3)), m)) aw0 257 awz
def bs7 : LT := .mk 196 3 afh 257 awy (oh ++ []) none aw0 257 awz
def bs4 : List AV := [.gv (.str (.s 3) []), .str 10 227581098929683594426425]
def bs1 : List HO := []
def bs2 : List HO := []
def bs3 : TR := .ret (.gv (.str ax4 []))
def bs0 : TM := .mk 189 bs4 256 bs1 (oh ++ []) none bs3 260 bs2
def bf3 : List AV := [.gv (.str (.s 3) [])]
def bf1 : List HO := []
def bj1 : List HO := []
def bj2 : TR := .ret (.bool true)
def bj0 : TM := .mk 170 bf3 256 bf1 (oh ++ [.mk false (.app 122 aek) (.c 1) true]) none bj2 260 bj1
def bjy : List HO := []
def bjz : TR := .ret (.bool false)
def bjx : TM := .mk 170 bf3 256 bf1 (oh ++ [.mk false (.app 122 aek) (.c 1) false]) none bjz 260 bjy
def bsd : List AV := [.gv (.str (.s 3) [])]
def bsa : List HO := []
def bsb : List HO := []
def bsc : TR := .ret (.gv (.str (.app 125 aek) []))
def br9 : TM := .mk 139 bsd 256 bsa ([.mk true (.c 10000) (.len (.s 3)) false] ++ []) none bsc 270 bsb
end
theorem evy : (∀ (σ : Nat → List Int) (s : GE), (SE.app 122 (.g s .nil)).eval σ = abt (s.eval σ)) ∧ (∀ (σ : Nat → List Int) (b : GE) (q : SE), (SE.app 123 (.g b (.i q .nil))).eval σ = aac (b.eval σ) (q.eval σ)) ∧ (∀ (σ : Nat → List Int) (s : GE), (GE.app 122 (.g s .nil)).eval σ = ez (s.eval σ)) ∧ (∀ (σ : Nat → List Int) (s : GE), (GE.app 123 (.g s .nil)).eval σ = jl (s.eval σ)) ∧
  (∀ (σ : Nat → List Int) (s : GE), (GE.app 124 (.g s .nil)).eval σ = jl (ez (s.eval σ))) ∧ (∀ (σ : Nat → List Int) (s : GE), (GE.app 125 (.g s .nil)).eval σ = bp (s.eval σ)) ∧ (∀ (σ : Nat → List Int) (s : GE), (GE.app 126 (.g s .nil)).eval σ = syA (s.eval σ)) :=
 ⟨fun _ _ => rfl, fun _ _ _ => rfl, fun _ _ => rfl, fun _ _ => rfl, fun _ _ => rfl, fun _ _ => rfl, fun _ _ => rfl⟩
theorem bh1 (p : Int → Bool) : ∀ l : List Int, (l.dropWhile p).length ≤ l.length
 | [] => zY _
 | c :: l => by
   rw [List.dropWhile_cons]
   split
   ·have := bh1 p l; simp only [zO]; omega
   ·exact zY _
theorem a4h (s : List Int) : (ez s).length ≤ s.length := by
 have := bh1 vd s.reverse
 rw [List.length_reverse] at this
 show (List.dropWhile vd s.reverse).reverse.length ≤ s.length
 rw [List.length_reverse]
 exact this
theorem by0 {σ : Nat → List Int} (g : GE) : (SE.len (.app 122 (.g g .nil))).eval σ ≤ (SE.len g).eval σ := by
 show ((ez (g.eval σ)).length : Int) ≤ ((g.eval σ).length : Int)
 have := a4h (g.eval σ); omega
theorem a7j (s : List Int) (h : 1 ≤ (s.length : Int)) : aok s = if s.getD 0 0 = 43 ∨ s.getD 0 0 = 45 then s.drop 1 else s := by
 cases s with
 | nil => simp at h
 | cons c l => rfl
theorem ac9 (s : List Int) : (s.take ((s.length : Int)).toNat).drop 1 = s.drop 1 := by
 rw [show ((s.length : Int)).toNat = s.length by omega, List.take_length]
theorem ui : ∀ σ : Nat → List Int, (GE.lit 0 0).eval σ = [] := fun σ => by simp only [GE.eval]; decide +kernel
theorem jp : (∀ σ : Nat → List Int, (GE.lit 1 46).eval σ = [46]) ∧ (∀ σ : Nat → List Int, (GE.lit 1 63).eval σ = [63]) ∧ (∀ σ : Nat → List Int, (GE.lit 1 35).eval σ = [35]) ∧ (∀ σ : Nat → List Int, (GE.lit 1 64).eval σ = [64]) :=
 ⟨fun σ => by simp only [GE.eval]; decide +kernel, fun σ => by simp only [GE.eval]; decide +kernel, fun σ => by simp only [GE.eval]; decide +kernel, fun σ => by simp only [GE.eval]; decide +kernel⟩
noncomputable section
def bnj (c : Int) : List SA := [.mk true (.c 20000) (.len (.s 3)) false, .mk true (.c 0) (.len (.s 3)) true, .mk false bc0 (.c c) true, .mk true xc (.c 0) false, .mk true xc (.len (.s 3)) true]
def bnk (c : Int) : List SA := [.mk true (.c 20000) (.len (.s 3)) false, .mk true (.c 0) (.len (.s 3)) true, .mk false bc0 (.c c) true, .mk true xc (.c 0) false, .mk true xc (.len (.s 3)) true, .mk true (.len (.s 3)) xc false, .mk true (.c 20000) ax5 false, .mk true ax5 (.len (.s 3)) true, .mk true ax5 (.c 0) false]
def bta (c : Int) : Bool := lb [] 257 257 (.g (.s 3) xb .nil) aw6 (br afi) aw7 (md (pn 204 3) (yw zx (a9j) 2000) (.mk 204 (br afi) false none) (.mk (kw (aVs (bnj c) afi) 0 kc) [] .none (bo (aHO (bnj c) aw5) 257)))
def btb (c : Int) : Bool := lb [] 257 257 (.g a26 xb .nil) aw6 (br afi) aw7 (md (pn 204 3) (yw zx (lpT [trr (.len (.s 3))]) 2000) (.mk 204 (br afi) false none) (.mk (kw (aVs (bnk c) afi) 0 kc) [] .none (bo (aHO (bnk c) aw5) 257)))
end
theorem bbk : ((List.range 256).all fun c => (Nat.ble 48 c && Nat.ble c 57) || bta (c : Int)) = true := by kernel_rfl
theorem bbj : ((List.range 10).all fun c => btb ((c : Int) + 48)) = true := by kernel_rfl
theorem bnl (c : Int) (h0 : 0 ≤ c) (h1 : c < 256) (h2 : ¬ (48 ≤ c ∧ c ≤ 57)) : bta c = true := by
 have := List.all_eq_true.1 bbk c.toNat (List.mem_range.2 (by omega))
 rw [show ((c.toNat : Nat) : Int) = c by omega] at this
 rcases Bool.or_eq_true_iff.1 this with h | h
 ·have h := Bool.and_eq_true_iff.1 h
  have := zE h.1; have := zE h.2
  omega
 ·exact h
theorem bnm (c : Int) (h2 : 48 ≤ c ∧ c ≤ 57) : btb c = true := by
 have := List.all_eq_true.1 bbj (c - 48).toNat (List.mem_range.2 (by omega))
 rw [show (((c - 48).toNat : Nat) : Int) + 48 = c by omega] at this
 exact this
theorem bpn [Gv] (hh : ∀ t ∈ [trr (.len (.s 3))], be t) (hI : SAll Gv.σ oh) : b8 204 3 afi 257 aw5 aw7 257 aw6 := by
 intro b hb ρ a cs w hg hw hc h5 hv hd
 have hB : ax (Gv.σ 3) := by
  have hv := hv
  unfold afi at hv
  simp only [zJ, VRels, VRel] at hv
  obtain ⟨v, vs, _, ⟨_, _, hB⟩, _⟩ := hv
  exact hB
 refine (?_ : b8 204 3 afi 257 aw5 aw7 257 aw6) b hb ρ a cs w hg hw hc h5 hv hd
 have h20 := y3 hI
 have hI0 := hI _ (List.mem_singleton.2 rfl)
 rcases List.eq_nil_or_concat (Gv.σ 3) with hl | ⟨l, c, hl⟩
 ·refine fj (n := 2000) (A := a27) (T := []) (E := (.g (.s 3) xb .nil)) ab ac (sc hI0 (sc (bF _ _ ?_) SAll.nil)) ⟨?_, trivial⟩ rfl rfl (by kernel_rfl)
  ·simp only [evs]; rw [hl]; exact Int.le_refl _
  ·show Gv.σ 3 = ez (Gv.σ 3)
   rw [hl]; rfl
 ·have hl : Gv.σ 3 = l ++ [c] := by rw [hl]; simp
  have hL : ((Gv.σ 3).length : Int) = (l.length : Int) + 1 := by rw [hl]; simp
  have hc2 := hB c (by rw [hl]; simp)
  have hrd : (Gv.σ 3).getD (((Gv.σ 3).length : Int) - 1).toNat 0 = c := by
   have : (((Gv.σ 3).length : Int) - 1).toNat = l.length := by omega
   rw [this, hl]; simp
  have e1 : (SE.bin 1 .i64 (.len (.s 3)) (.c 1)).eval Gv.σ = ((Gv.σ 3).length : Int) - 1 := by simp (disch := omega) only [evs, wr]
  have hrd : (SE.rd (.s 3) xc).eval Gv.σ = c := by
   show (Gv.σ 3).getD ((SE.bin 1 .i64 (.len (.s 3)) (.c 1)).eval Gv.σ).toNat 0 = c
   rw [e1]; exact hrd
  by_cases hd2 : 48 ≤ c ∧ c ≤ 57
  ·have hcut : (aem : GE).eval Gv.σ = l := by
    show ((Gv.σ 3).take ((SE.bin 1 .i64 (.len (.s 3)) (.c 1)).eval Gv.σ).toNat).drop 0 = l
    rw [e1, show (((Gv.σ 3).length : Int) - 1).toNat = l.length by omega, hl, List.take_left]; rfl
   have hcl : (SE.len aem).eval Gv.σ = (l.length : Int) := by show (((aem : GE).eval Gv.σ).length : Int) = _; rw [hcut]
   refine fj (n := 2000) (A := bnk c) (T := []) (E := (.g a26 xb .nil)) ab (adu _ hh) (sc hI0 (sc (bT _ _ ?_) (sc (bE _ _ ?_) (sc (bF _ _ ?_) (sc (bT _ _ ?_) (sc (bF _ _ ?_) (sc (bF _ _ ?_) (sc (bT _ _ ?_) (sc (bF _ _ ?_) SAll.nil))))))))) ⟨?_, trivial⟩ rfl rfl (bnm c hd2)
   ·simp only [evs]; omega
   ·rw [hrd]; rfl
   ·rw [e1]; simp only [evs]; omega
   ·rw [e1]; simp only [evs]; omega
   ·rw [e1]; simp only [evs]; omega
   ·rw [hcl]; simp only [evs]; omega
   ·rw [hcl]; simp only [evs]; omega
   ·rw [hcl]; simp only [evs]; omega
   ·show ez ((aem : GE).eval Gv.σ) = ez (Gv.σ 3)
    rw [hcut, hl]
    unfold ez
    rw [List.reverse_append]
    show _ = (List.dropWhile vd (c :: l.reverse)).reverse
    rw [List.dropWhile_cons, if_pos (show vd c = true from decide_eq_true hd2)]
  ·refine fj (n := 2000) (A := bnj c) (T := []) (E := (.g (.s 3) xb .nil)) ab ac (sc hI0 (sc (bT _ _ ?_) (sc (bE _ _ ?_) (sc (bF _ _ ?_) (sc (bT _ _ ?_) SAll.nil))))) ⟨?_, trivial⟩ rfl rfl (bnl c hc2.1 hc2.2 hd2)
   ·simp only [evs]; omega
   ·rw [hrd]; rfl
   ·rw [e1]; simp only [evs]; omega
   ·rw [e1]; simp only [evs]; omega
   ·show Gv.σ 3 = ez (Gv.σ 3)
    rw [hl]
    unfold ez
    rw [List.reverse_append]
    show _ = (List.dropWhile vd (c :: l.reverse)).reverse
    rw [List.dropWhile_cons, if_neg (show ¬ vd c = true from fun h => hd2 (of_decide_eq_true h)), List.reverse_cons, List.reverse_reverse]
theorem a0d : ∀ (B : Nat) (σ : Nat → List Int), SAll σ oh → (σ 3).length < B → @b8 ⟨σ⟩ 204 3 afi 257 aw5 aw7 257 aw6
 | 0, σ, hI, hb => by omega
 | B + 1, σ, hI, hb => by
   refine @bpn ⟨σ⟩ ?_ hI
   intro t ht
   rw [List.mem_singleton] at ht; subst ht
   intro σ' _ hA hb'
   have h2 : ((σ' 3).length : Int) < ((σ 3).length : Int) := hb'.2
   exact a0d B σ' (ap hA).1 (by omega)
theorem bnn [Gv] : be btc := fun σ _ hA _ => a0d ((σ 3).length + 1) σ (ap hA).1 (by omega)
noncomputable section
def bna (c : Int) : List SA := [.mk true (.c 20000) (.len (.s 3)) false, .mk true (.c 0) (.len (.s 3)) true, .mk false (.rd (.s 3) (.c 0)) (.c c) true]
def bnb (c : Int) : List SA := [.mk true (.c 20000) (.len (.s 3)) false, .mk true (.c 0) (.len (.s 3)) true, .mk false (.rd (.s 3) (.c 0)) (.c c) true, .mk true (.len (.s 3)) (.c 1) false, .mk true (.c 20000) aqn false, .mk true aqn (.len (.s 3)) true, .mk true aqn (.c 0) false]
def bs5 (c : Int) : Bool := lb [] 257 257 (.g (.s 3) ael .nil) awz (br afh) aw0 (md (pn 196 3) (yw zx (a9j) 2000) (.mk 196 (br afh) false none) (.mk (kw (aVs (bna c) afh) 0 kc) [] .none (bo (aHO (bna c) awy) 257)))
def bs6 (c : Int) : Bool := lb [] 257 257 (.g a28 ael .nil) awz (br afh) aw0 (md (pn 196 3) (yw zx (lpT [trl (.len (.s 3))]) 2000) (.mk 196 (br afh) false none) (.mk (kw (aVs (bnb c) afh) 0 kc) [] .none (bo (aHO (bnb c) awy) 257)))
end
theorem bbh : ((List.range 256).all fun c => (Nat.ble 48 c && Nat.ble c 57) || bs5 (c : Int)) = true := by kernel_rfl
theorem bbg : ((List.range 10).all fun c => bs6 ((c : Int) + 48)) = true := by kernel_rfl
theorem bnc (c : Int) (h0 : 0 ≤ c) (h1 : c < 256) (h2 : ¬ (48 ≤ c ∧ c ≤ 57)) : bs5 c = true := by
 have := List.all_eq_true.1 bbh c.toNat (List.mem_range.2 (by omega))
 rw [show ((c.toNat : Nat) : Int) = c by omega] at this
 rcases Bool.or_eq_true_iff.1 this with h | h
 ·have h := Bool.and_eq_true_iff.1 h
  have := zE h.1; have := zE h.2
  omega
 ·exact h
theorem bnd (c : Int) (h2 : 48 ≤ c ∧ c ≤ 57) : bs6 c = true := by
 have := List.all_eq_true.1 bbg (c - 48).toNat (List.mem_range.2 (by omega))
 rw [show (((c - 48).toNat : Nat) : Int) + 48 = c by omega] at this
 exact this
theorem bpl [Gv] (hh : ∀ t ∈ [trl (.len (.s 3))], be t) (hI : SAll Gv.σ oh) : b8 196 3 afh 257 awy aw0 257 awz := by
 intro b hb ρ a cs w hg hw hc h5 hv hd
 have hB : ax (Gv.σ 3) := by
  have hv := hv
  unfold afh at hv
  simp only [zJ, VRels, VRel] at hv
  obtain ⟨v, vs, _, ⟨_, _, hB⟩, _⟩ := hv
  exact hB
 refine (?_ : b8 196 3 afh 257 awy aw0 257 awz) b hb ρ a cs w hg hw hc h5 hv hd
 have h20 := y3 hI
 have hI0 := hI _ (List.mem_singleton.2 rfl)
 cases hl : Gv.σ 3 with
 | nil =>
   refine fj (n := 2000) (A := a27) (T := []) (E := (.g (.s 3) ael .nil)) ab ac (sc hI0 (sc (bF _ _ ?_) SAll.nil)) ⟨?_, trivial⟩ rfl rfl (by kernel_rfl)
   ·simp only [evs]; rw [hl]; exact Int.le_refl _
   ·show Gv.σ 3 = jl (Gv.σ 3)
    rw [hl]; rfl
 | cons c l =>
   have hL : ((Gv.σ 3).length : Int) = (l.length : Int) + 1 := by rw [hl]; rfl
   have hc2 := hB c (by rw [hl]; simp)
   have hrd : (Gv.σ 3).getD 0 0 = c := by rw [hl]; rfl
   by_cases hd2 : 48 ≤ c ∧ c ≤ 57
   ·have hcut : (ym : GE).eval Gv.σ = l := by
     show ((Gv.σ 3).take (((Gv.σ 3).length : Int)).toNat).drop 1 = l
     rw [show (((Gv.σ 3).length : Int)).toNat = (Gv.σ 3).length by omega, List.take_length, hl]; rfl
    have hcl : (SE.len ym).eval Gv.σ = (l.length : Int) := by show (((ym : GE).eval Gv.σ).length : Int) = _; rw [hcut]
    refine fj (n := 2000) (A := bnb c) (T := []) (E := (.g a28 ael .nil)) ab (adu _ hh) (sc hI0 (sc (bT _ _ ?_) (sc (bE _ _ ?_) (sc (bF _ _ ?_) (sc (bF _ _ ?_) (sc (bT _ _ ?_) (sc (bF _ _ ?_) SAll.nil))))))) ⟨?_, trivial⟩ rfl rfl (bnd c hd2)
    ·simp only [evs]; omega
    ·simp only [evs]; exact hrd
    ·simp only [evs]; omega
    ·rw [hcl]; simp only [evs]; omega
    ·rw [hcl]; simp only [evs]; omega
    ·rw [hcl]; simp only [evs]; omega
    ·show jl ((ym : GE).eval Gv.σ) = jl (Gv.σ 3)
     rw [hcut, hl]
     show _ = List.dropWhile vd (c :: l)
     rw [List.dropWhile_cons, if_pos (show vd c = true from decide_eq_true hd2)]; rfl
   ·refine fj (n := 2000) (A := bna c) (T := []) (E := (.g (.s 3) ael .nil)) ab ac (sc hI0 (sc (bT _ _ ?_) (sc (bE _ _ ?_) SAll.nil))) ⟨?_, trivial⟩ rfl rfl (bnc c hc2.1 hc2.2 hd2)
    ·simp only [evs]; omega
    ·simp only [evs]; exact hrd
    ·show Gv.σ 3 = jl (Gv.σ 3)
     rw [hl]
     show _ = List.dropWhile vd (c :: l)
     rw [List.dropWhile_cons, if_neg (show ¬ vd c = true from fun h => hd2 (of_decide_eq_true h))]
theorem a0b : ∀ (B : Nat) (σ : Nat → List Int), SAll σ oh → (σ 3).length < B → @b8 ⟨σ⟩ 196 3 afh 257 awy aw0 257 awz
 | 0, σ, hI, hb => by omega
 | B + 1, σ, hI, hb => by
   refine @bpl ⟨σ⟩ ?_ hI
   intro t ht
   rw [List.mem_singleton] at ht; subst ht
   intro σ' _ hA hb'
   have h2 : ((σ' 3).length : Int) < ((σ 3).length : Int) := hb'.2
   exact a0b B σ' (ap hA).1 (by omega)
theorem bne [Gv] : be bs7 := fun σ _ hA _ => a0b ((σ 3).length + 1) σ (ap hA).1 (by omega)
theorem bp5 [Gv] : ∀ t ∈ [btc, bs7], be t := by
 intro t ht
 simp only [List.mem_cons, zH, or_false] at ht
 rcases ht with rfl | rfl
 ·exact bnn
 ·exact bne
def b0f [Gv] : Prop := (SAll Gv.σ [] → aq 189 bs4 256 bs1 bs3 260 bs2)
theorem bpk [Gv] (hI : SAll Gv.σ oh) : b0f := by
 have h20 := y3 hI
 rcases b08 hI (.eqg (.s 3) (.lit 0 0)) (.c 1) with ⟨hI, k1⟩ | ⟨hI, k1⟩ <;> (try simp (disch := omega) only [evs, evx, evT, evq, evy, ui, jp, wr] at k1)
 ·have u := h20
  try (have u : jl (ez (Gv.σ 3)) = Gv.σ 3 := by rw [show Gv.σ 3 = [] by simpa using k1]; rfl)
  exact zm [] (.g (.s 3) ax4 .nil) ab (zp hI bp5) hI btw
 ·have t1 := b05 (by0 (σ := Gv.σ) (.s 3))
  have hI := b02 hI (.c 20000) (.len xb)
  have u := h20
  try (have u : jl (ez (Gv.σ 3)) = Gv.σ 3 := by rw [show Gv.σ 3 = [] by simpa using k1]; rfl)
  exact zm [] (.g (.app 123 (.g xb .nil)) ax4 .nil) ab (zp hI bp5) hI btw
theorem bm9 [Gv] : bj bs0 := fun σ _ hA _ => (@bpk ⟨σ⟩  (ap hA).1) (ap hA).2
end Go.Ev
