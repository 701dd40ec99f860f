import Derived.Test.YtkfdioikigponaaGreatDoorRcP
set_option maxRecDepth 100000
set_option linter.all false
namespace Go.Ev
abbrev aww : GE := .app 115 (.i (.v 1) .nil)
abbrev aew : List SA := [.mk true (.v 1) (.c 0) false, .mk true (.v 1) (.c 16777216) true]
abbrev an6 : AL := .i (.v 13) .nil
abbrev bcz : GE := .app 110 (.g (.s 10) (.i (.v 11) an6))
abbrev wz : SE := .bin 6 .i64 (.len (.s 4)) (.len bcz)
abbrev aae : GE := .cat (.s 4) bcz
abbrev wj : List SA := [.mk false (.v 13) (.len (.s 10)) true, .mk true (.c 65536) (.v 13) false, .mk true (.v 13) (.c 1) false, .mk true (.v 11) (.c 0) false, .mk true (.v 13) (.v 11) false, .mk true (.len (.s 4)) (.c 1) false, .mk true (.bin 7 .i64 (.c 4) (.v 11)) (.len (.s 4)) false]
abbrev a7n : SE := .app 115 (.g (.s 10) (.i (.v 11) .nil))
abbrev axr : List SA := [.mk false a7n (.c 1) true]
abbrev ap4 : List SA := [.mk false a7n (.c 1) false]
abbrev rq : GE := .app 110 (.g (.s 10) (.i (.c 0) an6))
abbrev ui : SE := .len rq
abbrev agl : List SA := [.mk false (.v 13) (.len (.s 10)) true, .mk true (.c 65536) (.v 13) false, .mk true (.v 13) (.c 1) false]
abbrev abj : SE := .app 115 (.g (.s 10) (.i (.c 0) .nil))
abbrev ayv : List SA := [.mk false abj (.c 1) true]
abbrev azz : List SA := [.mk false abj (.c 1) false]
abbrev ab8 : List SA := [.mk false (.v 13) (.len (.s 10)) true, .mk true (.v 13) (.c 1) false]
abbrev a2w : List SA := [.mk true (.c 65536) (.v 13) false, .mk false abj (.c 1) true]
abbrev a3m : List SA := [.mk true (.c 65536) (.v 13) false, .mk false abj (.c 1) false]
abbrev a1b : List SA := [.mk true (.c 65536) (.v 13) true]
abbrev ark : SE := .bin 0 .i64 (.v 1) (.c 1)
abbrev azd : GE := .lit 16 64058384521018188869745042196707698022
abbrev abo : SE := .bin 3 .i64 (.v 1) (.c 16)
abbrev ahu : SE := .bin 4 .i64 (.v 1) (.c 16)
abbrev aqk : SE := .bin 0 .i64 ahu (.c 1)
abbrev a0n : GE := .app 115 (.i abo .nil)
abbrev a1s : GE := .cut azd ahu aqk
abbrev iw : SE := .rd (.s 10) (.v 11)
abbrev agd : SE := .bin 6 .i64 (.len (.s 4)) (.c 1)
abbrev jq : SE := .bin 0 .i64 (.v 11) (.c 1)
abbrev abz : SE := .bin 7 .i64 (.c 4) jq
abbrev abu : SE := .app 115 (.g (.s 10) (.i jq .nil))
abbrev fi : SE := .bin 6 .i64 (.v 13) (.bin 7 .i64 (.c (-1)) jq)
abbrev oa : SE := .bin 6 .i64 (.v 13) (.bin 7 .i64 (.c (-1)) (.v 11))
abbrev ab6 : GE := .app 110 (.g (.s 10) (.i jq an6))
abbrev ahv : SE := .len ab6
abbrev afs : SE := .bin 6 .i64 (.len (.s 4)) (.c 2)
abbrev a33 : SE := .bin 3 .i64 iw (.c 64)
abbrev ay0 : GE := .one (.bin 0 .u8 (.bin 0 .i64 (.c 128) (.bin 4 .i64 iw (.c 64))) (.c 0))
abbrev ue : SE := .bin 6 .i64 (.len (.s 4)) (.c 3)
abbrev a39 : SE := .bin 6 .i64 ue ahv
abbrev ayz : SE := .bin 3 .i64 iw (.c 4096)
abbrev ayr : GE := .cat (.one (.bin 0 .u8 (.bin 0 .i64 (.c 128) (.bin 4 .i64 a33 (.c 64))) (.c 0))) ay0
abbrev a2n : GE := .cat (.cat (.s 4) (.cat (.one (.bin 0 .u8 (.bin 0 .i64 (.c 224) ayz) (.c 0))) ayr)) ab6
abbrev afu : SE := .bin 6 .i64 (.len (.s 4)) (.c 4)
abbrev ix : SE := .rd (.s 10) (.c 0)
abbrev aca : SE := .app 115 (.g (.s 10) (.i (.c 1) .nil))
abbrev ack : GE := .app 110 (.g (.s 10) (.i (.c 1) an6))
abbrev af7 : SE := .len ack
abbrev azk : SE := .bin 3 .i64 ix (.c 64)
abbrev a4a : GE := .one (.bin 0 .u8 (.bin 0 .i64 (.c 128) (.bin 4 .i64 ix (.c 64))) (.c 0))
abbrev a2f : SE := .bin 6 .i64 (.c 3) af7
abbrev a28 : SE := .bin 3 .i64 ix (.c 4096)
abbrev az1 : GE := .cat (.one (.bin 0 .u8 (.bin 0 .i64 (.c 128) (.bin 4 .i64 azk (.c 64))) (.c 0))) a4a
abbrev a27 : GE := .cat (.cat (.one (.bin 0 .u8 (.bin 0 .i64 (.c 224) a28) (.c 0))) az1) ack
noncomputable section
def roI (k : Nat) : HO := .mk k (.gob (.rh (.v 12) (.v 13) (.s 10)))
def mT : SE := .bin 6 .i64 (.v 13) (.bin 7 .i64 (.c (-1)) (.v 11))
def mV : SE := .v 1
def bpn : List AV := [.sym .i64 (.v 1) []]
def bqz : List HO := []
def bpf : List HO := []
def boj : TR := .ret (.gv (.str aww []))
def hxx (m : SE) : TM := .mk 21 bpn 256 bqz (aew ++ []) (some (mV, m)) boj 256 bpf
def bvn : TM := .mk 21 bpn 256 bqz (aew ++ []) none boj 256 bpf
def a5b : List AV := (.gv (.sr (K.of 256) (.v 12) (.v 13) []) :: .top :: .top :: .top :: .gv (.sl (K.of 257) 1 (.len (.s 4)) []) :: sy 11 :: tps 24)
def a44 : List HO := [roI 256, .mk 257 (.gob (.gh 5 [.u8] (.len (.s 4)) (.s 4)))]
def bal : List HO := [roI 256, .mk 258 (.gob (.gh 5 [.u8] wz aae))]
def bb6 : LR := (.x 0 (tps 4 ++ (.gv (.sl (K.of 258) 1 wz []) :: tps 25)))
def bwj (m : SE) : LT := .mk 20 11 a5b 258 a44 (wj ++ axr) (some (mT, m)) bb6 260 bal
def bj3 : LT := .mk 20 11 a5b 258 a44 (wj ++ axr) none bb6 260 bal
def bao : List HO := [roI 256]
def bcm : LR := (.r (.top :: .top :: .str 0 0 :: .int .i64 3 :: tps 26))
def bt0 (m : SE) : LT := .mk 20 11 a5b 258 a44 (wj ++ ap4) (some (mT, m)) bcm 260 bao
def bjg : LT := .mk 20 11 a5b 258 a44 (wj ++ ap4) none bcm 260 bao
def bia : List AV := (.gv (.sr (K.of 256) (.v 12) (.v 13) []) :: .top :: .top :: .top :: .nilSlice :: .int .i64 0 :: tps 24)
def bfm : List HO := [roI 256]
def bmf : List HO := [roI 256, .mk 258 (.gob (.gh 5 [.u8] ui rq))]
def bl1 : LR := (.x 0 (tps 4 ++ (.gv (.sl (K.of 258) 1 ui []) :: tps 25)))
def bjl : LT := .mk 20 11 bia 257 bfm (agl ++ ayv) none bl1 260 bmf
def bks : List HO := [roI 256]
def bkz : LR := (.r (.top :: .top :: .str 0 0 :: .int .i64 3 :: tps 26))
def bkw : LT := .mk 20 11 bia 257 bfm (agl ++ azz) none bkz 260 bks
def a41 : List AV := [.gv (.sr (K.of 256) (.v 12) (.v 13) [])]
def a40 : List HO := [roI 256]
def bk3 : List HO := [roI 256]
def blh : TR := .ret (.tuple [.gv (.str rq []), .int .i64 0])
def bl9 : TM := .mk 20 a41 257 a40 (ab8 ++ a2w) none blh 262 bk3
def blz : List HO := [roI 256]
def bjv : TR := .ret (.tuple [.str 0 0, .int .i64 3])
def bm1 : TM := .mk 20 a41 257 a40 (ab8 ++ a3m) none bjv 262 blz
def bk7 : List HO := [roI 256]
def bjs : TR := .ret (.tuple [.str 0 0, .int .i64 4])
def blv : TM := .mk 20 a41 257 a40 (ab8 ++ a1b) none bjs 262 bk7
end
section
variable {σ : Nat → List Int}
theorem bwc (h : SAll σ ab8) : (σ 13).headD 0 = ((σ 10).length : Int) ∧ 1 ≤ (σ 13).headD 0 := by
 simp only [sall_cons, sF, sE, evs] at h
 exact ⟨h.1, h.2.1⟩
theorem btv (h : SAll σ agl) : (σ 13).headD 0 = ((σ 10).length : Int) ∧ (σ 13).headD 0 ≤ 65536 ∧ 1 ≤ (σ 13).headD 0 := by
 simp only [sall_cons, sF, sE, evs] at h
 exact ⟨h.1, h.2.1, h.2.2.1⟩
theorem bmt (h : SAll σ wj) : ((σ 13).headD 0 = ((σ 10).length : Int) ∧ (σ 13).headD 0 ≤ 65536 ∧ 1 ≤ (σ 13).headD 0) ∧ 0 ≤ (σ 11).headD 0 ∧ (σ 11).headD 0 ≤ (σ 13).headD 0 ∧ 1 ≤ ((σ 4).length : Int) ∧ ((σ 4).length : Int) ≤ 4 * (σ 11).headD 0 := by
 simp only [sall_cons, sF, sE, evs] at h
 exact ⟨⟨h.1, h.2.1, h.2.2.1⟩, h.2.2.2.1, h.2.2.2.2.1, h.2.2.2.2.2.1, h.2.2.2.2.2.2.1⟩
theorem bmm (h : SAll σ aew) : 0 ≤ (σ 1).headD 0 ∧ (σ 1).headD 0 < 16777216 := by
 simp only [sall_cons, sF, sT, evs] at h
 exact ⟨h.1, h.2.1⟩
theorem bpw (a : SE) : (SE.len (.app 115 (.i a .nil))).eval σ ≤ 8 := by
 have h : ∀ (f : Nat) (c : Int), (rp f c).length ≤ f := by
  intro f
  induction f with
  | zero => intro c; exact zY _
  | succ f ih =>
    intro c
    unfold rp
    split
    ·show 1 ≤ f + 1; omega
    ·rw [zP]; have := ih (c / 16); show (rp f (c / 16)).length + 1 ≤ f + 1; omega
 show ((kr (a.eval σ)).length : Int) ≤ 8
 have := h 8 (a.eval σ)
 unfold kr; omega
end
theorem bgs {c : Int} (h : c < 16) : kr c = [hxd c] := by unfold kr rp; rw [if_pos h]
theorem amo : ∀ (f k : Nat) (c : Int), 0 ≤ c → c < aiy f → 0 < f → rp (f + k) c = rp f c
 | 0, _, _, _, _, h => absurd h (Nat.lt_irrefl 0)
 | f + 1, k, c, h0, h1, _ => by
   have h1 : c < 16 * aiy f := h1
   rw [Nat.add_right_comm f 1 k]
   unfold rp
   split
   ·rfl
   ·rename_i hc
    cases f with
    | zero => exact absurd h1 (by show ¬ c < 16 * 1; omega)
    | succ f => rw [amo (f + 1) k (c / 16) (by omega) (by omega) (by omega)]
theorem bfo {c : Int} (h0 : 16 ≤ c) (h1 : c < 16777216) : kr c = kr (c / 16) ++ [hxd (c % 16)] := by
 have e : rp 8 (c / 16) = rp 7 (c / 16) := amo 7 1 (c / 16) (by omega) (by show c / 16 < 268435456; omega) (by omega)
 unfold kr
 rw [e]
 conv => lhs; unfold rp
 rw [if_neg (by omega)]
theorem evS : (∀ (σ : Nat → List Int) (k : IntKind) (a b : SE), (SE.bin 3 k a b).eval σ = k.wrap ((a.eval σ).tdiv (b.eval σ))) ∧ (∀ x : Int, 0 ≤ x → x.tdiv 64 = x / 64) ∧ (∀ x : Int, 0 ≤ x → x.tdiv 4096 = x / 4096) ∧ (∀ x : Int, 0 ≤ x → x.tdiv 262144 = x / 262144) ∧ (∀ x : Int, 0 ≤ x → x.tmod 64 = x % 64) ∧
  (∀ x : Int, 0 ≤ x → x.tdiv 16 = x / 16) ∧ (∀ x : Int, 0 ≤ x → x.tmod 16 = x % 16) ∧
  (∀ (σ : Nat → List Int) (a : Int), 0 ≤ a → a < 16 → List.drop a.toNat (List.take (a + 1).toNat ((GE.lit 16 64058384521018188869745042196707698022).eval σ)) = [hxd a]) ∧
  (∀ (σ : Nat → List Int) (c : SE), (GE.app 115 (.i c .nil)).eval σ = kr (c.eval σ)) ∧
  (∀ (σ : Nat → List Int) (l : GE) (i : SE), (SE.app 115 (.g l (.i i .nil))).eval σ = sv (l.eval σ) (i.eval σ)) ∧
  (∀ (σ : Nat → List Int) (l y : GE) (i : SE), (GE.app 116 (.g l (.g y (.i i .nil)))).eval σ = nj ((l.eval σ).drop (i.eval σ).toNat) ((y.eval σ).drop (i.eval σ).toNat)) := by
 refine ⟨fun _ _ _ _ => rfl, fun x h => Int.tdiv_eq_ediv_of_nonneg h, fun x h => Int.tdiv_eq_ediv_of_nonneg h, fun x h => Int.tdiv_eq_ediv_of_nonneg h, fun x h => Int.tmod_eq_emod_of_nonneg h, fun x h => Int.tdiv_eq_ediv_of_nonneg h, fun x h => Int.tmod_eq_emod_of_nonneg h, ?_, fun _ _ => rfl, fun _ _ _ => rfl, fun _ _ _ _ => rfl⟩
 intro σ a h0 h1
 have h : ∀ x : Fin 16, List.drop ((x.val : Int)).toNat (List.take ((x.val : Int) + 1).toNat ((GE.lit 16 64058384521018188869745042196707698022).eval fun _ => [])) = [hxd (x.val : Int)] := by simp only [GE.eval]; decide +kernel
 have := h ⟨a.toNat, by omega⟩
 rw [show (((⟨a.toNat, by omega⟩ : Fin 16).val : Nat) : Int) = a by show ((a.toNat : Nat) : Int) = a; omega] at this
 exact this
theorem aa2 (l : List Int) (i : Int) (h0 : 0 ≤ i) (h1 : i < (l.length : Int)) : sv l i = 1 ↔ ((0 ≤ l.getD i.toNat 0 ∧ l.getD i.toNat 0 ≤ 1114111 ∧ ¬ (55296 ≤ l.getD i.toNat 0 ∧ l.getD i.toNat 0 ≤ 57343)) ∧ sv l (i + 1) = 1) := by
 have hl : i.toNat < l.length := by omega
 have e : (i + 1).toNat = i.toNat + 1 := by omega
 have g : l.getD i.toNat 0 = l[i.toNat] := by rw [List.getD_eq_getElem?_getD, zK hl]; rfl
 unfold sv
 rw [e, g, List.drop_eq_getElem_cons hl, List.all_cons]
 generalize l[i.toNat] = c
 generalize (l.drop (i.toNat + 1)).all (fun c => kh c == 1) = b
 unfold kh
 by_cases hc : 0 ≤ c ∧ c ≤ 1114111 ∧ ¬ (55296 ≤ c ∧ c ≤ 57343)
 ·rw [if_pos hc]; cases b <;> simp [hc]
 ·rw [if_neg hc]; cases b <;> simp <;> omega
theorem bgw (l : List Int) (i : Int) (h : (l.length : Int) ≤ i) : sv l i = 1 := by
 unfold sv
 rw [List.drop_eq_nil_of_le (by omega)]
 rfl
theorem bg3 (l : List Int) (i n : Int) : sv l i = 1 → 0 ≤ i → n = (l.length : Int) → ((alv l i n).length : Int) ≤ 4 * (n - i) ∨ n ≤ i := fun hc h0 hn => by
 by_cases h : n ≤ i
 ·exact .inr h
 ·left
  obtain ⟨k, hk⟩ : ∃ k : Nat, n - i = (k : Int) := ⟨(n - i).toNat, by omega⟩
  induction k generalizing i with
  | zero => omega
  | succ k ih =>
    obtain ⟨h1, h2⟩ := (aa2 l i h0 (by omega)).1 hc
    rw [bx l i n h0 (by omega) (by omega), zP]
    have := abx (c := l.getD i.toNat 0) h1
    by_cases h' : n ≤ i + 1
    ·rw [ans l (i + 1) n h', zS]; omega
    ·have := ih (i + 1) h2 (by omega) h' (by omega); omega
def bo2 [Gv] : Prop := (SAll Gv.σ [] → cz 21 bpn 256 bqz boj 256 bpf)
theorem bt2 [Gv] (hh : ∀ t ∈ [hxx mV], bn t) (hI : SAll Gv.σ aew) : bo2 := by
 obtain ⟨hx0, hx1⟩ := bmm hI
 rcases vr hI (.v 1) (.c 16) with ⟨hI, k1⟩ | ⟨hI, k1⟩
 ·have hI := gd hI ark (.v 1)
  have hI := gd hI (.c 16) ark
  have t1 := bnl (bpw (σ := Gv.σ) (.v 1))
  have u := hx1
  exact zm [] (.g (.cut azd (.v 1) ark) aww .nil) (zh hI hh) ai hI bwp
 ·have hI := gd hI abo (.c 0)
  have hI := zr hI abo (.c 16777216)
  have hI := zr hI abo (.v 1)
  have hI := gd hI ahu (.c 0)
  have hI := gd hI aqk ahu
  have hI := gd hI (.c 16) aqk
  have t2 := bnl (bpw (σ := Gv.σ) abo)
  have hI := gd hI (.c 9223372036854775807) (.bin 6 .i64 (.len a0n) (.len a1s))
  have t3 := bnl (bpw (σ := Gv.σ) (.v 1))
  have u := hx1
  exact zm [] (.g (.cat a0n a1s) aww .nil) (zh hI hh) ai hI bwp
theorem a0h : ∀ (B : Nat) (σ : Nat → List Int), SAll σ aew → (mV).eval σ < (B : Int) → @bo2 ⟨σ⟩
 | 0, σ, hI, hb => by obtain ⟨h1, h2⟩ := bmm hI; simp only [mV, evs] at hb; omega
 | B + 1, σ, hI, hb => by
   have ih : ∀ σ' : Nat → List Int, SAll σ' aew → 0 ≤ (mV).eval σ' ∧ (mV).eval σ' < (mV).eval σ → @bo2 ⟨σ'⟩ := fun σ' h h' => a0h B σ' h (by omega)
   have hh : ∀ t ∈ [hxx (mV)], @bn ⟨σ⟩ t := by
    intro t ht
    simp only [List.mem_cons, zH, or_false] at ht
    rcases ht with rfl
    ·exact fun σ' _ hA hb => (ih σ' (ak hA).1 hb) (ak hA).2
   exact @bt2 ⟨σ⟩ hh hI
theorem bp0 [Gv] : bn bvn := fun σ _ hA _ => (a0h (((mV).eval σ).toNat + 1) σ (ak hA).1 (by omega)) (ak hA).2
def bq1 [Gv] : Prop := (SAll Gv.σ axr → di 20 11 a5b 258 a44 bb6 260 bal) ∧ (SAll Gv.σ ap4 → di 20 11 a5b 258 a44 bcm 260 bao)
theorem bug [Gv] (hh : ∀ t ∈ [bwj mT, bt0 mT], bh t) (hI : SAll Gv.σ wj) : bq1 := by
 obtain ⟨⟨l1, l2, l3⟩, i0, i1, i2, i3⟩ := bmt hI
 have cs := aa2 (Gv.σ 10) ((Gv.σ 11).headD 0) i0
 have ce := bgw (Gv.σ 10) ((Gv.σ 11).headD 0)
 have un := fun (h : (Gv.σ 13).headD 0 ≤ (Gv.σ 11).headD 0) => ans (Gv.σ 10) ((Gv.σ 11).headD 0) ((Gv.σ 13).headD 0) h
 rcases vr hI (.v 11) (.v 13) with ⟨hI, k1⟩ | ⟨hI, k1⟩
 ·rcases vr hI iw (.c 0) with ⟨hI, k2⟩ | ⟨hI, k2⟩
  ·have u := fun (h : (Gv.σ 11).headD 0 < (Gv.σ 13).headD 0) => bx (Gv.σ 10) ((Gv.σ 11).headD 0) ((Gv.σ 13).headD 0) i0 h (by omega)
   exact ⟨ni,
    zt0 [] ac (zp hI hh) hI⟩
  ·rcases vr hI (.c 1114111) iw with ⟨hI, k3⟩ | ⟨hI, k3⟩
   ·have u := fun (h : (Gv.σ 11).headD 0 < (Gv.σ 13).headD 0) => bx (Gv.σ 10) ((Gv.σ 11).headD 0) ((Gv.σ 13).headD 0) i0 h (by omega)
    exact ⟨ni,
     zt0 [] ac (zp hI hh) hI⟩
   ·rcases vr hI iw (.c 55296) with ⟨hI, k4⟩ | ⟨hI, k4⟩
    ·rcases vr hI iw (.c 128) with ⟨hI, k5⟩ | ⟨hI, k5⟩
     ·have hI := gd hI (.c 400000) agd
      have hI := gd hI jq (.c 0)
      have hI := gd hI (.v 13) jq
      have hI := gd hI agd (.c 1)
      have hI := gd hI abz agd
      rcases ajm hI abu (.c 1) with ⟨hI, k11⟩ | ⟨hI, k11⟩
      ·have hI := zr hI fi oa
       have hI := gd hI fi (.c 0)
       have u := fun (h : (Gv.σ 11).headD 0 < (Gv.σ 13).headD 0) => bx (Gv.σ 10) ((Gv.σ 11).headD 0) ((Gv.σ 13).headD 0) i0 h (by omega)
       exact ⟨zt [(260, 258)] (.i (.bin 6 .i64 agd ahv) wz (.g (.cat (.cat (.s 4) (.one (.bin 0 .u8 iw (.c 0)))) ab6) aae .nil)) ac (zp hI hh) hI aiu,
        ni⟩
      ·have hI := zr hI fi oa
       have hI := gd hI fi (.c 0)
       have u := fun (h : (Gv.σ 11).headD 0 < (Gv.σ 13).headD 0) => bx (Gv.σ 10) ((Gv.σ 11).headD 0) ((Gv.σ 13).headD 0) i0 h (by omega)
       exact ⟨ni,
        zt0 [] ac (zp hI hh) hI⟩
     ·rcases vr hI iw (.c 2048) with ⟨hI, k6⟩ | ⟨hI, k6⟩
      ·have hI := gd hI (.c 400000) afs
       have hI := gd hI jq (.c 0)
       have hI := gd hI (.v 13) jq
       have hI := gd hI afs (.c 1)
       have hI := gd hI abz afs
       rcases ajm hI abu (.c 1) with ⟨hI, k12⟩ | ⟨hI, k12⟩
       ·have hI := zr hI fi oa
        have hI := gd hI fi (.c 0)
        have u := fun (h : (Gv.σ 11).headD 0 < (Gv.σ 13).headD 0) => bx (Gv.σ 10) ((Gv.σ 11).headD 0) ((Gv.σ 13).headD 0) i0 h (by omega)
        exact ⟨zt [(260, 258)] (.i (.bin 6 .i64 afs ahv) wz (.g (.cat (.cat (.s 4) (.cat (.one (.bin 0 .u8 (.bin 0 .i64 (.c 192) a33) (.c 0))) ay0)) ab6) aae .nil)) ac (zp hI hh) hI aiu,
         ni⟩
       ·have hI := zr hI fi oa
        have hI := gd hI fi (.c 0)
        have u := fun (h : (Gv.σ 11).headD 0 < (Gv.σ 13).headD 0) => bx (Gv.σ 10) ((Gv.σ 11).headD 0) ((Gv.σ 13).headD 0) i0 h (by omega)
        exact ⟨ni,
         zt0 [] ac (zp hI hh) hI⟩
      ·have hI := zr hI iw (.c 65536)
       have hI := gd hI (.c 400000) ue
       have hI := gd hI jq (.c 0)
       have hI := gd hI (.v 13) jq
       have hI := gd hI ue (.c 1)
       have hI := gd hI abz ue
       rcases ajm hI abu (.c 1) with ⟨hI, k13⟩ | ⟨hI, k13⟩
       ·have hI := zr hI fi oa
        have hI := gd hI fi (.c 0)
        have u := fun (h : (Gv.σ 11).headD 0 < (Gv.σ 13).headD 0) => bx (Gv.σ 10) ((Gv.σ 11).headD 0) ((Gv.σ 13).headD 0) i0 h (by omega)
        exact ⟨zt [(260, 258)] (.i a39 wz (.g a2n aae .nil)) ac (zp hI hh) hI aiu,
         ni⟩
       ·have hI := zr hI fi oa
        have hI := gd hI fi (.c 0)
        have u := fun (h : (Gv.σ 11).headD 0 < (Gv.σ 13).headD 0) => bx (Gv.σ 10) ((Gv.σ 11).headD 0) ((Gv.σ 13).headD 0) i0 h (by omega)
        exact ⟨ni,
         zt0 [] ac (zp hI hh) hI⟩
    ·rcases vr hI (.c 57343) iw with ⟨hI, k5⟩ | ⟨hI, k5⟩
     ·have hI := gd hI iw (.c 128)
      have hI := gd hI iw (.c 2048)
      rcases vr hI iw (.c 65536) with ⟨hI, k8⟩ | ⟨hI, k8⟩
      ·have hI := gd hI (.c 400000) ue
       have hI := gd hI jq (.c 0)
       have hI := gd hI (.v 13) jq
       have hI := gd hI ue (.c 1)
       have hI := gd hI abz ue
       rcases ajm hI abu (.c 1) with ⟨hI, k14⟩ | ⟨hI, k14⟩
       ·have hI := zr hI fi oa
        have hI := gd hI fi (.c 0)
        have u := fun (h : (Gv.σ 11).headD 0 < (Gv.σ 13).headD 0) => bx (Gv.σ 10) ((Gv.σ 11).headD 0) ((Gv.σ 13).headD 0) i0 h (by omega)
        exact ⟨zt [(260, 258)] (.i a39 wz (.g a2n aae .nil)) ac (zp hI hh) hI aiu,
         ni⟩
       ·have hI := zr hI fi oa
        have hI := gd hI fi (.c 0)
        have u := fun (h : (Gv.σ 11).headD 0 < (Gv.σ 13).headD 0) => bx (Gv.σ 10) ((Gv.σ 11).headD 0) ((Gv.σ 13).headD 0) i0 h (by omega)
        exact ⟨ni,
         zt0 [] ac (zp hI hh) hI⟩
      ·have hI := gd hI (.c 400000) afu
       have hI := gd hI jq (.c 0)
       have hI := gd hI (.v 13) jq
       have hI := gd hI afu (.c 1)
       have hI := gd hI abz afu
       rcases ajm hI abu (.c 1) with ⟨hI, k14⟩ | ⟨hI, k14⟩
       ·have hI := zr hI fi oa
        have hI := gd hI fi (.c 0)
        have u := fun (h : (Gv.σ 11).headD 0 < (Gv.σ 13).headD 0) => bx (Gv.σ 10) ((Gv.σ 11).headD 0) ((Gv.σ 13).headD 0) i0 h (by omega)
        exact ⟨zt [(260, 258)] (.i (.bin 6 .i64 afu ahv) wz (.g (.cat (.cat (.s 4) (.cat (.one (.bin 0 .u8 (.bin 0 .i64 (.c 240) (.bin 3 .i64 iw (.c 262144))) (.c 0))) (.cat (.one (.bin 0 .u8 (.bin 0 .i64 (.c 128) (.bin 4 .i64 ayz (.c 64))) (.c 0))) ayr))) ab6) aae .nil)) ac (zp hI hh) hI aiu,
         ni⟩
       ·have hI := zr hI fi oa
        have hI := gd hI fi (.c 0)
        have u := fun (h : (Gv.σ 11).headD 0 < (Gv.σ 13).headD 0) => bx (Gv.σ 10) ((Gv.σ 11).headD 0) ((Gv.σ 13).headD 0) i0 h (by omega)
        exact ⟨ni,
         zt0 [] ac (zp hI hh) hI⟩
     ·have u := fun (h : (Gv.σ 11).headD 0 < (Gv.σ 13).headD 0) => bx (Gv.σ 10) ((Gv.σ 11).headD 0) ((Gv.σ 13).headD 0) i0 h (by omega)
      exact ⟨ni,
       zt0 [] ac (zp hI hh) hI⟩
 ·have u := fun (h : (Gv.σ 11).headD 0 < (Gv.σ 13).headD 0) => bx (Gv.σ 10) ((Gv.σ 11).headD 0) ((Gv.σ 13).headD 0) i0 h (by omega)
  exact ⟨zt [(257, 258)] (.i (.len (.s 4)) wz (.g (.s 4) aae .nil)) ac (zp hI hh) hI aiu,
   ni⟩
theorem apg : ∀ (B : Nat) (σ : Nat → List Int), SAll σ wj → (mT).eval σ < (B : Int) → @bq1 ⟨σ⟩
 | 0, σ, hI, hb => by obtain ⟨_, i0, i1, i2⟩ := bmt hI; simp only [mT, evs, wr] at hb; omega
 | B + 1, σ, hI, hb => by
   have ih : ∀ σ' : Nat → List Int, SAll σ' wj → 0 ≤ (mT).eval σ' ∧ (mT).eval σ' < (mT).eval σ → @bq1 ⟨σ'⟩ := fun σ' h h' => apg B σ' h (by omega)
   have hh : ∀ t ∈ [bwj (mT), bt0 (mT)], @bh ⟨σ⟩ t := by
    intro t ht
    simp only [List.mem_cons, zH, or_false] at ht
    rcases ht with rfl | rfl
    ·exact fun σ' _ hA hb => (ih σ' (ak hA).1 hb).1 (ak hA).2
    ·exact fun σ' _ hA hb => (ih σ' (ak hA).1 hb).2 (ak hA).2
   exact @bug ⟨σ⟩ hh hI
theorem bdq [Gv] : bh bj3 := fun σ _ hA _ => (apg (((mT).eval σ).toNat + 1) σ (ak hA).1 (by omega)).1 (ak hA).2
theorem bgb [Gv] : bh bjg := fun σ _ hA _ => (apg (((mT).eval σ).toNat + 1) σ (ak hA).1 (by omega)).2 (ak hA).2
theorem adt [Gv] : ∀ t ∈ [bj3, bjg], bh t := by
 intro t ht
 simp only [List.mem_cons, zH, or_false] at ht
 rcases ht with rfl | rfl
 ·exact bdq
 ·exact bgb
def b5k [Gv] : Prop := (SAll Gv.σ ayv → di 20 11 bia 257 bfm bl1 260 bmf) ∧ (SAll Gv.σ azz → di 20 11 bia 257 bfm bkz 260 bks)
theorem bjt [Gv] (hI : SAll Gv.σ agl) : b5k := by
 obtain ⟨l1, l2, l3⟩ := btv hI
 have cs := aa2 (Gv.σ 10) 0 (by omega)
 rw [show Int.toNat 0 = 0 from rfl, show (0 : Int) + 1 = 1 from rfl] at cs
 have un := fun (h : (Gv.σ 13).headD 0 ≤ 1) => ans (Gv.σ 10) 1 ((Gv.σ 13).headD 0) h
 have hI := zr hI (.c 0) (.v 13)
 rcases vr hI ix (.c 0) with ⟨hI, k2⟩ | ⟨hI, k2⟩
 ·have u := fun (h : 0 < (Gv.σ 13).headD 0) => bx (Gv.σ 10) 0 ((Gv.σ 13).headD 0) (by omega) h (by omega)
  exact ⟨ni,
   zt0 [] ac (zp hI adt) hI⟩
 ·rcases vr hI (.c 1114111) ix with ⟨hI, k3⟩ | ⟨hI, k3⟩
  ·have u := fun (h : 0 < (Gv.σ 13).headD 0) => bx (Gv.σ 10) 0 ((Gv.σ 13).headD 0) (by omega) h (by omega)
   exact ⟨ni,
    zt0 [] ac (zp hI adt) hI⟩
  ·rcases vr hI ix (.c 55296) with ⟨hI, k4⟩ | ⟨hI, k4⟩
   ·rcases vr hI ix (.c 128) with ⟨hI, k5⟩ | ⟨hI, k5⟩
    ·rcases ajm hI aca (.c 1) with ⟨hI, k6⟩ | ⟨hI, k6⟩
     ·have u := fun (h : 0 < (Gv.σ 13).headD 0) => bx (Gv.σ 10) 0 ((Gv.σ 13).headD 0) (by omega) h (by omega)
      exact ⟨zt [(259, 258)] (.i (.bin 6 .i64 (.c 1) af7) ui (.g (.cat (.one (.bin 0 .u8 ix (.c 0))) ack) rq .nil)) ac (zp hI adt) hI aiu,
       ni⟩
     ·have u := fun (h : 0 < (Gv.σ 13).headD 0) => bx (Gv.σ 10) 0 ((Gv.σ 13).headD 0) (by omega) h (by omega)
      exact ⟨ni,
       zt0 [] ac (zp hI adt) hI⟩
    ·rcases vr hI ix (.c 2048) with ⟨hI, k6⟩ | ⟨hI, k6⟩
     ·rcases ajm hI aca (.c 1) with ⟨hI, k7⟩ | ⟨hI, k7⟩
      ·have u := fun (h : 0 < (Gv.σ 13).headD 0) => bx (Gv.σ 10) 0 ((Gv.σ 13).headD 0) (by omega) h (by omega)
       exact ⟨zt [(259, 258)] (.i (.bin 6 .i64 (.c 2) af7) ui (.g (.cat (.cat (.one (.bin 0 .u8 (.bin 0 .i64 (.c 192) azk) (.c 0))) a4a) ack) rq .nil)) ac (zp hI adt) hI aiu,
        ni⟩
      ·have u := fun (h : 0 < (Gv.σ 13).headD 0) => bx (Gv.σ 10) 0 ((Gv.σ 13).headD 0) (by omega) h (by omega)
       exact ⟨ni,
        zt0 [] ac (zp hI adt) hI⟩
     ·have hI := zr hI ix (.c 65536)
      rcases ajm hI aca (.c 1) with ⟨hI, k8⟩ | ⟨hI, k8⟩
      ·have u := fun (h : 0 < (Gv.σ 13).headD 0) => bx (Gv.σ 10) 0 ((Gv.σ 13).headD 0) (by omega) h (by omega)
       exact ⟨zt [(259, 258)] (.i a2f ui (.g a27 rq .nil)) ac (zp hI adt) hI aiu,
        ni⟩
      ·have u := fun (h : 0 < (Gv.σ 13).headD 0) => bx (Gv.σ 10) 0 ((Gv.σ 13).headD 0) (by omega) h (by omega)
       exact ⟨ni,
        zt0 [] ac (zp hI adt) hI⟩
   ·rcases vr hI (.c 57343) ix with ⟨hI, k5⟩ | ⟨hI, k5⟩
    ·have hI := gd hI ix (.c 128)
     have hI := gd hI ix (.c 2048)
     rcases vr hI ix (.c 65536) with ⟨hI, k8⟩ | ⟨hI, k8⟩
     ·rcases ajm hI aca (.c 1) with ⟨hI, k9⟩ | ⟨hI, k9⟩
      ·have u := fun (h : 0 < (Gv.σ 13).headD 0) => bx (Gv.σ 10) 0 ((Gv.σ 13).headD 0) (by omega) h (by omega)
       exact ⟨zt [(259, 258)] (.i a2f ui (.g a27 rq .nil)) ac (zp hI adt) hI aiu,
        ni⟩
      ·have u := fun (h : 0 < (Gv.σ 13).headD 0) => bx (Gv.σ 10) 0 ((Gv.σ 13).headD 0) (by omega) h (by omega)
       exact ⟨ni,
        zt0 [] ac (zp hI adt) hI⟩
     ·rcases ajm hI aca (.c 1) with ⟨hI, k9⟩ | ⟨hI, k9⟩
      ·have u := fun (h : 0 < (Gv.σ 13).headD 0) => bx (Gv.σ 10) 0 ((Gv.σ 13).headD 0) (by omega) h (by omega)
       exact ⟨zt [(259, 258)] (.i (.bin 6 .i64 (.c 4) af7) ui (.g (.cat (.cat (.one (.bin 0 .u8 (.bin 0 .i64 (.c 240) (.bin 3 .i64 ix (.c 262144))) (.c 0))) (.cat (.one (.bin 0 .u8 (.bin 0 .i64 (.c 128) (.bin 4 .i64 a28 (.c 64))) (.c 0))) az1)) ack) rq .nil)) ac (zp hI adt) hI aiu,
        ni⟩
      ·have u := fun (h : 0 < (Gv.σ 13).headD 0) => bx (Gv.σ 10) 0 ((Gv.σ 13).headD 0) (by omega) h (by omega)
       exact ⟨ni,
        zt0 [] ac (zp hI adt) hI⟩
    ·have u := fun (h : 0 < (Gv.σ 13).headD 0) => bx (Gv.σ 10) 0 ((Gv.σ 13).headD 0) (by omega) h (by omega)
     exact ⟨ni,
      zt0 [] ac (zp hI adt) hI⟩
theorem bff [Gv] : bh bjl := fun σ _ hA _ => (@bjt ⟨σ⟩  (ak hA).1).1 (ak hA).2
theorem bi3 [Gv] : bh bkw := fun σ _ hA _ => (@bjt ⟨σ⟩  (ak hA).1).2 (ak hA).2
theorem bog [Gv] : ∀ t ∈ [bjl, bkw], bh t := by
 intro t ht
 simp only [List.mem_cons, zH, or_false] at ht
 rcases ht with rfl | rfl
 ·exact bff
 ·exact bi3
def b47 [Gv] : Prop := (SAll Gv.σ a2w → cz 20 a41 257 a40 blh 262 bk3) ∧ (SAll Gv.σ a3m → cz 20 a41 257 a40 bjv 262 blz) ∧ (SAll Gv.σ a1b → cz 20 a41 257 a40 bjs 262 bk7)
theorem bc2 [Gv] (hI : SAll Gv.σ ab8) : b47 := by
 obtain ⟨l1, l3⟩ := bwc hI
 have el := bg3 (Gv.σ 10) 0 ((Gv.σ 13).headD 0)
 rcases vr hI (.c 65536) (.v 13) with ⟨hI, k1⟩ | ⟨hI, k1⟩
 ·have u := l3
  exact ⟨a5q,
   a5q,
   zm0 [] ac (zp hI bog) hI⟩
 ·rcases ajm hI abj (.c 1) with ⟨hI, k2⟩ | ⟨hI, k2⟩
  ·have u := l3
   exact ⟨zm0 [] ac (zp hI bog) hI,
    a5q,
    a5q⟩
  ·have u := l3
   exact ⟨a5q,
    zm0 [] ac (zp hI bog) hI,
    a5q⟩
theorem bib [Gv] : bn bl9 := fun σ _ hA _ => (@bc2 ⟨σ⟩  (ak hA).1).1 (ak hA).2
theorem bhj [Gv] : bn bm1 := fun σ _ hA _ => (@bc2 ⟨σ⟩  (ak hA).1).2.1 (ak hA).2
theorem beb [Gv] : bn blv := fun σ _ hA _ => (@bc2 ⟨σ⟩  (ak hA).1).2.2 (ak hA).2
end Go.Ev
