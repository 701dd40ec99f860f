import Derived.Test.YtkfdioikigponaaGreatDoorRaY
import Derived.Lib.MapLaws
import Derived.Lib.ValidLaws
set_option maxRecDepth 100000
set_option linter.all false
namespace Go.Ev
structure Ag (R R' : List Int) (e : Int) : Prop where
 le : e ≤ (R.length : Int)
 le' : e ≤ (R'.length : Int)
 eq : ∀ i : Int, 0 ≤ i → i < e → R'.getD i.toNat 0 = R.getD i.toNat 0
 st : a5x R' e = 1
section
variable {R R' : List Int} {e : Int}
end
end Go.Ev
set_option maxRecDepth 100000
set_option linter.all false
namespace Go.Ev
theorem adg : ∀ x : Int, 0 ≤ x → x < 256 → lo8 x = 128 + x % 64 := by
 have h : ∀ x : Fin 256, lo8 ((x.val : Nat) : Int) = 128 + ((x.val : Nat) : Int) % 64 := by decide +kernel
 intro x h0 h1
 have := h ⟨x.toNat, by omega⟩
 rw [show ((x.toNat : Nat) : Int) = x by omega] at this
 exact this
theorem bv0 : ∀ x : Int, 0 ≤ x → x < 16 → gc 9 .u8 224 x = 224 + x := by
 have h : ∀ x : Fin 16, gc 9 .u8 224 ((x.val : Nat) : Int) = 224 + ((x.val : Nat) : Int) := by decide +kernel
 intro x h0 h1
 have := h ⟨x.toNat, by omega⟩
 rw [show ((x.toNat : Nat) : Int) = x by omega] at this
 exact this
theorem bth : ∀ x : Int, 0 ≤ x → x < 8 → gc 9 .u8 240 x = 240 + x := by
 have h : ∀ x : Fin 8, gc 9 .u8 240 ((x.val : Nat) : Int) = 240 + ((x.val : Nat) : Int) := by decide +kernel
 intro x h0 h1
 have := h ⟨x.toNat, by omega⟩
 rw [show ((x.toNat : Nat) : Int) = x by omega] at this
 exact this
theorem bsg : ∀ x : Int, 0 ≤ x → x < 32 → gc 9 .u8 192 x = 192 + x := by
 have h : ∀ x : Fin 32, gc 9 .u8 192 ((x.val : Nat) : Int) = 192 + ((x.val : Nat) : Int) := by decide +kernel
 intro x h0 h1
 have := h ⟨x.toNat, by omega⟩
 rw [show ((x.toNat : Nat) : Int) = x by omega] at this
 exact this
theorem aj1 (x : Int) : IntKind.u8.wrap x = x % 256 := by
 simp only [IntKind.wrap, IntKind.bits, IntKind.signed]; simp
theorem bgz (c : Int) : sh8 c 6 = c / 64 % 256 := by
 show IntKind.u8.wrap (c.fdiv 64) = _
 rw [aj1, Int.fdiv_eq_ediv_of_nonneg _ (by omega)]
theorem bcf (c : Int) : sh8 c 12 = c / 4096 % 256 := by
 show IntKind.u8.wrap (c.fdiv 4096) = _
 rw [aj1, Int.fdiv_eq_ediv_of_nonneg _ (by omega)]
theorem buv (c : Int) : sh8 c 18 = c / 262144 % 256 := by
 show IntKind.u8.wrap (c.fdiv 262144) = _
 rw [aj1, Int.fdiv_eq_ediv_of_nonneg _ (by omega)]
theorem aex {c : Int} (h0 : 0 ≤ c) (h1 : c < 1114112) : ee c = Lib.encodeRuneZ c := by
 unfold ee
 by_cases a1 : 127 < c
 ·rw [if_pos a1]
  by_cases a2 : 2047 < c
  ·rw [if_pos a2]
   have e3 : [gc 9 .u8 224 (c / 4096 % 256), lo8 (c / 64 % 256), lo8 (c % 256)] = [224 + c / 4096 % 256, 128 + c / 64 % 64, 128 + c % 64] ∨ 65535 < c := by
    by_cases h : 65535 < c
    ·exact .inr h
    ·refine .inl ?_
     rw [bv0 _ (by omega) (by omega), adg _ (by omega) (by omega), adg _ (by omega) (by omega)]
     congr 2
     ·omega
     ·congr 1; omega
   by_cases a3 : c < 55296
   ·rw [if_pos a3, bcf, bgz, aj1, Lib.encodeRuneZ_three (.inl ⟨by omega, a3⟩)]
    rcases e3 with e | e
    ·rw [e]; congr 1; omega
    ·omega
   ·rw [if_neg a3]
    by_cases a4 : 57343 < c
    ·rw [if_pos a4]
     by_cases a5 : 65535 < c
     ·rw [if_pos a5, buv, bcf, bgz, aj1, Lib.encodeRuneZ_four (by omega) (by omega), bth _ (by omega) (by omega), adg _ (by omega) (by omega), adg _ (by omega) (by omega), adg _ (by omega) (by omega)]
      congr 1
      ·omega
      ·congr 1
       ·omega
       ·congr 1
        ·omega
        ·congr 1; omega
     ·rw [if_neg a5, bcf, bgz, aj1, Lib.encodeRuneZ_three (.inr ⟨by omega, by omega⟩)]
      rcases e3 with e | e
      ·rw [e]; congr 1; omega
      ·omega
    ·rw [if_neg a4, Lib.encodeRuneZ_bad (.inr (.inl ⟨by omega, by omega⟩))]
  ·rw [if_neg a2, bgz, aj1, Lib.encodeRuneZ_two (by omega) (by omega), bsg _ (by omega) (by omega), adg _ (by omega) (by omega)]
   congr 1
   ·omega
   ·congr 1; omega
 ·rw [if_neg a1, Lib.encodeRuneZ_one h0 (by omega)]
def u8L (s : List Int) : List UInt8 := s.map fun x => UInt8.ofNat x.toNat
theorem bpb (s : List Int) : drJ s 0 = ((Lib.decodeL (u8L s)).1 : Int) := rfl
theorem bum (s : List Int) : dwJ s 0 = ((Lib.decodeL (u8L s)).2 : Int) := rfl
theorem aom {s t : List Int} (h : bp s) (h' : bp t) : bp (s ++ t) := fun x hx => (List.mem_append.1 hx).elim (h x) (h' x)
def au2 (s : List Int) : Prop := (Lib.decodeL (u8L s)).1 = 65533 ∧ (Lib.decodeL (u8L s)).2 = 1
theorem a0i (s : List Int) (n : Nat) : u8L (s.drop n) = (u8L s).drop n := by unfold u8L; rw [List.map_drop]
theorem aqb (s : List Int) : (u8L s).length = s.length := by unfold u8L; rw [List.length_map]
theorem a48 (s : List Int) (i : Nat) : (aj s).get! i = (u8L s).getD i 0 := by
 show ((u8L s).toArray).getD i default = _
 rw [Array.getD_eq_getD_getElem?, List.getD_eq_getElem?_getD, zL]; rfl
theorem a7t (s : List Int) (p q : Nat) : Utf8.decode (aj s) (p + q) = Utf8.decode (aj (s.drop p)) q := by
 rw [Lib.decode_at, Lib.decode_at]
 simp only [a48, a0i]
 have e : ∀ i, ((u8L s).drop p).getD i 0 = (u8L s).getD (p + i) 0 := fun i => by rw [List.getD_eq_getElem?_getD, List.getD_eq_getElem?_getD, List.getElem?_drop]
 rw [e, e, e, e]
 have e2 : (aj s).size - (p + q) = (aj (s.drop p)).size - q := by
  rw [dg, dg, List.length_drop]; omega
 rw [e2]
 simp only [Nat.add_assoc]
theorem amk (s : List Int) (p : Nat) : ∀ (f q : Nat), ic f s (p + q) = ic f (s.drop p) q
 | 0, _ => rfl
 | f + 1, q => by
   unfold ic
   have e : Utf8.decode (rj s) (p + q) = Utf8.decode (rj (s.drop p)) q := a7t s p q
   have hl : p + q < s.length ↔ q < (s.drop p).length := by rw [List.length_drop]; omega
   by_cases h : p + q < s.length
   ·rw [if_pos h, if_pos (hl.1 h), e, Nat.add_assoc, amk s p f]
   ·rw [if_neg h, if_neg (fun x => h (hl.2 x))]
theorem auq (s : List Int) (p : Nat) : av s p = av (s.drop p) 0 := by
 unfold av
 have := amk s p s.length 0
 rw [Nat.add_zero] at this
 rw [this, ael s.length (s.drop p).length (s.drop p) 0 (by rw [List.length_drop]; omega) (by omega)]
theorem afc {s : List Int} (hs : s ≠ []) : av s 0 = drJ s 0 :: av (s.drop (Lib.decodeL (u8L s)).2) 0 := by
 have h : 0 < s.length := List.length_pos_iff.2 hs
 have e := rr h
 rw [Nat.zero_add] at e
 rw [e]
 congr 1
 exact auq s _
theorem am4 (s : List Int) : b8 s = 1 ↔ Lib.validD (u8L s) = true := by
 show (if Lib.validD (u8L s) = true then (1 : Int) else 0) = 1 ↔ _
 by_cases h : Lib.validD (u8L s) = true
 ·rw [if_pos h]; exact ⟨fun _ => h, fun _ => rfl⟩
 ·rw [if_neg h]; exact ⟨fun e => absurd e (by decide), fun e => absurd e h⟩
theorem ajl {s : List Int} (hs : s ≠ []) : b8 s = 1 ↔ ¬ au2 s ∧ b8 (s.drop (Lib.decodeL (u8L s)).2) = 1 := by
 rw [am4, am4, a0i, Lib.validD_step (u8L s) (by simpa [u8L] using hs)]
 unfold au2
 by_cases h : (Lib.decodeL (u8L s)).1 = 65533 ∧ (Lib.decodeL (u8L s)).2 = 1
 ·rw [if_pos h]; exact ⟨fun x => absurd x (by decide), fun x => absurd h x.1⟩
 ·rw [if_neg h]; exact ⟨fun x => ⟨h, x⟩, fun x => x.2⟩
end Go.Ev
set_option maxRecDepth 100000
set_option linter.all false
namespace Go.Ev
theorem bar [Gv] {f nxi nxo i : Nat} {us : List AV} {Li Lo : List HO} {r : TR} (h : bp (Gv.σ i) → cz f (.gv (.str (.s i) []) :: us) nxi Li r nxo Lo) : cz f (.gv (.str (.s i) []) :: us) nxi Li r nxo Lo := by
 intro ρ args w hg hw hc hv
 refine h ?_ ρ args w hg hw hc hv
 have hv2 := hv
 simp only [VRels] at hv2
 obtain ⟨v, vs, e, h1, _⟩ := hv2
 simp only [VRel, GVRel] at h1
 exact h1.2.2
theorem po {s : List Int} (h : bp s) (i : Nat) : 0 ≤ s.getD i 0 ∧ s.getD i 0 < 256 := by
 rw [List.getD_eq_getElem?_getD]
 cases hx : s[i]? with
 | none => exact ⟨by decide, by decide⟩
 | some x => exact h x (List.mem_of_getElem? hx)
theorem w7 (s : List Int) (h : bp s) (i : Nat) : (((u8L s).getD i 0).toNat : Int) = s.getD i 0 := by
 have hb := po h i
 have e : (u8L s).getD i 0 = UInt8.ofNat (s.getD i 0).toNat := by
  unfold u8L
  rw [List.getD_eq_getElem?_getD, List.getD_eq_getElem?_getD, List.getElem?_map]
  cases s[i]? <;> rfl
 rw [e]
 generalize s.getD i 0 = x at *
 have : (UInt8.ofNat x.toNat).toNat = x.toNat := by simp; omega
 rw [this]; omega
theorem cu {s : List Int} (h : bp s) (hs : 0 < s.length) :
  (s.getD 0 0 < 128 → ptN s = 1 ∧ ptC s = s.getD 0 0) ∧
  (194 ≤ s.getD 0 0 ∧ s.getD 0 0 < 224 ∧ 1 < (s.length : Int) ∧ 128 ≤ s.getD 1 0 ∧ s.getD 1 0 < 192 → ptN s = 2 ∧ ptC s = (s.getD 0 0 - 192) * 64 + s.getD 1 0 - 128) ∧
  (224 ≤ s.getD 0 0 ∧ s.getD 0 0 < 240 ∧ 2 < (s.length : Int) ∧ 128 ≤ s.getD 1 0 ∧ s.getD 1 0 < 192 ∧ 128 ≤ s.getD 2 0 ∧ s.getD 2 0 < 192 →
    (2048 ≤ ((s.getD 0 0 - 224) * 64 + s.getD 1 0 - 128) * 64 + s.getD 2 0 - 128 ∧ (((s.getD 0 0 - 224) * 64 + s.getD 1 0 - 128) * 64 + s.getD 2 0 - 128 < 55296 ∨ 57344 ≤ ((s.getD 0 0 - 224) * 64 + s.getD 1 0 - 128) * 64 + s.getD 2 0 - 128) →
      ptN s = 3 ∧ ptC s = ((s.getD 0 0 - 224) * 64 + s.getD 1 0 - 128) * 64 + s.getD 2 0 - 128) ∧
    (¬ (2048 ≤ ((s.getD 0 0 - 224) * 64 + s.getD 1 0 - 128) * 64 + s.getD 2 0 - 128 ∧ (((s.getD 0 0 - 224) * 64 + s.getD 1 0 - 128) * 64 + s.getD 2 0 - 128 < 55296 ∨ 57344 ≤ ((s.getD 0 0 - 224) * 64 + s.getD 1 0 - 128) * 64 + s.getD 2 0 - 128)) → ptN s = 0 ∧ ptC s = 0)) ∧
  (240 ≤ s.getD 0 0 ∧ s.getD 0 0 < 245 ∧ 3 < (s.length : Int) ∧ 128 ≤ s.getD 1 0 ∧ s.getD 1 0 < 192 ∧ 128 ≤ s.getD 2 0 ∧ s.getD 2 0 < 192 ∧ 128 ≤ s.getD 3 0 ∧ s.getD 3 0 < 192 →
    (65536 ≤ (((s.getD 0 0 - 240) * 64 + s.getD 1 0 - 128) * 64 + s.getD 2 0 - 128) * 64 + s.getD 3 0 - 128 ∧ (((s.getD 0 0 - 240) * 64 + s.getD 1 0 - 128) * 64 + s.getD 2 0 - 128) * 64 + s.getD 3 0 - 128 ≤ 1114111 →
      ptN s = 4 ∧ ptC s = (((s.getD 0 0 - 240) * 64 + s.getD 1 0 - 128) * 64 + s.getD 2 0 - 128) * 64 + s.getD 3 0 - 128) ∧
    (¬ (65536 ≤ (((s.getD 0 0 - 240) * 64 + s.getD 1 0 - 128) * 64 + s.getD 2 0 - 128) * 64 + s.getD 3 0 - 128 ∧ (((s.getD 0 0 - 240) * 64 + s.getD 1 0 - 128) * 64 + s.getD 2 0 - 128) * 64 + s.getD 3 0 - 128 ≤ 1114111) → ptN s = 0 ∧ ptC s = 0)) ∧
  (¬ s.getD 0 0 < 128 → ¬ (194 ≤ s.getD 0 0 ∧ s.getD 0 0 < 224 ∧ 1 < (s.length : Int) ∧ 128 ≤ s.getD 1 0 ∧ s.getD 1 0 < 192) → ¬ (224 ≤ s.getD 0 0 ∧ s.getD 0 0 < 240 ∧ 2 < (s.length : Int) ∧ 128 ≤ s.getD 1 0 ∧ s.getD 1 0 < 192 ∧ 128 ≤ s.getD 2 0 ∧ s.getD 2 0 < 192) →
    ¬ (240 ≤ s.getD 0 0 ∧ s.getD 0 0 < 245 ∧ 3 < (s.length : Int) ∧ 128 ≤ s.getD 1 0 ∧ s.getD 1 0 < 192 ∧ 128 ≤ s.getD 2 0 ∧ s.getD 2 0 < 192 ∧ 128 ≤ s.getD 3 0 ∧ s.getD 3 0 < 192) → ptN s = 0 ∧ ptC s = 0) := by
 have g0 := w7 s h 0; have g1 := w7 s h 1; have g2 := w7 s h 2; have g3 := w7 s h 3
 have r0 := po h 0; have r1 := po h 1; have r2 := po h 2; have r3 := po h 3
 unfold ptN ptC
 rw [bpb, bum, Lib.decodeL_N, aqb]
 generalize ((u8L s).getD 0 0).toNat = b0 at *
 generalize ((u8L s).getD 1 0).toNat = b1 at *
 generalize ((u8L s).getD 2 0).toNat = b2 at *
 generalize ((u8L s).getD 3 0).toNat = b3 at *
 generalize s.length = n at *
 have nob : ∀ c w : Nat, ¬ ((c : Int) = 65533 ∧ (w : Int) ≤ 1) → Lib.decodeN n b0 b1 b2 b3 = (c, w) →
   (if ((Lib.decodeN n b0 b1 b2 b3).1 : Int) = 65533 ∧ ((Lib.decodeN n b0 b1 b2 b3).2 : Int) ≤ 1 then (0 : Int) else ((Lib.decodeN n b0 b1 b2 b3).2 : Int)) = (w : Int) ∧
   (if ((Lib.decodeN n b0 b1 b2 b3).1 : Int) = 65533 ∧ ((Lib.decodeN n b0 b1 b2 b3).2 : Int) ≤ 1 then (0 : Int) else ((Lib.decodeN n b0 b1 b2 b3).1 : Int)) = (c : Int) := fun c w hn e => by
  rw [e]; dsimp only; rw [if_neg hn, if_neg hn]; exact ⟨rfl, rfl⟩
 have bad : Lib.decodeN n b0 b1 b2 b3 = (65533, 1) →
   (if ((Lib.decodeN n b0 b1 b2 b3).1 : Int) = 65533 ∧ ((Lib.decodeN n b0 b1 b2 b3).2 : Int) ≤ 1 then (0 : Int) else ((Lib.decodeN n b0 b1 b2 b3).2 : Int)) = 0 ∧
   (if ((Lib.decodeN n b0 b1 b2 b3).1 : Int) = 65533 ∧ ((Lib.decodeN n b0 b1 b2 b3).2 : Int) ≤ 1 then (0 : Int) else ((Lib.decodeN n b0 b1 b2 b3).1 : Int)) = 0 := fun e => by
  rw [e]; exact ⟨if_pos ⟨rfl, by decide⟩, if_pos ⟨rfl, by decide⟩⟩
 refine ⟨fun c => ?_, fun c => ?_, fun c => ⟨fun d => ?_, fun d => ?_⟩, fun c => ⟨fun d => ?_, fun d => ?_⟩, fun c1 c2 c3 c4 => ?_⟩
 ·have := nob b0 1 (by omega) (by unfold Lib.decodeN; rw [if_pos (by omega)])
  exact ⟨this.1, this.2.trans g0⟩
 ·have := nob (b0 % 32 * 64 + b1 % 64) 2 (by omega) (by unfold Lib.decodeN; rw [if_neg (by omega), if_pos (by omega), if_pos (by omega)])
  exact ⟨this.1, this.2.trans (by omega)⟩
 ·have := nob (b0 % 16 * 4096 + b1 % 64 * 64 + b2 % 64) 3 (by omega) (by unfold Lib.decodeN; rw [if_neg (by omega), if_neg (by omega), if_pos (by omega), if_pos (by omega)])
  exact ⟨this.1, this.2.trans (by omega)⟩
 ·exact bad (by unfold Lib.decodeN; rw [if_neg (by omega), if_neg (by omega), if_pos (by omega), if_neg (by omega)])
 ·have := nob (b0 % 8 * 262144 + b1 % 64 * 4096 + b2 % 64 * 64 + b3 % 64) 4 (by omega) (by unfold Lib.decodeN; rw [if_neg (by omega), if_neg (by omega), if_neg (by omega), if_pos (by omega), if_pos (by omega)])
  exact ⟨this.1, this.2.trans (by omega)⟩
 ·exact bad (by unfold Lib.decodeN; rw [if_neg (by omega), if_neg (by omega), if_neg (by omega), if_pos (by omega), if_neg (by omega)])
 ·refine bad ?_
  unfold Lib.decodeN
  rw [if_neg (by omega)]
  by_cases d1 : b0 / 32 = 6 ∧ (1 < n ∧ b1 / 64 = 2)
  ·rw [if_pos d1, if_neg (by omega)]
  ·rw [if_neg d1]
   by_cases d2 : b0 / 16 = 14 ∧ (1 < n ∧ b1 / 64 = 2) ∧ (2 < n ∧ b2 / 64 = 2)
   ·exfalso; omega
   ·rw [if_neg d2]
    by_cases d3 : b0 / 8 = 30 ∧ (1 < n ∧ b1 / 64 = 2) ∧ (2 < n ∧ b2 / 64 = 2) ∧ (3 < n ∧ b3 / 64 = 2)
    ·rw [if_pos d3, if_neg (by omega)]
    ·rw [if_neg d3]
theorem bx (l : List Int) (i n : Int) (h0 : 0 ≤ i) (h1 : i < n) (h2 : n ≤ (l.length : Int)) : alv l i n = ee (l.getD i.toNat 0) ++ alv l (i + 1) n := by
 have hi : i.toNat < (l.take n.toNat).length := by rw [List.length_take]; omega
 unfold alv
 rw [List.drop_eq_getElem_cons hi, List.flatMap_cons, show (i + 1).toNat = i.toNat + 1 by omega]
 congr 2
 rw [List.getElem_take, List.getD_eq_getElem?_getD, zK (by omega)]; rfl
theorem ans (l : List Int) (i n : Int) (h : n ≤ i) : alv l i n = [] := by
 unfold alv
 rw [List.drop_eq_nil_of_le (by rw [List.length_take]; omega)]; rfl
section
variable {s t h G : List Int}
end
end Go.Ev
set_option maxRecDepth 100000
set_option linter.all false
namespace Go.Ev
def isC (c : Int) : Prop := 0 ≤ c ∧ c ≤ 1114111 ∧ ¬ (55296 ≤ c ∧ c ≤ 57343)
theorem ano (c : Int) (h : isC c) : bp (ee c) := by
 obtain ⟨h0, h1, h2⟩ := h
 rw [aex h0 (by omega)]
 exact fun x hx => Lib.encodeRuneZ_byte _ x hx
theorem bdz {c : Int} (h : isC c) {t : List Int} (ht : bp t) : Lib.decodeL (u8L (ee c ++ t)) = (c.toNat, (ee c).length) := by
 have hb := aom (ano c h) ht
 obtain ⟨h0, h1, h2⟩ := h
 have g0 := w7 _ hb 0
 have g1 := w7 _ hb 1
 have g2 := w7 _ hb 2
 have g3 := w7 _ hb 3
 have hl := aqb (ee c ++ t)
 rw [Lib.decodeL_N, hl]
 generalize ((u8L (ee c ++ t)).getD 0 0).toNat = n0 at *
 generalize ((u8L (ee c ++ t)).getD 1 0).toNat = n1 at *
 generalize ((u8L (ee c ++ t)).getD 2 0).toNat = n2 at *
 generalize ((u8L (ee c ++ t)).getD 3 0).toNat = n3 at *
 clear hb hl
 rw [aex h0 (by omega)] at *
 by_cases a1 : c ≤ 127
 ·rw [Lib.encodeRuneZ_one h0 a1] at *
  have g0 : (n0 : Int) = c := g0
  unfold Lib.decodeN
  rw [if_pos (by omega)]
  exact Prod.ext (by show n0 = c.toNat; omega) rfl
 by_cases a2 : c ≤ 2047
 ·rw [Lib.encodeRuneZ_two (by omega) a2] at *
  have g0 : (n0 : Int) = 192 + c / 64 := g0
  have g1 : (n1 : Int) = 128 + c % 64 := g1
  simp only [zJ, zD, zO, zS]
  unfold Lib.decodeN
  rw [if_neg (by omega), if_pos (by omega), if_pos (by omega)]
  exact Prod.ext (by show n0 % 32 * 64 + n1 % 64 = c.toNat; omega) rfl
 by_cases a3 : c ≤ 65535
 ·rw [Lib.encodeRuneZ_three (by omega)] at *
  have g0 : (n0 : Int) = 224 + c / 4096 := g0
  have g1 : (n1 : Int) = 128 + c / 64 % 64 := g1
  have g2 : (n2 : Int) = 128 + c % 64 := g2
  simp only [zJ, zD, zO, zS]
  unfold Lib.decodeN
  rw [if_neg (by omega), if_neg (by omega), if_pos (by omega), if_pos (by omega)]
  exact Prod.ext (by show n0 % 16 * 4096 + n1 % 64 * 64 + n2 % 64 = c.toNat; omega) rfl
 ·rw [Lib.encodeRuneZ_four (by omega) (by omega)] at *
  have g0 : (n0 : Int) = 240 + c / 262144 := g0
  have g1 : (n1 : Int) = 128 + c / 4096 % 64 := g1
  have g2 : (n2 : Int) = 128 + c / 64 % 64 := g2
  have g3 : (n3 : Int) = 128 + c % 64 := g3
  simp only [zJ, zD, zO, zS]
  unfold Lib.decodeN
  rw [if_neg (by omega), if_neg (by omega), if_neg (by omega), if_pos (by omega), if_pos (by omega)]
  exact Prod.ext (by show n0 % 8 * 262144 + n1 % 64 * 4096 + n2 % 64 * 64 + n3 % 64 = c.toNat; omega) rfl
theorem abx {c : Int} (h : isC c) : 1 ≤ (ee c).length ∧ (ee c).length ≤ 4 := by
 obtain ⟨h0, h1, h2⟩ := h
 rw [aex h0 (by omega)]; exact Lib.encodeRuneZ_length c
theorem aou {c : Int} (h : isC c) {t : List Int} (ht : bp t) : av (ee c ++ t) 0 = c :: av t 0 ∧ (b8 t = 1 → b8 (ee c ++ t) = 1) := by
 have hl := abx h
 have hne : ee c ++ t ≠ [] := by
  intro e
  have := congrArg List.length e
  rw [zP, zS] at this
  omega
 have e := bdz h ht
 have hd : (ee c ++ t).drop (ee c).length = t := List.drop_left
 have h0 := h.1
 constructor
 ·rw [afc hne, bpb, e, hd]
  congr 1
  show ((c.toNat : Nat) : Int) = c
  omega
 ·intro hv
  rw [ajl hne]
  unfold au2
  rw [e, hd]
  refine ⟨?_, hv⟩
  rintro ⟨e1, e2⟩
  have e1 : c.toNat = 65533 := e1
  have e2 : (ee c).length = 1 := e2
  have : c = 65533 := by omega
  subst this
  exact absurd e2 (by decide +kernel)
def Asc (l : List Int) : Prop := ∀ x ∈ l, 0 ≤ x ∧ x < 128
theorem bba {c : Int} (h : c ≤ 127) : ee c = [c] := by unfold ee; rw [if_neg (by omega)]
theorem ach : ∀ (a : List Int), Asc a → ∀ {t : List Int}, bp t → bp (a ++ t) ∧ av (a ++ t) 0 = a ++ av t 0 ∧ (b8 t = 1 → b8 (a ++ t) = 1)
 | [], _, t, ht => ⟨ht, rfl, fun h => h⟩
 | c :: a, ha, t, ht => by
   obtain ⟨i0, i1, i2⟩ := ach a (fun x hx => ha x (zA _ hx)) ht
   obtain ⟨c0, c1⟩ := ha c (List.mem_cons_self ..)
   have hc : isC c := ⟨c0, by omega, by omega⟩
   obtain ⟨k1, k2⟩ := aou hc i0
   rw [bba (by omega)] at k1 k2
   refine ⟨?_, ?_, fun h => k2 (i2 h)⟩
   ·exact aom (s := [c]) (fun x hx => by rw [List.mem_singleton.1 hx]; omega) i0
   ·show av ([c] ++ (a ++ t)) 0 = _
    rw [k1, i1]; rfl
theorem a7e {d : Int} (h0 : 0 ≤ d) (h1 : d < 16) : tg (hxd d) = d ∧ 48 ≤ hxd d ∧ hxd d < 128 := by
 unfold hxd tg
 by_cases h : d < 10
 ·rw [if_pos h, if_pos (by omega)]; omega
 ·rw [if_neg h, if_neg (by omega), if_pos (by omega)]; omega
def aiy : Nat → Int
 | 0 => 1
 | n + 1 => 16 * aiy n
theorem bwh {c d : Int} (h0 : 0 ≤ c) (h1 : c < 1048576) (h2 : 0 ≤ d) (h3 : d < 16) : gc 9 .i64 (gc 11 .i64 c 4) d = 16 * c + d := by
 obtain ⟨n, rfl⟩ := Int.eq_ofNat_of_zero_le h0
 obtain ⟨m, rfl⟩ := Int.eq_ofNat_of_zero_le h2
 have e1 : gc 11 .i64 (n : Int) 4 = ((n * 16 : Nat) : Int) := by
  show IntKind.i64.wrap ((n : Int) * 2 ^ (min (4 : Int).toNat 64)) = _
  rw [show (2 : Int) ^ (min (4 : Int).toNat 64) = 16 from rfl, wr.1 _ (by omega)]
  omega
 rw [e1]
 show IntKind.i64.wrap (((BitVec.ofInt 64 ((n * 16 : Nat) : Int) ||| BitVec.ofInt 64 (m : Int)).toNat : Nat) : Int) = _
 have e2 : (BitVec.ofInt 64 ((n * 16 : Nat) : Int) ||| BitVec.ofInt 64 (m : Int)).toNat = n * 16 + m := by
  rw [BitVec.ofInt_natCast, BitVec.ofInt_natCast, BitVec.toNat_or, BitVec.toNat_ofNat, BitVec.toNat_ofNat, Nat.mod_eq_of_lt (by omega), Nat.mod_eq_of_lt (by omega)]
  have := Nat.shiftLeft_add_eq_or_of_lt (i := 4) (b := m) (by omega) n
  rw [Nat.shiftLeft_eq] at this
  exact this.symm
 rw [e2, wr.1 _ (by omega)]
 omega
def akr (c d : Int) : Int := gc 9 .i64 (gc 11 .i64 c 4) (tg d)
theorem ux (A X : List Int) (d : Int) : (A ++ d :: X).getD (A.length : Int).toNat 0 = d := by
 rw [Int.toNat_natCast, List.getD_eq_getElem?_getD, List.getElem?_append_right (zY _), Nat.sub_self]; rfl
theorem asb (X : List Int) : ∀ (ds A : List Int) (c n : Int), (∀ x ∈ ds, ¬ tg x < 0) → n + (ds.length : Int) ≤ 6 →
  kz (A ++ (ds ++ 92 :: X)) (A.length : Int) c n = ⟨0, n + (ds.length : Int), ds.foldl akr c, (A.length : Int) + (ds.length : Int)⟩
 | [], A, c, n, _, hn => by
   have hn : n ≤ 6 := by simpa using hn
   have g : (A ++ ([] ++ 92 :: X)).getD (A.length : Int).toNat 0 = 92 := ux A X 92
   have z : ((([] : List Int).length : Nat) : Int) = 0 := rfl
   rw [kz, z, Int.add_zero, Int.add_zero]
   split
   ·rw [g, if_pos (show tg 92 < 0 by decide)]; rfl
   ·rfl
 | d :: ds, A, c, n, hd, hn => by
   have hn : n + ((ds.length : Int) + 1) ≤ 6 := by simpa using hn
   have e : A ++ ((d :: ds) ++ 92 :: X) = (A ++ [d]) ++ (ds ++ 92 :: X) := by simp
   have g : (A ++ ((d :: ds) ++ 92 :: X)).getD (A.length : Int).toNat 0 = d := ux A (ds ++ 92 :: X) d
   rw [kz, dif_pos ⟨by omega, by rw [zP, zP, zO]; omega⟩, g, if_neg (hd d (List.mem_cons_self ..))]
   have i := asb X ds (A ++ [d]) (akr c d) (n + 1) (fun x hx => hd x (zA _ hx)) (by omega)
   have el : (((A ++ [d]).length : Nat) : Int) = (A.length : Int) + 1 := by rw [zP]; rfl
   rw [el, ← e] at i
   show kz _ ((A.length : Int) + 1) (akr c d) (n + 1) = _
   rw [i, zO, List.foldl_cons]
   congr 1 <;> omega
theorem az5 : ∀ (f : Nat) (c : Int), 0 ≤ c → c < 16777216 → c < aiy f → (∀ x ∈ rp f c, ¬ tg x < 0 ∧ 0 ≤ x ∧ x < 128) ∧ (rp f c).foldl akr 0 = c
 | 0, c, h0, _, h2 => by
   have h2 : c < 1 := h2
   exact ⟨fun x hx => (zH hx).elim, by show (0 : Int) = c; omega⟩
 | f + 1, c, h0, h1, h2 => by
   have h2 : c < 16 * aiy f := h2
   unfold rp
   split
   ·rename_i hc
    obtain ⟨d1, d2, d3⟩ := a7e h0 hc
    refine ⟨fun x hx => ?_, ?_⟩
    ·rw [List.mem_singleton.1 hx, d1]; omega
    ·show gc 9 .i64 (gc 11 .i64 0 4) (tg (hxd c)) = c
     rw [d1, bwh (by omega) (by omega) h0 hc]; omega
   ·rename_i hc
    obtain ⟨i1, i2⟩ := az5 f (c / 16) (by omega) (by omega) (by omega)
    obtain ⟨d1, d2, d3⟩ := a7e (d := c % 16) (by omega) (by omega)
    refine ⟨fun x hx => ?_, ?_⟩
    ·rcases List.mem_append.1 hx with hx | hx
     ·exact i1 x hx
     ·rw [List.mem_singleton.1 hx, d1]; omega
    ·rw [List.foldl_append, i2]
     show gc 9 .i64 (gc 11 .i64 (c / 16) 4) (tg (hxd (c % 16))) = c
     rw [d1, bwh (by omega) (by omega) (by omega) (by omega)]; omega
theorem ar3 : ∀ (f k : Nat) (c : Int), 0 ≤ c → c < 16 * aiy k → 1 ≤ (rp (f + 1) c).length ∧ (rp (f + 1) c).length ≤ k + 1
 | f, 0, c, h0, h1 => by
   have h1 : c < 16 * 1 := h1
   unfold rp
   rw [if_pos (by omega)]
   exact ⟨zY _, zY _⟩
 | 0, k + 1, c, h0, h1 => by
   unfold rp
   split
   ·exact ⟨zY _, by show 1 ≤ k + 1 + 1; omega⟩
   ·show 1 ≤ ([] ++ [hxd (c % 16)] : List Int).length ∧ ([] ++ [hxd (c % 16)] : List Int).length ≤ k + 1 + 1
    exact ⟨zY _, by show 1 ≤ k + 1 + 1; omega⟩
 | f + 1, k + 1, c, h0, h1 => by
   have h1 : c < 16 * (16 * aiy k) := h1
   unfold rp
   split
   ·exact ⟨zY _, by show 1 ≤ k + 1 + 1; omega⟩
   ·have i := ar3 f k (c / 16) (by omega) (by omega)
    rw [zP]
    show 1 ≤ (rp (f + 1) (c / 16)).length + 1 ∧ (rp (f + 1) (c / 16)).length + 1 ≤ k + 1 + 1
    omega
theorem ag7 {c : Int} (h0 : 0 ≤ c) (h1 : c < 16777216) : (∀ x ∈ kr c, ¬ tg x < 0 ∧ 0 ≤ x ∧ x < 128) ∧ (kr c).foldl akr 0 = c ∧ 1 ≤ (kr c).length ∧ (kr c).length ≤ 6 := by
 obtain ⟨a, b⟩ := az5 8 c h0 h1 (by show c < 4294967296; omega)
 obtain ⟨d, e⟩ := ar3 7 5 c h0 (by show c < 16777216; omega)
 exact ⟨a, b, d, e⟩
theorem a9p (A X : List Int) (at_ c : Int) (h : isC c) :
  sq (A ++ (kr c ++ 92 :: X)) (A.length : Int) at_ = ⟨0, 0, c, (A.length : Int) + ((kr c).length : Int) + 1⟩ := by
 obtain ⟨h0, h1, h2⟩ := h
 obtain ⟨a, b, d, e⟩ := ag7 (c := c) h0 (by omega)
 have i := asb X (kr c) A 0 0 (fun x hx => (a x hx).1) (by omega)
 rw [b, Int.zero_add] at i
 unfold sq
 rw [i]
 dsimp only
 have g : (A ++ (kr c ++ 92 :: X)).getD ((A.length : Int) + ((kr c).length : Int)).toNat 0 = 92 := by
  have := ux (A ++ kr c) X 92
  rw [List.append_assoc, zP] at this
  rw [show (((A.length + (kr c).length : Nat)) : Int) = (A.length : Int) + ((kr c).length : Int) from by omega] at this
  exact this
 rw [if_pos (by rw [zP, zP, zO]; omega), g]
 have hc : kh c = 1 := by unfold kh; rw [if_pos ⟨h0, h1, h2⟩]
 rw [hc, if_neg (by omega)]
def afo (c b : Int) : List Int := if isE c b then zd c else [c]
theorem a9w (A X : List Int) (c : Int) (h : isC c) :
  jd (A ++ (120 :: (kr c ++ 92 :: X))) (A.length : Int) = ⟨0, 0, c, (A.length : Int) + 1 + ((kr c).length : Int) + 1⟩ := by
 unfold jd
 rw [ux, if_pos (by rw [zP, zO]; omega), if_neg (by omega), if_neg (by omega), if_pos rfl]
 have i := a9p (A ++ [120]) X ((A.length : Int) - 1) c h
 rw [List.append_assoc, zP] at i
 exact i
theorem bh6 (A X b : List Int) (c : Int) (h : isC c) :
  gi (A ++ (zd c ++ X)) (A.length : Int) b = gi (A ++ (zd c ++ X)) ((A.length : Int) + ((zd c).length : Int)) (b ++ ee c) := by
 have e : A ++ (zd c ++ X) = A ++ 92 :: (120 :: (kr c ++ 92 :: X)) := by simp [zd]
 have e2 : A ++ (zd c ++ X) = (A ++ [92]) ++ (120 :: (kr c ++ 92 :: X)) := by simp [zd]
 have i := a9w (A ++ [92]) X c h
 rw [← e2] at i
 have el : (((A ++ [92]).length : Nat) : Int) = (A.length : Int) + 1 := by rw [zP]; rfl
 rw [el] at i
 have g : (A ++ (zd c ++ X)).getD (A.length : Int).toNat 0 = 92 := by rw [e]; exact ux ..
 have ll : ((zd c).length : Int) = ((kr c).length : Int) + 3 := by simp [zd]; omega
 conv => lhs; rw [gi]
 rw [dif_pos (by rw [zP, zP]; omega), g, if_neg (by omega), if_pos rfl, i]
 dsimp only
 rw [if_pos rfl, dif_pos (by omega), if_neg (by have := h.1; omega), show (A.length : Int) + 1 + 1 + ((kr c).length : Int) + 1 = (A.length : Int) + ((zd c).length : Int) by omega]
theorem ba6 (A X b : List Int) (c : Int) (h : ¬ (c = 34 ∨ c = 92)) :
  gi (A ++ ([c] ++ X)) (A.length : Int) b = gi (A ++ ([c] ++ X)) ((A.length : Int) + (([c] : List Int).length : Int)) (b ++ ee c) := by
 have g : (A ++ ([c] ++ X)).getD (A.length : Int).toNat 0 = c := ux A X c
 conv => lhs; rw [gi]
 rw [dif_pos (by rw [zP, zP, List.length_singleton]; omega), g, if_neg (by omega), if_neg (by omega)]; rfl
theorem bix (A X b : List Int) (c y : Int) (h : isC c) :
  gi (A ++ (afo c y ++ X)) (A.length : Int) b = gi (A ++ (afo c y ++ X)) ((A.length : Int) + ((afo c y).length : Int)) (b ++ ee c) := by
 unfold afo
 split
 ·exact bh6 A X b c h
 ·rename_i hn
  exact ba6 A X b c (fun x => hn (.inr x))
def im : List Int → List Int → List Int
 | c :: l, y :: by_ => afo c y ++ im l by_
 | _, _ => []
theorem aqz (X : List Int) : ∀ (l y A b : List Int), (∀ c ∈ l, isC c) → l.length ≤ y.length →
  gi (A ++ (im l y ++ X)) (A.length : Int) b = gi (A ++ (im l y ++ X)) ((A.length : Int) + ((im l y).length : Int)) (b ++ l.flatMap ee)
 | [], y, A, b, _, _ => by
   have : im [] y = [] := by cases y <;> rfl
   rw [this, List.flatMap_nil, List.append_nil]
   show _ = gi _ ((A.length : Int) + 0) b
   rw [Int.add_zero]
 | c :: l, [], A, b, _, h => absurd h (by simp)
 | c :: l, y :: ys, A, b, hc, h => by
   have e1 : im (c :: l) (y :: ys) = afo c y ++ im l ys := rfl
   have p := bix A (im l ys ++ X) b c y (hc c (List.mem_cons_self ..))
   have i := aqz X l ys (A ++ afo c y) (b ++ ee c) (fun x hx => hc x (zA _ hx)) (by simpa using h)
   have ea : A ++ (im (c :: l) (y :: ys) ++ X) = A ++ (afo c y ++ (im l ys ++ X)) := by rw [e1, List.append_assoc]
   have eb : A ++ (im (c :: l) (y :: ys) ++ X) = (A ++ afo c y) ++ (im l ys ++ X) := by rw [ea, List.append_assoc]
   rw [← ea] at p
   rw [← eb, zP, Int.natCast_add] at i
   rw [p, i, e1, zP, Int.natCast_add, List.flatMap_cons, List.append_assoc b, Int.add_assoc]
theorem bgm {c : Int} (h : isC c) : Asc (zd c) := by
 obtain ⟨h0, h1, h2⟩ := h
 obtain ⟨a, _⟩ := ag7 (c := c) h0 (by omega)
 intro x hx
 unfold zd at hx
 rcases List.mem_cons.1 hx with rfl | hx
 ·omega
 rcases List.mem_cons.1 hx with rfl | hx
 ·omega
 rcases List.mem_append.1 hx with hx | hx
 ·exact (a x hx).2
 ·rw [List.mem_singleton.1 hx]; omega
theorem beo {c : Int} (y : Int) (h : isC c) {t : List Int} (ht : bp t) : bp (vp c y ++ t) ∧ av (vp c y ++ t) 0 = afo c y ++ av t 0 ∧ (b8 t = 1 → b8 (vp c y ++ t) = 1) := by
 unfold vp afo
 split
 ·exact ach _ (bgm h) ht
 ·obtain ⟨a, b⟩ := aou h ht
  exact ⟨aom (ano c h) ht, a, b⟩
theorem aoy : ∀ (l y : List Int), (∀ c ∈ l, isC c) → ∀ {t : List Int}, bp t → bp (nj l y ++ t) ∧ av (nj l y ++ t) 0 = im l y ++ av t 0 ∧ (b8 t = 1 → b8 (nj l y ++ t) = 1)
 | [], y, _, t, ht => by
   have e1 : im [] y = [] := by cases y <;> rfl
   have e2 : nj [] y = [] := by cases y <;> rfl
   rw [e1, e2]; exact ⟨ht, rfl, fun h => h⟩
 | c :: l, [], _, t, ht => ⟨ht, rfl, fun h => h⟩
 | c :: l, y :: ys, hc, t, ht => by
   obtain ⟨i0, i1, i2⟩ := aoy l ys (fun x hx => hc x (zA _ hx)) ht
   obtain ⟨p0, p1, p2⟩ := beo y (hc c (List.mem_cons_self ..)) i0
   have e1 : im (c :: l) (y :: ys) = afo c y ++ im l ys := rfl
   have e2 : nj (c :: l) (y :: ys) = vp c y ++ nj l ys := rfl
   rw [e1, e2, List.append_assoc, List.append_assoc]
   exact ⟨p0, by rw [p1, i1], fun h => p2 (i2 h)⟩
theorem bfx (c y : Int) (h : isC c) : ((vp c y).length : Int) ≤ 9 := by
 have := abx h
 obtain ⟨h0, h1, h2⟩ := h
 obtain ⟨_, _, _, d⟩ := ag7 (c := c) h0 (by omega)
 unfold vp
 split
 ·simp only [zd, zO, zP, zS]; omega
 ·omega
theorem ay3 : ∀ (l y : List Int), (∀ c ∈ l, isC c) → ((nj l y).length : Int) ≤ 9 * (l.length : Int)
 | [], y, _ => by cases y <;> exact Int.le_refl _
 | c :: l, [], _ => by show (0 : Int) ≤ _; rw [zO]; omega
 | c :: l, y :: ys, hc => by
   have i := ay3 l ys (fun x hx => hc x (zA _ hx))
   have p := bfx c y (hc c (List.mem_cons_self ..))
   show ((vp c y ++ nj l ys).length : Int) ≤ _
   rw [zP, zO]; omega
theorem ij (l y : List Int) (i : Int) (h0 : 0 ≤ i) (hl : i < (l.length : Int)) (hy : i < (y.length : Int)) :
  nj (l.drop i.toNat) (y.drop i.toNat) = vp (l.getD i.toNat 0) (y.getD i.toNat 0) ++ nj (l.drop (i + 1).toNat) (y.drop (i + 1).toNat) := by
 have h1 : i.toNat < l.length := by omega
 have h2 : i.toNat < y.length := by omega
 have e : (i + 1).toNat = i.toNat + 1 := by omega
 rw [e, List.drop_eq_getElem_cons h1, List.drop_eq_getElem_cons h2, List.getD_eq_getElem?_getD, List.getD_eq_getElem?_getD, zK h1, zK h2]
 rfl
theorem bes (l y : List Int) (i : Int) (hl : (l.length : Int) ≤ i) : nj (l.drop i.toNat) (y.drop i.toNat) = [] := by
 rw [List.drop_eq_nil_of_le (by omega)]
 cases y.drop i.toNat <;> rfl
theorem a6p (l y : List Int) (hc : ∀ c ∈ l, isC c) (hl : l.length ≤ y.length) :
  (bp ([34] ++ nj l y) ∧ b8 ([34] ++ nj l y) = 1 ∧ av ([34] ++ nj l y) 0 = 34 :: im l y ∧ gi (34 :: im l y) 1 [] = ⟨5, 1 + ((im l y).length : Int), [], 0⟩) ∧
  bp ([34] ++ nj l y ++ [34]) ∧ b8 ([34] ++ nj l y ++ [34]) = 1 ∧ av ([34] ++ nj l y ++ [34]) 0 = 34 :: (im l y ++ [34]) ∧ gi (34 :: (im l y ++ [34])) 1 [] = ⟨0, 0, l.flatMap ee, 2 + ((im l y).length : Int)⟩ := by
 have q : Asc [34] := fun x hx => by rw [List.mem_singleton.1 hx]; omega
 have n0 : bp [] := fun x hx => (zH hx).elim
 obtain ⟨a0, a1, a2⟩ := aoy l y hc n0
 obtain ⟨b0, b1, b2⟩ := ach [34] q a0
 obtain ⟨c0, c1, c2⟩ := ach [34] q n0
 obtain ⟨d0, d1, d2⟩ := aoy l y hc c0
 obtain ⟨e0, e1, e2⟩ := ach [34] q d0
 have z : av [] 0 = [] := rfl
 have v : b8 [] = 1 := rfl
 rw [List.append_nil] at a0 a1 a2 b0 b1 b2 c0 c1 c2 d0 d1 d2 e0 e1 e2
 rw [z] at a1 c1
 rw [List.append_nil] at a1 c1
 rw [a1] at b1
 rw [c1] at d1
 rw [d1] at e1
 refine ⟨⟨b0, b2 (a2 v), b1, ?_⟩, ?_⟩
 ·have t := aqz [] l y [34] [] hc hl
  rw [List.append_nil, zD] at t
  have t : gi (34 :: im l y) 1 [] = gi (34 :: im l y) (1 + ((im l y).length : Int)) (l.flatMap ee) := t
  rw [t, gi, dif_neg (by rw [zO]; omega), zO]
  congr 1; omega
 ·rw [List.append_assoc]
  refine ⟨e0, e2 (d2 (c2 v)), e1, ?_⟩
  have t := aqz [34] l y [34] [] hc hl
  rw [zD] at t
  have t : gi (34 :: (im l y ++ [34])) 1 [] = gi (34 :: (im l y ++ [34])) (1 + ((im l y).length : Int)) (l.flatMap ee) := t
  have g := ux (34 :: im l y) [] 34
  have el : (((34 :: im l y).length : Nat) : Int) = 1 + ((im l y).length : Int) := by rw [zO]; omega
  rw [el] at g
  have g : (34 :: (im l y ++ [34])).getD (1 + ((im l y).length : Int)).toNat 0 = 34 := g
  rw [t, gi, dif_pos (by rw [zO, zP, List.length_singleton]; omega), g, if_pos rfl]
  congr 1; omega
end Go.Ev
