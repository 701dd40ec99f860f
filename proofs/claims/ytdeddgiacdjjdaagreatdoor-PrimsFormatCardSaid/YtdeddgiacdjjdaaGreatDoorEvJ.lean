import Derived.Test.YtdeddgiacdjjdaaGreatDoorEvZ
import Derived.Laws.Append
import Derived.Lib.AppendZeros
import Derived.Lib.AppendZerosOnto
set_option linter.all false
namespace Go.Ev
variable [Gv]
section
variable {ρ : Env} {a : W} {w : World}
def om (w : World) (size n : Nat) (x' : Value) (l' : List Value) : Prop := Builtin.lenOf x' = pure n ∧ l'.length = n * size ∧ ∀ W : World, W.heap = w.heap → (Builtin.firstCells size n x').run PP W = .ok l'.toArray W
theorem k8 {W : World} (h : W.heap = w.heap) (p : Addr) : W.cell? p = w.cell? p := by simp only [World.cell?, h]
theorem mj (hw : WRel ρ a w) {size n : Nat} {x : AV} {x' : Value} {l : List AV} (h : ky size x a = some (n, l)) (hx : VRel ρ x x') : ∃ l', om w size n x' l' ∧ VRels ρ l l' := by
 unfold ky at h
 split at h
 ·cases h
  simp only [VRel] at hx; subst hx
  exact ⟨[], ⟨rfl, by simp, fun W _ => by simp [Builtin.firstCells]⟩, by simp [VRels]⟩
 ·cases h
  simp only [VRel] at hx; obtain ⟨q, cap', rfl⟩ := hx
  exact ⟨[], ⟨rfl, by simp, fun W _ => by simp [Builtin.firstCells, loadCells, loadCellsFrom]⟩, by simp [VRels]⟩
 ·rename_i b o len cap ex
  simp only [zG] at h
  obtain ⟨l1, h1, h2⟩ := h
  cases h2
  simp only [VRel] at hx
  obtain ⟨c, cap', hc, _, _, rfl⟩ := hx
  simp only [mr] at h1
  obtain ⟨l', q1, q2, q3⟩ := j7 h1 (hw.block rfl (lc h1) hc)
  refine ⟨l', ⟨rfl, q1, fun W hW => ?_⟩, q2⟩
  simp only [Builtin.firstCells]
  exact fq q1 (fun j v hj => by rw [k8 hW]; exact q3 j v hj)
 ·rename_i len m
  rw [aa] at h
  split at h <;> try (cases h; done)
  rename_i h1
  have h1 := zW h1
  subst h1
  cases h
  simp only [VRel] at hx
  obtain ⟨hm, rfl⟩ := hx
  refine ⟨(aq n m).map fun b => .int .u8 b.toNat, ⟨by simp only [Builtin.lenOf, cg], by simp [aj], fun W _ => ?_⟩, ?_⟩
  ·simp only [Builtin.firstCells, zT]
   congr 1
   have e : (ap n m).extract 0 n = ap n m := by
    have := np n m 0 n (Nat.zero_le _) (zY _)
    rw [this]
    congr 1
    rw [ll]
    simp [Nat.mod_eq_of_lt hm]
   rw [e]
   unfold ap
   simp
  ·apply VRels.of_get
   ·simp [aj]
   ·intro i hi
    have hi' : i < n := by simpa using hi
    refine ⟨.int .u8 (sAt n m i), ?_, ?_⟩
    ·rw [List.getElem?_map, zK (by rw [aj]; exact hi'), kg]
     simp only [Option.map_some, qs]
    ·simp only [List.getElem_map, List.getElem_range, VRel]
     rfl
 ·cases h
theorem akr {xt : Option TypeId} (h : y9 xt = true) : xt = none ∨ ∃ t d, xt = some t ∧ al t = some d ∧ ∀ k, d ≠ .int k := by
 cases xt with
 | none => exact .inl rfl
 | some t =>
   right
   simp only [y9] at h
   cases hu : al t with
   | none => rw [hu] at h; cases h
   | some d => rw [hu] at h; exact ⟨t, d, rfl, hu, by rintro k rfl; cases h⟩
theorem eo {t ty e : TypeId} {ts : Array TypeId} {i : TypeInfo} {x' : Value} {base : Option Addr} {sLen sCap n : Nat} {new : List Value} (h0 : ts[0]? = some t) (hxt : y9 ts[1]? = true) (hu : al t = some (.slice e))
  (hi : PP.info? e = some i) (hr : om w i.size n x' new) (hroom : sLen + n ≤ sCap) :
  (Builtin.append_ ts ty #[.slice base sLen sCap, x']).run PP w = ((match base with | some a => storeCells (a.add (sLen * i.size)) new | none => pure ()).run PP w).andThen fun _ w' => .ok (.slice base (sLen + n) sCap) w' := by
 obtain ⟨r1, r2, r3⟩ := hr
 have hsz : (Go.sizeOf e).run PP w = .ok i.size w := by simp [Go.sizeOf, fu hi]
 have r4 := r3 w rfl
 unfold Builtin.append_
 simp only [h0, zL, List.getElem?_cons_zero, List.getElem?_cons_succ, zR, ab hu, zQ, hsz]
 rcases akr hxt with hx | ⟨xt, d, hx, hxu, hd⟩
 ·simp only [hx, zR, zT, zQ, zF, if_false, r1, hroom, if_true, Bool.not_false, r4]
  cases base <;> simp
 ·simp only [hx, zR, ab hxu, zQ]
  cases d <;> first
   | (exact absurd rfl (hd _))
   | (simp only [zR, zT, zQ, zF, if_false, r1, hroom, if_true, Bool.not_false, r4]
      cases base <;> simp)
theorem ej {t ty e : TypeId} {ts : Array TypeId} {i : TypeInfo} {z : Value} {x' : Value} {base : Option Addr} {sLen sCap n : Nat} {old new : List Value} (h0 : ts[0]? = some t) (hxt : y9 ts[1]? = true) (hu : al t = some (.slice e))
  (hi : PP.info? e = some i) (hz : i.zero = some z) (hr : om w i.size n x' new) (ho : ∀ W : World, W.heap = w.heap → (Builtin.firstCells i.size sLen (.slice base sLen sCap)).run PP W = .ok old.toArray W)
  (hroom : ¬ sLen + n ≤ sCap) (h1 : sLen + n ≤ 400000) (h2 : i.bytes ≤ 1000000) (hold : old.length = sLen * i.size) (hzs : z.cells.size = i.size) :
  ∃ (cap : Nat) (tail : List Value), sLen + n ≤ cap ∧ ((old ++ new) ++ tail).length = cap * i.size ∧ (Builtin.append_ ts ty #[.slice base sLen sCap, x']).run PP w = .ok (.slice (some ⟨w.heap.size, 0, none⟩) (sLen + n) cap) (w.drew.alloc (.cells ((old ++ new) ++ tail).toArray e)) := by
 obtain ⟨r1, r2, r3⟩ := hr
 have hsz : (Go.sizeOf e).run PP w = .ok i.size w := by simp [Go.sizeOf, fu hi]
 have r4 := r3 w.drew rfl
 have o4 := ho w.drew rfl
 have hmax : ¬ (((sLen + n : Nat) : Int) > IntKind.i64.max ∧ (False ∨ i.bytes = 0)) := by
  intro ⟨hh, _⟩
  simp [IntKind.max, IntKind.bits, IntKind.signed] at hh
  omega
 have hfit : ¬ Builtin.nextslicecap (sLen + n) sCap * i.bytes > 2 ^ 48 := by
  have q1 : Builtin.nextslicecap (sLen + n) sCap * i.bytes ≤ 2 * (sLen + n) * i.bytes := Nat.mul_le_mul_right _ (nextslicecap_le (by omega))
  have q2 : 2 * (sLen + n) * i.bytes ≤ 800000 * 1000000 := Nat.mul_le_mul (by omega) h2
  omega
 refine ⟨grownCap w (sLen + n) sCap e, (Builtin.zeroCells z.cells (grownCap w (sLen + n) sCap e - (sLen + n))).toList, by simp [grownCap, Question.cut], ?_, ?_⟩
 ·have hge : sLen + n ≤ grownCap w (sLen + n) sCap e := by simp [grownCap, Question.cut]
  simp only [zP, hold, r2, Array.length_toList, Builtin.zeroCells, Array.size_map, Array.size_range, hzs, ← Nat.add_mul]
  congr 1
  omega
 unfold Builtin.append_
 simp only [h0, zL, List.getElem?_cons_zero, List.getElem?_cons_succ, zR, ab hu, zQ, hsz]
 have hch : ∀ q : Question, q = .appendCap (sLen + n) sCap e → (choose q).run PP w = .ok (grownCap w (sLen + n) sCap e) w.drew := by
  rintro q rfl
  simp [Question.forced, grownCap]
 have hfin : Result.ok (Value.slice (some ⟨w.drew.heap.size, 0, none⟩) (sLen + n) (grownCap w (sLen + n) sCap e)) { w.drew with heap := w.drew.heap.push (Obj.cells (old.toArray ++ new.toArray ++ Builtin.zeroCells z.cells (grownCap w (sLen + n) sCap e - (sLen + n))) e) } =
   Result.ok (Value.slice (some ⟨w.heap.size, 0, none⟩) (sLen + n) (grownCap w (sLen + n) sCap e)) (w.drew.alloc (.cells ((old ++ new) ++ (Builtin.zeroCells z.cells (grownCap w (sLen + n) sCap e - (sLen + n))).toList).toArray e)) := by
  have e1 : old.toArray ++ new.toArray ++ Builtin.zeroCells z.cells (grownCap w (sLen + n) sCap e - (sLen + n)) = ((old ++ new) ++ (Builtin.zeroCells z.cells (grownCap w (sLen + n) sCap e - (sLen + n))).toList).toArray := by
   apply Array.ext'
   simp
  rw [e1]
  rfl
 rcases akr hxt with hx | ⟨xt, d, hx, hxu, hd⟩
 ·simp only [hx, zR, zT, zQ, zF, if_false, r1, hroom, fu hi, hmax, hfit, hch _ rfl, run_askRoom, o4, r4, Bool.not_false, if_true, de hi hz, Go.newRow, run_newObj]
  exact hfin
 ·simp only [hx, zR, ab hxu, zQ]
  cases d <;> first
   | (exact absurd rfl (hd _))
   | (simp only [zR, zT, zQ, zF, if_false, r1, hroom, fu hi, hmax, hfit, hch _ rfl, run_askRoom, o4, r4, Bool.not_false, if_true, de hi hz, Go.newRow, run_newObj]
      exact hfin)
end
end Go.Ev
set_option linter.all false
namespace Go.Ev
variable [Gv]
section
variable {ρ : Env} {a : W} {w : World}
theorem WRel.drew (h : WRel ρ a w) : WRel ρ a w.drew := ⟨h.inj, h.dom, h.len, fun k kd g hk => let q := h.gho k kd g hk; ⟨q.root, q.rel, q.lt, q.sep, q.dis⟩⟩
theorem Adv.of_drew {ρ' : Env} {a' : W} {w' : World} (h : Adv ρ a w.drew ρ' a' w') : Adv ρ a w ρ' a' w' := ⟨h.rel, h.le, h.rng, h.nx, h.size, h.own, h.keep, h.frame, h.fts, h.os, h.tape, h.output⟩
theorem ka (hw : WRel ρ a w) {o : AObj} {obj : Obj} {f : K → AV} {v' : Value} {s : Sem Value} (ho : ORel ρ o (some obj)) (hf : ∀ (ρ' : Env) k, ρ' k = some w.heap.size → ρ'.sz k = Obj.cellCount obj → VRel ρ' (f k) v')
  (hs : s.run PP w = .ok v' (w.drew.alloc obj)) (hlo : ay o = none := by rfl) : VOK ρ a w s (kz o f a) := by
 obtain ⟨h, nx⟩ := a
 show VOK ρ (.mk h nx) w s (bc nx.isMax (.no 1) (.val (f nx) (.mk (bn nx o h) nx.succ)))
 rw [aa]
 split
 ·trivial
 ·rename_i hm
  have hm : nx.isMax = false := by simpa using hm
  intro fr
  have hfr : ρ nx = none := fr nx (zY _) (by simp only [W.nx_mk]; rw [K.succ_num hm]; omega)
  exact ⟨_, _, _, hs, hf _ _ (bp ρ nx _ _) (ml ρ nx _ _), Adv.of_drew (s5 hw.drew hfr hm ho hlo)⟩
theorem ra (hw : WRel ρ a w) (b : K) (hro : (ac b a.h).isRo = false) : Adv ρ a w ρ (wset b .none a) w := by
 rw [c8]
 have old : ∀ k, k ≠ b → ac k (bn b .none a.h) = ac k a.h := fun k hk => ak hk _ a.h
 have liv : ∀ k, ac k (bn b .none a.h) ≠ .none → k ≠ b := by
  rintro k hk rfl; rw [af] at hk; exact hk rfl
 refine ⟨⟨?_, ?_, ?_, ?_⟩, Env.le_refl ρ, fun _ => .inl rfl, zY _, zY _, ?_, fun k c hk hc => .inl ⟨k, by simp only [W.h_mk] at hk; rw [← old k (liv k hk)]; exact hk, hc⟩, fun _ _ _ => rfl, ?_, rfl, rfl, rfl⟩
 ·intro k l hk hl e
  simp only [W.h_mk] at hk hl
  have := hw.inj k l (by rw [← old k (liv k hk)]; exact hk) (by rw [← old l (liv l hl)]; exact hl) e
  simp only [W.h_mk]
  rw [old k (liv k hk), old l (liv l hl)]; exact this
 ·intro k hk
  simp only [W.h_mk] at hk ⊢
  have hb := liv k hk
  rw [old k hb] at hk ⊢
  exact hw.dom k hk
 ·intro k c arr t fz hk hc hx
  simp only [W.h_mk] at hk
  have hb := liv k hk
  rw [old k hb] at hk
  exact hw.len k c arr t fz hk hc hx
 ·intro k kd g hk
  simp only [W.h_mk] at hk
  have hb := liv k (be (n9 hk))
  rw [old k hb] at hk
  have q := hw.gho k kd g hk
  refine q.step rfl rfl (zY _) (fun _ _ => rfl) (fun l hl hlk => ?_) (fun l hl hlk => ?_)
  ·simp only [W.h_mk] at hl
   rw [old l (liv l hl)] at hl
   exact q.sep l hl hlk
  ·simp only [W.h_mk] at hl
   rw [old l (liv l (be hl))] at hl
   exact q.dis l hl hlk
 ·rintro c ⟨k, hk, hr, hc⟩
  simp only [W.h_mk] at hk hr hc
  have := liv k hk
  rw [old k this] at hk hr hc
  exact .inl ⟨k, hk, hr, hc⟩
 ·intro k _ hk
  refine ⟨rfl, ?_⟩
  simp only [W.h_mk]
  by_cases e : k = b
  ·subst e; rw [af]; rfl
  ·rw [old k e]; exact hk
theorem s7 {h : H4} {nx b : K} {c : Nat} {o : AObj} {obj : Obj} {w' : World} (hw : WRel ρ (.mk h nx) w) (hb : ac b h ≠ .none) (hr : (ac b h).isRo = false) (hc : ρ b = some c) (hf : ρ nx = none) (hm : nx.isMax = false)
  (ho : ORel ρ o (some obj)) (hx : w'.heap[c]? = some obj) (hs : w'.heap.size = w.heap.size) (hother : ∀ d, d ≠ c → w'.heap[d]? = w.heap[d]?)
  (h1 : w'.os = w.os) (h2 : w'.tape = w.tape) (h3 : w'.output = w.output) (hlb : ay (ac b h) = none) (hlo : ay o = none := by rfl) : Adv ρ (.mk h nx) w (upd ρ nx c (Obj.cellCount obj)) (.mk (bn nx o (bn b .none h)) nx.succ) w' := by
 have hle := ayh ρ nx c (Obj.cellCount obj) hf
 have hnb : nx ≠ b := by rintro rfl; rw [hf] at hc; cases hc
 have hnx : nx.succ.num = nx.num + 1 := K.succ_num hm
 have old : ∀ k, k ≠ nx → k ≠ b → ac k (bn nx o (bn b .none h)) = ac k h := fun k k1 k2 => by rw [ak k1, ak k2]
 have dead : ac b (bn nx o (bn b .none h)) = .none := by rw [ak (Ne.symm hnb), af]
 have key : ∀ k, ac k (bn nx o (bn b .none h)) ≠ .none → k ≠ nx → k ≠ b ∧ ac k h ≠ .none := by
  intro k hk k1
  have k2 : k ≠ b := by rintro rfl; exact hk dead
  rw [old k k1 k2] at hk
  exact ⟨k2, hk⟩
 have diff : ∀ k d, k ≠ b → ac k h ≠ .none → ρ k = some d → d ≠ c := by
  rintro k d k2 hk hd rfl
  exact k2 (hw.inj1 hk hb (.inr hr) (by rw [hd, hc]))
 have lh1 : ∀ k, ay (ac k (bn nx o (bn b .none h))) ≠ none → k ≠ nx ∧ k ≠ b ∧ ay (ac k h) = ay (ac k (bn nx o (bn b .none h))) := by
  intro k hk
  have k1 : k ≠ nx := by rintro rfl; rw [af, hlo] at hk; exact hk rfl
  have k2 := (key k (be hk) k1).1
  exact ⟨k1, k2, by rw [old k k1 k2]⟩
 refine ⟨⟨?_, ?_, ?_, ?_⟩, hle, ?_, ?_, by omega, ?_, ?_, ?_, ?_, h1, h2, h3⟩
 ·intro k l hk hl e
  simp only [W.h_mk] at hk hl
  by_cases k1 : k = nx
  ·by_cases l1 : l = nx
   ·left; rw [k1, l1]
   ·exfalso
    have ⟨l2, hl'⟩ := key l hl l1
    obtain ⟨d, hd, _⟩ := hw.dom l hl'
    rw [k1, bp, dx ρ l1, hd] at e
    injection e with e
    exact diff l d l2 hl' hd e.symm
  ·have ⟨k2, hk'⟩ := key k hk k1
   by_cases l1 : l = nx
   ·exfalso
    obtain ⟨d, hd, _⟩ := hw.dom k hk'
    rw [l1, bp, dx ρ k1, hd] at e
    injection e with e
    exact diff k d k2 hk' hd e
   ·have ⟨l2, hl'⟩ := key l hl l1
    rw [dx ρ k1, dx ρ l1] at e
    have := hw.inj k l hk' hl' e
    simp only [W.h_mk] at this ⊢
    rw [old k k1 k2, old l l1 l2]; exact this
 ·intro k hk
  simp only [W.h_mk] at hk ⊢
  by_cases k1 : k = nx
  ·subst k1
   exact ⟨c, bp ρ k _ _, by rw [af, hx]; exact ho.mono hle⟩
  ·have ⟨k2, hk'⟩ := key k hk k1
   rw [old k k1 k2]
   obtain ⟨d, hd, ho'⟩ := hw.dom k hk'
   exact ⟨d, by rw [dx ρ k1]; exact hd, by rw [hother d (diff k d k2 hk' hd)]; exact ho'.mono hle⟩
 ·intro k d arr t fz hk hd hxx
  simp only [W.h_mk] at hk
  by_cases k1 : k = nx
  ·subst k1
   rw [bp] at hd; injection hd with hd; subst hd
   rw [hx] at hxx; injection hxx with hxx
   rw [ml, hxx]; rfl
  ·have ⟨k2, hk'⟩ := key k hk k1
   rw [dx ρ k1] at hd
   rw [hother d (diff k d k2 hk' hd)] at hxx
   rw [az0 ρ k1]
   exact hw.len k d arr t fz hk' hd hxx
 ·intro k kd g hk
  simp only [W.h_mk] at hk
  obtain ⟨k1, k2, e⟩ := lh1 k (n9 hk)
  rw [← e] at hk
  have q := hw.gho k kd g hk
  refine q.step (dx ρ k1 _ _) rfl (by omega) (fun d hd => hother d ?_) ?_ ?_
  ·rintro rfl; exact q.sep b hb (Ne.symm k2) d hc hd
  ·intro l hl hlk d hd
   simp only [W.h_mk] at hl
   by_cases l1 : l = nx
   ·subst l1; rw [bp] at hd; injection hd with hd; subst hd; exact q.sep b hb (Ne.symm k2) c hc
   ·have ⟨l2, hl'⟩ := key l hl l1
    rw [dx ρ l1] at hd
    exact q.sep l hl' hlk d hd
  ·intro l hl hlk
   simp only [W.h_mk] at hl
   obtain ⟨_, _, e'⟩ := lh1 l hl
   exact q.dis l (by show ay (ac l h) ≠ none; rw [e']; exact hl) hlk
 ·intro k
  by_cases k1 : k = nx
  ·subst k1; right; simp only [W.nx_mk]; omega
  ·left; exact dx ρ k1 _ _
 ·simp only [W.nx_mk]; omega
 ·rintro d ⟨k, hk, hr', hd⟩
  simp only [W.h_mk] at hk hr' hd
  by_cases k1 : k = nx
  ·subst k1
   rcases hd with hd | ⟨hd, _⟩
   ·rw [bp] at hd; injection hd with hd; subst hd; exact .inl ⟨b, hb, hr, .inl hc⟩
   ·rw [af, hlo] at hd; exact absurd rfl hd
  ·have ⟨k2, hk'⟩ := key k hk k1
   rw [old k k1 k2] at hr' hd
   rw [dx ρ k1] at hd
   exact .inl ⟨k, hk', hr', hd⟩
 ·intro k d hk hd
  simp only [W.h_mk] at hk
  by_cases k1 : k = nx
  ·subst k1; rw [bp] at hd; injection hd with hd; subst hd; exact .inl ⟨b, hb, hc⟩
  ·have ⟨k2, hk'⟩ := key k hk k1
   rw [dx ρ k1] at hd
   exact .inl ⟨k, hk', hd⟩
 ·intro d _ hd
  exact hother d fun e => hd ⟨b, hb, hr, .inl (by rw [e]; exact hc)⟩
 ·intro k hk hl
  simp only [W.h_mk, W.nx_mk] at hk hl ⊢
  have k1 : k ≠ nx := by rintro rfl; omega
  refine ⟨rfl, ?_⟩
  by_cases k2 : k = b
  ·subst k2; rw [dead]; rfl
  ·rw [old k k1 k2]; exact hl
theorem oq {e : TypeId} {n : Nat} (h : (d7 e).map (·.bytes) = some n) : ∃ i, PP.info? e = some i ∧ i.bytes = n := by
 cases hi : d7 e with
 | none => rw [hi] at h; cases h
 | some i => rw [hi] at h; exact ⟨i, dg hi, by simpa using h⟩
theorem w8 (hw : WRel ρ a w) {e : TypeId} {l : List AV} {l' : List Value} {n size bytes : Nat} {s : Sem Value} (hl : VRels ρ l l')
  (hs : n ≤ 60000 → bytes ≤ 1000000 → ∃ (cap : Nat) (tail : List Value), n ≤ cap ∧ (l' ++ tail).length = cap * size ∧ s.run PP w = .ok (.slice (some ⟨w.heap.size, 0, none⟩) n cap) (w.drew.alloc (.cells (l' ++ tail).toArray e))) : VOK ρ a w s (ais e l n size bytes a) := by
 unfold ais
 rw [aa, ao]
 split <;> try trivial
 rename_i hc
 simp only [zU] at hc
 obtain ⟨⟨h1, h2⟩, h3⟩ := hc
 have h1 := zE h1
 obtain ⟨cap, tail, q1, q3, q2⟩ := hs (zE h2) (zE h3)
 refine ka hw (oc hl (by omega) (by intro h; cases h)) ?_ q2
 intro ρ' k hk hsz
 simp only [VRel, SlOk]
 refine ⟨_, cap, hk, ⟨zY _, q1⟩, ?_, rfl⟩
 rw [hsz]
 simp only [Obj.cellCount, List.size_toArray, q3, Nat.zero_add, zY]
theorem ay0 (hw : WRel ρ a w) {t ty e : TypeId} {ts : Array TypeId} {i : TypeInfo} {z : Value} {b : K} {c len n cap' : Nat} {x' : Value} {new : List AV} {new' : List Value} (h0 : ts[0]? = some t) (hxt : y9 ts[1]? = true) (hu : al t = some (.slice e))
  (hi : PP.info? e = some i) (hz : i.zero = some z) (hzs : z.cells.size = i.size) (hr : om w i.size n x' new') (hn : VRels ρ new new') (hc : ρ b = some c) (hcap : 0 + cap' * i.size ≤ ρ.sz b) :
  VOK ρ a w (Builtin.append_ ts ty #[.slice (some ⟨c, 0, none⟩) len cap', x']) (ayz e b len n i.size i.bytes new a) := by
 unfold ayz
 split <;> try trivial
 rename_i t' size' fl fh cs hg
 rw [aa]
 split <;> try trivial
 rename_i hcond
 simp only [zU] at hcond
 obtain ⟨⟨⟨⟨⟨⟨⟨⟨p1, p2⟩, p3⟩, p4⟩, p5⟩, p6⟩, p7⟩, p8⟩, p9⟩ := hcond
 obtain rfl := zW p1
 have p2 := zE p2
 have p3 := zE p3
 have p5 := zE p5
 have p6 := zE p6
 have p7 := zE p7
 rw [ao] at p4 p8
 have p8 := zW p8
 obtain ⟨arr, fz, e1, e2, e3, e4, e5, e6⟩ := hw.block hg (by simp) hc
 have hlen := VRels.length _ _ hn
 have hsum : len * i.size + new.length = (len + n) * i.size := by rw [p8, Nat.add_mul]
 have hcup := a0u cs ((len + n) * i.size) (by omega)
 have hcells : ∀ (arr2 : Array Value), (∀ j, j < len * i.size → ∃ v, arr2[j]? = some v ∧ VRel ρ (ou cs j) v) → (∀ j, j < new'.length → arr2[len * i.size + j]? = new'[j]?) →
   aq3 ρ ((len + n) * i.size) (kh new (len * i.size) (cup cs ((len + n) * i.size))) arr2 := by
  intro arr2 q1 q2 j hj
  rw [gc new (len * i.size) _ j (by omega) (by omega)]
  by_cases x : len * i.size ≤ j ∧ j - len * i.size < new.length
  ·rw [dif_pos x]
   obtain ⟨v, r1, r2⟩ := VRels.get _ _ hn (j - len * i.size) x.2
   refine ⟨v, ?_, r2⟩
   have := q2 (j - len * i.size) (by omega)
   rw [show len * i.size + (j - len * i.size) = j by omega] at this
   rw [this, r1]
  ·rw [dif_neg x]
   have hjl : j < len * i.size := by omega
   rw [ard cs _ j (by omega)]
   exact q1 j hjl
 by_cases hroom : len + n ≤ cap'
 ·have hrun := eo (w := w) (base := some ⟨c, 0, none⟩) (sLen := len) (sCap := cap') (ty := ty) h0 hxt hu hi hr hroom
  have hfit : len * i.size + new'.length ≤ arr.size := by
   have q1 := hw.len b c arr t' fz (by rw [← ar, hg]; simp) hc e1
   have q2 : (len + n) * i.size ≤ cap' * i.size := Nat.mul_le_mul_right _ hroom
   omega
  obtain ⟨w', arr', r1, r2, r3, r4, r5, r6, r7, r8, r9⟩ := lf c (len * i.size) t' fz new' 0 w arr e1 (by omega)
   (fun j x y => qt p4 e5 j (by omega) (by omega)) (pw new new' p9 hn)
  have hsz := hw.len b c arr t' fz (by rw [← ar, hg]; simp) hc e1
  obtain ⟨h, nx⟩ := a
  rw [c8]
  show VOK ρ (.mk h nx) w _ (bc nx.isMax (.no 1) (.val _ (.mk (bn nx _ (bn b .none h)) nx.succ)))
  rw [aa]
  split
  ·trivial
  ·rename_i hm
   have hm : nx.isMax = false := by simpa using hm
   intro fr
   have hfr : ρ nx = none := fr nx (zY _) (by simp only [W.nx_mk]; rw [K.succ_num hm]; omega)
   have hg' : ac b h = .cells t' size' true fl fh cs := by rw [← hg, ar]; rfl
   refine ⟨upd ρ nx c (Obj.cellCount (.cells arr' t' fz)), w', .slice (some ⟨c, 0, none⟩) (len + n) cap', ?_, ?_, ?_⟩
   ·rw [hrun]
    simp only [ba, Nat.zero_add, r1, zQ]
   ·simp only [VRel, SlOk]
    refine ⟨c, cap', bp ρ nx c _, ⟨zY _, hroom⟩, ?_, rfl⟩
    show 0 + cap' * i.size ≤ (upd ρ nx c (Obj.cellCount (.cells arr' t' fz))).sz nx
    rw [ml]
    show 0 + cap' * i.size ≤ arr'.size
    omega
   ·refine s7 (obj := .cells arr' t' fz) hw (by rw [hg']; simp) (by rw [hg']; rfl) hc hfr hm ?_ r2 r5 r6 r7 r8 r9 (by rw [hg']; rfl)
    refine ⟨arr', fz, rfl, by omega, (by intro h; cases h), by rw [cx]; omega, e5, ?_⟩
    apply hcells
    ·intro j hj
     rw [r4 j, if_neg (by omega)]
     exact e6 j (by omega)
    ·intro j hj
     rw [r4 (len * i.size + j), if_pos (by omega)]
     congr 1
     omega
 ·obtain ⟨old, o1, o2, o3⟩ := nf (i := 0) (n := len * i.size) e6 (by omega)
  have ho : ∀ W : World, W.heap = w.heap → (Builtin.firstCells i.size len (.slice (some ⟨c, 0, none⟩) len cap')).run PP W = .ok old.toArray W := by
   intro W hW
   simp only [Builtin.firstCells]
   exact fq o1 (fun j v hj => by rw [k8 hW, df e1]; exact o3 j v hj)
  obtain ⟨cap, tail, q1, q3, q2⟩ := ej (w := w) (ty := ty) h0 hxt hu hi hz hr ho hroom (by omega) p7 o1 hzs
  have hkill := ra hw b (by rw [← ar, hg]; rfl)
  have hk := ka (a := wset b .none a) (ρ := ρ) (f := fun b => .slice b 0 (len + n) (len + n) (some i.size)) (o := .cells t' ((len + n) * i.size) true fl fh (kh new (len * i.size) (cup cs ((len + n) * i.size)))) hkill.rel
   (obj := .cells ((old ++ new') ++ tail).toArray t') (v' := .slice (some ⟨w.heap.size, 0, none⟩) (len + n) cap) ?_ ?_ q2
  ·cases hres : kz (.cells t' ((len + n) * i.size) true fl fh (kh new (len * i.size) (cup cs ((len + n) * i.size)))) (fun b => .slice b 0 (len + n) (len + n) (some i.size)) (wset b .none a) with
   | val v a' =>
     rw [hres] at hk
     intro fr
     obtain ⟨ρ', w', v', r1, r2, r3⟩ := hk (by rw [c8]; exact fr)
     exact ⟨ρ', w', v', r1, r2, hkill.trans r3⟩
   | no => trivial
   | _ => rw [hres] at hk; exact hk
  ·refine ⟨_, _, rfl, by simp; omega, (by intro h; cases h), by rw [cx]; omega, ⟨zY _, fun j h1 h2 => by simp at h1 h2⟩, ?_⟩
   apply hcells
   ·intro j hj
    obtain ⟨v, r1, r2⟩ := e6 j (by omega)
    refine ⟨v, ?_, r2⟩
    have hoj : old[j]? = some v := by
     have := (zK (l := old) (i := j) (by omega))
     have h' := o3 j _ this
     rw [Nat.zero_add, r1] at h'
     rw [this, h']
    simp [List.getElem?_append_left (show j < old.length by omega), hoj]
   ·intro j hj
    simp only [zL, List.append_assoc]
    rw [List.getElem?_append_right (by omega), List.getElem?_append_left (by omega)]
    congr 1
    omega
  ·intro ρ' k hk hsz
   simp only [VRel, SlOk]
   refine ⟨_, cap, hk, ⟨zY _, q1⟩, ?_, rfl⟩
   rw [hsz]
   simp only [Obj.cellCount, List.size_toArray, q3, Nat.zero_add, zY]
theorem asm (hw : WRel ρ a w) {t tn ty : TypeId} {kq : IntKind} {k : Nat} : VOK ρ a w (Builtin.append_ #[t, tn] ty #[.slice none 0 0, .int kq (Int.ofNat k)]) (td t tn k a) := by
 unfold td
 split <;> try trivial
 rename_i e kn hu hun
 split <;> try trivial
 rename_i size bytes z hsize hbytes hz
 obtain ⟨i, z', hi, hz', rfl⟩ := b9 hz
 obtain ⟨i1, hi1, rfl⟩ := j8 hsize
 obtain ⟨i2, hi2, rfl⟩ := oq hbytes
 rw [hi] at hi1; cases hi1
 rw [hi] at hi2; cases hi2
 rw [aa]
 split <;> try trivial
 rename_i hc
 simp only [zU, ao] at hc
 obtain ⟨⟨⟨⟨⟨c1, c2⟩, c3⟩, c4⟩, c5⟩, c6⟩ := hc
 have c2 := zW c2
 have c3 : 0 < k := zE c3
 have c4 : 0 < i.size := zE c4
 have c5 := zE c5
 have c6 := zE c6
 have hcz := cb (di ρ z') (dz c1)
 have hlen := VRels.length _ _ hcz
 simp only [Array.length_toList] at hlen
 have hrel : VRels ρ (repeatL (cellsOf (ofV z')) k) (Builtin.zeroCells z'.cells k).toList := uh hcz k (k * z'.cells.size) (by rw [hlen])
 have q : k * i.bytes ≤ 60000 * 1000000 := Nat.mul_le_mul c5 c6
 refine w8 hw hrel fun _ _ => ⟨grownCap w k 0 e, (Builtin.zeroCells z'.cells (grownCap w k 0 e - k)).toList, grownCap_ge w k 0 e, ?_, ?_⟩
 ·have := grownCap_ge w k 0 e
  simp only [zP, Array.length_toList, Builtin.zeroCells, Array.size_map, Array.size_range, ← Nat.add_mul]
  rw [hlen, c2]
  congr 1
  omega
 ·have := Lib.run_append_nil_zeros (P := PP) w t tn ty e i z' kq kn (bi hu) (bi hun) hi hz' k c3 c4 (by omega) (by omega)
  rw [show (Int.ofNat k) = (k : Int) from rfl, this]
  congr 3
  apply Array.toList_inj.1
  simp
theorem apr (hw : WRel ρ a w) {t tn ty : TypeId} {kq : IntKind} {k cap c off : Nat} (hcap : cap < k) : VOK ρ a w (Builtin.append_ #[t, tn] ty #[.slice (some ⟨c, off, none⟩) 0 cap, .int kq (Int.ofNat k)]) (td t tn k a) := by
 unfold td
 split <;> try trivial
 rename_i e kn hu hun
 split <;> try trivial
 rename_i size bytes z hsize hbytes hz
 obtain ⟨i, z', hi, hz', rfl⟩ := b9 hz
 obtain ⟨i1, hi1, rfl⟩ := j8 hsize
 obtain ⟨i2, hi2, rfl⟩ := oq hbytes
 rw [hi] at hi1; cases hi1
 rw [hi] at hi2; cases hi2
 rw [aa]
 split <;> try trivial
 rename_i hc
 simp only [zU, ao] at hc
 obtain ⟨⟨⟨⟨⟨c1, c2⟩, c3⟩, c4⟩, c5⟩, c6⟩ := hc
 have c2 := zW c2
 have c3 : 0 < k := zE c3
 have c4 : 0 < i.size := zE c4
 have c5 := zE c5
 have c6 := zE c6
 have hcz := cb (di ρ z') (dz c1)
 have hlen := VRels.length _ _ hcz
 simp only [Array.length_toList] at hlen
 have hrel : VRels ρ (repeatL (cellsOf (ofV z')) k) (Builtin.zeroCells z'.cells k).toList := uh hcz k (k * z'.cells.size) (by rw [hlen])
 have q : k * i.bytes ≤ 60000 * 1000000 := Nat.mul_le_mul c5 c6
 refine w8 hw hrel fun _ _ => ⟨grownCap w (0 + k) cap e, (Builtin.zeroCells z'.cells (grownCap w (0 + k) cap e - (0 + k))).toList, by have := grownCap_ge w (0 + k) cap e; omega, ?_, ?_⟩
 ·have := grownCap_ge w (0 + k) cap e
  simp only [zP, Array.length_toList, Builtin.zeroCells, Array.size_map, Array.size_range, ← Nat.add_mul]
  rw [hlen, c2]
  congr 1
  omega
 ·have hfit : Builtin.nextslicecap (0 + k) cap * i.bytes ≤ 281474976710656 := by
   have q1 : Builtin.nextslicecap (0 + k) cap * i.bytes ≤ 2 * (0 + k) * i.bytes := Nat.mul_le_mul_right _ (nextslicecap_le (by omega))
   have q2 : 2 * (0 + k) * i.bytes ≤ 120000 * 1000000 := Nat.mul_le_mul (by omega) c6
   omega
  have := Lib.run_append_grow_zeros (P := PP) w t tn ty e i z' kq kn (bi hu) (bi hun) hi hz' (some ⟨c, off, none⟩) 0 cap [] (by
   simp only [Builtin.firstCells]; exact fq (by simp) (fun j v hj => by simp at hj)) k c3 c4 (by omega) (by omega) (by omega) hfit
  rw [show (Int.ofNat k) = (k : Int) from rfl, this]
  congr 3
  ·omega
  ·apply Array.toList_inj.1
   simp
theorem aqd {n m : Nat} (hm : m < 256 ^ n) : om w 1 n (.string (ap n m)) ((aq n m).map fun b => Value.int .u8 b.toNat) := by
 refine ⟨by simp only [Builtin.lenOf, cg], by simp [aj], fun W _ => ?_⟩
 simp only [Builtin.firstCells, zT]
 congr 1
 have e : (ap n m).extract 0 n = ap n m := by
  have := np n m 0 n (Nat.zero_le _) (zY _)
  rw [this]
  congr 1
  rw [ll]
  simp [Nat.mod_eq_of_lt hm]
 rw [e]
 unfold ap
 simp
theorem ajr (hw : WRel ρ a w) {t ty e : TypeId} {ts : Array TypeId} {i : TypeInfo} {z : Value} {s x : AV} {s' x' : Value} (h0 : ts[0]? = some t) (hxt : y9 ts[1]? = true) (hu : al t = some (.slice e))
  (hi : PP.info? e = some i) (hz : i.zero = some z) (hs1 : i.size = 1) (hzs : z.cells.size = i.size) (hs : VRel ρ s s') (hx : VRel ρ x x') : VOK ρ a w (Builtin.append_ ts ty #[s', x']) (acv e s x i.bytes a) := by
 unfold acv
 split <;> try trivial
 rename_i l m
 simp only [VRel] at hx
 obtain ⟨hm, rfl⟩ := hx
 have hr : om w i.size l (.string (ap l m)) ((aq l m).map fun b => Value.int .u8 b.toNat) := by rw [hs1]; exact aqd hm
 have hlen : ((aq l m).map fun b => Value.int .u8 b.toNat).length = l := by simp [aj]
 split <;> try trivial
 ·simp only [VRel] at hs; subst hs
  rw [aa]
  split <;> try trivial
  rename_i hc
  simp only [zU] at hc
  obtain ⟨⟨c1, c2⟩, c3⟩ := hc
  have c1 := zE c1
  have c2 := zE c2
  have c3 : 0 < l := zE c3
  obtain ⟨cap, tail, q1, q2, q3⟩ := ej (w := w) (ty := ty) (base := none) (sLen := 0) (sCap := 0) (old := []) h0 hxt hu hi hz hr (fun W _ => by simp [Builtin.firstCells]) (by omega) (by omega) c2 (by simp) hzs
  simp only [Nat.zero_add, zD] at q1 q2 q3
  rw [hs1] at q2
  refine ka hw (v' := .slice (some ⟨w.heap.size, 0, none⟩) l cap) ?_ ?_ q3
  ·refine ⟨_, _, rfl, ?_, ⟨zY _, fun j h1 h2 => by simp at h1 h2⟩, hm, fun j b hb => ?_⟩
   ·simp only [List.size_toArray, q2]; omega
   ·have hj : j < (aq l m).length := (List.getElem?_eq_some_iff.1 hb).1
    simp only [zL]
    rw [List.getElem?_append_left (by simpa using hj), List.getElem?_map, hb]
    rfl
  ·intro ρ' k hk hsz
   simp only [VRel, SlOk]
   refine ⟨_, cap, hk, ⟨zY _, q1⟩, ?_, rfl⟩
   rw [hsz]
   simp only [Obj.cellCount, List.size_toArray, q2]
   omega
 ·rename_i b off len cap es
  split <;> try trivial
  rename_i t' len' m' fl fh hg
  simp only [VRel] at hs
  obtain ⟨c, cap', hc, ⟨hl, hcap⟩, hex, rfl⟩ := hs
  rw [aa]
  split <;> try trivial
  rename_i hcc
  simp only [zU] at hcc
  obtain ⟨⟨⟨⟨p0, p1⟩, p2⟩, p3⟩, p4⟩ := hcc
  obtain rfl := zW p0
  obtain rfl := zW p1
  obtain rfl := zW p2
  have p3 := zE p3
  obtain ⟨arr, fz, e1, e2, e5, e6, e7⟩ := hw.block hg (by simp) hc
  have hsz := hw.len b c arr t' fz (by rw [← ar, hg]; simp) hc e1
  have hfit : len + l ≤ arr.size := by simp only [SlOk] at hex; omega
  have hrun := eo (w := w) (base := some ⟨c, 0, none⟩) (sLen := len) (sCap := cap') (ty := ty) h0 hxt hu hi hr (by omega)
  obtain ⟨w', arr', r1, r2, r3, r4, r5, r6, r7, r8, r9⟩ := lf c len t' fz ((aq l m).map fun b => Value.int .u8 b.toNat) 0 w arr e1 (by omega)
   (fun j x y => qt p4 e5 j (by omega) (by omega)) (by
     intro v hv
     obtain ⟨b, _, rfl⟩ := List.mem_map.1 hv
     rfl)
  intro _
  refine ⟨ρ, w', .slice (some ⟨c, 0, none⟩) (len + l) cap', ?_, by simp only [VRel]; exact ⟨c, cap', hc, ⟨p3, hcap⟩, hex, rfl⟩, ?_⟩
  ·rw [hrun, hs1]
   simp only [ba, Nat.zero_add, Nat.mul_one, r1, zQ]
  ·refine s6 (c := c) (obj := .cells arr' t' fz) hw (by rw [← ar, hg]; simp) (by rw [← ar, hg]; rfl) hc ?_ (by simp) ?_ r2 r5 r6 r7 r8 r9 (by rw [← ar, hg]; rfl)
   ·refine ⟨arr', fz, rfl, by omega, e5, arc _ _ _ _ e6 hm, fun j y hy => ?_⟩
    have hcat : aq (len + l) (m' * 256 ^ l + m) = aq len m' ++ aq l m := nv _ _ _ _ hm
    have hy : (aq (len + l) (m' * 256 ^ l + m))[j]? = some y := hy
    rw [hcat] at hy
    rw [r4 j]
    by_cases hj : j < len
    ·rw [if_neg (by omega)]
     rw [List.getElem?_append_left (by rw [aj]; exact hj)] at hy
     exact e7 j y hy
    ·rw [List.getElem?_append_right (by rw [aj]; omega), aj] at hy
     have hjl : j - len < l := by have := (List.getElem?_eq_some_iff.1 hy).1; rw [aj] at this; exact this
     rw [if_pos (by omega), List.getElem?_map, Nat.add_zero, hy]
     rfl
   ·intro x y z q; cases q; omega
theorem aox (hw : WRel ρ a w) {t ty : TypeId} {ts : Array TypeId} {s x : AV} {s' x' : Value} (h0 : ts[0]? = some t) (hs : VRel ρ s s') (hx : VRel ρ x x') : VOK ρ a w (Builtin.append_ ts ty #[s', x']) (abs t ts[1]? s x a) := by
 unfold abs
 rw [aa]
 split <;> try trivial
 rename_i hxt
 split <;> try trivial
 rename_i e hu
 split <;> try trivial
 rename_i size bytes z hsize hbytes hz
 obtain ⟨i, z', hi, hz', rfl⟩ := b9 hz
 obtain ⟨i1, hi1, rfl⟩ := j8 hsize
 obtain ⟨i2, hi2, rfl⟩ := oq hbytes
 rw [hi] at hi1; cases hi1
 rw [hi] at hi2; cases hi2
 rw [aa]
 split <;> try trivial
 rename_i hzc
 simp only [zU, ao] at hzc
 have hzs : z'.cells.size = i.size := by
  have := VRels.length _ _ (cb (di ρ z') (dz hzc.1))
  have h2 := zW hzc.2
  simp only [Array.length_toList] at this
  omega
 rw [aa]
 split
 ·rename_i hpk
  simp only [zU] at hpk
  have hs1 := zW hpk.2
  exact ajr hw h0 hxt hu hi hz' hs1 hzs hs hx
 rename_i hnpk
 clear hnpk
 split <;> try trivial
 rename_i n new hsrc
 obtain ⟨new', hr, hn⟩ := mj hw hsrc hx
 rw [aa]
 split
 ·rename_i hn0
  have hn0 := zW hn0
  subst hn0
  have hnil : new' = [] := List.eq_nil_of_length_eq_zero (by rw [hr.2.1]; simp)
  unfold ze
  split
  ·simp only [VRel] at hs; subst hs
   have := eo (w := w) (base := none) (sLen := 0) (sCap := 0) (ty := ty) h0 hxt hu hi hr (zY _)
   exact VOK.here hw this (by simp only [VRel])
  ·rename_i b off len cap ex
   simp only [VRel] at hs
   obtain ⟨c, cap', hc, ⟨hl, hcap⟩, hex, rfl⟩ := hs
   have := eo (w := w) (base := some ⟨c, off, none⟩) (sLen := len) (sCap := cap') (ty := ty) h0 hxt hu hi hr (by omega)
   refine VOK.here hw (v' := .slice (some ⟨c, off, none⟩) len cap') ?_ (by simp only [VRel]; exact ⟨c, cap', hc, ⟨hl, hcap⟩, hex, rfl⟩)
   rw [this, hnil]
   rfl
  ·trivial
 ·rename_i hn0
  split
  ·simp only [VRel] at hs; subst hs
   refine w8 hw hn fun h1 h2 => ?_
   have hne : n ≠ 0 := fun e => hn0 (by rw [e]; rfl)
   obtain ⟨cap, tail, q1, q2, q3⟩ := ej (w := w) (ty := ty) (base := none) (sLen := 0) (sCap := 0) (old := []) h0 hxt hu hi hz' hr (fun W _ => by simp [Builtin.firstCells]) (by omega) (by omega) h2 (by simp) hzs
   simp only [Nat.zero_add, zD] at q1 q2 q3
   exact ⟨cap, tail, q1, q2, q3⟩
  ·rename_i b off len cap ex
   simp only [VRel] at hs
   obtain ⟨c, cap', hc, ⟨hl, hcap⟩, hex, rfl⟩ := hs
   rw [aa]
   split
   ·rename_i hroom
    have hroom := zE hroom
    split <;> try trivial
    rename_i o ho
    obtain ⟨w', r1, r2⟩ := vd hw hc ho hn
    have := eo (w := w) (base := some ⟨c, off, none⟩) (sLen := len) (sCap := cap') (ty := ty) h0 hxt hu hi hr (by omega)
    intro _
    refine ⟨ρ, w', .slice (some ⟨c, off, none⟩) (len + n) cap', ?_, by simp only [VRel]; exact ⟨c, cap', hc, ⟨hroom, hcap⟩, hex, rfl⟩, r2⟩
    rw [this]
    simp only [ba, r1, zQ]
   ·rename_i hroom
    have hroom : ¬ len + n ≤ cap := fun h => hroom (Nat.ble_eq_true_of_le h)
    split
    ·simp only [SlOk] at hex
     split <;> try trivial
     rename_i old hold
     obtain ⟨old', q1, q2, q3⟩ := j7 hold (hw.block rfl (lc hold) hc)
     refine w8 hw (VRels.append _ _ _ _ q2 hn) fun h1 h2 => ?_
     exact ej (w := w) (ty := ty) (base := some ⟨c, off, none⟩) (sLen := len) (sCap := cap') h0 hxt hu hi hz' hr
      (fun W hW => by simp only [Builtin.firstCells]; exact fq q1 (fun j v hj => by rw [k8 hW]; exact q3 j v hj)) (by omega) (by omega) h2 q1 hzs
    ·rename_i es
     rw [aa]
     split <;> try trivial
     rename_i hc2
     simp only [zU] at hc2
     obtain rfl := zW hc2.1
     obtain rfl := zW hc2.2
     simp only [SlOk] at hex
     exact ay0 hw h0 hxt hu hi hz' hzs hr hn hc hex
  ·trivial
end
end Go.Ev
set_option linter.all false
namespace Go.Ev
variable [Gv]
section
variable {ρ : Env} {a : W} {w : World}
theorem agx (hw : WRel ρ a w) {t : TypeId} {l c : AV} {l' c' : Value} (hl : VRel ρ l l') (hc : VRel ρ c c') : VOK ρ a w (Instr.makeSlice t l' c') (rv t l c a) := by
 unfold rv
 split <;> try trivial
 rename_i e hu
 split <;> try trivial
 rename_i ln cn z bytes size h1 h2 hz hbs
 obtain ⟨k1, rfl⟩ := j5 h1 hl
 obtain ⟨k2, rfl⟩ := j5 h2 hc
 obtain ⟨i, z', hi, hz', rfl⟩ := b9 hz
 have hb : i.bytes = bytes ∧ i.size = size := by
  cases hio : d7 e with
  | none => rw [hio] at hbs; cases hbs
  | some j =>
    rw [hio] at hbs
    have := dg hio
    rw [hi] at this; cases this
    simp at hbs; exact hbs
 obtain ⟨rfl, rfl⟩ := hb
 rw [aa]
 split <;> try trivial
 rename_i hcond
 simp only [zU, ao] at hcond
 obtain ⟨⟨⟨⟨⟨p1, p2⟩, p3⟩, p4⟩, p5⟩, p6⟩ := hcond
 have p1 := zE p1
 have p2 := zE p2
 have p3 := zE p3
 have p5 := zW p5
 have p6 := zE p6
 have hcz := cb (di ρ z') (dz p4)
 have hlen := VRels.length _ _ hcz
 simp only [Array.length_toList] at hlen
 have hrel := uh hcz cn (cn * i.size) (by rw [p5])
 have wr : ∀ m : Nat, m ≤ 60000 → IntKind.i64.wrap (Int.ofNat m) = Int.ofNat m := fun m hm => qu .i64 m (by simp only [xm]; omega)
 refine ue hw (obj := .cells ((Array.range (cn * i.size)).map (z'.cells[· % z'.cells.size]!)) e) (f' := fun c => .slice (some ⟨c, 0, none⟩) ln cn) ?_ ?_ ?_
 ·have := oc (t := e) (tail := []) (ext := false) hrel (by rw [il, p5]; exact p6) (fun _ => rfl)
  rw [List.append_nil, Array.toArray_toList] at this
  exact this
 ·intro ρ' k c hk; simp only [VRel, SlOk]; exact ⟨c, cn, hk, ⟨p1, zY _⟩, rfl, rfl⟩
 ·have big : ∀ m : Nat, m ≤ 60000 → ((Int.ofNat m < 0) || decide ((i.bytes : Int) * Int.ofNat m > 2 ^ 48)) = false := by
   intro m hm
   have q : i.bytes * m ≤ 1000000 * 60000 := Nat.mul_le_mul p3 hm
   have q' : (i.bytes : Int) * Int.ofNat m = ((i.bytes * m : Nat) : Int) := by rw [Int.natCast_mul]; rfl
   rw [q', Bool.or_eq_false_iff]
   exact ⟨by simp, by rw [decide_eq_false_iff_not]; omega⟩
  have hlc : ¬ Int.ofNat ln > Int.ofNat cn := by simp; omega
  have hl0 : ¬ Int.ofNat ln < 0 := by simp
  simp only [Instr.makeSlice, zR, ab hu, zQ, asInt, asIntOf, zT, fu hi, wr ln (by omega), wr cn p2, big cn p2, hl0, hlc, decide_false, Bool.or_self, zF, if_false, run_askRoom]
  have hsz : ∀ W, (Go.sizeOf e).run PP W = .ok i.size W := fun W => by simp [Go.sizeOf, fu hi]
  simp only [hsz, zQ]
  by_cases h0 : cn * i.size = 0
  ·have hr : ∀ z : Array Value, ((Array.range (cn * i.size)).map (z[· % z.size]!)) = #[] := by intro z; rw [h0]; simp
   rw [hr]
   show Sem.run PP (if cn * i.size = 0 then _ else _) w = _
   rw [if_pos h0]
   simp only [zR, zT, zQ, Go.newRow, run_newObj]
   show Result.ok _ (w.alloc (.cells ((Array.range (cn * i.size)).map _) e)) = _
   rw [hr]; rfl
  ·show Sem.run PP (if cn * i.size = 0 then _ else _) w = _
   rw [if_neg h0]
   simp only [zR, de hi hz', zT, zQ, Go.newRow, run_newObj]
   rfl
theorem a5g (hw : WRel ρ a w) {t ty : TypeId} {ts : Array TypeId} {x : AV} {x' : Value} (h0 : ts[0]? = some t) (hx : VRel ρ x x') : VOK ρ a w (Builtin.len_ ts ty #[x']) (aid t x a) := by
 unfold aid
 split
 ·rename_i hu
  simp only [VRel] at hx; obtain ⟨_, rfl⟩ := hx
  exact VOK.here hw (by simp only [Builtin.len_, h0, zL, List.getElem?_cons_zero, zR, ab hu, zQ, cg, zT]; rfl) (bh rfl)
 ·rename_i hu
  simp only [VRel] at hx; subst hx
  exact VOK.here hw (by simp only [Builtin.len_, h0, zL, List.getElem?_cons_zero, zR, ab hu, zQ, zT]; rfl) (bh rfl)
 ·rename_i hu
  simp only [VRel] at hx; obtain ⟨_, _, rfl⟩ := hx
  exact VOK.here hw (by simp only [Builtin.len_, h0, zL, List.getElem?_cons_zero, zR, ab hu, zQ, zT]; rfl) (bh rfl)
 ·rename_i hu
  simp only [VRel] at hx; obtain ⟨_, _, _, _, _, rfl⟩ := hx
  exact VOK.here hw (by simp only [Builtin.len_, h0, zL, List.getElem?_cons_zero, zR, ab hu, zQ, zT]; rfl) (bh rfl)
 ·rename_i hu
  simp only [VRel] at hx; obtain ⟨_, _, _, _, _, _, rfl⟩ := hx
  exact VOK.here hw (by simp only [Builtin.len_, h0, zL, List.getElem?_cons_zero, zR, ab hu, zQ, zT]; rfl) (bh rfl)
 ·rename_i hu
  simp only [VRel] at hx; obtain ⟨_, _, _, _, _, rfl⟩ := hx
  exact VOK.here hw (by simp only [Builtin.len_, h0, zL, List.getElem?_cons_zero, zR, ab hu, zQ, zT]; rfl) (bh rfl)
 ·rename_i hu
  exact VOK.here hw (by simp only [Builtin.len_, h0, zL, List.getElem?_cons_zero, zR, ab hu, zQ, zT]; rfl) (bh rfl)
 ·rename_i hu
  simp only [VRel] at hx; subst hx
  exact VOK.here hw (by simp only [Builtin.len_, h0, zL, List.getElem?_cons_zero, zR, ab hu, zQ, zT]; rfl) (bh rfl)
 ·rename_i k e b hu
  simp only [VRel] at hx; obtain ⟨c, hc, rfl⟩ := hx
  split <;> try trivial
  rename_i es hg
  obtain ⟨entries, clock, e1, e2⟩ := hw.block hg (by simp) hc
  have ac := bt (w := w) e1 (by simp)
  have hn : entries.size = bl es := by
   rw [ao]
   have : ∀ (es : List (AV × AV)) (ms : List MapEntry), ERel ρ es ms → ms.length = es.length := by
    intro es
    induction es with
    | nil => intro ms h; simp only [ERel] at h; subst h; rfl
    | cons e es ih => intro ms h; simp only [ERel] at h; obtain ⟨m, ms', rfl, _, _, h⟩ := h; simp [ih ms' h]
   have := this es _ e2
   simpa using this
  refine VOK.here hw (v' := .int .i64 (entries.size : Nat)) ?_ (bh (by rw [hn]; rfl))
  simp only [Builtin.len_, h0, zL, List.getElem?_cons_zero, zR, ab hu, zQ, ac, zT]; rfl
 ·trivial
theorem ala (hw : WRel ρ a w) {t : AV} {t' : Value} {i : Nat} (h : VRel ρ t t') : VOK ρ a w (Instr.extract t' i) (mn t i a) := by
 unfold mn
 split <;> try trivial
 rename_i vs
 simp only [VRel] at h
 obtain ⟨ys, rfl, h⟩ := h
 refine e9 hw fun v hv => ?_
 rw [oh] at hv
 obtain ⟨hlt, he⟩ := List.getElem?_eq_some_iff.1 hv
 obtain ⟨v', h1, h2⟩ := VRels.get vs _ h i hlt
 rw [he] at h2
 have h1' : ys[i]? = some v' := by simpa using h1
 exact ⟨v', by simp only [Instr.extract, h1', zT], h2⟩
theorem ad6 {t : TypeId} {d : TypeDesc} (hu : al t = some d) (h : me t = false) : ∀ ms, d ≠ .interface ms := by
 rintro ms rfl; unfold me at h; rw [hu] at h; cases h
theorem agw (hw : WRel ρ a w) {t : TypeId} {x : AV} {x' : Value} (h : VRel ρ x x') : VOK ρ a w (Instr.makeInterface t x') (bc (me t) (.no 164) (bc (al t).isSome (.val (.iface t x) a) (.no 164))) := by
 simp only [aa]
 split <;> try trivial
 rename_i hi
 split <;> try trivial
 rename_i hs
 obtain ⟨d, hu⟩ := Option.isSome_iff_exists.1 hs
 have hd := ad6 hu (by simpa using hi)
 refine VOK.here hw (v' := .iface t x') ?_ (by simp only [VRel]; exact ⟨x', rfl, h⟩)
 simp only [Instr.makeInterface, zR, ab hu, zQ]
 cases d <;> first | rfl | (exact absurd rfl (hd _))
theorem afs (hw : WRel ρ a w) {t : TypeId} {s : Sem Value} {c : Nat} (hs : ∀ i z, PP.info? t = some i → i.zero = some z → s.run PP w = .ok (.tuple #[z, .bool false]) w) :
  VOK ρ a w s (nk ((fy t).map fun z => .tuple [z, .bool false]) a c) := by
 refine e9 hw fun v hv => ?_
 simp only [zG] at hv
 obtain ⟨z, hz, rfl⟩ := hv
 obtain ⟨i, z', hi, hz', rfl⟩ := b9 hz
 refine ⟨_, hs i z' hi hz', ?_⟩
 simp only [VRel]
 refine ⟨_, rfl, ?_⟩
 simp only [VRels]
 exact ⟨_, _, rfl, di ρ z', _, _, rfl, by simp only [VRel], rfl⟩
end
end Go.Ev
set_option linter.all false
namespace Go.Ev
variable [Gv]
section
variable {ρ : Env} {a : W} {w : World}
theorem aiv (hw : WRel ρ a w) {v : AV} {v' : Value} {ok : Bool} {s : Sem Value} (h : VRel ρ v v') (hs : s.run PP w = .ok (if ok then .tuple #[v', .bool true] else v') w) :
  VOK ρ a w s (.val (if ok = true then .tuple [v, .bool true] else v) a) := by
 refine VOK.here hw hs ?_
 cases ok
 ·exact h
 ·show VRel ρ (.tuple [v, .bool true]) (.tuple #[v', .bool true])
  simp only [VRel]
  refine ⟨_, rfl, ?_⟩
  simp only [VRels]
  exact ⟨_, _, rfl, h, _, _, rfl, by simp only [VRel], rfl⟩
theorem aoz (hw : WRel ρ a w) {x : AV} {x' : Value} {xt t : TypeId} {ok : Bool} (h : VRel ρ x x') : VOK ρ a w (Instr.typeAssert x' xt t ok) (rr x t ok a) := by
 unfold rr
 simp only [aa]
 split
 ·simp only [VRel] at h; subst h
  split <;> try trivial
  rename_i hs
  obtain ⟨d, hu⟩ := Option.isSome_iff_exists.1 hs
  split <;> try trivial
  rename_i hok; subst hok
  refine afs hw fun i z hi hz => ?_
  simp only [Instr.typeAssert, zR, ab hu, zQ]
  cases d <;> simp only [if_true, zR, de hi hz, zQ, zT]
 ·rename_i dt v
  simp only [VRel] at h; obtain ⟨v', rfl, hv⟩ := h
  split <;> try trivial
  ·rename_i hA
   unfold aft at hA
   split at hA
   ·rename_i want hu
    rw [zG] at hA
    obtain ⟨i, hi, hm⟩ := hA
    have hi := dg hi
    have hf : me t = true := by unfold me; rw [hu]
    rw [hf, if_pos rfl]
    have hm : Instr.missingMethod want i.methods = none := by simpa using hm
    refine aiv hw (v := .iface dt v) (v' := .iface dt v') (by simp only [VRel]; exact ⟨v', rfl, hv⟩) ?_
    simp only [Instr.typeAssert, zR, ab hu, zQ, fu hi, hm, zT]
   ·rename_i d hne hu
    have hf : me t = false := by unfold me; rw [hu]; cases d <;> first | rfl | exact absurd rfl (hne _)
    rw [hf]
    simp only [zF, if_false]
    simp only [Option.some.injEq] at hA
    have hA := zW hA
    subst hA
    refine aiv hw hv ?_
    simp only [Instr.typeAssert, zR, ab hu, zQ]
    cases d <;> first | exact absurd rfl (hne _) | simp only [if_true, zT]
   ·cases hA
  ·rename_i hA
   split <;> try trivial
   rename_i hok; subst hok
   refine afs hw fun iz z hiz hz => ?_
   unfold aft at hA
   split at hA
   ·rename_i want hu
    rw [zG] at hA
    obtain ⟨i, hi, hm⟩ := hA
    have hi := dg hi
    cases hmm : Instr.missingMethod want i.methods with
    | none => rw [hmm] at hm; cases hm
    | some m => simp only [Instr.typeAssert, zR, ab hu, zQ, fu hi, hmm, if_true, de hiz hz, zT]
   ·rename_i d hne hu
    simp only [Option.some.injEq] at hA
    have hA : ¬ dt = t := by intro e; subst e; simp at hA
    simp only [Instr.typeAssert, zR, ab hu, zQ]
    cases d <;> first | exact absurd rfl (hne _) | simp only [hA, if_false, if_true, zR, de hiz hz, zQ, zT]
   ·cases hA
 ·trivial
theorem a3e (hw : WRel ρ a w) {c x y : AV} {c' x' y' : Value} (hc : VRel ρ c c') (hx : VRel ρ x x') (hy : VRel ρ y y') :
  VOK ρ a w (do pure (if ← asBool c' then x' else y')) (abu c x y a) := by
 unfold abu
 split <;> try trivial
 rename_i b
 simp only [VRel] at hc; subst hc
 refine VOK.here hw (v' := if b then x' else y') (by simp only [asBool, zR, zT, zQ]) ?_
 cases b
 ·exact hy
 ·exact hx
theorem al5 (hw : WRel ρ a w) {t : TypeId} {r : Option AV} {r' : Option Value} (hr : match r with | some x => ∃ x', r' = some x' ∧ VRel ρ x x' | none => r' = none) :
  VOK ρ a w (Instr.makeMap t r') (o5 t r a) := by
 have key : ∀ s : Sem Value, s.run PP w = (do pure (.map (some (← newObj (.map #[] 0)))) : Sem Value).run PP w → VOK ρ a w s (kz (.map []) .map a) := by
  intro s hs
  refine ue hw (obj := .map #[] 0) (f' := fun c => .map (some c)) ?_ ?_ ?_
  ·exact ⟨#[], 0, rfl, by simp only [ERel]⟩
  ·intro ρ' k c hk; simp only [VRel]; exact ⟨c, hk, rfl⟩
  ·rw [hs]; simp only [zR, run_newObj, zQ, zT]; rfl
 unfold o5
 split
 ·dsimp only at hr; subst hr
  exact key _ (by simp only [Instr.makeMap, zR, zQ, zT])
 ·dsimp only at hr; obtain ⟨x', rfl, hx⟩ := hr
  split <;> try trivial
  rename_i hu
  simp only [VRel] at hx; subst hx
  exact key _ (by simp only [Instr.makeMap, zR, ab hu, asInt, asIntOf, zQ, zT])
theorem ajc (hw : WRel ρ a w) {fn : Fn} {f c : List AV} {f' c' : Array Value} (hf : VRels ρ f f'.toList) (hc : VRels ρ c c'.toList) : VOK ρ a w (Instr.makeFunc fn f' c') (bc (aoe fn) (.val (.func fn f c) a) (.no 175)) := by
 rw [aa]
 split <;> try trivial
 rename_i hp
 refine VOK.here hw (v' := .func fn f' c') (by simp only [Instr.makeFunc, zT]) ?_
 simp only [VRel]; exact ⟨_, _, _, rfl, FnRel.refl (by rintro n rfl; cases hp), hf, hc⟩
theorem a0o (hw : WRel ρ a w) {t ty : TypeId} {ts : Array TypeId} {e : TypeId} {x' : Value} (h0 : ts[0]? = some t) (hu : al t = some (.slice e)) (hx : VRel ρ .nilSlice x') : VOK ρ a w (Builtin.cap_ ts ty #[x']) (.val (.int .i64 0) a) := by
 simp only [VRel] at hx; subst hx
 exact VOK.here hw (by simp only [Builtin.cap_, h0, zL, List.getElem?_cons_zero, zR, ab hu, zQ, zT]; rfl) (bh rfl)
end
end Go.Ev
