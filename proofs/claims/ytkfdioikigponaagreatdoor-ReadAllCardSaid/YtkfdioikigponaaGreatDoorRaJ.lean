import Derived.Test.YtkfdioikigponaaGreatDoorRaH
import Derived.Test.YtkfdioikigponaaGreatDoorEvGh
set_option maxRecDepth 100000
set_option linter.all false
namespace Go.Ev
abbrev aoy : AL := .g (.s 4) (.g (.s 3) .nil)
abbrev ayb : SE := .app 55 aoy
abbrev aj2 : List SA := [.mk true (.c 20000) (.len (.s 3)) false]
abbrev abu : SE := .app 54 aoy
abbrev a0g : List SA := [.mk false abu (.c 0) true]
abbrev avo : List SA := [.mk false abu (.c 0) false]
abbrev agq : SE := .bin 6 .i64 (.v 9) (.c 1)
abbrev ax1 : AL := .g (.s 5) (.i (.v 7) (.i (.v 8) .nil))
abbrev aqs : AL := .i agq ax1
abbrev axy : SE := .app 75 aqs
abbrev aza : SE := .app 76 aqs
abbrev w9 : List SA := [.mk true (.v 9) (.c (-1)) false, .mk true (.v 9) (.v 6) true, .mk true (.c 20000) (.v 6) false]
abbrev baj : SE := .app 74 aqs
abbrev a0b : List SA := [.mk false baj (.c 0) true]
abbrev ayv : List SA := [.mk false baj (.c 0) false]
abbrev ai2 : AL := .i (.c 2) ax1
abbrev bda : SE := .app 75 ai2
abbrev bck : SE := .app 76 ai2
abbrev a92 : SE := .app 74 ai2
abbrev bdh : List SA := [.mk false a92 (.c 0) true]
abbrev be6 : List SA := [.mk false a92 (.c 0) false]
abbrev agy : AL := .i (.v 6) ax1
abbrev a87 : SE := .app 75 agy
abbrev a89 : SE := .app 76 agy
abbrev amk : List SA := [.mk true (.v 6) (.c 1) false, .mk true (.c 20000) (.v 6) false]
abbrev ba4 : SE := .app 74 agy
abbrev a9b : List SA := [.mk false ba4 (.c 0) true]
abbrev bem : List SA := [.mk false ba4 (.c 0) false]
abbrev aiq : AL := .g (.s 0) (.i (.v 1) (.g .nil .nil))
abbrev uk : GE := .app 91 aiq
abbrev ayz : AL := .g (.s 5) (.g uk .nil)
abbrev an6 : SE := .rd (.s 5) (.c 1)
abbrev ax3 : SE := .app 91 aiq
abbrev aa5 : SE := .app 59 ayz
abbrev awk : List SA := [.mk false ax3 (.c 0) true, .mk false aa5 (.c 0) true]
abbrev ad5 : SE := .app 92 aiq
abbrev awi : List SA := [.mk false ax3 (.c 0) false]
abbrev az9 : List SA := [.mk false ax3 (.c 0) true, .mk false aa5 (.c 0) false]
abbrev ai5 : AL := .g (.s 4) .nil
abbrev aha : AL := .g (.s 0) (.i (.v 1) ai5)
abbrev uo : GE := .app 91 aha
abbrev ayx : AL := .g (.s 5) (.g uo .nil)
abbrev adm : List SA := [.mk true (.bin 7 .i64 (.c 4) (.v 1)) (.len (.s 4)) false, .mk true (.len (.s 4)) (.c 1) false]
abbrev av8 : SE := .app 91 aha
abbrev aa3 : SE := .app 59 ayx
abbrev a94 : List SA := [.mk false av8 (.c 0) true, .mk false aa3 (.c 0) true]
abbrev aeq : SE := .app 92 aha
abbrev bcj : List SA := [.mk false av8 (.c 0) false]
abbrev bde : List SA := [.mk false av8 (.c 0) true, .mk false aa3 (.c 0) false]
abbrev agv : GE := .app 54 aoy
abbrev ai3 : SE := .app 53 ai5
abbrev beb : SE := .app 53 (.g agv .nil)
abbrev a95 : SE := .bin 6 .i64 ai3 (.c 1)
abbrev a8l : GE := .app 74 aqs
abbrev a82 : SE := .app 57 (.g (.s 5) (.i (.c 0) .nil))
abbrev a0i : SE := .bin 1 .i64 (.v 9) (.c 1)
abbrev aef : SE := .bin 6 .i64 a0i (.c 1)
abbrev ah9 : GE := .app 57 (.g (.s 5) (.i (.c 0) .nil))
abbrev amd : AL := .i aef (.g ah9 (.i (.c 2) (.i an6 .nil)))
abbrev bam : AL := .g ah9 (.i (.c 0) .nil)
abbrev av3 : SE := .bin 1 .i64 (.v 6) (.c 1)
abbrev a9w : SE := .bin 6 .i64 av3 (.c 1)
abbrev am2 : AL := .i a9w ax1
abbrev aaj : SE := .bin 0 .i64 (.v 1) (.c 0)
abbrev zl : SE := .rd (.s 0) aaj
abbrev bdp : SE := .app 59 (.g (.s 5) (.g (.lit 0 0) .nil))
abbrev ii : SE := .bin 0 .i64 (.v 1) (.c 1)
abbrev ana : SE := .app 93 aiq
abbrev al4 : GE := .app 59 ayz
abbrev anj : AL := .g (.s 0) (.i ii .nil)
abbrev bcn : SE := .app 87 anj
abbrev avq : SE := .app 89 anj
abbrev iy : SE := .app 90 anj
abbrev ani : AL := .g (.s 0) (.i iy (.g .nil .nil))
abbrev bd6 : GE := .app 91 ani
abbrev bei : AL := .g (.s 5) (.g bd6 .nil)
abbrev bcq : SE := .app 59 bei
abbrev ev : SE := .bin 6 .i64 (.len (.s 0)) (.bin 7 .i64 (.c (-1)) iy)
abbrev jc : SE := .bin 6 .i64 (.len (.s 0)) (.bin 7 .i64 (.c (-1)) (.v 1))
abbrev aas : SE := .bin 0 .i32 avq (.c 0)
abbrev avv : SE := .bin 7 .i64 (.c 4) iy
abbrev aml : GE := .app 40 (.i aas .nil)
abbrev ayg : SE := .len aml
abbrev am9 : AL := .g (.s 0) (.i iy (.g aml .nil))
abbrev bc3 : GE := .app 91 am9
abbrev a8t : AL := .g (.s 5) (.g bc3 .nil)
abbrev a9o : SE := .app 59 a8t
abbrev bb0 : SE := .app 88 anj
abbrev aad : SE := .bin 0 .i32 zl (.c 0)
abbrev bew : SE := .bin 7 .i64 (.c 4) ii
abbrev alx : GE := .app 40 (.i aad .nil)
abbrev azs : SE := .len alx
abbrev aly : AL := .g (.s 0) (.i ii (.g alx .nil))
abbrev bc1 : GE := .app 91 aly
abbrev a9l : AL := .g (.s 5) (.g bc1 .nil)
abbrev bae : SE := .app 59 a9l
abbrev ol : SE := .bin 6 .i64 (.len (.s 0)) (.bin 7 .i64 (.c (-1)) ii)
abbrev bd1 : SE := .app 59 (.g (.s 5) ai5)
abbrev aln : SE := .app 93 aha
abbrev agz : GE := .app 59 ayx
abbrev ai4 : AL := .g (.s 0) (.i iy ai5)
abbrev a3v : GE := .app 91 ai4
abbrev a0v : AL := .g (.s 5) (.g a3v .nil)
abbrev a1m : SE := .app 59 a0v
abbrev a2d : SE := .bin 6 .i64 (.len (.s 4)) ayg
abbrev a1j : GE := .cat (.s 4) aml
abbrev ah0 : AL := .g (.s 0) (.i iy (.g a1j .nil))
abbrev a0y : GE := .app 91 ah0
abbrev a1p : AL := .g (.s 5) (.g a0y .nil)
abbrev a09 : SE := .app 59 a1p
abbrev a07 : SE := .bin 6 .i64 (.len (.s 4)) azs
abbrev a2b : GE := .cat (.s 4) alx
abbrev ain : AL := .g (.s 0) (.i ii (.g a2b .nil))
abbrev a2a : GE := .app 91 ain
abbrev a3f : AL := .g (.s 5) (.g a2a .nil)
abbrev a3p : SE := .app 59 a3f
noncomputable section
def ae0 (k kj km : Nat) (g : GE) : List HO := [.mk k (.cells 80 false 0 0 [.gv (.sl (K.of kj) 6 (.app 53 (.g g .nil)) []), .map (K.of km)]), .mk kj (.gob (.junk 122)), .mk km (.gob (.gmap g))]
def hpG (k : Nat) (g : GE) : HO := .mk k (.gob (.lh 1 g))
def bxO (k : Nat) (a b : AV) : HO := .mk k (.cells 31 false 0 0 [a, b])
def sy (n : Nat) : AV := .sym .i64 (.v n) []
def rd0 : HO := rdO 256 258 259 257 (.v 1) (.v 2)
def mI1 : SE := .bin 6 .i64 (.v 9) (.c 1)
def btn : List AV := [.ptr (K.of 256) 0, .gv (.str (.s 3) [])]
def bp1 : List HO := ae0 256 257 258 (.s 4)
def bvi : List HO := ae0 256 259 258 (.app 54 aoy)
def bvy : TR := .ret (.tuple [.sym .i64 ayb [], .int .i64 0])
def bt3 : TM := .mk 88 btn 259 bp1 (aj2 ++ a0g) none bvy 260 bvi
def bvr : List HO := ae0 256 257 258 (.s 4)
def bvj : TR := .ret (.tuple [.int .i64 0, .sym .i64 abu []])
def bwt : TM := .mk 88 btn 259 bp1 (aj2 ++ avo) none bvj 260 bvr
def bq9 : List AV := [.ptr (K.of 256) 0, .gv (.str (.s 3) []), .sym .i64 (.v 11) []]
def bq2 : List HO := ([rdO 256 258 259 257 (.v 1) (.v 2)] ++ ae0 259 260 261 (.s 4))
def buu : List HO := ([rdO 256 258 259 257 (.v 1) (.v 2)] ++ ae0 259 262 261 (.app 54 aoy))
def bxe : TR := .ret (.agg [.int .i64 1, .sym .i64 ayb []])
def a3m : TM := .mk 72 bq9 262 bq2 (aj2 ++ a0g) none bxe 263 buu
def bt4 : List HO := []
def bys : TR := .pan [.mk (.iface 34 (.agg [.sym .i64 abu [], .sym .i64 (.v 11) []])) false]
def a0s : TM := .mk 72 bq9 262 bq2 (aj2 ++ avo) none bys 263 bt4
def bgd : List AV := [.ptr (K.of 256) 0, .gv (.sl (K.of 262) 2 (.v 6) []), .top, sy 3, .top, .top, .ptr (K.of 263) 0, .top, .ptr (K.of 264) 0, sy 9] ++ tps 28
def bgz : List HO := [rd0, hpG 258 (.s 5), bxO 263 (sy 7) (sy 8), bxO 264 .top .top, wds 262 (.v 6) (.s 10)]
def bks : List HO := [rd0, hpG 258 (.app 74 aqs), bxO 263 (.sym .i64 axy []) (.sym .i64 aza []), bxO 264 .top .top]
def bnh : LR := (.x 0 ([.ptr (K.of 256) 0, .gv (.sl (K.of 262) 2 (.v 6) []), .top, sy 3, .top, .top, .ptr (K.of 263) 0, .top, .ptr (K.of 264) 0, .top] ++ tps 28))
def b6n (m : SE) : LT := .mk 77 5 bgd 265 bgz (w9 ++ a0b) (some (mI1, m)) bnh 265 bks
def bw7 : LT := .mk 77 5 bgd 265 bgz (w9 ++ a0b) none bnh 265 bks
def bkq : List HO := []
def bib : LR := (.p [.mk (.iface 34 (.agg [.int .i64 7, .sym .i64 (.v 3) []])) false] (tps 38))
def b5g (m : SE) : LT := .mk 77 5 bgd 265 bgz (w9 ++ ayv) (some (mI1, m)) bib 265 bkq
def bu1 : LT := .mk 77 5 bgd 265 bgz (w9 ++ ayv) none bib 265 bkq
def bq4 : List AV := [.ptr (K.of 256) 0, .slice (K.of 262) 0 2 2 none, .agg [sy 7, sy 8], sy 3]
def brf : List HO := [rd0, hpG 258 (.s 5), .mk 262 (.cells 31 false 0 0 [.top, .top, .top, .top])]
def bub : List HO := [rd0, hpG 258 (.app 74 ai2)]
def byo : TR := .ret (.agg [.sym .i64 bda [], .sym .i64 bck []])
def a3a : TM := .mk 77 bq4 263 brf ([] ++ bdh) none byo 264 bub
def bx6 : List HO := []
def bx5 : TR := .pan [.mk (.iface 34 (.agg [.int .i64 7, .sym .i64 (.v 3) []])) false]
def a21 : TM := .mk 77 bq4 263 brf ([] ++ be6) none bx5 264 bx6
def bt0 : List AV := [.ptr (K.of 256) 0, .gv (.sl (K.of 262) 2 (.v 6) []), .agg [sy 7, sy 8], sy 3]
def bqb : List HO := [rd0, hpG 258 (.s 5), wds 262 (.v 6) (.s 10)]
def bxk : List HO := [rd0, hpG 258 (.app 74 agy)]
def bt7 : TR := .ret (.agg [.sym .i64 a87 [], .sym .i64 a89 []])
def wm : TM := .mk 77 bt0 263 bqb (amk ++ a9b) none bt7 264 bxk
def byr : List HO := []
def by5 : TR := .pan [.mk (.iface 34 (.agg [.int .i64 7, .sym .i64 (.v 3) []])) false]
def xf : TM := .mk 77 bt0 263 bqb (amk ++ bem) none by5 264 byr
def b8y : List AV := [.ptr (K.of 256) 0, .nilSlice, .agg [sy 7, sy 8], sy 3]
def b4x : List HO := [rd0, hpG 258 (.s 5)]
def b8q : List HO := [rd0, hpG 258 (.s 5)]
def b8z : TR := .ret (.agg [sy 7, sy 8])
def aiu : TM := .mk 77 b8y 263 b4x ([] ++ []) none b8z 263 b8q
def a0n : List AV := [.ptr (K.of 256) 0, .top, .ptr (K.of 262) 0, sy 3, .ptr (K.of 263) 0] ++ tps 44
def av2 : List HO := [rd0, rwO 257, hpG 258 (.s 5), bxO 262 .top .top] ++ [.mk 263 (.cells 108 false 0 0 [.nilPtr, .nilSlice])]
def bkv : List HO := [rdO 256 258 259 257 (.app 93 aiq) (.v 2), rwO 257, hpG 258 (.app 59 ayz), bxO 262 (.int .i64 3) (.sym .i64 an6 [])]
def bij : LR := (.r ([.ptr (K.of 256) 0, .top, .ptr (K.of 262) 0, sy 3, .ptr (K.of 263) 0] ++ tps 44))
def b0b (m : SE) : LT := .mk 60 4 a0n 264 av2 (pI ++ awk) (some (mLn, m)) bij 270 bkv
def a1f : LT := .mk 60 4 a0n 264 av2 (pI ++ awk) none bij 270 bkv
def bj4 : List HO := []
def bjt : LR := (.p [.mk (.iface 34 (.agg [.int .i64 5, .sym .i64 ad5 []])) false] (tps 49))
def b1s (m : SE) : LT := .mk 60 4 a0n 264 av2 (pI ++ awi) (some (mLn, m)) bjt 270 bj4
def a1u : LT := .mk 60 4 a0n 264 av2 (pI ++ awi) none bjt 270 bj4
def bls : List HO := []
def bii : LR := (.p [.mk (.iface 34 (.agg [.sym .i64 aa5 [], .sym .i64 (.v 3) []])) false] (tps 49))
def bz8 (m : SE) : LT := .mk 60 4 a0n 264 av2 (pI ++ az9) (some (mLn, m)) bii 270 bls
def a2o : LT := .mk 60 4 a0n 264 av2 (pI ++ az9) none bii 270 bls
def bfa : List AV := [.ptr (K.of 256) 0, .top, .ptr (K.of 262) 0, sy 3, .ptr (K.of 263) 0] ++ tps 44
def bgk : List HO := [rd0, rwO 257, hpG 258 (.s 5), bxO 262 .top .top] ++ buO 263 264 (.s 4) (.len (.s 4))
def bxy : List HO := [rdO 256 258 259 257 (.app 93 aha) (.v 2), rwO 257, hpG 258 (.app 59 ayx), bxO 262 (.int .i64 3) (.sym .i64 an6 [])]
def bw1 : LR := (.r ([.ptr (K.of 256) 0, .top, .ptr (K.of 262) 0, sy 3, .ptr (K.of 263) 0] ++ tps 44))
def b1j (m : SE) : LT := .mk 60 4 bfa 265 bgk ((pI ++ adm) ++ a94) (some (mLn, m)) bw1 270 bxy
def bui : List HO := []
def bx0 : LR := (.p [.mk (.iface 34 (.agg [.int .i64 5, .sym .i64 aeq []])) false] (tps 49))
def b18 (m : SE) : LT := .mk 60 4 bfa 265 bgk ((pI ++ adm) ++ bcj) (some (mLn, m)) bx0 270 bui
def bua : List HO := []
def bxd : LR := (.p [.mk (.iface 34 (.agg [.sym .i64 aa3 [], .sym .i64 (.v 3) []])) false] (tps 49))
def b05 (m : SE) : LT := .mk 60 4 bfa 265 bgk ((pI ++ adm) ++ bde) (some (mLn, m)) bxd 270 bua
end
section
variable {σ : Nat → List Int}
theorem ayc (h : List Int) (z : Int) : (o7 h z).f = 0 ∨ (o7 h z).f = 7 := by
 rw [j7]; split
 ·exact .inr rfl
 ·exact .inl rfl
theorem f57 (g : GE) (z : SE) : (SE.app 57 (.g g (.i z .nil))).eval σ = 0 ∨ (SE.app 57 (.g g (.i z .nil))).eval σ = 7 := ayc _ _
theorem bpf (h : List Int) (z : Int) : (af1 h z).f = 0 ∨ (af1 h z).f = 4 ∨ (af1 h z).f = 7 := by
 rw [anv]; split
 ·exact .inr (.inl rfl)
 ·have := ayc h z; omega
theorem f58 (g : GE) (z : SE) : (SE.app 58 (.g g (.i z .nil))).eval σ = 0 ∨ (SE.app 58 (.g g (.i z .nil))).eval σ = 4 ∨ (SE.app 58 (.g g (.i z .nil))).eval σ = 7 := bpf _ _
theorem a99 (h s : List Int) : (qz h s).f = 0 ∨ (qz h s).f = 4 ∨ (qz h s).f = 5 ∨ (qz h s).f = 7 := by
 rw [ahm]; split
 ·exact .inr (.inr (.inl rfl))
 ·split
  ·exact .inr (.inl rfl)
  ·have := ayc h (tq s 0); omega
theorem f59 (g s : GE) : (SE.app 59 (.g g (.g s .nil))).eval σ = 0 ∨ (SE.app 59 (.g g (.g s .nil))).eval σ = 4 ∨ (SE.app 59 (.g g (.g s .nil))).eval σ = 5 ∨ (SE.app 59 (.g g (.g s .nil))).eval σ = 7 := a99 _ _
theorem bqg (G : List Int) : 0 ≤ qc G := Int.natCast_nonneg _
theorem f53 (g : GE) : 0 ≤ (SE.app 53 (.g g .nil)).eval σ := bqg _
theorem b3b (G s : List Int) : a51 G s = 0 ∨ a51 G s = 1 := by unfold a51; split <;> simp
theorem fmh (g s : GE) : (SE.mhas g s).eval σ = 0 ∨ (SE.mhas g s).eval σ = 1 := by
 have := b3b (g.eval σ) (s.eval σ)
 simpa only [evs] using this
theorem auh (G s : List Int) : (du G s).f = 0 ∨ (du G s).f = 4 ∨ (du G s).f = 5 ∨ (du G s).f = 7 := by
 rw [pd]
 repeat' split
 all_goals simp
theorem f54 (g s : GE) : (SE.app 54 (.g g (.g s .nil))).eval σ = 0 ∨ (SE.app 54 (.g g (.g s .nil))).eval σ = 4 ∨ (SE.app 54 (.g g (.g s .nil))).eval σ = 5 ∨ (SE.app 54 (.g g (.g s .nil))).eval σ = 7 := auh _ _
theorem ap9 : ∀ (f g : Nat) (l : List Int), l.length ≤ f → l.length ≤ g → ahc f l = ahc g l
 | 0, 0, _, _, _ => rfl
 | 0, g + 1, [], _, _ => rfl
 | f + 1, 0, [], _, _ => rfl
 | f + 1, g + 1, [], _, _ => rfl
 | f + 1, g + 1, [_], _, _ => rfl
 | f + 1, g + 1, n :: k :: l, h1, h2 => by
   unfold ahc
   rw [ap9 f g (l.drop k.toNat) (by simp only [List.length_cons, List.length_drop] at *; omega) (by simp only [List.length_cons, List.length_drop] at *; omega)]
theorem azc (G s : List Int) (n : Int) : qc (n :: (s.length : Int) :: (s ++ G)) = qc G + 1 := by
 unfold qc auy
 simp only [List.length_reverse]
 have e : ahc (n :: (s.length : Int) :: (s ++ G)).length (n :: (s.length : Int) :: (s ++ G)) = ((s ++ G).take (s.length : Int).toNat, n) :: ahc ((s ++ G).length + 1) ((s ++ G).drop (s.length : Int).toNat) := rfl
 rw [e, Int.toNat_natCast, List.drop_left, List.length_cons]
 rw [ap9 ((s ++ G).length + 1) G.length G (by simp; omega) (Nat.le_refl _)]
 omega
theorem axn : ∀ (n : Nat) (h : List Int) (k m : Int), (aks n h k m).f = 0 ∨ (aks n h k m).f = 7
 | 0, h, k, m => .inl rfl
 | n + 1, h, k, m => by
   unfold aks
   split
   ·exact axn n _ _ _
   ·have := ayc h 0; dsimp only; omega
theorem f74 (i k n : SE) (h : GE) : (SE.app 74 (.i i (.g h (.i k (.i n .nil))))).eval σ = 0 ∨ (SE.app 74 (.i i (.g h (.i k (.i n .nil))))).eval σ = 7 := axn _ _ _ _
theorem afg (h : List Int) (k n : Int) : mn 0 h k n = ⟨0, k, n, h⟩ := rfl
theorem an7 (i : Int) (hi : 0 ≤ i) (h : List Int) (k n : Int) : mn (i + 1) h k n = if (o7 h 0).f = 0 then mn i (o7 h 0).h 2 (h.getD 1 0) else ⟨(o7 h 0).f, 0, 0, h⟩ := by
 unfold mn
 rw [show (i + 1).toNat = i.toNat + 1 by omega]
 rfl
theorem axe (h : List Int) (k n : Int) : mn 2 h k n = if (o7 h 0).f = 0 then (if (o7 (o7 h 0).h 0).f = 0 then ⟨0, 2, (o7 h 0).h.getD 1 0, (o7 (o7 h 0).h 0).h⟩ else ⟨(o7 (o7 h 0).h 0).f, 0, 0, (o7 h 0).h⟩) else ⟨(o7 h 0).f, 0, 0, h⟩ := rfl
theorem awe (c : Int) : 1 ≤ ((uj c).length : Int) ∧ ((uj c).length : Int) ≤ 4 := f40 (σ := fun _ => [c]) (.v 0)
theorem aj7 {R : List Int} (hR : gd R) : ∀ (n : Nat) (p : Int) (b : List Int), ((R.length : Int) - p).toNat ≤ n → p ≤ (R.length : Int) → ((te R p b).f = 0 ∨ (te R p b).f = 5) ∧ ((te R p b).f = 0 → p < (te R p b).p ∧ (te R p b).p ≤ (R.length : Int) ∧ ((te R p b).b.length : Int) ≤ (b.length : Int) + 4 * ((te R p b).p - p))
 | 0, p, b, h, hp => by rw [df, if_neg (by omega)]; exact ⟨.inr rfl, fun h => absurd h (show ¬ (5 : Int) = 0 by decide)⟩
 | n + 1, p, b, h, hp => by
   rw [df]
   split
   ·split
    ·exact ⟨.inl rfl, fun _ => by dsimp only; omega⟩
    ·split
     ·rename_i h1 h2 h3
      obtain ⟨e1, e2⟩ := boc hR (p + 1) (by omega)
      split
      ·rename_i h4
       obtain ⟨e3, e4, e5, e6⟩ := e2 h4
       split
       ·split
        ·obtain ⟨a, c⟩ := aj7 hR n (lu R (p + 1)).p b (by omega) (by omega)
         exact ⟨a, fun h => by have := c h; omega⟩
        ·obtain ⟨a, c⟩ := aj7 hR n (lu R (p + 1)).p (b ++ uj (lu R (p + 1)).c) (by omega) (by omega)
         have := awe (lu R (p + 1)).c
         rw [List.length_append] at c
         exact ⟨a, fun h => by have := c h; omega⟩
       ·exact ⟨.inr rfl, fun h => absurd h (show ¬ (5 : Int) = 0 by decide)⟩
      ·exact ⟨e1, fun h => absurd h (by assumption)⟩
     ·obtain ⟨a, c⟩ := aj7 hR n (p + 1) (b ++ uj (R.getD p.toNat 0)) (by omega) (by omega)
      have := awe (R.getD p.toNat 0)
      rw [List.length_append] at c
      exact ⟨a, fun h => by have := c h; omega⟩
   ·exact ⟨.inr rfl, fun h => absurd h (show ¬ (5 : Int) = 0 by decide)⟩
theorem f91 (hR : gd (σ 0)) (a : SE) (g : GE) : a.eval σ ≤ (SE.len (.s 0)).eval σ → ((SE.app 91 (.g (.s 0) (.i a (.g g .nil)))).eval σ = 0 ∨ (SE.app 91 (.g (.s 0) (.i a (.g g .nil)))).eval σ = 5) ∧
  ((SE.app 91 (.g (.s 0) (.i a (.g g .nil)))).eval σ = 0 → a.eval σ < (SE.app 93 (.g (.s 0) (.i a (.g g .nil)))).eval σ ∧ (SE.app 93 (.g (.s 0) (.i a (.g g .nil)))).eval σ ≤ (SE.len (.s 0)).eval σ ∧ (SE.len (.app 91 (.g (.s 0) (.i a (.g g .nil))))).eval σ ≤ (SE.len g).eval σ + 4 * ((SE.app 93 (.g (.s 0) (.i a (.g g .nil)))).eval σ - a.eval σ)) := fun h => aj7 hR _ _ _ (Nat.le_refl _) h
theorem bng {A : List SA} (h : SAll σ (w9 ++ A)) : -1 ≤ (σ 9).headD 0 ∧ (σ 9).headD 0 < (σ 6).headD 0 ∧ (σ 6).headD 0 ≤ 20000 := by
 have := (aj h).1
 simp only [sall_cons, sT, sF, evs] at this
 exact ⟨this.1, this.2.1, this.2.2.1⟩
theorem b4o (h : SAll σ amk) : 1 ≤ (σ 6).headD 0 ∧ (σ 6).headD 0 ≤ 20000 := by
 simp only [sall_cons, sT, sF, evs] at h
 exact ⟨h.1, h.2.1⟩
theorem ben (h : SAll σ (pI ++ adm)) : (gd (σ 0) ∧ 0 ≤ (σ 1).headD 0 ∧ (σ 1).headD 0 ≤ ((σ 0).length : Int) ∧ (σ 0).length ≤ 4000) ∧ ((σ 4).length : Int) ≤ 4 * (σ 1).headD 0 ∧ 1 ≤ ((σ 4).length : Int) := by
 refine ⟨qj (aj h).1, ?_⟩
 have := (aj h).2
 simp only [sall_cons, sF, evs] at this
 exact ⟨this.1, this.2.1⟩
end
theorem bn3 [Gv] : ∀ t ∈ [br4, bsc, rcF], ap t := by
 intro t ht
 simp only [List.mem_cons, List.not_mem_nil, or_false] at ht
 rcases ht with rfl | rfl | rfl
 ·exact a62
 ·exact a7i
 ·exact bkw
def b9t [Gv] : Prop := (SAll Gv.σ a0g → bh 88 btn 259 bp1 bvy 260 bvi) ∧ (SAll Gv.σ avo → bh 88 btn 259 bp1 bvj 260 bvr)
theorem byk [Gv] (hI : SAll Gv.σ aj2) : b9t := by
 have h20 := apj hI
 have := zf1 (br9 (σ := Gv.σ) (.s 3))
 rcases zq1 hI (.app 50 (.g (.s 3) .nil)) (.c 1) with ⟨hI, k1⟩ | ⟨hI, k1⟩
 ·have := zf1 (f49 (σ := Gv.σ) (.s 3) (.c 0))
  rcases zl1 hI (.c 1000) (.app 49 (.g (.s 3) (.i (.c 0) .nil))) with ⟨hI, k2⟩ | ⟨hI, k2⟩
  ·have := zf1 (f54 (σ := Gv.σ) (.s 4) (.s 3))
   have u := zf4 (pd (Gv.σ 4) (Gv.σ 3))
   exact ⟨zn6,
    zm [] (.i (.c 4) abu .nil) (zh hI bn3) ak hI ze8⟩
  ·have := zf1 (fmh (σ := Gv.σ) (.s 4) (.s 3))
   rcases zq1 hI (.mhas (.s 4) (.s 3)) (.c 1) with ⟨hI, k3⟩ | ⟨hI, k3⟩
   ·have := zf1 (f53 (σ := Gv.σ) (.s 4))
    have := zf1 (f53 (σ := Gv.σ) agv)
    have := zf1 (f54 (σ := Gv.σ) (.s 4) (.s 3))
    have u := zf4 (pd (Gv.σ 4) (Gv.σ 3))
    exact ⟨zm [(257, 259)] (.i (.mget (.s 4) (.s 3)) ayb (.i ai3 beb (.g (.s 4) agv .nil))) (zh hI bn3) ak hI ze8,
     zn6⟩
   ·have := zf1 (f53 (σ := Gv.σ) (.s 4))
    rcases zl1 hI ai3 (.c 16384) with ⟨hI, k4⟩ | ⟨hI, k4⟩
    ·have hI := zF1 hI (.c 60000) a95
     have := zf1 (f53 (σ := Gv.σ) agv)
     have := zf1 (f54 (σ := Gv.σ) (.s 4) (.s 3))
     have u := zf4 (pd (Gv.σ 4) (Gv.σ 3))
     exact ⟨zm [(261, 259)] (.i ai3 ayb (.i a95 beb (.g (.cat (.one ai3) (.cat (.one (.len (.s 3))) (.cat (.s 3) (.s 4)))) agv .nil))) (zh hI bn3) ak hI ze8,
      zn6⟩
    ·have := zf1 (f54 (σ := Gv.σ) (.s 4) (.s 3))
     have u := zf4 (pd (Gv.σ 4) (Gv.σ 3))
     exact ⟨zn6,
      zm [] (.i (.c 7) abu .nil) (zh hI bn3) ak hI ze8⟩
 ·have := zf1 (f54 (σ := Gv.σ) (.s 4) (.s 3))
  have u := zf4 (pd (Gv.σ 4) (Gv.σ 3))
  exact ⟨zn6,
   zm [] (.i (.c 5) abu .nil) (zh hI bn3) ak hI ze8⟩
theorem bql [Gv] : ap bt3 := fun σ _ hA _ => (@byk ⟨σ⟩  (aj hA).1).1 (aj hA).2
theorem bs3 [Gv] : ap bwt := fun σ _ hA _ => (@byk ⟨σ⟩  (aj hA).1).2 (aj hA).2
theorem b46 [Gv] : ∀ t ∈ [bt3, bwt], ap t := by
 intro t ht
 simp only [List.mem_cons, List.not_mem_nil, or_false] at ht
 rcases ht with rfl | rfl
 ·exact bql
 ·exact bs3
def cas [Gv] : Prop := (SAll Gv.σ a0g → bh 72 bq9 262 bq2 bxe 263 buu) ∧ (SAll Gv.σ avo → bh 72 bq9 262 bq2 bys 263 bt4)
theorem bwr [Gv] (hI : SAll Gv.σ aj2) : cas := by
 have h20 := apj hI
 have := zf1 (f54 (σ := Gv.σ) (.s 4) (.s 3))
 rcases zq1 hI abu (.c 0) with ⟨hI, k1⟩ | ⟨hI, k1⟩
 ·have u := trivial
  exact ⟨zm0 [(263, 262)] (zh hI b46) ak hI,
   zn1⟩
 ·have u := trivial
  exact ⟨zn1,
   zm0 [] (zh hI b46) ak hI⟩
theorem brd [Gv] : ap a3m := fun σ _ hA _ => (@bwr ⟨σ⟩  (aj hA).1).1 (aj hA).2
theorem bst [Gv] : ap a0s := fun σ _ hA _ => (@bwr ⟨σ⟩  (aj hA).1).2 (aj hA).2
theorem ayo [Gv] : ∀ t ∈ [bu8, bx1], ap t := by
 intro t ht
 simp only [List.mem_cons, List.not_mem_nil, or_false] at ht
 rcases ht with rfl | rfl
 ·exact bpn
 ·exact bs5
def b2a [Gv] : Prop := (SAll Gv.σ a0b → cg 77 5 bgd 265 bgz bnh 265 bks) ∧ (SAll Gv.σ ayv → cg 77 5 bgd 265 bgz bib 265 bkq)
theorem b78 [Gv] (hh : ∀ t ∈ [b6n mI1, b5g mI1], ba t) (hI : SAll Gv.σ w9) : b2a := by
 obtain ⟨hi1, hi2, hi3⟩ := bng (A := []) hI
 rcases b9u hI (.v 9) (.c 0) with ⟨hI, k1⟩ | ⟨hI, k1⟩
 ·have := a0k (f74 (σ := Gv.σ) agq (.v 7) (.v 8) (.s 5))
  have u := afg (Gv.σ 5) ((Gv.σ 7).headD 0) ((Gv.σ 8).headD 0)
  have u2 := fun h => an7 ((Gv.σ 9).headD 0) h (Gv.σ 5) ((Gv.σ 7).headD 0) ((Gv.σ 8).headD 0)
  have e1 : (Gv.σ 9).headD 0 - 1 + 1 = (Gv.σ 9).headD 0 := by omega
  try simp (disch := omega) only [if_pos, if_neg, wr] at u2
  have e0 : (Gv.σ 9).headD 0 = -1 → (Gv.σ 9).headD 0 + 1 = 0 := fun h => by omega
  exact ⟨zt [] (.i (.v 7) axy (.i (.v 8) aza (.g (.s 5) a8l .nil))) (zh hI ayo) (zp hI hh) hI ze9,
   zn7⟩
 ·have := a0k (f57 (σ := Gv.σ) (.s 5) (.c 0))
  rcases b0h hI a82 (.c 0) with ⟨hI, k2⟩ | ⟨hI, k2⟩
  ·have hI := bty hI a0i (.c (-1))
   have hI := bth hI a0i (.v 6)
   have := a0k (f74 (σ := Gv.σ) aef (.c 2) an6 ah9)
   rcases b0h hI (.app 74 amd) (.c 0) with ⟨hI, k5⟩ | ⟨hI, k5⟩
   ·have hI := bth hI aef agq
    have hI := bty hI aef (.c 0)
    have := a0k (f74 (σ := Gv.σ) agq (.v 7) (.v 8) (.s 5))
    have u := afg (Gv.σ 5) ((Gv.σ 7).headD 0) ((Gv.σ 8).headD 0)
    have u2 := fun h => an7 ((Gv.σ 9).headD 0) h (Gv.σ 5) ((Gv.σ 7).headD 0) ((Gv.σ 8).headD 0)
    have e1 : (Gv.σ 9).headD 0 - 1 + 1 = (Gv.σ 9).headD 0 := by omega
    try simp (disch := omega) only [if_pos, if_neg, wr] at u2
    have e0 : (Gv.σ 9).headD 0 = -1 → (Gv.σ 9).headD 0 + 1 = 0 := fun h => by omega
    exact ⟨zt [] (.i (.app 75 amd) axy (.i (.app 76 amd) aza (.g (.app 74 amd) a8l .nil))) (zh hI ayo) (zp hI hh) hI ze9,
     zn7⟩
   ·have hI := bth hI aef agq
    have hI := bty hI aef (.c 0)
    have := a0k (f74 (σ := Gv.σ) agq (.v 7) (.v 8) (.s 5))
    have u := afg (Gv.σ 5) ((Gv.σ 7).headD 0) ((Gv.σ 8).headD 0)
    have u2 := fun h => an7 ((Gv.σ 9).headD 0) h (Gv.σ 5) ((Gv.σ 7).headD 0) ((Gv.σ 8).headD 0)
    have e1 : (Gv.σ 9).headD 0 - 1 + 1 = (Gv.σ 9).headD 0 := by omega
    try simp (disch := omega) only [if_pos, if_neg, wr] at u2
    have e0 : (Gv.σ 9).headD 0 = -1 → (Gv.σ 9).headD 0 + 1 = 0 := fun h => by omega
    exact ⟨zn7,
     zt0 [] (zh hI ayo) (zp hI hh) hI⟩
  ·have := a0k (f74 (σ := Gv.σ) agq (.v 7) (.v 8) (.s 5))
   have u := afg (Gv.σ 5) ((Gv.σ 7).headD 0) ((Gv.σ 8).headD 0)
   have u2 := fun h => an7 ((Gv.σ 9).headD 0) h (Gv.σ 5) ((Gv.σ 7).headD 0) ((Gv.σ 8).headD 0)
   have e1 : (Gv.σ 9).headD 0 - 1 + 1 = (Gv.σ 9).headD 0 := by omega
   try simp (disch := omega) only [if_pos, if_neg, wr] at u2
   have e0 : (Gv.σ 9).headD 0 = -1 → (Gv.σ 9).headD 0 + 1 = 0 := fun h => by omega
   exact ⟨zn7,
    zt0 [] (zh hI ayo) (zp hI hh) hI⟩
theorem azv : ∀ (B : Nat) (σ : Nat → List Int), SAll σ w9 → (mI1).eval σ < (B : Int) → @b2a ⟨σ⟩
 | 0, σ, hI, hb => by have := bng (A := []) hI; simp only [mI1, evs, wr] at hb; omega
 | B + 1, σ, hI, hb => by
   have ih : ∀ σ' : Nat → List Int, SAll σ' w9 → 0 ≤ (mI1).eval σ' ∧ (mI1).eval σ' < (mI1).eval σ → @b2a ⟨σ'⟩ := fun σ' h h' => azv B σ' h (by omega)
   have hh : ∀ t ∈ [b6n (mI1), b5g (mI1)], @ba ⟨σ⟩ t := by
    intro t ht
    simp only [List.mem_cons, List.not_mem_nil, or_false] at ht
    rcases ht with rfl | rfl
    ·exact fun σ' _ hA hb => (ih σ' (aj hA).1 hb).1 (aj hA).2
    ·exact fun σ' _ hA hb => (ih σ' (aj hA).1 hb).2 (aj hA).2
   exact @b78 ⟨σ⟩ hh hI
theorem bqy [Gv] : ba bw7 := fun σ _ hA _ => (azv (((mI1).eval σ).toNat + 1) σ (aj hA).1 (by omega)).1 (aj hA).2
theorem bsd [Gv] : ba bu1 := fun σ _ hA _ => (azv (((mI1).eval σ).toNat + 1) σ (aj hA).1 (by omega)).2 (aj hA).2
def b95 [Gv] : Prop := (SAll Gv.σ bdh → bh 77 bq4 263 brf byo 264 bub) ∧ (SAll Gv.σ be6 → bh 77 bq4 263 brf bx5 264 bx6)
theorem bvp [Gv] (hI : SAll Gv.σ []) : b95 := by
 have := zf1 (f57 (σ := Gv.σ) (.s 5) (.c 0))
 rcases zq1 hI a82 (.c 0) with ⟨hI, k1⟩ | ⟨hI, k1⟩
 ·have := zf1 (f57 (σ := Gv.σ) ah9 (.c 0))
  rcases zq1 hI (.app 57 bam) (.c 0) with ⟨hI, k2⟩ | ⟨hI, k2⟩
  ·have := zf1 (f74 (σ := Gv.σ) (.c 2) (.v 7) (.v 8) (.s 5))
   have u := zf4 (axe (Gv.σ 5) ((Gv.σ 7).headD 0) ((Gv.σ 8).headD 0))
   exact ⟨zm [] (.i (.c 2) bda (.i (.rd ah9 (.c 1)) bck (.g (.app 57 bam) (.app 74 ai2) .nil))) (zh hI ayo) ak hI ze1,
    zn1⟩
  ·have := zf1 (f74 (σ := Gv.σ) (.c 2) (.v 7) (.v 8) (.s 5))
   have u := zf4 (axe (Gv.σ 5) ((Gv.σ 7).headD 0) ((Gv.σ 8).headD 0))
   exact ⟨zn1,
    zm0 [] (zh hI ayo) ak hI⟩
 ·have := zf1 (f74 (σ := Gv.σ) (.c 2) (.v 7) (.v 8) (.s 5))
  have u := zf4 (axe (Gv.σ 5) ((Gv.σ 7).headD 0) ((Gv.σ 8).headD 0))
  exact ⟨zn1,
   zm0 [] (zh hI ayo) ak hI⟩
theorem bqs [Gv] : ap a3a := fun σ _ hA _ => (@bvp ⟨σ⟩  (aj hA).1).1 (aj hA).2
theorem bqq [Gv] : ap a21 := fun σ _ hA _ => (@bvp ⟨σ⟩  (aj hA).1).2 (aj hA).2
theorem b4l [Gv] : ∀ t ∈ [bw7, bu1], ba t := by
 intro t ht
 simp only [List.mem_cons, List.not_mem_nil, or_false] at ht
 rcases ht with rfl | rfl
 ·exact bqy
 ·exact bsd
def cad [Gv] : Prop := (SAll Gv.σ a9b → bh 77 bt0 263 bqb bt7 264 bxk) ∧ (SAll Gv.σ bem → bh 77 bt0 263 bqb by5 264 byr)
theorem bwk [Gv] (hI : SAll Gv.σ amk) : cad := by
 obtain ⟨hi1, hi2⟩ := b4o hI
 have hI := bty hI av3 (.c (-1))
 have hI := bth hI av3 (.v 6)
 have := a0k (f74 (σ := Gv.σ) a9w (.v 7) (.v 8) (.s 5))
 rcases b0h hI (.app 74 am2) (.c 0) with ⟨hI, k3⟩ | ⟨hI, k3⟩
 ·have := a0k (f74 (σ := Gv.σ) (.v 6) (.v 7) (.v 8) (.s 5))
  have u := trivial
  have e1 : (Gv.σ 6).headD 0 - 1 + 1 = (Gv.σ 6).headD 0 := by omega
  exact ⟨zm [] (.i (.app 75 am2) a87 (.i (.app 76 am2) a89 (.g (.app 74 am2) (.app 74 agy) .nil))) (zh hI ayo) (zp hI b4l) hI b9b,
   zn8⟩
 ·have := a0k (f74 (σ := Gv.σ) (.v 6) (.v 7) (.v 8) (.s 5))
  have u := trivial
  have e1 : (Gv.σ 6).headD 0 - 1 + 1 = (Gv.σ 6).headD 0 := by omega
  exact ⟨zn8,
   zm0 [] (zh hI ayo) (zp hI b4l) hI⟩
theorem bb7 [Gv] : ap wm := fun σ _ hA _ => (@bwk ⟨σ⟩  (aj hA).1).1 (aj hA).2
theorem bbx [Gv] : ap xf := fun σ _ hA _ => (@bwk ⟨σ⟩  (aj hA).1).2 (aj hA).2
def b9f [Gv] : Prop := (SAll Gv.σ [] → bh 77 b8y 263 b4x b8z 263 b8q)
theorem b7k [Gv] (hI : SAll Gv.σ []) : b9f := by
 have u := trivial
 exact zm0 [] af ak hI
theorem bnj [Gv] : ap aiu := fun σ _ hA _ => (@b7k ⟨σ⟩  (aj hA).1) (aj hA).2
theorem tx6 [Gv] : ∀ t ∈ [bwc, bye, b2u, b1n, bxi, bum], ap t := by
 intro t ht
 simp only [List.mem_cons, List.not_mem_nil, or_false] at ht
 rcases ht with rfl | rfl | rfl | rfl | rfl | rfl
 ·exact bp8
 ·exact btf
 ·exact bjv
 ·exact bk5
 ·exact bqz
 ·exact bsu
def b67 [Gv] : Prop := (SAll Gv.σ awk → cg 60 4 a0n 264 av2 bij 270 bkv) ∧ (SAll Gv.σ awi → cg 60 4 a0n 264 av2 bjt 270 bj4) ∧ (SAll Gv.σ az9 → cg 60 4 a0n 264 av2 bii 270 bls)
theorem b8w [Gv] (hh : ∀ t ∈ [b0b mLn, b1s mLn, bz8 mLn, b1j mLn, b18 mLn, b05 mLn], ba t) (hI : SAll Gv.σ pI) : b67 := by
 obtain ⟨hR, hp0, hpl, hL⟩ := qj hI
 rcases arb hI aaj (.len (.s 0)) with ⟨hI, k1⟩ | ⟨hI, k1⟩
 ·have hI := be hI aaj (.c 0)
  have := au (pz hR aaj)
  have hI := be hI zl (.c 0)
  rcases jf hI zl (.c 34) with ⟨hI, k4⟩ | ⟨hI, k4⟩
  ·have := au (f59 (σ := Gv.σ) (.s 5) (.lit 0 0))
   rcases jf hI bdp (.c 0) with ⟨hI, k5⟩ | ⟨hI, k5⟩
   ·have := au (f91 hR (.v 1) .nil)
    have := au (f59 (σ := Gv.σ) (.s 5) uk)
    have u := tg (df (Gv.σ 0) ((Gv.σ 1).headD 0) [])
    exact ⟨zt [] (.i ii ana (.g (.app 59 (.g (.s 5) (.g (.lit 0 0) .nil))) al4 .nil)) (zh hI tx6) (zp hI hh) hI s8,
     zn9,
     zn9⟩
   ·have := au (f91 hR (.v 1) .nil)
    have := au (f59 (σ := Gv.σ) (.s 5) uk)
    have u := tg (df (Gv.σ 0) ((Gv.σ 1).headD 0) [])
    exact ⟨zn9,
     zn9,
     zt [] (.i bdp aa5 .nil) (zh hI tx6) (zp hI hh) hI s8⟩
  ·rcases jf hI zl (.c 92) with ⟨hI, k5⟩ | ⟨hI, k5⟩
   ·have hI := be hI ii (.c 0)
    have hI := be hI (.len (.s 0)) ii
    have := au (f87 hR ii)
    rcases jf hI bcn (.c 0) with ⟨hI, k8⟩ | ⟨hI, k8⟩
    ·rcases arb hI avq (.c 0) with ⟨hI, k9⟩ | ⟨hI, k9⟩
     ·have hI := be hI iy (.c 0)
      have hI := be hI (.len (.s 0)) iy
      have := au (f91 hR iy .nil)
      rcases jf hI (.app 91 ani) (.c 0) with ⟨hI, k12⟩ | ⟨hI, k12⟩
      ·have := au (f59 (σ := Gv.σ) (.s 5) bd6)
       rcases jf hI bcq (.c 0) with ⟨hI, k13⟩ | ⟨hI, k13⟩
       ·have hI := fu hI ev jc
        have hI := be hI ev (.c 0)
        have := au (f91 hR (.v 1) .nil)
        have := au (f59 (σ := Gv.σ) (.s 5) uk)
        have u := tg (df (Gv.σ 0) ((Gv.σ 1).headD 0) [])
        exact ⟨zt [] (.i (.app 93 ani) ana (.g (.app 59 bei) al4 .nil)) (zh hI tx6) (zp hI hh) hI s8,
         zn9,
         zn9⟩
       ·have hI := fu hI ev jc
        have hI := be hI ev (.c 0)
        have := au (f91 hR (.v 1) .nil)
        have := au (f59 (σ := Gv.σ) (.s 5) uk)
        have u := tg (df (Gv.σ 0) ((Gv.σ 1).headD 0) [])
        exact ⟨zn9,
         zn9,
         zt [] (.i bcq aa5 .nil) (zh hI tx6) (zp hI hh) hI s8⟩
      ·have hI := fu hI ev jc
       have hI := be hI ev (.c 0)
       have := au (f91 hR (.v 1) .nil)
       have u := tg (df (Gv.σ 0) ((Gv.σ 1).headD 0) [])
       exact ⟨zn9,
        zt [] (.i (.app 92 ani) ad5 .nil) (zh hI tx6) (zp hI hh) hI s8,
        zn9⟩
     ·have hI := be hI aas (.c 0)
      have hI := fu hI aas (.c 1114112)
      have hI := be hI iy (.c 0)
      have hI := be hI (.len (.s 0)) iy
      have := au (f40 (σ := Gv.σ) aas)
      have hI := be hI avv ayg
      have hI := be hI ayg (.c 1)
      have := au (f91 hR iy aml)
      rcases jf hI (.app 91 am9) (.c 0) with ⟨hI, k16⟩ | ⟨hI, k16⟩
      ·have := au (f59 (σ := Gv.σ) (.s 5) bc3)
       rcases jf hI a9o (.c 0) with ⟨hI, k17⟩ | ⟨hI, k17⟩
       ·have hI := fu hI ev jc
        have hI := be hI ev (.c 0)
        have := au (f91 hR (.v 1) .nil)
        have := au (f59 (σ := Gv.σ) (.s 5) uk)
        have u := tg (df (Gv.σ 0) ((Gv.σ 1).headD 0) [])
        exact ⟨zt [] (.i (.app 93 am9) ana (.g (.app 59 a8t) al4 .nil)) (zh hI tx6) (zp hI hh) hI s8,
         zn9,
         zn9⟩
       ·have hI := fu hI ev jc
        have hI := be hI ev (.c 0)
        have := au (f91 hR (.v 1) .nil)
        have := au (f59 (σ := Gv.σ) (.s 5) uk)
        have u := tg (df (Gv.σ 0) ((Gv.σ 1).headD 0) [])
        exact ⟨zn9,
         zn9,
         zt [] (.i a9o aa5 .nil) (zh hI tx6) (zp hI hh) hI s8⟩
      ·have hI := fu hI ev jc
       have hI := be hI ev (.c 0)
       have := au (f91 hR (.v 1) .nil)
       have u := tg (df (Gv.σ 0) ((Gv.σ 1).headD 0) [])
       exact ⟨zn9,
        zt [] (.i (.app 92 am9) ad5 .nil) (zh hI tx6) (zp hI hh) hI s8,
        zn9⟩
    ·have := au (f91 hR (.v 1) .nil)
     have u := tg (df (Gv.σ 0) ((Gv.σ 1).headD 0) [])
     exact ⟨zn9,
      zt [] (.i bb0 ad5 .nil) (zh hI tx6) (zp hI hh) hI s8,
      zn9⟩
   ·have hI := be hI aad (.c 0)
    have hI := fu hI aad (.c 1114112)
    have hI := be hI ii (.c 0)
    have hI := be hI (.len (.s 0)) ii
    have := au (f40 (σ := Gv.σ) aad)
    have hI := be hI bew azs
    have hI := be hI azs (.c 1)
    have := au (f91 hR ii alx)
    rcases jf hI (.app 91 aly) (.c 0) with ⟨hI, k12⟩ | ⟨hI, k12⟩
    ·have := au (f59 (σ := Gv.σ) (.s 5) bc1)
     rcases jf hI bae (.c 0) with ⟨hI, k13⟩ | ⟨hI, k13⟩
     ·have hI := fu hI ol jc
      have hI := be hI ol (.c 0)
      have := au (f91 hR (.v 1) .nil)
      have := au (f59 (σ := Gv.σ) (.s 5) uk)
      have u := tg (df (Gv.σ 0) ((Gv.σ 1).headD 0) [])
      exact ⟨zt [] (.i (.app 93 aly) ana (.g (.app 59 a9l) al4 .nil)) (zh hI tx6) (zp hI hh) hI s8,
       zn9,
       zn9⟩
     ·have hI := fu hI ol jc
      have hI := be hI ol (.c 0)
      have := au (f91 hR (.v 1) .nil)
      have := au (f59 (σ := Gv.σ) (.s 5) uk)
      have u := tg (df (Gv.σ 0) ((Gv.σ 1).headD 0) [])
      exact ⟨zn9,
       zn9,
       zt [] (.i bae aa5 .nil) (zh hI tx6) (zp hI hh) hI s8⟩
    ·have hI := fu hI ol jc
     have hI := be hI ol (.c 0)
     have := au (f91 hR (.v 1) .nil)
     have u := tg (df (Gv.σ 0) ((Gv.σ 1).headD 0) [])
     exact ⟨zn9,
      zt [] (.i (.app 92 aly) ad5 .nil) (zh hI tx6) (zp hI hh) hI s8,
      zn9⟩
 ·have := au (f91 hR (.v 1) .nil)
  have u := tg (df (Gv.σ 0) ((Gv.σ 1).headD 0) [])
  exact ⟨zn9,
   zt [] (.i (.len (.s 0)) ad5 .nil) (zh hI tx6) (zp hI hh) hI s8,
   zn9⟩
def b6f [Gv] : Prop := (SAll Gv.σ a94 → cg 60 4 bfa 265 bgk bw1 270 bxy) ∧ (SAll Gv.σ bcj → cg 60 4 bfa 265 bgk bx0 270 bui) ∧ (SAll Gv.σ bde → cg 60 4 bfa 265 bgk bxd 270 bua)
theorem b30 [Gv] (hh : ∀ t ∈ [b0b mLn, b1s mLn, bz8 mLn, b1j mLn, b18 mLn, b05 mLn], ba t) (hI : SAll Gv.σ (pI ++ adm)) : b6f := by
 obtain ⟨⟨hR, hp0, hpl, hL⟩, h4, h41⟩ := ben hI
 rcases arb hI aaj (.len (.s 0)) with ⟨hI, k1⟩ | ⟨hI, k1⟩
 ·have hI := be hI aaj (.c 0)
  have := au (pz hR aaj)
  have hI := be hI zl (.c 0)
  rcases jf hI zl (.c 34) with ⟨hI, k4⟩ | ⟨hI, k4⟩
  ·have hI := fu hI (.c 0) (.len (.s 4))
   have hI := be hI (.c 60000) (.len (.s 4))
   have hI := be hI (.c 20000) (.len (.s 4))
   have := au (f59 (σ := Gv.σ) (.s 5) (.s 4))
   rcases jf hI bd1 (.c 0) with ⟨hI, k8⟩ | ⟨hI, k8⟩
   ·have := au (f91 hR (.v 1) (.s 4))
    have := au (f59 (σ := Gv.σ) (.s 5) uo)
    have u := tg (df (Gv.σ 0) ((Gv.σ 1).headD 0) (Gv.σ 4))
    exact ⟨zt [] (.i ii aln (.g (.app 59 (.g (.s 5) ai5)) agz .nil)) (zh hI tx6) (zp hI hh) hI s8,
     zn9,
     zn9⟩
   ·have := au (f91 hR (.v 1) (.s 4))
    have := au (f59 (σ := Gv.σ) (.s 5) uo)
    have u := tg (df (Gv.σ 0) ((Gv.σ 1).headD 0) (Gv.σ 4))
    exact ⟨zn9,
     zn9,
     zt [] (.i bd1 aa3 .nil) (zh hI tx6) (zp hI hh) hI s8⟩
  ·rcases jf hI zl (.c 92) with ⟨hI, k5⟩ | ⟨hI, k5⟩
   ·have hI := be hI ii (.c 0)
    have hI := be hI (.len (.s 0)) ii
    have := au (f87 hR ii)
    rcases jf hI bcn (.c 0) with ⟨hI, k8⟩ | ⟨hI, k8⟩
    ·rcases arb hI avq (.c 0) with ⟨hI, k9⟩ | ⟨hI, k9⟩
     ·have hI := be hI iy (.c 0)
      have hI := be hI (.len (.s 0)) iy
      have hI := be hI avv (.len (.s 4))
      have := au (f91 hR iy (.s 4))
      rcases jf hI (.app 91 ai4) (.c 0) with ⟨hI, k13⟩ | ⟨hI, k13⟩
      ·have := au (f59 (σ := Gv.σ) (.s 5) a3v)
       rcases jf hI a1m (.c 0) with ⟨hI, k14⟩ | ⟨hI, k14⟩
       ·have hI := fu hI ev jc
        have hI := be hI ev (.c 0)
        have := au (f91 hR (.v 1) (.s 4))
        have := au (f59 (σ := Gv.σ) (.s 5) uo)
        have u := tg (df (Gv.σ 0) ((Gv.σ 1).headD 0) (Gv.σ 4))
        exact ⟨zt [] (.i (.app 93 ai4) aln (.g (.app 59 a0v) agz .nil)) (zh hI tx6) (zp hI hh) hI s8,
         zn9,
         zn9⟩
       ·have hI := fu hI ev jc
        have hI := be hI ev (.c 0)
        have := au (f91 hR (.v 1) (.s 4))
        have := au (f59 (σ := Gv.σ) (.s 5) uo)
        have u := tg (df (Gv.σ 0) ((Gv.σ 1).headD 0) (Gv.σ 4))
        exact ⟨zn9,
         zn9,
         zt [] (.i a1m aa3 .nil) (zh hI tx6) (zp hI hh) hI s8⟩
      ·have hI := fu hI ev jc
       have hI := be hI ev (.c 0)
       have := au (f91 hR (.v 1) (.s 4))
       have u := tg (df (Gv.σ 0) ((Gv.σ 1).headD 0) (Gv.σ 4))
       exact ⟨zn9,
        zt [] (.i (.app 92 ai4) aeq .nil) (zh hI tx6) (zp hI hh) hI s8,
        zn9⟩
     ·have hI := be hI aas (.c 0)
      have hI := fu hI aas (.c 1114112)
      have hI := be hI (.c 50000) (.len (.s 4))
      have hI := be hI iy (.c 0)
      have hI := be hI (.len (.s 0)) iy
      have := au (f40 (σ := Gv.σ) aas)
      have hI := be hI avv a2d
      have hI := be hI a2d (.c 1)
      have := au (f91 hR iy a1j)
      rcases jf hI (.app 91 ah0) (.c 0) with ⟨hI, k17⟩ | ⟨hI, k17⟩
      ·have := au (f59 (σ := Gv.σ) (.s 5) a0y)
       rcases jf hI a09 (.c 0) with ⟨hI, k18⟩ | ⟨hI, k18⟩
       ·have hI := fu hI ev jc
        have hI := be hI ev (.c 0)
        have := au (f91 hR (.v 1) (.s 4))
        have := au (f59 (σ := Gv.σ) (.s 5) uo)
        have u := tg (df (Gv.σ 0) ((Gv.σ 1).headD 0) (Gv.σ 4))
        exact ⟨zt [] (.i (.app 93 ah0) aln (.g (.app 59 a1p) agz .nil)) (zh hI tx6) (zp hI hh) hI s8,
         zn9,
         zn9⟩
       ·have hI := fu hI ev jc
        have hI := be hI ev (.c 0)
        have := au (f91 hR (.v 1) (.s 4))
        have := au (f59 (σ := Gv.σ) (.s 5) uo)
        have u := tg (df (Gv.σ 0) ((Gv.σ 1).headD 0) (Gv.σ 4))
        exact ⟨zn9,
         zn9,
         zt [] (.i a09 aa3 .nil) (zh hI tx6) (zp hI hh) hI s8⟩
      ·have hI := fu hI ev jc
       have hI := be hI ev (.c 0)
       have := au (f91 hR (.v 1) (.s 4))
       have u := tg (df (Gv.σ 0) ((Gv.σ 1).headD 0) (Gv.σ 4))
       exact ⟨zn9,
        zt [] (.i (.app 92 ah0) aeq .nil) (zh hI tx6) (zp hI hh) hI s8,
        zn9⟩
    ·have := au (f91 hR (.v 1) (.s 4))
     have u := tg (df (Gv.σ 0) ((Gv.σ 1).headD 0) (Gv.σ 4))
     exact ⟨zn9,
      zt [] (.i bb0 aeq .nil) (zh hI tx6) (zp hI hh) hI s8,
      zn9⟩
   ·have hI := be hI aad (.c 0)
    have hI := fu hI aad (.c 1114112)
    have hI := be hI (.c 50000) (.len (.s 4))
    have hI := be hI ii (.c 0)
    have hI := be hI (.len (.s 0)) ii
    have := au (f40 (σ := Gv.σ) aad)
    have hI := be hI bew a07
    have hI := be hI a07 (.c 1)
    have := au (f91 hR ii a2b)
    rcases jf hI (.app 91 ain) (.c 0) with ⟨hI, k13⟩ | ⟨hI, k13⟩
    ·have := au (f59 (σ := Gv.σ) (.s 5) a2a)
     rcases jf hI a3p (.c 0) with ⟨hI, k14⟩ | ⟨hI, k14⟩
     ·have hI := fu hI ol jc
      have hI := be hI ol (.c 0)
      have := au (f91 hR (.v 1) (.s 4))
      have := au (f59 (σ := Gv.σ) (.s 5) uo)
      have u := tg (df (Gv.σ 0) ((Gv.σ 1).headD 0) (Gv.σ 4))
      exact ⟨zt [] (.i (.app 93 ain) aln (.g (.app 59 a3f) agz .nil)) (zh hI tx6) (zp hI hh) hI s8,
       zn9,
       zn9⟩
     ·have hI := fu hI ol jc
      have hI := be hI ol (.c 0)
      have := au (f91 hR (.v 1) (.s 4))
      have := au (f59 (σ := Gv.σ) (.s 5) uo)
      have u := tg (df (Gv.σ 0) ((Gv.σ 1).headD 0) (Gv.σ 4))
      exact ⟨zn9,
       zn9,
       zt [] (.i a3p aa3 .nil) (zh hI tx6) (zp hI hh) hI s8⟩
    ·have hI := fu hI ol jc
     have hI := be hI ol (.c 0)
     have := au (f91 hR (.v 1) (.s 4))
     have u := tg (df (Gv.σ 0) ((Gv.σ 1).headD 0) (Gv.σ 4))
     exact ⟨zn9,
      zt [] (.i (.app 92 ain) aeq .nil) (zh hI tx6) (zp hI hh) hI s8,
      zn9⟩
 ·have := au (f91 hR (.v 1) (.s 4))
  have u := tg (df (Gv.σ 0) ((Gv.σ 1).headD 0) (Gv.σ 4))
  exact ⟨zn9,
   zt [] (.i (.len (.s 0)) aeq .nil) (zh hI tx6) (zp hI hh) hI s8,
   zn9⟩
theorem zz : ∀ (B : Nat) (σ : Nat → List Int), mLn.eval σ < (B : Int) → (SAll σ pI → @b67 ⟨σ⟩) ∧ (SAll σ (pI ++ adm) → @b6f ⟨σ⟩)
 | 0, σ, hb => by
   refine ⟨fun hI => ?_, fun hI => ?_⟩
   ·obtain ⟨h1, h2, h3, h4⟩ := qj hI; simp only [mLn, evs, wr] at hb; omega
   ·obtain ⟨⟨h1, h2, h3, h4⟩, _⟩ := ben hI; simp only [mLn, evs, wr] at hb; omega
 | B + 1, σ, hb => by
   have hh : ∀ t ∈ [b0b mLn, b1s mLn, bz8 mLn, b1j mLn, b18 mLn, b05 mLn], @ba ⟨σ⟩ t := by
    intro t ht
    simp only [List.mem_cons, List.not_mem_nil, or_false] at ht
    rcases ht with rfl | rfl | rfl | rfl | rfl | rfl
    ·exact fun σ' _ hA hb' => by
      have hb' : 0 ≤ mLn.eval σ' ∧ mLn.eval σ' < mLn.eval σ := hb'
      exact ((zz B σ' (by omega)).1 (aj hA).1).1 (aj hA).2
    ·exact fun σ' _ hA hb' => by
      have hb' : 0 ≤ mLn.eval σ' ∧ mLn.eval σ' < mLn.eval σ := hb'
      exact ((zz B σ' (by omega)).1 (aj hA).1).2.1 (aj hA).2
    ·exact fun σ' _ hA hb' => by
      have hb' : 0 ≤ mLn.eval σ' ∧ mLn.eval σ' < mLn.eval σ := hb'
      exact ((zz B σ' (by omega)).1 (aj hA).1).2.2 (aj hA).2
    ·exact fun σ' _ hA hb' => by
      have hb' : 0 ≤ mLn.eval σ' ∧ mLn.eval σ' < mLn.eval σ := hb'
      exact ((zz B σ' (by omega)).2 (aj hA).1).1 (aj hA).2
    ·exact fun σ' _ hA hb' => by
      have hb' : 0 ≤ mLn.eval σ' ∧ mLn.eval σ' < mLn.eval σ := hb'
      exact ((zz B σ' (by omega)).2 (aj hA).1).2.1 (aj hA).2
    ·exact fun σ' _ hA hb' => by
      have hb' : 0 ≤ mLn.eval σ' ∧ mLn.eval σ' < mLn.eval σ := hb'
      exact ((zz B σ' (by omega)).2 (aj hA).1).2.2 (aj hA).2
   exact ⟨fun hI => @b8w ⟨σ⟩ hh hI, fun hI => @b30 ⟨σ⟩ hh hI⟩
theorem bqh [Gv] : ba a1f := fun σ _ hA _ => ((zz ((mLn.eval σ).toNat + 1) σ (by omega)).1 (aj hA).1).1 (aj hA).2
theorem bp2 [Gv] : ba a1u := fun σ _ hA _ => ((zz ((mLn.eval σ).toNat + 1) σ (by omega)).1 (aj hA).1).2.1 (aj hA).2
theorem bp5 [Gv] : ba a2o := fun σ _ hA _ => ((zz ((mLn.eval σ).toNat + 1) σ (by omega)).1 (aj hA).1).2.2 (aj hA).2
end Go.Ev
