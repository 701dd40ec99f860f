import Derived.Test.YtdeddgiacdjjdaaGreatDoorPfE
import Derived.Test.YtdeddgiacdjjdaaGreatDoorPfK00
import Derived.Test.YtdeddgiacdjjdaaGreatDoorPfK10
import Derived.Test.YtdeddgiacdjjdaaGreatDoorPfK01
import Derived.Test.YtdeddgiacdjjdaaGreatDoorPfK11
set_option maxRecDepth 100000
set_option linter.all false
namespace Go.Ev
noncomputable def dgC2 (w : Nat) : Bool := vw [] 256 256 .nil [] (.ret (bc (Nat.blt w 10) (.str 1 (48 + w)) (.str 2 ((48 + w / 10) * 256 + (48 + w % 10))))) (enter (ajx ay1 a3c 2000) 16 (aVs [] [.int .i64 w]) (bf (aHO [] []) 256))
theorem a9v : (List.range 60).all dgC2 = true := by kernel_rfl
theorem a4v [Gv] {w : Nat} (hw : w < 60) : fe (dgW w) := fun σ _ _ _ => letI : Gv := ⟨σ⟩; cy (n := 2000) (A := []) (T := []) (E := .nil) fp ia SAll.nil trivial rfl rfl (List.all_eq_true.1 a9v w (List.mem_range.2 hw))
theorem hHs [Gv] {w : Nat} (hw : w < 60) : ∀ t ∈ fHs w, fe t := by
 intro t ht
 unfold fHs at ht
 simp only [List.mem_cons, zH, or_false] at ht
 rcases ht with rfl | rfl | rfl | rfl | rfl | rfl | rfl | rfl | rfl | rfl | rfl | rfl | rfl
 ·exact a6a
 ·exact a5i
 ·exact a5o
 ·exact a5s
 ·exact a4v hw
 ·exact a42
 ·exact a50
 ·exact a5u
 ·exact a44
 ·exact az7
 ·exact azj
 ·exact a5j
 ·exact a47
theorem gz [Gv] {l z : Bool} {A : List SA} {w : Nat} (hw : w < 60) (h : qj l z A w = true) (hA : SAll Gv.σ A) : lm 4 (fU l z) 256 [] (.ret (.bool true)) 256 [] :=
 cy (n := 2000) (T := []) (E := .nil) (ie hA _ (hHs hw)) ia hA trivial rfl rfl h
theorem kLo : ∀ l z, qj l z fLo 0 = true := by intro l z; cases l <;> cases z <;> kernel_rfl
theorem kHi : ∀ l z, qj l z fHi 0 = true := by intro l z; cases l <;> cases z <;> kernel_rfl
theorem ag {f : Nat → Bool} {a : Nat} (h : ([a, a + 1, a + 2, a + 3] : List Nat).all f = true) {w : Nat} (h1 : a ≤ w) (h2 : w < a + 4) : f w = true := by
 refine List.all_eq_true.1 h w ?_
 have : w = a ∨ w = a + 1 ∨ w = a + 2 ∨ w = a + 3 := by omega
 rcases this with rfl | rfl | rfl | rfl <;> simp
theorem aaj {σ : Nat → List Int} {n m : Nat} (h : (aq n m).all (fun b => decide (b.toNat < 128)) = true) : ed ((GE.lit n m).eval σ) = 1 := ascN1.2 fun x hx => by
 obtain ⟨b, hb, rfl⟩ := List.mem_map.1 (show x ∈ (aq n m).map fun b => (b.toNat : Int) from hx)
 have := of_decide_eq_true (List.all_eq_true.1 h b hb)
 omega
theorem a2s {σ : Nat → List Int} {w : Nat} (hw : w < 60) : ed ((wu w).eval σ) = 1 := by
 have h : (List.range 60).all (fun w => (aq (fSt 15397 2 w).1 (fSt 15397 2 w).2).all (fun b => decide (b.toNat < 128))) = true := by kernel_rfl
 exact aaj (List.all_eq_true.1 h w (List.mem_range.2 hw))
theorem a6h {w : Nat} (hw : w < 60) : jc w = true := by
 have : (0 ≤ w ∧ w < 4) ∨ (4 ≤ w ∧ w < 8) ∨ (8 ≤ w ∧ w < 12) ∨ (12 ≤ w ∧ w < 16) ∨ (16 ≤ w ∧ w < 20) ∨ (20 ≤ w ∧ w < 24) ∨ (24 ≤ w ∧ w < 28) ∨ (28 ≤ w ∧ w < 32) ∨ (32 ≤ w ∧ w < 36) ∨ (36 ≤ w ∧ w < 40) ∨ (40 ≤ w ∧ w < 44) ∨ (44 ≤ w ∧ w < 48) ∨ (48 ≤ w ∧ w < 52) ∨ (52 ≤ w ∧ w < 56) ∨ (56 ≤ w ∧ w < 60) := by omega
 rcases this with h | h | h | h | h | h | h | h | h | h | h | h | h | h | h
 ·exact ag (a := 0) a08 h.1 h.2
 ·exact ag (a := 4) a09 h.1 h.2
 ·exact ag (a := 8) a1a h.1 h.2
 ·exact ag (a := 12) asw h.1 h.2
 ·exact ag (a := 16) asx h.1 h.2
 ·exact ag (a := 20) asy h.1 h.2
 ·exact ag (a := 24) asz h.1 h.2
 ·exact ag (a := 28) as0 h.1 h.2
 ·exact ag (a := 32) as1 h.1 h.2
 ·exact ag (a := 36) as2 h.1 h.2
 ·exact ag (a := 40) as3 h.1 h.2
 ·exact ag (a := 44) as4 h.1 h.2
 ·exact ag (a := 48) as5 h.1 h.2
 ·exact ag (a := 52) as6 h.1 h.2
 ·exact ag (a := 56) as7 h.1 h.2
theorem a6i {w : Nat} (hw : w < 60) : jd w = true := by
 have : (0 ≤ w ∧ w < 4) ∨ (4 ≤ w ∧ w < 8) ∨ (8 ≤ w ∧ w < 12) ∨ (12 ≤ w ∧ w < 16) ∨ (16 ≤ w ∧ w < 20) ∨ (20 ≤ w ∧ w < 24) ∨ (24 ≤ w ∧ w < 28) ∨ (28 ≤ w ∧ w < 32) ∨ (32 ≤ w ∧ w < 36) ∨ (36 ≤ w ∧ w < 40) ∨ (40 ≤ w ∧ w < 44) ∨ (44 ≤ w ∧ w < 48) ∨ (48 ≤ w ∧ w < 52) ∨ (52 ≤ w ∧ w < 56) ∨ (56 ≤ w ∧ w < 60) := by omega
 rcases this with h | h | h | h | h | h | h | h | h | h | h | h | h | h | h
 ·exact ag (a := 0) a1b h.1 h.2
 ·exact ag (a := 4) a1c h.1 h.2
 ·exact ag (a := 8) a1d h.1 h.2
 ·exact ag (a := 12) as8 h.1 h.2
 ·exact ag (a := 16) as9 h.1 h.2
 ·exact ag (a := 20) ata h.1 h.2
 ·exact ag (a := 24) atb h.1 h.2
 ·exact ag (a := 28) atc h.1 h.2
 ·exact ag (a := 32) atd h.1 h.2
 ·exact ag (a := 36) ate h.1 h.2
 ·exact ag (a := 40) atf h.1 h.2
 ·exact ag (a := 44) atg h.1 h.2
 ·exact ag (a := 48) ath h.1 h.2
 ·exact ag (a := 52) ati h.1 h.2
 ·exact ag (a := 56) atj h.1 h.2
theorem a6j {w : Nat} (hw : w < 60) : je w = true := by
 have : (0 ≤ w ∧ w < 4) ∨ (4 ≤ w ∧ w < 8) ∨ (8 ≤ w ∧ w < 12) ∨ (12 ≤ w ∧ w < 16) ∨ (16 ≤ w ∧ w < 20) ∨ (20 ≤ w ∧ w < 24) ∨ (24 ≤ w ∧ w < 28) ∨ (28 ≤ w ∧ w < 32) ∨ (32 ≤ w ∧ w < 36) ∨ (36 ≤ w ∧ w < 40) ∨ (40 ≤ w ∧ w < 44) ∨ (44 ≤ w ∧ w < 48) ∨ (48 ≤ w ∧ w < 52) ∨ (52 ≤ w ∧ w < 56) ∨ (56 ≤ w ∧ w < 60) := by omega
 rcases this with h | h | h | h | h | h | h | h | h | h | h | h | h | h | h
 ·exact ag (a := 0) a1e h.1 h.2
 ·exact ag (a := 4) a1f h.1 h.2
 ·exact ag (a := 8) a1g h.1 h.2
 ·exact ag (a := 12) atk h.1 h.2
 ·exact ag (a := 16) atl h.1 h.2
 ·exact ag (a := 20) atm h.1 h.2
 ·exact ag (a := 24) atn h.1 h.2
 ·exact ag (a := 28) ato h.1 h.2
 ·exact ag (a := 32) atp h.1 h.2
 ·exact ag (a := 36) atq h.1 h.2
 ·exact ag (a := 40) atr h.1 h.2
 ·exact ag (a := 44) ats h.1 h.2
 ·exact ag (a := 48) att h.1 h.2
 ·exact ag (a := 52) atu h.1 h.2
 ·exact ag (a := 56) atv h.1 h.2
theorem a6k {w : Nat} (hw : w < 60) : jf w = true := by
 have : (0 ≤ w ∧ w < 4) ∨ (4 ≤ w ∧ w < 8) ∨ (8 ≤ w ∧ w < 12) ∨ (12 ≤ w ∧ w < 16) ∨ (16 ≤ w ∧ w < 20) ∨ (20 ≤ w ∧ w < 24) ∨ (24 ≤ w ∧ w < 28) ∨ (28 ≤ w ∧ w < 32) ∨ (32 ≤ w ∧ w < 36) ∨ (36 ≤ w ∧ w < 40) ∨ (40 ≤ w ∧ w < 44) ∨ (44 ≤ w ∧ w < 48) ∨ (48 ≤ w ∧ w < 52) ∨ (52 ≤ w ∧ w < 56) ∨ (56 ≤ w ∧ w < 60) := by omega
 rcases this with h | h | h | h | h | h | h | h | h | h | h | h | h | h | h
 ·exact ag (a := 0) a1h h.1 h.2
 ·exact ag (a := 4) a1i h.1 h.2
 ·exact ag (a := 8) a1j h.1 h.2
 ·exact ag (a := 12) atw h.1 h.2
 ·exact ag (a := 16) atx h.1 h.2
 ·exact ag (a := 20) aty h.1 h.2
 ·exact ag (a := 24) atz h.1 h.2
 ·exact ag (a := 28) at0 h.1 h.2
 ·exact ag (a := 32) at1 h.1 h.2
 ·exact ag (a := 36) at2 h.1 h.2
 ·exact ag (a := 40) at3 h.1 h.2
 ·exact ag (a := 44) at4 h.1 h.2
 ·exact ag (a := 48) at5 h.1 h.2
 ·exact ag (a := 52) at6 h.1 h.2
 ·exact ag (a := 56) at7 h.1 h.2
theorem a2u {σ : Nat → List Int} {w : Nat} (hw : w < 60) : ed ((ww w).eval σ) = 1 := by
 have h : (List.range 60).all (fun w => (aq (fSt 3941677 3 w).1 (fSt 3941677 3 w).2).all (fun b => decide (b.toNat < 128))) = true := by kernel_rfl
 exact aaj (List.all_eq_true.1 h w (List.mem_range.2 hw))
theorem a6p {w : Nat} (hw : w < 60) : jk w = true := by
 have : (0 ≤ w ∧ w < 4) ∨ (4 ≤ w ∧ w < 8) ∨ (8 ≤ w ∧ w < 12) ∨ (12 ≤ w ∧ w < 16) ∨ (16 ≤ w ∧ w < 20) ∨ (20 ≤ w ∧ w < 24) ∨ (24 ≤ w ∧ w < 28) ∨ (28 ≤ w ∧ w < 32) ∨ (32 ≤ w ∧ w < 36) ∨ (36 ≤ w ∧ w < 40) ∨ (40 ≤ w ∧ w < 44) ∨ (44 ≤ w ∧ w < 48) ∨ (48 ≤ w ∧ w < 52) ∨ (52 ≤ w ∧ w < 56) ∨ (56 ≤ w ∧ w < 60) := by omega
 rcases this with h | h | h | h | h | h | h | h | h | h | h | h | h | h | h
 ·exact ag (a := 0) a1w h.1 h.2
 ·exact ag (a := 4) a1x h.1 h.2
 ·exact ag (a := 8) a1y h.1 h.2
 ·exact ag (a := 12) avl h.1 h.2
 ·exact ag (a := 16) avm h.1 h.2
 ·exact ag (a := 20) avn h.1 h.2
 ·exact ag (a := 24) avo h.1 h.2
 ·exact ag (a := 28) avp h.1 h.2
 ·exact ag (a := 32) avq h.1 h.2
 ·exact ag (a := 36) avr h.1 h.2
 ·exact ag (a := 40) avs h.1 h.2
 ·exact ag (a := 44) avt h.1 h.2
 ·exact ag (a := 48) avu h.1 h.2
 ·exact ag (a := 52) avv h.1 h.2
 ·exact ag (a := 56) avw h.1 h.2
theorem a6q {w : Nat} (hw : w < 60) : jl w = true := by
 have : (0 ≤ w ∧ w < 4) ∨ (4 ≤ w ∧ w < 8) ∨ (8 ≤ w ∧ w < 12) ∨ (12 ≤ w ∧ w < 16) ∨ (16 ≤ w ∧ w < 20) ∨ (20 ≤ w ∧ w < 24) ∨ (24 ≤ w ∧ w < 28) ∨ (28 ≤ w ∧ w < 32) ∨ (32 ≤ w ∧ w < 36) ∨ (36 ≤ w ∧ w < 40) ∨ (40 ≤ w ∧ w < 44) ∨ (44 ≤ w ∧ w < 48) ∨ (48 ≤ w ∧ w < 52) ∨ (52 ≤ w ∧ w < 56) ∨ (56 ≤ w ∧ w < 60) := by omega
 rcases this with h | h | h | h | h | h | h | h | h | h | h | h | h | h | h
 ·exact ag (a := 0) a1z h.1 h.2
 ·exact ag (a := 4) a16 h.1 h.2
 ·exact ag (a := 8) a17 h.1 h.2
 ·exact ag (a := 12) avx h.1 h.2
 ·exact ag (a := 16) avy h.1 h.2
 ·exact ag (a := 20) avz h.1 h.2
 ·exact ag (a := 24) av0 h.1 h.2
 ·exact ag (a := 28) av1 h.1 h.2
 ·exact ag (a := 32) av2 h.1 h.2
 ·exact ag (a := 36) av3 h.1 h.2
 ·exact ag (a := 40) av4 h.1 h.2
 ·exact ag (a := 44) av5 h.1 h.2
 ·exact ag (a := 48) av6 h.1 h.2
 ·exact ag (a := 52) av7 h.1 h.2
 ·exact ag (a := 56) av8 h.1 h.2
theorem a6r {w : Nat} (hw : w < 60) : jm w = true := by
 have : (0 ≤ w ∧ w < 4) ∨ (4 ≤ w ∧ w < 8) ∨ (8 ≤ w ∧ w < 12) ∨ (12 ≤ w ∧ w < 16) ∨ (16 ≤ w ∧ w < 20) ∨ (20 ≤ w ∧ w < 24) ∨ (24 ≤ w ∧ w < 28) ∨ (28 ≤ w ∧ w < 32) ∨ (32 ≤ w ∧ w < 36) ∨ (36 ≤ w ∧ w < 40) ∨ (40 ≤ w ∧ w < 44) ∨ (44 ≤ w ∧ w < 48) ∨ (48 ≤ w ∧ w < 52) ∨ (52 ≤ w ∧ w < 56) ∨ (56 ≤ w ∧ w < 60) := by omega
 rcases this with h | h | h | h | h | h | h | h | h | h | h | h | h | h | h
 ·exact ag (a := 0) a18 h.1 h.2
 ·exact ag (a := 4) a19 h.1 h.2
 ·exact ag (a := 8) a2a h.1 h.2
 ·exact ag (a := 12) av9 h.1 h.2
 ·exact ag (a := 16) awa h.1 h.2
 ·exact ag (a := 20) awb h.1 h.2
 ·exact ag (a := 24) awc h.1 h.2
 ·exact ag (a := 28) awd h.1 h.2
 ·exact ag (a := 32) awe h.1 h.2
 ·exact ag (a := 36) awf h.1 h.2
 ·exact ag (a := 40) awg h.1 h.2
 ·exact ag (a := 44) awh h.1 h.2
 ·exact ag (a := 48) awi h.1 h.2
 ·exact ag (a := 52) awj h.1 h.2
 ·exact ag (a := 56) awk h.1 h.2
theorem a6s {w : Nat} (hw : w < 60) : jn w = true := by
 have : (0 ≤ w ∧ w < 4) ∨ (4 ≤ w ∧ w < 8) ∨ (8 ≤ w ∧ w < 12) ∨ (12 ≤ w ∧ w < 16) ∨ (16 ≤ w ∧ w < 20) ∨ (20 ≤ w ∧ w < 24) ∨ (24 ≤ w ∧ w < 28) ∨ (28 ≤ w ∧ w < 32) ∨ (32 ≤ w ∧ w < 36) ∨ (36 ≤ w ∧ w < 40) ∨ (40 ≤ w ∧ w < 44) ∨ (44 ≤ w ∧ w < 48) ∨ (48 ≤ w ∧ w < 52) ∨ (52 ≤ w ∧ w < 56) ∨ (56 ≤ w ∧ w < 60) := by omega
 rcases this with h | h | h | h | h | h | h | h | h | h | h | h | h | h | h
 ·exact ag (a := 0) a2b h.1 h.2
 ·exact ag (a := 4) a2c h.1 h.2
 ·exact ag (a := 8) a2d h.1 h.2
 ·exact ag (a := 12) awl h.1 h.2
 ·exact ag (a := 16) awm h.1 h.2
 ·exact ag (a := 20) awn h.1 h.2
 ·exact ag (a := 24) awo h.1 h.2
 ·exact ag (a := 28) awp h.1 h.2
 ·exact ag (a := 32) awq h.1 h.2
 ·exact ag (a := 36) awr h.1 h.2
 ·exact ag (a := 40) aws h.1 h.2
 ·exact ag (a := 44) awt h.1 h.2
 ·exact ag (a := 48) awu h.1 h.2
 ·exact ag (a := 52) awv h.1 h.2
 ·exact ag (a := 56) aww h.1 h.2
theorem a2t {σ : Nat → List Int} {w : Nat} (hw : w < 60) : ed ((wv w).eval σ) = 1 := by
 have h : (List.range 60).all (fun w => (aq (fSt 3941680 3 w).1 (fSt 3941680 3 w).2).all (fun b => decide (b.toNat < 128))) = true := by kernel_rfl
 exact aaj (List.all_eq_true.1 h w (List.mem_range.2 hw))
theorem a6l {w : Nat} (hw : w < 60) : jg w = true := by
 have : (0 ≤ w ∧ w < 4) ∨ (4 ≤ w ∧ w < 8) ∨ (8 ≤ w ∧ w < 12) ∨ (12 ≤ w ∧ w < 16) ∨ (16 ≤ w ∧ w < 20) ∨ (20 ≤ w ∧ w < 24) ∨ (24 ≤ w ∧ w < 28) ∨ (28 ≤ w ∧ w < 32) ∨ (32 ≤ w ∧ w < 36) ∨ (36 ≤ w ∧ w < 40) ∨ (40 ≤ w ∧ w < 44) ∨ (44 ≤ w ∧ w < 48) ∨ (48 ≤ w ∧ w < 52) ∨ (52 ≤ w ∧ w < 56) ∨ (56 ≤ w ∧ w < 60) := by omega
 rcases this with h | h | h | h | h | h | h | h | h | h | h | h | h | h | h
 ·exact ag (a := 0) a1k h.1 h.2
 ·exact ag (a := 4) a1l h.1 h.2
 ·exact ag (a := 8) a1m h.1 h.2
 ·exact ag (a := 12) at8 h.1 h.2
 ·exact ag (a := 16) at9 h.1 h.2
 ·exact ag (a := 20) aua h.1 h.2
 ·exact ag (a := 24) aub h.1 h.2
 ·exact ag (a := 28) auc h.1 h.2
 ·exact ag (a := 32) aud h.1 h.2
 ·exact ag (a := 36) aue h.1 h.2
 ·exact ag (a := 40) auf h.1 h.2
 ·exact ag (a := 44) aug h.1 h.2
 ·exact ag (a := 48) auh h.1 h.2
 ·exact ag (a := 52) aui h.1 h.2
 ·exact ag (a := 56) auj h.1 h.2
theorem a6m {w : Nat} (hw : w < 60) : jh w = true := by
 have : (0 ≤ w ∧ w < 4) ∨ (4 ≤ w ∧ w < 8) ∨ (8 ≤ w ∧ w < 12) ∨ (12 ≤ w ∧ w < 16) ∨ (16 ≤ w ∧ w < 20) ∨ (20 ≤ w ∧ w < 24) ∨ (24 ≤ w ∧ w < 28) ∨ (28 ≤ w ∧ w < 32) ∨ (32 ≤ w ∧ w < 36) ∨ (36 ≤ w ∧ w < 40) ∨ (40 ≤ w ∧ w < 44) ∨ (44 ≤ w ∧ w < 48) ∨ (48 ≤ w ∧ w < 52) ∨ (52 ≤ w ∧ w < 56) ∨ (56 ≤ w ∧ w < 60) := by omega
 rcases this with h | h | h | h | h | h | h | h | h | h | h | h | h | h | h
 ·exact ag (a := 0) a1n h.1 h.2
 ·exact ag (a := 4) a1o h.1 h.2
 ·exact ag (a := 8) a1p h.1 h.2
 ·exact ag (a := 12) auk h.1 h.2
 ·exact ag (a := 16) aul h.1 h.2
 ·exact ag (a := 20) aum h.1 h.2
 ·exact ag (a := 24) aun h.1 h.2
 ·exact ag (a := 28) auo h.1 h.2
 ·exact ag (a := 32) aup h.1 h.2
 ·exact ag (a := 36) auq h.1 h.2
 ·exact ag (a := 40) aur h.1 h.2
 ·exact ag (a := 44) aus h.1 h.2
 ·exact ag (a := 48) aut h.1 h.2
 ·exact ag (a := 52) auu h.1 h.2
 ·exact ag (a := 56) auv h.1 h.2
theorem a6n {w : Nat} (hw : w < 60) : ji w = true := by
 have : (0 ≤ w ∧ w < 4) ∨ (4 ≤ w ∧ w < 8) ∨ (8 ≤ w ∧ w < 12) ∨ (12 ≤ w ∧ w < 16) ∨ (16 ≤ w ∧ w < 20) ∨ (20 ≤ w ∧ w < 24) ∨ (24 ≤ w ∧ w < 28) ∨ (28 ≤ w ∧ w < 32) ∨ (32 ≤ w ∧ w < 36) ∨ (36 ≤ w ∧ w < 40) ∨ (40 ≤ w ∧ w < 44) ∨ (44 ≤ w ∧ w < 48) ∨ (48 ≤ w ∧ w < 52) ∨ (52 ≤ w ∧ w < 56) ∨ (56 ≤ w ∧ w < 60) := by omega
 rcases this with h | h | h | h | h | h | h | h | h | h | h | h | h | h | h
 ·exact ag (a := 0) a1q h.1 h.2
 ·exact ag (a := 4) a1r h.1 h.2
 ·exact ag (a := 8) a1s h.1 h.2
 ·exact ag (a := 12) auw h.1 h.2
 ·exact ag (a := 16) auy h.1 h.2
 ·exact ag (a := 20) auz h.1 h.2
 ·exact ag (a := 24) au0 h.1 h.2
 ·exact ag (a := 28) au1 h.1 h.2
 ·exact ag (a := 32) au2 h.1 h.2
 ·exact ag (a := 36) au3 h.1 h.2
 ·exact ag (a := 40) au4 h.1 h.2
 ·exact ag (a := 44) au5 h.1 h.2
 ·exact ag (a := 48) au6 h.1 h.2
 ·exact ag (a := 52) au7 h.1 h.2
 ·exact ag (a := 56) au8 h.1 h.2
theorem a6o {w : Nat} (hw : w < 60) : jj w = true := by
 have : (0 ≤ w ∧ w < 4) ∨ (4 ≤ w ∧ w < 8) ∨ (8 ≤ w ∧ w < 12) ∨ (12 ≤ w ∧ w < 16) ∨ (16 ≤ w ∧ w < 20) ∨ (20 ≤ w ∧ w < 24) ∨ (24 ≤ w ∧ w < 28) ∨ (28 ≤ w ∧ w < 32) ∨ (32 ≤ w ∧ w < 36) ∨ (36 ≤ w ∧ w < 40) ∨ (40 ≤ w ∧ w < 44) ∨ (44 ≤ w ∧ w < 48) ∨ (48 ≤ w ∧ w < 52) ∨ (52 ≤ w ∧ w < 56) ∨ (56 ≤ w ∧ w < 60) := by omega
 rcases this with h | h | h | h | h | h | h | h | h | h | h | h | h | h | h
 ·exact ag (a := 0) a1t h.1 h.2
 ·exact ag (a := 4) a1u h.1 h.2
 ·exact ag (a := 8) a1v h.1 h.2
 ·exact ag (a := 12) au9 h.1 h.2
 ·exact ag (a := 16) ava h.1 h.2
 ·exact ag (a := 20) avb h.1 h.2
 ·exact ag (a := 24) avc h.1 h.2
 ·exact ag (a := 28) avd h.1 h.2
 ·exact ag (a := 32) ave h.1 h.2
 ·exact ag (a := 36) avf h.1 h.2
 ·exact ag (a := 40) avg h.1 h.2
 ·exact ag (a := 44) avh h.1 h.2
 ·exact ag (a := 48) avi h.1 h.2
 ·exact ag (a := 52) avj h.1 h.2
 ·exact ag (a := 56) avk h.1 h.2
theorem a2v {σ : Nat → List Int} {w : Nat} (hw : w < 60) : ed ((wx w).eval σ) = 1 := by
 have h : (List.range 60).all (fun w => (aq (fSt 1009069360 4 w).1 (fSt 1009069360 4 w).2).all (fun b => decide (b.toNat < 128))) = true := by kernel_rfl
 exact aaj (List.all_eq_true.1 h w (List.mem_range.2 hw))
theorem a6t {w : Nat} (hw : w < 60) : jo w = true := by
 have : (0 ≤ w ∧ w < 4) ∨ (4 ≤ w ∧ w < 8) ∨ (8 ≤ w ∧ w < 12) ∨ (12 ≤ w ∧ w < 16) ∨ (16 ≤ w ∧ w < 20) ∨ (20 ≤ w ∧ w < 24) ∨ (24 ≤ w ∧ w < 28) ∨ (28 ≤ w ∧ w < 32) ∨ (32 ≤ w ∧ w < 36) ∨ (36 ≤ w ∧ w < 40) ∨ (40 ≤ w ∧ w < 44) ∨ (44 ≤ w ∧ w < 48) ∨ (48 ≤ w ∧ w < 52) ∨ (52 ≤ w ∧ w < 56) ∨ (56 ≤ w ∧ w < 60) := by omega
 rcases this with h | h | h | h | h | h | h | h | h | h | h | h | h | h | h
 ·exact ag (a := 0) a2e h.1 h.2
 ·exact ag (a := 4) a2f h.1 h.2
 ·exact ag (a := 8) a2g h.1 h.2
 ·exact ag (a := 12) awx h.1 h.2
 ·exact ag (a := 16) awy h.1 h.2
 ·exact ag (a := 20) awz h.1 h.2
 ·exact ag (a := 24) aw0 h.1 h.2
 ·exact ag (a := 28) aw5 h.1 h.2
 ·exact ag (a := 32) aw6 h.1 h.2
 ·exact ag (a := 36) aw7 h.1 h.2
 ·exact ag (a := 40) aw8 h.1 h.2
 ·exact ag (a := 44) aw9 h.1 h.2
 ·exact ag (a := 48) axa h.1 h.2
 ·exact ag (a := 52) axb h.1 h.2
 ·exact ag (a := 56) axc h.1 h.2
theorem a6u {w : Nat} (hw : w < 60) : jp w = true := by
 have : (0 ≤ w ∧ w < 4) ∨ (4 ≤ w ∧ w < 8) ∨ (8 ≤ w ∧ w < 12) ∨ (12 ≤ w ∧ w < 16) ∨ (16 ≤ w ∧ w < 20) ∨ (20 ≤ w ∧ w < 24) ∨ (24 ≤ w ∧ w < 28) ∨ (28 ≤ w ∧ w < 32) ∨ (32 ≤ w ∧ w < 36) ∨ (36 ≤ w ∧ w < 40) ∨ (40 ≤ w ∧ w < 44) ∨ (44 ≤ w ∧ w < 48) ∨ (48 ≤ w ∧ w < 52) ∨ (52 ≤ w ∧ w < 56) ∨ (56 ≤ w ∧ w < 60) := by omega
 rcases this with h | h | h | h | h | h | h | h | h | h | h | h | h | h | h
 ·exact ag (a := 0) a2h h.1 h.2
 ·exact ag (a := 4) a2i h.1 h.2
 ·exact ag (a := 8) a2j h.1 h.2
 ·exact ag (a := 12) axd h.1 h.2
 ·exact ag (a := 16) axe h.1 h.2
 ·exact ag (a := 20) axf h.1 h.2
 ·exact ag (a := 24) axg h.1 h.2
 ·exact ag (a := 28) axh h.1 h.2
 ·exact ag (a := 32) axi h.1 h.2
 ·exact ag (a := 36) axj h.1 h.2
 ·exact ag (a := 40) axk h.1 h.2
 ·exact ag (a := 44) axl h.1 h.2
 ·exact ag (a := 48) axm h.1 h.2
 ·exact ag (a := 52) axn h.1 h.2
 ·exact ag (a := 56) axo h.1 h.2
theorem a6v {w : Nat} (hw : w < 60) : jq w = true := by
 have : (0 ≤ w ∧ w < 4) ∨ (4 ≤ w ∧ w < 8) ∨ (8 ≤ w ∧ w < 12) ∨ (12 ≤ w ∧ w < 16) ∨ (16 ≤ w ∧ w < 20) ∨ (20 ≤ w ∧ w < 24) ∨ (24 ≤ w ∧ w < 28) ∨ (28 ≤ w ∧ w < 32) ∨ (32 ≤ w ∧ w < 36) ∨ (36 ≤ w ∧ w < 40) ∨ (40 ≤ w ∧ w < 44) ∨ (44 ≤ w ∧ w < 48) ∨ (48 ≤ w ∧ w < 52) ∨ (52 ≤ w ∧ w < 56) ∨ (56 ≤ w ∧ w < 60) := by omega
 rcases this with h | h | h | h | h | h | h | h | h | h | h | h | h | h | h
 ·exact ag (a := 0) a2k h.1 h.2
 ·exact ag (a := 4) a2l h.1 h.2
 ·exact ag (a := 8) a2m h.1 h.2
 ·exact ag (a := 12) axp h.1 h.2
 ·exact ag (a := 16) axq h.1 h.2
 ·exact ag (a := 20) axr h.1 h.2
 ·exact ag (a := 24) axs h.1 h.2
 ·exact ag (a := 28) axt h.1 h.2
 ·exact ag (a := 32) axu h.1 h.2
 ·exact ag (a := 36) axv h.1 h.2
 ·exact ag (a := 40) axw h.1 h.2
 ·exact ag (a := 44) axx h.1 h.2
 ·exact ag (a := 48) axy h.1 h.2
 ·exact ag (a := 52) axz h.1 h.2
 ·exact ag (a := 56) ax0 h.1 h.2
theorem a6w {w : Nat} (hw : w < 60) : jr w = true := by
 have : (0 ≤ w ∧ w < 4) ∨ (4 ≤ w ∧ w < 8) ∨ (8 ≤ w ∧ w < 12) ∨ (12 ≤ w ∧ w < 16) ∨ (16 ≤ w ∧ w < 20) ∨ (20 ≤ w ∧ w < 24) ∨ (24 ≤ w ∧ w < 28) ∨ (28 ≤ w ∧ w < 32) ∨ (32 ≤ w ∧ w < 36) ∨ (36 ≤ w ∧ w < 40) ∨ (40 ≤ w ∧ w < 44) ∨ (44 ≤ w ∧ w < 48) ∨ (48 ≤ w ∧ w < 52) ∨ (52 ≤ w ∧ w < 56) ∨ (56 ≤ w ∧ w < 60) := by omega
 rcases this with h | h | h | h | h | h | h | h | h | h | h | h | h | h | h
 ·exact ag (a := 0) a2n h.1 h.2
 ·exact ag (a := 4) a2o h.1 h.2
 ·exact ag (a := 8) a2p h.1 h.2
 ·exact ag (a := 12) ax1 h.1 h.2
 ·exact ag (a := 16) ax2 h.1 h.2
 ·exact ag (a := 20) ax3 h.1 h.2
 ·exact ag (a := 24) ax4 h.1 h.2
 ·exact ag (a := 28) ax5 h.1 h.2
 ·exact ag (a := 32) ax6 h.1 h.2
 ·exact ag (a := 36) ax7 h.1 h.2
 ·exact ag (a := 40) ax8 h.1 h.2
 ·exact ag (a := 44) ax9 h.1 h.2
 ·exact ag (a := 48) aya h.1 h.2
 ·exact ag (a := 52) ayb h.1 h.2
 ·exact ag (a := 56) ayc h.1 h.2
noncomputable instance gv0 : Gv := ⟨fun _ => []⟩
theorem a2w {G G' : Gv} {w : World} (h : @LaidIn G laidL w) : @LaidIn G' laidL w := by
 intro g cs hm
 obtain ⟨arr, t, fz, h1, h2⟩ := h g cs hm
 exact ⟨arr, t, fz, h1, fun ρ => w7 (@gg G _ (@fo G) g cs hm).2.1 (h2 ρ)⟩
theorem ass {n : Int} (h : (Lit.int .i64 n).wf = true) : -9223372036854775808 ≤ n ∧ n ≤ 9223372036854775807 := by
 simp [Lit.wf] at h
 have a : (-9223372036854775808 : Int) ≤ n := h.1
 have b : n ≤ 9223372036854775807 := h.2
 constructor <;> omega
def ew (a b : Int) : Nat → List Int := fun i => if i = 1 then [a] else if i = 2 then [b] else []
theorem a02 (a b : Int) (l z : Bool) (ha : -9223372036854775808 ≤ a ∧ a ≤ 9223372036854775807) (hb : -9223372036854775808 ≤ b ∧ b ≤ 9223372036854775807) (w : World) (hl : LaidIn laidL w) :
  Calls PP 4 #[.int .i64 a, .int .i64 b, .bool l, .bool z] w fun e w' => e = .returned (.bool true) ∧ KeptW w w' := by
 have hI : SAll (ew a b) fI := sc (sF.2 ha.1) (sc (sF.2 ha.2) (sc (sF.2 hb.1) (sc (sF.2 hb.2) SAll.nil)))
 have hF : @lm ⟨ew a b⟩ 4 (fU l z) 256 [] (.ret (.bool true)) 256 [] := by
  by_cases q1 : a < -2305843009213693952
  ·exact @gz ⟨ew a b⟩ l z _ 0 (by omega) (kLo l z) (ee hI (sc (sT.2 q1) SAll.nil))
  by_cases q2 : 2305843009213693951 < a
  ·exact @gz ⟨ew a b⟩ l z _ 0 (by omega) (kHi l z) (ee hI (sc (sF.2 (by show (-2305843009213693952 : Int) ≤ a; omega)) (sc (sT.2 q2) SAll.nil)))
  have e0 := Int.emod_nonneg b (show (60 : Int) ≠ 0 by omega)
  have e1 := Int.emod_lt_of_pos b (show (0 : Int) < 60 by omega)
  obtain ⟨v, hv⟩ : ∃ v : Nat, b % 60 = (v : Int) := ⟨(b % 60).toNat, by omega⟩
  have hw : v < 60 := by omega
  have hn : SAll (ew a b) (fIn v) := ee hI (sc (sE.2 (show b.emod 60 = Int.ofNat v from hv)) (sc (sF.2 (by show (-2305843009213693952 : Int) ≤ a; omega)) (sc (sF.2 (by show a ≤ (2305843009213693951 : Int); omega)) SAll.nil)))
  have r1 : -2305843009213693952 ≤ (ew a b 1).headD 0 := by show (-2305843009213693952 : Int) ≤ a; omega
  have r2 : (ew a b 1).headD 0 ≤ 2305843009213693951 := by show a ≤ (2305843009213693951 : Int); omega
  by_cases hs : (ew a b 1).headD 0 < 0
  ·by_cases hf : (v : Int) - (1 + ((c9 (-((ew a b 1).headD 0))).length : Int)) < 0
   ·cases l <;> cases z
    ·exact @gz ⟨ew a b⟩ _ _ _ v hw (a6h hw) (ee hn (ao8 (by omega) r1 r2 (a2s hw) hs hf))
    ·exact @gz ⟨ew a b⟩ _ _ _ v hw (a6l hw) (ee hn (apc (by omega) r1 r2 (a2t hw) hs hf))
    ·exact @gz ⟨ew a b⟩ _ _ _ v hw (a6p hw) (ee hn (apg (by omega) r1 r2 (a2u hw) hs hf))
    ·exact @gz ⟨ew a b⟩ _ _ _ v hw (a6t hw) (ee hn (apk (by omega) r1 r2 (a2v hw) hs hf))
   ·cases l <;> cases z
    ·exact @gz ⟨ew a b⟩ _ _ _ v hw (a6i hw) (ee hn (ao9 (by omega) r1 r2 (a2s hw) hs (Int.not_lt.1 hf)))
    ·exact @gz ⟨ew a b⟩ _ _ _ v hw (a6m hw) (ee hn (apd (by omega) r1 r2 (a2t hw) hs (Int.not_lt.1 hf)))
    ·exact @gz ⟨ew a b⟩ _ _ _ v hw (a6q hw) (ee hn (aph (by omega) r1 r2 (a2u hw) hs (Int.not_lt.1 hf)))
    ·exact @gz ⟨ew a b⟩ _ _ _ v hw (a6u hw) (ee hn (apl (by omega) r1 r2 (a2v hw) hs (Int.not_lt.1 hf)))
  ·by_cases hf : (v : Int) - ((c9 ((ew a b 1).headD 0)).length : Int) < 0
   ·cases l <;> cases z
    ·exact @gz ⟨ew a b⟩ _ _ _ v hw (a6j hw) (ee hn (apa (by omega) r1 r2 (a2s hw) (Int.not_lt.1 hs) hf))
    ·exact @gz ⟨ew a b⟩ _ _ _ v hw (a6n hw) (ee hn (ape (by omega) r1 r2 (a2t hw) (Int.not_lt.1 hs) hf))
    ·exact @gz ⟨ew a b⟩ _ _ _ v hw (a6r hw) (ee hn (api (by omega) r1 r2 (a2u hw) (Int.not_lt.1 hs) hf))
    ·exact @gz ⟨ew a b⟩ _ _ _ v hw (a6v hw) (ee hn (apm (by omega) r1 r2 (a2v hw) (Int.not_lt.1 hs) hf))
   ·cases l <;> cases z
    ·exact @gz ⟨ew a b⟩ _ _ _ v hw (a6k hw) (ee hn (apb (by omega) r1 r2 (a2s hw) (Int.not_lt.1 hs) (Int.not_lt.1 hf)))
    ·exact @gz ⟨ew a b⟩ _ _ _ v hw (a6o hw) (ee hn (apf (by omega) r1 r2 (a2t hw) (Int.not_lt.1 hs) (Int.not_lt.1 hf)))
    ·exact @gz ⟨ew a b⟩ _ _ _ v hw (a6s hw) (ee hn (apj (by omega) r1 r2 (a2u hw) (Int.not_lt.1 hs) (Int.not_lt.1 hf)))
    ·exact @gz ⟨ew a b⟩ _ _ _ v hw (a6w hw) (ee hn (apn (by omega) r1 r2 (a2v hw) (Int.not_lt.1 hs) (Int.not_lt.1 hf)))
 have hv : @VRels ⟨ew a b⟩ ρ00 (fU l z) (#[Value.int .i64 a, Value.int .i64 b, Value.bool l, Value.bool z] : Array Value).toList := by
  show @VRels ⟨ew a b⟩ ρ00 [.sym .i64 (.v 1) [], .sym .i64 (.v 2) [], .bool l, .bool z] [.int .i64 a, .int .i64 b, .bool l, .bool z]
  simp only [VRels, VRel]
  exact ⟨_, _, rfl, ⟨SAll.nil, rfl⟩, _, _, rfl, ⟨SAll.nil, rfl⟩, _, _, rfl, rfl, _, _, rfl, rfl, rfl⟩
 refine Calls.mono (hF ρ00 _ w (@ab7 ⟨ew a b⟩) (@a57 ⟨ew a b⟩ w (a2w hl)) (@a0p ⟨ew a b⟩) hv) fun e w' hp => ?_
 obtain ⟨v', ρ', rfl, hv2, hA⟩ := hp
 simp only [VRel] at hv2
 subst hv2
 exact ⟨rfl, @agq ⟨ew a b⟩ _ _ _ _ _ _ hA (@a8l ⟨ew a b⟩)⟩
theorem fmt_wf (a b : Int) (l z : Bool) (ha : (Lit.int .i64 a).wf = true) (hb : (Lit.int .i64 b).wf = true) (w : World) (hl : LaidIn laidL w) :
  Calls PP 4 #[.int .i64 a, .int .i64 b, .bool l, .bool z] w fun e w' => e = .returned (.bool true) ∧ KeptW w w' := a02 a b l z (ass ha) (ass hb) w hl
end Go.Ev
