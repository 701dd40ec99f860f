import Derived.Test.YtocilenpboklbaaGreatDoorHqM
set_option maxRecDepth 100000
set_option linter.all false
namespace Go.Ev
theorem bk4 : mC 0 [] = true := by kernel_rfl
theorem bk5 : mC 1 kE = true := by kernel_rfl
theorem bk7 : mC 1 kU = true := by kernel_rfl
theorem bk6 : mC 1 kN = true := by kernel_rfl
theorem bk8 : mC 2 kE = true := by kernel_rfl
theorem bla : mC 2 kU = true := by kernel_rfl
theorem bk9 : mC 2 kN = true := by kernel_rfl
theorem blb : mC 3 kE = true := by kernel_rfl
theorem bld : mC 3 kU = true := by kernel_rfl
theorem blc : mC 3 kN = true := by kernel_rfl
theorem blf : mC 4 kE = true := by kernel_rfl
theorem blh : mC 4 kU = true := by kernel_rfl
theorem blg : mC 4 kN = true := by kernel_rfl
theorem bli : mC 5 kE = true := by kernel_rfl
theorem bll : mC 5 kU = true := by kernel_rfl
theorem blj : mC 5 kN = true := by kernel_rfl
theorem blm : mC 6 kE = true := by kernel_rfl
theorem blo : mC 6 kU = true := by kernel_rfl
theorem bln : mC 6 kN = true := by kernel_rfl
theorem blp : mC 7 kE = true := by kernel_rfl
theorem blr : mC 7 kU = true := by kernel_rfl
theorem blq : mC 7 kN = true := by kernel_rfl
theorem bls : mC 8 kE = true := by kernel_rfl
theorem blv : mC 8 kU = true := by kernel_rfl
theorem blu : mC 8 kN = true := by kernel_rfl
theorem blw : mC 9 kE = true := by kernel_rfl
theorem bly : mC 9 kU = true := by kernel_rfl
theorem blx : mC 9 kN = true := by kernel_rfl
theorem beh : mC 10 kE = true := by kernel_rfl
theorem bej : mC 10 kU = true := by kernel_rfl
theorem bei : mC 10 kN = true := by kernel_rfl
theorem bek : mC 11 kE = true := by kernel_rfl
theorem bem : mC 11 kU = true := by kernel_rfl
theorem bel : mC 11 kN = true := by kernel_rfl
theorem ben : mC 12 kE = true := by kernel_rfl
theorem bep : mC 12 kU = true := by kernel_rfl
theorem beo : mC 12 kN = true := by kernel_rfl
theorem ber : mC 13 kE = true := by kernel_rfl
theorem bet : mC 13 kU = true := by kernel_rfl
theorem bes : mC 13 kN = true := by kernel_rfl
theorem beu : mC 14 kE = true := by kernel_rfl
theorem bew : mC 14 kU = true := by kernel_rfl
theorem bev : mC 14 kN = true := by kernel_rfl
theorem bex : mC 15 kE = true := by kernel_rfl
theorem bez : mC 15 kU = true := by kernel_rfl
theorem bey : mC 15 kN = true := by kernel_rfl
theorem be0 : mC 16 kE = true := by kernel_rfl
theorem be2 : mC 16 kU = true := by kernel_rfl
theorem be1 : mC 16 kN = true := by kernel_rfl
theorem be3 : mC 17 kE = true := by kernel_rfl
theorem be5 : mC 17 kU = true := by kernel_rfl
theorem be4 : mC 17 kN = true := by kernel_rfl
theorem be6 : mC 18 kE = true := by kernel_rfl
theorem be8 : mC 18 kU = true := by kernel_rfl
theorem be7 : mC 18 kN = true := by kernel_rfl
theorem be9 : mC 19 kE = true := by kernel_rfl
theorem bfb : mC 19 kU = true := by kernel_rfl
theorem bfa : mC 19 kN = true := by kernel_rfl
theorem bfc : mC 20 kE = true := by kernel_rfl
theorem bfe : mC 20 kU = true := by kernel_rfl
theorem bfd : mC 20 kN = true := by kernel_rfl
theorem bi1 [Gv] (hI : SAll Gv.σ [.mk false (.app 221 (.g (.s 5) .nil)) (.c 1) true, .mk false (.app 231 (.g (.s 5) .nil)) (.c 1) true, .mk true (.app 213 (.g (.s 5) (.i (.v 1) (.i (.v 2) .nil)))) (.c 0) false, .mk true (.c 20) (.app 213 (.g (.s 5) (.i (.v 1) (.i (.v 2) .nil)))) false, .mk false (.app 232 (.g (.app 213 (.g (.s 5) (.i (.v 1) (.i (.v 2) .nil)))) .nil)) (.c 1) true, .mk true (.v 3) (.c 37) false, .mk true (.c 61) (.v 3) false]) : br 43 a0o 260 a0l a0n 300 a0m := by
 obtain ⟨⟨hP, hC⟩, l1, l2, ⟨l, l4, l5⟩, l6, l7⟩ := bbx hI
 have ln : (l.length : Int) = jv (Gv.σ 5) ((Gv.σ 1).headD 0) ((Gv.σ 2).headD 0) := by
  have h1 := a9i (Gv.σ 5) ((Gv.σ 1).headD 0) ((Gv.σ 2).headD 0) l1
  rw [l4, ahe] at h1; omega
 have hq : MsQ l := ⟨ln.symm, by omega, l4, l5⟩
 have go : ∀ (L : Nat) (k : List SA), mC L k = true → SAll Gv.σ k → L = l.length → br 43 a0o 260 a0l a0n 300 a0m := fun L k h hk hL => bku h (bkr hq hI hk L hL) (bks hq L hL)
 have go3 : ∀ (L : Nat), mC L kE = true → mC L kU = true → mC L kN = true → L = l.length → br 43 a0o 260 a0l a0n 300 a0m := by
  intro L h1 h2 h3 hL
  by_cases a : (Gv.σ 3).headD 0 = 37
  ·exact go L kE h1 (sc (wy a) SAll.nil) hL
  ·by_cases b : (Gv.σ 3).headD 0 = 59
   ·exact go L kU h2 (sc (zu a) (sc (wy b) SAll.nil)) hL
   ·exact go L kN h3 (sc (zu a) (sc (zu b) SAll.nil)) hL
 have hl : l.length ≤ 20 := by omega
 generalize hn : l.length = n at hl
 have : n = 0 ∨ n = 1 ∨ n = 2 ∨ n = 3 ∨ n = 4 ∨ n = 5 ∨ n = 6 ∨ n = 7 ∨ n = 8 ∨ n = 9 ∨ n = 10 ∨ n = 11 ∨ n = 12 ∨ n = 13 ∨ n = 14 ∨ n = 15 ∨ n = 16 ∨ n = 17 ∨ n = 18 ∨ n = 19 ∨ n = 20 := by omega
 rcases this with rfl | rfl | rfl | rfl | rfl | rfl | rfl | rfl | rfl | rfl | rfl | rfl | rfl | rfl | rfl | rfl | rfl | rfl | rfl | rfl | rfl
 ·exact go 0 [] bk4 SAll.nil hn.symm
 ·exact go3 1 bk5 bk7 bk6 hn.symm
 ·exact go3 2 bk8 bla bk9 hn.symm
 ·exact go3 3 blb bld blc hn.symm
 ·exact go3 4 blf blh blg hn.symm
 ·exact go3 5 bli bll blj hn.symm
 ·exact go3 6 blm blo bln hn.symm
 ·exact go3 7 blp blr blq hn.symm
 ·exact go3 8 bls blv blu hn.symm
 ·exact go3 9 blw bly blx hn.symm
 ·exact go3 10 beh bej bei hn.symm
 ·exact go3 11 bek bem bel hn.symm
 ·exact go3 12 ben bep beo hn.symm
 ·exact go3 13 ber bet bes hn.symm
 ·exact go3 14 beu bew bev hn.symm
 ·exact go3 15 bex bez bey hn.symm
 ·exact go3 16 be0 be2 be1 hn.symm
 ·exact go3 17 be3 be5 be4 hn.symm
 ·exact go3 18 be6 be8 be7 hn.symm
 ·exact go3 19 be9 bfb bfa hn.symm
 ·exact go3 20 bfc bfe bfd hn.symm
theorem bfh [Gv] : bo bl4 := fun σ _ hA _ => @bi1 ⟨σ⟩ (cm hA).1
end Go.Ev
