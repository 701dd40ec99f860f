import Derived.Test.YtocilenpboklbaaGreatDoorHqU
set_option maxRecDepth 100000
set_option linter.all false
namespace Go.Ev
abbrev bhw : SE := .bin 7 .i64 (.c (-1)) (.v 8)
abbrev an6 : SE := .bin 6 .i64 (.v 13) bhw
abbrev auz : GE := .cat (.s 7) (.app 225 (.g (.s 10) (.i (.v 8) .nil)))
abbrev au0 : GE := .cat (.s 17) (.app 226 (.g (.s 10) (.i (.v 8) .nil)))
abbrev au1 : SE := .app 230 (.g (.s 10) .nil)
abbrev aoc : SE := .bin 6 .i64 (.v 6) an6
abbrev aak : SE := .bin 7 .i64 (.c 2) (.v 6)
abbrev a7s : SE := .bin 6 .i64 (.len (.s 17)) (.bin 7 .i64 (.c 30) an6)
abbrev adt : List SA := [.mk true (.v 12) (.c 0) false, .mk true (.v 13) (.c 1) false, .mk true (.c 20) (.v 13) false, .mk false (.len (.s 10)) (.v 13) true, .mk false au1 (.c 1) true, .mk true (.c 1) (.v 8) true, .mk true (.v 13) (.v 8) false, .mk true (.v 6) (.c 1) false, .mk true (.c 200) aoc false, .mk false (.len (.s 7)) aak true, .mk true (.c 3000) a7s false]
abbrev afa : SE := .bin 6 .i64 (.v 6) (.bin 6 .i64 (.v 13) (.c (-1)))
abbrev ays : GE := .app 225 (.g (.s 10) (.i (.c 1) .nil))
abbrev an1 : GE := .cat (.s 7) ays
abbrev ayt : GE := .app 226 (.g (.s 10) (.i (.c 1) .nil))
abbrev an2 : GE := .cat (.s 17) ayt
abbrev an3 : List SA := [.mk true (.v 12) (.c 0) false, .mk true (.v 13) (.c 1) false, .mk true (.c 20) (.v 13) false, .mk false (.len (.s 10)) (.v 13) true, .mk false au1 (.c 1) true, .mk true (.v 6) (.c 1) false, .mk true (.c 100) (.v 6) false, .mk false (.len (.s 7)) aak true, .mk true (.c 100) (.len (.s 17)) false]
abbrev an4 : AL := .g (.s 10) (.i (.c 0) .nil)
abbrev ayu : GE := .app 226 an4
abbrev ab8 : List SA := [.mk true (.v 12) (.c 0) false, .mk true (.v 13) (.c 1) false, .mk true (.c 20) (.v 13) false, .mk false (.len (.s 10)) (.v 13) true, .mk false au1 (.c 1) true]
abbrev an5 : AL := .i (.v 6) (.g (.s 5) (.g (.s 7) (.i (.c 1) (.i (.c 0) .nil))))
abbrev an7 : SE := .app 221 (.g (.s 5) .nil)
abbrev an8 : List SA := [.mk false an7 (.c 1) true, .mk true (.v 6) (.c 0) false, .mk true (.c 20000) (.v 6) false, .mk false (.len (.s 7)) aak true, .mk true (.rd (.s 5) (.c 0)) (.bin 6 .i64 (.app 201 (.g (.s 5) .nil)) (.v 6)) false]
abbrev ayv : List SA := [.mk false an7 (.c 1) true, .mk true (.rd (.s 5) (.c 0)) (.app 201 (.g (.s 5) .nil)) false]
abbrev yt : List SA := [.mk true (.v 6) (.c 1) false, .mk true (.c 1000) (.v 6) false, .mk false (.len (.s 7)) aak true, .mk false (.v 9) (.v 6) true, .mk false (.eqg (.s 8) (.s 7)) (.c 1) true, .mk true (.v 11) (.c 0) false, .mk true (.v 6) (.v 11) false]
abbrev afb : List SA := [.mk true (.v 6) (.c 1) false, .mk true (.c 1000) (.v 6) false, .mk false (.len (.s 7)) aak true, .mk false (.v 9) (.v 6) true, .mk false (.eqg (.s 8) (.s 7)) (.c 1) true]
abbrev vm : SE := .bin 6 .i64 (.v 6) (.c 1)
abbrev sm : SE := .c 9223372036854775807
abbrev afc : SE := .bin 6 .i64 (.len (.s 17)) (.c 2)
abbrev ab9 : SE := .rd (.s 10) (.v 8)
abbrev an9 : SE := .c (-9223372036854775808)
abbrev ayw : GE := .app 121 (.i ab9 .nil)
abbrev ayx : SE := .bin 6 .i64 afc (.len ayw)
abbrev afd : SE := .bin 0 .i64 (.v 8) (.c 1)
abbrev afe : SE := .bin 6 .i64 (.v 13) (.bin 7 .i64 (.c (-1)) afd)
abbrev ayy : SE := .bin 6 .i64 vm afe
abbrev ayz : SE := .bin 6 .i64 (.len (.s 7)) (.c 2)
abbrev ay0 : SE := .bin 7 .i64 (.c 2) vm
abbrev ay1 : AL := .g (.s 10) (.i afd .nil)
abbrev aca : SE := .rd (.s 10) (.c 1)
abbrev ay2 : GE := .app 121 (.i aca .nil)
abbrev ay3 : SE := .bin 6 .i64 afc (.len ay2)
abbrev ay4 : SE := .bin 6 .i64 vm (.bin 6 .i64 (.v 13) (.c (-2)))
abbrev acb : SE := .rd (.s 10) (.c 0)
abbrev ay5 : GE := .app 121 (.i acb .nil)
abbrev ay6 : SE := .bin 6 .i64 (.c 2) (.len ay5)
abbrev aoa : SE := .bin 7 .i64 (.c 2) (.v 11)
abbrev ay7 : SE := .bin 6 .i64 aoa (.c 1)
abbrev aob : SE := .bin 0 .i64 (.v 11) (.c 1)
abbrev ay8 : SE := .bin 6 .i64 (.v 6) (.bin 7 .i64 (.c (-1)) aob)
noncomputable section
def slW (k : Nat) (n : SE) : AV := .gv (.sl (K.of k) 2 n [])
def mSm : SE := .bin 6 .i64 (.v 6) (.bin 7 .i64 (.c (-1)) (.v 11))
def mDt : SE := an6
def bd6 : List AV := [vI 20, .gv (.sr (K.of 256) (.v 12) (.v 13) []), vI 21, .top, .top, .top, .top, .top, .ptr (K.of 257) 0, .top, .ptr (K.of 258) 0, slW 259 (.v 6), .gv (.str (.s 17) []), vI 8, .top, .top, .top, .top, .top, .top, .top, .top, .top, .top, .top, .top, .top, .top, .top, .top, .top, .top, .top, .top, .top, .top, .top, .top, .top, .top, .top, .top, .top, .top, .top, .top, .top, .top, .top, .top, .top, .top, .top, .top, .top, .top, .top, .top, .top, .top, .top, .top, .top, .top, .top, .top, .top, .top, .top, .top, .top, .top, .top, .top, .top, .top, .top, .top, .top, .top, .top, .top, .top, .top, .top, .top, .top, .top, .top, .top, .top, .top, .top, .top, .top, .top, .top, .top, .top, .top, .top, .top, .top, .top, .top, .top, .top, .top, .top, .top, .top, .top, .top, .top, .top, .top, .top, .top, .top, .top, .top, .top, .top, .top, .top, .top, .top, .top, .top, .top, .top, .top, .top, .top, .top, .top, .top, .top, .top, .top, .top, .top, .top, .top, .top, .top, .top, .top, .top, .top, .top, .top, .top, .top, .top, .top, .top, .top, .top, .top, .top, .top, .top, .top, .top, .top, .top, .top, .top, .top, .top, .top, .top, .top, .top, .top, .top, .top, .top, .top, .top, .top, .top, .top, .top, .top, .top, .top, .top, .top, .top, .top, .top, .top, .top, .top, .top, .top, .top, .top, .top, .top, .top, .top, .top, .top, .top, .top, .top, .top, .top, .top, .top, .top, .top, .top, .top, .top, .top, .top, .top, .top, .top, .top, .top]
def bd3 : List HO := [.mk 256 (.gob (.rh (.v 12) (.v 13) (.s 10))), wdR 259 (.v 6) (.s 7)]
def bd4 : List HO := [wdR 260 (.bin 6 .i64 (.v 6) mDt) auz]
def bd5 : LR := (.x 0 ([vI 20, .top, vI 21, .top, .top, .top, .top, .top, .ptr (K.of 257) 0, .top, .ptr (K.of 258) 0, slW 260 (.bin 6 .i64 (.v 6) mDt), .gv (.str au0 []), .top, .top, .top, .top, .top, .top, .top, .top, .top, .top, .top, .top, .top, .top, .top, .top, .top, .top, .top, .top, .top, .top, .top, .top, .top, .top, .top, .top, .top, .top, .top, .top, .top, .top, .top, .top, .top, .top, .top, .top, .top, .top, .top, .top, .top, .top, .top, .top, .top, .top, .top, .top, .top, .top, .top, .top, .top, .top, .top, .top, .top, .top, .top, .top, .top, .top, .top, .top, .top, .top, .top, .top, .top, .top, .top, .top, .top, .top, .top, .top, .top, .top, .top, .top, .top, .top, .top, .top, .top, .top, .top, .top, .top, .top, .top, .top, .top, .top, .top, .top, .top, .top, .top, .top, .top, .top, .top, .top, .top, .top, .top, .top, .top, .top, .top, .top, .top, .top, .top, .top, .top, .top, .top, .top, .top, .top, .top, .top, .top, .top, .top, .top, .top, .top, .top, .top, .top, .top, .top, .top, .top, .top, .top, .top, .top, .top, .top, .top, .top, .top, .top, .top, .top, .top, .top, .top, .top, .top, .top, .top, .top, .top, .top, .top, .top, .top, .top, .top, .top, .top, .top, .top, .top, .top, .top, .top, .top, .top, .top, .top, .top, .top, .top, .top, .top, .top, .top, .top, .top, .top, .top, .top, .top, .top, .top, .top, .top, .top, .top, .top, .top, .top, .top, .top, .top, .top, .top, .top, .top, .top, .top, .top]))
def ld1 (m : SE) : LT := .mk 8 25 bd6 260 bd3 (adt ++ []) (some (mDt, m)) bd5 262 bd4
def bke : LT := .mk 8 25 bd6 260 bd3 (adt ++ []) none bd5 262 bd4
def bkj : List AV := [vI 20, .gv (.sr (K.of 256) (.v 12) (.v 13) []), vI 21, .top, .top, .top, .top, .top, .ptr (K.of 257) 0, .top, .ptr (K.of 258) 0, slW 259 (.v 6), .gv (.str (.s 17) []), .int .i64 1, .top, .top, .top, .top, .top, .top, .top, .top, .top, .top, .top, .top, .top, .top, .top, .top, .top, .top, .top, .top, .top, .top, .top, .top, .top, .top, .top, .top, .top, .top, .top, .top, .top, .top, .top, .top, .top, .top, .top, .top, .top, .top, .top, .top, .top, .top, .top, .top, .top, .top, .top, .top, .top, .top, .top, .top, .top, .top, .top, .top, .top, .top, .top, .top, .top, .top, .top, .top, .top, .top, .top, .top, .top, .top, .top, .top, .top, .top, .top, .top, .top, .top, .top, .top, .top, .top, .top, .top, .top, .top, .top, .top, .top, .top, .top, .top, .top, .top, .top, .top, .top, .top, .top, .top, .top, .top, .top, .top, .top, .top, .top, .top, .top, .top, .top, .top, .top, .top, .top, .top, .top, .top, .top, .top, .top, .top, .top, .top, .top, .top, .top, .top, .top, .top, .top, .top, .top, .top, .top, .top, .top, .top, .top, .top, .top, .top, .top, .top, .top, .top, .top, .top, .top, .top, .top, .top, .top, .top, .top, .top, .top, .top, .top, .top, .top, .top, .top, .top, .top, .top, .top, .top, .top, .top, .top, .top, .top, .top, .top, .top, .top, .top, .top, .top, .top, .top, .top, .top, .top, .top, .top, .top, .top, .top, .top, .top, .top, .top, .top, .top, .top, .top, .top, .top, .top, .top, .top, .top, .top, .top, .top]
def bkg : List HO := [.mk 256 (.gob (.rh (.v 12) (.v 13) (.s 10))), wdR 259 (.v 6) (.s 7)]
def bkh : List HO := [wdR 260 afa an1]
def bki : LR := (.x 0 ([vI 20, .top, vI 21, .top, .top, .top, .top, .top, .ptr (K.of 257) 0, .top, .ptr (K.of 258) 0, slW 260 afa, .gv (.str an2 []), .top, .top, .top, .top, .top, .top, .top, .top, .top, .top, .top, .top, .top, .top, .top, .top, .top, .top, .top, .top, .top, .top, .top, .top, .top, .top, .top, .top, .top, .top, .top, .top, .top, .top, .top, .top, .top, .top, .top, .top, .top, .top, .top, .top, .top, .top, .top, .top, .top, .top, .top, .top, .top, .top, .top, .top, .top, .top, .top, .top, .top, .top, .top, .top, .top, .top, .top, .top, .top, .top, .top, .top, .top, .top, .top, .top, .top, .top, .top, .top, .top, .top, .top, .top, .top, .top, .top, .top, .top, .top, .top, .top, .top, .top, .top, .top, .top, .top, .top, .top, .top, .top, .top, .top, .top, .top, .top, .top, .top, .top, .top, .top, .top, .top, .top, .top, .top, .top, .top, .top, .top, .top, .top, .top, .top, .top, .top, .top, .top, .top, .top, .top, .top, .top, .top, .top, .top, .top, .top, .top, .top, .top, .top, .top, .top, .top, .top, .top, .top, .top, .top, .top, .top, .top, .top, .top, .top, .top, .top, .top, .top, .top, .top, .top, .top, .top, .top, .top, .top, .top, .top, .top, .top, .top, .top, .top, .top, .top, .top, .top, .top, .top, .top, .top, .top, .top, .top, .top, .top, .top, .top, .top, .top, .top, .top, .top, .top, .top, .top, .top, .top, .top, .top, .top, .top, .top, .top, .top, .top, .top, .top, .top]))
def bkf : LT := .mk 8 25 bkj 260 bkg (an3 ++ []) none bki 262 bkh
def bkd : List AV := [vI 20, .gv (.sr (K.of 256) (.v 12) (.v 13) []), vI 21, .top, .top, .top, .top, .top, .ptr (K.of 257) 0, .top, .ptr (K.of 258) 0, .nilSlice, .str 0 0, .int .i64 0, .top, .top, .top, .top, .top, .top, .top, .top, .top, .top, .top, .top, .top, .top, .top, .top, .top, .top, .top, .top, .top, .top, .top, .top, .top, .top, .top, .top, .top, .top, .top, .top, .top, .top, .top, .top, .top, .top, .top, .top, .top, .top, .top, .top, .top, .top, .top, .top, .top, .top, .top, .top, .top, .top, .top, .top, .top, .top, .top, .top, .top, .top, .top, .top, .top, .top, .top, .top, .top, .top, .top, .top, .top, .top, .top, .top, .top, .top, .top, .top, .top, .top, .top, .top, .top, .top, .top, .top, .top, .top, .top, .top, .top, .top, .top, .top, .top, .top, .top, .top, .top, .top, .top, .top, .top, .top, .top, .top, .top, .top, .top, .top, .top, .top, .top, .top, .top, .top, .top, .top, .top, .top, .top, .top, .top, .top, .top, .top, .top, .top, .top, .top, .top, .top, .top, .top, .top, .top, .top, .top, .top, .top, .top, .top, .top, .top, .top, .top, .top, .top, .top, .top, .top, .top, .top, .top, .top, .top, .top, .top, .top, .top, .top, .top, .top, .top, .top, .top, .top, .top, .top, .top, .top, .top, .top, .top, .top, .top, .top, .top, .top, .top, .top, .top, .top, .top, .top, .top, .top, .top, .top, .top, .top, .top, .top, .top, .top, .top, .top, .top, .top, .top, .top, .top, .top, .top, .top, .top, .top, .top, .top]
def bka : List HO := [.mk 256 (.gob (.rh (.v 12) (.v 13) (.s 10)))]
def bkb : List HO := [wdR 260 (.v 13) (.app 225 an4)]
def bkc : LR := (.x 0 ([vI 20, .top, vI 21, .top, .top, .top, .top, .top, .ptr (K.of 257) 0, .top, .ptr (K.of 258) 0, slW 260 (.v 13), .gv (.str ayu []), .top, .top, .top, .top, .top, .top, .top, .top, .top, .top, .top, .top, .top, .top, .top, .top, .top, .top, .top, .top, .top, .top, .top, .top, .top, .top, .top, .top, .top, .top, .top, .top, .top, .top, .top, .top, .top, .top, .top, .top, .top, .top, .top, .top, .top, .top, .top, .top, .top, .top, .top, .top, .top, .top, .top, .top, .top, .top, .top, .top, .top, .top, .top, .top, .top, .top, .top, .top, .top, .top, .top, .top, .top, .top, .top, .top, .top, .top, .top, .top, .top, .top, .top, .top, .top, .top, .top, .top, .top, .top, .top, .top, .top, .top, .top, .top, .top, .top, .top, .top, .top, .top, .top, .top, .top, .top, .top, .top, .top, .top, .top, .top, .top, .top, .top, .top, .top, .top, .top, .top, .top, .top, .top, .top, .top, .top, .top, .top, .top, .top, .top, .top, .top, .top, .top, .top, .top, .top, .top, .top, .top, .top, .top, .top, .top, .top, .top, .top, .top, .top, .top, .top, .top, .top, .top, .top, .top, .top, .top, .top, .top, .top, .top, .top, .top, .top, .top, .top, .top, .top, .top, .top, .top, .top, .top, .top, .top, .top, .top, .top, .top, .top, .top, .top, .top, .top, .top, .top, .top, .top, .top, .top, .top, .top, .top, .top, .top, .top, .top, .top, .top, .top, .top, .top, .top, .top, .top, .top, .top, .top, .top, .top]))
def a4d : LT := .mk 8 25 bkd 259 bka (ab8 ++ []) none bkc 262 bkb
def bn2 : List AV := [hpp, vI 1, .gv (.sl (K.of 257) 2 (.v 6) [])]
def bnz : List HO := [hH 256 (.s 5), wdR 257 (.v 6) (.s 7)]
def bn0 : List HO := [hH 256 (.app 210 an5), wdR 257 (.v 6) (.s 7)]
def bn1 : TR := .ret (.tuple [.agg [.int .i64 1, vI 1, sX (.app 211 an5), sX (.app 212 an5)], .int .i64 0])
def bny : TM := .mk 41 bn2 258 bnz (an8 ++ []) none bn1 300 bn0
def bnx : List AV := [hpp, vI 1, .nilSlice]
def bnu : List HO := [hH 256 (.s 5)]
def bnv : List HO := [hH 256 (.s 5)]
def bnw : TR := .ret (.tuple [.agg [.int .i64 1, vI 1, .int .i64 1, .int .i64 0], .int .i64 0])
def bnt : TM := .mk 41 bnx 257 bnu (ayv ++ []) none bnw 300 bnv
def bf4 : List AV := [.gv (.sl (K.of 256) 2 (.v 9) []), .gv (.sl (K.of 257) 2 (.v 6) []), .top, .top, .top, vI 11, .top, .top, .top, .top, .top, .top, .top, .top, .top, .top, .top, .top, .top, .top, .top, .top, .top, .top, .top, .top]
def bf1 : List HO := [wdR 256 (.v 9) (.s 8), wdR 257 (.v 6) (.s 7)]
def bf2 : List HO := [wdR 256 (.v 9) (.s 8), wdR 257 (.v 6) (.s 7)]
def bf3 : LR := (.x 0 ([.top, .top, .top, .top, .top, .top, .top, .top, .top, .top, .top, .top, .top, .top, .top, .top, .top, .top, .top, .top, .top, .top, .top, .top, .top, .top]))
def saL (m : SE) : LT := .mk 45 9 bf4 258 bf1 (yt ++ []) (some (mSm, m)) bf3 260 bf2
def bne : LT := .mk 45 9 bf4 258 bf1 (yt ++ []) none bf3 260 bf2
def bnj : List AV := [.gv (.sl (K.of 256) 2 (.v 9) []), .gv (.sl (K.of 257) 2 (.v 6) [])]
def bng : List HO := [wdR 256 (.v 9) (.s 8), wdR 257 (.v 6) (.s 7)]
def bnh : List HO := [wdR 256 (.v 9) (.s 8), wdR 257 (.v 6) (.s 7)]
def bni : TR := .ret (.bool true)
def bnf : TM := .mk 45 bnj 258 bng (afb ++ []) none bni 260 bnh
end
theorem evl : (∀ σ : Nat → List Int, (GE.lit 2 11296).eval σ = [44, 32]) ∧ (∀ σ : Nat → List Int, (GE.lit 2 14880).eval σ = [58, 32]) := ⟨by intros; rfl, by intros; rfl⟩
theorem ahd {l : List Int} {i : Int} (h0 : 0 ≤ i) : lg (l.drop i.toNat) = if i < (l.length : Int) then 0 :: l.getD i.toNat 0 :: lg (l.drop (i + 1).toNat) else [] := by
 split
 ·exact bdw h0 (by assumption)
 ·exact bdv (by omega)
theorem aqg {l : List Int} {i : Int} (h0 : 0 ≤ i) : jnF (decide (i = 0)) (l.drop i.toNat) = if i < (l.length : Int) then (if i = 0 then [58, 32] else [44, 32]) ++ (ja (l.getD i.toNat 0) ++ jnF (decide (i + 1 = 0)) (l.drop (i + 1).toNat)) else [] := by
 split
 ·exact bj7 h0 (by assumption)
 ·exact bj6 _ (by omega)
theorem bfw {σ : Nat → List Int} (h : abw (σ 10)) (e : SE) : -9223372036854775808 ≤ (SE.rd (.s 10) e).eval σ ∧ (SE.rd (.s 10) e).eval σ ≤ 9223372036854775807 := axb h _
section
variable {σ : Nat → List Int}
theorem aw8 (h : SAll σ ab8) : 0 ≤ (σ 12).headD 0 ∧ 1 ≤ (σ 13).headD 0 ∧ (σ 13).headD 0 ≤ 20 ∧ ((σ 10).length : Int) = (σ 13).headD 0 ∧ abw (σ 10) := by
 simp only [sall_cons, sE, sF, sT, evs, evq, rngN1] at h
 exact ⟨h.1, h.2.1, h.2.2.1, h.2.2.2.1, h.2.2.2.2.1⟩
theorem bbn (h : SAll σ adt) : 1 < (σ 8).headD 0 ∧ (σ 8).headD 0 ≤ (σ 13).headD 0 ∧ 1 ≤ (σ 6).headD 0 ∧ (σ 6).headD 0 + ((σ 13).headD 0 - (σ 8).headD 0) ≤ 200 ∧ ((σ 7).length : Int) = 2 * (σ 6).headD 0 ∧ ((σ 17).length : Int) + 30 * ((σ 13).headD 0 - (σ 8).headD 0) ≤ 3000 := by
 simp only [sall_cons, sE, sF, sT, evs, wr] at h
 obtain ⟨_, _, _, _, _, a, b, c, d, e, f, _⟩ := h
 exact ⟨a, b, c, d, e, f⟩
theorem bj8 (h : SAll σ an3) : 1 ≤ (σ 6).headD 0 ∧ (σ 6).headD 0 ≤ 100 ∧ ((σ 7).length : Int) = 2 * (σ 6).headD 0 ∧ ((σ 17).length : Int) ≤ 100 := by
 simp only [sall_cons, sE, sF, sT, evs, wr] at h
 obtain ⟨_, _, _, _, _, a, b, c, d, _⟩ := h
 exact ⟨a, b, c, d⟩
theorem bnk (h : SAll σ an8) : km (σ 5) ∧ (0 ≤ (σ 6).headD 0 ∧ (σ 6).headD 0 ≤ 20000 ∧ ((σ 7).length : Int) = 2 * (σ 6).headD 0) ∧ cq (σ 5) + (σ 6).headD 0 ≤ (σ 5).getD (0 : Int).toNat 0 := bbv h
theorem bcn (h : SAll σ afb) : 1 ≤ (σ 6).headD 0 ∧ (σ 6).headD 0 ≤ 1000 ∧ ((σ 7).length : Int) = 2 * (σ 6).headD 0 ∧ (σ 9).headD 0 = (σ 6).headD 0 ∧ σ 8 = σ 7 := by
 obtain ⟨a1, h⟩ := sall_cons.1 h
 obtain ⟨a2, h⟩ := sall_cons.1 h
 obtain ⟨a3, h⟩ := sall_cons.1 h
 obtain ⟨a4, h⟩ := sall_cons.1 h
 obtain ⟨a5, h⟩ := sall_cons.1 h
 exact ⟨sF.1 a1, sF.1 a2, sE.1 a3, sE.1 a4, boy (σ := σ) (g := .s 8) (h := .s 7) (sE.1 a5)⟩
theorem a6g (h : SAll σ yt) : 0 ≤ (σ 11).headD 0 ∧ (σ 11).headD 0 ≤ (σ 6).headD 0 := by
 simp only [sall_cons, sE, sF, sT, evs, wr] at h
 obtain ⟨_, _, _, _, _, a, b, _⟩ := h
 exact ⟨a, b⟩
theorem bh4 (h : SAll σ [.mk false an7 (.c 1) true, .mk true (.v 1) (.c 37) false, .mk true (.c 61) (.v 1) false, .mk true (.v 2) (.c 37) false, .mk true (.c 61) (.v 2) false]) : (km (σ 5) ∧ 37 ≤ (σ 1).headD 0 ∧ (σ 1).headD 0 ≤ 61) ∧ 37 ≤ (σ 2).headD 0 ∧ (σ 2).headD 0 ≤ 61 := by
 obtain ⟨h1, h⟩ := sall_cons.1 h
 simp only [sall_cons, sE, sF, sT, evs, wr] at h
 exact ⟨⟨s221.1 (sE.1 h1), h.1, h.2.1⟩, h.2.2.1, h.2.2.2.1⟩
end
theorem hdg [Gv] : ∀ t ∈ [bia], bo t := na bdn
def bd2 [Gv] : Prop := (SAll Gv.σ [] → ov 8 25 bd6 260 bd3 bd5 262 bd4)
theorem biq [Gv] (hh : ∀ t ∈ [ld1 mDt], eu t) (hI : SAll Gv.σ adt) : bd2 := by
 obtain ⟨r1, r2, r3, r4, r5⟩ := aw8 (cm (A := ab8) (B := [.mk true (.c 1) (.v 8) true, .mk true (.v 13) (.v 8) false, .mk true (.v 6) (.c 1) false, .mk true (.c 200) aoc false, .mk false (.len (.s 7)) aak true, .mk true (.c 3000) a7s false]) hI).1
 obtain ⟨l1, l2, l3, l4, l5, l6⟩ := bbn hI
 rcases zl5 hI (.v 8) (.v 13) with ⟨hI, k1⟩ | ⟨hI, k1⟩
 ·have hI := zF5 hI (.v 8) (.c 0)
  have hI := zF5 hI (.c 400000) vm
  have hI := zF5 hI sm afc
  have t1 := zf5 (bfw (σ := Gv.σ) r5 (.v 8))
  have hI := zF5 hI ab9 an9
  have hI := zF5 hI sm ab9
  have t2 := zf5 (acv (σ := Gv.σ) ab9)
  have hI := zF5 hI sm ayx
  have hI := zT5 hI (.c 1) afd
  have hI := zF5 hI (.v 13) afd
  have hI := zF5 hI vm (.c 1)
  have hI := zF5 hI (.c 200) ayy
  have hI := zE5 hI ayz ay0
  have hI := zF5 hI (.c 3000) (.bin 6 .i64 ayx (.bin 7 .i64 (.c 30) afe))
  have hI := zT5 hI afe an6
  have hI := zF5 hI afe (.c 0)
  have u := ahd (l := Gv.σ 10) (i := ((Gv.σ 8).headD 0)) (by omega)
  have u2 := aqg (l := Gv.σ 10) (i := ((Gv.σ 8).headD 0)) (by omega)
  simp (disch := omega) only [if_pos, if_neg, wr, Int.reduceAdd] at u u2
  exact zt [(264, 260)] (.i ayy aoc (.g (.cat (.cat (.cat (.s 17) (.lit 2 11296)) ayw) (.app 226 ay1)) au0 (.g (.cat (.cat (.s 7) (.cat (.one (.c 0)) (.one ab9))) (.app 225 ay1)) auz .nil))) (zh hI hdg) (zp hI hh) hI ze2
 ·have u := ahd (l := Gv.σ 10) (i := ((Gv.σ 8).headD 0)) (by omega)
  have u2 := aqg (l := Gv.σ 10) (i := ((Gv.σ 8).headD 0)) (by omega)
  simp (disch := omega) only [if_pos, if_neg, wr, Int.reduceAdd] at u u2
  exact zt [(259, 260)] (.i (.v 6) aoc (.g (.s 17) au0 (.g (.s 7) auz .nil))) (zh hI hdg) (zp hI hh) hI ze2
theorem awm : ∀ (B : Nat) (σ : Nat → List Int), SAll σ adt → (mDt).eval σ < (B : Int) → @bd2 ⟨σ⟩
 | 0, σ, hI, hb => by obtain ⟨l1, l2, l3, l4, l5, l6⟩ := bbn hI; simp only [mDt, evs, wr] at hb; omega
 | B + 1, σ, hI, hb => by
   have ih : ∀ σ' : Nat → List Int, SAll σ' adt → 0 ≤ (mDt).eval σ' ∧ (mDt).eval σ' < (mDt).eval σ → @bd2 ⟨σ'⟩ := fun σ' h h' => awm B σ' h (by omega)
   have hh : ∀ t ∈ [ld1 (mDt)], @eu ⟨σ⟩ t := by
    intro t ht
    simp only [List.mem_cons, zH, or_false] at ht
    rcases ht with rfl
    ·exact fun σ' _ hA hb => (ih σ' (cm hA).1 hb) (cm hA).2
   exact @biq ⟨σ⟩ hh hI
theorem bd7 [Gv] : eu bke := fun σ _ hA _ => (awm (((mDt).eval σ).toNat + 1) σ (cm hA).1 (by omega)) (cm hA).2
theorem bjp [Gv] : ∀ t ∈ [bke], eu t := na bd7
def bpf [Gv] : Prop := (SAll Gv.σ [] → ov 8 25 bkj 260 bkg bki 262 bkh)
theorem bir [Gv] (hI : SAll Gv.σ an3) : bpf := by
 obtain ⟨r1, r2, r3, r4, r5⟩ := aw8 (cm (A := ab8) (B := [.mk true (.v 6) (.c 1) false, .mk true (.c 100) (.v 6) false, .mk false (.len (.s 7)) aak true, .mk true (.c 100) (.len (.s 17)) false]) hI).1
 obtain ⟨l1, l2, l3, l4⟩ := bj8 hI
 rcases zl5 hI (.c 1) (.v 13) with ⟨hI, k1⟩ | ⟨hI, k1⟩
 ·have hI := zF5 hI (.c 400000) vm
  have hI := zF5 hI sm afc
  have t1 := zf5 (bfw (σ := Gv.σ) r5 (.c 1))
  have hI := zF5 hI aca an9
  have hI := zF5 hI sm aca
  have t2 := zf5 (acv (σ := Gv.σ) aca)
  have hI := zF5 hI sm ay3
  have hI := zF5 hI (.v 13) (.c 2)
  have hI := zF5 hI vm (.c 1)
  have hI := zF5 hI (.c 200) ay4
  have hI := zE5 hI ayz ay0
  have hI := zF5 hI (.c 3000) (.bin 6 .i64 ay3 (.bin 7 .i64 (.c 30) (.bin 6 .i64 (.v 13) (.c (-2)))))
  have u := ahd (l := Gv.σ 10) (i := 1) (by omega)
  have u2 := aqg (l := Gv.σ 10) (i := 1) (by omega)
  simp (disch := omega) only [if_pos, if_neg, wr, Int.reduceAdd] at u u2
  exact zt [(264, 260)] (.i ay4 afa (.g (.cat (.cat (.cat (.s 17) (.lit 2 11296)) ay2) (.app 226 (.g (.s 10) (.i (.c 2) .nil)))) an2 (.g (.cat (.cat (.s 7) (.cat (.one (.c 0)) (.one aca))) (.app 225 (.g (.s 10) (.i (.c 2) .nil)))) an1 .nil))) (zh hI hdg) (zp hI bjp) hI ze2
 ·have u := ahd (l := Gv.σ 10) (i := 1) (by omega)
  have u2 := aqg (l := Gv.σ 10) (i := 1) (by omega)
  simp (disch := omega) only [if_pos, if_neg, wr, Int.reduceAdd] at u u2
  exact zt [(259, 260)] (.i (.v 6) afa (.g (.s 17) an2 (.g (.s 7) an1 .nil))) (zh hI hdg) (zp hI bjp) hI ze2
theorem bd8 [Gv] : eu bkf := fun σ _ hA _ => (@bir ⟨σ⟩  (cm hA).1) (cm hA).2
theorem bo8 [Gv] : ∀ t ∈ [bkf], eu t := na bd8
def bpe [Gv] : Prop := (SAll Gv.σ [] → ov 8 25 bkd 259 bka bkc 262 bkb)
theorem bip [Gv] (hI : SAll Gv.σ ab8) : bpe := by
 obtain ⟨r1, r2, r3, r4, r5⟩ := aw8 hI
 have hI := zT5 hI (.c 0) (.v 13)
 have t1 := zf5 (bfw (σ := Gv.σ) r5 (.c 0))
 have hI := zF5 hI acb an9
 have hI := zF5 hI sm acb
 have t2 := zf5 (acv (σ := Gv.σ) acb)
 have hI := zF5 hI sm ay6
 have hI := zF5 hI (.c 100) ay6
 have u := ahd (l := Gv.σ 10) (i := 0) (by omega)
 have u2 := aqg (l := Gv.σ 10) (i := 0) (by omega)
 simp (disch := omega) only [if_pos, if_neg, wr, Int.reduceAdd] at u u2
 exact zt [(263, 260)] (.i (.bin 6 .i64 (.c 1) (.bin 6 .i64 (.v 13) (.c (-1)))) (.v 13) (.g (.cat (.cat (.lit 2 14880) ay5) ayt) ayu (.g (.cat (.cat (.one (.c 0)) (.one acb)) ays) (.app 225 an4) .nil))) (zh hI hdg) (zp hI bo8) hI ze2
theorem bd1 [Gv] : eu a4d := fun σ _ hA _ => (@bip ⟨σ⟩  (cm hA).1) (cm hA).2
theorem hsg [Gv] : ∀ t ∈ [bef, bee], bo t := by
 intro t ht
 simp only [List.mem_cons, zH, or_false] at ht
 rcases ht with rfl | rfl
 ·exact a44
 ·exact a43
def bp7 [Gv] : Prop := (SAll Gv.σ [] → br 41 bn2 258 bnz bn1 300 bn0)
theorem bjc [Gv] (hI : SAll Gv.σ an8) : bp7 := by
 obtain ⟨hP, ⟨l1, l2, l3⟩, l4⟩ := bnk hI
 obtain ⟨p1, p2, p3, p4⟩ := oz hP
 have u := l1
 exact zm0 [] (zh hI hsg) al hI
theorem bf9 [Gv] : bo bny := fun σ _ hA _ => (@bjc ⟨σ⟩  (cm hA).1) (cm hA).2
def bp6 [Gv] : Prop := (SAll Gv.σ [] → br 41 bnx 257 bnu bnw 300 bnv)
theorem bjb [Gv] (hI : SAll Gv.σ ayv) : bp6 := by
 obtain ⟨hP, l4⟩ := bbw hI
 obtain ⟨p1, p2, p3, p4⟩ := oz hP
 have u := hP
 exact zm0 [] (zh hI hsg) al hI
theorem bf8 [Gv] : bo bnt := fun σ _ hA _ => (@bjb ⟨σ⟩  (cm hA).1) (cm hA).2
def bf0 [Gv] : Prop := (SAll Gv.σ [] → ov 45 9 bf4 258 bf1 bf3 260 bf2)
theorem bi8 [Gv] (hh : ∀ t ∈ [saL mSm], eu t) (hI : SAll Gv.σ yt) : bf0 := by
 obtain ⟨l1, l2, l3, l4, l5⟩ := bcn (cm (A := afb) (B := [.mk true (.v 11) (.c 0) false, .mk true (.v 6) (.v 11) false]) hI).1
 obtain ⟨m1, m2⟩ := a6g hI
 rcases zl6 hI (.v 11) (.v 9) with ⟨hI, k1⟩ | ⟨hI, k1⟩
 ·have hI := zT6 hI (.v 11) (.v 6)
  have hI := zE6 hI (.rd (.s 8) aoa) (.rd (.s 7) aoa)
  have hI := zE6 hI (.rd (.s 8) ay7) (.rd (.s 7) ay7)
  have hI := zF6 hI aob (.c 0)
  have hI := zF6 hI (.v 6) aob
  have hI := zT6 hI ay8 (.bin 6 .i64 (.v 6) (.bin 7 .i64 (.c (-1)) (.v 11)))
  have hI := zF6 hI ay8 (.c 0)
  have u := l1
  exact zt0 [] aq (zp hI hh) hI
 ·have u := l1
  exact zt0 [] aq (zp hI hh) hI
theorem axd : ∀ (B : Nat) (σ : Nat → List Int), SAll σ yt → (mSm).eval σ < (B : Int) → @bf0 ⟨σ⟩
 | 0, σ, hI, hb => by obtain ⟨m1, m2⟩ := a6g hI; simp only [mSm, evs, wr] at hb; omega
 | B + 1, σ, hI, hb => by
   have ih : ∀ σ' : Nat → List Int, SAll σ' yt → 0 ≤ (mSm).eval σ' ∧ (mSm).eval σ' < (mSm).eval σ → @bf0 ⟨σ'⟩ := fun σ' h h' => axd B σ' h (by omega)
   have hh : ∀ t ∈ [saL (mSm)], @eu ⟨σ⟩ t := by
    intro t ht
    simp only [List.mem_cons, zH, or_false] at ht
    rcases ht with rfl
    ·exact fun σ' _ hA hb => (ih σ' (cm hA).1 hb) (cm hA).2
   exact @bi8 ⟨σ⟩ hh hI
theorem bf5 [Gv] : eu bne := fun σ _ hA _ => (axd (((mSm).eval σ).toNat + 1) σ (cm hA).1 (by omega)) (cm hA).2
theorem bo9 [Gv] : ∀ t ∈ [bne], eu t := na bf5
def bp4 [Gv] : Prop := (SAll Gv.σ [] → br 45 bnj 258 bng bni 260 bnh)
theorem bi9 [Gv] (hI : SAll Gv.σ afb) : bp4 := by
 obtain ⟨l1, l2, l3, l4, l5⟩ := bcn hI
 have hI := zF6 hI (.v 6) (.c 0)
 have u := l1
 exact zm0 [] aq (zp hI bo9) hI
theorem bf6 [Gv] : bo bnf := fun σ _ hA _ => (@bi9 ⟨σ⟩  (cm hA).1) (cm hA).2
end Go.Ev
set_option maxRecDepth 100000
set_option linter.all false
namespace Go.Ev
abbrev adu : AL := .i (.c 2) (.g (.s 5) (.g (.cat (.one (.c 1)) (.cat (.one (.c 0)) (.cat (.one (.c 1)) (.one (.v 2))))) (.i (.c 1) (.i (.c 0) .nil))))
abbrev au2 : SE := .app 221 (.g (.s 5) .nil)
abbrev aoe : SE := .rd (.s 5) (.c 0)
abbrev aof : SE := .app 201 (.g (.s 5) .nil)
abbrev au3 : List SA := [.mk false au2 (.c 1) true, .mk true aoe (.bin 6 .i64 aof (.c 2)) false]
abbrev a7t : List SA := [.mk false au2 (.c 1) true, .mk true (.v 1) (.c 37) false, .mk true (.c 61) (.v 1) false]
abbrev au4 : List SA := [.mk false au2 (.c 1) true, .mk true (.v 1) (.c 37) false, .mk true (.c 61) (.v 1) false, .mk true (.v 2) (.c 37) false, .mk true (.c 61) (.v 2) false]
abbrev a7u : SE := .app 229 (.i (.v 1) (.i (.v 2) .nil))
abbrev a7v : List SA := [.mk false a7u (.c 1) true]
abbrev ay9 : List SA := [.mk false a7u (.c 1) false]
abbrev aod : GE := .app 206 (.g (.s 5) (.g (.cat (.one (.c 2)) (.cat (.one (.c 1)) (.cat (.one (.v 2)) (.cat (.one (.c 1)) (.one (.c 0)))))) .nil))
abbrev aza : SE := .app 201 (.g aod .nil)
noncomputable section
def bl3 : List AV := [hpp, .slice (K.of 257) 0 2 2 none]
def bl0 : List HO := [hH 256 (.s 5), bx 257 29 [.int .i64 1, .int .i64 0, .int .i64 1, vI 2]]
def bl1 : List HO := [hH 256 (.app 210 adu)]
def bl2 : TR := .ret (.tuple [wd (.app 211 adu) (.app 212 adu), .int .i64 0])
def blz : TM := .mk 36 bl3 258 bl0 (au3 ++ []) none bl2 290 bl1
def bmf : List AV := [hpp, .ptr (K.of 257) 0, .agg [.int .i64 1, vI 1], .agg [.int .i64 1, .int .i64 1]]
def bmc : List HO := [hH 256 (.s 5), bx 257 111 [.gv (.sl (K.of 258) 6 (.c 62) []), .map (K.of 259)], .mk 258 (.gob (.junk 171)), .mk 259 (.gob (.gmap (.s 4)))]
def bmd : List HO := [hH 256 (.s 5), bx 257 111 [.gv (.sl (K.of 258) 6 (.c 62) []), .map (K.of 259)], .mk 258 (.gob (.junk 171)), .mk 259 (.gob (.gmap (.s 4)))]
def bme : TR := .ret (.bool true)
def bmb : TM := .mk 46 bmf 260 bmc ([] ++ []) none bme 300 bmd
def bma : List AV := [hpp, .ptr (K.of 257) 0, .agg [.int .i64 1, vI 1], .agg [.int .i64 1, .int .i64 0]]
def bl7 : List HO := [hH 256 (.s 5), bx 257 111 [.gv (.sl (K.of 258) 6 (.c 62) []), .map (K.of 259)], .mk 258 (.gob (.junk 171)), .mk 259 (.gob (.gmap (.s 4)))]
def bl8 : List HO := [hH 256 (.s 5), bx 257 111 [.gv (.sl (K.of 258) 6 (.c 62) []), .map (K.of 259)], .mk 258 (.gob (.junk 171)), .mk 259 (.gob (.gmap (.s 4)))]
def bl9 : TR := .ret (.bool false)
def bl6 : TM := .mk 46 bma 260 bl7 (a7t ++ []) none bl9 300 bl8
def a9o : List AV := [hpp, .ptr (K.of 257) 0, .agg [.int .i64 1, vI 1], .agg [.int .i64 1, vI 2]]
def a9m : List HO := [hH 256 (.s 5), bx 257 111 [.gv (.sl (K.of 258) 6 (.c 62) []), .map (K.of 259)], .mk 258 (.gob (.junk 171)), .mk 259 (.gob (.gmap (.s 4)))]
def bb2 : List HO := [hH 256 (.s 5), bx 257 111 [.gv (.sl (K.of 258) 6 (.c 62) []), .map (K.of 259)], .mk 258 (.gob (.junk 171)), .mk 259 (.gob (.gmap (.s 4)))]
def bb3 : TR := .ret (.bool true)
def bb1 : TM := .mk 46 a9o 260 a9m (au4 ++ a7v) none bb3 300 bb2
def bbz : List HO := [hH 256 (.s 5), bx 257 111 [.gv (.sl (K.of 258) 6 (.c 62) []), .map (K.of 259)], .mk 258 (.gob (.junk 171)), .mk 259 (.gob (.gmap (.s 4)))]
def bb0 : TR := .ret (.bool false)
def bby : TM := .mk 46 a9o 260 a9m (au4 ++ ay9) none bb0 300 bbz
end
theorem hk4 [Gv] : ∀ t ∈ [a36, a38, a39, a4a], bo t := by
 intro t ht
 simp only [List.mem_cons, zH, or_false] at ht
 rcases ht with rfl | rfl | rfl | rfl
 ·exact awf
 ·exact awg
 ·exact awh
 ·exact awi
theorem bl5 (n m : Int) : (atr n m = 1 ∧ (m = n ∨ (m = 37 ∧ n ≠ 38) ∨ (m = 44 ∧ n = 45) ∨ (m = 60 ∧ n = 54))) ∨ (atr n m = 0 ∧ ¬ (m = n ∨ (m = 37 ∧ n ≠ 38) ∨ (m = 44 ∧ n = 45) ∨ (m = 60 ∧ n = 54))) := by
 unfold atr
 split
 ·exact .inl ⟨rfl, by assumption⟩
 ·exact .inr ⟨rfl, by assumption⟩
def bpm [Gv] : Prop := (SAll Gv.σ [] → br 46 bmf 260 bmc bme 300 bmd)
theorem bi3 [Gv] (hI : SAll Gv.σ []) : bpm := by
 exact zm0 [] aq al hI
theorem bfj [Gv] : bo bmb := fun σ _ hA _ => (@bi3 ⟨σ⟩  (cm hA).1) (cm hA).2
def bpk [Gv] : Prop := (SAll Gv.σ [] → br 46 bma 260 bl7 bl9 300 bl8)
theorem bi2 [Gv] (hI : SAll Gv.σ a7t) : bpk := by
 obtain ⟨hP, l1, l2⟩ := bbm hI
 obtain ⟨p1, p2, p3, p4⟩ := oz hP
 rcases zl4 hI (.v 1) (.c 39) with ⟨hI, k1⟩ | ⟨hI, k1⟩
 ·have u := l1
  exact zm0 [] (zh hI hk4) al hI
 ·rcases zq4 hI (.v 1) (.c 45) with ⟨hI, k2⟩ | ⟨hI, k2⟩
  ·have u := l1
   exact zm0 [] (zh hI hk4) al hI
  ·rcases zq4 hI (.v 1) (.c 54) with ⟨hI, k3⟩ | ⟨hI, k3⟩
   ·have u := l1
    exact zm0 [] (zh hI hk4) al hI
   ·have u := l1
    exact zm0 [] (zh hI hk4) al hI
theorem bfi [Gv] : bo bl6 := fun σ _ hA _ => (@bi2 ⟨σ⟩  (cm hA).1) (cm hA).2
def bpl [Gv] : Prop := (SAll Gv.σ a7v → br 46 a9o 260 a9m bb3 300 bb2) ∧ (SAll Gv.σ ay9 → br 46 a9o 260 a9m bb0 300 bbz)
theorem ba7 [Gv] (hI : SAll Gv.σ au4) : bpl := by
 obtain ⟨⟨hP, l1, l2⟩, l3, l4⟩ := bh4 hI
 obtain ⟨p1, p2, p3, p4⟩ := oz hP
 have w := bl5 ((Gv.σ 1).headD 0) ((Gv.σ 2).headD 0)
 have hI := zN4 hI (.v 2) (.c 1)
 rcases zl4 hI (.v 1) (.c 39) with ⟨hI, k2⟩ | ⟨hI, k2⟩
 ·have hI := zN4 hI (.v 2) (.c 0)
  rcases zq4 hI (.v 2) (.v 1) with ⟨hI, k4⟩ | ⟨hI, k4⟩
  ·have u := l1
   exact ⟨zm0 [] (zh hI hk4) al hI,
    zn2⟩
  ·have u := l1
   exact ⟨zn2,
    zm0 [] (zh hI hk4) al hI⟩
 ·rcases zq4 hI (.v 1) (.c 45) with ⟨hI, k3⟩ | ⟨hI, k3⟩
  ·have hI := zN4 hI (.v 2) (.c 0)
   rcases zq4 hI (.v 2) (.c 45) with ⟨hI, k5⟩ | ⟨hI, k5⟩
   ·have u := l1
    exact ⟨zm0 [] (zh hI hk4) al hI,
     zn2⟩
   ·rcases zq4 hI (.v 2) (.c 44) with ⟨hI, k6⟩ | ⟨hI, k6⟩
    ·have u := l1
     exact ⟨zm0 [] (zh hI hk4) al hI,
      zn2⟩
    ·rcases zq4 hI (.v 2) (.c 37) with ⟨hI, k7⟩ | ⟨hI, k7⟩
     ·have u := l1
      exact ⟨zm0 [] (zh hI hk4) al hI,
       zn2⟩
     ·have u := l1
      exact ⟨zn2,
       zm0 [] (zh hI hk4) al hI⟩
  ·rcases zq4 hI (.v 1) (.c 54) with ⟨hI, k4⟩ | ⟨hI, k4⟩
   ·have hI := zN4 hI (.v 2) (.c 0)
    rcases zq4 hI (.v 2) (.c 54) with ⟨hI, k6⟩ | ⟨hI, k6⟩
    ·have u := l1
     exact ⟨zm0 [] (zh hI hk4) al hI,
      zn2⟩
    ·rcases zq4 hI (.v 2) (.c 60) with ⟨hI, k7⟩ | ⟨hI, k7⟩
     ·have u := l1
      exact ⟨zm0 [] (zh hI hk4) al hI,
       zn2⟩
     ·rcases zq4 hI (.v 2) (.c 37) with ⟨hI, k8⟩ | ⟨hI, k8⟩
      ·have u := l1
       exact ⟨zm0 [] (zh hI hk4) al hI,
        zn2⟩
      ·have u := l1
       exact ⟨zn2,
        zm0 [] (zh hI hk4) al hI⟩
   ·have hI := zN4 hI (.v 2) (.c 0)
    rcases zq4 hI (.v 2) (.v 1) with ⟨hI, k6⟩ | ⟨hI, k6⟩
    ·have u := l1
     exact ⟨zm0 [] (zh hI hk4) al hI,
      zn2⟩
    ·rcases zq4 hI (.v 2) (.c 37) with ⟨hI, k7⟩ | ⟨hI, k7⟩
     ·have hI := zN4 hI (.c 37) (.v 1)
      have u := l1
      exact ⟨zm0 [] (zh hI hk4) al hI,
       zn2⟩
     ·have u := l1
      exact ⟨zn2,
       zm0 [] (zh hI hk4) al hI⟩
theorem a9n [Gv] : bo bb1 := fun σ _ hA _ => (@ba7 ⟨σ⟩  (cm hA).1).1 (cm hA).2
theorem a9l [Gv] : bo bby := fun σ _ hA _ => (@ba7 ⟨σ⟩  (cm hA).1).2 (cm hA).2
theorem bo7 [Gv] : ∀ t ∈ [bc8, bc9, beb, a0f, beg, a8h], bo t := by
 intro t ht
 simp only [List.mem_cons, zH, or_false] at ht
 rcases ht with rfl | rfl | rfl | rfl | rfl | rfl
 ·exact avo
 ·exact avp
 ·exact awo
 ·exact abo
 ·exact awu
 ·exact alo
theorem bkq {σ : Nat → List Int} (h : SAll σ au3) : km (σ 5) ∧ cq (σ 5) + 2 ≤ (σ 5).getD (0 : Int).toNat 0 := by
 obtain ⟨h1, h⟩ := sall_cons.1 h
 simp only [sall_cons, sE, sF, sT, evs, wr] at h
 exact ⟨s221.1 (sE.1 h1), h.1⟩
def bpj [Gv] : Prop := (SAll Gv.σ [] → br 36 bl3 258 bl0 bl2 290 bl1)
theorem bi0 [Gv] (hI : SAll Gv.σ au3) : bpj := by
 obtain ⟨hP, l1⟩ := bkq hI
 obtain ⟨p1, p2, p3, p4⟩ := oz hP
 have hI := zT1 hI (.c 0) aoe
 have hI := zF1 hI (.bin 1 .i64 aoe aof) (.c 2)
 have hI := zN1 hI aof aoe
 have t1 := zf1 (bii (σ := Gv.σ) hP (by omega) (.c 1) (.v 2) (.c 1) (.c 0))
 have hI := zN1 hI aza (.rd aod (.c 0))
 have u : ol 2 (Gv.σ 5) [1, 0, 1, (Gv.σ 2).headD 0] 1 0 = ⟨pj (pj (Gv.σ 5) [2, 1, (Gv.σ 2).headD 0, 1, 0]) [2, 1, 0, 2, cq (Gv.σ 5)], 2, cq (pj (Gv.σ 5) [2, 1, (Gv.σ 2).headD 0, 1, 0])⟩ := rfl
 exact zm [] (.i (.c 2) (.app 211 adu) (.i aza (.app 212 adu) (.g (.app 206 (.g aod (.g (.cat (.one (.c 2)) (.cat (.one (.c 1)) (.cat (.one (.c 0)) (.cat (.one (.c 2)) (.one aof))))) .nil))) (.app 210 adu) .nil))) (zh hI bo7) al hI ze1
theorem bff [Gv] : bo blz := fun σ _ hA _ => (@bi0 ⟨σ⟩  (cm hA).1) (cm hA).2
end Go.Ev
