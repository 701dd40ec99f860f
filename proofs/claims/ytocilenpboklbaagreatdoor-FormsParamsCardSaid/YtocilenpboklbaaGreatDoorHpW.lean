import Derived.Test.YtocilenpboklbaaGreatDoorHpV
set_option maxRecDepth 100000
set_option linter.all false
namespace Go.Ev
abbrev arp : SE := .bin 7 .i64 (.c (-1)) (.v 8)
abbrev az0 : SE := .bin 5 .i64 (.v 1) (.v 2)
abbrev az1 : List SA := [.mk true (.v 2) (.c 1) false, .mk true (.c 100000) (.v 2) false]
abbrev yv : SE := .bin 6 .i64 (.v 10) arp
abbrev afi : GE := .cat (.s 7) (.app 214 (.i (.bin 6 .i64 (.c 100) (.v 8)) (.i yv .nil)))
abbrev alq : SE := .bin 6 .i64 (.v 6) yv
abbrev sj : List SA := [.mk true (.v 8) (.c 0) false, .mk true (.v 10) (.v 8) false, .mk true (.c 60) (.v 10) false, .mk true (.v 6) (.c 1) false, .mk true (.c 200) alq false, .mk false (.len (.s 7)) (.bin 7 .i64 (.c 2) (.v 6)) true]
abbrev ab1 : List SA := [.mk true (.v 10) (.c 0) false, .mk true (.c 60) (.v 10) false]
abbrev aru : List SA := [.mk false (.v 10) (.c 0) true]
abbrev arq : AL := .i (.bin 6 .i64 (.c 100) (.c 0)) (.i (.bin 6 .i64 (.v 10) (.bin 7 .i64 (.c (-1)) (.c 0))) .nil)
abbrev ahl : List SA := [.mk false (.v 10) (.c 0) false]
abbrev tq : SE := .bin 6 .i64 (.v 11) arp
abbrev aaq : GE := .cat (.s 7) (.app 214 (.i (.bin 6 .i64 (.c 200) (.v 8)) (.i tq .nil)))
abbrev ad5 : SE := .bin 6 .i64 (.v 6) tq
abbrev oa : List SA := [.mk true (.v 8) (.c 0) false, .mk true (.v 11) (.v 8) false, .mk true (.c 60) (.v 11) false, .mk true (.v 6) (.c 1) false, .mk true (.c 200) ad5 false, .mk false (.len (.s 7)) (.bin 7 .i64 (.c 2) (.v 6)) true]
abbrev wq : List SA := [.mk true (.v 11) (.c 0) false, .mk true (.c 60) (.v 11) false]
abbrev ahm : List SA := [.mk false (.v 11) (.c 0) true]
abbrev ars : AL := .i (.bin 6 .i64 (.c 200) (.c 0)) (.i (.bin 6 .i64 (.v 11) (.bin 7 .i64 (.c (-1)) (.c 0))) .nil)
abbrev ahn : List SA := [.mk false (.v 11) (.c 0) false]
abbrev ew : List SA := [.mk true (.v 8) (.c 0) false, .mk true (.v 10) (.v 8) false, .mk true (.c 60) (.v 10) false, .mk false (.v 21) (.v 10) true, .mk false (.len (.s 31)) (.v 21) true, .mk false (.eqg (.s 31) (.app 215 (.i (.c 100) (.i (.v 10) .nil)))) (.c 1) true]
abbrev ez : List SA := [.mk true (.v 8) (.c 0) false, .mk true (.v 11) (.v 8) false, .mk true (.c 60) (.v 11) false, .mk false (.v 22) (.v 11) true, .mk false (.len (.s 32)) (.v 22) true, .mk false (.eqg (.s 32) (.app 215 (.i (.c 200) (.i (.v 11) .nil)))) (.c 1) true]
abbrev art : SE := .bin 4 .i64 (.v 1) (.v 2)
abbrev oc : SE := .bin 6 .i64 (.v 6) (.c 1)
abbrev c7 : SE := .bin 0 .i64 (.v 8) (.c 1)
abbrev a6a : SE := .bin 7 .i64 (.c (-1)) c7
abbrev j1 : SE := .bin 6 .i64 (.v 10) a6a
abbrev aho : SE := .bin 6 .i64 oc j1
abbrev ahp : SE := .bin 6 .i64 (.len (.s 7)) (.c 2)
abbrev ahq : SE := .bin 7 .i64 (.c 2) oc
abbrev ad6 : SE := .bin 0 .i64 (.c 100) (.v 8)
abbrev a6b : GE := .cat (.cat (.s 7) (.cat (.one (.c 1)) (.one ad6))) (.app 214 (.i (.bin 6 .i64 (.c 100) c7) (.i j1 .nil)))
abbrev ahr : SE := .bin 6 .i64 (.c 1) (.bin 6 .i64 (.v 10) (.c (-1)))
abbrev a6c : GE := .cat (.cat (.one (.c 1)) (.one (.c 100))) (.app 214 (.i (.c 101) (.i (.bin 6 .i64 (.v 10) (.c (-1))) .nil)))
abbrev a6d : GE := .app 214 arq
abbrev j2 : SE := .bin 6 .i64 (.v 11) a6a
abbrev ahs : SE := .bin 6 .i64 oc j2
abbrev ad7 : SE := .bin 0 .i64 (.c 200) (.v 8)
abbrev a6e : GE := .cat (.cat (.s 7) (.cat (.one (.c 1)) (.one ad7))) (.app 214 (.i (.bin 6 .i64 (.c 200) c7) (.i j2 .nil)))
abbrev aht : SE := .bin 6 .i64 (.c 1) (.bin 6 .i64 (.v 11) (.c (-1)))
abbrev a6f : GE := .cat (.cat (.one (.c 1)) (.one (.c 200))) (.app 214 (.i (.c 201) (.i (.bin 6 .i64 (.v 11) (.c (-1))) .nil)))
abbrev a6g : GE := .app 214 ars
abbrev ahu : SE := .rd (.s 31) (.v 8)
abbrev ahv : SE := .rd (.s 32) (.v 8)
noncomputable section
def slW (k : Nat) (n : SE) : AV := .gv (.sl (K.of k) 2 n [])
def m10 : SE := .bin 6 .i64 (.v 10) arp
def m11 : SE := .bin 6 .i64 (.v 11) arp
def bqt : List AV := [vI 1, vI 2]
def bqq : List HO := []
def bqr : List HO := []
def bqs : TR := .ret (sX az0)
def bnk : TM := .mk 11 bqt 256 bqq (az1 ++ []) none bqs 256 bqr
def bcd : List AV := [vI 10, vI 11, .bool true, vI 4, .top, .top, .top, .top, .top, .ptr (K.of 256) 0, .top, slW 257 (.v 6), vI 8, .top, .top, .top, .top, .top, .top, .top, .top, .top, .top, .top, .top, .top, .top, .top, .top, .top, .top, .top, .top, .top, .top, .top, .top, .top, .top, .top, .top, .top, .top, .top, .top, .top, .top, .top, .top, .top, .top, .top, .top, .top, .top, .top, .top, .top, .top, .top, .top, .top, .top, .top, .top, .top, .top, .top, .top, .top, .top, .top, .top, .top, .top, .top, .top, .top, .top, .top, .top, .top, .top, .top, .top, .top, .top, .top, .top, .top, .top, .top, .top, .top, .top, .top, .top, .top, .top, .top, .top, .top, .top, .top, .top, .top, .top, .top, .top, .top, .top, .top, .top, .top, .top, .top, .top, .top, .top, .top, .top, .top, .top, .top, .top, .top, .top, .top, .top, .top, .top, .top, .top, .top, .top, .top, .top, .top, .top, .top, .top, .top, .top, .top, .top, .top, .top, .top, .top, .top, .top, .top, .top, .top, .top, .top, .top, .top, .top, .top, .top, .top, .top, .top, .top, .top, .top, .top, .top, .top, .top, .top, .top, .top, .top, .top, .top, .top, .top, .top, .top, .top, .top, .top, .top, .top, .top, .top, .top, .top, .top]
def bb9 : List HO := [wdR 257 (.v 6) (.s 7)]
def bcb : List HO := [wdR 258 (.bin 6 .i64 (.v 6) m10) afi]
def bcc : LR := (.x 0 ([vI 10, vI 11, .bool true, vI 4, .top, .top, .top, .top, .top, .ptr (K.of 256) 0, .top, slW 258 (.bin 6 .i64 (.v 6) m10), .top, .top, .top, .top, .top, .top, .top, .top, .top, .top, .top, .top, .top, .top, .top, .top, .top, .top, .top, .top, .top, .top, .top, .top, .top, .top, .top, .top, .top, .top, .top, .top, .top, .top, .top, .top, .top, .top, .top, .top, .top, .top, .top, .top, .top, .top, .top, .top, .top, .top, .top, .top, .top, .top, .top, .top, .top, .top, .top, .top, .top, .top, .top, .top, .top, .top, .top, .top, .top, .top, .top, .top, .top, .top, .top, .top, .top, .top, .top, .top, .top, .top, .top, .top, .top, .top, .top, .top, .top, .top, .top, .top, .top, .top, .top, .top, .top, .top, .top, .top, .top, .top, .top, .top, .top, .top, .top, .top, .top, .top, .top, .top, .top, .top, .top, .top, .top, .top, .top, .top, .top, .top, .top, .top, .top, .top, .top, .top, .top, .top, .top, .top, .top, .top, .top, .top, .top, .top, .top, .top, .top, .top, .top, .top, .top, .top, .top, .top, .top, .top, .top, .top, .top, .top, .top, .top, .top, .top, .top, .top, .top, .top, .top, .top, .top, .top, .top, .top, .top, .top, .top, .top, .top, .top, .top, .top, .top, .top, .top]))
def bpn (m : SE) : LT := .mk 7 15 bcd 258 bb9 (sj ++ []) (some (m10, m)) bcc 262 bcb
def bb7 : LT := .mk 7 15 bcd 258 bb9 (sj ++ []) none bcc 262 bcb
def a07 : List AV := [vI 10, vI 11, .bool true, vI 4, .top, .top, .top, .top, .top, .ptr (K.of 256) 0, .top, .nilSlice, .int .i64 0, .top, .top, .top, .top, .top, .top, .top, .top, .top, .top, .top, .top, .top, .top, .top, .top, .top, .top, .top, .top, .top, .top, .top, .top, .top, .top, .top, .top, .top, .top, .top, .top, .top, .top, .top, .top, .top, .top, .top, .top, .top, .top, .top, .top, .top, .top, .top, .top, .top, .top, .top, .top, .top, .top, .top, .top, .top, .top, .top, .top, .top, .top, .top, .top, .top, .top, .top, .top, .top, .top, .top, .top, .top, .top, .top, .top, .top, .top, .top, .top, .top, .top, .top, .top, .top, .top, .top, .top, .top, .top, .top, .top, .top, .top, .top, .top, .top, .top, .top, .top, .top, .top, .top, .top, .top, .top, .top, .top, .top, .top, .top, .top, .top, .top, .top, .top, .top, .top, .top, .top, .top, .top, .top, .top, .top, .top, .top, .top, .top, .top, .top, .top, .top, .top, .top, .top, .top, .top, .top, .top, .top, .top, .top, .top, .top, .top, .top, .top, .top, .top, .top, .top, .top, .top, .top, .top, .top, .top, .top, .top, .top, .top, .top, .top, .top, .top, .top, .top, .top, .top, .top, .top, .top, .top, .top, .top, .top, .top]
def a06 : List HO := []
def bby : List HO := []
def bbz : LR := (.x 0 ([vI 10, vI 11, .bool true, vI 4, .top, .top, .top, .top, .top, .ptr (K.of 256) 0, .top, .nilSlice, .top, .top, .top, .top, .top, .top, .top, .top, .top, .top, .top, .top, .top, .top, .top, .top, .top, .top, .top, .top, .top, .top, .top, .top, .top, .top, .top, .top, .top, .top, .top, .top, .top, .top, .top, .top, .top, .top, .top, .top, .top, .top, .top, .top, .top, .top, .top, .top, .top, .top, .top, .top, .top, .top, .top, .top, .top, .top, .top, .top, .top, .top, .top, .top, .top, .top, .top, .top, .top, .top, .top, .top, .top, .top, .top, .top, .top, .top, .top, .top, .top, .top, .top, .top, .top, .top, .top, .top, .top, .top, .top, .top, .top, .top, .top, .top, .top, .top, .top, .top, .top, .top, .top, .top, .top, .top, .top, .top, .top, .top, .top, .top, .top, .top, .top, .top, .top, .top, .top, .top, .top, .top, .top, .top, .top, .top, .top, .top, .top, .top, .top, .top, .top, .top, .top, .top, .top, .top, .top, .top, .top, .top, .top, .top, .top, .top, .top, .top, .top, .top, .top, .top, .top, .top, .top, .top, .top, .top, .top, .top, .top, .top, .top, .top, .top, .top, .top, .top, .top, .top, .top, .top, .top, .top, .top, .top, .top, .top, .top]))
def bbx : LT := .mk 7 15 a07 257 a06 (ab1 ++ aru) none bbz 262 bby
def bbu : List HO := [wdR 258 (.v 10) (.app 214 arq)]
def bbv : LR := (.x 0 ([vI 10, vI 11, .bool true, vI 4, .top, .top, .top, .top, .top, .ptr (K.of 256) 0, .top, slW 258 (.v 10), .top, .top, .top, .top, .top, .top, .top, .top, .top, .top, .top, .top, .top, .top, .top, .top, .top, .top, .top, .top, .top, .top, .top, .top, .top, .top, .top, .top, .top, .top, .top, .top, .top, .top, .top, .top, .top, .top, .top, .top, .top, .top, .top, .top, .top, .top, .top, .top, .top, .top, .top, .top, .top, .top, .top, .top, .top, .top, .top, .top, .top, .top, .top, .top, .top, .top, .top, .top, .top, .top, .top, .top, .top, .top, .top, .top, .top, .top, .top, .top, .top, .top, .top, .top, .top, .top, .top, .top, .top, .top, .top, .top, .top, .top, .top, .top, .top, .top, .top, .top, .top, .top, .top, .top, .top, .top, .top, .top, .top, .top, .top, .top, .top, .top, .top, .top, .top, .top, .top, .top, .top, .top, .top, .top, .top, .top, .top, .top, .top, .top, .top, .top, .top, .top, .top, .top, .top, .top, .top, .top, .top, .top, .top, .top, .top, .top, .top, .top, .top, .top, .top, .top, .top, .top, .top, .top, .top, .top, .top, .top, .top, .top, .top, .top, .top, .top, .top, .top, .top, .top, .top, .top, .top, .top, .top, .top, .top, .top, .top]))
def bbt : LT := .mk 7 15 a07 257 a06 (ab1 ++ ahl) none bbv 262 bbu
def bc8 : List AV := [vI 10, vI 11, .bool true, vI 4, .top, .top, .top, .top, .top, .ptr (K.of 256) 0, .top, slW 257 (.v 6), .top, vI 8, .top, .top, .top, .top, .top, .top, .top, .top, .top, .top, .top, .top, .top, .top, .top, .top, .top, .top, .top, .top, .top, .top, .top, .top, .top, .top, .top, .top, .top, .top, .top, .top, .top, .top, .top, .top, .top, .top, .top, .top, .top, .top, .top, .top, .top, .top, .top, .top, .top, .top, .top, .top, .top, .top, .top, .top, .top, .top, .top, .top, .top, .top, .top, .top, .top, .top, .top, .top, .top, .top, .top, .top, .top, .top, .top, .top, .top, .top, .top, .top, .top, .top, .top, .top, .top, .top, .top, .top, .top, .top, .top, .top, .top, .top, .top, .top, .top, .top, .top, .top, .top, .top, .top, .top, .top, .top, .top, .top, .top, .top, .top, .top, .top, .top, .top, .top, .top, .top, .top, .top, .top, .top, .top, .top, .top, .top, .top, .top, .top, .top, .top, .top, .top, .top, .top, .top, .top, .top, .top, .top, .top, .top, .top, .top, .top, .top, .top, .top, .top, .top, .top, .top, .top, .top, .top, .top, .top, .top, .top, .top, .top, .top, .top, .top, .top, .top, .top, .top, .top, .top, .top, .top, .top, .top, .top, .top, .top]
def bc5 : List HO := [wdR 257 (.v 6) (.s 7)]
def bc6 : List HO := [wdR 258 (.bin 6 .i64 (.v 6) m11) aaq]
def bc7 : LR := (.x 2 ([vI 10, vI 11, .bool true, vI 4, .top, .top, .top, .top, .top, .ptr (K.of 256) 0, .top, slW 258 (.bin 6 .i64 (.v 6) m11), .top, .top, .top, .top, .top, .top, .top, .top, .top, .top, .top, .top, .top, .top, .top, .top, .top, .top, .top, .top, .top, .top, .top, .top, .top, .top, .top, .top, .top, .top, .top, .top, .top, .top, .top, .top, .top, .top, .top, .top, .top, .top, .top, .top, .top, .top, .top, .top, .top, .top, .top, .top, .top, .top, .top, .top, .top, .top, .top, .top, .top, .top, .top, .top, .top, .top, .top, .top, .top, .top, .top, .top, .top, .top, .top, .top, .top, .top, .top, .top, .top, .top, .top, .top, .top, .top, .top, .top, .top, .top, .top, .top, .top, .top, .top, .top, .top, .top, .top, .top, .top, .top, .top, .top, .top, .top, .top, .top, .top, .top, .top, .top, .top, .top, .top, .top, .top, .top, .top, .top, .top, .top, .top, .top, .top, .top, .top, .top, .top, .top, .top, .top, .top, .top, .top, .top, .top, .top, .top, .top, .top, .top, .top, .top, .top, .top, .top, .top, .top, .top, .top, .top, .top, .top, .top, .top, .top, .top, .top, .top, .top, .top, .top, .top, .top, .top, .top, .top, .top, .top, .top, .top, .top, .top, .top, .top, .top, .top, .top]))
def bpr (m : SE) : LT := .mk 7 27 bc8 258 bc5 (oa ++ []) (some (m11, m)) bc7 262 bc6
def bc3 : LT := .mk 7 27 bc8 258 bc5 (oa ++ []) none bc7 262 bc6
def a1f : List AV := [vI 10, vI 11, .bool true, vI 4, .top, .top, .top, .top, .top, .ptr (K.of 256) 0, .top, .nilSlice, .top, .int .i64 0, .top, .top, .top, .top, .top, .top, .top, .top, .top, .top, .top, .top, .top, .top, .top, .top, .top, .top, .top, .top, .top, .top, .top, .top, .top, .top, .top, .top, .top, .top, .top, .top, .top, .top, .top, .top, .top, .top, .top, .top, .top, .top, .top, .top, .top, .top, .top, .top, .top, .top, .top, .top, .top, .top, .top, .top, .top, .top, .top, .top, .top, .top, .top, .top, .top, .top, .top, .top, .top, .top, .top, .top, .top, .top, .top, .top, .top, .top, .top, .top, .top, .top, .top, .top, .top, .top, .top, .top, .top, .top, .top, .top, .top, .top, .top, .top, .top, .top, .top, .top, .top, .top, .top, .top, .top, .top, .top, .top, .top, .top, .top, .top, .top, .top, .top, .top, .top, .top, .top, .top, .top, .top, .top, .top, .top, .top, .top, .top, .top, .top, .top, .top, .top, .top, .top, .top, .top, .top, .top, .top, .top, .top, .top, .top, .top, .top, .top, .top, .top, .top, .top, .top, .top, .top, .top, .top, .top, .top, .top, .top, .top, .top, .top, .top, .top, .top, .top, .top, .top, .top, .top, .top, .top, .top, .top, .top, .top]
def a1e : List HO := []
def bcu : List HO := []
def bcv : LR := (.x 2 ([vI 10, vI 11, .bool true, vI 4, .top, .top, .top, .top, .top, .ptr (K.of 256) 0, .top, .nilSlice, .top, .top, .top, .top, .top, .top, .top, .top, .top, .top, .top, .top, .top, .top, .top, .top, .top, .top, .top, .top, .top, .top, .top, .top, .top, .top, .top, .top, .top, .top, .top, .top, .top, .top, .top, .top, .top, .top, .top, .top, .top, .top, .top, .top, .top, .top, .top, .top, .top, .top, .top, .top, .top, .top, .top, .top, .top, .top, .top, .top, .top, .top, .top, .top, .top, .top, .top, .top, .top, .top, .top, .top, .top, .top, .top, .top, .top, .top, .top, .top, .top, .top, .top, .top, .top, .top, .top, .top, .top, .top, .top, .top, .top, .top, .top, .top, .top, .top, .top, .top, .top, .top, .top, .top, .top, .top, .top, .top, .top, .top, .top, .top, .top, .top, .top, .top, .top, .top, .top, .top, .top, .top, .top, .top, .top, .top, .top, .top, .top, .top, .top, .top, .top, .top, .top, .top, .top, .top, .top, .top, .top, .top, .top, .top, .top, .top, .top, .top, .top, .top, .top, .top, .top, .top, .top, .top, .top, .top, .top, .top, .top, .top, .top, .top, .top, .top, .top, .top, .top, .top, .top, .top, .top, .top, .top, .top, .top, .top, .top]))
def bct : LT := .mk 7 27 a1f 257 a1e (wq ++ ahm) none bcv 262 bcu
def bcq : List HO := [wdR 258 (.v 11) (.app 214 ars)]
def bcr : LR := (.x 2 ([vI 10, vI 11, .bool true, vI 4, .top, .top, .top, .top, .top, .ptr (K.of 256) 0, .top, slW 258 (.v 11), .top, .top, .top, .top, .top, .top, .top, .top, .top, .top, .top, .top, .top, .top, .top, .top, .top, .top, .top, .top, .top, .top, .top, .top, .top, .top, .top, .top, .top, .top, .top, .top, .top, .top, .top, .top, .top, .top, .top, .top, .top, .top, .top, .top, .top, .top, .top, .top, .top, .top, .top, .top, .top, .top, .top, .top, .top, .top, .top, .top, .top, .top, .top, .top, .top, .top, .top, .top, .top, .top, .top, .top, .top, .top, .top, .top, .top, .top, .top, .top, .top, .top, .top, .top, .top, .top, .top, .top, .top, .top, .top, .top, .top, .top, .top, .top, .top, .top, .top, .top, .top, .top, .top, .top, .top, .top, .top, .top, .top, .top, .top, .top, .top, .top, .top, .top, .top, .top, .top, .top, .top, .top, .top, .top, .top, .top, .top, .top, .top, .top, .top, .top, .top, .top, .top, .top, .top, .top, .top, .top, .top, .top, .top, .top, .top, .top, .top, .top, .top, .top, .top, .top, .top, .top, .top, .top, .top, .top, .top, .top, .top, .top, .top, .top, .top, .top, .top, .top, .top, .top, .top, .top, .top, .top, .top, .top, .top, .top, .top]))
def bcp : LT := .mk 7 27 a1f 257 a1e (wq ++ ahn) none bcr 262 bcq
def bb6 : List AV := [vI 10, vI 11, .bool false, vI 4, .top, .top, .top, .top, .top, .ptr (K.of 256) 0, .top, slW 257 (.v 6), vI 8, .top, .top, .top, .top, .top, .top, .top, .top, .top, .top, .top, .top, .top, .top, .top, .top, .top, .top, .top, .top, .top, .top, .top, .top, .top, .top, .top, .top, .top, .top, .top, .top, .top, .top, .top, .top, .top, .top, .top, .top, .top, .top, .top, .top, .top, .top, .top, .top, .top, .top, .top, .top, .top, .top, .top, .top, .top, .top, .top, .top, .top, .top, .top, .top, .top, .top, .top, .top, .top, .top, .top, .top, .top, .top, .top, .top, .top, .top, .top, .top, .top, .top, .top, .top, .top, .top, .top, .top, .top, .top, .top, .top, .top, .top, .top, .top, .top, .top, .top, .top, .top, .top, .top, .top, .top, .top, .top, .top, .top, .top, .top, .top, .top, .top, .top, .top, .top, .top, .top, .top, .top, .top, .top, .top, .top, .top, .top, .top, .top, .top, .top, .top, .top, .top, .top, .top, .top, .top, .top, .top, .top, .top, .top, .top, .top, .top, .top, .top, .top, .top, .top, .top, .top, .top, .top, .top, .top, .top, .top, .top, .top, .top, .top, .top, .top, .top, .top, .top, .top, .top, .top, .top, .top, .top, .top, .top, .top, .top]
def bb3 : List HO := [wdR 257 (.v 6) (.s 7)]
def bb4 : List HO := [wdR 258 (.bin 6 .i64 (.v 6) m10) afi]
def bb5 : LR := (.x 0 ([vI 10, vI 11, .bool false, vI 4, .top, .top, .top, .top, .top, .ptr (K.of 256) 0, .top, slW 258 (.bin 6 .i64 (.v 6) m10), .top, .top, .top, .top, .top, .top, .top, .top, .top, .top, .top, .top, .top, .top, .top, .top, .top, .top, .top, .top, .top, .top, .top, .top, .top, .top, .top, .top, .top, .top, .top, .top, .top, .top, .top, .top, .top, .top, .top, .top, .top, .top, .top, .top, .top, .top, .top, .top, .top, .top, .top, .top, .top, .top, .top, .top, .top, .top, .top, .top, .top, .top, .top, .top, .top, .top, .top, .top, .top, .top, .top, .top, .top, .top, .top, .top, .top, .top, .top, .top, .top, .top, .top, .top, .top, .top, .top, .top, .top, .top, .top, .top, .top, .top, .top, .top, .top, .top, .top, .top, .top, .top, .top, .top, .top, .top, .top, .top, .top, .top, .top, .top, .top, .top, .top, .top, .top, .top, .top, .top, .top, .top, .top, .top, .top, .top, .top, .top, .top, .top, .top, .top, .top, .top, .top, .top, .top, .top, .top, .top, .top, .top, .top, .top, .top, .top, .top, .top, .top, .top, .top, .top, .top, .top, .top, .top, .top, .top, .top, .top, .top, .top, .top, .top, .top, .top, .top, .top, .top, .top, .top, .top, .top, .top, .top, .top, .top, .top, .top]))
def bpm (m : SE) : LT := .mk 7 15 bb6 258 bb3 (sj ++ []) (some (m10, m)) bb5 262 bb4
def bb1 : LT := .mk 7 15 bb6 258 bb3 (sj ++ []) none bb5 262 bb4
def a05 : List AV := [vI 10, vI 11, .bool false, vI 4, .top, .top, .top, .top, .top, .ptr (K.of 256) 0, .top, .nilSlice, .int .i64 0, .top, .top, .top, .top, .top, .top, .top, .top, .top, .top, .top, .top, .top, .top, .top, .top, .top, .top, .top, .top, .top, .top, .top, .top, .top, .top, .top, .top, .top, .top, .top, .top, .top, .top, .top, .top, .top, .top, .top, .top, .top, .top, .top, .top, .top, .top, .top, .top, .top, .top, .top, .top, .top, .top, .top, .top, .top, .top, .top, .top, .top, .top, .top, .top, .top, .top, .top, .top, .top, .top, .top, .top, .top, .top, .top, .top, .top, .top, .top, .top, .top, .top, .top, .top, .top, .top, .top, .top, .top, .top, .top, .top, .top, .top, .top, .top, .top, .top, .top, .top, .top, .top, .top, .top, .top, .top, .top, .top, .top, .top, .top, .top, .top, .top, .top, .top, .top, .top, .top, .top, .top, .top, .top, .top, .top, .top, .top, .top, .top, .top, .top, .top, .top, .top, .top, .top, .top, .top, .top, .top, .top, .top, .top, .top, .top, .top, .top, .top, .top, .top, .top, .top, .top, .top, .top, .top, .top, .top, .top, .top, .top, .top, .top, .top, .top, .top, .top, .top, .top, .top, .top, .top, .top, .top, .top, .top, .top, .top]
def a04 : List HO := []
def bbq : List HO := []
def bbr : LR := (.x 0 ([vI 10, vI 11, .bool false, vI 4, .top, .top, .top, .top, .top, .ptr (K.of 256) 0, .top, .nilSlice, .top, .top, .top, .top, .top, .top, .top, .top, .top, .top, .top, .top, .top, .top, .top, .top, .top, .top, .top, .top, .top, .top, .top, .top, .top, .top, .top, .top, .top, .top, .top, .top, .top, .top, .top, .top, .top, .top, .top, .top, .top, .top, .top, .top, .top, .top, .top, .top, .top, .top, .top, .top, .top, .top, .top, .top, .top, .top, .top, .top, .top, .top, .top, .top, .top, .top, .top, .top, .top, .top, .top, .top, .top, .top, .top, .top, .top, .top, .top, .top, .top, .top, .top, .top, .top, .top, .top, .top, .top, .top, .top, .top, .top, .top, .top, .top, .top, .top, .top, .top, .top, .top, .top, .top, .top, .top, .top, .top, .top, .top, .top, .top, .top, .top, .top, .top, .top, .top, .top, .top, .top, .top, .top, .top, .top, .top, .top, .top, .top, .top, .top, .top, .top, .top, .top, .top, .top, .top, .top, .top, .top, .top, .top, .top, .top, .top, .top, .top, .top, .top, .top, .top, .top, .top, .top, .top, .top, .top, .top, .top, .top, .top, .top, .top, .top, .top, .top, .top, .top, .top, .top, .top, .top, .top, .top, .top, .top, .top, .top]))
def bbp : LT := .mk 7 15 a05 257 a04 (ab1 ++ aru) none bbr 262 bbq
def bbm : List HO := [wdR 258 (.v 10) (.app 214 arq)]
def bbn : LR := (.x 0 ([vI 10, vI 11, .bool false, vI 4, .top, .top, .top, .top, .top, .ptr (K.of 256) 0, .top, slW 258 (.v 10), .top, .top, .top, .top, .top, .top, .top, .top, .top, .top, .top, .top, .top, .top, .top, .top, .top, .top, .top, .top, .top, .top, .top, .top, .top, .top, .top, .top, .top, .top, .top, .top, .top, .top, .top, .top, .top, .top, .top, .top, .top, .top, .top, .top, .top, .top, .top, .top, .top, .top, .top, .top, .top, .top, .top, .top, .top, .top, .top, .top, .top, .top, .top, .top, .top, .top, .top, .top, .top, .top, .top, .top, .top, .top, .top, .top, .top, .top, .top, .top, .top, .top, .top, .top, .top, .top, .top, .top, .top, .top, .top, .top, .top, .top, .top, .top, .top, .top, .top, .top, .top, .top, .top, .top, .top, .top, .top, .top, .top, .top, .top, .top, .top, .top, .top, .top, .top, .top, .top, .top, .top, .top, .top, .top, .top, .top, .top, .top, .top, .top, .top, .top, .top, .top, .top, .top, .top, .top, .top, .top, .top, .top, .top, .top, .top, .top, .top, .top, .top, .top, .top, .top, .top, .top, .top, .top, .top, .top, .top, .top, .top, .top, .top, .top, .top, .top, .top, .top, .top, .top, .top, .top, .top, .top, .top, .top, .top, .top, .top]))
def bbl : LT := .mk 7 15 a05 257 a04 (ab1 ++ ahl) none bbn 262 bbm
def bc2 : List AV := [vI 10, vI 11, .bool false, vI 4, .top, .top, .top, .top, .top, .ptr (K.of 256) 0, .top, slW 257 (.v 6), .top, vI 8, .top, .top, .top, .top, .top, .top, .top, .top, .top, .top, .top, .top, .top, .top, .top, .top, .top, .top, .top, .top, .top, .top, .top, .top, .top, .top, .top, .top, .top, .top, .top, .top, .top, .top, .top, .top, .top, .top, .top, .top, .top, .top, .top, .top, .top, .top, .top, .top, .top, .top, .top, .top, .top, .top, .top, .top, .top, .top, .top, .top, .top, .top, .top, .top, .top, .top, .top, .top, .top, .top, .top, .top, .top, .top, .top, .top, .top, .top, .top, .top, .top, .top, .top, .top, .top, .top, .top, .top, .top, .top, .top, .top, .top, .top, .top, .top, .top, .top, .top, .top, .top, .top, .top, .top, .top, .top, .top, .top, .top, .top, .top, .top, .top, .top, .top, .top, .top, .top, .top, .top, .top, .top, .top, .top, .top, .top, .top, .top, .top, .top, .top, .top, .top, .top, .top, .top, .top, .top, .top, .top, .top, .top, .top, .top, .top, .top, .top, .top, .top, .top, .top, .top, .top, .top, .top, .top, .top, .top, .top, .top, .top, .top, .top, .top, .top, .top, .top, .top, .top, .top, .top, .top, .top, .top, .top, .top, .top]
def bcz : List HO := [wdR 257 (.v 6) (.s 7)]
def bc0 : List HO := [wdR 258 (.bin 6 .i64 (.v 6) m11) aaq]
def bc1 : LR := (.x 2 ([vI 10, vI 11, .bool false, vI 4, .top, .top, .top, .top, .top, .ptr (K.of 256) 0, .top, slW 258 (.bin 6 .i64 (.v 6) m11), .top, .top, .top, .top, .top, .top, .top, .top, .top, .top, .top, .top, .top, .top, .top, .top, .top, .top, .top, .top, .top, .top, .top, .top, .top, .top, .top, .top, .top, .top, .top, .top, .top, .top, .top, .top, .top, .top, .top, .top, .top, .top, .top, .top, .top, .top, .top, .top, .top, .top, .top, .top, .top, .top, .top, .top, .top, .top, .top, .top, .top, .top, .top, .top, .top, .top, .top, .top, .top, .top, .top, .top, .top, .top, .top, .top, .top, .top, .top, .top, .top, .top, .top, .top, .top, .top, .top, .top, .top, .top, .top, .top, .top, .top, .top, .top, .top, .top, .top, .top, .top, .top, .top, .top, .top, .top, .top, .top, .top, .top, .top, .top, .top, .top, .top, .top, .top, .top, .top, .top, .top, .top, .top, .top, .top, .top, .top, .top, .top, .top, .top, .top, .top, .top, .top, .top, .top, .top, .top, .top, .top, .top, .top, .top, .top, .top, .top, .top, .top, .top, .top, .top, .top, .top, .top, .top, .top, .top, .top, .top, .top, .top, .top, .top, .top, .top, .top, .top, .top, .top, .top, .top, .top, .top, .top, .top, .top, .top, .top]))
def bpq (m : SE) : LT := .mk 7 27 bc2 258 bcz (oa ++ []) (some (m11, m)) bc1 262 bc0
def bcx : LT := .mk 7 27 bc2 258 bcz (oa ++ []) none bc1 262 bc0
def a1d : List AV := [vI 10, vI 11, .bool false, vI 4, .top, .top, .top, .top, .top, .ptr (K.of 256) 0, .top, .nilSlice, .top, .int .i64 0, .top, .top, .top, .top, .top, .top, .top, .top, .top, .top, .top, .top, .top, .top, .top, .top, .top, .top, .top, .top, .top, .top, .top, .top, .top, .top, .top, .top, .top, .top, .top, .top, .top, .top, .top, .top, .top, .top, .top, .top, .top, .top, .top, .top, .top, .top, .top, .top, .top, .top, .top, .top, .top, .top, .top, .top, .top, .top, .top, .top, .top, .top, .top, .top, .top, .top, .top, .top, .top, .top, .top, .top, .top, .top, .top, .top, .top, .top, .top, .top, .top, .top, .top, .top, .top, .top, .top, .top, .top, .top, .top, .top, .top, .top, .top, .top, .top, .top, .top, .top, .top, .top, .top, .top, .top, .top, .top, .top, .top, .top, .top, .top, .top, .top, .top, .top, .top, .top, .top, .top, .top, .top, .top, .top, .top, .top, .top, .top, .top, .top, .top, .top, .top, .top, .top, .top, .top, .top, .top, .top, .top, .top, .top, .top, .top, .top, .top, .top, .top, .top, .top, .top, .top, .top, .top, .top, .top, .top, .top, .top, .top, .top, .top, .top, .top, .top, .top, .top, .top, .top, .top, .top, .top, .top, .top, .top, .top]
def a1c : List HO := []
def bcm : List HO := []
def bcn : LR := (.x 2 ([vI 10, vI 11, .bool false, vI 4, .top, .top, .top, .top, .top, .ptr (K.of 256) 0, .top, .nilSlice, .top, .top, .top, .top, .top, .top, .top, .top, .top, .top, .top, .top, .top, .top, .top, .top, .top, .top, .top, .top, .top, .top, .top, .top, .top, .top, .top, .top, .top, .top, .top, .top, .top, .top, .top, .top, .top, .top, .top, .top, .top, .top, .top, .top, .top, .top, .top, .top, .top, .top, .top, .top, .top, .top, .top, .top, .top, .top, .top, .top, .top, .top, .top, .top, .top, .top, .top, .top, .top, .top, .top, .top, .top, .top, .top, .top, .top, .top, .top, .top, .top, .top, .top, .top, .top, .top, .top, .top, .top, .top, .top, .top, .top, .top, .top, .top, .top, .top, .top, .top, .top, .top, .top, .top, .top, .top, .top, .top, .top, .top, .top, .top, .top, .top, .top, .top, .top, .top, .top, .top, .top, .top, .top, .top, .top, .top, .top, .top, .top, .top, .top, .top, .top, .top, .top, .top, .top, .top, .top, .top, .top, .top, .top, .top, .top, .top, .top, .top, .top, .top, .top, .top, .top, .top, .top, .top, .top, .top, .top, .top, .top, .top, .top, .top, .top, .top, .top, .top, .top, .top, .top, .top, .top, .top, .top, .top, .top, .top, .top]))
def bcl : LT := .mk 7 27 a1d 257 a1c (wq ++ ahm) none bcn 262 bcm
def bci : List HO := [wdR 258 (.v 11) (.app 214 ars)]
def bcj : LR := (.x 2 ([vI 10, vI 11, .bool false, vI 4, .top, .top, .top, .top, .top, .ptr (K.of 256) 0, .top, slW 258 (.v 11), .top, .top, .top, .top, .top, .top, .top, .top, .top, .top, .top, .top, .top, .top, .top, .top, .top, .top, .top, .top, .top, .top, .top, .top, .top, .top, .top, .top, .top, .top, .top, .top, .top, .top, .top, .top, .top, .top, .top, .top, .top, .top, .top, .top, .top, .top, .top, .top, .top, .top, .top, .top, .top, .top, .top, .top, .top, .top, .top, .top, .top, .top, .top, .top, .top, .top, .top, .top, .top, .top, .top, .top, .top, .top, .top, .top, .top, .top, .top, .top, .top, .top, .top, .top, .top, .top, .top, .top, .top, .top, .top, .top, .top, .top, .top, .top, .top, .top, .top, .top, .top, .top, .top, .top, .top, .top, .top, .top, .top, .top, .top, .top, .top, .top, .top, .top, .top, .top, .top, .top, .top, .top, .top, .top, .top, .top, .top, .top, .top, .top, .top, .top, .top, .top, .top, .top, .top, .top, .top, .top, .top, .top, .top, .top, .top, .top, .top, .top, .top, .top, .top, .top, .top, .top, .top, .top, .top, .top, .top, .top, .top, .top, .top, .top, .top, .top, .top, .top, .top, .top, .top, .top, .top, .top, .top, .top, .top, .top, .top]))
def bch : LT := .mk 7 27 a1d 257 a1c (wq ++ ahn) none bcj 262 bci
def a9s : List AV := [vI 10, vI 11, .bool true, vI 4, .top, .top, .top, .top, .top, .ptr (K.of 256) 0, .top, slW 257 (.v 6), .top, .top, .top, .top, .ptr (K.of 258) 0, .top, vI 8, .top, .top, .top, .top, .top, .top, .top, .top, .top, .top, .top, .top, .top, .top, .top, .top, .top, .top, .top, .top, .top, .top, .top, .top, .top, .top, .top, .top, .top, .top, .top, .top, .top, .top, .top, .top, .top, .top, .top, .top, .top, .top, .top, .top, .top, .top, .top, .top, .top, .top, .top, .top, .top, .top, .top, .top, .top, .top, .top, .top, .top, .top, .top, .top, .top, .top, .top, .top, .top, .top, .top, .top, .top, .top, .top, .top, .top, .top, .top, .top, .top, .top, .top, .top, .top, .top, .top, .top, .top, .top, .top, .top, .top, .top, .top, .top, .top, .top, .top, .top, .top, .top, .top, .top, .top, .top, .top, .top, .top, .top, .top, .top, .top, .top, .top, .top, .top, .top, .top, .top, .top, .top, .top, .top, .top, .top, .top, .top, .top, .top, .top, .top, .top, .top, .top, .top, .top, .top, .top, .top, .top, .top, .top, .top, .top, .top, .top, .top, .top, .top, .top, .top, .top, .top, .top, .top, .top, .top, .top, .top, .top, .top, .top, .top, .top, .top, .top, .top, .top, .top, .top, .top]
def a9p : List HO := [bx 258 66 [slA 259 (.v 21), .nilSlice, vI 13], nuR 259 (.v 21) (.s 31)]
def a9q : List HO := [bx 258 66 [slA 259 (.v 21), .nilSlice, vI 13], nuR 259 (.v 21) (.s 31)]
def a9r : LR := (.x 4 ([vI 10, vI 11, .bool true, vI 4, .top, .top, .top, .top, .top, .ptr (K.of 256) 0, .top, slW 257 (.v 6), .top, .top, .top, .top, .ptr (K.of 258) 0, .top, .top, .top, .top, .top, .top, .top, .top, .top, .top, .top, .top, .top, .top, .top, .top, .top, .top, .top, .top, .top, .top, .top, .top, .top, .top, .top, .top, .top, .top, .top, .top, .top, .top, .top, .top, .top, .top, .top, .top, .top, .top, .top, .top, .top, .top, .top, .top, .top, .top, .top, .top, .top, .top, .top, .top, .top, .top, .top, .top, .top, .top, .top, .top, .top, .top, .top, .top, .top, .top, .top, .top, .top, .top, .top, .top, .top, .top, .top, .top, .top, .top, .top, .top, .top, .top, .top, .top, .top, .top, .top, .top, .top, .top, .top, .top, .top, .top, .top, .top, .top, .top, .top, .top, .top, .top, .top, .top, .top, .top, .top, .top, .top, .top, .top, .top, .top, .top, .top, .top, .top, .top, .top, .top, .top, .top, .top, .top, .top, .top, .top, .top, .top, .top, .top, .top, .top, .top, .top, .top, .top, .top, .top, .top, .top, .top, .top, .top, .top, .top, .top, .top, .top, .top, .top, .top, .top, .top, .top, .top, .top, .top, .top, .top, .top, .top, .top, .top, .top, .top, .top, .top, .top, .top]))
def bog (m : SE) : LT := .mk 7 47 a9s 261 a9p (ew ++ []) (some (m10, m)) a9r 266 a9q
def bjs : LT := .mk 7 47 a9s 261 a9p (ew ++ []) none a9r 266 a9q
def a92 : List AV := [vI 10, vI 11, .bool true, vI 4, .top, .top, .top, .top, .top, .ptr (K.of 256) 0, .top, slW 257 (.v 6), .top, .top, .top, .top, .ptr (K.of 258) 0, .top, vI 8, .top, .top, .top, .top, .top, .top, .top, .top, .top, .top, .top, .top, .top, .top, .top, .top, .top, .top, .top, .top, .top, .top, .top, .top, .top, .top, .top, .top, .top, .top, .top, .top, .top, .top, .top, .top, .top, .top, .top, .top, .top, .top, .top, .top, .top, .top, .top, .top, .top, .top, .top, .top, .top, .top, .top, .top, .top, .top, .top, .top, .top, .top, .top, .top, .top, .top, .top, .top, .top, .top, .top, .top, .top, .top, .top, .top, .top, .top, .top, .top, .top, .top, .top, .top, .top, .top, .top, .top, .top, .top, .top, .top, .top, .top, .top, .top, .top, .top, .top, .top, .top, .top, .top, .top, .top, .top, .top, .top, .top, .top, .top, .top, .top, .top, .top, .top, .top, .top, .top, .top, .top, .top, .top, .top, .top, .top, .top, .top, .top, .top, .top, .top, .top, .top, .top, .top, .top, .top, .top, .top, .top, .top, .top, .top, .top, .top, .top, .top, .top, .top, .top, .top, .top, .top, .top, .top, .top, .top, .top, .top, .top, .top, .top, .top, .top, .top, .top, .top, .top, .top, .top, .top]
def a9z : List HO := [bx 258 66 [slA 259 (.v 21), slA 260 (.v 22), vI 13], nuR 259 (.v 21) (.s 31), nuR 260 (.v 22) (.s 32)]
def a90 : List HO := [bx 258 66 [slA 259 (.v 21), slA 260 (.v 22), vI 13], nuR 259 (.v 21) (.s 31), nuR 260 (.v 22) (.s 32)]
def a91 : LR := (.x 4 ([vI 10, vI 11, .bool true, vI 4, .top, .top, .top, .top, .top, .ptr (K.of 256) 0, .top, slW 257 (.v 6), .top, .top, .top, .top, .ptr (K.of 258) 0, .top, .top, .top, .top, .top, .top, .top, .top, .top, .top, .top, .top, .top, .top, .top, .top, .top, .top, .top, .top, .top, .top, .top, .top, .top, .top, .top, .top, .top, .top, .top, .top, .top, .top, .top, .top, .top, .top, .top, .top, .top, .top, .top, .top, .top, .top, .top, .top, .top, .top, .top, .top, .top, .top, .top, .top, .top, .top, .top, .top, .top, .top, .top, .top, .top, .top, .top, .top, .top, .top, .top, .top, .top, .top, .top, .top, .top, .top, .top, .top, .top, .top, .top, .top, .top, .top, .top, .top, .top, .top, .top, .top, .top, .top, .top, .top, .top, .top, .top, .top, .top, .top, .top, .top, .top, .top, .top, .top, .top, .top, .top, .top, .top, .top, .top, .top, .top, .top, .top, .top, .top, .top, .top, .top, .top, .top, .top, .top, .top, .top, .top, .top, .top, .top, .top, .top, .top, .top, .top, .top, .top, .top, .top, .top, .top, .top, .top, .top, .top, .top, .top, .top, .top, .top, .top, .top, .top, .top, .top, .top, .top, .top, .top, .top, .top, .top, .top, .top, .top, .top, .top, .top, .top, .top]))
def boi (m : SE) : LT := .mk 7 47 a92 261 a9z (ew ++ []) (some (m10, m)) a91 266 a90
def bju : LT := .mk 7 47 a92 261 a9z (ew ++ []) none a91 266 a90
def a88 : List AV := [vI 10, vI 11, .bool true, vI 4, .top, .top, .top, .top, .top, .ptr (K.of 256) 0, .top, slW 257 (.v 6), .top, .top, .top, .top, .ptr (K.of 258) 0, .top, .top, vI 8, .top, .top, .top, .top, .top, .top, .top, .top, .top, .top, .top, .top, .top, .top, .top, .top, .top, .top, .top, .top, .top, .top, .top, .top, .top, .top, .top, .top, .top, .top, .top, .top, .top, .top, .top, .top, .top, .top, .top, .top, .top, .top, .top, .top, .top, .top, .top, .top, .top, .top, .top, .top, .top, .top, .top, .top, .top, .top, .top, .top, .top, .top, .top, .top, .top, .top, .top, .top, .top, .top, .top, .top, .top, .top, .top, .top, .top, .top, .top, .top, .top, .top, .top, .top, .top, .top, .top, .top, .top, .top, .top, .top, .top, .top, .top, .top, .top, .top, .top, .top, .top, .top, .top, .top, .top, .top, .top, .top, .top, .top, .top, .top, .top, .top, .top, .top, .top, .top, .top, .top, .top, .top, .top, .top, .top, .top, .top, .top, .top, .top, .top, .top, .top, .top, .top, .top, .top, .top, .top, .top, .top, .top, .top, .top, .top, .top, .top, .top, .top, .top, .top, .top, .top, .top, .top, .top, .top, .top, .top, .top, .top, .top, .top, .top, .top, .top, .top, .top, .top, .top, .top]
def a85 : List HO := [bx 258 66 [.nilSlice, slA 260 (.v 22), vI 13], nuR 260 (.v 22) (.s 32)]
def a86 : List HO := [bx 258 66 [.nilSlice, slA 260 (.v 22), vI 13], nuR 260 (.v 22) (.s 32)]
def a87 : LR := (.x 6 ([vI 10, vI 11, .bool true, vI 4, .top, .top, .top, .top, .top, .ptr (K.of 256) 0, .top, slW 257 (.v 6), .top, .top, .top, .top, .ptr (K.of 258) 0, .top, .top, .top, .top, .top, .top, .top, .top, .top, .top, .top, .top, .top, .top, .top, .top, .top, .top, .top, .top, .top, .top, .top, .top, .top, .top, .top, .top, .top, .top, .top, .top, .top, .top, .top, .top, .top, .top, .top, .top, .top, .top, .top, .top, .top, .top, .top, .top, .top, .top, .top, .top, .top, .top, .top, .top, .top, .top, .top, .top, .top, .top, .top, .top, .top, .top, .top, .top, .top, .top, .top, .top, .top, .top, .top, .top, .top, .top, .top, .top, .top, .top, .top, .top, .top, .top, .top, .top, .top, .top, .top, .top, .top, .top, .top, .top, .top, .top, .top, .top, .top, .top, .top, .top, .top, .top, .top, .top, .top, .top, .top, .top, .top, .top, .top, .top, .top, .top, .top, .top, .top, .top, .top, .top, .top, .top, .top, .top, .top, .top, .top, .top, .top, .top, .top, .top, .top, .top, .top, .top, .top, .top, .top, .top, .top, .top, .top, .top, .top, .top, .top, .top, .top, .top, .top, .top, .top, .top, .top, .top, .top, .top, .top, .top, .top, .top, .top, .top, .top, .top, .top, .top, .top, .top]))
def boc (m : SE) : LT := .mk 7 57 a88 261 a85 (ez ++ []) (some (m11, m)) a87 266 a86
def bjo : LT := .mk 7 57 a88 261 a85 (ez ++ []) none a87 266 a86
def a9i : List AV := [vI 10, vI 11, .bool true, vI 4, .top, .top, .top, .top, .top, .ptr (K.of 256) 0, .top, slW 257 (.v 6), .top, .top, .top, .top, .ptr (K.of 258) 0, .top, .top, vI 8, .top, .top, .top, .top, .top, .top, .top, .top, .top, .top, .top, .top, .top, .top, .top, .top, .top, .top, .top, .top, .top, .top, .top, .top, .top, .top, .top, .top, .top, .top, .top, .top, .top, .top, .top, .top, .top, .top, .top, .top, .top, .top, .top, .top, .top, .top, .top, .top, .top, .top, .top, .top, .top, .top, .top, .top, .top, .top, .top, .top, .top, .top, .top, .top, .top, .top, .top, .top, .top, .top, .top, .top, .top, .top, .top, .top, .top, .top, .top, .top, .top, .top, .top, .top, .top, .top, .top, .top, .top, .top, .top, .top, .top, .top, .top, .top, .top, .top, .top, .top, .top, .top, .top, .top, .top, .top, .top, .top, .top, .top, .top, .top, .top, .top, .top, .top, .top, .top, .top, .top, .top, .top, .top, .top, .top, .top, .top, .top, .top, .top, .top, .top, .top, .top, .top, .top, .top, .top, .top, .top, .top, .top, .top, .top, .top, .top, .top, .top, .top, .top, .top, .top, .top, .top, .top, .top, .top, .top, .top, .top, .top, .top, .top, .top, .top, .top, .top, .top, .top, .top, .top]
def a9f : List HO := [bx 258 66 [slA 259 (.v 21), slA 260 (.v 22), vI 13], nuR 259 (.v 21) (.s 31), nuR 260 (.v 22) (.s 32)]
def a9g : List HO := [bx 258 66 [slA 259 (.v 21), slA 260 (.v 22), vI 13], nuR 259 (.v 21) (.s 31), nuR 260 (.v 22) (.s 32)]
def a9h : LR := (.x 6 ([vI 10, vI 11, .bool true, vI 4, .top, .top, .top, .top, .top, .ptr (K.of 256) 0, .top, slW 257 (.v 6), .top, .top, .top, .top, .ptr (K.of 258) 0, .top, .top, .top, .top, .top, .top, .top, .top, .top, .top, .top, .top, .top, .top, .top, .top, .top, .top, .top, .top, .top, .top, .top, .top, .top, .top, .top, .top, .top, .top, .top, .top, .top, .top, .top, .top, .top, .top, .top, .top, .top, .top, .top, .top, .top, .top, .top, .top, .top, .top, .top, .top, .top, .top, .top, .top, .top, .top, .top, .top, .top, .top, .top, .top, .top, .top, .top, .top, .top, .top, .top, .top, .top, .top, .top, .top, .top, .top, .top, .top, .top, .top, .top, .top, .top, .top, .top, .top, .top, .top, .top, .top, .top, .top, .top, .top, .top, .top, .top, .top, .top, .top, .top, .top, .top, .top, .top, .top, .top, .top, .top, .top, .top, .top, .top, .top, .top, .top, .top, .top, .top, .top, .top, .top, .top, .top, .top, .top, .top, .top, .top, .top, .top, .top, .top, .top, .top, .top, .top, .top, .top, .top, .top, .top, .top, .top, .top, .top, .top, .top, .top, .top, .top, .top, .top, .top, .top, .top, .top, .top, .top, .top, .top, .top, .top, .top, .top, .top, .top, .top, .top, .top, .top, .top]))
def boe (m : SE) : LT := .mk 7 57 a9i 261 a9f (ez ++ []) (some (m11, m)) a9h 266 a9g
def bjq : LT := .mk 7 57 a9i 261 a9f (ez ++ []) none a9h 266 a9g
def a9n : List AV := [vI 10, vI 11, .bool false, vI 4, .top, .top, .top, .top, .top, .ptr (K.of 256) 0, .top, slW 257 (.v 6), .top, .top, .top, .top, .ptr (K.of 258) 0, .top, vI 8, .top, .top, .top, .top, .top, .top, .top, .top, .top, .top, .top, .top, .top, .top, .top, .top, .top, .top, .top, .top, .top, .top, .top, .top, .top, .top, .top, .top, .top, .top, .top, .top, .top, .top, .top, .top, .top, .top, .top, .top, .top, .top, .top, .top, .top, .top, .top, .top, .top, .top, .top, .top, .top, .top, .top, .top, .top, .top, .top, .top, .top, .top, .top, .top, .top, .top, .top, .top, .top, .top, .top, .top, .top, .top, .top, .top, .top, .top, .top, .top, .top, .top, .top, .top, .top, .top, .top, .top, .top, .top, .top, .top, .top, .top, .top, .top, .top, .top, .top, .top, .top, .top, .top, .top, .top, .top, .top, .top, .top, .top, .top, .top, .top, .top, .top, .top, .top, .top, .top, .top, .top, .top, .top, .top, .top, .top, .top, .top, .top, .top, .top, .top, .top, .top, .top, .top, .top, .top, .top, .top, .top, .top, .top, .top, .top, .top, .top, .top, .top, .top, .top, .top, .top, .top, .top, .top, .top, .top, .top, .top, .top, .top, .top, .top, .top, .top, .top, .top, .top, .top, .top, .top]
def a9k : List HO := [bx 258 66 [slA 259 (.v 21), .nilSlice, vI 13], nuR 259 (.v 21) (.s 31)]
def a9l : List HO := [bx 258 66 [slA 259 (.v 21), .nilSlice, vI 13], nuR 259 (.v 21) (.s 31)]
def a9m : LR := (.x 4 ([vI 10, vI 11, .bool false, vI 4, .top, .top, .top, .top, .top, .ptr (K.of 256) 0, .top, slW 257 (.v 6), .top, .top, .top, .top, .ptr (K.of 258) 0, .top, .top, .top, .top, .top, .top, .top, .top, .top, .top, .top, .top, .top, .top, .top, .top, .top, .top, .top, .top, .top, .top, .top, .top, .top, .top, .top, .top, .top, .top, .top, .top, .top, .top, .top, .top, .top, .top, .top, .top, .top, .top, .top, .top, .top, .top, .top, .top, .top, .top, .top, .top, .top, .top, .top, .top, .top, .top, .top, .top, .top, .top, .top, .top, .top, .top, .top, .top, .top, .top, .top, .top, .top, .top, .top, .top, .top, .top, .top, .top, .top, .top, .top, .top, .top, .top, .top, .top, .top, .top, .top, .top, .top, .top, .top, .top, .top, .top, .top, .top, .top, .top, .top, .top, .top, .top, .top, .top, .top, .top, .top, .top, .top, .top, .top, .top, .top, .top, .top, .top, .top, .top, .top, .top, .top, .top, .top, .top, .top, .top, .top, .top, .top, .top, .top, .top, .top, .top, .top, .top, .top, .top, .top, .top, .top, .top, .top, .top, .top, .top, .top, .top, .top, .top, .top, .top, .top, .top, .top, .top, .top, .top, .top, .top, .top, .top, .top, .top, .top, .top, .top, .top, .top, .top]))
def bof (m : SE) : LT := .mk 7 47 a9n 261 a9k (ew ++ []) (some (m10, m)) a9m 266 a9l
def bjr : LT := .mk 7 47 a9n 261 a9k (ew ++ []) none a9m 266 a9l
def a9x : List AV := [vI 10, vI 11, .bool false, vI 4, .top, .top, .top, .top, .top, .ptr (K.of 256) 0, .top, slW 257 (.v 6), .top, .top, .top, .top, .ptr (K.of 258) 0, .top, vI 8, .top, .top, .top, .top, .top, .top, .top, .top, .top, .top, .top, .top, .top, .top, .top, .top, .top, .top, .top, .top, .top, .top, .top, .top, .top, .top, .top, .top, .top, .top, .top, .top, .top, .top, .top, .top, .top, .top, .top, .top, .top, .top, .top, .top, .top, .top, .top, .top, .top, .top, .top, .top, .top, .top, .top, .top, .top, .top, .top, .top, .top, .top, .top, .top, .top, .top, .top, .top, .top, .top, .top, .top, .top, .top, .top, .top, .top, .top, .top, .top, .top, .top, .top, .top, .top, .top, .top, .top, .top, .top, .top, .top, .top, .top, .top, .top, .top, .top, .top, .top, .top, .top, .top, .top, .top, .top, .top, .top, .top, .top, .top, .top, .top, .top, .top, .top, .top, .top, .top, .top, .top, .top, .top, .top, .top, .top, .top, .top, .top, .top, .top, .top, .top, .top, .top, .top, .top, .top, .top, .top, .top, .top, .top, .top, .top, .top, .top, .top, .top, .top, .top, .top, .top, .top, .top, .top, .top, .top, .top, .top, .top, .top, .top, .top, .top, .top, .top, .top, .top, .top, .top, .top]
def a9u : List HO := [bx 258 66 [slA 259 (.v 21), slA 260 (.v 22), vI 13], nuR 259 (.v 21) (.s 31), nuR 260 (.v 22) (.s 32)]
def a9v : List HO := [bx 258 66 [slA 259 (.v 21), slA 260 (.v 22), vI 13], nuR 259 (.v 21) (.s 31), nuR 260 (.v 22) (.s 32)]
def a9w : LR := (.x 4 ([vI 10, vI 11, .bool false, vI 4, .top, .top, .top, .top, .top, .ptr (K.of 256) 0, .top, slW 257 (.v 6), .top, .top, .top, .top, .ptr (K.of 258) 0, .top, .top, .top, .top, .top, .top, .top, .top, .top, .top, .top, .top, .top, .top, .top, .top, .top, .top, .top, .top, .top, .top, .top, .top, .top, .top, .top, .top, .top, .top, .top, .top, .top, .top, .top, .top, .top, .top, .top, .top, .top, .top, .top, .top, .top, .top, .top, .top, .top, .top, .top, .top, .top, .top, .top, .top, .top, .top, .top, .top, .top, .top, .top, .top, .top, .top, .top, .top, .top, .top, .top, .top, .top, .top, .top, .top, .top, .top, .top, .top, .top, .top, .top, .top, .top, .top, .top, .top, .top, .top, .top, .top, .top, .top, .top, .top, .top, .top, .top, .top, .top, .top, .top, .top, .top, .top, .top, .top, .top, .top, .top, .top, .top, .top, .top, .top, .top, .top, .top, .top, .top, .top, .top, .top, .top, .top, .top, .top, .top, .top, .top, .top, .top, .top, .top, .top, .top, .top, .top, .top, .top, .top, .top, .top, .top, .top, .top, .top, .top, .top, .top, .top, .top, .top, .top, .top, .top, .top, .top, .top, .top, .top, .top, .top, .top, .top, .top, .top, .top, .top, .top, .top, .top, .top]))
def boh (m : SE) : LT := .mk 7 47 a9x 261 a9u (ew ++ []) (some (m10, m)) a9w 266 a9v
def bjt : LT := .mk 7 47 a9x 261 a9u (ew ++ []) none a9w 266 a9v
def a83 : List AV := [vI 10, vI 11, .bool false, vI 4, .top, .top, .top, .top, .top, .ptr (K.of 256) 0, .top, slW 257 (.v 6), .top, .top, .top, .top, .ptr (K.of 258) 0, .top, .top, vI 8, .top, .top, .top, .top, .top, .top, .top, .top, .top, .top, .top, .top, .top, .top, .top, .top, .top, .top, .top, .top, .top, .top, .top, .top, .top, .top, .top, .top, .top, .top, .top, .top, .top, .top, .top, .top, .top, .top, .top, .top, .top, .top, .top, .top, .top, .top, .top, .top, .top, .top, .top, .top, .top, .top, .top, .top, .top, .top, .top, .top, .top, .top, .top, .top, .top, .top, .top, .top, .top, .top, .top, .top, .top, .top, .top, .top, .top, .top, .top, .top, .top, .top, .top, .top, .top, .top, .top, .top, .top, .top, .top, .top, .top, .top, .top, .top, .top, .top, .top, .top, .top, .top, .top, .top, .top, .top, .top, .top, .top, .top, .top, .top, .top, .top, .top, .top, .top, .top, .top, .top, .top, .top, .top, .top, .top, .top, .top, .top, .top, .top, .top, .top, .top, .top, .top, .top, .top, .top, .top, .top, .top, .top, .top, .top, .top, .top, .top, .top, .top, .top, .top, .top, .top, .top, .top, .top, .top, .top, .top, .top, .top, .top, .top, .top, .top, .top, .top, .top, .top, .top, .top]
def a80 : List HO := [bx 258 66 [.nilSlice, slA 260 (.v 22), vI 13], nuR 260 (.v 22) (.s 32)]
def a81 : List HO := [bx 258 66 [.nilSlice, slA 260 (.v 22), vI 13], nuR 260 (.v 22) (.s 32)]
def a82 : LR := (.x 6 ([vI 10, vI 11, .bool false, vI 4, .top, .top, .top, .top, .top, .ptr (K.of 256) 0, .top, slW 257 (.v 6), .top, .top, .top, .top, .ptr (K.of 258) 0, .top, .top, .top, .top, .top, .top, .top, .top, .top, .top, .top, .top, .top, .top, .top, .top, .top, .top, .top, .top, .top, .top, .top, .top, .top, .top, .top, .top, .top, .top, .top, .top, .top, .top, .top, .top, .top, .top, .top, .top, .top, .top, .top, .top, .top, .top, .top, .top, .top, .top, .top, .top, .top, .top, .top, .top, .top, .top, .top, .top, .top, .top, .top, .top, .top, .top, .top, .top, .top, .top, .top, .top, .top, .top, .top, .top, .top, .top, .top, .top, .top, .top, .top, .top, .top, .top, .top, .top, .top, .top, .top, .top, .top, .top, .top, .top, .top, .top, .top, .top, .top, .top, .top, .top, .top, .top, .top, .top, .top, .top, .top, .top, .top, .top, .top, .top, .top, .top, .top, .top, .top, .top, .top, .top, .top, .top, .top, .top, .top, .top, .top, .top, .top, .top, .top, .top, .top, .top, .top, .top, .top, .top, .top, .top, .top, .top, .top, .top, .top, .top, .top, .top, .top, .top, .top, .top, .top, .top, .top, .top, .top, .top, .top, .top, .top, .top, .top, .top, .top, .top, .top, .top, .top, .top]))
def bob (m : SE) : LT := .mk 7 57 a83 261 a80 (ez ++ []) (some (m11, m)) a82 266 a81
def bjn : LT := .mk 7 57 a83 261 a80 (ez ++ []) none a82 266 a81
def a9d : List AV := [vI 10, vI 11, .bool false, vI 4, .top, .top, .top, .top, .top, .ptr (K.of 256) 0, .top, slW 257 (.v 6), .top, .top, .top, .top, .ptr (K.of 258) 0, .top, .top, vI 8, .top, .top, .top, .top, .top, .top, .top, .top, .top, .top, .top, .top, .top, .top, .top, .top, .top, .top, .top, .top, .top, .top, .top, .top, .top, .top, .top, .top, .top, .top, .top, .top, .top, .top, .top, .top, .top, .top, .top, .top, .top, .top, .top, .top, .top, .top, .top, .top, .top, .top, .top, .top, .top, .top, .top, .top, .top, .top, .top, .top, .top, .top, .top, .top, .top, .top, .top, .top, .top, .top, .top, .top, .top, .top, .top, .top, .top, .top, .top, .top, .top, .top, .top, .top, .top, .top, .top, .top, .top, .top, .top, .top, .top, .top, .top, .top, .top, .top, .top, .top, .top, .top, .top, .top, .top, .top, .top, .top, .top, .top, .top, .top, .top, .top, .top, .top, .top, .top, .top, .top, .top, .top, .top, .top, .top, .top, .top, .top, .top, .top, .top, .top, .top, .top, .top, .top, .top, .top, .top, .top, .top, .top, .top, .top, .top, .top, .top, .top, .top, .top, .top, .top, .top, .top, .top, .top, .top, .top, .top, .top, .top, .top, .top, .top, .top, .top, .top, .top, .top, .top, .top]
def a9a : List HO := [bx 258 66 [slA 259 (.v 21), slA 260 (.v 22), vI 13], nuR 259 (.v 21) (.s 31), nuR 260 (.v 22) (.s 32)]
def a9b : List HO := [bx 258 66 [slA 259 (.v 21), slA 260 (.v 22), vI 13], nuR 259 (.v 21) (.s 31), nuR 260 (.v 22) (.s 32)]
def a9c : LR := (.x 6 ([vI 10, vI 11, .bool false, vI 4, .top, .top, .top, .top, .top, .ptr (K.of 256) 0, .top, slW 257 (.v 6), .top, .top, .top, .top, .ptr (K.of 258) 0, .top, .top, .top, .top, .top, .top, .top, .top, .top, .top, .top, .top, .top, .top, .top, .top, .top, .top, .top, .top, .top, .top, .top, .top, .top, .top, .top, .top, .top, .top, .top, .top, .top, .top, .top, .top, .top, .top, .top, .top, .top, .top, .top, .top, .top, .top, .top, .top, .top, .top, .top, .top, .top, .top, .top, .top, .top, .top, .top, .top, .top, .top, .top, .top, .top, .top, .top, .top, .top, .top, .top, .top, .top, .top, .top, .top, .top, .top, .top, .top, .top, .top, .top, .top, .top, .top, .top, .top, .top, .top, .top, .top, .top, .top, .top, .top, .top, .top, .top, .top, .top, .top, .top, .top, .top, .top, .top, .top, .top, .top, .top, .top, .top, .top, .top, .top, .top, .top, .top, .top, .top, .top, .top, .top, .top, .top, .top, .top, .top, .top, .top, .top, .top, .top, .top, .top, .top, .top, .top, .top, .top, .top, .top, .top, .top, .top, .top, .top, .top, .top, .top, .top, .top, .top, .top, .top, .top, .top, .top, .top, .top, .top, .top, .top, .top, .top, .top, .top, .top, .top, .top, .top, .top, .top]))
def bod (m : SE) : LT := .mk 7 57 a9d 261 a9a (ez ++ []) (some (m11, m)) a9c 266 a9b
def bjp : LT := .mk 7 57 a9d 261 a9a (ez ++ []) none a9c 266 a9b
end
theorem ev5 : (∀ (σ : Nat → List Int) (k : IntKind) (a b : SE), (SE.bin 5 k a b).eval σ = (a.eval σ).emod (b.eval σ)) ∧ (∀ x : Int, x * 0 = 0) ∧ (∀ x : Int, x - 0 = x) ∧ (-(0 : Int) = 0) := ⟨by intros; rfl, Int.mul_zero, Int.sub_zero, rfl⟩
theorem bq7 {x n : Int} (h : 0 < n) : (0 ≤ x.tmod n → x.emod n = x.tmod n) ∧ (x.tmod n < 0 → x.emod n = x.tmod n + n) ∧ -n < x.tmod n ∧ x.tmod n < n := by
 have e : x.emod n = x % n := rfl
 have q := Int.emod_nonneg x (show n ≠ 0 by omega)
 have q2 := Int.emod_lt_of_pos x h
 by_cases hx : 0 ≤ x
 ·have t : x.tmod n = x % n := Int.tmod_eq_emod_of_nonneg hx
  rw [e, t]; exact ⟨fun _ => rfl, by omega, by omega, by omega⟩
 ·obtain ⟨y, rfl⟩ : ∃ y, x = -y := ⟨-x, by omega⟩
  have t : (-y).tmod n = -(y % n) := by rw [Int.neg_tmod, Int.tmod_eq_emod_of_nonneg (show 0 ≤ y by omega)]
  have r := Int.emod_nonneg y (show n ≠ 0 by omega)
  have r2 := Int.emod_lt_of_pos y h
  have d := Int.mul_ediv_add_emod y n
  have d2 := Int.mul_ediv_add_emod (-y) n
  rw [e, t]
  refine ⟨fun hh => ?_, fun hh => ?_, by omega, by omega⟩
  ·have z : y % n = 0 := by omega
   have : n ∣ -y := Int.dvd_neg.2 (Int.dvd_of_emod_eq_zero z)
   rw [Int.emod_eq_zero_of_dvd this, z]; rfl
  ·rw [Int.neg_emod, if_neg]
   ·rw [show (n.natAbs : Int) = n by omega]; omega
   ·intro hd
    have := Int.emod_eq_zero_of_dvd hd
    omega
theorem vw (b i n : Int) : fj (b + i) (n - i) = if i < n then 1 :: (b + i) :: fj (b + (i + 1)) (n - (i + 1)) else [] := by
 split
 ·rename_i h
  obtain ⟨m, hm⟩ : ∃ m : Nat, n - i = (m : Int) + 1 := ⟨(n - i - 1).toNat, by omega⟩
  rw [hm, show n - (i + 1) = (m : Int) by omega]
  unfold fj
  rw [show ((m : Int) + 1).toNat = m + 1 by omega, Int.toNat_natCast]
  have go : ∀ (m : Nat) (b : Int), aga b (m + 1) = 1 :: b :: aga (b + 1) m := by
   intro m
   induction m with
   | zero => intro b; show [] ++ [1, b + ((0 : Nat) : Int)] = _; simp [aga]
   | succ m ih =>
     intro b
     show aga b (m + 1) ++ [1, b + ((m + 1 : Nat) : Int)] = 1 :: b :: (aga (b + 1) m ++ [1, b + 1 + (m : Int)])
     rw [ih b, show b + ((m + 1 : Nat) : Int) = b + 1 + (m : Int) by omega]; rfl
  rw [go m, show b + i + 1 = b + (i + 1) by omega]
 ·unfold fj
  rw [show (n - i).toNat = 0 by omega]; rfl
theorem th (b c n : Int) (h : c = b + 1) : fj b n = if 0 < n then 1 :: b :: fj c (n - 1) else [] := by
 have := vw b 0 n
 rw [Int.add_zero, Int.sub_zero, Int.zero_add, ← h] at this
 exact this
theorem md (b : Int) : fj b 0 = [] := rfl
section
variable {σ : Nat → List Int}
theorem bqu (h : SAll σ az1) : 1 ≤ (σ 2).headD 0 ∧ (σ 2).headD 0 ≤ 100000 := by
 simp only [sall_cons, sE, sF, evs] at h
 exact ⟨h.1, h.2.1⟩
theorem a1a (h : SAll σ sj) : 0 ≤ (σ 8).headD 0 ∧ (σ 8).headD 0 ≤ (σ 10).headD 0 ∧ (σ 10).headD 0 ≤ 60 ∧ 1 ≤ (σ 6).headD 0 ∧ (σ 6).headD 0 + ((σ 10).headD 0 + -1 * (σ 8).headD 0) ≤ 200 ∧ ((σ 7).length : Int) = 2 * (σ 6).headD 0 := by
 simp only [sall_cons, sE, sF, evs] at h
 exact ⟨h.1, h.2.1, h.2.2.1, h.2.2.2.1, h.2.2.2.2.1, h.2.2.2.2.2.1⟩
theorem a1i (h : SAll σ oa) : 0 ≤ (σ 8).headD 0 ∧ (σ 8).headD 0 ≤ (σ 11).headD 0 ∧ (σ 11).headD 0 ≤ 60 ∧ 1 ≤ (σ 6).headD 0 ∧ (σ 6).headD 0 + ((σ 11).headD 0 + -1 * (σ 8).headD 0) ≤ 200 ∧ ((σ 7).length : Int) = 2 * (σ 6).headD 0 := by
 simp only [sall_cons, sE, sF, evs] at h
 exact ⟨h.1, h.2.1, h.2.2.1, h.2.2.2.1, h.2.2.2.2.1, h.2.2.2.2.2.1⟩
theorem bbj (h : SAll σ ab1) : 0 ≤ (σ 10).headD 0 ∧ (σ 10).headD 0 ≤ 60 := by
 simp only [sall_cons, sE, sF, evs] at h
 exact ⟨h.1, h.2.1⟩
theorem bbk (h : SAll σ wq) : 0 ≤ (σ 11).headD 0 ∧ (σ 11).headD 0 ≤ 60 := by
 simp only [sall_cons, sE, sF, evs] at h
 exact ⟨h.1, h.2.1⟩
theorem bok {g h : GE} (e : (SE.eqg g h).eval σ = 1) : g.eval σ = h.eval σ := by
 have e : (if g.eval σ = h.eval σ then (1 : Int) else 0) = 1 := e
 split at e
 ·assumption
 ·cases e
theorem afq (h : SAll σ ew) : 0 ≤ (σ 8).headD 0 ∧ (σ 8).headD 0 ≤ (σ 10).headD 0 ∧ (σ 10).headD 0 ≤ 60 ∧ (σ 21).headD 0 = (σ 10).headD 0 ∧ ((σ 31).length : Int) = (σ 21).headD 0 ∧ σ 31 = seqR 100 ((σ 10).headD 0) := by
 obtain ⟨a, h⟩ := sall_cons.1 h
 obtain ⟨b, h⟩ := sall_cons.1 h
 obtain ⟨c, h⟩ := sall_cons.1 h
 obtain ⟨d, h⟩ := sall_cons.1 h
 obtain ⟨e, h⟩ := sall_cons.1 h
 obtain ⟨f, h⟩ := sall_cons.1 h
 exact ⟨sF.1 a, sF.1 b, sF.1 c, sE.1 d, sE.1 e, bok (sE.1 f)⟩
theorem afp (h : SAll σ ez) : 0 ≤ (σ 8).headD 0 ∧ (σ 8).headD 0 ≤ (σ 11).headD 0 ∧ (σ 11).headD 0 ≤ 60 ∧ (σ 22).headD 0 = (σ 11).headD 0 ∧ ((σ 32).length : Int) = (σ 22).headD 0 ∧ σ 32 = seqR 200 ((σ 11).headD 0) := by
 obtain ⟨a, h⟩ := sall_cons.1 h
 obtain ⟨b, h⟩ := sall_cons.1 h
 obtain ⟨c, h⟩ := sall_cons.1 h
 obtain ⟨d, h⟩ := sall_cons.1 h
 obtain ⟨e, h⟩ := sall_cons.1 h
 obtain ⟨f, h⟩ := sall_cons.1 h
 exact ⟨sF.1 a, sF.1 b, sF.1 c, sE.1 d, sE.1 e, bok (sE.1 f)⟩
end
def btf [Gv] : Prop := (SAll Gv.σ [] → cm 11 bqt 256 bqq bqs 256 bqr)
theorem boz [Gv] (hI : SAll Gv.σ az1) : btf := by
 obtain ⟨l1, l2⟩ := bqu hI
 obtain ⟨q1, q2, q3, q4⟩ := bq7 (x := (Gv.σ 1).headD 0) (n := (Gv.σ 2).headD 0) (by omega)
 have hI := zT6 hI (.c 0) (.v 2)
 have hI := zN6 hI (.v 2) (.c 0)
 rcases zl6 hI art (.c 0) with ⟨hI, k3⟩ | ⟨hI, k3⟩
 ·have u := l1
  exact zm [] (.i (.bin 0 .i64 art (.v 2)) az0 .nil) al jz hI ze3
 ·have u := l1
  exact zm [] (.i art az0 .nil) al jz hI ze3
theorem bej [Gv] : de bnk := fun σ _ hA _ => (@boz ⟨σ⟩  (ap hA).1) (ap hA).2
def bb8 [Gv] : Prop := (SAll Gv.σ [] → b8 7 15 bcd 258 bb9 bcc 262 bcb)
theorem bmg [Gv] (hh : ∀ t ∈ [bpn m10], ar t) (hI : SAll Gv.σ sj) : bb8 := by
 obtain ⟨l1, l2, l3, l4, l5, l6⟩ := a1a hI
 rcases zl6 hI (.v 8) (.v 10) with ⟨hI, k1⟩ | ⟨hI, k1⟩
 ·have hI := zF6 hI (.c 400000) oc
  have hI := zF6 hI c7 (.c 0)
  have hI := zF6 hI (.v 10) c7
  have hI := zF6 hI oc (.c 1)
  have hI := zF6 hI (.c 200) aho
  have hI := zE6 hI ahp ahq
  have hI := zT6 hI j1 yv
  have hI := zF6 hI j1 (.c 0)
  have u := zf3 (vw 100 ((Gv.σ 8).headD 0) ((Gv.σ 10).headD 0))
  exact zt [(261, 258)] (.i aho alq (.g a6b afi .nil)) al (zp hI hh) hI ze4
 ·have u := zf3 (vw 100 ((Gv.σ 8).headD 0) ((Gv.σ 10).headD 0))
  exact zt [(257, 258)] (.i (.v 6) alq (.g (.s 7) afi .nil)) al (zp hI hh) hI ze4
theorem atz : ∀ (B : Nat) (σ : Nat → List Int), SAll σ sj → (m10).eval σ < (B : Int) → @bb8 ⟨σ⟩
 | 0, σ, hI, hb => by obtain ⟨l1, l2, l3, l4, l5, l6⟩ := a1a hI; simp only [m10, evs, wr] at hb; omega
 | B + 1, σ, hI, hb => by
   have ih : ∀ σ' : Nat → List Int, SAll σ' sj → 0 ≤ (m10).eval σ' ∧ (m10).eval σ' < (m10).eval σ → @bb8 ⟨σ'⟩ := fun σ' h h' => atz B σ' h (by omega)
   have hh : ∀ t ∈ [bpn (m10)], @ar ⟨σ⟩ t := by
    intro t ht
    simp only [List.mem_cons, zJ, or_false] at ht
    rcases ht with rfl
    ·exact fun σ' _ hA hb => (ih σ' (ap hA).1 hb) (ap hA).2
   exact @bmg ⟨σ⟩ hh hI
theorem a09 [Gv] : ar bb7 := fun σ _ hA _ => (atz (((m10).eval σ).toNat + 1) σ (ap hA).1 (by omega)) (ap hA).2
theorem bj8 [Gv] : ∀ t ∈ [bb7], ar t := vv a09
def bpl [Gv] : Prop := (SAll Gv.σ aru → b8 7 15 a07 257 a06 bbz 262 bby) ∧ (SAll Gv.σ ahl → b8 7 15 a07 257 a06 bbv 262 bbu)
theorem bap [Gv] (hI : SAll Gv.σ ab1) : bpl := by
 obtain ⟨l1, l2⟩ := bbj hI
 rcases zl6 hI (.c 0) (.v 10) with ⟨hI, k1⟩ | ⟨hI, k1⟩
 ·have hI := zF6 hI (.v 10) (.c 1)
  have hI := zF6 hI (.c 200) ahr
  have u := zf3 (th 100 101 ((Gv.σ 10).headD 0) rfl)
  exact ⟨zn3,
   zt [(260, 258)] (.i ahr (.v 10) (.g a6c a6d .nil)) al (zp hI bj8) hI ze4⟩
 ·have u := zf3 (th 100 101 ((Gv.σ 10).headD 0) rfl)
  exact ⟨zt0 [] al (zp hI bj8) hI,
   zn3⟩
theorem bb0 [Gv] : ar bbx := fun σ _ hA _ => (@bap ⟨σ⟩  (ap hA).1).1 (ap hA).2
theorem bbw [Gv] : ar bbt := fun σ _ hA _ => (@bap ⟨σ⟩  (ap hA).1).2 (ap hA).2
def bc4 [Gv] : Prop := (SAll Gv.σ [] → b8 7 27 bc8 258 bc5 bc7 262 bc6)
theorem bmi [Gv] (hh : ∀ t ∈ [bpr m11], ar t) (hI : SAll Gv.σ oa) : bc4 := by
 obtain ⟨l1, l2, l3, l4, l5, l6⟩ := a1i hI
 rcases zl6 hI (.v 8) (.v 11) with ⟨hI, k1⟩ | ⟨hI, k1⟩
 ·have hI := zF6 hI (.c 400000) oc
  have hI := zF6 hI c7 (.c 0)
  have hI := zF6 hI (.v 11) c7
  have hI := zF6 hI oc (.c 1)
  have hI := zF6 hI (.c 200) ahs
  have hI := zE6 hI ahp ahq
  have hI := zT6 hI j2 tq
  have hI := zF6 hI j2 (.c 0)
  have u := zf3 (vw 200 ((Gv.σ 8).headD 0) ((Gv.σ 11).headD 0))
  exact zt [(261, 258)] (.i ahs ad5 (.g a6e aaq .nil)) al (zp hI hh) hI ze4
 ·have u := zf3 (vw 200 ((Gv.σ 8).headD 0) ((Gv.σ 11).headD 0))
  exact zt [(257, 258)] (.i (.v 6) ad5 (.g (.s 7) aaq .nil)) al (zp hI hh) hI ze4
theorem at7 : ∀ (B : Nat) (σ : Nat → List Int), SAll σ oa → (m11).eval σ < (B : Int) → @bc4 ⟨σ⟩
 | 0, σ, hI, hb => by obtain ⟨l1, l2, l3, l4, l5, l6⟩ := a1i hI; simp only [m11, evs, wr] at hb; omega
 | B + 1, σ, hI, hb => by
   have ih : ∀ σ' : Nat → List Int, SAll σ' oa → 0 ≤ (m11).eval σ' ∧ (m11).eval σ' < (m11).eval σ → @bc4 ⟨σ'⟩ := fun σ' h h' => at7 B σ' h (by omega)
   have hh : ∀ t ∈ [bpr (m11)], @ar ⟨σ⟩ t := by
    intro t ht
    simp only [List.mem_cons, zJ, or_false] at ht
    rcases ht with rfl
    ·exact fun σ' _ hA hb => (ih σ' (ap hA).1 hb) (ap hA).2
   exact @bmi ⟨σ⟩ hh hI
theorem a1h [Gv] : ar bc3 := fun σ _ hA _ => (at7 (((m11).eval σ).toNat + 1) σ (ap hA).1 (by omega)) (ap hA).2
theorem bka [Gv] : ∀ t ∈ [bc3], ar t := vv a1h
def bpp [Gv] : Prop := (SAll Gv.σ ahm → b8 7 27 a1f 257 a1e bcv 262 bcu) ∧ (SAll Gv.σ ahn → b8 7 27 a1f 257 a1e bcr 262 bcq)
theorem bar [Gv] (hI : SAll Gv.σ wq) : bpp := by
 obtain ⟨l1, l2⟩ := bbk hI
 rcases zl6 hI (.c 0) (.v 11) with ⟨hI, k1⟩ | ⟨hI, k1⟩
 ·have hI := zF6 hI (.v 11) (.c 1)
  have hI := zF6 hI (.c 200) aht
  have u := zf3 (th 200 201 ((Gv.σ 11).headD 0) rfl)
  exact ⟨zn3,
   zt [(260, 258)] (.i aht (.v 11) (.g a6f a6g .nil)) al (zp hI bka) hI ze4⟩
 ·have u := zf3 (th 200 201 ((Gv.σ 11).headD 0) rfl)
  exact ⟨zt0 [] al (zp hI bka) hI,
   zn3⟩
theorem bcw [Gv] : ar bct := fun σ _ hA _ => (@bar ⟨σ⟩  (ap hA).1).1 (ap hA).2
theorem bcs [Gv] : ar bcp := fun σ _ hA _ => (@bar ⟨σ⟩  (ap hA).1).2 (ap hA).2
def a9o [Gv] : Prop := (SAll Gv.σ [] → b8 7 47 a9s 261 a9p a9r 266 a9q)
theorem bmc [Gv] (hh : ∀ t ∈ [bog m10], ar t) (hI : SAll Gv.σ ew) : a9o := by
 obtain ⟨l1, l2, l3, l4, l5, l6⟩ := afq hI
 have q1 : (if Gv.σ 31 = seqR 100 ((Gv.σ 10).headD 0) then (1 : Int) else 0) = 1 := if_pos l6
 have g : (Gv.σ 8).headD 0 < (Gv.σ 10).headD 0 → (Gv.σ 31).getD ((Gv.σ 8).headD 0).toNat 0 = 100 + (Gv.σ 8).headD 0 := fun h => by rw [l6]; exact lx l1 h
 rcases zl7 hI (.v 8) (.v 10) with ⟨hI, k1⟩ | ⟨hI, k1⟩
 ·have hI := zT7 hI (.v 8) (.v 21)
  have hI := zE7 hI ahu ad6
  have hI := zF7 hI c7 (.c 0)
  have hI := zF7 hI (.v 10) c7
  have hI := zT7 hI j1 yv
  have hI := zF7 hI j1 (.c 0)
  have u := l1
  exact zt0 [] al (zp hI hh) hI
 ·have u := l1
  exact zt0 [] al (zp hI hh) hI
theorem ast : ∀ (B : Nat) (σ : Nat → List Int), SAll σ ew → (m10).eval σ < (B : Int) → @a9o ⟨σ⟩
 | 0, σ, hI, hb => by obtain ⟨l1, l2, l3, l4, l5, l6⟩ := afq hI; simp only [m10, evs, wr] at hb; omega
 | B + 1, σ, hI, hb => by
   have ih : ∀ σ' : Nat → List Int, SAll σ' ew → 0 ≤ (m10).eval σ' ∧ (m10).eval σ' < (m10).eval σ → @a9o ⟨σ'⟩ := fun σ' h h' => ast B σ' h (by omega)
   have hh : ∀ t ∈ [bog (m10)], @ar ⟨σ⟩ t := by
    intro t ht
    simp only [List.mem_cons, zJ, or_false] at ht
    rcases ht with rfl
    ·exact fun σ' _ hA hb => (ih σ' (ap hA).1 hb) (ap hA).2
   exact @bmc ⟨σ⟩ hh hI
theorem bgz [Gv] : ar bjs := fun σ _ hA _ => (ast (((m10).eval σ).toNat + 1) σ (ap hA).1 (by omega)) (ap hA).2
def a9y [Gv] : Prop := (SAll Gv.σ [] → b8 7 47 a92 261 a9z a91 266 a90)
theorem bme [Gv] (hh : ∀ t ∈ [boi m10], ar t) (hI : SAll Gv.σ ew) : a9y := by
 obtain ⟨l1, l2, l3, l4, l5, l6⟩ := afq hI
 have q1 : (if Gv.σ 31 = seqR 100 ((Gv.σ 10).headD 0) then (1 : Int) else 0) = 1 := if_pos l6
 have g : (Gv.σ 8).headD 0 < (Gv.σ 10).headD 0 → (Gv.σ 31).getD ((Gv.σ 8).headD 0).toNat 0 = 100 + (Gv.σ 8).headD 0 := fun h => by rw [l6]; exact lx l1 h
 rcases zl7 hI (.v 8) (.v 10) with ⟨hI, k1⟩ | ⟨hI, k1⟩
 ·have hI := zT7 hI (.v 8) (.v 21)
  have hI := zE7 hI ahu ad6
  have hI := zF7 hI c7 (.c 0)
  have hI := zF7 hI (.v 10) c7
  have hI := zT7 hI j1 yv
  have hI := zF7 hI j1 (.c 0)
  have u := l1
  exact zt0 [] al (zp hI hh) hI
 ·have u := l1
  exact zt0 [] al (zp hI hh) hI
theorem asv : ∀ (B : Nat) (σ : Nat → List Int), SAll σ ew → (m10).eval σ < (B : Int) → @a9y ⟨σ⟩
 | 0, σ, hI, hb => by obtain ⟨l1, l2, l3, l4, l5, l6⟩ := afq hI; simp only [m10, evs, wr] at hb; omega
 | B + 1, σ, hI, hb => by
   have ih : ∀ σ' : Nat → List Int, SAll σ' ew → 0 ≤ (m10).eval σ' ∧ (m10).eval σ' < (m10).eval σ → @a9y ⟨σ'⟩ := fun σ' h h' => asv B σ' h (by omega)
   have hh : ∀ t ∈ [boi (m10)], @ar ⟨σ⟩ t := by
    intro t ht
    simp only [List.mem_cons, zJ, or_false] at ht
    rcases ht with rfl
    ·exact fun σ' _ hA hb => (ih σ' (ap hA).1 hb) (ap hA).2
   exact @bme ⟨σ⟩ hh hI
theorem bg1 [Gv] : ar bju := fun σ _ hA _ => (asv (((m10).eval σ).toNat + 1) σ (ap hA).1 (by omega)) (ap hA).2
def a84 [Gv] : Prop := (SAll Gv.σ [] → b8 7 57 a88 261 a85 a87 266 a86)
theorem bl8 [Gv] (hh : ∀ t ∈ [boc m11], ar t) (hI : SAll Gv.σ ez) : a84 := by
 obtain ⟨l1, l2, l3, l4, l5, l6⟩ := afp hI
 have q1 : (if Gv.σ 32 = seqR 200 ((Gv.σ 11).headD 0) then (1 : Int) else 0) = 1 := if_pos l6
 have g : (Gv.σ 8).headD 0 < (Gv.σ 11).headD 0 → (Gv.σ 32).getD ((Gv.σ 8).headD 0).toNat 0 = 200 + (Gv.σ 8).headD 0 := fun h => by rw [l6]; exact lx l1 h
 rcases zl7 hI (.v 8) (.v 11) with ⟨hI, k1⟩ | ⟨hI, k1⟩
 ·have hI := zT7 hI (.v 8) (.v 22)
  have hI := zE7 hI ahv ad7
  have hI := zF7 hI c7 (.c 0)
  have hI := zF7 hI (.v 11) c7
  have hI := zT7 hI j2 tq
  have hI := zF7 hI j2 (.c 0)
  have u := l1
  exact zt0 [] al (zp hI hh) hI
 ·have u := l1
  exact zt0 [] al (zp hI hh) hI
theorem asp : ∀ (B : Nat) (σ : Nat → List Int), SAll σ ez → (m11).eval σ < (B : Int) → @a84 ⟨σ⟩
 | 0, σ, hI, hb => by obtain ⟨l1, l2, l3, l4, l5, l6⟩ := afp hI; simp only [m11, evs, wr] at hb; omega
 | B + 1, σ, hI, hb => by
   have ih : ∀ σ' : Nat → List Int, SAll σ' ez → 0 ≤ (m11).eval σ' ∧ (m11).eval σ' < (m11).eval σ → @a84 ⟨σ'⟩ := fun σ' h h' => asp B σ' h (by omega)
   have hh : ∀ t ∈ [boc (m11)], @ar ⟨σ⟩ t := by
    intro t ht
    simp only [List.mem_cons, zJ, or_false] at ht
    rcases ht with rfl
    ·exact fun σ' _ hA hb => (ih σ' (ap hA).1 hb) (ap hA).2
   exact @bl8 ⟨σ⟩ hh hI
theorem bgv [Gv] : ar bjo := fun σ _ hA _ => (asp (((m11).eval σ).toNat + 1) σ (ap hA).1 (by omega)) (ap hA).2
def a9e [Gv] : Prop := (SAll Gv.σ [] → b8 7 57 a9i 261 a9f a9h 266 a9g)
theorem bma [Gv] (hh : ∀ t ∈ [boe m11], ar t) (hI : SAll Gv.σ ez) : a9e := by
 obtain ⟨l1, l2, l3, l4, l5, l6⟩ := afp hI
 have q1 : (if Gv.σ 32 = seqR 200 ((Gv.σ 11).headD 0) then (1 : Int) else 0) = 1 := if_pos l6
 have g : (Gv.σ 8).headD 0 < (Gv.σ 11).headD 0 → (Gv.σ 32).getD ((Gv.σ 8).headD 0).toNat 0 = 200 + (Gv.σ 8).headD 0 := fun h => by rw [l6]; exact lx l1 h
 rcases zl7 hI (.v 8) (.v 11) with ⟨hI, k1⟩ | ⟨hI, k1⟩
 ·have hI := zT7 hI (.v 8) (.v 22)
  have hI := zE7 hI ahv ad7
  have hI := zF7 hI c7 (.c 0)
  have hI := zF7 hI (.v 11) c7
  have hI := zT7 hI j2 tq
  have hI := zF7 hI j2 (.c 0)
  have u := l1
  exact zt0 [] al (zp hI hh) hI
 ·have u := l1
  exact zt0 [] al (zp hI hh) hI
theorem asr : ∀ (B : Nat) (σ : Nat → List Int), SAll σ ez → (m11).eval σ < (B : Int) → @a9e ⟨σ⟩
 | 0, σ, hI, hb => by obtain ⟨l1, l2, l3, l4, l5, l6⟩ := afp hI; simp only [m11, evs, wr] at hb; omega
 | B + 1, σ, hI, hb => by
   have ih : ∀ σ' : Nat → List Int, SAll σ' ez → 0 ≤ (m11).eval σ' ∧ (m11).eval σ' < (m11).eval σ → @a9e ⟨σ'⟩ := fun σ' h h' => asr B σ' h (by omega)
   have hh : ∀ t ∈ [boe (m11)], @ar ⟨σ⟩ t := by
    intro t ht
    simp only [List.mem_cons, zJ, or_false] at ht
    rcases ht with rfl
    ·exact fun σ' _ hA hb => (ih σ' (ap hA).1 hb) (ap hA).2
   exact @bma ⟨σ⟩ hh hI
theorem bgx [Gv] : ar bjq := fun σ _ hA _ => (asr (((m11).eval σ).toNat + 1) σ (ap hA).1 (by omega)) (ap hA).2
def bb2 [Gv] : Prop := (SAll Gv.σ [] → b8 7 15 bb6 258 bb3 bb5 262 bb4)
theorem bmf [Gv] (hh : ∀ t ∈ [bpm m10], ar t) (hI : SAll Gv.σ sj) : bb2 := by
 obtain ⟨l1, l2, l3, l4, l5, l6⟩ := a1a hI
 rcases zl6 hI (.v 8) (.v 10) with ⟨hI, k1⟩ | ⟨hI, k1⟩
 ·have hI := zF6 hI (.c 400000) oc
  have hI := zF6 hI c7 (.c 0)
  have hI := zF6 hI (.v 10) c7
  have hI := zF6 hI oc (.c 1)
  have hI := zF6 hI (.c 200) aho
  have hI := zE6 hI ahp ahq
  have hI := zT6 hI j1 yv
  have hI := zF6 hI j1 (.c 0)
  have u := zf3 (vw 100 ((Gv.σ 8).headD 0) ((Gv.σ 10).headD 0))
  exact zt [(261, 258)] (.i aho alq (.g a6b afi .nil)) al (zp hI hh) hI ze4
 ·have u := zf3 (vw 100 ((Gv.σ 8).headD 0) ((Gv.σ 10).headD 0))
  exact zt [(257, 258)] (.i (.v 6) alq (.g (.s 7) afi .nil)) al (zp hI hh) hI ze4
theorem aty : ∀ (B : Nat) (σ : Nat → List Int), SAll σ sj → (m10).eval σ < (B : Int) → @bb2 ⟨σ⟩
 | 0, σ, hI, hb => by obtain ⟨l1, l2, l3, l4, l5, l6⟩ := a1a hI; simp only [m10, evs, wr] at hb; omega
 | B + 1, σ, hI, hb => by
   have ih : ∀ σ' : Nat → List Int, SAll σ' sj → 0 ≤ (m10).eval σ' ∧ (m10).eval σ' < (m10).eval σ → @bb2 ⟨σ'⟩ := fun σ' h h' => aty B σ' h (by omega)
   have hh : ∀ t ∈ [bpm (m10)], @ar ⟨σ⟩ t := by
    intro t ht
    simp only [List.mem_cons, zJ, or_false] at ht
    rcases ht with rfl
    ·exact fun σ' _ hA hb => (ih σ' (ap hA).1 hb) (ap hA).2
   exact @bmf ⟨σ⟩ hh hI
theorem a08 [Gv] : ar bb1 := fun σ _ hA _ => (aty (((m10).eval σ).toNat + 1) σ (ap hA).1 (by omega)) (ap hA).2
theorem bj7 [Gv] : ∀ t ∈ [bb1], ar t := vv a08
def bpk [Gv] : Prop := (SAll Gv.σ aru → b8 7 15 a05 257 a04 bbr 262 bbq) ∧ (SAll Gv.σ ahl → b8 7 15 a05 257 a04 bbn 262 bbm)
theorem bao [Gv] (hI : SAll Gv.σ ab1) : bpk := by
 obtain ⟨l1, l2⟩ := bbj hI
 rcases zl6 hI (.c 0) (.v 10) with ⟨hI, k1⟩ | ⟨hI, k1⟩
 ·have hI := zF6 hI (.v 10) (.c 1)
  have hI := zF6 hI (.c 200) ahr
  have u := zf3 (th 100 101 ((Gv.σ 10).headD 0) rfl)
  exact ⟨zn3,
   zt [(260, 258)] (.i ahr (.v 10) (.g a6c a6d .nil)) al (zp hI bj7) hI ze4⟩
 ·have u := zf3 (th 100 101 ((Gv.σ 10).headD 0) rfl)
  exact ⟨zt0 [] al (zp hI bj7) hI,
   zn3⟩
theorem bbs [Gv] : ar bbp := fun σ _ hA _ => (@bao ⟨σ⟩  (ap hA).1).1 (ap hA).2
theorem bbo [Gv] : ar bbl := fun σ _ hA _ => (@bao ⟨σ⟩  (ap hA).1).2 (ap hA).2
def bcy [Gv] : Prop := (SAll Gv.σ [] → b8 7 27 bc2 258 bcz bc1 262 bc0)
theorem bmh [Gv] (hh : ∀ t ∈ [bpq m11], ar t) (hI : SAll Gv.σ oa) : bcy := by
 obtain ⟨l1, l2, l3, l4, l5, l6⟩ := a1i hI
 rcases zl6 hI (.v 8) (.v 11) with ⟨hI, k1⟩ | ⟨hI, k1⟩
 ·have hI := zF6 hI (.c 400000) oc
  have hI := zF6 hI c7 (.c 0)
  have hI := zF6 hI (.v 11) c7
  have hI := zF6 hI oc (.c 1)
  have hI := zF6 hI (.c 200) ahs
  have hI := zE6 hI ahp ahq
  have hI := zT6 hI j2 tq
  have hI := zF6 hI j2 (.c 0)
  have u := zf3 (vw 200 ((Gv.σ 8).headD 0) ((Gv.σ 11).headD 0))
  exact zt [(261, 258)] (.i ahs ad5 (.g a6e aaq .nil)) al (zp hI hh) hI ze4
 ·have u := zf3 (vw 200 ((Gv.σ 8).headD 0) ((Gv.σ 11).headD 0))
  exact zt [(257, 258)] (.i (.v 6) ad5 (.g (.s 7) aaq .nil)) al (zp hI hh) hI ze4
theorem at6 : ∀ (B : Nat) (σ : Nat → List Int), SAll σ oa → (m11).eval σ < (B : Int) → @bcy ⟨σ⟩
 | 0, σ, hI, hb => by obtain ⟨l1, l2, l3, l4, l5, l6⟩ := a1i hI; simp only [m11, evs, wr] at hb; omega
 | B + 1, σ, hI, hb => by
   have ih : ∀ σ' : Nat → List Int, SAll σ' oa → 0 ≤ (m11).eval σ' ∧ (m11).eval σ' < (m11).eval σ → @bcy ⟨σ'⟩ := fun σ' h h' => at6 B σ' h (by omega)
   have hh : ∀ t ∈ [bpq (m11)], @ar ⟨σ⟩ t := by
    intro t ht
    simp only [List.mem_cons, zJ, or_false] at ht
    rcases ht with rfl
    ·exact fun σ' _ hA hb => (ih σ' (ap hA).1 hb) (ap hA).2
   exact @bmh ⟨σ⟩ hh hI
theorem a1g [Gv] : ar bcx := fun σ _ hA _ => (at6 (((m11).eval σ).toNat + 1) σ (ap hA).1 (by omega)) (ap hA).2
theorem bj9 [Gv] : ∀ t ∈ [bcx], ar t := vv a1g
def bpo [Gv] : Prop := (SAll Gv.σ ahm → b8 7 27 a1d 257 a1c bcn 262 bcm) ∧ (SAll Gv.σ ahn → b8 7 27 a1d 257 a1c bcj 262 bci)
theorem baq [Gv] (hI : SAll Gv.σ wq) : bpo := by
 obtain ⟨l1, l2⟩ := bbk hI
 rcases zl6 hI (.c 0) (.v 11) with ⟨hI, k1⟩ | ⟨hI, k1⟩
 ·have hI := zF6 hI (.v 11) (.c 1)
  have hI := zF6 hI (.c 200) aht
  have u := zf3 (th 200 201 ((Gv.σ 11).headD 0) rfl)
  exact ⟨zn3,
   zt [(260, 258)] (.i aht (.v 11) (.g a6f a6g .nil)) al (zp hI bj9) hI ze4⟩
 ·have u := zf3 (th 200 201 ((Gv.σ 11).headD 0) rfl)
  exact ⟨zt0 [] al (zp hI bj9) hI,
   zn3⟩
theorem bco [Gv] : ar bcl := fun σ _ hA _ => (@baq ⟨σ⟩  (ap hA).1).1 (ap hA).2
theorem bck [Gv] : ar bch := fun σ _ hA _ => (@baq ⟨σ⟩  (ap hA).1).2 (ap hA).2
def a9j [Gv] : Prop := (SAll Gv.σ [] → b8 7 47 a9n 261 a9k a9m 266 a9l)
theorem bmb [Gv] (hh : ∀ t ∈ [bof m10], ar t) (hI : SAll Gv.σ ew) : a9j := by
 obtain ⟨l1, l2, l3, l4, l5, l6⟩ := afq hI
 have q1 : (if Gv.σ 31 = seqR 100 ((Gv.σ 10).headD 0) then (1 : Int) else 0) = 1 := if_pos l6
 have g : (Gv.σ 8).headD 0 < (Gv.σ 10).headD 0 → (Gv.σ 31).getD ((Gv.σ 8).headD 0).toNat 0 = 100 + (Gv.σ 8).headD 0 := fun h => by rw [l6]; exact lx l1 h
 rcases zl7 hI (.v 8) (.v 10) with ⟨hI, k1⟩ | ⟨hI, k1⟩
 ·have hI := zT7 hI (.v 8) (.v 21)
  have hI := zE7 hI ahu ad6
  have hI := zF7 hI c7 (.c 0)
  have hI := zF7 hI (.v 10) c7
  have hI := zT7 hI j1 yv
  have hI := zF7 hI j1 (.c 0)
  have u := l1
  exact zt0 [] al (zp hI hh) hI
 ·have u := l1
  exact zt0 [] al (zp hI hh) hI
theorem ass : ∀ (B : Nat) (σ : Nat → List Int), SAll σ ew → (m10).eval σ < (B : Int) → @a9j ⟨σ⟩
 | 0, σ, hI, hb => by obtain ⟨l1, l2, l3, l4, l5, l6⟩ := afq hI; simp only [m10, evs, wr] at hb; omega
 | B + 1, σ, hI, hb => by
   have ih : ∀ σ' : Nat → List Int, SAll σ' ew → 0 ≤ (m10).eval σ' ∧ (m10).eval σ' < (m10).eval σ → @a9j ⟨σ'⟩ := fun σ' h h' => ass B σ' h (by omega)
   have hh : ∀ t ∈ [bof (m10)], @ar ⟨σ⟩ t := by
    intro t ht
    simp only [List.mem_cons, zJ, or_false] at ht
    rcases ht with rfl
    ·exact fun σ' _ hA hb => (ih σ' (ap hA).1 hb) (ap hA).2
   exact @bmb ⟨σ⟩ hh hI
theorem bgy [Gv] : ar bjr := fun σ _ hA _ => (ass (((m10).eval σ).toNat + 1) σ (ap hA).1 (by omega)) (ap hA).2
def a9t [Gv] : Prop := (SAll Gv.σ [] → b8 7 47 a9x 261 a9u a9w 266 a9v)
theorem bmd [Gv] (hh : ∀ t ∈ [boh m10], ar t) (hI : SAll Gv.σ ew) : a9t := by
 obtain ⟨l1, l2, l3, l4, l5, l6⟩ := afq hI
 have q1 : (if Gv.σ 31 = seqR 100 ((Gv.σ 10).headD 0) then (1 : Int) else 0) = 1 := if_pos l6
 have g : (Gv.σ 8).headD 0 < (Gv.σ 10).headD 0 → (Gv.σ 31).getD ((Gv.σ 8).headD 0).toNat 0 = 100 + (Gv.σ 8).headD 0 := fun h => by rw [l6]; exact lx l1 h
 rcases zl7 hI (.v 8) (.v 10) with ⟨hI, k1⟩ | ⟨hI, k1⟩
 ·have hI := zT7 hI (.v 8) (.v 21)
  have hI := zE7 hI ahu ad6
  have hI := zF7 hI c7 (.c 0)
  have hI := zF7 hI (.v 10) c7
  have hI := zT7 hI j1 yv
  have hI := zF7 hI j1 (.c 0)
  have u := l1
  exact zt0 [] al (zp hI hh) hI
 ·have u := l1
  exact zt0 [] al (zp hI hh) hI
theorem asu : ∀ (B : Nat) (σ : Nat → List Int), SAll σ ew → (m10).eval σ < (B : Int) → @a9t ⟨σ⟩
 | 0, σ, hI, hb => by obtain ⟨l1, l2, l3, l4, l5, l6⟩ := afq hI; simp only [m10, evs, wr] at hb; omega
 | B + 1, σ, hI, hb => by
   have ih : ∀ σ' : Nat → List Int, SAll σ' ew → 0 ≤ (m10).eval σ' ∧ (m10).eval σ' < (m10).eval σ → @a9t ⟨σ'⟩ := fun σ' h h' => asu B σ' h (by omega)
   have hh : ∀ t ∈ [boh (m10)], @ar ⟨σ⟩ t := by
    intro t ht
    simp only [List.mem_cons, zJ, or_false] at ht
    rcases ht with rfl
    ·exact fun σ' _ hA hb => (ih σ' (ap hA).1 hb) (ap hA).2
   exact @bmd ⟨σ⟩ hh hI
theorem bg0 [Gv] : ar bjt := fun σ _ hA _ => (asu (((m10).eval σ).toNat + 1) σ (ap hA).1 (by omega)) (ap hA).2
def a8z [Gv] : Prop := (SAll Gv.σ [] → b8 7 57 a83 261 a80 a82 266 a81)
theorem bl7 [Gv] (hh : ∀ t ∈ [bob m11], ar t) (hI : SAll Gv.σ ez) : a8z := by
 obtain ⟨l1, l2, l3, l4, l5, l6⟩ := afp hI
 have q1 : (if Gv.σ 32 = seqR 200 ((Gv.σ 11).headD 0) then (1 : Int) else 0) = 1 := if_pos l6
 have g : (Gv.σ 8).headD 0 < (Gv.σ 11).headD 0 → (Gv.σ 32).getD ((Gv.σ 8).headD 0).toNat 0 = 200 + (Gv.σ 8).headD 0 := fun h => by rw [l6]; exact lx l1 h
 rcases zl7 hI (.v 8) (.v 11) with ⟨hI, k1⟩ | ⟨hI, k1⟩
 ·have hI := zT7 hI (.v 8) (.v 22)
  have hI := zE7 hI ahv ad7
  have hI := zF7 hI c7 (.c 0)
  have hI := zF7 hI (.v 11) c7
  have hI := zT7 hI j2 tq
  have hI := zF7 hI j2 (.c 0)
  have u := l1
  exact zt0 [] al (zp hI hh) hI
 ·have u := l1
  exact zt0 [] al (zp hI hh) hI
theorem aso : ∀ (B : Nat) (σ : Nat → List Int), SAll σ ez → (m11).eval σ < (B : Int) → @a8z ⟨σ⟩
 | 0, σ, hI, hb => by obtain ⟨l1, l2, l3, l4, l5, l6⟩ := afp hI; simp only [m11, evs, wr] at hb; omega
 | B + 1, σ, hI, hb => by
   have ih : ∀ σ' : Nat → List Int, SAll σ' ez → 0 ≤ (m11).eval σ' ∧ (m11).eval σ' < (m11).eval σ → @a8z ⟨σ'⟩ := fun σ' h h' => aso B σ' h (by omega)
   have hh : ∀ t ∈ [bob (m11)], @ar ⟨σ⟩ t := by
    intro t ht
    simp only [List.mem_cons, zJ, or_false] at ht
    rcases ht with rfl
    ·exact fun σ' _ hA hb => (ih σ' (ap hA).1 hb) (ap hA).2
   exact @bl7 ⟨σ⟩ hh hI
theorem bgu [Gv] : ar bjn := fun σ _ hA _ => (aso (((m11).eval σ).toNat + 1) σ (ap hA).1 (by omega)) (ap hA).2
def a89 [Gv] : Prop := (SAll Gv.σ [] → b8 7 57 a9d 261 a9a a9c 266 a9b)
theorem bl9 [Gv] (hh : ∀ t ∈ [bod m11], ar t) (hI : SAll Gv.σ ez) : a89 := by
 obtain ⟨l1, l2, l3, l4, l5, l6⟩ := afp hI
 have q1 : (if Gv.σ 32 = seqR 200 ((Gv.σ 11).headD 0) then (1 : Int) else 0) = 1 := if_pos l6
 have g : (Gv.σ 8).headD 0 < (Gv.σ 11).headD 0 → (Gv.σ 32).getD ((Gv.σ 8).headD 0).toNat 0 = 200 + (Gv.σ 8).headD 0 := fun h => by rw [l6]; exact lx l1 h
 rcases zl7 hI (.v 8) (.v 11) with ⟨hI, k1⟩ | ⟨hI, k1⟩
 ·have hI := zT7 hI (.v 8) (.v 22)
  have hI := zE7 hI ahv ad7
  have hI := zF7 hI c7 (.c 0)
  have hI := zF7 hI (.v 11) c7
  have hI := zT7 hI j2 tq
  have hI := zF7 hI j2 (.c 0)
  have u := l1
  exact zt0 [] al (zp hI hh) hI
 ·have u := l1
  exact zt0 [] al (zp hI hh) hI
theorem asq : ∀ (B : Nat) (σ : Nat → List Int), SAll σ ez → (m11).eval σ < (B : Int) → @a89 ⟨σ⟩
 | 0, σ, hI, hb => by obtain ⟨l1, l2, l3, l4, l5, l6⟩ := afp hI; simp only [m11, evs, wr] at hb; omega
 | B + 1, σ, hI, hb => by
   have ih : ∀ σ' : Nat → List Int, SAll σ' ez → 0 ≤ (m11).eval σ' ∧ (m11).eval σ' < (m11).eval σ → @a89 ⟨σ'⟩ := fun σ' h h' => asq B σ' h (by omega)
   have hh : ∀ t ∈ [bod (m11)], @ar ⟨σ⟩ t := by
    intro t ht
    simp only [List.mem_cons, zJ, or_false] at ht
    rcases ht with rfl
    ·exact fun σ' _ hA hb => (ih σ' (ap hA).1 hb) (ap hA).2
   exact @bl9 ⟨σ⟩ hh hI
theorem bgw [Gv] : ar bjp := fun σ _ hA _ => (asq (((m11).eval σ).toNat + 1) σ (ap hA).1 (by omega)) (ap hA).2
end Go.Ev
