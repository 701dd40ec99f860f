import Derived.Test.YtocilenpboklbaaGreatDoorHpR
set_option maxRecDepth 100000
set_option linter.all false
namespace Go.Ev
abbrev arl : AL := .i (.v 13) (.i (.v 14) .nil)
abbrev arm : AL := .g .nil arl
abbrev jx : AL := .g (.s 7) (.i (.v 8) (.g .nil arm))
abbrev arn : SE := .bin 7 .i64 (.c 2) (.v 6)
abbrev jn : List SA := [.mk true (.v 6) (.c 0) false, .mk true (.c 1000) (.v 6) false, .mk false (.len (.s 7)) arn true, .mk true (.v 8) (.c 0) false, .mk true (.v 6) (.v 8) false, .mk true (.v 14) (.c 0) false, .mk true (.c 3) (.v 14) false]
abbrev lj : SE := .app 218 jx
abbrev bf8 : List SA := [.mk false lj (.c 0) false]
abbrev azz : GE := .app 218 jx
abbrev tx : SE := .len azz
abbrev ahd : GE := .app 219 jx
abbrev n9 : SE := .len ahd
abbrev a43 : List SA := [.mk false lj (.c 0) true, .mk false tx (.c 0) true, .mk false n9 (.c 0) true]
abbrev a44 : List SA := [.mk false lj (.c 0) true, .mk false tx (.c 0) true, .mk false n9 (.c 0) false]
abbrev a45 : List SA := [.mk false lj (.c 0) true, .mk false tx (.c 0) false, .mk false n9 (.c 0) true]
abbrev a46 : List SA := [.mk false lj (.c 0) true, .mk false tx (.c 0) false, .mk false n9 (.c 0) false]
abbrev ahe : AL := .g (.s 12) arl
abbrev lb : AL := .g (.s 7) (.i (.v 8) (.g .nil ahe))
abbrev bj : SE := .bin 6 .i64 (.v 6) (.bin 7 .i64 (.c (-1)) (.v 8))
abbrev ahf : SE := .bin 6 .i64 (.v 22) bj
abbrev ads : List SA := [.mk true (.v 6) (.c 0) false, .mk true (.c 1000) (.v 6) false, .mk false (.len (.s 7)) arn true, .mk true (.v 8) (.c 0) false, .mk true (.v 6) (.v 8) false, .mk true (.v 14) (.c 0) false, .mk true (.c 3) (.v 14) false, .mk false (.len (.s 12)) (.v 22) true, .mk true (.v 22) (.c 1) false, .mk true (.c 3000) ahf false]
abbrev jk : SE := .app 218 lb
abbrev a47 : List SA := [.mk false jk (.c 0) false]
abbrev wm : GE := .app 219 lb
abbrev o9 : SE := .len wm
abbrev a48 : GE := .app 218 lb
abbrev adt : SE := .len a48
abbrev a49 : List SA := [.mk false jk (.c 0) true, .mk false adt (.c 0) true]
abbrev a5a : List SA := [.mk false jk (.c 0) true, .mk false adt (.c 0) false]
abbrev lc : AL := .g (.s 7) (.i (.v 8) (.g (.s 11) arm))
abbrev ahg : SE := .bin 6 .i64 (.v 21) bj
abbrev adu : List SA := [.mk true (.v 6) (.c 0) false, .mk true (.c 1000) (.v 6) false, .mk false (.len (.s 7)) arn true, .mk true (.v 8) (.c 0) false, .mk true (.v 6) (.v 8) false, .mk true (.v 14) (.c 0) false, .mk true (.c 3) (.v 14) false, .mk false (.len (.s 11)) (.v 21) true, .mk true (.v 21) (.c 1) false, .mk true (.c 3000) ahg false]
abbrev jl : SE := .app 218 lc
abbrev a5b : List SA := [.mk false jl (.c 0) false]
abbrev qr : GE := .app 218 lc
abbrev ma : SE := .len qr
abbrev ahh : GE := .app 219 lc
abbrev wn : SE := .len ahh
abbrev a5c : List SA := [.mk false jl (.c 0) true, .mk false wn (.c 0) true]
abbrev a5d : List SA := [.mk false jl (.c 0) true, .mk false wn (.c 0) false]
abbrev pa : AL := .g (.s 7) (.i (.v 8) (.g (.s 11) ahe))
abbrev ahi : List SA := [.mk true (.v 6) (.c 0) false, .mk true (.c 1000) (.v 6) false, .mk false (.len (.s 7)) arn true, .mk true (.v 8) (.c 0) false, .mk true (.v 6) (.v 8) false, .mk true (.v 14) (.c 0) false, .mk true (.c 3) (.v 14) false, .mk false (.len (.s 11)) (.v 21) true, .mk true (.v 21) (.c 1) false, .mk true (.c 3000) ahg false, .mk false (.len (.s 12)) (.v 22) true, .mk true (.v 22) (.c 1) false, .mk true (.c 3000) ahf false]
abbrev jm : SE := .app 218 pa
abbrev a5e : List SA := [.mk false jm (.c 0) false]
abbrev wo : GE := .app 218 pa
abbrev ti : SE := .len wo
abbrev wp : GE := .app 219 pa
abbrev tj : SE := .len wp
abbrev a5f : List SA := [.mk false jm (.c 0) true]
abbrev ahj : SE := .rd (.s 7) (.bin 7 .i64 (.c 2) (.v 8))
abbrev cz : SE := .rd (.s 7) (.bin 6 .i64 (.bin 7 .i64 (.c 2) (.v 8)) (.c 1))
abbrev ak : SE := .bin 0 .i64 (.v 8) (.c 1)
abbrev a5g : AL := .g .nil (.i (.v 13) (.i (.c 1) .nil))
abbrev adw : AL := .g (.s 7) (.i ak (.g .nil a5g))
abbrev a5h : SE := .app 218 adw
abbrev a5i : GE := .app 219 adw
abbrev a5j : SE := .len a5i
abbrev ai : SE := .bin 6 .i64 (.v 6) (.bin 7 .i64 (.c (-1)) ak)
abbrev a5k : SE := .app 220 adw
abbrev tl : SE := .app 220 jx
abbrev a5l : SE := .app 219 adw
abbrev tm : SE := .app 219 jx
abbrev a5m : AL := .g .nil (.i (.v 13) (.i (.c 2) .nil))
abbrev adx : AL := .g (.s 7) (.i ak (.g .nil a5m))
abbrev a5n : SE := .app 218 adx
abbrev ahk : SE := .bin 6 .i64 (.c 1) ai
abbrev qs : GE := .one cz
abbrev ady : AL := .g (.s 7) (.i ak (.g qs arm))
abbrev a5o : SE := .app 218 ady
abbrev a5p : GE := .app 219 ady
abbrev a5q : SE := .len a5p
abbrev a5r : SE := .app 220 ady
abbrev aro : GE := .app 218 ady
abbrev a5s : SE := .len aro
abbrev a5t : SE := .app 219 ady
abbrev a5u : AL := .g qs arl
abbrev adz : AL := .g (.s 7) (.i ak (.g .nil a5u))
abbrev a5v : SE := .app 218 adz
abbrev a5w : GE := .app 219 adz
abbrev a5x : AL := .i cz (.i (.c 3) .nil)
abbrev a5y : AL := .g .nil a5x
abbrev ad0 : AL := .g (.s 7) (.i ak (.g .nil a5y))
abbrev a5z : SE := .app 218 ad0
abbrev ad1 : List SA := [.mk false (.len (.s 12)) (.v 22) true, .mk true (.v 22) (.c 1) false, .mk true (.c 3000) ahf false]
abbrev tp : SE := .bin 6 .i64 (.v 22) ai
abbrev a50 : AL := .g (.s 12) (.i (.v 13) (.i (.c 1) .nil))
abbrev ad2 : AL := .g (.s 7) (.i ak (.g .nil a50))
abbrev a51 : SE := .app 218 ad2
abbrev aao : SE := .app 220 lb
abbrev a52 : GE := .app 219 ad2
abbrev aap : SE := .app 219 lb
abbrev a53 : AL := .g (.s 12) (.i (.v 13) (.i (.c 2) .nil))
abbrev ad3 : AL := .g (.s 7) (.i ak (.g .nil a53))
abbrev a54 : SE := .app 218 ad3
abbrev a55 : GE := .app 219 ad3
abbrev a56 : AL := .i cz (.i (.c 0) .nil)
abbrev a57 : SE := .app 217 (.g (.s 12) a56)
abbrev ad4 : AL := .g (.s 7) (.i ak (.g qs ahe))
abbrev a58 : SE := .app 218 ad4
abbrev a59 : GE := .app 218 ad4
abbrev awc : GE := .app 219 ad4
abbrev sh : SE := .bin 6 .i64 (.v 22) (.c 1)
abbrev awd : SE := .bin 6 .i64 (.len (.s 12)) (.c 1)
abbrev awe : SE := .bin 6 .i64 sh ai
abbrev alm : GE := .cat (.s 12) qs
abbrev awf : AL := .g alm arl
abbrev yh : AL := .g (.s 7) (.i ak (.g .nil awf))
abbrev awg : SE := .app 218 yh
abbrev awh : GE := .app 219 yh
abbrev awi : AL := .g (.s 12) a5x
abbrev yi : AL := .g (.s 7) (.i ak (.g .nil awi))
abbrev awj : SE := .app 218 yi
abbrev awk : GE := .app 219 yi
abbrev yj : List SA := [.mk false (.len (.s 11)) (.v 21) true, .mk true (.v 21) (.c 1) false, .mk true (.c 3000) ahg false]
abbrev pl : SE := .bin 6 .i64 (.v 21) ai
abbrev yk : AL := .g (.s 7) (.i ak (.g (.s 11) a5g))
abbrev awl : SE := .app 218 yk
abbrev awm : GE := .app 219 yk
abbrev awn : SE := .len awm
abbrev awo : SE := .app 220 yk
abbrev pn : SE := .app 220 lc
abbrev aln : GE := .app 218 yk
abbrev awp : SE := .len aln
abbrev awq : SE := .app 219 yk
abbrev po : SE := .app 219 lc
abbrev yl : AL := .g (.s 7) (.i ak (.g (.s 11) a5m))
abbrev awr : SE := .app 218 yl
abbrev aws : GE := .app 218 yl
abbrev awt : SE := .app 217 (.g (.s 11) a56)
abbrev si : SE := .bin 6 .i64 (.v 21) (.c 1)
abbrev awu : SE := .bin 6 .i64 (.len (.s 11)) (.c 1)
abbrev awv : SE := .bin 6 .i64 si ai
abbrev adr : GE := .cat (.s 11) qs
abbrev ym : AL := .g (.s 7) (.i ak (.g adr arm))
abbrev aww : SE := .app 218 ym
abbrev awx : GE := .app 219 ym
abbrev awy : SE := .len awx
abbrev awz : SE := .app 220 ym
abbrev alo : GE := .app 218 ym
abbrev aw0 : SE := .len alo
abbrev aw5 : SE := .app 219 ym
abbrev yn : AL := .g (.s 7) (.i ak (.g (.s 11) a5u))
abbrev aw6 : SE := .app 218 yn
abbrev aw7 : GE := .app 218 yn
abbrev aw8 : GE := .app 219 yn
abbrev yo : AL := .g (.s 7) (.i ak (.g (.s 11) a5y))
abbrev aw9 : SE := .app 218 yo
abbrev axa : GE := .app 218 yo
abbrev alp : List SA := [.mk false (.len (.s 11)) (.v 21) true, .mk true (.v 21) (.c 1) false, .mk true (.c 3000) ahg false, .mk false (.len (.s 12)) (.v 22) true, .mk true (.v 22) (.c 1) false, .mk true (.c 3000) ahf false]
abbrev yp : AL := .g (.s 7) (.i ak (.g (.s 11) a50))
abbrev axb : SE := .app 218 yp
abbrev u7 : SE := .app 220 pa
abbrev axc : GE := .app 218 yp
abbrev axd : GE := .app 219 yp
abbrev u9 : SE := .app 219 pa
abbrev yq : AL := .g (.s 7) (.i ak (.g (.s 11) a53))
abbrev axe : SE := .app 218 yq
abbrev axf : GE := .app 218 yq
abbrev axg : GE := .app 219 yq
abbrev yr : AL := .g (.s 7) (.i ak (.g adr ahe))
abbrev axh : SE := .app 218 yr
abbrev axi : GE := .app 218 yr
abbrev axj : GE := .app 219 yr
abbrev yt : AL := .g (.s 7) (.i ak (.g (.s 11) awf))
abbrev axk : SE := .app 218 yt
abbrev axl : GE := .app 218 yt
abbrev axm : GE := .app 219 yt
abbrev yu : AL := .g (.s 7) (.i ak (.g (.s 11) awi))
abbrev axn : SE := .app 218 yu
abbrev axo : GE := .app 218 yu
abbrev axp : GE := .app 219 yu
noncomputable section
def slA (k : Nat) (n : SE) : AV := .gv (.sl (K.of k) 1 n [])
def aa5 : List AV := [.top, .top, .top, .top, .ptr (K.of 259) 0, .int .i64 0, .top, .int .i64 0, .ptr (K.of 258) 0, vI 14, .top, .top, .top, .top, .top, .top, .top, .top, .top, .top, .top, .top, .top, .top, .top, .top, .top, .top, .top, .top, .top, .top, .top, .gv (.sl (K.of 257) 2 (.v 6) []), vI 6, vI 8, .top, .top, .top, .top, .top, .top, .top, .top, .top, .top, .top, .top, .top, .top, .top, .top, .top, .top, .top, .top, .top, .top, .top, .top, .top, .top, .top, .top, .top, .top, .top, .top, .top, .top, .top, .top, .top, .top, .top, .top, .top, .top, .top, .top, .top, .top, .top, .top, .top, .top, .top, .top, .top, .top, .top, .top, .top, .top, .top, .top, .top, .top, .top, .top, .top, .top, .top, .top, .top, .top, .top, .top, .top, .top, .top, .top, .top, .top, .top, .top, .top, .top, .top, .top, .top, .top, .top, .top, .top, .top, .top]
def aa4 : List HO := [wdR 257 (.v 6) (.s 7), bx 258 66 [.nilSlice, .nilSlice, sX (.v 13)], bx 259 66 [.nilSlice, .nilSlice, .int .i64 0]]
def bel : List HO := [wdR 257 (.v 6) (.s 7), bx 259 66 [.nilSlice, .nilSlice, .int .i64 0]]
def bem : LR := (.r ([.top, .top, .top, .top, .ptr (K.of 259) 0, sX (.app 218 jx), .top, .top, .top, .top, .top, .top, .top, .top, .top, .top, .top, .top, .top, .top, .top, .top, .top, .top, .top, .top, .top, .top, .top, .top, .top, .top, .top, .top, .top, .top, .top, .top, .top, .top, .top, .top, .top, .top, .top, .top, .top, .top, .top, .top, .top, .top, .top, .top, .top, .top, .top, .top, .top, .top, .top, .top, .top, .top, .top, .top, .top, .top, .top, .top, .top, .top, .top, .top, .top, .top, .top, .top, .top, .top, .top, .top, .top, .top, .top, .top, .top, .top, .top, .top, .top, .top, .top, .top, .top, .top, .top, .top, .top, .top, .top, .top, .top, .top, .top, .top, .top, .top, .top, .top, .top, .top, .top, .top, .top, .top, .top, .top, .top, .top, .top, .top, .top, .top, .top, .top, .top]))
def anh (m : SE) : LT := .mk 37 21 aa5 262 aa4 (jn ++ bf8) (some (m68, m)) bem 270 bel
def bek : LT := znl (anh (.c 0))
def a18 : List HO := [wdR 257 (.v 6) (.s 7), bx 258 66 [.nilSlice, .nilSlice, sX (.app 219 jx)], bx 259 66 [.nilSlice, .nilSlice, .int .i64 0]]
def a19 : LR := (.x 1 ([.top, .top, .top, .top, .ptr (K.of 259) 0, .int .i64 0, .top, .top, .ptr (K.of 258) 0, sX (.app 220 jx), .top, .top, .top, .top, .top, .top, .top, .top, .top, .top, .top, .top, .top, .top, .top, .top, .top, .top, .top, .top, .top, .top, .top, .top, .top, .top, .top, .top, .top, .top, .top, .top, .top, .top, .top, .top, .top, .top, .top, .top, .top, .top, .top, .top, .top, .top, .top, .top, .top, .top, .top, .top, .top, .top, .top, .top, .top, .top, .top, .top, .top, .top, .top, .top, .top, .top, .top, .top, .top, .top, .top, .top, .top, .top, .top, .top, .top, .top, .top, .top, .top, .top, .top, .top, .top, .top, .top, .top, .top, .top, .top, .top, .top, .top, .top, .top, .top, .top, .top, .top, .top, .top, .top, .top, .top, .top, .top, .top, .top, .top, .top, .top, .top, .top, .top, .top, .top]))
def ae3 (m : SE) : LT := .mk 37 21 aa5 262 aa4 (jn ++ a43) (some (m68, m)) a19 270 a18
def a17 : LT := znl (ae3 (.c 0))
def a2b : List HO := [wdR 257 (.v 6) (.s 7), bx 258 66 [.nilSlice, slA 263 n9, sX (.app 219 jx)], bx 259 66 [.nilSlice, .nilSlice, .int .i64 0], nuR 263 n9 (.app 219 jx)]
def a2c : LR := (.x 1 ([.top, .top, .top, .top, .ptr (K.of 259) 0, .int .i64 0, .top, .top, .ptr (K.of 258) 0, sX (.app 220 jx), .top, .top, .top, .top, .top, .top, .top, .top, .top, .top, .top, .top, .top, .top, .top, .top, .top, .top, .top, .top, .top, .top, .top, .top, .top, .top, .top, .top, .top, .top, .top, .top, .top, .top, .top, .top, .top, .top, .top, .top, .top, .top, .top, .top, .top, .top, .top, .top, .top, .top, .top, .top, .top, .top, .top, .top, .top, .top, .top, .top, .top, .top, .top, .top, .top, .top, .top, .top, .top, .top, .top, .top, .top, .top, .top, .top, .top, .top, .top, .top, .top, .top, .top, .top, .top, .top, .top, .top, .top, .top, .top, .top, .top, .top, .top, .top, .top, .top, .top, .top, .top, .top, .top, .top, .top, .top, .top, .top, .top, .top, .top, .top, .top, .top, .top, .top, .top]))
def ae4 (m : SE) : LT := .mk 37 21 aa5 262 aa4 (jn ++ a44) (some (m68, m)) a2c 270 a2b
def a2a : LT := znl (ae4 (.c 0))
def a2e : List HO := [wdR 257 (.v 6) (.s 7), bx 258 66 [slA 262 tx, .nilSlice, sX (.app 219 jx)], bx 259 66 [.nilSlice, .nilSlice, .int .i64 0], nuR 262 tx (.app 218 jx)]
def a2f : LR := (.x 1 ([.top, .top, .top, .top, .ptr (K.of 259) 0, .int .i64 0, .top, .top, .ptr (K.of 258) 0, sX (.app 220 jx), .top, .top, .top, .top, .top, .top, .top, .top, .top, .top, .top, .top, .top, .top, .top, .top, .top, .top, .top, .top, .top, .top, .top, .top, .top, .top, .top, .top, .top, .top, .top, .top, .top, .top, .top, .top, .top, .top, .top, .top, .top, .top, .top, .top, .top, .top, .top, .top, .top, .top, .top, .top, .top, .top, .top, .top, .top, .top, .top, .top, .top, .top, .top, .top, .top, .top, .top, .top, .top, .top, .top, .top, .top, .top, .top, .top, .top, .top, .top, .top, .top, .top, .top, .top, .top, .top, .top, .top, .top, .top, .top, .top, .top, .top, .top, .top, .top, .top, .top, .top, .top, .top, .top, .top, .top, .top, .top, .top, .top, .top, .top, .top, .top, .top, .top, .top, .top]))
def ae5 (m : SE) : LT := .mk 37 21 aa5 262 aa4 (jn ++ a45) (some (m68, m)) a2f 270 a2e
def a2d : LT := znl (ae5 (.c 0))
def a2h : List HO := [wdR 257 (.v 6) (.s 7), bx 258 66 [slA 262 tx, slA 263 n9, sX (.app 219 jx)], bx 259 66 [.nilSlice, .nilSlice, .int .i64 0], nuR 262 tx (.app 218 jx), nuR 263 n9 (.app 219 jx)]
def a2i : LR := (.x 1 ([.top, .top, .top, .top, .ptr (K.of 259) 0, .int .i64 0, .top, .top, .ptr (K.of 258) 0, sX (.app 220 jx), .top, .top, .top, .top, .top, .top, .top, .top, .top, .top, .top, .top, .top, .top, .top, .top, .top, .top, .top, .top, .top, .top, .top, .top, .top, .top, .top, .top, .top, .top, .top, .top, .top, .top, .top, .top, .top, .top, .top, .top, .top, .top, .top, .top, .top, .top, .top, .top, .top, .top, .top, .top, .top, .top, .top, .top, .top, .top, .top, .top, .top, .top, .top, .top, .top, .top, .top, .top, .top, .top, .top, .top, .top, .top, .top, .top, .top, .top, .top, .top, .top, .top, .top, .top, .top, .top, .top, .top, .top, .top, .top, .top, .top, .top, .top, .top, .top, .top, .top, .top, .top, .top, .top, .top, .top, .top, .top, .top, .top, .top, .top, .top, .top, .top, .top, .top, .top]))
def ae6 (m : SE) : LT := .mk 37 21 aa5 262 aa4 (jn ++ a46) (some (m68, m)) a2i 270 a2h
def a2g : LT := znl (ae6 (.c 0))
def anj : List AV := [.top, .top, .top, .top, .ptr (K.of 259) 0, .int .i64 0, .top, .int .i64 0, .ptr (K.of 258) 0, vI 14, .top, .top, .top, .top, .top, .top, .top, .top, .top, .top, .top, .top, .top, .top, .top, .top, .top, .top, .top, .top, .top, .top, .top, .gv (.sl (K.of 257) 2 (.v 6) []), vI 6, vI 8, .top, .top, .top, .top, .top, .top, .top, .top, .top, .top, .top, .top, .top, .top, .top, .top, .top, .top, .top, .top, .top, .top, .top, .top, .top, .top, .top, .top, .top, .top, .top, .top, .top, .top, .top, .top, .top, .top, .top, .top, .top, .top, .top, .top, .top, .top, .top, .top, .top, .top, .top, .top, .top, .top, .top, .top, .top, .top, .top, .top, .top, .top, .top, .top, .top, .top, .top, .top, .top, .top, .top, .top, .top, .top, .top, .top, .top, .top, .top, .top, .top, .top, .top, .top, .top, .top, .top, .top, .top, .top, .top]
def ani : List HO := [wdR 257 (.v 6) (.s 7), bx 258 66 [.nilSlice, slA 261 (.v 22), sX (.v 13)], bx 259 66 [.nilSlice, .nilSlice, .int .i64 0], nuR 261 (.v 22) (.s 12)]
def beo : List HO := [wdR 257 (.v 6) (.s 7), bx 259 66 [.nilSlice, .nilSlice, .int .i64 0]]
def bep : LR := (.r ([.top, .top, .top, .top, .ptr (K.of 259) 0, sX (.app 218 lb), .top, .top, .top, .top, .top, .top, .top, .top, .top, .top, .top, .top, .top, .top, .top, .top, .top, .top, .top, .top, .top, .top, .top, .top, .top, .top, .top, .top, .top, .top, .top, .top, .top, .top, .top, .top, .top, .top, .top, .top, .top, .top, .top, .top, .top, .top, .top, .top, .top, .top, .top, .top, .top, .top, .top, .top, .top, .top, .top, .top, .top, .top, .top, .top, .top, .top, .top, .top, .top, .top, .top, .top, .top, .top, .top, .top, .top, .top, .top, .top, .top, .top, .top, .top, .top, .top, .top, .top, .top, .top, .top, .top, .top, .top, .top, .top, .top, .top, .top, .top, .top, .top, .top, .top, .top, .top, .top, .top, .top, .top, .top, .top, .top, .top, .top, .top, .top, .top, .top, .top, .top]))
def au2 (m : SE) : LT := .mk 37 21 anj 262 ani (ads ++ a47) (some (m68, m)) bep 270 beo
def a2j : List HO := [wdR 257 (.v 6) (.s 7), bx 258 66 [.nilSlice, slA 263 o9, sX (.app 219 lb)], bx 259 66 [.nilSlice, .nilSlice, .int .i64 0], nuR 263 o9 (.app 219 lb)]
def a2k : LR := (.x 1 ([.top, .top, .top, .top, .ptr (K.of 259) 0, .int .i64 0, .top, .top, .ptr (K.of 258) 0, sX (.app 220 lb), .top, .top, .top, .top, .top, .top, .top, .top, .top, .top, .top, .top, .top, .top, .top, .top, .top, .top, .top, .top, .top, .top, .top, .top, .top, .top, .top, .top, .top, .top, .top, .top, .top, .top, .top, .top, .top, .top, .top, .top, .top, .top, .top, .top, .top, .top, .top, .top, .top, .top, .top, .top, .top, .top, .top, .top, .top, .top, .top, .top, .top, .top, .top, .top, .top, .top, .top, .top, .top, .top, .top, .top, .top, .top, .top, .top, .top, .top, .top, .top, .top, .top, .top, .top, .top, .top, .top, .top, .top, .top, .top, .top, .top, .top, .top, .top, .top, .top, .top, .top, .top, .top, .top, .top, .top, .top, .top, .top, .top, .top, .top, .top, .top, .top, .top, .top, .top]))
def akg (m : SE) : LT := .mk 37 21 anj 262 ani (ads ++ a49) (some (m68, m)) a2k 270 a2j
def a2l : List HO := [wdR 257 (.v 6) (.s 7), bx 258 66 [slA 262 adt, slA 263 o9, sX (.app 219 lb)], bx 259 66 [.nilSlice, .nilSlice, .int .i64 0], nuR 262 adt (.app 218 lb), nuR 263 o9 (.app 219 lb)]
def a2m : LR := (.x 1 ([.top, .top, .top, .top, .ptr (K.of 259) 0, .int .i64 0, .top, .top, .ptr (K.of 258) 0, sX (.app 220 lb), .top, .top, .top, .top, .top, .top, .top, .top, .top, .top, .top, .top, .top, .top, .top, .top, .top, .top, .top, .top, .top, .top, .top, .top, .top, .top, .top, .top, .top, .top, .top, .top, .top, .top, .top, .top, .top, .top, .top, .top, .top, .top, .top, .top, .top, .top, .top, .top, .top, .top, .top, .top, .top, .top, .top, .top, .top, .top, .top, .top, .top, .top, .top, .top, .top, .top, .top, .top, .top, .top, .top, .top, .top, .top, .top, .top, .top, .top, .top, .top, .top, .top, .top, .top, .top, .top, .top, .top, .top, .top, .top, .top, .top, .top, .top, .top, .top, .top, .top, .top, .top, .top, .top, .top, .top, .top, .top, .top, .top, .top, .top, .top, .top, .top, .top, .top, .top]))
def akh (m : SE) : LT := .mk 37 21 anj 262 ani (ads ++ a5a) (some (m68, m)) a2m 270 a2l
def anl : List AV := [.top, .top, .top, .top, .ptr (K.of 259) 0, .int .i64 0, .top, .int .i64 0, .ptr (K.of 258) 0, vI 14, .top, .top, .top, .top, .top, .top, .top, .top, .top, .top, .top, .top, .top, .top, .top, .top, .top, .top, .top, .top, .top, .top, .top, .gv (.sl (K.of 257) 2 (.v 6) []), vI 6, vI 8, .top, .top, .top, .top, .top, .top, .top, .top, .top, .top, .top, .top, .top, .top, .top, .top, .top, .top, .top, .top, .top, .top, .top, .top, .top, .top, .top, .top, .top, .top, .top, .top, .top, .top, .top, .top, .top, .top, .top, .top, .top, .top, .top, .top, .top, .top, .top, .top, .top, .top, .top, .top, .top, .top, .top, .top, .top, .top, .top, .top, .top, .top, .top, .top, .top, .top, .top, .top, .top, .top, .top, .top, .top, .top, .top, .top, .top, .top, .top, .top, .top, .top, .top, .top, .top, .top, .top, .top, .top, .top, .top]
def ank : List HO := [wdR 257 (.v 6) (.s 7), bx 258 66 [slA 260 (.v 21), .nilSlice, sX (.v 13)], bx 259 66 [.nilSlice, .nilSlice, .int .i64 0], nuR 260 (.v 21) (.s 11)]
def ber : List HO := [wdR 257 (.v 6) (.s 7), bx 259 66 [.nilSlice, .nilSlice, .int .i64 0]]
def bes : LR := (.r ([.top, .top, .top, .top, .ptr (K.of 259) 0, sX (.app 218 lc), .top, .top, .top, .top, .top, .top, .top, .top, .top, .top, .top, .top, .top, .top, .top, .top, .top, .top, .top, .top, .top, .top, .top, .top, .top, .top, .top, .top, .top, .top, .top, .top, .top, .top, .top, .top, .top, .top, .top, .top, .top, .top, .top, .top, .top, .top, .top, .top, .top, .top, .top, .top, .top, .top, .top, .top, .top, .top, .top, .top, .top, .top, .top, .top, .top, .top, .top, .top, .top, .top, .top, .top, .top, .top, .top, .top, .top, .top, .top, .top, .top, .top, .top, .top, .top, .top, .top, .top, .top, .top, .top, .top, .top, .top, .top, .top, .top, .top, .top, .top, .top, .top, .top, .top, .top, .top, .top, .top, .top, .top, .top, .top, .top, .top, .top, .top, .top, .top, .top, .top, .top]))
def au3 (m : SE) : LT := .mk 37 21 anl 262 ank (adu ++ a5b) (some (m68, m)) bes 270 ber
def a2n : List HO := [wdR 257 (.v 6) (.s 7), bx 258 66 [slA 262 ma, .nilSlice, sX (.app 219 lc)], bx 259 66 [.nilSlice, .nilSlice, .int .i64 0], nuR 262 ma (.app 218 lc)]
def a2o : LR := (.x 1 ([.top, .top, .top, .top, .ptr (K.of 259) 0, .int .i64 0, .top, .top, .ptr (K.of 258) 0, sX (.app 220 lc), .top, .top, .top, .top, .top, .top, .top, .top, .top, .top, .top, .top, .top, .top, .top, .top, .top, .top, .top, .top, .top, .top, .top, .top, .top, .top, .top, .top, .top, .top, .top, .top, .top, .top, .top, .top, .top, .top, .top, .top, .top, .top, .top, .top, .top, .top, .top, .top, .top, .top, .top, .top, .top, .top, .top, .top, .top, .top, .top, .top, .top, .top, .top, .top, .top, .top, .top, .top, .top, .top, .top, .top, .top, .top, .top, .top, .top, .top, .top, .top, .top, .top, .top, .top, .top, .top, .top, .top, .top, .top, .top, .top, .top, .top, .top, .top, .top, .top, .top, .top, .top, .top, .top, .top, .top, .top, .top, .top, .top, .top, .top, .top, .top, .top, .top, .top, .top]))
def aki (m : SE) : LT := .mk 37 21 anl 262 ank (adu ++ a5c) (some (m68, m)) a2o 270 a2n
def a2q : List HO := [wdR 257 (.v 6) (.s 7), bx 258 66 [slA 262 ma, slA 263 wn, sX (.app 219 lc)], bx 259 66 [.nilSlice, .nilSlice, .int .i64 0], nuR 262 ma (.app 218 lc), nuR 263 wn (.app 219 lc)]
def a2s : LR := (.x 1 ([.top, .top, .top, .top, .ptr (K.of 259) 0, .int .i64 0, .top, .top, .ptr (K.of 258) 0, sX (.app 220 lc), .top, .top, .top, .top, .top, .top, .top, .top, .top, .top, .top, .top, .top, .top, .top, .top, .top, .top, .top, .top, .top, .top, .top, .top, .top, .top, .top, .top, .top, .top, .top, .top, .top, .top, .top, .top, .top, .top, .top, .top, .top, .top, .top, .top, .top, .top, .top, .top, .top, .top, .top, .top, .top, .top, .top, .top, .top, .top, .top, .top, .top, .top, .top, .top, .top, .top, .top, .top, .top, .top, .top, .top, .top, .top, .top, .top, .top, .top, .top, .top, .top, .top, .top, .top, .top, .top, .top, .top, .top, .top, .top, .top, .top, .top, .top, .top, .top, .top, .top, .top, .top, .top, .top, .top, .top, .top, .top, .top, .top, .top, .top, .top, .top, .top, .top, .top, .top]))
def akj (m : SE) : LT := .mk 37 21 anl 262 ank (adu ++ a5d) (some (m68, m)) a2s 270 a2q
def a2w : List AV := [.top, .top, .top, .top, .ptr (K.of 259) 0, .int .i64 0, .top, .int .i64 0, .ptr (K.of 258) 0, vI 14, .top, .top, .top, .top, .top, .top, .top, .top, .top, .top, .top, .top, .top, .top, .top, .top, .top, .top, .top, .top, .top, .top, .top, .gv (.sl (K.of 257) 2 (.v 6) []), vI 6, vI 8, .top, .top, .top, .top, .top, .top, .top, .top, .top, .top, .top, .top, .top, .top, .top, .top, .top, .top, .top, .top, .top, .top, .top, .top, .top, .top, .top, .top, .top, .top, .top, .top, .top, .top, .top, .top, .top, .top, .top, .top, .top, .top, .top, .top, .top, .top, .top, .top, .top, .top, .top, .top, .top, .top, .top, .top, .top, .top, .top, .top, .top, .top, .top, .top, .top, .top, .top, .top, .top, .top, .top, .top, .top, .top, .top, .top, .top, .top, .top, .top, .top, .top, .top, .top, .top, .top, .top, .top, .top, .top, .top]
def a2v : List HO := [wdR 257 (.v 6) (.s 7), bx 258 66 [slA 260 (.v 21), slA 261 (.v 22), sX (.v 13)], bx 259 66 [.nilSlice, .nilSlice, .int .i64 0], nuR 260 (.v 21) (.s 11), nuR 261 (.v 22) (.s 12)]
def bet : List HO := [wdR 257 (.v 6) (.s 7), bx 259 66 [.nilSlice, .nilSlice, .int .i64 0]]
def beu : LR := (.r ([.top, .top, .top, .top, .ptr (K.of 259) 0, sX (.app 218 pa), .top, .top, .top, .top, .top, .top, .top, .top, .top, .top, .top, .top, .top, .top, .top, .top, .top, .top, .top, .top, .top, .top, .top, .top, .top, .top, .top, .top, .top, .top, .top, .top, .top, .top, .top, .top, .top, .top, .top, .top, .top, .top, .top, .top, .top, .top, .top, .top, .top, .top, .top, .top, .top, .top, .top, .top, .top, .top, .top, .top, .top, .top, .top, .top, .top, .top, .top, .top, .top, .top, .top, .top, .top, .top, .top, .top, .top, .top, .top, .top, .top, .top, .top, .top, .top, .top, .top, .top, .top, .top, .top, .top, .top, .top, .top, .top, .top, .top, .top, .top, .top, .top, .top, .top, .top, .top, .top, .top, .top, .top, .top, .top, .top, .top, .top, .top, .top, .top, .top, .top, .top]))
def au4 (m : SE) : LT := .mk 37 21 a2w 262 a2v (ahi ++ a5e) (some (m68, m)) beu 270 bet
def a2t : List HO := [wdR 257 (.v 6) (.s 7), bx 258 66 [slA 262 ti, slA 263 tj, sX (.app 219 pa)], bx 259 66 [.nilSlice, .nilSlice, .int .i64 0], nuR 262 ti (.app 218 pa), nuR 263 tj (.app 219 pa)]
def a2u : LR := (.x 1 ([.top, .top, .top, .top, .ptr (K.of 259) 0, .int .i64 0, .top, .top, .ptr (K.of 258) 0, sX (.app 220 pa), .top, .top, .top, .top, .top, .top, .top, .top, .top, .top, .top, .top, .top, .top, .top, .top, .top, .top, .top, .top, .top, .top, .top, .top, .top, .top, .top, .top, .top, .top, .top, .top, .top, .top, .top, .top, .top, .top, .top, .top, .top, .top, .top, .top, .top, .top, .top, .top, .top, .top, .top, .top, .top, .top, .top, .top, .top, .top, .top, .top, .top, .top, .top, .top, .top, .top, .top, .top, .top, .top, .top, .top, .top, .top, .top, .top, .top, .top, .top, .top, .top, .top, .top, .top, .top, .top, .top, .top, .top, .top, .top, .top, .top, .top, .top, .top, .top, .top, .top, .top, .top, .top, .top, .top, .top, .top, .top, .top, .top, .top, .top, .top, .top, .top, .top, .top, .top]))
def akk (m : SE) : LT := .mk 37 21 a2w 262 a2v (ahi ++ a5f) (some (m68, m)) a2u 270 a2t
end
theorem ci [Gv] : ∀ t ∈ [bjy, bjv], de t := by
 intro t ht
 simp only [List.mem_cons, zJ, or_false] at ht
 rcases ht with rfl | rfl
 ·exact bg8
 ·exact bg7
def bkm [Gv] : Prop := (SAll Gv.σ bf8 → b8 37 21 aa5 262 aa4 bem 270 bel) ∧ (SAll Gv.σ a43 → b8 37 21 aa5 262 aa4 a19 270 a18) ∧ (SAll Gv.σ a44 → b8 37 21 aa5 262 aa4 a2c 270 a2b) ∧ (SAll Gv.σ a45 → b8 37 21 aa5 262 aa4 a2f 270 a2e) ∧ (SAll Gv.σ a46 → b8 37 21 aa5 262 aa4 a2i 270 a2h)
theorem bmj [Gv] (hh : ∀ t ∈ [anh m68, ae3 m68, ae4 m68, ae5 m68, ae6 m68, au2 m68, akg m68, akh m68, au3 m68, aki m68, akj m68, au4 m68, akk m68], ar t) (hI : SAll Gv.σ jn) : bkm := by
 obtain ⟨l1, l2, l3, l4, l5, l6, l7⟩ := af2 (ap (A := jn) (B := []) hI).1
 rcases zl4 hI (.v 8) (.v 6) with ⟨hI, k1⟩ | ⟨hI, k1⟩
 ·rcases zq4 hI ahj (.c 1) with ⟨hI, k2⟩ | ⟨hI, k2⟩
  ·rcases zq4 hI cz (.c 11) with ⟨hI, k3⟩ | ⟨hI, k3⟩
   ·rcases zq4 hI (.v 14) (.c 0) with ⟨hI, k4⟩ | ⟨hI, k4⟩
    ·have hI := zF4 hI ak (.c 0)
     have hI := zF4 hI (.v 6) ak
     have t1 := zf4 (br (σ := Gv.σ) (.s 7) .nil .nil ak (.v 13) (.c 1))
     rcases zq4 hI a5h (.c 0) with ⟨hI, k7⟩ | ⟨hI, k7⟩
     ·have hI := zE4 hI (.len (.app 218 adw)) (.c 0)
      rcases zq4 hI a5j (.c 0) with ⟨hI, k9⟩ | ⟨hI, k9⟩
      ·have hI := zT4 hI ai bj
       have hI := zF4 hI ai (.c 0)
       have t2 := zf4 (br (σ := Gv.σ) (.s 7) .nil .nil (.v 8) (.v 13) (.v 14))
       have u := zf5 (ao (Gv.σ 7) ((Gv.σ 8).headD 0) [] [] ((Gv.σ 13).headD 0) ((Gv.σ 14).headD 0))
       exact ⟨zn2,
        zt [] (.i a5k tl (.i a5l tm .nil)) (zh hI ci) (zp hI hh) hI ze2,
        zn2,
        zn2,
        zn2⟩
      ·have hI := zT4 hI ai bj
       have hI := zF4 hI ai (.c 0)
       have t3 := zf4 (br (σ := Gv.σ) (.s 7) .nil .nil (.v 8) (.v 13) (.v 14))
       have u := zf5 (ao (Gv.σ 7) ((Gv.σ 8).headD 0) [] [] ((Gv.σ 13).headD 0) ((Gv.σ 14).headD 0))
       exact ⟨zn2,
        zn2,
        zt [(266, 263)] (.i a5k tl (.i a5j n9 (.i a5l tm (.g a5i ahd .nil)))) (zh hI ci) (zp hI hh) hI ze2,
        zn2,
        zn2⟩
     ·have hI := zT4 hI ai bj
      have hI := zF4 hI ai (.c 0)
      have t4 := zf4 (br (σ := Gv.σ) (.s 7) .nil .nil (.v 8) (.v 13) (.v 14))
      have u := zf5 (ao (Gv.σ 7) ((Gv.σ 8).headD 0) [] [] ((Gv.σ 13).headD 0) ((Gv.σ 14).headD 0))
      exact ⟨zt [] (.i a5h lj .nil) (zh hI ci) (zp hI hh) hI ze2,
       zn2,
       zn2,
       zn2,
       zn2⟩
    ·have hI := zN4 hI cz (.c 10)
     have t5 := zf4 (br (σ := Gv.σ) (.s 7) .nil .nil (.v 8) (.v 13) (.v 14))
     have u := zf5 (ao (Gv.σ 7) ((Gv.σ 8).headD 0) [] [] ((Gv.σ 13).headD 0) ((Gv.σ 14).headD 0))
     exact ⟨zt [] (.i (.c 5) lj .nil) (zh hI ci) (zp hI hh) hI ze2,
      zn2,
      zn2,
      zn2,
      zn2⟩
   ·rcases zq4 hI cz (.c 10) with ⟨hI, k4⟩ | ⟨hI, k4⟩
    ·rcases zl4 hI (.v 14) (.c 2) with ⟨hI, k5⟩ | ⟨hI, k5⟩
     ·have hI := zF4 hI ak (.c 0)
      have hI := zF4 hI (.v 6) ak
      have t6 := zf4 (br (σ := Gv.σ) (.s 7) .nil .nil ak (.v 13) (.c 2))
      rcases zq4 hI a5n (.c 0) with ⟨hI, k8⟩ | ⟨hI, k8⟩
      ·have hI := zE4 hI (.len (.app 218 adx)) (.c 0)
       have hI := zE4 hI (.len (.app 219 adx)) (.c 0)
       have hI := zT4 hI ai bj
       have hI := zF4 hI ai (.c 0)
       have t7 := zf4 (br (σ := Gv.σ) (.s 7) .nil .nil (.v 8) (.v 13) (.v 14))
       have u := zf5 (ao (Gv.σ 7) ((Gv.σ 8).headD 0) [] [] ((Gv.σ 13).headD 0) ((Gv.σ 14).headD 0))
       exact ⟨zn2,
        zt [] (.i (.app 220 adx) tl (.i (.app 219 adx) tm .nil)) (zh hI ci) (zp hI hh) hI ze2,
        zn2,
        zn2,
        zn2⟩
      ·have hI := zT4 hI ai bj
       have hI := zF4 hI ai (.c 0)
       have t8 := zf4 (br (σ := Gv.σ) (.s 7) .nil .nil (.v 8) (.v 13) (.v 14))
       have u := zf5 (ao (Gv.σ 7) ((Gv.σ 8).headD 0) [] [] ((Gv.σ 13).headD 0) ((Gv.σ 14).headD 0))
       exact ⟨zt [] (.i a5n lj .nil) (zh hI ci) (zp hI hh) hI ze2,
        zn2,
        zn2,
        zn2,
        zn2⟩
     ·have t9 := zf4 (br (σ := Gv.σ) (.s 7) .nil .nil (.v 8) (.v 13) (.v 14))
      have u := zf5 (ao (Gv.σ 7) ((Gv.σ 8).headD 0) [] [] ((Gv.σ 13).headD 0) ((Gv.σ 14).headD 0))
      exact ⟨zt [] (.i (.c 5) lj .nil) (zh hI ci) (zp hI hh) hI ze2,
       zn2,
       zn2,
       zn2,
       zn2⟩
    ·rcases zq4 hI cz (.c 0) with ⟨hI, k5⟩ | ⟨hI, k5⟩
     ·have t10 := zf4 (br (σ := Gv.σ) (.s 7) .nil .nil (.v 8) (.v 13) (.v 14))
      have u := zf5 (ao (Gv.σ 7) ((Gv.σ 8).headD 0) [] [] ((Gv.σ 13).headD 0) ((Gv.σ 14).headD 0))
      exact ⟨zt [] (.i (.c 10) lj .nil) (zh hI ci) (zp hI hh) hI ze2,
       zn2,
       zn2,
       zn2,
       zn2⟩
     ·rcases zq4 hI cz (.c 1) with ⟨hI, k6⟩ | ⟨hI, k6⟩
      ·have t11 := zf4 (br (σ := Gv.σ) (.s 7) .nil .nil (.v 8) (.v 13) (.v 14))
       have u := zf5 (ao (Gv.σ 7) ((Gv.σ 8).headD 0) [] [] ((Gv.σ 13).headD 0) ((Gv.σ 14).headD 0))
       exact ⟨zt [] (.i (.c 10) lj .nil) (zh hI ci) (zp hI hh) hI ze2,
        zn2,
        zn2,
        zn2,
        zn2⟩
      ·rcases zq4 hI (.v 14) (.c 3) with ⟨hI, k7⟩ | ⟨hI, k7⟩
       ·have t12 := zf4 (br (σ := Gv.σ) (.s 7) .nil .nil (.v 8) (.v 13) (.v 14))
        have u := zf5 (ao (Gv.σ 7) ((Gv.σ 8).headD 0) [] [] ((Gv.σ 13).headD 0) ((Gv.σ 14).headD 0))
        exact ⟨zt [] (.i (.c 5) lj .nil) (zh hI ci) (zp hI hh) hI ze2,
         zn2,
         zn2,
         zn2,
         zn2⟩
       ·rcases zq4 hI (.v 14) (.c 0) with ⟨hI, k8⟩ | ⟨hI, k8⟩
        ·have hI := zF4 hI ak (.c 0)
         have hI := zF4 hI (.v 6) ak
         have hI := zF4 hI (.c 3000) ahk
         have t13 := zf4 (br (σ := Gv.σ) (.s 7) qs .nil ak (.v 13) (.v 14))
         rcases zq4 hI a5o (.c 0) with ⟨hI, k12⟩ | ⟨hI, k12⟩
         ·rcases zq4 hI a5q (.c 0) with ⟨hI, k13⟩ | ⟨hI, k13⟩
          ·have hI := zT4 hI ai bj
           have hI := zF4 hI ai (.c 0)
           have t14 := zf4 (br (σ := Gv.σ) (.s 7) .nil .nil (.v 8) (.v 13) (.v 14))
           have u := zf5 (ao (Gv.σ 7) ((Gv.σ 8).headD 0) [] [] ((Gv.σ 13).headD 0) ((Gv.σ 14).headD 0))
           exact ⟨zn2,
            zn2,
            zn2,
            zt [(269, 262)] (.i a5r tl (.i a5s tx (.i a5t tm (.g aro azz .nil)))) (zh hI ci) (zp hI hh) hI ze2,
            zn2⟩
          ·have hI := zT4 hI ai bj
           have hI := zF4 hI ai (.c 0)
           have t15 := zf4 (br (σ := Gv.σ) (.s 7) .nil .nil (.v 8) (.v 13) (.v 14))
           have u := zf5 (ao (Gv.σ 7) ((Gv.σ 8).headD 0) [] [] ((Gv.σ 13).headD 0) ((Gv.σ 14).headD 0))
           exact ⟨zn2,
            zn2,
            zn2,
            zn2,
            zt [(269, 262), (270, 263)] (.i a5r tl (.i a5s tx (.i a5q n9 (.i a5t tm (.g aro azz (.g a5p ahd .nil)))))) (zh hI ci) (zp hI hh) hI ze2⟩
         ·have hI := zT4 hI ai bj
          have hI := zF4 hI ai (.c 0)
          have t16 := zf4 (br (σ := Gv.σ) (.s 7) .nil .nil (.v 8) (.v 13) (.v 14))
          have u := zf5 (ao (Gv.σ 7) ((Gv.σ 8).headD 0) [] [] ((Gv.σ 13).headD 0) ((Gv.σ 14).headD 0))
          exact ⟨zt [] (.i a5o lj .nil) (zh hI ci) (zp hI hh) hI ze2,
           zn2,
           zn2,
           zn2,
           zn2⟩
        ·rcases zq4 hI (.v 14) (.c 1) with ⟨hI, k9⟩ | ⟨hI, k9⟩
         ·have hI := zF4 hI ak (.c 0)
          have hI := zF4 hI (.v 6) ak
          have hI := zF4 hI (.c 3000) ahk
          have t17 := zf4 (br (σ := Gv.σ) (.s 7) .nil qs ak (.v 13) (.v 14))
          rcases zq4 hI a5v (.c 0) with ⟨hI, k13⟩ | ⟨hI, k13⟩
          ·have hI := zE4 hI (.len (.app 218 adz)) (.c 0)
           have hI := zT4 hI ai bj
           have hI := zF4 hI ai (.c 0)
           have t18 := zf4 (br (σ := Gv.σ) (.s 7) .nil .nil (.v 8) (.v 13) (.v 14))
           have u := zf5 (ao (Gv.σ 7) ((Gv.σ 8).headD 0) [] [] ((Gv.σ 13).headD 0) ((Gv.σ 14).headD 0))
           exact ⟨zn2,
            zn2,
            zt [(270, 263)] (.i (.app 220 adz) tl (.i (.len a5w) n9 (.i (.app 219 adz) tm (.g a5w ahd .nil)))) (zh hI ci) (zp hI hh) hI ze2,
            zn2,
            zn2⟩
          ·have hI := zT4 hI ai bj
           have hI := zF4 hI ai (.c 0)
           have t19 := zf4 (br (σ := Gv.σ) (.s 7) .nil .nil (.v 8) (.v 13) (.v 14))
           have u := zf5 (ao (Gv.σ 7) ((Gv.σ 8).headD 0) [] [] ((Gv.σ 13).headD 0) ((Gv.σ 14).headD 0))
           exact ⟨zt [] (.i a5v lj .nil) (zh hI ci) (zp hI hh) hI ze2,
            zn2,
            zn2,
            zn2,
            zn2⟩
         ·have hI := zF4 hI ak (.c 0)
          have hI := zF4 hI (.v 6) ak
          have t20 := zf4 (br (σ := Gv.σ) (.s 7) .nil .nil ak cz (.c 3))
          rcases zq4 hI a5z (.c 0) with ⟨hI, k12⟩ | ⟨hI, k12⟩
          ·have hI := zE4 hI (.len (.app 218 ad0)) (.c 0)
           have hI := zE4 hI (.len (.app 219 ad0)) (.c 0)
           have hI := zT4 hI ai bj
           have hI := zF4 hI ai (.c 0)
           have t21 := zf4 (br (σ := Gv.σ) (.s 7) .nil .nil (.v 8) (.v 13) (.v 14))
           have u := zf5 (ao (Gv.σ 7) ((Gv.σ 8).headD 0) [] [] ((Gv.σ 13).headD 0) ((Gv.σ 14).headD 0))
           exact ⟨zn2,
            zt [] (.i (.app 220 ad0) tl (.i (.app 219 ad0) tm .nil)) (zh hI ci) (zp hI hh) hI ze2,
            zn2,
            zn2,
            zn2⟩
          ·have hI := zT4 hI ai bj
           have hI := zF4 hI ai (.c 0)
           have t22 := zf4 (br (σ := Gv.σ) (.s 7) .nil .nil (.v 8) (.v 13) (.v 14))
           have u := zf5 (ao (Gv.σ 7) ((Gv.σ 8).headD 0) [] [] ((Gv.σ 13).headD 0) ((Gv.σ 14).headD 0))
           exact ⟨zt [] (.i a5z lj .nil) (zh hI ci) (zp hI hh) hI ze2,
            zn2,
            zn2,
            zn2,
            zn2⟩
  ·have t23 := zf4 (br (σ := Gv.σ) (.s 7) .nil .nil (.v 8) (.v 13) (.v 14))
   have u := zf5 (ao (Gv.σ 7) ((Gv.σ 8).headD 0) [] [] ((Gv.σ 13).headD 0) ((Gv.σ 14).headD 0))
   exact ⟨zt [] (.i (.c 6) lj .nil) (zh hI ci) (zp hI hh) hI ze2,
    zn2,
    zn2,
    zn2,
    zn2⟩
 ·have t24 := zf4 (br (σ := Gv.σ) (.s 7) .nil .nil (.v 8) (.v 13) (.v 14))
  have u := zf5 (ao (Gv.σ 7) ((Gv.σ 8).headD 0) [] [] ((Gv.σ 13).headD 0) ((Gv.σ 14).headD 0))
  exact ⟨zn2,
   zt [] (.i (.v 14) tl (.i (.v 13) tm .nil)) (zh hI ci) (zp hI hh) hI ze2,
   zn2,
   zn2,
   zn2⟩
def bkn [Gv] : Prop := (SAll Gv.σ a47 → b8 37 21 anj 262 ani bep 270 beo) ∧ (SAll Gv.σ a49 → b8 37 21 anj 262 ani a2k 270 a2j) ∧ (SAll Gv.σ a5a → b8 37 21 anj 262 ani a2m 270 a2l)
theorem bmk [Gv] (hh : ∀ t ∈ [anh m68, ae3 m68, ae4 m68, ae5 m68, ae6 m68, au2 m68, akg m68, akh m68, au3 m68, aki m68, akj m68, au4 m68, akk m68], ar t) (hI : SAll Gv.σ ads) : bkn := by
 obtain ⟨l1, l2, l3, l4, l5, l6, l7⟩ := af2 (ap (A := jn) (B := ad1) hI).1
 obtain ⟨n1, n2, n3⟩ := bkq (ap (A := []) (B := ad1) (ap (A := jn) (B := ad1) hI).2).2
 rcases zl4 hI (.v 8) (.v 6) with ⟨hI, k1⟩ | ⟨hI, k1⟩
 ·rcases zq4 hI ahj (.c 1) with ⟨hI, k2⟩ | ⟨hI, k2⟩
  ·rcases zq4 hI cz (.c 11) with ⟨hI, k3⟩ | ⟨hI, k3⟩
   ·rcases zq4 hI (.v 14) (.c 0) with ⟨hI, k4⟩ | ⟨hI, k4⟩
    ·have hI := zF4 hI ak (.c 0)
     have hI := zF4 hI (.v 6) ak
     have hI := zF4 hI (.c 3000) tp
     have t1 := zf4 (br (σ := Gv.σ) (.s 7) .nil (.s 12) ak (.v 13) (.c 1))
     rcases zq4 hI a51 (.c 0) with ⟨hI, k8⟩ | ⟨hI, k8⟩
     ·have hI := zE4 hI (.len (.app 218 ad2)) (.c 0)
      have hI := zT4 hI ai bj
      have hI := zF4 hI ai (.c 0)
      have t2 := zf4 (br (σ := Gv.σ) (.s 7) .nil (.s 12) (.v 8) (.v 13) (.v 14))
      have u := zf5 (ao (Gv.σ 7) ((Gv.σ 8).headD 0) [] (Gv.σ 12) ((Gv.σ 13).headD 0) ((Gv.σ 14).headD 0))
      exact ⟨zn2,
       zt [(266, 263)] (.i (.app 220 ad2) aao (.i (.len a52) o9 (.i (.app 219 ad2) aap (.g a52 wm .nil)))) (zh hI ci) (zp hI hh) hI ze2,
       zn2⟩
     ·have hI := zT4 hI ai bj
      have hI := zF4 hI ai (.c 0)
      have t3 := zf4 (br (σ := Gv.σ) (.s 7) .nil (.s 12) (.v 8) (.v 13) (.v 14))
      have u := zf5 (ao (Gv.σ 7) ((Gv.σ 8).headD 0) [] (Gv.σ 12) ((Gv.σ 13).headD 0) ((Gv.σ 14).headD 0))
      exact ⟨zt [] (.i a51 jk .nil) (zh hI ci) (zp hI hh) hI ze2,
       zn2,
       zn2⟩
    ·have hI := zN4 hI cz (.c 10)
     have t4 := zf4 (br (σ := Gv.σ) (.s 7) .nil (.s 12) (.v 8) (.v 13) (.v 14))
     have u := zf5 (ao (Gv.σ 7) ((Gv.σ 8).headD 0) [] (Gv.σ 12) ((Gv.σ 13).headD 0) ((Gv.σ 14).headD 0))
     exact ⟨zt [] (.i (.c 5) jk .nil) (zh hI ci) (zp hI hh) hI ze2,
      zn2,
      zn2⟩
   ·rcases zq4 hI cz (.c 10) with ⟨hI, k4⟩ | ⟨hI, k4⟩
    ·rcases zl4 hI (.v 14) (.c 2) with ⟨hI, k5⟩ | ⟨hI, k5⟩
     ·have hI := zF4 hI ak (.c 0)
      have hI := zF4 hI (.v 6) ak
      have hI := zF4 hI (.c 3000) tp
      have t5 := zf4 (br (σ := Gv.σ) (.s 7) .nil (.s 12) ak (.v 13) (.c 2))
      rcases zq4 hI a54 (.c 0) with ⟨hI, k9⟩ | ⟨hI, k9⟩
      ·have hI := zE4 hI (.len (.app 218 ad3)) (.c 0)
       have hI := zT4 hI ai bj
       have hI := zF4 hI ai (.c 0)
       have t6 := zf4 (br (σ := Gv.σ) (.s 7) .nil (.s 12) (.v 8) (.v 13) (.v 14))
       have u := zf5 (ao (Gv.σ 7) ((Gv.σ 8).headD 0) [] (Gv.σ 12) ((Gv.σ 13).headD 0) ((Gv.σ 14).headD 0))
       exact ⟨zn2,
        zt [(268, 263)] (.i (.app 220 ad3) aao (.i (.len a55) o9 (.i (.app 219 ad3) aap (.g a55 wm .nil)))) (zh hI ci) (zp hI hh) hI ze2,
        zn2⟩
      ·have hI := zT4 hI ai bj
       have hI := zF4 hI ai (.c 0)
       have t7 := zf4 (br (σ := Gv.σ) (.s 7) .nil (.s 12) (.v 8) (.v 13) (.v 14))
       have u := zf5 (ao (Gv.σ 7) ((Gv.σ 8).headD 0) [] (Gv.σ 12) ((Gv.σ 13).headD 0) ((Gv.σ 14).headD 0))
       exact ⟨zt [] (.i a54 jk .nil) (zh hI ci) (zp hI hh) hI ze2,
        zn2,
        zn2⟩
     ·have t8 := zf4 (br (σ := Gv.σ) (.s 7) .nil (.s 12) (.v 8) (.v 13) (.v 14))
      have u := zf5 (ao (Gv.σ 7) ((Gv.σ 8).headD 0) [] (Gv.σ 12) ((Gv.σ 13).headD 0) ((Gv.σ 14).headD 0))
      exact ⟨zt [] (.i (.c 5) jk .nil) (zh hI ci) (zp hI hh) hI ze2,
       zn2,
       zn2⟩
    ·rcases zq4 hI cz (.c 0) with ⟨hI, k5⟩ | ⟨hI, k5⟩
     ·have t9 := zf4 (br (σ := Gv.σ) (.s 7) .nil (.s 12) (.v 8) (.v 13) (.v 14))
      have u := zf5 (ao (Gv.σ 7) ((Gv.σ 8).headD 0) [] (Gv.σ 12) ((Gv.σ 13).headD 0) ((Gv.σ 14).headD 0))
      exact ⟨zt [] (.i (.c 10) jk .nil) (zh hI ci) (zp hI hh) hI ze2,
       zn2,
       zn2⟩
     ·rcases zq4 hI cz (.c 1) with ⟨hI, k6⟩ | ⟨hI, k6⟩
      ·have t10 := zf4 (br (σ := Gv.σ) (.s 7) .nil (.s 12) (.v 8) (.v 13) (.v 14))
       have u := zf5 (ao (Gv.σ 7) ((Gv.σ 8).headD 0) [] (Gv.σ 12) ((Gv.σ 13).headD 0) ((Gv.σ 14).headD 0))
       exact ⟨zt [] (.i (.c 10) jk .nil) (zh hI ci) (zp hI hh) hI ze2,
        zn2,
        zn2⟩
      ·rcases zq4 hI (.v 14) (.c 3) with ⟨hI, k7⟩ | ⟨hI, k7⟩
       ·have t11 := zf4 (br (σ := Gv.σ) (.s 7) .nil (.s 12) (.v 8) (.v 13) (.v 14))
        have u := zf5 (ao (Gv.σ 7) ((Gv.σ 8).headD 0) [] (Gv.σ 12) ((Gv.σ 13).headD 0) ((Gv.σ 14).headD 0))
        exact ⟨zt [] (.i (.c 5) jk .nil) (zh hI ci) (zp hI hh) hI ze2,
         zn2,
         zn2⟩
       ·have hI := zF4 hI (.v 22) (.c 0)
        have hI := zF4 hI (.c 4000) (.v 22)
        rcases zl4 hI a57 (.c 0) with ⟨hI, k10⟩ | ⟨hI, k10⟩
        ·rcases zq4 hI (.v 14) (.c 0) with ⟨hI, k11⟩ | ⟨hI, k11⟩
         ·have hI := zF4 hI ak (.c 0)
          have hI := zF4 hI (.v 6) ak
          have hI := zF4 hI (.c 3000) ahk
          have hI := zF4 hI (.c 3000) tp
          have t12 := zf4 (br (σ := Gv.σ) (.s 7) qs (.s 12) ak (.v 13) (.v 14))
          rcases zq4 hI a58 (.c 0) with ⟨hI, k16⟩ | ⟨hI, k16⟩
          ·have hI := zT4 hI ai bj
           have hI := zF4 hI ai (.c 0)
           have t13 := zf4 (br (σ := Gv.σ) (.s 7) .nil (.s 12) (.v 8) (.v 13) (.v 14))
           have u := zf5 (ao (Gv.σ 7) ((Gv.σ 8).headD 0) [] (Gv.σ 12) ((Gv.σ 13).headD 0) ((Gv.σ 14).headD 0))
           exact ⟨zn2,
            zn2,
            zt [(269, 262), (270, 263)] (.i (.app 220 ad4) aao (.i (.len a59) adt (.i (.len awc) o9 (.i (.app 219 ad4) aap (.g a59 a48 (.g awc wm .nil)))))) (zh hI ci) (zp hI hh) hI ze2⟩
          ·have hI := zT4 hI ai bj
           have hI := zF4 hI ai (.c 0)
           have t14 := zf4 (br (σ := Gv.σ) (.s 7) .nil (.s 12) (.v 8) (.v 13) (.v 14))
           have u := zf5 (ao (Gv.σ 7) ((Gv.σ 8).headD 0) [] (Gv.σ 12) ((Gv.σ 13).headD 0) ((Gv.σ 14).headD 0))
           exact ⟨zt [] (.i a58 jk .nil) (zh hI ci) (zp hI hh) hI ze2,
            zn2,
            zn2⟩
         ·rcases zq4 hI (.v 14) (.c 1) with ⟨hI, k12⟩ | ⟨hI, k12⟩
          ·have hI := zF4 hI (.c 400000) sh
           have hI := zF4 hI ak (.c 0)
           have hI := zF4 hI (.v 6) ak
           have hI := zE4 hI awd sh
           have hI := zF4 hI sh (.c 1)
           have hI := zF4 hI (.c 3000) awe
           have t15 := zf4 (br (σ := Gv.σ) (.s 7) .nil alm ak (.v 13) (.v 14))
           rcases zq4 hI awg (.c 0) with ⟨hI, k19⟩ | ⟨hI, k19⟩
           ·have hI := zE4 hI (.len (.app 218 yh)) (.c 0)
            have hI := zT4 hI ai bj
            have hI := zF4 hI ai (.c 0)
            have t16 := zf4 (br (σ := Gv.σ) (.s 7) .nil (.s 12) (.v 8) (.v 13) (.v 14))
            have u := zf5 (ao (Gv.σ 7) ((Gv.σ 8).headD 0) [] (Gv.σ 12) ((Gv.σ 13).headD 0) ((Gv.σ 14).headD 0))
            exact ⟨zn2,
             zt [(270, 263)] (.i (.app 220 yh) aao (.i (.len awh) o9 (.i (.app 219 yh) aap (.g awh wm .nil)))) (zh hI ci) (zp hI hh) hI ze2,
             zn2⟩
           ·have hI := zT4 hI ai bj
            have hI := zF4 hI ai (.c 0)
            have t17 := zf4 (br (σ := Gv.σ) (.s 7) .nil (.s 12) (.v 8) (.v 13) (.v 14))
            have u := zf5 (ao (Gv.σ 7) ((Gv.σ 8).headD 0) [] (Gv.σ 12) ((Gv.σ 13).headD 0) ((Gv.σ 14).headD 0))
            exact ⟨zt [] (.i awg jk .nil) (zh hI ci) (zp hI hh) hI ze2,
             zn2,
             zn2⟩
          ·have hI := zF4 hI ak (.c 0)
           have hI := zF4 hI (.v 6) ak
           have hI := zF4 hI (.c 3000) tp
           have t18 := zf4 (br (σ := Gv.σ) (.s 7) .nil (.s 12) ak cz (.c 3))
           rcases zq4 hI awj (.c 0) with ⟨hI, k16⟩ | ⟨hI, k16⟩
           ·have hI := zE4 hI (.len (.app 218 yi)) (.c 0)
            have hI := zT4 hI ai bj
            have hI := zF4 hI ai (.c 0)
            have t19 := zf4 (br (σ := Gv.σ) (.s 7) .nil (.s 12) (.v 8) (.v 13) (.v 14))
            have u := zf5 (ao (Gv.σ 7) ((Gv.σ 8).headD 0) [] (Gv.σ 12) ((Gv.σ 13).headD 0) ((Gv.σ 14).headD 0))
            exact ⟨zn2,
             zt [(268, 263)] (.i (.app 220 yi) aao (.i (.len awk) o9 (.i (.app 219 yi) aap (.g awk wm .nil)))) (zh hI ci) (zp hI hh) hI ze2,
             zn2⟩
           ·have hI := zT4 hI ai bj
            have hI := zF4 hI ai (.c 0)
            have t20 := zf4 (br (σ := Gv.σ) (.s 7) .nil (.s 12) (.v 8) (.v 13) (.v 14))
            have u := zf5 (ao (Gv.σ 7) ((Gv.σ 8).headD 0) [] (Gv.σ 12) ((Gv.σ 13).headD 0) ((Gv.σ 14).headD 0))
            exact ⟨zt [] (.i awj jk .nil) (zh hI ci) (zp hI hh) hI ze2,
             zn2,
             zn2⟩
        ·have t21 := zf4 (br (σ := Gv.σ) (.s 7) .nil (.s 12) (.v 8) (.v 13) (.v 14))
         have u := zf5 (ao (Gv.σ 7) ((Gv.σ 8).headD 0) [] (Gv.σ 12) ((Gv.σ 13).headD 0) ((Gv.σ 14).headD 0))
         exact ⟨zt [] (.i (.c 18) jk .nil) (zh hI ci) (zp hI hh) hI ze2,
          zn2,
          zn2⟩
  ·have t22 := zf4 (br (σ := Gv.σ) (.s 7) .nil (.s 12) (.v 8) (.v 13) (.v 14))
   have u := zf5 (ao (Gv.σ 7) ((Gv.σ 8).headD 0) [] (Gv.σ 12) ((Gv.σ 13).headD 0) ((Gv.σ 14).headD 0))
   exact ⟨zt [] (.i (.c 6) jk .nil) (zh hI ci) (zp hI hh) hI ze2,
    zn2,
    zn2⟩
 ·have t23 := zf4 (br (σ := Gv.σ) (.s 7) .nil (.s 12) (.v 8) (.v 13) (.v 14))
  have u := zf5 (ao (Gv.σ 7) ((Gv.σ 8).headD 0) [] (Gv.σ 12) ((Gv.σ 13).headD 0) ((Gv.σ 14).headD 0))
  exact ⟨zn2,
   zt [(261, 263)] (.i (.v 14) aao (.i (.v 22) o9 (.i (.v 13) aap (.g (.s 12) wm .nil)))) (zh hI ci) (zp hI hh) hI ze2,
   zn2⟩
def bko [Gv] : Prop := (SAll Gv.σ a5b → b8 37 21 anl 262 ank bes 270 ber) ∧ (SAll Gv.σ a5c → b8 37 21 anl 262 ank a2o 270 a2n) ∧ (SAll Gv.σ a5d → b8 37 21 anl 262 ank a2s 270 a2q)
theorem bml [Gv] (hh : ∀ t ∈ [anh m68, ae3 m68, ae4 m68, ae5 m68, ae6 m68, au2 m68, akg m68, akh m68, au3 m68, aki m68, akj m68, au4 m68, akk m68], ar t) (hI : SAll Gv.σ adu) : bko := by
 obtain ⟨l1, l2, l3, l4, l5, l6, l7⟩ := af2 (ap (A := jn) (B := yj) hI).1
 obtain ⟨m1, m2, m3⟩ := bkr (ap (A := yj) (B := []) (ap (A := jn) (B := yj) hI).2).1
 rcases zl4 hI (.v 8) (.v 6) with ⟨hI, k1⟩ | ⟨hI, k1⟩
 ·rcases zq4 hI ahj (.c 1) with ⟨hI, k2⟩ | ⟨hI, k2⟩
  ·rcases zq4 hI cz (.c 11) with ⟨hI, k3⟩ | ⟨hI, k3⟩
   ·rcases zq4 hI (.v 14) (.c 0) with ⟨hI, k4⟩ | ⟨hI, k4⟩
    ·have hI := zF4 hI ak (.c 0)
     have hI := zF4 hI (.v 6) ak
     have hI := zF4 hI (.c 3000) pl
     have t1 := zf4 (br (σ := Gv.σ) (.s 7) (.s 11) .nil ak (.v 13) (.c 1))
     rcases zq4 hI awl (.c 0) with ⟨hI, k8⟩ | ⟨hI, k8⟩
     ·rcases zq4 hI awn (.c 0) with ⟨hI, k9⟩ | ⟨hI, k9⟩
      ·have hI := zT4 hI ai bj
       have hI := zF4 hI ai (.c 0)
       have t2 := zf4 (br (σ := Gv.σ) (.s 7) (.s 11) .nil (.v 8) (.v 13) (.v 14))
       have u := zf5 (ao (Gv.σ 7) ((Gv.σ 8).headD 0) (Gv.σ 11) [] ((Gv.σ 13).headD 0) ((Gv.σ 14).headD 0))
       exact ⟨zn2,
        zt [(265, 262)] (.i awo pn (.i awp ma (.i awq po (.g aln qr .nil)))) (zh hI ci) (zp hI hh) hI ze2,
        zn2⟩
      ·have hI := zT4 hI ai bj
       have hI := zF4 hI ai (.c 0)
       have t3 := zf4 (br (σ := Gv.σ) (.s 7) (.s 11) .nil (.v 8) (.v 13) (.v 14))
       have u := zf5 (ao (Gv.σ 7) ((Gv.σ 8).headD 0) (Gv.σ 11) [] ((Gv.σ 13).headD 0) ((Gv.σ 14).headD 0))
       exact ⟨zn2,
        zn2,
        zt [(265, 262), (266, 263)] (.i awo pn (.i awp ma (.i awn wn (.i awq po (.g aln qr (.g awm ahh .nil)))))) (zh hI ci) (zp hI hh) hI ze2⟩
     ·have hI := zT4 hI ai bj
      have hI := zF4 hI ai (.c 0)
      have t4 := zf4 (br (σ := Gv.σ) (.s 7) (.s 11) .nil (.v 8) (.v 13) (.v 14))
      have u := zf5 (ao (Gv.σ 7) ((Gv.σ 8).headD 0) (Gv.σ 11) [] ((Gv.σ 13).headD 0) ((Gv.σ 14).headD 0))
      exact ⟨zt [] (.i awl jl .nil) (zh hI ci) (zp hI hh) hI ze2,
       zn2,
       zn2⟩
    ·have hI := zN4 hI cz (.c 10)
     have t5 := zf4 (br (σ := Gv.σ) (.s 7) (.s 11) .nil (.v 8) (.v 13) (.v 14))
     have u := zf5 (ao (Gv.σ 7) ((Gv.σ 8).headD 0) (Gv.σ 11) [] ((Gv.σ 13).headD 0) ((Gv.σ 14).headD 0))
     exact ⟨zt [] (.i (.c 5) jl .nil) (zh hI ci) (zp hI hh) hI ze2,
      zn2,
      zn2⟩
   ·rcases zq4 hI cz (.c 10) with ⟨hI, k4⟩ | ⟨hI, k4⟩
    ·rcases zl4 hI (.v 14) (.c 2) with ⟨hI, k5⟩ | ⟨hI, k5⟩
     ·have hI := zF4 hI ak (.c 0)
      have hI := zF4 hI (.v 6) ak
      have hI := zF4 hI (.c 3000) pl
      have t6 := zf4 (br (σ := Gv.σ) (.s 7) (.s 11) .nil ak (.v 13) (.c 2))
      rcases zq4 hI awr (.c 0) with ⟨hI, k9⟩ | ⟨hI, k9⟩
      ·have hI := zE4 hI (.len (.app 219 yl)) (.c 0)
       have hI := zT4 hI ai bj
       have hI := zF4 hI ai (.c 0)
       have t7 := zf4 (br (σ := Gv.σ) (.s 7) (.s 11) .nil (.v 8) (.v 13) (.v 14))
       have u := zf5 (ao (Gv.σ 7) ((Gv.σ 8).headD 0) (Gv.σ 11) [] ((Gv.σ 13).headD 0) ((Gv.σ 14).headD 0))
       exact ⟨zn2,
        zt [(267, 262)] (.i (.app 220 yl) pn (.i (.len aws) ma (.i (.app 219 yl) po (.g aws qr .nil)))) (zh hI ci) (zp hI hh) hI ze2,
        zn2⟩
      ·have hI := zT4 hI ai bj
       have hI := zF4 hI ai (.c 0)
       have t8 := zf4 (br (σ := Gv.σ) (.s 7) (.s 11) .nil (.v 8) (.v 13) (.v 14))
       have u := zf5 (ao (Gv.σ 7) ((Gv.σ 8).headD 0) (Gv.σ 11) [] ((Gv.σ 13).headD 0) ((Gv.σ 14).headD 0))
       exact ⟨zt [] (.i awr jl .nil) (zh hI ci) (zp hI hh) hI ze2,
        zn2,
        zn2⟩
     ·have t9 := zf4 (br (σ := Gv.σ) (.s 7) (.s 11) .nil (.v 8) (.v 13) (.v 14))
      have u := zf5 (ao (Gv.σ 7) ((Gv.σ 8).headD 0) (Gv.σ 11) [] ((Gv.σ 13).headD 0) ((Gv.σ 14).headD 0))
      exact ⟨zt [] (.i (.c 5) jl .nil) (zh hI ci) (zp hI hh) hI ze2,
       zn2,
       zn2⟩
    ·rcases zq4 hI cz (.c 0) with ⟨hI, k5⟩ | ⟨hI, k5⟩
     ·have t10 := zf4 (br (σ := Gv.σ) (.s 7) (.s 11) .nil (.v 8) (.v 13) (.v 14))
      have u := zf5 (ao (Gv.σ 7) ((Gv.σ 8).headD 0) (Gv.σ 11) [] ((Gv.σ 13).headD 0) ((Gv.σ 14).headD 0))
      exact ⟨zt [] (.i (.c 10) jl .nil) (zh hI ci) (zp hI hh) hI ze2,
       zn2,
       zn2⟩
     ·rcases zq4 hI cz (.c 1) with ⟨hI, k6⟩ | ⟨hI, k6⟩
      ·have t11 := zf4 (br (σ := Gv.σ) (.s 7) (.s 11) .nil (.v 8) (.v 13) (.v 14))
       have u := zf5 (ao (Gv.σ 7) ((Gv.σ 8).headD 0) (Gv.σ 11) [] ((Gv.σ 13).headD 0) ((Gv.σ 14).headD 0))
       exact ⟨zt [] (.i (.c 10) jl .nil) (zh hI ci) (zp hI hh) hI ze2,
        zn2,
        zn2⟩
      ·rcases zq4 hI (.v 14) (.c 3) with ⟨hI, k7⟩ | ⟨hI, k7⟩
       ·have t12 := zf4 (br (σ := Gv.σ) (.s 7) (.s 11) .nil (.v 8) (.v 13) (.v 14))
        have u := zf5 (ao (Gv.σ 7) ((Gv.σ 8).headD 0) (Gv.σ 11) [] ((Gv.σ 13).headD 0) ((Gv.σ 14).headD 0))
        exact ⟨zt [] (.i (.c 5) jl .nil) (zh hI ci) (zp hI hh) hI ze2,
         zn2,
         zn2⟩
       ·have hI := zF4 hI (.v 21) (.c 0)
        have hI := zF4 hI (.c 4000) (.v 21)
        rcases zl4 hI awt (.c 0) with ⟨hI, k10⟩ | ⟨hI, k10⟩
        ·rcases zq4 hI (.v 14) (.c 0) with ⟨hI, k11⟩ | ⟨hI, k11⟩
         ·have hI := zF4 hI (.c 400000) si
          have hI := zF4 hI ak (.c 0)
          have hI := zF4 hI (.v 6) ak
          have hI := zE4 hI awu si
          have hI := zF4 hI si (.c 1)
          have hI := zF4 hI (.c 3000) awv
          have t13 := zf4 (br (σ := Gv.σ) (.s 7) adr .nil ak (.v 13) (.v 14))
          rcases zq4 hI aww (.c 0) with ⟨hI, k18⟩ | ⟨hI, k18⟩
          ·rcases zq4 hI awy (.c 0) with ⟨hI, k19⟩ | ⟨hI, k19⟩
           ·have hI := zT4 hI ai bj
            have hI := zF4 hI ai (.c 0)
            have t14 := zf4 (br (σ := Gv.σ) (.s 7) (.s 11) .nil (.v 8) (.v 13) (.v 14))
            have u := zf5 (ao (Gv.σ 7) ((Gv.σ 8).headD 0) (Gv.σ 11) [] ((Gv.σ 13).headD 0) ((Gv.σ 14).headD 0))
            exact ⟨zn2,
             zt [(269, 262)] (.i awz pn (.i aw0 ma (.i aw5 po (.g alo qr .nil)))) (zh hI ci) (zp hI hh) hI ze2,
             zn2⟩
           ·have hI := zT4 hI ai bj
            have hI := zF4 hI ai (.c 0)
            have t15 := zf4 (br (σ := Gv.σ) (.s 7) (.s 11) .nil (.v 8) (.v 13) (.v 14))
            have u := zf5 (ao (Gv.σ 7) ((Gv.σ 8).headD 0) (Gv.σ 11) [] ((Gv.σ 13).headD 0) ((Gv.σ 14).headD 0))
            exact ⟨zn2,
             zn2,
             zt [(269, 262), (270, 263)] (.i awz pn (.i aw0 ma (.i awy wn (.i aw5 po (.g alo qr (.g awx ahh .nil)))))) (zh hI ci) (zp hI hh) hI ze2⟩
          ·have hI := zT4 hI ai bj
           have hI := zF4 hI ai (.c 0)
           have t16 := zf4 (br (σ := Gv.σ) (.s 7) (.s 11) .nil (.v 8) (.v 13) (.v 14))
           have u := zf5 (ao (Gv.σ 7) ((Gv.σ 8).headD 0) (Gv.σ 11) [] ((Gv.σ 13).headD 0) ((Gv.σ 14).headD 0))
           exact ⟨zt [] (.i aww jl .nil) (zh hI ci) (zp hI hh) hI ze2,
            zn2,
            zn2⟩
         ·rcases zq4 hI (.v 14) (.c 1) with ⟨hI, k12⟩ | ⟨hI, k12⟩
          ·have hI := zF4 hI ak (.c 0)
           have hI := zF4 hI (.v 6) ak
           have hI := zF4 hI (.c 3000) pl
           have hI := zF4 hI (.c 3000) ahk
           have t17 := zf4 (br (σ := Gv.σ) (.s 7) (.s 11) qs ak (.v 13) (.v 14))
           rcases zq4 hI aw6 (.c 0) with ⟨hI, k17⟩ | ⟨hI, k17⟩
           ·have hI := zT4 hI ai bj
            have hI := zF4 hI ai (.c 0)
            have t18 := zf4 (br (σ := Gv.σ) (.s 7) (.s 11) .nil (.v 8) (.v 13) (.v 14))
            have u := zf5 (ao (Gv.σ 7) ((Gv.σ 8).headD 0) (Gv.σ 11) [] ((Gv.σ 13).headD 0) ((Gv.σ 14).headD 0))
            exact ⟨zn2,
             zn2,
             zt [(269, 262), (270, 263)] (.i (.app 220 yn) pn (.i (.len aw7) ma (.i (.len aw8) wn (.i (.app 219 yn) po (.g aw7 qr (.g aw8 ahh .nil)))))) (zh hI ci) (zp hI hh) hI ze2⟩
           ·have hI := zT4 hI ai bj
            have hI := zF4 hI ai (.c 0)
            have t19 := zf4 (br (σ := Gv.σ) (.s 7) (.s 11) .nil (.v 8) (.v 13) (.v 14))
            have u := zf5 (ao (Gv.σ 7) ((Gv.σ 8).headD 0) (Gv.σ 11) [] ((Gv.σ 13).headD 0) ((Gv.σ 14).headD 0))
            exact ⟨zt [] (.i aw6 jl .nil) (zh hI ci) (zp hI hh) hI ze2,
             zn2,
             zn2⟩
          ·have hI := zF4 hI ak (.c 0)
           have hI := zF4 hI (.v 6) ak
           have hI := zF4 hI (.c 3000) pl
           have t20 := zf4 (br (σ := Gv.σ) (.s 7) (.s 11) .nil ak cz (.c 3))
           rcases zq4 hI aw9 (.c 0) with ⟨hI, k16⟩ | ⟨hI, k16⟩
           ·have hI := zE4 hI (.len (.app 219 yo)) (.c 0)
            have hI := zT4 hI ai bj
            have hI := zF4 hI ai (.c 0)
            have t21 := zf4 (br (σ := Gv.σ) (.s 7) (.s 11) .nil (.v 8) (.v 13) (.v 14))
            have u := zf5 (ao (Gv.σ 7) ((Gv.σ 8).headD 0) (Gv.σ 11) [] ((Gv.σ 13).headD 0) ((Gv.σ 14).headD 0))
            exact ⟨zn2,
             zt [(267, 262)] (.i (.app 220 yo) pn (.i (.len axa) ma (.i (.app 219 yo) po (.g axa qr .nil)))) (zh hI ci) (zp hI hh) hI ze2,
             zn2⟩
           ·have hI := zT4 hI ai bj
            have hI := zF4 hI ai (.c 0)
            have t22 := zf4 (br (σ := Gv.σ) (.s 7) (.s 11) .nil (.v 8) (.v 13) (.v 14))
            have u := zf5 (ao (Gv.σ 7) ((Gv.σ 8).headD 0) (Gv.σ 11) [] ((Gv.σ 13).headD 0) ((Gv.σ 14).headD 0))
            exact ⟨zt [] (.i aw9 jl .nil) (zh hI ci) (zp hI hh) hI ze2,
             zn2,
             zn2⟩
        ·have t23 := zf4 (br (σ := Gv.σ) (.s 7) (.s 11) .nil (.v 8) (.v 13) (.v 14))
         have u := zf5 (ao (Gv.σ 7) ((Gv.σ 8).headD 0) (Gv.σ 11) [] ((Gv.σ 13).headD 0) ((Gv.σ 14).headD 0))
         exact ⟨zt [] (.i (.c 18) jl .nil) (zh hI ci) (zp hI hh) hI ze2,
          zn2,
          zn2⟩
  ·have t24 := zf4 (br (σ := Gv.σ) (.s 7) (.s 11) .nil (.v 8) (.v 13) (.v 14))
   have u := zf5 (ao (Gv.σ 7) ((Gv.σ 8).headD 0) (Gv.σ 11) [] ((Gv.σ 13).headD 0) ((Gv.σ 14).headD 0))
   exact ⟨zt [] (.i (.c 6) jl .nil) (zh hI ci) (zp hI hh) hI ze2,
    zn2,
    zn2⟩
 ·have t25 := zf4 (br (σ := Gv.σ) (.s 7) (.s 11) .nil (.v 8) (.v 13) (.v 14))
  have u := zf5 (ao (Gv.σ 7) ((Gv.σ 8).headD 0) (Gv.σ 11) [] ((Gv.σ 13).headD 0) ((Gv.σ 14).headD 0))
  exact ⟨zn2,
   zt [(260, 262)] (.i (.v 14) pn (.i (.v 21) ma (.i (.v 13) po (.g (.s 11) qr .nil)))) (zh hI ci) (zp hI hh) hI ze2,
   zn2⟩
def bkp [Gv] : Prop := (SAll Gv.σ a5e → b8 37 21 a2w 262 a2v beu 270 bet) ∧ (SAll Gv.σ a5f → b8 37 21 a2w 262 a2v a2u 270 a2t)
theorem bmm [Gv] (hh : ∀ t ∈ [anh m68, ae3 m68, ae4 m68, ae5 m68, ae6 m68, au2 m68, akg m68, akh m68, au3 m68, aki m68, akj m68, au4 m68, akk m68], ar t) (hI : SAll Gv.σ ahi) : bkp := by
 obtain ⟨l1, l2, l3, l4, l5, l6, l7⟩ := af2 (ap (A := jn) (B := alp) hI).1
 obtain ⟨m1, m2, m3⟩ := bkr (ap (A := yj) (B := ad1) (ap (A := jn) (B := alp) hI).2).1
 obtain ⟨n1, n2, n3⟩ := bkq (ap (A := yj) (B := ad1) (ap (A := jn) (B := alp) hI).2).2
 rcases zl4 hI (.v 8) (.v 6) with ⟨hI, k1⟩ | ⟨hI, k1⟩
 ·rcases zq4 hI ahj (.c 1) with ⟨hI, k2⟩ | ⟨hI, k2⟩
  ·rcases zq4 hI cz (.c 11) with ⟨hI, k3⟩ | ⟨hI, k3⟩
   ·rcases zq4 hI (.v 14) (.c 0) with ⟨hI, k4⟩ | ⟨hI, k4⟩
    ·have hI := zF4 hI ak (.c 0)
     have hI := zF4 hI (.v 6) ak
     have hI := zF4 hI (.c 3000) pl
     have hI := zF4 hI (.c 3000) tp
     have t1 := zf4 (br (σ := Gv.σ) (.s 7) (.s 11) (.s 12) ak (.v 13) (.c 1))
     rcases zq4 hI axb (.c 0) with ⟨hI, k9⟩ | ⟨hI, k9⟩
     ·have hI := zT4 hI ai bj
      have hI := zF4 hI ai (.c 0)
      have t2 := zf4 (br (σ := Gv.σ) (.s 7) (.s 11) (.s 12) (.v 8) (.v 13) (.v 14))
      have u := zf5 (ao (Gv.σ 7) ((Gv.σ 8).headD 0) (Gv.σ 11) (Gv.σ 12) ((Gv.σ 13).headD 0) ((Gv.σ 14).headD 0))
      exact ⟨zn2,
       zt [(265, 262), (266, 263)] (.i (.app 220 yp) u7 (.i (.len axc) ti (.i (.len axd) tj (.i (.app 219 yp) u9 (.g axc wo (.g axd wp .nil)))))) (zh hI ci) (zp hI hh) hI ze2⟩
     ·have hI := zT4 hI ai bj
      have hI := zF4 hI ai (.c 0)
      have t3 := zf4 (br (σ := Gv.σ) (.s 7) (.s 11) (.s 12) (.v 8) (.v 13) (.v 14))
      have u := zf5 (ao (Gv.σ 7) ((Gv.σ 8).headD 0) (Gv.σ 11) (Gv.σ 12) ((Gv.σ 13).headD 0) ((Gv.σ 14).headD 0))
      exact ⟨zt [] (.i axb jm .nil) (zh hI ci) (zp hI hh) hI ze2,
       zn2⟩
    ·have hI := zN4 hI cz (.c 10)
     have t4 := zf4 (br (σ := Gv.σ) (.s 7) (.s 11) (.s 12) (.v 8) (.v 13) (.v 14))
     have u := zf5 (ao (Gv.σ 7) ((Gv.σ 8).headD 0) (Gv.σ 11) (Gv.σ 12) ((Gv.σ 13).headD 0) ((Gv.σ 14).headD 0))
     exact ⟨zt [] (.i (.c 5) jm .nil) (zh hI ci) (zp hI hh) hI ze2,
      zn2⟩
   ·rcases zq4 hI cz (.c 10) with ⟨hI, k4⟩ | ⟨hI, k4⟩
    ·rcases zl4 hI (.v 14) (.c 2) with ⟨hI, k5⟩ | ⟨hI, k5⟩
     ·have hI := zF4 hI ak (.c 0)
      have hI := zF4 hI (.v 6) ak
      have hI := zF4 hI (.c 3000) pl
      have hI := zF4 hI (.c 3000) tp
      have t5 := zf4 (br (σ := Gv.σ) (.s 7) (.s 11) (.s 12) ak (.v 13) (.c 2))
      rcases zq4 hI axe (.c 0) with ⟨hI, k10⟩ | ⟨hI, k10⟩
      ·have hI := zT4 hI ai bj
       have hI := zF4 hI ai (.c 0)
       have t6 := zf4 (br (σ := Gv.σ) (.s 7) (.s 11) (.s 12) (.v 8) (.v 13) (.v 14))
       have u := zf5 (ao (Gv.σ 7) ((Gv.σ 8).headD 0) (Gv.σ 11) (Gv.σ 12) ((Gv.σ 13).headD 0) ((Gv.σ 14).headD 0))
       exact ⟨zn2,
        zt [(267, 262), (268, 263)] (.i (.app 220 yq) u7 (.i (.len axf) ti (.i (.len axg) tj (.i (.app 219 yq) u9 (.g axf wo (.g axg wp .nil)))))) (zh hI ci) (zp hI hh) hI ze2⟩
      ·have hI := zT4 hI ai bj
       have hI := zF4 hI ai (.c 0)
       have t7 := zf4 (br (σ := Gv.σ) (.s 7) (.s 11) (.s 12) (.v 8) (.v 13) (.v 14))
       have u := zf5 (ao (Gv.σ 7) ((Gv.σ 8).headD 0) (Gv.σ 11) (Gv.σ 12) ((Gv.σ 13).headD 0) ((Gv.σ 14).headD 0))
       exact ⟨zt [] (.i axe jm .nil) (zh hI ci) (zp hI hh) hI ze2,
        zn2⟩
     ·have t8 := zf4 (br (σ := Gv.σ) (.s 7) (.s 11) (.s 12) (.v 8) (.v 13) (.v 14))
      have u := zf5 (ao (Gv.σ 7) ((Gv.σ 8).headD 0) (Gv.σ 11) (Gv.σ 12) ((Gv.σ 13).headD 0) ((Gv.σ 14).headD 0))
      exact ⟨zt [] (.i (.c 5) jm .nil) (zh hI ci) (zp hI hh) hI ze2,
       zn2⟩
    ·rcases zq4 hI cz (.c 0) with ⟨hI, k5⟩ | ⟨hI, k5⟩
     ·have t9 := zf4 (br (σ := Gv.σ) (.s 7) (.s 11) (.s 12) (.v 8) (.v 13) (.v 14))
      have u := zf5 (ao (Gv.σ 7) ((Gv.σ 8).headD 0) (Gv.σ 11) (Gv.σ 12) ((Gv.σ 13).headD 0) ((Gv.σ 14).headD 0))
      exact ⟨zt [] (.i (.c 10) jm .nil) (zh hI ci) (zp hI hh) hI ze2,
       zn2⟩
     ·rcases zq4 hI cz (.c 1) with ⟨hI, k6⟩ | ⟨hI, k6⟩
      ·have t10 := zf4 (br (σ := Gv.σ) (.s 7) (.s 11) (.s 12) (.v 8) (.v 13) (.v 14))
       have u := zf5 (ao (Gv.σ 7) ((Gv.σ 8).headD 0) (Gv.σ 11) (Gv.σ 12) ((Gv.σ 13).headD 0) ((Gv.σ 14).headD 0))
       exact ⟨zt [] (.i (.c 10) jm .nil) (zh hI ci) (zp hI hh) hI ze2,
        zn2⟩
      ·rcases zq4 hI (.v 14) (.c 3) with ⟨hI, k7⟩ | ⟨hI, k7⟩
       ·have t11 := zf4 (br (σ := Gv.σ) (.s 7) (.s 11) (.s 12) (.v 8) (.v 13) (.v 14))
        have u := zf5 (ao (Gv.σ 7) ((Gv.σ 8).headD 0) (Gv.σ 11) (Gv.σ 12) ((Gv.σ 13).headD 0) ((Gv.σ 14).headD 0))
        exact ⟨zt [] (.i (.c 5) jm .nil) (zh hI ci) (zp hI hh) hI ze2,
         zn2⟩
       ·have hI := zF4 hI (.v 21) (.c 0)
        have hI := zF4 hI (.c 4000) (.v 21)
        rcases zl4 hI awt (.c 0) with ⟨hI, k10⟩ | ⟨hI, k10⟩
        ·have hI := zF4 hI (.v 22) (.c 0)
         have hI := zF4 hI (.c 4000) (.v 22)
         rcases zl4 hI a57 (.c 0) with ⟨hI, k13⟩ | ⟨hI, k13⟩
         ·rcases zq4 hI (.v 14) (.c 0) with ⟨hI, k14⟩ | ⟨hI, k14⟩
          ·have hI := zF4 hI (.c 400000) si
           have hI := zF4 hI ak (.c 0)
           have hI := zF4 hI (.v 6) ak
           have hI := zE4 hI awu si
           have hI := zF4 hI si (.c 1)
           have hI := zF4 hI (.c 3000) awv
           have hI := zF4 hI (.c 3000) tp
           have t12 := zf4 (br (σ := Gv.σ) (.s 7) adr (.s 12) ak (.v 13) (.v 14))
           rcases zq4 hI axh (.c 0) with ⟨hI, k22⟩ | ⟨hI, k22⟩
           ·have hI := zT4 hI ai bj
            have hI := zF4 hI ai (.c 0)
            have t13 := zf4 (br (σ := Gv.σ) (.s 7) (.s 11) (.s 12) (.v 8) (.v 13) (.v 14))
            have u := zf5 (ao (Gv.σ 7) ((Gv.σ 8).headD 0) (Gv.σ 11) (Gv.σ 12) ((Gv.σ 13).headD 0) ((Gv.σ 14).headD 0))
            exact ⟨zn2,
             zt [(269, 262), (270, 263)] (.i (.app 220 yr) u7 (.i (.len axi) ti (.i (.len axj) tj (.i (.app 219 yr) u9 (.g axi wo (.g axj wp .nil)))))) (zh hI ci) (zp hI hh) hI ze2⟩
           ·have hI := zT4 hI ai bj
            have hI := zF4 hI ai (.c 0)
            have t14 := zf4 (br (σ := Gv.σ) (.s 7) (.s 11) (.s 12) (.v 8) (.v 13) (.v 14))
            have u := zf5 (ao (Gv.σ 7) ((Gv.σ 8).headD 0) (Gv.σ 11) (Gv.σ 12) ((Gv.σ 13).headD 0) ((Gv.σ 14).headD 0))
            exact ⟨zt [] (.i axh jm .nil) (zh hI ci) (zp hI hh) hI ze2,
             zn2⟩
          ·rcases zq4 hI (.v 14) (.c 1) with ⟨hI, k15⟩ | ⟨hI, k15⟩
           ·have hI := zF4 hI (.c 400000) sh
            have hI := zF4 hI ak (.c 0)
            have hI := zF4 hI (.v 6) ak
            have hI := zF4 hI (.c 3000) pl
            have hI := zE4 hI awd sh
            have hI := zF4 hI sh (.c 1)
            have hI := zF4 hI (.c 3000) awe
            have t15 := zf4 (br (σ := Gv.σ) (.s 7) (.s 11) alm ak (.v 13) (.v 14))
            rcases zq4 hI axk (.c 0) with ⟨hI, k23⟩ | ⟨hI, k23⟩
            ·have hI := zT4 hI ai bj
             have hI := zF4 hI ai (.c 0)
             have t16 := zf4 (br (σ := Gv.σ) (.s 7) (.s 11) (.s 12) (.v 8) (.v 13) (.v 14))
             have u := zf5 (ao (Gv.σ 7) ((Gv.σ 8).headD 0) (Gv.σ 11) (Gv.σ 12) ((Gv.σ 13).headD 0) ((Gv.σ 14).headD 0))
             exact ⟨zn2,
              zt [(269, 262), (270, 263)] (.i (.app 220 yt) u7 (.i (.len axl) ti (.i (.len axm) tj (.i (.app 219 yt) u9 (.g axl wo (.g axm wp .nil)))))) (zh hI ci) (zp hI hh) hI ze2⟩
            ·have hI := zT4 hI ai bj
             have hI := zF4 hI ai (.c 0)
             have t17 := zf4 (br (σ := Gv.σ) (.s 7) (.s 11) (.s 12) (.v 8) (.v 13) (.v 14))
             have u := zf5 (ao (Gv.σ 7) ((Gv.σ 8).headD 0) (Gv.σ 11) (Gv.σ 12) ((Gv.σ 13).headD 0) ((Gv.σ 14).headD 0))
             exact ⟨zt [] (.i axk jm .nil) (zh hI ci) (zp hI hh) hI ze2,
              zn2⟩
           ·have hI := zF4 hI ak (.c 0)
            have hI := zF4 hI (.v 6) ak
            have hI := zF4 hI (.c 3000) pl
            have hI := zF4 hI (.c 3000) tp
            have t18 := zf4 (br (σ := Gv.σ) (.s 7) (.s 11) (.s 12) ak cz (.c 3))
            rcases zq4 hI axn (.c 0) with ⟨hI, k20⟩ | ⟨hI, k20⟩
            ·have hI := zT4 hI ai bj
             have hI := zF4 hI ai (.c 0)
             have t19 := zf4 (br (σ := Gv.σ) (.s 7) (.s 11) (.s 12) (.v 8) (.v 13) (.v 14))
             have u := zf5 (ao (Gv.σ 7) ((Gv.σ 8).headD 0) (Gv.σ 11) (Gv.σ 12) ((Gv.σ 13).headD 0) ((Gv.σ 14).headD 0))
             exact ⟨zn2,
              zt [(267, 262), (268, 263)] (.i (.app 220 yu) u7 (.i (.len axo) ti (.i (.len axp) tj (.i (.app 219 yu) u9 (.g axo wo (.g axp wp .nil)))))) (zh hI ci) (zp hI hh) hI ze2⟩
            ·have hI := zT4 hI ai bj
             have hI := zF4 hI ai (.c 0)
             have t20 := zf4 (br (σ := Gv.σ) (.s 7) (.s 11) (.s 12) (.v 8) (.v 13) (.v 14))
             have u := zf5 (ao (Gv.σ 7) ((Gv.σ 8).headD 0) (Gv.σ 11) (Gv.σ 12) ((Gv.σ 13).headD 0) ((Gv.σ 14).headD 0))
             exact ⟨zt [] (.i axn jm .nil) (zh hI ci) (zp hI hh) hI ze2,
              zn2⟩
         ·have t21 := zf4 (br (σ := Gv.σ) (.s 7) (.s 11) (.s 12) (.v 8) (.v 13) (.v 14))
          have u := zf5 (ao (Gv.σ 7) ((Gv.σ 8).headD 0) (Gv.σ 11) (Gv.σ 12) ((Gv.σ 13).headD 0) ((Gv.σ 14).headD 0))
          exact ⟨zt [] (.i (.c 18) jm .nil) (zh hI ci) (zp hI hh) hI ze2,
           zn2⟩
        ·have t22 := zf4 (br (σ := Gv.σ) (.s 7) (.s 11) (.s 12) (.v 8) (.v 13) (.v 14))
         have u := zf5 (ao (Gv.σ 7) ((Gv.σ 8).headD 0) (Gv.σ 11) (Gv.σ 12) ((Gv.σ 13).headD 0) ((Gv.σ 14).headD 0))
         exact ⟨zt [] (.i (.c 18) jm .nil) (zh hI ci) (zp hI hh) hI ze2,
          zn2⟩
  ·have t23 := zf4 (br (σ := Gv.σ) (.s 7) (.s 11) (.s 12) (.v 8) (.v 13) (.v 14))
   have u := zf5 (ao (Gv.σ 7) ((Gv.σ 8).headD 0) (Gv.σ 11) (Gv.σ 12) ((Gv.σ 13).headD 0) ((Gv.σ 14).headD 0))
   exact ⟨zt [] (.i (.c 6) jm .nil) (zh hI ci) (zp hI hh) hI ze2,
    zn2⟩
 ·have t24 := zf4 (br (σ := Gv.σ) (.s 7) (.s 11) (.s 12) (.v 8) (.v 13) (.v 14))
  have u := zf5 (ao (Gv.σ 7) ((Gv.σ 8).headD 0) (Gv.σ 11) (Gv.σ 12) ((Gv.σ 13).headD 0) ((Gv.σ 14).headD 0))
  exact ⟨zn2,
   zt [(260, 262), (261, 263)] (.i (.v 14) u7 (.i (.v 21) ti (.i (.v 22) tj (.i (.v 13) u9 (.g (.s 11) wo (.g (.s 12) wp .nil)))))) (zh hI ci) (zp hI hh) hI ze2⟩
theorem ae7 : ∀ (B : Nat) (σ : Nat → List Int), (m68).eval σ < (B : Int) → (SAll σ jn → @bkm ⟨σ⟩) ∧ (SAll σ ads → @bkn ⟨σ⟩) ∧ (SAll σ adu → @bko ⟨σ⟩) ∧ (SAll σ ahi → @bkp ⟨σ⟩)
 | 0, σ, hb => ⟨fun hI => by exfalso; obtain ⟨l1, l2, l3, l4, l5, l6, l7⟩ := af2 (ap (A := jn) hI).1; simp only [m68, evs, wr] at hb; omega, fun hI => by exfalso; obtain ⟨l1, l2, l3, l4, l5, l6, l7⟩ := af2 (ap (A := jn) hI).1; simp only [m68, evs, wr] at hb; omega, fun hI => by exfalso; obtain ⟨l1, l2, l3, l4, l5, l6, l7⟩ := af2 (ap (A := jn) hI).1; simp only [m68, evs, wr] at hb; omega, fun hI => by exfalso; obtain ⟨l1, l2, l3, l4, l5, l6, l7⟩ := af2 (ap (A := jn) hI).1; simp only [m68, evs, wr] at hb; omega⟩
 | B + 1, σ, hb => by
   have ih := fun σ' (h' : 0 ≤ (m68).eval σ' ∧ (m68).eval σ' < (m68).eval σ) => ae7 B σ' (by omega)
   have hh : ∀ t ∈ [anh m68, ae3 m68, ae4 m68, ae5 m68, ae6 m68, au2 m68, akg m68, akh m68, au3 m68, aki m68, akj m68, au4 m68, akk m68], @ar ⟨σ⟩ t := by
    intro t ht
    simp only [List.mem_cons, zJ, or_false] at ht
    rcases ht with rfl | rfl | rfl | rfl | rfl | rfl | rfl | rfl | rfl | rfl | rfl | rfl | rfl
    ·exact fun σ' _ hA hb => ((ih σ' hb).1 (ap hA).1).1 (ap hA).2
    ·exact fun σ' _ hA hb => ((ih σ' hb).1 (ap hA).1).2.1 (ap hA).2
    ·exact fun σ' _ hA hb => ((ih σ' hb).1 (ap hA).1).2.2.1 (ap hA).2
    ·exact fun σ' _ hA hb => ((ih σ' hb).1 (ap hA).1).2.2.2.1 (ap hA).2
    ·exact fun σ' _ hA hb => ((ih σ' hb).1 (ap hA).1).2.2.2.2 (ap hA).2
    ·exact fun σ' _ hA hb => ((ih σ' hb).2.1 (ap hA).1).1 (ap hA).2
    ·exact fun σ' _ hA hb => ((ih σ' hb).2.1 (ap hA).1).2.1 (ap hA).2
    ·exact fun σ' _ hA hb => ((ih σ' hb).2.1 (ap hA).1).2.2 (ap hA).2
    ·exact fun σ' _ hA hb => ((ih σ' hb).2.2.1 (ap hA).1).1 (ap hA).2
    ·exact fun σ' _ hA hb => ((ih σ' hb).2.2.1 (ap hA).1).2.1 (ap hA).2
    ·exact fun σ' _ hA hb => ((ih σ' hb).2.2.1 (ap hA).1).2.2 (ap hA).2
    ·exact fun σ' _ hA hb => ((ih σ' hb).2.2.2 (ap hA).1).1 (ap hA).2
    ·exact fun σ' _ hA hb => ((ih σ' hb).2.2.2 (ap hA).1).2 (ap hA).2
   exact ⟨fun hI => @bmj ⟨σ⟩ hh hI, fun hI => @bmk ⟨σ⟩ hh hI, fun hI => @bml ⟨σ⟩ hh hI, fun hI => @bmm ⟨σ⟩ hh hI⟩
theorem ben [Gv] : ar bek := fun σ _ hA _ => ((ae7 (((m68).eval σ).toNat + 1) σ (by omega)).1 (ap hA).1).1 (ap hA).2
theorem a7l [Gv] : ar a17 := fun σ _ hA _ => ((ae7 (((m68).eval σ).toNat + 1) σ (by omega)).1 (ap hA).1).2.1 (ap hA).2
theorem a7m [Gv] : ar a2a := fun σ _ hA _ => ((ae7 (((m68).eval σ).toNat + 1) σ (by omega)).1 (ap hA).1).2.2.1 (ap hA).2
theorem a7n [Gv] : ar a2d := fun σ _ hA _ => ((ae7 (((m68).eval σ).toNat + 1) σ (by omega)).1 (ap hA).1).2.2.2.1 (ap hA).2
theorem a7o [Gv] : ar a2g := fun σ _ hA _ => ((ae7 (((m68).eval σ).toNat + 1) σ (by omega)).1 (ap hA).1).2.2.2.2 (ap hA).2
end Go.Ev
