import Derived.Test.YtgdacbnfcappnaaGreatDoorEvTf
set_option maxRecDepth 100000
set_option linter.all false
namespace Go.Ev
/- show.quoted of a string of plain characters: the loop. -/
noncomputable section
def qI : SA := .mk false (.app 1 (.g (.s 0) (.i (.v 1) (.g (.s 3) .nil)))) (.c 1) true
def qD : SE := .dr (.s 0) (.v 1)
def qE : SE := .bin 0 .u8 qD (.c 0)
def qP : SE := .bin 6 .i64 (.v 1) (.dw (.s 0) (.v 1))
def qI' : SA := .mk false (.app 1 (.g (.s 0) (.i qP (.g (.cat (.s 3) (.one qE)) .nil)))) (.c 1) true
def qM : SE := .bin 6 .i64 (.len (.s 0)) (.bin 7 .i64 (.c (-1)) (.v 1))
def qM' : SE := .bin 6 .i64 (.len (.s 0)) (.bin 7 .i64 (.c (-1)) qP)
def qA : List SA := [qI, .mk true (.v 1) (.len (.s 0)) true, .mk false (.bin 0 .i64 qD (.c 0)) (.c 92) false, .mk false (.bin 0 .i64 qD (.c 0)) (.c 34) false, .mk true (.c 127) (.bin 0 .u32 qD (.c 0)) false,
  .mk true (.c 60000) (.bin 6 .i64 (.len (.s 3)) (.c 1)) false, qI', .mk true qM' qM true, .mk true qM' (.c 0) false]
def qB : List SA := [qI, .mk true (.v 1) (.len (.s 0)) false]
def qUs : List AV := [.gv (.str (.s 0) []), .func (.func 94) [] [], .top, .top, .top, .ptr (K.of 256) 0, .top, .top, .gv (.str (.s 0) []), .ptr (K.of 257) 0, .top, .top, .top, .top, .top, .top, .top, .top, .top, .top, .top]
def qLi : List HO := [.mk 256 (.cells 105 false 0 0 [.ptr (K.of 256) 0, .gv (.sl (K.of 258) 1 (.len (.s 3)) [])]), .mk 257 (.gob (.iter (.s 0) (.v 1) [])), .mk 258 (.gob (.gh 5 [.u8] (.len (.s 3)) (.s 3)))]
def qC : GE := .cut (.s 0) (.v 1) (.len (.s 0))
def qN : SE := .bin 6 .i64 (.len (.s 3)) (.len qC)
def qR : GE := .cat (.s 3) qC
def qUo : List AV := [.top, .top, .top, .top, .top, .ptr (K.of 256) 0, .top, .top, .top, .top, .top, .top, .top, .top, .top, .top, .top, .top, .top, .top, .top]
def qLo : List HO := [.mk 256 (.cells 105 false 0 0 [.ptr (K.of 256) 0, .gv (.sl (K.of 259) 1 qN [])]), .mk 259 (.gob (.gh 5 [.u8] qN qR))]
def qLt : LT := .mk 93 7 qUs 259 qLi [qI] (some (qM, qM)) (.x 0 qUo) 260 qLo
end
end Go.Ev
