import Derived.Test.YtdeddgiacdjjdaaGreatDoorPfE
set_option maxRecDepth 100000
set_option linter.all false
namespace Go.Ev
theorem a08 : ([0, 1, 2, 3] : List Nat).all jc = true := by kernel_rfl
theorem a09 : ([4, 5, 6, 7] : List Nat).all jc = true := by kernel_rfl
theorem a1a : ([8, 9, 10, 11] : List Nat).all jc = true := by kernel_rfl
theorem asw : ([12, 13, 14, 15] : List Nat).all jc = true := by kernel_rfl
theorem asx : ([16, 17, 18, 19] : List Nat).all jc = true := by kernel_rfl
theorem asy : ([20, 21, 22, 23] : List Nat).all jc = true := by kernel_rfl
theorem asz : ([24, 25, 26, 27] : List Nat).all jc = true := by kernel_rfl
theorem as0 : ([28, 29, 30, 31] : List Nat).all jc = true := by kernel_rfl
theorem as1 : ([32, 33, 34, 35] : List Nat).all jc = true := by kernel_rfl
theorem as2 : ([36, 37, 38, 39] : List Nat).all jc = true := by kernel_rfl
theorem as3 : ([40, 41, 42, 43] : List Nat).all jc = true := by kernel_rfl
theorem as4 : ([44, 45, 46, 47] : List Nat).all jc = true := by kernel_rfl
theorem as5 : ([48, 49, 50, 51] : List Nat).all jc = true := by kernel_rfl
theorem as6 : ([52, 53, 54, 55] : List Nat).all jc = true := by kernel_rfl
theorem as7 : ([56, 57, 58, 59] : List Nat).all jc = true := by kernel_rfl
theorem a1b : ([0, 1, 2, 3] : List Nat).all jd = true := by kernel_rfl
theorem a1c : ([4, 5, 6, 7] : List Nat).all jd = true := by kernel_rfl
theorem a1d : ([8, 9, 10, 11] : List Nat).all jd = true := by kernel_rfl
theorem as8 : ([12, 13, 14, 15] : List Nat).all jd = true := by kernel_rfl
theorem as9 : ([16, 17, 18, 19] : List Nat).all jd = true := by kernel_rfl
theorem ata : ([20, 21, 22, 23] : List Nat).all jd = true := by kernel_rfl
theorem atb : ([24, 25, 26, 27] : List Nat).all jd = true := by kernel_rfl
theorem atc : ([28, 29, 30, 31] : List Nat).all jd = true := by kernel_rfl
theorem atd : ([32, 33, 34, 35] : List Nat).all jd = true := by kernel_rfl
theorem ate : ([36, 37, 38, 39] : List Nat).all jd = true := by kernel_rfl
theorem atf : ([40, 41, 42, 43] : List Nat).all jd = true := by kernel_rfl
theorem atg : ([44, 45, 46, 47] : List Nat).all jd = true := by kernel_rfl
theorem ath : ([48, 49, 50, 51] : List Nat).all jd = true := by kernel_rfl
theorem ati : ([52, 53, 54, 55] : List Nat).all jd = true := by kernel_rfl
theorem atj : ([56, 57, 58, 59] : List Nat).all jd = true := by kernel_rfl
theorem a1e : ([0, 1, 2, 3] : List Nat).all je = true := by kernel_rfl
theorem a1f : ([4, 5, 6, 7] : List Nat).all je = true := by kernel_rfl
theorem a1g : ([8, 9, 10, 11] : List Nat).all je = true := by kernel_rfl
theorem atk : ([12, 13, 14, 15] : List Nat).all je = true := by kernel_rfl
theorem atl : ([16, 17, 18, 19] : List Nat).all je = true := by kernel_rfl
theorem atm : ([20, 21, 22, 23] : List Nat).all je = true := by kernel_rfl
theorem atn : ([24, 25, 26, 27] : List Nat).all je = true := by kernel_rfl
theorem ato : ([28, 29, 30, 31] : List Nat).all je = true := by kernel_rfl
theorem atp : ([32, 33, 34, 35] : List Nat).all je = true := by kernel_rfl
theorem atq : ([36, 37, 38, 39] : List Nat).all je = true := by kernel_rfl
theorem atr : ([40, 41, 42, 43] : List Nat).all je = true := by kernel_rfl
theorem ats : ([44, 45, 46, 47] : List Nat).all je = true := by kernel_rfl
theorem att : ([48, 49, 50, 51] : List Nat).all je = true := by kernel_rfl
theorem atu : ([52, 53, 54, 55] : List Nat).all je = true := by kernel_rfl
theorem atv : ([56, 57, 58, 59] : List Nat).all je = true := by kernel_rfl
theorem a1h : ([0, 1, 2, 3] : List Nat).all jf = true := by kernel_rfl
theorem a1i : ([4, 5, 6, 7] : List Nat).all jf = true := by kernel_rfl
theorem a1j : ([8, 9, 10, 11] : List Nat).all jf = true := by kernel_rfl
theorem atw : ([12, 13, 14, 15] : List Nat).all jf = true := by kernel_rfl
theorem atx : ([16, 17, 18, 19] : List Nat).all jf = true := by kernel_rfl
theorem aty : ([20, 21, 22, 23] : List Nat).all jf = true := by kernel_rfl
theorem atz : ([24, 25, 26, 27] : List Nat).all jf = true := by kernel_rfl
theorem at0 : ([28, 29, 30, 31] : List Nat).all jf = true := by kernel_rfl
theorem at1 : ([32, 33, 34, 35] : List Nat).all jf = true := by kernel_rfl
theorem at2 : ([36, 37, 38, 39] : List Nat).all jf = true := by kernel_rfl
theorem at3 : ([40, 41, 42, 43] : List Nat).all jf = true := by kernel_rfl
theorem at4 : ([44, 45, 46, 47] : List Nat).all jf = true := by kernel_rfl
theorem at5 : ([48, 49, 50, 51] : List Nat).all jf = true := by kernel_rfl
theorem at6 : ([52, 53, 54, 55] : List Nat).all jf = true := by kernel_rfl
theorem at7 : ([56, 57, 58, 59] : List Nat).all jf = true := by kernel_rfl
def fLo : List SA := fI ++ [.mk true (.v 1) (.c (-2305843009213693952)) true]
def fHi : List SA := fI ++ [.mk true (.v 1) (.c (-2305843009213693952)) false, .mk true (.c 2305843009213693951) (.v 1) true]
end Go.Ev
