import Derived.Test.YtdeddgiacdjjdaaGreatDoorPfC
set_option maxRecDepth 100000
set_option linter.all false
namespace Go.Ev
noncomputable section
def fSt (p pl w : Nat) : Nat × Nat := bc (Nat.beq w 0) (pl + 2, p * 65536 + 25662) (bc (Nat.blt w 10) (pl + 3, (p * 256 + (48 + w)) * 65536 + 25662) (pl + 4, ((p * 256 + (48 + w / 10)) * 256 + (48 + w % 10)) * 65536 + 25662))
def fHs (w : Nat) : List TM := [a9n, a77, a8m, a8w, dgW w, a63, a9d, a82, a7j, a54, a5p, a8c, a7n]
def fU (l z : Bool) : List AV := [vI 1, vI 2, .bool l, .bool z]
def fI : List SA := [.mk true (.v 1) (.c (-9223372036854775808)) false, .mk true (.c 9223372036854775807) (.v 1) false, .mk true (.v 2) (.c (-9223372036854775808)) false, .mk true (.c 9223372036854775807) (.v 2) false]
def fIn (w : Nat) : List SA := fI ++ [.mk false (.bin 5 .i64 (.v 2) (.c 60)) (.c (.ofNat w)) true, .mk true (.v 1) (.c (-2305843009213693952)) false, .mk true (.c 2305843009213693951) (.v 1) false]
def qj (l z : Bool) (A : List SA) (w : Nat) : Bool := vw [] 256 256 .nil [] (.ret (.bool true)) (enter (ajx (w9 A (fHs w)) a3c 2000) 4 (aVs A (fU l z)) (bf (aHO A []) 256))
def zg (w : Nat) : Nat := (fSt 15397 2 w).1
def wu (w : Nat) : GE := .lit (fSt 15397 2 w).1 (fSt 15397 2 w).2
def alb (w : Nat) : List SA := [.mk false (.app 228 (.g (wu w) .nil)) (.c 1) true,
 .mk true (.len (.app 121 (.i (.v 1) .nil))) (.c 1) false,
 .mk false (.eqg (.cut (.app 121 (.i (.v 1) .nil)) (.c 0) (.c 1)) (.lit 1 45)) (.c 1) true,
 .mk true (.c 9223372036854775807) (.bin 6 .i64 (.c 1) (.len (.cut (.app 121 (.i (.v 1) .nil)) (.c 1) (.len (.app 121 (.i (.v 1) .nil)))))) false,
 .mk true (.c 20000) (.bin 6 .i64 (.c 1) (.len (.cut (.app 121 (.i (.v 1) .nil)) (.c 1) (.len (.app 121 (.i (.v 1) .nil)))))) false,
 .mk false (.app 228 (.g (.cat (.lit 1 45) (.cut (.app 121 (.i (.v 1) .nil)) (.c 1) (.len (.app 121 (.i (.v 1) .nil))))) .nil)) (.c 1) true,
 .mk true (.bin 1 .i64 (.c (.ofNat w)) (.bin 6 .i64 (.c 1) (.len (.cut (.app 121 (.i (.v 1) .nil)) (.c 1) (.len (.app 121 (.i (.v 1) .nil))))))) (.c 0) true,
 .mk true (.c 9223372036854775807) (.bin 6 .i64 (.len (.app 245 (.g (.lit 1 32) (.i (.c 0) .nil)))) (.c 1)) false,
 .mk true (.c 9223372036854775807) (.bin 6 .i64 (.bin 6 .i64 (.len (.app 245 (.g (.lit 1 32) (.i (.c 0) .nil)))) (.c 1)) (.len (.cut (.app 121 (.i (.v 1) .nil)) (.c 1) (.len (.app 121 (.i (.v 1) .nil)))))) false,
 .mk true (.c 400000) (.bin 6 .i64 (.c 1) (.bin 6 .i64 (.bin 6 .i64 (.len (.app 245 (.g (.lit 1 32) (.i (.c 0) .nil)))) (.c 1)) (.len (.cut (.app 121 (.i (.v 1) .nil)) (.c 1) (.len (.app 121 (.i (.v 1) .nil))))))) false,
 .mk true (.c 262144) (.bin 6 .i64 (.c 1) (.bin 6 .i64 (.bin 6 .i64 (.len (.app 245 (.g (.lit 1 32) (.i (.c 0) .nil)))) (.c 1)) (.len (.cut (.app 121 (.i (.v 1) .nil)) (.c 1) (.len (.app 121 (.i (.v 1) .nil))))))) false,
 .mk true (.c 400000) (.bin 6 .i64 (.bin 6 .i64 (.c 1) (.bin 6 .i64 (.bin 6 .i64 (.len (.app 245 (.g (.lit 1 32) (.i (.c 0) .nil)))) (.c 1)) (.len (.cut (.app 121 (.i (.v 1) .nil)) (.c 1) (.len (.app 121 (.i (.v 1) .nil))))))) (.c 1)) false,
 .mk true (.c 0) (.bin 6 .i64 (.bin 6 .i64 (.c 1) (.bin 6 .i64 (.bin 6 .i64 (.len (.app 245 (.g (.lit 1 32) (.i (.c 0) .nil)))) (.c 1)) (.len (.cut (.app 121 (.i (.v 1) .nil)) (.c 1) (.len (.app 121 (.i (.v 1) .nil))))))) (.c 1)) true,
 .mk true (.c 20000) (.bin 6 .i64 (.bin 6 .i64 (.c 1) (.bin 6 .i64 (.bin 6 .i64 (.len (.app 245 (.g (.lit 1 32) (.i (.c 0) .nil)))) (.c 1)) (.len (.cut (.app 121 (.i (.v 1) .nil)) (.c 1) (.len (.app 121 (.i (.v 1) .nil))))))) (.c 1)) false,
 .mk false (.app 228 (.g (.cat (.cat (.lit 1 60) (.cat (.cat (.app 245 (.g (.lit 1 32) (.i (.c 0) .nil))) (.lit 1 45)) (.cut (.app 121 (.i (.v 1) .nil)) (.c 1) (.len (.app 121 (.i (.v 1) .nil)))))) (.lit 1 62)) .nil)) (.c 1) true,
 .mk true (.c 65536) (.bin 6 .i64 (.bin 6 .i64 (.c 1) (.bin 6 .i64 (.bin 6 .i64 (.len (.app 245 (.g (.lit 1 32) (.i (.c 0) .nil)))) (.c 1)) (.len (.cut (.app 121 (.i (.v 1) .nil)) (.c 1) (.len (.app 121 (.i (.v 1) .nil))))))) (.c 1)) false,
 .mk true (.c 1048576) (.bin 0 .i64 (.c (.ofNat (zg w))) (.bin 6 .i64 (.bin 6 .i64 (.c 1) (.bin 6 .i64 (.bin 6 .i64 (.len (.app 245 (.g (.lit 1 32) (.i (.c 0) .nil)))) (.c 1)) (.len (.cut (.app 121 (.i (.v 1) .nil)) (.c 1) (.len (.app 121 (.i (.v 1) .nil))))))) (.c 1))) false,
 .mk true (.bin 1 .i64 (.c (.ofNat w)) (.len (.app 121 (.i (.v 1) .nil)))) (.c 0) true,
 .mk true (.c 9223372036854775807) (.bin 6 .i64 (.len (.app 245 (.g (.lit 1 32) (.i (.c 0) .nil)))) (.len (.app 121 (.i (.v 1) .nil)))) false,
 .mk true (.c 9223372036854775807) (.bin 6 .i64 (.c 1) (.bin 6 .i64 (.len (.app 245 (.g (.lit 1 32) (.i (.c 0) .nil)))) (.len (.app 121 (.i (.v 1) .nil))))) false,
 .mk true (.c 9223372036854775807) (.bin 6 .i64 (.bin 6 .i64 (.c 1) (.bin 6 .i64 (.len (.app 245 (.g (.lit 1 32) (.i (.c 0) .nil)))) (.len (.app 121 (.i (.v 1) .nil))))) (.c 1)) false,
 .mk false (.eqg (.cat (.cat (.lit 1 60) (.cat (.cat (.app 245 (.g (.lit 1 32) (.i (.c 0) .nil))) (.lit 1 45)) (.cut (.app 121 (.i (.v 1) .nil)) (.c 1) (.len (.app 121 (.i (.v 1) .nil)))))) (.lit 1 62)) (.cat (.cat (.lit 1 60) (.cat (.app 245 (.g (.lit 1 32) (.i (.c 0) .nil))) (.app 121 (.i (.v 1) .nil)))) (.lit 1 62))) (.c 1) true]
def jc (w : Nat) : Bool := qj false false (fIn w ++ alb w) w
def alc (w : Nat) : List SA := [.mk false (.app 228 (.g (wu w) .nil)) (.c 1) true,
 .mk true (.len (.app 121 (.i (.v 1) .nil))) (.c 1) false,
 .mk false (.eqg (.cut (.app 121 (.i (.v 1) .nil)) (.c 0) (.c 1)) (.lit 1 45)) (.c 1) true,
 .mk true (.c 9223372036854775807) (.bin 6 .i64 (.c 1) (.len (.cut (.app 121 (.i (.v 1) .nil)) (.c 1) (.len (.app 121 (.i (.v 1) .nil)))))) false,
 .mk true (.c 20000) (.bin 6 .i64 (.c 1) (.len (.cut (.app 121 (.i (.v 1) .nil)) (.c 1) (.len (.app 121 (.i (.v 1) .nil)))))) false,
 .mk false (.app 228 (.g (.cat (.lit 1 45) (.cut (.app 121 (.i (.v 1) .nil)) (.c 1) (.len (.app 121 (.i (.v 1) .nil))))) .nil)) (.c 1) true,
 .mk true (.bin 1 .i64 (.c (.ofNat w)) (.bin 6 .i64 (.c 1) (.len (.cut (.app 121 (.i (.v 1) .nil)) (.c 1) (.len (.app 121 (.i (.v 1) .nil))))))) (.c 0) false,
 .mk true (.c 300) (.bin 1 .i64 (.c (.ofNat w)) (.bin 6 .i64 (.c 1) (.len (.cut (.app 121 (.i (.v 1) .nil)) (.c 1) (.len (.app 121 (.i (.v 1) .nil))))))) false,
 .mk true (.c 9223372036854775807) (.bin 6 .i64 (.len (.app 245 (.g (.lit 1 32) (.i (.bin 1 .i64 (.c (.ofNat w)) (.bin 6 .i64 (.c 1) (.len (.cut (.app 121 (.i (.v 1) .nil)) (.c 1) (.len (.app 121 (.i (.v 1) .nil))))))) .nil)))) (.c 1)) false,
 .mk true (.c 9223372036854775807) (.bin 6 .i64 (.bin 6 .i64 (.len (.app 245 (.g (.lit 1 32) (.i (.bin 1 .i64 (.c (.ofNat w)) (.bin 6 .i64 (.c 1) (.len (.cut (.app 121 (.i (.v 1) .nil)) (.c 1) (.len (.app 121 (.i (.v 1) .nil))))))) .nil)))) (.c 1)) (.len (.cut (.app 121 (.i (.v 1) .nil)) (.c 1) (.len (.app 121 (.i (.v 1) .nil)))))) false,
 .mk true (.c 400000) (.bin 6 .i64 (.c 1) (.bin 6 .i64 (.bin 6 .i64 (.len (.app 245 (.g (.lit 1 32) (.i (.bin 1 .i64 (.c (.ofNat w)) (.bin 6 .i64 (.c 1) (.len (.cut (.app 121 (.i (.v 1) .nil)) (.c 1) (.len (.app 121 (.i (.v 1) .nil))))))) .nil)))) (.c 1)) (.len (.cut (.app 121 (.i (.v 1) .nil)) (.c 1) (.len (.app 121 (.i (.v 1) .nil))))))) false,
 .mk true (.c 262144) (.bin 6 .i64 (.c 1) (.bin 6 .i64 (.bin 6 .i64 (.len (.app 245 (.g (.lit 1 32) (.i (.bin 1 .i64 (.c (.ofNat w)) (.bin 6 .i64 (.c 1) (.len (.cut (.app 121 (.i (.v 1) .nil)) (.c 1) (.len (.app 121 (.i (.v 1) .nil))))))) .nil)))) (.c 1)) (.len (.cut (.app 121 (.i (.v 1) .nil)) (.c 1) (.len (.app 121 (.i (.v 1) .nil))))))) false,
 .mk true (.c 400000) (.bin 6 .i64 (.bin 6 .i64 (.c 1) (.bin 6 .i64 (.bin 6 .i64 (.len (.app 245 (.g (.lit 1 32) (.i (.bin 1 .i64 (.c (.ofNat w)) (.bin 6 .i64 (.c 1) (.len (.cut (.app 121 (.i (.v 1) .nil)) (.c 1) (.len (.app 121 (.i (.v 1) .nil))))))) .nil)))) (.c 1)) (.len (.cut (.app 121 (.i (.v 1) .nil)) (.c 1) (.len (.app 121 (.i (.v 1) .nil))))))) (.c 1)) false,
 .mk true (.c 0) (.bin 6 .i64 (.bin 6 .i64 (.c 1) (.bin 6 .i64 (.bin 6 .i64 (.len (.app 245 (.g (.lit 1 32) (.i (.bin 1 .i64 (.c (.ofNat w)) (.bin 6 .i64 (.c 1) (.len (.cut (.app 121 (.i (.v 1) .nil)) (.c 1) (.len (.app 121 (.i (.v 1) .nil))))))) .nil)))) (.c 1)) (.len (.cut (.app 121 (.i (.v 1) .nil)) (.c 1) (.len (.app 121 (.i (.v 1) .nil))))))) (.c 1)) true,
 .mk true (.c 20000) (.bin 6 .i64 (.bin 6 .i64 (.c 1) (.bin 6 .i64 (.bin 6 .i64 (.len (.app 245 (.g (.lit 1 32) (.i (.bin 1 .i64 (.c (.ofNat w)) (.bin 6 .i64 (.c 1) (.len (.cut (.app 121 (.i (.v 1) .nil)) (.c 1) (.len (.app 121 (.i (.v 1) .nil))))))) .nil)))) (.c 1)) (.len (.cut (.app 121 (.i (.v 1) .nil)) (.c 1) (.len (.app 121 (.i (.v 1) .nil))))))) (.c 1)) false,
 .mk false (.app 228 (.g (.cat (.cat (.lit 1 60) (.cat (.cat (.app 245 (.g (.lit 1 32) (.i (.bin 1 .i64 (.c (.ofNat w)) (.bin 6 .i64 (.c 1) (.len (.cut (.app 121 (.i (.v 1) .nil)) (.c 1) (.len (.app 121 (.i (.v 1) .nil))))))) .nil))) (.lit 1 45)) (.cut (.app 121 (.i (.v 1) .nil)) (.c 1) (.len (.app 121 (.i (.v 1) .nil)))))) (.lit 1 62)) .nil)) (.c 1) true,
 .mk true (.c 65536) (.bin 6 .i64 (.bin 6 .i64 (.c 1) (.bin 6 .i64 (.bin 6 .i64 (.len (.app 245 (.g (.lit 1 32) (.i (.bin 1 .i64 (.c (.ofNat w)) (.bin 6 .i64 (.c 1) (.len (.cut (.app 121 (.i (.v 1) .nil)) (.c 1) (.len (.app 121 (.i (.v 1) .nil))))))) .nil)))) (.c 1)) (.len (.cut (.app 121 (.i (.v 1) .nil)) (.c 1) (.len (.app 121 (.i (.v 1) .nil))))))) (.c 1)) false,
 .mk true (.c 1048576) (.bin 0 .i64 (.c (.ofNat (zg w))) (.bin 6 .i64 (.bin 6 .i64 (.c 1) (.bin 6 .i64 (.bin 6 .i64 (.len (.app 245 (.g (.lit 1 32) (.i (.bin 1 .i64 (.c (.ofNat w)) (.bin 6 .i64 (.c 1) (.len (.cut (.app 121 (.i (.v 1) .nil)) (.c 1) (.len (.app 121 (.i (.v 1) .nil))))))) .nil)))) (.c 1)) (.len (.cut (.app 121 (.i (.v 1) .nil)) (.c 1) (.len (.app 121 (.i (.v 1) .nil))))))) (.c 1))) false,
 .mk true (.bin 1 .i64 (.c (.ofNat w)) (.len (.app 121 (.i (.v 1) .nil)))) (.c 0) false,
 .mk true (.c 300) (.bin 1 .i64 (.c (.ofNat w)) (.len (.app 121 (.i (.v 1) .nil)))) false,
 .mk true (.c 9223372036854775807) (.bin 6 .i64 (.len (.app 245 (.g (.lit 1 32) (.i (.bin 1 .i64 (.c (.ofNat w)) (.len (.app 121 (.i (.v 1) .nil)))) .nil)))) (.len (.app 121 (.i (.v 1) .nil)))) false,
 .mk true (.c 9223372036854775807) (.bin 6 .i64 (.c 1) (.bin 6 .i64 (.len (.app 245 (.g (.lit 1 32) (.i (.bin 1 .i64 (.c (.ofNat w)) (.len (.app 121 (.i (.v 1) .nil)))) .nil)))) (.len (.app 121 (.i (.v 1) .nil))))) false,
 .mk true (.c 9223372036854775807) (.bin 6 .i64 (.bin 6 .i64 (.c 1) (.bin 6 .i64 (.len (.app 245 (.g (.lit 1 32) (.i (.bin 1 .i64 (.c (.ofNat w)) (.len (.app 121 (.i (.v 1) .nil)))) .nil)))) (.len (.app 121 (.i (.v 1) .nil))))) (.c 1)) false,
 .mk false (.eqg (.cat (.cat (.lit 1 60) (.cat (.cat (.app 245 (.g (.lit 1 32) (.i (.bin 1 .i64 (.c (.ofNat w)) (.bin 6 .i64 (.c 1) (.len (.cut (.app 121 (.i (.v 1) .nil)) (.c 1) (.len (.app 121 (.i (.v 1) .nil))))))) .nil))) (.lit 1 45)) (.cut (.app 121 (.i (.v 1) .nil)) (.c 1) (.len (.app 121 (.i (.v 1) .nil)))))) (.lit 1 62)) (.cat (.cat (.lit 1 60) (.cat (.app 245 (.g (.lit 1 32) (.i (.bin 1 .i64 (.c (.ofNat w)) (.len (.app 121 (.i (.v 1) .nil)))) .nil))) (.app 121 (.i (.v 1) .nil)))) (.lit 1 62))) (.c 1) true]
def jd (w : Nat) : Bool := qj false false (fIn w ++ alc w) w
def ald (w : Nat) : List SA := [.mk false (.app 228 (.g (wu w) .nil)) (.c 1) true,
 .mk true (.len (.app 121 (.i (.v 1) .nil))) (.c 1) false,
 .mk false (.eqg (.cut (.app 121 (.i (.v 1) .nil)) (.c 0) (.c 1)) (.lit 1 45)) (.c 1) false,
 .mk true (.c 9223372036854775807) (.len (.app 121 (.i (.v 1) .nil))) false,
 .mk true (.c 20000) (.len (.app 121 (.i (.v 1) .nil))) false,
 .mk false (.app 228 (.g (.cat (.lit 0 0) (.app 121 (.i (.v 1) .nil))) .nil)) (.c 1) true,
 .mk true (.bin 1 .i64 (.c (.ofNat w)) (.len (.app 121 (.i (.v 1) .nil)))) (.c 0) true,
 .mk true (.c 9223372036854775807) (.len (.app 245 (.g (.lit 1 32) (.i (.c 0) .nil)))) false,
 .mk true (.c 9223372036854775807) (.bin 6 .i64 (.len (.app 245 (.g (.lit 1 32) (.i (.c 0) .nil)))) (.len (.app 121 (.i (.v 1) .nil)))) false,
 .mk true (.c 400000) (.bin 6 .i64 (.c 1) (.bin 6 .i64 (.len (.app 245 (.g (.lit 1 32) (.i (.c 0) .nil)))) (.len (.app 121 (.i (.v 1) .nil))))) false,
 .mk true (.c 262144) (.bin 6 .i64 (.c 1) (.bin 6 .i64 (.len (.app 245 (.g (.lit 1 32) (.i (.c 0) .nil)))) (.len (.app 121 (.i (.v 1) .nil))))) false,
 .mk true (.c 400000) (.bin 6 .i64 (.bin 6 .i64 (.c 1) (.bin 6 .i64 (.len (.app 245 (.g (.lit 1 32) (.i (.c 0) .nil)))) (.len (.app 121 (.i (.v 1) .nil))))) (.c 1)) false,
 .mk true (.c 0) (.bin 6 .i64 (.bin 6 .i64 (.c 1) (.bin 6 .i64 (.len (.app 245 (.g (.lit 1 32) (.i (.c 0) .nil)))) (.len (.app 121 (.i (.v 1) .nil))))) (.c 1)) true,
 .mk true (.c 20000) (.bin 6 .i64 (.bin 6 .i64 (.c 1) (.bin 6 .i64 (.len (.app 245 (.g (.lit 1 32) (.i (.c 0) .nil)))) (.len (.app 121 (.i (.v 1) .nil))))) (.c 1)) false,
 .mk false (.app 228 (.g (.cat (.cat (.lit 1 60) (.cat (.cat (.app 245 (.g (.lit 1 32) (.i (.c 0) .nil))) (.lit 0 0)) (.app 121 (.i (.v 1) .nil)))) (.lit 1 62)) .nil)) (.c 1) true,
 .mk true (.c 65536) (.bin 6 .i64 (.bin 6 .i64 (.c 1) (.bin 6 .i64 (.len (.app 245 (.g (.lit 1 32) (.i (.c 0) .nil)))) (.len (.app 121 (.i (.v 1) .nil))))) (.c 1)) false,
 .mk true (.c 1048576) (.bin 0 .i64 (.c (.ofNat (zg w))) (.bin 6 .i64 (.bin 6 .i64 (.c 1) (.bin 6 .i64 (.len (.app 245 (.g (.lit 1 32) (.i (.c 0) .nil)))) (.len (.app 121 (.i (.v 1) .nil))))) (.c 1))) false,
 .mk true (.c 9223372036854775807) (.bin 6 .i64 (.c 1) (.bin 6 .i64 (.len (.app 245 (.g (.lit 1 32) (.i (.c 0) .nil)))) (.len (.app 121 (.i (.v 1) .nil))))) false,
 .mk true (.c 9223372036854775807) (.bin 6 .i64 (.bin 6 .i64 (.c 1) (.bin 6 .i64 (.len (.app 245 (.g (.lit 1 32) (.i (.c 0) .nil)))) (.len (.app 121 (.i (.v 1) .nil))))) (.c 1)) false,
 .mk false (.eqg (.cat (.cat (.lit 1 60) (.cat (.cat (.app 245 (.g (.lit 1 32) (.i (.c 0) .nil))) (.lit 0 0)) (.app 121 (.i (.v 1) .nil)))) (.lit 1 62)) (.cat (.cat (.lit 1 60) (.cat (.app 245 (.g (.lit 1 32) (.i (.c 0) .nil))) (.app 121 (.i (.v 1) .nil)))) (.lit 1 62))) (.c 1) true]
def je (w : Nat) : Bool := qj false false (fIn w ++ ald w) w
def alf (w : Nat) : List SA := [.mk false (.app 228 (.g (wu w) .nil)) (.c 1) true,
 .mk true (.len (.app 121 (.i (.v 1) .nil))) (.c 1) false,
 .mk false (.eqg (.cut (.app 121 (.i (.v 1) .nil)) (.c 0) (.c 1)) (.lit 1 45)) (.c 1) false,
 .mk true (.c 9223372036854775807) (.len (.app 121 (.i (.v 1) .nil))) false,
 .mk true (.c 20000) (.len (.app 121 (.i (.v 1) .nil))) false,
 .mk false (.app 228 (.g (.cat (.lit 0 0) (.app 121 (.i (.v 1) .nil))) .nil)) (.c 1) true,
 .mk true (.bin 1 .i64 (.c (.ofNat w)) (.len (.app 121 (.i (.v 1) .nil)))) (.c 0) false,
 .mk true (.c 300) (.bin 1 .i64 (.c (.ofNat w)) (.len (.app 121 (.i (.v 1) .nil)))) false,
 .mk true (.c 9223372036854775807) (.len (.app 245 (.g (.lit 1 32) (.i (.bin 1 .i64 (.c (.ofNat w)) (.len (.app 121 (.i (.v 1) .nil)))) .nil)))) false,
 .mk true (.c 9223372036854775807) (.bin 6 .i64 (.len (.app 245 (.g (.lit 1 32) (.i (.bin 1 .i64 (.c (.ofNat w)) (.len (.app 121 (.i (.v 1) .nil)))) .nil)))) (.len (.app 121 (.i (.v 1) .nil)))) false,
 .mk true (.c 400000) (.bin 6 .i64 (.c 1) (.bin 6 .i64 (.len (.app 245 (.g (.lit 1 32) (.i (.bin 1 .i64 (.c (.ofNat w)) (.len (.app 121 (.i (.v 1) .nil)))) .nil)))) (.len (.app 121 (.i (.v 1) .nil))))) false,
 .mk true (.c 262144) (.bin 6 .i64 (.c 1) (.bin 6 .i64 (.len (.app 245 (.g (.lit 1 32) (.i (.bin 1 .i64 (.c (.ofNat w)) (.len (.app 121 (.i (.v 1) .nil)))) .nil)))) (.len (.app 121 (.i (.v 1) .nil))))) false,
 .mk true (.c 400000) (.bin 6 .i64 (.bin 6 .i64 (.c 1) (.bin 6 .i64 (.len (.app 245 (.g (.lit 1 32) (.i (.bin 1 .i64 (.c (.ofNat w)) (.len (.app 121 (.i (.v 1) .nil)))) .nil)))) (.len (.app 121 (.i (.v 1) .nil))))) (.c 1)) false,
 .mk true (.c 0) (.bin 6 .i64 (.bin 6 .i64 (.c 1) (.bin 6 .i64 (.len (.app 245 (.g (.lit 1 32) (.i (.bin 1 .i64 (.c (.ofNat w)) (.len (.app 121 (.i (.v 1) .nil)))) .nil)))) (.len (.app 121 (.i (.v 1) .nil))))) (.c 1)) true,
 .mk true (.c 20000) (.bin 6 .i64 (.bin 6 .i64 (.c 1) (.bin 6 .i64 (.len (.app 245 (.g (.lit 1 32) (.i (.bin 1 .i64 (.c (.ofNat w)) (.len (.app 121 (.i (.v 1) .nil)))) .nil)))) (.len (.app 121 (.i (.v 1) .nil))))) (.c 1)) false,
 .mk false (.app 228 (.g (.cat (.cat (.lit 1 60) (.cat (.cat (.app 245 (.g (.lit 1 32) (.i (.bin 1 .i64 (.c (.ofNat w)) (.len (.app 121 (.i (.v 1) .nil)))) .nil))) (.lit 0 0)) (.app 121 (.i (.v 1) .nil)))) (.lit 1 62)) .nil)) (.c 1) true,
 .mk true (.c 65536) (.bin 6 .i64 (.bin 6 .i64 (.c 1) (.bin 6 .i64 (.len (.app 245 (.g (.lit 1 32) (.i (.bin 1 .i64 (.c (.ofNat w)) (.len (.app 121 (.i (.v 1) .nil)))) .nil)))) (.len (.app 121 (.i (.v 1) .nil))))) (.c 1)) false,
 .mk true (.c 1048576) (.bin 0 .i64 (.c (.ofNat (zg w))) (.bin 6 .i64 (.bin 6 .i64 (.c 1) (.bin 6 .i64 (.len (.app 245 (.g (.lit 1 32) (.i (.bin 1 .i64 (.c (.ofNat w)) (.len (.app 121 (.i (.v 1) .nil)))) .nil)))) (.len (.app 121 (.i (.v 1) .nil))))) (.c 1))) false,
 .mk true (.c 9223372036854775807) (.bin 6 .i64 (.c 1) (.bin 6 .i64 (.len (.app 245 (.g (.lit 1 32) (.i (.bin 1 .i64 (.c (.ofNat w)) (.len (.app 121 (.i (.v 1) .nil)))) .nil)))) (.len (.app 121 (.i (.v 1) .nil))))) false,
 .mk true (.c 9223372036854775807) (.bin 6 .i64 (.bin 6 .i64 (.c 1) (.bin 6 .i64 (.len (.app 245 (.g (.lit 1 32) (.i (.bin 1 .i64 (.c (.ofNat w)) (.len (.app 121 (.i (.v 1) .nil)))) .nil)))) (.len (.app 121 (.i (.v 1) .nil))))) (.c 1)) false,
 .mk false (.eqg (.cat (.cat (.lit 1 60) (.cat (.cat (.app 245 (.g (.lit 1 32) (.i (.bin 1 .i64 (.c (.ofNat w)) (.len (.app 121 (.i (.v 1) .nil)))) .nil))) (.lit 0 0)) (.app 121 (.i (.v 1) .nil)))) (.lit 1 62)) (.cat (.cat (.lit 1 60) (.cat (.app 245 (.g (.lit 1 32) (.i (.bin 1 .i64 (.c (.ofNat w)) (.len (.app 121 (.i (.v 1) .nil)))) .nil))) (.app 121 (.i (.v 1) .nil)))) (.lit 1 62))) (.c 1) true]
def jf (w : Nat) : Bool := qj false false (fIn w ++ alf w) w
def zi (w : Nat) : Nat := (fSt 3941677 3 w).1
def ww (w : Nat) : GE := .lit (fSt 3941677 3 w).1 (fSt 3941677 3 w).2
def alk (w : Nat) : List SA := [.mk false (.app 228 (.g (ww w) .nil)) (.c 1) true,
 .mk true (.len (.app 121 (.i (.v 1) .nil))) (.c 1) false,
 .mk false (.eqg (.cut (.app 121 (.i (.v 1) .nil)) (.c 0) (.c 1)) (.lit 1 45)) (.c 1) true,
 .mk true (.c 9223372036854775807) (.bin 6 .i64 (.c 1) (.len (.cut (.app 121 (.i (.v 1) .nil)) (.c 1) (.len (.app 121 (.i (.v 1) .nil)))))) false,
 .mk true (.c 20000) (.bin 6 .i64 (.c 1) (.len (.cut (.app 121 (.i (.v 1) .nil)) (.c 1) (.len (.app 121 (.i (.v 1) .nil)))))) false,
 .mk false (.app 228 (.g (.cat (.lit 1 45) (.cut (.app 121 (.i (.v 1) .nil)) (.c 1) (.len (.app 121 (.i (.v 1) .nil))))) .nil)) (.c 1) true,
 .mk true (.bin 1 .i64 (.c (.ofNat w)) (.bin 6 .i64 (.c 1) (.len (.cut (.app 121 (.i (.v 1) .nil)) (.c 1) (.len (.app 121 (.i (.v 1) .nil))))))) (.c 0) true,
 .mk true (.c 9223372036854775807) (.bin 6 .i64 (.bin 6 .i64 (.c 1) (.len (.cut (.app 121 (.i (.v 1) .nil)) (.c 1) (.len (.app 121 (.i (.v 1) .nil)))))) (.len (.app 245 (.g (.lit 1 32) (.i (.c 0) .nil))))) false,
 .mk true (.c 400000) (.bin 6 .i64 (.c 1) (.bin 6 .i64 (.bin 6 .i64 (.c 1) (.len (.cut (.app 121 (.i (.v 1) .nil)) (.c 1) (.len (.app 121 (.i (.v 1) .nil)))))) (.len (.app 245 (.g (.lit 1 32) (.i (.c 0) .nil)))))) false,
 .mk true (.c 262144) (.bin 6 .i64 (.c 1) (.bin 6 .i64 (.bin 6 .i64 (.c 1) (.len (.cut (.app 121 (.i (.v 1) .nil)) (.c 1) (.len (.app 121 (.i (.v 1) .nil)))))) (.len (.app 245 (.g (.lit 1 32) (.i (.c 0) .nil)))))) false,
 .mk true (.c 400000) (.bin 6 .i64 (.bin 6 .i64 (.c 1) (.bin 6 .i64 (.bin 6 .i64 (.c 1) (.len (.cut (.app 121 (.i (.v 1) .nil)) (.c 1) (.len (.app 121 (.i (.v 1) .nil)))))) (.len (.app 245 (.g (.lit 1 32) (.i (.c 0) .nil)))))) (.c 1)) false,
 .mk true (.c 0) (.bin 6 .i64 (.bin 6 .i64 (.c 1) (.bin 6 .i64 (.bin 6 .i64 (.c 1) (.len (.cut (.app 121 (.i (.v 1) .nil)) (.c 1) (.len (.app 121 (.i (.v 1) .nil)))))) (.len (.app 245 (.g (.lit 1 32) (.i (.c 0) .nil)))))) (.c 1)) true,
 .mk true (.c 20000) (.bin 6 .i64 (.bin 6 .i64 (.c 1) (.bin 6 .i64 (.bin 6 .i64 (.c 1) (.len (.cut (.app 121 (.i (.v 1) .nil)) (.c 1) (.len (.app 121 (.i (.v 1) .nil)))))) (.len (.app 245 (.g (.lit 1 32) (.i (.c 0) .nil)))))) (.c 1)) false,
 .mk false (.app 228 (.g (.cat (.cat (.lit 1 60) (.cat (.cat (.lit 1 45) (.cut (.app 121 (.i (.v 1) .nil)) (.c 1) (.len (.app 121 (.i (.v 1) .nil))))) (.app 245 (.g (.lit 1 32) (.i (.c 0) .nil))))) (.lit 1 62)) .nil)) (.c 1) true,
 .mk true (.c 65536) (.bin 6 .i64 (.bin 6 .i64 (.c 1) (.bin 6 .i64 (.bin 6 .i64 (.c 1) (.len (.cut (.app 121 (.i (.v 1) .nil)) (.c 1) (.len (.app 121 (.i (.v 1) .nil)))))) (.len (.app 245 (.g (.lit 1 32) (.i (.c 0) .nil)))))) (.c 1)) false,
 .mk true (.c 1048576) (.bin 0 .i64 (.c (.ofNat (zi w))) (.bin 6 .i64 (.bin 6 .i64 (.c 1) (.bin 6 .i64 (.bin 6 .i64 (.c 1) (.len (.cut (.app 121 (.i (.v 1) .nil)) (.c 1) (.len (.app 121 (.i (.v 1) .nil)))))) (.len (.app 245 (.g (.lit 1 32) (.i (.c 0) .nil)))))) (.c 1))) false,
 .mk true (.bin 1 .i64 (.c (.ofNat w)) (.len (.app 121 (.i (.v 1) .nil)))) (.c 0) true,
 .mk true (.c 9223372036854775807) (.bin 6 .i64 (.len (.app 121 (.i (.v 1) .nil))) (.len (.app 245 (.g (.lit 1 32) (.i (.c 0) .nil))))) false,
 .mk true (.c 9223372036854775807) (.bin 6 .i64 (.c 1) (.bin 6 .i64 (.len (.app 121 (.i (.v 1) .nil))) (.len (.app 245 (.g (.lit 1 32) (.i (.c 0) .nil)))))) false,
 .mk true (.c 9223372036854775807) (.bin 6 .i64 (.bin 6 .i64 (.c 1) (.bin 6 .i64 (.len (.app 121 (.i (.v 1) .nil))) (.len (.app 245 (.g (.lit 1 32) (.i (.c 0) .nil)))))) (.c 1)) false,
 .mk false (.eqg (.cat (.cat (.lit 1 60) (.cat (.cat (.lit 1 45) (.cut (.app 121 (.i (.v 1) .nil)) (.c 1) (.len (.app 121 (.i (.v 1) .nil))))) (.app 245 (.g (.lit 1 32) (.i (.c 0) .nil))))) (.lit 1 62)) (.cat (.cat (.lit 1 60) (.cat (.app 121 (.i (.v 1) .nil)) (.app 245 (.g (.lit 1 32) (.i (.c 0) .nil))))) (.lit 1 62))) (.c 1) true]
def jk (w : Nat) : Bool := qj true false (fIn w ++ alk w) w
def alm (w : Nat) : List SA := [.mk false (.app 228 (.g (ww w) .nil)) (.c 1) true,
 .mk true (.len (.app 121 (.i (.v 1) .nil))) (.c 1) false,
 .mk false (.eqg (.cut (.app 121 (.i (.v 1) .nil)) (.c 0) (.c 1)) (.lit 1 45)) (.c 1) true,
 .mk true (.c 9223372036854775807) (.bin 6 .i64 (.c 1) (.len (.cut (.app 121 (.i (.v 1) .nil)) (.c 1) (.len (.app 121 (.i (.v 1) .nil)))))) false,
 .mk true (.c 20000) (.bin 6 .i64 (.c 1) (.len (.cut (.app 121 (.i (.v 1) .nil)) (.c 1) (.len (.app 121 (.i (.v 1) .nil)))))) false,
 .mk false (.app 228 (.g (.cat (.lit 1 45) (.cut (.app 121 (.i (.v 1) .nil)) (.c 1) (.len (.app 121 (.i (.v 1) .nil))))) .nil)) (.c 1) true,
 .mk true (.bin 1 .i64 (.c (.ofNat w)) (.bin 6 .i64 (.c 1) (.len (.cut (.app 121 (.i (.v 1) .nil)) (.c 1) (.len (.app 121 (.i (.v 1) .nil))))))) (.c 0) false,
 .mk true (.c 300) (.bin 1 .i64 (.c (.ofNat w)) (.bin 6 .i64 (.c 1) (.len (.cut (.app 121 (.i (.v 1) .nil)) (.c 1) (.len (.app 121 (.i (.v 1) .nil))))))) false,
 .mk true (.c 9223372036854775807) (.bin 6 .i64 (.bin 6 .i64 (.c 1) (.len (.cut (.app 121 (.i (.v 1) .nil)) (.c 1) (.len (.app 121 (.i (.v 1) .nil)))))) (.len (.app 245 (.g (.lit 1 32) (.i (.bin 1 .i64 (.c (.ofNat w)) (.bin 6 .i64 (.c 1) (.len (.cut (.app 121 (.i (.v 1) .nil)) (.c 1) (.len (.app 121 (.i (.v 1) .nil))))))) .nil))))) false,
 .mk true (.c 400000) (.bin 6 .i64 (.c 1) (.bin 6 .i64 (.bin 6 .i64 (.c 1) (.len (.cut (.app 121 (.i (.v 1) .nil)) (.c 1) (.len (.app 121 (.i (.v 1) .nil)))))) (.len (.app 245 (.g (.lit 1 32) (.i (.bin 1 .i64 (.c (.ofNat w)) (.bin 6 .i64 (.c 1) (.len (.cut (.app 121 (.i (.v 1) .nil)) (.c 1) (.len (.app 121 (.i (.v 1) .nil))))))) .nil)))))) false,
 .mk true (.c 262144) (.bin 6 .i64 (.c 1) (.bin 6 .i64 (.bin 6 .i64 (.c 1) (.len (.cut (.app 121 (.i (.v 1) .nil)) (.c 1) (.len (.app 121 (.i (.v 1) .nil)))))) (.len (.app 245 (.g (.lit 1 32) (.i (.bin 1 .i64 (.c (.ofNat w)) (.bin 6 .i64 (.c 1) (.len (.cut (.app 121 (.i (.v 1) .nil)) (.c 1) (.len (.app 121 (.i (.v 1) .nil))))))) .nil)))))) false,
 .mk true (.c 400000) (.bin 6 .i64 (.bin 6 .i64 (.c 1) (.bin 6 .i64 (.bin 6 .i64 (.c 1) (.len (.cut (.app 121 (.i (.v 1) .nil)) (.c 1) (.len (.app 121 (.i (.v 1) .nil)))))) (.len (.app 245 (.g (.lit 1 32) (.i (.bin 1 .i64 (.c (.ofNat w)) (.bin 6 .i64 (.c 1) (.len (.cut (.app 121 (.i (.v 1) .nil)) (.c 1) (.len (.app 121 (.i (.v 1) .nil))))))) .nil)))))) (.c 1)) false,
 .mk true (.c 0) (.bin 6 .i64 (.bin 6 .i64 (.c 1) (.bin 6 .i64 (.bin 6 .i64 (.c 1) (.len (.cut (.app 121 (.i (.v 1) .nil)) (.c 1) (.len (.app 121 (.i (.v 1) .nil)))))) (.len (.app 245 (.g (.lit 1 32) (.i (.bin 1 .i64 (.c (.ofNat w)) (.bin 6 .i64 (.c 1) (.len (.cut (.app 121 (.i (.v 1) .nil)) (.c 1) (.len (.app 121 (.i (.v 1) .nil))))))) .nil)))))) (.c 1)) true,
 .mk true (.c 20000) (.bin 6 .i64 (.bin 6 .i64 (.c 1) (.bin 6 .i64 (.bin 6 .i64 (.c 1) (.len (.cut (.app 121 (.i (.v 1) .nil)) (.c 1) (.len (.app 121 (.i (.v 1) .nil)))))) (.len (.app 245 (.g (.lit 1 32) (.i (.bin 1 .i64 (.c (.ofNat w)) (.bin 6 .i64 (.c 1) (.len (.cut (.app 121 (.i (.v 1) .nil)) (.c 1) (.len (.app 121 (.i (.v 1) .nil))))))) .nil)))))) (.c 1)) false,
 .mk false (.app 228 (.g (.cat (.cat (.lit 1 60) (.cat (.cat (.lit 1 45) (.cut (.app 121 (.i (.v 1) .nil)) (.c 1) (.len (.app 121 (.i (.v 1) .nil))))) (.app 245 (.g (.lit 1 32) (.i (.bin 1 .i64 (.c (.ofNat w)) (.bin 6 .i64 (.c 1) (.len (.cut (.app 121 (.i (.v 1) .nil)) (.c 1) (.len (.app 121 (.i (.v 1) .nil))))))) .nil))))) (.lit 1 62)) .nil)) (.c 1) true,
 .mk true (.c 65536) (.bin 6 .i64 (.bin 6 .i64 (.c 1) (.bin 6 .i64 (.bin 6 .i64 (.c 1) (.len (.cut (.app 121 (.i (.v 1) .nil)) (.c 1) (.len (.app 121 (.i (.v 1) .nil)))))) (.len (.app 245 (.g (.lit 1 32) (.i (.bin 1 .i64 (.c (.ofNat w)) (.bin 6 .i64 (.c 1) (.len (.cut (.app 121 (.i (.v 1) .nil)) (.c 1) (.len (.app 121 (.i (.v 1) .nil))))))) .nil)))))) (.c 1)) false,
 .mk true (.c 1048576) (.bin 0 .i64 (.c (.ofNat (zi w))) (.bin 6 .i64 (.bin 6 .i64 (.c 1) (.bin 6 .i64 (.bin 6 .i64 (.c 1) (.len (.cut (.app 121 (.i (.v 1) .nil)) (.c 1) (.len (.app 121 (.i (.v 1) .nil)))))) (.len (.app 245 (.g (.lit 1 32) (.i (.bin 1 .i64 (.c (.ofNat w)) (.bin 6 .i64 (.c 1) (.len (.cut (.app 121 (.i (.v 1) .nil)) (.c 1) (.len (.app 121 (.i (.v 1) .nil))))))) .nil)))))) (.c 1))) false,
 .mk true (.bin 1 .i64 (.c (.ofNat w)) (.len (.app 121 (.i (.v 1) .nil)))) (.c 0) false,
 .mk true (.c 300) (.bin 1 .i64 (.c (.ofNat w)) (.len (.app 121 (.i (.v 1) .nil)))) false,
 .mk true (.c 9223372036854775807) (.bin 6 .i64 (.len (.app 121 (.i (.v 1) .nil))) (.len (.app 245 (.g (.lit 1 32) (.i (.bin 1 .i64 (.c (.ofNat w)) (.len (.app 121 (.i (.v 1) .nil)))) .nil))))) false,
 .mk true (.c 9223372036854775807) (.bin 6 .i64 (.c 1) (.bin 6 .i64 (.len (.app 121 (.i (.v 1) .nil))) (.len (.app 245 (.g (.lit 1 32) (.i (.bin 1 .i64 (.c (.ofNat w)) (.len (.app 121 (.i (.v 1) .nil)))) .nil)))))) false,
 .mk true (.c 9223372036854775807) (.bin 6 .i64 (.bin 6 .i64 (.c 1) (.bin 6 .i64 (.len (.app 121 (.i (.v 1) .nil))) (.len (.app 245 (.g (.lit 1 32) (.i (.bin 1 .i64 (.c (.ofNat w)) (.len (.app 121 (.i (.v 1) .nil)))) .nil)))))) (.c 1)) false,
 .mk false (.eqg (.cat (.cat (.lit 1 60) (.cat (.cat (.lit 1 45) (.cut (.app 121 (.i (.v 1) .nil)) (.c 1) (.len (.app 121 (.i (.v 1) .nil))))) (.app 245 (.g (.lit 1 32) (.i (.bin 1 .i64 (.c (.ofNat w)) (.bin 6 .i64 (.c 1) (.len (.cut (.app 121 (.i (.v 1) .nil)) (.c 1) (.len (.app 121 (.i (.v 1) .nil))))))) .nil))))) (.lit 1 62)) (.cat (.cat (.lit 1 60) (.cat (.app 121 (.i (.v 1) .nil)) (.app 245 (.g (.lit 1 32) (.i (.bin 1 .i64 (.c (.ofNat w)) (.len (.app 121 (.i (.v 1) .nil)))) .nil))))) (.lit 1 62))) (.c 1) true]
def jl (w : Nat) : Bool := qj true false (fIn w ++ alm w) w
def aln (w : Nat) : List SA := [.mk false (.app 228 (.g (ww w) .nil)) (.c 1) true,
 .mk true (.len (.app 121 (.i (.v 1) .nil))) (.c 1) false,
 .mk false (.eqg (.cut (.app 121 (.i (.v 1) .nil)) (.c 0) (.c 1)) (.lit 1 45)) (.c 1) false,
 .mk true (.c 9223372036854775807) (.len (.app 121 (.i (.v 1) .nil))) false,
 .mk true (.c 20000) (.len (.app 121 (.i (.v 1) .nil))) false,
 .mk false (.app 228 (.g (.cat (.lit 0 0) (.app 121 (.i (.v 1) .nil))) .nil)) (.c 1) true,
 .mk true (.bin 1 .i64 (.c (.ofNat w)) (.len (.app 121 (.i (.v 1) .nil)))) (.c 0) true,
 .mk true (.c 9223372036854775807) (.bin 6 .i64 (.len (.app 121 (.i (.v 1) .nil))) (.len (.app 245 (.g (.lit 1 32) (.i (.c 0) .nil))))) false,
 .mk true (.c 400000) (.bin 6 .i64 (.c 1) (.bin 6 .i64 (.len (.app 121 (.i (.v 1) .nil))) (.len (.app 245 (.g (.lit 1 32) (.i (.c 0) .nil)))))) false,
 .mk true (.c 262144) (.bin 6 .i64 (.c 1) (.bin 6 .i64 (.len (.app 121 (.i (.v 1) .nil))) (.len (.app 245 (.g (.lit 1 32) (.i (.c 0) .nil)))))) false,
 .mk true (.c 400000) (.bin 6 .i64 (.bin 6 .i64 (.c 1) (.bin 6 .i64 (.len (.app 121 (.i (.v 1) .nil))) (.len (.app 245 (.g (.lit 1 32) (.i (.c 0) .nil)))))) (.c 1)) false,
 .mk true (.c 0) (.bin 6 .i64 (.bin 6 .i64 (.c 1) (.bin 6 .i64 (.len (.app 121 (.i (.v 1) .nil))) (.len (.app 245 (.g (.lit 1 32) (.i (.c 0) .nil)))))) (.c 1)) true,
 .mk true (.c 20000) (.bin 6 .i64 (.bin 6 .i64 (.c 1) (.bin 6 .i64 (.len (.app 121 (.i (.v 1) .nil))) (.len (.app 245 (.g (.lit 1 32) (.i (.c 0) .nil)))))) (.c 1)) false,
 .mk false (.app 228 (.g (.cat (.cat (.lit 1 60) (.cat (.cat (.lit 0 0) (.app 121 (.i (.v 1) .nil))) (.app 245 (.g (.lit 1 32) (.i (.c 0) .nil))))) (.lit 1 62)) .nil)) (.c 1) true,
 .mk true (.c 65536) (.bin 6 .i64 (.bin 6 .i64 (.c 1) (.bin 6 .i64 (.len (.app 121 (.i (.v 1) .nil))) (.len (.app 245 (.g (.lit 1 32) (.i (.c 0) .nil)))))) (.c 1)) false,
 .mk true (.c 1048576) (.bin 0 .i64 (.c (.ofNat (zi w))) (.bin 6 .i64 (.bin 6 .i64 (.c 1) (.bin 6 .i64 (.len (.app 121 (.i (.v 1) .nil))) (.len (.app 245 (.g (.lit 1 32) (.i (.c 0) .nil)))))) (.c 1))) false,
 .mk true (.c 9223372036854775807) (.bin 6 .i64 (.c 1) (.bin 6 .i64 (.len (.app 121 (.i (.v 1) .nil))) (.len (.app 245 (.g (.lit 1 32) (.i (.c 0) .nil)))))) false,
 .mk true (.c 9223372036854775807) (.bin 6 .i64 (.bin 6 .i64 (.c 1) (.bin 6 .i64 (.len (.app 121 (.i (.v 1) .nil))) (.len (.app 245 (.g (.lit 1 32) (.i (.c 0) .nil)))))) (.c 1)) false,
 .mk false (.eqg (.cat (.cat (.lit 1 60) (.cat (.cat (.lit 0 0) (.app 121 (.i (.v 1) .nil))) (.app 245 (.g (.lit 1 32) (.i (.c 0) .nil))))) (.lit 1 62)) (.cat (.cat (.lit 1 60) (.cat (.app 121 (.i (.v 1) .nil)) (.app 245 (.g (.lit 1 32) (.i (.c 0) .nil))))) (.lit 1 62))) (.c 1) true]
def jm (w : Nat) : Bool := qj true false (fIn w ++ aln w) w
def alo (w : Nat) : List SA := [.mk false (.app 228 (.g (ww w) .nil)) (.c 1) true,
 .mk true (.len (.app 121 (.i (.v 1) .nil))) (.c 1) false,
 .mk false (.eqg (.cut (.app 121 (.i (.v 1) .nil)) (.c 0) (.c 1)) (.lit 1 45)) (.c 1) false,
 .mk true (.c 9223372036854775807) (.len (.app 121 (.i (.v 1) .nil))) false,
 .mk true (.c 20000) (.len (.app 121 (.i (.v 1) .nil))) false,
 .mk false (.app 228 (.g (.cat (.lit 0 0) (.app 121 (.i (.v 1) .nil))) .nil)) (.c 1) true,
 .mk true (.bin 1 .i64 (.c (.ofNat w)) (.len (.app 121 (.i (.v 1) .nil)))) (.c 0) false,
 .mk true (.c 300) (.bin 1 .i64 (.c (.ofNat w)) (.len (.app 121 (.i (.v 1) .nil)))) false,
 .mk true (.c 9223372036854775807) (.bin 6 .i64 (.len (.app 121 (.i (.v 1) .nil))) (.len (.app 245 (.g (.lit 1 32) (.i (.bin 1 .i64 (.c (.ofNat w)) (.len (.app 121 (.i (.v 1) .nil)))) .nil))))) false,
 .mk true (.c 400000) (.bin 6 .i64 (.c 1) (.bin 6 .i64 (.len (.app 121 (.i (.v 1) .nil))) (.len (.app 245 (.g (.lit 1 32) (.i (.bin 1 .i64 (.c (.ofNat w)) (.len (.app 121 (.i (.v 1) .nil)))) .nil)))))) false,
 .mk true (.c 262144) (.bin 6 .i64 (.c 1) (.bin 6 .i64 (.len (.app 121 (.i (.v 1) .nil))) (.len (.app 245 (.g (.lit 1 32) (.i (.bin 1 .i64 (.c (.ofNat w)) (.len (.app 121 (.i (.v 1) .nil)))) .nil)))))) false,
 .mk true (.c 400000) (.bin 6 .i64 (.bin 6 .i64 (.c 1) (.bin 6 .i64 (.len (.app 121 (.i (.v 1) .nil))) (.len (.app 245 (.g (.lit 1 32) (.i (.bin 1 .i64 (.c (.ofNat w)) (.len (.app 121 (.i (.v 1) .nil)))) .nil)))))) (.c 1)) false,
 .mk true (.c 0) (.bin 6 .i64 (.bin 6 .i64 (.c 1) (.bin 6 .i64 (.len (.app 121 (.i (.v 1) .nil))) (.len (.app 245 (.g (.lit 1 32) (.i (.bin 1 .i64 (.c (.ofNat w)) (.len (.app 121 (.i (.v 1) .nil)))) .nil)))))) (.c 1)) true,
 .mk true (.c 20000) (.bin 6 .i64 (.bin 6 .i64 (.c 1) (.bin 6 .i64 (.len (.app 121 (.i (.v 1) .nil))) (.len (.app 245 (.g (.lit 1 32) (.i (.bin 1 .i64 (.c (.ofNat w)) (.len (.app 121 (.i (.v 1) .nil)))) .nil)))))) (.c 1)) false,
 .mk false (.app 228 (.g (.cat (.cat (.lit 1 60) (.cat (.cat (.lit 0 0) (.app 121 (.i (.v 1) .nil))) (.app 245 (.g (.lit 1 32) (.i (.bin 1 .i64 (.c (.ofNat w)) (.len (.app 121 (.i (.v 1) .nil)))) .nil))))) (.lit 1 62)) .nil)) (.c 1) true,
 .mk true (.c 65536) (.bin 6 .i64 (.bin 6 .i64 (.c 1) (.bin 6 .i64 (.len (.app 121 (.i (.v 1) .nil))) (.len (.app 245 (.g (.lit 1 32) (.i (.bin 1 .i64 (.c (.ofNat w)) (.len (.app 121 (.i (.v 1) .nil)))) .nil)))))) (.c 1)) false,
 .mk true (.c 1048576) (.bin 0 .i64 (.c (.ofNat (zi w))) (.bin 6 .i64 (.bin 6 .i64 (.c 1) (.bin 6 .i64 (.len (.app 121 (.i (.v 1) .nil))) (.len (.app 245 (.g (.lit 1 32) (.i (.bin 1 .i64 (.c (.ofNat w)) (.len (.app 121 (.i (.v 1) .nil)))) .nil)))))) (.c 1))) false,
 .mk true (.c 9223372036854775807) (.bin 6 .i64 (.c 1) (.bin 6 .i64 (.len (.app 121 (.i (.v 1) .nil))) (.len (.app 245 (.g (.lit 1 32) (.i (.bin 1 .i64 (.c (.ofNat w)) (.len (.app 121 (.i (.v 1) .nil)))) .nil)))))) false,
 .mk true (.c 9223372036854775807) (.bin 6 .i64 (.bin 6 .i64 (.c 1) (.bin 6 .i64 (.len (.app 121 (.i (.v 1) .nil))) (.len (.app 245 (.g (.lit 1 32) (.i (.bin 1 .i64 (.c (.ofNat w)) (.len (.app 121 (.i (.v 1) .nil)))) .nil)))))) (.c 1)) false,
 .mk false (.eqg (.cat (.cat (.lit 1 60) (.cat (.cat (.lit 0 0) (.app 121 (.i (.v 1) .nil))) (.app 245 (.g (.lit 1 32) (.i (.bin 1 .i64 (.c (.ofNat w)) (.len (.app 121 (.i (.v 1) .nil)))) .nil))))) (.lit 1 62)) (.cat (.cat (.lit 1 60) (.cat (.app 121 (.i (.v 1) .nil)) (.app 245 (.g (.lit 1 32) (.i (.bin 1 .i64 (.c (.ofNat w)) (.len (.app 121 (.i (.v 1) .nil)))) .nil))))) (.lit 1 62))) (.c 1) true]
def jn (w : Nat) : Bool := qj true false (fIn w ++ alo w) w
def zh (w : Nat) : Nat := (fSt 3941680 3 w).1
def wv (w : Nat) : GE := .lit (fSt 3941680 3 w).1 (fSt 3941680 3 w).2
def alg (w : Nat) : List SA := [.mk false (.app 228 (.g (wv w) .nil)) (.c 1) true,
 .mk true (.len (.app 121 (.i (.v 1) .nil))) (.c 1) false,
 .mk false (.eqg (.cut (.app 121 (.i (.v 1) .nil)) (.c 0) (.c 1)) (.lit 1 45)) (.c 1) true,
 .mk true (.c 9223372036854775807) (.bin 6 .i64 (.c 1) (.len (.cut (.app 121 (.i (.v 1) .nil)) (.c 1) (.len (.app 121 (.i (.v 1) .nil)))))) false,
 .mk true (.c 20000) (.bin 6 .i64 (.c 1) (.len (.cut (.app 121 (.i (.v 1) .nil)) (.c 1) (.len (.app 121 (.i (.v 1) .nil)))))) false,
 .mk false (.app 228 (.g (.cat (.lit 1 45) (.cut (.app 121 (.i (.v 1) .nil)) (.c 1) (.len (.app 121 (.i (.v 1) .nil))))) .nil)) (.c 1) true,
 .mk true (.bin 1 .i64 (.c (.ofNat w)) (.bin 6 .i64 (.c 1) (.len (.cut (.app 121 (.i (.v 1) .nil)) (.c 1) (.len (.app 121 (.i (.v 1) .nil))))))) (.c 0) true,
 .mk true (.c 9223372036854775807) (.bin 6 .i64 (.c 1) (.len (.app 245 (.g (.lit 1 48) (.i (.c 0) .nil))))) false,
 .mk true (.c 9223372036854775807) (.bin 6 .i64 (.bin 6 .i64 (.c 1) (.len (.app 245 (.g (.lit 1 48) (.i (.c 0) .nil))))) (.len (.cut (.app 121 (.i (.v 1) .nil)) (.c 1) (.len (.app 121 (.i (.v 1) .nil)))))) false,
 .mk true (.c 400000) (.bin 6 .i64 (.c 1) (.bin 6 .i64 (.bin 6 .i64 (.c 1) (.len (.app 245 (.g (.lit 1 48) (.i (.c 0) .nil))))) (.len (.cut (.app 121 (.i (.v 1) .nil)) (.c 1) (.len (.app 121 (.i (.v 1) .nil))))))) false,
 .mk true (.c 262144) (.bin 6 .i64 (.c 1) (.bin 6 .i64 (.bin 6 .i64 (.c 1) (.len (.app 245 (.g (.lit 1 48) (.i (.c 0) .nil))))) (.len (.cut (.app 121 (.i (.v 1) .nil)) (.c 1) (.len (.app 121 (.i (.v 1) .nil))))))) false,
 .mk true (.c 400000) (.bin 6 .i64 (.bin 6 .i64 (.c 1) (.bin 6 .i64 (.bin 6 .i64 (.c 1) (.len (.app 245 (.g (.lit 1 48) (.i (.c 0) .nil))))) (.len (.cut (.app 121 (.i (.v 1) .nil)) (.c 1) (.len (.app 121 (.i (.v 1) .nil))))))) (.c 1)) false,
 .mk true (.c 0) (.bin 6 .i64 (.bin 6 .i64 (.c 1) (.bin 6 .i64 (.bin 6 .i64 (.c 1) (.len (.app 245 (.g (.lit 1 48) (.i (.c 0) .nil))))) (.len (.cut (.app 121 (.i (.v 1) .nil)) (.c 1) (.len (.app 121 (.i (.v 1) .nil))))))) (.c 1)) true,
 .mk true (.c 20000) (.bin 6 .i64 (.bin 6 .i64 (.c 1) (.bin 6 .i64 (.bin 6 .i64 (.c 1) (.len (.app 245 (.g (.lit 1 48) (.i (.c 0) .nil))))) (.len (.cut (.app 121 (.i (.v 1) .nil)) (.c 1) (.len (.app 121 (.i (.v 1) .nil))))))) (.c 1)) false,
 .mk false (.app 228 (.g (.cat (.cat (.lit 1 60) (.cat (.cat (.lit 1 45) (.app 245 (.g (.lit 1 48) (.i (.c 0) .nil)))) (.cut (.app 121 (.i (.v 1) .nil)) (.c 1) (.len (.app 121 (.i (.v 1) .nil)))))) (.lit 1 62)) .nil)) (.c 1) true,
 .mk true (.c 65536) (.bin 6 .i64 (.bin 6 .i64 (.c 1) (.bin 6 .i64 (.bin 6 .i64 (.c 1) (.len (.app 245 (.g (.lit 1 48) (.i (.c 0) .nil))))) (.len (.cut (.app 121 (.i (.v 1) .nil)) (.c 1) (.len (.app 121 (.i (.v 1) .nil))))))) (.c 1)) false,
 .mk true (.c 1048576) (.bin 0 .i64 (.c (.ofNat (zh w))) (.bin 6 .i64 (.bin 6 .i64 (.c 1) (.bin 6 .i64 (.bin 6 .i64 (.c 1) (.len (.app 245 (.g (.lit 1 48) (.i (.c 0) .nil))))) (.len (.cut (.app 121 (.i (.v 1) .nil)) (.c 1) (.len (.app 121 (.i (.v 1) .nil))))))) (.c 1))) false,
 .mk true (.bin 1 .i64 (.c (.ofNat w)) (.len (.app 121 (.i (.v 1) .nil)))) (.c 0) true,
 .mk true (.v 1) (.c 0) true,
 .mk true (.c 9223372036854775807) (.bin 6 .i64 (.c 1) (.bin 6 .i64 (.bin 6 .i64 (.c 1) (.len (.app 245 (.g (.lit 1 48) (.i (.c 0) .nil))))) (.len (.cut (.app 121 (.i (.v 1) .nil)) (.c 1) (.len (.app 121 (.i (.v 1) .nil))))))) false,
 .mk true (.c 9223372036854775807) (.bin 6 .i64 (.bin 6 .i64 (.c 1) (.bin 6 .i64 (.bin 6 .i64 (.c 1) (.len (.app 245 (.g (.lit 1 48) (.i (.c 0) .nil))))) (.len (.cut (.app 121 (.i (.v 1) .nil)) (.c 1) (.len (.app 121 (.i (.v 1) .nil))))))) (.c 1)) false,
 .mk false (.eqg (.cat (.cat (.lit 1 60) (.cat (.cat (.lit 1 45) (.app 245 (.g (.lit 1 48) (.i (.c 0) .nil)))) (.cut (.app 121 (.i (.v 1) .nil)) (.c 1) (.len (.app 121 (.i (.v 1) .nil)))))) (.lit 1 62)) (.cat (.cat (.lit 1 60) (.cat (.cat (.lit 1 45) (.app 245 (.g (.lit 1 48) (.i (.c 0) .nil)))) (.cut (.app 121 (.i (.v 1) .nil)) (.c 1) (.len (.app 121 (.i (.v 1) .nil)))))) (.lit 1 62))) (.c 1) true]
def jg (w : Nat) : Bool := qj false true (fIn w ++ alg w) w
def alh (w : Nat) : List SA := [.mk false (.app 228 (.g (wv w) .nil)) (.c 1) true,
 .mk true (.len (.app 121 (.i (.v 1) .nil))) (.c 1) false,
 .mk false (.eqg (.cut (.app 121 (.i (.v 1) .nil)) (.c 0) (.c 1)) (.lit 1 45)) (.c 1) true,
 .mk true (.c 9223372036854775807) (.bin 6 .i64 (.c 1) (.len (.cut (.app 121 (.i (.v 1) .nil)) (.c 1) (.len (.app 121 (.i (.v 1) .nil)))))) false,
 .mk true (.c 20000) (.bin 6 .i64 (.c 1) (.len (.cut (.app 121 (.i (.v 1) .nil)) (.c 1) (.len (.app 121 (.i (.v 1) .nil)))))) false,
 .mk false (.app 228 (.g (.cat (.lit 1 45) (.cut (.app 121 (.i (.v 1) .nil)) (.c 1) (.len (.app 121 (.i (.v 1) .nil))))) .nil)) (.c 1) true,
 .mk true (.bin 1 .i64 (.c (.ofNat w)) (.bin 6 .i64 (.c 1) (.len (.cut (.app 121 (.i (.v 1) .nil)) (.c 1) (.len (.app 121 (.i (.v 1) .nil))))))) (.c 0) false,
 .mk true (.c 300) (.bin 1 .i64 (.c (.ofNat w)) (.bin 6 .i64 (.c 1) (.len (.cut (.app 121 (.i (.v 1) .nil)) (.c 1) (.len (.app 121 (.i (.v 1) .nil))))))) false,
 .mk true (.c 9223372036854775807) (.bin 6 .i64 (.c 1) (.len (.app 245 (.g (.lit 1 48) (.i (.bin 1 .i64 (.c (.ofNat w)) (.bin 6 .i64 (.c 1) (.len (.cut (.app 121 (.i (.v 1) .nil)) (.c 1) (.len (.app 121 (.i (.v 1) .nil))))))) .nil))))) false,
 .mk true (.c 9223372036854775807) (.bin 6 .i64 (.bin 6 .i64 (.c 1) (.len (.app 245 (.g (.lit 1 48) (.i (.bin 1 .i64 (.c (.ofNat w)) (.bin 6 .i64 (.c 1) (.len (.cut (.app 121 (.i (.v 1) .nil)) (.c 1) (.len (.app 121 (.i (.v 1) .nil))))))) .nil))))) (.len (.cut (.app 121 (.i (.v 1) .nil)) (.c 1) (.len (.app 121 (.i (.v 1) .nil)))))) false,
 .mk true (.c 400000) (.bin 6 .i64 (.c 1) (.bin 6 .i64 (.bin 6 .i64 (.c 1) (.len (.app 245 (.g (.lit 1 48) (.i (.bin 1 .i64 (.c (.ofNat w)) (.bin 6 .i64 (.c 1) (.len (.cut (.app 121 (.i (.v 1) .nil)) (.c 1) (.len (.app 121 (.i (.v 1) .nil))))))) .nil))))) (.len (.cut (.app 121 (.i (.v 1) .nil)) (.c 1) (.len (.app 121 (.i (.v 1) .nil))))))) false,
 .mk true (.c 262144) (.bin 6 .i64 (.c 1) (.bin 6 .i64 (.bin 6 .i64 (.c 1) (.len (.app 245 (.g (.lit 1 48) (.i (.bin 1 .i64 (.c (.ofNat w)) (.bin 6 .i64 (.c 1) (.len (.cut (.app 121 (.i (.v 1) .nil)) (.c 1) (.len (.app 121 (.i (.v 1) .nil))))))) .nil))))) (.len (.cut (.app 121 (.i (.v 1) .nil)) (.c 1) (.len (.app 121 (.i (.v 1) .nil))))))) false,
 .mk true (.c 400000) (.bin 6 .i64 (.bin 6 .i64 (.c 1) (.bin 6 .i64 (.bin 6 .i64 (.c 1) (.len (.app 245 (.g (.lit 1 48) (.i (.bin 1 .i64 (.c (.ofNat w)) (.bin 6 .i64 (.c 1) (.len (.cut (.app 121 (.i (.v 1) .nil)) (.c 1) (.len (.app 121 (.i (.v 1) .nil))))))) .nil))))) (.len (.cut (.app 121 (.i (.v 1) .nil)) (.c 1) (.len (.app 121 (.i (.v 1) .nil))))))) (.c 1)) false,
 .mk true (.c 0) (.bin 6 .i64 (.bin 6 .i64 (.c 1) (.bin 6 .i64 (.bin 6 .i64 (.c 1) (.len (.app 245 (.g (.lit 1 48) (.i (.bin 1 .i64 (.c (.ofNat w)) (.bin 6 .i64 (.c 1) (.len (.cut (.app 121 (.i (.v 1) .nil)) (.c 1) (.len (.app 121 (.i (.v 1) .nil))))))) .nil))))) (.len (.cut (.app 121 (.i (.v 1) .nil)) (.c 1) (.len (.app 121 (.i (.v 1) .nil))))))) (.c 1)) true,
 .mk true (.c 20000) (.bin 6 .i64 (.bin 6 .i64 (.c 1) (.bin 6 .i64 (.bin 6 .i64 (.c 1) (.len (.app 245 (.g (.lit 1 48) (.i (.bin 1 .i64 (.c (.ofNat w)) (.bin 6 .i64 (.c 1) (.len (.cut (.app 121 (.i (.v 1) .nil)) (.c 1) (.len (.app 121 (.i (.v 1) .nil))))))) .nil))))) (.len (.cut (.app 121 (.i (.v 1) .nil)) (.c 1) (.len (.app 121 (.i (.v 1) .nil))))))) (.c 1)) false,
 .mk false (.app 228 (.g (.cat (.cat (.lit 1 60) (.cat (.cat (.lit 1 45) (.app 245 (.g (.lit 1 48) (.i (.bin 1 .i64 (.c (.ofNat w)) (.bin 6 .i64 (.c 1) (.len (.cut (.app 121 (.i (.v 1) .nil)) (.c 1) (.len (.app 121 (.i (.v 1) .nil))))))) .nil)))) (.cut (.app 121 (.i (.v 1) .nil)) (.c 1) (.len (.app 121 (.i (.v 1) .nil)))))) (.lit 1 62)) .nil)) (.c 1) true,
 .mk true (.c 65536) (.bin 6 .i64 (.bin 6 .i64 (.c 1) (.bin 6 .i64 (.bin 6 .i64 (.c 1) (.len (.app 245 (.g (.lit 1 48) (.i (.bin 1 .i64 (.c (.ofNat w)) (.bin 6 .i64 (.c 1) (.len (.cut (.app 121 (.i (.v 1) .nil)) (.c 1) (.len (.app 121 (.i (.v 1) .nil))))))) .nil))))) (.len (.cut (.app 121 (.i (.v 1) .nil)) (.c 1) (.len (.app 121 (.i (.v 1) .nil))))))) (.c 1)) false,
 .mk true (.c 1048576) (.bin 0 .i64 (.c (.ofNat (zh w))) (.bin 6 .i64 (.bin 6 .i64 (.c 1) (.bin 6 .i64 (.bin 6 .i64 (.c 1) (.len (.app 245 (.g (.lit 1 48) (.i (.bin 1 .i64 (.c (.ofNat w)) (.bin 6 .i64 (.c 1) (.len (.cut (.app 121 (.i (.v 1) .nil)) (.c 1) (.len (.app 121 (.i (.v 1) .nil))))))) .nil))))) (.len (.cut (.app 121 (.i (.v 1) .nil)) (.c 1) (.len (.app 121 (.i (.v 1) .nil))))))) (.c 1))) false,
 .mk true (.bin 1 .i64 (.c (.ofNat w)) (.len (.app 121 (.i (.v 1) .nil)))) (.c 0) false,
 .mk true (.v 1) (.c 0) true,
 .mk true (.c 300) (.bin 1 .i64 (.c (.ofNat w)) (.len (.app 121 (.i (.v 1) .nil)))) false,
 .mk true (.c 9223372036854775807) (.bin 6 .i64 (.c 1) (.len (.app 245 (.g (.lit 1 48) (.i (.bin 1 .i64 (.c (.ofNat w)) (.len (.app 121 (.i (.v 1) .nil)))) .nil))))) false,
 .mk true (.c 9223372036854775807) (.bin 6 .i64 (.bin 6 .i64 (.c 1) (.len (.app 245 (.g (.lit 1 48) (.i (.bin 1 .i64 (.c (.ofNat w)) (.len (.app 121 (.i (.v 1) .nil)))) .nil))))) (.len (.cut (.app 121 (.i (.v 1) .nil)) (.c 1) (.len (.app 121 (.i (.v 1) .nil)))))) false,
 .mk true (.c 9223372036854775807) (.bin 6 .i64 (.c 1) (.bin 6 .i64 (.bin 6 .i64 (.c 1) (.len (.app 245 (.g (.lit 1 48) (.i (.bin 1 .i64 (.c (.ofNat w)) (.len (.app 121 (.i (.v 1) .nil)))) .nil))))) (.len (.cut (.app 121 (.i (.v 1) .nil)) (.c 1) (.len (.app 121 (.i (.v 1) .nil))))))) false,
 .mk true (.c 9223372036854775807) (.bin 6 .i64 (.bin 6 .i64 (.c 1) (.bin 6 .i64 (.bin 6 .i64 (.c 1) (.len (.app 245 (.g (.lit 1 48) (.i (.bin 1 .i64 (.c (.ofNat w)) (.len (.app 121 (.i (.v 1) .nil)))) .nil))))) (.len (.cut (.app 121 (.i (.v 1) .nil)) (.c 1) (.len (.app 121 (.i (.v 1) .nil))))))) (.c 1)) false,
 .mk false (.eqg (.cat (.cat (.lit 1 60) (.cat (.cat (.lit 1 45) (.app 245 (.g (.lit 1 48) (.i (.bin 1 .i64 (.c (.ofNat w)) (.bin 6 .i64 (.c 1) (.len (.cut (.app 121 (.i (.v 1) .nil)) (.c 1) (.len (.app 121 (.i (.v 1) .nil))))))) .nil)))) (.cut (.app 121 (.i (.v 1) .nil)) (.c 1) (.len (.app 121 (.i (.v 1) .nil)))))) (.lit 1 62)) (.cat (.cat (.lit 1 60) (.cat (.cat (.lit 1 45) (.app 245 (.g (.lit 1 48) (.i (.bin 1 .i64 (.c (.ofNat w)) (.len (.app 121 (.i (.v 1) .nil)))) .nil)))) (.cut (.app 121 (.i (.v 1) .nil)) (.c 1) (.len (.app 121 (.i (.v 1) .nil)))))) (.lit 1 62))) (.c 1) true]
def jh (w : Nat) : Bool := qj false true (fIn w ++ alh w) w
def ali (w : Nat) : List SA := [.mk false (.app 228 (.g (wv w) .nil)) (.c 1) true,
 .mk true (.len (.app 121 (.i (.v 1) .nil))) (.c 1) false,
 .mk false (.eqg (.cut (.app 121 (.i (.v 1) .nil)) (.c 0) (.c 1)) (.lit 1 45)) (.c 1) false,
 .mk true (.c 9223372036854775807) (.len (.app 121 (.i (.v 1) .nil))) false,
 .mk true (.c 20000) (.len (.app 121 (.i (.v 1) .nil))) false,
 .mk false (.app 228 (.g (.cat (.lit 0 0) (.app 121 (.i (.v 1) .nil))) .nil)) (.c 1) true,
 .mk true (.bin 1 .i64 (.c (.ofNat w)) (.len (.app 121 (.i (.v 1) .nil)))) (.c 0) true,
 .mk true (.c 9223372036854775807) (.len (.app 245 (.g (.lit 1 48) (.i (.c 0) .nil)))) false,
 .mk true (.c 9223372036854775807) (.bin 6 .i64 (.len (.app 245 (.g (.lit 1 48) (.i (.c 0) .nil)))) (.len (.app 121 (.i (.v 1) .nil)))) false,
 .mk true (.c 400000) (.bin 6 .i64 (.c 1) (.bin 6 .i64 (.len (.app 245 (.g (.lit 1 48) (.i (.c 0) .nil)))) (.len (.app 121 (.i (.v 1) .nil))))) false,
 .mk true (.c 262144) (.bin 6 .i64 (.c 1) (.bin 6 .i64 (.len (.app 245 (.g (.lit 1 48) (.i (.c 0) .nil)))) (.len (.app 121 (.i (.v 1) .nil))))) false,
 .mk true (.c 400000) (.bin 6 .i64 (.bin 6 .i64 (.c 1) (.bin 6 .i64 (.len (.app 245 (.g (.lit 1 48) (.i (.c 0) .nil)))) (.len (.app 121 (.i (.v 1) .nil))))) (.c 1)) false,
 .mk true (.c 0) (.bin 6 .i64 (.bin 6 .i64 (.c 1) (.bin 6 .i64 (.len (.app 245 (.g (.lit 1 48) (.i (.c 0) .nil)))) (.len (.app 121 (.i (.v 1) .nil))))) (.c 1)) true,
 .mk true (.c 20000) (.bin 6 .i64 (.bin 6 .i64 (.c 1) (.bin 6 .i64 (.len (.app 245 (.g (.lit 1 48) (.i (.c 0) .nil)))) (.len (.app 121 (.i (.v 1) .nil))))) (.c 1)) false,
 .mk false (.app 228 (.g (.cat (.cat (.lit 1 60) (.cat (.cat (.lit 0 0) (.app 245 (.g (.lit 1 48) (.i (.c 0) .nil)))) (.app 121 (.i (.v 1) .nil)))) (.lit 1 62)) .nil)) (.c 1) true,
 .mk true (.c 65536) (.bin 6 .i64 (.bin 6 .i64 (.c 1) (.bin 6 .i64 (.len (.app 245 (.g (.lit 1 48) (.i (.c 0) .nil)))) (.len (.app 121 (.i (.v 1) .nil))))) (.c 1)) false,
 .mk true (.c 1048576) (.bin 0 .i64 (.c (.ofNat (zh w))) (.bin 6 .i64 (.bin 6 .i64 (.c 1) (.bin 6 .i64 (.len (.app 245 (.g (.lit 1 48) (.i (.c 0) .nil)))) (.len (.app 121 (.i (.v 1) .nil))))) (.c 1))) false,
 .mk true (.v 1) (.c 0) false,
 .mk true (.c 9223372036854775807) (.bin 6 .i64 (.c 1) (.bin 6 .i64 (.len (.app 245 (.g (.lit 1 48) (.i (.c 0) .nil)))) (.len (.app 121 (.i (.v 1) .nil))))) false,
 .mk true (.c 9223372036854775807) (.bin 6 .i64 (.bin 6 .i64 (.c 1) (.bin 6 .i64 (.len (.app 245 (.g (.lit 1 48) (.i (.c 0) .nil)))) (.len (.app 121 (.i (.v 1) .nil))))) (.c 1)) false,
 .mk false (.eqg (.cat (.cat (.lit 1 60) (.cat (.cat (.lit 0 0) (.app 245 (.g (.lit 1 48) (.i (.c 0) .nil)))) (.app 121 (.i (.v 1) .nil)))) (.lit 1 62)) (.cat (.cat (.lit 1 60) (.cat (.app 245 (.g (.lit 1 48) (.i (.c 0) .nil))) (.app 121 (.i (.v 1) .nil)))) (.lit 1 62))) (.c 1) true]
def ji (w : Nat) : Bool := qj false true (fIn w ++ ali w) w
def alj (w : Nat) : List SA := [.mk false (.app 228 (.g (wv w) .nil)) (.c 1) true,
 .mk true (.len (.app 121 (.i (.v 1) .nil))) (.c 1) false,
 .mk false (.eqg (.cut (.app 121 (.i (.v 1) .nil)) (.c 0) (.c 1)) (.lit 1 45)) (.c 1) false,
 .mk true (.c 9223372036854775807) (.len (.app 121 (.i (.v 1) .nil))) false,
 .mk true (.c 20000) (.len (.app 121 (.i (.v 1) .nil))) false,
 .mk false (.app 228 (.g (.cat (.lit 0 0) (.app 121 (.i (.v 1) .nil))) .nil)) (.c 1) true,
 .mk true (.bin 1 .i64 (.c (.ofNat w)) (.len (.app 121 (.i (.v 1) .nil)))) (.c 0) false,
 .mk true (.c 300) (.bin 1 .i64 (.c (.ofNat w)) (.len (.app 121 (.i (.v 1) .nil)))) false,
 .mk true (.c 9223372036854775807) (.len (.app 245 (.g (.lit 1 48) (.i (.bin 1 .i64 (.c (.ofNat w)) (.len (.app 121 (.i (.v 1) .nil)))) .nil)))) false,
 .mk true (.c 9223372036854775807) (.bin 6 .i64 (.len (.app 245 (.g (.lit 1 48) (.i (.bin 1 .i64 (.c (.ofNat w)) (.len (.app 121 (.i (.v 1) .nil)))) .nil)))) (.len (.app 121 (.i (.v 1) .nil)))) false,
 .mk true (.c 400000) (.bin 6 .i64 (.c 1) (.bin 6 .i64 (.len (.app 245 (.g (.lit 1 48) (.i (.bin 1 .i64 (.c (.ofNat w)) (.len (.app 121 (.i (.v 1) .nil)))) .nil)))) (.len (.app 121 (.i (.v 1) .nil))))) false,
 .mk true (.c 262144) (.bin 6 .i64 (.c 1) (.bin 6 .i64 (.len (.app 245 (.g (.lit 1 48) (.i (.bin 1 .i64 (.c (.ofNat w)) (.len (.app 121 (.i (.v 1) .nil)))) .nil)))) (.len (.app 121 (.i (.v 1) .nil))))) false,
 .mk true (.c 400000) (.bin 6 .i64 (.bin 6 .i64 (.c 1) (.bin 6 .i64 (.len (.app 245 (.g (.lit 1 48) (.i (.bin 1 .i64 (.c (.ofNat w)) (.len (.app 121 (.i (.v 1) .nil)))) .nil)))) (.len (.app 121 (.i (.v 1) .nil))))) (.c 1)) false,
 .mk true (.c 0) (.bin 6 .i64 (.bin 6 .i64 (.c 1) (.bin 6 .i64 (.len (.app 245 (.g (.lit 1 48) (.i (.bin 1 .i64 (.c (.ofNat w)) (.len (.app 121 (.i (.v 1) .nil)))) .nil)))) (.len (.app 121 (.i (.v 1) .nil))))) (.c 1)) true,
 .mk true (.c 20000) (.bin 6 .i64 (.bin 6 .i64 (.c 1) (.bin 6 .i64 (.len (.app 245 (.g (.lit 1 48) (.i (.bin 1 .i64 (.c (.ofNat w)) (.len (.app 121 (.i (.v 1) .nil)))) .nil)))) (.len (.app 121 (.i (.v 1) .nil))))) (.c 1)) false,
 .mk false (.app 228 (.g (.cat (.cat (.lit 1 60) (.cat (.cat (.lit 0 0) (.app 245 (.g (.lit 1 48) (.i (.bin 1 .i64 (.c (.ofNat w)) (.len (.app 121 (.i (.v 1) .nil)))) .nil)))) (.app 121 (.i (.v 1) .nil)))) (.lit 1 62)) .nil)) (.c 1) true,
 .mk true (.c 65536) (.bin 6 .i64 (.bin 6 .i64 (.c 1) (.bin 6 .i64 (.len (.app 245 (.g (.lit 1 48) (.i (.bin 1 .i64 (.c (.ofNat w)) (.len (.app 121 (.i (.v 1) .nil)))) .nil)))) (.len (.app 121 (.i (.v 1) .nil))))) (.c 1)) false,
 .mk true (.c 1048576) (.bin 0 .i64 (.c (.ofNat (zh w))) (.bin 6 .i64 (.bin 6 .i64 (.c 1) (.bin 6 .i64 (.len (.app 245 (.g (.lit 1 48) (.i (.bin 1 .i64 (.c (.ofNat w)) (.len (.app 121 (.i (.v 1) .nil)))) .nil)))) (.len (.app 121 (.i (.v 1) .nil))))) (.c 1))) false,
 .mk true (.v 1) (.c 0) false,
 .mk true (.c 9223372036854775807) (.bin 6 .i64 (.c 1) (.bin 6 .i64 (.len (.app 245 (.g (.lit 1 48) (.i (.bin 1 .i64 (.c (.ofNat w)) (.len (.app 121 (.i (.v 1) .nil)))) .nil)))) (.len (.app 121 (.i (.v 1) .nil))))) false,
 .mk true (.c 9223372036854775807) (.bin 6 .i64 (.bin 6 .i64 (.c 1) (.bin 6 .i64 (.len (.app 245 (.g (.lit 1 48) (.i (.bin 1 .i64 (.c (.ofNat w)) (.len (.app 121 (.i (.v 1) .nil)))) .nil)))) (.len (.app 121 (.i (.v 1) .nil))))) (.c 1)) false,
 .mk false (.eqg (.cat (.cat (.lit 1 60) (.cat (.cat (.lit 0 0) (.app 245 (.g (.lit 1 48) (.i (.bin 1 .i64 (.c (.ofNat w)) (.len (.app 121 (.i (.v 1) .nil)))) .nil)))) (.app 121 (.i (.v 1) .nil)))) (.lit 1 62)) (.cat (.cat (.lit 1 60) (.cat (.app 245 (.g (.lit 1 48) (.i (.bin 1 .i64 (.c (.ofNat w)) (.len (.app 121 (.i (.v 1) .nil)))) .nil))) (.app 121 (.i (.v 1) .nil)))) (.lit 1 62))) (.c 1) true]
def jj (w : Nat) : Bool := qj false true (fIn w ++ alj w) w
def zj (w : Nat) : Nat := (fSt 1009069360 4 w).1
def wx (w : Nat) : GE := .lit (fSt 1009069360 4 w).1 (fSt 1009069360 4 w).2
def alp (w : Nat) : List SA := [.mk false (.app 228 (.g (wx w) .nil)) (.c 1) true,
 .mk true (.len (.app 121 (.i (.v 1) .nil))) (.c 1) false,
 .mk false (.eqg (.cut (.app 121 (.i (.v 1) .nil)) (.c 0) (.c 1)) (.lit 1 45)) (.c 1) true,
 .mk true (.c 9223372036854775807) (.bin 6 .i64 (.c 1) (.len (.cut (.app 121 (.i (.v 1) .nil)) (.c 1) (.len (.app 121 (.i (.v 1) .nil)))))) false,
 .mk true (.c 20000) (.bin 6 .i64 (.c 1) (.len (.cut (.app 121 (.i (.v 1) .nil)) (.c 1) (.len (.app 121 (.i (.v 1) .nil)))))) false,
 .mk false (.app 228 (.g (.cat (.lit 1 45) (.cut (.app 121 (.i (.v 1) .nil)) (.c 1) (.len (.app 121 (.i (.v 1) .nil))))) .nil)) (.c 1) true,
 .mk true (.bin 1 .i64 (.c (.ofNat w)) (.bin 6 .i64 (.c 1) (.len (.cut (.app 121 (.i (.v 1) .nil)) (.c 1) (.len (.app 121 (.i (.v 1) .nil))))))) (.c 0) true,
 .mk true (.c 9223372036854775807) (.bin 6 .i64 (.bin 6 .i64 (.c 1) (.len (.cut (.app 121 (.i (.v 1) .nil)) (.c 1) (.len (.app 121 (.i (.v 1) .nil)))))) (.len (.app 245 (.g (.lit 1 32) (.i (.c 0) .nil))))) false,
 .mk true (.c 400000) (.bin 6 .i64 (.c 1) (.bin 6 .i64 (.bin 6 .i64 (.c 1) (.len (.cut (.app 121 (.i (.v 1) .nil)) (.c 1) (.len (.app 121 (.i (.v 1) .nil)))))) (.len (.app 245 (.g (.lit 1 32) (.i (.c 0) .nil)))))) false,
 .mk true (.c 262144) (.bin 6 .i64 (.c 1) (.bin 6 .i64 (.bin 6 .i64 (.c 1) (.len (.cut (.app 121 (.i (.v 1) .nil)) (.c 1) (.len (.app 121 (.i (.v 1) .nil)))))) (.len (.app 245 (.g (.lit 1 32) (.i (.c 0) .nil)))))) false,
 .mk true (.c 400000) (.bin 6 .i64 (.bin 6 .i64 (.c 1) (.bin 6 .i64 (.bin 6 .i64 (.c 1) (.len (.cut (.app 121 (.i (.v 1) .nil)) (.c 1) (.len (.app 121 (.i (.v 1) .nil)))))) (.len (.app 245 (.g (.lit 1 32) (.i (.c 0) .nil)))))) (.c 1)) false,
 .mk true (.c 0) (.bin 6 .i64 (.bin 6 .i64 (.c 1) (.bin 6 .i64 (.bin 6 .i64 (.c 1) (.len (.cut (.app 121 (.i (.v 1) .nil)) (.c 1) (.len (.app 121 (.i (.v 1) .nil)))))) (.len (.app 245 (.g (.lit 1 32) (.i (.c 0) .nil)))))) (.c 1)) true,
 .mk true (.c 20000) (.bin 6 .i64 (.bin 6 .i64 (.c 1) (.bin 6 .i64 (.bin 6 .i64 (.c 1) (.len (.cut (.app 121 (.i (.v 1) .nil)) (.c 1) (.len (.app 121 (.i (.v 1) .nil)))))) (.len (.app 245 (.g (.lit 1 32) (.i (.c 0) .nil)))))) (.c 1)) false,
 .mk false (.app 228 (.g (.cat (.cat (.lit 1 60) (.cat (.cat (.lit 1 45) (.cut (.app 121 (.i (.v 1) .nil)) (.c 1) (.len (.app 121 (.i (.v 1) .nil))))) (.app 245 (.g (.lit 1 32) (.i (.c 0) .nil))))) (.lit 1 62)) .nil)) (.c 1) true,
 .mk true (.c 65536) (.bin 6 .i64 (.bin 6 .i64 (.c 1) (.bin 6 .i64 (.bin 6 .i64 (.c 1) (.len (.cut (.app 121 (.i (.v 1) .nil)) (.c 1) (.len (.app 121 (.i (.v 1) .nil)))))) (.len (.app 245 (.g (.lit 1 32) (.i (.c 0) .nil)))))) (.c 1)) false,
 .mk true (.c 1048576) (.bin 0 .i64 (.c (.ofNat (zj w))) (.bin 6 .i64 (.bin 6 .i64 (.c 1) (.bin 6 .i64 (.bin 6 .i64 (.c 1) (.len (.cut (.app 121 (.i (.v 1) .nil)) (.c 1) (.len (.app 121 (.i (.v 1) .nil)))))) (.len (.app 245 (.g (.lit 1 32) (.i (.c 0) .nil)))))) (.c 1))) false,
 .mk true (.bin 1 .i64 (.c (.ofNat w)) (.len (.app 121 (.i (.v 1) .nil)))) (.c 0) true,
 .mk true (.c 9223372036854775807) (.bin 6 .i64 (.len (.app 121 (.i (.v 1) .nil))) (.len (.app 245 (.g (.lit 1 32) (.i (.c 0) .nil))))) false,
 .mk true (.c 9223372036854775807) (.bin 6 .i64 (.c 1) (.bin 6 .i64 (.len (.app 121 (.i (.v 1) .nil))) (.len (.app 245 (.g (.lit 1 32) (.i (.c 0) .nil)))))) false,
 .mk true (.c 9223372036854775807) (.bin 6 .i64 (.bin 6 .i64 (.c 1) (.bin 6 .i64 (.len (.app 121 (.i (.v 1) .nil))) (.len (.app 245 (.g (.lit 1 32) (.i (.c 0) .nil)))))) (.c 1)) false,
 .mk false (.eqg (.cat (.cat (.lit 1 60) (.cat (.cat (.lit 1 45) (.cut (.app 121 (.i (.v 1) .nil)) (.c 1) (.len (.app 121 (.i (.v 1) .nil))))) (.app 245 (.g (.lit 1 32) (.i (.c 0) .nil))))) (.lit 1 62)) (.cat (.cat (.lit 1 60) (.cat (.app 121 (.i (.v 1) .nil)) (.app 245 (.g (.lit 1 32) (.i (.c 0) .nil))))) (.lit 1 62))) (.c 1) true]
def jo (w : Nat) : Bool := qj true true (fIn w ++ alp w) w
def alq (w : Nat) : List SA := [.mk false (.app 228 (.g (wx w) .nil)) (.c 1) true,
 .mk true (.len (.app 121 (.i (.v 1) .nil))) (.c 1) false,
 .mk false (.eqg (.cut (.app 121 (.i (.v 1) .nil)) (.c 0) (.c 1)) (.lit 1 45)) (.c 1) true,
 .mk true (.c 9223372036854775807) (.bin 6 .i64 (.c 1) (.len (.cut (.app 121 (.i (.v 1) .nil)) (.c 1) (.len (.app 121 (.i (.v 1) .nil)))))) false,
 .mk true (.c 20000) (.bin 6 .i64 (.c 1) (.len (.cut (.app 121 (.i (.v 1) .nil)) (.c 1) (.len (.app 121 (.i (.v 1) .nil)))))) false,
 .mk false (.app 228 (.g (.cat (.lit 1 45) (.cut (.app 121 (.i (.v 1) .nil)) (.c 1) (.len (.app 121 (.i (.v 1) .nil))))) .nil)) (.c 1) true,
 .mk true (.bin 1 .i64 (.c (.ofNat w)) (.bin 6 .i64 (.c 1) (.len (.cut (.app 121 (.i (.v 1) .nil)) (.c 1) (.len (.app 121 (.i (.v 1) .nil))))))) (.c 0) false,
 .mk true (.c 300) (.bin 1 .i64 (.c (.ofNat w)) (.bin 6 .i64 (.c 1) (.len (.cut (.app 121 (.i (.v 1) .nil)) (.c 1) (.len (.app 121 (.i (.v 1) .nil))))))) false,
 .mk true (.c 9223372036854775807) (.bin 6 .i64 (.bin 6 .i64 (.c 1) (.len (.cut (.app 121 (.i (.v 1) .nil)) (.c 1) (.len (.app 121 (.i (.v 1) .nil)))))) (.len (.app 245 (.g (.lit 1 32) (.i (.bin 1 .i64 (.c (.ofNat w)) (.bin 6 .i64 (.c 1) (.len (.cut (.app 121 (.i (.v 1) .nil)) (.c 1) (.len (.app 121 (.i (.v 1) .nil))))))) .nil))))) false,
 .mk true (.c 400000) (.bin 6 .i64 (.c 1) (.bin 6 .i64 (.bin 6 .i64 (.c 1) (.len (.cut (.app 121 (.i (.v 1) .nil)) (.c 1) (.len (.app 121 (.i (.v 1) .nil)))))) (.len (.app 245 (.g (.lit 1 32) (.i (.bin 1 .i64 (.c (.ofNat w)) (.bin 6 .i64 (.c 1) (.len (.cut (.app 121 (.i (.v 1) .nil)) (.c 1) (.len (.app 121 (.i (.v 1) .nil))))))) .nil)))))) false,
 .mk true (.c 262144) (.bin 6 .i64 (.c 1) (.bin 6 .i64 (.bin 6 .i64 (.c 1) (.len (.cut (.app 121 (.i (.v 1) .nil)) (.c 1) (.len (.app 121 (.i (.v 1) .nil)))))) (.len (.app 245 (.g (.lit 1 32) (.i (.bin 1 .i64 (.c (.ofNat w)) (.bin 6 .i64 (.c 1) (.len (.cut (.app 121 (.i (.v 1) .nil)) (.c 1) (.len (.app 121 (.i (.v 1) .nil))))))) .nil)))))) false,
 .mk true (.c 400000) (.bin 6 .i64 (.bin 6 .i64 (.c 1) (.bin 6 .i64 (.bin 6 .i64 (.c 1) (.len (.cut (.app 121 (.i (.v 1) .nil)) (.c 1) (.len (.app 121 (.i (.v 1) .nil)))))) (.len (.app 245 (.g (.lit 1 32) (.i (.bin 1 .i64 (.c (.ofNat w)) (.bin 6 .i64 (.c 1) (.len (.cut (.app 121 (.i (.v 1) .nil)) (.c 1) (.len (.app 121 (.i (.v 1) .nil))))))) .nil)))))) (.c 1)) false,
 .mk true (.c 0) (.bin 6 .i64 (.bin 6 .i64 (.c 1) (.bin 6 .i64 (.bin 6 .i64 (.c 1) (.len (.cut (.app 121 (.i (.v 1) .nil)) (.c 1) (.len (.app 121 (.i (.v 1) .nil)))))) (.len (.app 245 (.g (.lit 1 32) (.i (.bin 1 .i64 (.c (.ofNat w)) (.bin 6 .i64 (.c 1) (.len (.cut (.app 121 (.i (.v 1) .nil)) (.c 1) (.len (.app 121 (.i (.v 1) .nil))))))) .nil)))))) (.c 1)) true,
 .mk true (.c 20000) (.bin 6 .i64 (.bin 6 .i64 (.c 1) (.bin 6 .i64 (.bin 6 .i64 (.c 1) (.len (.cut (.app 121 (.i (.v 1) .nil)) (.c 1) (.len (.app 121 (.i (.v 1) .nil)))))) (.len (.app 245 (.g (.lit 1 32) (.i (.bin 1 .i64 (.c (.ofNat w)) (.bin 6 .i64 (.c 1) (.len (.cut (.app 121 (.i (.v 1) .nil)) (.c 1) (.len (.app 121 (.i (.v 1) .nil))))))) .nil)))))) (.c 1)) false,
 .mk false (.app 228 (.g (.cat (.cat (.lit 1 60) (.cat (.cat (.lit 1 45) (.cut (.app 121 (.i (.v 1) .nil)) (.c 1) (.len (.app 121 (.i (.v 1) .nil))))) (.app 245 (.g (.lit 1 32) (.i (.bin 1 .i64 (.c (.ofNat w)) (.bin 6 .i64 (.c 1) (.len (.cut (.app 121 (.i (.v 1) .nil)) (.c 1) (.len (.app 121 (.i (.v 1) .nil))))))) .nil))))) (.lit 1 62)) .nil)) (.c 1) true,
 .mk true (.c 65536) (.bin 6 .i64 (.bin 6 .i64 (.c 1) (.bin 6 .i64 (.bin 6 .i64 (.c 1) (.len (.cut (.app 121 (.i (.v 1) .nil)) (.c 1) (.len (.app 121 (.i (.v 1) .nil)))))) (.len (.app 245 (.g (.lit 1 32) (.i (.bin 1 .i64 (.c (.ofNat w)) (.bin 6 .i64 (.c 1) (.len (.cut (.app 121 (.i (.v 1) .nil)) (.c 1) (.len (.app 121 (.i (.v 1) .nil))))))) .nil)))))) (.c 1)) false,
 .mk true (.c 1048576) (.bin 0 .i64 (.c (.ofNat (zj w))) (.bin 6 .i64 (.bin 6 .i64 (.c 1) (.bin 6 .i64 (.bin 6 .i64 (.c 1) (.len (.cut (.app 121 (.i (.v 1) .nil)) (.c 1) (.len (.app 121 (.i (.v 1) .nil)))))) (.len (.app 245 (.g (.lit 1 32) (.i (.bin 1 .i64 (.c (.ofNat w)) (.bin 6 .i64 (.c 1) (.len (.cut (.app 121 (.i (.v 1) .nil)) (.c 1) (.len (.app 121 (.i (.v 1) .nil))))))) .nil)))))) (.c 1))) false,
 .mk true (.bin 1 .i64 (.c (.ofNat w)) (.len (.app 121 (.i (.v 1) .nil)))) (.c 0) false,
 .mk true (.c 300) (.bin 1 .i64 (.c (.ofNat w)) (.len (.app 121 (.i (.v 1) .nil)))) false,
 .mk true (.c 9223372036854775807) (.bin 6 .i64 (.len (.app 121 (.i (.v 1) .nil))) (.len (.app 245 (.g (.lit 1 32) (.i (.bin 1 .i64 (.c (.ofNat w)) (.len (.app 121 (.i (.v 1) .nil)))) .nil))))) false,
 .mk true (.c 9223372036854775807) (.bin 6 .i64 (.c 1) (.bin 6 .i64 (.len (.app 121 (.i (.v 1) .nil))) (.len (.app 245 (.g (.lit 1 32) (.i (.bin 1 .i64 (.c (.ofNat w)) (.len (.app 121 (.i (.v 1) .nil)))) .nil)))))) false,
 .mk true (.c 9223372036854775807) (.bin 6 .i64 (.bin 6 .i64 (.c 1) (.bin 6 .i64 (.len (.app 121 (.i (.v 1) .nil))) (.len (.app 245 (.g (.lit 1 32) (.i (.bin 1 .i64 (.c (.ofNat w)) (.len (.app 121 (.i (.v 1) .nil)))) .nil)))))) (.c 1)) false,
 .mk false (.eqg (.cat (.cat (.lit 1 60) (.cat (.cat (.lit 1 45) (.cut (.app 121 (.i (.v 1) .nil)) (.c 1) (.len (.app 121 (.i (.v 1) .nil))))) (.app 245 (.g (.lit 1 32) (.i (.bin 1 .i64 (.c (.ofNat w)) (.bin 6 .i64 (.c 1) (.len (.cut (.app 121 (.i (.v 1) .nil)) (.c 1) (.len (.app 121 (.i (.v 1) .nil))))))) .nil))))) (.lit 1 62)) (.cat (.cat (.lit 1 60) (.cat (.app 121 (.i (.v 1) .nil)) (.app 245 (.g (.lit 1 32) (.i (.bin 1 .i64 (.c (.ofNat w)) (.len (.app 121 (.i (.v 1) .nil)))) .nil))))) (.lit 1 62))) (.c 1) true]
def jp (w : Nat) : Bool := qj true true (fIn w ++ alq w) w
def alr (w : Nat) : List SA := [.mk false (.app 228 (.g (wx w) .nil)) (.c 1) true,
 .mk true (.len (.app 121 (.i (.v 1) .nil))) (.c 1) false,
 .mk false (.eqg (.cut (.app 121 (.i (.v 1) .nil)) (.c 0) (.c 1)) (.lit 1 45)) (.c 1) false,
 .mk true (.c 9223372036854775807) (.len (.app 121 (.i (.v 1) .nil))) false,
 .mk true (.c 20000) (.len (.app 121 (.i (.v 1) .nil))) false,
 .mk false (.app 228 (.g (.cat (.lit 0 0) (.app 121 (.i (.v 1) .nil))) .nil)) (.c 1) true,
 .mk true (.bin 1 .i64 (.c (.ofNat w)) (.len (.app 121 (.i (.v 1) .nil)))) (.c 0) true,
 .mk true (.c 9223372036854775807) (.bin 6 .i64 (.len (.app 121 (.i (.v 1) .nil))) (.len (.app 245 (.g (.lit 1 32) (.i (.c 0) .nil))))) false,
 .mk true (.c 400000) (.bin 6 .i64 (.c 1) (.bin 6 .i64 (.len (.app 121 (.i (.v 1) .nil))) (.len (.app 245 (.g (.lit 1 32) (.i (.c 0) .nil)))))) false,
 .mk true (.c 262144) (.bin 6 .i64 (.c 1) (.bin 6 .i64 (.len (.app 121 (.i (.v 1) .nil))) (.len (.app 245 (.g (.lit 1 32) (.i (.c 0) .nil)))))) false,
 .mk true (.c 400000) (.bin 6 .i64 (.bin 6 .i64 (.c 1) (.bin 6 .i64 (.len (.app 121 (.i (.v 1) .nil))) (.len (.app 245 (.g (.lit 1 32) (.i (.c 0) .nil)))))) (.c 1)) false,
 .mk true (.c 0) (.bin 6 .i64 (.bin 6 .i64 (.c 1) (.bin 6 .i64 (.len (.app 121 (.i (.v 1) .nil))) (.len (.app 245 (.g (.lit 1 32) (.i (.c 0) .nil)))))) (.c 1)) true,
 .mk true (.c 20000) (.bin 6 .i64 (.bin 6 .i64 (.c 1) (.bin 6 .i64 (.len (.app 121 (.i (.v 1) .nil))) (.len (.app 245 (.g (.lit 1 32) (.i (.c 0) .nil)))))) (.c 1)) false,
 .mk false (.app 228 (.g (.cat (.cat (.lit 1 60) (.cat (.cat (.lit 0 0) (.app 121 (.i (.v 1) .nil))) (.app 245 (.g (.lit 1 32) (.i (.c 0) .nil))))) (.lit 1 62)) .nil)) (.c 1) true,
 .mk true (.c 65536) (.bin 6 .i64 (.bin 6 .i64 (.c 1) (.bin 6 .i64 (.len (.app 121 (.i (.v 1) .nil))) (.len (.app 245 (.g (.lit 1 32) (.i (.c 0) .nil)))))) (.c 1)) false,
 .mk true (.c 1048576) (.bin 0 .i64 (.c (.ofNat (zj w))) (.bin 6 .i64 (.bin 6 .i64 (.c 1) (.bin 6 .i64 (.len (.app 121 (.i (.v 1) .nil))) (.len (.app 245 (.g (.lit 1 32) (.i (.c 0) .nil)))))) (.c 1))) false,
 .mk true (.c 9223372036854775807) (.bin 6 .i64 (.c 1) (.bin 6 .i64 (.len (.app 121 (.i (.v 1) .nil))) (.len (.app 245 (.g (.lit 1 32) (.i (.c 0) .nil)))))) false,
 .mk true (.c 9223372036854775807) (.bin 6 .i64 (.bin 6 .i64 (.c 1) (.bin 6 .i64 (.len (.app 121 (.i (.v 1) .nil))) (.len (.app 245 (.g (.lit 1 32) (.i (.c 0) .nil)))))) (.c 1)) false,
 .mk false (.eqg (.cat (.cat (.lit 1 60) (.cat (.cat (.lit 0 0) (.app 121 (.i (.v 1) .nil))) (.app 245 (.g (.lit 1 32) (.i (.c 0) .nil))))) (.lit 1 62)) (.cat (.cat (.lit 1 60) (.cat (.app 121 (.i (.v 1) .nil)) (.app 245 (.g (.lit 1 32) (.i (.c 0) .nil))))) (.lit 1 62))) (.c 1) true]
def jq (w : Nat) : Bool := qj true true (fIn w ++ alr w) w
def als (w : Nat) : List SA := [.mk false (.app 228 (.g (wx w) .nil)) (.c 1) true,
 .mk true (.len (.app 121 (.i (.v 1) .nil))) (.c 1) false,
 .mk false (.eqg (.cut (.app 121 (.i (.v 1) .nil)) (.c 0) (.c 1)) (.lit 1 45)) (.c 1) false,
 .mk true (.c 9223372036854775807) (.len (.app 121 (.i (.v 1) .nil))) false,
 .mk true (.c 20000) (.len (.app 121 (.i (.v 1) .nil))) false,
 .mk false (.app 228 (.g (.cat (.lit 0 0) (.app 121 (.i (.v 1) .nil))) .nil)) (.c 1) true,
 .mk true (.bin 1 .i64 (.c (.ofNat w)) (.len (.app 121 (.i (.v 1) .nil)))) (.c 0) false,
 .mk true (.c 300) (.bin 1 .i64 (.c (.ofNat w)) (.len (.app 121 (.i (.v 1) .nil)))) false,
 .mk true (.c 9223372036854775807) (.bin 6 .i64 (.len (.app 121 (.i (.v 1) .nil))) (.len (.app 245 (.g (.lit 1 32) (.i (.bin 1 .i64 (.c (.ofNat w)) (.len (.app 121 (.i (.v 1) .nil)))) .nil))))) false,
 .mk true (.c 400000) (.bin 6 .i64 (.c 1) (.bin 6 .i64 (.len (.app 121 (.i (.v 1) .nil))) (.len (.app 245 (.g (.lit 1 32) (.i (.bin 1 .i64 (.c (.ofNat w)) (.len (.app 121 (.i (.v 1) .nil)))) .nil)))))) false,
 .mk true (.c 262144) (.bin 6 .i64 (.c 1) (.bin 6 .i64 (.len (.app 121 (.i (.v 1) .nil))) (.len (.app 245 (.g (.lit 1 32) (.i (.bin 1 .i64 (.c (.ofNat w)) (.len (.app 121 (.i (.v 1) .nil)))) .nil)))))) false,
 .mk true (.c 400000) (.bin 6 .i64 (.bin 6 .i64 (.c 1) (.bin 6 .i64 (.len (.app 121 (.i (.v 1) .nil))) (.len (.app 245 (.g (.lit 1 32) (.i (.bin 1 .i64 (.c (.ofNat w)) (.len (.app 121 (.i (.v 1) .nil)))) .nil)))))) (.c 1)) false,
 .mk true (.c 0) (.bin 6 .i64 (.bin 6 .i64 (.c 1) (.bin 6 .i64 (.len (.app 121 (.i (.v 1) .nil))) (.len (.app 245 (.g (.lit 1 32) (.i (.bin 1 .i64 (.c (.ofNat w)) (.len (.app 121 (.i (.v 1) .nil)))) .nil)))))) (.c 1)) true,
 .mk true (.c 20000) (.bin 6 .i64 (.bin 6 .i64 (.c 1) (.bin 6 .i64 (.len (.app 121 (.i (.v 1) .nil))) (.len (.app 245 (.g (.lit 1 32) (.i (.bin 1 .i64 (.c (.ofNat w)) (.len (.app 121 (.i (.v 1) .nil)))) .nil)))))) (.c 1)) false,
 .mk false (.app 228 (.g (.cat (.cat (.lit 1 60) (.cat (.cat (.lit 0 0) (.app 121 (.i (.v 1) .nil))) (.app 245 (.g (.lit 1 32) (.i (.bin 1 .i64 (.c (.ofNat w)) (.len (.app 121 (.i (.v 1) .nil)))) .nil))))) (.lit 1 62)) .nil)) (.c 1) true,
 .mk true (.c 65536) (.bin 6 .i64 (.bin 6 .i64 (.c 1) (.bin 6 .i64 (.len (.app 121 (.i (.v 1) .nil))) (.len (.app 245 (.g (.lit 1 32) (.i (.bin 1 .i64 (.c (.ofNat w)) (.len (.app 121 (.i (.v 1) .nil)))) .nil)))))) (.c 1)) false,
 .mk true (.c 1048576) (.bin 0 .i64 (.c (.ofNat (zj w))) (.bin 6 .i64 (.bin 6 .i64 (.c 1) (.bin 6 .i64 (.len (.app 121 (.i (.v 1) .nil))) (.len (.app 245 (.g (.lit 1 32) (.i (.bin 1 .i64 (.c (.ofNat w)) (.len (.app 121 (.i (.v 1) .nil)))) .nil)))))) (.c 1))) false,
 .mk true (.c 9223372036854775807) (.bin 6 .i64 (.c 1) (.bin 6 .i64 (.len (.app 121 (.i (.v 1) .nil))) (.len (.app 245 (.g (.lit 1 32) (.i (.bin 1 .i64 (.c (.ofNat w)) (.len (.app 121 (.i (.v 1) .nil)))) .nil)))))) false,
 .mk true (.c 9223372036854775807) (.bin 6 .i64 (.bin 6 .i64 (.c 1) (.bin 6 .i64 (.len (.app 121 (.i (.v 1) .nil))) (.len (.app 245 (.g (.lit 1 32) (.i (.bin 1 .i64 (.c (.ofNat w)) (.len (.app 121 (.i (.v 1) .nil)))) .nil)))))) (.c 1)) false,
 .mk false (.eqg (.cat (.cat (.lit 1 60) (.cat (.cat (.lit 0 0) (.app 121 (.i (.v 1) .nil))) (.app 245 (.g (.lit 1 32) (.i (.bin 1 .i64 (.c (.ofNat w)) (.len (.app 121 (.i (.v 1) .nil)))) .nil))))) (.lit 1 62)) (.cat (.cat (.lit 1 60) (.cat (.app 121 (.i (.v 1) .nil)) (.app 245 (.g (.lit 1 32) (.i (.bin 1 .i64 (.c (.ofNat w)) (.len (.app 121 (.i (.v 1) .nil)))) .nil))))) (.lit 1 62))) (.c 1) true]
def jr (w : Nat) : Bool := qj true true (fIn w ++ als w) w
end
end Go.Ev
set_option maxRecDepth 100000
set_option linter.all false
namespace Go.Ev
theorem ma {σ : Nat → List Int} : (GE.cut (.app 121 (.i (.v 1) .nil)) (.c 1) (.len (.app 121 (.i (.v 1) .nil)))).eval σ = (c9 ((σ 1).headD 0)).tail := by
 show ((c9 ((σ 1).headD 0)).take ((((c9 ((σ 1).headD 0)).length : Int)).toNat)).drop 1 = _
 rw [Int.toNat_natCast, List.take_length, List.drop_one]
theorem jt {σ : Nat → List Int} : (GE.cut (.app 121 (.i (.v 1) .nil)) (.c 0) (.c 1)).eval σ = (c9 ((σ 1).headD 0)).take 1 := by
 show ((c9 ((σ 1).headD 0)).take 1).drop 0 = _
 rw [List.drop_zero]
theorem a0y (f : Nat) (n : Int) (h : 0 ≤ n) : ∀ x ∈ mb f n, 48 ≤ x := by
 induction f generalizing n with
 | zero => intro x hx; cases hx
 | succ f ih =>
   intro x hx
   unfold mb at hx
   split at hx
   ·rw [List.mem_singleton] at hx; omega
   ·rcases List.mem_append.1 hx with hx | hx
    ·exact ih _ (by omega) x hx
    ·rw [List.mem_singleton] at hx; omega
theorem od {n : Int} (h : 0 ≤ n) : ¬ (c9 n).take 1 = [45] := by
 intro e
 have : (45 : Int) ∈ c9 n := List.mem_of_mem_take (by rw [e]; exact List.mem_singleton.2 rfl)
 unfold c9 at this
 rw [if_neg (by omega)] at this
 have := a0y _ _ h _ this
 omega
theorem fj : ed [] = 1 := ascN1.2 (fun x hx => by cases hx)
theorem dp {c : Int} {l : List Int} (h : 0 ≤ c ∧ c < 128) : ed (c :: l) = ed l := by
 have e : ed (c :: l) = 1 ↔ ed l = 1 := by
  rw [ascN1, ascN1]
  exact ⟨fun q x hx => q x (zA _ hx), fun q x hx => by rcases List.mem_cons.1 hx with rfl | hx; exact h; exact q x hx⟩
 by_cases z : ed l = 1
 ·rw [z, e.2 z]
 ·have z0 : ∀ m : List Int, ed m ≠ 1 → ed m = 0 := fun m hm => if_neg fun q => hm (ascN1.2 q)
  rw [z0 _ z, z0 _ fun q => z (e.1 q)]
open Classical in
theorem anc {a b : List Int} (h : ed a = 1) : ed (a ++ b) = ed b := by
 have h := ascN1.1 h
 have e : ed (a ++ b) = 1 ↔ ed b = 1 := by
  rw [ascN1, ascN1]
  exact ⟨fun q x hx => q x (List.mem_append_right _ hx), fun q x hx => by rcases List.mem_append.1 hx with hx | hx; exact h x hx; exact q x hx⟩
 by_cases z : ed b = 1
 ·rw [z, e.2 z]
 ·have z0 : ∀ m : List Int, ed m ≠ 1 → ed m = 0 := fun m hm => if_neg fun q => hm (ascN1.2 q)
  rw [z0 _ z, z0 _ fun q => z (e.1 q)]
theorem dl {n : Int} {b : List Int} : ed (c9 n ++ b) = ed b := anc (ah n)
theorem er {c n : Int} (h : 0 ≤ c ∧ c < 128) : ed (nj [c] n) = 1 := ascN1.2 fun x hx => by
 unfold nj at hx
 obtain ⟨l, h1, h2⟩ := List.mem_flatten.1 hx
 rw [(List.mem_replicate.1 h1).2, List.mem_singleton] at h2
 subst h2; exact h
theorem dm {c n : Int} {b : List Int} (h : 0 ≤ c ∧ c < 128) : ed (nj [c] n ++ b) = ed b := anc (er h)
theorem evF : (∀ σ : Nat → List Int, (GE.lit 1 60).eval σ = [60]) ∧ (∀ σ : Nat → List Int, (GE.lit 1 62).eval σ = [62]) ∧ (∀ σ : Nat → List Int, (GE.lit 1 32).eval σ = [32]) ∧ (∀ σ : Nat → List Int, (GE.lit 1 45).eval σ = [45]) ∧ (∀ σ : Nat → List Int, (GE.lit 1 48).eval σ = [48]) := ⟨by intros; rfl, by intros; rfl, by intros; rfl, by intros; rfl, by intros; rfl⟩
theorem l9 (s : List Int) : nj s 0 = [] := rfl
theorem cst (L : Nat) : ((L + 1 : Nat) : Int) = 1 + (L : Int) := by omega
theorem js (p pl w : Nat) : (fSt p pl w).1 ≤ pl + 4 := by
 unfold fSt
 rw [aa, aa]
 split
 ·show pl + 2 ≤ _; omega
 ·split
  ·show pl + 3 ≤ _; omega
  ·show pl + 4 ≤ _; omega
theorem ao8 {σ : Nat → List Int} {w : Nat} (hw : w ≤ 59) (h1 : -2305843009213693952 ≤ (σ 1).headD 0) (h2 : (σ 1).headD 0 ≤ 2305843009213693951) (hl : ed ((wu w).eval σ) = 1) (hs : (σ 1).headD 0 < 0) (hf : (w : Int) - (1 + ((c9 (-((σ 1).headD 0))).length : Int)) < 0) : SAll σ (alb w) := by
 have hD := jw hs
 have a1 := da (-((σ 1).headD 0))
 have a2 := eu (-((σ 1).headD 0))
 have a3 : zg w ≤ 8 := Nat.le_trans (js _ _ _) (by omega)
 unfold alb
 simp (disch := omega) only [sall_cons, sT, sF, sE, sN, evs, evq, evL, evF, wr, ma, jt, zP, zO, zS, zJ, zD, List.append_nil, List.append_assoc, List.tail_cons, List.take_succ_cons, List.take_zero, fj, dp, dl, dm, ah, er, du, l9, eq_self, Int.ofNat_eq_natCast, cst, Int.reduceAdd, Int.reduceNeg, Nat.reduceAdd, Int.natCast_zero, hD, hl]
 repeat refine ⟨by omega, ?_⟩
 intro x hx; cases hx
theorem ao9 {σ : Nat → List Int} {w : Nat} (hw : w ≤ 59) (h1 : -2305843009213693952 ≤ (σ 1).headD 0) (h2 : (σ 1).headD 0 ≤ 2305843009213693951) (hl : ed ((wu w).eval σ) = 1) (hs : (σ 1).headD 0 < 0) (hf : 0 ≤ (w : Int) - (1 + ((c9 (-((σ 1).headD 0))).length : Int))) : SAll σ (alc w) := by
 have hD := jw hs
 have a1 := da (-((σ 1).headD 0))
 have a2 := eu (-((σ 1).headD 0))
 have a3 : zg w ≤ 8 := Nat.le_trans (js _ _ _) (by omega)
 unfold alc
 simp (disch := omega) only [sall_cons, sT, sF, sE, sN, evs, evq, evL, evF, wr, ma, jt, zP, zO, zS, zJ, zD, List.append_nil, List.append_assoc, List.tail_cons, List.take_succ_cons, List.take_zero, fj, dp, dl, dm, ah, er, du, l9, eq_self, Int.ofNat_eq_natCast, cst, Int.reduceAdd, Int.reduceNeg, Nat.reduceAdd, Int.natCast_zero, hD, hl]
 repeat refine ⟨by omega, ?_⟩
 intro x hx; cases hx
theorem apa {σ : Nat → List Int} {w : Nat} (hw : w ≤ 59) (h1 : -2305843009213693952 ≤ (σ 1).headD 0) (h2 : (σ 1).headD 0 ≤ 2305843009213693951) (hl : ed ((wu w).eval σ) = 1) (hs : 0 ≤ (σ 1).headD 0) (hf : (w : Int) - ((c9 ((σ 1).headD 0)).length : Int) < 0) : SAll σ (ald w) := by
 have hD := od hs
 have a1 := da ((σ 1).headD 0)
 have a2 := eu ((σ 1).headD 0)
 have a3 : zg w ≤ 8 := Nat.le_trans (js _ _ _) (by omega)
 unfold ald
 simp (disch := omega) only [sall_cons, sT, sF, sE, sN, evs, evq, evL, evF, wr, ma, jt, zP, zO, zS, zJ, zD, List.append_nil, List.append_assoc, List.tail_cons, List.take_succ_cons, List.take_zero, fj, dp, dl, dm, ah, er, du, l9, eq_self, Int.ofNat_eq_natCast, cst, Int.reduceAdd, Int.reduceNeg, Nat.reduceAdd, Int.natCast_zero, hD, hl]
 repeat refine ⟨by omega, ?_⟩
 intro x hx; cases hx
theorem apb {σ : Nat → List Int} {w : Nat} (hw : w ≤ 59) (h1 : -2305843009213693952 ≤ (σ 1).headD 0) (h2 : (σ 1).headD 0 ≤ 2305843009213693951) (hl : ed ((wu w).eval σ) = 1) (hs : 0 ≤ (σ 1).headD 0) (hf : 0 ≤ (w : Int) - ((c9 ((σ 1).headD 0)).length : Int)) : SAll σ (alf w) := by
 have hD := od hs
 have a1 := da ((σ 1).headD 0)
 have a2 := eu ((σ 1).headD 0)
 have a3 : zg w ≤ 8 := Nat.le_trans (js _ _ _) (by omega)
 unfold alf
 simp (disch := omega) only [sall_cons, sT, sF, sE, sN, evs, evq, evL, evF, wr, ma, jt, zP, zO, zS, zJ, zD, List.append_nil, List.append_assoc, List.tail_cons, List.take_succ_cons, List.take_zero, fj, dp, dl, dm, ah, er, du, l9, eq_self, Int.ofNat_eq_natCast, cst, Int.reduceAdd, Int.reduceNeg, Nat.reduceAdd, Int.natCast_zero, hD, hl]
 repeat refine ⟨by omega, ?_⟩
 intro x hx; cases hx
theorem apg {σ : Nat → List Int} {w : Nat} (hw : w ≤ 59) (h1 : -2305843009213693952 ≤ (σ 1).headD 0) (h2 : (σ 1).headD 0 ≤ 2305843009213693951) (hl : ed ((ww w).eval σ) = 1) (hs : (σ 1).headD 0 < 0) (hf : (w : Int) - (1 + ((c9 (-((σ 1).headD 0))).length : Int)) < 0) : SAll σ (alk w) := by
 have hD := jw hs
 have a1 := da (-((σ 1).headD 0))
 have a2 := eu (-((σ 1).headD 0))
 have a3 : zi w ≤ 8 := Nat.le_trans (js _ _ _) (by omega)
 unfold alk
 simp (disch := omega) only [sall_cons, sT, sF, sE, sN, evs, evq, evL, evF, wr, ma, jt, zP, zO, zS, zJ, zD, List.append_nil, List.append_assoc, List.tail_cons, List.take_succ_cons, List.take_zero, fj, dp, dl, dm, ah, er, du, l9, eq_self, Int.ofNat_eq_natCast, cst, Int.reduceAdd, Int.reduceNeg, Nat.reduceAdd, Int.natCast_zero, hD, hl]
 repeat refine ⟨by omega, ?_⟩
 intro x hx; cases hx
theorem aph {σ : Nat → List Int} {w : Nat} (hw : w ≤ 59) (h1 : -2305843009213693952 ≤ (σ 1).headD 0) (h2 : (σ 1).headD 0 ≤ 2305843009213693951) (hl : ed ((ww w).eval σ) = 1) (hs : (σ 1).headD 0 < 0) (hf : 0 ≤ (w : Int) - (1 + ((c9 (-((σ 1).headD 0))).length : Int))) : SAll σ (alm w) := by
 have hD := jw hs
 have a1 := da (-((σ 1).headD 0))
 have a2 := eu (-((σ 1).headD 0))
 have a3 : zi w ≤ 8 := Nat.le_trans (js _ _ _) (by omega)
 unfold alm
 simp (disch := omega) only [sall_cons, sT, sF, sE, sN, evs, evq, evL, evF, wr, ma, jt, zP, zO, zS, zJ, zD, List.append_nil, List.append_assoc, List.tail_cons, List.take_succ_cons, List.take_zero, fj, dp, dl, dm, ah, er, du, l9, eq_self, Int.ofNat_eq_natCast, cst, Int.reduceAdd, Int.reduceNeg, Nat.reduceAdd, Int.natCast_zero, hD, hl]
 repeat refine ⟨by omega, ?_⟩
 intro x hx; cases hx
theorem api {σ : Nat → List Int} {w : Nat} (hw : w ≤ 59) (h1 : -2305843009213693952 ≤ (σ 1).headD 0) (h2 : (σ 1).headD 0 ≤ 2305843009213693951) (hl : ed ((ww w).eval σ) = 1) (hs : 0 ≤ (σ 1).headD 0) (hf : (w : Int) - ((c9 ((σ 1).headD 0)).length : Int) < 0) : SAll σ (aln w) := by
 have hD := od hs
 have a1 := da ((σ 1).headD 0)
 have a2 := eu ((σ 1).headD 0)
 have a3 : zi w ≤ 8 := Nat.le_trans (js _ _ _) (by omega)
 unfold aln
 simp (disch := omega) only [sall_cons, sT, sF, sE, sN, evs, evq, evL, evF, wr, ma, jt, zP, zO, zS, zJ, zD, List.append_nil, List.append_assoc, List.tail_cons, List.take_succ_cons, List.take_zero, fj, dp, dl, dm, ah, er, du, l9, eq_self, Int.ofNat_eq_natCast, cst, Int.reduceAdd, Int.reduceNeg, Nat.reduceAdd, Int.natCast_zero, hD, hl]
 repeat refine ⟨by omega, ?_⟩
 intro x hx; cases hx
theorem apj {σ : Nat → List Int} {w : Nat} (hw : w ≤ 59) (h1 : -2305843009213693952 ≤ (σ 1).headD 0) (h2 : (σ 1).headD 0 ≤ 2305843009213693951) (hl : ed ((ww w).eval σ) = 1) (hs : 0 ≤ (σ 1).headD 0) (hf : 0 ≤ (w : Int) - ((c9 ((σ 1).headD 0)).length : Int)) : SAll σ (alo w) := by
 have hD := od hs
 have a1 := da ((σ 1).headD 0)
 have a2 := eu ((σ 1).headD 0)
 have a3 : zi w ≤ 8 := Nat.le_trans (js _ _ _) (by omega)
 unfold alo
 simp (disch := omega) only [sall_cons, sT, sF, sE, sN, evs, evq, evL, evF, wr, ma, jt, zP, zO, zS, zJ, zD, List.append_nil, List.append_assoc, List.tail_cons, List.take_succ_cons, List.take_zero, fj, dp, dl, dm, ah, er, du, l9, eq_self, Int.ofNat_eq_natCast, cst, Int.reduceAdd, Int.reduceNeg, Nat.reduceAdd, Int.natCast_zero, hD, hl]
 repeat refine ⟨by omega, ?_⟩
 intro x hx; cases hx
theorem apc {σ : Nat → List Int} {w : Nat} (hw : w ≤ 59) (h1 : -2305843009213693952 ≤ (σ 1).headD 0) (h2 : (σ 1).headD 0 ≤ 2305843009213693951) (hl : ed ((wv w).eval σ) = 1) (hs : (σ 1).headD 0 < 0) (hf : (w : Int) - (1 + ((c9 (-((σ 1).headD 0))).length : Int)) < 0) : SAll σ (alg w) := by
 have hD := jw hs
 have a1 := da (-((σ 1).headD 0))
 have a2 := eu (-((σ 1).headD 0))
 have a3 : zh w ≤ 8 := Nat.le_trans (js _ _ _) (by omega)
 unfold alg
 simp (disch := omega) only [sall_cons, sT, sF, sE, sN, evs, evq, evL, evF, wr, ma, jt, zP, zO, zS, zJ, zD, List.append_nil, List.append_assoc, List.tail_cons, List.take_succ_cons, List.take_zero, fj, dp, dl, dm, ah, er, du, l9, eq_self, Int.ofNat_eq_natCast, cst, Int.reduceAdd, Int.reduceNeg, Nat.reduceAdd, Int.natCast_zero, hD, hl]
 repeat refine ⟨by omega, ?_⟩
 intro x hx; cases hx
theorem apd {σ : Nat → List Int} {w : Nat} (hw : w ≤ 59) (h1 : -2305843009213693952 ≤ (σ 1).headD 0) (h2 : (σ 1).headD 0 ≤ 2305843009213693951) (hl : ed ((wv w).eval σ) = 1) (hs : (σ 1).headD 0 < 0) (hf : 0 ≤ (w : Int) - (1 + ((c9 (-((σ 1).headD 0))).length : Int))) : SAll σ (alh w) := by
 have hD := jw hs
 have a1 := da (-((σ 1).headD 0))
 have a2 := eu (-((σ 1).headD 0))
 have a3 : zh w ≤ 8 := Nat.le_trans (js _ _ _) (by omega)
 unfold alh
 simp (disch := omega) only [sall_cons, sT, sF, sE, sN, evs, evq, evL, evF, wr, ma, jt, zP, zO, zS, zJ, zD, List.append_nil, List.append_assoc, List.tail_cons, List.take_succ_cons, List.take_zero, fj, dp, dl, dm, ah, er, du, l9, eq_self, Int.ofNat_eq_natCast, cst, Int.reduceAdd, Int.reduceNeg, Nat.reduceAdd, Int.natCast_zero, hD, hl]
 repeat refine ⟨by omega, ?_⟩
 intro x hx; cases hx
theorem ape {σ : Nat → List Int} {w : Nat} (hw : w ≤ 59) (h1 : -2305843009213693952 ≤ (σ 1).headD 0) (h2 : (σ 1).headD 0 ≤ 2305843009213693951) (hl : ed ((wv w).eval σ) = 1) (hs : 0 ≤ (σ 1).headD 0) (hf : (w : Int) - ((c9 ((σ 1).headD 0)).length : Int) < 0) : SAll σ (ali w) := by
 have hD := od hs
 have a1 := da ((σ 1).headD 0)
 have a2 := eu ((σ 1).headD 0)
 have a3 : zh w ≤ 8 := Nat.le_trans (js _ _ _) (by omega)
 unfold ali
 simp (disch := omega) only [sall_cons, sT, sF, sE, sN, evs, evq, evL, evF, wr, ma, jt, zP, zO, zS, zJ, zD, List.append_nil, List.append_assoc, List.tail_cons, List.take_succ_cons, List.take_zero, fj, dp, dl, dm, ah, er, du, l9, eq_self, Int.ofNat_eq_natCast, cst, Int.reduceAdd, Int.reduceNeg, Nat.reduceAdd, Int.natCast_zero, hD, hl]
 repeat refine ⟨by omega, ?_⟩
 intro x hx; cases hx
theorem apf {σ : Nat → List Int} {w : Nat} (hw : w ≤ 59) (h1 : -2305843009213693952 ≤ (σ 1).headD 0) (h2 : (σ 1).headD 0 ≤ 2305843009213693951) (hl : ed ((wv w).eval σ) = 1) (hs : 0 ≤ (σ 1).headD 0) (hf : 0 ≤ (w : Int) - ((c9 ((σ 1).headD 0)).length : Int)) : SAll σ (alj w) := by
 have hD := od hs
 have a1 := da ((σ 1).headD 0)
 have a2 := eu ((σ 1).headD 0)
 have a3 : zh w ≤ 8 := Nat.le_trans (js _ _ _) (by omega)
 unfold alj
 simp (disch := omega) only [sall_cons, sT, sF, sE, sN, evs, evq, evL, evF, wr, ma, jt, zP, zO, zS, zJ, zD, List.append_nil, List.append_assoc, List.tail_cons, List.take_succ_cons, List.take_zero, fj, dp, dl, dm, ah, er, du, l9, eq_self, Int.ofNat_eq_natCast, cst, Int.reduceAdd, Int.reduceNeg, Nat.reduceAdd, Int.natCast_zero, hD, hl]
 repeat refine ⟨by omega, ?_⟩
 intro x hx; cases hx
theorem apk {σ : Nat → List Int} {w : Nat} (hw : w ≤ 59) (h1 : -2305843009213693952 ≤ (σ 1).headD 0) (h2 : (σ 1).headD 0 ≤ 2305843009213693951) (hl : ed ((wx w).eval σ) = 1) (hs : (σ 1).headD 0 < 0) (hf : (w : Int) - (1 + ((c9 (-((σ 1).headD 0))).length : Int)) < 0) : SAll σ (alp w) := by
 have hD := jw hs
 have a1 := da (-((σ 1).headD 0))
 have a2 := eu (-((σ 1).headD 0))
 have a3 : zj w ≤ 8 := Nat.le_trans (js _ _ _) (by omega)
 unfold alp
 simp (disch := omega) only [sall_cons, sT, sF, sE, sN, evs, evq, evL, evF, wr, ma, jt, zP, zO, zS, zJ, zD, List.append_nil, List.append_assoc, List.tail_cons, List.take_succ_cons, List.take_zero, fj, dp, dl, dm, ah, er, du, l9, eq_self, Int.ofNat_eq_natCast, cst, Int.reduceAdd, Int.reduceNeg, Nat.reduceAdd, Int.natCast_zero, hD, hl]
 repeat refine ⟨by omega, ?_⟩
 intro x hx; cases hx
theorem apl {σ : Nat → List Int} {w : Nat} (hw : w ≤ 59) (h1 : -2305843009213693952 ≤ (σ 1).headD 0) (h2 : (σ 1).headD 0 ≤ 2305843009213693951) (hl : ed ((wx w).eval σ) = 1) (hs : (σ 1).headD 0 < 0) (hf : 0 ≤ (w : Int) - (1 + ((c9 (-((σ 1).headD 0))).length : Int))) : SAll σ (alq w) := by
 have hD := jw hs
 have a1 := da (-((σ 1).headD 0))
 have a2 := eu (-((σ 1).headD 0))
 have a3 : zj w ≤ 8 := Nat.le_trans (js _ _ _) (by omega)
 unfold alq
 simp (disch := omega) only [sall_cons, sT, sF, sE, sN, evs, evq, evL, evF, wr, ma, jt, zP, zO, zS, zJ, zD, List.append_nil, List.append_assoc, List.tail_cons, List.take_succ_cons, List.take_zero, fj, dp, dl, dm, ah, er, du, l9, eq_self, Int.ofNat_eq_natCast, cst, Int.reduceAdd, Int.reduceNeg, Nat.reduceAdd, Int.natCast_zero, hD, hl]
 repeat refine ⟨by omega, ?_⟩
 intro x hx; cases hx
theorem apm {σ : Nat → List Int} {w : Nat} (hw : w ≤ 59) (h1 : -2305843009213693952 ≤ (σ 1).headD 0) (h2 : (σ 1).headD 0 ≤ 2305843009213693951) (hl : ed ((wx w).eval σ) = 1) (hs : 0 ≤ (σ 1).headD 0) (hf : (w : Int) - ((c9 ((σ 1).headD 0)).length : Int) < 0) : SAll σ (alr w) := by
 have hD := od hs
 have a1 := da ((σ 1).headD 0)
 have a2 := eu ((σ 1).headD 0)
 have a3 : zj w ≤ 8 := Nat.le_trans (js _ _ _) (by omega)
 unfold alr
 simp (disch := omega) only [sall_cons, sT, sF, sE, sN, evs, evq, evL, evF, wr, ma, jt, zP, zO, zS, zJ, zD, List.append_nil, List.append_assoc, List.tail_cons, List.take_succ_cons, List.take_zero, fj, dp, dl, dm, ah, er, du, l9, eq_self, Int.ofNat_eq_natCast, cst, Int.reduceAdd, Int.reduceNeg, Nat.reduceAdd, Int.natCast_zero, hD, hl]
 repeat refine ⟨by omega, ?_⟩
 intro x hx; cases hx
theorem apn {σ : Nat → List Int} {w : Nat} (hw : w ≤ 59) (h1 : -2305843009213693952 ≤ (σ 1).headD 0) (h2 : (σ 1).headD 0 ≤ 2305843009213693951) (hl : ed ((wx w).eval σ) = 1) (hs : 0 ≤ (σ 1).headD 0) (hf : 0 ≤ (w : Int) - ((c9 ((σ 1).headD 0)).length : Int)) : SAll σ (als w) := by
 have hD := od hs
 have a1 := da ((σ 1).headD 0)
 have a2 := eu ((σ 1).headD 0)
 have a3 : zj w ≤ 8 := Nat.le_trans (js _ _ _) (by omega)
 unfold als
 simp (disch := omega) only [sall_cons, sT, sF, sE, sN, evs, evq, evL, evF, wr, ma, jt, zP, zO, zS, zJ, zD, List.append_nil, List.append_assoc, List.tail_cons, List.take_succ_cons, List.take_zero, fj, dp, dl, dm, ah, er, du, l9, eq_self, Int.ofNat_eq_natCast, cst, Int.reduceAdd, Int.reduceNeg, Nat.reduceAdd, Int.natCast_zero, hD, hl]
 repeat refine ⟨by omega, ?_⟩
 intro x hx; cases hx
end Go.Ev
