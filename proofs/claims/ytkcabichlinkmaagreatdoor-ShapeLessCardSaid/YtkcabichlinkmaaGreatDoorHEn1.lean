/- The environment. -/
import Derived.Test.YtkcabichlinkmaaGreatDoorHM7
import Derived.Test.YtkcabichlinkmaaGreatDoorHM6
namespace Go.EV
def oksS : List (Nat × Nat) := [(148, 2), (149, 5), (150, 5)]
def prS (k : Nat) (as : List AV) (H : Hp) : Option (AV × Hp) :=
  bif Nat.beq k 103 then q (pIndexByte as) H else bif Nat.beq k 66 then q (pIndex as) H else bif Nat.beq k 65 then q (pContains as) H else bif Nat.beq k 140 then q (pCompare as) H else
  bif Nat.beq k 185 then q (pParseInt as) H else bif Nat.beq k 186 then q (pFormatInt as) H else bif Nat.beq k 161 then pCopyCheck oksS as H else bif Nat.beq k 86 then pString oksS 5 as H else none
def quietS (k : Nat) : Bool := Nat.beq k 103 || Nat.beq k 66 || Nat.beq k 65 || Nat.beq k 140 || Nat.beq k 185 || Nat.beq k 186
/-- The environment in which besides the functions that x names are known to touch no heap. -/
def envX (x : Nat → Bool) (fs : Nat → Option CF) : Env := { fs := fs, pr := prS, quiet := fun k => quietS k || x k }
def envS (fs : Nat → Option CF) : Env := { fs := fs, pr := prS, quiet := quietS }
end Go.EV
