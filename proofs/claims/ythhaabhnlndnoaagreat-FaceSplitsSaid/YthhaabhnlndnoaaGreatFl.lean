/- Models of floating-point numbers: bits, read and written as the machine does. Conditions: none. -/
import Derived.Test.YthhaabhnlndnoaaGreatMd
import GoSem.Step
namespace Go.Md
open Go

def gIF (x : Int) : Option Nat := if 0 ≤ x then some (Ieee.double.nearest false x.toNat 0) else none
def gSqrt (b : Nat) : Option Nat := Ieee.double.sqrt b
def gFI (b : Nat) : Option Int := bnd ((Ieee.double.read b).toInt .zero) gI

/-- Quotients of numbers without a sign. -/
def gQuoU (bits : Nat) (x y : Int) : Option Int := if y = 0 ∨ x < 0 ∨ y < 0 ∨ (2 : Int) ^ bits ≤ x then none else some (x / y)

end Go.Md
