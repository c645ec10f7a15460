/- What the package act's and the reference's functions on numbers compute: plain functions on lists of bytes. -/
import Derived.Lib.AtoiAll
import Derived.Lib.ItoaNum
import Derived.Lib.SlTrimSet
import Derived.Lib.Strings
namespace Go.Proofs.YtdmejbjpbjcfbaaGreatDoor

def cutI (n : Int) : Int := max (min n 1073741824) (-1073741824)
/-- A number as a value: its decimal numeral, cut. -/
def valueL (n : Int) : List UInt8 := Lib.itoa (cutI n)

def digitsL : List UInt8 := [48, 49, 50, 51, 52, 53, 54, 55, 56, 57]
/-- A text as a number, as the code goes. -/
def numberL (l : List UInt8) : Int :=
  if Lib.trimPrefix l [45] = [] then 0
  else if Lib.trimS (Lib.trimPrefix l [45]) digitsL = [] then
    match Lib.atoiAll l with
    | .ok n => if n = cutI n then n else 0
    | _ => 0
  else 0

/-- The reference's number of a text: of what stands behind the sign. -/
def refMag : Int → List UInt8 → Option Int
  | acc, [] => some acc
  | acc, c :: r => if c.toNat < 48 ∨ 57 < c.toNat then none else refMag (min (acc * 10 + ((c.toNat : Int) - 48)) 2147483648) r
def refEnd (neg : Bool) : Option Int → Int
  | none => 0
  | some m => if 1073741824 < m then 0 else if neg then -m else m
def refNumberL (l : List UInt8) : Int := if l.head? = some 45 then refEnd true (refMag 0 l.tail) else refEnd false (refMag 0 l)

theorem refEnd_big {n : Bool} {m : Int} (h : 1073741824 < m) : refEnd n (some m) = 0 := by simp [refEnd, h]
theorem refEnd_neg {m : Int} (h : ¬ 1073741824 < m) : refEnd true (some m) = -m := by simp [refEnd, h]
theorem refEnd_pos {m : Int} (h : ¬ 1073741824 < m) : refEnd false (some m) = m := by simp [refEnd, h]

end Go.Proofs.YtdmejbjpbjcfbaaGreatDoor
