/- Keys, and acts that are right: plain functions. -/
import Derived.Test.YtdmejbjpbjcfbaaGreatDoorActDefs
namespace Go.Proofs.YtdmejbjpbjcfbaaGreatDoor

def keyC (c : UInt8) : Bool := decide (97 ≤ c.toNat ∧ c.toNat ≤ 122) || decide (48 ≤ c.toNat ∧ c.toNat ≤ 57)
/-- May a text be a key? -/
def keyL (l : List UInt8) : Bool := !l.isEmpty && decide (l.length ≤ 20) && l.all keyC
def alnumL : List UInt8 := [97, 98, 99, 100, 101, 102, 103, 104, 105, 106, 107, 108, 109, 110, 111, 112, 113, 114, 115, 116, 117, 118, 119, 120, 121, 122, 48, 49, 50, 51, 52, 53, 54, 55, 56, 57, 45]
def textL (l : List UInt8) : Bool := decide (Lib.trimS l alnumL = [])
/-- Is an act right? -/
def kindB (a : ActD) : Bool :=
  if a.kind = 1 then decide (a.value.data.toList = []) && decide (a.num = 0)
  else if a.kind = 2 then decide (a.value.data.toList.length ≤ 20) && textL a.value.data.toList && decide (a.num = 0)
  else if a.kind = 3 then decide (a.value.data.toList = []) && decide (a.num = cutI a.num)
  else false
def rightB (a : ActD) : Bool := keyL a.key.data.toList && kindB a
def rightsB (l : List ActD) : Bool := decide (1 ≤ l.length) && decide (l.length ≤ 6) && l.all rightB
/-- Is one name older than another? -/
def olderB (c1 n1 c2 n2 : Int) : Bool := decide (n1 < n2) || (decide (n1 = n2) && decide (c1 < c2))
end Go.Proofs.YtdmejbjpbjcfbaaGreatDoor
