/- A region that draws its order, whose operations only read and whose callees read, draw and lay blocks of their own: walked once, at the class of worlds in which all that lay there lies unturned. -/
import Derived.Test.YtdmejbjpbjcfbaaGreatDoorBase
import Derived.Deep.Quiet
namespace Go.Proofs.YtdmejbjpbjcfbaaGreatDoor
open Go.RowKit

/-- A world in which all that lay in w lies unturned. -/
structure ExtBy (w : World) where
  W : World
  ext : Ext w W
instance (w : World) : Inhabited (ExtBy w) := ⟨⟨w, Below.refl _ _⟩⟩
theorem wp_region_ext {P : Program} {id : Nat} {Q : Exit → Go.Act → World → Prop} {a : Go.Act} {w : World} {l : List Oper} (hm : P.follows .mixedOrders = true) (hB : Region.lexB .any l.toArray = true)
    (h : wpQuiet P l.toArray (fun w' => ∃ p : ExtBy w, w' = p.W) (fun a' => ∀ w', (∃ p : ExtBy w, w' = p.W) → Q .normal a' w') l a) : (Code.region id l.toArray true).wp P Q a w :=
  wp_region_quiet (C := fun w' => ∃ p : ExtBy w, w' = p.W) hm hB ⟨⟨w.drew, (Below.refl _ w).drew⟩, rfl⟩ (by simpa using h)
theorem Calls.ext_of {P : Program} {f : FuncId} {args : Array Value} {w : World} {v : Value} (p : ExtBy w)
    (h : Calls P f args p.W fun e w' => e = .returned v ∧ Ext p.W w') : Calls P f args p.W fun e w'' => e = .returned v ∧ ∃ q : ExtBy w, w'' = q.W :=
  h.mono fun _ w' ⟨he, hx⟩ => ⟨he, ⟨w', Ext.trans p.ext hx⟩, rfl⟩
theorem Calls.ext_of_same {P : Program} {f : FuncId} {args : Array Value} {w : World} {v : Value} (p : ExtBy w)
    (h : Calls P f args p.W fun e w' => e = .returned v ∧ p.W = w') : Calls P f args p.W fun e w'' => e = .returned v ∧ ∃ q : ExtBy w, w'' = q.W :=
  h.mono fun _ _ ⟨he, hx⟩ => ⟨he, p, hx.symm⟩
theorem ExtBy.cell {w : World} {b i : Nat} {v : Value} (h : w.cell? ⟨b, i, none⟩ = some v) : ∀ p : ExtBy w, p.W.cell? ⟨b, i, none⟩ = some v :=
  fun p => (p.ext.cell (p := ⟨b, i, none⟩) (block_lt_of_cell h)).trans h
end Go.Proofs.YtdmejbjpbjcfbaaGreatDoor
