/- What the rows' listed variables are; a world in which they hold. -/
import Derived.Test.YtdmejbjpbjcfbaaGreatDoorBase
import Derived.Test.YtdmejbjpbjcfbaaGreatDoorRows
import Derived.ProofKit
import Derived.Lay
import Derived.LaidMore
import Derived.Stop.Joined
import Derived.Stop.LaidErr
import Derived.Lib.LaidTab
import Derived.Test.YtdmejbjpbjcfbaaGreatDoorOpen
import Derived.Test.YtdmejbjpbjcfbaaGreatDoorHoldDefs
import Derived.Test.YtdmejbjpbjcfbaaGreatDoorRefOnes
import Derived.Test.YtdmejbjpbjcfbaaGreatDoorCards
import Derived.Test.YtdmejbjpbjcfbaaGreatDoorTie
import Derived.SevenTiedAt
namespace Go.Proofs.YtdmejbjpbjcfbaaGreatDoor
open Go.RowKit
theorem own : ownKnob Tryz.prog.godebug = none := by kernel_rfl
def laidAllD : List (String × DataW Unit) := [("unicode/utf8.acceptRanges", Rows.laid_unicode_utf8_acceptRanges), ("unicode/utf8.first", Rows.laid_unicode_utf8_first)]
theorem door_met (os : Os) (args : Array Value) : laidMetH Tryz.prog laidAllD ((World.laidAll Tryz.prog os laidAllD).forCall (fun _ _ => 0) ⟨#[], args, []⟩).memory := by
  rw [MakeChecks.laidMetH_plain _ _ _ (by kernel_rfl)]
  exact laidMet_laidAll _ (by kernel_rfl) (by kernel_rfl)
end Go.Proofs.YtdmejbjpbjcfbaaGreatDoor
/- A slice of holds, opened: from the data that a row reads to the cells that a walk reads. -/
namespace Go.Proofs.YtdmejbjpbjcfbaaGreatDoor
open Go.ChangeShapes Go.WideShapes Go.ChangeAt Go.RowKit Go.Deep Go.Joins
def Rd.fits (r : Rd) (ws : List Nat) : Prop := r.key.size ∈ ws ∧ r.value.size ∈ ws
section
variable {H : Type} {P : Program} {enc : TypeId × Value → H} {w : World} {base : Nat} {spare : Nat → Bool} {held : Bool}
end
structure HoldD.fitsW (d : HoldD) (ws : List Nat) : Prop where
  ks : d.key.size ∈ ws
  vs : d.value.size ∈ ws
  cl : -9223372036854775808 ≤ d.cl ∧ d.cl ≤ 9223372036854775807
  nm : -9223372036854775808 ≤ d.nm ∧ d.nm ≤ 9223372036854775807
  an : d.acts.length ≤ 9223372036854775807
  rn : d.reads.length ≤ 9223372036854775807
  acts : ∀ a ∈ d.acts, a.fits ws
  reads : ∀ r ∈ d.reads, r.fits ws
theorem HoldD.fitsW.small {d : HoldD} {ws : List Nat} (h : d.fitsW ws) (hw : ws.all (· ≤ reachBytes) = true) : d.small := by
  have hb : ∀ z ∈ ws, z ≤ 140737488351232 := fun z hz => of_decide_eq_true (List.all_eq_true.1 hw z hz)
  exact ⟨hb _ h.ks, hb _ h.vs, h.an, h.rn, fun a ha => ⟨hb _ (h.acts a ha).2.2.1, hb _ (h.acts a ha).2.2.2⟩, fun r hr => ⟨hb _ (h.reads r hr).1, hb _ (h.reads r hr).2⟩⟩
theorem HoldD.fitsW.ok {d : HoldD} {ws : List Nat} (h : d.fitsW ws) (hw : ws.all (· ≤ reachBytes) = true) (ha : d.acts.length ≤ 1000000) (hr : d.reads.length ≤ 1000000) : d.ok := by
  have hs := h.small hw
  exact ⟨fun a ha => (h.acts a ha).ok hw, ha, hr, hs.ks, hs.vs, fun r hr => (hs.reads r hr).2⟩
end Go.Proofs.YtdmejbjpbjcfbaaGreatDoor
/- What every lift of this seat uses: all arguments stay, a Name by value is opened. -/
namespace Go.Proofs.YtdmejbjpbjcfbaaGreatDoor
open Go.ChangeShapes Go.WideShapes Go.ChangeAt Go.RowKit Go.ChangeMaps Go.Joins
theorem laidOut : laidOutB Tryz.prog = true := by kernel_rfl
theorem below_trodAll {H : Type} {enc : TypeId × Value → H} {P : Program} (hl : laidOutB P = true) {W W' : World} (hb : Below W.heap.size W W') :
    ∀ {ts : List TypeId} {vs : List Value} {ds : List (DataW H)} {ps : List MemPlace}, (ts.all fun t => P.readableRec t && decide (t < P.types.size)) = true → DataW.TrodAll enc P W 0 (fun _ => true) true ts vs ds ps → (∀ x ∈ ps, x.block < W.heap.size) →
      DataW.TrodAll enc P W' 0 (fun b => decide (b < W.heap.size)) true ts vs ds ps
  | [], [], [], _, _, h, _ => h
  | [], _ :: _, _, _, _, h, _ => h.elim
  | [], [], _ :: _, _, _, h, _ => h.elim
  | _ :: _, [], _, _, _, h, _ => h.elim
  | _ :: _, _ :: _, [], _, _, h, _ => h.elim
  | t :: ts, v :: vs, d :: ds, _, hr, h, hlt => by
    obtain ⟨p, q, h1, h2, rfl⟩ := h
    rw [List.all_cons, Bool.and_eq_true, Bool.and_eq_true] at hr
    exact ⟨p, q, Below.trod hl hr.1.1 (of_decide_eq_true hr.1.2) h1 hb (fun x hx => hlt x (List.mem_append_left _ hx)), below_trodAll hl hb hr.2 h2 (fun x hx => hlt x (List.mem_append_right _ hx)), rfl⟩
end Go.Proofs.YtdmejbjpbjcfbaaGreatDoor
/- A span, opened: from the data that a row reads. -/
namespace Go.Proofs.YtdmejbjpbjcfbaaGreatDoor
open Go.ChangeShapes Go.WideShapes Go.ChangeAt Go.RowKit Go.ChangeMaps Go.Joins
end Go.Proofs.YtdmejbjpbjcfbaaGreatDoor
