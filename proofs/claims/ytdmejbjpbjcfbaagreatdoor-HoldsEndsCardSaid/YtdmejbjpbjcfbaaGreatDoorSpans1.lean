/- holds: what is written is read back, plainly. -/
import Derived.Test.YtdmejbjpbjcfbaaGreatDoorHoldR
import Derived.Test.YtdmejbjpbjcfbaaGreatDoorHoldW
import Derived.Test.YtdmejbjpbjcfbaaGreatDoorOneH
namespace Go.Proofs.YtdmejbjpbjcfbaaGreatDoor
open Go.RowKit
structure ActD.back (key : ByteArray) (a : ActD) : Prop where
  ky : a.key = key
  k0 : 0 ≤ a.kind
  k3 : a.kind ≤ 3
  vl : a.value.data.toList.length ≤ 20
  n0 : -1073741824 ≤ a.num
  n1 : a.num ≤ 1073741824
structure Rd.back (key : ByteArray) (r : Rd) : Prop where
  ky : r.key = key
  vl : r.value.data.toList.length ≤ 20
structure HRow (w : World) (B : Nat) (ao : Option Addr) (cap : Nat) (l : List HoldV) (ds : List HoldD) : Prop where
  own : w.ownsRow 0 35 7 (.slice ao l.length cap) l.length (l.flatMap encHV)
  new : ∀ j, (Value.slice ao l.length cap).ownBlock = some j → B ≤ j
  are : HoldsAre w (fun b => (Value.slice ao l.length cap).ownBlock = some b ∨ b < B) l ds
theorem HRow.but {w w' : World} {B cap : Nat} {ao : Option Addr} {l : List HoldV} {ds : List HoldD} {S : Nat → Prop} (h : HRow w B ao cap l ds) (hx : But S w w') (hS : ∀ b, S b → b < B) : HRow w' B ao cap l ds :=
  ⟨own_but h.own hx (fun j hj e => by have := h.new j hj; have := hS j e; omega), h.new, h.are.but hx (fun b _ e => .inr (hS b e))⟩
theorem HRow.ext {w w' : World} {B cap : Nat} {ao : Option Addr} {l : List HoldV} {ds : List HoldD} (h : HRow w B ao cap l ds) (hx : Ext w w') : HRow w' B ao cap l ds := h.but (Ext.but hx (fun _ => False)) (fun _ e => e.elim)
theorem HRow.rows {w : World} {B cap : Nat} {ao : Option Addr} {l : List HoldV} {ds : List HoldD} (h : HRow w B ao cap l ds) : Rows 7 encHV w.heap.size w ao l := rows_of_own (fun _ => rfl) h.own
theorem HRow.nrows {w : World} {B cap : Nat} {ao : Option Addr} {l : List HoldV} {ds : List HoldD} (h : HRow w B ao cap l ds) (no : Nat → Prop) (hno : ∀ b, no b → b < B) : NRows 7 encHV no w ao l ∧ HoldsAre w no l ds :=
  ⟨nrows_of_own (fun _ => rfl) h.own (fun j hj e => by have := h.new j hj; have := hno j e; omega), h.are.mono (fun b _ e => .inr (hno b e))⟩
theorem HRow.len {w : World} {B cap : Nat} {ao : Option Addr} {l : List HoldV} {ds : List HoldD} (h : HRow w B ao cap l ds) : l.length = ds.length := h.are.len
theorem HRow.mono {w : World} {B B' cap : Nat} {ao : Option Addr} {l : List HoldV} {ds : List HoldD} (h : HRow w B ao cap l ds) (hB : B' ≤ B) : HRow w B' ao cap l ds :=
  ⟨h.own, fun j hj => Nat.le_trans hB (h.new j hj), h.are.mono (fun _ _ e => e.elim .inl (fun e => .inr (by omega)))⟩
theorem RowPost.row {yes : List HoldD} {w w' : World} {e : Ending} (h : RowPost yes w e w') : ∃ ao cap l, e = .returned (.slice ao l.length cap) ∧ HRow w' w.heap.size ao cap l yes ∧ Mine w' w.heap.size l ∧ Ext w w' := by
  obtain ⟨r, l, rfl, _, ho, hn, ha, hm, hx⟩ := h
  obtain ⟨ao, cap, rfl⟩ := own_slice ho
  exact ⟨ao, cap, l, rfl, ⟨ho, hn, ha⟩, hm, hx⟩
theorem LessPostN.row {no0 : Nat → Prop} {hb : Nat} {v : Value} {yes no : List HoldD} {w w' : World} {e : Ending} (h : LessPostN no0 hb v yes no w e w') : ∃ ao cap l v', e = .returned (.slice ao l.length cap) ∧ HRow w' w.heap.size ao cap l yes ∧ Mine w' w.heap.size l ∧ TabN no0 w' hb v' no ∧ (∀ j, v'.ownBlock = some j → v.ownBlock = some j) ∧ But (fun j => j = hb ∨ v.ownBlock = some j) w w' := by
  obtain ⟨r, l, v', rfl, _, ho, hn, ha, hm, ht, hv, hx⟩ := h
  obtain ⟨ao, cap, rfl⟩ := own_slice ho
  exact ⟨ao, cap, l, v', rfl, ⟨ho, hn, ha⟩, hm, ht, hv, hx⟩
theorem same_rows {w : World} {B B' cap cap' : Nat} {ao bo : Option Addr} {l m : List HoldV} {ds : List HoldD} (h : HRow w B ao cap l ds) (k : HRow w B' bo cap' m ds) (hl : ds.length ≤ 1000000) (hok : ∀ d ∈ ds, d.fits) :
    Calls Tryz.prog 31 #[.slice ao l.length cap, .slice bo m.length cap'] w fun e w' => e = .returned (.bool true) ∧ Ext w w' :=
  sameHolds_calls l m ds _ _ ao bo cap cap' w (by rw [h.len]; exact hl) h.rows k.rows h.are k.are hok
theorem Ext.butNew {S : Nat → Prop} {w w1 w2 : World} (hx : Ext w w1) (hb : But S w1 w2) (hS : ∀ j, S j → w.heap.size ≤ j) : Ext w w2 :=
  ((Ext.but hx (fun _ => False)).trans hb (U := fun j => w.heap.size ≤ j) (fun _ _ e => e.elim) (fun i _ e => hS i e)).ext (fun _ hi e => absurd hi (Nat.not_lt.2 e))
theorem wr_new {b wb : Nat} (e : b = wb ∨ (Value.slice none 0 0).ownBlock = some b) : b = wb := e.elim id (fun e => by simp [Value.ownBlock] at e)
end Go.Proofs.YtdmejbjpbjcfbaaGreatDoor
