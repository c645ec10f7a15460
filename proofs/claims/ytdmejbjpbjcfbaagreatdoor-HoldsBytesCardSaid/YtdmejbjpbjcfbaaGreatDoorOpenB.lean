/- A row of bytes, opened. -/
import Derived.Test.YtdmejbjpbjcfbaaGreatDoorLiftH
import Derived.Test.YtdmejbjpbjcfbaaGreatDoorWire
namespace Go.Proofs.YtdmejbjpbjcfbaaGreatDoor
open Go.ChangeShapes Go.WideShapes Go.ChangeAt Go.RowKit Go.ChangeMaps Go.Joins

set_option maxRecDepth 100000 in
theorem open_bytes {H : Type} {enc : TypeId × Value → H} {W : World} {sp : Nat → Bool} {held : Bool} {fuel : Nat} {cs : List Value} {x : DataW H × List MemPlace} (h : DataW.trod enc Tryz.prog W 0 sp held fuel 46 cs = some x) :
    ∃ (ao : Option Addr) (cap : Nat) (l : List UInt8), cs = [.slice ao l.length cap] ∧ l.length ≤ cap ∧ cap ≤ maxLen ∧ Rows 1 encU8 W.heap.size W ao l := by
  rcases open_ints Tryz.underlying46 Tryz.underlying5 (by kernel_rfl) h with ⟨rfl, rfl⟩ | ⟨a, len, cap, zs, rfl, _, hl, hm, hz, _, hc, hw⟩
  · exact ⟨none, 0, [], rfl, Nat.le_refl _, by simp [maxLen], Rows.nil _ _ _ _ _⟩
  have hlz : len ≤ zs.length := by rw [hz]; split <;> omega
  have hll : ((zs.take len).map fun z : Int => UInt8.ofNat z.toNat).length = len := by rw [List.length_map, List.length_take]; omega
  refine ⟨some a, cap, (zs.take len).map (fun z => UInt8.ofNat z.toNat), by rw [hll], by rw [hll]; exact hl, hm, ?_⟩
  intro hne
  have hpos : 0 < len := by
    rcases Nat.eq_zero_or_pos len with h0 | h0
    · subst h0; exact absurd (by simp) hne
    · exact h0
  obtain ⟨b, off, spot⟩ := a
  have h00 := hc 0 (by omega)
  have hs : spot = none ∧ b < W.heap.size := by
    unfold Addr.add at h00
    simp only [Nat.add_zero, if_true] at h00
    unfold World.cell? at h00
    cases hb : W.heap[b]? with
    | none => simp [hb] at h00
    | some o =>
      refine ⟨?_, lt_of_block hb⟩
      cases spot with
      | none => rfl
      | some s => cases o <;> simp [hb] at h00
  obtain ⟨rfl, hbl⟩ := hs
  refine ⟨b, off, rfl, hbl, fun i y hi j v hj => ?_⟩
  have hil : i < len := by
    have := (List.getElem?_eq_some_iff.1 hi).1
    rwa [hll] at this
  rw [List.getElem?_map, List.getElem?_take_of_lt hil] at hi
  cases hzi : zs[i]? with
  | none => rw [hzi] at hi; cases hi
  | some z =>
    rw [hzi] at hi
    have hy : UInt8.ofNat z.toNat = y := Option.some.inj hi
    have hwz := hw z (List.mem_of_getElem? hzi)
    have hzb : 0 ≤ z ∧ z ≤ 255 := by
      simpa [Lit.wf, IntKind.min, IntKind.max, IntKind.signed, IntKind.bits] using hwz
    have hci := hc i (by omega)
    rw [add_plain, List.getD_eq_getElem?_getD, hzi] at hci
    have hyn : (y.toNat : Int) = z := by
      rw [← hy, UInt8.toNat_ofNat']
      omega
    match j, hj with
    | 0, hj =>
      simp only [encU8, List.getElem?_cons_zero, Option.some.injEq] at hj
      rw [← hj, hyn, Nat.mul_one, Nat.add_zero]
      exact hci
    | j + 1, hj => simp [encU8] at hj
end Go.Proofs.YtdmejbjpbjcfbaaGreatDoor
