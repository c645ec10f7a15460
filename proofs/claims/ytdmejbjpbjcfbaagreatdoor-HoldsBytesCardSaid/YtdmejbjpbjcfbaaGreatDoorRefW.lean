/- watershedref02: what is written, by the document. -/
import Derived.Test.YtdmejbjpbjcfbaaGreatDoorWire
import Derived.IntWalk
namespace Go.Proofs.YtdmejbjpbjcfbaaGreatDoor
open Go.RowKit

theorem own_set {w : World} {B : Nat} {e : TypeId} {size n cap g : Nat} {xs : List Value} (h : w.ownsRow B e size (.slice (some ⟨g, 0, none⟩) n cap) n xs) (j : Nat) (u : Value) : (w.setCell ⟨g, j, none⟩ u).ownsRow B e size (.slice (some ⟨g, 0, none⟩) n cap) n (xs.set j u) := by
  obtain ⟨h1, h2⟩ := h
  refine ⟨by simpa using h1, .inr ?_⟩
  rcases h2 with ⟨h2, _⟩ | ⟨g', cap', cur, hv, hB, hg, hn, hm, hc, ht⟩
  · cases h2
  · simp only [Value.slice.injEq, Option.some.injEq, Addr.mk.injEq, and_true, true_and] at hv
    obtain ⟨rfl, rfl⟩ := hv
    have hb : Blk w g cur.toList e := by unfold Blk; rw [hg]
    have hs := hb.set j u
    unfold Blk at hs
    refine ⟨g, cap, (cur.toList.set j u).toArray, rfl, hB, hs, hn, hm, by simpa using hc, ?_⟩
    rw [List.toList_toArray, ← ht, List.take_set]
theorem or128b (c : Nat) (h : c < 128) : bits .or .u8 (c : Int) 128 = (((UInt8.ofNat (c + 128)).toNat : Nat) : Int) := by
  have h2 : ∀ m : Fin 128, bits .or .u8 ((m.val : Nat) : Int) 128 = ((m.val + 128 : Nat) : Int) := by decide
  have := h2 ⟨c, h⟩
  simp only at this
  rw [this, UInt8.toNat_ofNat']
  omega
theorem wrap_u8 (c : Int) (h0 : 0 ≤ c) (h1 : c < 256) : IntKind.u8.wrap c = c := by
  simp only [IntKind.wrap, IntKind.bits, IntKind.signed]; simp; omega
/-- What is left of a number behind its byte c. -/
def lastB (c k : Nat) : List UInt8 := if k = 0 then [UInt8.ofNat c] else UInt8.ofNat (c + 128) :: numB k
theorem numB_last' (n : Nat) : numB n = lastB (n % 128) (n / 128) := by
  rw [numB, lastB]
  split
  · rename_i h
    rw [if_pos (by omega), Nat.mod_eq_of_lt h]
  · rw [if_neg (by omega)]
end Go.Proofs.YtdmejbjpbjcfbaaGreatDoor
