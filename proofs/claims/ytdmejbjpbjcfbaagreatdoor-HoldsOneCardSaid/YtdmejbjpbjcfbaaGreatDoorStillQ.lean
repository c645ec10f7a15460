/- A region that draws its order: reads first, then operations whose order is fixed: the reads are walked by the quick steps of the quiet walk. -/
import Derived.Test.YtdmejbjpbjcfbaaGreatDoorBase
import Derived.Deep.Quiet
import Derived.StillTailTactics
namespace Go.Proofs.YtdmejbjpbjcfbaaGreatDoor
open Go.RowKit

theorem wpStill_of_quiet {P : Program} {ops : Array Oper} {w : World} {Q : Go.Act → Prop} : ∀ {l : List Oper} {a : Go.Act}, wpQuiet P ops (fun w' => ∃ _ : Unit, w' = w) Q l a → wpStill P ops w Q l a
  | [], _, h => h
  | o :: rest, a, h => by
    unfold wpQuiet at h
    unfold wpStill
    split at h
    · rename_i hw
      rw [if_pos hw]
      obtain ⟨v, hv, hK⟩ := h
      have h1 := hv w ⟨(), rfl⟩
      unfold Oper.quietAt at h1
      unfold Oper.still
      have hK' := wpStill_of_quiet hK
      generalize (execOp a.eval o).run P w = r at h1 ⊢
      match r, h1 with
      | .ok (.value u) w', h1 => obtain ⟨rfl, rfl⟩ := h1; exact ⟨rfl, hK'⟩
      | .ok .skip w', h1 => obtain ⟨rfl, rfl⟩ := h1; exact ⟨rfl, hK'⟩
      | .ok (.enter f args) w', h1 =>
        obtain ⟨rfl, h2⟩ := h1
        exact ⟨rfl, v, h2.mono (fun e w'' h => by obtain ⟨h3, _, h4⟩ := h; exact ⟨h3, h4⟩), hK'⟩
    · rename_i hw
      rw [if_neg hw]
      exact wpStill_of_quiet h
theorem wp_region_tail {P : Program} {id : Nat} {Q : Exit → Go.Act → World → Prop} {a : Go.Act} {w : World} {l : List Oper} (n : Nat) (hm : P.follows .mixedOrders = true) (hB : Region.lexTailB .any l.toArray n = true)
    (h : wpQuiet P l.toArray (fun w' => ∃ _ : Unit, w' = w.drew) (fun a' => wpList P l.toArray Q (l.drop n) a' w.drew) (l.take n) a) : (Code.region id l.toArray true).wp P Q a w :=
  wp_region_still_tail n hm hB (wpStill_of_quiet h)
end Go.Proofs.YtdmejbjpbjcfbaaGreatDoor
