/- Holds that are few are small. -/
import Derived.Test.YtdmejbjpbjcfbaaGreatDoorHoldW
namespace Go.Proofs.YtdmejbjpbjcfbaaGreatDoor
open Go.RowKit

theorem actsN_small {most : Nat} : ∀ (l : List ActD) (n : Nat), actsN most n l ≤ most → n ≤ most ∧ ∀ a ∈ l, a.value.size / 8 ≤ most
  | [], n, h => ⟨by simpa [actsN] using h, fun _ h => by simp at h⟩
  | a :: l, n, h => by
    rw [actsN] at h
    split at h
    · have ih := actsN_small l _ h
      refine ⟨by omega, fun b hb => ?_⟩
      rcases List.mem_cons.1 hb with rfl | hb
      · omega
      · exact ih.2 b hb
    · omega
theorem readsN_small {most : Nat} : ∀ (l : List Rd) (n : Nat), readsN most n l ≤ most → n ≤ most ∧ ∀ a ∈ l, a.value.size / 8 ≤ most
  | [], n, h => ⟨by simpa [readsN] using h, fun _ h => by simp at h⟩
  | a :: l, n, h => by
    rw [readsN] at h
    split at h
    · have ih := readsN_small l _ h
      refine ⟨by omega, fun b hb => ?_⟩
      rcases List.mem_cons.1 hb with rfl | hb
      · omega
      · exact ih.2 b hb
    · omega
theorem holdsN_small {most : Nat} : ∀ (l : List HoldD) (n : Nat), holdsN most n l ≤ most → n ≤ most ∧ ∀ d ∈ l, d.key.size / 8 ≤ most ∧ d.value.size / 8 ≤ most ∧ (∀ a ∈ d.acts, a.value.size / 8 ≤ most) ∧ ∀ r ∈ d.reads, r.value.size / 8 ≤ most
  | [], n, h => ⟨by simpa [holdsN] using h, fun _ h => by simp at h⟩
  | a :: l, n, h => by
    rw [holdsN] at h
    split at h
    · have ih := holdsN_small l _ h
      have h1 := readsN_small (most := most) a.reads (holdN most n a) ih.1
      have h0 : n + 1 + a.key.size / 8 + a.value.size / 8 + actsN most 0 a.acts ≤ most := h1.1
      have h2 := actsN_small (most := most) a.acts 0 (by omega)
      refine ⟨by omega, fun d hd => ?_⟩
      rcases List.mem_cons.1 hd with rfl | hd
      · exact ⟨by omega, by omega, h2.2, h1.2⟩
      · exact ih.2 d hd
    · omega
/-- What stands of holds that are not too many. -/
structure Few (dl : List HoldD) : Prop where
  len : dl.length ≤ 1500
  ok : ∀ d ∈ dl, d.ok
  fits : ∀ d ∈ dl, d.fits
  wfit : ∀ d ∈ dl, d.wfit
theorem few_of {dl : List HoldD} (h : holdsN 1500 0 dl ≤ 1500) (hok : ∀ d ∈ dl, d.acts.length ≤ 1000000 → d.reads.length ≤ 1000000 → d.ok) : Few dl := by
  obtain ⟨h1, h2⟩ := holdsN_le dl 0 h
  obtain ⟨_, h3⟩ := holdsN_small dl 0 h
  have ok : ∀ d ∈ dl, d.ok := fun d hd => hok d hd (by have := h2 d hd; omega) (by have := h2 d hd; omega)
  refine ⟨by omega, ok, fun d hd => ⟨by have := h2 d hd; omega, by have := h2 d hd; omega⟩, fun d hd => ?_⟩
  obtain ⟨a1, a2⟩ := h2 d hd
  obtain ⟨b1, b2, b3, b4⟩ := h3 d hd
  exact ⟨by omega, by omega, by omega, by omega, fun a ha => ⟨by have := b3 a ha; omega, ((ok d hd).acts a ha).1, ((ok d hd).acts a ha).2.1⟩, fun r hr => by have := b4 r hr; omega⟩
end Go.Proofs.YtdmejbjpbjcfbaaGreatDoor
