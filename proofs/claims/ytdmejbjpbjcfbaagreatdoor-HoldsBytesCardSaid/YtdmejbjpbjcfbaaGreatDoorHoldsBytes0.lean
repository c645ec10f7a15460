/- HoldsBytes: what is plain. -/
import Derived.Test.YtdmejbjpbjcfbaaGreatDoorHoldR
namespace Go.Proofs.YtdmejbjpbjcfbaaGreatDoor
open Go.RowKit

theorem holdsK_okD {s : RSt} : ∀ {k : Nat} {l : List HoldD} {s1 : RSt}, holdsK s k = some (l, s1) → ∀ d ∈ l, d.ok
  | 0, l, s1, h => by
    simp only [holdsK, Option.some.injEq, Prod.mk.injEq] at h
    rw [← h.1]; intro d hd; simp at hd
  | k + 1, l, s1, h => by
    obtain ⟨l0, s0, h1, rfl, _⟩ := holdsK_prev h
    intro d hd
    rcases List.mem_append.1 hd with hd | hd
    · exact holdsK_okD h1 d hd
    · rw [List.mem_singleton] at hd
      subst hd
      exact holdS_ok s0
/-- What is told of bytes that are read. -/
theorem holdsS_some {s s1 : RSt} {l : List HoldD} (h : holdsS s = some (l, s1)) : s1.fl = false ∧ l.length ≤ 60 ∧ ∀ d ∈ l, d.fits := by
  unfold holdsS at h
  have hn := numS_le 60 s
  cases hk : holdsK (numS 60 s).2 (numS 60 s).1 with
  | none => rw [hk] at h; cases h
  | some p =>
    obtain ⟨l0, s0⟩ := p
    rw [hk] at h
    simp only at h
    split at h
    · cases h
    · rename_i hf
      simp only [Option.some.injEq, Prod.mk.injEq] at h
      obtain ⟨rfl, rfl⟩ := h
      exact ⟨by simpa using hf, by rw [holdsK_len hk]; exact hn, fun d hd => ⟨(holdsK_okD hk d hd).an, (holdsK_okD hk d hd).rn⟩⟩
end Go.Proofs.YtdmejbjpbjcfbaaGreatDoor
