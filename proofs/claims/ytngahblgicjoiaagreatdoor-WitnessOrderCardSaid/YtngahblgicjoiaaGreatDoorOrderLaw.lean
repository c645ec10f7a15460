/- What WitnessOrder asks, in plain Lean. -/
import Derived.Test.YtngahblgicjoiaaGreatDoorDoP
namespace Go.Proofs.YtngahblgicjoiaaGreatDoor
open Go.RowKit

theorem fit_zero (ds : List StepD) : (fitD ds).1 ≤ ds.length ∧ (((fitD ds).2 == 0) = ((((fitD ds).1 : Nat) : Int) == ((ds.length : Nat) : Int))) ∧ (∀ (j : Nat) (y : StepD), j < (fitD ds).1 → ds[j]? = some y → nextE (histAt ds j) y = 0) := by
  rcases fit_cases ds with ⟨e, h⟩ | ⟨i, x, hx, ha, he, e⟩
  · rw [e]
    exact ⟨Nat.le_refl _, by simp, fun j y _ hy => h j y hy⟩
  · rw [e]
    have hi := (List.getElem?_eq_some_iff.1 hx).1
    refine ⟨Nat.le_of_lt hi, ?_, fun j y hj hy => ha j y hj hy⟩
    have h1 : (nextE (histAt ds i) x == 0) = false := by simpa using he
    have h2 : (((i : Nat) : Int) == ((ds.length : Nat) : Int)) = false := by simp; omega
    rw [h1, h2]
theorem fit_again (ds : List StepD) : fitD (ds.take (fitD ds).1) = ((fitD ds).1, 0) := fit_ahead (fit_zero ds).1 (fit_zero ds).2.2
theorem fit_last (ds : List StepD) {k : Nat} {x : StepD} (hk : (fitD ds).1 = k + 1) (hx : ds[k]? = some x) : doS (afterD (ds.take k)) x = (afterD (ds.take (k + 1)), x.reads) := by
  obtain ⟨h1, -, h3⟩ := fit_zero ds
  have hz := nextE_zero (h3 k x (by omega) hx)
  have hh := hist_after (l := ds) (n := k) (by omega) (fun j y hj hy => h3 j y (by omega) hy)
  rw [hh] at hz
  have hs := (soundB_iff _).2 (after_sound _ (ds.take k) rfl)
  have hd : doS (afterD (ds.take k)) x = doneD (afterD (ds.take k)) x.acts := by unfold doS; rw [if_pos ⟨hz.1, hs⟩]
  rw [hd, afterD_succ hx]
  have hr : afterR (afterD (ds.take k)) x = (doneD (afterD (ds.take k)) x.acts).1 := by unfold afterR; rw [if_pos hz.1]
  rw [hr, ← hz.2.2]
end Go.Proofs.YtngahblgicjoiaaGreatDoor
