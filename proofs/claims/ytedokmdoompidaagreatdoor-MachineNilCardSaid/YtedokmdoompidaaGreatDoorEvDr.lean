/- The evaluator: the operation that defers a closure. -/
import Derived.Test.YtedokmdoompidaaGreatDoorEvDq
namespace Go.Proofs.YtedokmdoompidaaGreatDoor.Ev

def isDef (o : Oper) (t : Nat) : Bool := match o.guard, o.dst, o.op with
  | none, none, .defer c => (match c.callee with
    | .value (.tmp t') => Nat.beq t t' && Nat.beq c.args.size 0
    | _ => false)
  | _, _, _ => false
theorem isDef_run {P : Program} {o : Oper} {t : Nat} (h : isDef o t = true) (a : Act) (w : World) {g : FuncId} {cap : Array Value} (hv : a.tmps.getD t undef = .func (.func g) #[] cap) :
    o.guard = none ∧ o.dst = none ∧ ∃ d : Deferred, (execOp a.eval o).run P w = .ok (.defer d) w ∧ d.target = .fn (.func g) cap ∧ d.args = #[] := by
  obtain ⟨dst, op, ty, p, af, gd⟩ := o
  unfold isDef at h
  simp only at h
  split at h
  · rename_i c
    obtain ⟨ce, args, at'⟩ := c
    simp only at h
    split at h
    · simp only [Bool.and_eq_true] at h
      obtain ⟨h1, h2⟩ := h
      obtain rfl : args = #[] := Array.eq_empty_of_size_eq_zero (Nat.eq_of_beq_eq_true h2)
      rw [← Nat.eq_of_beq_eq_true h1]
      have hv' : a.tmps[t]?.getD undef = .func (.func g) #[] cap := by simpa using hv
      refine ⟨rfl, rfl, ⟨.fn (.func g) cap, #[]⟩, ?_, rfl, rfl⟩
      simp [execOp, resolve, Act.eval, hv', Deferred.ofValue]
    · cases h
  · cases h
end Go.Proofs.YtedokmdoompidaaGreatDoor.Ev
