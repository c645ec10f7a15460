/- The evaluator: calls of functions that defer one quiet closure. -/
import Derived.Test.YtedokmdoompidaaGreatDoorEvP
import Derived.Test.YtedokmdoompidaaGreatDoorEvDr
namespace Go.Proofs.YtedokmdoompidaaGreatDoor.Ev

def splitLast : List Oper → Option (List Oper × Oper)
  | [] => none
  | o :: l => match splitLast l with
    | some (p, x) => some (o :: p, x)
    | none => some ([], o)
theorem splitLast_eq : ∀ (l p : List Oper) (x : Oper), splitLast l = some (p, x) → l = p ++ [x]
  | [], p, x, h => by cases h
  | o :: l, p, x, h => by
    simp only [splitLast] at h
    cases hl : splitLast l with
    | none =>
      rw [hl] at h
      simp only [Option.some.injEq, Prod.mk.injEq] at h
      obtain ⟨rfl, rfl⟩ := h
      cases l with
      | nil => rfl
      | cons y l => simp only [splitLast] at hl; split at hl <;> cases hl
    | some r =>
      obtain ⟨q, y⟩ := r
      rw [hl] at h
      simp only [Option.some.injEq, Prod.mk.injEq] at h
      obtain ⟨rfl, rfl⟩ := h
      rw [splitLast_eq l q y hl]; rfl
/-- What is deferred: the slot of the closure. -/
def defSlot (o : Oper) : Option Nat := match o.op with
  | .defer c => (match c.callee with
    | .value (.tmp t) => bif isDef o t then some t else none
    | _ => none)
  | _ => none
theorem defSlot_is {o : Oper} {t : Nat} (h : defSlot o = some t) : isDef o t = true := by
  unfold defSlot at h
  split at h
  · split at h
    · rename_i t' _
      cases hb : isDef o t' with
      | true => rw [hb] at h; simp only [cond_true, Option.some.injEq] at h; rw [← h]; exact hb
      | false => rw [hb] at h; cases h
    · cases h
  · cases h
structure DefShape where
  c0 : Code
  id : Nat
  ops : Array Oper
  pre : List Oper
  o : Oper
  t : Nat
  rest : Code
def defShape : Code → Option DefShape
  | .seq c0 (.seq (.region id ops false) rest) => (match splitLast ops.toList with
    | some (pre, o) => (match defSlot o with
      | some t => some ⟨c0, id, ops, pre, o, t, rest⟩
      | none => none)
    | none => none)
  | _ => none
theorem defShape_eq {c : Code} {s : DefShape} (h : defShape c = some s) : c = .seq s.c0 (.seq (.region s.id s.ops false) s.rest) ∧ s.ops.toList = s.pre ++ [s.o] ∧ isDef s.o s.t = true := by
  unfold defShape at h
  split at h
  · rename_i c0 id ops rest
    split at h
    · rename_i pre o hs
      split at h
      · rename_i t ht
        injection h with h
        subst h
        exact ⟨rfl, splitLast_eq _ _ _ hs, defSlot_is ht⟩
      · cases h
    · cases h
  · cases h
def noCall : FuncId → List AV → St → Option (AV × St) := fun _ _ _ => none
def resD (P : Program) (fn : Func) (o : Option Out) : Option (AV × St) := match o with
  | some (.mk .nrm T S) => (match resA P T S fn.results.toList with | some vs => some (oneA vs, S) | none => none)
  | some (.mk .ret T S) => (match resA P T S fn.results.toList with | some vs => some (oneA vs, S) | none => none)
  | _ => none
def callDef (P : Program) (GS : Nat → Option Nat) (ev : Nat → Code → Tr AV → St → Option Out) (fn : Func) (s : DefShape) (args : List AV) (S : St) : Option (AV × St) :=
  match Tr.putAll args .leaf 0 with
  | some T => (match ev fn.ntmps s.c0 T S with
    | some (.mk .nrm T1 S1) => (match evSeq P noCall GS fn.ntmps s.ops s.pre T1 S1 with
      | some (T2, S2) => (match T2.get s.t with
        | some (.fn g [] _) => bif quietF P g && okFn P g then resD P fn (ev fn.ntmps s.rest T2 S2) else none
        | _ => none)
      | none => none)
    | _ => none)
  | none => none
/-- A call: of a function that defers, of another. -/
def evCallD (P : Program) (GS : Nat → Option Nat) (ev : Nat → Code → Tr AV → St → Option Out) (f : FuncId) (args : List AV) (S : St) : Option (AV × St) :=
  match (P.funcs[f]?).bind (fun fn => fn.body.bind fun c => (defShape c).map fun s => (fn, s)) with
  | some (fn, s) => callDef P GS ev fn s args S
  | none => evCallBy P ev f args S
end Go.Proofs.YtedokmdoompidaaGreatDoor.Ev
