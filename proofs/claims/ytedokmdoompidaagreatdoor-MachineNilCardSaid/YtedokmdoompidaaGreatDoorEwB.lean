/- The quick evaluator: addresses, arithmetic, operations. -/
import Derived.Test.YtedokmdoompidaaGreatDoorEwA
namespace Go.Proofs.YtedokmdoompidaaGreatDoor.Ev

noncomputable def faT (P : Program) (t : TypeId) (f : Nat) : Option Nat :=
  match P.underlying t with
  | some (.struct fs) => (match fs[f]? with
    | some fd => (match szOf P fd.type with
      | some (_ + 1) => some fd.offset
      | _ => none)
    | none => none)
  | _ => none
noncomputable def fieldAddrF (P : Program) (t : TypeId) (x : AV) (f : Nat) : Option AV := ob (ptrOf x) (fun p => ob (faT P t f) (fun d => some (.ptr p.1 (Nat.add p.2 d))))
theorem fieldAddrF_eq (P : Program) (t : TypeId) (x : AV) (f : Nat) : fieldAddrF P t x f = fieldAddrA P t x f := by
  unfold fieldAddrF fieldAddrA faT
  cases P.underlying t with
  | none => cases x <;> rfl
  | some d =>
    cases d <;> cases x <;> first | rfl | skip
    rename_i fs b o
    show ob (some (b, o)) _ = _
    simp only [ob_some]
    cases fs[f]? with
    | none => rfl
    | some fd =>
      simp only
      cases szOf P fd.type with
      | none => rfl
      | some n => cases n <;> rfl
noncomputable def idxT (P : Program) (t : TypeId) : Option (Option Nat × Nat) :=
  match P.underlying t with
  | some (.array n e) => (match szOf P e with | some s => some (some n, s) | none => none)
  | some (.slice e) => (match szOf P e with | some s => some (none, s) | none => none)
  | _ => none
noncomputable def indexAddrF (P : Program) (t : TypeId) (x i : AV) : Option AV :=
  ob (natOf i) (fun k => ob (idxT P t) (fun d => Option.rec (motive := fun _ => Option AV)
    (ob (rowOf x) (fun r => ife (Nat.ble (Nat.succ k.2) r.2.2) (some (.ptr r.1 (Nat.add r.2.1 (Nat.mul k.2 d.2))))))
    (fun n => ob (ptrOf x) (fun p => ife (Nat.ble (Nat.succ k.2) n) (some (.ptr p.1 (Nat.add p.2 (Nat.mul k.2 d.2)))))) d.1))
theorem indexAddrF_eq (P : Program) (t : TypeId) (x i : AV) : indexAddrF P t x i = indexAddrA P t x i := by
  unfold indexAddrF indexAddrA
  cases i <;> first | rfl | skip
  rename_i k i
  cases i with
  | negSucc m =>
    show none = _
    simp only [natBelow]
    cases P.underlying t with
    | none => rfl
    | some d => cases d <;> cases x <;> rfl
  | ofNat m =>
    show ob (some (k, m)) _ = _
    simp only [ob_some, natBelow]
    cases hd : P.underlying t with
    | none => have hi : idxT P t = none := by simp only [idxT, hd]
              rw [hi]; rfl
    | some d =>
      cases d <;> first
        | (have hi : idxT P t = none := by simp only [idxT, hd]
           rw [hi]; rfl)
        | skip
      · rename_i e
        cases hz : szOf P e with
        | none =>
          have hi : idxT P t = none := by simp only [idxT, hd, hz]
          rw [hi]
          cases x <;> first
            | rfl
            | (rename_i b o n c; simp only [ob_none, hz]; cases Nat.blt m n <;> rfl)
        | some s =>
          have hi : idxT P t = some (none, s) := by simp only [idxT, hd, hz]
          rw [hi]
          cases x <;> first
            | rfl
            | (rename_i b o n c
               show ife (Nat.blt m n) _ = _
               simp only [hz]
               cases Nat.blt m n <;> rfl)
      · rename_i n e
        cases hz : szOf P e with
        | none =>
          have hi : idxT P t = none := by simp only [idxT, hd, hz]
          rw [hi]
          cases x <;> first
            | rfl
            | (simp only [ob_none, hz]; cases Nat.blt m n <;> rfl)
        | some s =>
          have hi : idxT P t = some (some n, s) := by simp only [idxT, hd, hz]
          rw [hi]
          cases x <;> first
            | rfl
            | (show ife (Nat.blt m n) _ = _
               simp only [hz]
               cases Nat.blt m n <;> rfl)
noncomputable def extractF (x : AV) (i : Nat) : Option AV := ob (tupOf x) (fun l => nthF l i)
theorem extractF_eq (x : AV) (i : Nat) : extractF x i = extractA x i := by
  cases x <;> first | rfl | skip
  exact nthF_eq _ _
noncomputable def sliceT (P : Program) (t : TypeId) : Bool := match P.underlying t with
  | some (.slice _) => true
  | _ => false
noncomputable def lenF (P : Program) (S : St) (t : TypeId) (x : AV) : Option AV :=
  Option.rec (motive := fun _ => Option AV) (lenA P S t x) (fun r => Bool.rec (motive := fun _ => Option AV) (lenA P S t x) (some (.int .i64 (.ofNat r.2.2))) (sliceT P t)) (rowOf x)
theorem lenF_eq (P : Program) (S : St) (t : TypeId) (x : AV) : lenF P S t x = lenA P S t x := by
  cases x <;> first | rfl | skip
  all_goals
    rename_i b o n c
    show Bool.rec (motive := fun _ => Option AV) _ (some (.int .i64 (.ofNat n))) (sliceT P t) = _
    unfold sliceT lenA
    cases P.underlying t with
    | none => rfl
    | some d => cases d <;> rfl
end Go.Proofs.YtedokmdoompidaaGreatDoor.Ev
