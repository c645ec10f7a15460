/- The evaluator: operations, regions in the text's order, code, calls. -/
import Derived.Test.YtedokmdoompidaaGreatDoorEvO
namespace Go.Proofs.YtedokmdoompidaaGreatDoor.Ev

inductive AE where
  | nrm
  | ex (id : Nat)
  | go (l : Nat)
  | ret
inductive Out where
  | mk (e : AE) (T : Tr AV) (S : St)

def alloc1 (S : St) (r : Blk × (Nat → AV)) : Option (AV × St) :=
  match S.h.put (some r.1) 24 S.nx with
  | some h => some (r.2 S.nx, ⟨h, S.nx + 1⟩)
  | none => none
def okFn (P : Program) (f : FuncId) : Bool := match P.funcs[f]? with
  | some fn => !(fn.name == "runtime.NumGoroutine") && !fn.body.isNone
  | none => false
/-- A call of a function of the program's. -/
def callA (P : Program) (call : FuncId → List AV → St → Option (AV × St)) (GS : Nat → Option Nat) (T : Tr AV) (S : St) (op : Op) : Option (AV × St) :=
  match op with
  | .call { callee := .value f, args, .. } => (match opd GS T f, opds GS T args.toList with
    | some (.fn g first cap), some vs => bif okFn P g then call g (first ++ vs ++ cap) S else none
    | _, _ => none)
  | _ => none
def evOp (P : Program) (call : FuncId → List AV → St → Option (AV × St)) (GS : Nat → Option Nat) (T : Tr AV) (S : St) (op : Op) : Option (AV × St) :=
  match rd P GS T S op with
  | some v => some (v, S)
  | none => match alA P GS T op with
    | some r => alloc1 S r
    | none => match wr P GS T S op with
      | some r => some r
      | none => callA P call GS T S op
/-- Whether a guard wants its operation. -/
def gd (ops : Array Oper) (T : Tr AV) (o : Oper) : Option Bool :=
  match o.guard with
  | none => some true
  | some (j, want) => match (ops[j]?).bind (·.dst) with
    | some t => (match T.get t with
      | some (.bool b) => some (b == want)
      | some (.tup []) => some false
      | _ => none)
    | none => some false
def putD (nt : Nat) (T : Tr AV) (d : Option Tmp) (v : AV) : Option (Tr AV) :=
  match d with
  | none => some T
  | some t => bif Nat.blt t nt then Tr.put (some v) 24 T t else none
def evSeq (P : Program) (call : FuncId → List AV → St → Option (AV × St)) (GS : Nat → Option Nat) (nt : Nat) (ops : Array Oper) : List Oper → Tr AV → St → Option (Tr AV × St)
  | [], T, S => some (T, S)
  | o :: l, T, S => match gd ops T o with
    | some true => (match evOp P call GS T S o.op with
      | some (v, S') => (match putD nt T o.dst v with
        | some T' => evSeq P call GS nt ops l T' S'
        | none => none)
      | none => none)
    | some false => (match putD nt T o.dst (.tup []) with
      | some T' => evSeq P call GS nt ops l T' S
      | none => none)
    | none => none
def resA (P : Program) (T : Tr AV) (S : St) : List ResultVar → Option (List AV)
  | [] => some []
  | .tmp t :: l => (match T.get t, resA P T S l with
    | some v, some vs => some (v :: vs)
    | _, _ => none)
  | .cell a t :: l => (match T.get a with
    | some p => (match loadA P S t p, resA P T S l with
      | some v, some vs => some (v :: vs)
      | _, _ => none)
    | none => none)
def oneA : List AV → AV
  | [v] => v
  | vs => .tup vs
def evCallBy (P : Program) (ev : Nat → Code → Tr AV → St → Option Out) (f : FuncId) (args : List AV) (S : St) : Option (AV × St) :=
  match P.funcs[f]? with
  | some fn => (match fn.body with
    | some c => (match Tr.putAll args .leaf 0 with
      | some T => (match ev fn.ntmps c T S with
        | some (.mk .nrm T' S') => (match resA P T' S' fn.results.toList with | some vs => some (oneA vs, S') | none => none)
        | some (.mk .ret T' S') => (match resA P T' S' fn.results.toList with | some vs => some (oneA vs, S') | none => none)
        | _ => none)
      | none => none)
    | none => none)
  | none => none
end Go.Proofs.YtedokmdoompidaaGreatDoor.Ev
