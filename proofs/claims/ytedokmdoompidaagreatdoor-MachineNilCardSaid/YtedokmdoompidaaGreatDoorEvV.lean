/- The evaluator: one order of a drawn region, and what makes it stand for all. -/
import Derived.Test.YtedokmdoompidaaGreatDoorEvU
namespace Go.Proofs.YtedokmdoompidaaGreatDoor.Ev

structure Rec where
  role : Role
  Tl : Tr AV
  S : St
  v : AV
  S' : St
  sl : Option Nat

def tmpsOf : List Operand → List Nat
  | [] => []
  | .tmp t :: l => t :: tmpsOf l
  | _ :: l => tmpsOf l
def guardSlot (ops : Array Oper) (o : Oper) : List Nat := match o.guard with
  | none => []
  | some (j, _) => ((ops[j]?).bind (·.dst)).toList
/-- The inserts into the map of a slot; where the map is made. -/
def insOf (m : Nat) : List Oper → Nat → List Nat
  | [], _ => []
  | o :: l, i => match o.op with
    | .insert _ (.tmp t) _ _ => bif Nat.beq t m then i :: insOf m l (i + 1) else insOf m l (i + 1)
    | _ => insOf m l (i + 1)
def mkOf (m : Nat) : List Oper → Nat → Option Nat
  | [], _ => none
  | o :: l, i => match o.op, o.dst with
    | .makeMap _ none, some t => bif Nat.beq t m then some i else mkOf m l (i + 1)
    | _, _ => mkOf m l (i + 1)
def dstsOf : List Oper → List Nat
  | [] => []
  | o :: l => o.dst.toList ++ dstsOf l
def memN (x : Nat) : List Nat → Bool
  | [] => false
  | y :: l => bif Nat.beq x y then true else memN x l
/-- The literal that an operation is a part of: the map's slot, where it is made, its inserts. -/
def litAt (l : List Oper) (o : Oper) : Option (Nat × Nat × List Nat) :=
  match o.op with
  | .makeMap _ none => (match o.dst with
    | some m => (match insOf m l 0 with
      | [] => none
      | q :: qs => (match mkOf m l 0 with
        | some p => some (m, p, q :: qs)
        | none => none))
    | none => none)
  | .insert _ (.tmp m) _ _ => (match mkOf m l 0 with
    | some p => some (m, p, insOf m l 0)
    | none => none)
  | _ => none
def lastN : List Nat → Nat
  | [] => 0
  | [q] => q
  | _ :: l => lastN l
def bitsOf : List Nat → Nat
  | [] => 0
  | k :: l => 2 ^ k ||| bitsOf l
def memOf (r : Role) (k : Nat) : List Nat := match r with
  | .lit p qs => p :: k :: qs.map (·.1)
  | _ => [k]
/-- All operations that write a slot come behind. -/
def behind (l : List Oper) (B : List Nat) (i t : Nat) : List Nat → Bool
  | [] => true
  | j :: js => (match l[j]? with
    | some o => (match o.dst with
      | some t' => bif Nat.beq t' t then bitOf B i j else true
      | none => true)
    | none => true) && behind l B i t js
def looks (l : List Oper) (B : List Nat) (i : Nat) (R : Tr (Nat × AV)) (T0 : Tr AV) (D : List Nat) : List Nat → Tr AV → Option (Tr AV)
  | [], A => some A
  | t :: ts, A => match R.get t with
    | some (req, x) => bif Nat.beq (req &&& B.getD i 0) req then (match Tr.put (some x) 24 A t with
      | some A' => looks l B i R T0 D ts A'
      | none => none) else none
    | none => bif memN t D && !behind l B i t (List.range l.length) then none else (match T0.get t with
      | some x => (match Tr.put (some x) 24 A t with
        | some A' => looks l B i R T0 D ts A'
        | none => none)
      | none => looks l B i R T0 D ts A)
/-- The entries of a literal. -/
def entsOf (GS : Nat → Option Nat) (l : List Oper) (B : List Nat) (R : Tr (Nat × AV)) (T0 : Tr AV) (D : List Nat) (q p m : Nat) (tm : TypeId) : List Nat → Option (List Piece)
  | [] => some []
  | e :: es => match l[e]? with
    | some oe => (match oe.op, oe.guard, oe.dst with
      | .insert t (.tmp m') kx vx, none, none => bif Nat.beq t tm && Nat.beq m' m && Nat.ble e q && bitOf B p e then
          (match looks l B e R T0 D (tmpsOf [kx, vx]) .leaf with
          | some T => (match opd GS T kx, opd GS T vx, entsOf GS l B R T0 D q p m tm es with
            | some k, some v, some r => some ((e, T, k, v) :: r)
            | _, _, _ => none)
          | none => none) else none
      | _, _, _ => none)
    | none => none
def apartKeys (P : Program) (kt : TypeId) (e : Piece) : List Piece → Bool
  | [] => true
  | e' :: l => (match eqv P ⟨.leaf, 0⟩ 20 kt e.2.2.1 e'.2.2.1, eqv P ⟨.leaf, 0⟩ 20 kt e'.2.2.1 e.2.2.1 with
    | some false, some false => !(Nat.beq e.1 e'.1) && apartKeys P kt e l
    | _, _ => false)
def keysOk (P : Program) (kt : TypeId) : List Piece → Bool
  | [] => true
  | e :: l => apartKeys P kt e l && keysOk P kt l
def litRec (P : Program) (GS : Nat → Option Nat) (l : List Oper) (B : List Nat) (R : Tr (Nat × AV)) (T0 : Tr AV) (D : List Nat) (q : Nat) (tm : TypeId) (m p : Nat) (ins : List Nat) (S : St) : Option Rec :=
  match P.underlying tm with
  | some (.map kt _) => bif keyT P kt && memN q ins then (match entsOf GS l B R T0 D q p m tm ins with
    | some qs => bif keysOk P kt qs then (match S.h.put (some (.map (qs.map fun e => (e.2.2.1, e.2.2.2)))) 24 S.nx with
      | some h => some ⟨.lit p qs, .leaf, S, .map S.nx, ⟨h, S.nx + 1⟩, some m⟩
      | none => none) else none
    | none => none) else none
  | _ => none
def noGuard (o : Oper) : Bool := match o.guard with
  | none => true
  | some _ => false
def partRec (P : Program) (GS : Nat → Option Nat) (l : List Oper) (B : List Nat) (R : Tr (Nat × AV)) (T0 : Tr AV) (D : List Nat) (i : Nat) (o : Oper) (m p : Nat) (ins : List Nat) (S : St) : Option Rec :=
  bif noGuard o then
    match o.op with
    | .makeMap _ none => bif Nat.beq i p then some ⟨.pc, .leaf, S, .tup [], S, none⟩ else none
    | .insert tm (.tmp _) _ _ => bif Nat.beq i (lastN ins) then litRec P GS l B R T0 D i tm m p ins S else bif memN i ins then some ⟨.pc, .leaf, S, .tup [], S, none⟩ else none
    | _ => none
  else none
def genRec (P : Program) (call : FuncId → List AV → St → Option (AV × St)) (GS : Nat → Option Nat) (ops : Array Oper) (Tl : Tr AV) (o : Oper) (S : St) : Option Rec :=
  match gd ops Tl o with
  | some false => some ⟨.skp, Tl, S, .tup [], S, o.dst⟩
  | some true => (match rd P GS Tl S o.op with
    | some v => bif lowA S.nx v then some ⟨.rdr, Tl, S, v, S, o.dst⟩ else none
    | none => (match alA P GS Tl o.op with
      | some (blk, mk) => (match S.h.put (some blk) 24 S.nx with
        | some h => some ⟨.alc blk mk, Tl, S, mk S.nx, ⟨h, S.nx + 1⟩, o.dst⟩
        | none => none)
      | none => (match wr P GS Tl S o.op with
        | some (v, S') => bif Nat.ble S.nx S'.nx then some ⟨.wrt, Tl, S, v, S', o.dst⟩ else none
        | none => (match callA P call GS Tl S o.op with
          | some (v, S') => bif Nat.ble S.nx S'.nx then some ⟨.wrt, Tl, S, v, S', o.dst⟩ else none
          | none => none))))
  | none => none
def oneRec (P : Program) (call : FuncId → List AV → St → Option (AV × St)) (GS : Nat → Option Nat) (ops : Array Oper) (l : List Oper) (B : List Nat) (D : List Nat) (T0 : Tr AV) (R : Tr (Nat × AV)) (i : Nat) (o : Oper) (S : St) : Option Rec :=
  match litAt l o with
  | some (m, p, ins) => partRec P GS l B R T0 D i o m p ins S
  | none => (match looks l B i R T0 D (tmpsOf o.op.operands.toList ++ guardSlot ops o) .leaf with
    | some Tl => genRec P call GS ops Tl o S
    | none => none)
def evT (P : Program) (call : FuncId → List AV → St → Option (AV × St)) (GS : Nat → Option Nat) (nt : Nat) (ops : Array Oper) (l : List Oper) (B : List Nat) (D : List Nat) (T0 : Tr AV) : List Oper → Nat → Tr (Nat × AV) → Tr AV → St → Option (List Rec × Tr AV × St)
  | [], _, _, T, S => some ([], T, S)
  | o :: r, i, R, T, S => match oneRec P call GS ops l B D T0 R i o S with
    | some rec => (match rec.sl with
      | some t => bif Nat.blt t nt && memN t D then (match R.get t with
        | some _ => none
        | none => (match Tr.put (some (bitsOf (memOf rec.role i), rec.v)) 24 R t, Tr.put (some rec.v) 24 T t with
          | some R', some T' => (match evT P call GS nt ops l B D T0 r (i + 1) R' T' rec.S' with
            | some (recs, Tn, Sn) => some (rec :: recs, Tn, Sn)
            | none => none)
          | _, _ => none)) else none
      | none => (match evT P call GS nt ops l B D T0 r (i + 1) R T rec.S' with
        | some (recs, Tn, Sn) => some (rec :: recs, Tn, Sn)
        | none => none))
    | none => none
def isWrt : Role → Bool
  | .wrt => true
  | _ => false
/-- The writers: their places, the heaps before them. -/
def wrts : List Rec → Nat → List (Nat × St)
  | [], _ => []
  | r :: l, i => bif isWrt r.role then (i, r.S) :: wrts l (i + 1) else wrts l (i + 1)
def pairsOk (B : List Nat) : List (Nat × St) → Bool
  | [] => true
  | (k, _) :: l => l.all (fun x => bitOf B k x.1) && pairsOk B l
/-- Whether a reader may be met when the next writer is M, and not only in the planned place. -/
def again (B : List Nat) (ws : List (Nat × St)) (i M : Nat) : Bool :=
  ws.any (fun c => (Nat.ble i c.1 && Nat.blt c.1 M) || (Nat.ble M c.1 && Nat.blt c.1 i)) &&
  ws.all (fun c => (!bitOf B c.1 i || Nat.blt c.1 M) && (!bitOf B i c.1 || Nat.ble M c.1))
def sameAt (P : Program) (GS : Nat → Option Nat) (B : List Nat) (ws : List (Nat × St)) (i : Nat) (r : Rec) (op : Op) (M : Nat × St) : Bool :=
  bif again B ws i M.1 then (match rd P GS r.Tl M.2 op with | some v => eqA v r.v | none => false) else true
def readsOk (P : Program) (GS : Nat → Option Nat) (B : List Nat) (ws : List (Nat × St)) (n : Nat) (Sn : St) : List Rec → List Oper → Nat → Bool
  | r :: l, o :: os, i => (match r.role with
    | .rdr => sameAt P GS B ws i r o.op (n, Sn) && ws.all (fun M => sameAt P GS B ws i r o.op M)
    | _ => true) && readsOk P GS B ws n Sn l os (i + 1)
  | _, _, _ => true
def evDraw (P : Program) (call : FuncId → List AV → St → Option (AV × St)) (GS : Nat → Option Nat) (nt : Nat) (ops : Array Oper) (T : Tr AV) (S : St) : Option (Tr AV × St) :=
  let l := ops.toList
  let B := masks l []
  bif edgesOk l 0 then
    (match evT P call GS nt ops l B (dstsOf l) T l 0 .leaf T S with
    | some (recs, Tn, Sn) => bif pairsOk B (wrts recs 0) && readsOk P GS B (wrts recs 0) l.length Sn recs l 0 then some (Tn, Sn) else none
    | none => none)
  else none
end Go.Proofs.YtedokmdoompidaaGreatDoor.Ev
