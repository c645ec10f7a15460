/- The quick evaluator: regions, code, calls; that it is the plain one. -/
import Derived.Test.YtedokmdoompidaaGreatDoorEwD
namespace Go.Proofs.YtedokmdoompidaaGreatDoor.Ev

noncomputable def gslot (ops : Array Oper) (j : Nat) : Option Tmp := (ops[j]?).bind (·.dst)
noncomputable def eqB (a b : Bool) : Bool := Bool.rec (motive := fun _ => Bool) (Bool.rec (motive := fun _ => Bool) true false b) b a
theorem eqB_eq (a b : Bool) : eqB a b = (a == b) := by cases a <;> cases b <;> rfl
noncomputable def wantF (want : Bool) (v : AV) : Option Bool :=
  Option.rec (motive := fun _ => Option Bool) (ob (tupOf v) (fun l => List.rec (motive := fun _ => Option Bool) (some false) (fun _ _ _ => none) l)) (fun b => some (eqB b want)) (boolOf v)
noncomputable def gdF (ops : Array Oper) (T : Tr AV) (o : Oper) : Option Bool :=
  Option.rec (motive := fun _ => Option Bool) (some true) (fun g => Option.rec (motive := fun _ => Option Bool) (some false) (fun t => ob (getF T t) (wantF g.2)) (gslot ops g.1)) o.guard
theorem gdF_eq (ops : Array Oper) (T : Tr AV) (o : Oper) : gdF ops T o = gd ops T o := by
  unfold gdF gd
  cases o.guard with
  | none => rfl
  | some g =>
    obtain ⟨j, want⟩ := g
    show Option.rec (motive := fun _ => Option Bool) (some false) (fun t => ob (getF T t) (wantF want)) ((ops[j]?).bind (·.dst)) = _
    simp only
    cases (ops[j]?).bind (·.dst) with
    | none => rfl
    | some t =>
      show ob (getF T t) (wantF want) = _
      rw [getF_eq]
      simp only
      cases T.get t with
      | none => rfl
      | some v =>
        cases v <;> first | rfl | skip
        · exact congrArg some (eqB_eq _ _)
        · rename_i l; cases l <;> rfl
noncomputable def putDF (nt : Nat) (T : Tr AV) (d : Option Tmp) (v : AV) : Option (Tr AV) :=
  Option.rec (motive := fun _ => Option (Tr AV)) (some T) (fun t => ife (Nat.ble (Nat.succ t) nt) (putF (some v) 24 T t)) d
theorem putDF_eq (nt : Nat) (T : Tr AV) (d : Option Tmp) (v : AV) : putDF nt T d v = putD nt T d v := by
  cases d with
  | none => rfl
  | some t =>
    show ife (Nat.blt t nt) (putF (some v) 24 T t) = _
    rw [putF_eq]
    simp only [putD]
    cases Nat.blt t nt <;> rfl
abbrev SeqK := Tr AV → St → Option (Tr AV × St)
noncomputable def seqPut (nt : Nat) (d : Option Tmp) (k : SeqK) (T : Tr AV) (r : AV × St) : Option (Tr AV × St) := Prod.rec (motive := fun _ => Option (Tr AV × St)) (fun v S => ob (putDF nt T d v) (fun T' => k T' S)) r
noncomputable def seqGo (P : Program) (call : CallT) (GS : Nat → Option Nat) (nt : Nat) (o : Oper) (k : SeqK) (T : Tr AV) (S : St) (b : Bool) : Option (Tr AV × St) :=
  Bool.rec (motive := fun _ => Option (Tr AV × St)) (seqPut nt o.dst k T (.tup [], S)) (ob (evOpF o.op P call GS T S) (seqPut nt o.dst k T)) b
noncomputable def seqCons (P : Program) (call : CallT) (GS : Nat → Option Nat) (nt : Nat) (ops : Array Oper) (o : Oper) (_ : List Oper) (k : SeqK) : SeqK := fun T S =>
  ob (gdF ops T o) (seqGo P call GS nt o k T S)
noncomputable def seqF (P : Program) (call : CallT) (GS : Nat → Option Nat) (nt : Nat) (ops : Array Oper) (l : List Oper) : SeqK :=
  List.rec (motive := fun _ => SeqK) (fun T S => some (T, S)) (seqCons P call GS nt ops) l
theorem seqF_eq (P : Program) (call : CallT) (GS : Nat → Option Nat) (nt : Nat) (ops : Array Oper) : ∀ (l : List Oper) (T : Tr AV) (S : St), seqF P call GS nt ops l T S = evSeq P call GS nt ops l T S
  | [], T, S => rfl
  | o :: l, T, S => by
    show ob (gdF ops T o) (seqGo P call GS nt o (seqF P call GS nt ops l) T S) = _
    rw [gdF_eq]
    simp only [evSeq]
    cases gd ops T o with
    | none => rfl
    | some b =>
      cases b with
      | false =>
        show ob (putDF nt T o.dst (.tup [])) (fun T' => seqF P call GS nt ops l T' S) = _
        rw [putDF_eq]
        simp only
        cases putD nt T o.dst (.tup []) with
        | none => rfl
        | some T' => exact seqF_eq P call GS nt ops l T' S
      | true =>
        show ob (evOpF o.op P call GS T S) (seqPut nt o.dst (seqF P call GS nt ops l) T) = _
        rw [evOpF_eq]
        simp only
        cases evOp P call GS T S o.op with
        | none => rfl
        | some r =>
          obtain ⟨v, S'⟩ := r
          show ob (putDF nt T o.dst v) (fun T' => seqF P call GS nt ops l T' S') = _
          rw [putDF_eq]
          simp only
          cases putD nt T o.dst v with
          | none => rfl
          | some T' => exact seqF_eq P call GS nt ops l T' S'
noncomputable def resF (P : Program) (T : Tr AV) (S : St) (l : List ResultVar) : Option (List AV) :=
  List.rec (motive := fun _ => Option (List AV)) (some []) (fun r _ ih => ob (ResultVar.rec (motive := fun _ => Option AV) (fun t => getF T t) (fun a t => ob (getF T a) (loadF P S t)) r) (fun v => ob ih (fun vs => some (v :: vs)))) l
theorem resF_eq (P : Program) (T : Tr AV) (S : St) : ∀ l, resF P T S l = resA P T S l
  | [] => rfl
  | .tmp t :: l => by
    show ob (getF T t) (fun v => ob (resF P T S l) (fun vs => some (v :: vs))) = _
    rw [getF_eq, resF_eq P T S l]
    simp only [resA]
    cases T.get t with
    | none => rfl
    | some v => cases resA P T S l <;> rfl
  | .cell a t :: l => by
    show ob (ob (getF T a) (loadF P S t)) (fun v => ob (resF P T S l) (fun vs => some (v :: vs))) = _
    rw [getF_eq, resF_eq P T S l]
    simp only [resA]
    cases T.get a with
    | none => rfl
    | some p =>
      simp only [ob_some, loadF_eq]
      cases loadA P S t p with
      | none => rfl
      | some v => cases resA P T S l <;> rfl
noncomputable def oneF (l : List AV) : AV := List.rec (motive := fun _ => AV) (.tup []) (fun x xs _ => List.rec (motive := fun _ => AV) x (fun y ys _ => .tup (x :: y :: ys)) xs) l
theorem oneF_eq : ∀ l, oneF l = oneA l
  | [] => rfl
  | [_] => rfl
  | _ :: _ :: _ => rfl
noncomputable def fnT (P : Program) (f : FuncId) : Option (Code × Nat × List ResultVar) := match P.funcs[f]? with
  | some fn => (match fn.body with
    | some c => some (c, fn.ntmps, fn.results.toList)
    | none => none)
  | none => none
noncomputable def doneF (P : Program) (rs : List ResultVar) (o : Out) : Option (AV × St) := Out.rec (motive := fun _ => Option (AV × St)) (fun e T S =>
  AE.rec (motive := fun _ => Program → List ResultVar → Tr AV → St → Option (AV × St)) (fun P rs T S => ob (resF P T S rs) (fun vs => some (oneF vs, S))) (fun _ _ _ _ _ => none) (fun _ _ _ _ _ => none) (fun P rs T S => ob (resF P T S rs) (fun vs => some (oneF vs, S))) e P rs T S) o
noncomputable def callByF (P : Program) (ev : Nat → Code → Tr AV → St → Option Out) (f : FuncId) (args : List AV) (S : St) : Option (AV × St) :=
  ob (fnT P f) (fun c => ob (putAllF args .leaf 0) (fun T => ob (ev c.2.1 c.1 T S) (doneF P c.2.2)))
theorem callByF_eq (P : Program) (ev : Nat → Code → Tr AV → St → Option Out) (f : FuncId) (args : List AV) (S : St) : callByF P ev f args S = evCallBy P ev f args S := by
  unfold callByF evCallBy fnT
  cases P.funcs[f]? with
  | none => rfl
  | some fn =>
    simp only
    cases fn.body with
    | none => rfl
    | some c =>
      simp only [ob_some, putAllF_eq]
      cases Tr.putAll args .leaf 0 with
      | none => rfl
      | some T =>
        simp only [ob_some]
        cases ev fn.ntmps c T S with
        | none => rfl
        | some r =>
          obtain ⟨e, T', S'⟩ := r
          cases e with
          | ex id => rfl
          | go l => rfl
          | nrm =>
            show ob (resF P T' S' fn.results.toList) (fun vs => some (oneF vs, S')) = _
            rw [resF_eq]
            simp only
            cases resA P T' S' fn.results.toList with
            | none => rfl
            | some vs => simp only [ob_some, oneF_eq]
          | ret =>
            show ob (resF P T' S' fn.results.toList) (fun vs => some (oneF vs, S')) = _
            rw [resF_eq]
            simp only
            cases resA P T' S' fn.results.toList with
            | none => rfl
            | some vs => simp only [ob_some, oneF_eq]
noncomputable def shF (P : Program) (f : FuncId) : Option (Func × DefShape) := (P.funcs[f]?).bind (fun fn => fn.body.bind fun c => (defShape c).map fun s => (fn, s))
noncomputable def callDF (P : Program) (GS : Nat → Option Nat) (ev : Nat → Code → Tr AV → St → Option Out) (f : FuncId) (args : List AV) (S : St) : Option (AV × St) :=
  Option.rec (motive := fun _ => Option (AV × St)) (callByF P ev f args S) (fun p => callDef P GS ev p.1 p.2 args S) (shF P f)
theorem callDF_eq (P : Program) (GS : Nat → Option Nat) (ev : Nat → Code → Tr AV → St → Option Out) (f : FuncId) (args : List AV) (S : St) : callDF P GS ev f args S = evCallD P GS ev f args S := by
  unfold callDF evCallD shF
  cases (P.funcs[f]?).bind (fun fn => fn.body.bind fun c => (defShape c).map fun s => (fn, s)) with
  | none => exact callByF_eq P ev f args S
  | some p => rfl
noncomputable def callHF (hk : Hk) (P : Program) (GS : Nat → Option Nat) (ev : Nat → Code → Tr AV → St → Option Out) (f : FuncId) (args : List AV) (S : St) : Option (AV × St) :=
  Option.rec (motive := fun _ => Option (AV × St)) (callDF P GS ev f args S) (fun g => g args S) (hk f)
theorem callHF_eq (hk : Hk) (P : Program) (GS : Nat → Option Nat) (ev : Nat → Code → Tr AV → St → Option Out) (f : FuncId) (args : List AV) (S : St) : callHF hk P GS ev f args S = evCallH hk P GS ev f args S := by
  unfold callHF evCallH
  cases hk f with
  | none => exact callDF_eq P GS ev f args S
  | some g => rfl
abbrev IH := Nat → Job → Tr AV → St → Option Out
abbrev StepK := Hk → Program → (Nat → Option Nat) → IH → Nat → Tr AV → St → Option Out
noncomputable def onNrm (k : Tr AV → St → Option Out) (o : Out) : Option Out := Out.rec (motive := fun _ => Option Out) (fun e T S =>
  AE.rec (motive := fun _ => (Tr AV → St → Option Out) → Tr AV → St → Option Out) (fun k T S => k T S) (fun id _ T S => some (.mk (.ex id) T S)) (fun l _ T S => some (.mk (.go l) T S)) (fun _ T S => some (.mk .ret T S)) e k T S) o
noncomputable def onEx (id : Nat) (o : Out) : Option Out := Out.rec (motive := fun _ => Option Out) (fun e T S =>
  AE.rec (motive := fun _ => Nat → Tr AV → St → Option Out) (fun _ T S => some (.mk .nrm T S)) (fun id' id T S => els (Nat.beq id' id) (some (.mk .nrm T S)) (some (.mk (.ex id') T S))) (fun l _ T S => some (.mk (.go l) T S)) (fun _ T S => some (.mk .ret T S)) e id T S) o
noncomputable def onGo (k : Nat → Tr AV → St → Option Out) (o : Out) : Option Out := Out.rec (motive := fun _ => Option Out) (fun e T S =>
  AE.rec (motive := fun _ => (Nat → Tr AV → St → Option Out) → Tr AV → St → Option Out) (fun _ T S => some (.mk .nrm T S)) (fun id _ T S => some (.mk (.ex id) T S)) (fun l k T S => k l T S) (fun _ T S => some (.mk .ret T S)) e k T S) o
noncomputable def onPair (r : Tr AV × St) : Option Out := Prod.rec (motive := fun _ => Option Out) (fun T S => some (.mk .nrm T S)) r
noncomputable def codeF (c : Code) : StepK := Code.rec (motive := fun _ => StepK)
  (fun _ _ _ _ _ T S => some (.mk .nrm T S))
  (fun _ ops draw hk P GS ih nt T S => ob (Bool.rec (motive := fun _ => Option (Tr AV × St)) (seqF P (callHF hk P GS (fun nt c => ih nt (.code c))) GS nt ops ops.toList T S) (evDraw P (callHF hk P GS (fun nt c => ih nt (.code c))) GS nt ops T S) draw) onPair)
  (fun a b _ _ _ _ _ ih nt T S => ob (ih nt (.code a) T S) (onNrm (fun T' S' => ih nt (.code b) T' S')))
  (fun c a b _ _ _ _ GS ih nt T S => ob (opdF GS T c) (fun v => ob (boolOf v) (fun t => Bool.rec (motive := fun _ => Option Out) (ih nt (.code b) T S) (ih nt (.code a) T S) t)))
  (fun id b _ _ _ _ ih nt T S => ob (ih nt (.code b) T S) (onEx id))
  (fun b _ _ _ _ ih nt T S => ih nt (.lp b) T S)
  (fun _ _ _ _ _ _ _ _ _ _ _ _ _ => none)
  (fun id _ _ _ _ _ T S => some (.mk (.ex id) T S))
  (fun b _ _ _ _ ih nt T S => ih nt (.inn b b) T S)
  (fun _ _ _ _ _ _ T S => some (.mk .nrm T S))
  (fun l _ _ _ _ _ T S => some (.mk (.go l) T S))
  (fun _ _ _ _ _ T S => some (.mk .ret T S))
  (fun _ _ _ _ _ _ _ _ => none) c
noncomputable def stepF (j : Job) : StepK := Job.rec (motive := fun _ => StepK) codeF
  (fun b _ _ _ ih nt T S => ob (ih nt (.code b) T S) (onNrm (fun T' S' => ih nt (.lp b) T' S')))
  (fun b rest _ _ _ ih nt T S => ob (ih nt (.code rest) T S) (onGo (fun l T' S' => ob (findLabel b l) (fun r => ih nt (.inn b r) T' S')))) j
theorem stepF_eq (j : Job) (hk : Hk) (P : Program) (GS : Nat → Option Nat) (ih : IH) (nt : Nat) (T : Tr AV) (S : St) : stepF j hk P GS ih nt T S = evStep hk P GS ih nt j T S := by
  cases j with
  | lp b =>
    show ob (ih nt (.code b) T S) (onNrm (fun T' S' => ih nt (.lp b) T' S')) = _
    simp only [evStep]
    cases ih nt (.code b) T S with
    | none => rfl
    | some r => obtain ⟨e, T', S'⟩ := r; cases e <;> rfl
  | inn b rest =>
    show ob (ih nt (.code rest) T S) (onGo (fun l T' S' => ob (findLabel b l) (fun r => ih nt (.inn b r) T' S'))) = _
    simp only [evStep]
    cases ih nt (.code rest) T S with
    | none => rfl
    | some r =>
      obtain ⟨e, T', S'⟩ := r
      cases e <;> first | rfl | skip
      rename_i l
      show ob (findLabel b l) (fun r => ih nt (.inn b r) T' S') = _
      simp only
      cases findLabel b l <;> rfl
  | code c =>
    cases c with
    | region id ops draw =>
      have hc : callHF hk P GS (fun nt c => ih nt (.code c)) = evCallH hk P GS (fun nt c => ih nt (.code c)) := by funext f args S; exact callHF_eq hk P GS _ f args S
      cases draw with
      | false =>
        show ob (seqF P (callHF hk P GS (fun nt c => ih nt (.code c))) GS nt ops ops.toList T S) onPair = _
        rw [hc, seqF_eq]
        simp only [evStep, cond_false]
        cases evSeq P (evCallH hk P GS (fun nt c => ih nt (.code c))) GS nt ops ops.toList T S with
        | none => rfl
        | some r => obtain ⟨T', S'⟩ := r; rfl
      | true =>
        show ob (evDraw P (callHF hk P GS (fun nt c => ih nt (.code c))) GS nt ops T S) onPair = _
        rw [hc]
        simp only [evStep, cond_true]
        cases evDraw P (evCallH hk P GS (fun nt c => ih nt (.code c))) GS nt ops T S with
        | none => rfl
        | some r => obtain ⟨T', S'⟩ := r; rfl
    | seq a b =>
      show ob (ih nt (.code a) T S) (onNrm (fun T' S' => ih nt (.code b) T' S')) = _
      simp only [evStep]
      cases ih nt (.code a) T S with
      | none => rfl
      | some r => obtain ⟨e, T', S'⟩ := r; cases e <;> rfl
    | cond c a b =>
      show ob (opdF GS T c) (fun v => ob (boolOf v) (fun t => Bool.rec (motive := fun _ => Option Out) (ih nt (.code b) T S) (ih nt (.code a) T S) t)) = _
      rw [opdF_eq]
      simp only [evStep]
      cases opd GS T c with
      | none => rfl
      | some v =>
        cases v <;> first | rfl | skip
        rename_i t; cases t <;> rfl
    | block id b =>
      show ob (ih nt (.code b) T S) (onEx id) = _
      simp only [evStep]
      cases ih nt (.code b) T S with
      | none => rfl
      | some r =>
        obtain ⟨e, T', S'⟩ := r
        cases e <;> first | rfl | skip
        rename_i id'
        show els (Nat.beq id' id) _ _ = _
        simp only
        cases Nat.beq id' id <;> rfl
    | _ => rfl
/-- The quick evaluator, with fuel. -/
noncomputable def evF (hk : Hk) (P : Program) (GS : Nat → Option Nat) (n : Nat) : IH :=
  Nat.rec (motive := fun _ => IH) (fun _ _ _ _ => none) (fun _ ih nt j T S => stepF j hk P GS ih nt T S) n
theorem evF_eq (hk : Hk) (P : Program) (GS : Nat → Option Nat) : ∀ n, evF hk P GS n = ev hk P GS n
  | 0 => rfl
  | n + 1 => by
    funext nt j T S
    show stepF j hk P GS (evF hk P GS n) nt T S = evStep hk P GS (ev hk P GS n) nt j T S
    rw [evF_eq hk P GS n, stepF_eq]
noncomputable def evCallF (hk : Hk) (P : Program) (GS : Nat → Option Nat) (n : Nat) : FuncId → List AV → St → Option (AV × St) := callHF hk P GS (fun nt c => evF hk P GS n nt (.code c))
theorem evCallF_eq (hk : Hk) (P : Program) (GS : Nat → Option Nat) (n : Nat) : evCallF hk P GS n = evCall hk P GS n := by
  funext f args S
  unfold evCallF evCall
  rw [callHF_eq, evF_eq]
end Go.Proofs.YtedokmdoompidaaGreatDoor.Ev
