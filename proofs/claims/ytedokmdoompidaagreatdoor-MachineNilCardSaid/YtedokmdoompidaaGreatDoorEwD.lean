/- The quick evaluator: operations, regions, code, calls; that it is the plain one. -/
import Derived.Test.YtedokmdoompidaaGreatDoorEwC
namespace Go.Proofs.YtedokmdoompidaaGreatDoor.Ev

abbrev CallT := FuncId → List AV → St → Option (AV × St)
abbrev OpK := Program → CallT → (Nat → Option Nat) → Tr AV → St → Option (AV × St)
noncomputable def ret (o : Option AV) (S : St) : Option (AV × St) := ob o (fun v => some (v, S))
/-- An operation that only reads. -/
theorem evOp_rd {P : Program} {call : CallT} {GS : Nat → Option Nat} {T : Tr AV} {S : St} {op : Op} (h1 : alA P GS T op = none) (h2 : wr P GS T S op = none) (h3 : callA P call GS T S op = none) :
    evOp P call GS T S op = ret (rd P GS T S op) S := by
  unfold evOp
  cases rd P GS T S op with
  | none => simp only [h1, h2, h3]; rfl
  | some v => rfl
theorem evOp_wr {P : Program} {call : CallT} {GS : Nat → Option Nat} {T : Tr AV} {S : St} {op : Op} (h0 : rd P GS T S op = none) (h1 : alA P GS T op = none) (h3 : callA P call GS T S op = none) :
    evOp P call GS T S op = wr P GS T S op := by
  unfold evOp
  rw [h0, h1]
  simp only [h3]
  cases wr P GS T S op <;> rfl
noncomputable def fOld (op : Op) : OpK := fun P call GS T S => evOp P call GS T S op
noncomputable def fMove (x : Operand) : OpK := fun _ _ GS T S => ret (opdF GS T x) S
theorem fMove_eq (x : Operand) (P : Program) (call : CallT) (GS : Nat → Option Nat) (T : Tr AV) (S : St) : fMove x P call GS T S = evOp P call GS T S (.move x) := by
  rw [evOp_rd rfl rfl rfl, fMove, opdF_eq]; rfl
theorem fAssign_eq (x : Operand) (P : Program) (call : CallT) (GS : Nat → Option Nat) (T : Tr AV) (S : St) : fMove x P call GS T S = evOp P call GS T S (.assign x) := by
  rw [evOp_rd rfl rfl rfl, fMove, opdF_eq]; rfl
noncomputable def fPick (c a b : Operand) : OpK := fun _ _ GS T S => ret (ob (opdF GS T c) (fun v => ob (boolOf v) (fun t => Bool.rec (motive := fun _ => Option AV) (opdF GS T b) (opdF GS T a) t))) S
theorem fPick_eq (c a b : Operand) (P : Program) (call : CallT) (GS : Nat → Option Nat) (T : Tr AV) (S : St) : fPick c a b P call GS T S = evOp P call GS T S (.pick c a b) := by
  rw [evOp_rd rfl rfl rfl, fPick, opdF_eq, opdF_eq, opdF_eq]
  congr 1
  simp only [rd]
  cases opd GS T c with
  | none => rfl
  | some v => cases v <;> first | rfl | skip
              rename_i t; cases t <;> rfl
noncomputable def fLoad (t : TypeId) (x : Operand) : OpK := fun P _ GS T S => ret (ob (opdF GS T x) (loadF P S t)) S
theorem fLoad_eq (t : TypeId) (x : Operand) (P : Program) (call : CallT) (GS : Nat → Option Nat) (T : Tr AV) (S : St) : fLoad t x P call GS T S = evOp P call GS T S (.load t x) := by
  rw [evOp_rd rfl rfl rfl, fLoad, opdF_eq]
  congr 1
  simp only [rd]
  cases opd GS T x with
  | none => rfl
  | some v => exact loadF_eq P S t v
noncomputable def fStore (t : TypeId) (a x : Operand) : OpK := fun P _ GS T S => ob (opdF GS T a) (fun p => ob (opdF GS T x) (fun v => ob (storeF P S t p v) (fun S' => some (.tup [], S'))))
theorem fStore_eq (t : TypeId) (a x : Operand) (P : Program) (call : CallT) (GS : Nat → Option Nat) (T : Tr AV) (S : St) : fStore t a x P call GS T S = evOp P call GS T S (.store t a x) := by
  rw [evOp_wr rfl rfl rfl, fStore, opdF_eq, opdF_eq]
  simp only [wr]
  cases opd GS T a with
  | none => rfl
  | some p =>
    cases opd GS T x with
    | none => rfl
    | some v => simp only [ob_some, storeF_eq]; cases storeA P S t p v <;> rfl
noncomputable def nilF (v : AV) : Option AV := Option.rec (motive := fun _ => Option AV) (ob (fnOf v) (fun _ => some v)) (fun _ => some v) (ptrOf v)
noncomputable def fNil (x : Operand) : OpK := fun _ _ GS T S => ret (ob (opdF GS T x) nilF) S
theorem fNil_eq (x : Operand) (P : Program) (call : CallT) (GS : Nat → Option Nat) (T : Tr AV) (S : St) : fNil x P call GS T S = evOp P call GS T S (.nilCheck x) := by
  rw [evOp_rd rfl rfl rfl, fNil, opdF_eq]
  congr 1
  simp only [rd]
  cases opd GS T x with
  | none => rfl
  | some v => cases v <;> rfl
noncomputable def fBin (op : BinOp) (t : TypeId) (x y : Operand) (_ : TypeId) : OpK := fun P _ GS T S => ret (ob (opdF GS T x) (fun a => ob (opdF GS T y) (fun b => binF P S op t a b))) S
theorem fBin_eq (op : BinOp) (t : TypeId) (x y : Operand) (u : TypeId) (P : Program) (call : CallT) (GS : Nat → Option Nat) (T : Tr AV) (S : St) : fBin op t x y u P call GS T S = evOp P call GS T S (.binOp op t x y u) := by
  rw [evOp_rd rfl rfl rfl, fBin, opdF_eq, opdF_eq]
  congr 1
  simp only [rd]
  cases opd GS T x with
  | none => rfl
  | some v =>
    cases opd GS T y with
    | none => rfl
    | some w => exact binF_eq P S op t v w
noncomputable def fFieldAddr (s : TypeId) (x : Operand) (f : Nat) : OpK := fun P _ GS T S => ret (ob (opdF GS T x) (fun a => fieldAddrF P s a f)) S
theorem fFieldAddr_eq (s : TypeId) (x : Operand) (f : Nat) (P : Program) (call : CallT) (GS : Nat → Option Nat) (T : Tr AV) (S : St) : fFieldAddr s x f P call GS T S = evOp P call GS T S (.fieldAddr s x f) := by
  rw [evOp_rd rfl rfl rfl, fFieldAddr, opdF_eq]
  congr 1
  simp only [rd]
  cases opd GS T x with
  | none => rfl
  | some v => exact fieldAddrF_eq P s v f
noncomputable def fIndexAddr (t : TypeId) (x i : Operand) : OpK := fun P _ GS T S => ret (ob (opdF GS T x) (fun a => ob (opdF GS T i) (fun b => indexAddrF P t a b))) S
theorem fIndexAddr_eq (t : TypeId) (x i : Operand) (P : Program) (call : CallT) (GS : Nat → Option Nat) (T : Tr AV) (S : St) : fIndexAddr t x i P call GS T S = evOp P call GS T S (.indexAddr t x i) := by
  rw [evOp_rd rfl rfl rfl, fIndexAddr, opdF_eq, opdF_eq]
  congr 1
  simp only [rd]
  cases opd GS T x with
  | none => rfl
  | some v =>
    cases opd GS T i with
    | none => rfl
    | some w => exact indexAddrF_eq P t v w
noncomputable def fExtract (x : Operand) (i : Nat) : OpK := fun _ _ GS T S => ret (ob (opdF GS T x) (fun a => extractF a i)) S
theorem fExtract_eq (x : Operand) (i : Nat) (P : Program) (call : CallT) (GS : Nat → Option Nat) (T : Tr AV) (S : St) : fExtract x i P call GS T S = evOp P call GS T S (.extract x i) := by
  rw [evOp_rd rfl rfl rfl, fExtract, opdF_eq]
  congr 1
  simp only [rd]
  cases opd GS T x with
  | none => rfl
  | some v => exact extractF_eq v i
/-- What is laid for a new variable: by its type. -/
noncomputable def alT (P : Program) (e : TypeId) : Option Blk := match zeroA P e with
  | some z => bif allScalar z.cells then rowBlk e false false z.cells else none
  | none => none
noncomputable def layF (S : St) (blk : Blk) (mk : Nat → AV) : Option (AV × St) :=
  St.rec (motive := fun _ => Option (AV × St)) (fun h n => Nat.rec (motive := fun _ => Option (AV × St)) (ob (putF (some blk) 24 h 0) (fun h' => some (mk 0, ⟨h', 1⟩))) (fun m _ => ob (putF (some blk) 24 h (Nat.succ m)) (fun h' => some (mk (Nat.succ m), ⟨h', Nat.succ (Nat.succ m)⟩))) n) S
theorem layF_eq (S : St) (blk : Blk) (mk : Nat → AV) : layF S blk mk = alloc1 S (blk, mk) := by
  obtain ⟨h, n⟩ := S
  unfold alloc1
  cases n with
  | zero =>
    show ob (putF (some blk) 24 h 0) _ = _
    rw [putF_eq]
    simp only
    cases Tr.put (some blk) 24 h 0 <;> rfl
  | succ n =>
    show ob (putF (some blk) 24 h (n + 1)) _ = _
    rw [putF_eq]
    simp only
    cases Tr.put (some blk) 24 h (n + 1) <;> rfl
noncomputable def fAlloc (e : TypeId) : OpK := fun P _ _ _ S => ob (alT P e) (fun blk => layF S blk (fun b => .ptr b 0))
theorem alA_alloc (P : Program) (GS : Nat → Option Nat) (T : Tr AV) (e : TypeId) : alA P GS T (.alloc e) = (match alT P e with | some blk => some (blk, fun b => .ptr b 0) | none => none) := by
  simp only [alA, alT]
  cases zeroA P e with
  | none => rfl
  | some z =>
    simp only
    cases allScalar z.cells with
    | false => rfl
    | true => simp only [cond_true]; cases rowBlk e false false z.cells <;> rfl
theorem fAlloc_eq (e : TypeId) (P : Program) (call : CallT) (GS : Nat → Option Nat) (T : Tr AV) (S : St) : fAlloc e P call GS T S = evOp P call GS T S (.alloc e) := by
  unfold evOp
  rw [alA_alloc]
  simp only [rd, wr, callA]
  unfold fAlloc
  cases alT P e with
  | none => rfl
  | some blk => simp only [ob_some]; exact layF_eq S blk _
-- Calls.
noncomputable def fCallV (f : Operand) (args : Array Operand) : OpK := fun P call GS T S =>
  ob (opdF GS T f) (fun v => ob (fnOf v) (fun g => ob (opdsF GS T args.toList) (fun vs => ife (okFn P g.1) (call g.1 (appF g.2.1 (appF vs g.2.2)) S))))
theorem fCallV_eq (f : Operand) (args : Array Operand) (at' : Array TypeId) (P : Program) (call : CallT) (GS : Nat → Option Nat) (T : Tr AV) (S : St) : fCallV f args P call GS T S = evOp P call GS T S (.call ⟨.value f, args, at'⟩) := by
  unfold evOp
  simp only [rd, alA, wr, callA]
  unfold fCallV
  rw [opdF_eq, opdsF_eq]
  cases opd GS T f with
  | none => rfl
  | some v =>
    cases v <;> first | rfl | skip
    rename_i g first cap
    cases opds GS T args.toList with
    | none => rfl
    | some vs =>
      show ife (okFn P g) (call g (appF first (appF vs cap)) S) = _
      rw [appF_eq, appF_eq, ← List.append_assoc]
      simp only
      cases okFn P g <;> rfl
noncomputable def fLen (args : Array Operand) (at' : Array TypeId) : OpK := fun P call GS T S =>
  Option.rec (motive := fun _ => Option (AV × St)) (evOp P call GS T S (.call ⟨.builtin .len, args, at'⟩))
    (fun xt => ret (ob (opdF GS T xt.1) (fun a => lenF P S xt.2 a)) S)
    (match args.toList, at'[0]? with | [x], some t => some (x, t) | _, _ => none)
theorem fLen_eq (args : Array Operand) (at' : Array TypeId) (P : Program) (call : CallT) (GS : Nat → Option Nat) (T : Tr AV) (S : St) : fLen args at' P call GS T S = evOp P call GS T S (.call ⟨.builtin .len, args, at'⟩) := by
  unfold fLen
  split
  · rename_i x t h1 h2
    simp only
    rw [evOp_rd rfl rfl rfl, opdF_eq]
    congr 1
    simp only [rd, h1, h2]
    cases opd GS T x with
    | none => rfl
    | some v => exact lenF_eq P S t v
  · rfl
noncomputable def isLen (b : Builtin) : Bool := Builtin.rec (motive := fun _ => Bool) false false false false false false false false true false false false false false false false false false false false false false false false false false b
theorem isLen_eq {b : Builtin} (h : isLen b = true) : b = .len := by cases b <;> first | rfl | cases h
noncomputable def fCall (c : Call) : OpK := Call.rec (motive := fun _ => OpK) (fun ce args at' => Callee.rec (motive := fun _ => Array Operand → Array TypeId → OpK)
    (fun f args _ => fCallV f args)
    (fun r m args at' => fOld (.call ⟨.invoke r m, args, at'⟩))
    (fun b args at' => Bool.rec (motive := fun _ => OpK) (fOld (.call ⟨.builtin b, args, at'⟩)) (fLen args at') (isLen b)) ce args at') c
theorem fCall_eq (c : Call) (P : Program) (call : CallT) (GS : Nat → Option Nat) (T : Tr AV) (S : St) : fCall c P call GS T S = evOp P call GS T S (.call c) := by
  obtain ⟨ce, args, at'⟩ := c
  cases ce with
  | value f => exact fCallV_eq f args at' P call GS T S
  | invoke r m => rfl
  | builtin b =>
    show Bool.rec (motive := fun _ => OpK) (fOld (.call ⟨.builtin b, args, at'⟩)) (fLen args at') (isLen b) P call GS T S = _
    cases hb : isLen b with
    | false => rfl
    | true => rw [isLen_eq hb]; exact fLen_eq args at' P call GS T S
noncomputable def evOpF (op : Op) : OpK := Op.rec (motive := fun _ => OpK) fMove fMove fPick
  fAlloc (fun e v => fOld (.box e v)) (fun t p => fOld (.build t p)) (fun t l p => fOld (.buildSlice t l p)) (fun a b c d => fOld (.insert a b c d))
  fLoad fStore (fun g => fOld (.ready g)) (fun g => fOld (.waits g)) fNil fBin (fun a b c => fOld (.unOp a b c)) (fun a b c => fOld (.convert a b c))
  (fun a b => fOld (.sliceToArrayPointer a b)) (fun a b => fOld (.makeInterface a b)) (fun a b c => fOld (.makeFunc a b c)) (fun a b => fOld (.makeMap a b)) (fun a b => fOld (.makeChan a b))
  (fun a b c => fOld (.makeSlice a b c)) (fun a b c d e => fOld (.slice a b c d e)) fFieldAddr (fun a b c => fOld (.field a b c)) fIndexAddr (fun a b c => fOld (.index a b c))
  (fun a b c d => fOld (.lookup a b c d)) (fun a b c d => fOld (.mapUpdate a b c d)) (fun a b c => fOld (.mapEntry a b c)) (fun a b c d => fOld (.entryStore a b c d)) (fun a b => fOld (.range a b)) (fun a b => fOld (.next a b)) (fun a => fOld (.entry a))
  (fun a b c d => fOld (.typeAssert a b c d)) fExtract fCall (fun c => fOld (.go c)) (fun c => fOld (.defer c)) (fun c => fOld (.panic c)) (fun a b => fOld (.send a b)) (fun a b c => fOld (.recv a b c)) (fun a b => fOld (.select a b)) op
theorem evOpF_eq (op : Op) (P : Program) (call : CallT) (GS : Nat → Option Nat) (T : Tr AV) (S : St) : evOpF op P call GS T S = evOp P call GS T S op := by
  cases op
  case move x => exact fMove_eq x P call GS T S
  case assign x => exact fAssign_eq x P call GS T S
  case pick c a b => exact fPick_eq c a b P call GS T S
  case alloc e => exact fAlloc_eq e P call GS T S
  case load t x => exact fLoad_eq t x P call GS T S
  case store t a x => exact fStore_eq t a x P call GS T S
  case nilCheck x => exact fNil_eq x P call GS T S
  case binOp o t x y u => exact fBin_eq o t x y u P call GS T S
  case fieldAddr s x f => exact fFieldAddr_eq s x f P call GS T S
  case indexAddr t x i => exact fIndexAddr_eq t x i P call GS T S
  case extract x i => exact fExtract_eq x i P call GS T S
  case call c => exact fCall_eq c P call GS T S
  all_goals rfl
end Go.Proofs.YtedokmdoompidaaGreatDoor.Ev
