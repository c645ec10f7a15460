/- The evaluator's operations that change nothing: arithmetic, parts, loads, lookups. -/
import Derived.Test.YtedokmdoompidaaGreatDoorEvE
namespace Go.Proofs.YtedokmdoompidaaGreatDoor.Ev

/-- Arithmetic of two numbers of a kind. -/
def arith (op : BinOp) (k : IntKind) (x y : Int) : Option AV :=
  match op with
  | .add => some (.int k (k.wrap (x + y)))
  | .sub => some (.int k (k.wrap (x - y)))
  | .mul => some (.int k (k.wrap (x * y)))
  | .quo => if y = 0 then none else some (.int k (k.wrap (x.tdiv y)))
  | .rem => if y = 0 then none else some (.int k (x.tmod y))
  | .and => some (.int k (k.wrap (BitVec.ofInt k.bits x &&& BitVec.ofInt k.bits y).toNat))
  | .or => some (.int k (k.wrap (BitVec.ofInt k.bits x ||| BitVec.ofInt k.bits y).toNat))
  | .xor => some (.int k (k.wrap (BitVec.ofInt k.bits x ^^^ BitVec.ofInt k.bits y).toNat))
  | .andNot => some (.int k (k.wrap (BitVec.ofInt k.bits x &&& ~~~BitVec.ofInt k.bits y).toNat))
  | .eql => some (.bool (x == y))
  | .neq => some (.bool (x != y))
  | .lss => some (.bool (decide (x < y)))
  | .leq => some (.bool (decide (x ≤ y)))
  | .gtr => some (.bool (decide (x > y)))
  | .geq => some (.bool (decide (x ≥ y)))
  | _ => none
def shiftA (op : BinOp) (k : IntKind) (x y : Int) : Option AV :=
  if y < 0 then none else
  match op with
  | .shl => some (.int k (k.wrap (x * 2 ^ min y.toNat k.bits)))
  | .shr => some (.int k (x.fdiv (2 ^ min y.toNat k.bits)))
  | _ => none
def ltL : List Nat → List Nat → Bool
  | _, [] => false
  | [], _ :: _ => true
  | a :: x, b :: y => bif Nat.blt a b then true else bif Nat.beq a b then ltL x y else false
theorem ltL_eq : ∀ (x y : List UInt8), ltL (x.map (·.toNat)) (y.map (·.toNat)) = Op.bytesLess x y
  | x, [] => by cases x <;> simp [ltL, Op.bytesLess]
  | [], _ :: _ => by simp [ltL, Op.bytesLess]
  | a :: x, b :: y => by
    simp only [List.map_cons, ltL, Op.bytesLess, ltL_eq x y]
    cases h : Nat.blt a.toNat b.toNat with
    | true =>
      have : a < b := UInt8.lt_iff_toNat_lt.2 (Nat.le_of_ble_eq_true h)
      simp [this]
    | false =>
      have h1 : ¬ a < b := fun h2 => by
        have := UInt8.lt_iff_toNat_lt.1 h2
        have h3 : Nat.blt a.toNat b.toNat = true := Nat.ble_eq_true_of_le this
        rw [h] at h3; cases h3
      cases h2 : Nat.beq a.toNat b.toNat with
      | true => have := UInt8.toNat_inj.1 (Nat.eq_of_beq_eq_true h2); subst this; simp
      | false =>
        have : a ≠ b := fun e => Nat.ne_of_beq_eq_false h2 (by rw [e])
        simp [h1, this]
def strA (op : BinOp) (x y : List Nat) : Option AV :=
  match op with
  | .add => if x.length + y.length < 2 ^ 40 then some (.str (x ++ y)) else none
  | .eql => some (.bool (beqL x y))
  | .neq => some (.bool !(beqL x y))
  | .lss => some (.bool (ltL x y))
  | .leq => some (.bool (ltL x y || beqL x y))
  | .gtr => some (.bool !(ltL x y || beqL x y))
  | .geq => some (.bool !(ltL x y))
  | _ => none

def AV.isAgg : AV → Bool
  | .agg _ => true
  | _ => false
def binA (P : Program) (S : St) (op : BinOp) (t : TypeId) (x y : AV) : Option AV :=
  match x, y with
  | .int k a, .int k' b => (match op with
    | .shl => shiftA .shl k a b
    | .shr => shiftA .shr k a b
    | op => if k = k' then arith op k a b else none)
  | .str a, .str b => strA op a b
  | x, y => if x.isAgg && P.eqGuardType P.depth t then none else
    match op with
    | .eql => (match eqv P S 20 t x y with | some b => some (.bool b) | none => none)
    | .neq => (match eqv P S 20 t x y with | some b => some (.bool !b) | none => none)
    | _ => none

section
variable (σ : Nat → Value)
def numV : AV → Value
  | .int k n => .int k n
  | .bool b => .bool b
  | _ => .nilFunc
theorem arith_run {P : Program} {w : World} {op : BinOp} {k : IntKind} {x y : Int} {v : AV} (h : arith op k x y = some v) (h1 : op ≠ .shl) (h2 : op ≠ .shr) (t : TypeId) {φ : Phi} :
    ∃ u, (binOp op t (.int k x) (.int k y)).run P w = .ok u w ∧ V σ φ v u := by
  refine ⟨numV v, ?_⟩
  cases op <;> simp only [arith] at h <;> first
    | (exact absurd rfl h1)
    | (exact absurd rfl h2)
    | (cases h; done)
    | (by_cases hy : y = 0
       · rw [if_pos hy] at h; cases h
       · rw [if_neg hy] at h
         injection h with h; subst h
         exact ⟨by simp only [binOp, Op.intDiv, hy, ne_eq, not_true_eq_false, if_false, Sem.run_pure, numV], by simp only [V, numV]⟩)
    | (injection h with h; subst h
       exact ⟨by simp only [binOp, Op.intArith, Op.intBits, Op.intCmp, ne_eq, not_true_eq_false, if_false, Sem.run_pure, numV], by simp only [V, numV]⟩)

theorem shiftA_run {P : Program} {w : World} {op : BinOp} {k k' : IntKind} {x y : Int} {v : AV} (h : shiftA op k x y = some v) (t : TypeId) {φ : Phi} :
    ∃ u, (binOp op t (.int k x) (.int k' y)).run P w = .ok u w ∧ V σ φ v u := by
  refine ⟨numV v, ?_⟩
  unfold shiftA at h
  by_cases hy : y < 0
  · rw [if_pos hy] at h; cases h
  · rw [if_neg hy] at h
    cases op <;> simp only at h <;> first
      | (cases h; done)
      | (injection h with h; subst h
         exact ⟨by simp only [binOp, Op.shift, hy, if_false, Sem.run_pure, numV], by simp only [V, numV]⟩)
theorem bytes_toList (a : ByteArray) : a.toList.map (·.toNat) = bytesOf a := by rw [ByteArray.toList_eq]; rfl
theorem bytes_beq (a b : ByteArray) : (a.toList == b.toList) = beqL (bytesOf a) (bytesOf b) := by
  rw [← beq_toListBytes, beq_bytes, beqL_eq]
theorem bytesOf_length (a : ByteArray) : (bytesOf a).length = a.size := by simp [bytesOf]
theorem bytesOf_append (a b : ByteArray) : bytesOf (a ++ b) = bytesOf a ++ bytesOf b := by simp [bytesOf]

theorem strA_run {P : Program} {w : World} {op : BinOp} {a b : ByteArray} {v : AV} (h : strA op (bytesOf a) (bytesOf b) = some v) (t : TypeId) {φ : Phi} :
    ∃ u, (binOp op t (.string a) (.string b)).run P w = .ok u w ∧ V σ φ v u := by
  have hl := ltL_eq a.toList b.toList
  rw [bytes_toList, bytes_toList] at hl
  have he := bytes_beq a b
  cases op <;> simp only [strA] at h <;> first
    | (cases h; done)
    | (split at h
       · rename_i hlen
         injection h with h; subst h
         rw [bytesOf_length, bytesOf_length] at hlen
         have : ¬ (((a.size + b.size : Nat) : Int) > IntKind.i64.max) := by
           have : IntKind.i64.max = 9223372036854775807 := by decide
           rw [this]; omega
         refine ⟨.string (a ++ b), ?_, ?_⟩
         · simp only [binOp, Op.stringOp, if_neg this, Sem.run_pure]
         · simp only [V]; exact ⟨_, rfl, bytesOf_append a b⟩
       · cases h)
    | (refine ⟨numV v, ?_⟩
       injection h with h; subst h
       exact ⟨by simp only [binOp, Op.stringOp, Sem.run_pure, ← hl, he, numV], by simp only [V, numV]⟩)

theorem eqGuard_run {P : Program} {φ : Phi} {w : World} {op : BinOp} {t : TypeId} {x y : Operand} {a b : AV} {v u : Value} (hσ : ∀ k, σ k ≠ .nilIface) (hs : Small σ) (ha : V σ φ a v) (hb : V σ φ b u) (hg : (a.isAgg && P.eqGuardType P.depth t) = false) :
    (eqGuard op t x y v u).run P w = .ok () w := by
  unfold eqGuard
  cases ho : !(op matches .eql | .neq) with
  | true => simp
  | false =>
    simp only [Bool.false_eq_true, if_false]
    cases a with
    | agg cs =>
      simp only [V] at ha
      obtain ⟨vs, rfl, _⟩ := ha
      simp only [AV.isAgg, Bool.true_and] at hg
      cases u <;> simp [hg]
    | sym k =>
      simp only [V] at ha; subst ha
      have h1 := hσ k; have h2 := hs k
      generalize σ k = q at h1 h2
      cases q <;> first | (exact absurd rfl h1) | (simp [Value.oneCell'] at h2; done) | (cases u <;> simp)
    | _ =>
      simp only [V] at ha
      first
        | (subst ha; cases u <;> simp; done)
        | (obtain ⟨_, rfl, _⟩ := ha; cases u <;> simp; done)
        | (obtain ⟨_, _, rfl⟩ := ha; cases u <;> simp; done)
        | (obtain ⟨_, _, _, rfl⟩ := ha; cases u <;> simp; done)
        | (obtain ⟨_, _, _, _, rfl, _⟩ := ha; cases u <;> simp; done)
        | (obtain ⟨_, _, rfl, _⟩ := ha; cases u <;> simp; done)

theorem eqv_shape {P : Program} {S : St} {d : Nat} {t : TypeId} {a b : AV} {c : Bool} (h : eqv P S d t a b = some c) {p q : Value} {φ : Phi} (ha : V σ φ a p) (hni : ∀ k x k' y, a = .int k x → b = .int k' y → False) (hns : ∀ x y, a = .str x → b = .str y → False) :
    binOp .eql t p q = (do pure (.bool (← Op.equal t p q))) ∧ binOp .neq t p q = (do pure (.bool (!(← Op.equal t p q)))) := by
  cases d with
  | zero => simp [eqv] at h
  | succ d =>
    have key : (∀ k n, p ≠ .int k n) ∧ (∀ s, p ≠ .string s) ∧ (∀ k n, p ≠ .float k n) ∧ (∀ k m n, p ≠ .complex k m n) := by
      cases a with
      | int k x =>
        exfalso
        simp only [eqv] at h
        cases b <;> first
          | exact hni _ _ _ _ rfl rfl
          | (split at h <;> simp at h)
      | str s =>
        exfalso
        simp only [eqv] at h
        cases b <;> first
          | exact hns _ _ rfl rfl
          | (split at h <;> simp at h)
      | sym k =>
        exfalso
        simp only [eqv] at h
        split at h <;> (cases b <;> simp at h)
      | _ =>
        simp only [V] at ha
        first
          | (subst ha; simp; done)
          | (obtain ⟨_, rfl, _⟩ := ha; simp; done)
          | (obtain ⟨_, _, rfl⟩ := ha; simp; done)
          | (obtain ⟨_, _, _, rfl⟩ := ha; simp; done)
          | (obtain ⟨_, _, _, _, rfl, _⟩ := ha; simp; done)
          | (obtain ⟨_, _, rfl, _⟩ := ha; simp; done)
    obtain ⟨h1, h2, h3, h4⟩ := key
    cases p <;> first
      | exact absurd rfl (h1 _ _)
      | exact absurd rfl (h2 _)
      | exact absurd rfl (h3 _ _)
      | exact absurd rfl (h4 _ _ _)
      | (cases q <;> exact ⟨rfl, rfl⟩)

/-- The caller's values are data of one cell, no interfaces. -/
structure Okσ : Prop where
  small : Small σ
  iface : ∀ k, σ k ≠ .nilIface

theorem binA_run {P : Program} {φ : Phi} {S : St} {w : World} (hσ : Okσ σ) (hW : W σ φ S w) {op : BinOp} {t : TypeId} {x y : Operand} {a b v : AV} {p q : Value} (ha : V σ φ a p) (hb : V σ φ b q) (h : binA P S op t a b = some v) :
    ∃ u, (do eqGuard op t x y p q; binOp op t p q : Sem Value).run P w = .ok u w ∧ V σ φ v u := by
  unfold binA at h
  split at h
  · have hgd := eqGuard_run σ (op := op) (x := x) (y := y) (P := P) (t := t) (w := w) hσ.iface hσ.small ha hb (by simp [AV.isAgg])
    simp only [V] at ha hb; subst ha; subst hb
    simp only [Sem.run_bind, hgd, Result.andThen_ok]
    split at h
    · exact shiftA_run σ h t
    · exact shiftA_run σ h t
    · split at h
      · rename_i hk; subst hk
        rename_i h1 h2
        exact arith_run σ h (fun e => h1 e) (fun e => h2 e) t
      · cases h
  · have hgd := eqGuard_run σ (op := op) (x := x) (y := y) (P := P) (t := t) (w := w) hσ.iface hσ.small ha hb (by simp [AV.isAgg])
    simp only [V] at ha hb
    obtain ⟨s, rfl, rfl⟩ := ha
    obtain ⟨s', rfl, rfl⟩ := hb
    simp only [Sem.run_bind, hgd, Result.andThen_ok]
    exact strA_run σ h t
  · rename_i hni hns
    split at h
    · cases h
    · rename_i hg
      have hgd := eqGuard_run σ (op := op) (x := x) (y := y) (P := P) (t := t) (w := w) hσ.iface hσ.small ha hb (by simpa using hg)
      simp only [Sem.run_bind, hgd, Result.andThen_ok]
      split at h
      · split at h
        · rename_i c hc
          injection h with h; subst h
          have he := eqv_run σ hW 20 t a b c hc p q ha hb Op.maxDepth (by decide)
          have hsh := eqv_shape σ hc (q := q) ha (fun k x k' y h1 h2 => hni _ _ _ _ h1 h2) (fun x y h1 h2 => hns _ _ h1 h2)
          refine ⟨.bool c, ?_, by simp only [V]⟩
          rw [hsh.1]
          simp only [Op.equal, Sem.run_bind, he, Result.andThen_ok, Sem.run_pure]
        · cases h
      · split at h
        · rename_i c hc
          injection h with h; subst h
          have he := eqv_run σ hW 20 t a b c hc p q ha hb Op.maxDepth (by decide)
          have hsh := eqv_shape σ hc (q := q) ha (fun k x k' y h1 h2 => hni _ _ _ _ h1 h2) (fun x y h1 h2 => hns _ _ h1 h2)
          refine ⟨.bool !c, ?_, by simp only [V]⟩
          rw [hsh.2]
          simp only [Op.equal, Sem.run_bind, he, Result.andThen_ok, Sem.run_pure]
        · cases h
      · cases h
end
end Go.Proofs.YtedokmdoompidaaGreatDoor.Ev
