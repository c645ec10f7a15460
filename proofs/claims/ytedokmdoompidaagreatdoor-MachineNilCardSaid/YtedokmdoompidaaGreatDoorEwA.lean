/- The evaluator, made quick for the kernel: its parts by recursors whose branches are closed; each equals the plain one. -/
import Derived.Test.YtedokmdoompidaaGreatDoorEvZ
namespace Go.Proofs.YtedokmdoompidaaGreatDoor.Ev

noncomputable def ob {α β : Type} (o : Option α) (k : α → Option β) : Option β := Option.rec (motive := fun _ => Option β) none k o
@[simp] theorem ob_some {α β : Type} (v : α) (k : α → Option β) : ob (some v) k = k v := rfl
@[simp] theorem ob_none {α β : Type} (k : α → Option β) : ob none k = none := rfl
noncomputable def ife {β : Type} (c : Bool) (t : Option β) : Option β := Bool.rec (motive := fun _ => Option β) none t c
@[simp] theorem ife_t {β : Type} (t : Option β) : ife true t = t := rfl
@[simp] theorem ife_f {β : Type} (t : Option β) : ife false t = none := rfl

noncomputable def getF {α : Type} (t : Tr α) : Nat → Option α :=
  Tr.rec (motive := fun _ => Nat → Option α) (fun _ => none) (fun _ v _ ihl ihr n => Nat.rec (motive := fun _ => Option α) v (fun m _ => Bool.rec (motive := fun _ => Option α) (ihr (Nat.div m 2)) (ihl (Nat.div m 2)) (Nat.beq (Nat.mod m 2) 0)) n) t
noncomputable def nodeL {α : Type} (v : Option α) (r : Tr α) (o : Option (Tr α)) : Option (Tr α) := Option.rec (motive := fun _ => Option (Tr α)) none (fun l => some (.node l v r)) o
noncomputable def nodeR {α : Type} (l : Tr α) (v : Option α) (o : Option (Tr α)) : Option (Tr α) := Option.rec (motive := fun _ => Option (Tr α)) none (fun r => some (.node l v r)) o
noncomputable def putF {α : Type} (x : Option α) (f : Nat) : Tr α → Nat → Option (Tr α) :=
  Nat.rec (motive := fun _ => Tr α → Nat → Option (Tr α)) (fun _ _ => none) (fun _ ih t n => Tr.rec (motive := fun _ => Option (Tr α))
    (Nat.rec (motive := fun _ => Option (Tr α)) (some (.node .leaf x .leaf)) (fun m _ => Bool.rec (motive := fun _ => Option (Tr α)) (nodeR .leaf none (ih .leaf (Nat.div m 2))) (nodeL none .leaf (ih .leaf (Nat.div m 2))) (Nat.beq (Nat.mod m 2) 0)) n)
    (fun l v r _ _ => Nat.rec (motive := fun _ => Option (Tr α)) (some (.node l x r)) (fun m _ => Bool.rec (motive := fun _ => Option (Tr α)) (nodeR l v (ih r (Nat.div m 2))) (nodeL v r (ih l (Nat.div m 2))) (Nat.beq (Nat.mod m 2) 0)) n) t) f
theorem getF_eq {α : Type} : ∀ (t : Tr α) (n : Nat), getF t n = t.get n
  | .leaf, n => by cases n <;> rfl
  | .node l v r, n => by
    cases n with
    | zero => rfl
    | succ m =>
      have h1 := getF_eq l (m / 2)
      have h2 := getF_eq r (m / 2)
      show Bool.rec (motive := fun _ => Option α) (getF r (m / 2)) (getF l (m / 2)) (Nat.beq (m % 2) 0) = _
      rw [h1, h2]
      simp only [Tr.get]
      cases Nat.beq (m % 2) 0 <;> rfl
theorem putF_eq {α : Type} (x : Option α) : ∀ (f : Nat) (t : Tr α) (n : Nat), putF x f t n = Tr.put x f t n := by
  intro f
  induction f with
  | zero => intro t n; rfl
  | succ f ih =>
    intro t n
    cases t with
    | leaf =>
      cases n with
      | zero => rfl
      | succ m =>
        have h1 := ih .leaf (m / 2)
        show Bool.rec (motive := fun _ => Option (Tr α)) (nodeR .leaf none (putF x f .leaf (m / 2))) (nodeL none .leaf (putF x f .leaf (m / 2))) (Nat.beq (m % 2) 0) = _
        rw [h1]
        simp only [Tr.put]
        cases Nat.beq (m % 2) 0 <;> cases Tr.put x f .leaf (m / 2) <;> rfl
    | node l v r =>
      cases n with
      | zero => rfl
      | succ m =>
        have h1 := ih l (m / 2)
        have h2 := ih r (m / 2)
        show Bool.rec (motive := fun _ => Option (Tr α)) (nodeR l v (putF x f r (m / 2))) (nodeL v r (putF x f l (m / 2))) (Nat.beq (m % 2) 0) = _
        rw [h1, h2]
        simp only [Tr.put]
        cases Nat.beq (m % 2) 0
        · cases Tr.put x f r (m / 2) <;> rfl
        · cases Tr.put x f l (m / 2) <;> rfl
noncomputable def putAllF {α : Type} (l : List α) : Tr α → Nat → Option (Tr α) :=
  List.rec (motive := fun _ => Tr α → Nat → Option (Tr α)) (fun t _ => some t) (fun x _ ih t n => ob (putF (some x) 24 t n) (fun t' => ih t' (Nat.succ n))) l
theorem putAllF_eq {α : Type} : ∀ (l : List α) (t : Tr α) (n : Nat), putAllF l t n = Tr.putAll l t n
  | [], t, n => rfl
  | x :: l, t, n => by
    show ob (putF (some x) 24 t n) (fun t' => putAllF l t' (n + 1)) = _
    rw [putF_eq]
    simp only [Tr.putAll]
    cases Tr.put (some x) 24 t n with
    | none => rfl
    | some t' => exact putAllF_eq l t' (n + 1)
noncomputable def getAllF {α : Type} (t : Tr α) (n : Nat) : Nat → Option (List α) :=
  Nat.rec (motive := fun _ => Nat → Option (List α)) (fun _ => some []) (fun _ ih i => ob (getF t i) (fun x => ob (ih (Nat.succ i)) (fun l => some (x :: l)))) n
theorem getAllF_eq {α : Type} (t : Tr α) : ∀ (n i : Nat), getAllF t n i = t.getAll n i
  | 0, i => rfl
  | n + 1, i => by
    show ob (getF t i) (fun x => ob (getAllF t n (i + 1)) (fun l => some (x :: l))) = _
    rw [getF_eq, getAllF_eq t n]
    simp only [Tr.getAll]
    cases t.get i with
    | none => rfl
    | some x => cases t.getAll n (i + 1) <;> rfl

noncomputable def opdF (GS : Nat → Option Nat) (T : Tr AV) (x : Operand) : Option AV :=
  Operand.rec (motive := fun _ => (Nat → Option Nat) → Tr AV → Option AV) (fun t _ T => getF T t) (fun v _ _ => ofVal v) (fun g GS _ => ob (GS g) (fun _ => some (.ptr g 0))) (fun f _ _ => some (.fn f [] [])) x GS T
theorem opdF_eq (GS : Nat → Option Nat) (T : Tr AV) (x : Operand) : opdF GS T x = opd GS T x := by
  cases x with
  | tmp t => exact getF_eq T t
  | const v => rfl
  | global g => simp only [opd]; show ob (GS g) _ = _; cases GS g <;> rfl
  | func f => rfl
noncomputable def opdsF (GS : Nat → Option Nat) (T : Tr AV) (l : List Operand) : Option (List AV) :=
  List.rec (motive := fun _ => Option (List AV)) (some []) (fun x _ ih => ob (opdF GS T x) (fun v => ob ih (fun vs => some (v :: vs)))) l
theorem opdsF_eq (GS : Nat → Option Nat) (T : Tr AV) : ∀ l, opdsF GS T l = opds GS T l
  | [] => rfl
  | x :: l => by
    show ob (opdF GS T x) (fun v => ob (opdsF GS T l) (fun vs => some (v :: vs))) = _
    rw [opdF_eq, opdsF_eq GS T l]
    simp only [opds]
    cases opd GS T x with
    | none => rfl
    | some v => cases opds GS T l <;> rfl

-- The kinds of values: by the recursor.
noncomputable def ptrOf (x : AV) : Option (Nat × Nat) := AV.rec (motive_1 := fun _ => Option (Nat × Nat)) (motive_2 := fun _ => Unit)
  (fun _ => none) (fun _ _ => none) (fun _ => none) none (fun b o => some (b, o)) none (fun _ _ _ _ => none) (fun _ _ _ _ => none) none none (fun _ => none) none (fun _ _ _ _ _ => none) (fun _ _ => none) (fun _ _ => none) (fun _ => none) () (fun _ _ _ _ => ()) x
noncomputable def boolOf (x : AV) : Option Bool := AV.rec (motive_1 := fun _ => Option Bool) (motive_2 := fun _ => Unit)
  (fun b => some b) (fun _ _ => none) (fun _ => none) none (fun _ _ => none) none (fun _ _ _ _ => none) (fun _ _ _ _ => none) none none (fun _ => none) none (fun _ _ _ _ _ => none) (fun _ _ => none) (fun _ _ => none) (fun _ => none) () (fun _ _ _ _ => ()) x
noncomputable def natI (k : IntKind) (i : Int) : Option (IntKind × Nat) := Int.rec (motive := fun _ => IntKind → Option (IntKind × Nat)) (fun n k => some (k, n)) (fun _ _ => none) i k
noncomputable def natOf (x : AV) : Option (IntKind × Nat) := AV.rec (motive_1 := fun _ => Option (IntKind × Nat)) (motive_2 := fun _ => Unit)
  (fun _ => none) natI (fun _ => none) none (fun _ _ => none) none (fun _ _ _ _ => none) (fun _ _ _ _ => none) none none (fun _ => none) none (fun _ _ _ _ _ => none) (fun _ _ => none) (fun _ _ => none) (fun _ => none) () (fun _ _ _ _ => ()) x
noncomputable def rowOf (x : AV) : Option (Nat × Nat × Nat) := AV.rec (motive_1 := fun _ => Option (Nat × Nat × Nat)) (motive_2 := fun _ => Unit)
  (fun _ => none) (fun _ _ => none) (fun _ => none) none (fun _ _ => none) none (fun b o n _ => some (b, o, n)) (fun b o n _ => some (b, o, n)) none none (fun _ => none) none (fun _ _ _ _ _ => none) (fun _ _ => none) (fun _ _ => none) (fun _ => none) () (fun _ _ _ _ => ()) x
noncomputable def fnOf (x : AV) : Option (FuncId × List AV × List AV) := AV.rec (motive_1 := fun _ => Option (FuncId × List AV × List AV)) (motive_2 := fun _ => Unit)
  (fun _ => none) (fun _ _ => none) (fun _ => none) none (fun _ _ => none) none (fun _ _ _ _ => none) (fun _ _ _ _ => none) none none (fun _ => none) none (fun f a c _ _ => some (f, a, c)) (fun _ _ => none) (fun _ _ => none) (fun _ => none) () (fun _ _ _ _ => ()) x
noncomputable def aggOf (x : AV) : Option (List AV) := AV.rec (motive_1 := fun _ => Option (List AV)) (motive_2 := fun _ => Unit)
  (fun _ => none) (fun _ _ => none) (fun _ => none) none (fun _ _ => none) none (fun _ _ _ _ => none) (fun _ _ _ _ => none) none none (fun _ => none) none (fun _ _ _ _ _ => none) (fun l _ => some l) (fun _ _ => none) (fun _ => none) () (fun _ _ _ _ => ()) x
noncomputable def tupOf (x : AV) : Option (List AV) := AV.rec (motive_1 := fun _ => Option (List AV)) (motive_2 := fun _ => Unit)
  (fun _ => none) (fun _ _ => none) (fun _ => none) none (fun _ _ => none) none (fun _ _ _ _ => none) (fun _ _ _ _ => none) none none (fun _ => none) none (fun _ _ _ _ _ => none) (fun _ _ => none) (fun l _ => some l) (fun _ => none) () (fun _ _ _ _ => ()) x
noncomputable def scalF (x : AV) : Bool := AV.rec (motive_1 := fun _ => Bool) (motive_2 := fun _ => Unit)
  (fun _ => true) (fun _ _ => true) (fun _ => true) true (fun _ _ => true) true (fun _ _ _ _ => true) (fun _ _ _ _ => true) true true (fun _ => true) true (fun _ _ _ _ _ => true) (fun _ _ => false) (fun _ _ => false) (fun _ => true) () (fun _ _ _ _ => ()) x
theorem scalF_eq (x : AV) : scalF x = x.scalar := by cases x <;> rfl
noncomputable def allScF (l : List AV) : Bool := List.rec (motive := fun _ => Bool) true (fun x _ ih => Bool.rec (motive := fun _ => Bool) false ih (scalF x)) l
theorem allScF_eq : ∀ l, allScF l = allScalar l
  | [] => rfl
  | x :: l => by
    show Bool.rec (motive := fun _ => Bool) false (allScF l) (scalF x) = _
    rw [allScF_eq l, scalF_eq, allScalar]
    cases x.scalar <;> rfl
noncomputable def lenL {α : Type} (l : List α) : Nat := List.rec (motive := fun _ => Nat) 0 (fun _ _ ih => Nat.succ ih) l
theorem lenL_eq {α : Type} : ∀ l : List α, lenL l = l.length
  | [] => rfl
  | x :: l => by show Nat.succ (lenL l) = _; rw [lenL_eq l]; rfl
noncomputable def nthF (l : List AV) : Nat → Option AV := List.rec (motive := fun _ => Nat → Option AV) (fun _ => none) (fun x _ ih n => Nat.rec (motive := fun _ => Option AV) (some x) (fun m _ => ih m) n) l
theorem nthF_eq : ∀ (l : List AV) (n : Nat), nthF l n = l[n]?
  | [], n => by simp; rfl
  | x :: l, 0 => by simp; rfl
  | x :: l, n + 1 => by simp; exact nthF_eq l n
noncomputable def appF (l m : List AV) : List AV := List.rec (motive := fun _ => List AV) m (fun x _ ih => x :: ih) l
theorem appF_eq : ∀ l m, appF l m = l ++ m
  | [], m => rfl
  | x :: l, m => by show x :: appF l m = _; rw [appF_eq l]; rfl

-- Cells.
abbrev CellsK (β : Type) := TypeId → Nat → Bool → Bool → Bool → Tr AV → Option β
noncomputable def cellsOf (b : Blk) : Option (Nat × Tr AV) := Blk.rec (motive := fun _ => Option (Nat × Tr AV)) (fun _ n _ _ _ cs => some (n, cs)) (fun _ => none) (fun _ _ => none) b
noncomputable def load1F (S : St) (b o : Nat) : Option AV := ob (getF S.h b) (fun bl => ob (cellsOf bl) (fun c => ife (Nat.ble (Nat.succ o) c.1) (getF c.2 o)))
noncomputable def loadCF (S : St) (b o n : Nat) : Option (List AV) := ob (getF S.h b) (fun bl => ob (cellsOf bl) (fun c => ife (Nat.ble (Nat.add o n) c.1) (getAllF c.2 n o)))
theorem loadCF_eq (S : St) (b o n : Nat) : loadCF S b o n = loadC S b o n := by
  unfold loadCF loadC
  rw [getF_eq]
  cases S.h.get b with
  | none => rfl
  | some bl =>
    cases bl with
    | cells e n0 sp ro sh cs =>
      simp only [ob_some]
      show ob (some (n0, cs)) _ = _
      simp only [ob_some, getAllF_eq]
      show ife (Nat.ble (o + n) n0) _ = _
      cases Nat.ble (o + n) n0 <;> rfl
    | map es => rfl
    | siter s p => rfl
theorem load1F_eq (S : St) (b o : Nat) : load1F S b o = (match loadC S b o 1 with | some [x] => some x | _ => none) := by
  unfold load1F loadC
  rw [getF_eq]
  cases S.h.get b with
  | none => rfl
  | some bl =>
    cases bl with
    | cells e n0 sp ro sh cs =>
      simp only [ob_some]
      show ob (some (n0, cs)) _ = _
      simp only [ob_some, getF_eq]
      show ife (Nat.ble (o + 1) n0) _ = _
      cases Nat.ble (o + 1) n0 with
      | false => rfl
      | true =>
        simp only [ife_t, cond_true, Tr.getAll]
        cases cs.get o <;> rfl
    | map es => rfl
    | siter s p => rfl
noncomputable def loadF (P : Program) (S : St) (t : TypeId) (x : AV) : Option AV :=
  ob (ptrOf x) (fun p => ob (aggT P t) (fun g => Bool.rec (motive := fun _ => Option AV) (load1F S p.1 p.2) (ob (szOf P t) (fun n => ob (loadCF S p.1 p.2 n) (fun l => some (.agg l)))) g))
theorem loadF_eq (P : Program) (S : St) (t : TypeId) (x : AV) : loadF P S t x = loadA P S t x := by
  cases x <;> first | rfl | skip
  rename_i b o
  unfold loadF loadA
  show ob (some (b, o)) _ = _
  simp only [ob_some]
  cases aggT P t with
  | none => rfl
  | some g =>
    cases g with
    | false =>
      show load1F S b o = _
      rw [load1F_eq]
      rfl
    | true =>
      show ob (szOf P t) _ = _
      cases szOf P t with
      | none => rfl
      | some n =>
        simp only [ob_some, loadCF_eq]
        cases loadC S b o n <;> rfl
noncomputable def putBlk (S : St) (b : Nat) (e : TypeId) (n0 : Nat) (sp sh : Bool) (o : Option (Tr AV)) : Option St :=
  ob o (fun cs' => St.rec (motive := fun _ => Option St) (fun h n => ob (putF (some (.cells e n0 sp false sh cs')) 24 h b) (fun h' => some ⟨h', n⟩)) S)
noncomputable def storeKF (bl : Blk) (S : St) (b o n : Nat) (put : Tr AV → Option (Tr AV)) : Option St :=
  Blk.rec (motive := fun _ => St → Nat → Nat → Nat → (Tr AV → Option (Tr AV)) → Option St)
    (fun e n0 sp ro sh cs S b o n put => Bool.rec (motive := fun _ => Option St) (ife (Nat.ble (Nat.add o n) n0) (putBlk S b e n0 sp sh (put cs))) none ro)
    (fun _ _ _ _ _ _ => none) (fun _ _ _ _ _ _ _ => none) bl S b o n put
theorem storeKF_eq (S : St) (b o : Nat) (xs : List AV) (hs : allScalar xs = true) (put : Tr AV → Option (Tr AV)) (hp : ∀ cs, put cs = Tr.putAll xs cs o) :
    ob (getF S.h b) (fun bl => storeKF bl S b o xs.length put) = storeC S b o xs := by
  unfold storeC
  rw [getF_eq]
  cases S.h.get b with
  | none => rfl
  | some bl =>
    cases bl with
    | cells e n0 sp ro sh cs =>
      simp only [ob_some]
      show Bool.rec (motive := fun _ => Option St) (ife (Nat.ble (o + xs.length) n0) (putBlk S b e n0 sp sh (put cs))) none ro = _
      rw [hs]
      cases ro with
      | true => cases Nat.ble (o + xs.length) n0 <;> rfl
      | false =>
        cases Nat.ble (o + xs.length) n0 with
        | false => rfl
        | true =>
          simp only [ife_t, Bool.not_false, Bool.and_true, cond_true, hp, putBlk, putF_eq]
          cases Tr.putAll xs cs o with
          | none => rfl
          | some cs' => simp only [ob_some]; cases Tr.put (some (Blk.cells e n0 sp false sh cs')) 24 S.h b <;> rfl
    | map es => rfl
    | siter s p => rfl
noncomputable def storeF (P : Program) (S : St) (t : TypeId) (a x : AV) : Option St :=
  ob (ptrOf a) (fun p => ob (szOf P t) (fun n => Bool.rec (motive := fun _ => Option St)
    (ob (aggOf x) (fun cs => ife (Nat.beq (lenL cs) n) (ife (allScF cs) (ob (getF S.h p.1) (fun bl => storeKF bl S p.1 p.2 n (fun c => putAllF cs c p.2))))))
    (ife (Nat.beq 1 n) (ob (getF S.h p.1) (fun bl => storeKF bl S p.1 p.2 1 (fun c => putF (some x) 24 c p.2)))) (scalF x)))
theorem storeF_eq (P : Program) (S : St) (t : TypeId) (a x : AV) : storeF P S t a x = storeA P S t a x := by
  cases a <;> first | (unfold storeF storeA; cases szOf P t <;> rfl) | skip
  rename_i b o
  unfold storeF storeA
  show ob (some (b, o)) _ = _
  simp only [ob_some]
  cases szOf P t with
  | none => rfl
  | some n =>
    simp only [ob_some]
    cases hx : x.scalar with
    | true =>
      have hc : x.cells = [x] := by cases x <;> first | rfl | cases hx
      rw [scalF_eq, hx, hc]
      have ha : allScalar [x] = true := by simp [allScalar, hx]
      show ife (Nat.beq 1 n) _ = _
      have := storeKF_eq S b o [x] ha (fun c => putF (some x) 24 c o) (fun cs => by
        simp only [putF_eq, Tr.putAll]; cases Tr.put (some x) 24 cs o <;> rfl)
      rw [ha]
      cases hn : Nat.beq 1 n with
      | false =>
        have h2 : Nat.beq [x].length n = false := hn
        simp only [Bool.false_and, cond_false, ife_f]
      | true =>
        have h2 : Nat.beq [x].length n = true := hn
        simp only [Bool.and_self, cond_true, ife_t]
        exact this
    | false =>
      rw [scalF_eq, hx]
      cases x <;> first | (cases hx; done) | skip
      · rename_i cs
        show ife (Nat.beq (lenL cs) n) _ = _
        rw [lenL_eq, allScF_eq]
        show _ = bif Nat.beq cs.length n && allScalar cs then storeC S b o cs else none
        cases hn : Nat.beq cs.length n with
        | false => rfl
        | true =>
          cases ha : allScalar cs with
          | false => rfl
          | true =>
            simp only [ife_t, Bool.and_self, cond_true]
            rw [← Nat.eq_of_beq_eq_true hn]
            exact storeKF_eq S b o cs ha _ (fun c => putAllF_eq cs c o)
      · show none = _
        simp [AV.cells, allScalar, AV.scalar]
end Go.Proofs.YtedokmdoompidaaGreatDoor.Ev
