/- The evaluator: a deferred function that looks whether there is a panic, and does no more when there is none. -/
import Derived.Test.YtedokmdoompidaaGreatDoorEvO
import Derived.Recover
namespace Go.Proofs.YtedokmdoompidaaGreatDoor.Ev

/-- The operations of such a function: recover, its slots; the test. -/
def isRec (o : Oper) (a : Nat) : Bool := match o.guard, o.dst, o.op with
  | none, some a', .call c => (match c.callee with
    | .builtin .recover => Nat.beq a a' && Nat.beq c.args.size 0
    | _ => false)
  | _, _, _ => false
def isAsg (o : Oper) (b a : Nat) : Bool := match o.guard, o.dst, o.op with
  | none, some b', .assign (.tmp a') => Nat.beq b b' && Nat.beq a a'
  | _, _, _ => false
def isMov (o : Oper) (b a : Nat) : Bool := match o.guard, o.dst, o.op with
  | none, some b', .move (.tmp a') => Nat.beq b b' && Nat.beq a a'
  | _, _, _ => false
def isIface (P : Program) (t : TypeId) : Bool := match P.underlying t with
  | some (.interface _) => true
  | _ => false
def isNeq (P : Program) (o : Oper) (d c : Nat) : Bool := match o.guard, o.dst, o.op with
  | none, some d', .binOp .neq t (.tmp c') (.const .nilIface) _ => Nat.beq d d' && Nat.beq c c' && isIface P t
  | _, _, _ => false
def dst0 (o : Oper) : Nat := o.dst.getD 0
def quietOps (P : Program) (A B : List Oper) (d nt : Nat) : Bool := match A, B with
  | [o1, o2], [o3, o4] => isRec o1 (dst0 o1) && isAsg o2 (dst0 o2) (dst0 o1) && isMov o3 (dst0 o3) (dst0 o2) && isNeq P o4 d (dst0 o3) && Nat.blt (dst0 o1) nt && Nat.blt (dst0 o2) nt && Nat.blt (dst0 o3) nt && Nat.blt d nt
  | _, _ => false
def quietC (P : Program) (nt : Nat) : Code → Bool
  | .seq (.region _ A false) (.seq (.region _ B false) (.cond (.tmp d) _ .skip)) => quietOps P A.toList B.toList d nt
  | _ => false
def quietF (P : Program) (f : FuncId) : Bool := match P.funcs[f]? with
  | some fn => (match fn.body with
    | some c => quietC P fn.ntmps c && fn.results.toList.isEmpty
    | none => false)
  | none => false
theorem isRec_run {P : Program} {o : Oper} {a : Nat} (h : isRec o a = true) (e : Operand → Value) (w : World) : o.guard = none ∧ o.dst = some a ∧ (execOp e o).run P w = .ok .recover w := by
  obtain ⟨dst, op, ty, p, af, g⟩ := o
  unfold isRec at h
  simp only at h
  split at h
  · rename_i a' c
    obtain ⟨ce, args, at'⟩ := c
    simp only at h
    split at h
    · simp only [Bool.and_eq_true] at h
      refine ⟨rfl, by rw [Nat.eq_of_beq_eq_true h.1], ?_⟩
      obtain rfl : args = #[] := Array.eq_empty_of_size_eq_zero (Nat.eq_of_beq_eq_true h.2)
      simp [execOp, resolve, invoke, builtin]
    · cases h
  · cases h
theorem isAsg_run {P : Program} {o : Oper} {b a : Nat} (h : isAsg o b a = true) (ac : Act) (w : World) : o.guard = none ∧ o.dst = some b ∧ (execOp ac.eval o).run P w = .ok (.value (ac.tmps.getD a undef)) w := by
  obtain ⟨dst, op, ty, p, af, g⟩ := o
  unfold isAsg at h
  simp only at h
  split at h
  · simp only [Bool.and_eq_true] at h
    obtain ⟨h1, h2⟩ := h
    rw [← Nat.eq_of_beq_eq_true h1, ← Nat.eq_of_beq_eq_true h2]
    exact ⟨rfl, rfl, by simp [execOp, Act.eval]⟩
  · cases h
theorem isMov_run {P : Program} {o : Oper} {b a : Nat} (h : isMov o b a = true) (ac : Act) (w : World) : o.guard = none ∧ o.dst = some b ∧ (execOp ac.eval o).run P w = .ok (.value (ac.tmps.getD a undef)) w := by
  obtain ⟨dst, op, ty, p, af, g⟩ := o
  unfold isMov at h
  simp only at h
  split at h
  · simp only [Bool.and_eq_true] at h
    obtain ⟨h1, h2⟩ := h
    rw [← Nat.eq_of_beq_eq_true h1, ← Nat.eq_of_beq_eq_true h2]
    exact ⟨rfl, rfl, by simp [execOp, Act.eval]⟩
  · cases h
theorem equal_nil (P : Program) (t : TypeId) (w : World) (h : isIface P t = true) : (Op.equalIn Op.maxDepth t .nilIface .nilIface).run P w = .ok true w := by
  obtain ⟨n, hn⟩ : ∃ n, Op.maxDepth = n + 1 := ⟨_, rfl⟩
  unfold isIface at h
  split at h
  · rename_i ht
    rw [hn, Op.equalIn]
    simp [run_underlying ht]
  · cases h
theorem isNeq_run {P : Program} {o : Oper} {d c : Nat} (h : isNeq P o d c = true) (ac : Act) (w : World) (hc : ac.tmps.getD c undef = .nilIface) : o.guard = none ∧ o.dst = some d ∧ (execOp ac.eval o).run P w = .ok (.value (.bool false)) w := by
  obtain ⟨dst, op, ty, p, af, g⟩ := o
  unfold isNeq at h
  simp only at h
  split at h
  · simp only [Bool.and_eq_true] at h
    obtain ⟨⟨h1, h2⟩, h3⟩ := h
    rw [← Nat.eq_of_beq_eq_true h2, ← Nat.eq_of_beq_eq_true h1]
    refine ⟨rfl, rfl, ?_⟩
    have hc' : ac.tmps[c]?.getD undef = .nilIface := by simpa using hc
    simp [execOp, Act.eval, eqGuard, binOp, hc', Op.equal, equal_nil P _ _ h3]
  · cases h
theorem wpS_val {P : Program} {ops : Array Oper} {Q : Exit → Act → List Frame → World → Prop} {i : Nat} {r : List Nat} {a : Act} {cs : List Frame} {w : World} {o : Oper} {d : Nat} {v : Value} (ho : ops[i]? = some o)
    (hg : o.guard = none) (hd : o.dst = some d) (hr : (execOp a.eval o).run P w = .ok (.value v) w) (h : wpOpsS P ops Q r (a.put (some d) v) cs w) : wpOpsS P ops Q (i :: r) a cs w := by
  unfold wpOpsS
  simp only [ho]
  rw [if_pos (by simp [Region.wanted, hg]), hr]
  simp only [Oper.upon, hd]
  exact h
theorem wpS_rec {P : Program} {ops : Array Oper} {Q : Exit → Act → List Frame → World → Prop} {i : Nat} {r : List Nat} {a : Act} {c₀ : Frame} {cs : List Frame} {w : World} {o : Oper} {d : Nat} (ho : ops[i]? = some o)
    (hg : o.guard = none) (hd : o.dst = some d) (hr : (execOp a.eval o).run P w = .ok .recover w) (hm : c₀.mode = .returning) (h : wpOpsS P ops Q r (a.put (some d) .nilIface) (c₀ :: cs) w) : wpOpsS P ops Q (i :: r) a (c₀ :: cs) w := by
  unfold wpOpsS
  simp only [ho]
  rw [if_pos (by simp [Region.wanted, hg]), hr]
  simp only [recoverD, hm, hd]
  exact h
theorem put_get {a : Act} {t : Nat} {v : Value} (h : t < a.tmps.size) : (a.put (some t) v).tmps.getD t undef = v := by
  simp [Act.put, h]
theorem put_size {a : Act} {t : Nat} {v : Value} : (a.put (some t) v).tmps.size = a.tmps.size := by simp [Act.put]
theorem put_defs {a : Act} {t : Nat} {v : Value} : (a.put (some t) v).defers = a.defers := rfl
theorem quiet_callsD {P : Program} {f : FuncId} (h : quietF P f = true) (args : Array Value) (w : World) : CallsD P f args .returning w fun e u w' => (∃ v, e = .returned v) ∧ u = .returning ∧ w' = w := by
  unfold quietF at h
  split at h
  · rename_i fn hf
    split at h
    · rename_i c hb
      simp only [Bool.and_eq_true] at h
      obtain ⟨h, hr⟩ := h
      unfold quietC at h
      split at h
      · rename_i i1 A i2 B d x
        unfold quietOps at h
        split at h
        · rename_i o1 o2 o3 o4 hA hB
          simp only [Bool.and_eq_true] at h
          obtain ⟨⟨⟨⟨⟨⟨⟨h1, h2⟩, h3⟩, h4⟩, l1⟩, l2⟩, l3⟩, l4⟩ := h
          have lt : ∀ {x y : Nat}, Nat.blt x y = true → x < y := fun h => Nat.le_of_ble_eq_true h
          have hA' : A = #[o1, o2] := Array.ext' hA
          have hB' : B = #[o3, o4] := Array.ext' hB
          subst hA' hB'
          refine callsD_of_wpS hf hb fun c₀ cs hu => ?_
          refine wpS_seq (wpS_region ?_)
          obtain ⟨a, ha⟩ : ∃ a : Act, a = { tmps := args ++ Array.replicate (fn.ntmps - args.size) undef, defers := [] } := ⟨_, rfl⟩
          have hsz : fn.ntmps ≤ a.tmps.size := by rw [ha]; simp; omega
          have hdf : a.defers = [] := by rw [ha]
          rw [← ha]
          clear ha
          have m1 : dst0 o1 < a.tmps.size := Nat.lt_of_lt_of_le (lt l1) hsz
          have m2 : dst0 o2 < a.tmps.size := Nat.lt_of_lt_of_le (lt l2) hsz
          have m3 : dst0 o3 < a.tmps.size := Nat.lt_of_lt_of_le (lt l3) hsz
          have m4 : d < a.tmps.size := Nat.lt_of_lt_of_le (lt l4) hsz
          obtain ⟨g1, d1, r1⟩ := isRec_run (P := P) h1 a.eval w
          refine wpS_rec (i := 0) (r := [1]) rfl g1 d1 r1 hu ?_
          obtain ⟨g2, d2, r2⟩ := isAsg_run (P := P) h2 (a.put (some (dst0 o1)) .nilIface) w
          rw [put_get m1] at r2
          refine wpS_val (i := 1) (r := []) rfl g2 d2 r2 ?_
          refine wpS_seq (wpS_region ?_)
          obtain ⟨g3, d3, r3⟩ := isMov_run (P := P) h3 ((a.put (some (dst0 o1)) .nilIface).put (some (dst0 o2)) .nilIface) w
          rw [put_get (by rw [put_size]; exact m2)] at r3
          refine wpS_val (i := 0) (r := [1]) rfl g3 d3 r3 ?_
          obtain ⟨g4, d4, r4⟩ := isNeq_run (P := P) h4 (((a.put (some (dst0 o1)) .nilIface).put (some (dst0 o2)) .nilIface).put (some (dst0 o3)) .nilIface) w (put_get (by rw [put_size, put_size]; exact m3))
          refine wpS_val (i := 1) (r := []) rfl g4 d4 r4 ?_
          refine wpS_cond (t := false) (put_get (by rw [put_size, put_size, put_size]; exact m4)) ?_
          refine wpS_of_wp (wp_skip ?_)
          refine ⟨hdf, .returning, by rw [← hu], _, results_none ?_ _ _ _, ⟨_, rfl⟩, rfl, rfl⟩
          exact Array.ext' (by simpa using hr)
        · cases h
      · cases h
    · cases h
  · cases h
end Go.Proofs.YtedokmdoompidaaGreatDoor.Ev
