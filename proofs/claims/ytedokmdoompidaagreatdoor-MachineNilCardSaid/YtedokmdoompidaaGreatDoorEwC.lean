/- The quick evaluator: arithmetic. -/
import Derived.Test.YtedokmdoompidaaGreatDoorEwB
namespace Go.Proofs.YtedokmdoompidaaGreatDoor.Ev

noncomputable def els {β : Type} (c : Bool) (t d : Option β) : Option β := Bool.rec (motive := fun _ => Option β) d t c
@[simp] theorem els_t {β : Type} (t d : Option β) : els true t d = t := rfl
@[simp] theorem els_f {β : Type} (t d : Option β) : els false t d = d := rfl
noncomputable def forceN (k : IntKind) (n : Nat) : Option AV := Nat.rec (motive := fun _ => IntKind → Option AV) (fun k => some (.int k (.ofNat 0))) (fun m _ k => some (.int k (.ofNat (Nat.succ m)))) n k
theorem forceN_eq (k : IntKind) (n : Nat) : forceN k n = some (.int k (.ofNat n)) := by cases n <;> rfl
noncomputable def kc (k : IntKind) : Nat := IntKind.rec (motive := fun _ => Nat) 0 1 2 3 4 5 6 7 k
noncomputable def bitsF (k : IntKind) : Nat := IntKind.rec (motive := fun _ => Nat) 8 16 32 64 8 16 32 64 k
noncomputable def pwF (k : IntKind) : Nat := IntKind.rec (motive := fun _ => Nat) 256 65536 4294967296 18446744073709551616 256 65536 4294967296 18446744073709551616 k
theorem bitsF_eq (k : IntKind) : bitsF k = k.bits := by cases k <;> rfl
theorem pwF_eq (k : IntKind) : pwF k = 2 ^ k.bits := by cases k <;> rfl
theorem kc_eq {k k' : IntKind} (h : Nat.beq (kc k) (kc k') = true) : k = k' := by cases k <;> cases k' <;> first | rfl | (exact absurd h (by decide)) | (cases h; done)
noncomputable def mkF (k : IntKind) (n : Nat) (d : Option AV) : Option AV := IntKind.rec (motive := fun _ => Nat → Option AV → Option AV)
  (fun n d => els (Nat.ble n 127) (forceN .i8 n) d) (fun n d => els (Nat.ble n 32767) (forceN .i16 n) d) (fun n d => els (Nat.ble n 2147483647) (forceN .i32 n) d) (fun n d => els (Nat.ble n 9223372036854775807) (forceN .i64 n) d)
  (fun n _ => forceN .u8 (Nat.mod n 256)) (fun n _ => forceN .u16 (Nat.mod n 65536)) (fun n _ => forceN .u32 (Nat.mod n 4294967296)) (fun n _ => forceN .u64 (Nat.mod n 18446744073709551616)) k n d
theorem wrap_s (k : IntKind) (n : Nat) (_ : k.signed = true) (h : n < 2 ^ (k.bits - 1)) : k.wrap (.ofNat n) = .ofNat n := by
  unfold IntKind.wrap
  have h2 : (Int.ofNat n) % (2 ^ k.bits : Int) = Int.ofNat n := by
    apply Int.emod_eq_of_lt (Int.natCast_nonneg n)
    have h3 : (n : Int) < ((2 ^ k.bits : Nat) : Int) := by
      have : 2 ^ (k.bits - 1) ≤ 2 ^ k.bits := Nat.pow_le_pow_right (by decide) (by omega)
      exact_mod_cast Nat.lt_of_lt_of_le h this
    exact_mod_cast h3
  rw [h2]
  have h4 : ¬ (Int.ofNat n ≥ (2 ^ (k.bits - 1) : Int)) := by
    have h3 : (n : Int) < ((2 ^ (k.bits - 1) : Nat) : Int) := by exact_mod_cast h
    have h5 : ((2 ^ (k.bits - 1) : Nat) : Int) = (2 ^ (k.bits - 1) : Int) := by push_cast; rfl
    rw [h5] at h3
    intro h6
    exact absurd h3 (by simpa using h6)
  simp only [h4, decide_false, Bool.and_false, Bool.false_eq_true, if_false]
theorem wrap_u (k : IntKind) (n : Nat) (hk : k.signed = false) : k.wrap (.ofNat n) = .ofNat (n % 2 ^ k.bits) := by
  unfold IntKind.wrap
  simp only [hk, Bool.false_and, Bool.false_eq_true, if_false]
  have : ((2 ^ k.bits : Nat) : Int) = (2 ^ k.bits : Int) := by push_cast; rfl
  rw [← this]
  rfl
theorem mkF_eq (k : IntKind) (n : Nat) : mkF k n (some (.int k (k.wrap (.ofNat n)))) = some (.int k (k.wrap (.ofNat n))) := by
  cases k
  case u8 => rw [wrap_u _ _ rfl]; exact forceN_eq _ _
  case u16 => rw [wrap_u _ _ rfl]; exact forceN_eq _ _
  case u32 => rw [wrap_u _ _ rfl]; exact forceN_eq _ _
  case u64 => rw [wrap_u _ _ rfl]; exact forceN_eq _ _
  case i8 =>
    show els (Nat.ble n 127) (forceN .i8 n) _ = _
    cases h : Nat.ble n 127 with
    | false => rfl
    | true => rw [els_t, forceN_eq, wrap_s _ _ rfl (Nat.lt_succ_of_le (Nat.le_of_ble_eq_true h))]
  case i16 =>
    show els (Nat.ble n 32767) (forceN .i16 n) _ = _
    cases h : Nat.ble n 32767 with
    | false => rfl
    | true => rw [els_t, forceN_eq, wrap_s _ _ rfl (Nat.lt_succ_of_le (Nat.le_of_ble_eq_true h))]
  case i32 =>
    show els (Nat.ble n 2147483647) (forceN .i32 n) _ = _
    cases h : Nat.ble n 2147483647 with
    | false => rfl
    | true => rw [els_t, forceN_eq, wrap_s _ _ rfl (Nat.lt_succ_of_le (Nat.le_of_ble_eq_true h))]
  case i64 =>
    show els (Nat.ble n 9223372036854775807) (forceN .i64 n) _ = _
    cases h : Nat.ble n 9223372036854775807 with
    | false => rfl
    | true => rw [els_t, forceN_eq, wrap_s _ _ rfl (Nat.lt_succ_of_le (Nat.le_of_ble_eq_true h))]
noncomputable def sameK (k k' : IntKind) (x d : Option AV) : Option AV := els (Nat.beq (kc k) (kc k')) x d
noncomputable def minF (a b : Nat) : Nat := Bool.rec (motive := fun _ => Nat) b a (Nat.ble a b)
theorem minF_eq (a b : Nat) : minF a b = min a b := by
  unfold minF
  cases h : Nat.ble a b with
  | true => exact (Nat.min_eq_left (Nat.le_of_ble_eq_true h)).symm
  | false => exact (Nat.min_eq_right (Nat.le_of_not_le (fun h2 => by rw [Nat.ble_eq_true_of_le h2] at h; cases h))).symm
abbrev ArK := IntKind → Nat → IntKind → Nat → Option AV → Option AV
noncomputable def arF (op : BinOp) : ArK := BinOp.rec (motive := fun _ => ArK)
  (fun k m k' n d => sameK k k' (mkF k (Nat.add m n) d) d)
  (fun k m k' n d => sameK k k' (els (Nat.ble n m) (mkF k (Nat.sub m n) d) d) d)
  (fun k m k' n d => sameK k k' (mkF k (Nat.mul m n) d) d)
  (fun k m k' n d => sameK k k' (Nat.rec (motive := fun _ => Option AV) d (fun _ _ => mkF k (Nat.div m n) d) n) d)
  (fun k m k' n d => sameK k k' (Nat.rec (motive := fun _ => Option AV) d (fun _ _ => forceN k (Nat.mod m n)) n) d)
  (fun k m k' n d => sameK k k' (mkF k (Nat.land (Nat.mod m (pwF k)) (Nat.mod n (pwF k))) d) d)
  (fun k m k' n d => sameK k k' (mkF k (Nat.lor (Nat.mod m (pwF k)) (Nat.mod n (pwF k))) d) d)
  (fun k m k' n d => sameK k k' (mkF k (Nat.xor (Nat.mod m (pwF k)) (Nat.mod n (pwF k))) d) d)
  (fun k m _ n d => mkF k (Nat.mul m (Nat.pow 2 (minF n (bitsF k)))) d)
  (fun k m _ n _ => forceN k (Nat.div m (Nat.pow 2 (minF n (bitsF k)))))
  (fun _ _ _ _ d => d)
  (fun k m k' n d => sameK k k' (some (.bool (Nat.beq m n))) d)
  (fun k m k' n d => sameK k k' (some (.bool (Bool.rec (motive := fun _ => Bool) true false (Nat.beq m n)))) d)
  (fun k m k' n d => sameK k k' (some (.bool (Nat.ble (Nat.succ m) n))) d)
  (fun k m k' n d => sameK k k' (some (.bool (Nat.ble m n))) d)
  (fun k m k' n d => sameK k k' (some (.bool (Nat.ble (Nat.succ n) m))) d)
  (fun k m k' n d => sameK k k' (some (.bool (Nat.ble n m))) d) op
theorem sameK_eq {k k' : IntKind} {x d : Option AV} (h : k = k' → x = d) : sameK k k' x d = d := by
  unfold sameK
  cases hk : Nat.beq (kc k) (kc k') with
  | false => rfl
  | true => exact h (kc_eq hk)
theorem ofIntN (w n : Nat) : (BitVec.ofInt w (Int.ofNat n)).toNat = n % 2 ^ w := by
  rw [show BitVec.ofInt w (Int.ofNat n) = BitVec.ofNat w n from BitVec.ofInt_natCast w n, BitVec.toNat_ofNat]
theorem int_beq (m n : Nat) : (Int.ofNat m == Int.ofNat n) = Nat.beq m n := by
  cases h : Nat.beq m n with
  | true => rw [Nat.eq_of_beq_eq_true h]; exact beq_self_eq_true _
  | false =>
    have := Nat.ne_of_beq_eq_false h
    exact beq_eq_false_iff_ne.2 (fun e => this (Int.ofNat.inj e))
theorem int_lt (m n : Nat) : decide (Int.ofNat m < Int.ofNat n) = Nat.ble (Nat.succ m) n := by
  cases h : Nat.ble (Nat.succ m) n with
  | true => exact decide_eq_true (Int.ofNat_lt.2 (Nat.le_of_ble_eq_true h))
  | false => exact decide_eq_false (fun h2 => by have := Nat.ble_eq_true_of_le (show Nat.succ m ≤ n from Int.ofNat_lt.1 h2); rw [h] at this; cases this)
theorem int_le (m n : Nat) : decide (Int.ofNat m ≤ Int.ofNat n) = Nat.ble m n := by
  cases h : Nat.ble m n with
  | true => exact decide_eq_true (Int.ofNat_le.2 (Nat.le_of_ble_eq_true h))
  | false => exact decide_eq_false (fun h2 => by have := Nat.ble_eq_true_of_le (Int.ofNat_le.1 h2); rw [h] at this; cases this)
theorem arF_eq (P : Program) (S : St) (op : BinOp) (t : TypeId) (k k' : IntKind) (m n : Nat) :
    arF op k m k' n (binA P S op t (.int k (.ofNat m)) (.int k' (.ofNat n))) = binA P S op t (.int k (.ofNat m)) (.int k' (.ofNat n)) := by
  have hp : ∀ i : Nat, (2 : Int) ^ i = Int.ofNat (2 ^ i) := fun i => by rw [show Int.ofNat (2 ^ i) = ((2 ^ i : Nat) : Int) from rfl]; push_cast; rfl
  cases op
  case shl =>
    show mkF k (m * 2 ^ (minF n (bitsF k))) _ = _
    rw [minF_eq, bitsF_eq]
    have : binA P S .shl t (.int k (.ofNat m)) (.int k' (.ofNat n)) = some (.int k (k.wrap (.ofNat (m * 2 ^ min n k.bits)))) := by
      simp only [binA, shiftA]
      rw [if_neg (by simp), hp]
      rfl
    rw [this]
    exact mkF_eq _ _
  case shr =>
    show forceN k (m / 2 ^ (minF n (bitsF k))) = _
    rw [minF_eq, bitsF_eq, forceN_eq]
    simp only [binA, shiftA]
    rw [if_neg (by simp), hp, show (Int.ofNat m).fdiv (Int.ofNat (2 ^ min (Int.ofNat n).toNat k.bits)) = Int.ofNat (m / 2 ^ min n k.bits) from (Int.ofNat_fdiv _ _).symm]
  case andNot => rfl
  all_goals
    refine sameK_eq fun hk => ?_
    subst hk
    simp only [binA, if_true, arith]
  case add => exact mkF_eq k (m + n)
  case sub =>
    cases h : Nat.ble n m with
    | false => rfl
    | true =>
      rw [els_t]
      have : (Int.ofNat m - Int.ofNat n) = Int.ofNat (m - n) := (Int.ofNat_sub (Nat.le_of_ble_eq_true h)).symm
      rw [this]
      exact mkF_eq k (m - n)
  case mul => exact mkF_eq k (m * n)
  case quo =>
    cases n with
    | zero => rfl
    | succ n =>
      rw [if_neg (fun e => by cases e)]
      exact mkF_eq k (m / (n + 1))
  case rem =>
    cases n with
    | zero => rfl
    | succ n =>
      rw [if_neg (fun e => by cases e)]
      exact forceN_eq k (m % (n + 1))
  case and =>
    rw [show ∀ a b : BitVec k.bits, (a &&& b).toNat = a.toNat &&& b.toNat from fun a b => BitVec.toNat_and a b, ofIntN, ofIntN, pwF_eq]
    exact mkF_eq k _
  case or =>
    rw [show ∀ a b : BitVec k.bits, (a ||| b).toNat = a.toNat ||| b.toNat from fun a b => BitVec.toNat_or a b, ofIntN, ofIntN, pwF_eq]
    exact mkF_eq k _
  case xor =>
    rw [show ∀ a b : BitVec k.bits, (a ^^^ b).toNat = a.toNat ^^^ b.toNat from fun a b => BitVec.toNat_xor a b, ofIntN, ofIntN, pwF_eq]
    exact mkF_eq k _
  case eql => rw [int_beq]
  case neq => simp only [bne, int_beq]; cases Nat.beq m n <;> rfl
  case lss => rw [int_lt]
  case leq => rw [int_le]
  case gtr => exact congrArg (fun b => some (AV.bool b)) (int_lt n m).symm
  case geq => exact congrArg (fun b => some (AV.bool b)) (int_le n m).symm
noncomputable def binF (P : Program) (S : St) (op : BinOp) (t : TypeId) (x y : AV) : Option AV :=
  Option.rec (motive := fun _ => Option AV) (binA P S op t x y) (fun a => Option.rec (motive := fun _ => Option AV) (binA P S op t x y) (fun b => arF op a.1 a.2 b.1 b.2 (binA P S op t x y)) (natOf y)) (natOf x)
theorem binF_eq (P : Program) (S : St) (op : BinOp) (t : TypeId) (x y : AV) : binF P S op t x y = binA P S op t x y := by
  cases x <;> first | rfl | skip
  rename_i k a
  cases a <;> first | rfl | skip
  cases y <;> first | rfl | skip
  rename_i k' b
  cases b <;> first | rfl | skip
  exact arF_eq P S op t k k' _ _
end Go.Proofs.YtedokmdoompidaaGreatDoor.Ev
