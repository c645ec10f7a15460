/- The evaluator: regions whose order is drawn. -/
import Derived.Test.YtedokmdoompidaaGreatDoorEvT
namespace Go.Proofs.YtedokmdoompidaaGreatDoor.Ev

def mask1 (acc : List Nat) (o : Oper) : Nat := o.after.toList.foldl (fun s e => bif Region.binds .any e then s ||| (2 ^ e.on ||| acc.getD e.on 0) else s) 0
def masks : List Oper → List Nat → List Nat
  | [], acc => acc
  | o :: l, acc => masks l (acc ++ [mask1 acc o])
def edgesOk : List Oper → Nat → Bool
  | [], _ => true
  | o :: l, i => o.after.toList.all (fun e => !Region.binds .any e || Nat.blt e.on i) && edgesOk l (i + 1)

theorem foldl_mask (acc : List Nat) (i : Nat) : ∀ (l : List Edge) (s : Nat), Nat.testBit (l.foldl (fun s e => bif Region.binds .any e then s ||| (2 ^ e.on ||| acc.getD e.on 0) else s) s) i = true →
    Nat.testBit s i = true ∨ ∃ e ∈ l, Region.binds .any e = true ∧ (e.on = i ∨ Nat.testBit (acc.getD e.on 0) i = true)
  | [], s, h => .inl h
  | e :: l, s, h => by
    rw [List.foldl_cons] at h
    rcases foldl_mask acc i l _ h with h1 | ⟨e', he, h1⟩
    · cases hb : Region.binds .any e with
      | false => rw [hb, cond_false] at h1; exact .inl h1
      | true =>
        rw [hb, cond_true, Nat.testBit_or, Nat.testBit_or, Bool.or_eq_true, Bool.or_eq_true] at h1
        rcases h1 with h1 | h1 | h1
        · exact .inl h1
        · refine .inr ⟨e, by simp, hb, .inl ?_⟩
          rw [Nat.testBit_two_pow] at h1
          simpa using h1
        · exact .inr ⟨e, by simp, hb, .inr h1⟩
    · exact .inr ⟨e', by simp [he], h1⟩
theorem masks_len : ∀ (l : List Oper) (acc : List Nat), (masks l acc).length = acc.length + l.length
  | [], acc => by simp [masks]
  | o :: l, acc => by rw [masks, masks_len l]; simp; omega
theorem masks_pre : ∀ (l : List Oper) (acc : List Nat) (j : Nat), j < acc.length → (masks l acc).getD j 0 = acc.getD j 0
  | [], acc, j, _ => rfl
  | o :: l, acc, j, h => by
    rw [masks, masks_pre l _ j (by simp; omega)]
    simp [List.getElem?_append_left h]
theorem masks_at : ∀ (l : List Oper) (acc : List Nat) (j : Nat) (o : Oper), l[j]? = some o → ∃ acc', (∀ k, k < acc.length + j → acc'.getD k 0 = (masks l acc).getD k 0) ∧ (masks l acc).getD (acc.length + j) 0 = mask1 acc' o
  | [], acc, j, o, h => by simp at h
  | x :: l, acc, 0, o, h => by
    simp only [List.getElem?_cons_zero, Option.some.injEq] at h
    subst h
    refine ⟨acc, fun k hk => ?_, ?_⟩
    · rw [masks, masks_pre l _ k (by simp; omega)]
      simp [List.getElem?_append_left (show k < acc.length by omega)]
    · rw [masks, masks_pre l _ _ (by simp)]
      simp
  | x :: l, acc, j + 1, o, h => by
    rw [List.getElem?_cons_succ] at h
    obtain ⟨acc', h1, h2⟩ := masks_at l (acc ++ [mask1 acc x]) j o h
    refine ⟨acc', fun k hk => ?_, ?_⟩
    · rw [masks]; exact h1 k (by simp; omega)
    · rw [masks, ← h2]; congr 1; simp; omega
theorem edges_at : ∀ (l : List Oper) (i : Nat), edgesOk l i = true → ∀ j o, l[j]? = some o → ∀ e ∈ o.after, Region.binds .any e = true → e.on < i + j
  | [], _, _, j, o, h, _, _, _ => by simp at h
  | x :: l, i, he, j, o, h, e, hm, hb => by
    simp only [edgesOk, Bool.and_eq_true] at he
    cases j with
    | zero =>
      simp only [List.getElem?_cons_zero, Option.some.injEq] at h
      subst h
      have := List.all_eq_true.1 he.1 e (Array.mem_toList_iff.2 hm)
      rw [hb] at this
      simp only [Bool.not_true, Bool.false_or] at this
      exact Nat.le_of_ble_eq_true this
    | succ j =>
      rw [List.getElem?_cons_succ] at h
      have := edges_at l (i + 1) he.2 j o h e hm hb
      omega
def bitOf (B : List Nat) (i j : Nat) : Bool := Nat.testBit (B.getD j 0) i
theorem bit_edge {l : List Oper} (he : edgesOk l 0 = true) {i j : Nat} (h : bitOf (masks l []) i j = true) : ∃ o, l[j]? = some o ∧ ∃ e ∈ o.after, Region.binds .any e = true ∧ e.on < j ∧ (e.on = i ∨ bitOf (masks l []) i e.on = true) := by
  unfold bitOf at h
  have hj : j < l.length := by
    rcases Nat.lt_or_ge j l.length with hh | hh
    · exact hh
    · have hl := masks_len l []
      rw [List.getD_eq_getElem?_getD, List.getElem?_eq_none (by rw [hl]; simpa using hh)] at h
      simp at h
  have ho : l[j]? = some l[j] := List.getElem?_eq_getElem hj
  obtain ⟨acc', h1, h2⟩ := masks_at l [] j _ ho
  simp only [List.length_nil, Nat.zero_add] at h1 h2
  rw [h2] at h
  unfold mask1 at h
  rcases foldl_mask acc' i _ _ h with h3 | ⟨e, hm, hb, h3⟩
  · simp at h3
  · have hm' := Array.mem_toList_iff.1 hm
    have hlt := edges_at l 0 he j _ ho e hm' hb
    refine ⟨_, ho, e, hm', hb, by omega, ?_⟩
    rcases h3 with h3 | h3
    · exact .inl h3
    · right
      unfold bitOf
      rw [← h1 e.on (by omega)]
      exact h3
theorem bit_lt {l : List Oper} (he : edgesOk l 0 = true) (i : Nat) : ∀ j, bitOf (masks l []) i j = true → i < j := by
  intro j
  induction j using Nat.strongRecOn with
  | _ j ih =>
    intro h
    obtain ⟨o, _, e, _, _, hlt, h1⟩ := bit_edge he h
    rcases h1 with rfl | h1
    · exact hlt
    · have := ih e.on hlt h1; omega
theorem bit_in {l : List Oper} (he : edgesOk l 0 = true) (X : Nat → Prop) (hc : ∀ j o, l[j]? = some o → X j → ∀ e ∈ o.after, Region.binds .any e = true → X e.on) (i : Nat) : ∀ j o, l[j]? = some o → (∀ e ∈ o.after, Region.binds .any e = true → X e.on) → bitOf (masks l []) i j = true → X i := by
  intro j
  induction j using Nat.strongRecOn with
  | _ j ih =>
    intro o ho hX h
    obtain ⟨o', ho', e, hm, hb, hlt, h1⟩ := bit_edge he h
    rw [ho] at ho'; injection ho' with ho'; subst ho'
    rcases h1 with rfl | h1
    · exact hX e hm hb
    · obtain ⟨o2, ho2, _⟩ := bit_edge he h1
      exact ih e.on hlt o2 ho2 (fun e' hm' hb' => hc e.on o2 ho2 (hX e hm hb) e' hm' hb') h1

mutual
/-- Values that are the same. -/
def eqA : AV → AV → Bool
  | .bool a, .bool b => a == b
  | .int j a, .int k b => decide (j = k) && a == b
  | .str a, .str b => beqL a b
  | .nilp, .nilp => true
  | .ptr a o, .ptr b p => Nat.beq a b && Nat.beq o p
  | .nils, .nils => true
  | .sl a o l c, .sl b p m d => Nat.beq a b && Nat.beq o p && Nat.beq l m && Nat.beq c d
  | .slu a o l c, .slu b p m d => Nat.beq a b && Nat.beq o p && Nat.beq l m && Nat.beq c d
  | .emp, .emp => true
  | .nilm, .nilm => true
  | .map a, .map b => Nat.beq a b
  | .nilf, .nilf => true
  | .fn f x c, .fn g y d => Nat.beq f g && eqAs x y && eqAs c d
  | .agg x, .agg y => eqAs x y
  | .tup x, .tup y => eqAs x y
  | .sym a, .sym b => Nat.beq a b
  | _, _ => false
def eqAs : List AV → List AV → Bool
  | [], [] => true
  | x :: xs, y :: ys => eqA x y && eqAs xs ys
  | _, _ => false
end
mutual
theorem eqA_eq : ∀ (x y : AV), eqA x y = true → x = y
  | .bool a, y, h => by cases y <;> simp_all [eqA]
  | .int k a, y, h => by cases y <;> simp_all [eqA]
  | .str a, y, h => by cases y <;> simp_all [eqA, beqL_eq]
  | .nilp, y, h => by cases y <;> simp_all [eqA]
  | .ptr a o, y, h => by cases y <;> simp_all [eqA]
  | .nils, y, h => by cases y <;> simp_all [eqA]
  | .sl a o l c, y, h => by cases y <;> simp_all [eqA]
  | .slu a o l c, y, h => by cases y <;> simp_all [eqA]
  | .emp, y, h => by cases y <;> simp_all [eqA]
  | .nilm, y, h => by cases y <;> simp_all [eqA]
  | .map a, y, h => by cases y <;> simp_all [eqA]
  | .nilf, y, h => by cases y <;> simp_all [eqA]
  | .fn f x c, y, h => by
    cases y with
    | fn g z d =>
      simp only [eqA, Bool.and_eq_true] at h
      rw [Nat.eq_of_beq_eq_true h.1.1, eqAs_eq x z h.1.2, eqAs_eq c d h.2]
    | _ => simp [eqA] at h
  | .agg x, y, h => by
    cases y with
    | agg z => simp only [eqA] at h; rw [eqAs_eq x z h]
    | _ => simp [eqA] at h
  | .tup x, y, h => by
    cases y with
    | tup z => simp only [eqA] at h; rw [eqAs_eq x z h]
    | _ => simp [eqA] at h
  | .sym a, y, h => by cases y <;> simp_all [eqA]
theorem eqAs_eq : ∀ (x y : List AV), eqAs x y = true → x = y
  | [], y, h => by cases y <;> simp_all [eqAs]
  | x :: xs, y, h => by
    cases y with
    | nil => simp [eqAs] at h
    | cons z zs =>
      simp only [eqAs, Bool.and_eq_true] at h
      rw [eqA_eq x z h.1, eqAs_eq xs zs h.2]
end
mutual
def lowA (n : Nat) : AV → Bool
  | .ptr b _ => Nat.blt b n
  | .sl b _ _ _ => Nat.blt b n
  | .slu b _ _ _ => Nat.blt b n
  | .map b => Nat.blt b n
  | .fn _ x c => lowAs n x && lowAs n c
  | .agg x => lowAs n x
  | .tup x => lowAs n x
  | _ => true
def lowAs (n : Nat) : List AV → Bool
  | [] => true
  | x :: xs => lowA n x && lowAs n xs
end
mutual
theorem lowA_V (σ : Nat → Value) {φ : Phi} {n : Nat} : ∀ (x : AV) (v : Value), lowA n x = true → V σ φ x v → V σ (φ.below n) x v
  | .bool _, _, _, hv | .int _ _, _, _, hv | .str _, _, _, hv | .nilp, _, _, hv | .nils, _, _, hv | .nilm, _, _, hv | .nilf, _, _, hv | .emp, _, _, hv | .sym _, _, _, hv => by simpa only [V] using hv
  | .ptr b o, v, h, hv => by
    simp only [lowA] at h; simp only [V] at hv ⊢; obtain ⟨r, k, h1, h2⟩ := hv
    exact ⟨r, k, Phi.below_some.2 ⟨Nat.le_of_ble_eq_true h, h1⟩, h2⟩
  | .sl b o l c, v, h, hv => by
    simp only [lowA] at h; simp only [V] at hv ⊢; obtain ⟨r, k, h1, h2⟩ := hv
    exact ⟨r, k, Phi.below_some.2 ⟨Nat.le_of_ble_eq_true h, h1⟩, h2⟩
  | .slu b o l s, v, h, hv => by
    simp only [lowA] at h; simp only [V] at hv ⊢; obtain ⟨r, k, c, h1, h2⟩ := hv
    exact ⟨r, k, c, Phi.below_some.2 ⟨Nat.le_of_ble_eq_true h, h1⟩, h2⟩
  | .map b, v, h, hv => by
    simp only [lowA] at h; simp only [V] at hv ⊢; obtain ⟨r, k, h1, h2⟩ := hv
    exact ⟨r, k, Phi.below_some.2 ⟨Nat.le_of_ble_eq_true h, h1⟩, h2⟩
  | .fn f x c, v, h, hv => by
    simp only [lowA, Bool.and_eq_true] at h; simp only [V] at hv ⊢
    obtain ⟨xs, cs, h1, h2, h3⟩ := hv
    exact ⟨xs, cs, h1, lowAs_V σ x xs h.1 h2, lowAs_V σ c cs h.2 h3⟩
  | .agg x, v, h, hv => by simp only [lowA] at h; simp only [V] at hv ⊢; obtain ⟨xs, h1, h2⟩ := hv; exact ⟨xs, h1, lowAs_V σ x xs h h2⟩
  | .tup x, v, h, hv => by simp only [lowA] at h; simp only [V] at hv ⊢; obtain ⟨xs, h1, h2⟩ := hv; exact ⟨xs, h1, lowAs_V σ x xs h h2⟩
theorem lowAs_V (σ : Nat → Value) {φ : Phi} {n : Nat} : ∀ (x : List AV) (v : List Value), lowAs n x = true → VL σ φ x v → VL σ (φ.below n) x v
  | [], v, _, hv => by simpa only [VL] using hv
  | x :: xs, l, h, hv => by
    simp only [lowAs, Bool.and_eq_true] at h
    simp only [VL] at hv ⊢
    obtain ⟨v, vs, h1, h2, h3⟩ := hv
    exact ⟨v, vs, h1, lowA_V σ x v h.1 h2, lowAs_V σ xs vs h.2 h3⟩
end

/-- The next free name does not matter to what reads. -/
theorem eqv_nx (P : Program) (h : Tr Blk) (n m : Nat) : eqv P ⟨h, n⟩ = eqv P ⟨h, m⟩ := by
  funext d t x y
  exact eqv_leaf n ⟨h, m⟩ d t x y
theorem findA_nx (P : Program) (h : Tr Blk) (n m : Nat) (kt : TypeId) (k : AV) : ∀ es, findA P ⟨h, n⟩ kt k es = findA P ⟨h, m⟩ kt k es
  | [] => rfl
  | e :: es => by simp only [findA, eqv_nx P h n m, findA_nx P h n m kt k es]
theorem rd_nx (P : Program) (GS : Nat → Option Nat) (T : Tr AV) (h : Tr Blk) (n m : Nat) (op : Op) : rd P GS T ⟨h, n⟩ op = rd P GS T ⟨h, m⟩ op := by
  have h1 : ∀ t x, loadA P ⟨h, n⟩ t x = loadA P ⟨h, m⟩ t x := fun t x => rfl
  have h2 : ∀ o t x y, binA P ⟨h, n⟩ o t x y = binA P ⟨h, m⟩ o t x y := fun o t x y => by unfold binA; rw [eqv_nx P h n m]
  have h3 : ∀ s d x, convA P ⟨h, n⟩ s d x = convA P ⟨h, m⟩ s d x := fun s d x => rfl
  have h4 : ∀ t x, lenA P ⟨h, n⟩ t x = lenA P ⟨h, m⟩ t x := fun t x => rfl
  have h5 : ∀ t x y b, lookupA P ⟨h, n⟩ t x y b = lookupA P ⟨h, m⟩ t x y b := fun t x y b => by
    have : ∀ kt k v, findM P ⟨h, n⟩ kt k v = findM P ⟨h, m⟩ kt k v := fun kt k v => by
      unfold findM
      cases v <;> first | rfl | simp only [findA_nx P h n m]
    unfold lookupA
    simp only [this]
  unfold rd
  simp only [h1, h2, h3, h4, h5]
end Go.Proofs.YtedokmdoompidaaGreatDoor.Ev
