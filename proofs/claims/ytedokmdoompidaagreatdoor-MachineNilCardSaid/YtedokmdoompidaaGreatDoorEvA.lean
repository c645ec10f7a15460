/- An evaluator of the program's code over a heap whose blocks are named by itself: the values, the maps, what they stand for. -/
import Derived.Orders
import Derived.ScopeJumps
import Derived.KernelRfl
namespace Go.Proofs.YtedokmdoompidaaGreatDoor.Ev

/-- A value, its blocks being names; a slice's capacity may be unknown ('slu'); 'sym': a value of the caller's. -/
inductive AV where
  | bool (b : Bool)
  | int (k : IntKind) (n : Int)
  | str (s : List Nat)
  | nilp
  | ptr (b o : Nat)
  | nils
  | sl (b o len cap : Nat)
  | slu (b o len size : Nat)
  | emp
  | nilm
  | map (b : Nat)
  | nilf
  | fn (f : FuncId) (first cap : List AV)
  | agg (cs : List AV)
  | tup (vs : List AV)
  | sym (k : Nat)

/-- A map from numbers. -/
inductive Tr (α : Type) where
  | leaf
  | node (l : Tr α) (v : Option α) (r : Tr α)

namespace Tr
variable {α : Type}
def get : Tr α → Nat → Option α
  | .leaf, _ => none
  | .node l v r, n => match n with
    | 0 => v
    | m + 1 => bif Nat.beq (m % 2) 0 then l.get (m / 2) else r.get (m / 2)
/-- With fuel for the depth. -/
def put (x : Option α) : Nat → Tr α → Nat → Option (Tr α)
  | 0, _, _ => none
  | f + 1, .leaf, n => match n with
    | 0 => some (.node .leaf x .leaf)
    | m + 1 => bif Nat.beq (m % 2) 0 then (match put x f .leaf (m / 2) with | some l => some (.node l none .leaf) | none => none)
      else (match put x f .leaf (m / 2) with | some r => some (.node .leaf none r) | none => none)
  | f + 1, .node l v r, n => match n with
    | 0 => some (.node l x r)
    | m + 1 => bif Nat.beq (m % 2) 0 then (match put x f l (m / 2) with | some l' => some (.node l' v r) | none => none)
      else (match put x f r (m / 2) with | some r' => some (.node l v r') | none => none)

theorem get_put (x : Option α) : ∀ (f : Nat) (t : Tr α) (n : Nat) (t' : Tr α), put x f t n = some t' → ∀ m, t'.get m = if m = n then x else t.get m := by
  intro f
  induction f with
  | zero => intro t n t' h; simp [put] at h
  | succ f ih =>
    intro t n t' h m
    cases t with
    | leaf =>
      cases n with
      | zero =>
        simp only [put, Option.some.injEq] at h
        subst h
        cases m with
        | zero => simp [get]
        | succ m => cases h : Nat.beq (m % 2) 0 <;> simp [get, h]
      | succ n =>
        simp only [put] at h
        cases hb : Nat.beq (n % 2) 0 with
        | true =>
          simp only [hb, cond_true] at h
          split at h
          · rename_i l hl
            simp only [Option.some.injEq] at h
            subst h
            cases m with
            | zero => simp [get]
            | succ m =>
              simp only [get]
              cases hm : Nat.beq (m % 2) 0 with
              | true =>
                simp only [cond_true, ih _ _ _ hl, get]
                have h1 := Nat.eq_of_beq_eq_true hb; have h2 := Nat.eq_of_beq_eq_true hm
                by_cases he : m = n
                · simp [he]
                · have : m / 2 ≠ n / 2 := by omega
                  simp [he, this]
              | false =>
                have h1 := Nat.eq_of_beq_eq_true hb; have h2 := Nat.ne_of_beq_eq_false hm
                have : m ≠ n := fun e => h2 (e ▸ h1)
                simp [this]
          · simp at h
        | false =>
          simp only [hb, cond_false] at h
          split at h
          · rename_i l hl
            simp only [Option.some.injEq] at h
            subst h
            cases m with
            | zero => simp [get]
            | succ m =>
              simp only [get]
              cases hm : Nat.beq (m % 2) 0 with
              | false =>
                simp only [cond_false, ih _ _ _ hl, get]
                have h1 := Nat.ne_of_beq_eq_false hb; have h2 := Nat.ne_of_beq_eq_false hm
                by_cases he : m = n
                · simp [he]
                · have : m / 2 ≠ n / 2 := by omega
                  simp [he, this]
              | true =>
                have h1 := Nat.ne_of_beq_eq_false hb; have h2 := Nat.eq_of_beq_eq_true hm
                have : m ≠ n := fun e => h1 (e ▸ h2)
                simp [this]
          · simp at h
    | node l v r =>
      cases n with
      | zero =>
        simp only [put, Option.some.injEq] at h
        subst h
        cases m with
        | zero => simp [get]
        | succ m => simp [get]
      | succ n =>
        simp only [put] at h
        cases hb : Nat.beq (n % 2) 0 with
        | true =>
          simp only [hb, cond_true] at h
          split at h
          · rename_i l' hl
            simp only [Option.some.injEq] at h
            subst h
            cases m with
            | zero => simp [get]
            | succ m =>
              simp only [get]
              cases hm : Nat.beq (m % 2) 0 with
              | true =>
                simp only [cond_true, ih _ _ _ hl]
                have h1 := Nat.eq_of_beq_eq_true hb; have h2 := Nat.eq_of_beq_eq_true hm
                by_cases he : m = n
                · simp [he]
                · have : m / 2 ≠ n / 2 := by omega
                  simp [he, this]
              | false =>
                have h1 := Nat.eq_of_beq_eq_true hb; have h2 := Nat.ne_of_beq_eq_false hm
                have : m ≠ n := fun e => h2 (e ▸ h1)
                simp [this]
          · simp at h
        | false =>
          simp only [hb, cond_false] at h
          split at h
          · rename_i l' hl
            simp only [Option.some.injEq] at h
            subst h
            cases m with
            | zero => simp [get]
            | succ m =>
              simp only [get]
              cases hm : Nat.beq (m % 2) 0 with
              | false =>
                simp only [cond_false, ih _ _ _ hl]
                have h1 := Nat.ne_of_beq_eq_false hb; have h2 := Nat.ne_of_beq_eq_false hm
                by_cases he : m = n
                · simp [he]
                · have : m / 2 ≠ n / 2 := by omega
                  simp [he, this]
              | true =>
                have h1 := Nat.ne_of_beq_eq_false hb; have h2 := Nat.eq_of_beq_eq_true hm
                have : m ≠ n := fun e => h1 (e ▸ h2)
                simp [this]
          · simp at h
/-- A list's members from a place on. -/
def putAll : List α → Tr α → Nat → Option (Tr α)
  | [], t, _ => some t
  | x :: l, t, n => match put (some x) 24 t n with
    | some t' => putAll l t' (n + 1)
    | none => none
theorem get_putAll : ∀ (l : List α) (t : Tr α) (n : Nat) (t' : Tr α), putAll l t n = some t' → ∀ m, t'.get m = if n ≤ m ∧ m < n + l.length then l[m - n]? else t.get m
  | [], t, n, t', h, m => by
    simp only [putAll, Option.some.injEq] at h
    subst h
    have : ¬ (n ≤ m ∧ m < n + 0) := by omega
    simp only [List.length_nil]
    rw [if_neg this]
  | x :: l, t, n, t', h, m => by
    simp only [putAll] at h
    split at h
    · rename_i t1 h1
      rw [get_putAll l t1 (n + 1) t' h m, get_put _ _ _ _ _ h1]
      simp only [List.length_cons]
      by_cases he : m = n
      · subst he
        rw [if_neg (by omega), if_pos rfl, if_pos (by omega)]
        simp
      · rw [if_neg he]
        by_cases hc : n ≤ m ∧ m < n + (l.length + 1)
        · rw [if_pos (by omega), if_pos hc]
          have : m - n = (m - (n + 1)) + 1 := by omega
          rw [this]; simp
        · rw [if_neg (by omega), if_neg hc]
    · simp at h
/-- n members from a place on. -/
def getAll (t : Tr α) : Nat → Nat → Option (List α)
  | 0, _ => some []
  | n + 1, i => match t.get i with
    | some x => (match getAll t n (i + 1) with | some l => some (x :: l) | none => none)
    | none => none
theorem getAll_spec (t : Tr α) : ∀ (n i : Nat) (l : List α), getAll t n i = some l → l.length = n ∧ ∀ j, j < n → t.get (i + j) = l[j]?
  | 0, i, l, h => by simp only [getAll, Option.some.injEq] at h; subst h; exact ⟨rfl, fun j hj => by omega⟩
  | n + 1, i, l, h => by
    simp only [getAll] at h
    split at h
    · rename_i x hx
      split at h
      · rename_i l' hl
        simp only [Option.some.injEq] at h
        subst h
        obtain ⟨h1, h2⟩ := getAll_spec t n (i + 1) l' hl
        refine ⟨by simp [h1], fun j hj => ?_⟩
        cases j with
        | zero => simpa using hx
        | succ j => rw [show i + (j + 1) = i + 1 + j by omega, h2 j (by omega)]; simp
      · simp at h
    · simp at h
end Tr

/-- What the names are: a real block, and its size. -/
abbrev Phi := Nat → Option (Nat × Nat)
def Phi.le (p q : Phi) : Prop := ∀ b x, p b = some x → q b = some x
theorem Phi.le_refl (p : Phi) : p.le p := fun _ _ h => h
theorem Phi.le_trans {p q r : Phi} (h : p.le q) (h' : q.le r) : p.le r := fun b x hx => h' b x (h b x hx)
def Phi.below (p : Phi) (n : Nat) : Phi := fun b => if b < n then p b else none
theorem Phi.below_le (p : Phi) (n : Nat) : (p.below n).le p := fun b x h => by
  unfold Phi.below at h; split at h
  · exact h
  · simp at h

section
variable (σ : Nat → Value)
mutual
/-- What a value stands for. -/
def V (φ : Phi) : AV → Value → Prop
  | .bool b, v => v = .bool b
  | .int k n, v => v = .int k n
  | .str s, v => ∃ bs : ByteArray, v = .string bs ∧ bs.data.toList.map (·.toNat) = s
  | .nilp, v => v = .pointer none
  | .ptr b o, v => ∃ r n, φ b = some (r, n) ∧ v = .pointer (some ⟨r, o, none⟩)
  | .nils, v => v = .slice none 0 0
  | .sl b o l c, v => ∃ r n, φ b = some (r, n) ∧ v = .slice (some ⟨r, o, none⟩) l c
  | .slu b o l s, v => ∃ r n c, φ b = some (r, n) ∧ v = .slice (some ⟨r, o, none⟩) l c ∧ o + c * s = n ∧ l ≤ c
  | .emp, v => ∃ a c, v = .slice (some a) 0 c
  | .nilm, v => v = .map none
  | .map b, v => ∃ r n, φ b = some (r, n) ∧ v = .map (some r)
  | .nilf, v => v = .nilFunc
  | .fn f x c, v => ∃ xs cs : List Value, v = .func (.func f) xs.toArray cs.toArray ∧ VL φ x xs ∧ VL φ c cs
  | .agg cs, v => ∃ vs : List Value, v = .agg vs.toArray ∧ VL φ cs vs
  | .tup cs, v => ∃ vs : List Value, v = .tuple vs.toArray ∧ VL φ cs vs
  | .sym k, v => v = σ k
def VL (φ : Phi) : List AV → List Value → Prop
  | [], l => l = []
  | x :: xs, l => ∃ v vs, l = v :: vs ∧ V φ x v ∧ VL φ xs vs
end

mutual
theorem V.mono {φ ψ : Phi} (h : φ.le ψ) : ∀ (x : AV) (v : Value), V σ φ x v → V σ ψ x v
  | .bool _, _, hv | .int _ _, _, hv | .str _, _, hv | .nilp, _, hv | .nils, _, hv | .nilm, _, hv | .nilf, _, hv | .emp, _, hv | .sym _, _, hv => by simpa only [V] using hv
  | .ptr b o, v, hv => by simp only [V] at hv ⊢; obtain ⟨r, n, h1, h2⟩ := hv; exact ⟨r, n, h _ _ h1, h2⟩
  | .sl b o l c, v, hv => by simp only [V] at hv ⊢; obtain ⟨r, n, h1, h2⟩ := hv; exact ⟨r, n, h _ _ h1, h2⟩
  | .slu b o l s, v, hv => by simp only [V] at hv ⊢; obtain ⟨r, n, c, h1, h2⟩ := hv; exact ⟨r, n, c, h _ _ h1, h2⟩
  | .map b, v, hv => by simp only [V] at hv ⊢; obtain ⟨r, n, h1, h2⟩ := hv; exact ⟨r, n, h _ _ h1, h2⟩
  | .fn f x c, v, hv => by
    simp only [V] at hv ⊢
    obtain ⟨xs, cs, h1, h2, h3⟩ := hv
    exact ⟨xs, cs, h1, VL.mono h x xs h2, VL.mono h c cs h3⟩
  | .agg x, v, hv => by simp only [V] at hv ⊢; obtain ⟨xs, h1, h2⟩ := hv; exact ⟨xs, h1, VL.mono h x xs h2⟩
  | .tup x, v, hv => by simp only [V] at hv ⊢; obtain ⟨xs, h1, h2⟩ := hv; exact ⟨xs, h1, VL.mono h x xs h2⟩
theorem VL.mono {φ ψ : Phi} (h : φ.le ψ) : ∀ (x : List AV) (v : List Value), VL σ φ x v → VL σ ψ x v
  | [], v, hv => by simpa only [VL] using hv
  | x :: xs, l, hv => by
    simp only [VL] at hv ⊢
    obtain ⟨v, vs, h1, h2, h3⟩ := hv
    exact ⟨v, vs, h1, V.mono h x v h2, VL.mono h xs vs h3⟩
end
end
end Go.Proofs.YtedokmdoompidaaGreatDoor.Ev
