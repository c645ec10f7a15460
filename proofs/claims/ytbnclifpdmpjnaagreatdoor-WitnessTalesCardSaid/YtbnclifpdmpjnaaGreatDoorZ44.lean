/- The rows of two lists of steps, one of each in turn: they lie apart. -/
import Derived.Test.YtbnclifpdmpjnaaGreatDoorZ37
import Derived.Test.YtbnclifpdmpjnaaGreatDoorZ42
import Derived.Test.YtbnclifpdmpjnaaGreatDoorZ43
namespace Go.Proofs.YtbnclifpdmpjnaaGreatDoor
open Go.RowKit
def slA (z : StepZ) : FlatA.SlV := ⟨z.ao, z.d.acts.length, z.ac⟩
def slR (z : StepZ) : FlatR.SlV := ⟨z.ro, z.d.reads.length, z.rc⟩
def pairs {α : Type} (f : StepZ → α) : List StepZ → List StepZ → List α
  | a :: l, c :: m => f a :: f c :: pairs f l m
  | _, _ => []
theorem pairs_len {α : Type} (f : StepZ → α) : ∀ (l m : List StepZ), l.length = m.length → (pairs f l m).length = 2 * l.length
  | [], [], _ => rfl
  | [], _ :: _, h => by simp at h
  | _ :: _, [], h => by simp at h
  | a :: l, c :: m, h => by
    have := pairs_len f l m (by simpa using h)
    simp only [pairs, List.length_cons, this]; omega
theorem pairs_next {α : Type} (f : StepZ → α) : ∀ (l m : List StepZ) (k : Nat) (a c : StepZ), l[k]? = some a → m[k]? = some c → pairs f (l.take (k + 1)) (m.take (k + 1)) = pairs f (l.take k) (m.take k) ++ [f a, f c]
  | [], _, _, _, _, h, _ => by simp at h
  | _ :: _, [], _, _, _, _, h => by simp at h
  | x :: l, y :: m, 0, a, c, h1, h2 => by
    simp only [List.getElem?_cons_zero, Option.some.injEq] at h1 h2
    subst h1 h2
    simp [pairs]
  | x :: l, y :: m, k + 1, a, c, h1, h2 => by
    have := pairs_next f l m k a c (by simpa using h1) (by simpa using h2)
    simp only [List.take_succ_cons, pairs, List.cons_append, this]
theorem pairs_at {α : Type} (f : StepZ → α) : ∀ (l m : List StepZ) (j : Nat) (v : α), (pairs f l m)[j]? = some v → ∃ (i : Nat) (z : StepZ), v = f z ∧ ((j = 2 * i ∧ l[i]? = some z) ∨ (j = 2 * i + 1 ∧ m[i]? = some z))
  | [], _, _, _, h => by simp [pairs] at h
  | _ :: _, [], _, _, h => by simp [pairs] at h
  | a :: l, c :: m, 0, v, h => ⟨0, a, by simpa [pairs] using h.symm, .inl ⟨rfl, rfl⟩⟩
  | a :: l, c :: m, 1, v, h => ⟨0, c, by simpa [pairs] using h.symm, .inr ⟨rfl, rfl⟩⟩
  | a :: l, c :: m, j + 2, v, h => by
    obtain ⟨i, z, h1, h2⟩ := pairs_at f l m j v (by simpa [pairs] using h)
    refine ⟨i + 1, z, h1, ?_⟩
    rcases h2 with ⟨h2, h3⟩ | ⟨h2, h3⟩
    · exact .inl ⟨by omega, by simpa using h3⟩
    · exact .inr ⟨by omega, by simpa using h3⟩
section
variable {q r : List StepZ} {W : World} {N : Nat}
def OfA (z : StepZ) (b : Nat) : Prop := (Value.slice z.ao z.d.acts.length z.ac).ownBlock = some b
def OfR (z : StepZ) (b : Nat) : Prop := (Value.slice z.ro z.d.reads.length z.rc).ownBlock = some b
theorem pairs_apart {own : StepZ → Nat → Prop} (hq : ∀ (i j : Nat) (z y : StepZ), i ≠ j → q[i]? = some z → q[j]? = some y → ∀ b, own z b → ¬ own y b) (hr : ∀ (i j : Nat) (z y : StepZ), i ≠ j → r[i]? = some z → r[j]? = some y → ∀ b, own z b → ¬ own y b)
    (h1 : ∀ z ∈ q, ∀ b, own z b → b < N) (h2 : ∀ z ∈ r, ∀ b, own z b → N ≤ b) {i j : Nat} {z y : StepZ} (hij : i ≠ j) {i' j' : Nat}
    (hi : (i = 2 * i' ∧ q[i']? = some z) ∨ (i = 2 * i' + 1 ∧ r[i']? = some z)) (hj : (j = 2 * j' ∧ q[j']? = some y) ∨ (j = 2 * j' + 1 ∧ r[j']? = some y)) : ∀ b, own z b → ¬ own y b := by
  intro b hb hb2
  rcases hi with ⟨e1, hi⟩ | ⟨e1, hi⟩ <;> rcases hj with ⟨e2, hj⟩ | ⟨e2, hj⟩
  · exact hq i' j' z y (by omega) hi hj b hb hb2
  · have := h1 z (List.mem_of_getElem? hi) b hb; have := h2 y (List.mem_of_getElem? hj) b hb2; omega
  · have := h2 z (List.mem_of_getElem? hi) b hb; have := h1 y (List.mem_of_getElem? hj) b hb2; omega
  · exact hr i' j' z y (by omega) hi hj b hb hb2
theorem apartA (hq : ApartS q) (hr : ApartS r) (h1 : ∀ z ∈ q, ∀ b, OfA z b → b < N) (h2 : ∀ z ∈ r, ∀ b, OfA z b → N ≤ b) : FlatA.Apart1 (pairs slA q r) := by
  intro i j u v hij hu hv b hb hb2
  obtain ⟨i', z, rfl, hi⟩ := pairs_at slA q r i u hu
  obtain ⟨j', y, rfl, hj⟩ := pairs_at slA q r j v hv
  exact pairs_apart (own := OfA) (fun i j z y hij a1 a2 b e => (hq i j z y hij a1 a2 b).1 e) (fun i j z y hij a1 a2 b e => (hr i j z y hij a1 a2 b).1 e) h1 h2 hij hi hj b hb hb2
theorem apartR (hq : ApartS q) (hr : ApartS r) (h1 : ∀ z ∈ q, ∀ b, OfR z b → b < N) (h2 : ∀ z ∈ r, ∀ b, OfR z b → N ≤ b) : FlatR.Apart1 (pairs slR q r) := by
  intro i j u v hij hu hv b hb hb2
  obtain ⟨i', z, rfl, hi⟩ := pairs_at slR q r i u hu
  obtain ⟨j', y, rfl, hj⟩ := pairs_at slR q r j v hv
  exact pairs_apart (own := OfR) (fun i j z y hij a1 a2 b e => (hq i j z y hij a1 a2 b).2 e) (fun i j z y hij a1 a2 b e => (hr i j z y hij a1 a2 b).2 e) h1 h2 hij hi hj b hb hb2
def cA (q r : List StepZ) (j : Nat) : List ActD := ((pairs (fun z => z.d.acts) q r)[j]?).getD []
def cR (q r : List StepZ) (j : Nat) : List Rd := ((pairs (fun z => z.d.reads) q r)[j]?).getD []
theorem pairs_map {α β : Type} (f : StepZ → α) (g : α → β) : ∀ (l m : List StepZ), (pairs f l m).map g = pairs (fun z => g (f z)) l m
  | [], _ => by simp [pairs]
  | _ :: _, [] => by simp [pairs]
  | a :: l, c :: m => by simp [pairs, pairs_map f g l m]
theorem pairs_get {α : Type} (f : StepZ → α) (l m : List StepZ) (j : Nat) : (pairs f l m)[j]? = (pairs id l m)[j]?.map f := by
  rw [← List.getElem?_map, pairs_map]; rfl
theorem pairs_mem {l m : List StepZ} {j : Nat} {z : StepZ} (h : (pairs id l m)[j]? = some z) : z ∈ l ∨ z ∈ m := by
  obtain ⟨i, y, rfl, h | h⟩ := pairs_at id l m j z h
  · exact .inl (List.mem_of_getElem? h.2)
  · exact .inr (List.mem_of_getElem? h.2)
theorem listsA (h : ∀ z, z ∈ q ∨ z ∈ r → StepMine W 0 z) : FlatA.ListsAt W (pairs slA q r) (cA q r) := by
  intro j v hv
  rw [pairs_get] at hv
  cases hz : (pairs id q r)[j]? with
  | none => rw [hz] at hv; cases hv
  | some z =>
    rw [hz] at hv
    obtain rfl := Option.some.inj hv
    have e : cA q r j = z.d.acts := by unfold cA; rw [pairs_get, hz]; rfl
    rw [e]
    exact ⟨rfl, (h z (pairs_mem hz)).acts⟩
theorem listsR (h : ∀ z, z ∈ q ∨ z ∈ r → StepMine W 0 z) : FlatR.ListsAt W (pairs slR q r) (cR q r) := by
  intro j v hv
  rw [pairs_get] at hv
  cases hz : (pairs id q r)[j]? with
  | none => rw [hz] at hv; cases hv
  | some z =>
    rw [hz] at hv
    obtain rfl := Option.some.inj hv
    have e : cR q r j = z.d.reads := by unfold cR; rw [pairs_get, hz]; rfl
    rw [e]
    exact ⟨rfl, (h z (pairs_mem hz)).reads⟩
theorem ownA_lt {z : StepZ} (h : StepMine W N z) {b : Nat} (hb : OfA z b) : N ≤ b ∧ b < W.heap.size := h.acts.lt b hb
theorem ownR_lt {z : StepZ} (h : StepMine W N z) {b : Nat} (hb : OfR z b) : N ≤ b ∧ b < W.heap.size := h.reads.lt b hb
theorem ownsA {b : Nat} (h : FlatA.OwnB (pairs slA q r) b) : ∃ z, (z ∈ q ∨ z ∈ r) ∧ OfA z b := by
  obtain ⟨j, v, hv, hb⟩ := h
  obtain ⟨i, z, rfl, h | h⟩ := pairs_at slA q r j v hv
  · exact ⟨z, .inl (List.mem_of_getElem? h.2), hb⟩
  · exact ⟨z, .inr (List.mem_of_getElem? h.2), hb⟩
theorem ownsR {b : Nat} (h : FlatR.OwnB (pairs slR q r) b) : ∃ z, (z ∈ q ∨ z ∈ r) ∧ OfR z b := by
  obtain ⟨j, v, hv, hb⟩ := h
  obtain ⟨i, z, rfl, h | h⟩ := pairs_at slR q r j v hv
  · exact ⟨z, .inl (List.mem_of_getElem? h.2), hb⟩
  · exact ⟨z, .inr (List.mem_of_getElem? h.2), hb⟩
end
end Go.Proofs.YtbnclifpdmpjnaaGreatDoor
