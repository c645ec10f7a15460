/- The reference's Keys, by insertion, are the program's: plain lists. -/
import Derived.Test.YtjplmghhleoolaaGreatDoorKeysLaw
namespace Go.Proofs.YtjplmghhleoolaaGreatDoor

/-- How many texts stand ahead of a key in a rising row. -/
def placeT (key : Txt) (q : List Txt) : Nat := (q.takeWhile fun x => decide (x < key)).length
def insT (key : Txt) (q : List Txt) : List Txt := if q[placeT key q]? = some key then q else q.take (placeT key q) ++ [key] ++ q.drop (placeT key q)
def insAll (l : List Txt) : List Txt := l.foldl (fun q k => insT k q) []

theorem takeWhile_len {α : Type} (p : α → Bool) : ∀ (q : List α) (j : Nat), j ≤ q.length → (∀ (i : Nat) (x : α), i < j → q[i]? = some x → p x = true) → (∀ x, q[j]? = some x → p x = false) → (q.takeWhile p).length = j
  | [], j, hj, _, _ => by simp at hj; simp [hj]
  | a :: q, 0, _, _, h => by
    have := h a rfl
    simp [this]
  | a :: q, j + 1, hj, h1, h2 => by
    have ha := h1 0 a (by omega) rfl
    rw [List.takeWhile_cons, if_pos ha, List.length_cons, takeWhile_len p q j (by simpa using hj) (fun i x hi hx => h1 (i + 1) x (by omega) (by simpa using hx)) (fun x hx => h2 x (by simpa using hx))]
theorem place_at (key : Txt) (q : List Txt) (j : Nat) (hj : j ≤ q.length) (h1 : ∀ (i : Nat) (x : Txt), i < j → q[i]? = some x → x < key) (h2 : ∀ x, q[j]? = some x → ¬ x < key) : placeT key q = j :=
  takeWhile_len _ q j hj (fun i x hi hx => by simpa using h1 i x hi hx) (fun x hx => by simpa using h2 x hx)

theorem insT_spec (key : Txt) (q : List Txt) (hq : q.Pairwise fun a b => a < b) : (insT key q).Pairwise (fun a b => a < b) ∧ ∀ x, x ∈ insT key q ↔ x = key ∨ x ∈ q := by
  unfold insT placeT
  have hsplit := List.takeWhile_append_dropWhile (p := fun x => decide (x < key)) (l := q)
  generalize hA : q.takeWhile (fun x => decide (x < key)) = A at *
  generalize hB : q.dropWhile (fun x => decide (x < key)) = B at *
  have hAlt : ∀ x ∈ A, x < key := by
    intro x hx
    rw [← hA] at hx
    simpa using List.all_eq_true.1 (List.all_takeWhile (p := fun x => decide (x < key)) (l := q)) x hx
  have hBhd : ∀ b, B.head? = some b → ¬ b < key := by
    intro b hb
    have := List.head?_dropWhile_not (fun x => decide (x < key)) q
    rw [hB, hb] at this
    simpa using this
  have htk : q.take A.length = A := by rw [← hsplit]; simp
  have hdr : q.drop A.length = B := by rw [← hsplit]; simp
  have hget : q[A.length]? = B.head? := by rw [← hsplit, List.getElem?_append_right (Nat.le_refl _), Nat.sub_self]; cases B <;> rfl
  rw [htk, hdr, hget]
  rw [← hsplit] at hq ⊢
  obtain ⟨pA, pB, pAB⟩ := List.pairwise_append.1 hq
  split
  · rename_i hk
    refine ⟨hq, fun x => ⟨fun h => .inr h, fun h => ?_⟩⟩
    rcases h with rfl | h
    · exact List.mem_append_right _ (List.mem_of_head? hk)
    · exact h
  · rename_i hk
    have hBgt : ∀ b ∈ B, key < b := by
      cases B with
      | nil => intro b hb; cases hb
      | cons b0 B =>
        have h0 : key < b0 := by
          have h1 := hBhd b0 rfl
          refine lt_of_le_ne (List.not_lt.1 h1) fun e => hk (by rw [e]; rfl)
        intro b hb
        rcases List.mem_cons.1 hb with rfl | hb
        · exact h0
        · exact List.lt_trans h0 ((List.pairwise_cons.1 pB).1 b hb)
    refine ⟨?_, fun x => ?_⟩
    · rw [List.append_assoc]
      refine List.pairwise_append.2 ⟨pA, ?_, ?_⟩
      · rw [List.singleton_append]
        exact List.pairwise_cons.2 ⟨hBgt, pB⟩
      · intro a ha b hb
        rcases List.mem_append.1 hb with hb | hb
        · rw [List.mem_singleton] at hb; rw [hb]; exact hAlt a ha
        · exact pAB a ha b hb
    · simp only [List.mem_append, List.mem_singleton]
      constructor
      · rintro ((h | h) | h)
        · exact .inr (.inl h)
        · exact .inl h
        · exact .inr (.inr h)
      · rintro (h | h | h)
        · exact .inl (.inr h)
        · exact .inl (.inl h)
        · exact .inr h
theorem insAll_succ (l : List Txt) (k : Nat) (x : Txt) (h : l[k]? = some x) : insAll (l.take (k + 1)) = insT x (insAll (l.take k)) := by
  unfold insAll
  rw [List.take_add_one, h]
  simp
theorem insFold_spec : ∀ (l : List Txt) (q : List Txt), q.Pairwise (fun a b => a < b) → (l.foldl (fun q k => insT k q) q).Pairwise (fun a b => a < b) ∧ ∀ x, x ∈ l.foldl (fun q k => insT k q) q ↔ x ∈ l ∨ x ∈ q
  | [], q, hq => ⟨hq, fun x => by simp⟩
  | k :: l, q, hq => by
    obtain ⟨h1, h2⟩ := insT_spec k q hq
    obtain ⟨h3, h4⟩ := insFold_spec l (insT k q) h1
    refine ⟨h3, fun x => ?_⟩
    rw [List.foldl_cons, h4, h2, List.mem_cons]
    constructor
    · rintro (h | h | h)
      · exact .inl (.inr h)
      · exact .inl (.inl h)
      · exact .inr h
    · rintro ((h | h) | h)
      · exact .inr (.inl h)
      · exact .inl h
      · exact .inr (.inr h)
theorem insAll_len (l : List Txt) : (insAll l).length ≤ l.length := by
  have key : ∀ (l q : List Txt), (l.foldl (fun q k => insT k q) q).length ≤ q.length + l.length := by
    intro l
    induction l with
    | nil => intro q; simp
    | cons k l ih =>
      intro q
      have h1 := ih (insT k q)
      have h2 : (insT k q).length ≤ q.length + 1 := by
        unfold insT
        split
        · omega
        · simp; omega
      rw [List.foldl_cons, List.length_cons]
      omega
  have := key l []
  simpa [insAll] using this
/-- Two strictly rising rows of the same texts are one. -/
theorem rise_ext : ∀ (a b : List Txt), a.Pairwise (fun x y => x < y) → b.Pairwise (fun x y => x < y) → (∀ x, x ∈ a ↔ x ∈ b) → a = b
  | [], [], _, _, _ => rfl
  | [], y :: b, _, _, h => absurd ((h y).2 (by simp)) (by simp)
  | x :: a, [], _, _, h => absurd ((h x).1 (by simp)) (by simp)
  | x :: a, y :: b, ha, hb, h => by
    obtain ⟨ha1, ha2⟩ := List.pairwise_cons.1 ha
    obtain ⟨hb1, hb2⟩ := List.pairwise_cons.1 hb
    have hxy : x = y := by
      rcases List.mem_cons.1 ((h x).1 (by simp)) with e | e
      · exact e
      · rcases List.mem_cons.1 ((h y).2 (by simp)) with e' | e'
        · exact e'.symm
        · exact absurd (List.lt_trans (ha1 y e') (hb1 x e)) (List.lt_irrefl _)
    subst hxy
    congr 1
    refine rise_ext a b ha2 hb2 fun z => ?_
    constructor
    · intro hz
      rcases List.mem_cons.1 ((h z).1 (List.mem_cons_of_mem _ hz)) with e | e
      · subst e; exact absurd (ha1 z hz) (List.lt_irrefl _)
      · exact e
    · intro hz
      rcases List.mem_cons.1 ((h z).2 (List.mem_cons_of_mem _ hz)) with e | e
      · subst e; exact absurd (hb1 z hz) (List.lt_irrefl _)
      · exact e
theorem refKeys_eq (l : List ActD) : insAll (l.map keyT) = keysL l := by
  obtain ⟨h1, h2⟩ := insFold_spec (l.map keyT) [] (by simp)
  refine rise_ext _ _ h1 (keysL_pw l) fun x => ?_
  unfold insAll
  rw [h2, keysL_mem]
  simp [List.mem_map]
end Go.Proofs.YtjplmghhleoolaaGreatDoor
