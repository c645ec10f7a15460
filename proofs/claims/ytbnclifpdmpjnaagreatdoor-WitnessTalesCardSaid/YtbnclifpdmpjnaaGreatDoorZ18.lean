/- The stable sort: the plain law (rows of blocks, by their keys). -/
import Derived.Test.YtbnclifpdmpjnaaGreatDoorZ01
namespace Go.Proofs.YtbnclifpdmpjnaaGreatDoor
def keyAt (f : Nat → Int) (q : List Nat) (i : Nat) : Int := f (q.getD i 0)
def SortedOn (f : Nat → Int) (q : List Nat) (a b : Nat) : Prop := ∀ i j, a ≤ i → i < j → j < b → keyAt f q i ≤ keyAt f q j
structure Moved (q q' : List Nat) (a b : Nat) : Prop where
  len : q'.length = q.length
  out : ∀ k, k < a ∨ b ≤ k → q'.getD k 0 = q.getD k 0
  inn : ∀ k, a ≤ k → k < b → ∃ k', a ≤ k' ∧ k' < b ∧ q'.getD k 0 = q.getD k' 0
  perm : q'.Perm q
theorem Moved.refl (q : List Nat) (a b : Nat) : Moved q q a b := ⟨rfl, fun _ _ => rfl, fun k h1 h2 => ⟨k, h1, h2, rfl⟩, List.Perm.refl _⟩
theorem Moved.trans {q r s : List Nat} {a b : Nat} (h : Moved q r a b) (k : Moved r s a b) : Moved q s a b :=
  ⟨k.len.trans h.len, fun x hx => (k.out x hx).trans (h.out x hx), fun x h1 h2 => by
    obtain ⟨y, h3, h4, h5⟩ := k.inn x h1 h2
    obtain ⟨z, h6, h7, h8⟩ := h.inn y h3 h4
    exact ⟨z, h6, h7, h5.trans h8⟩, k.perm.trans h.perm⟩
theorem Moved.wide {q r : List Nat} {a b c d : Nat} (h : Moved q r a b) (hc : c ≤ a) (hd : b ≤ d) : Moved q r c d :=
  ⟨h.len, fun x hx => h.out x (by omega), fun x h1 h2 => by
    by_cases hx : a ≤ x ∧ x < b
    · obtain ⟨y, h3, h4, h5⟩ := h.inn x hx.1 hx.2
      exact ⟨y, by omega, by omega, h5⟩
    · exact ⟨x, h1, h2, h.out x (by omega)⟩, h.perm⟩
def swapL (q : List Nat) (i j : Nat) : List Nat := (q.set i (q.getD j 0)).set j (q.getD i 0)
theorem getD_setN (q : List Nat) (i : Nat) (x k : Nat) (hi : i < q.length) : (q.set i x).getD k 0 = if k = i then x else q.getD k 0 := by
  rw [List.getD_eq_getElem?_getD, List.getD_eq_getElem?_getD, List.getElem?_set]
  by_cases h : i = k
  · subst h; simp [hi]
  · rw [if_neg h, if_neg (fun e => h e.symm)]
theorem swapL_len (q : List Nat) (i j : Nat) : (swapL q i j).length = q.length := by simp [swapL]
theorem swapL_getD {q : List Nat} {i j : Nat} (hi : i < q.length) (hj : j < q.length) (k : Nat) : (swapL q i j).getD k 0 = if k = j then q.getD i 0 else if k = i then q.getD j 0 else q.getD k 0 := by
  unfold swapL
  rw [getD_setN _ _ _ _ (by simpa using hj), getD_setN _ _ _ _ hi]
theorem swapL_perm {q : List Nat} {i j : Nat} (hi : i < q.length) (hj : j < q.length) : (swapL q i j).Perm q := by
  have h := Array.swap_perm (xs := q.toArray) (i := i) (j := j) (by simpa using hi) (by simpa using hj)
  rw [Array.perm_iff_toList_perm, Array.toList_swap] at h
  simp only [List.getElem_toArray] at h
  unfold swapL
  rw [List.getD_eq_getElem?_getD, List.getD_eq_getElem?_getD, List.getElem?_eq_getElem hi, List.getElem?_eq_getElem hj]
  exact h
theorem swap_moved {q : List Nat} {i j a b : Nat} (hi : a ≤ i ∧ i < b) (hj : a ≤ j ∧ j < b) (hb : b ≤ q.length) : Moved q (swapL q i j) a b := by
  have h1 : i < q.length := by omega
  have h2 : j < q.length := by omega
  refine ⟨swapL_len _ _ _, fun k hk => ?_, fun k h3 h4 => ?_, swapL_perm h1 h2⟩
  · rw [swapL_getD h1 h2, if_neg (by omega), if_neg (by omega)]
  · rw [swapL_getD h1 h2]
    split
    · exact ⟨i, hi.1, hi.2, rfl⟩
    · split
      · exact ⟨j, hj.1, hj.2, rfl⟩
      · exact ⟨k, h3, h4, rfl⟩
theorem keyAt_swap {f : Nat → Int} {q : List Nat} {i j : Nat} (hi : i < q.length) (hj : j < q.length) (k : Nat) : keyAt f (swapL q i j) k = if k = j then keyAt f q i else if k = i then keyAt f q j else keyAt f q k := by
  unfold keyAt
  rw [swapL_getD hi hj]
  split
  · rfl
  · split <;> rfl
theorem SortedOn.mono {f : Nat → Int} {q : List Nat} {a b c d : Nat} (h : SortedOn f q a b) (hc : a ≤ c) (hd : d ≤ b) : SortedOn f q c d := fun i j h1 h2 h3 => h i j (by omega) h2 (by omega)
theorem SortedOn.one (f : Nat → Int) (q : List Nat) {a b : Nat} (h : b ≤ a + 1) : SortedOn f q a b := fun i j h1 h2 h3 => by omega
theorem Moved.key {q r : List Nat} {a b : Nat} (h : Moved q r a b) (f : Nat → Int) {k : Nat} (hk : k < a ∨ b ≤ k) : keyAt f r k = keyAt f q k := by unfold keyAt; rw [h.out k hk]
theorem Moved.keyIn {q r : List Nat} {a b : Nat} (h : Moved q r a b) (f : Nat → Int) {k : Nat} (h1 : a ≤ k) (h2 : k < b) : ∃ k', a ≤ k' ∧ k' < b ∧ keyAt f r k = keyAt f q k' := by
  obtain ⟨k', h3, h4, h5⟩ := h.inn k h1 h2
  exact ⟨k', h3, h4, by unfold keyAt; rw [h5]⟩
theorem SortedOn.apart {f : Nat → Int} {q r : List Nat} {a b c d : Nat} (h : SortedOn f q c d) (hm : Moved q r a b) (hd : d ≤ a ∨ b ≤ c) : SortedOn f r c d := fun i j h1 h2 h3 => by
  rw [hm.key f (by omega), hm.key f (by omega)]
  exact h i j h1 h2 h3
-- the sort by insertion
def InsMid (f : Nat → Int) (q : List Nat) (a i j : Nat) : Prop := ∀ x y, a ≤ x → x < y → y ≤ i → y ≠ j → keyAt f q x ≤ keyAt f q y
theorem ins_start {f : Nat → Int} {q : List Nat} {a i : Nat} (h : SortedOn f q a i) : InsMid f q a i i := fun x y h1 h2 h3 h4 => h x y h1 h2 (by omega)
theorem ins_step {f : Nat → Int} {q : List Nat} {a i j : Nat} (h : InsMid f q a i j) (hj : a < j) (hji : j ≤ i) (hi : i < q.length) (hlt : keyAt f q j < keyAt f q (j - 1)) : InsMid f (swapL q j (j - 1)) a i (j - 1) := by
  intro x y h1 h2 h3 h4
  rw [keyAt_swap (by omega) (by omega), keyAt_swap (by omega) (by omega)]
  by_cases hy : y = j
  · subst hy
    rw [if_neg (by omega : ¬ y = y - 1), if_pos rfl]
    by_cases hx : x = y - 1
    · rw [if_pos hx]; omega
    · rw [if_neg hx, if_neg (by omega)]
      exact h x (y - 1) h1 (by omega) (by omega) (by omega)
  · rw [if_neg h4, if_neg hy]
    by_cases hx : x = j - 1
    · rw [if_pos hx]; exact h j y (by omega) (by omega) h3 hy
    · rw [if_neg hx]
      by_cases hx2 : x = j
      · rw [if_pos hx2]; exact h (j - 1) y (by omega) (by omega) h3 hy
      · rw [if_neg hx2]; exact h x y h1 h2 h3 hy
theorem ins_end {f : Nat → Int} {q : List Nat} {a i j : Nat} (h : InsMid f q a i j) (hj : a ≤ j) (hji : j ≤ i) (he : j = a ∨ ¬ keyAt f q j < keyAt f q (j - 1)) : SortedOn f q a (i + 1) := by
  intro x y h1 h2 h3
  by_cases hy : y = j
  · subst hy
    rcases he with he | he
    · omega
    · by_cases hx : x = y - 1
      · rw [hx]; omega
      · have := h x (y - 1) h1 (by omega) (by omega) (by omega); omega
  · exact h x y h1 h2 (by omega) hy
-- two stretches turned
def rho (a m b k : Nat) : Nat := if a ≤ k ∧ k < b then (if k < a + (b - m) then m + (k - a) else a + (k - a - (b - m))) else k
def swm (a b n k : Nat) : Nat := if a ≤ k ∧ k < a + n then b + (k - a) else if b ≤ k ∧ k < b + n then a + (k - b) else k
def Via (q q' : List Nat) (s : Nat → Nat) : Prop := ∀ k, q'.getD k 0 = q.getD (s k) 0
theorem rho_more {m k : Nat} (i j : Nat) (hi : j < i) (hj : 0 < j) (ha : i ≤ m) : swm (m - i) m j (rho (m - i + j) m (m + j) k) = rho (m - i) m (m + j) k := by
  unfold rho swm
  repeat' split
  all_goals omega
theorem rho_less {m k : Nat} (i j : Nat) (hi : i < j) (hj : 0 < i) (ha : i ≤ m) : swm (m - i) (m + j - i) i (rho (m - i) m (m + (j - i)) k) = rho (m - i) m (m + j) k := by
  unfold rho swm
  repeat' split
  all_goals omega
theorem rho_same {m k : Nat} (i : Nat) (ha : i ≤ m) : swm (m - i) m i k = rho (m - i) m (m + i) k := by
  unfold rho swm
  repeat' split
  all_goals omega
theorem swm_step {q r : List Nat} {a b n : Nat} (h : Via q r (swm a b n)) (hab : a + n < b ∨ b + n < a) (ha : a + n < q.length) (hb : b + n < q.length) (hl : r.length = q.length) : Via q (swapL r (a + n) (b + n)) (swm a b (n + 1)) := by
  intro k
  rw [swapL_getD (by omega) (by omega)]
  by_cases h1 : k = b + n
  · subst h1
    rw [if_pos rfl, h (a + n)]
    congr 1
    unfold swm
    repeat' split
    all_goals omega
  · rw [if_neg h1]
    by_cases h2 : k = a + n
    · subst h2
      rw [if_pos rfl, h (b + n)]
      congr 1
      unfold swm
      repeat' split
      all_goals omega
    · rw [if_neg h2, h k]
      congr 1
      unfold swm
      repeat' split
      all_goals omega
theorem Via.trans {q r s : List Nat} {u v : Nat → Nat} (h : Via q r u) (k : Via r s v) : Via q s (fun x => u (v x)) := fun x => (k x).trans (h (v x))
theorem rho_in {a m b k : Nat} (h1 : a ≤ k) (h2 : k < b) (ham : a ≤ m) (hmb : m ≤ b) : a ≤ rho a m b k ∧ rho a m b k < b := by
  unfold rho
  repeat' split
  all_goals omega
theorem via_moved {q r : List Nat} {a m b : Nat} (h : Via q r (rho a m b)) (hp : r.Perm q) (ham : a ≤ m) (hmb : m ≤ b) : Moved q r a b :=
  ⟨hp.length_eq, fun k hk => by rw [h k]; congr 1; unfold rho; rw [if_neg (by omega)], fun k h1 h2 => ⟨rho a m b k, (rho_in h1 h2 ham hmb).1, (rho_in h1 h2 ham hmb).2, h k⟩, hp⟩
-- one put among others
structure Up (q q' : List Nat) (a p : Nat) : Prop where
  at_ : q'.getD p 0 = q.getD a 0
  mid : ∀ x, a ≤ x → x < p → q'.getD x 0 = q.getD (x + 1) 0
  rest : ∀ x, p < x → q'.getD x 0 = q.getD x 0
theorem Up.start (q : List Nat) (a : Nat) : Up q q a a := ⟨rfl, fun x h1 h2 => by omega, fun _ _ => rfl⟩
theorem Up.step {q r : List Nat} {a p : Nat} (h : Up q r a p) (hp : a ≤ p) (hl : p + 1 < r.length) : Up q (swapL r p (p + 1)) a (p + 1) := by
  refine ⟨?_, fun x h1 h2 => ?_, fun x h1 => ?_⟩
  · rw [swapL_getD (by omega) hl, if_pos rfl]; exact h.at_
  · rw [swapL_getD (by omega) hl, if_neg (by omega)]
    by_cases hx : x = p
    · subst hx; rw [if_pos rfl]; exact h.rest _ (by omega)
    · rw [if_neg hx]; exact h.mid x h1 (by omega)
  · rw [swapL_getD (by omega) hl, if_neg (by omega), if_neg (by omega)]; exact h.rest x (by omega)
theorem Up.sorted {f : Nat → Int} {q r : List Nat} {a p b : Nat} (h : Up q r a p) (hap : a ≤ p) (hpb : p < b) (hs : SortedOn f q (a + 1) b) (h1 : ∀ x, a < x → x ≤ p → keyAt f q x < keyAt f q a) (h2 : ∀ x, p < x → x < b → ¬ keyAt f q x < keyAt f q a) : SortedOn f r a b := by
  intro x y hx hxy hy
  have e1 : ∀ z, a ≤ z → z < p → keyAt f r z = keyAt f q (z + 1) := fun z h3 h4 => by unfold keyAt; rw [h.mid z h3 h4]
  have e2 : keyAt f r p = keyAt f q a := by unfold keyAt; rw [h.at_]
  have e3 : ∀ z, p < z → keyAt f r z = keyAt f q z := fun z h3 => by unfold keyAt; rw [h.rest z h3]
  rcases Nat.lt_trichotomy x p with h3 | h3 | h3
  · rw [e1 x hx h3]
    rcases Nat.lt_trichotomy y p with h4 | h4 | h4
    · rw [e1 y (by omega) h4]; exact hs _ _ (by omega) (by omega) (by omega)
    · rw [h4, e2]; have := h1 (x + 1) (by omega) (by omega); omega
    · rw [e3 y h4]
      by_cases h5 : x + 1 = y
      · rw [h5]; omega
      · exact hs _ _ (by omega) (by omega) hy
  · rw [h3, e2, e3 y (by omega)]; have := h2 y (by omega) hy; omega
  · rw [e3 x h3, e3 y (by omega)]; exact hs _ _ (by omega) hxy hy
structure Down (q q' : List Nat) (m p : Nat) : Prop where
  at_ : q'.getD p 0 = q.getD m 0
  mid : ∀ x, p < x → x ≤ m → q'.getD x 0 = q.getD (x - 1) 0
  rest : ∀ x, x < p → q'.getD x 0 = q.getD x 0
theorem Down.start (q : List Nat) (m : Nat) : Down q q m m := ⟨rfl, fun x h1 h2 => by omega, fun _ _ => rfl⟩
theorem Down.step {q r : List Nat} {m p : Nat} (h : Down q r m p) (hp : p ≤ m) (h0 : 0 < p) (hl : m < r.length) : Down q (swapL r p (p - 1)) m (p - 1) := by
  refine ⟨?_, fun x h1 h2 => ?_, fun x h1 => ?_⟩
  · rw [swapL_getD (by omega) (by omega), if_pos rfl]; exact h.at_
  · rw [swapL_getD (by omega) (by omega), if_neg (by omega)]
    by_cases hx : x = p
    · rw [if_pos hx, hx]; exact h.rest _ (by omega)
    · rw [if_neg hx]; exact h.mid x (by omega) h2
  · rw [swapL_getD (by omega) (by omega), if_neg (by omega), if_neg (by omega)]; exact h.rest x (by omega)
theorem Down.sorted {f : Nat → Int} {q r : List Nat} {a m p : Nat} (h : Down q r m p) (hp : a ≤ p) (hpm : p ≤ m) (hs : SortedOn f q a m) (h1 : ∀ x, a ≤ x → x < p → ¬ keyAt f q m < keyAt f q x) (h2 : ∀ x, p ≤ x → x < m → keyAt f q m < keyAt f q x) : SortedOn f r a (m + 1) := by
  intro x y hx hxy hy
  have e1 : ∀ z, p < z → z ≤ m → keyAt f r z = keyAt f q (z - 1) := fun z h3 h4 => by unfold keyAt; rw [h.mid z h3 h4]
  have e2 : keyAt f r p = keyAt f q m := by unfold keyAt; rw [h.at_]
  have e3 : ∀ z, z < p → keyAt f r z = keyAt f q z := fun z h3 => by unfold keyAt; rw [h.rest z h3]
  rcases Nat.lt_trichotomy x p with h3 | h3 | h3
  · rw [e3 x h3]
    rcases Nat.lt_trichotomy y p with h4 | h4 | h4
    · rw [e3 y h4]; exact hs _ _ hx hxy (by omega)
    · rw [h4, e2]; have := h1 x hx h3; omega
    · rw [e1 y h4 (by omega)]
      by_cases h5 : x = y - 1
      · rw [h5]; omega
      · exact hs _ _ hx (by omega) (by omega)
  · rw [h3, e2, e1 y (by omega) (by omega)]; have := h2 (y - 1) (by omega) (by omega); omega
  · rw [e1 x h3 (by omega), e1 y (by omega) (by omega)]; exact hs _ _ (by omega) (by omega) (by omega)
-- the merge
structure SymB (a m b mid lo hi : Nat) : Prop where
  am : a < m
  mb : m < b
  hmid : mid = (a + b) / 2
  hlo : lo = if mid < m then mid + m - b else a
  hhi : hi = if mid < m then mid else m
theorem SymB.facts {a m b mid lo hi : Nat} (h : SymB a m b mid lo hi) : a ≤ lo ∧ lo ≤ hi ∧ hi ≤ m ∧ hi ≤ mid ∧ a ≤ mid ∧ mid < b ∧ mid + m - b ≤ lo ∧ 2 * mid ≤ a + b ∧ a + b ≤ 2 * mid + 1 := by
  obtain ⟨h1, h2, h3, h4, h5⟩ := h
  split at h4
  · rw [if_pos (by assumption)] at h5; omega
  · rw [if_neg (by assumption)] at h5; omega
structure SymS (f : Nat → Int) (q : List Nat) (n lo hi s r : Nat) : Prop where
  bd : lo ≤ s ∧ s ≤ r ∧ r ≤ hi
  ahead : ∀ c, lo ≤ c → c < s → keyAt f q c ≤ keyAt f q (n - 1 - c)
  behind : ∀ c, r ≤ c → c < hi → keyAt f q (n - 1 - c) < keyAt f q c
theorem symS_start (f : Nat → Int) (q : List Nat) (n : Nat) {lo hi : Nat} (h : lo ≤ hi) : SymS f q n lo hi lo hi := ⟨by omega, fun c h1 h2 => by omega, fun c h1 h2 => by omega⟩
theorem symS_right {f : Nat → Int} {q : List Nat} {a m b mid lo hi s r c : Nat} (hB : SymB a m b mid lo hi) (hu : SortedOn f q a m) (hv : SortedOn f q m b) (h : SymS f q (mid + m) lo hi s r) (h1 : s ≤ c) (h2 : c < r) (hc : ¬ keyAt f q (mid + m - 1 - c) < keyAt f q c) : SymS f q (mid + m) lo hi (c + 1) r := by
  have F := hB.facts
  have B := h.bd
  have M := hB.mb
  refine ⟨by omega, fun x h3 h4 => ?_, h.behind⟩
  by_cases hx : x = c
  · subst hx; omega
  · have e1 := hu x c (by omega) (by omega) (by omega)
    have e2 := hv (mid + m - 1 - c) (mid + m - 1 - x) (by omega) (by omega) (by omega)
    omega
theorem symS_left {f : Nat → Int} {q : List Nat} {a m b mid lo hi s r c : Nat} (hB : SymB a m b mid lo hi) (hu : SortedOn f q a m) (hv : SortedOn f q m b) (h : SymS f q (mid + m) lo hi s r) (h1 : s ≤ c) (h2 : c < r) (hc : keyAt f q (mid + m - 1 - c) < keyAt f q c) : SymS f q (mid + m) lo hi s c := by
  have F := hB.facts
  have B := h.bd
  have M := hB.mb
  refine ⟨by omega, h.ahead, fun x h3 h4 => ?_⟩
  by_cases hx : x = c
  · subst hx; omega
  · have e1 := hu c x (by omega) (by omega) (by omega)
    have e2 := hv (mid + m - 1 - x) (mid + m - 1 - c) (by omega) (by omega) (by omega)
    omega
theorem via_key {f : Nat → Int} {q r : List Nat} {s : Nat → Nat} (h : Via q r s) (k : Nat) : keyAt f r k = keyAt f q (s k) := by unfold keyAt; rw [h k]
theorem sym_turned {f : Nat → Int} {q r : List Nat} {a m b mid lo hi s : Nat} (hB : SymB a m b mid lo hi) (hu : SortedOn f q a m) (hv : SortedOn f q m b) (h : SymS f q (mid + m) lo hi s s) (hr : Via q r (rho s m (mid + m - s))) :
    SortedOn f r a s ∧ SortedOn f r s mid ∧ SortedOn f r mid (mid + m - s) ∧ SortedOn f r (mid + m - s) b ∧ ∀ x y, a ≤ x → x < mid → mid ≤ y → y < b → keyAt f r x ≤ keyAt f r y := by
  have F := hB.facts
  have B := h.bd
  have M := hB.mb
  have AM := hB.am
  obtain ⟨e, he⟩ : ∃ e, e = mid + m - s := ⟨_, rfl⟩
  rw [← he] at hr ⊢
  have g1 : ∀ k, k < s → keyAt f r k = keyAt f q k := fun k hk => by rw [via_key hr]; unfold rho; rw [if_neg (by omega)]
  have g2 : ∀ k, s ≤ k → k < mid → keyAt f r k = keyAt f q (m + (k - s)) := fun k h1 h2 => by rw [via_key hr]; unfold rho; rw [if_pos (by omega), if_pos (by omega)]
  have g3 : ∀ k, mid ≤ k → k < e → keyAt f r k = keyAt f q (s + (k - mid)) := fun k h1 h2 => by
    rw [via_key hr]; unfold rho; rw [if_pos (by omega), if_neg (by omega)]; congr 1; omega
  have g4 : ∀ k, e ≤ k → keyAt f r k = keyAt f q k := fun k hk => by rw [via_key hr]; unfold rho; rw [if_neg (by omega)]
  have u : ∀ x y, a ≤ x → x ≤ y → y < m → keyAt f q x ≤ keyAt f q y := fun x y h1 h2 h3 => by
    by_cases hxy : x = y
    · subst hxy; omega
    · exact hu x y h1 (by omega) h3
  have v : ∀ x y, m ≤ x → x ≤ y → y < b → keyAt f q x ≤ keyAt f q y := fun x y h1 h2 h3 => by
    by_cases hxy : x = y
    · subst hxy; omega
    · exact hv x y h1 (by omega) h3
  refine ⟨fun x y h1 h2 h3 => ?_, fun x y h1 h2 h3 => ?_, fun x y h1 h2 h3 => ?_, fun x y h1 h2 h3 => ?_, fun x y h1 h2 h3 h4 => ?_⟩
  · rw [g1 x (by omega), g1 y h3]; exact u x y h1 (by omega) (by omega)
  · rw [g2 x h1 (by omega), g2 y (by omega) h3]; exact v _ _ (by omega) (by omega) (by omega)
  · rw [g3 x h1 (by omega), g3 y (by omega) h3]; exact u _ _ (by omega) (by omega) (by omega)
  · rw [g4 x h1, g4 y (by omega)]; exact v _ _ (by omega) (by omega) h3
  · by_cases hx : x < s
    · rw [g1 x hx]
      by_cases hy : y < e
      · rw [g3 y h3 hy]; exact u _ _ h1 (by omega) (by omega)
      · rw [g4 y (by omega)]
        -- first of U against the rest of V
        by_cases hl : s = lo
        · have hlo := hB.hlo
          split at hlo
          · omega
          · omega
        · have e1 := h.ahead (s - 1) (by omega) (by omega)
          have e2 := u x (s - 1) h1 (by omega) (by omega)
          have e3 := v (mid + m - 1 - (s - 1)) y (by omega) (by omega) h4
          omega
    · rw [g2 x (by omega) h2]
      by_cases hy : y < e
      · rw [g3 y h3 hy]
        by_cases hh : s = hi
        · have hhi := hB.hhi
          split at hhi
          · omega
          · omega
        · have e1 := h.behind s (by omega) (by omega)
          have e2 := v (m + (x - s)) (mid + m - 1 - s) (by omega) (by omega) (by omega)
          have e3 := u s (s + (y - mid)) (by omega) (by omega) (by omega)
          omega
      · rw [g4 y (by omega)]; exact v _ _ (by omega) (by omega) h4
theorem rho_nil {s m e k : Nat} (h : s = m ∨ m = e) (hsm : s ≤ m) (hme : m ≤ e) : rho s m e k = k := by
  unfold rho
  repeat' split
  all_goals omega
theorem sym_end {f : Nat → Int} {r t u : List Nat} {a b mid : Nat} (ham : a ≤ mid) (hmb : mid ≤ b) (hc : ∀ x y, a ≤ x → x < mid → mid ≤ y → y < b → keyAt f r x ≤ keyAt f r y)
    (h1 : Moved r t a mid) (s1 : SortedOn f t a mid) (h2 : Moved t u mid b) (s2 : SortedOn f u mid b) : SortedOn f u a b ∧ Moved r u a b := by
  refine ⟨fun x y hx hxy hy => ?_, (h1.wide (Nat.le_refl _) hmb).trans (h2.wide ham (Nat.le_refl _))⟩
  by_cases hym : y < mid
  · rw [h2.key f (by omega), h2.key f (by omega)]; exact s1 x y hx hxy hym
  · by_cases hxm : x < mid
    · rw [h2.key f (by omega)]
      obtain ⟨y', h3, h4, h5⟩ := h2.keyIn f (by omega : mid ≤ y) hy
      obtain ⟨x', h6, h7, h8⟩ := h1.keyIn f hx hxm
      rw [h5, h8, h1.key f (by omega)]
      exact hc x' y' h6 h7 h3 h4
    · exact s2 x y (by omega) hxy hy
theorem sorted_join {f : Nat → Int} {r : List Nat} {a s mid : Nat} (h1 : SortedOn f r a s) (h2 : SortedOn f r s mid) (h : ¬ (a < s ∧ s < mid)) (has : a ≤ s) (hsm : s ≤ mid) : SortedOn f r a mid := by
  by_cases e : a = s
  · rw [e]; exact h2
  · have : s = mid := by omega
    rw [← this]; exact h1
-- the sort of blocks
def Blocks (f : Nat → Int) (q : List Nat) (bs n : Nat) : Prop := ∀ t, SortedOn f q (t * bs) (min ((t + 1) * bs) n)
theorem blocks_next {f : Nat → Int} {q r : List Nat} {a : Nat} (h : ∀ t, (t + 1) * 20 ≤ a → SortedOn f q (t * 20) ((t + 1) * 20)) (ha : ∃ u, a = u * 20) (hm : Moved q r a (a + 20)) (hs : SortedOn f r a (a + 20)) : (∀ t, (t + 1) * 20 ≤ a + 20 → SortedOn f r (t * 20) ((t + 1) * 20)) ∧ ∃ u, a + 20 = u * 20 := by
  obtain ⟨u, hu⟩ := ha
  refine ⟨fun t ht => ?_, u + 1, by omega⟩
  by_cases htu : t = u
  · subst htu; rw [← hu, show (t + 1) * 20 = a + 20 from by omega]; exact hs
  · exact (h t (by omega)).apart hm (by omega)
theorem blocks_end {f : Nat → Int} {q r : List Nat} {a n : Nat} (h : ∀ t, (t + 1) * 20 ≤ a → SortedOn f q (t * 20) ((t + 1) * 20)) (ha : ∃ u, a = u * 20) (han : n < a + 20) (hm : Moved q r a n) (hs : SortedOn f r a n) : Blocks f r 20 n := by
  obtain ⟨u, hu⟩ := ha
  intro t
  by_cases htu : t = u
  · subst htu; rw [← hu]; exact hs.mono (Nat.le_refl _) (by omega)
  · by_cases h2 : t < u
    · exact ((h t (by omega)).mono (Nat.le_refl _) (by omega)).apart hm (by omega)
    · exact SortedOn.one _ _ (by omega)
structure BMid (f : Nat → Int) (q : List Nat) (bs n a : Nat) : Prop where
  ahead : ∀ t, (t + 1) * (2 * bs) ≤ a → SortedOn f q (t * (2 * bs)) ((t + 1) * (2 * bs))
  rest : ∀ t, a ≤ t * bs → SortedOn f q (t * bs) (min ((t + 1) * bs) n)
  mul : ∃ u, a = u * (2 * bs)
theorem bmid_start {f : Nat → Int} {q : List Nat} {bs n : Nat} (h : Blocks f q bs n) (hb : bs = 20 ∨ bs = 40) : BMid f q bs n 0 := by
  refine ⟨fun t ht => ?_, fun t _ => h t, 0, by omega⟩
  rcases hb with rfl | rfl <;> omega
theorem bmid_two {f : Nat → Int} {q : List Nat} {bs n a : Nat} (h : BMid f q bs n a) (hb : bs = 20 ∨ bs = 40) (hn : a + 2 * bs ≤ n) : SortedOn f q a (a + bs) ∧ SortedOn f q (a + bs) (a + 2 * bs) := by
  obtain ⟨u, hu⟩ := h.mul
  rcases hb with rfl | rfl
  · exact ⟨by have := h.rest (2 * u) (by omega); rwa [show 2 * u * 20 = a from by omega, show min ((2 * u + 1) * 20) n = a + 20 from by omega] at this, by have := h.rest (2 * u + 1) (by omega); rwa [show (2 * u + 1) * 20 = a + 20 from by omega, show min ((2 * u + 1 + 1) * 20) n = a + 2 * 20 from by omega] at this⟩
  · exact ⟨by have := h.rest (2 * u) (by omega); rwa [show 2 * u * 40 = a from by omega, show min ((2 * u + 1) * 40) n = a + 40 from by omega] at this, by have := h.rest (2 * u + 1) (by omega); rwa [show (2 * u + 1) * 40 = a + 40 from by omega, show min ((2 * u + 1 + 1) * 40) n = a + 2 * 40 from by omega] at this⟩
theorem bmid_last {f : Nat → Int} {q : List Nat} {bs n a : Nat} (h : BMid f q bs n a) (hb : bs = 20 ∨ bs = 40) (hn : n < a + 2 * bs) (hm : a + bs < n) : SortedOn f q a (a + bs) ∧ SortedOn f q (a + bs) n := by
  obtain ⟨u, hu⟩ := h.mul
  rcases hb with rfl | rfl
  · exact ⟨by have := h.rest (2 * u) (by omega); rwa [show 2 * u * 20 = a from by omega, show min ((2 * u + 1) * 20) n = a + 20 from by omega] at this, by have := h.rest (2 * u + 1) (by omega); rwa [show (2 * u + 1) * 20 = a + 20 from by omega, show min ((2 * u + 1 + 1) * 20) n = n from by omega] at this⟩
  · exact ⟨by have := h.rest (2 * u) (by omega); rwa [show 2 * u * 40 = a from by omega, show min ((2 * u + 1) * 40) n = a + 40 from by omega] at this, by have := h.rest (2 * u + 1) (by omega); rwa [show (2 * u + 1) * 40 = a + 40 from by omega, show min ((2 * u + 1 + 1) * 40) n = n from by omega] at this⟩
theorem bmid_step {f : Nat → Int} {q r : List Nat} {bs n a : Nat} (h : BMid f q bs n a) (hb : bs = 20 ∨ bs = 40) (hm : Moved q r a (a + 2 * bs)) (hs : SortedOn f r a (a + 2 * bs)) : BMid f r bs n (a + 2 * bs) := by
  obtain ⟨u, hu⟩ := h.mul
  rcases hb with rfl | rfl
  · refine ⟨fun t ht => ?_, fun t ht => (h.rest t (by omega)).apart hm (by omega), u + 1, by omega⟩
    by_cases htu : t = u
    · subst htu; rw [← hu, show (t + 1) * (2 * 20) = a + 2 * 20 from by omega]; exact hs
    · exact (h.ahead t (by omega)).apart hm (by omega)
  · refine ⟨fun t ht => ?_, fun t ht => (h.rest t (by omega)).apart hm (by omega), u + 1, by omega⟩
    by_cases htu : t = u
    · subst htu; rw [← hu, show (t + 1) * (2 * 40) = a + 2 * 40 from by omega]; exact hs
    · exact (h.ahead t (by omega)).apart hm (by omega)
theorem bmid_end {f : Nat → Int} {q r : List Nat} {bs n a : Nat} (h : BMid f q bs n a) (hb : bs = 20 ∨ bs = 40) (hn : n < a + 2 * bs) (hm : Moved q r a n) (hs : SortedOn f r a n) : Blocks f r (2 * bs) n := by
  obtain ⟨u, hu⟩ := h.mul
  intro t
  rcases hb with rfl | rfl
  · by_cases htu : t = u
    · subst htu; rw [← hu]; exact hs.mono (Nat.le_refl _) (by omega)
    · by_cases h2 : t < u
      · exact ((h.ahead t (by omega)).mono (Nat.le_refl _) (by omega)).apart hm (by omega)
      · exact SortedOn.one _ _ (by omega)
  · by_cases htu : t = u
    · subst htu; rw [← hu]; exact hs.mono (Nat.le_refl _) (by omega)
    · by_cases h2 : t < u
      · exact ((h.ahead t (by omega)).mono (Nat.le_refl _) (by omega)).apart hm (by omega)
      · exact SortedOn.one _ _ (by omega)
theorem bmid_one {f : Nat → Int} {q : List Nat} {bs n a : Nat} (h : BMid f q bs n a) (hb : bs = 20 ∨ bs = 40) (hn : n ≤ a + bs) : SortedOn f q a n := by
  obtain ⟨u, hu⟩ := h.mul
  rcases hb with rfl | rfl
  · have := h.rest (2 * u) (by omega)
    rw [show 2 * u * 20 = a from by omega] at this
    exact this.mono (Nat.le_refl _) (by omega)
  · have := h.rest (2 * u) (by omega)
    rw [show 2 * u * 40 = a from by omega] at this
    exact this.mono (Nat.le_refl _) (by omega)
theorem blocks_all {f : Nat → Int} {q : List Nat} {bs n : Nat} (h : Blocks f q bs n) (hn : n ≤ bs) : SortedOn f q 0 n := by
  have := h 0
  rw [Nat.zero_mul] at this
  exact this.mono (Nat.le_refl _) (by omega)
end Go.Proofs.YtbnclifpdmpjnaaGreatDoor
