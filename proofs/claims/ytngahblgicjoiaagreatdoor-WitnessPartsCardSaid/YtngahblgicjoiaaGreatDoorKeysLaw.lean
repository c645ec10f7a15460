/- Keys, Of: the plain law: keys rise, each act is of one of them; numbers there and back. No program. -/
import Derived.Test.YtngahblgicjoiaaGreatDoorMem
import Derived.Lib.SlicesCompact
namespace Go.Proofs.YtngahblgicjoiaaGreatDoor

abbrev Txt := List UInt8
def leT (x y : Txt) : Bool := decide (x ≤ y)
theorem leT_trans (a b c : Txt) (h1 : leT a b = true) (h2 : leT b c = true) : leT a c = true := by
  simp only [leT, decide_eq_true_eq] at *; exact List.le_trans h1 h2
theorem leT_total (a b : Txt) : (leT a b || leT b a) = true := by
  simp only [leT, Bool.or_eq_true, decide_eq_true_eq]; exact List.le_total a b
theorem lt_of_le_ne {a b : Txt} (h : a ≤ b) (hne : a ≠ b) : a < b := by
  rcases Classical.em (a < b) with h1 | h1
  · exact h1
  · exact absurd (List.le_antisymm h (List.not_lt.1 h1)) hne
theorem lt_of_le_of_lt {a b c : Txt} (h : a ≤ b) (k : b < c) : a < c := by
  refine lt_of_le_ne (List.le_trans h (List.le_of_lt k)) fun e => ?_
  subst e
  exact absurd k (List.not_lt.2 h)

def sortT (l : List Txt) : List Txt := l.mergeSort leT
theorem sortT_pw (l : List Txt) : (sortT l).Pairwise (fun a b => a ≤ b) := by
  have h := List.pairwise_mergeSort leT_trans leT_total l
  exact h.imp fun h => by simpa [leT] using h

/-- Of a rising row the places that are kept rise strictly, and are all of its texts. -/
theorem compactUpTo_spec (d : Array Txt) (hs : d.toList.Pairwise (fun a b => a ≤ b)) : ∀ m, m ≤ d.size →
    (Lib.compactUpTo d m).Pairwise (fun a b => a < b) ∧ (∀ x ∈ Lib.compactUpTo d m, ∃ j, j < m ∧ d[j]! = x) ∧ (∀ j, j < m → d[j]! ∈ Lib.compactUpTo d m) ∧ (∀ x ∈ Lib.compactUpTo d m, ∀ (_ : 0 < m), x ≤ d[m - 1]!) := by
  have hget : ∀ i j, i < j → j < d.size → d[i]! ≤ d[j]! := by
    intro i j hij hj
    have := List.pairwise_iff_getElem.1 hs i j (by simp; omega) (by simpa using hj) hij
    rw [getElem!_pos d i (by omega), getElem!_pos d j hj]
    simpa using this
  intro m
  induction m with
  | zero => intro _; exact ⟨by simp [Lib.compactUpTo], by simp [Lib.compactUpTo], by omega, by omega⟩
  | succ m ih =>
    intro hm
    obtain ⟨h1, h2, h3, h4⟩ := ih (by omega)
    rw [Lib.compactUpTo_succ]
    cases hk : Lib.keeps d m
    · have hk' : m ≠ 0 ∧ d[m]! = d[m - 1]! := by
        have := hk
        simp only [Lib.keeps, decide_eq_false_iff_not, not_or, Decidable.not_not] at this
        exact this
      simp only [Bool.false_eq_true, if_false, List.append_nil]
      refine ⟨h1, fun x hx => ?_, fun j hj => ?_, fun x hx _ => ?_⟩
      · obtain ⟨j, hj, e⟩ := h2 x hx; exact ⟨j, by omega, e⟩
      · rcases Nat.lt_or_ge j m with h | h
        · exact h3 j h
        · obtain rfl : j = m := by omega
          rw [hk'.2]; exact h3 _ (by omega)
      · have := h4 x hx (by omega)
        rw [Nat.add_sub_cancel, hk'.2]; exact this
    · simp only [if_true]
      have hlt : ∀ x ∈ Lib.compactUpTo d m, x < d[m]! := by
        intro x hx
        obtain ⟨j, hj, e⟩ := h2 x hx
        have hle := h4 x hx (by omega)
        have hk' : d[m]! ≠ d[m - 1]! := by
          have := hk
          simp only [Lib.keeps, decide_eq_true_eq] at this
          rcases this with h | h
          · omega
          · exact h
        exact lt_of_le_of_lt hle (lt_of_le_ne (hget (m - 1) m (by omega) (by omega)) (fun e => hk' e.symm))
      refine ⟨List.pairwise_append.2 ⟨h1, by simp, fun a ha b hb => ?_⟩, fun x hx => ?_, fun j hj => ?_, fun x hx _ => ?_⟩
      · rw [List.mem_singleton] at hb; subst hb; exact hlt a ha
      · rcases List.mem_append.1 hx with hx | hx
        · obtain ⟨j, hj, e⟩ := h2 x hx; exact ⟨j, by omega, e⟩
        · rw [List.mem_singleton] at hx; exact ⟨m, by omega, hx.symm⟩
      · rcases Nat.lt_or_ge j m with h | h
        · exact List.mem_append_left _ (h3 j h)
        · obtain rfl : j = m := by omega
          exact List.mem_append_right _ (by simp)
      · rw [Nat.add_sub_cancel]
        rcases List.mem_append.1 hx with hx | hx
        · exact List.le_of_lt (hlt x hx)
        · rw [List.mem_singleton] at hx; rw [hx]; exact List.le_refl _
theorem compact_spec (l : List Txt) (hs : l.Pairwise (fun a b => a ≤ b)) : (Lib.compact l).Pairwise (fun a b => a < b) ∧ ∀ x, x ∈ Lib.compact l ↔ x ∈ l := by
  obtain ⟨h1, h2, h3, _⟩ := compactUpTo_spec l.toArray (by simpa using hs) l.length (by simp)
  refine ⟨h1, fun x => ⟨fun hx => ?_, fun hx => ?_⟩⟩
  · obtain ⟨j, hj, e⟩ := h2 x hx
    rw [← e]
    have : l.toArray[j]! = l[j] := by simp [hj]
    rw [this]; exact List.getElem_mem _
  · obtain ⟨j, hj, e⟩ := List.mem_iff_getElem.1 hx
    have := h3 j hj
    have e2 : l.toArray[j]! = l[j] := by simp [hj]
    rw [e2, e] at this; exact this
theorem compact_len (l : List Txt) : (Lib.compact l).length ≤ l.length := by
  unfold Lib.compact Lib.compactUpTo
  rw [List.length_map]
  exact Nat.le_trans (List.length_filter_le _ _) (by simp)

def keyT (a : ActD) : Txt := a.key.data.toList
def keysL (l : List ActD) : List Txt := Lib.compact (sortT (l.map keyT))
theorem keysL_pw (l : List ActD) : (keysL l).Pairwise (fun a b => a < b) := (compact_spec _ (sortT_pw _)).1
theorem keysL_mem (l : List ActD) (x : Txt) : x ∈ keysL l ↔ ∃ a ∈ l, keyT a = x := by
  unfold keysL
  rw [(compact_spec _ (sortT_pw _)).2]
  unfold sortT
  rw [(List.mergeSort_perm _ _).mem_iff]
  simp [List.mem_map]
theorem keysL_len (l : List ActD) : (keysL l).length ≤ l.length := by
  unfold keysL
  refine Nat.le_trans (compact_len _) ?_
  unfold sortT
  rw [List.length_mergeSort, List.length_map]
  exact Nat.le_refl _

def ofL (key : Txt) (l : List ActD) : List ActD := l.filter (fun a => decide (keyT a = key))
theorem ofL_len (key : Txt) (l : List ActD) : (ofL key l).length ≤ l.length := List.length_filter_le _ _
def manyL (ks : List Txt) (l : List ActD) : Nat := (ks.map fun k => (ofL k l).length).sum
theorem manyL_nodup : ∀ (ks : List Txt), ks.Nodup → ∀ (l : List ActD), (∀ a ∈ l, keyT a ∈ ks) → manyL ks l = l.length := by
  intro ks hn l
  induction l with
  | nil =>
    intro _
    unfold manyL ofL
    have : ∀ ks : List Txt, (ks.map fun _ => 0).sum = 0 := by
      intro ks
      induction ks with
      | nil => rfl
      | cons k ks ih => rw [List.map_cons, List.sum_cons, ih]
    simpa using this ks
  | cons a l ih =>
    intro h
    have h1 := ih fun x hx => h x (by simp [hx])
    have hmem := h a (by simp)
    have key : ∀ (ks : List Txt), ks.Nodup → manyL ks (a :: l) = manyL ks l + (if keyT a ∈ ks then 1 else 0) := by
      intro ks
      induction ks with
      | nil => intro _; simp [manyL]
      | cons k ks ihk =>
        intro hnd
        rw [List.nodup_cons] at hnd
        have h2 := ihk hnd.2
        unfold manyL at h2 ⊢
        rw [List.map_cons, List.sum_cons, List.map_cons, List.sum_cons, h2]
        unfold ofL
        rw [List.filter_cons]
        by_cases e : keyT a = k
        · simp [e, hnd.1]; omega
        · simp [e]; omega
    rw [key ks hn, h1, if_pos hmem, List.length_cons]
theorem keysL_many (l : List ActD) : manyL (keysL l) l = l.length := by
  refine manyL_nodup _ ((keysL_pw l).imp ?_) l fun a ha => (keysL_mem l _).2 ⟨a, ha, rfl⟩
  intro a b h e
  subst e
  exact absurd h (List.lt_irrefl _)
theorem manyL_take_succ (ks : List Txt) (l : List ActD) (k : Nat) (x : Txt) (h : ks[k]? = some x) : manyL (ks.take (k + 1)) l = manyL (ks.take k) l + (ofL x l).length := by
  unfold manyL
  rw [List.take_add_one, h]
  simp
theorem manyL_take_le (ks : List Txt) (l : List ActD) (k : Nat) : manyL (ks.take k) l ≤ manyL ks l := by
  unfold manyL
  conv => rhs; rw [← List.take_append_drop k ks]
  rw [List.map_append, List.sum_append]
  omega

theorem dec_dig (u : Nat) : (∀ c ∈ Lib.decDigits u, isDig c) ∧ valN 0 (Lib.decDigits u) = u ∧ Lib.decDigits u ≠ [] := by
  induction u using Nat.strongRecOn with
  | ind u ih =>
    rw [Lib.decDigits]
    have one : ∀ d, d < 10 → isDig (UInt8.ofNat (48 + d)) ∧ (UInt8.ofNat (48 + d)).toNat - 48 = d := by
      intro d hd
      have : (UInt8.ofNat (48 + d)).toNat = 48 + d := by simp; omega
      exact ⟨by unfold isDig; omega, by omega⟩
    split
    · rename_i h
      obtain ⟨h1, h2⟩ := one u h
      refine ⟨by simpa using h1, ?_, by simp⟩
      rw [valN_cons, valN_nil, h2]; omega
    · rename_i h
      obtain ⟨i1, i2, _⟩ := ih (u / 10) (by omega)
      obtain ⟨h1, h2⟩ := one (u % 10) (by omega)
      refine ⟨fun c hc => ?_, ?_, by simp⟩
      · rcases List.mem_append.1 hc with hc | hc
        · exact i1 c hc
        · rw [List.mem_singleton] at hc; rw [hc]; exact h1
      · unfold valN at i2 ⊢
        rw [List.foldl_append, i2]
        simp only [List.foldl_cons, List.foldl_nil]
        rw [h2]; omega
theorem dec_mag (u : Nat) (h : u ≤ 1073741824) : refMag 0 (Lib.decDigits u) = some (u : Int) := by
  obtain ⟨h1, h2, _⟩ := dec_dig u
  have := refMag_good (Lib.decDigits u) 0 h1
  rw [h2] at this
  rw [show (min ((0 : Nat) : Int) 2147483648) = 0 from by omega] at this
  rw [this]
  congr 1
  omega
/-- Numbers there and back. -/
theorem number_value (n : Int) (h0 : -1073741824 ≤ n) (h1 : n ≤ 1073741824) : numberL (valueL n) = n := by
  have hc : cutI n = n := by unfold cutI; omega
  unfold valueL
  rw [number_eq, hc]
  unfold refNumberL Lib.itoa
  split
  · rw [List.head?_cons, if_pos rfl, List.tail_cons, dec_mag _ (by omega), refEnd_neg (by omega)]
    omega
  · have hh : ¬ (Lib.decDigits n.toNat).head? = some 45 := by
      obtain ⟨d1, _, d3⟩ := dec_dig n.toNat
      intro e
      have := d1 45 (List.mem_of_head? e)
      unfold isDig at this
      revert this; decide
    rw [if_neg hh, dec_mag _ (by omega), refEnd_pos (by omega)]
    omega
end Go.Proofs.YtngahblgicjoiaaGreatDoor
