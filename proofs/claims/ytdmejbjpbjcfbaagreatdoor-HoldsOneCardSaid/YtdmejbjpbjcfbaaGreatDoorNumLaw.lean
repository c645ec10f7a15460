/- The program's number of a text is the reference's: plain lists and integers, no program. -/
import Derived.Test.YtdmejbjpbjcfbaaGreatDoorNumDefs
import Derived.Lib.AtoiAllCases
namespace Go.Proofs.YtdmejbjpbjcfbaaGreatDoor

def valN (a : Nat) (l : List UInt8) : Nat := l.foldl (fun x c => x * 10 + (c.toNat - 48)) a
def isDig (c : UInt8) : Prop := 48 ≤ c.toNat ∧ c.toNat ≤ 57
theorem valN_cons (a : Nat) (c : UInt8) (r : List UInt8) : valN a (c :: r) = valN (a * 10 + (c.toNat - 48)) r := by unfold valN; rw [List.foldl_cons]
theorem valN_nil (a : Nat) : valN a [] = a := by unfold valN; rw [List.foldl_nil]
theorem valN_ge (l : List UInt8) : ∀ a : Nat, a ≤ valN a l := by
  induction l with
  | nil => intro a; rw [valN_nil]; exact Nat.le_refl _
  | cons c r ih =>
    intro a
    rw [valN_cons]
    exact Nat.le_trans (by omega) (ih _)

theorem refMag_bad : ∀ (l : List UInt8) (m : Int), (∃ c ∈ l, ¬ isDig c) → refMag m l = none
  | [], m, h => by simp at h
  | c :: r, m, h => by
    unfold refMag
    split
    · rfl
    · rename_i hc
      refine refMag_bad r _ ?_
      obtain ⟨x, hx, hd⟩ := h
      rcases List.mem_cons.1 hx with rfl | hx
      · exact absurd (show isDig x from ⟨by omega, by omega⟩) hd
      · exact ⟨x, hx, hd⟩
theorem refMag_good : ∀ (l : List UInt8) (a : Nat), (∀ c ∈ l, isDig c) → refMag (min (a : Int) 2147483648) l = some (min (valN a l : Int) 2147483648)
  | [], a, _ => by rw [valN_nil]; rfl
  | c :: r, a, h => by
    have hc : isDig c := h c (by simp)
    unfold isDig at hc
    have := refMag_good r (a * 10 + (c.toNat - 48)) fun x hx => h x (by simp [hx])
    rw [valN_cons]
    unfold refMag
    rw [if_neg (by omega), ← this]
    congr 1
    omega
theorem parse_good : ∀ (l : List UInt8) (a : Nat), (∀ c ∈ l, isDig c) → a < 18446744073709551616 → Lib.parseUint10 a l = .ok (valN a l) ∨ (Lib.parseUint10 a l = .range ∧ 18446744073709551616 ≤ valN a l)
  | [], a, _, _ => .inl (by rw [valN_nil]; rfl)
  | c :: r, a, h, ha => by
    have hc : isDig c := h c (by simp)
    unfold isDig at hc
    have hge := valN_ge r (a * 10 + (c.toNat - 48))
    rw [valN_cons]
    unfold Lib.parseUint10
    rw [if_pos hc]
    split
    · right; exact ⟨rfl, by omega⟩
    · split
      · right; exact ⟨rfl, by omega⟩
      · exact parse_good r _ (fun x hx => h x (by simp [hx])) (by omega)

theorem dropWhile_nil {l : List UInt8} {p : UInt8 → Bool} : l.dropWhile p = [] ↔ ∀ c ∈ l, p c = true := by
  induction l with
  | nil => simp
  | cons a l ih =>
    rw [List.dropWhile_cons]
    split
    · rename_i h; simp [ih, h]
    · rename_i h; simp [h]
theorem trim_nil (l cs : List UInt8) : Lib.trimS l cs = [] ↔ ∀ c ∈ l, c ∈ cs := by
  unfold Lib.trimS Lib.trimLeftS Lib.trimRightS
  constructor
  · intro h
    have h1 := dropWhile_nil.1 h
    by_cases he : l.reverse.dropWhile (cs.contains ·) = []
    · have := dropWhile_nil.1 he
      intro c hc
      simpa using this c (by simpa using hc)
    · exfalso
      obtain ⟨x, hx⟩ : ∃ x, (l.reverse.dropWhile (cs.contains ·)).head? = some x := by
        cases hd : l.reverse.dropWhile (cs.contains ·) with
        | nil => exact absurd hd he
        | cons x r => exact ⟨x, rfl⟩
      have h2 := h1 x (List.mem_reverse.2 (List.mem_of_head? hx))
      have h3 := List.head?_dropWhile_not (cs.contains ·) l.reverse
      rw [hx] at h3
      simp_all
  · intro h
    have : l.reverse.dropWhile (cs.contains ·) = [] := dropWhile_nil.2 fun c hc => by simpa using h c (by simpa using hc)
    rw [this]; rfl
theorem mem_digits (c : UInt8) : c ∈ digitsL ↔ isDig c := by
  unfold digitsL isDig
  constructor
  · intro h
    simp at h
    rcases h with rfl | rfl | rfl | rfl | rfl | rfl | rfl | rfl | rfl | rfl <;> decide
  · rintro ⟨h1, h2⟩
    have : c = UInt8.ofNat c.toNat := by simp
    rw [this]
    generalize c.toNat = n at *
    have hn : n = 48 ∨ n = 49 ∨ n = 50 ∨ n = 51 ∨ n = 52 ∨ n = 53 ∨ n = 54 ∨ n = 55 ∨ n = 56 ∨ n = 57 := by omega
    rcases hn with rfl | rfl | rfl | rfl | rfl | rfl | rfl | rfl | rfl | rfl <;> decide
theorem trimPrefix_minus (l : List UInt8) : Lib.trimPrefix l [45] = if l.head? = some 45 then l.tail else l := by
  unfold Lib.trimPrefix Lib.hasPrefix
  cases l with
  | nil => rfl
  | cons a r =>
    by_cases h : a = 45
    · simp [h]
    · have : ¬ 45 = a := fun e => h e.symm
      simp [h, this]

/-- The magnitude behind the sign: how Atoi ends, in the reference's terms. -/
theorem mag_eq (d : List UInt8) (hne : d ≠ []) (h : ∀ c ∈ d, isDig c) : (Lib.parseMag d = .ok (valN 0 d) ∨ (Lib.parseMag d = .range ∧ 18446744073709551616 ≤ valN 0 d)) ∧ refMag 0 d = some (min (valN 0 d : Int) 2147483648) := by
  constructor
  · have := parse_good d 0 h (by decide)
    unfold Lib.parseMag
    rw [if_neg hne]
    exact this
  · exact refMag_good d 0 h

/-- P14.4: a text stands for the same number. -/
theorem number_eq (l : List UInt8) : numberL l = refNumberL l := by
  unfold numberL refNumberL
  rw [trimPrefix_minus]
  by_cases hs : l.head? = some 45
  · rw [if_pos hs, if_pos hs]
    obtain ⟨r, rfl⟩ : ∃ r, l = 45 :: r := by
      cases l with
      | nil => simp at hs
      | cons a r => simp at hs; exact ⟨r, by rw [hs]⟩
    rw [List.tail_cons]
    by_cases hr : r = []
    · subst hr; decide
    rw [if_neg hr]
    by_cases hd : ∀ c ∈ r, isDig c
    · rw [if_pos ((trim_nil _ _).2 fun c hc => (mem_digits c).2 (hd c hc))]
      obtain ⟨h1, h2⟩ := mag_eq r hr hd
      rw [h2]
      rw [Lib.atoiAll_minus]
      rcases h1 with h1 | ⟨h1, h3⟩
      · rw [h1]
        generalize valN 0 r = v
        by_cases hb : v ≤ 1073741824
        · unfold Lib.signed
          simp only [refEnd]
          rw [if_neg (by omega), if_neg (by omega)]
          simp only
          rw [if_pos (by unfold cutI; omega)]
          simp; omega
        · rw [refEnd_big (by omega)]
          unfold Lib.signed
          by_cases hbig : 9223372036854775808 < v
          · simp only [hbig, if_true]
          · simp only [hbig, if_false]
            rw [if_neg (by unfold cutI; omega)]
      · rw [h1, refEnd_big (by omega)]
        rfl
    · rw [if_neg (fun h => hd fun c hc => (mem_digits c).1 ((trim_nil _ _).1 h c hc)), refMag_bad r 0 (by simpa using hd)]
      rfl
  · rw [if_neg hs, if_neg hs]
    by_cases hr : l = []
    · subst hr; decide
    rw [if_neg hr]
    by_cases hd : ∀ c ∈ l, isDig c
    · rw [if_pos ((trim_nil _ _).2 fun c hc => (mem_digits c).2 (hd c hc))]
      obtain ⟨h1, h2⟩ := mag_eq l hr hd
      rw [h2]
      obtain ⟨a, q, rfl⟩ : ∃ a q, l = a :: q := by
        cases l with
        | nil => exact absurd rfl hr
        | cons a r => exact ⟨a, r, rfl⟩
      have hda := hd a (by simp)
      unfold isDig at hda
      rw [Lib.atoiAll_plain a q (by omega) (by omega)]
      rcases h1 with h1 | ⟨h1, h3⟩
      · rw [h1]
        generalize valN 0 (a :: q) = v
        by_cases hb : v ≤ 1073741824
        · unfold Lib.signless
          simp only [refEnd]
          rw [if_neg (by omega), if_neg (by omega)]
          simp only
          rw [if_pos (by unfold cutI; omega)]
          simp; omega
        · rw [refEnd_big (by omega)]
          unfold Lib.signless
          by_cases hbig : 9223372036854775808 ≤ v
          · simp only [hbig, if_true]
          · simp only [hbig, if_false]
            rw [if_neg (by unfold cutI; omega)]
      · rw [h1, refEnd_big (by omega)]
        rfl
    · rw [if_neg (fun h => hd fun c hc => (mem_digits c).1 ((trim_nil _ _).1 h c hc)), refMag_bad l 0 (by simpa using hd)]
      rfl
end Go.Proofs.YtdmejbjpbjcfbaaGreatDoor
