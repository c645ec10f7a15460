/- watershedref02: Get: the number that bytes begin with. -/
import Derived.Test.YtdmejbjpbjcfbaaGreatDoorRefW
namespace Go.Proofs.YtdmejbjpbjcfbaaGreatDoor
open Go.RowKit

theorem numGo_top {most : Nat} (hm : most ≤ topN) : ∀ (f k n : Nat) (l : List UInt8), numGo most f k n l = match numGo topN f k n l with | some (x, r) => if most < x then none else some (x, r) | none => none
  | 0, _, _, _ => by simp [numGo]
  | _ + 1, _, _, [] => by simp [numGo]
  | f + 1, k, n, b :: l => by
    rw [numGo, numGo]
    by_cases h : b.toNat < 128
    · rw [if_pos h, if_pos h]
      by_cases h2 : (0 < k ∧ b.toNat = 0) ∨ topN < n + b.toNat * 2 ^ (7 * k) ∨ topN < n + b.toNat * 2 ^ (7 * k)
      · rw [if_pos h2, if_pos (by omega)]
      · rw [if_neg h2]
        by_cases h3 : most < n + b.toNat * 2 ^ (7 * k)
        · rw [if_pos (by omega)]; simp only [if_pos h3]
        · rw [if_neg (by omega)]; simp only [if_neg h3]
    · rw [if_neg h, if_neg h]
      exact numGo_top hm f (k + 1) _ l
/-- What Get tells of what is left. -/
def getT (l0 : Nat) : Option (Nat × List UInt8) → Nat × Nat
  | some (n, r) => (n, l0 - r.length)
  | none => (0, 0)
def getN (l : List UInt8) : Nat × Nat := getT l.length (numGo topN 9 0 0 l)
set_option maxRecDepth 100000 in
set_option maxHeartbeats 1600000 in
theorem get_calls (l : List UInt8) (ao : Option Addr) (cap : Nat) (w : World) (hr : Rows 1 encU8 w.heap.size w ao l) (hl : l.length ≤ maxLen) : Calls Tryz.prog 138 #[.slice ao l.length cap] w fun e w' => e = .returned (.tuple #[.int .i64 (getN l).1, .int .i64 (getN l).2]) ∧ w = w' := by
  have HR := Lib.hid hr
  unfold maxLen at hl
  clear hr
  go_enter Tryz.func138, Tryz.ntmps138
  go_wp2_with fail
  go_loopw [4, 5] (fun vn vi wr => ∃ (k n : Nat), vn = .int .i64 n ∧ vi = .int .i64 k ∧ k ≤ 9 ∧ k ≤ l.length ∧ n < 2 ^ (7 * k) ∧ numGo topN 9 0 0 l = numGo topN (9 - k) k n (l.drop k) ∧ wr = w) (fun _ vi _ => 9 - (intOf vi).toNat)
  case atStart => exact ⟨0, 0, rfl, rfl, by omega, by omega, by simp, rfl, rfl⟩
  case round =>
    obtain ⟨k, n, rfl, rfl, hk, hkl, hn, hg, rfl⟩ := hrel
    have G1 := Lib.hid hg; have N1 := Lib.hid hn
    clear hg hn
    by_cases hlt : k < l.length
    · have t1 : decide ((k : Int) < (l.length : Int)) = true := by simp; omega
      by_cases h9 : k < 9
      · have t2 : decide ((k : Int) < 9) = true := by simp; omega
        obtain ⟨b, hb⟩ : ∃ b, l[k]? = some b := ⟨_, List.getElem?_eq_getElem hlt⟩
        obtain ⟨bb, off, rfl, hbb, hcell⟩ := HR.out (by intro e; rw [e] at hlt; simp at hlt)
        have hcx := hcell k b hb 0 _ rfl
        simp only [Nat.add_zero, Nat.mul_one] at hcx
        have hdr : l.drop k = b :: l.drop (k + 1) := by
          rw [List.drop_eq_getElem_cons hlt]
          congr 1
          rw [List.getElem?_eq_getElem hlt] at hb
          exact Option.some.inj hb
        obtain ⟨f, hf⟩ : ∃ f, 9 - k = f + 1 := ⟨8 - k, by omega⟩
        have hgo := G1.out
        rw [hf, hdr, numGo] at hgo
        obtain ⟨m, hm⟩ : ∃ m, m = n + b.toNat % 128 * 2 ^ (7 * k) := ⟨_, rfl⟩
        have hor := or_byte n k b (by omega) N1.out
        rw [← hm] at hor hgo
        have hm2 : m < 2 ^ (7 * (k + 1)) := by
          have hb : b.toNat % 128 ≤ 127 := by omega
          have := Nat.mul_le_mul_right (2 ^ (7 * k)) hb
          have hn := N1.out
          rw [show 7 * (k + 1) = 7 * k + 7 from by omega, Nat.pow_add]
          omega
        have hm3 : m < 9223372036854775808 := Nat.lt_of_lt_of_le hm2 (Nat.le_trans (Nat.pow_le_pow_right (by omega) (by omega : 7 * (k + 1) ≤ 63)) (by decide))
        have GO := Lib.hid hgo; have FF := Lib.hid hf; have M2 := Lib.hid hm2; have MM := Lib.hid hm
        clear hgo hf hm2 hm G1 hdr hcell hb
        have i0 : (0 : Int) ≤ (k : Int) := by omega
        have i1 : (k : Int) < (l.length : Int) := by omega
        have key : (¬ b.toNat < 128) ∨ (b.toNat < 128 ∧ 0 < k ∧ b.toNat = 0) ∨ (b.toNat < 128 ∧ ¬ (0 < k ∧ b.toNat = 0) ∧ 4611686018427387903 < m) ∨ (b.toNat < 128 ∧ ¬ (0 < k ∧ b.toNat = 0) ∧ m ≤ 4611686018427387903) := by omega
        rcases key with h | ⟨h, h4, h5⟩ | ⟨h, h4, h5⟩ | ⟨h, h4, h5⟩
        · have t3 : decide ((b.toNat : Int) < 128) = false := by simp; omega
          go_wp2_with fail
          go_roundw
          case rel =>
            refine ⟨k + 1, m, rfl, by go_num, by omega, by omega, M2.out, ?_, trivial⟩
            have := GO.out
            rw [if_neg h] at this
            rw [this]
            congr 1
            have := FF.out; omega
          case measure => simp [intOf]; omega
        · have t3 : decide ((b.toNat : Int) < 128) = true := by simp; omega
          have t4 : decide (0 < k) = true := by simp; omega
          have t5 : ((b.toNat : Int) == 0) = true := by simp; omega
          have H45 := Lib.hid (And.intro h4 h5); clear h4 h5
          go_wp2_with fail
          go_ret2
          have hz : getN l = (0, 0) := by
            have := GO.out
            rw [if_pos h, if_pos (.inl H45.out)] at this
            rw [getN, this]; rfl
          rw [hz]
          exact ⟨rfl, rfl⟩
        · have t3 : decide ((b.toNat : Int) < 128) = true := by simp; omega
          have t6 : decide ((4611686018427387903 : Int) < (m : Int)) = true := by simp; omega
          have hbad : topN < n + b.toNat * 2 ^ (7 * k) := by
            have := MM.out; rw [Nat.mod_eq_of_lt h] at this; unfold topN; omega
          have HB := Lib.hid hbad; clear hbad
          have hkb : ¬ 0 < k ∨ (0 < k ∧ b.toNat ≠ 0) := by omega
          clear h4
          rcases hkb with hkb | ⟨hkb, hb0⟩
          case' inl => have t4 : decide (0 < k) = false := by simp; omega
          case' inr =>
            have t4 : decide (0 < k) = true := by simp; omega
            have t5 : ((b.toNat : Int) == 0) = false := by simp; omega
          all_goals
            go_wp2_with fail
            go_ret2
            have hz : getN l = (0, 0) := by
              have := GO.out
              rw [if_pos h, if_pos (.inr (.inl HB.out))] at this
              rw [getN, this]; rfl
            rw [hz]
            exact ⟨rfl, rfl⟩
        · have t3 : decide ((b.toNat : Int) < 128) = true := by simp; omega
          have t6 : decide ((4611686018427387903 : Int) < (m : Int)) = false := by simp; omega
          have t7 : decide ((m : Int) < 0) = false := by simp
          have hgood : ¬ ((0 < k ∧ b.toNat = 0) ∨ topN < n + b.toNat * 2 ^ (7 * k) ∨ topN < n + b.toNat * 2 ^ (7 * k)) ∧ n + b.toNat * 2 ^ (7 * k) = m := by
            have := MM.out; rw [Nat.mod_eq_of_lt h] at this; unfold topN; omega
          have HB := Lib.hid hgood; clear hgood
          have hkb : ¬ 0 < k ∨ (0 < k ∧ b.toNat ≠ 0) := by omega
          clear h4
          rcases hkb with hkb | ⟨hkb, hb0⟩
          case' inl => have t4 : decide (0 < k) = false := by simp; omega
          case' inr =>
            have t4 : decide (0 < k) = true := by simp; omega
            have t5 : ((b.toNat : Int) == 0) = false := by simp; omega
          all_goals
            go_wp2_with fail
            go_ret2
            have hz : getN l = (m, k + 1) := by
              have := GO.out
              rw [if_pos h, if_neg HB.out.1, HB.out.2] at this
              rw [getN, this, getT, List.length_drop]
              congr 1
              omega
            rw [hz]
            exact ⟨rfl, rfl⟩
      · have t2 : decide ((k : Int) < 9) = false := by simp; omega
        go_wp2_with fail
        go_ret2
        have hk9 : 9 - k = 0 := by omega
        have := G1.out
        rw [hk9, numGo] at this
        rw [getN, this]
        exact ⟨rfl, rfl⟩
    · have t1 : decide ((k : Int) < (l.length : Int)) = false := by simp; omega
      go_wp2_with fail
      go_ret2
      have hd : l.drop k = [] := List.drop_eq_nil_of_le (by omega)
      have := G1.out
      rw [hd] at this
      have hz : ∀ f, numGo topN f k n [] = none := by intro f; cases f <;> rfl
      rw [hz] at this
      rw [getN, this]
      exact ⟨rfl, rfl⟩
/-- The document's reader: its block, what is left. -/
structure RRdr (w : World) (B rb : Nat) (ao : Option Addr) (cap : Nat) (s : RSt) : Prop where
  blk : Blk w rb [.slice ao s.l.length cap, .bool s.fl] 64
  old : rb < B
  fit : s.l.length ≤ cap
  max : cap ≤ maxLen
  row : NRows 1 encU8 (fun b => b = rb ∨ B ≤ b) w ao s.l
def RRPost (B rb : Nat) (s : RSt) (w w' : World) : Prop := (∃ ao cap, RRdr w' B rb ao cap s) ∧ But (fun j => j = rb) w w'
set_option maxRecDepth 100000 in
theorem rfail_calls (B rb cap : Nat) (ao : Option Addr) (s : RSt) (w : World) (T : RRdr w B rb ao cap s) : Calls Tryz.prog 139 #[.pointer (some ⟨rb, 0, none⟩)] w fun e w' => e = .returned (.tuple #[]) ∧ RRPost B rb .dead w w' := by
  have HT := Lib.hid T
  have f1 := T.blk.free 1; have f0 := T.blk.free 0
  have c1 := T.blk.cell 1; have c0 := T.blk.cell 0
  simp only [List.getElem?_cons_zero, List.getElem?_cons_succ] at c1 c0
  clear T
  go_enter Tryz.func139, Tryz.ntmps139
  go_wp2_with fail
  go_end0
  exact ⟨rfl, ⟨none, 0, (HT.out.blk.set 1 (.bool true)).set 0 (.slice none 0 0), HT.out.old, Nat.le_refl _, by simp [maxLen], fun h => absurd rfl h⟩, ((But.refl (fun j => j = rb) w).here rfl _ _).here rfl _ _⟩
end Go.Proofs.YtdmejbjpbjcfbaaGreatDoor
