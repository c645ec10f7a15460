/- watershedref02: Get: the number that bytes begin with. -/
import Derived.Test.YtdmejbjpbjcfbaaGreatDoorRefWs
import Derived.Deep.DeepMust
import Derived.Test.YtdmejbjpbjcfbaaGreatDoorHoldR
import Derived.Test.YtdmejbjpbjcfbaaGreatDoorRefOnes
import Derived.Test.YtdmejbjpbjcfbaaGreatDoorFirstN
import Derived.Deep.CutRange
import Derived.Deep.DeepCutAuto
namespace Go.Proofs.YtdmejbjpbjcfbaaGreatDoor
open Go.RowKit
theorem numGo_top {most : Nat} (hm : most ≤ topN) : ∀ (f k n : Nat) (l : List UInt8), numGo most f k n l = match numGo topN f k n l with | some (x, r) => if most < x then none else some (x, r) | none => none
  | 0, _, _, _ => by simp [numGo]
  | _ + 1, _, _, [] => by simp [numGo]
  | f + 1, k, n, b :: l => by
    rw [numGo, numGo]
    by_cases h : b.toNat < 128
    · rw [if_pos h, if_pos h]
      by_cases h2 : (0 < k ∧ b.toNat = 0) ∨ topN < n + b.toNat * 2 ^ (7 * k) ∨ topN < n + b.toNat * 2 ^ (7 * k)
      · rw [if_pos h2, if_pos (by omega)]
      · rw [if_neg h2]
        by_cases h3 : most < n + b.toNat * 2 ^ (7 * k)
        · rw [if_pos (by omega)]; simp only [if_pos h3]
        · rw [if_neg (by omega)]; simp only [if_neg h3]
    · rw [if_neg h, if_neg h]
      exact numGo_top hm f (k + 1) _ l
def getT (l0 : Nat) : Option (Nat × List UInt8) → Nat × Nat
  | some (n, r) => (n, l0 - r.length)
  | none => (0, 0)
def getN (l : List UInt8) : Nat × Nat := getT l.length (numGo topN 9 0 0 l)
set_option maxRecDepth 100000 in
set_option maxHeartbeats 1600000 in
theorem get_calls (l : List UInt8) (ao : Option Addr) (cap : Nat) (w : World) (hr : Rows 1 encU8 w.heap.size w ao l) (hl : l.length ≤ maxLen) : Calls Tryz.prog 138 #[.slice ao l.length cap] w fun e w' => e = .returned (.tuple #[.int .i64 (getN l).1, .int .i64 (getN l).2]) ∧ w = w' := by
  have HR := Lib.hid hr
  unfold maxLen at hl
  clear hr
  go_enter Tryz.func138, Tryz.ntmps138
  go_wp2_with fail
  go_loopw [4, 5] (fun vn vi wr => ∃ (k n : Nat), vn = .int .i64 n ∧ vi = .int .i64 k ∧ k ≤ 9 ∧ k ≤ l.length ∧ n < 2 ^ (7 * k) ∧ numGo topN 9 0 0 l = numGo topN (9 - k) k n (l.drop k) ∧ wr = w) (fun _ vi _ => 9 - (intOf vi).toNat)
  case atStart => exact ⟨0, 0, rfl, rfl, by omega, by omega, by simp, rfl, rfl⟩
  case round =>
    obtain ⟨k, n, rfl, rfl, hk, hkl, hn, hg, rfl⟩ := hrel
    have G1 := Lib.hid hg; have N1 := Lib.hid hn
    clear hg hn
    by_cases hlt : k < l.length
    · have t1 : decide ((k : Int) < (l.length : Int)) = true := by simp; omega
      by_cases h9 : k < 9
      · have t2 : decide ((k : Int) < 9) = true := by simp; omega
        obtain ⟨b, hb⟩ : ∃ b, l[k]? = some b := ⟨_, List.getElem?_eq_getElem hlt⟩
        obtain ⟨bb, off, rfl, hbb, hcell⟩ := HR.out (by intro e; rw [e] at hlt; simp at hlt)
        have hcx := hcell k b hb 0 _ rfl
        simp only [Nat.add_zero, Nat.mul_one] at hcx
        have hdr : l.drop k = b :: l.drop (k + 1) := by
          rw [List.drop_eq_getElem_cons hlt]
          congr 1
          rw [List.getElem?_eq_getElem hlt] at hb
          exact Option.some.inj hb
        obtain ⟨f, hf⟩ : ∃ f, 9 - k = f + 1 := ⟨8 - k, by omega⟩
        have hgo := G1.out
        rw [hf, hdr, numGo] at hgo
        obtain ⟨m, hm⟩ : ∃ m, m = n + b.toNat % 128 * 2 ^ (7 * k) := ⟨_, rfl⟩
        have hor := or_byte n k b (by omega) N1.out
        rw [← hm] at hor hgo
        have hm2 : m < 2 ^ (7 * (k + 1)) := by
          have hb : b.toNat % 128 ≤ 127 := by omega
          have := Nat.mul_le_mul_right (2 ^ (7 * k)) hb
          have hn := N1.out
          rw [show 7 * (k + 1) = 7 * k + 7 from by omega, Nat.pow_add]
          omega
        have hm3 : m < 9223372036854775808 := Nat.lt_of_lt_of_le hm2 (Nat.le_trans (Nat.pow_le_pow_right (by omega) (by omega : 7 * (k + 1) ≤ 63)) (by decide))
        have GO := Lib.hid hgo; have FF := Lib.hid hf; have M2 := Lib.hid hm2; have MM := Lib.hid hm
        clear hgo hf hm2 hm G1 hdr hcell hb
        have i0 : (0 : Int) ≤ (k : Int) := by omega
        have i1 : (k : Int) < (l.length : Int) := by omega
        have key : (¬ b.toNat < 128) ∨ (b.toNat < 128 ∧ 0 < k ∧ b.toNat = 0) ∨ (b.toNat < 128 ∧ ¬ (0 < k ∧ b.toNat = 0) ∧ 4611686018427387903 < m) ∨ (b.toNat < 128 ∧ ¬ (0 < k ∧ b.toNat = 0) ∧ m ≤ 4611686018427387903) := by omega
        rcases key with h | ⟨h, h4, h5⟩ | ⟨h, h4, h5⟩ | ⟨h, h4, h5⟩
        · have t3 : decide ((b.toNat : Int) < 128) = false := by simp; omega
          go_wp2_with fail
          go_roundw
          case rel =>
            refine ⟨k + 1, m, rfl, by go_num, by omega, by omega, M2.out, ?_, trivial⟩
            have := GO.out
            rw [if_neg h] at this
            rw [this]
            congr 1
            have := FF.out; omega
          case measure => simp [intOf]; omega
        · have t3 : decide ((b.toNat : Int) < 128) = true := by simp; omega
          have t4 : decide (0 < k) = true := by simp; omega
          have t5 : ((b.toNat : Int) == 0) = true := by simp; omega
          have H45 := Lib.hid (And.intro h4 h5); clear h4 h5
          go_wp2_with fail
          go_ret2
          have hz : getN l = (0, 0) := by
            have := GO.out
            rw [if_pos h, if_pos (.inl H45.out)] at this
            rw [getN, this]; rfl
          rw [hz]
          exact ⟨rfl, rfl⟩
        · have t3 : decide ((b.toNat : Int) < 128) = true := by simp; omega
          have t6 : decide ((4611686018427387903 : Int) < (m : Int)) = true := by simp; omega
          have hbad : topN < n + b.toNat * 2 ^ (7 * k) := by
            have := MM.out; rw [Nat.mod_eq_of_lt h] at this; unfold topN; omega
          have HB := Lib.hid hbad; clear hbad
          have hkb : ¬ 0 < k ∨ (0 < k ∧ b.toNat ≠ 0) := by omega
          clear h4
          rcases hkb with hkb | ⟨hkb, hb0⟩
          case' inl => have t4 : decide (0 < k) = false := by simp; omega
          case' inr =>
            have t4 : decide (0 < k) = true := by simp; omega
            have t5 : ((b.toNat : Int) == 0) = false := by simp; omega
          all_goals
            go_wp2_with fail
            go_ret2
            have hz : getN l = (0, 0) := by
              have := GO.out
              rw [if_pos h, if_pos (.inr (.inl HB.out))] at this
              rw [getN, this]; rfl
            rw [hz]
            exact ⟨rfl, rfl⟩
        · have t3 : decide ((b.toNat : Int) < 128) = true := by simp; omega
          have t6 : decide ((4611686018427387903 : Int) < (m : Int)) = false := by simp; omega
          have t7 : decide ((m : Int) < 0) = false := by simp
          have hgood : ¬ ((0 < k ∧ b.toNat = 0) ∨ topN < n + b.toNat * 2 ^ (7 * k) ∨ topN < n + b.toNat * 2 ^ (7 * k)) ∧ n + b.toNat * 2 ^ (7 * k) = m := by
            have := MM.out; rw [Nat.mod_eq_of_lt h] at this; unfold topN; omega
          have HB := Lib.hid hgood; clear hgood
          have hkb : ¬ 0 < k ∨ (0 < k ∧ b.toNat ≠ 0) := by omega
          clear h4
          rcases hkb with hkb | ⟨hkb, hb0⟩
          case' inl => have t4 : decide (0 < k) = false := by simp; omega
          case' inr =>
            have t4 : decide (0 < k) = true := by simp; omega
            have t5 : ((b.toNat : Int) == 0) = false := by simp; omega
          all_goals
            go_wp2_with fail
            go_ret2
            have hz : getN l = (m, k + 1) := by
              have := GO.out
              rw [if_pos h, if_neg HB.out.1, HB.out.2] at this
              rw [getN, this, getT, List.length_drop]
              congr 1
              omega
            rw [hz]
            exact ⟨rfl, rfl⟩
      · have t2 : decide ((k : Int) < 9) = false := by simp; omega
        go_wp2_with fail
        go_ret2
        have hk9 : 9 - k = 0 := by omega
        have := G1.out
        rw [hk9, numGo] at this
        rw [getN, this]
        exact ⟨rfl, rfl⟩
    · have t1 : decide ((k : Int) < (l.length : Int)) = false := by simp; omega
      go_wp2_with fail
      go_ret2
      have hd : l.drop k = [] := List.drop_eq_nil_of_le (by omega)
      have := G1.out
      rw [hd] at this
      have hz : ∀ f, numGo topN f k n [] = none := by intro f; cases f <;> rfl
      rw [hz] at this
      rw [getN, this]
      exact ⟨rfl, rfl⟩
structure RRdr (w : World) (B rb : Nat) (ao : Option Addr) (cap : Nat) (s : RSt) : Prop where
  blk : Blk w rb [.slice ao s.l.length cap, .bool s.fl] 64
  old : rb < B
  fit : s.l.length ≤ cap
  max : cap ≤ maxLen
  row : NRows 1 encU8 (fun b => b = rb ∨ B ≤ b) w ao s.l
def RRPost (B rb : Nat) (s : RSt) (w w' : World) : Prop := (∃ ao cap, RRdr w' B rb ao cap s) ∧ But (fun j => j = rb) w w'
set_option maxRecDepth 100000 in
theorem rfail_calls (B rb cap : Nat) (ao : Option Addr) (s : RSt) (w : World) (T : RRdr w B rb ao cap s) : Calls Tryz.prog 139 #[.pointer (some ⟨rb, 0, none⟩)] w fun e w' => e = .returned (.tuple #[]) ∧ RRPost B rb .dead w w' := by
  have HT := Lib.hid T
  have f1 := T.blk.free 1; have f0 := T.blk.free 0
  have c1 := T.blk.cell 1; have c0 := T.blk.cell 0
  simp only [List.getElem?_cons_zero, List.getElem?_cons_succ] at c1 c0
  clear T
  go_enter Tryz.func139, Tryz.ntmps139
  go_wp2_with fail
  go_end0
  exact ⟨rfl, ⟨none, 0, (HT.out.blk.set 1 (.bool true)).set 0 (.slice none 0 0), HT.out.old, Nat.le_refl _, by simp [maxLen], fun h => absurd rfl h⟩, ((But.refl (fun j => j = rb) w).here rfl _ _).here rfl _ _⟩
theorem RRdr.left {w : World} {B rb cap : Nat} {ao lo : Option Addr} {s : RSt} (T : RRdr w B rb ao cap s) (n : Nat) (h : n ≤ s.l.length) (hlo : n < s.l.length → ∀ b off, ao = some ⟨b, off, none⟩ → lo = some ⟨b, off + n, none⟩) :
    RRdr (w.setCell ⟨rb, 0, none⟩ (.slice lo (s.l.length - n) (cap - n))) B rb lo (cap - n) ⟨s.fl, s.l.drop n⟩ := by
  have hbut : But (fun j => j = rb) w (w.setCell ⟨rb, 0, none⟩ (.slice lo (s.l.length - n) (cap - n))) := (But.refl (fun j => j = rb) w).here rfl _ _
  have hfit := T.fit; have hmx := T.max
  refine ⟨?_, T.old, ?_, ?_, fun hne => ?_⟩
  · have := T.blk.set 0 (.slice lo (s.l.length - n) (cap - n))
    simpa using this
  · simp only [List.length_drop]; omega
  · unfold maxLen at *; omega
  · have hlt : n < s.l.length := by
      have := List.length_pos_iff.2 hne
      simp only [List.length_drop] at this
      omega
    obtain ⟨b, off, rfl, hb, hno, hc⟩ := T.row (fun e => by rw [e] at hlt; simp at hlt)
    refine ⟨b, off + n, hlo hlt b off rfl, Nat.lt_of_lt_of_le hb hbut.size, hno, fun i x hi j v hj => ?_⟩
    rw [List.getElem?_drop] at hi
    have := hc (n + i) x hi j v hj
    rw [show off + n + i * 1 + j = off + (n + i) * 1 + j from by omega]
    exact (hbut.cell (p := ⟨b, _, none⟩) hb (fun e => hno (.inl e))).trans this
theorem numGo_suf {most : Nat} : ∀ (f k n : Nat) (l : List UInt8) (x : Nat) (r : List UInt8), numGo most f k n l = some (x, r) → ∃ p, l = p ++ r
  | 0, _, _, _, _, _, h => by simp [numGo] at h
  | _ + 1, _, _, [], _, _, h => by simp [numGo] at h
  | f + 1, k, n, b :: l, x, r, h => by
    rw [numGo] at h
    split at h
    · split at h
      · cases h
      · simp only [Option.some.injEq, Prod.mk.injEq] at h
        obtain ⟨_, rfl⟩ := h
        exact ⟨[b], rfl⟩
    · obtain ⟨p, hp⟩ := numGo_suf f _ _ l x r h
      exact ⟨b :: p, by rw [hp]; rfl⟩
theorem numS_get (most : Nat) (hm : most ≤ topN) (l : List UInt8) : numS most ⟨false, l⟩ = if (getN l).2 = 0 ∨ most < (getN l).1 then (0, RSt.dead) else ((getN l).1, ⟨false, l.drop (getN l).2⟩) := by
  rw [numS, if_neg (by simp)]
  simp only
  rw [numGo_top hm, getN]
  cases h : numGo topN 9 0 0 l with
  | none => simp [getT]
  | some y =>
    obtain ⟨x, r⟩ := y
    have h1 := (numGo_le 9 0 0 l x r h).2
    obtain ⟨p, hp⟩ := numGo_suf 9 0 0 l x r h
    have hd : l.drop (l.length - r.length) = r := by
      have : l.length - r.length = p.length := by rw [hp, List.length_append]; omega
      rw [this, hp, List.drop_left]
    simp only [getT, hd]
    by_cases h2 : most < x
    · rw [if_pos h2, if_pos (.inr h2)]
    · rw [if_neg h2, if_neg (by omega)]
theorem getN_le (l : List UInt8) : (getN l).2 ≤ l.length := by
  rw [getN]
  cases numGo topN 9 0 0 l with
  | none => exact Nat.zero_le _
  | some y => exact Nat.sub_le _ _
set_option maxRecDepth 100000 in
set_option maxHeartbeats 1600000 in
theorem rnum_read (B rb cap : Nat) (ao : Option Addr) (s : RSt) (most : Nat) (w : World) (T : RRdr w B rb ao cap s) (hm : most ≤ 4611686018427387903) : Calls Tryz.prog 77 #[.pointer (some ⟨rb, 0, none⟩), .int .i64 most] w fun e w' => e = .returned (.int .i64 (numS most s).1) ∧ RRPost B rb (numS most s).2 w w' := by
  obtain ⟨fl, l⟩ := s
  have HT := Lib.hid T
  have c1 := T.blk.cell 1; have c0 := T.blk.cell 0; have f0 := T.blk.free 0
  simp only [List.getElem?_cons_zero, List.getElem?_cons_succ] at c1 c0
  cases fl with
  | true =>
    clear T
    go_enter Tryz.func77, Tryz.ntmps77
    go_wp2_with fail
    go_ret
    exact ⟨rfl, ⟨_, _, HT.out⟩, But.refl _ _⟩
  | false =>
    have hll : l.length ≤ maxLen := Nat.le_trans T.fit T.max
    clear T
    go_enter Tryz.func77, Tryz.ntmps77
    go_wp2_with fail
    refine (get_calls l ao cap w HT.out.row.rows hll).mono ?_
    rintro e w1 ⟨rfl, rfl⟩
    have hns := Lib.hid (numS_get most hm l)
    have hle := getN_le l
    have hfit := HT.out.fit
    obtain ⟨x, n, hg⟩ : ∃ x n, getN l = (x, n) := ⟨_, _, rfl⟩
    rw [hg] at hns hle ⊢
    clear hg
    simp only at hle hfit ⊢
    unfold maxLen at hll
    by_cases hbad : n = 0 ∨ most < x
    · have hb2 : n = 0 ∨ (¬ n = 0 ∧ most < x) := by omega
      have HB := Lib.hid hbad
      clear hbad
      rcases hb2 with rfl | ⟨h1, h2⟩
      case' inl => have t1 : True := trivial
      case' inr =>
        have t1 : ((n : Int) == 0) = false := by simp; omega
        have t2 : decide (most < x) = true := by simp; omega
      all_goals
        go_wp2_with fail
        refine (rfail_calls B rb cap ao _ w HT.out).mono ?_
        rintro e w2 ⟨rfl, hp⟩
        have P1 := Lib.hid hp
        clear hp
        go_wp2_with fail
        go_ret
        rw [hns.out, if_pos HB.out]
        exact ⟨rfl, P1.out⟩
    · have t1 : ((n : Int) == 0) = false := by simp; omega
      have t2 : decide (most < x) = false := by simp; omega
      obtain ⟨lo, hlo, hs2⟩ := slice_left elemU8 sizeU8 ao l.length cap n hle hfit
      have HLO := Lib.hid hlo
      have HB := Lib.hid hbad
      clear hlo hbad
      go_wp2_with fail
      go_ret
      rw [hns.out, if_neg HB.out]
      exact ⟨rfl, ⟨lo, cap - n, HT.out.left n hle HLO.out⟩, (But.refl (fun j => j = rb) w).here rfl _ _⟩
set_option maxRecDepth 100000 in
set_option maxHeartbeats 1600000 in
theorem rflag_read (B rb cap : Nat) (ao : Option Addr) (s : RSt) (w : World) (T : RRdr w B rb ao cap s) : Calls Tryz.prog 141 #[.pointer (some ⟨rb, 0, none⟩)] w fun e w' => e = .returned (.bool (flagS s).1) ∧ RRPost B rb (flagS s).2 w w' := by
  obtain ⟨fl, l⟩ := s
  have HT := Lib.hid T
  have c1 := T.blk.cell 1; have c0 := T.blk.cell 0; have f0 := T.blk.free 0
  simp only [List.getElem?_cons_zero, List.getElem?_cons_succ] at c1 c0
  have hfit := T.fit; have hmx := T.max
  unfold maxLen at hmx
  simp only at hfit
  cases fl with
  | true =>
    clear T
    go_enter Tryz.func141, Tryz.ntmps141
    go_wp2_with fail
    go_ret
    exact ⟨rfl, ⟨_, _, HT.out⟩, But.refl _ _⟩
  | false =>
    cases l with
    | nil =>
      clear T
      go_enter Tryz.func141, Tryz.ntmps141
      go_wp2_with fail
      refine (rfail_calls B rb cap ao _ w HT.out).mono ?_
      rintro e w2 ⟨rfl, hp⟩
      have P1 := Lib.hid hp
      clear hp
      go_wp2_with fail
      go_ret
      exact ⟨rfl, P1.out⟩
    | cons b r =>
      obtain ⟨bb, off, rfl, hb, hno, hcell⟩ := T.row (by simp)
      have cb := hcell 0 b (by simp) 0 _ rfl
      simp only [Nat.zero_mul, Nat.add_zero] at cb
      obtain ⟨m, hm⟩ : ∃ m, m = (b :: r).length := ⟨_, rfl⟩
      have hm1 : 1 ≤ m := by rw [hm]; simp
      obtain ⟨lo, hlo, hs1⟩ := slice_left elemU8 sizeU8 (some ⟨bb, off, none⟩) m cap 1 hm1 (by rw [hm]; exact hfit)
      have hs2 : ∀ W, (Instr.slice 46 (.slice (some ⟨bb, off, none⟩) m cap) (some (.int .i64 1)) none none).run Tryz.prog W = .ok (.slice lo (m - 1) (cap - 1)) W := hs1
      clear hs1
      rw [← hm] at c0 hfit
      have t0 : ((m : Int) == 0) = false := by simp; omega
      have i1 : (0 : Int) < (m : Int) := by omega
      have HLO := Lib.hid hlo; have HM := Lib.hid hm
      clear T hlo hcell hm
      go_enter Tryz.func141, Tryz.ntmps141
      by_cases hb1 : b.toNat ≤ 1
      · have t2 : decide ((1 : Int) < (b.toNat : Int)) = false := by simp; omega
        have HB := Lib.hid hb1; clear hb1
        go_wp2_with fail
        go_ret
        have : flagS ⟨false, b :: r⟩ = (decide (b.toNat = 1), ⟨false, r⟩) := by simp [flagS, HB.out]
        rw [this]
        have hl := HT.out.left 1 (by simp) (lo := lo) (fun h => HLO.out (by rw [HM.out]; exact h))
        rw [← HM.out] at hl
        exact ⟨by by_cases h : b.toNat = 1 <;> simp [h] <;> omega, ⟨lo, cap - 1, hl⟩, (But.refl (fun j => j = rb) w).here rfl _ _⟩
      · have t2 : decide ((1 : Int) < (b.toNat : Int)) = true := by simp; omega
        have HB := Lib.hid hb1; clear hb1
        go_wp2_with fail
        refine (rfail_calls B rb cap _ _ w HT.out).mono ?_
        rintro e w3 ⟨rfl, h1⟩
        have H4 := Lib.hid h1; clear h1
        go_wp2_with fail
        go_ret
        have : flagS ⟨false, b :: r⟩ = (false, RSt.dead) := by simp [flagS, HB.out]
        rw [this]
        exact ⟨rfl, H4.out⟩
theorem slice_hd {P : Program} {t : TypeId} (ht : P.underlying t = some (.slice (P.elem t))) (hz : ∀ W, (sizeOf (P.elem t)).run P W = .ok 1 W) (ao : Option Addr) (len cap n : Nat) (h : n ≤ len) (hc : len ≤ cap) :
    ∃ ao', (∀ b off, ao = some ⟨b, off, none⟩ → ao' = some ⟨b, off, none⟩) ∧ (ao = none → ao' = none) ∧ ∀ W, (Instr.slice t (.slice ao len cap) none (some (.int .i64 n)) none).run P W = .ok (.slice ao' n cap) W := by
  refine ⟨if cap = 0 then ao else ao.map (·.add (0 * 1)), fun b off e => ?_, fun e => by rw [e]; simp, fun W => ?_⟩
  · rw [e, Option.map_some, WideShapes.add_plain]; simp
  · rw [run_slice_h W t _ _ _ ht .i64 n (by omega) (by omega), hz W]
    simp only [Result.andThen_ok, sliced, Int.toNat_natCast, Nat.sub_zero]
set_option maxRecDepth 100000 in
set_option maxHeartbeats 1600000 in
theorem rrow_read (B rb cap : Nat) (ao : Option Addr) (s : RSt) (most : Nat) (w : World) (T : RRdr w B rb ao cap s) (hm : most ≤ 1000000) : Calls Tryz.prog 140 #[.pointer (some ⟨rb, 0, none⟩), .int .i64 most] w fun e w' => (∃ u, e = .returned u ∧ w'.ownsRow 0 5 1 u (rowS most s).1.length ((rowS most s).1.flatMap encU8) ∧ (∀ j, u.ownBlock = some j → w.heap.size ≤ j)) ∧ RRPost B rb (rowS most s).2 w w' := by
  obtain ⟨i0, hi, hz0, hz1, hz2⟩ := info_parts infoU8
  have HT := Lib.hid T
  have hrbw := T.blk.lt
  clear T
  have hle := numS_le most s
  go_enter Tryz.func140, Tryz.ntmps140
  go_wp2_with fail
  refine (rnum_read B rb cap ao s most w HT.out (by omega)).mono ?_
  rintro e w1 ⟨rfl, ⟨ao1, cap1, h1⟩, h2⟩
  have c0 := h1.blk.cell 0; have c1 := h1.blk.cell 1
  simp only [List.getElem?_cons_zero, List.getElem?_cons_succ] at c0 c1
  have hrb1 := h1.blk.lt; have f0 := h1.blk.free 0
  have H1 := Lib.hid h1; have H2 := Lib.hid h2
  clear h1 h2
  generalize hns : numS most s = ns at *
  obtain ⟨n, fl, l⟩ := ns
  have HN := Lib.hid hns; clear hns
  simp only at hle c0 c1
  cases fl with
  | true =>
    go_wp2_with fail
    go_ret
    have : rowS most s = ([], ⟨true, l⟩) := by simp [rowS, HN.out]
    rw [this]
    exact ⟨⟨_, rfl, World.ownsRow_nil _ _ _ _, by simp [Value.ownBlock]⟩, ⟨_, _, H1.out⟩, H2.out⟩
  | false =>
    have hfit := H1.out.fit
    have hmx := H1.out.max
    simp only at hfit
    unfold maxLen at hmx
    by_cases hlen : n ≤ l.length
    · have t1 : decide ((l.length : Int) < (n : Int)) = false := by simp; omega
      obtain ⟨ho, hho, hhn, hs1⟩ := slice_hd elemU8 sizeU8 ao1 l.length cap1 n hlen hfit
      obtain ⟨lo, hlo, hs2⟩ := slice_left elemU8 sizeU8 ao1 l.length cap1 n hlen hfit
      have hlt : (l.take n).length = n := by rw [List.length_take]; omega
      have E1 : Hid (Ext w1 (w1.alloc (.cells #[] 5))) := Lib.hid ((Below.refl _ w1).alloc (Nat.le_refl _) _)
      have hro : Rows 1 encU8 (w1.alloc (.cells #[] 5)).heap.size (w1.alloc (.cells #[] 5)) ho (l.take n) := by
        refine Rows.mono (Rows.ext ?_ E1.out) E1.out.size
        intro hne
        have hne2 : l ≠ [] := fun e => hne (by rw [e]; simp)
        obtain ⟨b, off, rfl, hb, -, hc⟩ := H1.out.row hne2
        refine ⟨b, off, hho b off rfl, hb, fun i x hi => hc i x ?_⟩
        rw [List.getElem?_take] at hi
        split at hi
        · exact hi
        · cases hi
      have HRO := Lib.hid hro; have HLO := Lib.hid hlo; have HL := Lib.hid hlt
      clear hro hlo hho hhn hlt
      go_wp2_with (at_builtin; go_must (refine wpList_append_rows (enc := encU8) (size := 1) (fun _ => rfl) one_u8 rfl _ _ 46 rfl 5 i0 _ 1 Tryz.underlying46 hi hz0 hz1 hz2 rfl (by decide) (.slice (some ⟨w1.heap.size, 0, none⟩) 0 0) 0 [] rfl (World.ownsRow_made w1 #[] 0 (Nat.zero_le _) (Nat.zero_le _) rfl) ho (l.take n) cap1 (by rw [HL.out]; rfl) HRO.out (by unfold maxLen; rw [HL.out]; omega) (by rw [HL.out]; omega) ?_; intro v2 w2 hown2 hbut2 hkept2; have hx2 : Ext w1 w2 := ((Ext.but E1.out (fun _ => False)).trans hbut2 (U := fun j => j = w1.heap.size) (fun _ _ e => e.elim) (fun i _ e => by simp [Value.ownBlock] at e; exact e.symm)).ext (fun i hi e => by omega); have k2 := H1.out.blk.ext' hx2; have k0 := k2.cell 0; have g0 := k2.free 0; simp only [List.getElem?_cons_zero] at k0; have X2 := Lib.hid hx2; have KB := Lib.hid k2; have O2 := Lib.hid hown2; have K2 := Lib.hid hkept2; clear hown2 hbut2 hkept2 hx2 k2))
      go_ret
      have hrs : rowS most s = (l.take n, ⟨false, l.drop n⟩) := by simp [rowS, HN.out, hlen]
      rw [hrs]
      have T2 : RRdr w2 B rb ao1 cap1 ⟨false, l⟩ := ⟨KB.out, H1.out.old, H1.out.fit, H1.out.max, H1.out.row.ext X2.out⟩
      have hnew : ∀ j, v2.ownBlock = some j → w1.heap.size ≤ j := fun j hj => by
        rcases K2.out j hj with e | e
        · simp [Value.ownBlock] at e; omega
        · exact Nat.le_trans E1.out.size e
      refine ⟨⟨v2, rfl, ?_, fun j hj => Nat.le_trans H2.out.size (hnew j hj)⟩, ⟨lo, cap1 - n, T2.left n hlen HLO.out⟩, ?_⟩
      · have := O2.out
        rw [List.nil_append, Nat.zero_add] at this
        exact own_setOther this (a := ⟨rb, 0, none⟩) (fun e => by have := hnew rb e; omega) _
      · exact (H2.out.trans (Ext.but X2.out (fun _ => False)) (U := fun j => j = rb) (fun _ _ e => e) (fun _ _ e => e.elim)).here rfl _ _
    · have t1 : decide ((l.length : Int) < (n : Int)) = true := by simp; omega
      go_wp2_with fail
      refine (rfail_calls B rb cap1 ao1 _ w1 H1.out).mono ?_
      rintro e w3 ⟨rfl, h3, h4⟩
      have H3 := Lib.hid h3; have H4 := Lib.hid h4
      clear h3 h4
      go_wp2_with fail
      go_ret
      have : rowS most s = ([], RSt.dead) := by simp [rowS, HN.out, hlen]
      rw [this]
      exact ⟨⟨_, rfl, World.ownsRow_nil _ _ _ _, by simp [Value.ownBlock]⟩, H3.out, H2.out.trans H4.out (fun _ _ e => e) (fun _ _ e => e)⟩
theorem RRdr.but {w w' : World} {B rb cap : Nat} {ao : Option Addr} {s : RSt} {S : Nat → Prop} (h : RRdr w B rb ao cap s) (hx : But S w w') (hS : ∀ b, b < B → ¬ S b) : RRdr w' B rb ao cap s :=
  ⟨h.blk.but hx (hS rb h.old), h.old, h.fit, h.max, (h.row.mono (no' := fun b => (b = rb ∨ B ≤ b) ∨ S b) (fun b _ e => e.elim id (fun e => .inr (Nat.le_of_not_lt fun hb => hS b hb e)))).but hx (fun _ _ e => .inr e) |>.mono (fun _ _ e => .inl e)⟩
theorem RRdr.ext {w w' : World} {B rb cap : Nat} {ao : Option Addr} {s : RSt} (h : RRdr w B rb ao cap s) (hx : Ext w w') : RRdr w' B rb ao cap s := h.but (Ext.but hx (fun _ => False)) (fun _ _ e => e)
set_option maxRecDepth 100000 in
theorem rtext_read (B rb cap : Nat) (ao : Option Addr) (s : RSt) (most : Nat) (w : World) (T : RRdr w B rb ao cap s) (hm : most ≤ 1000000) :
    Calls Tryz.prog 140 #[.pointer (some ⟨rb, 0, none⟩), .int .i64 most] w fun e w' => (∃ ro c, e = .returned (.slice ro (rowS most s).1.length c) ∧ (convert 46 9 (.slice ro (rowS most s).1.length c)).run Tryz.prog w' = .ok (.string ⟨(rowS most s).1.toArray⟩) w') ∧ RRPost B rb (rowS most s).2 w w' := by
  refine (rrow_read B rb cap ao s most w T hm).mono ?_
  rintro e w1 ⟨⟨u, rfl, h1, h2⟩, h3⟩
  obtain ⟨ro, c, rfl, hc1, hc2, hro⟩ := Rows.own (enc := encU8) (sz := 1) (fun _ => rfl) h1
  exact ⟨⟨ro, c, rfl, conv_rows w1 ro c _ hro⟩, h3⟩
structure HSt (w wr : World) (B rb N1 : Nat) (ao : Option Addr) (cap : Nat) (s : RSt) (us : List Value) : Prop where
  rd : RRdr wr B rb ao cap s
  b0 : Blk wr w.heap.size [.string ⟨#[]⟩, .int .i64 0, .int .i64 0, .slice none 0 0, .slice none 0 0, .bool false, .string ⟨#[]⟩] 35
  b1 : Blk wr N1 us 35
  n1 : w.heap.size < N1
  hB : B ≤ w.heap.size
  bt : But (fun j => j = rb) w wr
theorem HSt.far {w wr wr2 : World} {B rb N1 cap : Nat} {ao : Option Addr} {s : RSt} {us : List Value} {S : Nat → Prop} (h : HSt w wr B rb N1 ao cap s us) (hx : But S wr wr2) (hS : ∀ b, S b → N1 < b) : HSt w wr2 B rb N1 ao cap s us := by
  have hn := h.n1; have hB := h.hB
  exact ⟨h.rd.but hx (fun b hb e => by have := hS b e; omega), h.b0.but hx (fun e => by have := hS _ e; omega), h.b1.but hx (fun e => by have := hS _ e; omega), h.n1, h.hB, h.bt.trans hx (fun _ _ e => e) (fun i hi e => by have := hS i e; omega)⟩
theorem HSt.ext {w wr wr2 : World} {B rb N1 cap : Nat} {ao : Option Addr} {s : RSt} {us : List Value} (h : HSt w wr B rb N1 ao cap s us) (hx : Ext wr wr2) : HSt w wr2 B rb N1 ao cap s us :=
  h.far (Ext.but hx (fun _ => False)) (fun _ e => e.elim)
theorem HSt.read {w wr wr2 : World} {B rb N1 cap : Nat} {ao : Option Addr} {s s' : RSt} {us : List Value} (h : HSt w wr B rb N1 ao cap s us) (hp : RRPost B rb s' wr wr2) : ∃ ao' cap', HSt w wr2 B rb N1 ao' cap' s' us := by
  obtain ⟨⟨ao', cap', h1⟩, h2⟩ := hp
  have hn := h.n1; have hB := h.hB; have ho := h.rd.old
  exact ⟨ao', cap', h1, h.b0.but h2 (fun e => by omega), h.b1.but h2 (fun e => by omega), h.n1, h.hB, h.bt.trans h2 (fun _ _ e => e) (fun _ _ e => e)⟩
theorem HSt.set {w wr : World} {B rb N1 cap : Nat} {ao : Option Addr} {s : RSt} {us : List Value} (h : HSt w wr B rb N1 ao cap s us) (i : Nat) (v : Value) : HSt w (wr.setCell ⟨N1, i, none⟩ v) B rb N1 ao cap s (us.set i v) := by
  have hn := h.n1; have hB := h.hB
  exact ⟨h.rd.but (But.set1 wr N1 i v) (fun b hb e => by omega), h.b0.other (a := ⟨N1, i, none⟩) (by show w.heap.size ≠ N1; omega) v, h.b1.set i v, h.n1, h.hB, h.bt.setCell (p := ⟨N1, i, none⟩) (fun hi => by have : N1 < w.heap.size := hi; omega) v⟩
theorem HSt.n0 {w wr : World} {B rb N1 cap : Nat} {ao : Option Addr} {s : RSt} {us : List Value} (h : HSt w wr B rb N1 ao cap s us) : rb < w.heap.size := by
  have := h.rd.old; have := h.hB; omega
structure MSt (w w0 wr : World) (B rb N1 M : Nat) (ao : Option Addr) (cap : Nat) (s : RSt) (us : List Value) (tm : TypeId) (ms : List Value) (sz n : Nat) (va : Value) (xs : List Value) : Prop where
  hs : HSt w wr B rb N1 ao cap s us
  bm : Blk wr M ms tm
  nm : N1 < M
  own : wr.ownsRow 0 tm sz va n xs
  new : ∀ j, va.ownBlock = some j → N1 < j ∧ j ≠ M ∧ j < w0.heap.size
  old : w0.heap.size ≤ M
  bt : But (fun j => j = rb) w0 wr
theorem MSt.read {w w0 wr wr2 : World} {B rb N1 M cap sz n : Nat} {ao : Option Addr} {s s' : RSt} {us ms xs : List Value} {tm : TypeId} {va : Value} (h : MSt w w0 wr B rb N1 M ao cap s us tm ms sz n va xs) (hp : RRPost B rb s' wr wr2) : ∃ ao' cap', MSt w w0 wr2 B rb N1 M ao' cap' s' us tm ms sz n va xs := by
  obtain ⟨ao', cap', h1⟩ := h.hs.read hp
  have hn := h.hs.n1; have h0 := h.hs.n0; have hm := h.nm
  exact ⟨ao', cap', h1, h.bm.but hp.2 (fun e => by omega), h.nm, own_but h.own hp.2 (fun j hj e => by have := (h.new j hj).1; omega), h.new, h.old, h.bt.trans hp.2 (fun _ _ e => e) (fun _ _ e => e)⟩
theorem MSt.set {w w0 wr : World} {B rb N1 M cap sz n : Nat} {ao : Option Addr} {s : RSt} {us ms xs : List Value} {tm : TypeId} {va : Value} (h : MSt w w0 wr B rb N1 M ao cap s us tm ms sz n va xs) (i : Nat) (v : Value) : MSt w w0 (wr.setCell ⟨M, i, none⟩ v) B rb N1 M ao cap s us tm (ms.set i v) sz n va xs := by
  have ho := h.old; have hm := h.nm
  exact ⟨h.hs.far (But.set1 wr M i v) (fun b e => by omega), h.bm.set i v, h.nm, own_setOther h.own (a := ⟨M, i, none⟩) (fun e => (h.new M e).2.1 rfl) v, h.new, h.old, h.bt.setCell (p := ⟨M, i, none⟩) (fun hi => by have : M < w0.heap.size := hi; omega) v⟩
theorem MSt.app {w w0 wr W5 w9 : World} {B rb N1 M cap sz n : Nat} {ao : Option Addr} {s : RSt} {us ms xs : List Value} {tm : TypeId} {va v' : Value} (h : MSt w w0 wr B rb N1 M ao cap s us tm ms sz n va xs) (hx : Ext wr W5) (hb : But (fun k => va.ownBlock = some k) W5 w9) (hk : Kept1 W5 va v') :
    HSt w w9 B rb N1 ao cap s us ∧ (∀ j, v'.ownBlock = some j → N1 < j) ∧ But (fun j => j = rb ∨ va.ownBlock = some j) w0 w9 ∧ (∀ j, v'.ownBlock = some j → va.ownBlock = some j ∨ w0.heap.size ≤ j) := by
  have hs := h.bt.size; have hs2 := hx.size; have hml := h.bm.lt; have hm := h.nm
  refine ⟨(h.hs.ext hx).far hb (fun b e => (h.new b e).1), fun j hj => ?_, (h.bt.trans (Ext.but hx (fun _ => False)) (U := fun j => j = rb) (fun _ _ e => e) (fun _ _ e => e.elim)).trans hb (fun _ _ e => .inl e) (fun _ _ e => .inr e), fun j hj => ?_⟩
  · rcases hk j hj with e | e
    · exact (h.new j e).1
    · omega
  · rcases hk j hj with e | e
    · exact .inl e
    · exact .inr (by omega)
theorem nrows_app {w0 w9 : World} {N1 rb : Nat} {vo : Option Addr} {a : List ActD} {va v' : Value} (h : NRows 4 encAct (fun b => b ≤ N1 ∨ va.ownBlock = some b) w0 vo a) (hrb : rb ≤ N1) (h3 : But (fun j => j = rb ∨ va.ownBlock = some j) w0 w9) (h4 : ∀ j, v'.ownBlock = some j → va.ownBlock = some j ∨ w0.heap.size ≤ j) (x : Value) : NRows 4 encAct (fun b => b ≤ N1 ∨ v'.ownBlock = some b) (w9.setCell ⟨N1, 4, none⟩ x) vo a := by
  have h5 : NRows 4 encAct (fun b => (b ≤ N1 ∨ va.ownBlock = some b) ∨ v'.ownBlock = some b) w0 vo a := h.mono fun b hb e => e.elim id (fun e => (h4 b e).elim .inr (fun e => absurd hb (Nat.not_lt.2 e)))
  have h6 := h5.but h3 (fun b _ e => .inl (e.elim (fun e => .inl (by subst e; exact hrb)) .inr))
  have h7 : NRows 4 encAct (fun b => b ≤ N1 ∨ v'.ownBlock = some b) w9 vo a := h6.mono fun b _ e => e.elim (fun e => .inl (.inl e)) .inr
  exact h7.but (But.set1 w9 N1 4 x) (fun b _ e => .inl (Nat.le_of_eq e))
def DHoldPost (B rb : Nat) (r : HoldD × Bool × RSt) (w : World) (e : Ending) (w' : World) : Prop :=
  (∃ x : HoldV, e = .returned (.tuple #[.agg (encHV x).toArray, .bool (r.2.1 && !r.2.2.fl)]) ∧ x.is w' (fun b => b < w.heap.size) r.1) ∧ RRPost B rb r.2.2 w w'
set_option maxRecDepth 100000 in
set_option maxHeartbeats 6400000 in
theorem refHold_read (rb cap : Nat) (B : Nat) (ao : Option Addr) (s : RSt) (w : World) (T : RRdr w B rb ao cap s) (hBw : B ≤ w.heap.size) :
    Calls Tryz.prog 78 #[.pointer (some ⟨rb, 0, none⟩)] w (DHoldPost B rb (holdS s) w) := by
  obtain ⟨i0, hi, hz0, hz1, hz2⟩ := info_parts infoRd
  obtain ⟨i1, hi', hz0', hz1', hz2'⟩ := info_parts infoAct
  have HT := Lib.hid T
  have hrb := T.blk.lt
  clear T
  have hb1 := numS_le 8 (rowS 20 s).2
  obtain ⟨kk, s1, e1⟩ : ∃ kk s1, rowS 20 s = (kk, s1) := ⟨_, _, rfl⟩
  rw [e1] at hb1; simp only at hb1
  obtain ⟨c, s2, e2⟩ : ∃ c s2, numS 8 s1 = (c, s2) := ⟨_, _, rfl⟩
  have hb2 := numS_le 1073741824 s2
  obtain ⟨n, s3, e3⟩ : ∃ n s3, numS 1073741824 s2 = (n, s3) := ⟨_, _, rfl⟩
  have hb3 := numS_le 6 s3
  obtain ⟨m, s4, e4⟩ : ∃ m s4, numS 6 s3 = (m, s4) := ⟨_, _, rfl⟩
  rw [e2] at hb1; rw [e3] at hb2; rw [e4] at hb3
  simp only at hb1 hb2 hb3
  have E1 := Lib.hid e1; have E2 := Lib.hid e2; have E3 := Lib.hid e3; have E4 := Lib.hid e4
  clear e1 e2 e3 e4
  have B0 := Lib.hid (Blk.new w [.string ⟨#[]⟩, .int .i64 0, .int .i64 0, .slice none 0 0, .slice none 0 0, .bool false, .string ⟨#[]⟩] 35)
  have X0 : Hid (Ext w (w.alloc (.cells #[.string ⟨#[]⟩, .int .i64 0, .int .i64 0, .slice none 0 0, .slice none 0 0, .bool false, .string ⟨#[]⟩] 35))) := Lib.hid ((Below.refl _ w).alloc (Nat.le_refl _) _)
  go_enter Tryz.func78, Tryz.ntmps78
  go_wp2_with fail
  refine (rtext_read B rb cap ao s 20 _ (HT.out.ext X0.out) (by omega)).mono ?_
  rw [E1.out]
  rintro e w1 ⟨⟨ro, rc, rfl, hcv⟩, ⟨ao1, cap1, h1⟩, h2⟩
  simp only at hcv
  have hst : HSt w (w1.alloc (.cells #[.string ⟨kk.toArray⟩, .int .i64 0, .int .i64 0, .slice none 0 0, .slice none 0 0, .bool false, .string ⟨#[]⟩] 35)) B rb w1.heap.size ao1 cap1 s1 [.string ⟨kk.toArray⟩, .int .i64 0, .int .i64 0, .slice none 0 0, .slice none 0 0, .bool false, .string ⟨#[]⟩] := by
    have hb := B0.out.but h2 (show ¬ w.heap.size = rb by omega)
    exact ⟨h1.ext ((Below.refl _ _).alloc (Nat.le_refl _) _), hb.alloc _, Blk.new w1 _ _, hb.lt, hBw, ((Ext.but X0.out (fun _ => False)).trans h2 (U := fun j => j = rb) (fun _ _ e => e.elim) (fun _ _ e => e)).alloc _⟩
  have HS := Lib.hid hst
  clear h1 h2 hst B0 X0
  go_wp2_with fail
  have hst := HS.out
  clear HS hcv
  generalize w1.alloc (.cells #[.string ⟨kk.toArray⟩, .int .i64 0, .int .i64 0, .slice none 0 0, .slice none 0 0, .bool false, .string ⟨#[]⟩] 35) = w2 at hst ⊢
  generalize w1.heap.size = N1 at hst ⊢
  refine (rnum_read B rb _ _ s1 8 w2 hst.rd (by omega)).mono ?_
  rw [E2.out]
  rintro e w3 ⟨rfl, hp⟩
  obtain ⟨ao3, cap3, hst3⟩ := hst.read hp
  have c1 := hst3.b1.cell 1; have f1 := hst3.b1.free 1
  simp only [List.getElem?_cons_zero, List.getElem?_cons_succ] at c1
  have HS := Lib.hid hst3
  clear hp hst hst3
  go_wp2_with fail
  have hst := HS.out.set 1 (.int .i64 (c : Int))
  simp only [List.set_cons_zero, List.set_cons_succ] at hst
  clear HS c1 f1
  refine (rnum_read B rb _ _ s2 1073741824 _ hst.rd (by omega)).mono ?_
  rw [E3.out]
  rintro e w4 ⟨rfl, hp⟩
  obtain ⟨ao4, cap4, hst3⟩ := hst.read hp
  have c1 := hst3.b1.cell 2; have f1 := hst3.b1.free 2
  simp only [List.getElem?_cons_zero, List.getElem?_cons_succ] at c1
  have HS := Lib.hid hst3
  clear hp hst hst3
  go_wp2_with fail
  have hst := HS.out.set 2 (.int .i64 (n : Int))
  simp only [List.set_cons_zero, List.set_cons_succ] at hst
  clear HS c1 f1
  refine (rnum_read B rb _ _ s3 6 _ hst.rd (by omega)).mono ?_
  rw [E4.out]
  rintro e w5 ⟨rfl, hp⟩
  obtain ⟨ao5, cap5, hst3⟩ := hst.read hp
  have HS := Lib.hid hst3
  clear hp hst hst3
  go_wp2_with fail
  go_loopw [6, 7] (fun vg vi wr => ∃ (k : Nat) (vo : Option Addr) (vc : Nat) (ao' : Option Addr) (cap' : Nat), vi = .int .i64 k ∧ k ≤ m ∧ vg = .bool (actsK ⟨kk.toArray⟩ s4 k).2.1 ∧ wr.ownsRow 0 98 4 (.slice vo (actsK ⟨kk.toArray⟩ s4 k).1.length vc) (actsK ⟨kk.toArray⟩ s4 k).1.length ((actsK ⟨kk.toArray⟩ s4 k).1.flatMap encAct) ∧ (∀ j, (Value.slice vo (actsK ⟨kk.toArray⟩ s4 k).1.length vc).ownBlock = some j → N1 < j) ∧ HSt w wr B rb N1 ao' cap' (actsK ⟨kk.toArray⟩ s4 k).2.2 [.string ⟨kk.toArray⟩, .int .i64 c, .int .i64 n, .slice vo (actsK ⟨kk.toArray⟩ s4 k).1.length vc, .slice none 0 0, .bool false, .string ⟨#[]⟩]) (fun _ vi _ => m - (intOf vi).toNat)
  case atStart => exact ⟨0, none, 0, ao5, cap5, rfl, by omega, rfl, World.ownsRow_nil _ _ _ _, by simp [Value.ownBlock], HS.out⟩
  case round =>
    obtain ⟨k, vo, vc, ao', cap', rfl, hk, rfl, hown, hnew, hst⟩ := hrel
    have hN1 := hst.b1.lt; have hrbN := hst.n0; have hN01 := hst.n1
    clear HS
    by_cases hlt : k < m
    · have hlen := actsK_len ⟨kk.toArray⟩ s4 k
      have hsucc : actsK ⟨kk.toArray⟩ s4 (k + 1) = ((actsK ⟨kk.toArray⟩ s4 k).1 ++ [(actS ⟨kk.toArray⟩ (actsK ⟨kk.toArray⟩ s4 k).2.2).1], (actsK ⟨kk.toArray⟩ s4 k).2.1 && (actS ⟨kk.toArray⟩ (actsK ⟨kk.toArray⟩ s4 k).2.2).2.1, (actS ⟨kk.toArray⟩ (actsK ⟨kk.toArray⟩ s4 k).2.2).2.2) := rfl
      generalize hak : actsK ⟨kk.toArray⟩ s4 k = ak at *
      obtain ⟨q, ok, s5⟩ := ak
      have hb5 := numS_le 3 s5
      obtain ⟨kd, s6, e1⟩ : ∃ kd s6, numS 3 s5 = (kd, s6) := ⟨_, _, rfl⟩
      obtain ⟨val, s7, e2⟩ : ∃ val s7, rowS 20 s6 = (val, s7) := ⟨_, _, rfl⟩
      obtain ⟨bl, s8, e3⟩ : ∃ bl s8, flagS s7 = (bl, s8) := ⟨_, _, rfl⟩
      have hb6 := numS_le 1073741824 s8
      obtain ⟨mm, s9, e4⟩ : ∃ mm s9, numS 1073741824 s8 = (mm, s9) := ⟨_, _, rfl⟩
      rw [e1] at hb5; rw [e4] at hb6
      have hact := actS_eq (key := ⟨kk.toArray⟩) e1 e2 e3 e4
      simp only at hsucc hlen hb5 hb6 hown hnew hst
      rw [hact] at hsucc
      have SU := Lib.hid hsucc; have F1 := Lib.hid e1; have F2 := Lib.hid e2; have F3 := Lib.hid e3; have F4 := Lib.hid e4; have HL := Lib.hid hlen
      have O1 := Lib.hid hown; have NW := Lib.hid hnew; have HS := Lib.hid hst
      clear hsucc e1 e2 e3 e4 hlen hact hak hown hnew hst
      have c0 := HS.out.b1.cell 0
      simp only [List.getElem?_cons_zero] at c0
      have hNrb : ¬ N1 = rb := by omega
      have c0' : ∀ W, But (fun j => j = rb) wr W → W.cell? ⟨N1, 0, none⟩ = some (.string ⟨kk.toArray⟩) := fun W hW => (hW.cell (p := ⟨N1, 0, none⟩) hN1 hNrb).trans c0
      have C0 := Lib.hid c0'; clear c0'
      have HWK : Hid (IntKind.u8.wrap (kd : Int) = (kd : Int)) := Lib.hid (by simp [IntKind.wrap, IntKind.bits, IntKind.signed]; omega)
      go_wp2_with fail
      go_cut [8] (fun p W => ∃ (M : Nat) (ao7 : Option Addr) (cap7 : Nat), p = .pointer (some ⟨M, 0, none⟩) ∧ MSt w wr W B rb N1 M ao7 cap7 s6 [.string ⟨kk.toArray⟩, .int .i64 c, .int .i64 n, .slice vo q.length vc, .slice none 0 0, .bool false, .string ⟨#[]⟩] 98 [.int .u8 kd, .string ⟨kk.toArray⟩, .string ⟨#[]⟩, .int .i64 0] 4 q.length (.slice vo q.length vc) (q.flatMap encAct))
      case first =>
        go_region_with (first
          | (go_at_call 77; refine (rnum_read B rb cap' ao' s5 3 wr.drew (HS.out.rd.ext (Below.refl _ _).drew) (by omega)).mono ?_; rw [F1.out]; rintro e w6 ⟨rfl, ⟨ao6, cap6, h1⟩, h2⟩; have h3 : But (fun j => j = rb) wr w6 := (But.refl (fun j => j = rb) wr).drew.trans h2 (fun _ _ e => e) (fun _ _ e => e); have c6 := C0.out w6 h3; have n6 := Nat.lt_of_lt_of_le hN1 h3.size; have X1 := Lib.hid h1; have X3 := Lib.hid h3; clear h1 h2 h3)
          | (go_at_call 77; go_must (refine (rnum_read B rb cap' ao' s5 3 (wr.alloc (.cells #[.int .u8 0, .string ⟨#[]⟩, .string ⟨#[]⟩, .int .i64 0] 98)).drew (HS.out.rd.ext ((Below.refl _ _).alloc (Nat.le_refl _) _).drew) (by omega)).mono ?_; rw [F1.out]; rintro e w6 ⟨rfl, ⟨ao6, cap6, h1⟩, h2⟩; have h3 : But (fun j => j = rb) wr w6 := ((But.refl (fun j => j = rb) wr).alloc _).drew.trans h2 (fun _ _ e => e) (fun _ _ e => e); have c6 := C0.out w6 h3; have n6 := Nat.lt_of_lt_of_le hN1 h3.size; have z := (Blk.new wr [.int .u8 0, .string ⟨#[]⟩, .string ⟨#[]⟩, .int .i64 0] 98).drew.but h2 (fun e => by have e2 : wr.heap.size = rb := e; omega); have z0 := z.cell 0; have z1 := z.cell 1; have z2 := z.cell 2; have z3 := z.cell 3; have y0 := z.free 0; have y1 := z.free 1; have y2 := z.free 2; have y3 := z.free 3; simp only [List.getElem?_cons_zero, List.getElem?_cons_succ] at z0 z1 z2 z3; have X1 := Lib.hid h1; have X3 := Lib.hid h3; have X4 := Lib.hid z; clear h1 h2 h3 z)))
        all_goals
          try simp only [HWK.out]
          have fA : Hid (∀ W, W = w6.alloc (.cells #[.int .u8 kd, .string ⟨kk.toArray⟩, .string ⟨#[]⟩, .int .i64 0] 98) → Blk W w6.heap.size [.int .u8 kd, .string ⟨kk.toArray⟩, .string ⟨#[]⟩, .int .i64 0] 98 ∧ RRdr W B rb ao6 cap6 s6 ∧ But (fun j => j = rb) wr W ∧ wr.heap.size ≤ w6.heap.size) :=
            Lib.hid fun W hW => by subst hW; exact ⟨Blk.new w6 [.int .u8 kd, .string ⟨kk.toArray⟩, .string ⟨#[]⟩, .int .i64 0] _, X1.out.ext ((Below.refl _ _).alloc (Nat.le_refl _) _), X3.out.alloc _, X3.out.size⟩
          have fB : Hid (Blk w6 wr.heap.size [.int .u8 0, .string ⟨#[]⟩, .string ⟨#[]⟩, .int .i64 0] 98 → ∀ W, W = (((w6.setCell ⟨wr.heap.size, 0, none⟩ (.int .u8 kd)).setCell ⟨wr.heap.size, 1, none⟩ (.string ⟨kk.toArray⟩)).setCell ⟨wr.heap.size, 2, none⟩ (.string ⟨#[]⟩)).setCell ⟨wr.heap.size, 3, none⟩ (.int .i64 0) → Blk W wr.heap.size [.int .u8 kd, .string ⟨kk.toArray⟩, .string ⟨#[]⟩, .int .i64 0] 98 ∧ RRdr W B rb ao6 cap6 s6 ∧ But (fun j => j = rb) wr W ∧ wr.heap.size ≤ wr.heap.size) :=
            Lib.hid fun hz W hW => by
              subst hW
              have hb3 : But (fun j => j = wr.heap.size) w6 ((((w6.setCell ⟨wr.heap.size, 0, none⟩ (.int .u8 kd)).setCell ⟨wr.heap.size, 1, none⟩ (.string ⟨kk.toArray⟩)).setCell ⟨wr.heap.size, 2, none⟩ (.string ⟨#[]⟩)).setCell ⟨wr.heap.size, 3, none⟩ (.int .i64 0)) := ((But.set2 w6 wr.heap.size 0 1 _ _).here rfl 2 _).here rfl 3 _
              exact ⟨(((hz.set 0 _).set 1 _).set 2 _).set 3 _, X1.out.but hb3 (fun b hb e => by omega), X3.out.trans hb3 (fun _ _ e => e) (fun i hi e => by omega), Nat.le_refl _⟩
          go_wp2_with fail
          go_meet
          first
          | (have z := X4.out
             generalize hW7 : (((w6.setCell ⟨wr.heap.size, 0, none⟩ (.int .u8 kd)).setCell ⟨wr.heap.size, 1, none⟩ (.string ⟨kk.toArray⟩)).setCell ⟨wr.heap.size, 2, none⟩ (.string ⟨#[]⟩)).setCell ⟨wr.heap.size, 3, none⟩ (.int .i64 0) = W7
             obtain ⟨hb7, hr7, hx7, hge⟩ := fB.out z W7 hW7.symm
             clear z
             obtain ⟨M, hM⟩ : ∃ M, M = wr.heap.size := ⟨_, rfl⟩
             rw [← hM] at hb7 ⊢
             replace hge : wr.heap.size ≤ M := by omega
             clear hM)
          | (generalize hW7 : w6.alloc (.cells #[.int .u8 kd, .string ⟨kk.toArray⟩, .string ⟨#[]⟩, .int .i64 0] 98) = W7
             obtain ⟨hb7, hr7, hx7, hge⟩ := fA.out W7 hW7.symm
             generalize w6.heap.size = M at hb7 hge ⊢)
          have ms7 : ∃ ao7 cap7, MSt w wr W7 B rb N1 M ao7 cap7 s6 [.string ⟨kk.toArray⟩, .int .i64 c, .int .i64 n, .slice vo q.length vc, .slice none 0 0, .bool false, .string ⟨#[]⟩] 98 [.int .u8 kd, .string ⟨kk.toArray⟩, .string ⟨#[]⟩, .int .i64 0] 4 q.length (.slice vo q.length vc) (q.flatMap encAct) := by
            obtain ⟨ao7, cap7, h7⟩ := HS.out.read ⟨⟨_, _, hr7⟩, hx7⟩
            exact ⟨ao7, cap7, h7, hb7, by omega, own_but O1.out hx7 (fun j hj e => by have := NW.out j hj; omega), fun j hj => ⟨NW.out j hj, by have := (O1.out.lt j hj).2; omega, (O1.out.lt j hj).2⟩, hge, hx7⟩
          obtain ⟨ao7, cap7, hm7⟩ := ms7
          exact ⟨_, ao7, cap7, rfl, hm7⟩
      case rest =>
        obtain ⟨M, ao7, cap7, hp8, hm7⟩ := hcut
        subst hp8
        have MS := Lib.hid hm7
        clear hm7 C0 c0 HS O1 NW
        go_wp2_with fail
        refine (rtext_read B rb _ _ s6 20 wc MS.out.hs.rd (by omega)).mono ?_
        rw [F2.out]
        rintro e w8 ⟨⟨ro8, rc8, rfl, hcv⟩, hp⟩
        simp only at hcv
        obtain ⟨ao8, cap8, hm8⟩ := MS.out.read hp
        have d2 := hm8.bm.cell 2; have g2 := hm8.bm.free 2
        simp only [List.getElem?_cons_zero, List.getElem?_cons_succ] at d2
        have MS2 := Lib.hid hm8
        clear hp hm8
        go_wp2_with fail
        have hm9 := MS2.out.set 2 (.string ⟨val.toArray⟩)
        simp only [List.set_cons_zero, List.set_cons_succ] at hm9
        clear hcv d2 g2
        refine (rflag_read B rb _ _ s7 _ hm9.hs.rd).mono ?_
        rw [F3.out]
        rintro e w10 ⟨rfl, hp⟩
        obtain ⟨ao10, cap10, hm10⟩ := hm9.read hp
        have MS3 := Lib.hid hm10
        clear hp hm9 hm10
        go_wp2_with fail
        refine (rnum_read B rb _ _ s8 1073741824 _ MS3.out.hs.rd (by omega)).mono ?_
        rw [F4.out]
        rintro e w11 ⟨rfl, hp⟩
        obtain ⟨ao11, cap11, hm11⟩ := MS3.out.read hp
        have d0 := hm11.bm.cell 0; have d1 := hm11.bm.cell 1; have d2 := hm11.bm.cell 2; have d3 := hm11.bm.cell 3; have g3 := hm11.bm.free 3
        have k3 := hm11.hs.b1.cell 3
        simp only [List.getElem?_cons_zero, List.getElem?_cons_succ] at d0 d1 d2 d3 k3
        have hNM : ¬ N1 = M := by have := hm11.nm; omega
        have hNM2 : N1 < w11.heap.size := hm11.hs.b1.lt
        have hMl : M < w11.heap.size := hm11.bm.lt
        have hO6 : ∀ W, But (fun j => j = M) w11 W → W.ownsRow 0 98 4 (.slice vo q.length vc) q.length (q.flatMap encAct) := fun W hW => own_but hm11.own hW (fun j hj e => (hm11.new j hj).2.1 e)
        have MS4 := Lib.hid hm11; have O6 := Lib.hid hO6
        clear hp hm11 hO6 MS MS2 MS3
        have hql : q.length ≤ 6 := by have := HL.out; omega
        have key : (bl = false ∧ ok = false) ∨ (bl = false ∧ ok = true) ∨ (bl = true ∧ ok = false) ∨ (bl = true ∧ ok = true ∧ 0 < mm) ∨ (bl = true ∧ ok = true ∧ mm = 0) := by cases bl <;> cases ok <;> simp; omega
        rcases key with ⟨rfl, rfl⟩ | ⟨rfl, rfl⟩ | ⟨rfl, rfl⟩ | ⟨rfl, rfl, hm0⟩ | ⟨rfl, rfl, hm0⟩
        case' inr.inr.inr.inl => have t2 : ((mm : Int) == 0) = false := by simp; omega
        case' inr.inr.inr.inr =>
          have t2 : ((mm : Int) == 0) = true := by simp; omega
          clear hm0
        all_goals
          go_wp2_with (at_builtin; go_must ((first
            | (refine wpList_append_at _ rfl _ _ 32 rfl 98 i1 _ 4 48 Tryz.underlying32 hi' hz0' hz1' hz2' rfl (by decide) (.slice vo q.length vc) q.length (q.flatMap encAct) rfl (own_ext (O6.out _ (But.set2 _ _ _ _ _ _)) ((Below.refl _ _).alloc (Nat.le_refl _) _)) ⟨_, 0, none⟩ 1 1 (encAct ⟨kd, ⟨kk.toArray⟩, ⟨val.toArray⟩, (-(mm : Int))⟩) rfl rfl (cells_new' ((w11.setCell ⟨M, 3, none⟩ (.int .i64 (mm : Int))).setCell ⟨M, 3, none⟩ (.int .i64 (-(mm : Int)))) (encAct ⟨kd, ⟨kk.toArray⟩, ⟨val.toArray⟩, (-(mm : Int))⟩) _ _ (by simp)) (one_act _) (by decide) (by unfold maxLen; omega) (by omega) ?_; intro g cap2 w12 hown' hbut hkept; have ha := MSt.app ((MS4.out.set 3 (.int .i64 (mm : Int))).set 3 (.int .i64 (-(mm : Int)))) ((Below.refl _ _).alloc (Nat.le_refl _) _) hbut hkept)
            | (refine wpList_append_at _ rfl _ _ 32 rfl 98 i1 _ 4 48 Tryz.underlying32 hi' hz0' hz1' hz2' rfl (by decide) (.slice vo q.length vc) q.length (q.flatMap encAct) rfl (own_ext (O6.out _ (But.set1 _ _ _ _)) ((Below.refl _ _).alloc (Nat.le_refl _) _)) ⟨_, 0, none⟩ 1 1 (encAct ⟨kd, ⟨kk.toArray⟩, ⟨val.toArray⟩, (mm : Int)⟩) rfl rfl (cells_new' (w11.setCell ⟨M, 3, none⟩ (.int .i64 (mm : Int))) (encAct ⟨kd, ⟨kk.toArray⟩, ⟨val.toArray⟩, (mm : Int)⟩) _ _ (by simp)) (one_act _) (by decide) (by unfold maxLen; omega) (by omega) ?_; intro g cap2 w12 hown' hbut hkept; have ha := MSt.app (MS4.out.set 3 (.int .i64 (mm : Int))) ((Below.refl _ _).alloc (Nat.le_refl _) _) hbut hkept)); have n3 := ha.1.b1.cell 3; have m3 := ha.1.b1.free 3; simp only [List.getElem?_cons_zero, List.getElem?_cons_succ] at n3; have HA := Lib.hid ha; have Y1 := Lib.hid hown'; clear hown' hbut hkept ha))
          go_roundw
          case rel =>
            have hst := HA.out.1.set 3 (.slice (some ⟨g, 0, none⟩) (q.length + 1) cap2)
            simp only [List.set_cons_zero, List.set_cons_succ] at hst
            have hl1 : (actsK ⟨kk.toArray⟩ s4 (k + 1)).1.length = q.length + 1 := by rw [SU.out]; simp
            refine ⟨k + 1, some ⟨g, 0, none⟩, cap2, ao11, cap11, by go_num, by omega, ?_, ?_, ?_, ?_⟩
            · rw [SU.out]; first | rfl | (simp; done) | (simp [hm0]; done) | (have hz0 := beq_iff_eq.1 t2; simp; omega)
            · rw [hl1, SU.out]
              have := own_setOther Y1.out (a := ⟨N1, 3, none⟩) (fun e => by have := HA.out.2.1 N1 e; omega) (.slice (some ⟨g, 0, none⟩) (q.length + 1) cap2)
              simp only [List.flatMap_append, List.flatMap_singleton]
              exact this
            · rw [hl1]; exact HA.out.2.1
            · rw [hl1, SU.out]; exact hst
          case measure => simp [intOf]; omega
    · have hkm : k = m := by omega
      subst hkm
      have has : actsS ⟨kk.toArray⟩ s3 = actsK ⟨kk.toArray⟩ s4 k := by simp [actsS, E4.out]
      generalize hak : actsK ⟨kk.toArray⟩ s4 k = ak at *
      obtain ⟨a, ok, s5⟩ := ak
      simp only at hown hnew hst
      have hb5 := numS_le 6 s5
      obtain ⟨m, s6, e5⟩ : ∃ m s6, numS 6 s5 = (m, s6) := ⟨_, _, rfl⟩
      rw [e5] at hb5; simp only at hb5
      have AS := Lib.hid has; have E5 := Lib.hid e5
      have AR := Lib.hid (nrows_of_own (enc := encAct) (sz := 4) (no := fun b => b ≤ N1 ∨ (Value.slice none 0 0).ownBlock = some b) (fun _ => rfl) hown (fun j hj e => e.elim (fun e => by have := hnew j hj; omega) (fun e => by simp [Value.ownBlock] at e)))
      have HS := Lib.hid hst
      clear has e5 hak hown hnew hst
      go_wp2_with fail
      refine (rnum_read B rb _ _ s5 6 _ HS.out.rd (by omega)).mono ?_
      rw [E5.out]
      rintro e w5 ⟨rfl, hp⟩
      obtain ⟨ao5, cap5, hst⟩ := HS.out.read hp
      have AR2 := Lib.hid (AR.out.but hp.2 (fun b _ e => .inl (by omega)))
      have HS2 := Lib.hid hst
      clear hp hst AR HS
      go_wp2_with fail
      go_loopw [10] (fun vi wr => ∃ (k : Nat) (yo : Option Addr) (yc : Nat) (ao' : Option Addr) (cap' : Nat), vi = .int .i64 k ∧ k ≤ m ∧ wr.ownsRow 0 100 3 (.slice yo (readsK ⟨kk.toArray⟩ s6 k).1.length yc) (readsK ⟨kk.toArray⟩ s6 k).1.length ((readsK ⟨kk.toArray⟩ s6 k).1.flatMap encRd) ∧ (∀ j, (Value.slice yo (readsK ⟨kk.toArray⟩ s6 k).1.length yc).ownBlock = some j → N1 < j) ∧ HSt w wr B rb N1 ao' cap' (readsK ⟨kk.toArray⟩ s6 k).2 [.string ⟨kk.toArray⟩, .int .i64 c, .int .i64 n, .slice vo a.length vc, .slice yo (readsK ⟨kk.toArray⟩ s6 k).1.length yc, .bool false, .string ⟨#[]⟩] ∧ NRows 4 encAct (fun b => b ≤ N1 ∨ (Value.slice yo (readsK ⟨kk.toArray⟩ s6 k).1.length yc).ownBlock = some b) wr vo a) (fun vi _ => m - (intOf vi).toNat)
      case atStart => exact ⟨0, none, 0, ao5, cap5, rfl, by omega, World.ownsRow_nil _ _ _ _, by simp [Value.ownBlock], HS2.out, AR2.out⟩
      case round =>
        obtain ⟨k, yo, yc, ao', cap', rfl, hk, hown, hnew, hst, har⟩ := hrel
        clear HS2 AR2
        have hN1 := hst.b1.lt; have hrbN := hst.n0; have hN01 := hst.n1
        by_cases hlt : k < m
        · have hlen := readsK_len ⟨kk.toArray⟩ s6 k
          have hsucc : readsK ⟨kk.toArray⟩ s6 (k + 1) = ((readsK ⟨kk.toArray⟩ s6 k).1 ++ [(readS ⟨kk.toArray⟩ (readsK ⟨kk.toArray⟩ s6 k).2).1], (readS ⟨kk.toArray⟩ (readsK ⟨kk.toArray⟩ s6 k).2).2) := rfl
          generalize hak : readsK ⟨kk.toArray⟩ s6 k = ak at *
          obtain ⟨q, s7⟩ := ak
          obtain ⟨bl, s8, e6⟩ : ∃ bl s8, flagS s7 = (bl, s8) := ⟨_, _, rfl⟩
          obtain ⟨val, s9, e7⟩ : ∃ val s9, rowS 20 s8 = (val, s9) := ⟨_, _, rfl⟩
          simp only [readS, e6, e7] at hsucc hlen hown hnew hst har
          have SU := Lib.hid hsucc; have F6 := Lib.hid e6; have F7 := Lib.hid e7; have HL := Lib.hid hlen
          have O1 := Lib.hid hown; have NW := Lib.hid hnew; have HS := Lib.hid hst; have AR := Lib.hid har
          clear hsucc e6 e7 hlen hak hown hnew hst har
          have c0 := HS.out.b1.cell 0
          simp only [List.getElem?_cons_zero] at c0
          have hNrb : ¬ N1 = rb := by omega
          have c0' : ∀ W, But (fun j => j = rb) wr W → W.cell? ⟨N1, 0, none⟩ = some (.string ⟨kk.toArray⟩) := fun W hW => (hW.cell (p := ⟨N1, 0, none⟩) hN1 hNrb).trans c0
          have C0 := Lib.hid c0'; clear c0'
          go_wp2_with fail
          go_cut [11] (fun p W => (∃ (M : Nat) (ao7 : Option Addr) (cap7 : Nat), p = .pointer (some ⟨M, 0, none⟩) ∧ MSt w wr W B rb N1 M ao7 cap7 s8 [.string ⟨kk.toArray⟩, .int .i64 c, .int .i64 n, .slice vo a.length vc, .slice yo q.length yc, .bool false, .string ⟨#[]⟩] 100 [.string ⟨kk.toArray⟩, .bool bl, .string ⟨#[]⟩] 3 q.length (.slice yo q.length yc) (q.flatMap encRd)))
          case first =>
            go_region_with (first
              | (go_at_call 141; refine (rflag_read B rb cap' ao' s7 wr.drew (HS.out.rd.ext (Below.refl _ _).drew)).mono ?_; rw [F6.out]; rintro e w6 ⟨rfl, ⟨ao6, cap6, h1⟩, h2⟩; have h3 : But (fun j => j = rb) wr w6 := (But.refl (fun j => j = rb) wr).drew.trans h2 (fun _ _ e => e) (fun _ _ e => e); have c6 := C0.out w6 h3; have n6 := Nat.lt_of_lt_of_le hN1 h3.size; have X1 := Lib.hid h1; have X3 := Lib.hid h3; clear h1 h2 h3)
              | (go_at_call 141; go_must (refine (rflag_read B rb cap' ao' s7 (wr.alloc (.cells #[.string ⟨#[]⟩, .bool false, .string ⟨#[]⟩] 100)).drew (HS.out.rd.ext ((Below.refl _ _).alloc (Nat.le_refl _) _).drew)).mono ?_; rw [F6.out]; rintro e w6 ⟨rfl, ⟨ao6, cap6, h1⟩, h2⟩; have h3 : But (fun j => j = rb) wr w6 := ((But.refl (fun j => j = rb) wr).alloc _).drew.trans h2 (fun _ _ e => e) (fun _ _ e => e); have c6 := C0.out w6 h3; have n6 := Nat.lt_of_lt_of_le hN1 h3.size; have z := (Blk.new wr [.string ⟨#[]⟩, .bool false, .string ⟨#[]⟩] 100).drew.but h2 (fun e => by have e2 : wr.heap.size = rb := e; omega); have z0 := z.cell 0; have z1 := z.cell 1; have z2 := z.cell 2; have y0 := z.free 0; have y1 := z.free 1; have y2 := z.free 2; simp only [List.getElem?_cons_zero, List.getElem?_cons_succ] at z0 z1 z2; have X1 := Lib.hid h1; have X3 := Lib.hid h3; have X4 := Lib.hid z; clear h1 h2 h3 z)))
            all_goals
              have fA : Hid (∀ W, W = w6.alloc (.cells #[.string ⟨kk.toArray⟩, .bool bl, .string ⟨#[]⟩] 100) → Blk W w6.heap.size [.string ⟨kk.toArray⟩, .bool bl, .string ⟨#[]⟩] 100 ∧ RRdr W B rb ao6 cap6 s8 ∧ But (fun j => j = rb) wr W ∧ wr.heap.size ≤ w6.heap.size) :=
                Lib.hid fun W hW => by subst hW; exact ⟨Blk.new w6 [.string ⟨kk.toArray⟩, .bool bl, .string ⟨#[]⟩] _, X1.out.ext ((Below.refl _ _).alloc (Nat.le_refl _) _), X3.out.alloc _, X3.out.size⟩
              have fB : Hid (Blk w6 wr.heap.size [.string ⟨#[]⟩, .bool false, .string ⟨#[]⟩] 100 → ∀ W, W = ((w6.setCell ⟨wr.heap.size, 0, none⟩ (.string ⟨kk.toArray⟩)).setCell ⟨wr.heap.size, 1, none⟩ (.bool bl)).setCell ⟨wr.heap.size, 2, none⟩ (.string ⟨#[]⟩) → Blk W wr.heap.size [.string ⟨kk.toArray⟩, .bool bl, .string ⟨#[]⟩] 100 ∧ RRdr W B rb ao6 cap6 s8 ∧ But (fun j => j = rb) wr W ∧ wr.heap.size ≤ wr.heap.size) :=
                Lib.hid fun hz W hW => by
                  subst hW
                  have hb3 : But (fun j => j = wr.heap.size) w6 (((w6.setCell ⟨wr.heap.size, 0, none⟩ (.string ⟨kk.toArray⟩)).setCell ⟨wr.heap.size, 1, none⟩ (.bool bl)).setCell ⟨wr.heap.size, 2, none⟩ (.string ⟨#[]⟩)) := (But.set2 w6 wr.heap.size 0 1 _ _).here rfl 2 _
                  exact ⟨((hz.set 0 _).set 1 _).set 2 _, X1.out.but hb3 (fun b hb e => by omega), X3.out.trans hb3 (fun _ _ e => e) (fun i hi e => by omega), Nat.le_refl _⟩
              go_wp2_with fail
              go_meet
              first
              | (have z := X4.out
                 generalize hW7 : ((w6.setCell ⟨wr.heap.size, 0, none⟩ (.string ⟨kk.toArray⟩)).setCell ⟨wr.heap.size, 1, none⟩ (.bool bl)).setCell ⟨wr.heap.size, 2, none⟩ (.string ⟨#[]⟩) = W7
                 obtain ⟨hb7, hr7, hx7, hge⟩ := fB.out z W7 hW7.symm
                 clear z
                 obtain ⟨M, hM⟩ : ∃ M, M = wr.heap.size := ⟨_, rfl⟩
                 rw [← hM] at hb7 ⊢
                 replace hge : wr.heap.size ≤ M := by omega
                 clear hM)
              | (generalize hW7 : w6.alloc (.cells #[.string ⟨kk.toArray⟩, .bool bl, .string ⟨#[]⟩] 100) = W7
                 obtain ⟨hb7, hr7, hx7, hge⟩ := fA.out W7 hW7.symm
                 generalize w6.heap.size = M at hb7 hge ⊢)
              have ms7 : ∃ ao7 cap7, MSt w wr W7 B rb N1 M ao7 cap7 s8 [.string ⟨kk.toArray⟩, .int .i64 c, .int .i64 n, .slice vo a.length vc, .slice yo q.length yc, .bool false, .string ⟨#[]⟩] 100 [.string ⟨kk.toArray⟩, .bool bl, .string ⟨#[]⟩] 3 q.length (.slice yo q.length yc) (q.flatMap encRd) := by
                obtain ⟨ao7, cap7, h7⟩ := HS.out.read ⟨⟨_, _, hr7⟩, hx7⟩
                exact ⟨ao7, cap7, h7, hb7, by omega, own_but O1.out hx7 (fun j hj e => by have := NW.out j hj; omega), fun j hj => ⟨NW.out j hj, by have := (O1.out.lt j hj).2; omega, (O1.out.lt j hj).2⟩, hge, hx7⟩
              obtain ⟨ao7, cap7, hm7⟩ := ms7
              exact ⟨_, ao7, cap7, rfl, hm7⟩
          case rest =>
            obtain ⟨M, ao7, cap7, hp8, hm7⟩ := hcut
            subst hp8
            have MS := Lib.hid hm7
            clear hm7 C0 c0 HS O1 NW
            go_wp2_with fail
            refine (rtext_read B rb _ _ s8 20 wc MS.out.hs.rd (by omega)).mono ?_
            rw [F7.out]
            rintro e w8 ⟨⟨ro8, rc8, rfl, hcv⟩, hp⟩
            simp only at hcv
            obtain ⟨ao8, cap8, hm8⟩ := MS.out.read hp
            have d0 := hm8.bm.cell 0; have d1 := hm8.bm.cell 1; have d2 := hm8.bm.cell 2; have g2 := hm8.bm.free 2
            have k4 := hm8.hs.b1.cell 4
            simp only [List.getElem?_cons_zero, List.getElem?_cons_succ] at d0 d1 d2 k4
            have hNM : ¬ N1 = M := by have := hm8.nm; omega
            have hNM2 : N1 < w8.heap.size := hm8.hs.b1.lt
            have hMl : M < w8.heap.size := hm8.bm.lt
            have hO6 : ∀ W, But (fun j => j = M) w8 W → W.ownsRow 0 100 3 (.slice yo q.length yc) q.length (q.flatMap encRd) := fun W hW => own_but hm8.own hW (fun j hj e => (hm8.new j hj).2.1 e)
            have MS2 := Lib.hid hm8; have O6 := Lib.hid hO6
            clear hp hm8 hO6 MS
            have hql : q.length ≤ 6 := by have := HL.out; omega
            go_wp2_with (at_builtin; go_must (refine wpList_append_at _ rfl _ _ 33 rfl 100 i0 _ 3 40 Tryz.underlying33 hi hz0 hz1 hz2 rfl (by decide) (.slice yo q.length yc) q.length (q.flatMap encRd) rfl (own_ext (O6.out _ (But.set1 _ _ _ _)) ((Below.refl _ _).alloc (Nat.le_refl _) _)) ⟨_, 0, none⟩ 1 1 (encRd ⟨⟨kk.toArray⟩, bl, ⟨val.toArray⟩⟩) rfl rfl (cells_new' (w8.setCell ⟨M, 2, none⟩ (.string ⟨val.toArray⟩)) (encRd ⟨⟨kk.toArray⟩, bl, ⟨val.toArray⟩⟩) _ _ (by simp)) (one_rd _) (by decide) (by unfold maxLen; omega) (by omega) ?_; intro g cap2 w12 hown' hbut hkept; have ha := MSt.app (MS2.out.set 2 (.string ⟨val.toArray⟩)) ((Below.refl _ _).alloc (Nat.le_refl _) _) hbut hkept; have n3 := ha.1.b1.cell 4; have m3 := ha.1.b1.free 4; simp only [List.getElem?_cons_zero, List.getElem?_cons_succ] at n3; have HA := Lib.hid ha; have Y1 := Lib.hid hown'; clear hown' hbut hkept ha))
            go_roundw
            case rel =>
              have hst := HA.out.1.set 4 (.slice (some ⟨g, 0, none⟩) (q.length + 1) cap2)
              simp only [List.set_cons_zero, List.set_cons_succ] at hst
              have hl1 : (readsK ⟨kk.toArray⟩ s6 (k + 1)).1.length = q.length + 1 := by rw [SU.out]; simp
              refine ⟨k + 1, some ⟨g, 0, none⟩, cap2, ao8, cap8, by go_num, by omega, ?_, ?_, ?_, ?_⟩
              · rw [hl1, SU.out]
                have := own_setOther Y1.out (a := ⟨N1, 4, none⟩) (fun e => by have := HA.out.2.1 N1 e; omega) (.slice (some ⟨g, 0, none⟩) (q.length + 1) cap2)
                simp only [List.flatMap_append, List.flatMap_singleton]
                exact this
              · rw [hl1]; exact HA.out.2.1
              · rw [hl1, SU.out]; exact hst
              · rw [hl1]; exact nrows_app AR.out (by omega) HA.out.2.2.1 HA.out.2.2.2 _
            case measure => simp [intOf]; omega
        · have hkm : k = m := by omega
          subst hkm
          have hrs : readsS ⟨kk.toArray⟩ s5 = readsK ⟨kk.toArray⟩ s6 k := by simp [readsS, E5.out]
          generalize hak : readsK ⟨kk.toArray⟩ s6 k = ak at *
          obtain ⟨q, s9⟩ := ak
          obtain ⟨p, s10, e8⟩ : ∃ p s10, flagS s9 = (p, s10) := ⟨_, _, rfl⟩
          obtain ⟨val, s11, e9⟩ : ∃ val s11, rowS 20 s10 = (val, s11) := ⟨_, _, rfl⟩
          have hhold := holdS_eq E1.out E2.out E3.out AS.out hrs e8 e9
          have hdok := holdS_ok s
          rw [hhold] at hdok
          simp only at hdok hown hnew hst har
          have HH := Lib.hid hhold; have HD := Lib.hid hdok; have F8 := Lib.hid e8; have F9 := Lib.hid e9
          have O1 := Lib.hid hown; have NW := Lib.hid hnew; have HS := Lib.hid hst; have AR := Lib.hid har
          clear hrs hak hhold hdok e8 e9 hown hnew hst har
          go_wp2_with fail
          refine (rflag_read B rb cap' ao' s9 wr HS.out.rd).mono ?_
          rw [F8.out]
          rintro e w6 ⟨rfl, hp⟩
          obtain ⟨ao6, cap6, hst⟩ := HS.out.read hp
          have hx6 := hp.2
          have k5 := hst.b1.cell 5; have g5 := hst.b1.free 5
          simp only [List.getElem?_cons_zero, List.getElem?_cons_succ] at k5
          have HS6 := Lib.hid hst; have X6 := Lib.hid hx6
          clear hp hst hx6 HS
          go_wp2_with fail
          have hst := HS6.out.set 5 (.bool p)
          simp only [List.set_cons_zero, List.set_cons_succ] at hst
          clear HS6 k5 g5
          refine (rtext_read B rb cap6 ao6 s10 20 _ hst.rd (by omega)).mono ?_
          rw [F9.out]
          rintro e w7 ⟨⟨ro7, rc7, rfl, hcv⟩, hp⟩
          simp only at hcv
          obtain ⟨ao7, cap7, hst7⟩ := hst.read hp
          have hx7 : But (fun j => j = rb ∨ j = N1) wr w7 := (X6.out.trans (But.set1 w6 N1 5 _) (fun _ _ e => .inl e) (fun _ _ e => .inr e)).trans hp.2 (fun _ _ e => e) (fun _ _ e => .inl e)
          have k6 := hst7.b1.cell 6; have g6 := hst7.b1.free 6
          simp only [List.getElem?_cons_zero, List.getElem?_cons_succ] at k6
          have HS7 := Lib.hid hst7; have X7 := Lib.hid hx7
          clear hp hst hst7 hx7 X6
          go_wp2_with fail
          have hst8 := HS7.out.set 6 (.string ⟨val.toArray⟩)
          simp only [List.set_cons_zero, List.set_cons_succ] at hst8
          have hx8 : But (fun j => j = rb ∨ j = N1) wr (w7.setCell ⟨N1, 6, none⟩ (.string ⟨val.toArray⟩)) := X7.out.trans (But.set1 w7 N1 6 _) (fun _ _ e => e) (fun _ _ e => .inr e)
          clear hcv k6 g6 HS7 X7
          generalize w7.setCell ⟨N1, 6, none⟩ (.string ⟨val.toArray⟩) = w8 at hst8 hx8 ⊢
          have hvr8 := own_but O1.out hx8 (fun j hj e => by have := NW.out j hj; omega)
          have hxis : (HoldV.mk ⟨kk.toArray⟩ c n vo a.length vc yo q.length yc p ⟨val.toArray⟩).is w8 (fun b => b ≤ N1) ⟨⟨kk.toArray⟩, c, n, a, q, p, ⟨val.toArray⟩⟩ := by
            refine ⟨rfl, rfl, rfl, rfl, rfl, rfl, rfl, ?_, ?_⟩
            · exact (AR.out.but hx8 (fun b _ e => .inl (by omega))).mono (fun b _ e => .inl e)
            · exact nrows_of_own (fun _ => rfl) hvr8 (fun j hj e => by have := NW.out j hj; omega)
          have c0 := hst8.b1.cell 0; have c1 := hst8.b1.cell 1; have c2 := hst8.b1.cell 2; have c3 := hst8.b1.cell 3; have c4 := hst8.b1.cell 4; have c5 := hst8.b1.cell 5; have c6 := hst8.b1.cell 6
          have f0 := hst8.b0.free 0; have f1 := hst8.b0.free 1; have f2 := hst8.b0.free 2; have f3 := hst8.b0.free 3; have f4 := hst8.b0.free 4; have f5 := hst8.b0.free 5; have f6 := hst8.b0.free 6
          have r1 := hst8.rd.blk.cell 1
          simp only [List.getElem?_cons_zero, List.getElem?_cons_succ] at c0 c1 c2 c3 c4 c5 c6 r1
          have hne : ¬ N1 = w.heap.size := by have := hst8.n1; omega
          have hnr : ¬ rb = w.heap.size := by have := hst8.n0; omega
          have k0 := ButBy.cell (S := fun j => j = w.heap.size) c0 hne
          have k1 := ButBy.cell (S := fun j => j = w.heap.size) c1 hne
          have k2 := ButBy.cell (S := fun j => j = w.heap.size) c2 hne
          have k3 := ButBy.cell (S := fun j => j = w.heap.size) c3 hne
          have k4 := ButBy.cell (S := fun j => j = w.heap.size) c4 hne
          have k5 := ButBy.cell (S := fun j => j = w.heap.size) c5 hne
          have k6 := ButBy.cell (S := fun j => j = w.heap.size) c6 hne
          have q1 := ButBy.cell (S := fun j => j = w.heap.size) r1 hnr
          have B0 := Lib.hid hst8.b0
          have HB8 := Lib.hid hst8; have XI := Lib.hid hxis
          have BW := Lib.hid ((But.refl (fun j => j = w.heap.size) w8).drew)
          clear hst8 hx8 hvr8 hxis O1 NW AR c0 c1 c2 c3 c4 c5 c6 r1 f0 f1 f2 f3 f4 f5 f6 hne hnr
          have key : ok = false ∨ (ok = true ∧ s11.fl = true) ∨ (ok = true ∧ s11.fl = false) := by cases ok <;> cases s11.fl <;> simp
          rcases key with rfl | ⟨rfl, hfl⟩ | ⟨rfl, hfl⟩
          · refine wp_region_firstC (fun W => ∃ p : ButBy (fun j => j = w.heap.size) w8, W = p.W) [0, 1, 2, 3, 4, 5, 6, 7, 8, 9, 10] 4 (by kernel_rfl) (by kernel_rfl) (fun _ _ _ _ h => h) ⟨⟨w8.drew, BW.out⟩, rfl⟩ ?_
            simp only [opsAt, List.getElem?_toArray, List.getElem?_cons_succ, List.getElem?_cons_zero]
            repeat (go_big_quiet_step (fail))
            refine wpQuiet_nil ?_
            clear k0 k1 k2 k3 k4 k5 k6 q1
            refine wpAnyH_ready (rs := [11]) (by kernel_rfl) (by simp) ?_
            refine AllReadyH.cons rfl (fun K hK => ?_) AllReadyH.nil
            go_simp
            obtain ⟨w9, hw9⟩ : ∃ w9, w9 = w8.drew := ⟨_, rfl⟩
            rw [← hw9]
            have X9 : Hid (But (fun j => j = w.heap.size) w8 w9) := Lib.hid (by rw [hw9]; exact BW.out)
            have B9 : Hid (Blk w9 w.heap.size [.string ⟨#[]⟩, .int .i64 0, .int .i64 0, .slice none 0 0, .slice none 0 0, .bool false, .string ⟨#[]⟩] 35) := Lib.hid (by rw [hw9]; exact B0.out.drew)
            clear hw9
            refine hK.out _ _ ⟨⟨w9, X9.out⟩, rfl⟩ (fun _ => ?_)
            clear hK K
            refine wp_takesC (f := 2) [12] (by kernel_rfl) (fun _ _ _ _ h => h) ⟨⟨w9, X9.out⟩, rfl⟩ ?_
            simp only [opsAt, List.getElem?_toArray, List.getElem?_cons_succ, List.getElem?_cons_zero]
            repeat (go_big_quiet_step (fail))
            refine wpQuiet_nil ?_
            have z0 := B9.out.cell 0; have z1 := B9.out.cell 1; have z2 := B9.out.cell 2; have z3 := B9.out.cell 3; have z4 := B9.out.cell 4; have z5 := B9.out.cell 5; have z6 := B9.out.cell 6
            have f0 := B9.out.free 0; have f1 := B9.out.free 1; have f2 := B9.out.free 2; have f3 := B9.out.free 3; have f4 := B9.out.free 4; have f5 := B9.out.free 5; have f6 := B9.out.free 6
            simp only [List.getElem?_cons_zero, List.getElem?_cons_succ] at z0 z1 z2 z3 z4 z5 z6
            refine wpAnyH_ready (rs := [13]) (by kernel_rfl) (by simp) ?_
            refine AllReadyH.cons rfl (fun K hK => ?_) AllReadyH.nil
            go_simp
            have hb9 : But (fun j => j = w.heap.size) w8 _ := X9.out.trans (but_set7 w9 w.heap.size (.string ⟨kk.toArray⟩) (.int .i64 c) (.int .i64 n) (.slice vo a.length vc) (.slice yo q.length yc) (.bool p) (.string ⟨val.toArray⟩)) (fun _ _ e => e) (fun _ _ e => e)
            have HB9 := Lib.hid hb9
            clear hb9
            refine hK.out _ _ ⟨⟨_, HB9.out⟩, rfl⟩ (fun _ => ?_)
            clear hK K z0 z1 z2 z3 z4 z5 z6 f0 f1 f2 f3 f4 f5 f6
            refine wp_takesC (f := 0) [14] (by kernel_rfl) (fun _ _ _ _ h => h) ⟨⟨_, HB9.out⟩, rfl⟩ ?_
            simp only [opsAt, List.getElem?_toArray, List.getElem?_cons_succ, List.getElem?_cons_zero]
            repeat (go_big_quiet_step (fail))
            refine wpQuiet_nil ?_
            refine wpAnyH_done (by kernel_rfl) ?_ _
            go_wp2_with fail
            refine bodyPost_ret (res_row_tmp rfl _ _ w.heap.size 35 (encHV ⟨⟨kk.toArray⟩, c, n, vo, a.length, vc, yo, q.length, yc, p, ⟨val.toArray⟩⟩) _ rfl (B9.out.set7 (.string ⟨kk.toArray⟩) (.int .i64 c) (.int .i64 n) (.slice vo a.length vc) (.slice yo q.length yc) (.bool p) (.string ⟨val.toArray⟩)) Tryz.underlying35 rfl (by kernel_rfl)) rfl ?_
            refine ⟨⟨_, by rw [HH.out]; rfl, ?_⟩, ⟨ao7, cap7, ?_⟩, ?_⟩
            · rw [HH.out]
              exact (XI.out.but HB9.out (fun b _ e => by subst e; exact Nat.le_of_lt HB8.out.n1)).mono (fun b _ e => by have e2 : b < w.heap.size := e; have := HB8.out.n1; show b ≤ N1; omega)
            · rw [HH.out]
              exact HB8.out.rd.but HB9.out (fun b hb e => by have := HB8.out.hB; omega)
            · exact HB8.out.bt.trans HB9.out (fun _ _ e => e) (fun i hi e => by omega)
          · rw [hfl] at q1
            have HFL := Lib.hid hfl
            clear hfl
            refine wp_region_firstC (fun W => ∃ p : ButBy (fun j => j = w.heap.size) w8, W = p.W) [0, 1, 2, 3, 4, 5, 6, 7, 8, 9, 10] 4 (by kernel_rfl) (by kernel_rfl) (fun _ _ _ _ h => h) ⟨⟨w8.drew, BW.out⟩, rfl⟩ ?_
            simp only [opsAt, List.getElem?_toArray, List.getElem?_cons_succ, List.getElem?_cons_zero]
            repeat (go_big_quiet_step (fail))
            refine wpQuiet_nil ?_
            clear k0 k1 k2 k3 k4 k5 k6 q1
            refine wpAnyH_ready (rs := [11]) (by kernel_rfl) (by simp) ?_
            refine AllReadyH.cons rfl (fun K hK => ?_) AllReadyH.nil
            go_simp
            obtain ⟨w9, hw9⟩ : ∃ w9, w9 = w8.drew := ⟨_, rfl⟩
            rw [← hw9]
            have X9 : Hid (But (fun j => j = w.heap.size) w8 w9) := Lib.hid (by rw [hw9]; exact BW.out)
            have B9 : Hid (Blk w9 w.heap.size [.string ⟨#[]⟩, .int .i64 0, .int .i64 0, .slice none 0 0, .slice none 0 0, .bool false, .string ⟨#[]⟩] 35) := Lib.hid (by rw [hw9]; exact B0.out.drew)
            clear hw9
            refine hK.out _ _ ⟨⟨w9, X9.out⟩, rfl⟩ (fun _ => ?_)
            clear hK K
            refine wp_takesC (f := 2) [12] (by kernel_rfl) (fun _ _ _ _ h => h) ⟨⟨w9, X9.out⟩, rfl⟩ ?_
            simp only [opsAt, List.getElem?_toArray, List.getElem?_cons_succ, List.getElem?_cons_zero]
            repeat (go_big_quiet_step (fail))
            refine wpQuiet_nil ?_
            have z0 := B9.out.cell 0; have z1 := B9.out.cell 1; have z2 := B9.out.cell 2; have z3 := B9.out.cell 3; have z4 := B9.out.cell 4; have z5 := B9.out.cell 5; have z6 := B9.out.cell 6
            have f0 := B9.out.free 0; have f1 := B9.out.free 1; have f2 := B9.out.free 2; have f3 := B9.out.free 3; have f4 := B9.out.free 4; have f5 := B9.out.free 5; have f6 := B9.out.free 6
            simp only [List.getElem?_cons_zero, List.getElem?_cons_succ] at z0 z1 z2 z3 z4 z5 z6
            refine wpAnyH_ready (rs := [13]) (by kernel_rfl) (by simp) ?_
            refine AllReadyH.cons rfl (fun K hK => ?_) AllReadyH.nil
            go_simp
            have hb9 : But (fun j => j = w.heap.size) w8 _ := X9.out.trans (but_set7 w9 w.heap.size (.string ⟨kk.toArray⟩) (.int .i64 c) (.int .i64 n) (.slice vo a.length vc) (.slice yo q.length yc) (.bool p) (.string ⟨val.toArray⟩)) (fun _ _ e => e) (fun _ _ e => e)
            have HB9 := Lib.hid hb9
            clear hb9
            refine hK.out _ _ ⟨⟨_, HB9.out⟩, rfl⟩ (fun _ => ?_)
            clear hK K z0 z1 z2 z3 z4 z5 z6 f0 f1 f2 f3 f4 f5 f6
            refine wp_takesC (f := 0) [14] (by kernel_rfl) (fun _ _ _ _ h => h) ⟨⟨_, HB9.out⟩, rfl⟩ ?_
            simp only [opsAt, List.getElem?_toArray, List.getElem?_cons_succ, List.getElem?_cons_zero]
            repeat (go_big_quiet_step (fail))
            refine wpQuiet_nil ?_
            refine wpAnyH_done (by kernel_rfl) ?_ _
            go_wp2_with fail
            refine bodyPost_ret (res_row_tmp rfl _ _ w.heap.size 35 (encHV ⟨⟨kk.toArray⟩, c, n, vo, a.length, vc, yo, q.length, yc, p, ⟨val.toArray⟩⟩) _ rfl (B9.out.set7 (.string ⟨kk.toArray⟩) (.int .i64 c) (.int .i64 n) (.slice vo a.length vc) (.slice yo q.length yc) (.bool p) (.string ⟨val.toArray⟩)) Tryz.underlying35 rfl (by kernel_rfl)) rfl ?_
            refine ⟨⟨_, by rw [HH.out]; simp only [HFL.out, Bool.not_true, Bool.and_false]; rfl, ?_⟩, ⟨ao7, cap7, ?_⟩, ?_⟩
            · rw [HH.out]
              exact (XI.out.but HB9.out (fun b _ e => by subst e; exact Nat.le_of_lt HB8.out.n1)).mono (fun b _ e => by have e2 : b < w.heap.size := e; have := HB8.out.n1; show b ≤ N1; omega)
            · rw [HH.out]
              exact HB8.out.rd.but HB9.out (fun b hb e => by have := HB8.out.hB; omega)
            · exact HB8.out.bt.trans HB9.out (fun _ _ e => e) (fun i hi e => by omega)
          · rw [hfl] at q1
            have HFL := Lib.hid hfl
            clear hfl
            refine wp_region_firstC (fun W => ∃ p : ButBy (fun j => j = w.heap.size) w8, W = p.W) [0, 1, 2, 3, 4, 5, 6, 7, 8, 9, 10] 4 (by kernel_rfl) (by kernel_rfl) (fun _ _ _ _ h => h) ⟨⟨w8.drew, BW.out⟩, rfl⟩ ?_
            simp only [opsAt, List.getElem?_toArray, List.getElem?_cons_succ, List.getElem?_cons_zero]
            repeat (go_big_quiet_step (fail))
            refine wpQuiet_nil ?_
            clear k0 k1 k2 k3 k4 k5 k6 q1
            refine wpAnyH_ready (rs := [11]) (by kernel_rfl) (by simp) ?_
            refine AllReadyH.cons rfl (fun K hK => ?_) AllReadyH.nil
            go_simp
            refine (refOneH_calls ⟨⟨kk.toArray⟩, c, n, vo, a.length, vc, yo, q.length, yc, p, ⟨val.toArray⟩⟩ _ _ w8.drew (XI.out.ext (Below.refl _ _).drew) HD.out).mono ?_
            rintro e w9 ⟨rfl, h1⟩
            have X9 : Hid (But (fun j => j = w.heap.size) w8 w9) := Lib.hid (BW.out.trans (Ext.but h1 (fun _ => False)) (fun _ _ e => e) (fun _ _ e => e.elim))
            have B9 := Lib.hid (B0.out.drew.ext' h1)
            clear h1
            refine hK.out _ _ ⟨⟨w9, X9.out⟩, rfl⟩ (fun _ => ?_)
            clear hK K
            refine wp_takesC (f := 2) [12] (by kernel_rfl) (fun _ _ _ _ h => h) ⟨⟨w9, X9.out⟩, rfl⟩ ?_
            simp only [opsAt, List.getElem?_toArray, List.getElem?_cons_succ, List.getElem?_cons_zero]
            repeat (go_big_quiet_step (fail))
            refine wpQuiet_nil ?_
            have z0 := B9.out.cell 0; have z1 := B9.out.cell 1; have z2 := B9.out.cell 2; have z3 := B9.out.cell 3; have z4 := B9.out.cell 4; have z5 := B9.out.cell 5; have z6 := B9.out.cell 6
            have f0 := B9.out.free 0; have f1 := B9.out.free 1; have f2 := B9.out.free 2; have f3 := B9.out.free 3; have f4 := B9.out.free 4; have f5 := B9.out.free 5; have f6 := B9.out.free 6
            simp only [List.getElem?_cons_zero, List.getElem?_cons_succ] at z0 z1 z2 z3 z4 z5 z6
            refine wpAnyH_ready (rs := [13]) (by kernel_rfl) (by simp) ?_
            refine AllReadyH.cons rfl (fun K hK => ?_) AllReadyH.nil
            go_simp
            have hb9 : But (fun j => j = w.heap.size) w8 _ := X9.out.trans (but_set7 w9 w.heap.size (.string ⟨kk.toArray⟩) (.int .i64 c) (.int .i64 n) (.slice vo a.length vc) (.slice yo q.length yc) (.bool p) (.string ⟨val.toArray⟩)) (fun _ _ e => e) (fun _ _ e => e)
            have HB9 := Lib.hid hb9
            clear hb9
            refine hK.out _ _ ⟨⟨_, HB9.out⟩, rfl⟩ (fun _ => ?_)
            clear hK K z0 z1 z2 z3 z4 z5 z6 f0 f1 f2 f3 f4 f5 f6
            refine wp_takesC (f := 0) [14] (by kernel_rfl) (fun _ _ _ _ h => h) ⟨⟨_, HB9.out⟩, rfl⟩ ?_
            simp only [opsAt, List.getElem?_toArray, List.getElem?_cons_succ, List.getElem?_cons_zero]
            repeat (go_big_quiet_step (fail))
            refine wpQuiet_nil ?_
            refine wpAnyH_done (by kernel_rfl) ?_ _
            go_wp2_with fail
            refine bodyPost_ret (res_row_tmp rfl _ _ w.heap.size 35 (encHV ⟨⟨kk.toArray⟩, c, n, vo, a.length, vc, yo, q.length, yc, p, ⟨val.toArray⟩⟩) _ rfl (B9.out.set7 (.string ⟨kk.toArray⟩) (.int .i64 c) (.int .i64 n) (.slice vo a.length vc) (.slice yo q.length yc) (.bool p) (.string ⟨val.toArray⟩)) Tryz.underlying35 rfl (by kernel_rfl)) rfl ?_
            refine ⟨⟨_, by rw [HH.out]; simp only [HFL.out, Bool.not_false, Bool.and_true, Bool.true_and]; rfl, ?_⟩, ⟨ao7, cap7, ?_⟩, ?_⟩
            · rw [HH.out]
              exact (XI.out.but HB9.out (fun b _ e => by subst e; exact Nat.le_of_lt HB8.out.n1)).mono (fun b _ e => by have e2 : b < w.heap.size := e; have := HB8.out.n1; show b ≤ N1; omega)
            · rw [HH.out]
              exact HB8.out.rd.but HB9.out (fun b hb e => by have := HB8.out.hB; omega)
            · exact HB8.out.bt.trans HB9.out (fun _ _ e => e) (fun i hi e => by omega)
def RReadPost (B rb : Nat) (r : Option (List HoldD × RSt)) (w : World) (e : Ending) (w' : World) : Prop := match r with
  | none => e = .returned (.tuple #[.slice none 0 0, .bool false]) ∧ But (fun j => j = rb) w w'
  | some (l, s) => (∃ (v : Value) (q : List HoldV), e = .returned (.tuple #[v, .bool true]) ∧ q.length = l.length ∧ w'.ownsRow 0 35 7 v q.length (q.flatMap encHV) ∧ (∀ j, v.ownBlock = some j → w.heap.size ≤ j) ∧ HoldsAre w' (fun b => v.ownBlock = some b ∨ b < w.heap.size) q l) ∧ RRPost B rb s w w'
set_option maxRecDepth 100000 in
set_option maxHeartbeats 3200000 in
theorem refHolds_read (B rb cap : Nat) (ao : Option Addr) (s : RSt) (w : World) (T : RRdr w B rb ao cap s) (hBw : B ≤ w.heap.size) :
    Calls Tryz.prog 30 #[.pointer (some ⟨rb, 0, none⟩)] w (RReadPost B rb (holdsS s) w) := by
  obtain ⟨i0, hi, hz0, hz1, hz2⟩ := info_parts infoHold
  have HT := Lib.hid T
  have hrb := T.old
  clear T
  have hle := numS_le 60 s
  go_enter Tryz.func30, Tryz.ntmps30
  go_wp2_with fail
  refine (rnum_read B rb cap ao s 60 w HT.out (by omega)).mono ?_
  rintro e w1 ⟨rfl, ⟨ao1, cap1, h1⟩, h2⟩
  have H1 := Lib.hid h1; have H2 := Lib.hid h2
  clear h1 h2
  generalize hns : numS 60 s = ns at *
  obtain ⟨n, s1⟩ := ns
  have HN := Lib.hid hns; clear hns
  simp only at hle
  go_wp2_with fail
  go_loopw [5, 6] (fun vo vi wr => ∃ (k : Nat) (q : List HoldV) (ds : List HoldD) (s2 : RSt) (ao' : Option Addr) (cap' : Nat), vi = .int .i64 k ∧ k ≤ n ∧ holdsK s1 k = some (ds, s2) ∧ q.length = k ∧ (k = 0 → vo = .slice none 0 0) ∧ wr.ownsRow 0 35 7 vo q.length (q.flatMap encHV) ∧ (∀ j, vo.ownBlock = some j → w.heap.size ≤ j) ∧ HoldsAre wr (fun b => vo.ownBlock = some b ∨ b < w.heap.size) q ds ∧ RRdr wr B rb ao' cap' s2 ∧ But (fun j => j = rb) w wr) (fun _ vi _ => n - (intOf vi).toNat)
  case atStart => exact ⟨0, [], [], s1, ao1, cap1, rfl, by omega, rfl, rfl, fun _ => rfl, World.ownsRow_nil _ _ _ _, by simp [Value.ownBlock], trivial, H1.out, H2.out⟩
  case round =>
    obtain ⟨k, q, ds, s2, ao', cap', rfl, hk, hks, hq, hv0, hown, hnew, hare, hT, hB⟩ := hrel
    obtain ⟨vo, vc, rfl⟩ := own_slice hown
    have KS := Lib.hid hks; have HQ := Lib.hid hq; have V0 := Lib.hid hv0; have O1 := Lib.hid hown; have N1 := Lib.hid hnew; have A1 := Lib.hid hare; have T1 := Lib.hid hT; have B1 := Lib.hid hB
    clear hks hq hv0 hown hnew hare hT hB
    by_cases hlt : k < n
    · obtain ⟨d, ok, s3, e1⟩ : ∃ d ok s3, holdS s2 = (d, ok, s3) := ⟨_, _, _, rfl⟩
      have E1 := Lib.hid e1; clear e1
      go_wp2_with fail
      refine (refHold_read rb cap' B ao' s2 wr T1.out (Nat.le_trans hBw B1.out.size)).mono ?_
      rw [E1.out]
      rintro e w2 ⟨⟨x, rfl, hx⟩, ⟨ao2, cap2, h1⟩, h2⟩
      simp only at h1 hx
      obtain ⟨gd, hgd⟩ : ∃ gd, gd = (ok && !s3.fl) := ⟨_, rfl⟩
      simp only [← hgd]
      have HGD := Lib.hid hgd
      clear hgd
      obtain ⟨kx, cl, nm, xo, xn, xc, yo, yn, yc, put, value⟩ := x
      have H3 := Lib.hid h1; have H4 := Lib.hid h2; have HX := Lib.hid hx
      clear h1 h2 hx
      simp only [encHV]
      go_wp2_with fail
      have hbox := Blk.new w2 [.string kx, .int .i64 cl, .int .i64 nm, .slice xo xn xc, .slice yo yn yc, .bool put, .string value] 35
      have hxb : Ext w2 (w2.alloc (.cells #[.string kx, .int .i64 cl, .int .i64 nm, .slice xo xn xc, .slice yo yn yc, .bool put, .string value] 35)) := (Below.refl _ w2).alloc (Nat.le_refl _) _
      have hr3 := H3.out.ext hxb
      have hx3 := HX.out.ext hxb
      have hB3 : But (fun j => j = rb) wr (w2.alloc (.cells #[.string kx, .int .i64 cl, .int .i64 nm, .slice xo xn xc, .slice yo yn yc, .bool put, .string value] 35)) := H4.out.alloc _
      have hN2 : wr.heap.size ≤ w2.heap.size := H4.out.size
      generalize w2.alloc (.cells #[.string kx, .int .i64 cl, .int .i64 nm, .slice xo xn xc, .slice yo yn yc, .bool put, .string value] 35) = w3 at hbox hr3 hx3 hB3 ⊢
      generalize w2.heap.size = N at hbox hN2 ⊢
      have hd0 : d.key = kx := hx3.key.symm
      have HB3 := Lib.hid hbox; have HR3 := Lib.hid hr3; have HX3 := Lib.hid hx3; have BB3 := Lib.hid hB3; have HN3 := Lib.hid hN2; have HD0 := Lib.hid hd0
      clear hbox hxb hr3 hx3 hB3 hN2 H3 H4 HX hd0
      cases gd with
      | false =>
        refine wp_region_ext (by kernel_rfl) (by kernel_rfl) ?_
        repeat (go_big_quiet_step (fail))
        refine wpQuiet_nil ?_
        intro w4 hw'
        have hx4 : Ext w3 w4 := by obtain ⟨p, rfl⟩ := hw'; exact p.ext
        go_wp2_with fail
        go_ret2
        rw [holdsS_stop HN.out KS.out hlt (by rw [E1.out]; simp only [← HGD.out]; simp)]
        exact ⟨rfl, (B1.out.trans BB3.out (fun _ _ e => e) (fun _ _ e => e)).trans (Ext.but hx4 (fun _ => False)) (fun _ _ e => e) (fun _ _ e => e.elim)⟩
      | true =>
        have c0 := HB3.out.cell 0
        simp only [List.getElem?_cons_zero] at c0
        have d0 := ExtBy.cell c0
        have hds := HoldsAre.len A1.out
        have key : (k = 0 ∧ nextB ds d = true) ∨ (∃ (j : Nat) (y : HoldV), k = j + 1 ∧ q[j]? = some y ∧ nextB ds d = decide (y.key.data.toList < kx.data.toList)) := by
          rcases Nat.eq_zero_or_pos k with h | h
          · left
            refine ⟨h, ?_⟩
            have : ds = [] := List.eq_nil_of_length_eq_zero (by have := HQ.out; omega)
            rw [this]; rfl
          · right
            have hj : k - 1 < q.length := by have := HQ.out; omega
            refine ⟨k - 1, q[k - 1], by omega, List.getElem?_eq_getElem hj, ?_⟩
            obtain ⟨dy, h1, h2⟩ := A1.out.at (k - 1) _ (List.getElem?_eq_getElem hj)
            have : ds.getLast? = some dy := by rw [List.getLast?_eq_getElem?, show ds.length - 1 = k - 1 from by have := HQ.out; omega]; exact h1
            rw [nextB, this, HD0.out, h2.key]
        have key2 : (k = 0 ∧ nextB ds d = true) ∨ (∃ (j : Nat) (y : HoldV), k = j + 1 ∧ q[j]? = some y ∧ Op.bytesLess y.key.toList kx.toList = true ∧ nextB ds d = true) ∨ (∃ (j : Nat) (y : HoldV), k = j + 1 ∧ q[j]? = some y ∧ Op.bytesLess y.key.toList kx.toList = false ∧ nextB ds d = false) := by
          rcases key with h | ⟨j, y, h1, h2, h3⟩
          · exact .inl h
          · by_cases hlt2 : y.key.data.toList < kx.data.toList
            · exact .inr (.inl ⟨j, y, h1, h2, by rw [Lib.toList_data, Lib.toList_data, bytesLess_eq]; exact decide_eq_true hlt2, by rw [h3]; exact decide_eq_true hlt2⟩)
            · exact .inr (.inr ⟨j, y, h1, h2, by rw [Lib.toList_data, Lib.toList_data, bytesLess_eq]; exact decide_eq_false hlt2, by rw [h3]; exact decide_eq_false hlt2⟩)
        have hix : ∀ (j : Nat) (y : HoldV), k = j + 1 → q[j]? = some y → ∃ gb go, vo = some ⟨gb, go, none⟩ ∧ (∀ p : ExtBy w3, p.W.cell? ⟨gb, go + j * 7, none⟩ = some (.string y.key)) ∧ IntKind.i64.wrap ((k : Int) - 1) = (j : Int) ∧ (0 : Int) ≤ (j : Int) ∧ (j : Int) < (q.length : Int) := by
          intro j y hkj hy
          obtain ⟨ao3, c3, hv, _, _, hr⟩ := Rows.own (enc := encHV) (sz := 7) (fun _ => rfl) O1.out
          simp only [Value.slice.injEq, true_and] at hv
          obtain ⟨rfl, rfl⟩ := hv
          obtain ⟨gb, go, rfl, hgb, hcell⟩ := hr (by intro e; rw [e] at hy; simp at hy)
          have hc := hcell j y hy 0 _ rfl
          have hgr : ¬ gb = rb := by have := N1.out gb rfl; omega
          refine ⟨gb, go, rfl, ExtBy.cell ((BB3.out.cell (p := ⟨gb, _, none⟩) hgb hgr).trans hc), ?_, by omega, by have := HQ.out; omega⟩
          rw [wraps_i64 _ (by omega) (by omega)]; omega
        have HIX := Lib.hid hix
        clear key hix hds
        rcases key2 with ⟨hk0, hnx⟩ | ⟨j, y, hkj, hy, hbl, hnx⟩ | ⟨j, y, hkj, hy, hbl, hnx⟩
        case' inl =>
          have HNX := Lib.hid hnx; have HK0 := Lib.hid hk0
          have t1 : decide (0 < k) = false := by simp; omega
          clear hnx hk0
        case' inr.inl =>
          obtain ⟨gb, go, rfl, d1, hw, j0, j1⟩ := HIX.out j y hkj hy
          have HNX := Lib.hid hnx; have HKJ := Lib.hid hkj
          have t1 : decide (0 < k) = true := by simp; omega
          clear hnx hkj hy
        case' inr.inr =>
          obtain ⟨gb, go, rfl, d1, hw, j0, j1⟩ := HIX.out j y hkj hy
          have HNX := Lib.hid hnx; have HKJ := Lib.hid hkj
          have t1 : decide (0 < k) = true := by simp; omega
          clear hnx hkj hy
        all_goals
          refine wp_region_ext (by kernel_rfl) (by kernel_rfl) ?_
          repeat (go_big_quiet_step (fail))
          refine wpQuiet_nil ?_
          intro w4 hw'
          have hx4 : Ext w3 w4 := by obtain ⟨p, rfl⟩ := hw'; exact p.ext
          have hb4 := HB3.out.ext' hx4
          have X4 := Lib.hid hx4; have HB4 := Lib.hid hb4
          clear hx4 hw' d0 c0 hb4
        · go_wp2_with fail
          go_ret2
          rw [holdsS_stop HN.out KS.out hlt (by rw [E1.out]; simp only [← HGD.out]; simp [HNX.out])]
          exact ⟨rfl, (B1.out.trans BB3.out (fun _ _ e => e) (fun _ _ e => e)).trans (Ext.but X4.out (fun _ => False)) (fun _ _ e => e) (fun _ _ e => e.elim)⟩
        · have hb5 := HB4.out
          have c0 := hb5.cell 0; have c1 := hb5.cell 1; have c2 := hb5.cell 2; have c3 := hb5.cell 3; have c4 := hb5.cell 4; have c5 := hb5.cell 5; have c6 := hb5.cell 6
          simp only [List.getElem?_cons_zero, List.getElem?_cons_succ] at c0 c1 c2 c3 c4 c5 c6
          have hO4 := own_ext (own_but O1.out BB3.out (fun j hj e => by have := N1.out j hj; omega)) X4.out
          have O4 := Lib.hid hO4
          have hql : q.length ≤ 60 := by have := HQ.out; omega
          clear hO4 hb5
          go_wp2_with (at_builtin; go_must (refine wpList_append_at _ rfl _ _ 22 rfl 35 i0 _ 7 104 Tryz.underlying22 hi hz0 hz1 hz2 rfl (by decide) _ q.length (q.flatMap encHV) rfl (own_ext O4.out ((Below.refl _ _).alloc (Nat.le_refl _) _)) ⟨w4.heap.size, 0, none⟩ 1 1 (encHV ⟨kx, cl, nm, xo, xn, xc, yo, yn, yc, put, value⟩) rfl rfl (cells_new w4 (encHV ⟨kx, cl, nm, xo, xn, xc, yo, yn, yc, put, value⟩) _) (one_hold _) (by decide) (by unfold maxLen; omega) (by omega) ?_; intro g cap3 w5 hown' hbut hkept; have Y1 := Lib.hid hown'; have Y2 := Lib.hid hbut; have Y3 := Lib.hid hkept; clear hown' hbut hkept))
          go_roundw
          case rel =>
            have E2 : Ext w4 (w4.alloc (.cells (encHV ⟨kx, cl, nm, xo, xn, xc, yo, yn, yc, put, value⟩).toArray 35)) := (Below.refl _ w4).alloc (Nat.le_refl _) _
            have hsz : wr.heap.size ≤ w4.heap.size := Nat.le_trans BB3.out.size X4.out.size
            have hwr := B1.out.size
            have hlt3 : ∀ j, (Value.slice (some ⟨gb, go, none⟩) q.length vc).ownBlock = some j → j < wr.heap.size := fun j hj => (O1.out.lt j hj).2
            have hb45 : But (fun j => w.heap.size ≤ j) w4 w5 := (Ext.but E2 (fun _ => False)).trans Y2.out (fun _ _ e => e.elim) (fun i _ e => N1.out i e)
            have hks : holdsK s1 (k + 1) = some (ds ++ [d], s3) := by rw [holdsK_some KS.out, E1.out, if_pos (by simp only [← HGD.out]; simp [HNX.out])]
            refine ⟨k + 1, q ++ [⟨kx, cl, nm, xo, xn, xc, yo, yn, yc, put, value⟩], ds ++ [d], s3, ao2, cap2, by go_num, by omega, hks, by rw [List.length_append, HQ.out]; rfl, fun h => absurd h (by omega), ?_, ?_, ?_, (HR3.out.ext X4.out).but hb45 (fun b hb e => by omega), ?_⟩
            · have := Y1.out
              rw [List.length_append, List.flatMap_append]
              simpa using this
            · intro j hj
              rcases Y3.out j hj with e | e
              · exact N1.out j e
              · have e' := Nat.le_trans E2.size e; omega
            · have hq3 : HoldsAre (w4.alloc (.cells (encHV ⟨kx, cl, nm, xo, xn, xc, yo, yn, yc, put, value⟩).toArray 35)) (fun b => (Value.slice (some ⟨gb, go, none⟩) q.length vc).ownBlock = some b ∨ b < w.heap.size) q ds := ((A1.out.but BB3.out (fun b _ e => .inr (by omega))).ext X4.out).ext E2
              have hv3 : HoldsAre (w4.alloc (.cells (encHV ⟨kx, cl, nm, xo, xn, xc, yo, yn, yc, put, value⟩).toArray 35)) (fun b => (Value.slice (some ⟨gb, go, none⟩) q.length vc).ownBlock = some b ∨ b < w.heap.size) [⟨kx, cl, nm, xo, xn, xc, yo, yn, yc, put, value⟩] [d] :=
                ⟨(((HX3.out.ext X4.out).ext E2).mono (fun b _ e => by
                  rcases e with e | e
                  · exact hlt3 b e
                  · omega)), trivial⟩
              have hall := HoldsAre.append hq3 hv3
              have h2 := HoldsAre.mono (no' := fun b => ((Value.slice (some ⟨gb, go, none⟩) q.length vc).ownBlock = some b ∨ b < w.heap.size) ∨ ((Value.slice (some ⟨g, 0, none⟩) (q.length + 1) cap3).ownBlock = some b ∨ b < w.heap.size)) (fun b hb e => by
                rcases e with e | e
                · exact e
                · rcases e with e | e
                  · rcases Y3.out b e with e | e
                    · exact .inl e
                    · exact absurd e (Nat.not_le.2 hb)
                  · exact .inr e) hall
              have h3 := HoldsAre.but Y2.out (fun b _ e => .inl (.inl e)) h2
              exact h3.mono (fun b _ e => .inr e)
            · exact ((B1.out.trans BB3.out (fun _ _ e => e) (fun _ _ e => e)).trans (Ext.but X4.out (fun _ => False)) (U := fun j => j = rb) (fun _ _ e => e) (fun _ _ e => e.elim)).trans hb45 (fun _ _ e => e) (fun i hi e => absurd hi (Nat.not_lt.2 e))
          case measure => simp [intOf]; omega
        · have hb5 := HB4.out
          have c0 := hb5.cell 0; have c1 := hb5.cell 1; have c2 := hb5.cell 2; have c3 := hb5.cell 3; have c4 := hb5.cell 4; have c5 := hb5.cell 5; have c6 := hb5.cell 6
          simp only [List.getElem?_cons_zero, List.getElem?_cons_succ] at c0 c1 c2 c3 c4 c5 c6
          have hO4 := own_ext (own_but O1.out BB3.out (fun j hj e => by have := N1.out j hj; omega)) X4.out
          have O4 := Lib.hid hO4
          have hql : q.length ≤ 60 := by have := HQ.out; omega
          clear hO4 hb5
          go_wp2_with (at_builtin; go_must (refine wpList_append_at _ rfl _ _ 22 rfl 35 i0 _ 7 104 Tryz.underlying22 hi hz0 hz1 hz2 rfl (by decide) _ q.length (q.flatMap encHV) rfl (own_ext O4.out ((Below.refl _ _).alloc (Nat.le_refl _) _)) ⟨w4.heap.size, 0, none⟩ 1 1 (encHV ⟨kx, cl, nm, xo, xn, xc, yo, yn, yc, put, value⟩) rfl rfl (cells_new w4 (encHV ⟨kx, cl, nm, xo, xn, xc, yo, yn, yc, put, value⟩) _) (one_hold _) (by decide) (by unfold maxLen; omega) (by omega) ?_; intro g cap3 w5 hown' hbut hkept; have Y1 := Lib.hid hown'; have Y2 := Lib.hid hbut; have Y3 := Lib.hid hkept; clear hown' hbut hkept))
          go_roundw
          case rel =>
            have E2 : Ext w4 (w4.alloc (.cells (encHV ⟨kx, cl, nm, xo, xn, xc, yo, yn, yc, put, value⟩).toArray 35)) := (Below.refl _ w4).alloc (Nat.le_refl _) _
            have hsz : wr.heap.size ≤ w4.heap.size := Nat.le_trans BB3.out.size X4.out.size
            have hwr := B1.out.size
            have hlt3 : ∀ j, (Value.slice vo q.length vc).ownBlock = some j → j < wr.heap.size := fun j hj => (O1.out.lt j hj).2
            have hb45 : But (fun j => w.heap.size ≤ j) w4 w5 := (Ext.but E2 (fun _ => False)).trans Y2.out (fun _ _ e => e.elim) (fun i _ e => N1.out i e)
            have hks : holdsK s1 (k + 1) = some (ds ++ [d], s3) := by rw [holdsK_some KS.out, E1.out, if_pos (by simp only [← HGD.out]; simp [HNX.out])]
            refine ⟨k + 1, q ++ [⟨kx, cl, nm, xo, xn, xc, yo, yn, yc, put, value⟩], ds ++ [d], s3, ao2, cap2, by go_num, by omega, hks, by rw [List.length_append, HQ.out]; rfl, fun h => absurd h (by omega), ?_, ?_, ?_, (HR3.out.ext X4.out).but hb45 (fun b hb e => by omega), ?_⟩
            · have := Y1.out
              rw [List.length_append, List.flatMap_append]
              simpa using this
            · intro j hj
              rcases Y3.out j hj with e | e
              · exact N1.out j e
              · have e' := Nat.le_trans E2.size e; omega
            · have hq3 : HoldsAre (w4.alloc (.cells (encHV ⟨kx, cl, nm, xo, xn, xc, yo, yn, yc, put, value⟩).toArray 35)) (fun b => (Value.slice vo q.length vc).ownBlock = some b ∨ b < w.heap.size) q ds := ((A1.out.but BB3.out (fun b _ e => .inr (by omega))).ext X4.out).ext E2
              have hv3 : HoldsAre (w4.alloc (.cells (encHV ⟨kx, cl, nm, xo, xn, xc, yo, yn, yc, put, value⟩).toArray 35)) (fun b => (Value.slice vo q.length vc).ownBlock = some b ∨ b < w.heap.size) [⟨kx, cl, nm, xo, xn, xc, yo, yn, yc, put, value⟩] [d] :=
                ⟨(((HX3.out.ext X4.out).ext E2).mono (fun b _ e => by
                  rcases e with e | e
                  · exact hlt3 b e
                  · omega)), trivial⟩
              have hall := HoldsAre.append hq3 hv3
              have h2 := HoldsAre.mono (no' := fun b => ((Value.slice vo q.length vc).ownBlock = some b ∨ b < w.heap.size) ∨ ((Value.slice (some ⟨g, 0, none⟩) (q.length + 1) cap3).ownBlock = some b ∨ b < w.heap.size)) (fun b hb e => by
                rcases e with e | e
                · exact e
                · rcases e with e | e
                  · rcases Y3.out b e with e | e
                    · exact .inl e
                    · exact absurd e (Nat.not_le.2 hb)
                  · exact .inr e) hall
              have h3 := HoldsAre.but Y2.out (fun b _ e => .inl (.inl e)) h2
              exact h3.mono (fun b _ e => .inr e)
            · exact ((B1.out.trans BB3.out (fun _ _ e => e) (fun _ _ e => e)).trans (Ext.but X4.out (fun _ => False)) (U := fun j => j = rb) (fun _ _ e => e) (fun _ _ e => e.elim)).trans hb45 (fun _ _ e => e) (fun i hi e => absurd hi (Nat.not_lt.2 e))
          case measure => simp [intOf]; omega
    · have hkn : k = n := by omega
      subst hkn
      have hS : holdsS s = if s2.fl = true then none else some (ds, s2) := by simp only [holdsS, HN.out, KS.out]
      have h0 : s2.fl = true → q = [] ∧ k = 0 := by
        intro h
        rcases Nat.eq_zero_or_pos k with h0 | h0
        · exact ⟨List.eq_nil_of_length_eq_zero (by rw [HQ.out]; exact h0), h0⟩
        · obtain ⟨j, rfl⟩ : ∃ j, k = j + 1 := ⟨k - 1, by omega⟩
          have := holdsK_live KS.out
          rw [h] at this; cases this
      have HS := Lib.hid hS; have H0 := Lib.hid h0; have HDL := Lib.hid (HoldsAre.len A1.out)
      clear hS h0
      have r1 := T1.out.blk.cell 1
      simp only [List.getElem?_cons_zero, List.getElem?_cons_succ] at r1
      generalize hfl : s2.fl = fl at *
      have HFL := Lib.hid hfl; clear hfl
      cases fl with
      | true =>
        obtain ⟨rfl, hk0⟩ := H0.out rfl
        have hv := V0.out hk0
        simp only [Value.slice.injEq] at hv
        obtain ⟨rfl, -, rfl⟩ := hv
        clear hk0
        go_wp2_with fail
        go_ret2
        rw [HS.out]
        exact ⟨rfl, B1.out⟩
      | false =>
        go_wp2_with fail
        go_ret2
        rw [HS.out]
        exact ⟨⟨_, q, rfl, HDL.out, O1.out, N1.out, A1.out⟩, ⟨ao', cap', T1.out⟩, B1.out⟩
end Go.Proofs.YtdmejbjpbjcfbaaGreatDoor
