/- watershedref02: the document's reader: Flag. -/
import Derived.Test.YtdmejbjpbjcfbaaGreatDoorRefR2
namespace Go.Proofs.YtdmejbjpbjcfbaaGreatDoor
open Go.RowKit

set_option maxRecDepth 100000 in
set_option maxHeartbeats 1600000 in
theorem rflag_read (B rb cap : Nat) (ao : Option Addr) (s : RSt) (w : World) (T : RRdr w B rb ao cap s) : Calls Tryz.prog 141 #[.pointer (some ⟨rb, 0, none⟩)] w fun e w' => e = .returned (.bool (flagS s).1) ∧ RRPost B rb (flagS s).2 w w' := by
  obtain ⟨fl, l⟩ := s
  have HT := Lib.hid T
  have c1 := T.blk.cell 1; have c0 := T.blk.cell 0; have f0 := T.blk.free 0
  simp only [List.getElem?_cons_zero, List.getElem?_cons_succ] at c1 c0
  have hfit := T.fit; have hmx := T.max
  unfold maxLen at hmx
  simp only at hfit
  cases fl with
  | true =>
    clear T
    go_enter Tryz.func141, Tryz.ntmps141
    go_wp2_with fail
    go_ret
    exact ⟨rfl, ⟨_, _, HT.out⟩, But.refl _ _⟩
  | false =>
    cases l with
    | nil =>
      clear T
      go_enter Tryz.func141, Tryz.ntmps141
      go_wp2_with fail
      refine (rfail_calls B rb cap ao _ w HT.out).mono ?_
      rintro e w2 ⟨rfl, hp⟩
      have P1 := Lib.hid hp
      clear hp
      go_wp2_with fail
      go_ret
      exact ⟨rfl, P1.out⟩
    | cons b r =>
      obtain ⟨bb, off, rfl, hb, hno, hcell⟩ := T.row (by simp)
      have cb := hcell 0 b (by simp) 0 _ rfl
      simp only [Nat.zero_mul, Nat.add_zero] at cb
      obtain ⟨m, hm⟩ : ∃ m, m = (b :: r).length := ⟨_, rfl⟩
      have hm1 : 1 ≤ m := by rw [hm]; simp
      obtain ⟨lo, hlo, hs1⟩ := slice_left elemU8 sizeU8 (some ⟨bb, off, none⟩) m cap 1 hm1 (by rw [hm]; exact hfit)
      have hs2 : ∀ W, (Instr.slice 46 (.slice (some ⟨bb, off, none⟩) m cap) (some (.int .i64 1)) none none).run Tryz.prog W = .ok (.slice lo (m - 1) (cap - 1)) W := hs1
      clear hs1
      rw [← hm] at c0 hfit
      have t0 : ((m : Int) == 0) = false := by simp; omega
      have i1 : (0 : Int) < (m : Int) := by omega
      have HLO := Lib.hid hlo; have HM := Lib.hid hm
      clear T hlo hcell hm
      go_enter Tryz.func141, Tryz.ntmps141
      by_cases hb1 : b.toNat ≤ 1
      · have t2 : decide ((1 : Int) < (b.toNat : Int)) = false := by simp; omega
        have HB := Lib.hid hb1; clear hb1
        go_wp2_with fail
        go_ret
        have : flagS ⟨false, b :: r⟩ = (decide (b.toNat = 1), ⟨false, r⟩) := by simp [flagS, HB.out]
        rw [this]
        have hl := HT.out.left 1 (by simp) (lo := lo) (fun h => HLO.out (by rw [HM.out]; exact h))
        rw [← HM.out] at hl
        exact ⟨by by_cases h : b.toNat = 1 <;> simp [h] <;> omega, ⟨lo, cap - 1, hl⟩, (But.refl (fun j => j = rb) w).here rfl _ _⟩
      · have t2 : decide ((1 : Int) < (b.toNat : Int)) = true := by simp; omega
        have HB := Lib.hid hb1; clear hb1
        go_wp2_with fail
        refine (rfail_calls B rb cap _ _ w HT.out).mono ?_
        rintro e w3 ⟨rfl, h1⟩
        have H4 := Lib.hid h1; clear h1
        go_wp2_with fail
        go_ret
        have : flagS ⟨false, b :: r⟩ = (false, RSt.dead) := by simp [flagS, HB.out]
        rw [this]
        exact ⟨rfl, H4.out⟩
end Go.Proofs.YtdmejbjpbjcfbaaGreatDoor
