/- watershedref02: the document's reader: Number. -/
import Derived.Test.YtdmejbjpbjcfbaaGreatDoorRefR
namespace Go.Proofs.YtdmejbjpbjcfbaaGreatDoor
open Go.RowKit

theorem RRdr.left {w : World} {B rb cap : Nat} {ao lo : Option Addr} {s : RSt} (T : RRdr w B rb ao cap s) (n : Nat) (h : n ≤ s.l.length) (hlo : n < s.l.length → ∀ b off, ao = some ⟨b, off, none⟩ → lo = some ⟨b, off + n, none⟩) :
    RRdr (w.setCell ⟨rb, 0, none⟩ (.slice lo (s.l.length - n) (cap - n))) B rb lo (cap - n) ⟨s.fl, s.l.drop n⟩ := by
  have hbut : But (fun j => j = rb) w (w.setCell ⟨rb, 0, none⟩ (.slice lo (s.l.length - n) (cap - n))) := (But.refl (fun j => j = rb) w).here rfl _ _
  have hfit := T.fit; have hmx := T.max
  refine ⟨?_, T.old, ?_, ?_, fun hne => ?_⟩
  · have := T.blk.set 0 (.slice lo (s.l.length - n) (cap - n))
    simpa using this
  · simp only [List.length_drop]; omega
  · unfold maxLen at *; omega
  · have hlt : n < s.l.length := by
      have := List.length_pos_iff.2 hne
      simp only [List.length_drop] at this
      omega
    obtain ⟨b, off, rfl, hb, hno, hc⟩ := T.row (fun e => by rw [e] at hlt; simp at hlt)
    refine ⟨b, off + n, hlo hlt b off rfl, Nat.lt_of_lt_of_le hb hbut.size, hno, fun i x hi j v hj => ?_⟩
    rw [List.getElem?_drop] at hi
    have := hc (n + i) x hi j v hj
    rw [show off + n + i * 1 + j = off + (n + i) * 1 + j from by omega]
    exact (hbut.cell (p := ⟨b, _, none⟩) hb (fun e => hno (.inl e))).trans this
theorem numGo_suf {most : Nat} : ∀ (f k n : Nat) (l : List UInt8) (x : Nat) (r : List UInt8), numGo most f k n l = some (x, r) → ∃ p, l = p ++ r
  | 0, _, _, _, _, _, h => by simp [numGo] at h
  | _ + 1, _, _, [], _, _, h => by simp [numGo] at h
  | f + 1, k, n, b :: l, x, r, h => by
    rw [numGo] at h
    split at h
    · split at h
      · cases h
      · simp only [Option.some.injEq, Prod.mk.injEq] at h
        obtain ⟨_, rfl⟩ := h
        exact ⟨[b], rfl⟩
    · obtain ⟨p, hp⟩ := numGo_suf f _ _ l x r h
      exact ⟨b :: p, by rw [hp]; rfl⟩
theorem numS_get (most : Nat) (hm : most ≤ topN) (l : List UInt8) : numS most ⟨false, l⟩ = if (getN l).2 = 0 ∨ most < (getN l).1 then (0, RSt.dead) else ((getN l).1, ⟨false, l.drop (getN l).2⟩) := by
  rw [numS, if_neg (by simp)]
  simp only
  rw [numGo_top hm, getN]
  cases h : numGo topN 9 0 0 l with
  | none => simp [getT]
  | some y =>
    obtain ⟨x, r⟩ := y
    have h1 := (numGo_le 9 0 0 l x r h).2
    obtain ⟨p, hp⟩ := numGo_suf 9 0 0 l x r h
    have hd : l.drop (l.length - r.length) = r := by
      have : l.length - r.length = p.length := by rw [hp, List.length_append]; omega
      rw [this, hp, List.drop_left]
    simp only [getT, hd]
    by_cases h2 : most < x
    · rw [if_pos h2, if_pos (.inr h2)]
    · rw [if_neg h2, if_neg (by omega)]
theorem getN_le (l : List UInt8) : (getN l).2 ≤ l.length := by
  rw [getN]
  cases numGo topN 9 0 0 l with
  | none => exact Nat.zero_le _
  | some y => exact Nat.sub_le _ _
set_option maxRecDepth 100000 in
set_option maxHeartbeats 1600000 in
theorem rnum_read (B rb cap : Nat) (ao : Option Addr) (s : RSt) (most : Nat) (w : World) (T : RRdr w B rb ao cap s) (hm : most ≤ 4611686018427387903) : Calls Tryz.prog 77 #[.pointer (some ⟨rb, 0, none⟩), .int .i64 most] w fun e w' => e = .returned (.int .i64 (numS most s).1) ∧ RRPost B rb (numS most s).2 w w' := by
  obtain ⟨fl, l⟩ := s
  have HT := Lib.hid T
  have c1 := T.blk.cell 1; have c0 := T.blk.cell 0; have f0 := T.blk.free 0
  simp only [List.getElem?_cons_zero, List.getElem?_cons_succ] at c1 c0
  cases fl with
  | true =>
    clear T
    go_enter Tryz.func77, Tryz.ntmps77
    go_wp2_with fail
    go_ret
    exact ⟨rfl, ⟨_, _, HT.out⟩, But.refl _ _⟩
  | false =>
    have hll : l.length ≤ maxLen := Nat.le_trans T.fit T.max
    clear T
    go_enter Tryz.func77, Tryz.ntmps77
    go_wp2_with fail
    refine (get_calls l ao cap w HT.out.row.rows hll).mono ?_
    rintro e w1 ⟨rfl, rfl⟩
    have hns := Lib.hid (numS_get most hm l)
    have hle := getN_le l
    have hfit := HT.out.fit
    obtain ⟨x, n, hg⟩ : ∃ x n, getN l = (x, n) := ⟨_, _, rfl⟩
    rw [hg] at hns hle ⊢
    clear hg
    simp only at hle hfit ⊢
    unfold maxLen at hll
    by_cases hbad : n = 0 ∨ most < x
    · have hb2 : n = 0 ∨ (¬ n = 0 ∧ most < x) := by omega
      have HB := Lib.hid hbad
      clear hbad
      rcases hb2 with rfl | ⟨h1, h2⟩
      case' inl => have t1 : True := trivial
      case' inr =>
        have t1 : ((n : Int) == 0) = false := by simp; omega
        have t2 : decide (most < x) = true := by simp; omega
      all_goals
        go_wp2_with fail
        refine (rfail_calls B rb cap ao _ w HT.out).mono ?_
        rintro e w2 ⟨rfl, hp⟩
        have P1 := Lib.hid hp
        clear hp
        go_wp2_with fail
        go_ret
        rw [hns.out, if_pos HB.out]
        exact ⟨rfl, P1.out⟩
    · have t1 : ((n : Int) == 0) = false := by simp; omega
      have t2 : decide (most < x) = false := by simp; omega
      obtain ⟨lo, hlo, hs2⟩ := slice_left elemU8 sizeU8 ao l.length cap n hle hfit
      have HLO := Lib.hid hlo
      have HB := Lib.hid hbad
      clear hlo hbad
      go_wp2_with fail
      go_ret
      rw [hns.out, if_neg HB.out]
      exact ⟨rfl, ⟨lo, cap - n, HT.out.left n hle HLO.out⟩, (But.refl (fun j => j = rb) w).here rfl _ _⟩
end Go.Proofs.YtdmejbjpbjcfbaaGreatDoor
