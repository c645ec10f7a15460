/- LentHolds: a list of holds lent. -/
import Derived.Test.YtdmejbjpbjcfbaaGreatDoorLentHolds
namespace Go.Proofs.YtdmejbjpbjcfbaaGreatDoor
open Go.RowKit

theorem markHold_calls (k i : Int) (w : World) : Calls Tryz.prog 62 #[.int .i64 k, .int .i64 i] w fun e w' => e = .returned (.agg (encHV (markHoldV k i)).toArray) ∧ Ext w w' := by
  have HB := Lib.hid (Blk.new w [.string ⟨#[]⟩, .int .i64 0, .int .i64 0, .slice none 0 0, .slice none 0 0, .bool false, .string ⟨#[]⟩] 35)
  have HX := Lib.hid (show Ext w (w.alloc (.cells #[.string ⟨#[]⟩, .int .i64 0, .int .i64 0, .slice none 0 0, .slice none 0 0, .bool false, .string ⟨#[]⟩] 35)) from (Below.refl _ w).alloc (Nat.le_refl _) _)
  go_enter Tryz.func62, Tryz.ntmps62
  go_wp2_with fail
  refine (markText_calls k i _).mono ?_
  rintro e w1 ⟨rfl, hx⟩
  have hb := HB.out.ext' hx
  have hx1 := Ext.trans HX.out hx
  have c0 := hb.cell 0; have c1 := hb.cell 1; have c2 := hb.cell 2; have c3 := hb.cell 3; have c4 := hb.cell 4; have c5 := hb.cell 5; have c6 := hb.cell 6
  have f0 := hb.free 0; have f1 := hb.free 1; have f2 := hb.free 2; have f3 := hb.free 3; have f4 := hb.free 4; have f5 := hb.free 5; have f6 := hb.free 6
  simp only [List.getElem?_cons_zero, List.getElem?_cons_succ] at c0 c1 c2 c3 c4 c5 c6
  have HB1 := Lib.hid hb; have HX1 := Lib.hid hx1
  clear hb hx1 hx HB HX
  go_wp2_with fail
  have hx9 := but_set7 w1 w.heap.size (.string (markB k i)) (.int .i64 0) (.int .i64 0) (.slice none 0 0) (.slice none 0 0) (.bool false) (.string ⟨#[]⟩)
  refine bodyPost_ret (results_cell_row rfl _ _ w.heap.size 35 (encHV (markHoldV k i)).toArray (0, 0) _ rfl (HB1.out.set7 (.string (markB k i)) (.int .i64 0) (.int .i64 0) (.slice none 0 0) (.slice none 0 0) (.bool false) (.string ⟨#[]⟩)) Tryz.underlying35 rfl (by kernel_rfl)) rfl ?_
  exact ⟨rfl, ((Ext.but HX1.out (fun _ => False)).trans hx9 (U := fun j => j = w.heap.size) (fun _ _ e => e.elim) (fun _ _ e => e)).ext (fun i hi e => by omega)⟩

/-- The first half: the holds are lent one by one. -/
theorem lent_step {w wr w3 W5 w6 : World} {v v' : Value} {m : List HoldV} {ds : List HoldD} {y : HoldV} {d : HoldD} {n : Nat} {xs : List Value}
    (hL : LentAre wr (fun b => b < w.heap.size ∨ v.ownBlock = some b) m ds) (hy : LentH w3 (fun b => b < wr.heap.size) y d) (hx3 : Ext wr w3) (hx5 : Ext w3 W5)
    (ho : wr.ownsRow 0 35 7 v n xs) (hw : w.heap.size ≤ wr.heap.size) (hb : But (fun k => v.ownBlock = some k) W5 w6) (hk : Kept1 W5 v v') :
    LentAre w6 (fun b => b < w.heap.size ∨ v'.ownBlock = some b) (m ++ [y]) (ds ++ [d]) := by
  have h1 : LentAre W5 (fun b => (b < w.heap.size ∨ v.ownBlock = some b) ∨ v'.ownBlock = some b) m ds := ((hL.ext hx3).ext hx5).mono fun b hb e => by
    rcases e with e | e
    · exact e
    · rcases hk b e with e | e
      · exact .inr e
      · omega
  have h2 : LentH W5 (fun b => (b < w.heap.size ∨ v.ownBlock = some b) ∨ v'.ownBlock = some b) y d := (hy.ext hx5).mono fun b hb e => by
    rcases e with (e | e) | e
    · show b < wr.heap.size; omega
    · exact (ho.lt b e).2
    · rcases hk b e with e | e
      · exact (ho.lt b e).2
      · omega
  exact ((h1.snoc h2).but hb fun b _ e => .inl (.inr e)).mono fun b _ e => e.elim (fun e => .inl (.inl e)) .inr
theorem lent_keep {w wr W5 w6 : World} {v v' : Value} {m : List HoldV} {ds : List HoldD}
    (hL : LentAre wr (fun b => b < w.heap.size ∨ v.ownBlock = some b) m ds) (hx5 : Ext wr W5) (hb : But (fun k => v.ownBlock = some k) W5 w6) (hk : Kept1 W5 v v') :
    LentAre w6 (fun b => b < w.heap.size ∨ v'.ownBlock = some b) m ds := by
  have h1 : LentAre W5 (fun b => (b < w.heap.size ∨ v.ownBlock = some b) ∨ v'.ownBlock = some b) m ds := (hL.ext hx5).mono fun b hb e => by
    rcases e with e | e
    · exact e
    · rcases hk b e with e | e
      · exact .inr e
      · omega
  exact (h1.but hb fun b _ e => .inl (.inr e)).mono fun b _ e => e.elim (fun e => .inl (.inl e)) .inr
theorem own_step {w wr W5 w6 : World} {v v' : Value} (hn : ∀ j, v.ownBlock = some j → w.heap.size ≤ j) (hx : Ext w wr) (hx5 : Ext wr W5) (hb : But (fun k => v.ownBlock = some k) W5 w6) (hk : Kept1 W5 v v') :
    (∀ j, v'.ownBlock = some j → w.heap.size ≤ j) ∧ Ext w w6 := by
  have hs := hx.size; have hs5 := hx5.size
  refine ⟨fun j hj => ?_, ?_⟩
  · rcases hk j hj with e | e
    · exact hn j e
    · omega
  · exact ((Ext.but (Ext.trans hx hx5) (fun _ => False)).trans hb (U := fun j => w.heap.size ≤ j) (fun _ _ e => e.elim) (fun i _ e => hn i e)).ext (fun _ hi e => absurd hi (Nat.not_lt.2 e))
set_option maxRecDepth 100000 in
set_option maxHeartbeats 1600000 in
theorem lentHolds_calls (l : List HoldV) (ds : List HoldD) (ao : Option Addr) (cap : Nat) (w : World) (hl : l.length ≤ 1000000) (hr : Rows 7 encHV w.heap.size w ao l) (hd : HoldsAre w (fun _ => False) l ds) (hfit : ∀ d ∈ ds, d.fits) :
    Calls Tryz.prog 19 #[.slice ao l.length cap] w fun e w' => ∃ (g cap' : Nat) (m : List HoldV), e = .returned (.slice (some ⟨g, 0, none⟩) m.length cap') ∧ m.length + 12 ≤ cap' ∧ cap' ≤ maxLen ∧ Rows 7 encHV w'.heap.size w' (some ⟨g, 0, none⟩) (m ++ marksHolds) ∧ w.heap.size ≤ g ∧ LentAre w' (fun b => b < w.heap.size ∨ b = g) m ds ∧ Ext w w' := by
  obtain ⟨i0, hi, hz0, hz1, hz2⟩ := info_parts infoHold
  obtain ⟨w1, hmk, hown1, hg1⟩ := run_make_own (P := Tryz.prog) w w.heap.size 22 35 i0 _ 7 Tryz.underlying22 hi hz0 hz1 .i64 .i64 (l.length + 12) (by rw [hz2]; omega) (by unfold maxLen; omega) (Nat.le_refl _)
  simp only [Int.natCast_add, Int.cast_ofNat_Int] at hmk
  have hx1 : Ext w w1 := ⟨hg1.os, hg1.tape, hg1.output, hg1.size, fun k hk => hg1.block k hk (fun e => by cases e)⟩
  have HDL := Lib.hid hd.len
  have HR := Lib.hid hr; have HD := Lib.hid hd; have HF := Lib.hid hfit; have O1 := Lib.hid (own_base (B' := 0) hown1 (fun _ _ => Nat.zero_le _)); have X1 := Lib.hid hx1
  clear hr hown1 hx1 hg1 hd hfit
  go_enter Tryz.func19, Tryz.ntmps19
  go_wp2_with fail
  go_loopw [3, 4] (fun v i wr => ∃ (k : Nat) (m : List HoldV), k ≤ l.length ∧ i = .int .i64 k ∧ m.length = k ∧ wr.ownsRow 0 35 7 v m.length (m.flatMap encHV) ∧ (∀ j, v.ownBlock = some j → w.heap.size ≤ j) ∧ LentAre wr (fun b => b < w.heap.size ∨ v.ownBlock = some b) m (ds.take k) ∧ Ext w wr) (fun _ i _ => l.length - (intOf i).toNat)
  case atStart => exact ⟨0, [], by omega, rfl, rfl, O1.out, by simp [Value.ownBlock], ⟨rfl, fun i v d h => by simp at h⟩, X1.out⟩
  case round =>
    obtain ⟨k, m, hk, rfl, hml, hown, hnew, hL, hx⟩ := hrel
    have K1 := Lib.hid hown; have K2 := Lib.hid hnew; have K3 := Lib.hid hL; have K4 := Lib.hid hx; have K5 := Lib.hid hml
    clear hown hnew hL hx hml
    by_cases hlt : k < l.length
    · obtain ⟨x, hx⟩ : ∃ x, l[k]? = some x := ⟨_, List.getElem?_eq_getElem hlt⟩
      obtain ⟨d, hdk, hxd⟩ := HD.out.at k x hx
      obtain ⟨b, off, rfl, hbb, hcell⟩ := HR.out (by intro e; rw [e] at hlt; simp at hlt)
      have hcx := hcell k x hx
      have hmove : ∀ j, wr.cell? ⟨b, j, none⟩ = w.cell? ⟨b, j, none⟩ := fun j => K4.out.cell (p := ⟨b, j, none⟩) hbb
      have HC := Lib.hid (lentHold_calls x d wr (hxd.ext K4.out) (HF.out d (List.mem_of_getElem? hdk)).1 (HF.out d (List.mem_of_getElem? hdk)).2)
      obtain ⟨key, cl, nm, xo, xn, xc, yo, yn, yc, put, value⟩ := x
      simp only [encHV] at HC
      have d0 := (hmove _).trans (hcx 0 _ rfl); have d1 := (hmove _).trans (hcx 1 _ rfl); have d2 := (hmove _).trans (hcx 2 _ rfl); have d3 := (hmove _).trans (hcx 3 _ rfl); have d4 := (hmove _).trans (hcx 4 _ rfl); have d5 := (hmove _).trans (hcx 5 _ rfl); have d6 := (hmove _).trans (hcx 6 _ rfl)
      simp only [Nat.add_zero] at d0
      have hdt : ds.take (k + 1) = ds.take k ++ [d] := by rw [List.take_add_one, hdk]; rfl
      have HDT := Lib.hid hdt
      have ii0 : (0 : Int) ≤ (k : Int) := by omega
      have ii1 : (k : Int) < (l.length : Int) := by omega
      clear hx hdk hxd hcell hcx hmove hdt hmk
      go_wp2_with fail
      refine HC.out.mono ?_
      rintro e w3 ⟨y, rfl, hy, hx3⟩
      have Y0 := Lib.hid hy; have X3 := Lib.hid hx3
      clear hy hx3 HC
      have hmk5 := K5.out
      have CN := Lib.hid (cells_new' (w3.alloc (.cells (encHV y).toArray 35)) (encHV y) 35 (w3.heap.size + 1) (by simp))
      have E3 : Hid (Ext w3 ((w3.alloc (.cells (encHV y).toArray 35)).alloc (.cells (encHV y).toArray 35))) := Lib.hid (((Below.refl _ w3).alloc (Nat.le_refl _) _).alloc (by simp) _)
      obtain ⟨key', cl', nm', xo', xn', xc', yo', yn', yc', put', value'⟩ := y
      simp only [encHV] at CN E3 ⊢
      go_wp2_with (at_builtin; go_must (refine wpList_append_at _ rfl _ _ 22 rfl 35 i0 _ 7 104 Tryz.underlying22 hi hz0 hz1 hz2 rfl (by decide) _ m.length (m.flatMap encHV) rfl (own_ext (own_ext K1.out X3.out) E3.out) ⟨_, 0, none⟩ 1 1 (encHV ⟨key', cl', nm', xo', xn', xc', yo', yn', yc', put', value'⟩) rfl rfl CN.out (one_hold _) (by decide) (by unfold maxLen; omega) (by omega) ?_; intro g cap2 w6 hown' hbut hkept; have Y1 := Lib.hid hown'; have Y2 := Lib.hid hbut; have Y3 := Lib.hid hkept; clear hown' hbut hkept))
      go_roundw
      case rel =>
        have hos := own_step K2.out K4.out (Ext.trans X3.out E3.out) Y2.out Y3.out
        refine ⟨k + 1, m ++ [⟨key', cl', nm', xo', xn', xc', yo', yn', yc', put', value'⟩], by omega, by go_num, by rw [List.length_append, hmk5]; rfl, ?_, hos.1, ?_, hos.2⟩
        · have := Y1.out
          rw [List.length_append, List.flatMap_append]
          simpa [hmk5] using this
        · rw [HDT.out]
          exact lent_step K3.out Y0.out X3.out E3.out K1.out K4.out.size Y2.out Y3.out
      case measure => simp [intOf]; omega
    · obtain rfl : k = l.length := by omega
      have hds : ds.take l.length = ds := List.take_of_length_le (by have := HDL.out; omega)
      rw [hds] at K3
      clear hds hmk
      have hm0 : (m ++ marksHolds.take 0) = m := by simp
      have K1' := Lib.hid (show wr.ownsRow 0 35 7 u3 (m ++ marksHolds.take 0).length ((m ++ marksHolds.take 0).flatMap encHV) by rw [hm0]; exact K1.out)
      clear hm0 K1
      go_wp2_with fail
      go_loopw [3, 6] (fun v i wr => ∃ k : Nat, k ≤ 12 ∧ i = .int .i64 k ∧ wr.ownsRow 0 35 7 v (m ++ marksHolds.take k).length ((m ++ marksHolds.take k).flatMap encHV) ∧ (∀ j, v.ownBlock = some j → w.heap.size ≤ j) ∧ LentAre wr (fun b => b < w.heap.size ∨ v.ownBlock = some b) m ds ∧ Ext w wr) (fun _ i _ => 12 - (intOf i).toNat)
      case atStart => exact ⟨0, by omega, rfl, K1'.out, K2.out, K3.out, K4.out⟩
      case round =>
        obtain ⟨k, hk, rfl, hown, hnew, hL, hx⟩ := hrel
        have L1 := Lib.hid hown; have L2 := Lib.hid hnew; have L3 := Lib.hid hL; have L4 := Lib.hid hx
        clear hown hnew hL hx K1' K2 K3 K4
        by_cases hlt : k < 12
        · have hq : (m ++ marksHolds.take (k + 1)) = (m ++ marksHolds.take k) ++ [markHoldV 1 k] := by rw [marksHolds_succ k hlt, List.append_assoc]
          have hbd : (m ++ marksHolds.take k).length ≤ 1000012 := by have := K5.out; rw [List.length_append, List.length_take, marksHolds_len]; omega
          generalize m ++ marksHolds.take k = q at *
          have HQ := Lib.hid hq; clear hq
          have hmc := fun W => markHold_calls 1 k W
          have HMC := Lib.hid hmc; clear hmc
          have hmv : encHV (markHoldV 1 k) = [.string (markB 1 k), .int .i64 0, .int .i64 0, .slice none 0 0, .slice none 0 0, .bool false, .string ⟨#[]⟩] := rfl
          have hone := one_hold (markHoldV 1 k)
          rw [hmv] at HMC hone
          have HMV := Lib.hid hmv; have HONE := Lib.hid hone
          clear hmv hone
          go_wp2_with fail
          refine (HMC.out _).mono ?_
          rintro e w3 ⟨rfl, hx3⟩
          have X3 := Lib.hid hx3; clear hx3
          have CN := Lib.hid (cells_new w3 [.string (markB 1 k), .int .i64 0, .int .i64 0, .slice none 0 0, .slice none 0 0, .bool false, .string ⟨#[]⟩] 35)
          have E3 : Hid (Ext w3 (w3.alloc (.cells #[.string (markB 1 k), .int .i64 0, .int .i64 0, .slice none 0 0, .slice none 0 0, .bool false, .string ⟨#[]⟩] 35))) := Lib.hid ((Below.refl _ w3).alloc (Nat.le_refl _) _)
          go_wp2_with (at_builtin; go_must (refine wpList_append_at _ rfl _ _ 22 rfl 35 i0 _ 7 104 Tryz.underlying22 hi hz0 hz1 hz2 rfl (by decide) _ q.length (q.flatMap encHV) rfl (own_ext (own_ext L1.out X3.out) E3.out) ⟨w3.heap.size, 0, none⟩ 1 1 [.string (markB 1 k), .int .i64 0, .int .i64 0, .slice none 0 0, .slice none 0 0, .bool false, .string ⟨#[]⟩] rfl rfl CN.out HONE.out (by decide) (by unfold maxLen; omega) (by omega) ?_; intro g cap2 w6 hown' hbut hkept; have Y1 := Lib.hid hown'; have Y2 := Lib.hid hbut; have Y3 := Lib.hid hkept; clear hown' hbut hkept))
          go_roundw
          case rel =>
            have hos := own_step L2.out L4.out (Ext.trans X3.out E3.out) Y2.out Y3.out
            refine ⟨k + 1, by omega, by go_num, ?_, hos.1, lent_keep L3.out (Ext.trans X3.out E3.out) Y2.out Y3.out, hos.2⟩
            rw [HQ.out]
            have := Y1.out
            rw [List.length_append, List.flatMap_append, List.flatMap_singleton, HMV.out]
            simpa using this
          case measure => simp [intOf]; omega
        · obtain rfl : k = 12 := by omega
          have hall : marksHolds.take 12 = marksHolds := List.take_of_length_le (by rw [marksHolds_len]; exact Nat.le_refl _)
          rw [hall] at L1
          have hlen : (m ++ marksHolds).length = m.length + 12 := by rw [List.length_append, marksHolds_len]
          rcases own_form L1.out with ⟨rfl, h0⟩ | ⟨g, cap3, rfl⟩
          · omega
          · obtain ⟨ro, rcap, hv, hle, hmax, hrr⟩ := Rows.own (enc := encHV) (sz := 7) (fun _ => rfl) L1.out
            simp only [Value.slice.injEq] at hv
            obtain ⟨rfl, -, rfl⟩ := hv
            have hg := L2.out g rfl
            have R1 := Lib.hid hrr; have R2 := Lib.hid hmax
            have hi0 : (0 : Int) ≤ (m.length : Int) := by omega
            have hi1 : (m.length : Int) ≤ (cap3 : Int) := by omega
            have K5' := K5.out
            rw [K5'] at hi1
            have K6 := Lib.hid K5'
            clear hall hrr hmax K5'
            go_wp2_with fail
            go_ret
            exact ⟨g, cap3, m, (by rw [K6.out]; rfl), by omega, R2.out, R1.out, hg, L3.out.mono (fun b _ e => e.elim .inl (fun e => .inr (by rw [e]; rfl))), L4.out⟩
end Go.Proofs.YtdmejbjpbjcfbaaGreatDoor
