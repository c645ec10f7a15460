/- LentActs, KeptActs, OverActs: a list with marks behind it. -/
import Derived.Test.YtbnclifpdmpjnaaGreatDoorZ03
import Derived.Test.YtbnclifpdmpjnaaGreatDoorZ02
import Derived.Test.YtbnclifpdmpjnaaGreatDoorZ06
import Derived.Test.YtbnclifpdmpjnaaGreatDoorZ05
namespace Go.Proofs.YtbnclifpdmpjnaaGreatDoor
open Go.RowKit
theorem infoLentActs : (Tryz.prog.info? 114).map (fun i => (i.zero, i.size, i.bytes)) = some (some (.agg #[.int .u8 0, .string ⟨#[]⟩, .string ⟨#[]⟩, .int .i64 0]), 4, 48) := by kernel_rfl
theorem oneLentActs : ∀ (x : ActD), ∀ u ∈ encAct x, u.oneCell' = true := by
  intro x u hu
  simp only [encAct, List.mem_cons, List.not_mem_nil, or_false] at hu
  rcases hu with rfl | rfl | rfl | rfl <;> rfl
def markAct (k i : Int) : ActD := ⟨0, markB k i, ⟨#[]⟩, 0⟩
theorem markAct_calls (k i : Int) (w : World) : Calls Tryz.prog 40 #[.int .i64 k, .int .i64 i] w fun e w' => e = .returned (.agg (encAct (markAct k i)).toArray) ∧ Ext w w' := by
  unfold encAct markAct
  go_enter Tryz.func40, Tryz.ntmps40
  go_wp2_with fail
  refine (markText_calls k i _).mono ?_
  rintro e w1 ⟨rfl, hx⟩
  have hb := (Blk.new w [.int .u8 0, .string ⟨#[]⟩, .string ⟨#[]⟩, .int .i64 0] 114).ext' hx
  have hx1 : Ext w w1 := Ext.trans (b := w.alloc (.cells #[.int .u8 0, .string ⟨#[]⟩, .string ⟨#[]⟩, .int .i64 0] 114)) ((Below.refl _ w).alloc (Nat.le_refl _) _) hx
  clear hx
  have c0 := hb.cell 0; have c1 := hb.cell 1; have c2 := hb.cell 2; have c3 := hb.cell 3
  have f0 := hb.free 0; have f1 := hb.free 1; have f2 := hb.free 2; have f3 := hb.free 3
  simp only [List.getElem?_cons_zero, List.getElem?_cons_succ] at c0 c1 c2 c3
  have hlt := hb.lt
  have hb4 := (((hb.set 0 (.int .u8 0)).set 1 (.string (markB k i))).set 2 (.string ⟨#[]⟩)).set 3 (.int .i64 0)
  have hx4 := (((hx1.setCell (p := ⟨w.heap.size, 0, none⟩) (Nat.le_refl _) (.int .u8 0)).setCell (p := ⟨w.heap.size, 1, none⟩) (Nat.le_refl _) (.string (markB k i))).setCell (p := ⟨w.heap.size, 2, none⟩) (Nat.le_refl _) (.string ⟨#[]⟩)).setCell (p := ⟨w.heap.size, 3, none⟩) (Nat.le_refl _) (.int .i64 0)
  simp only [List.set_cons_succ, List.set_cons_zero] at hb4
  have HB := Lib.hid hb4; have HX := Lib.hid hx4
  clear hb hx1 hb4 hx4
  go_wp2_with fail
  have hb4 := HB.out
  have hx4 := HX.out
  clear HB HX c0 c1 c2 c3 f0 f1 f2 f3 hlt
  generalize (((w1.setCell _ _).setCell _ _).setCell _ _).setCell _ _ = W4 at *
  have c0 := hb4.cell 0; have c1 := hb4.cell 1; have c2 := hb4.cell 2; have c3 := hb4.cell 3
  simp only [List.getElem?_cons_zero, List.getElem?_cons_succ] at c0 c1 c2 c3
  exact bodyPost_ret (v := .agg #[.int .u8 0, .string (markB k i), .string ⟨#[]⟩, .int .i64 0]) (by simp [results, Tryz.results40, go_sem, c0, c1, c2, c3]) rfl ⟨rfl, hx4⟩
def marksActs : List ActD := (List.range 12).map fun i : Nat => markAct 1 (i : Int)
theorem marksActs_len : marksActs.length = 12 := by simp [marksActs]
theorem marksActs_at (i : Nat) (h : i < 12) : marksActs[i]? = some (markAct 1 i) := by simp [marksActs, h]
theorem marksActs_succ (k : Nat) (h : k < 12) : marksActs.take (k + 1) = marksActs.take k ++ [markAct 1 k] := by
  rw [List.take_add_one, marksActs_at k h]; rfl
set_option maxRecDepth 100000 in
set_option maxHeartbeats 800000 in
theorem lentActs_calls (l : List ActD) (ao : Option Addr) (cap : Nat) (w : World) (hl : l.length ≤ 1000000) (hr : Rows 4 encAct w.heap.size w ao l) :
    Calls Tryz.prog 18 #[.slice ao l.length cap] w fun e w' => ∃ g cap', e = .returned (.slice (some ⟨g, 0, none⟩) l.length cap') ∧ l.length + 12 ≤ cap' ∧ cap' ≤ maxLen ∧ Rows 4 encAct w'.heap.size w' (some ⟨g, 0, none⟩) (l ++ marksActs) ∧ w.heap.size ≤ g ∧ Ext w w' := by
  obtain ⟨i0, hi, hz0, hz1, hz2⟩ := info_parts infoLentActs
  obtain ⟨w1, hmk, hown1, hg1⟩ := run_make_own (P := Tryz.prog) w w.heap.size 27 114 i0 _ 4 Tryz.underlying27 hi hz0 hz1 .i64 .i64 (l.length + 12) (by rw [hz2]; omega) (by unfold maxLen; omega) (Nat.le_refl _)
  simp only [Int.natCast_add, Int.cast_ofNat_Int] at hmk
  have hx1 : Ext w w1 := ⟨hg1.os, hg1.tape, hg1.output, hg1.size, fun k hk => hg1.block k hk (fun e => by cases e)⟩
  have HR := Lib.hid hr; have O1 := Lib.hid hown1; have X1 := Lib.hid hx1
  clear hr hown1 hx1 hg1
  go_enter Tryz.func18, Tryz.ntmps18
  go_wp2_with (at_builtin; refine wpList_append_rows (enc := encAct) (size := 4) (fun _ => rfl) oneLentActs rfl _ _ 27 rfl 114 i0 _ 48 Tryz.underlying27 hi hz0 hz1 hz2 rfl (by decide) (.slice (some ⟨w.heap.size, 0, none⟩) 0 (l.length + 12)) 0 [] rfl (own_base O1.out (fun _ _ => Nat.zero_le _)) ao l cap rfl ((HR.out.ext X1.out).mono X1.out.size) (by unfold maxLen; omega) (by omega) ?_; intro v2 w2 hown2 hbut2 hkept2; have O2 := Lib.hid hown2; have B2 := Lib.hid hbut2; have K2 := Lib.hid hkept2; clear hown2 hbut2 hkept2)
  have hx2 : Ext w w2 := ((Ext.but X1.out (fun _ => False)).trans B2.out (U := fun j => j = w.heap.size) (fun _ _ e => e.elim) (fun i _ e => by simp [Value.ownBlock] at e; exact e.symm)).ext (fun i hi e => by omega)
  have hn2 : ∀ j, v2.ownBlock = some j → w.heap.size ≤ j := fun j hj => by
    rcases K2.out j hj with e | e
    · simp [Value.ownBlock] at e; omega
    · have := X1.out.size; omega
  have X2 := Lib.hid hx2; have N2 := Lib.hid hn2
  have O2' := Lib.hid (show w2.ownsRow 0 114 4 v2 (l ++ marksActs.take 0).length ((l ++ marksActs.take 0).flatMap encAct) by have := O2.out; simpa using this)
  clear hx2 hn2 hmk
  go_loopw [3, 4] (fun v i wr => ∃ k : Nat, k ≤ 12 ∧ i = .int .i64 k ∧ wr.ownsRow 0 114 4 v (l ++ marksActs.take k).length ((l ++ marksActs.take k).flatMap encAct) ∧ (∀ j, v.ownBlock = some j → w.heap.size ≤ j) ∧ Ext w wr) (fun _ i _ => 12 - (intOf i).toNat)
  case atStart => exact ⟨0, by omega, rfl, O2'.out, N2.out, X2.out⟩
  case round =>
    obtain ⟨k, hk, rfl, hown, hnew, hx⟩ := hrel
    have K1 := Lib.hid hown; have K3 := Lib.hid hnew; have K4 := Lib.hid hx
    clear hown hnew hx
    by_cases hlt : k < 12
    · have hq : (l ++ marksActs.take (k + 1)) = (l ++ marksActs.take k) ++ [markAct 1 k] := by rw [marksActs_succ k hlt, List.append_assoc]
      have hbd : (l ++ marksActs.take k).length ≤ 1000012 := by rw [List.length_append, List.length_take, marksActs_len]; omega
      generalize l ++ marksActs.take k = q at *
      have HQ := Lib.hid hq; clear hq
      go_wp2_with fail
      refine (markAct_calls 1 k wr).mono ?_
      rintro e w3 ⟨rfl, hx3⟩
      have X3 := Lib.hid hx3; clear hx3
      have CN := Lib.hid (cells_new w3 (encAct (markAct 1 k)) 114)
      have E3 : Hid (Ext w3 (w3.alloc (.cells (encAct (markAct 1 k)).toArray 114))) := Lib.hid ((Below.refl _ w3).alloc (Nat.le_refl _) _)
      unfold encAct markAct
      go_wp2_with (at_builtin; refine wpList_append_at _ rfl _ _ 27 rfl 114 i0 _ 4 48 Tryz.underlying27 hi hz0 hz1 hz2 rfl (by decide) _ q.length (q.flatMap encAct) rfl (own_ext (own_ext K1.out X3.out) E3.out) ⟨w3.heap.size, 0, none⟩ 1 1 (encAct (markAct 1 k)) rfl rfl CN.out (oneLentActs _) (by decide) (by unfold maxLen; omega) (by omega) ?_; intro g cap2 w4 hown' hbut hkept; have Y1 := Lib.hid hown'; have Y2 := Lib.hid hbut; have Y3 := Lib.hid hkept; clear hown' hbut hkept)
      go_roundw
      case rel =>
        have hx13 := Ext.trans X3.out E3.out
        refine ⟨k + 1, by omega, by go_num, ?_, ?_, ?_⟩
        · rw [HQ.out]
          have := Y1.out
          rw [List.length_append, List.flatMap_append]
          simpa using this
        · intro j hj
          rcases Y3.out j hj with e | e
          · exact K3.out j e
          · have := K4.out.size; have := X3.out.size; simp at e; omega
        · exact Below.trans K4.out (((Ext.but hx13 (fun _ => False)).trans Y2.out (U := fun j => w.heap.size ≤ j) (fun _ _ e => e.elim) (fun i _ e => K3.out i e)).below K4.out.size (fun _ h => h))
      case measure => simp [intOf]; omega
    · obtain rfl : k = 12 := by omega
      have hall : marksActs.take 12 = marksActs := List.take_of_length_le (by rw [marksActs_len]; exact Nat.le_refl _)
      rw [hall] at K1
      have hlen : (l ++ marksActs).length = l.length + 12 := by rw [List.length_append, marksActs_len]
      rcases own_form K1.out with ⟨rfl, h0⟩ | ⟨g, cap3, rfl⟩
      · omega
      · obtain ⟨ro, rcap, hv, hle, hmax, hrr⟩ := Rows.own (enc := encAct) (sz := 4) (fun _ => rfl) K1.out
        simp only [Value.slice.injEq] at hv
        obtain ⟨rfl, -, rfl⟩ := hv
        have hg := K3.out g rfl
        have R1 := Lib.hid hrr; have R2 := Lib.hid hmax
        have hi0 : (0 : Int) ≤ (l.length : Int) := by omega
        have hi1 : (l.length : Int) ≤ (cap3 : Int) := by omega
        clear hall hrr hmax
        go_wp2_with fail
        go_ret
        exact ⟨g, cap3, rfl, by omega, R2.out, R1.out, hg, K4.out⟩
set_option maxRecDepth 100000 in
set_option maxHeartbeats 1600000 in
theorem keptActs_calls (l : List ActD) (g cap' : Nat) (bo : Option Addr) (cap : Nat) (w : World) (hl : l.length ≤ 1000000) (hc : l.length + 12 ≤ cap') (hm : cap' ≤ maxLen) (hr : Rows 4 encAct w.heap.size w (some ⟨g, 0, none⟩) (l ++ marksActs)) (hq : Rows 4 encAct w.heap.size w bo l) :
    Calls Tryz.prog 12 #[.slice (some ⟨g, 0, none⟩) l.length cap', .slice bo l.length cap] w fun e w' => e = .returned (.bool true) ∧ Ext w w' := by
  have hlen : (l ++ marksActs).length = l.length + 12 := by rw [List.length_append, marksActs_len]
  obtain ⟨g', off', hg', hbg, hcell⟩ := hr (fun e => by rw [e] at hlen; simp at hlen)
  obtain ⟨rfl, rfl⟩ : g = g' ∧ 0 = off' := by simpa using hg'
  have HC := Lib.hid hcell; have HQ := Lib.hid hq; have HL := Lib.hid hlen
  unfold maxLen at hm
  clear hr hg' hcell hq hlen
  have hi0 : (0 : Int) ≤ (l.length : Int) + 12 := by omega
  have hi1 : (l.length : Int) + 12 ≤ (cap' : Int) := by omega
  go_enter Tryz.func12, Tryz.ntmps12
  go_wp2_with fail
  go_loopw [6] (fun i wr => ∃ k : Nat, k ≤ l.length + 12 ∧ i = .int .i64 k ∧ Ext w wr) (fun i _ => l.length + 12 - (intOf i).toNat)
  case atStart => exact ⟨0, by omega, rfl, Below.refl _ _⟩
  case round =>
    obtain ⟨k, hk, rfl, hx⟩ := hrel
    have K1 := Lib.hid hx; clear hx
    have heq := eql_ActD
    by_cases hlt : k < l.length
    · obtain ⟨x, hx⟩ : ∃ x, l[k]? = some x := ⟨_, List.getElem?_eq_getElem hlt⟩
      have hx' : (l ++ marksActs)[k]? = some x := by rw [List.getElem?_append_left hlt]; exact hx
      obtain ⟨b, off, rfl, hb, hcell⟩ := HQ.out (by intro e; rw [e] at hlt; simp at hlt)
      have hcx := hcell k x hx; have hcy := HC.out k x hx'
      have hmove : ∀ j, wr.cell? ⟨b, j, none⟩ = w.cell? ⟨b, j, none⟩ := fun j => K1.out.cell (p := ⟨b, j, none⟩) hb
      have hmove' : ∀ j, wr.cell? ⟨g, j, none⟩ = w.cell? ⟨g, j, none⟩ := fun j => K1.out.cell (p := ⟨g, j, none⟩) hbg
      obtain ⟨kd, ky, vl, nm⟩ := x
      have d0 := ExtBy.cell ((hmove _).trans (hcx 0 _ rfl)); have d1 := ExtBy.cell ((hmove _).trans (hcx 1 _ rfl)); have d2 := ExtBy.cell ((hmove _).trans (hcx 2 _ rfl)); have d3 := ExtBy.cell ((hmove _).trans (hcx 3 _ rfl))
      have c0 := ExtBy.cell ((hmove' _).trans (hcy 0 _ rfl)); have c1 := ExtBy.cell ((hmove' _).trans (hcy 1 _ rfl)); have c2 := ExtBy.cell ((hmove' _).trans (hcy 2 _ rfl)); have c3 := ExtBy.cell ((hmove' _).trans (hcy 3 _ rfl))
      simp only [Nat.add_zero, Nat.zero_add] at d0 d1 d2 d3 c0 c1 c2 c3
      have he : sameActD ⟨kd, ky, vl, nm⟩ ⟨kd, ky, vl, nm⟩ = true := decide_eq_true rfl
      have j0 : (0 : Int) ≤ (k : Int) := by omega
      have j1 : (k : Int) < (l.length : Int) := by omega
      have j2 : (k : Int) < (l.length : Int) + 12 := by omega
      have g1 : decide ((k : Int) < (l.length : Int)) = true := decide_eq_true j1
      have g2 : decide ((l.length : Int) ≤ (k : Int)) = false := decide_eq_false (by omega)
      have g3 : decide (l.length ≤ k) = false := decide_eq_false (by omega)
      clear hx hx' hcell hcx hcy hmove hmove'
      go_wp2_with fail
      refine wp_region_ext (by kernel_rfl) (by kernel_rfl) ?_
      repeat (go_big_quiet_step (fail))
      refine wpQuiet_nil ?_
      intro _ hw'
      obtain ⟨⟨w7, hx7⟩, hw''⟩ := hw'
      have X7 := Lib.hid (Ext.trans K1.out hx7)
      subst hw''
      clear hx7
      go_wp2_with fail
      go_roundw
      case rel => exact ⟨k + 1, by omega, by go_num, X7.out⟩
      case measure => simp [intOf]; omega
    · by_cases hlt2 : k < l.length + 12
      · obtain ⟨j, rfl⟩ : ∃ j, k = l.length + j := ⟨k - l.length, by omega⟩
        have hx' : (l ++ marksActs)[l.length + j]? = some (markAct 1 j) := by rw [List.getElem?_append_right (by omega), Nat.add_sub_cancel_left]; exact marksActs_at j (by omega)
        have hcy := HC.out _ _ hx'
        have hmove' : ∀ j, wr.cell? ⟨g, j, none⟩ = w.cell? ⟨g, j, none⟩ := fun j => K1.out.cell (p := ⟨g, j, none⟩) hbg
        have c0 := ExtBy.cell ((hmove' _).trans (hcy 0 (.int .u8 0) rfl)); have c1 := ExtBy.cell ((hmove' _).trans (hcy 1 (.string (markB 1 j)) rfl)); have c2 := ExtBy.cell ((hmove' _).trans (hcy 2 (.string ⟨#[]⟩) rfl)); have c3 := ExtBy.cell ((hmove' _).trans (hcy 3 (.int .i64 0) rfl))
        simp only [Nat.add_zero, Nat.zero_add] at c0 c1 c2 c3
        have he : sameActD ⟨0, markB 1 j, ⟨#[]⟩, 0⟩ ⟨0, markB 1 j, ⟨#[]⟩, 0⟩ = true := decide_eq_true rfl
        have hc := fun W => markAct_calls 1 j W
        unfold encAct markAct at hc
        have HM := Lib.hid hc
        have j0 : (0 : Int) ≤ (l.length : Int) + (j : Int) := by omega
        have j2 : (l.length : Int) + (j : Int) < (l.length : Int) + 12 := by omega
        have g1 : decide ((l.length : Int) + (j : Int) < (l.length : Int)) = false := decide_eq_false (by omega)
        have g2 : decide ((l.length : Int) ≤ (l.length : Int) + (j : Int)) = true := decide_eq_true (by omega)
        have hw1 : IntKind.i64.wrap ((l.length : Int) + (j : Int) - (l.length : Int)) = (j : Int) := by rw [show (l.length : Int) + (j : Int) - (l.length : Int) = (j : Int) from by omega]; exact IntWalk.i64_in _ (by omega)
        clear hx' hcy hmove' hc
        go_wp2_with fail
        refine wp_region_ext (by kernel_rfl) (by kernel_rfl) ?_
        repeat (go_big_quiet_step ((with_reducible exact Calls.ext_of _ (HM.out _))))
        refine wpQuiet_nil ?_
        intro _ hw'
        obtain ⟨⟨w7, hx7⟩, hw''⟩ := hw'
        have X7 := Lib.hid (Ext.trans K1.out hx7)
        subst hw''
        clear hx7
        go_wp2_with fail
        go_roundw
        case rel => exact ⟨l.length + j + 1, by omega, by go_num, X7.out⟩
        case measure => simp [intOf]; omega
      · go_wp2_with fail
        go_ret
        exact ⟨ret_bool rfl, K1.out⟩
theorem eql_Rd (k1 : ByteArray) (i1 : Bool) (v1 k2 : ByteArray) (i2 : Bool) (v2 : ByteArray) (w : World) :
    (binOp .eql 117 (.agg #[.string k1, .bool i1, .string v1]) (.agg #[.string k2, .bool i2, .string v2])).run Tryz.prog w = .ok (.bool (sameRd k1 i1 v1 k2 i2 v2)) w := by
  unfold sameRd
  have hS : Tryz.prog.underlying 117 = some (.struct (Tryz.prog.fieldsOf 117)) := by kernel_rfl
  have hp : Tryz.prog.stoodInHeld 117 = false := by kernel_rfl
  have u9 := Tryz.underlying9
  have u4 := Tryz.underlying4
  rw [run_eql_struct, show (10000 : Nat) = 9999 + 1 from rfl, run_equalIn_agg w 9999 117 _ _ hS hp]
  simp only [Program.fieldsOf, Tryz.underlying117]
  go_simp
  by_cases h1 : k1 = k2 <;> by_cases h2 : i1 = i2 <;> by_cases h3 : v1 = v2 <;> simp [h1, h2, h3, toList_iff]
theorem infoLentReads : (Tryz.prog.info? 117).map (fun i => (i.zero, i.size, i.bytes)) = some (some (.agg #[.string ⟨#[]⟩, .bool false, .string ⟨#[]⟩]), 3, 40) := by kernel_rfl
theorem oneLentReads : ∀ (x : Rd), ∀ u ∈ encRd x, u.oneCell' = true := by
  intro x u hu
  simp only [encRd, List.mem_cons, List.not_mem_nil, or_false] at hu
  rcases hu with rfl | rfl | rfl <;> rfl
def markRead (k i : Int) : Rd := ⟨markB k i, false, ⟨#[]⟩⟩
theorem markRead_calls (k i : Int) (w : World) : Calls Tryz.prog 41 #[.int .i64 k, .int .i64 i] w fun e w' => e = .returned (.agg (encRd (markRead k i)).toArray) ∧ Ext w w' := by
  unfold encRd markRead
  go_enter Tryz.func41, Tryz.ntmps41
  go_wp2_with fail
  refine (markText_calls k i _).mono ?_
  rintro e w1 ⟨rfl, hx⟩
  have hb := (Blk.new w [.string ⟨#[]⟩, .bool false, .string ⟨#[]⟩] 117).ext' hx
  have hx1 : Ext w w1 := Ext.trans (b := w.alloc (.cells #[.string ⟨#[]⟩, .bool false, .string ⟨#[]⟩] 117)) ((Below.refl _ w).alloc (Nat.le_refl _) _) hx
  clear hx
  have c0 := hb.cell 0; have c1 := hb.cell 1; have c2 := hb.cell 2
  have f0 := hb.free 0; have f1 := hb.free 1; have f2 := hb.free 2
  simp only [List.getElem?_cons_zero, List.getElem?_cons_succ] at c0 c1 c2
  have hlt := hb.lt
  have hb4 := ((hb.set 0 (.string (markB k i))).set 1 (.bool false)).set 2 (.string ⟨#[]⟩)
  have hx4 := ((hx1.setCell (p := ⟨w.heap.size, 0, none⟩) (Nat.le_refl _) (.string (markB k i))).setCell (p := ⟨w.heap.size, 1, none⟩) (Nat.le_refl _) (.bool false)).setCell (p := ⟨w.heap.size, 2, none⟩) (Nat.le_refl _) (.string ⟨#[]⟩)
  simp only [List.set_cons_succ, List.set_cons_zero] at hb4
  have HB := Lib.hid hb4; have HX := Lib.hid hx4
  clear hb hx1 hb4 hx4
  go_wp2_with fail
  have hb4 := HB.out
  have hx4 := HX.out
  clear HB HX c0 c1 c2 f0 f1 f2 hlt
  generalize ((w1.setCell _ _).setCell _ _).setCell _ _ = W4 at *
  have c0 := hb4.cell 0; have c1 := hb4.cell 1; have c2 := hb4.cell 2
  simp only [List.getElem?_cons_zero, List.getElem?_cons_succ] at c0 c1 c2
  exact bodyPost_ret (v := .agg #[.string (markB k i), .bool false, .string ⟨#[]⟩]) (by simp [results, Tryz.results41, go_sem, c0, c1, c2]) rfl ⟨rfl, hx4⟩
def marksReads : List Rd := (List.range 12).map fun i : Nat => markRead 1 (i : Int)
theorem marksReads_len : marksReads.length = 12 := by simp [marksReads]
theorem marksReads_at (i : Nat) (h : i < 12) : marksReads[i]? = some (markRead 1 i) := by simp [marksReads, h]
theorem marksReads_succ (k : Nat) (h : k < 12) : marksReads.take (k + 1) = marksReads.take k ++ [markRead 1 k] := by
  rw [List.take_add_one, marksReads_at k h]; rfl
set_option maxRecDepth 100000 in
set_option maxHeartbeats 800000 in
theorem lentReads_calls (l : List Rd) (ao : Option Addr) (cap : Nat) (w : World) (hl : l.length ≤ 1000000) (hr : Rows 3 encRd w.heap.size w ao l) :
    Calls Tryz.prog 19 #[.slice ao l.length cap] w fun e w' => ∃ g cap', e = .returned (.slice (some ⟨g, 0, none⟩) l.length cap') ∧ l.length + 12 ≤ cap' ∧ cap' ≤ maxLen ∧ Rows 3 encRd w'.heap.size w' (some ⟨g, 0, none⟩) (l ++ marksReads) ∧ w.heap.size ≤ g ∧ Ext w w' := by
  obtain ⟨i0, hi, hz0, hz1, hz2⟩ := info_parts infoLentReads
  obtain ⟨w1, hmk, hown1, hg1⟩ := run_make_own (P := Tryz.prog) w w.heap.size 28 117 i0 _ 3 Tryz.underlying28 hi hz0 hz1 .i64 .i64 (l.length + 12) (by rw [hz2]; omega) (by unfold maxLen; omega) (Nat.le_refl _)
  simp only [Int.natCast_add, Int.cast_ofNat_Int] at hmk
  have hx1 : Ext w w1 := ⟨hg1.os, hg1.tape, hg1.output, hg1.size, fun k hk => hg1.block k hk (fun e => by cases e)⟩
  have HR := Lib.hid hr; have O1 := Lib.hid hown1; have X1 := Lib.hid hx1
  clear hr hown1 hx1 hg1
  go_enter Tryz.func19, Tryz.ntmps19
  go_wp2_with (at_builtin; refine wpList_append_rows (enc := encRd) (size := 3) (fun _ => rfl) oneLentReads rfl _ _ 28 rfl 117 i0 _ 40 Tryz.underlying28 hi hz0 hz1 hz2 rfl (by decide) (.slice (some ⟨w.heap.size, 0, none⟩) 0 (l.length + 12)) 0 [] rfl (own_base O1.out (fun _ _ => Nat.zero_le _)) ao l cap rfl ((HR.out.ext X1.out).mono X1.out.size) (by unfold maxLen; omega) (by omega) ?_; intro v2 w2 hown2 hbut2 hkept2; have O2 := Lib.hid hown2; have B2 := Lib.hid hbut2; have K2 := Lib.hid hkept2; clear hown2 hbut2 hkept2)
  have hx2 : Ext w w2 := ((Ext.but X1.out (fun _ => False)).trans B2.out (U := fun j => j = w.heap.size) (fun _ _ e => e.elim) (fun i _ e => by simp [Value.ownBlock] at e; exact e.symm)).ext (fun i hi e => by omega)
  have hn2 : ∀ j, v2.ownBlock = some j → w.heap.size ≤ j := fun j hj => by
    rcases K2.out j hj with e | e
    · simp [Value.ownBlock] at e; omega
    · have := X1.out.size; omega
  have X2 := Lib.hid hx2; have N2 := Lib.hid hn2
  have O2' := Lib.hid (show w2.ownsRow 0 117 3 v2 (l ++ marksReads.take 0).length ((l ++ marksReads.take 0).flatMap encRd) by have := O2.out; simpa using this)
  clear hx2 hn2 hmk
  go_loopw [3, 4] (fun v i wr => ∃ k : Nat, k ≤ 12 ∧ i = .int .i64 k ∧ wr.ownsRow 0 117 3 v (l ++ marksReads.take k).length ((l ++ marksReads.take k).flatMap encRd) ∧ (∀ j, v.ownBlock = some j → w.heap.size ≤ j) ∧ Ext w wr) (fun _ i _ => 12 - (intOf i).toNat)
  case atStart => exact ⟨0, by omega, rfl, O2'.out, N2.out, X2.out⟩
  case round =>
    obtain ⟨k, hk, rfl, hown, hnew, hx⟩ := hrel
    have K1 := Lib.hid hown; have K3 := Lib.hid hnew; have K4 := Lib.hid hx
    clear hown hnew hx
    by_cases hlt : k < 12
    · have hq : (l ++ marksReads.take (k + 1)) = (l ++ marksReads.take k) ++ [markRead 1 k] := by rw [marksReads_succ k hlt, List.append_assoc]
      have hbd : (l ++ marksReads.take k).length ≤ 1000012 := by rw [List.length_append, List.length_take, marksReads_len]; omega
      generalize l ++ marksReads.take k = q at *
      have HQ := Lib.hid hq; clear hq
      go_wp2_with fail
      refine (markRead_calls 1 k wr).mono ?_
      rintro e w3 ⟨rfl, hx3⟩
      have X3 := Lib.hid hx3; clear hx3
      have CN := Lib.hid (cells_new w3 (encRd (markRead 1 k)) 117)
      have E3 : Hid (Ext w3 (w3.alloc (.cells (encRd (markRead 1 k)).toArray 117))) := Lib.hid ((Below.refl _ w3).alloc (Nat.le_refl _) _)
      unfold encRd markRead
      go_wp2_with (at_builtin; refine wpList_append_at _ rfl _ _ 28 rfl 117 i0 _ 3 40 Tryz.underlying28 hi hz0 hz1 hz2 rfl (by decide) _ q.length (q.flatMap encRd) rfl (own_ext (own_ext K1.out X3.out) E3.out) ⟨w3.heap.size, 0, none⟩ 1 1 (encRd (markRead 1 k)) rfl rfl CN.out (oneLentReads _) (by decide) (by unfold maxLen; omega) (by omega) ?_; intro g cap2 w4 hown' hbut hkept; have Y1 := Lib.hid hown'; have Y2 := Lib.hid hbut; have Y3 := Lib.hid hkept; clear hown' hbut hkept)
      go_roundw
      case rel =>
        have hx13 := Ext.trans X3.out E3.out
        refine ⟨k + 1, by omega, by go_num, ?_, ?_, ?_⟩
        · rw [HQ.out]
          have := Y1.out
          rw [List.length_append, List.flatMap_append]
          simpa using this
        · intro j hj
          rcases Y3.out j hj with e | e
          · exact K3.out j e
          · have := K4.out.size; have := X3.out.size; simp at e; omega
        · exact Below.trans K4.out (((Ext.but hx13 (fun _ => False)).trans Y2.out (U := fun j => w.heap.size ≤ j) (fun _ _ e => e.elim) (fun i _ e => K3.out i e)).below K4.out.size (fun _ h => h))
      case measure => simp [intOf]; omega
    · obtain rfl : k = 12 := by omega
      have hall : marksReads.take 12 = marksReads := List.take_of_length_le (by rw [marksReads_len]; exact Nat.le_refl _)
      rw [hall] at K1
      have hlen : (l ++ marksReads).length = l.length + 12 := by rw [List.length_append, marksReads_len]
      rcases own_form K1.out with ⟨rfl, h0⟩ | ⟨g, cap3, rfl⟩
      · omega
      · obtain ⟨ro, rcap, hv, hle, hmax, hrr⟩ := Rows.own (enc := encRd) (sz := 3) (fun _ => rfl) K1.out
        simp only [Value.slice.injEq] at hv
        obtain ⟨rfl, -, rfl⟩ := hv
        have hg := K3.out g rfl
        have R1 := Lib.hid hrr; have R2 := Lib.hid hmax
        have hi0 : (0 : Int) ≤ (l.length : Int) := by omega
        have hi1 : (l.length : Int) ≤ (cap3 : Int) := by omega
        clear hall hrr hmax
        go_wp2_with fail
        go_ret
        exact ⟨g, cap3, rfl, by omega, R2.out, R1.out, hg, K4.out⟩
set_option maxRecDepth 100000 in
set_option maxHeartbeats 1600000 in
theorem keptReads_calls (l : List Rd) (g cap' : Nat) (bo : Option Addr) (cap : Nat) (w : World) (hl : l.length ≤ 1000000) (hc : l.length + 12 ≤ cap') (hm : cap' ≤ maxLen) (hr : Rows 3 encRd w.heap.size w (some ⟨g, 0, none⟩) (l ++ marksReads)) (hq : Rows 3 encRd w.heap.size w bo l) :
    Calls Tryz.prog 13 #[.slice (some ⟨g, 0, none⟩) l.length cap', .slice bo l.length cap] w fun e w' => e = .returned (.bool true) ∧ Ext w w' := by
  have hlen : (l ++ marksReads).length = l.length + 12 := by rw [List.length_append, marksReads_len]
  obtain ⟨g', off', hg', hbg, hcell⟩ := hr (fun e => by rw [e] at hlen; simp at hlen)
  obtain ⟨rfl, rfl⟩ : g = g' ∧ 0 = off' := by simpa using hg'
  have HC := Lib.hid hcell; have HQ := Lib.hid hq; have HL := Lib.hid hlen
  unfold maxLen at hm
  clear hr hg' hcell hq hlen
  have hi0 : (0 : Int) ≤ (l.length : Int) + 12 := by omega
  have hi1 : (l.length : Int) + 12 ≤ (cap' : Int) := by omega
  go_enter Tryz.func13, Tryz.ntmps13
  go_wp2_with fail
  go_loopw [6] (fun i wr => ∃ k : Nat, k ≤ l.length + 12 ∧ i = .int .i64 k ∧ Ext w wr) (fun i _ => l.length + 12 - (intOf i).toNat)
  case atStart => exact ⟨0, by omega, rfl, Below.refl _ _⟩
  case round =>
    obtain ⟨k, hk, rfl, hx⟩ := hrel
    have K1 := Lib.hid hx; clear hx
    have heq := eql_Rd
    by_cases hlt : k < l.length
    · obtain ⟨x, hx⟩ : ∃ x, l[k]? = some x := ⟨_, List.getElem?_eq_getElem hlt⟩
      have hx' : (l ++ marksReads)[k]? = some x := by rw [List.getElem?_append_left hlt]; exact hx
      obtain ⟨b, off, rfl, hb, hcell⟩ := HQ.out (by intro e; rw [e] at hlt; simp at hlt)
      have hcx := hcell k x hx; have hcy := HC.out k x hx'
      have hmove : ∀ j, wr.cell? ⟨b, j, none⟩ = w.cell? ⟨b, j, none⟩ := fun j => K1.out.cell (p := ⟨b, j, none⟩) hb
      have hmove' : ∀ j, wr.cell? ⟨g, j, none⟩ = w.cell? ⟨g, j, none⟩ := fun j => K1.out.cell (p := ⟨g, j, none⟩) hbg
      obtain ⟨ky, is, vl⟩ := x
      have d0 := ExtBy.cell ((hmove _).trans (hcx 0 _ rfl)); have d1 := ExtBy.cell ((hmove _).trans (hcx 1 _ rfl)); have d2 := ExtBy.cell ((hmove _).trans (hcx 2 _ rfl))
      have c0 := ExtBy.cell ((hmove' _).trans (hcy 0 _ rfl)); have c1 := ExtBy.cell ((hmove' _).trans (hcy 1 _ rfl)); have c2 := ExtBy.cell ((hmove' _).trans (hcy 2 _ rfl))
      simp only [Nat.add_zero, Nat.zero_add] at d0 d1 d2 c0 c1 c2
      have he : sameRd ky is vl ky is vl = true := decide_eq_true rfl
      have j0 : (0 : Int) ≤ (k : Int) := by omega
      have j1 : (k : Int) < (l.length : Int) := by omega
      have j2 : (k : Int) < (l.length : Int) + 12 := by omega
      have g1 : decide ((k : Int) < (l.length : Int)) = true := decide_eq_true j1
      have g2 : decide ((l.length : Int) ≤ (k : Int)) = false := decide_eq_false (by omega)
      have g3 : decide (l.length ≤ k) = false := decide_eq_false (by omega)
      clear hx hx' hcell hcx hcy hmove hmove'
      go_wp2_with fail
      refine wp_region_ext (by kernel_rfl) (by kernel_rfl) ?_
      repeat (go_big_quiet_step (fail))
      refine wpQuiet_nil ?_
      intro _ hw'
      obtain ⟨⟨w7, hx7⟩, hw''⟩ := hw'
      have X7 := Lib.hid (Ext.trans K1.out hx7)
      subst hw''
      clear hx7
      go_wp2_with fail
      go_roundw
      case rel => exact ⟨k + 1, by omega, by go_num, X7.out⟩
      case measure => simp [intOf]; omega
    · by_cases hlt2 : k < l.length + 12
      · obtain ⟨j, rfl⟩ : ∃ j, k = l.length + j := ⟨k - l.length, by omega⟩
        have hx' : (l ++ marksReads)[l.length + j]? = some (markRead 1 j) := by rw [List.getElem?_append_right (by omega), Nat.add_sub_cancel_left]; exact marksReads_at j (by omega)
        have hcy := HC.out _ _ hx'
        have hmove' : ∀ j, wr.cell? ⟨g, j, none⟩ = w.cell? ⟨g, j, none⟩ := fun j => K1.out.cell (p := ⟨g, j, none⟩) hbg
        have c0 := ExtBy.cell ((hmove' _).trans (hcy 0 (.string (markB 1 j)) rfl)); have c1 := ExtBy.cell ((hmove' _).trans (hcy 1 (.bool false) rfl)); have c2 := ExtBy.cell ((hmove' _).trans (hcy 2 (.string ⟨#[]⟩) rfl))
        simp only [Nat.add_zero, Nat.zero_add] at c0 c1 c2
        have he : sameRd (markB 1 j) false ⟨#[]⟩ (markB 1 j) false ⟨#[]⟩ = true := decide_eq_true rfl
        have hc := fun W => markRead_calls 1 j W
        unfold encRd markRead at hc
        have HM := Lib.hid hc
        have j0 : (0 : Int) ≤ (l.length : Int) + (j : Int) := by omega
        have j2 : (l.length : Int) + (j : Int) < (l.length : Int) + 12 := by omega
        have g1 : decide ((l.length : Int) + (j : Int) < (l.length : Int)) = false := decide_eq_false (by omega)
        have g2 : decide ((l.length : Int) ≤ (l.length : Int) + (j : Int)) = true := decide_eq_true (by omega)
        have hw1 : IntKind.i64.wrap ((l.length : Int) + (j : Int) - (l.length : Int)) = (j : Int) := by rw [show (l.length : Int) + (j : Int) - (l.length : Int) = (j : Int) from by omega]; exact IntWalk.i64_in _ (by omega)
        clear hx' hcy hmove' hc
        go_wp2_with fail
        refine wp_region_ext (by kernel_rfl) (by kernel_rfl) ?_
        repeat (go_big_quiet_step ((with_reducible exact Calls.ext_of _ (HM.out _))))
        refine wpQuiet_nil ?_
        intro _ hw'
        obtain ⟨⟨w7, hx7⟩, hw''⟩ := hw'
        have X7 := Lib.hid (Ext.trans K1.out hx7)
        subst hw''
        clear hx7
        go_wp2_with fail
        go_roundw
        case rel => exact ⟨l.length + j + 1, by omega, by go_num, X7.out⟩
        case measure => simp [intOf]; omega
      · go_wp2_with fail
        go_ret
        exact ⟨ret_bool rfl, K1.out⟩
end Go.Proofs.YtbnclifpdmpjnaaGreatDoor
/- SameLines: are two rows of rows the same? -/
namespace Go.Proofs.YtbnclifpdmpjnaaGreatDoor
open Go.RowKit
deriving instance DecidableEq for RowD
end Go.Proofs.YtbnclifpdmpjnaaGreatDoor
/- LentLines, KeptLines, OverLines: a list with marks behind it. -/
namespace Go.Proofs.YtbnclifpdmpjnaaGreatDoor
open Go.RowKit
end Go.Proofs.YtbnclifpdmpjnaaGreatDoor
