/- KeptHold(s): what was lent stayed, the marks too; SameBytes. -/
import Derived.Test.YtdmejbjpbjcfbaaGreatDoorLentHolds2
namespace Go.Proofs.YtdmejbjpbjcfbaaGreatDoor
open Go.RowKit

set_option maxRecDepth 100000 in
set_option maxHeartbeats 1600000 in
theorem keptHold_calls (x y : HoldV) (d : HoldD) (no no' : Nat → Prop) (w : World) (hx : LentH w no x d) (hy : y.is w no' d) (ha : d.acts.length ≤ 1000000) (hr : d.reads.length ≤ 1000000) :
    Calls Tryz.prog 73 #[.agg (encHV x).toArray, .agg (encHV y).toArray] w fun e w' => e = .returned (.bool true) ∧ Ext w w' := by
  obtain ⟨hxi, hxa, hxr, ⟨ga, hga⟩, ⟨gr, hgr⟩, ⟨ac1, ac2⟩, ⟨rc1, rc2⟩⟩ := hx
  have HS : Hid (∀ W, Ext w W → Calls Tryz.prog 18 #[.agg (encHV x).toArray, .agg (encHV y).toArray] W fun e w' => e = .returned (.bool true) ∧ Ext W w') := Lib.hid (fun W hW => sameHold_calls x y d no no' W (hxi.ext hW) (hy.ext hW) ha hr)
  obtain ⟨key, cl, nm, xo, xn, xc, yo, yn, yc, put, value⟩ := x
  obtain ⟨key2, cl2, nm2, xo2, xn2, xc2, yo2, yn2, yc2, put2, value2⟩ := y
  obtain ⟨key', cl', nm', acts, reads, put', value'⟩ := d
  obtain ⟨e1, e2, e3, e4, e5, e6, e7, -, -⟩ := hxi
  obtain ⟨f1, f2, f3, f4, f5, f6, f7, a2, r2⟩ := hy
  simp only at e1 e2 e3 e4 e5 e6 e7 f1 f2 f3 f4 f5 f6 f7 hxa hxr a2 r2 ha hr hga hgr ac1 ac2 rc1 rc2
  subst e1 e2 e3 e4 e5 e6 e7 f1 f2 f3 f4 f5 f6 f7 hga hgr
  have hw : ∃ w2, w2 = (w.alloc (.cells #[.string key2, .int .i64 cl2, .int .i64 nm2, .slice (some ⟨ga, 0, none⟩) acts.length xc, .slice (some ⟨gr, 0, none⟩) reads.length yc, .bool put2, .string value2] 35)).alloc (.cells #[.string key2, .int .i64 cl2, .int .i64 nm2, .slice xo2 acts.length xc2, .slice yo2 reads.length yc2, .bool put2, .string value2] 35) ∧ Ext w w2 ∧ Blk w2 w.heap.size [.string key2, .int .i64 cl2, .int .i64 nm2, .slice (some ⟨ga, 0, none⟩) acts.length xc, .slice (some ⟨gr, 0, none⟩) reads.length yc, .bool put2, .string value2] 35 ∧ Blk w2 (w.heap.size + 1) [.string key2, .int .i64 cl2, .int .i64 nm2, .slice xo2 acts.length xc2, .slice yo2 reads.length yc2, .bool put2, .string value2] 35 := by
    refine ⟨_, rfl, ((Below.refl _ w).alloc (Nat.le_refl _) _).alloc (by simp) _, (Blk.new w _ _).alloc _, ?_⟩
    have := Blk.new (w.alloc (.cells #[.string key2, .int .i64 cl2, .int .i64 nm2, .slice (some ⟨ga, 0, none⟩) acts.length xc, .slice (some ⟨gr, 0, none⟩) reads.length yc, .bool put2, .string value2] 35)) [.string key2, .int .i64 cl2, .int .i64 nm2, .slice xo2 acts.length xc2, .slice yo2 reads.length yc2, .bool put2, .string value2] 35
    rwa [World.size_alloc] at this
  obtain ⟨w2, e2, x2, b1, b2⟩ := hw
  have HA : Hid (∀ W, Ext w W → Calls Tryz.prog 131 #[.slice (some ⟨ga, 0, none⟩) acts.length xc, .slice xo2 acts.length xc2] W fun e w' => e = .returned (.bool true) ∧ Ext W w') := Lib.hid (fun W (hW : Ext w W) => keptActs_calls acts ga xc xo2 xc2 W ha ac1 ac2 ((hxa.rows.ext hW).mono hW.size) ((a2.rows.ext hW).mono hW.size))
  have HR : Hid (∀ W, Ext w W → Calls Tryz.prog 132 #[.slice (some ⟨gr, 0, none⟩) reads.length yc, .slice yo2 reads.length yc2] W fun e w' => e = .returned (.bool true) ∧ Ext W w') := Lib.hid (fun W (hW : Ext w W) => keptReads_calls reads gr yc yo2 yc2 W hr rc1 rc2 ((hxr.rows.ext hW).mono hW.size) ((r2.rows.ext hW).mono hW.size))
  have E2 := Lib.hid e2; have X2 := Lib.hid x2; have B1 := Lib.hid b1; have B2 := Lib.hid b2
  have k0 := b1.cell 0; have k1 := b1.cell 1; have k2 := b1.cell 2; have k3 := b1.cell 3; have k4 := b1.cell 4; have k5 := b1.cell 5; have k6 := b1.cell 6
  have q0 := b2.cell 0; have q1 := b2.cell 1; have q2 := b2.cell 2; have q3 := b2.cell 3; have q4 := b2.cell 4; have q5 := b2.cell 5; have q6 := b2.cell 6
  simp only [List.getElem?_cons_zero, List.getElem?_cons_succ] at k0 k1 k2 k3 k4 k5 k6 q0 q1 q2 q3 q4 q5 q6
  clear e2 x2 b1 b2 a2 r2 hxa hxr ac1 ac2 rc1 rc2 k0 k1 k2 k3 k4 k5 k6 q0 q1 q2 q3 q4 q5 q6
  simp only [encHV] at HS ⊢
  go_enter Tryz.func73, Tryz.ntmps73
  go_wp2_with fail
  rw [← E2.out]
  refine (HS.out w2 X2.out).mono ?_
  rintro e w3 ⟨rfl, hx3⟩
  have c3 := (B1.out.ext' hx3).cell 3; have g3 := (B2.out.ext' hx3).cell 3
  simp only [List.getElem?_cons_zero, List.getElem?_cons_succ] at c3 g3
  have X3 := Lib.hid hx3
  clear hx3
  go_wp2_with fail
  refine (HA.out w3 (Ext.trans X2.out X3.out)).mono ?_
  rintro e w4 ⟨rfl, hx4⟩
  have hx34 := Ext.trans X3.out hx4
  have c4 := (B1.out.ext' hx34).cell 4; have g4 := (B2.out.ext' hx34).cell 4
  simp only [List.getElem?_cons_zero, List.getElem?_cons_succ] at c4 g4
  have X4 := Lib.hid (Ext.trans X2.out hx34)
  clear hx4 hx34
  go_wp2_with fail
  refine (HR.out w4 X4.out).mono ?_
  rintro e w5 ⟨rfl, hx5⟩
  have X5 := Lib.hid (Ext.trans X4.out hx5)
  clear hx5
  go_wp2_with fail
  go_ret
  exact ⟨ret_bool (by simp), X5.out⟩

set_option maxRecDepth 100000 in
set_option maxHeartbeats 3200000 in
theorem keptHolds_calls (l m : List HoldV) (ds : List HoldD) (no : Nat → Prop) (g cap' : Nat) (bo : Option Addr) (cap : Nat) (w : World) (hl : l.length ≤ 1000000) (hc : m.length + 12 ≤ cap') (hm : cap' ≤ maxLen) (hr : Rows 7 encHV w.heap.size w (some ⟨g, 0, none⟩) (m ++ marksHolds)) (hL : LentAre w no m ds) (hq : Rows 7 encHV w.heap.size w bo l) (hd : HoldsAre w (fun _ => False) l ds) (hfit : ∀ d ∈ ds, d.fits) :
    Calls Tryz.prog 27 #[.slice (some ⟨g, 0, none⟩) m.length cap', .slice bo l.length cap] w fun e w' => e = .returned (.bool true) ∧ Ext w w' := by
  have hml : m.length = l.length := by rw [hL.1, hd.len]
  rw [hml] at hc ⊢
  have hlen : (m ++ marksHolds).length = l.length + 12 := by rw [List.length_append, marksHolds_len, hml]
  obtain ⟨g', off', hg', hbg, hcell⟩ := hr (fun e => by rw [e] at hlen; simp at hlen)
  obtain ⟨rfl, rfl⟩ : g = g' ∧ 0 = off' := by simpa using hg'
  have HC := Lib.hid hcell; have HQ := Lib.hid hq; have HL := Lib.hid hL; have HD := Lib.hid hd; have HF := Lib.hid hfit; have HML := Lib.hid hml
  unfold maxLen at hm
  clear hr hg' hcell hq hlen hL hd hfit hml
  have hi0 : (0 : Int) ≤ (l.length : Int) + 12 := by omega
  have hi1 : (l.length : Int) + 12 ≤ (cap' : Int) := by omega
  go_enter Tryz.func27, Tryz.ntmps27
  go_wp2_with fail
  go_loopw [6] (fun i wr => ∃ k : Nat, k ≤ l.length + 12 ∧ i = .int .i64 k ∧ Ext w wr) (fun i _ => l.length + 12 - (intOf i).toNat)
  case atStart => exact ⟨0, by omega, rfl, Below.refl _ _⟩
  case round =>
    obtain ⟨k, hk, rfl, hx⟩ := hrel
    have K1 := Lib.hid hx; clear hx
    by_cases hlt : k < l.length
    · obtain ⟨y, hy⟩ : ∃ y, l[k]? = some y := ⟨_, List.getElem?_eq_getElem hlt⟩
      obtain ⟨x, hx⟩ : ∃ x, m[k]? = some x := ⟨_, List.getElem?_eq_getElem (by have := HML.out; omega)⟩
      obtain ⟨d, hdk, hyd⟩ := HD.out.at k y hy
      have hxd := HL.out.2 k x d hx hdk
      obtain ⟨hfa, hfr⟩ := HF.out d (List.mem_of_getElem? hdk)
      have hx' : (m ++ marksHolds)[k]? = some x := by rw [List.getElem?_append_left (by have := HML.out; omega)]; exact hx
      obtain ⟨b, off, rfl, hb, hcell⟩ := HQ.out (by intro e; rw [e] at hlt; simp at hlt)
      have hcy := hcell k y hy; have hcx := HC.out k x hx'
      have hmy : ∀ j, wr.cell? ⟨b, j, none⟩ = w.cell? ⟨b, j, none⟩ := fun j => K1.out.cell (p := ⟨b, j, none⟩) hb
      have hmx : ∀ j, wr.cell? ⟨g, j, none⟩ = w.cell? ⟨g, j, none⟩ := fun j => K1.out.cell (p := ⟨g, j, none⟩) hbg
      have HK : Hid (∀ p : ExtBy wr, Calls Tryz.prog 73 #[.agg (encHV x).toArray, .agg (encHV y).toArray] p.W fun e w' => e = .returned (.bool true) ∧ Ext p.W w') := Lib.hid fun p => keptHold_calls x y d no (fun _ => False) p.W ((hxd.ext K1.out).ext p.ext) ((hyd.ext K1.out).ext p.ext) hfa hfr
      obtain ⟨k1, cl1, nm1, xo1, xn1, xc1, yo1, yn1, yc1, put1, value1⟩ := x
      obtain ⟨k2, cl2, nm2, xo2, xn2, xc2, yo2, yn2, yc2, put2, value2⟩ := y
      simp only [encHV] at HK
      have d0 := (hmx _).trans (hcx 0 _ rfl); have d1 := (hmx _).trans (hcx 1 _ rfl); have d2 := (hmx _).trans (hcx 2 _ rfl); have d3 := (hmx _).trans (hcx 3 _ rfl); have d4 := (hmx _).trans (hcx 4 _ rfl); have d5 := (hmx _).trans (hcx 5 _ rfl); have d6 := (hmx _).trans (hcx 6 _ rfl)
      have e0 := (hmy _).trans (hcy 0 _ rfl); have e1 := (hmy _).trans (hcy 1 _ rfl); have e2 := (hmy _).trans (hcy 2 _ rfl); have e3 := (hmy _).trans (hcy 3 _ rfl); have e4 := (hmy _).trans (hcy 4 _ rfl); have e5 := (hmy _).trans (hcy 5 _ rfl); have e6 := (hmy _).trans (hcy 6 _ rfl)
      simp only [Nat.add_zero, Nat.zero_add] at d0 d1 d2 d3 d4 d5 d6 e0
      have q0 := ExtBy.cell d0; have q1 := ExtBy.cell d1; have q2 := ExtBy.cell d2; have q3 := ExtBy.cell d3; have q4 := ExtBy.cell d4; have q5 := ExtBy.cell d5; have q6 := ExtBy.cell d6
      have r0 := ExtBy.cell e0; have r1 := ExtBy.cell e1; have r2 := ExtBy.cell e2; have r3 := ExtBy.cell e3; have r4 := ExtBy.cell e4; have r5 := ExtBy.cell e5; have r6 := ExtBy.cell e6
      have j0 : (0 : Int) ≤ (k : Int) := by omega
      have j1 : (k : Int) < (l.length : Int) := by omega
      have j2 : (k : Int) < (l.length : Int) + 12 := by omega
      have g1 : decide ((k : Int) < (l.length : Int)) = true := decide_eq_true j1
      have g2 : decide ((l.length : Int) ≤ (k : Int)) = false := decide_eq_false (by omega)
      have g3 : decide (l.length ≤ k) = false := decide_eq_false (by omega)
      clear hx hx' hy hdk hxd hyd hcell hcx hcy hmx hmy d0 d1 d2 d3 d4 d5 d6 e0 e1 e2 e3 e4 e5 e6
      go_wp2_with fail
      refine wp_region_ext (by kernel_rfl) (by kernel_rfl) ?_
      repeat (go_big_quiet_step (with_reducible exact Calls.ext_of _ (HK.out _)))
      refine wpQuiet_nil ?_
      intro wd hw'
      have hxd : Ext wr wd := by obtain ⟨p, rfl⟩ := hw'; exact p.ext
      have XD := Lib.hid (Ext.trans K1.out hxd)
      clear hxd hw' q0 q1 q2 q3 q4 q5 q6 r0 r1 r2 r3 r4 r5 r6 HK
      go_wp2_with fail
      go_roundw
      case rel => exact ⟨k + 1, by omega, by go_num, XD.out⟩
      case measure => simp [intOf]; omega
    · by_cases hlt2 : k < l.length + 12
      · obtain ⟨j, rfl⟩ : ∃ j, k = l.length + j := ⟨k - l.length, by omega⟩
        have hx' : (m ++ marksHolds)[l.length + j]? = some (markHoldV 1 j) := by rw [← HML.out, List.getElem?_append_right (by omega), Nat.add_sub_cancel_left]; exact marksHolds_at j (by omega)
        have hcy := HC.out _ _ hx'
        have hmx : ∀ j, wr.cell? ⟨g, j, none⟩ = w.cell? ⟨g, j, none⟩ := fun j => K1.out.cell (p := ⟨g, j, none⟩) hbg
        have c0 := ExtBy.cell ((hmx _).trans (hcy 0 (.string (markB 1 j)) rfl)); have c1 := ExtBy.cell ((hmx _).trans (hcy 1 (.int .i64 0) rfl)); have c2 := ExtBy.cell ((hmx _).trans (hcy 2 (.int .i64 0) rfl)); have c3 := ExtBy.cell ((hmx _).trans (hcy 3 (.slice none 0 0) rfl)); have c4 := ExtBy.cell ((hmx _).trans (hcy 4 (.slice none 0 0) rfl)); have c5 := ExtBy.cell ((hmx _).trans (hcy 5 (.bool false) rfl)); have c6 := ExtBy.cell ((hmx _).trans (hcy 6 (.string ⟨#[]⟩) rfl))
        simp only [Nat.add_zero, Nat.zero_add] at c0 c1 c2 c3 c4 c5 c6
        have hc1 := fun W => markHold_calls 1 j W
        have hc2 := fun W => sameHold_calls (markHoldV 1 j) (markHoldV 1 j) (markHoldD 1 j) (fun _ => False) (fun _ => False) W (markHold_is 1 j W _) (markHold_is 1 j W _) (by simp [markHoldD]) (by simp [markHoldD])
        rw [show (encHV (markHoldV 1 j)).toArray = #[.string (markB 1 j), .int .i64 0, .int .i64 0, .slice none 0 0, .slice none 0 0, .bool false, .string ⟨#[]⟩] from rfl] at hc1 hc2
        have HM := Lib.hid hc1; have HM2 := Lib.hid hc2
        have j0 : (0 : Int) ≤ (l.length : Int) + (j : Int) := by omega
        have j2 : (l.length : Int) + (j : Int) < (l.length : Int) + 12 := by omega
        have g1 : decide ((l.length : Int) + (j : Int) < (l.length : Int)) = false := decide_eq_false (by omega)
        have g2 : decide ((l.length : Int) ≤ (l.length : Int) + (j : Int)) = true := decide_eq_true (by omega)
        have hw1 : IntKind.i64.wrap ((l.length : Int) + (j : Int) - (l.length : Int)) = (j : Int) := by rw [show (l.length : Int) + (j : Int) - (l.length : Int) = (j : Int) from by omega]; exact IntWalk.i64_in _ (by omega)
        clear hx' hcy hmx hc1 hc2
        go_wp2_with fail
        refine wp_region_ext (by kernel_rfl) (by kernel_rfl) ?_
        repeat (go_big_quiet_step (first | (with_reducible exact Calls.ext_of _ (HM.out _)) | (with_reducible exact Calls.ext_of _ (HM2.out _))))
        refine wpQuiet_nil ?_
        intro _ hw'
        obtain ⟨⟨w7, hx7⟩, hw''⟩ := hw'
        have X7 := Lib.hid (Ext.trans K1.out hx7)
        subst hw''
        clear hx7
        go_wp2_with fail
        go_roundw
        case rel => exact ⟨l.length + j + 1, by omega, by go_num, X7.out⟩
        case measure => simp [intOf]; omega
      · go_wp2_with fail
        go_ret
        exact ⟨ret_bool rfl, K1.out⟩
end Go.Proofs.YtdmejbjpbjcfbaaGreatDoor
