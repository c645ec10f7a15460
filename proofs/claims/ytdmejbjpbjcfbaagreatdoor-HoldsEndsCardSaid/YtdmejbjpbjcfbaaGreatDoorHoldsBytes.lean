/- HoldsBytes: the bytes of holds, and the holds that are read of bytes. -/
import Derived.Test.YtdmejbjpbjcfbaaGreatDoorRefWs
import Derived.Test.YtdmejbjpbjcfbaaGreatDoorRefRs
import Derived.Test.YtdmejbjpbjcfbaaGreatDoorLentHs
import Derived.Test.YtdmejbjpbjcfbaaGreatDoorRefOnes
import Derived.Test.YtdmejbjpbjcfbaaGreatDoorWFit2
import Derived.Test.YtdmejbjpbjcfbaaGreatDoorSpans1
namespace Go.Proofs.YtdmejbjpbjcfbaaGreatDoor
open Go.RowKit
theorem on_blk (rb : Nat) (ao : Option Addr) (cap n : Nat) (w : World) (hb : Blk w rb [.bool true, .bool false, .slice ao n cap] 134) : Calls Tryz.prog 79 #[.pointer (some ⟨rb, 0, none⟩)] w fun e w' => e = .returned (.bool true) ∧ w = w' := by
  have c0 := hb.cell 0; have c1 := hb.cell 1; have c2 := hb.cell 2
  simp only [List.getElem?_cons_zero, List.getElem?_cons_succ] at c0 c1 c2
  go_enter Tryz.func79, Tryz.ntmps79
  go_wp2_with fail
  go_ret
  exact ⟨rfl, rfl⟩
theorem left_blk (rb : Nat) (ao : Option Addr) (cap n : Nat) (w : World) (hb : Blk w rb [.bool true, .bool false, .slice ao n cap] 134) : Calls Tryz.prog 32 #[.pointer (some ⟨rb, 0, none⟩)] w fun e w' => e = .returned (.int .i64 n) ∧ w = w' := by
  have HON := Lib.hid (on_blk rb ao cap n w hb)
  have c0 := hb.cell 0; have c1 := hb.cell 1; have c2 := hb.cell 2
  simp only [List.getElem?_cons_zero, List.getElem?_cons_succ] at c0 c1 c2
  go_enter Tryz.func32, Tryz.ntmps32
  go_wp2_with fail
  refine HON.out.mono ?_
  rintro e w' ⟨rfl, rfl⟩
  go_wp2_with fail
  go_ret
  exact ⟨rfl, rfl⟩
theorem DonePost.rows {sp : Bool} {bs : List UInt8} {w w' : World} {e : Ending} (h : DonePost sp bs w e w') : ∃ so sc, e = .returned (.tuple #[.slice so (if sp = true then [] else bs).length sc, .int .i64 (errZ sp)]) ∧ NRows 1 encU8 (fun b => b < w.heap.size) w' so (if sp = true then [] else bs) ∧ (if sp = true then [] else bs).length ≤ sc ∧ sc ≤ maxLen ∧ Ext w w' := by
  obtain ⟨⟨u, rfl, h1, h2, h3⟩, h4⟩ := h
  cases sp with
  | true =>
    obtain rfl := h1 rfl
    exact ⟨none, 0, rfl, fun e => absurd rfl e, by simp, by simp [maxLen], h4⟩
  | false =>
    have h2 := h2 rfl
    obtain ⟨so, sc, rfl, hc1, hc2, _⟩ := Rows.own (enc := encU8) (sz := 1) (fun _ => rfl) h2
    exact ⟨so, sc, rfl, nrows_of_own (fun _ => rfl) h2 (fun j hj e => by have := h3 j hj; omega), hc1, hc2, h4⟩
set_option maxRecDepth 100000 in
set_option maxHeartbeats 12800000 in
theorem holdsBytes_calls (ls : List HoldV) (dl : List HoldD) (ao : Option Addr) (cap : Nat) (b : List UInt8) (bo : Option Addr) (bc : Nat) (w : World) (hl : ls.length ≤ 9223372036854775807) (hr : Rows 7 encHV w.heap.size w ao ls) (hd : HoldsAre w (fun _ => False) ls dl) (hs : ∀ d ∈ dl, d.small)
    (hok : ∀ d ∈ dl, d.acts.length ≤ 1000000 → d.reads.length ≤ 1000000 → d.ok) (hbl : b.length ≤ bc) (hbm : bc ≤ maxLen) (hb : Rows 1 encU8 w.heap.size w bo b) :
    Calls Tryz.prog 4 #[.slice ao ls.length cap, .slice bo b.length bc] w fun e w' => e = .returned (.bool true) ∧ Ext w w' := by
  have HO := Lib.hid (fun W (hW : Ext w W) => holdsOf_calls ls dl (fun _ => False) ao cap 1500 W (by omega) hl ((hr.ext hW).mono hW.size) (hd.ext hW) hs)
  have HF := Lib.hid (fun h : holdsN 1500 0 dl ≤ 1500 => few_of h hok)
  have HDL := Lib.hid hd.len
  have HR := Lib.hid hr; have HD := Lib.hid hd; have HB := Lib.hid hb
  clear hr hd hs hok hb
  go_enter Tryz.func4, Tryz.ntmps4
  go_wp2_with fail
  refine (awake_calls _).mono ?_
  rintro e w1 ⟨rfl, hx1⟩
  have X1 := Lib.hid hx1
  clear hx1
  go_wp2_with fail
  refine (HO.out _ X1.out).mono ?_
  rintro e w2 ⟨rfl, hx2⟩
  have X2 := Lib.hid (Ext.trans X1.out hx2)
  clear hx2 X1 HO
  by_cases hN : 1500 < holdsN 1500 0 dl
  · generalize holdsN 1500 0 dl = N at hN
    go_wp2_with fail
    go_ret
    exact ⟨rfl, X2.out⟩
  have HF2 := Lib.hid (HF.out (by omega))
  clear HF
  generalize holdsN 1500 0 dl = N at hN
  by_cases hK : 20000 < b.length
  · go_wp2_with fail
    go_ret
    exact ⟨rfl, X2.out⟩
  go_wp2_with fail
  have hlen := HF2.out.len
  have hll : ls.length ≤ 1500 := by have := HDL.out; omega
  refine (lentHolds_calls ls dl ao cap w2 (by omega) ((HR.out.ext X2.out).mono X2.out.size) (HD.out.ext X2.out) HF2.out.fits).mono ?_
  rintro e w3 ⟨g, gc, m, rfl, hgc, hgm, hrm, hg, hlm, hx3⟩
  have hml : m.length ≤ 1500 := by have := hlm.1; omega
  have HGC := Lib.hid hgc; have HGM := Lib.hid hgm; have RM := Lib.hid hrm; have HG := Lib.hid hg; have LM := Lib.hid hlm; have Y3 := Lib.hid hx3
  clear hgc hgm hrm hg hlm hx3
  go_wp2_with fail
  refine (newWriter_calls w3).mono ?_
  rintro e w4 ⟨rfl, hT4, hx4⟩
  have hn1 : NRows 7 encHV (fun b => b = w3.heap.size ∨ (Value.slice none 0 0).ownBlock = some b) w4 (some ⟨g, 0, none⟩) m := (NRows.left (Rows.nrows RM.out (Nat.le_refl _) (fun b hb e => by have := wr_new e; omega))).ext hx4
  have hn2 : HoldsAre w4 (fun b => b = w3.heap.size ∨ (Value.slice none 0 0).ownBlock = some b) m dl := (LM.out.are.mono (fun b hb e => by have := wr_new e; omega)).ext hx4
  have N1 := Lib.hid hn1; have N2 := Lib.hid hn2; have T4 := Lib.hid hT4; have Y4 := Lib.hid hx4
  have hW0 : w3.heap.size ≤ w3.heap.size := Nat.le_refl _
  clear hn1 hn2 hT4 hx4
  generalize hwb : w3.heap.size = wb at N1 N2 T4 hW0 ⊢
  have HWB := Lib.hid hwb
  clear hwb hW0
  go_wp2_with fail
  refine (write_calls wb false (.slice none 0 0) [] m dl (some ⟨g, 0, none⟩) gc w4 T4.out (by omega) (by simp) N1.out N2.out HF2.out.wfit).mono ?_
  rintro e w5 ⟨rfl, v5, hT5, hB5, -⟩
  rw [Bool.false_or, List.nil_append] at hT5
  have hy5 : Ext w3 w5 := Ext.butNew Y4.out hB5 (fun j e => by have := wr_new e; have := HWB.out; omega)
  have T5 := Lib.hid hT5; have Y5 := Lib.hid hy5
  clear hT5 hB5 hy5 N1 N2 T4 Y4
  have hwl : (writeW dl).length ≤ 140000000000000 := by
    have h1 := flat_len holdW 2100000000 dl (fun d hd => holdW_len d (HF2.out.wfit d hd))
    have h2 := numZ_len (dl.length : Int)
    rw [writeW, List.length_append]; omega
  obtain ⟨sp, hsp⟩ : ∃ sp, sp = dl.any holdBad := ⟨_, rfl⟩
  rw [← hsp] at T5
  have HSP := Lib.hid hsp
  clear hsp
  go_wp2_with fail
  refine (done_calls wb sp v5 (writeW dl) w5 T5.out hwl).mono ?_
  intro e w6 hp
  obtain ⟨so, sc, rfl, hs6, hsc1, hsc2, hx6⟩ := hp.rows
  have hsl : (if sp = true then [] else writeW dl).length ≤ 140000000000000 := by
    split
    · simp
    · exact hwl
  obtain ⟨s6, hs6e⟩ : ∃ s6, s6 = (if sp = true then [] else writeW dl) := ⟨_, rfl⟩
  rw [← hs6e] at hs6 hsl hsc1 ⊢
  have Y6 := Lib.hid (Ext.trans Y5.out hx6); have S6 := Lib.hid hs6; have S6E := Lib.hid hs6e
  clear hp hs6 hx6 hs6e T5 Y5
  go_wp2_with fail
  refine (refBytes_calls ls dl (fun _ => False) ao cap w6 (by omega) ((HR.out.ext (X2.out.trans (Y3.out.trans Y6.out))).mono (X2.out.trans (Y3.out.trans Y6.out)).size) (HD.out.ext (X2.out.trans (Y3.out.trans Y6.out))) HF2.out.wfit).mono ?_
  rintro e w7 ⟨tt0, tc, rfl, ht7, hx7, -, -⟩
  rw [← HSP.out]
  have Y7 := Lib.hid (Ext.trans Y6.out hx7); have S7 := Lib.hid (S6.out.ext hx7); have T7 := Lib.hid ht7
  have htl : (writeR dl).length ≤ 140000000000000 := by
    have h1 := flat_len holdR 2100000000 dl (fun d hd => holdR_len d (HF2.out.wfit d hd))
    have h2 := numZ_len (dl.length : Int)
    rw [writeR, List.length_append]; omega
  obtain ⟨t7, ht7e⟩ : ∃ t7, t7 = writeR dl := ⟨_, rfl⟩
  rw [← ht7e] at T7 htl ⊢
  have hst : sp = false → t7 = s6 := by
    intro e
    rw [ht7e, S6E.out, e, writeR_eq HF2.out.wfit (by rw [← HSP.out]; exact e)]; simp
  have HST := Lib.hid hst
  clear ht7 hx7 ht7e hst S6 Y6
  have HRI : Hid (∀ W, Ext w7 W → Calls Tryz.prog 25 #[.slice (some ⟨g, 0, none⟩) m.length gc] W fun e w' => e = .returned (.bool (holdsB dl)) ∧ Ext W w') := Lib.hid fun W hW => by
    have hy := Y7.out.trans hW
    exact holdsRight_calls m dl _ (some ⟨g, 0, none⟩) gc W (by omega) (((NRows.left (no := fun _ => False) (Rows.nrows RM.out (Nat.le_refl _) (fun _ _ e => e))).ext hy).rows) (LM.out.are.ext hy) HF2.out.ok
  have HRR : Hid (∀ W, Ext w7 W → Calls Tryz.prog 26 #[.slice ao ls.length cap] W fun e w' => e = .returned (.bool (holdsB dl)) ∧ Ext W w') := Lib.hid fun W hW => by
    have hy := X2.out.trans (Y3.out.trans (Y7.out.trans hW))
    exact refRightH_calls ls dl _ ao cap W (by omega) ((HR.out.ext hy).mono hy.size) (HD.out.ext hy) HF2.out.ok
  have HKE : Hid (∀ W, Ext w7 W → Calls Tryz.prog 27 #[.slice (some ⟨g, 0, none⟩) m.length gc, .slice ao ls.length cap] W fun e w' => e = .returned (.bool true) ∧ Ext W w') := Lib.hid fun W hW => by
    have hy := Y7.out.trans hW
    have hz := X2.out.trans (Y3.out.trans hy)
    exact keptHolds_calls ls m dl _ g gc ao cap W (by omega) HGC.out HGM.out ((RM.out.ext hy).mono hy.size) (LM.out.ext hy) ((HR.out.ext hz).mono hz.size) (HD.out.ext hz) HF2.out.fits
  have HB7 := Lib.hid ((HB.out.ext (X2.out.trans (Y3.out.trans Y7.out))).mono (X2.out.trans (Y3.out.trans Y7.out)).size)
  have X7 := Lib.hid (X2.out.trans (Y3.out.trans Y7.out))
  clear HGC HGM RM HG LM Y3 Y7 HR HD HB X2 HWB HSP S6E
  go_upto_region 8 with fail
  go_cut [67] (fun s wx => s = .bool false ∧ Ext w7 wx)
  case first =>
    have hne : (holdsB dl != holdsB dl) = false := by simp
    cases sp with
    | true =>
      simp only [errZ_t, Bool.not_true]
      go_wp2_with fail
      refine (HRI.out w7 (Ext.refl _)).mono ?_
      rintro e w8 ⟨rfl, hx8⟩
      have Z8 := Lib.hid hx8
      clear hx8
      go_wp2_with fail
      refine (HRR.out w8 Z8.out).mono ?_
      rintro e w9 ⟨rfl, hx9⟩
      have Z9 := Lib.hid (Z8.out.trans hx9)
      clear hx9
      generalize holdsB dl = hh at *
      go_wp2_with fail
      refine (HKE.out w9 Z9.out).mono ?_
      rintro e w10 ⟨rfl, hx10⟩
      have Z10 := Lib.hid (Z9.out.trans hx10)
      clear hx10
      go_wp2_with fail
      go_meet
      exact ⟨rfl, Z10.out⟩
    | false =>
      obtain rfl := HST.out rfl
      simp only [errZ_f, Bool.not_false]
      go_wp2_with fail
      refine (sameBytes_calls t7 so tt0 sc tc w7 (by omega) S7.out.rows T7.out.rows).mono ?_
      rintro e w71 ⟨rfl, hx71⟩
      have Z71 := Lib.hid hx71
      clear hx71
      go_wp2_with fail
      refine (HRI.out w71 Z71.out).mono ?_
      rintro e w8 ⟨rfl, hx8⟩
      have Z8 := Lib.hid (Z71.out.trans hx8)
      clear hx8
      go_wp2_with fail
      refine (HRR.out w8 Z8.out).mono ?_
      rintro e w9 ⟨rfl, hx9⟩
      have Z9 := Lib.hid (Z8.out.trans hx9)
      clear hx9
      generalize holdsB dl = hh at *
      go_wp2_with fail
      refine (HKE.out w9 Z9.out).mono ?_
      rintro e w10 ⟨rfl, hx10⟩
      have Z10 := Lib.hid (Z9.out.trans hx10)
      clear hx10
      go_wp2_with fail
      go_meet
      exact ⟨rfl, Z10.out⟩
  case rest =>
    obtain ⟨hs67, hx8⟩ := hcut
    subst hs67
    have X8 := Lib.hid (X7.out.trans hx8); have S8 := Lib.hid (S7.out.ext hx8); have HB8 := Lib.hid ((HB7.out.ext hx8).mono hx8.size)
    clear hx8 X7 S7 T7 HB7 HRI HRR HKE HST
    go_wp2_with fail
    have hbox := Blk.new wc [.slice so s6.length sc, .slice bo b.length bc] 46
    have hxb : Ext wc (wc.alloc (.cells #[.slice so s6.length sc, .slice bo b.length bc] 46)) := (Below.refl _ wc).alloc (Nat.le_refl _) _
    generalize wc.alloc (.cells #[.slice so s6.length sc, .slice bo b.length bc] 46) = w9 at hbox hxb ⊢
    generalize wc.heap.size = NB at hbox ⊢
    have hpick : ∀ i : Nat, i < 2 → ∃ (x : List UInt8) (xo : Option Addr) (xc : Nat), w9.cell? ⟨NB, i, none⟩ = some (.slice xo x.length xc) ∧ Rows 1 encU8 w9.heap.size w9 xo x ∧ x.length ≤ xc ∧ xc ≤ maxLen ∧ x.length ≤ 140000000000000 := by
      intro i hi
      match i, hi with
      | 0, _ => exact ⟨s6, so, sc, hbox.cell 0, (S8.out.ext hxb).rows, hsc1, hsc2, hsl⟩
      | 1, _ => exact ⟨b, bo, bc, hbox.cell 1, (HB8.out.ext hxb).mono hxb.size, hbl, hbm, by omega⟩
    have PK := Lib.hid hpick; have X9 := Lib.hid (X8.out.trans hxb)
    clear hbox hxb hpick X8 S8 HB8
    go_loopw [11] (fun vi wr => ∃ i : Nat, vi = .int .i64 i ∧ i ≤ 2 ∧ Ext w9 wr) (fun vi _ => 2 - (intOf vi).toNat)
    case atStart => exact ⟨0, rfl, by omega, Ext.refl _⟩
    case round =>
      obtain ⟨i, rfl, hi, hx⟩ := hrel
      have Z := Lib.hid hx
      clear hx
      by_cases hlt : i < 2
      · obtain ⟨x, xo, xc, hcell, hrow, hxc, hxm, hxl⟩ := PK.out i hlt
        have c0 : wr.cell? ⟨NB, i, none⟩ = some (.slice xo x.length xc) := (Z.out.cell (p := ⟨NB, i, none⟩) (block_lt_of_cell hcell)).trans hcell
        have R0 := Lib.hid ((hrow.ext Z.out).mono Z.out.size)
        have HXC := Lib.hid hxc; have HXM := Lib.hid hxm
        have ii0 : (0 : Int) ≤ (i : Int) := by omega
        have ii1 : (i : Int) < 2 := by omega
        clear hcell hrow hxc hxm
        go_wp2_with fail
        go_cut [12, 13] (fun r m W => ∃ (rb mb : Nat) (ro : Option Addr) (c B : Nat), r = .pointer (some ⟨rb, 0, none⟩) ∧ m = .pointer (some ⟨mb, 0, none⟩) ∧ rb ≠ mb ∧ wr.heap.size ≤ rb ∧ wr.heap.size ≤ mb ∧ B ≤ W.heap.size ∧ Rdr W B rb ro c ⟨false, x⟩ ∧ Blk W mb [.slice xo x.length xc, .bool false] 64 ∧ Ext wr W)
        case first =>
          have k0 := ExtBy.cell c0
          clear c0
          refine wp_region_first wr [0, 1, 2, 3, 5, 6, 7, 8, 9] 4 (by kernel_rfl) (by kernel_rfl) (fun _ _ _ _ h => h) (Below.refl _ _) ?_
          simp only [opsAt, List.getElem?_toArray, List.getElem?_cons_succ, List.getElem?_cons_zero]
          repeat (go_big_quiet_step (fail))
          refine wpQuiet_nil ?_
          clear k0
          refine wpAnyH_ready (rs := [4, 10]) (by kernel_rfl) (by simp) ?_
          refine AllReadyH.cons rfl (fun K hK => ?_) (AllReadyH.cons rfl (fun K hK => ?_) AllReadyH.nil)
          · go_simp
            refine (newReader_calls x xo xc wr.drew hxl (R0.out.ext (Below.refl _ _).drew)).mono ?_
            rintro e w10 ⟨rb, ro, c, rfl, hrb, hR, hx⟩
            have hx10 : Ext wr w10 := Ext.trans (Below.refl _ _).drew hx
            have Z10 := Lib.hid hx10; have R10 := Lib.hid hR; have HRB := Lib.hid (show wr.heap.size ≤ rb from hrb)
            clear hrb hR hx hx10
            refine hK.out _ _ ⟨⟨_, Z10.out⟩, rfl⟩ (fun _ => ?_)
            clear hK K
            refine wp_takes (f := 2) [11] (by kernel_rfl) (fun _ _ _ _ h => h) ⟨⟨_, Z10.out⟩, rfl⟩ ?_
            simp only [opsAt, List.getElem?_toArray, List.getElem?_cons_succ, List.getElem?_cons_zero]
            repeat (go_big_quiet_step (fail))
            refine wpQuiet_nil ?_
            refine wpAnyH_ready (rs := [10]) (by kernel_rfl) (by simp) ?_
            refine AllReadyH.cons rfl (fun K hK => ?_) AllReadyH.nil
            go_simp
            refine hK.out _ _ ⟨⟨_, Z10.out.alloc Z10.out.size _⟩, rfl⟩ (fun _ => ?_)
            clear hK K
            refine wp_takes (f := 0) [12] (by kernel_rfl) (fun _ _ _ _ h => h) ⟨⟨_, Z10.out.alloc Z10.out.size _⟩, rfl⟩ ?_
            simp only [opsAt, List.getElem?_toArray, List.getElem?_cons_succ, List.getElem?_cons_zero]
            repeat (go_big_quiet_step (fail))
            refine wpQuiet_nil ?_
            refine wpAnyH_done (by kernel_rfl) ?_ _
            go_wp2_with fail
            go_meet
            exact ⟨rb, w10.heap.size, ro, c, w10.heap.size, rfl, rfl, by have := R10.out.old; omega, HRB.out, Z10.out.size, by simp, R10.out.ext ((Below.refl _ _).alloc (Nat.le_refl _) _), Blk.new w10 _ _, Z10.out.alloc Z10.out.size _⟩
          · go_simp
            refine hK.out _ _ ⟨⟨_, (Below.refl _ wr).drew.alloc (Nat.le_refl _) _⟩, rfl⟩ (fun _ => ?_)
            clear hK K
            refine wpAnyH_ready (rs := [4]) (by kernel_rfl) (by simp) ?_
            refine AllReadyH.cons rfl (fun K hK => ?_) AllReadyH.nil
            go_simp
            have hxa : Ext wr (wr.drew.alloc (.cells #[.slice xo x.length xc, .bool false] 64)) := (Below.refl _ wr).drew.alloc (Nat.le_refl _) _
            have hba := Blk.new wr.drew [.slice xo x.length xc, .bool false] 64
            refine (newReader_calls x xo xc _ hxl ((R0.out.ext hxa).mono hxa.size)).mono ?_
            rintro e w10 ⟨rb, ro, c, rfl, hrb, hR, hx⟩
            have hx10 : Ext wr w10 := hxa.trans hx
            have Z10 := Lib.hid hx10; have R10 := Lib.hid hR; have HRB := Lib.hid hrb; have HBA := Lib.hid (hba.ext' hx); have HXA := Lib.hid hxa.size; have HLA := Lib.hid hba.lt
            clear hrb hR hx hx10 hxa hba
            refine hK.out _ _ ⟨⟨_, Z10.out⟩, rfl⟩ (fun _ => ?_)
            clear hK K
            refine wp_takes (f := 0) [11, 12] (by kernel_rfl) (fun _ _ _ _ h => h) ⟨⟨_, Z10.out⟩, rfl⟩ ?_
            simp only [opsAt, List.getElem?_toArray, List.getElem?_cons_succ, List.getElem?_cons_zero]
            repeat (go_big_quiet_step (fail))
            refine wpQuiet_nil ?_
            refine wpAnyH_done (by kernel_rfl) ?_ _
            go_wp2_with fail
            go_meet
            have hl2 : wr.heap.size < rb := Nat.lt_of_lt_of_le HLA.out HRB.out
            exact ⟨rb, wr.heap.size, ro, c, w10.heap.size, rfl, rfl, by omega, by omega, Nat.le_refl _, Nat.le_refl _, R10.out, HBA.out, Z10.out⟩
        case rest =>
          obtain ⟨rb, mb, ro, c, B, hr12, hr13, hne, hrb, hmb, hBW, hR, hM, hx⟩ := hcut
          subst hr12 hr13
          have R1 := Lib.hid hR; have M1 := Lib.hid hM; have ZC := Lib.hid hx; have HBW := Lib.hid hBW
          have HRB := Lib.hid hrb; have HMB := Lib.hid hmb
          clear hR hM hx hBW c0 hrb hmb
          have hre := holds_read B rb c ro ⟨false, x⟩ wc R1.out HBW.out
          obtain ⟨res, hres⟩ : ∃ res, res = holdsS ⟨false, x⟩ := ⟨_, rfl⟩
          rw [← hres] at hre
          have HRES := Lib.hid hres; have HRE := Lib.hid hre
          clear hres hre
          go_wp2_with fail
          have hrr : ∀ W1, But (fun j => j = rb) wc W1 → RRdr W1 W1.heap.size mb xo xc ⟨false, x⟩ := fun W1 h1 => by
            have h0 : Ext wr W1 := Ext.butNew ZC.out h1 (fun j e => by have e : j = rb := e; rw [e]; exact HRB.out)
            exact ⟨M1.out.but h1 (fun e => hne e.symm), (M1.out.but h1 (fun e => hne e.symm)).lt, HXC.out, HXM.out, (Rows.nrows (no := fun b => wr.heap.size ≤ b) R0.out (Nat.le_refl _) (fun b hb e => by omega)).ext h0 |>.mono (fun b hb e => e.elim (fun e => by have := HMB.out; show wr.heap.size ≤ b; omega) (fun e => absurd hb (Nat.not_lt.2 e)))⟩
          have HRR := Lib.hid hrr
          clear hrr
          refine HRE.out.mono ?_
          cases res with
          | none =>
            rintro e w11 ⟨rfl, hb11⟩
            have hrf := refHolds_read w11.heap.size mb xc xo ⟨false, x⟩ w11 (HRR.out w11 hb11) (Nat.le_refl _)
            rw [← HRES.out] at hrf
            have HRF := Lib.hid hrf
            have B11 := Lib.hid hb11
            clear hrf hb11 HRE HRR
            go_wp2_with fail
            refine HRF.out.mono ?_
            rintro e w12 ⟨rfl, hb12⟩
            have Z12 : Hid (Ext wr w12) := Lib.hid (Ext.butNew (Ext.butNew ZC.out B11.out (fun j e => by have e : j = rb := e; rw [e]; exact HRB.out)) hb12 (fun j e => by have e : j = mb := e; rw [e]; exact HMB.out))
            clear hb12 B11 HRF
            have HSAME : Hid (∀ p : ExtBy w12, Calls Tryz.prog 31 #[.slice none 0 0, .slice none 0 0] p.W fun e w' => e = .returned (.bool true) ∧ Ext p.W w') := Lib.hid fun p => sameHolds_calls [] [] [] (fun _ => False) (fun _ => False) none none 0 0 p.W (by simp) (Rows.nil _ _ _ _ _) (Rows.nil _ _ _ _ _) trivial trivial (by simp)
            go_wp2_with fail
            refine wp_region_ext (by kernel_rfl) (by kernel_rfl) ?_
            repeat (go_big_quiet_step (with_reducible exact Calls.ext_of _ (HSAME.out _)))
            refine wpQuiet_nil ?_
            intro w13 hw'
            have hx13 : Ext w12 w13 := by obtain ⟨p, rfl⟩ := hw'; exact p.ext
            have Z13 := Lib.hid (Z.out.trans (Z12.out.trans hx13))
            clear hx13 hw' HSAME
            go_wp2_with fail
            go_roundw
            case rel => exact ⟨i + 1, by go_num, by omega, Z13.out⟩
            case measure => simp [intOf]; omega
          | some p =>
            obtain ⟨l, s1⟩ := p
            obtain ⟨hfl, hl60, hfits⟩ := holdsS_some HRES.out.symm
            obtain ⟨fl, sl⟩ := s1
            simp only at hfl
            subst hfl
            have HFT := Lib.hid hfits
            clear hfits
            rintro e w11 ⟨⟨v11, q, rfl, hq, hown, hnew, hare⟩, ⟨ao', cap', hR11⟩, hb11⟩
            obtain ⟨qo, qc, rfl⟩ := own_slice hown
            have hrow : HRow w11 wc.heap.size qo qc q l := ⟨hown, hnew, hare⟩
            have hrf := refHolds_read w11.heap.size mb xc xo ⟨false, x⟩ w11 (HRR.out w11 hb11) (Nat.le_refl _)
            rw [← HRES.out] at hrf
            have HRF := Lib.hid hrf; have Q11 := Lib.hid hrow; have R11 := Lib.hid hR11
            have B11 := Lib.hid hb11
            clear hrf hb11 HRE HRR hq hown hnew hare hR11 hrow
            have hmW : mb < wc.heap.size := M1.out.lt
            go_wp2_with fail
            refine HRF.out.mono ?_
            rintro e w12 ⟨⟨v12, q2, rfl, hq, hown, hnew, hare⟩, ⟨ao2, cap2, hR12⟩, hb12⟩
            obtain ⟨qo2, qc2, rfl⟩ := own_slice hown
            have hrow2 : HRow w12 w11.heap.size qo2 qc2 q2 l := ⟨hown, hnew, hare⟩
            have hrow1 := Q11.out.but hb12 (fun b e => by have e : b = mb := e; rw [e]; exact hmW)
            have hblk := R11.out.blk.but hb12 (fun e => hne e)
            have Z12 : Hid (Ext wr w12) := Lib.hid (Ext.butNew (Ext.butNew ZC.out B11.out (fun j e => by have e : j = rb := e; rw [e]; exact HRB.out)) hb12 (fun j e => by have e : j = mb := e; rw [e]; exact HMB.out))
            have HSAME : Hid (∀ p : ExtBy w12, Calls Tryz.prog 31 #[.slice qo q.length qc, .slice qo2 q2.length qc2] p.W fun e w' => e = .returned (.bool true) ∧ Ext p.W w') := Lib.hid fun p => same_rows (hrow1.ext p.ext) (hrow2.ext p.ext) (by omega) HFT.out
            have HLEFT : Hid (∀ p : ExtBy w12, Calls Tryz.prog 32 #[.pointer (some ⟨rb, 0, none⟩)] p.W fun e w' => e = .returned (.int .i64 (sl.length : Nat)) ∧ p.W = w') := Lib.hid fun p => left_blk rb ao' cap' sl.length p.W (hblk.ext' p.ext)
            have z0 := hR12.blk.cell 0
            simp only [List.getElem?_cons_zero] at z0
            have k0 := ExtBy.cell z0
            clear hq hown hnew hare hR12 hb12 hrow1 hrow2 hblk z0 HRF Q11 R11 B11
            generalize q.length = n1 at *
            generalize q2.length = n2 at *
            generalize sl.length = n3 at *
            go_wp2_with fail
            refine wp_region_ext (by kernel_rfl) (by kernel_rfl) ?_
            repeat (go_big_quiet_step (first | (with_reducible exact Calls.ext_of _ (HSAME.out _)) | (with_reducible exact Calls.ext_of_same _ (HLEFT.out _))))
            refine wpQuiet_nil ?_
            intro w13 hw'
            have hx13 : Ext w12 w13 := by obtain ⟨p, rfl⟩ := hw'; exact p.ext
            have Z13 := Lib.hid (Z.out.trans (Z12.out.trans hx13))
            clear hx13 hw' HSAME HLEFT k0
            go_wp2_with fail
            go_roundw
            case rel => exact ⟨i + 1, by go_num, by omega, Z13.out⟩
            case measure => simp [intOf]; omega
      · go_wp2_with fail
        go_ret
        exact ⟨rfl, X9.out.trans Z.out⟩
end Go.Proofs.YtdmejbjpbjcfbaaGreatDoor
