/- same: do both tables tell the same? -/
import Derived.Test.YtdmejbjpbjcfbaaGreatDoorNamesB
import Derived.Test.YtdmejbjpbjcfbaaGreatDoorBusyH
import Derived.Test.YtdmejbjpbjcfbaaGreatDoorOverH
import Derived.Test.YtdmejbjpbjcfbaaGreatDoorRefTabs
import Derived.Test.YtdmejbjpbjcfbaaGreatDoorOneH
import Derived.Test.YtdmejbjpbjcfbaaGreatDoorFirstN
import Derived.Test.YtdmejbjpbjcfbaaGreatDoorLentHs
import Derived.Test.YtdmejbjpbjcfbaaGreatDoorLentRd
import Derived.Test.YtdmejbjpbjcfbaaGreatDoorWFit2
namespace Go.Proofs.YtdmejbjpbjcfbaaGreatDoor
open Go.RowKit
variable {no1 no2 : Nat → Prop}
def zeroHD : HoldD := { key := ⟨#[]⟩, cl := 0, nm := 0, acts := [], reads := [], put := false, value := ⟨#[]⟩ }
theorem zero_is (w : World) (no : Nat → Prop) : HoldV.zero.is w no zeroHD := ⟨rfl, rfl, rfl, rfl, rfl, rfl, rfl, fun h => (h rfl).elim, fun h => (h rfl).elim⟩
set_option maxRecDepth 100000 in
set_option maxHeartbeats 12800000 in
theorem same_calls (hb mb : Nat) (v u : Value) (ds : List HoldD) (ls : List ByteArray) (ko : Option Addr) (kc : Nat) (c n : Int) (w : World) (T : TabN no1 w hb v ds) (U : RTabN no2 w mb u ds) (hkl : ls.length ≤ 1000000) (hr : Rows 1 encStr w.heap.size w ko ls) :
    Calls Tryz.prog 43 #[.pointer (some ⟨hb, 0, none⟩), .pointer (some ⟨mb, 0, none⟩), .slice ko ls.length kc, .agg #[.int .i64 c, .int .i64 n]] w fun e w' => e = .returned (.bool true) ∧ Ext w w' := by
  obtain ⟨l, ao, cap, hv, hlc, hll, hrows, hown, hare, hrise⟩ := T.rows
  have hfew := T.few
  have hfit := T.fits
  have hc0 := T.blk.cell 0; have hc1 := T.blk.cell 1
  simp only [List.getElem?_cons_zero, List.getElem?_cons_succ] at hc0 hc1
  have hbl := T.blk.lt
  obtain ⟨ul, uo, ucap, hu, hulc, hucm, hull, hurows, huown, huare⟩ := U.rows
  have hd0 := U.blk.cell 0
  simp only [List.getElem?_cons_zero] at hd0
  have hdl := U.blk.lt
  rw [hv, hll] at hc0
  rw [hu, hull] at hd0
  have MANY : Hid (∀ W, Ext w W → Calls Tryz.prog 16 #[.pointer (some ⟨hb, 0, none⟩)] W fun e w' => e = .returned (.int .i64 ds.length) ∧ W = w') := Lib.hid fun W hW => many_calls hb ao ds.length cap W (cellX hW hc0) (cellX hW hc1)
  have MC : Hid (∀ W, Ext w W → W.cell? ⟨mb, 0, none⟩ = some (.slice uo ds.length ucap)) := Lib.hid fun W hW => cellX hW hd0
  have UR : Hid (∀ W, Ext w W → Rows 7 encHV W.heap.size W uo ul) := Lib.hid fun W hW => (hurows.ext hW).mono hW.size
  have UA : Hid (∀ W, Ext w W → HoldsAre W (fun _ => False) ul ds) := Lib.hid fun W hW => (huare.mono (fun _ _ e => e.elim)).ext hW
  have INC : Hid (∀ W, Ext w W → Calls Tryz.prog 12 #[.pointer (some ⟨hb, 0, none⟩), .agg #[.string ⟨#[]⟩, .string ⟨#[]⟩]] W (RowPost ds W)) := Lib.hid fun W hW => by
    have h := in_calls hb v ds ⟨#[]⟩ ⟨#[]⟩ W (T.ext hW) (by decide) (by decide)
    rw [inD_all ds (fun d hd => (T.ok d hd).2)] at h
    exact h
  have NAMC : Hid (∀ W, Ext w W → Calls Tryz.prog 45 #[.pointer (some ⟨hb, 0, none⟩)] W (NamesPost (namesD ds) W)) := Lib.hid fun W hW => names_calls hb v ds W (T.ext hW)
  have RNAM : Hid (∀ W, Ext w W → Calls Tryz.prog 94 #[.pointer (some ⟨mb, 0, none⟩)] W (NamesPost (namesD ds) W)) := Lib.hid fun W hW => rnames_calls mb u ds W (U.ext hW)
  have BYC : Hid (∀ W, Ext w W → Calls Tryz.prog 44 #[.pointer (some ⟨hb, 0, none⟩), .agg #[.int .i64 c, .int .i64 n]] W (RowPost (byD c n ds) W)) := Lib.hid fun W hW => by_calls hb v ds c n W (T.ext hW)
  have RBYC : Hid (∀ W, Ext w W → Calls Tryz.prog 95 #[.pointer (some ⟨mb, 0, none⟩), .agg #[.int .i64 c, .int .i64 n]] W (RRowPost (fun _ => False) (byD c n ds) W)) := Lib.hid fun W hW => by
    refine (rby_calls mb u ds c n W (U.ext hW)).mono ?_
    rintro e w' ⟨r, l', h1, h2, h3, h4, h5⟩
    exact ⟨r, l', h1, h2, h3, h4.mono (fun b _ e => e.elim .inl (fun e => e.elim)), h5⟩
  have SH : Hid (∀ (W : World) (es : List HoldD) (l1 l2 : List HoldV) (o1 o2 : Option Addr) (c1 c2 : Nat), (∀ d ∈ es, d ∈ ds) → es.length ≤ 60 → W.ownsRow 0 35 7 (.slice o1 l1.length c1) l1.length (l1.flatMap encHV) → Rows 7 encHV W.heap.size W o2 l2 → HoldsAre W (fun _ => False) l1 es → HoldsAre W (fun _ => False) l2 es → Calls Tryz.prog 31 #[.slice o1 l1.length c1, .slice o2 l2.length c2] W fun e w' => e = .returned (.bool true) ∧ Ext W w') := Lib.hid fun W es l1 l2 o1 o2 c1 c2 hs h6 h1 h2 h3 h4 => by
    exact sameHolds_calls l1 l2 es _ _ o1 o2 c1 c2 W (by have h := h3.len; omega) (rows_of_own (enc := encHV) (sz := 7) (fun _ => rfl) h1) h2 h3 h4 (fun d hd => hfit d (hs d hd))
  have BUC : Hid (∀ W, Ext w W → Calls Tryz.prog 15 #[.pointer (some ⟨hb, 0, none⟩), .agg #[.int .i64 c, .int .i64 n], .slice ko ls.length kc] W (RBusyPost c n ls ds W)) := Lib.hid fun W hW => busyT_calls hb v ds c n ls ko kc W (T.ext hW) hkl ((hr.ext hW).mono hW.size)
  have RBUC : Hid (∀ W, Ext w W → Calls Tryz.prog 96 #[.pointer (some ⟨mb, 0, none⟩), .agg #[.int .i64 c, .int .i64 n], .slice ko ls.length kc] W (RBusyPost c n ls ds W)) := Lib.hid fun W hW => rbusy_calls mb u ds c n ls ko kc W (U.ext hW) hkl ((hr.ext hW).mono hW.size)
  have HT := Lib.hid T; have HU := Lib.hid U; have HR := Lib.hid hr; have HULL := Lib.hid hull; have HFIT := Lib.hid hfit
  have hnn : ((ds.length : Int) != (ds.length : Int)) = false := by simp
  clear T U hr hv hu hlc hll hrows hown hare hrise hulc hucm hull hurows huown huare hc0 hc1 hd0 hfit
  go_enter Tryz.func43, Tryz.ntmps43
  go_wp2_with fail
  have hb1 := Blk.new w [.int .i64 c, .int .i64 n] 24
  have hx1 : Ext w (w.alloc (.cells #[.int .i64 c, .int .i64 n] 24)) := (Below.refl _ w).alloc (Nat.le_refl _) _
  obtain ⟨w1, hw1⟩ : ∃ w1, w1 = w.alloc (.cells #[.int .i64 c, .int .i64 n] 24) := ⟨_, rfl⟩
  rw [show w.alloc (.cells [.int .i64 c, .int .i64 n].toArray 24) = w1 from hw1.symm] at hb1
  rw [← hw1] at hx1 ⊢
  obtain ⟨nb, hnb⟩ : ∃ nb, nb = w.heap.size := ⟨_, rfl⟩
  rw [← hnb] at hb1 ⊢
  have X1 := Lib.hid hx1; have B1 := Lib.hid hb1
  clear hb1 hx1 hw1 hnb
  have n0 := B1.out.cell 0; have n1 := B1.out.cell 1
  simp only [List.getElem?_cons_zero, List.getElem?_cons_succ] at n0 n1
  have e0 := ExtBy.cell n0; have e1 := ExtBy.cell n1; have em := ExtBy.cell (MC.out w1 X1.out)
  have XX : Hid (Ext w1 w1.drew) := Lib.hid (Below.refl _ w1).drew
  refine wp_region_firstC (fun W => ∃ p : ExtBy w1, W = p.W) [0, 2, 3, 4, 5, 6] 31 (by kernel_rfl) (by kernel_rfl) (fun _ _ _ _ h => h) ⟨⟨w1.drew, XX.out⟩, rfl⟩ ?_
  simp only [opsAt, List.getElem?_toArray, List.getElem?_cons_succ, List.getElem?_cons_zero]
  repeat (go_big_quiet_step (fail))
  refine wpQuiet_nil ?_
  refine wpAnyH_ready (rs := [1]) (by kernel_rfl) (by simp) ?_
  refine AllReadyH.cons rfl (fun K hK => ?_) AllReadyH.nil
  go_simp
  refine (MANY.out _ (Ext.trans X1.out XX.out)).mono ?_
  rintro e w5 ⟨rfl, rfl⟩
  refine hK.out _ _ ⟨⟨_, XX.out⟩, rfl⟩ (fun _ => ?_)
  clear hK K
  refine wp_takesC (f := 22) [7, 8, 9, 10, 12, 13, 14, 15] (by kernel_rfl) (fun _ _ _ _ h => h) ⟨⟨_, XX.out⟩, rfl⟩ ?_
  simp only [opsAt, List.getElem?_toArray, List.getElem?_cons_succ, List.getElem?_cons_zero]
  repeat (go_big_quiet_step (fail))
  refine wpQuiet_nil ?_
  refine wpAnyH_ready (rs := [11]) (by kernel_rfl) (by simp) ?_
  refine AllReadyH.cons rfl (fun K hK => ?_) AllReadyH.nil
  go_simp
  refine (INC.out _ (Ext.trans X1.out XX.out)).mono ?_
  rintro e w5 ⟨r, l1, rfl, hl, ho, hn, ha, -, hx⟩
  obtain ⟨r1, c1, rfl⟩ := own_slice ho
  have O1 := Lib.hid ho; have N1 := Lib.hid hn; have A1 := Lib.hid ha; have L1 := Lib.hid hl
  have XX := Lib.hid (Ext.trans XX.out hx)
  clear ho hn ha hx hl
  refine hK.out _ _ ⟨⟨_, XX.out⟩, rfl⟩ (fun _ => ?_)
  clear hK K
  refine wpAnyH_ready (rs := [16]) (by kernel_rfl) (by simp) ?_
  refine AllReadyH.cons rfl (fun K hK => ?_) AllReadyH.nil
  go_simp
  refine ((show Calls _ _ #[.slice r1 l1.length c1, .slice uo ds.length ucap] _ _ from by rw [← HULL.out]; exact SH.out _ ds l1 ul r1 uo c1 ucap (fun _ h => h) hfew O1.out (UR.out _ (Ext.trans X1.out XX.out)) (A1.out.mono (fun _ _ e => e.elim)) (UA.out _ (Ext.trans X1.out XX.out)))).mono ?_
  rintro e w5 ⟨rfl, hx⟩
  have XX := Lib.hid (Ext.trans XX.out hx)
  clear hx
  refine hK.out _ _ ⟨⟨_, XX.out⟩, rfl⟩ (fun _ => ?_)
  clear hK K
  refine wp_takesC (f := 15) [17, 18, 19, 20, 22] (by kernel_rfl) (fun _ _ _ _ h => h) ⟨⟨_, XX.out⟩, rfl⟩ ?_
  simp only [opsAt, List.getElem?_toArray, List.getElem?_cons_succ, List.getElem?_cons_zero]
  repeat (go_big_quiet_step (fail))
  refine wpQuiet_nil ?_
  refine wpAnyH_ready (rs := [21]) (by kernel_rfl) (by simp) ?_
  refine AllReadyH.cons rfl (fun K hK => ?_) AllReadyH.nil
  go_simp
  refine (NAMC.out _ (Ext.trans X1.out XX.out)).mono ?_
  rintro e w5 ⟨r, rfl, ho, -, hx⟩
  obtain ⟨r2, c2, rfl⟩ := own_slice ho
  have O2 := Lib.hid ho
  have XX := Lib.hid (Ext.trans XX.out hx)
  clear ho hx
  refine hK.out _ _ ⟨⟨_, XX.out⟩, rfl⟩ (fun _ => ?_)
  clear hK K
  refine wpAnyH_ready (rs := [23]) (by kernel_rfl) (by simp) ?_
  refine AllReadyH.cons rfl (fun K hK => ?_) AllReadyH.nil
  go_simp
  refine (RNAM.out _ (Ext.trans X1.out XX.out)).mono ?_
  rintro e w6 ⟨r, rfl, ho, -, hx⟩
  have O2 := Lib.hid (own_ext O2.out hx)
  obtain ⟨r3, c3, rfl⟩ := own_slice ho
  have O3 := Lib.hid ho
  have XX := Lib.hid (Ext.trans XX.out hx)
  clear ho hx
  refine hK.out _ _ ⟨⟨_, XX.out⟩, rfl⟩ (fun _ => ?_)
  clear hK K
  refine wpAnyH_ready (rs := [24]) (by kernel_rfl) (by simp) ?_
  refine AllReadyH.cons rfl (fun K hK => ?_) AllReadyH.nil
  go_simp
  refine (sameNames_calls (namesD ds) r2 r3 c2 c3 _ (by have := namesD_len ds; omega) (rows_of_own (enc := encNm) (sz := 2) (fun _ => rfl) O2.out) (rows_of_own (enc := encNm) (sz := 2) (fun _ => rfl) O3.out)).mono ?_
  rintro e w5 ⟨rfl, hx⟩
  have XX := Lib.hid (Ext.trans XX.out hx)
  clear hx
  refine hK.out _ _ ⟨⟨_, XX.out⟩, rfl⟩ (fun _ => ?_)
  clear hK K
  refine wp_takesC (f := 5) [25, 26, 27, 28, 29, 31, 32] (by kernel_rfl) (fun _ _ _ _ h => h) ⟨⟨_, XX.out⟩, rfl⟩ ?_
  simp only [opsAt, List.getElem?_toArray, List.getElem?_cons_succ, List.getElem?_cons_zero]
  repeat (go_big_quiet_step (fail))
  refine wpQuiet_nil ?_
  refine wpAnyH_ready (rs := [30]) (by kernel_rfl) (by simp) ?_
  refine AllReadyH.cons rfl (fun K hK => ?_) AllReadyH.nil
  go_simp
  refine (BYC.out _ (Ext.trans X1.out XX.out)).mono ?_
  rintro e w5 ⟨r, l4, rfl, hl, ho, hn, ha, -, hx⟩
  obtain ⟨r4, c4, rfl⟩ := own_slice ho
  have O4 := Lib.hid ho; have N4 := Lib.hid hn; have A4 := Lib.hid ha; have L4 := Lib.hid hl
  have XX := Lib.hid (Ext.trans XX.out hx)
  clear ho hn ha hx hl
  refine hK.out _ _ ⟨⟨_, XX.out⟩, rfl⟩ (fun _ => ?_)
  clear hK K
  refine wpAnyH_ready (rs := [33]) (by kernel_rfl) (by simp) ?_
  refine AllReadyH.cons rfl (fun K hK => ?_) AllReadyH.nil
  go_simp
  refine (RBYC.out _ (Ext.trans X1.out XX.out)).mono ?_
  rintro e w6 ⟨r, l5, rfl, ho, hn, ha, hx⟩
  have O4 := Lib.hid (own_ext O4.out hx)
  have A4 := Lib.hid (A4.out.ext hx)
  have hl : True := trivial
  obtain ⟨r5, c5, rfl⟩ := own_slice ho
  have O5 := Lib.hid ho; have N5 := Lib.hid hn; have A5 := Lib.hid ha; have L5 := Lib.hid hl
  have XX := Lib.hid (Ext.trans XX.out hx)
  clear ho hn ha hx hl
  refine hK.out _ _ ⟨⟨_, XX.out⟩, rfl⟩ (fun _ => ?_)
  clear hK K
  refine wpAnyH_ready (rs := [34]) (by kernel_rfl) (by simp) ?_
  refine AllReadyH.cons rfl (fun K hK => ?_) AllReadyH.nil
  go_simp
  refine (SH.out _ (byD c n ds) l4 l5 r4 r5 c4 c5 (fun d hd => by unfold byD at hd; exact (List.mem_filter.1 hd).1) (Nat.le_trans (List.length_filter_le _ _) hfew) O4.out (rows_of_own (enc := encHV) (sz := 7) (fun _ => rfl) O5.out) (A4.out.mono (fun _ _ e => e.elim)) (A5.out.mono (fun _ _ e => e.elim))).mono ?_
  rintro e w5 ⟨rfl, hx⟩
  have XX := Lib.hid (Ext.trans XX.out hx)
  clear hx
  refine hK.out _ _ ⟨⟨_, XX.out⟩, rfl⟩ (fun _ => ?_)
  clear hK K
  refine wp_takesC (f := 0) [35, 36] (by kernel_rfl) (fun _ _ _ _ h => h) ⟨⟨_, XX.out⟩, rfl⟩ ?_
  simp only [opsAt, List.getElem?_toArray, List.getElem?_cons_succ, List.getElem?_cons_zero]
  repeat (go_big_quiet_step (fail))
  refine wpQuiet_nil ?_
  refine wpAnyH_done (by kernel_rfl) ?_ _
  clear n0 n1 e0 e1 em O1 O2 O3 O4 O5 A1 A4 A5 N1 N4 N5 L1 L4 L5
  have n0 := (B1.out.ext' XX.out).cell 0; have n1 := (B1.out.ext' XX.out).cell 1
  simp only [List.getElem?_cons_zero, List.getElem?_cons_succ] at n0 n1
  go_wp2_with fail
  refine (BUC.out _ (Ext.trans X1.out XX.out)).mono ?_
  rintro e w5 ⟨⟨r, hr1, rfl⟩, hx⟩
  obtain ⟨b1, b2, b3⟩ := r
  have HR1 := Lib.hid hr1
  have XX := Lib.hid (Ext.trans XX.out hx)
  clear hr1 hx n0 n1
  go_upto_region 4 with fail
  have hba := Blk.new w5 [.int .i64 b1, .int .i64 b2] 24
  have hxa : Ext w5 (w5.alloc (.cells #[.int .i64 b1, .int .i64 b2] 24)) := (Below.refl _ w5).alloc (Nat.le_refl _) _
  obtain ⟨wA, hwA⟩ : ∃ wA, wA = w5.alloc (.cells #[.int .i64 b1, .int .i64 b2] 24) := ⟨_, rfl⟩
  rw [show w5.alloc (.cells [.int .i64 b1, .int .i64 b2].toArray 24) = wA from hwA.symm] at hba
  rw [← hwA] at hxa ⊢
  obtain ⟨ga, hga⟩ : ∃ ga, ga = w5.heap.size := ⟨_, rfl⟩
  rw [← hga] at hba ⊢
  have XX := Lib.hid (Ext.trans XX.out hxa)
  have BA := Lib.hid hba
  clear hba hxa hwA hga
  have n0 := (B1.out.ext' XX.out).cell 0; have n1 := (B1.out.ext' XX.out).cell 1
  simp only [List.getElem?_cons_zero, List.getElem?_cons_succ] at n0 n1
  go_wp2_with fail
  refine (RBUC.out _ (Ext.trans X1.out XX.out)).mono ?_
  rintro e w6 ⟨⟨r, hr2, rfl⟩, hx⟩
  obtain rfl : r = (b1, b2, b3) := hr2.trans HR1.out.symm
  have XX := Lib.hid (Ext.trans XX.out hx)
  have BA := Lib.hid (BA.out.ext' hx)
  clear hr2 hx n0 n1
  simp only
  go_upto_region 5 with fail
  have hbb := Blk.new w6 [.int .i64 b1, .int .i64 b2] 24
  have hxb : Ext w6 (w6.alloc (.cells #[.int .i64 b1, .int .i64 b2] 24)) := (Below.refl _ w6).alloc (Nat.le_refl _) _
  obtain ⟨wB, hwB⟩ : ∃ wB, wB = w6.alloc (.cells #[.int .i64 b1, .int .i64 b2] 24) := ⟨_, rfl⟩
  rw [show w6.alloc (.cells [.int .i64 b1, .int .i64 b2].toArray 24) = wB from hwB.symm] at hbb
  rw [← hwB] at hxb ⊢
  obtain ⟨gb, hgb⟩ : ∃ gb, gb = w6.heap.size := ⟨_, rfl⟩
  rw [← hgb] at hbb ⊢
  have XX := Lib.hid (Ext.trans XX.out hxb)
  have a0 := (BA.out.ext' hxb).cell 0; have a1 := (BA.out.ext' hxb).cell 1
  have z0 := hbb.cell 0; have z1 := hbb.cell 1
  simp only [List.getElem?_cons_zero, List.getElem?_cons_succ] at a0 a1 z0 z1
  have heq := neq_Nm
  clear hbb hxb hwB hgb
  go_wp2_with fail
  clear a0 a1 z0 z1 heq
  go_loopw [13] (fun vi wr => ∃ k : Nat, vi = .int .i64 k ∧ k ≤ ls.length ∧ Ext w wr) (fun vi _ => ls.length - (intOf vi).toNat)
  case atStart => exact ⟨0, rfl, by omega, Ext.trans X1.out XX.out⟩
  case round =>
    obtain ⟨k, rfl, hk, hx⟩ := hrel
    have K1 := Lib.hid hx
    clear hx
    by_cases hlt : k < ls.length
    · obtain ⟨key, hkey⟩ : ∃ key, ls[k]? = some key := ⟨_, List.getElem?_eq_getElem hlt⟩
      obtain ⟨kb, koff, rfl, hkb, hkc⟩ := HR.out (by intro e; rw [e] at hlt; simp at hlt)
      have CK : Hid (∀ W, Ext w W → W.cell? ⟨kb, koff + k, none⟩ = some (.string key)) := Lib.hid fun W hW => by
        have ck := cellX hW (hkc k key hkey 0 _ rfl)
        rw [Nat.mul_one, Nat.add_zero] at ck
        exact ck
      have ii0 : (0 : Int) ≤ (k : Int) := by omega
      have ii1 : (k : Int) < (ls.length : Int) := by omega
      have tt : decide ((k : Int) < (ls.length : Int)) = true := decide_eq_true ii1
      have ck := CK.out wr K1.out
      clear hkey hkc
      go_wp2_with fail
      refine (of_calls hb v ds key wr (HT.out.ext K1.out)).mono ?_
      rintro e w4 ⟨x, rfl, hxm, hx4⟩
      obtain ⟨dd, hdd, hfd⟩ : ∃ dd, x.is w4 (fun _ => False) dd ∧ (match ofD key.data.toList ds with | some d => dd = d | none => dd = zeroHD) := by
        cases ho : ofD key.data.toList ds with
        | none => rw [ho] at hxm; exact ⟨zeroHD, by rw [show x = HoldV.zero from hxm]; exact zero_is _ _, rfl⟩
        | some d => rw [ho] at hxm; exact ⟨d, HoldV.is.mono hxm (fun _ _ e => e.elim), rfl⟩
      have X4 := Lib.hid (Ext.trans K1.out hx4)
      have HDD := Lib.hid hdd; have HFD := Lib.hid hfd
      clear hxm hx4 hdd hfd ck
      obtain ⟨key0, cl, nm, xo, xn, xc, yo, yn, yc, put, value⟩ := x
      rw [show (encHV ⟨key0, cl, nm, xo, xn, xc, yo, yn, yc, put, value⟩).toArray = #[.string key0, .int .i64 cl, .int .i64 nm, .slice xo xn xc, .slice yo yn yc, .bool put, .string value] from rfl]
      go_upto_region 11 with fail
      have hba := Blk.new w4 [.string key0, .int .i64 cl, .int .i64 nm, .slice xo xn xc, .slice yo yn yc, .bool put, .string value] 35
      have hxa : Ext w4 (w4.alloc (.cells #[.string key0, .int .i64 cl, .int .i64 nm, .slice xo xn xc, .slice yo yn yc, .bool put, .string value] 35)) := (Below.refl _ w4).alloc (Nat.le_refl _) _
      obtain ⟨wA, hwA⟩ : ∃ wA, wA = w4.alloc (.cells #[.string key0, .int .i64 cl, .int .i64 nm, .slice xo xn xc, .slice yo yn yc, .bool put, .string value] 35) := ⟨_, rfl⟩
      rw [show w4.alloc (.cells [.string key0, .int .i64 cl, .int .i64 nm, .slice xo xn xc, .slice yo yn yc, .bool put, .string value].toArray 35) = wA from hwA.symm] at hba
      rw [← hwA] at hxa ⊢
      obtain ⟨ga, hga⟩ : ∃ ga, ga = w4.heap.size := ⟨_, rfl⟩
      rw [← hga] at hba ⊢
      have XA := Lib.hid (Ext.trans X4.out hxa)
      have HDD := Lib.hid (HDD.out.ext hxa)
      have BA := Lib.hid hba
      clear hba hxa hwA hga
      have ck := CK.out wA XA.out
      go_wp2_with fail
      refine (rof_calls mb u ds key wA (HU.out.ext XA.out)).mono ?_
      rintro e w6 ⟨y, rfl, hym, hx6⟩
      have X6 := Lib.hid (Ext.trans XA.out hx6)
      obtain ⟨dd2, hdd2, hfd2⟩ : ∃ dd, y.is w6 (fun _ => False) dd ∧ (match ofD key.data.toList ds with | some d => dd = d | none => dd = zeroHD) := by
        cases ho : ofD key.data.toList ds with
        | none => rw [ho] at hym; exact ⟨zeroHD, by rw [show y = HoldV.zero from hym]; exact zero_is _ _, rfl⟩
        | some d => rw [ho] at hym; exact ⟨d, hym, rfl⟩
      obtain rfl : dd2 = dd := by
        have h1 := HFD.out
        cases ho : ofD key.data.toList ds with
        | none => rw [ho] at h1 hfd2; exact hfd2.trans h1.symm
        | some d => rw [ho] at h1 hfd2; exact hfd2.trans h1.symm
      have HFT : Hid (dd2.acts.length ≤ 1000000 ∧ dd2.reads.length ≤ 1000000) := Lib.hid (by
        cases ho : ofD key.data.toList ds with
        | none => rw [ho] at hfd2; rw [show dd2 = zeroHD from hfd2]; exact ⟨by decide, by decide⟩
        | some d => rw [ho] at hfd2; rw [show dd2 = d from hfd2]; exact HFIT.out d (List.mem_of_find?_eq_some ho))
      have HDD := Lib.hid (HDD.out.ext hx6); have HD2 := Lib.hid hdd2
      have BA := Lib.hid (BA.out.ext' hx6)
      clear hym hx6 hdd2 hfd2 ck
      obtain ⟨key1, cl1, nm1, xo1, xn1, xc1, yo1, yn1, yc1, put1, value1⟩ := y
      rw [show (encHV ⟨key1, cl1, nm1, xo1, xn1, xc1, yo1, yn1, yc1, put1, value1⟩).toArray = #[.string key1, .int .i64 cl1, .int .i64 nm1, .slice xo1 xn1 xc1, .slice yo1 yn1 yc1, .bool put1, .string value1] from rfl]
      go_upto_region 12 with fail
      have hbb := Blk.new w6 [.string key1, .int .i64 cl1, .int .i64 nm1, .slice xo1 xn1 xc1, .slice yo1 yn1 yc1, .bool put1, .string value1] 35
      have hxb : Ext w6 (w6.alloc (.cells #[.string key1, .int .i64 cl1, .int .i64 nm1, .slice xo1 xn1 xc1, .slice yo1 yn1 yc1, .bool put1, .string value1] 35)) := (Below.refl _ w6).alloc (Nat.le_refl _) _
      obtain ⟨wB, hwB⟩ : ∃ wB, wB = w6.alloc (.cells #[.string key1, .int .i64 cl1, .int .i64 nm1, .slice xo1 xn1 xc1, .slice yo1 yn1 yc1, .bool put1, .string value1] 35) := ⟨_, rfl⟩
      rw [show w6.alloc (.cells [.string key1, .int .i64 cl1, .int .i64 nm1, .slice xo1 xn1 xc1, .slice yo1 yn1 yc1, .bool put1, .string value1].toArray 35) = wB from hwB.symm] at hbb
      rw [← hwB] at hxb ⊢
      obtain ⟨gb, hgb⟩ : ∃ gb, gb = w6.heap.size := ⟨_, rfl⟩
      rw [← hgb] at hbb ⊢
      have XB := Lib.hid (Ext.trans X6.out hxb)
      have HDD := Lib.hid (HDD.out.ext hxb); have HD2 := Lib.hid (HD2.out.ext hxb)
      have BA := BA.out.ext' hxb
      have a0 := BA.cell 0; have a1 := BA.cell 1; have a2 := BA.cell 2; have a3 := BA.cell 3; have a4 := BA.cell 4; have a5 := BA.cell 5; have a6 := BA.cell 6
      have z0 := hbb.cell 0; have z1 := hbb.cell 1; have z2 := hbb.cell 2; have z3 := hbb.cell 3; have z4 := hbb.cell 4; have z5 := hbb.cell 5; have z6 := hbb.cell 6
      simp only [List.getElem?_cons_zero, List.getElem?_cons_succ] at a0 a1 a2 a3 a4 a5 a6 z0 z1 z2 z3 z4 z5 z6
      clear hbb hxb hwB hgb BA
      cases hasD key.data.toList ds
      all_goals
        go_wp2_with fail
        refine (sameHold_calls ⟨key0, cl, nm, xo, xn, xc, yo, yn, yc, put, value⟩ ⟨key1, cl1, nm1, xo1, xn1, xc1, yo1, yn1, yc1, put1, value1⟩ dd2 _ _ wB HDD.out HD2.out HFT.out.1 HFT.out.2).mono ?_
        rintro e w7 ⟨rfl, hx7⟩
        have X7 := Lib.hid (Ext.trans XB.out hx7)
        clear hx7 a0 a1 a2 a3 a4 a5 a6 z0 z1 z2 z3 z4 z5 z6
        go_wp2_with fail
        go_roundw
        case rel => exact ⟨k + 1, by go_num, by omega, X7.out⟩
        case measure => simp [intOf]; omega
    · obtain rfl : k = ls.length := by omega
      have tt : decide ((ls.length : Int) < (ls.length : Int)) = false := decide_eq_false (by omega)
      go_wp2_with fail
      refine (INC.out _ K1.out).mono ?_
      rintro e w5 ⟨r, l1, rfl, hl, ho, hn, ha, hm, hx⟩
      obtain ⟨r1, c1, rfl⟩ := own_slice ho
      have hle : l1.length ≤ 60 := by rw [hl]; exact hfew
      have OV := Lib.hid (overHolds_calls l1 ds _ wr.heap.size r1 c1 w5 (by omega) ho hn hm ha HFIT.out)
      have X5 := Lib.hid hx
      clear hl ho hn ha hm hx
      go_wp2_with fail
      refine OV.out.mono ?_
      rintro e w6 ⟨rfl, hb6⟩
      have X6 : Hid (Ext w w6) := Lib.hid (Ext.butNew' (Ext.trans K1.out X5.out) hb6 (fun i e => Nat.le_trans K1.out.size e))
      clear hb6 OV
      have em := MC.out w6 X6.out
      go_wp2_with fail
      have em2 := ExtBy.cell em
      have XX : Hid (Ext w6 w6.drew) := Lib.hid (Below.refl _ w6).drew
      clear em
      refine wp_region_firstC (fun W => ∃ p : ExtBy w6, W = p.W) [0, 1, 3, 4, 5, 6] 3 (by kernel_rfl) (by kernel_rfl) (fun _ _ _ _ h => h) ⟨⟨w6.drew, XX.out⟩, rfl⟩ ?_
      simp only [opsAt, List.getElem?_toArray, List.getElem?_cons_succ, List.getElem?_cons_zero]
      repeat (go_big_quiet_step (fail))
      refine wpQuiet_nil ?_
      refine wpAnyH_ready (rs := [2]) (by kernel_rfl) (by simp) ?_
      refine AllReadyH.cons rfl (fun K hK => ?_) AllReadyH.nil
      go_simp
      refine (INC.out _ (Ext.trans X6.out XX.out)).mono ?_
      rintro e w7 ⟨r, l7, rfl, hl, ho, hn, ha, -, hx⟩
      obtain ⟨r7, c7, rfl⟩ := own_slice ho
      have O7 := Lib.hid ho; have A7 := Lib.hid ha
      have XX := Lib.hid (Ext.trans XX.out hx)
      clear ho hn ha hx hl
      refine hK.out _ _ ⟨⟨_, XX.out⟩, rfl⟩ (fun _ => ?_)
      clear hK K
      refine wpAnyH_ready (rs := [7]) (by kernel_rfl) (by simp) ?_
      refine AllReadyH.cons rfl (fun K hK => ?_) AllReadyH.nil
      go_simp
      refine (show Calls _ _ #[.slice r7 l7.length c7, .slice uo ds.length ucap] _ _ from by rw [← HULL.out]; exact SH.out _ ds l7 ul r7 uo c7 ucap (fun _ h => h) hfew O7.out (UR.out _ (Ext.trans X6.out XX.out)) (A7.out.mono (fun _ _ e => e.elim)) (UA.out _ (Ext.trans X6.out XX.out))).mono ?_
      rintro e w8 ⟨rfl, hx⟩
      have XX := Lib.hid (Ext.trans XX.out hx)
      clear hx
      refine hK.out _ _ ⟨⟨_, XX.out⟩, rfl⟩ (fun _ => ?_)
      clear hK K
      refine wp_takesC (f := 0) [8] (by kernel_rfl) (fun _ _ _ _ h => h) ⟨⟨_, XX.out⟩, rfl⟩ ?_
      simp only [opsAt, List.getElem?_toArray, List.getElem?_cons_succ, List.getElem?_cons_zero]
      repeat (go_big_quiet_step (fail))
      refine wpQuiet_nil ?_
      refine wpAnyH_done (by kernel_rfl) ?_ _
      go_wp2_with fail
      go_ret
      exact ⟨rfl, Ext.trans X6.out XX.out⟩
end Go.Proofs.YtdmejbjpbjcfbaaGreatDoor
/- Two tables of the same holds, the program's and the document's: what is done at one leaves the other. -/
namespace Go.Proofs.YtdmejbjpbjcfbaaGreatDoor
open Go.RowKit
variable {no1 no2 no : Nat → Prop}
theorem TabN.butN {w w' : World} {hb : Nat} {v : Value} {ds : List HoldD} {S : Nat → Prop} (T : TabN no1 w hb v ds) (hx : But S w w') (h1 : ¬ S hb) (h2 : ∀ j, v.ownBlock = some j → ¬ S j) (h3 : ∀ b, b < w.heap.size → S b → no1 b)
    (h4 : ∀ b, no2 b → no1 b ∨ w.heap.size ≤ b) : TabN no2 w' hb v ds := by
  obtain ⟨l, r1, r2⟩ := T.row
  refine ⟨T.blk.but hx h1, ⟨l, own_but r1 hx h2, ?_⟩, T.rise, T.ok, T.few⟩
  have h := r2.mono (no' := fun b => ((b = hb ∨ v.ownBlock = some b) ∨ no1 b) ∨ w.heap.size ≤ b) (fun b hb e => e.elim id (fun e => absurd hb (Nat.not_lt.2 e)))
  refine (h.but hx (fun b hb e => .inl (.inr (h3 b hb e)))).mono (fun b _ e => ?_)
  rcases e with e | e
  · exact .inl (.inl e)
  · exact (h4 b e).elim (fun e => .inl (.inr e)) .inr
theorem RTabN.butN {w w' : World} {hb : Nat} {v : Value} {ds : List HoldD} {S : Nat → Prop} (T : RTabN no1 w hb v ds) (hx : But S w w') (h1 : ¬ S hb) (h2 : ∀ j, v.ownBlock = some j → ¬ S j) (h3 : ∀ b, b < w.heap.size → S b → no1 b)
    (h4 : ∀ b, no2 b → no1 b ∨ w.heap.size ≤ b) : RTabN no2 w' hb v ds := by
  obtain ⟨l, r1, r2⟩ := T.row
  refine ⟨T.blk.but hx h1, ⟨l, own_but r1 hx h2, ?_⟩, T.rise, T.ok, T.few⟩
  have h := r2.mono (no' := fun b => ((b = hb ∨ v.ownBlock = some b) ∨ no1 b) ∨ w.heap.size ≤ b) (fun b hb e => e.elim id (fun e => absurd hb (Nat.not_lt.2 e)))
  refine (h.but hx (fun b hb e => .inl (.inr (h3 b hb e)))).mono (fun b _ e => ?_)
  rcases e with e | e
  · exact .inl (.inl e)
  · exact (h4 b e).elim (fun e => .inl (.inr e)) .inr
theorem TabN.vlt {w : World} {hb : Nat} {v : Value} {ds : List HoldD} (T : TabN no1 w hb v ds) {j : Nat} (h : v.ownBlock = some j) : j < w.heap.size := by
  obtain ⟨l, r1, _⟩ := T.row
  exact (r1.lt j h).2
structure Two (no : Nat → Prop) (w : World) (hb mb : Nat) (v u : Value) (dh dm : List HoldD) : Prop where
  T : TabN (fun b => (b = mb ∨ u.ownBlock = some b) ∨ no b) w hb v dh
  U : RTabN (fun b => (b = hb ∨ v.ownBlock = some b) ∨ no b) w mb u dm
  ne : hb ≠ mb
  vm : v.ownBlock ≠ some mb
  uh : u.ownBlock ≠ some hb
  vu : ∀ j, v.ownBlock = some j → u.ownBlock ≠ some j
  nolt : ∀ b, no b → b < w.heap.size
theorem Two.ext {w w' : World} {hb mb : Nat} {v u : Value} {dh dm : List HoldD} (X : Two no w hb mb v u dh dm) (hx : Ext w w') : Two no w' hb mb v u dh dm :=
  ⟨X.T.ext hx, X.U.ext hx, X.ne, X.vm, X.uh, X.vu, fun b h => Nat.lt_of_lt_of_le (X.nolt b h) hx.size⟩
theorem Two.turnT {w w' : World} {hb mb : Nat} {v v' u : Value} {dh dh' dm : List HoldD} (X : Two no w hb mb v u dh dm) (hT : TabN (fun b => (b = mb ∨ u.ownBlock = some b) ∨ no b) w' hb v' dh') (hv : ∀ j, v'.ownBlock = some j → v.ownBlock = some j ∨ w.heap.size ≤ j)
    (hx : But (fun j => j = hb ∨ v.ownBlock = some j) w w') : Two no w' hb mb v' u dh' dm := by
  refine ⟨hT, X.U.butN hx (fun e => e.elim (fun e => X.ne e.symm) X.vm) (fun j hj e => e.elim (fun e => X.uh (by rw [← e]; exact hj)) (fun e => X.vu j e hj)) (fun b _ e => .inl e) (fun b e => ?_), X.ne, ?_, X.uh, ?_, fun b h => Nat.lt_of_lt_of_le (X.nolt b h) hx.size⟩
  · rcases e with (e | e) | e
    · exact .inl (.inl (.inl e))
    · exact (hv b e).elim (fun e => .inl (.inl (.inr e))) .inr
    · exact .inl (.inr e)
  · intro e
    rcases hv mb e with h | h
    · exact X.vm h
    · exact absurd X.U.blk.lt (Nat.not_lt.2 h)
  · intro j hj e
    rcases hv j hj with h | h
    · exact X.vu j h e
    · exact absurd (X.U.lt e) (Nat.not_lt.2 h)
theorem Two.turnU {w w' : World} {hb mb : Nat} {v u u' : Value} {dh dm dm' : List HoldD} (X : Two no w hb mb v u dh dm) (hU : RTabN (fun b => (b = hb ∨ v.ownBlock = some b) ∨ no b) w' mb u' dm') (hv : ∀ j, u'.ownBlock = some j → u.ownBlock = some j ∨ w.heap.size ≤ j)
    (hx : But (fun j => j = mb ∨ u.ownBlock = some j) w w') : Two no w' hb mb v u' dh dm' := by
  refine ⟨X.T.butN hx (fun e => e.elim X.ne X.uh) (fun j hj e => e.elim (fun e => X.vm (by rw [← e]; exact hj)) (fun e => X.vu j hj e)) (fun b _ e => .inl e) (fun b e => ?_), hU, X.ne, X.vm, ?_, ?_, fun b h => Nat.lt_of_lt_of_le (X.nolt b h) hx.size⟩
  · rcases e with (e | e) | e
    · exact .inl (.inl (.inl e))
    · exact (hv b e).elim (fun e => .inl (.inl (.inr e))) .inr
    · exact .inl (.inr e)
  · intro e
    rcases hv hb e with h | h
    · exact X.uh h
    · exact absurd X.T.blk.lt (Nat.not_lt.2 h)
  · intro j hj e
    rcases hv j e with h | h
    · exact X.vu j hj h
    · exact absurd (X.T.vlt hj) (Nat.not_lt.2 h)
theorem TabN.only {w : World} {hb : Nat} {v : Value} {ds : List HoldD} (T : TabN no1 w hb v ds) (h4 : ∀ b, no2 b → no1 b ∨ w.heap.size ≤ b) : TabN no2 w hb v ds :=
  T.butN (But.refl (fun _ => False) w) id (fun _ _ e => e) (fun _ _ e => e.elim) h4
theorem RTabN.only {w : World} {hb : Nat} {v : Value} {ds : List HoldD} (T : RTabN no1 w hb v ds) (h4 : ∀ b, no2 b → no1 b ∨ w.heap.size ≤ b) : RTabN no2 w hb v ds :=
  T.butN (But.refl (fun _ => False) w) id (fun _ _ e => e) (fun _ _ e => e.elim) h4
theorem Two.only {w : World} {hb mb : Nat} {v u : Value} {dh dm : List HoldD} (X : Two no1 w hb mb v u dh dm) (h : ∀ b, no2 b → no1 b ∨ w.heap.size ≤ b) (hlt : ∀ b, no2 b → b < w.heap.size) : Two no2 w hb mb v u dh dm :=
  ⟨X.T.only (fun b e => e.elim (fun e => .inl (.inl e)) (fun e => (h b e).elim (fun e => .inl (.inr e)) .inr)), X.U.only (fun b e => e.elim (fun e => .inl (.inl e)) (fun e => (h b e).elim (fun e => .inl (.inr e)) .inr)), X.ne, X.vm, X.uh, X.vu, hlt⟩
theorem Two.turnT3 {w w' : World} {hb mb : Nat} {v v' u : Value} {dh dh' dm : List HoldD} (X : Two no w hb mb v u dh dm) (hT : TabN (fun b => ((b = mb ∨ u.ownBlock = some b) ∨ no b) ∨ w.heap.size ≤ b) w' hb v' dh') (hv : ∀ j, v'.ownBlock = some j → v.ownBlock = some j)
    (hx : But (fun j => j = hb ∨ v.ownBlock = some j) w w') : Two (fun b => no b ∨ (w.heap.size ≤ b ∧ b < w'.heap.size)) w' hb mb v' u dh' dm := by
  have Y := X.turnT (hT.only (fun b e => .inl (.inl e))) (fun j hj => .inl (hv j hj)) hx
  refine ⟨hT.only (fun b e => ?_), X.U.butN hx (fun e => e.elim (fun e => X.ne e.symm) X.vm) (fun j hj e => e.elim (fun e => X.uh (by rw [← e]; exact hj)) (fun e => X.vu j e hj)) (fun b _ e => .inl e) (fun b e => ?_), Y.ne, Y.vm, Y.uh, Y.vu, fun b e => e.elim (Y.nolt b) (fun e => e.2)⟩
  · rcases e with e | e | e
    · exact .inl (.inl (.inl e))
    · exact .inl (.inl (.inr e))
    · exact .inl (.inr e.1)
  · rcases e with (e | e) | e | e
    · exact .inl (.inl (.inl e))
    · exact .inl (.inl (.inr (hv b e)))
    · exact .inl (.inr e)
    · exact .inr e.1
theorem Two.wash {w w' : World} {hb mb : Nat} {v u : Value} {dh dm : List HoldD} {S : Nat → Prop} (X : Two no w hb mb v u dh dm) (hx : But S w w') (hS : ∀ b, S b → no b) (h1 : ¬ S hb) (h2 : ¬ S mb) (h3 : ∀ j, v.ownBlock = some j → ¬ S j) (h4 : ∀ j, u.ownBlock = some j → ¬ S j) : Two no w' hb mb v u dh dm :=
  ⟨X.T.butN hx h1 h3 (fun b _ e => .inr (hS b e)) (fun _ e => .inl e), X.U.butN hx h2 h4 (fun b _ e => .inr (hS b e)) (fun _ e => .inl e), X.ne, X.vm, X.uh, X.vu, fun b e => Nat.lt_of_lt_of_le (X.nolt b e) hx.size⟩
end Go.Proofs.YtdmejbjpbjcfbaaGreatDoor
/- act: a deed is done to both tables. -/
namespace Go.Proofs.YtdmejbjpbjcfbaaGreatDoor
open Go.RowKit
variable {no : Nat → Prop}
theorem rowsX {α : Type} {sz : Nat} {enc : α → List Value} {w w' : World} {ao : Option Addr} {l : List α} (h : Rows sz enc w.heap.size w ao l) (hx : Ext w w') : Rows sz enc w'.heap.size w' ao l := (h.ext hx).mono hx.size
set_option maxRecDepth 100000 in
set_option maxHeartbeats 12800000 in
theorem act_calls (A hb mb : Nat) (v u : Value) (ds : List HoldD) (kd : Int) (hs : List HoldV) (dl : List HoldD) (ho : Option Addr) (hc : Nat) (ls : List ByteArray) (ko : Option Addr) (kc : Nat) (lo hi : ByteArray) (w : World) (X : Two no w hb mb v u ds ds)
    (hl : hs.length ≤ 1000000) (hkl : ls.length ≤ 1000000) (hr : NRows 7 encHV (fun b => A ≤ b) w ho hs) (hd : HoldsAre w (fun b => A ≤ b) hs dl) (hk : NRows 1 encStr (fun b => A ≤ b) w ko ls) (hfit : ∀ d ∈ dl, d.fits) (hok : ∀ d ∈ dl, d.ok)
    (hlo : lo.size ≤ 140737488351232) (hhi : hi.size ≤ 140737488351232) (ha1 : A ≤ hb) (ha2 : A ≤ mb) (ha3 : ∀ j, v.ownBlock = some j → A ≤ j) (ha4 : ∀ j, u.ownBlock = some j → A ≤ j) :
    Calls Tryz.prog 42 #[.pointer (some ⟨hb, 0, none⟩), .pointer (some ⟨mb, 0, none⟩), .agg #[.int .i64 kd, .slice ho hs.length hc, .slice ko ls.length kc, .string lo, .string hi]] w fun e w' => e = .returned (.bool true) ∧ ∃ (v' u' : Value) (ds' : List HoldD), Two no w' hb mb v' u' ds' ds' ∧ (∀ j, v'.ownBlock = some j → v.ownBlock = some j ∨ w.heap.size ≤ j) ∧ (∀ j, u'.ownBlock = some j → u.ownBlock = some j ∨ w.heap.size ≤ j) ∧ But (fun j => (j = hb ∨ v.ownBlock = some j) ∨ (j = mb ∨ u.ownBlock = some j)) w w' := by
  have LH : Hid (∀ W, Ext w W → _) := Lib.hid fun W hW => lentHolds_calls hs dl ho hc W hl ((hr.rows.ext hW).mono hW.size) ((hd.mono (fun _ _ e => e.elim)).ext hW) hfit
  have LT : Hid (∀ W, Ext w W → _) := Lib.hid fun W hW => lentTexts_calls ls ko kc W hkl ((hk.rows.ext hW).mono hW.size)
  have HSLT : Hid (∀ b, (b = hb ∨ v.ownBlock = some b) ∨ (b = mb ∨ u.ownBlock = some b) → b < w.heap.size) := Lib.hid (by
    rintro b ((e | e) | (e | e))
    · rw [e]; exact X.T.blk.lt
    · exact X.T.vlt e
    · rw [e]; exact X.U.blk.lt
    · exact X.U.lt e)
  have HSA : Hid (∀ b, (b = hb ∨ v.ownBlock = some b) ∨ (b = mb ∨ u.ownBlock = some b) → A ≤ b) := Lib.hid (by
    rintro b ((e | e) | (e | e))
    · rw [e]; exact ha1
    · exact ha3 b e
    · rw [e]; exact ha2
    · exact ha4 b e)
  have HX := Lib.hid X; have HR := Lib.hid hr; have HD := Lib.hid hd; have HK := Lib.hid hk; have HFIT := Lib.hid hfit; have HOK := Lib.hid hok
  clear X hr hd hk hfit hok
  have hb1 := Blk.new w [.int .i64 kd, .slice ho hs.length hc, .slice ko ls.length kc, .string lo, .string hi] 77
  have hx1 : Ext w (w.alloc (.cells #[.int .i64 kd, .slice ho hs.length hc, .slice ko ls.length kc, .string lo, .string hi] 77)) := (Below.refl _ w).alloc (Nat.le_refl _) _
  go_enter Tryz.func42, Tryz.ntmps42
  go_wp2_with fail
  obtain ⟨w1, hw1⟩ : ∃ w1, w1 = w.alloc (.cells #[.int .i64 kd, .slice ho hs.length hc, .slice ko ls.length kc, .string lo, .string hi] 77) := ⟨_, rfl⟩
  rw [show w.alloc (.cells [.int .i64 kd, .slice ho hs.length hc, .slice ko ls.length kc, .string lo, .string hi].toArray 77) = w1 from hw1.symm] at hb1
  rw [← hw1] at hx1 ⊢
  obtain ⟨nb, hnb⟩ : ∃ nb, nb = w.heap.size := ⟨_, rfl⟩
  rw [← hnb] at hb1 ⊢
  have HNB := Lib.hid hnb
  have X1 := Lib.hid hx1; have B1 := Lib.hid hb1
  clear hb1 hx1 hw1 hnb
  have n1 := B1.out.cell 1; have n2 := B1.out.cell 2
  simp only [List.getElem?_cons_zero, List.getElem?_cons_succ] at n1 n2
  have e1 := ExtBy.cell n1; have e2 := ExtBy.cell n2
  have XX : Hid (Ext w1 w1.drew) := Lib.hid (Below.refl _ w1).drew
  refine wp_region_firstC (fun W => ∃ p : ExtBy w1, W = p.W) [0, 1, 3, 4] 4 (by kernel_rfl) (by kernel_rfl) (fun _ _ _ _ h => h) ⟨⟨w1.drew, XX.out⟩, rfl⟩ ?_
  simp only [opsAt, List.getElem?_toArray, List.getElem?_cons_succ, List.getElem?_cons_zero]
  repeat (go_big_quiet_step (fail))
  refine wpQuiet_nil ?_
  clear n1 n2 e1 e2
  refine wpAnyH_ready (rs := [2]) (by kernel_rfl) (by simp) ?_
  refine AllReadyH.cons rfl (fun K hK => ?_) AllReadyH.nil
  go_simp
  refine (LH.out _ (Ext.trans X1.out XX.out)).mono ?_
  rintro e w5 ⟨g1, c1, m, rfl, hmc, hmm, hmr, hg1, hma, hx⟩
  have HMC := Lib.hid hmc; have HMM := Lib.hid hmm; have HMR := Lib.hid hmr; have HG1 := Lib.hid (Nat.le_trans (Ext.trans X1.out XX.out).size hg1); have HMA : Hid (LentAre w5 (fun j => (j = hb ∨ v.ownBlock = some j) ∨ (j = mb ∨ u.ownBlock = some j)) m dl) := Lib.hid (hma.mono (fun b _ e => .inl (Nat.lt_of_lt_of_le (HSLT.out b e) (Ext.trans X1.out XX.out).size)))
  have XX := Lib.hid (Ext.trans XX.out hx)
  clear hmc hmm hmr hg1 hma hx
  refine hK.out _ _ ⟨⟨_, XX.out⟩, rfl⟩ (fun _ => ?_)
  clear hK K
  refine wpAnyH_ready (rs := [5]) (by kernel_rfl) (by simp) ?_
  refine AllReadyH.cons rfl (fun K hK => ?_) AllReadyH.nil
  go_simp
  refine (LT.out _ (Ext.trans X1.out XX.out)).mono ?_
  rintro e w6 ⟨g2, c2, rfl, htc, htm, htr, hg2, hx⟩
  have HTC := Lib.hid htc; have HTM := Lib.hid htm; have HTR := Lib.hid htr; have HG2 := Lib.hid (Nat.le_trans (Ext.trans X1.out XX.out).size hg2)
  have HMR := Lib.hid (rowsX HMR.out hx); have HMA := Lib.hid (HMA.out.ext hx)
  have XX := Lib.hid (Ext.trans XX.out hx)
  clear htc htm htr hg2 hx
  refine hK.out _ _ ⟨⟨_, XX.out⟩, rfl⟩ (fun _ => ?_)
  clear hK K
  refine wp_takesC (f := 0) [6, 7] (by kernel_rfl) (fun _ _ _ _ h => h) ⟨⟨_, XX.out⟩, rfl⟩ ?_
  simp only [opsAt, List.getElem?_toArray, List.getElem?_cons_succ, List.getElem?_cons_zero]
  repeat (go_big_quiet_step (fail))
  refine wpQuiet_nil ?_
  refine wpAnyH_done (by kernel_rfl) ?_ _
  have n0 := (B1.out.ext' XX.out).cell 0
  simp only [List.getElem?_cons_zero] at n0
  go_wp2_with fail
  refine (pick_calls kd 4 _ (by decide) (by decide)).mono ?_
  rintro e w7 ⟨⟨k, rfl, hk⟩, rfl⟩
  clear n0
  have NM : Hid (NRows 7 encHV (fun j => (j = hb ∨ v.ownBlock = some j) ∨ (j = mb ∨ u.ownBlock = some j)) w6 (some ⟨g1, 0, none⟩) (m ++ marksHolds)) := Lib.hid fun hne => by
    obtain ⟨b, off, e, hbb, hcc⟩ := HMR.out hne
    simp only [Option.some.injEq, Addr.mk.injEq, and_true] at e
    obtain ⟨rfl, rfl⟩ := e
    exact ⟨_, _, rfl, hbb, fun e => absurd (HSLT.out _ e) (Nat.not_lt.2 HG1.out), hcc⟩
  have NT : Hid (NRows 1 encStr (fun j => (j = hb ∨ v.ownBlock = some j) ∨ (j = mb ∨ u.ownBlock = some j)) w6 (some ⟨g2, 0, none⟩) (ls ++ marksTexts)) := Lib.hid fun hne => by
    obtain ⟨b, off, e, hbb, hcc⟩ := HTR.out hne
    simp only [Option.some.injEq, Addr.mk.injEq, and_true] at e
    obtain ⟨rfl, rfl⟩ := e
    exact ⟨_, _, rfl, hbb, fun e => absurd (HSLT.out _ e) (Nat.not_lt.2 HG2.out), hcc⟩
  have hkk : k = 2 ∨ k = 3 ∨ (k < 2) := by omega
  rcases hkk with rfl | rfl | hk2
  · have X7 := HX.out.ext (Ext.trans X1.out XX.out)
    have hnt : NRows 1 encStr (fun j => j = hb ∨ v.ownBlock = some j) w6 (some ⟨g2, 0, none⟩) ls := fun hne => by
      obtain ⟨b, off, e, hbb, hcc⟩ := HTR.out (by intro e; exact hne (List.append_eq_nil_iff.1 e).1)
      simp only [Option.some.injEq, Addr.mk.injEq, and_true] at e
      obtain ⟨rfl, rfl⟩ := e
      refine ⟨_, _, rfl, hbb, fun e => ?_, fun i x hx => hcc i x (by rw [List.getElem?_append_left (List.getElem?_eq_some_iff.1 hx).1]; exact hx)⟩
      rcases e with e | e
      · exact absurd HX.out.T.blk.lt (by rw [← e]; exact Nat.not_lt.2 HG2.out)
      · exact absurd (HX.out.T.vlt e) (Nat.not_lt.2 HG2.out)
    have HF := Lib.hid (free_calls hb v ds ls (some ⟨g2, 0, none⟩) c2 w6 X7.T hkl hnt)
    have HX7 := Lib.hid X7
    clear X7 hnt
    go_wp2_with fail
    refine HF.out.mono ?_
    rintro e w8 ⟨r, l8, v8, rfl, hl8, ho8, hn8, ha8, hm8, ht8, hv8, hb8⟩
    have Y8 := HX7.out.turnT ht8 (fun j hj => .inl (hv8 j hj)) hb8
    obtain ⟨r8, c8, rfl⟩ := own_slice ho8
    have HY8 := Lib.hid Y8; have O8 := Lib.hid ho8; have A8 := Lib.hid ha8; have B8 := Lib.hid hb8
    clear Y8 ho8 ha8 hb8 ht8 hm8 hl8
    have HN8 := Lib.hid hn8
    have HV8 := Lib.hid hv8
    clear hn8 hv8
    have hnb8 : ¬ ((fun j => j = hb ∨ v.ownBlock = some j) nb) := fun e => by
      rcases e with e | e
      · exact absurd HX.out.T.blk.lt (by rw [← e, HNB.out]; exact Nat.lt_irrefl _)
      · exact absurd (HX.out.T.vlt e) (by rw [HNB.out]; exact Nat.lt_irrefl _)
    have NB8 := Lib.hid ((B1.out.ext' XX.out).but B8.out hnb8)
    have hkr : Rows 1 encStr w8.heap.size w8 ko ls := ((HK.out.ext (Ext.trans X1.out XX.out)).but B8.out (fun b _ e => e.elim (fun e => by rw [e]; exact ha1) (ha3 b))).rows
    have HRF := Lib.hid (rfree_calls mb u ds ls ko kc w8 HY8.out.U hkl hkr)
    have n2 := NB8.out.cell 2
    simp only [List.getElem?_cons_zero, List.getElem?_cons_succ] at n2
    clear hnb8 hkr
    go_wp2_with fail
    refine HRF.out.mono ?_
    rintro e w9 ⟨r, l9, u9, rfl, ho9, hn9, ha9, hu9, hv9, hb9⟩
    obtain ⟨r9, c9, rfl⟩ := own_slice ho9
    have hb9' : But (fun j => j = mb ∨ u.ownBlock = some j) w8 w9 := (But.refl (fun _ => False) w8).trans hb9 (fun _ _ e => e.elim) (fun _ _ e => .inl e)
    have Y9 := HY8.out.turnU hu9 (fun j hj => .inr (hv9 j hj)) hb9'
    have hml := HX7.out.U.blk.lt
    have o8 := own_but O8.out hb9 (fun k hk e => by have h := HN8.out k hk; have e : k = mb := e; omega)
    have a8 := HoldsAre.but hb9 (fun b _ e => .inr (by have e : b = mb := e; rw [e]; exact hml)) A8.out
    have hl8 : l8.length ≤ 1000000 := by
      have h1 := a8.len
      have h2 : (ofKeys ls ds).length ≤ ds.length := List.length_filter_le _ _
      have h3 := HX.out.T.few
      omega
    have HSH := Lib.hid (sameHolds_calls l8 l9 (ofKeys ls ds) _ _ r8 r9 c8 c9 w9 hl8 (rows_of_own (enc := encHV) (sz := 7) (fun _ => rfl) o8) (rows_of_own (enc := encHV) (sz := 7) (fun _ => rfl) ho9) a8 ha9 (fun d hd => HX.out.T.fits d (List.mem_filter.1 hd).1))
    have HY9 := Lib.hid Y9; have NB9 := Lib.hid (NB8.out.but hb9' (fun e => by
      rcases e with e | e
      · exact absurd HX.out.U.blk.lt (by rw [← e, HNB.out]; exact Nat.lt_irrefl _)
      · exact absurd (HX.out.U.lt e) (by rw [HNB.out]; exact Nat.lt_irrefl _)))
    have B9 := Lib.hid hb9'
    clear Y9 o8 a8 hl8 ho9 hn9 ha9 hu9 hb9 hb9' hml n2
    go_wp2_with fail
    refine HSH.out.mono ?_
    rintro e w10 ⟨rfl, hx10⟩
    have HY10 := Lib.hid (HY9.out.ext hx10); have NB10 := Lib.hid (NB9.out.ext' hx10); have X10 := Lib.hid hx10
    have HV9 := Lib.hid hv9
    clear hx10 HSH hv9
    have n1 := NB10.out.cell 1; have n2 := NB10.out.cell 2
    simp only [List.getElem?_cons_zero, List.getElem?_cons_succ] at n1 n2
    have hb6 : But (fun j => (j = hb ∨ v.ownBlock = some j) ∨ (j = mb ∨ u.ownBlock = some j)) w6 w10 := (B8.out.trans B9.out (U := (fun j => (j = hb ∨ v.ownBlock = some j) ∨ (j = mb ∨ u.ownBlock = some j))) (fun _ _ e => .inl e) (fun _ _ e => .inr e)).trans (X10.out.but (fun _ => False)) (fun _ _ e => e) (fun _ _ e => e.elim)
    have hb0 : But (fun j => (j = hb ∨ v.ownBlock = some j) ∨ (j = mb ∨ u.ownBlock = some j)) w w10 := (((Ext.trans X1.out XX.out)).but (fun _ => False)).trans hb6 (fun _ _ e => e.elim) (fun _ _ e => e)
    have HBT := Lib.hid hb0
    have HKH := Lib.hid (keptHolds_calls hs m dl _ g1 c1 ho hc w10 hl HMC.out HMM.out (NM.out.but hb6 (fun _ _ e => e)).rows (HMA.out.but hb6 (fun _ _ e => e)) (HR.out.but hb0 (fun b _ e => HSA.out b e)).rows ((HoldsAre.but hb0 (fun b _ e => HSA.out b e) HD.out).mono (fun _ _ e => e.elim)) HFIT.out)
    have HKT := Lib.hid (fun W (hW : Ext w10 W) => keptTexts_calls ls g2 c2 ko kc W hkl HTC.out HTM.out (rowsX (NT.out.but hb6 (fun _ _ e => e)).rows hW) (rowsX (HK.out.but hb0 (fun b _ e => HSA.out b e)).rows hW))
    clear hb6 hb0
    go_wp2_with fail
    refine HKH.out.mono ?_
    rintro e w11 ⟨rfl, hx11⟩
    have n2 := cellX hx11 n2
    have X11 := Lib.hid hx11
    clear hx11
    go_wp2_with fail
    refine (HKT.out _ X11.out).mono ?_
    rintro e w12 ⟨rfl, hx12⟩
    have X12 := Lib.hid (Ext.trans X11.out hx12)
    clear hx12
    go_wp2_with fail
    go_ret
    exact ⟨rfl, v8, u9, notKeys ls ds, HY10.out.ext X12.out, fun j hj => .inl (HV8.out j hj), fun j hj => .inr (Nat.le_trans (Nat.le_trans (Ext.trans X1.out XX.out).size B8.out.size) (HV9.out j hj)), HBT.out.trans (X12.out.but (fun _ => False)) (fun _ _ e => e) (fun _ _ e => e.elim)⟩
  · have X7 := HX.out.ext (Ext.trans X1.out XX.out)
    have n3 := (B1.out.ext' XX.out).cell 3; have n4 := (B1.out.ext' XX.out).cell 4
    simp only [List.getElem?_cons_zero, List.getElem?_cons_succ] at n3 n4
    have HF := Lib.hid (take_calls (no0 := fun b => ((b = mb ∨ u.ownBlock = some b) ∨ no b) ∨ w6.heap.size ≤ b) hb v ds lo hi w6 (X7.T.only (fun b e => e)) hlo hhi)
    have HX7 := Lib.hid X7
    clear X7
    go_wp2_with fail
    refine HF.out.mono ?_
    rintro e w8 ⟨r, l8, v8, rfl, hl8, ho8, hn8, ha8, hm8, ht8, hv8, hb8⟩
    have Y8 := HX7.out.turnT3 ht8 hv8 hb8
    obtain ⟨r8, c8, rfl⟩ := own_slice ho8
    have HY8 := Lib.hid Y8; have O8 := Lib.hid ho8; have A8 := Lib.hid ha8; have B8 := Lib.hid hb8; have M8 := Lib.hid hm8
    have HN8 := Lib.hid hn8; have HV8 := Lib.hid hv8
    clear Y8 ho8 ha8 hb8 ht8 hm8 hl8 hn8 hv8
    have hnb8 : ¬ ((fun j => j = hb ∨ v.ownBlock = some j) nb) := fun e => absurd (HSLT.out nb (.inl e)) (by rw [HNB.out]; exact Nat.lt_irrefl _)
    have NB8 := Lib.hid ((B1.out.ext' XX.out).but B8.out hnb8)
    have HRF := Lib.hid (rtake_calls mb u ds lo hi w8 HY8.out.U hlo hhi (fun b e => by
      rcases e with (e | e) | e
      · rw [e]; exact HY8.out.T.blk.lt
      · exact HY8.out.T.vlt e
      · exact HY8.out.nolt b e))
    have n3 := NB8.out.cell 3; have n4 := NB8.out.cell 4
    simp only [List.getElem?_cons_zero, List.getElem?_cons_succ] at n3 n4
    clear hnb8
    go_wp2_with fail
    refine HRF.out.mono ?_
    rintro e w9 ⟨r, l9, u9, rfl, ho9, hn9, ha9, hu9, hv9, hb9⟩
    obtain ⟨r9, c9, rfl⟩ := own_slice ho9
    have hb9' : But (fun j => j = mb ∨ u.ownBlock = some j) w8 w9 := (But.refl (fun _ => False) w8).trans hb9 (fun _ _ e => e.elim) (fun _ _ e => .inl e)
    have Y9 := HY8.out.turnU hu9 (fun j hj => .inr (hv9 j hj)) hb9'
    have hml := HX7.out.U.blk.lt
    have o8 := own_but O8.out hb9 (fun k hk e => by have h := HN8.out k hk; have e : k = mb := e; omega)
    have a8 := HoldsAre.but hb9 (fun b _ e => .inr (by have e : b = mb := e; rw [e]; exact hml)) A8.out
    have hl8 : l8.length ≤ 1000000 := by
      have h1 := a8.len
      have h2 : (inD lo hi ds).length ≤ ds.length := List.length_filter_le _ _
      have h3 := HX.out.T.few
      omega
    have M9 : Hid (Mine w9 w6.heap.size l8) := Lib.hid (fun x hx => (M8.out x hx).far hb9 (fun j e => by have e : j = mb := e; rw [e]; exact hml))
    have L8 := Lib.hid hl8
    have IN8 : Hid (∀ j, InnerOf l8 j → w6.heap.size ≤ j ∧ j < w8.heap.size) := Lib.hid fun j e => ⟨M8.out.inner j e, M8.out.innerLt j e⟩
    have OW8 : Hid (∀ j, (Value.slice r8 l8.length c8).ownBlock = some j → w6.heap.size ≤ j ∧ j < w8.heap.size) := Lib.hid fun j e => ⟨HN8.out j e, (O8.out.lt j e).2⟩
    have HFT : Hid (∀ d ∈ inD lo hi ds, d.fits) := Lib.hid fun d hd => HX.out.T.fits d (List.mem_filter.1 hd).1
    have HSH := Lib.hid (sameHolds_calls l8 l9 (inD lo hi ds) _ _ r8 r9 c8 c9 w9 hl8 (rows_of_own (enc := encHV) (sz := 7) (fun _ => rfl) o8) (rows_of_own (enc := encHV) (sz := 7) (fun _ => rfl) ho9) a8 ha9 HFT.out)
    have P8 := Lib.hid o8; have Q8 := Lib.hid a8
    have NB9 := Lib.hid (NB8.out.but hb9' (fun e => absurd (HSLT.out nb (.inr e)) (by rw [HNB.out]; exact Nat.lt_irrefl _)))
    have HY9 := Lib.hid Y9; have B9 := Lib.hid hb9'; have HV9 := Lib.hid hv9
    clear Y9 o8 a8 hl8 ho9 hn9 ha9 hu9 hb9 hb9' hml n3 n4 hv9
    go_wp2_with fail
    refine HSH.out.mono ?_
    rintro e wo ⟨rfl, hxo⟩
    have HOV := Lib.hid (overHoldsS_calls l8 (inD lo hi ds) _ (fun j => w6.heap.size ≤ j ∧ j < w8.heap.size) w6.heap.size r8 c8 wo L8.out (own_ext P8.out hxo) OW8.out (fun x hx => (M9.out x hx).ext hxo) IN8.out (HoldsAre.ext hxo Q8.out) HFT.out)
    have HYO := Lib.hid (HY9.out.ext hxo); have NBO := Lib.hid (NB9.out.ext' hxo); have XO := Lib.hid hxo
    clear hxo HSH
    go_wp2_with fail
    refine HOV.out.mono ?_
    rintro e w10 ⟨rfl, hbo⟩
    have h68 : w6.heap.size ≤ w8.heap.size := B8.out.size
    have h06 : w.heap.size ≤ w6.heap.size := (Ext.trans X1.out XX.out).size
    have hz : ∀ b, b < w6.heap.size → ¬ (w6.heap.size ≤ b ∧ b < w8.heap.size) := fun b h e => by omega
    have hlt6 : ∀ b, (b = hb ∨ v.ownBlock = some b) ∨ (b = mb ∨ u.ownBlock = some b) → b < w6.heap.size := fun b e => Nat.lt_of_lt_of_le (HSLT.out b e) h06
    have Y10 := (HYO.out.wash hbo (fun b e => .inr e) (hz _ (hlt6 _ (.inl (.inl rfl)))) (hz _ (hlt6 _ (.inr (.inl rfl)))) (fun j hj => hz _ (hlt6 _ (.inl (.inr (HV8.out j hj))))) (fun j hj e => absurd e.2 (Nat.not_lt.2 (HV9.out j hj))))
    have HY10 := Lib.hid (Y10.only (no2 := no) (fun b e => .inl (.inl e)) (fun b e => Y10.nolt b (.inl e)))
    have BO := Lib.hid hbo
    have hb6 : But (fun j => (j = hb ∨ v.ownBlock = some j) ∨ (j = mb ∨ u.ownBlock = some j)) w6 w10 := (((B8.out.trans B9.out (U := (fun j => (j = hb ∨ v.ownBlock = some j) ∨ (j = mb ∨ u.ownBlock = some j))) (fun _ _ e => .inl e) (fun _ _ e => .inr e)).trans (XO.out.but (fun _ => False)) (U := (fun j => (j = hb ∨ v.ownBlock = some j) ∨ (j = mb ∨ u.ownBlock = some j))) (fun _ _ e => e) (fun _ _ e => e.elim))).trans hbo (fun _ _ e => e) (fun i hi e => absurd hi (Nat.not_lt.2 e.1))
    have hb0 : But (fun j => (j = hb ∨ v.ownBlock = some j) ∨ (j = mb ∨ u.ownBlock = some j)) w w10 := (((Ext.trans X1.out XX.out)).but (fun _ => False)).trans hb6 (fun _ _ e => e.elim) (fun _ _ e => e)
    have HBT := Lib.hid hb0
    have NB10 := NBO.out.but hbo (hz nb (Nat.lt_of_lt_of_le B1.out.lt XX.out.size))
    have n1 := NB10.cell 1; have n2 := NB10.cell 2
    simp only [List.getElem?_cons_zero, List.getElem?_cons_succ] at n1 n2
    clear Y10 hbo NB10 hz hlt6 h68 h06
    have HKH := Lib.hid (keptHolds_calls hs m dl _ g1 c1 ho hc w10 hl HMC.out HMM.out (NM.out.but hb6 (fun _ _ e => e)).rows (HMA.out.but hb6 (fun _ _ e => e)) (HR.out.but hb0 (fun b _ e => HSA.out b e)).rows ((HoldsAre.but hb0 (fun b _ e => HSA.out b e) HD.out).mono (fun _ _ e => e.elim)) HFIT.out)
    have HKT := Lib.hid (fun W (hW : Ext w10 W) => keptTexts_calls ls g2 c2 ko kc W hkl HTC.out HTM.out (rowsX (NT.out.but hb6 (fun _ _ e => e)).rows hW) (rowsX (HK.out.but hb0 (fun b _ e => HSA.out b e)).rows hW))
    clear hb6 hb0
    go_wp2_with fail
    refine HKH.out.mono ?_
    rintro e w11 ⟨rfl, hx11⟩
    have n2 := cellX hx11 n2
    have X11 := Lib.hid hx11
    clear hx11
    go_wp2_with fail
    refine (HKT.out _ X11.out).mono ?_
    rintro e w12 ⟨rfl, hx12⟩
    have X12 := Lib.hid (Ext.trans X11.out hx12)
    clear hx12
    go_wp2_with fail
    go_ret
    exact ⟨rfl, v8, u9, outD lo hi ds, HY10.out.ext X12.out, fun j hj => .inl (HV8.out j hj), fun j hj => .inr (Nat.le_trans (Nat.le_trans (Ext.trans X1.out XX.out).size B8.out.size) (HV9.out j hj)), HBT.out.trans (X12.out.but (fun _ => False)) (fun _ _ e => e) (fun _ _ e => e.elim)⟩
  · have hk2' : k = 0 ∨ k = 1 := by omega
    have X7 := HX.out.ext (Ext.trans X1.out XX.out)
    have hml : m.length = dl.length := HMA.out.are.len
    have hdl := HD.out.len
    have hnm : NRows 7 encHV (fun j => j = hb ∨ v.ownBlock = some j) w6 (some ⟨g1, 0, none⟩) m := fun hne => by
      obtain ⟨b, off, e, hbb, hno, hcc⟩ := NM.out (by intro e; exact hne (List.append_eq_nil_iff.1 e).1)
      exact ⟨b, off, e, hbb, fun e => hno (.inl e), fun i x hx => hcc i x (by rw [List.getElem?_append_left (List.getElem?_eq_some_iff.1 hx).1]; exact hx)⟩
    have HP := Lib.hid (put_calls hb v ds m dl (some ⟨g1, 0, none⟩) c1 w6 X7.T (by omega) hnm (HMA.out.are.mono (fun b _ e => .inl e)) HOK.out (fun b e => by
      rcases e with (e | e) | e
      · rw [e]; exact X7.U.blk.lt
      · exact X7.U.lt e
      · exact X7.nolt b e))
    have HX7 := Lib.hid X7
    have HNM := Lib.hid hnm; have HML := Lib.hid (show m.length ≤ 1000000 by omega)
    clear X7 hnm hml hdl HP
    have n1 := (B1.out.ext' XX.out).cell 1
    simp only [List.getElem?_cons_zero, List.getElem?_cons_succ] at n1
    rcases hk2' with rfl | rfl
    all_goals
      go_wp2_with fail
      have hnn : ¬ (fun j => (j = hb ∨ v.ownBlock = some j) ∨ (j = mb ∨ u.ownBlock = some j)) nb := fun e => absurd (HSLT.out nb e) (by rw [HNB.out]; exact Nat.lt_irrefl _)
      have e1 := ButBy.cell (S := (fun j => (j = hb ∨ v.ownBlock = some j) ∨ (j = mb ∨ u.ownBlock = some j))) n1 hnn
      have D6 : Hid (Ext w6 w6.drew) := Lib.hid (Below.refl _ w6).drew
      have P := Lib.hid (put_calls hb v ds m dl (some ⟨g1, 0, none⟩) c1 w6.drew (HX7.out.ext D6.out).T HML.out (HNM.out.ext D6.out) ((HMA.out.are.mono (fun b _ e => .inl e)).ext D6.out) HOK.out (fun b e => by
        rcases e with (e | e) | e
        · rw [e]; exact (HX7.out.ext D6.out).U.blk.lt
        · exact (HX7.out.ext D6.out).U.lt e
        · exact (HX7.out.ext D6.out).nolt b e))
      refine wp_region_firstC (fun W => ∃ p : ButBy (fun j => (j = hb ∨ v.ownBlock = some j) ∨ (j = mb ∨ u.ownBlock = some j)) w6, W = p.W) [0, 1, 3, 4, 5] 3 (by kernel_rfl) (by kernel_rfl) (fun _ _ _ _ h => h) ⟨⟨w6.drew, D6.out.but _⟩, rfl⟩ ?_
      simp only [opsAt, List.getElem?_toArray, List.getElem?_cons_succ, List.getElem?_cons_zero]
      repeat (go_big_quiet_step (fail))
      refine wpQuiet_nil ?_
      clear e1
      refine wpAnyH_ready (rs := [2]) (by kernel_rfl) (by simp) ?_
      refine AllReadyH.cons rfl (fun K hK => ?_) AllReadyH.nil
      go_simp
      refine P.out.mono ?_
      rintro e w8 ⟨rfl, ⟨v8, ht8, hv8⟩, hb8, -⟩
      have Y8 := (HX7.out.ext D6.out).turnT ht8 hv8 hb8
      have q8 : But (fun j => (j = hb ∨ v.ownBlock = some j) ∨ (j = mb ∨ u.ownBlock = some j)) w6 w8 := (D6.out.but (fun _ => False)).trans hb8 (fun _ _ e => e.elim) (fun _ _ e => .inl e)
      have HY8 := Lib.hid Y8; have HV8 := Lib.hid hv8; have Q8 := Lib.hid q8
      clear Y8 q8 ht8 hv8 hb8
      refine hK.out _ _ ⟨⟨_, Q8.out⟩, rfl⟩ (fun _ => ?_)
      clear hK K
      refine wpAnyH_ready (rs := [6]) (by kernel_rfl) (by simp) ?_
      refine AllReadyH.cons rfl (fun K hK => ?_) AllReadyH.nil
      go_simp
      have b8 : But (fun j => (j = hb ∨ v.ownBlock = some j) ∨ (j = mb ∨ u.ownBlock = some j)) w w8 := ((Ext.trans X1.out XX.out).but (fun _ => False)).trans Q8.out (fun _ _ e => e.elim) (fun _ _ e => e)
      refine (rput_calls mb u ds hs dl ho hc w8 HY8.out.U hl ((HR.out.but b8 (fun b _ e => HSA.out b e)).mono (fun b _ e => HSA.out b (.inr e))) ((HoldsAre.but b8 (fun b _ e => HSA.out b e) HD.out).mono (fun b _ e => HSA.out b (.inr e))) HOK.out (fun b e => by
        rcases e with (e | e) | e
        · rw [e]; exact HY8.out.T.blk.lt
        · exact HY8.out.T.vlt e
        · exact HY8.out.nolt b e)).mono ?_
      rintro e w10 ⟨rfl, ⟨u9, hu9, hv9⟩, hb9⟩
      have Y9 := HY8.out.turnU hu9 hv9 hb9
      have hb6 : But (fun j => (j = hb ∨ v.ownBlock = some j) ∨ (j = mb ∨ u.ownBlock = some j)) w6 w10 := Q8.out.trans hb9 (fun _ _ e => e) (fun _ _ e => .inr e)
      have HY10 := Lib.hid Y9; have HV9 := Lib.hid hv9; have H6 := Lib.hid hb6
      clear Y9 hu9 hv9 hb9 b8 hb6
      refine hK.out _ _ ⟨⟨_, H6.out⟩, rfl⟩ (fun _ => ?_)
      clear hK K
      refine wp_takesC (f := 0) [7] (by kernel_rfl) (fun _ _ _ _ h => h) ⟨⟨_, H6.out⟩, rfl⟩ ?_
      simp only [opsAt, List.getElem?_toArray, List.getElem?_cons_succ, List.getElem?_cons_zero]
      repeat (go_big_quiet_step (fail))
      refine wpQuiet_nil ?_
      refine wpAnyH_done (by kernel_rfl) ?_ _
      have NB10 := (B1.out.ext' XX.out).but H6.out hnn
      have n1 := NB10.cell 1; have n2 := NB10.cell 2
      simp only [List.getElem?_cons_zero, List.getElem?_cons_succ] at n1 n2
      have hb6 := H6.out
      have hb0 : But (fun j => (j = hb ∨ v.ownBlock = some j) ∨ (j = mb ∨ u.ownBlock = some j)) w w10 := (((Ext.trans X1.out XX.out)).but (fun _ => False)).trans hb6 (fun _ _ e => e.elim) (fun _ _ e => e)
      have HBT := Lib.hid hb0
      clear NB10 hnn
      have HKH := Lib.hid (keptHolds_calls hs m dl _ g1 c1 ho hc w10 hl HMC.out HMM.out (NM.out.but hb6 (fun _ _ e => e)).rows (HMA.out.but hb6 (fun _ _ e => e)) (HR.out.but hb0 (fun b _ e => HSA.out b e)).rows ((HoldsAre.but hb0 (fun b _ e => HSA.out b e) HD.out).mono (fun _ _ e => e.elim)) HFIT.out)
      have HKT := Lib.hid (fun W (hW : Ext w10 W) => keptTexts_calls ls g2 c2 ko kc W hkl HTC.out HTM.out (rowsX (NT.out.but hb6 (fun _ _ e => e)).rows hW) (rowsX (HK.out.but hb0 (fun b _ e => HSA.out b e)).rows hW))
      clear hb6 hb0
      go_wp2_with fail
      refine HKH.out.mono ?_
      rintro e w11 ⟨rfl, hx11⟩
      have n2 := cellX hx11 n2
      have X11 := Lib.hid hx11
      clear hx11
      go_wp2_with fail
      refine (HKT.out _ X11.out).mono ?_
      rintro e w12 ⟨rfl, hx12⟩
      have X12 := Lib.hid (Ext.trans X11.out hx12)
      clear hx12
      go_wp2_with fail
      go_ret
      exact ⟨rfl, v8, u9, putT dl ds, HY10.out.ext X12.out, fun j hj => (HV8.out j hj).elim .inl (fun h => .inr (Nat.le_trans (Ext.trans (Ext.trans X1.out XX.out) D6.out).size h)), fun j hj => (HV9.out j hj).elim .inl (fun h => .inr (Nat.le_trans (Nat.le_trans (Ext.trans X1.out XX.out).size Q8.out.size) h)), HBT.out.trans (X12.out.but (fun _ => False)) (fun _ _ e => e) (fun _ _ e => e.elim)⟩
end Go.Proofs.YtdmejbjpbjcfbaaGreatDoor
/- Deeds, and great: are they too many, too long? -/
namespace Go.Proofs.YtdmejbjpbjcfbaaGreatDoor
open Go.RowKit
structure DeedV where
  kd : Int
  ho : Option Addr
  hn : Nat
  hc : Nat
  ko : Option Addr
  kn : Nat
  kc : Nat
  lo : ByteArray
  hi : ByteArray
def encDV (d : DeedV) : List Value := [.int .i64 d.kd, .slice d.ho d.hn d.hc, .slice d.ko d.kn d.kc, .string d.lo, .string d.hi]
structure DeedD where
  hs : List HoldV
  dl : List HoldD
  ls : List ByteArray
structure DeedV.is (w : World) (no : Nat → Prop) (v : DeedV) (d : DeedD) : Prop where
  hn : v.hn = d.hs.length
  kn : v.kn = d.ls.length
  hr : NRows 7 encHV no w v.ho d.hs
  hd : HoldsAre w no d.hs d.dl
  hk : NRows 1 encStr no w v.ko d.ls
  lo : v.lo.size ≤ 140737488351232
  hi : v.hi.size ≤ 140737488351232
  hsn : d.hs.length ≤ 9223372036854775807
  hln : d.ls.length ≤ 1000000000000000
  small : ∀ h ∈ d.dl, h.small
  ok : ∀ h ∈ d.dl, h.acts.length ≤ 1000000 → h.reads.length ≤ 1000000 → h.ok
  ks : ∀ k ∈ d.ls, k.size ≤ 140737488351232
theorem DeedV.is.but {w w' : World} {no S : Nat → Prop} {v : DeedV} {d : DeedD} (h : v.is w no d) (hx : But S w w') (hS : ∀ b, b < w.heap.size → S b → no b) : v.is w' no d :=
  ⟨h.hn, h.kn, h.hr.but hx hS, h.hd.but hx hS, h.hk.but hx hS, h.lo, h.hi, h.hsn, h.hln, h.small, h.ok, h.ks⟩
theorem DeedV.is.ext {w w' : World} {no : Nat → Prop} {v : DeedV} {d : DeedD} (h : v.is w no d) (hx : Ext w w') : v.is w' no d := h.but (hx.but (fun _ => False)) (fun _ _ e => e.elim)
theorem DeedV.is.mono {w : World} {no no' : Nat → Prop} {v : DeedV} {d : DeedD} (h : v.is w no d) (hno : ∀ b, b < w.heap.size → no' b → no b) : v.is w no' d :=
  ⟨h.hn, h.kn, h.hr.mono hno, h.hd.mono hno, h.hk.mono hno, h.lo, h.hi, h.hsn, h.hln, h.small, h.ok, h.ks⟩
def DeedsAre (w : World) (no : Nat → Prop) (vs : List DeedV) (ds : List DeedD) : Prop := vs.length = ds.length ∧ ∀ (i : Nat) (v : DeedV), vs[i]? = some v → ∃ d, ds[i]? = some d ∧ v.is w no d
theorem DeedsAre.but {w w' : World} {no S : Nat → Prop} {vs : List DeedV} {ds : List DeedD} (h : DeedsAre w no vs ds) (hx : But S w w') (hS : ∀ b, b < w.heap.size → S b → no b) : DeedsAre w' no vs ds :=
  ⟨h.1, fun i v hi => by obtain ⟨d, h1, h2⟩ := h.2 i v hi; exact ⟨d, h1, h2.but hx hS⟩⟩
theorem DeedsAre.ext {w w' : World} {no : Nat → Prop} {vs : List DeedV} {ds : List DeedD} (h : DeedsAre w no vs ds) (hx : Ext w w') : DeedsAre w' no vs ds := h.but (hx.but (fun _ => False)) (fun _ _ e => e.elim)
theorem DeedsAre.mono {w : World} {no no' : Nat → Prop} {vs : List DeedV} {ds : List DeedD} (h : DeedsAre w no vs ds) (hno : ∀ b, b < w.heap.size → no' b → no b) : DeedsAre w no' vs ds :=
  ⟨h.1, fun i v hi => by obtain ⟨d, h1, h2⟩ := h.2 i v hi; exact ⟨d, h1, h2.mono hno⟩⟩
def DeedD.few (d : DeedD) : Prop := holdsN 1500 0 d.dl ≤ 1500 ∧ d.ls.length ≤ 1500
theorem readsN_bd {most : Nat} (hm : most ≤ 1000000) : ∀ (l : List Rd) (n : Nat), (∀ a ∈ l, a.small) → n ≤ 100000000000000 → readsN most n l ≤ 100000000000000
  | [], n, _, h => by simpa [readsN] using h
  | r :: l, n, hs, h => by
    obtain ⟨h1, h2⟩ := hs r (by simp)
    rw [readsN]
    split
    · exact readsN_bd hm l _ (fun a ha => hs a (by simp [ha])) (by omega)
    · exact h
theorem holdsN_bd : ∀ (l : List HoldD) (n : Nat), (∀ a ∈ l, a.small) → n ≤ 100000000000000 → holdsN 1500 n l ≤ 100000000000000
  | [], n, _, h => by simpa [holdsN] using h
  | d :: l, n, hs, h => by
    have hd := hs d (by simp)
    have ha := actsN_bd (most := 1500) (by omega) d.acts 0 hd.acts (by omega)
    have hk := hd.ks; have hv := hd.vs
    rw [holdsN]
    split
    · exact holdsN_bd l _ (fun a ha => hs a (by simp [ha])) (readsN_bd (by omega) d.reads _ hd.reads (by unfold holdN; omega))
    · exact h
def GreatPost (vs : List DeedV) (ds : List DeedD) (w : World) (e : Ending) (w' : World) : Prop := ∃ b, e = .returned (.bool b) ∧ Ext w w' ∧ (b = false → vs.length ≤ 60 ∧ ∀ d ∈ ds, d.few)
theorem GreatPost.yes {vs : List DeedV} {ds : List DeedD} {w : World} {e : Ending} {w' : World} (h : e = .returned (.bool true)) (hx : Ext w w') : GreatPost vs ds w e w' := ⟨true, h, hx, fun h => by cases h⟩
theorem GreatPost.no {vs : List DeedV} {ds : List DeedD} {w : World} {e : Ending} {w' : World} (h : e = .returned (.bool false)) (hx : Ext w w') (hf : vs.length ≤ 60 ∧ ∀ d ∈ ds, d.few) : GreatPost vs ds w e w' := ⟨false, h, hx, fun _ => hf⟩
set_option maxRecDepth 100000 in
set_option maxHeartbeats 6400000 in
theorem great_calls (vs : List DeedV) (ds : List DeedD) (no : Nat → Prop) (ao : Option Addr) (cap : Nat) (w : World) (hl : vs.length ≤ 9223372036854775807) (hr : Rows 5 encDV w.heap.size w ao vs) (hd : DeedsAre w no vs ds) :
    Calls Tryz.prog 37 #[.slice ao vs.length cap] w (GreatPost vs ds w) := by
  have HR := Lib.hid hr; have HD := Lib.hid hd; have HLN := Lib.hid hd.1
  clear hr hd
  go_enter Tryz.func37, Tryz.ntmps37
  go_wp2_with fail
  go_loopw [3, 4] (fun vn vi wr => ∃ n k : Nat, k ≤ vs.length ∧ k ≤ 61 ∧ vn = .int .i64 n ∧ vi = .int .i64 k ∧ n ≤ 1500 ∧ (∀ (i : Nat) (d : DeedD), i < k → ds[i]? = some d → d.few) ∧ Ext w wr) (fun _ vi _ => vs.length - (intOf vi).toNat)
  case atStart => exact ⟨0, 0, by omega, by omega, rfl, rfl, by omega, fun i d h => absurd h (Nat.not_lt_zero _), Below.refl _ _⟩
  case round =>
    obtain ⟨n, k, hk, hk61, rfl, rfl, hn, hF, hx⟩ := hrel
    have K1 := Lib.hid hx; have K2 := Lib.hid hF; clear hx hF
    by_cases hlt : k < vs.length
    · by_cases hle : k < 61
      · obtain ⟨x, hx⟩ : ∃ x, vs[k]? = some x := ⟨_, List.getElem?_eq_getElem hlt⟩
        obtain ⟨d, hdk, hxd⟩ := HD.out.2 k x hx
        obtain ⟨b, off, rfl, hb, hcell⟩ := HR.out (by intro e; rw [e] at hlt; simp at hlt)
        have hcx := hcell k x hx
        have hmove : ∀ j, wr.cell? ⟨b, j, none⟩ = w.cell? ⟨b, j, none⟩ := fun j => K1.out.cell (p := ⟨b, j, none⟩) hb
        obtain ⟨kd, ho, hn0, hc, ko, kn, kc, lo, hi⟩ := x
        obtain ⟨hs, dl, ls⟩ := d
        have e1 := hxd.hn; have e2 := hxd.kn
        simp only at e1 e2
        subst e1 e2
        have hab := holdsN_bd dl 0 hxd.small (by omega)
        have hkn := hxd.hln; have hlo := hxd.lo; have hhi := hxd.hi
        simp only at hkn hlo hhi
        have hac : ∀ W, Ext w W → Calls Tryz.prog 10 #[.slice ho hs.length hc, .int .i64 (1500 : Nat)] W fun e w' => e = .returned (.int .i64 (holdsN 1500 0 dl)) ∧ Ext W w' := fun W hW =>
          holdsOf_calls hs dl no ho hc 1500 W (by omega) hxd.hsn ((hxd.hr.rows.ext hW).mono hW.size) (hxd.hd.ext hW) hxd.small
        have c1 := (hmove _).trans (hcx 1 _ rfl); have c2 := (hmove _).trans (hcx 2 _ rfl); have c3 := (hmove _).trans (hcx 3 _ rfl); have c4 := (hmove _).trans (hcx 4 _ rfl)
        have d1 := ExtBy.cell c1; have d2 := ExtBy.cell c2
        have C2 := Lib.hid c2; have C3 := Lib.hid c3; have C4 := Lib.hid c4
        have hkr : ∀ W, Ext w W → Rows 1 encStr W.heap.size W ko ls := fun W hW => (hxd.hk.rows.ext hW).mono hW.size
        have hks := hxd.ks
        have ii0 : (0 : Int) ≤ (k : Int) := by omega
        have i1 : (k : Int) < (vs.length : Int) := by omega
        have HKR := Lib.hid hkr; have HKS := Lib.hid hks
        have HC := Lib.hid (fun p : ExtBy wr => hac p.W (Ext.trans K1.out p.ext))
        have HXD := Lib.hid hdk
        have HN : Hid (holdsN 1500 0 dl = holdsN 1500 0 dl) := Lib.hid rfl
        obtain ⟨N, hN⟩ : ∃ N, N = holdsN 1500 0 dl := ⟨_, rfl⟩
        rw [← hN] at hab HC
        have HNN := Lib.hid hN
        clear hcell hcx hmove hx hdk c1 c2 c3 c4 hac hkr hks hxd hN HN
        go_wp2_with fail
        refine wp_region_ext (by kernel_rfl) (by kernel_rfl) ?_
        repeat (go_big_quiet_step ((first | (with_reducible exact Calls.ext_of _ (HC.out _)))))
        refine wpQuiet_nil ?_
        intro wc hw'
        have hxc : Ext wr wc := by obtain ⟨p, rfl⟩ := hw'; exact p.ext
        have XC := Lib.hid (Ext.trans K1.out hxc)
        have c2 := fun W (hW : Ext wc W) => ((Ext.trans hxc hW).cell (p := ⟨b, off + k * 5 + 2, none⟩) (block_lt_of_cell C2.out)).trans C2.out
        have c3 := fun W (hW : Ext wc W) => ((Ext.trans hxc hW).cell (p := ⟨b, off + k * 5 + 3, none⟩) (block_lt_of_cell C3.out)).trans C3.out
        have c4 := fun W (hW : Ext wc W) => ((Ext.trans hxc hW).cell (p := ⟨b, off + k * 5 + 4, none⟩) (block_lt_of_cell C4.out)).trans C4.out
        have HC2 := Lib.hid c2; have HC3 := Lib.hid c3; have HC4 := Lib.hid c4
        clear hxc hw' d1 d2 c2 c3 c4
        go_wp2_with fail
        obtain ⟨m0, hm0⟩ : ∃ m0 : Nat, m0 = n + N + ls.length := ⟨_, rfl⟩
        have hm0b : m0 ≤ 1200000000000000 := by omega
        have HM0 := Lib.hid hm0
        have hfr : (↑n + ↑N + ↑ls.length : Int) = (m0 : Int) := by omega
        rw [hfr]
        clear hm0 hfr
        obtain ⟨wo, rfl⟩ : ∃ wo : World, wo = wr := ⟨_, rfl⟩
        go_loopw [3, 5] (fun vn vj wr => ∃ m j : Nat, j ≤ ls.length ∧ j ≤ 200 ∧ vn = .int .i64 m ∧ vj = .int .i64 j ∧ m0 ≤ m ∧ m ≤ 1200000000000000 + j * 20000000000000 ∧ Ext wc wr) (fun _ vj _ => ls.length - (intOf vj).toNat)
        case atStart => exact ⟨m0, 0, by omega, by omega, rfl, rfl, by omega, by omega, Below.refl _ _⟩
        case round =>
          obtain ⟨m, j, hj, hj2, rfl, rfl, hmb, hmt, hxw⟩ := hrel
          have J1 := Lib.hid hxw; clear hxw
          have hc2 := HC2.out _ J1.out
          have hfin : ¬ (j < ls.length ∧ j < 200) → m ≤ 9000000000000000 := fun _ => by omega
          by_cases hjj : j < ls.length ∧ j < 200
          · obtain ⟨hjl, hje⟩ := hjj
            obtain ⟨r, hrj⟩ : ∃ r, ls[j]? = some r := ⟨_, List.getElem?_eq_getElem hjl⟩
            have hrk := HKS.out r (List.mem_of_getElem? hrj)
            obtain ⟨rb, roff, rfl, hrb, hrcell⟩ := HKR.out wc XC.out (by intro e; rw [e] at hjl; simp at hjl)
            have hrx := hrcell j r hrj
            have q0 := (J1.out.cell (p := ⟨rb, roff + j * 1 + 0, none⟩) hrb).trans (hrx 0 _ rfl)
            simp only [Nat.add_zero, Nat.mul_one] at q0
            have j0 : (0 : Int) ≤ (j : Int) := by omega
            have j1 : (j : Int) < (ls.length : Int) := by omega
            clear hrj hrcell hrx hfin
            go_wp2_with fail
            go_roundw
            case rel => exact ⟨m + r.size / 8, j + 1, by omega, by omega, by go_num, by go_num, by omega, by omega, J1.out⟩
            case measure => simp [intOf]; omega
          · have hmm := hfin hjj
            have hc3 := HC3.out _ J1.out; have hc4 := HC4.out _ J1.out
            clear hfin
            have hfew : m + (lo.size + hi.size) / 8 ≤ 1500 → ∀ (i : Nat) (d : DeedD), i < k + 1 → ds[i]? = some d → d.few := fun hmm i d hi hid => by
              by_cases hik : i < k
              · exact K2.out i d hik hid
              · obtain rfl : i = k := by omega
                rw [HXD.out] at hid
                have := Option.some.inj hid
                subst this
                have h1 := HM0.out; have h2 := HNN.out
                exact ⟨by show holdsN 1500 0 dl ≤ 1500; omega, by show ls.length ≤ 1500; omega⟩
            have HFEW := Lib.hid hfew
            clear hfew
            have d3 := ExtBy.cell hc3; have d4 := ExtBy.cell hc4
            by_cases h1 : j < ls.length
            · have h2 : ¬ j < 200 := fun h => hjj ⟨h1, h⟩
              by_cases hg : 1500 < m + (lo.size + hi.size) / 8
              · skip
                go_wp2_with fail
                refine wp_region_ext (by kernel_rfl) (by kernel_rfl) ?_
                repeat (go_big_quiet_step (fail))
                refine wpQuiet_nil ?_
                intro wd hw'
                have hxd : Ext wr wd := by obtain ⟨p, rfl⟩ := hw'; exact p.ext
                have XD := Lib.hid (Ext.trans (Ext.trans XC.out J1.out) hxd)
                clear hxd hw' d3 d4
                go_wp2_with fail
                go_ret
                exact .yes rfl XD.out
              · skip
                go_wp2_with fail
                refine wp_region_ext (by kernel_rfl) (by kernel_rfl) ?_
                repeat (go_big_quiet_step (fail))
                refine wpQuiet_nil ?_
                intro wd hw'
                have hxd : Ext wr wd := by obtain ⟨p, rfl⟩ := hw'; exact p.ext
                have XD := Lib.hid (Ext.trans (Ext.trans XC.out J1.out) hxd)
                clear hxd hw' d3 d4
                go_wp2_with fail
                go_roundw
                case rel => exact ⟨m + (lo.size + hi.size) / 8, k + 1, by omega, by omega, by go_num, by go_num, by omega, HFEW.out (by omega), XD.out⟩
                case measure => simp [intOf]; omega
            · by_cases hg : 1500 < m + (lo.size + hi.size) / 8
              · skip
                go_wp2_with fail
                refine wp_region_ext (by kernel_rfl) (by kernel_rfl) ?_
                repeat (go_big_quiet_step (fail))
                refine wpQuiet_nil ?_
                intro wd hw'
                have hxd : Ext wr wd := by obtain ⟨p, rfl⟩ := hw'; exact p.ext
                have XD := Lib.hid (Ext.trans (Ext.trans XC.out J1.out) hxd)
                clear hxd hw' d3 d4
                go_wp2_with fail
                go_ret
                exact .yes rfl XD.out
              · skip
                go_wp2_with fail
                refine wp_region_ext (by kernel_rfl) (by kernel_rfl) ?_
                repeat (go_big_quiet_step (fail))
                refine wpQuiet_nil ?_
                intro wd hw'
                have hxd : Ext wr wd := by obtain ⟨p, rfl⟩ := hw'; exact p.ext
                have XD := Lib.hid (Ext.trans (Ext.trans XC.out J1.out) hxd)
                clear hxd hw' d3 d4
                go_wp2_with fail
                go_roundw
                case rel => exact ⟨m + (lo.size + hi.size) / 8, k + 1, by omega, by omega, by go_num, by go_num, by omega, HFEW.out (by omega), XD.out⟩
                case measure => simp [intOf]; omega
      · obtain rfl : k = 61 := by omega
        have hgt : (60 : Int) < (vs.length : Int) := by omega
        go_wp2_with fail
        go_ret
        exact .yes rfl K1.out
    · obtain rfl : k = vs.length := by omega
      by_cases h60 : 60 < vs.length
      · have hgt : (60 : Int) < (vs.length : Int) := by omega
        go_wp2_with fail
        go_ret
        exact .yes rfl K1.out
      · have hgt : ¬ (60 : Int) < (vs.length : Int) := by omega
        go_wp2_with fail
        go_ret
        refine .no rfl K1.out ⟨by omega, fun d hd => ?_⟩
        obtain ⟨i, hi⟩ := List.mem_iff_getElem?.1 hd
        exact K2.out i d (by rw [HLN.out]; exact (List.getElem?_eq_some_iff.1 hi).1) hi
end Go.Proofs.YtdmejbjpbjcfbaaGreatDoor
/- Two pairs of tables, apart from each other: a table and the document's, a copy and the document's copy. -/
namespace Go.Proofs.YtdmejbjpbjcfbaaGreatDoor
open Go.RowKit
variable {no1 no2 no : Nat → Prop}
def Four (hb mb : Nat) (v u : Value) (b : Nat) : Prop := (b = hb ∨ v.ownBlock = some b) ∨ (b = mb ∨ u.ownBlock = some b)
theorem Two.four {w : World} {hb mb : Nat} {v u : Value} {dh dm : List HoldD} (X : Two no w hb mb v u dh dm) {b : Nat} (h : Four hb mb v u b) : b < w.heap.size := by
  rcases h with (e | e) | (e | e)
  · rw [e]; exact X.T.blk.lt
  · exact X.T.vlt e
  · rw [e]; exact X.U.blk.lt
  · exact X.U.lt e
theorem Two.washN {w w' : World} {hb mb : Nat} {v u : Value} {dh dm : List HoldD} {S : Nat → Prop} (X : Two no1 w hb mb v u dh dm) (hx : But S w w') (hS : ∀ b, S b → no1 b) (h0 : ∀ b, Four hb mb v u b → ¬ S b) (h4 : ∀ b, no2 b → no1 b ∨ w.heap.size ≤ b) (hlt : ∀ b, no2 b → b < w'.heap.size) : Two no2 w' hb mb v u dh dm :=
  ⟨X.T.butN hx (h0 _ (.inl (.inl rfl))) (fun j hj => h0 j (.inl (.inr hj))) (fun b _ e => .inr (hS b e)) (fun b e => by
      rcases e with e | e
      · exact .inl (.inl e)
      · exact (h4 b e).elim (fun e => .inl (.inr e)) .inr),
    X.U.butN hx (h0 _ (.inr (.inl rfl))) (fun j hj => h0 j (.inr (.inr hj))) (fun b _ e => .inr (hS b e)) (fun b e => by
      rcases e with e | e
      · exact .inl (.inl e)
      · exact (h4 b e).elim (fun e => .inl (.inr e)) .inr),
    X.ne, X.vm, X.uh, X.vu, hlt⟩
structure Both (A : Nat) (w : World) (hb mb : Nat) (v u : Value) (ds : List HoldD) (gb cb : Nat) (x y : Value) (es : List HoldD) : Prop where
  X : Two (Four gb cb x y) w hb mb v u ds ds
  Y : Two (Four hb mb v u) w gb cb x y es es
  ap : ∀ b, Four hb mb v u b → ¬ Four gb cb x y b
  ax : ∀ b, Four hb mb v u b → A ≤ b
  ay : ∀ b, Four gb cb x y b → A ≤ b
theorem Both.swap {A : Nat} {w : World} {hb mb : Nat} {v u : Value} {ds : List HoldD} {gb cb : Nat} {x y : Value} {es : List HoldD} (B : Both A w hb mb v u ds gb cb x y es) : Both A w gb cb x y es hb mb v u ds :=
  ⟨B.Y, B.X, fun b h e => B.ap b e h, B.ay, B.ax⟩
theorem Both.ext {A : Nat} {w w' : World} {hb mb : Nat} {v u : Value} {ds : List HoldD} {gb cb : Nat} {x y : Value} {es : List HoldD} (B : Both A w hb mb v u ds gb cb x y es) (hx : Ext w w') : Both A w' hb mb v u ds gb cb x y es :=
  ⟨B.X.ext hx, B.Y.ext hx, B.ap, B.ax, B.ay⟩
theorem Both.turn {A : Nat} {w w' : World} {hb mb : Nat} {v u v' u' : Value} {ds ds' : List HoldD} {gb cb : Nat} {x y : Value} {es : List HoldD} (B : Both A w hb mb v u ds gb cb x y es) (hA : A ≤ w.heap.size)
    (hX : Two (Four gb cb x y) w' hb mb v' u' ds' ds') (hv : ∀ j, v'.ownBlock = some j → v.ownBlock = some j ∨ w.heap.size ≤ j) (hu : ∀ j, u'.ownBlock = some j → u.ownBlock = some j ∨ w.heap.size ≤ j) (hb' : But (Four hb mb v u) w w') : Both A w' hb mb v' u' ds' gb cb x y es := by
  have h4 : ∀ b, Four hb mb v' u' b → Four hb mb v u b ∨ w.heap.size ≤ b := by
    rintro b ((e | e) | (e | e))
    · exact .inl (.inl (.inl e))
    · exact (hv b e).elim (fun e => .inl (.inl (.inr e))) .inr
    · exact .inl (.inr (.inl e))
    · exact (hu b e).elim (fun e => .inl (.inr (.inr e))) .inr
  refine ⟨hX, B.Y.washN hb' (fun b e => e) (fun b e e' => B.ap b e' e) h4 (fun b e => hX.four e), fun b e e' => ?_, fun b e => ?_, B.ay⟩
  · rcases h4 b e with h | h
    · exact B.ap b h e'
    · exact absurd (B.Y.four e') (Nat.not_lt.2 h)
  · rcases h4 b e with h | h
    · exact B.ax b h
    · exact Nat.le_trans hA h
theorem Both.fork {A : Nat} {w w1 w2 : World} {hb mb : Nat} {v u : Value} {ds : List HoldD} {gb cb : Nat} {x y : Value} {es : List HoldD} (X : Two (fun _ => False) w hb mb v u ds ds) (hA : A ≤ w.heap.size) (ax : ∀ b, Four hb mb v u b → A ≤ b)
    (h1 : Ext w w1) (T : TabN (Four hb mb v u) w1 gb x es) (hg : w.heap.size ≤ gb) (hx : ∀ j, x.ownBlock = some j → w.heap.size ≤ j)
    (h2 : Ext w1 w2) (U : RTabN (fun b => (b = gb ∨ x.ownBlock = some b) ∨ Four hb mb v u b) w2 cb y es) (hc : w1.heap.size ≤ cb) (hy : ∀ j, y.ownBlock = some j → w1.heap.size ≤ j) : Both A w2 hb mb v u ds gb cb x y es := by
  have hnew : ∀ b, Four gb cb x y b → w.heap.size ≤ b := by
    have := h1.size
    rintro b ((e | e) | (e | e))
    · omega
    · exact hx b e
    · omega
    · exact Nat.le_trans this (hy b e)
  have ap : ∀ b, Four hb mb v u b → ¬ Four gb cb x y b := fun b e e' => absurd (X.four e) (Nat.not_lt.2 (hnew b e'))
  have hlt : ∀ b, Four gb cb x y b → b < w2.heap.size := by
    rintro b ((e | e) | (e | e))
    · rw [e]; exact Nat.lt_of_lt_of_le T.blk.lt h2.size
    · exact Nat.lt_of_lt_of_le (T.vlt e) h2.size
    · rw [e]; exact U.blk.lt
    · exact U.lt e
  have TT : TabN (fun b => (b = cb ∨ y.ownBlock = some b) ∨ Four hb mb v u b) w2 gb x es :=
    T.butN (h2.but (fun _ => False)) id (fun _ _ e => e) (fun _ _ e => e.elim) (fun b e => by
      rcases e with (e | e) | e
      · exact .inr (by omega)
      · exact .inr (hy b e)
      · exact .inl e)
  refine ⟨X.washN (S := fun _ => False) ((Ext.trans h1 h2).but _) (fun _ e => e) (fun _ _ e => e) (fun b e => .inr (hnew b e)) hlt, ⟨TT, U, ?_, ?_, ?_, ?_, fun b e => Nat.lt_of_lt_of_le (X.four e) (Ext.trans h1 h2).size⟩, ap, ax, fun b e => Nat.le_trans hA (hnew b e)⟩
  · intro e
    exact absurd T.blk.lt (by rw [e]; exact Nat.not_lt.2 hc)
  · intro e
    exact absurd (T.vlt e) (Nat.not_lt.2 hc)
  · intro e
    exact absurd T.blk.lt (Nat.not_lt.2 (hy gb e))
  · intro j hj e
    exact absurd (T.vlt hj) (Nat.not_lt.2 (hy j e))
def RunSt (A : Nat) (w : World) (hb mb : Nat) (v u : Value) (ds : List HoldD) (k i : Nat) (vg vc : Value) : Prop :=
  (i ≤ k ∧ Two (fun _ => False) w hb mb v u ds ds ∧ ∀ b, Four hb mb v u b → A ≤ b) ∨ (k < i ∧ ∃ (gb cb : Nat) (x y : Value) (es : List HoldD), vg = .pointer (some ⟨gb, 0, none⟩) ∧ vc = .pointer (some ⟨cb, 0, none⟩) ∧ Both A w hb mb v u ds gb cb x y es)
theorem RunSt.ext {A : Nat} {w w' : World} {hb mb : Nat} {v u : Value} {ds : List HoldD} {k i : Nat} {vg vc : Value} (h : RunSt A w hb mb v u ds k i vg vc) (hx : Ext w w') : RunSt A w' hb mb v u ds k i vg vc := by
  rcases h with ⟨h1, h2, h3⟩ | ⟨h1, gb, cb, x, y, es, h2, h3, h4⟩
  · exact .inl ⟨h1, h2.ext hx, h3⟩
  · exact .inr ⟨h1, gb, cb, x, y, es, h2, h3, h4.ext hx⟩
theorem RunSt.opened {A : Nat} {w : World} {hb mb : Nat} {v u : Value} {ds : List HoldD} {k i : Nat} {vg vc : Value} (h : RunSt A w hb mb v u ds k i vg vc) (hA : A ≤ w.heap.size) :
    ∃ no, Two no w hb mb v u ds ds ∧ (∀ b, Four hb mb v u b → A ≤ b) ∧ ∀ (w' : World) (v' u' : Value) (ds' : List HoldD), Two no w' hb mb v' u' ds' ds' → (∀ j, v'.ownBlock = some j → v.ownBlock = some j ∨ w.heap.size ≤ j) → (∀ j, u'.ownBlock = some j → u.ownBlock = some j ∨ w.heap.size ≤ j) → But (Four hb mb v u) w w' → RunSt A w' hb mb v' u' ds' k i vg vc := by
  rcases h with ⟨h1, h2, h3⟩ | ⟨h1, gb, cb, x, y, es, h2, h3, h4⟩
  · refine ⟨_, h2, h3, fun w' v' u' ds' hX hv hu hx => .inl ⟨h1, hX, ?_⟩⟩
    rintro b ((e | e) | (e | e))
    · exact h3 b (.inl (.inl e))
    · exact (hv b e).elim (fun e => h3 b (.inl (.inr e))) (Nat.le_trans hA)
    · exact h3 b (.inr (.inl e))
    · exact (hu b e).elim (fun e => h3 b (.inr (.inr e))) (Nat.le_trans hA)
  · exact ⟨_, h4.X, h4.ax, fun w' v' u' ds' hX hv hu hx => .inr ⟨h1, gb, cb, x, y, es, h2, h3, h4.turn hA hX hv hu hx⟩⟩
theorem RTab.new (w : World) (no0 : Nat → Prop) : RTabN no0 (w.alloc (.cells #[.slice none 0 0] 81)) w.heap.size (.slice none 0 0) [] :=
  ⟨Blk.new w [.slice none 0 0] _, ⟨[], World.ownsRow_nil _ _ _ _, trivial⟩, List.Pairwise.nil, fun d hd => by simp at hd, by decide⟩
end Go.Proofs.YtdmejbjpbjcfbaaGreatDoor
/- HoldsRuns: whatever is done on a table and on a copy, all that is told is what the document tells. -/
namespace Go.Proofs.YtdmejbjpbjcfbaaGreatDoor
open Go.RowKit
theorem wok_of {A : Nat} {w0 wr : World} (hA : A = w0.heap.size) (h : But (fun b => A ≤ b) w0 wr) : Ext w0 wr := h.ext (fun i hi e => by omega)
set_option maxRecDepth 100000 in
set_option maxHeartbeats 12800000 in
theorem holdsRuns_calls (vs : List DeedV) (ds : List DeedD) (ao : Option Addr) (cap : Nat) (fork : Int) (ms : List DeedV) (es : List DeedD) (mo : Option Addr) (mc : Nat) (ls : List ByteArray) (ko : Option Addr) (kc : Nat) (c n : Int) (w : World)
    (hl : vs.length ≤ 9223372036854775807) (hr : Rows 5 encDV w.heap.size w ao vs) (hd : DeedsAre w (fun _ => False) vs ds) (hml : ms.length ≤ 9223372036854775807) (hmr : Rows 5 encDV w.heap.size w mo ms) (hmd : DeedsAre w (fun _ => False) ms es)
    (hkl : ls.length ≤ 1000000000000000) (hkr : Rows 1 encStr w.heap.size w ko ls) (hks : ∀ k ∈ ls, k.size ≤ 140737488351232) :
    Calls Tryz.prog 6 #[.slice ao vs.length cap, .int .i64 fork, .slice mo ms.length mc, .slice ko ls.length kc, .agg #[.int .i64 c, .int .i64 n]] w fun e w' => e = .returned (.bool true) ∧ Ext w w' := by
  have HR := Lib.hid hr; have HD := Lib.hid hd; have MR := Lib.hid hmr; have MD := Lib.hid hmd; have KR := Lib.hid hkr; have KS := Lib.hid hks
  have HLN := Lib.hid hd.1; have MLN := Lib.hid hmd.1
  clear hr hd hmr hmd hkr hks
  go_enter Tryz.func6, Tryz.ntmps6
  go_wp2_with fail
  have hb0 := Blk.new w [.int .i64 c, .int .i64 n] 24
  have hx0 : Ext w (w.alloc (.cells #[.int .i64 c, .int .i64 n] 24)) := (Below.refl _ w).alloc (Nat.le_refl _) _
  obtain ⟨w0, hw0⟩ : ∃ w0, w0 = w.alloc (.cells #[.int .i64 c, .int .i64 n] 24) := ⟨_, rfl⟩
  rw [show w.alloc (.cells [.int .i64 c, .int .i64 n].toArray 24) = w0 from hw0.symm] at hb0
  rw [← hw0] at hx0 ⊢
  obtain ⟨nb, hnb⟩ : ∃ nb, nb = w.heap.size := ⟨_, rfl⟩
  rw [← hnb] at hb0 ⊢
  obtain ⟨A, hA⟩ : ∃ A, A = w0.heap.size := ⟨_, rfl⟩
  have X0 := Lib.hid hx0; have B0 := Lib.hid hb0; have HA := Lib.hid hA
  have DV : Hid (DeedsAre w0 (fun b => A ≤ b) vs ds) := Lib.hid ((HD.out.ext X0.out).mono (fun b hb e => absurd hb (by rw [← HA.out]; exact Nat.not_lt.2 e)))
  have EV : Hid (DeedsAre w0 (fun b => A ≤ b) ms es) := Lib.hid ((MD.out.ext X0.out).mono (fun b hb e => absurd hb (by rw [← HA.out]; exact Nat.not_lt.2 e)))
  clear hb0 hx0 hw0 hnb hA
  refine (awake_calls w0).mono ?_
  rintro e w1 ⟨rfl, hx1⟩
  have X1 := Lib.hid hx1
  clear hx1
  go_wp2_with fail
  refine (great_calls vs ds _ ao cap w1 hl ((HR.out.ext (Ext.trans X0.out X1.out)).mono (Ext.trans X0.out X1.out).size) (DV.out.ext X1.out)).mono ?_
  rintro e w2 ⟨b1, rfl, hx2, hb1⟩
  have X2 := Lib.hid (Ext.trans X1.out hx2); have G1 := Lib.hid hb1
  clear hx2 hb1 X1
  cases b1
  case true =>
    go_wp2_with fail
    go_ret
    exact ⟨rfl, Ext.trans X0.out X2.out⟩
  have F1 := Lib.hid (G1.out rfl)
  clear G1
  go_wp2_with fail
  refine (great_calls ms es _ mo mc w2 hml ((MR.out.ext (Ext.trans X0.out X2.out)).mono (Ext.trans X0.out X2.out).size) (EV.out.ext X2.out)).mono ?_
  rintro e w3 ⟨b2, rfl, hx3, hb2⟩
  have X3 := Lib.hid (Ext.trans X2.out hx3); have G2 := Lib.hid hb2
  clear hx3 hb2 X2
  cases b2
  case true =>
    go_wp2_with fail
    go_ret
    exact ⟨rfl, Ext.trans X0.out X3.out⟩
  have F2 := Lib.hid (G2.out rfl)
  clear G2
  go_wp2_with fail
  have hb4 := Blk.new w3 (encDV ⟨0, none, 0, 0, ko, ls.length, kc, ⟨#[]⟩, ⟨#[]⟩⟩) 77
  have hx4 : Ext w3 (w3.alloc (.cells #[.int .i64 0, .slice none 0 0, .slice ko ls.length kc, .string ⟨#[]⟩, .string ⟨#[]⟩] 77)) := (Below.refl _ w3).alloc (Nat.le_refl _) _
  obtain ⟨w4, hw4⟩ : ∃ w4, w4 = w3.alloc (.cells #[.int .i64 0, .slice none 0 0, .slice ko ls.length kc, .string ⟨#[]⟩, .string ⟨#[]⟩] 77) := ⟨_, rfl⟩
  rw [show w3.alloc (.cells (encDV ⟨0, none, 0, 0, ko, ls.length, kc, ⟨#[]⟩, ⟨#[]⟩⟩).toArray 77) = w4 from hw4.symm] at hb4
  rw [← hw4] at hx4 ⊢
  have X4 := Lib.hid (Ext.trans X3.out hx4)
  have RK : Hid (Rows 5 encDV w4.heap.size w4 (some ⟨w3.heap.size, 0, none⟩) [⟨0, none, 0, 0, ko, ls.length, kc, ⟨#[]⟩, ⟨#[]⟩⟩]) := Lib.hid (rows_fresh (enc := encDV) (sz := 5) (fun _ => rfl) [⟨0, none, 0, 0, ko, ls.length, kc, ⟨#[]⟩, ⟨#[]⟩⟩] (by simpa using hb4) (fun _ => False) (fun e => e)).rows
  have DK : Hid (DeedsAre w4 (fun _ => False) [⟨0, none, 0, 0, ko, ls.length, kc, ⟨#[]⟩, ⟨#[]⟩⟩] [⟨[], [], ls⟩]) := Lib.hid ⟨rfl, fun i v hi => by
    match i, hi with
    | 0, hi =>
      have := Option.some.inj hi
      subst this
      exact ⟨_, rfl, rfl, rfl, fun e => absurd rfl e, trivial, ((KR.out.ext (Ext.trans X0.out X4.out)).mono (Ext.trans X0.out X4.out).size).nrows (Nat.le_refl _) (fun _ _ e => e), by show (⟨#[]⟩ : ByteArray).size ≤ _; rw [empty_size]; omega, by show (⟨#[]⟩ : ByteArray).size ≤ _; rw [empty_size]; omega, by simp, hkl, fun _ h => by simp at h, fun _ h => by simp at h, KS.out⟩
    | i + 1, hi => simp at hi⟩
  clear hb4 hx4 hw4 X3
  refine (great_calls [⟨0, none, 0, 0, ko, ls.length, kc, ⟨#[]⟩, ⟨#[]⟩⟩] [⟨[], [], ls⟩] _ _ 1 w4 (by simp) RK.out DK.out).mono ?_
  rintro e w5 ⟨b3, rfl, hx5, hb3⟩
  have X5 := Lib.hid (Ext.trans X4.out hx5)
  have G3 : Hid (b3 = false → ls.length ≤ 1500) := Lib.hid fun h => ((hb3 h).2 ⟨[], [], ls⟩ (by simp)).2
  clear hx5 hb3 X4 RK DK
  cases b3
  case true =>
    go_wp2_with fail
    go_ret
    exact ⟨rfl, Ext.trans X0.out X5.out⟩
  have hkl2 := G3.out rfl
  clear G3 hkl
  have hkl3 : ls.length ≤ 1000000 := by omega
  go_wp2_with fail
  refine (new_calls w5).mono ?_
  rintro e w6 ⟨rfl, hw6⟩
  have T6 : TabN (fun _ => False) w6 w5.heap.size (.slice none 0 0) [] := by rw [hw6]; exact Tab.new w5
  have hx6 : Ext w5 w6 := by rw [hw6]; exact (Below.refl _ w5).alloc (Nat.le_refl _) _
  have hs5 : A ≤ w5.heap.size := by rw [HA.out]; exact X5.out.size
  obtain ⟨hb, hhb⟩ : ∃ hb, hb = w5.heap.size := ⟨_, rfl⟩
  rw [← hhb] at T6 ⊢
  have X6 := Lib.hid (Ext.trans X5.out hx6)
  have hlt6 : hb < w6.heap.size := T6.blk.lt
  have HT6 := Lib.hid T6; have HHB := Lib.hid (show A ≤ hb by rw [hhb]; exact hs5)
  have HL6 := Lib.hid hlt6
  clear hw6 T6 hx6 hs5 hhb hlt6 X5
  go_upto_region 6 with fail
  have U7 := RTab.new w6 (fun b => (b = hb ∨ (Value.slice none 0 0).ownBlock = some b) ∨ False)
  have hx7 : Ext w6 (w6.alloc (.cells #[.slice none 0 0] 81)) := (Below.refl _ w6).alloc (Nat.le_refl _) _
  obtain ⟨w7, hw7⟩ : ∃ w7, w7 = w6.alloc (.cells #[.slice none 0 0] 81) := ⟨_, rfl⟩
  rw [← hw7] at U7 hx7 ⊢
  obtain ⟨mb, hmb⟩ : ∃ mb, mb = w6.heap.size := ⟨_, rfl⟩
  rw [← hmb] at U7 ⊢
  have hne : hb ≠ mb := by have := HL6.out; omega
  have P7 : Two (fun _ => False) w7 hb mb (.slice none 0 0) (.slice none 0 0) [] [] :=
    ⟨HT6.out.butN (hx7.but (fun _ => False)) id (fun _ _ e => e) (fun _ _ e => e.elim) (fun b e => by
        rcases e with (e | e) | e
        · exact .inr (by rw [e, hmb]; exact Nat.le_refl _)
        · cases e
        · exact e.elim), U7, hne, by simp [Value.ownBlock], by simp [Value.ownBlock], fun j hj => by simp [Value.ownBlock] at hj, fun b e => e.elim⟩
  have a7 : ∀ b, Four hb mb (.slice none 0 0) (.slice none 0 0) b → A ≤ b := by
    have h1 := HHB.out; have h2 := HL6.out
    rintro b ((e | e) | (e | e))
    · omega
    · cases e
    · omega
    · cases e
  have X7 := Lib.hid (Ext.trans X6.out hx7); have PP := Lib.hid P7; have PA := Lib.hid a7
  have h60 := F1.out.1
  clear hw7 U7 hx7 hmb hne P7 a7 HT6 HHB HL6 X6
  go_wp2_with fail
  refine (pick_calls fork ((vs.length : Int) + 1) w7 (by omega) (by omega)).mono ?_
  rintro e w8 ⟨⟨k, rfl, hk⟩, rfl⟩
  have hkv : k ≤ vs.length := by omega
  clear hk
  go_upto_region 9 with fail
  have hx8 : Ext w7 (w7.alloc (.cells #[.slice none 0 0] 81)) := (Below.refl _ w7).alloc (Nat.le_refl _) _
  obtain ⟨w8, hw8⟩ : ∃ w8, w8 = w7.alloc (.cells #[.slice none 0 0] 81) := ⟨_, rfl⟩
  rw [← hw8] at hx8 ⊢
  have X8 := Lib.hid (Ext.trans X7.out hx8)
  have P8 : Hid (Two (fun _ => False) w8 hb mb (.slice none 0 0) (.slice none 0 0) [] []) := Lib.hid (PP.out.ext hx8)
  have DC : Hid (∀ (i : Nat) (x : DeedV), vs[i]? = some x → ∃ (d : DeedD) (b off : Nat), ds[i]? = some d ∧ x.is w0 (fun b => A ≤ b) d ∧ d.few ∧ ao = some ⟨b, off, none⟩ ∧ ∀ W, Ext w0 W → ∀ (j : Nat) (u : Value), (encDV x)[j]? = some u → W.cell? ⟨b, off + i * 5 + j, none⟩ = some u) := Lib.hid fun i x hx => by
    obtain ⟨d, h1, h2⟩ := DV.out.2 i x hx
    obtain ⟨b, off, h3, h4, h5⟩ := HR.out (by intro e; rw [e] at hx; simp at hx)
    exact ⟨d, b, off, h1, h2, F1.out.2 d (List.mem_of_getElem? h1), h3, fun W hW j u hj => ((Ext.trans X0.out hW).cell (p := ⟨b, off + i * 5 + j, none⟩) h4).trans (h5 i x hx j u hj)⟩
  have EC : Hid (∀ (i : Nat) (x : DeedV), ms[i]? = some x → ∃ (d : DeedD) (b off : Nat), es[i]? = some d ∧ x.is w0 (fun b => A ≤ b) d ∧ d.few ∧ mo = some ⟨b, off, none⟩ ∧ ∀ W, Ext w0 W → ∀ (j : Nat) (u : Value), (encDV x)[j]? = some u → W.cell? ⟨b, off + i * 5 + j, none⟩ = some u) := Lib.hid fun i x hx => by
    obtain ⟨d, h1, h2⟩ := EV.out.2 i x hx
    obtain ⟨b, off, h3, h4, h5⟩ := MR.out (by intro e; rw [e] at hx; simp at hx)
    exact ⟨d, b, off, h1, h2, F2.out.2 d (List.mem_of_getElem? h1), h3, fun W hW j u hj => ((Ext.trans X0.out hW).cell (p := ⟨b, off + i * 5 + j, none⟩) h4).trans (h5 i x hx j u hj)⟩
  have NC : Hid (∀ W, Ext w0 W → W.cell? ⟨nb, 0, none⟩ = some (.int .i64 c) ∧ W.cell? ⟨nb, 1, none⟩ = some (.int .i64 n)) := Lib.hid fun W hW => ⟨(B0.out.ext' hW).cell 0, (B0.out.ext' hW).cell 1⟩
  have KK : Hid (∀ W, Ext w0 W → Rows 1 encStr W.heap.size W ko ls) := Lib.hid fun W hW => (KR.out.ext (Ext.trans X0.out hW)).mono (Ext.trans X0.out hW).size
  have ACT : Hid (∀ (x : DeedV) (d : DeedD) (no : Nat → Prop) (hb mb : Nat) (v u : Value) (es : List HoldD) (W : World), x.is w0 (fun b => A ≤ b) d → d.few → Two no W hb mb v u es es → But (fun b => A ≤ b) w0 W → (∀ b, Four hb mb v u b → A ≤ b) → Calls Tryz.prog 42 #[.pointer (some ⟨hb, 0, none⟩), .pointer (some ⟨mb, 0, none⟩), .agg #[.int .i64 x.kd, .slice x.ho x.hn x.hc, .slice x.ko x.kn x.kc, .string x.lo, .string x.hi]] W fun e w' => e = .returned (.bool true) ∧ ∃ (v' u' : Value) (ds' : List HoldD), Two no w' hb mb v' u' ds' ds' ∧ (∀ j, v'.ownBlock = some j → v.ownBlock = some j ∨ W.heap.size ≤ j) ∧ (∀ j, u'.ownBlock = some j → u.ownBlock = some j ∨ W.heap.size ≤ j) ∧ But (Four hb mb v u) W w') := Lib.hid fun x d no hb mb v u es W hx hf X hB hA4 => by
    have hx' := hx.but hB (fun _ _ e => e)
    have hfw := few_of hf.1 hx.ok
    have h1 := hx'.hd.len; have h2 := hfw.len
    rw [hx.hn, hx.kn]
    exact act_calls A hb mb v u es x.kd d.hs d.dl x.ho x.hc d.ls x.ko x.kc x.lo x.hi W X (by omega) (by have := hf.2; omega) hx'.hr hx'.hd hx'.hk hfw.fits hfw.ok hx.lo hx.hi (hA4 _ (.inl (.inl rfl))) (hA4 _ (.inr (.inl rfl))) (fun j hj => hA4 j (.inl (.inr hj))) (fun j hj => hA4 j (.inr (.inr hj)))
  have SAM : Hid (∀ (no : Nat → Prop) (hb mb : Nat) (v u : Value) (es : List HoldD) (W : World), Two no W hb mb v u es es → Ext w0 W → Calls Tryz.prog 43 #[.pointer (some ⟨hb, 0, none⟩), .pointer (some ⟨mb, 0, none⟩), .slice ko ls.length kc, .agg #[.int .i64 c, .int .i64 n]] W fun e w' => e = .returned (.bool true) ∧ Ext W w') := Lib.hid fun no hb mb v u es W X hW => same_calls hb mb v u es ls ko kc c n W X.T X.U hkl3 (KK.out W hW)
  clear hw8 hx8 PP X7 HR HD MR MD KR KS DV EV KK B0 hkl2 hkl3
  go_wp2_with fail
  go_loopw [14, 15, 16] (fun vg vc vi wr => ∃ (i : Nat) (v u : Value) (hs : List HoldD), i ≤ vs.length + 1 ∧ vi = .int .i64 i ∧ RunSt A wr hb mb v u hs k i vg vc ∧ But (fun b => A ≤ b) w0 wr) (fun _ _ vi _ => vs.length + 1 - (intOf vi).toNat)
  case atStart => exact ⟨0, _, _, [], by omega, rfl, .inl ⟨by omega, P8.out, PA.out⟩, X8.out.but _⟩
  case round =>
    obtain ⟨i, v, u, hs, hi, rfl, hS, hB⟩ := hrel
    have KS := Lib.hid hS; have KB := Lib.hid hB
    have hAW : A ≤ wr.heap.size := by rw [HA.out]; exact hB.size
    clear hS hB P8
    by_cases hle : i ≤ vs.length
    · have hcs : i < k ∨ i = k ∨ k < i := by omega
      rcases hcs with hik | hik | hik
      · have ST : Hid (RunSt A wr hb mb v u hs k (i + 1) u14 u15) := Lib.hid (by
          rcases KS.out with ⟨h1, h2, h3⟩ | ⟨h1, _⟩
          · exact .inl ⟨by omega, h2, h3⟩
          · omega)
        have KB2 := KB
        have hne : decide ((i : Int) = (k : Int)) = false := decide_eq_false (by omega)
        by_cases hil : i < vs.length
        · obtain ⟨x, hx⟩ : ∃ x, vs[i]? = some x := ⟨_, List.getElem?_eq_getElem hil⟩
          obtain ⟨d, b, off, hd, hxd, hfew, rfl, hcell⟩ := DC.out i x hx
          have cc := hcell wr (wok_of HA.out KB2.out)
          obtain ⟨no, hX, hA4, hre⟩ := ST.out.opened (by rw [HA.out]; exact KB2.out.size)
          have HACT := Lib.hid (ACT.out x d no hb mb v u hs wr hxd hfew hX KB2.out hA4)
          have HRE := Lib.hid hre; have HA4 := Lib.hid hA4
          obtain ⟨kd, ho, hn, hc, ko2, kn, kc2, lo, hi2⟩ := x
          have c0 := cc 0 _ rfl; have c1 := cc 1 _ rfl; have c2 := cc 2 _ rfl; have c3 := cc 3 _ rfl; have c4 := cc 4 _ rfl
          simp only [Nat.add_zero] at c0
          simp only at HACT
          have ii0 : (0 : Int) ≤ (i : Int) := by omega
          have ii1 : (i : Int) < (vs.length : Int) := by omega
          clear hx hd hxd hfew hcell cc hX hre hA4 ST
          go_wp2_with fail
          refine HACT.out.mono ?_
          rintro e wa ⟨rfl, v', u', hs', hX', hv', hu', hb'⟩
          have ST := Lib.hid (HRE.out wa v' u' hs' hX' hv' hu' hb')
          have KB3 : Hid (But (fun b => A ≤ b) w0 wa) := Lib.hid (KB2.out.trans hb' (fun _ _ e => e) (fun b _ e => HA4.out b e))
          obtain ⟨n0, n1⟩ := NC.out wa (wok_of HA.out KB3.out)
          have HSAM := Lib.hid (SAM.out no hb mb v' u' hs' wa hX' (wok_of HA.out KB3.out))
          clear hX' hv' hu' hb' HACT c0 c1 c2 c3 c4
          go_wp2_with fail
          refine HSAM.out.mono ?_
          rintro e wb ⟨rfl, hxb⟩
          have ST := Lib.hid (ST.out.ext hxb)
          have KB4 : Hid (But (fun b => A ≤ b) w0 wb) := Lib.hid (KB3.out.trans (hxb.but (fun _ => False)) (fun _ _ e => e) (fun _ _ e => e.elim))
          clear hxb HSAM n0 n1
          go_wp2_with fail
          go_roundw
          case rel => exact ⟨i + 1, v', u', hs', by omega, by go_num, ST.out, KB4.out⟩
          case measure => simp [intOf]; omega
        · omega
      · subst hik
        have hq : decide ((i : Int) = (i : Int)) = true := decide_eq_true rfl
        obtain ⟨hX, hA4⟩ : Two (fun _ => False) wr hb mb v u hs hs ∧ ∀ b, Four hb mb v u b → A ≤ b := by
          rcases KS.out with ⟨_, hX, hA4⟩ | ⟨h1, _⟩
          · exact ⟨hX, hA4⟩
          · omega
        have HX := Lib.hid hX; have HA4 := Lib.hid hA4
        clear hX hA4 KS
        go_wp2_with fail
        refine (copy_calls (Four hb mb v u) hb v hs wr HX.out.T (fun b e => HX.out.four e)).mono ?_
        rintro e wc ⟨gb, x, rfl, hg, hT, hxo, hxc⟩
        have HT := Lib.hid hT; have HG := Lib.hid hg; have HXO := Lib.hid hxo; have XC := Lib.hid hxc
        clear hT hg hxo hxc
        go_wp2_with fail
        refine (rcopy_calls (fun b => (b = gb ∨ x.ownBlock = some b) ∨ Four hb mb v u b) mb u hs wc (HX.out.ext XC.out).U (fun b e => by
          rcases e with (e | e) | e
          · rw [e]; exact HT.out.blk.lt
          · exact HT.out.vlt e
          · exact Nat.lt_of_lt_of_le (HX.out.four e) XC.out.size)).mono ?_
        rintro e wd ⟨cb, y, rfl, hc2, hU, hyo, hxd⟩
        have ST : Hid (RunSt A wd hb mb v u hs i (i + 1) (.pointer (some ⟨gb, 0, none⟩)) (.pointer (some ⟨cb, 0, none⟩))) := Lib.hid (.inr ⟨by omega, gb, cb, x, y, hs, rfl, rfl, Both.fork HX.out hAW HA4.out XC.out HT.out HG.out HXO.out hxd hU hc2 hyo⟩)
        have KB2 : Hid (But (fun b => A ≤ b) w0 wd) := Lib.hid (KB.out.trans ((Ext.trans XC.out hxd).but (fun _ => False)) (fun _ _ e => e) (fun _ _ e => e.elim))
        clear hc2 hU hyo hxd HX HA4 HT HG HXO XC
        by_cases hil : i < vs.length
        · obtain ⟨x, hx⟩ : ∃ x, vs[i]? = some x := ⟨_, List.getElem?_eq_getElem hil⟩
          obtain ⟨d, b, off, hd, hxd, hfew, rfl, hcell⟩ := DC.out i x hx
          have cc := hcell wd (wok_of HA.out KB2.out)
          obtain ⟨no, hX, hA4, hre⟩ := ST.out.opened (by rw [HA.out]; exact KB2.out.size)
          have HACT := Lib.hid (ACT.out x d no hb mb v u hs wd hxd hfew hX KB2.out hA4)
          have HRE := Lib.hid hre; have HA4 := Lib.hid hA4
          obtain ⟨kd, ho, hn, hc, ko2, kn, kc2, lo, hi2⟩ := x
          have c0 := cc 0 _ rfl; have c1 := cc 1 _ rfl; have c2 := cc 2 _ rfl; have c3 := cc 3 _ rfl; have c4 := cc 4 _ rfl
          simp only [Nat.add_zero] at c0
          simp only at HACT
          have ii0 : (0 : Int) ≤ (i : Int) := by omega
          have ii1 : (i : Int) < (vs.length : Int) := by omega
          clear hx hd hxd hfew hcell cc hX hre hA4 ST
          go_wp2_with fail
          refine HACT.out.mono ?_
          rintro e wa ⟨rfl, v', u', hs', hX', hv', hu', hb'⟩
          have ST := Lib.hid (HRE.out wa v' u' hs' hX' hv' hu' hb')
          have KB3 : Hid (But (fun b => A ≤ b) w0 wa) := Lib.hid (KB2.out.trans hb' (fun _ _ e => e) (fun b _ e => HA4.out b e))
          obtain ⟨n0, n1⟩ := NC.out wa (wok_of HA.out KB3.out)
          have HSAM := Lib.hid (SAM.out no hb mb v' u' hs' wa hX' (wok_of HA.out KB3.out))
          clear hX' hv' hu' hb' HACT c0 c1 c2 c3 c4
          go_wp2_with fail
          refine HSAM.out.mono ?_
          rintro e wb ⟨rfl, hxb⟩
          have ST := Lib.hid (ST.out.ext hxb)
          have KB4 : Hid (But (fun b => A ≤ b) w0 wb) := Lib.hid (KB3.out.trans (hxb.but (fun _ => False)) (fun _ _ e => e) (fun _ _ e => e.elim))
          clear hxb HSAM n0 n1
          go_wp2_with fail
          go_roundw
          case rel => exact ⟨i + 1, v', u', hs', by omega, by go_num, ST.out, KB4.out⟩
          case measure => simp [intOf]; omega
        · obtain rfl : i = vs.length := by omega
          go_wp2_with fail
          go_roundw
          case rel => exact ⟨vs.length + 1, v, u, hs, by omega, by go_num, ST.out, KB2.out⟩
          case measure => simp [intOf] <;> omega
      · have ST : Hid (RunSt A wr hb mb v u hs k (i + 1) u14 u15) := Lib.hid (by
          rcases KS.out with ⟨h1, _⟩ | ⟨h1, h2⟩
          · omega
          · exact .inr ⟨by omega, h2⟩)
        have KB2 := KB
        have hne : decide ((i : Int) = (k : Int)) = false := decide_eq_false (by omega)
        by_cases hil : i < vs.length
        · obtain ⟨x, hx⟩ : ∃ x, vs[i]? = some x := ⟨_, List.getElem?_eq_getElem hil⟩
          obtain ⟨d, b, off, hd, hxd, hfew, rfl, hcell⟩ := DC.out i x hx
          have cc := hcell wr (wok_of HA.out KB2.out)
          obtain ⟨no, hX, hA4, hre⟩ := ST.out.opened (by rw [HA.out]; exact KB2.out.size)
          have HACT := Lib.hid (ACT.out x d no hb mb v u hs wr hxd hfew hX KB2.out hA4)
          have HRE := Lib.hid hre; have HA4 := Lib.hid hA4
          obtain ⟨kd, ho, hn, hc, ko2, kn, kc2, lo, hi2⟩ := x
          have c0 := cc 0 _ rfl; have c1 := cc 1 _ rfl; have c2 := cc 2 _ rfl; have c3 := cc 3 _ rfl; have c4 := cc 4 _ rfl
          simp only [Nat.add_zero] at c0
          simp only at HACT
          have ii0 : (0 : Int) ≤ (i : Int) := by omega
          have ii1 : (i : Int) < (vs.length : Int) := by omega
          clear hx hd hxd hfew hcell cc hX hre hA4 ST
          go_wp2_with fail
          refine HACT.out.mono ?_
          rintro e wa ⟨rfl, v', u', hs', hX', hv', hu', hb'⟩
          have ST := Lib.hid (HRE.out wa v' u' hs' hX' hv' hu' hb')
          have KB3 : Hid (But (fun b => A ≤ b) w0 wa) := Lib.hid (KB2.out.trans hb' (fun _ _ e => e) (fun b _ e => HA4.out b e))
          obtain ⟨n0, n1⟩ := NC.out wa (wok_of HA.out KB3.out)
          have HSAM := Lib.hid (SAM.out no hb mb v' u' hs' wa hX' (wok_of HA.out KB3.out))
          clear hX' hv' hu' hb' HACT c0 c1 c2 c3 c4
          go_wp2_with fail
          refine HSAM.out.mono ?_
          rintro e wb ⟨rfl, hxb⟩
          have ST := Lib.hid (ST.out.ext hxb)
          have KB4 : Hid (But (fun b => A ≤ b) w0 wb) := Lib.hid (KB3.out.trans (hxb.but (fun _ => False)) (fun _ _ e => e) (fun _ _ e => e.elim))
          clear hxb HSAM n0 n1
          go_wp2_with fail
          go_roundw
          case rel => exact ⟨i + 1, v', u', hs', by omega, by go_num, ST.out, KB4.out⟩
          case measure => simp [intOf]; omega
        · obtain rfl : i = vs.length := by omega
          go_wp2_with fail
          go_roundw
          case rel => exact ⟨vs.length + 1, v, u, hs, by omega, by go_num, ST.out, KB2.out⟩
          case measure => simp [intOf] <;> omega
    · have hil : decide ((i : Int) ≤ (vs.length : Int)) = false := decide_eq_false (by omega)
      rcases KS.out with ⟨h1, _⟩ | ⟨_, gb, cb, x, y, gs, rfl, rfl, hBo⟩
      · omega
      have BO := Lib.hid hBo
      clear hBo KS
      go_wp2_with fail
      go_loopw [17] (fun vi wr => ∃ (i : Nat) (x y : Value) (gs : List HoldD), i ≤ ms.length ∧ vi = .int .i64 i ∧ Both A wr hb mb v u hs gb cb x y gs ∧ But (fun b => A ≤ b) w0 wr) (fun vi _ => ms.length - (intOf vi).toNat)
      case atStart => exact ⟨0, x, y, gs, by omega, rfl, BO.out, KB.out⟩
      case round =>
        obtain ⟨i, x, y, gs, hi, rfl, hBo, hB⟩ := hrel
        have BO := Lib.hid hBo; have KB2 := Lib.hid hB
        clear hBo hB KB
        by_cases hil : i < ms.length
        · obtain ⟨z, hz⟩ : ∃ z, ms[i]? = some z := ⟨_, List.getElem?_eq_getElem hil⟩
          obtain ⟨d, b, off, hd, hxd, hfew, rfl, hcell⟩ := EC.out i z hz
          have cc := hcell wr (wok_of HA.out KB2.out)
          have HACT := Lib.hid (ACT.out z d _ gb cb x y gs wr hxd hfew BO.out.Y KB2.out BO.out.ay)
          obtain ⟨kd, ho, hn, hc, ko2, kn, kc2, lo, hi2⟩ := z
          have c0 := cc 0 _ rfl; have c1 := cc 1 _ rfl; have c2 := cc 2 _ rfl; have c3 := cc 3 _ rfl; have c4 := cc 4 _ rfl
          simp only [Nat.add_zero] at c0
          simp only at HACT
          have ii0 : (0 : Int) ≤ (i : Int) := by omega
          have ii1 : (i : Int) < (ms.length : Int) := by omega
          clear hz hd hxd hfew hcell cc
          go_wp2_with fail
          refine HACT.out.mono ?_
          rintro e wa ⟨rfl, x', y', gs', hX', hv', hu', hb'⟩
          have hAr : A ≤ wr.heap.size := by rw [HA.out]; exact KB2.out.size
          have BO' := Lib.hid (BO.out.swap.turn hAr hX' hv' hu' hb').swap
          have KB3 : Hid (But (fun b => A ≤ b) w0 wa) := Lib.hid (KB2.out.trans hb' (fun _ _ e => e) (fun b _ e => BO.out.ay b e))
          obtain ⟨n0, n1⟩ := NC.out wa (wok_of HA.out KB3.out)
          have HSAM := Lib.hid (SAM.out _ gb cb x' y' gs' wa hX' (wok_of HA.out KB3.out))
          clear hX' hv' hu' hb' HACT c0 c1 c2 c3 c4
          go_wp2_with fail
          refine HSAM.out.mono ?_
          rintro e wb ⟨rfl, hxb⟩
          have BO'' := Lib.hid (BO'.out.ext hxb)
          have KB4 : Hid (But (fun b => A ≤ b) w0 wb) := Lib.hid (KB3.out.trans (hxb.but (fun _ => False)) (fun _ _ e => e) (fun _ _ e => e.elim))
          clear hxb HSAM n0 n1
          go_wp2_with fail
          go_roundw
          case rel => exact ⟨i + 1, x', y', gs', by omega, by go_num, BO''.out, KB4.out⟩
          case measure => simp [intOf]; omega
        · obtain rfl : i = ms.length := by omega
          obtain ⟨n0, n1⟩ := NC.out wr (wok_of HA.out KB2.out)
          have HSAM := Lib.hid (SAM.out _ hb mb v u hs wr BO.out.X (wok_of HA.out KB2.out))
          go_wp2_with fail
          refine HSAM.out.mono ?_
          rintro e wa ⟨rfl, hxa⟩
          have XA := Lib.hid (Ext.trans (wok_of HA.out KB2.out) hxa)
          have HSA2 := Lib.hid (SAM.out _ gb cb x y gs wa (BO.out.Y.ext hxa) XA.out)
          clear n0 n1 HSAM
          obtain ⟨n0, n1⟩ := NC.out wa XA.out
          clear hxa
          go_wp2_with fail
          refine HSA2.out.mono ?_
          rintro e wb ⟨rfl, hxb⟩
          have XB := Lib.hid (Ext.trans XA.out hxb)
          clear hxb n0 n1
          go_wp2_with fail
          go_ret
          exact ⟨rfl, Ext.trans X0.out XB.out⟩
end Go.Proofs.YtdmejbjpbjcfbaaGreatDoor
