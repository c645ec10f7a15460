/- ActTells: the walk. -/
import Derived.Test.YtjplmghhleoolaaGreatDoorAwake
import Derived.Test.YtjplmghhleoolaaGreatDoorLaw14Small
import Derived.Test.YtjplmghhleoolaaGreatDoorLentActs
import Derived.Test.YtjplmghhleoolaaGreatDoorSameTexts
import Derived.Test.YtjplmghhleoolaaGreatDoorRefKeys
import Derived.Test.YtjplmghhleoolaaGreatDoorRefOf
import Derived.Test.YtjplmghhleoolaaGreatDoorRefDo
import Derived.Test.YtjplmghhleoolaaGreatDoorRefRight
namespace Go.Proofs.YtjplmghhleoolaaGreatDoor
open Go.RowKit

set_option maxRecDepth 100000 in
set_option maxHeartbeats 3200000 in
theorem tells_calls {B : Nat} (hR : RightOne) (l : List ActD) (ao : Option Addr) (cap : Nat) (is : Bool) (value key : ByteArray) (c1 n1 c2 n2 : Int) (w : World) (hok : ∀ a ∈ l, a.ok) (hl : l.length ≤ cap) (hc : cap ≤ 9223372036854775807) (hr : Rows 4 encAct w.heap.size w ao l)
    (hs : value.size ≤ 140737488351232) (hv : LV B w) (hB : B ≤ w.heap.size) :
    Calls Tryz.prog 3 #[.slice ao l.length cap, .bool is, .string value, .string key, .agg #[.int .i64 c1, .int .i64 n1], .agg #[.int .i64 c2, .int .i64 n2]] w fun e w' => e = .returned (.bool true) ∧ Ext w w' := by
  have HV := Lib.hid hv; have HF := Lib.hid hR; have HR := Lib.hid hr; have H0 := Lib.hid hok; have HB := Lib.hid hB
  clear hv hR hr hok hB
  go_enter Tryz.func3, Tryz.ntmps3
  go_wp2_with fail
  have hx : Ext w ((w.alloc (.cells #[.int .i64 c1, .int .i64 n1] 24)).alloc (.cells #[.int .i64 c2, .int .i64 n2] 24)) := ((Below.refl _ w).alloc (Nat.le_refl _) _).alloc (by simp) _
  have hb1 := (Blk.new w [.int .i64 c1, .int .i64 n1] 24).alloc (.cells #[.int .i64 c2, .int .i64 n2] 24)
  have hb2 := Blk.new (w.alloc (.cells #[.int .i64 c1, .int .i64 n1] 24)) [.int .i64 c2, .int .i64 n2] 24
  rw [show (w.alloc (.cells #[.int .i64 c1, .int .i64 n1] 24)).heap.size = w.heap.size + 1 from by simp] at hb2
  generalize (w.alloc _).alloc _ = W0 at *
  generalize w.heap.size = N at hb1 hb2 ⊢
  have X0 := Lib.hid hx; have C1 := Lib.hid hb1; have C2 := Lib.hid hb2
  clear hx hb1 hb2
  refine (awake_calls HF.out W0 (HV.out.ext X0.out) (Nat.le_trans HB.out X0.out.size)).mono ?_
  rintro e w1 ⟨rfl, hx⟩; have X1 := Lib.hid (Ext.trans X0.out hx); have Y1 := Lib.hid hx; clear hx
  go_wp2_with fail
  have hrow := Rows.fresh (enc := encStr) (sz := 1) (fun _ => rfl) [value, key] w1 9
  have hext : Ext w1 (w1.alloc (.cells ([value, key].flatMap encStr).toArray 9)) := (Below.refl _ w1).alloc (Nat.le_refl _) _
  have e0 : w1.alloc (.cells ([value, key].flatMap encStr).toArray 9) = w1.alloc (.cells #[.string value, .string key] 9) := rfl
  rw [e0] at hrow hext
  generalize w1.alloc _ = W1 at *
  generalize w1.heap.size = N1 at hrow ⊢
  have Q1 := Lib.hid hrow; have X2 := Lib.hid (Ext.trans X1.out hext); have Y2 := Lib.hid (Ext.trans Y1.out hext)
  clear hrow hext e0
  refine (great_calls l [value, key] ao (some ⟨N1, 0, none⟩) cap 2 W1 H0.out (by omega) (by simp) ((HR.out.ext X2.out).mono X2.out.size) Q1.out).mono ?_
  rintro e w2 ⟨rfl, hx⟩; have X3 := Lib.hid (Ext.trans X2.out hx); have Y3 := Lib.hid (Ext.trans Y2.out hx); clear hx
  cases hg : greatB l [value, key]
  · have hng := not_great hg
    have h40 := hng.1
    have HG := Lib.hid hg; clear hg hng
    go_wp2_with fail
    refine (lentActs_calls l ao cap w2 (by omega) ((HR.out.ext X3.out).mono X3.out.size)).mono ?_
    rintro e w3 ⟨g, cap2, rfl, hcap2, hmax2, hlent, hgn, hx⟩
    have L1 := Lib.hid hlent; have X4 := Lib.hid (Ext.trans X3.out hx); have Y4 := Lib.hid (Ext.trans Y3.out hx)
    have hgl : g < w3.heap.size := by
      obtain ⟨g', o', e', hg', -⟩ := hlent (by rw [← List.length_pos_iff, List.length_append, marksActs_len]; omega)
      simp only [Option.some.injEq, Addr.mk.injEq, and_true] at e'
      omega
    have L2 : Hid (Rows 4 encAct w3.heap.size w3 (some ⟨g, 0, none⟩) l) := Lib.hid (by
      have h := hlent.take l.length
      rwa [List.take_left' rfl] at h)
    clear hlent hx
    go_wp2_with fail
    refine (do_calls is value l (some ⟨g, 0, none⟩) cap2 w3 (HV.out.ext X4.out) (Nat.le_trans HB.out X4.out.size) (by omega) hs H0.out L2.out).mono ?_
    rintro e w4 ⟨rv, rfl, hown, hnew, hx⟩
    obtain ⟨ro, rcap, rfl, _, _, hrr⟩ := Rows.own (enc := encRd) (sz := 3) (fun _ => rfl) hown
    have X5 := Lib.hid (Ext.trans X4.out hx); have Y5 := Lib.hid (Ext.trans Y4.out hx); have Z5 := Lib.hid hx
    have R1 := Lib.hid hrr
    clear hown hnew hx hrr
    go_wp2_with fail
    refine (refDo_calls is value l ao cap w4 (by omega) hs H0.out ((HR.out.ext X5.out).mono X5.out.size)).mono ?_
    rintro e w5 ⟨rv, rfl, hown, hnew, hx⟩
    obtain ⟨ro2, rcap2, rfl, _, _, hrr⟩ := Rows.own (enc := encRd) (sz := 3) (fun _ => rfl) hown
    have X6 := Lib.hid (Ext.trans X5.out hx); have Y6 := Lib.hid (Ext.trans Y5.out hx); have Z6 := Lib.hid (Ext.trans Z5.out hx)
    have R2 := Lib.hid hrr; have R1' := Lib.hid ((R1.out.ext hx).mono hx.size)
    clear hown hnew hx hrr
    go_wp2_with fail
    have hrl : (doRes is value l).reads.length ≤ 1000000 := by
      have h := (St.after_bd l (St.begin is value) (by unfold St.begin; dsimp only; split; exact hs; exact Nat.zero_le _) H0.out).2
      have e1 : (doRes is value l).reads = ((St.begin is value).after l).reads := rfl
      have e2 : (St.begin is value).reads.length = 0 := rfl
      rw [e1]; omega
    have E8 : Hid (∀ p : ExtBy w5, Ext w p.W) := Lib.hid fun p => Ext.trans X6.out p.ext
    have HC1 : Hid (∀ p : ExtBy w5, Calls Tryz.prog 10 #[.slice ro (doRes is value l).reads.length rcap, .slice ro2 (doRes is value l).reads.length rcap2] p.W fun e w' => e = .returned (.bool true) ∧ Ext p.W w') := Lib.hid fun p => by
      have h := sameReads_calls (doRes is value l).reads (doRes is value l).reads ro ro2 rcap rcap2 p.W hrl ((R1'.out.ext p.ext).mono p.ext.size) ((R2.out.ext p.ext).mono p.ext.size)
      rwa [decide_eq_true rfl] at h
    have HC2 : Hid (∀ p : ExtBy w5, Calls Tryz.prog 11 #[.slice (some ⟨g, 0, none⟩) l.length cap2] p.W fun e w' => e = .returned (.bool (rightsB l)) ∧ Ext p.W w') := Lib.hid fun p =>
      rights_calls HF.out l (some ⟨g, 0, none⟩) cap2 p.W (by omega) H0.out ((L2.out.ext (Ext.trans Z6.out p.ext)).mono (Ext.trans Z6.out p.ext).size)
    have HC3 : Hid (∀ p : ExtBy w5, Calls Tryz.prog 12 #[.slice ao l.length cap] p.W fun e w' => e = .returned (.bool (rightsB l)) ∧ Ext p.W w') := Lib.hid fun p =>
      refRight_calls l ao cap p.W (by omega) H0.out ((HR.out.ext (E8.out p)).mono (E8.out p).size)
    have HC4 : Hid (∀ p : ExtBy w5, Calls Tryz.prog 13 #[.agg #[.int .i64 c1, .int .i64 n1]] p.W fun e w' => e = .returned (.bool (nameB c1 n1)) ∧ Ext p.W w') := Lib.hid fun p => name_calls c1 n1 p.W
    have HC5 : Hid (∀ p : ExtBy w5, Calls Tryz.prog 14 #[.agg #[.int .i64 c1, .int .i64 n1]] p.W fun e w' => e = .returned (.bool (nameB c1 n1)) ∧ Ext p.W w') := Lib.hid fun p => refName_calls c1 n1 p.W
    have HC6 : Hid (∀ p : ExtBy w5, Calls Tryz.prog 15 #[.agg #[.int .i64 c1, .int .i64 n1], .agg #[.int .i64 c2, .int .i64 n2]] p.W fun e w' => e = .returned (.bool (olderB c1 n1 c2 n2)) ∧ Ext p.W w') := Lib.hid fun p => older_calls c1 n1 c2 n2 p.W
    have HC7 : Hid (∀ p : ExtBy w5, Calls Tryz.prog 16 #[.agg #[.int .i64 c1, .int .i64 n1], .agg #[.int .i64 c2, .int .i64 n2]] p.W fun e w' => e = .returned (.bool (olderB c1 n1 c2 n2)) ∧ Ext p.W w') := Lib.hid fun p => refOlder_calls c1 n1 c2 n2 p.W
    have D1 := C1.out.ext' Y6.out; have D2 := C2.out.ext' Y6.out
    have k0 := ExtBy.cell (D1.cell 0); have k1 := ExtBy.cell (D1.cell 1); have k2 := ExtBy.cell (D2.cell 0); have k3 := ExtBy.cell (D2.cell 1)
    clear D1 D2
    generalize (doRes is value l).reads = rds at *
    generalize (doRes is value l).put = pt at *
    generalize doAfter is value l = af at *
    generalize rightsB l = rb at *
    generalize nameB c1 n1 = nb at *
    generalize olderB c1 n1 c2 n2 = ob at *
    refine wp_region_ext (by kernel_rfl) (by kernel_rfl) ?_
    repeat (go_big_quiet_step ((first | (with_reducible exact Calls.ext_of _ (HC1.out _)) | (with_reducible exact Calls.ext_of _ (HC2.out _)) | (with_reducible exact Calls.ext_of _ (HC3.out _)) | (with_reducible exact Calls.ext_of _ (HC4.out _)) | (with_reducible exact Calls.ext_of _ (HC5.out _)) | (with_reducible exact Calls.ext_of _ (HC6.out _)) | (with_reducible exact Calls.ext_of _ (HC7.out _)))))
    refine wpQuiet_nil ?_
    intro w6 hw'
    have hx6 : Ext w5 w6 := by obtain ⟨p, rfl⟩ := hw'; exact p.ext
    have X7 := Lib.hid (Ext.trans X6.out hx6); have Z7 := Lib.hid (Ext.trans Z6.out hx6)
    clear hw' hx6 k0 k1 k2 k3 HC1 HC2 HC3 HC4 HC5 HC6 HC7 E8
    go_wp2_with fail
    refine (of_calls key l (some ⟨g, 0, none⟩) cap2 w6 (by omega) ((L2.out.ext Z7.out).mono Z7.out.size)).mono ?_
    rintro e w7 ⟨xv, rfl, hown, hnew, hx⟩
    have OX := Lib.hid hown; have NX := Lib.hid hnew; have X8 := Lib.hid (Ext.trans X7.out hx); have Z8 := Lib.hid (Ext.trans Z7.out hx)
    have hgx : g < w6.heap.size := by have := Z7.out.size; omega
    clear hown hnew hx
    go_wp2_with fail
    refine (keys_calls l (some ⟨g, 0, none⟩) cap2 w7 (by omega) ((L2.out.ext Z8.out).mono Z8.out.size)).mono ?_
    rintro e w8 ⟨ko, kcap, rfl, hks, hx⟩
    have KS := Lib.hid hks; have X9 := Lib.hid (Ext.trans X8.out hx); have Z9 := Lib.hid (Ext.trans Z8.out hx); have A9 := Lib.hid hx
    clear hks hx
    go_wp2_with fail
    refine (refKeys_calls l ao cap w8 (by omega) ((HR.out.ext X9.out).mono X9.out.size)).mono ?_
    rintro e w9 ⟨ko2, kcap2, rfl, hks, hx⟩
    have KS2 := Lib.hid hks; have X10 := Lib.hid (Ext.trans X9.out hx); have Z10 := Lib.hid (Ext.trans Z9.out hx); have A10 := Lib.hid (Ext.trans A9.out hx)
    have KS1 := Lib.hid ((KS.out.ext hx).mono hx.size)
    have hkl := keysL_len l
    clear hks hx
    go_wp2_with fail
    refine (sameTexts_calls (keysL l) (keysL l) ko ko2 kcap kcap2 w9 (by omega) KS1.out KS2.out).mono ?_
    rw [decide_eq_true rfl]
    rintro e w10 ⟨rfl, hx⟩
    have X11 := Lib.hid (Ext.trans X10.out hx); have Z11 := Lib.hid (Ext.trans Z10.out hx); have A11 := Lib.hid (Ext.trans A10.out hx)
    clear hx
    go_wp2_with fail
    refine (refOf_calls key l ao cap w10 (by omega) ((HR.out.ext X11.out).mono X11.out.size)).mono ?_
    rintro e w11 ⟨yv, rfl, hown, hnew, hx⟩
    obtain ⟨yo, ycap, rfl, _, _, hyr⟩ := Rows.own (enc := encAct) (sz := 4) (fun _ => rfl) hown
    have X12 := Lib.hid (Ext.trans X11.out hx); have Z12 := Lib.hid (Ext.trans Z11.out hx); have A12 := Lib.hid (Ext.trans A11.out hx)
    have YR := Lib.hid hyr
    have OX2 := Lib.hid (own_ext OX.out A12.out)
    obtain ⟨xo, xcap, rfl, _, _, hxr⟩ := Rows.own (enc := encAct) (sz := 4) (fun _ => rfl) OX2.out
    have XR := Lib.hid hxr
    have hol := ofL_len key.data.toList l
    clear hown hnew hx hyr hxr
    go_wp2_with fail
    refine (sameActs_calls (ofL key.data.toList l) (ofL key.data.toList l) xo yo xcap ycap w11 (by omega) XR.out YR.out).mono ?_
    rw [decide_eq_true rfl]
    rintro e w12 ⟨rfl, hx⟩
    have X13 := Lib.hid (Ext.trans X12.out hx); have Z13 := Lib.hid (Ext.trans Z12.out hx)
    have OX3 := Lib.hid (own_ext OX2.out hx)
    clear hx
    go_wp2_with fail
    refine (overActs_calls _ _ _ w12 (by omega) OX3.out).mono ?_
    rintro e w13 ⟨rfl, hbut⟩
    have B13 := Lib.hid hbut; clear hbut
    have hxs : ∀ i, (Value.slice xo (ofL key.data.toList l).length xcap).ownBlock = some i → w6.heap.size ≤ i := fun i hi => NX.out i hi
    have hV13 : Ext w w13 := Below.trans X13.out (B13.out.below (B := w.heap.size) X13.out.size (fun i hi => by have := hxs i hi; have := X7.out.size; omega))
    have hL13 : Rows 4 encAct w13.heap.size w13 (some ⟨g, 0, none⟩) (l ++ marksActs) :=
      (Rows.but ((L1.out.ext Z13.out)) B13.out (by have := Z13.out.size; omega) (fun i hi e => by have := hxs i e; have := Z7.out.size; omega)).mono (by have := Z13.out.size; have := B13.out.size; omega)
    have X14 := Lib.hid hV13; have LF := Lib.hid hL13
    clear hxs hV13 hL13
    go_wp2_with fail
    refine (number_calls value w13 (HV.out.ext X14.out) hs).mono ?_
    rintro e w14 ⟨rfl, hx⟩
    have X15 := Lib.hid (Ext.trans X14.out hx); have LF2 := Lib.hid ((LF.out.ext hx).mono hx.size)
    clear hx
    go_wp2_with fail
    refine (refNumber_calls value w14 hs).mono ?_
    rintro e w14' ⟨rfl, rfl⟩
    rw [← number_eq]
    have hnn : (numberL value.data.toList == numberL value.data.toList) = true := by simp
    go_wp2_with fail
    refine (keptActs_calls l g cap2 ao cap w14 (by omega) hcap2 hmax2 LF2.out ((HR.out.ext X15.out).mono X15.out.size)).mono ?_
    rintro e w15 ⟨rfl, hx⟩
    have X16 := Lib.hid (Ext.trans X15.out hx)
    clear hx
    go_wp2_with fail
    go_ret
    exact ⟨ret_bool rfl, X16.out⟩
  · go_wp2_with fail
    go_ret
    exact ⟨ret_bool rfl, X3.out⟩
end Go.Proofs.YtjplmghhleoolaaGreatDoor
