/- HoldsSpans: spans. -/
import Derived.Test.YtdmejbjpbjcfbaaGreatDoorSpans1
import Derived.Deep.DeepMust
import Derived.Deep.CutRange
import Derived.Deep.DeepCutAuto
namespace Go.Proofs.YtdmejbjpbjcfbaaGreatDoor
open Go.RowKit

theorem neq_dec (a b : List UInt8) : (!(a == b)) = decide (a ≠ b) := by
  by_cases h : a = b
  · subst h; simp
  · rw [beq_false_of_ne h, decide_eq_true (show a ≠ b from h)]; rfl
set_option maxRecDepth 100000 in
set_option maxHeartbeats 12800000 in
theorem holdsSpans_calls (ls : List HoldV) (dl : List HoldD) (ao : Option Addr) (cap : Nat) (lo hi at_ : ByteArray) (w : World) (hl : ls.length ≤ 9223372036854775807) (hr : Rows 7 encHV w.heap.size w ao ls) (hd : HoldsAre w (fun _ => False) ls dl) (hs : ∀ d ∈ dl, d.small)
    (hok : ∀ d ∈ dl, d.acts.length ≤ 1000000 → d.reads.length ≤ 1000000 → d.ok) (hlo : lo.size ≤ 140737488351232) (hhi : hi.size ≤ 140737488351232) (hat : at_.size ≤ 140737488351232) :
    Calls Tryz.prog 5 #[.slice ao ls.length cap, .agg #[.string lo, .string hi], .string at_] w fun e w' => e = .returned (.bool true) ∧ Ext w w' := by
  obtain ⟨i0, hi0, hz0, hz1, hz2⟩ := info_parts infoHold
  have HO := Lib.hid (fun W (hW : Ext w W) => holdsOf_calls ls dl (fun _ => False) ao cap 1500 W (by omega) hl ((hr.ext hW).mono hW.size) (hd.ext hW) hs)
  have HM : Hid (holdsN 1500 0 dl ≤ 1500 → ∀ W, Ext w W → Calls Tryz.prog 11 #[.slice ao ls.length cap] W fun e w' => ∃ (hb : Nat) (v : Value), e = .returned (.pointer (some ⟨hb, 0, none⟩)) ∧ Tab w' hb v (madeD dl) ∧ W.heap.size ≤ hb ∧ (∀ j, v.ownBlock = some j → W.heap.size ≤ j) ∧ Ext W w') := Lib.hid (fun hN W hW => by
    obtain ⟨h1, h2⟩ := holdsN_le dl 0 hN
    have hlen := hd.len
    exact made_calls ls dl ao cap W (by omega) ((hr.ext hW).mono hW.size) (hd.ext hW) (fun d hdm => hok d hdm (by have := h2 d hdm; omega) (by have := h2 d hdm; omega)))
  have HB0 : Hid (Blk (w.alloc (.cells #[.string lo, .string hi] 31)) w.heap.size [.string lo, .string hi] 31) := Lib.hid (Blk.new w _ _)
  have HX0 : Hid (Ext w (w.alloc (.cells #[.string lo, .string hi] 31))) := Lib.hid ((Below.refl _ w).alloc (Nat.le_refl _) _)
  clear hr hd hs hok
  go_enter Tryz.func5, Tryz.ntmps5
  go_wp2_with fail
  refine (awake_calls _).mono ?_
  rintro e w1 ⟨rfl, hx1⟩
  have X1 := Lib.hid (Ext.trans HX0.out hx1)
  have B1 := Lib.hid (HB0.out.ext' hx1)
  have hNS : w.heap.size ≤ w.heap.size := Nat.le_refl _
  clear hx1 HB0 HX0
  generalize hNe : w.heap.size = NS at B1 hNS ⊢
  have HNS := Lib.hid hNe
  clear hNe hNS
  go_wp2_with fail
  refine (HO.out _ X1.out).mono ?_
  rintro e w2 ⟨rfl, hx2⟩
  have X2 := Lib.hid (Ext.trans X1.out hx2)
  have B2 := Lib.hid (B1.out.ext' hx2)
  clear hx2 B1 HO
  by_cases hN : 1500 < holdsN 1500 0 dl
  · generalize holdsN 1500 0 dl = N at hN
    go_wp2_with fail
    go_ret
    exact ⟨rfl, X2.out⟩
  have HM2 := Lib.hid (HM.out (by omega))
  clear HM
  generalize holdsN 1500 0 dl = N at hN
  have c0 := B2.out.cell 0; have c1 := B2.out.cell 1
  simp only [List.getElem?_cons_zero, List.getElem?_cons_succ] at c0 c1
  by_cases hK : 1500 < lo.size + hi.size + at_.size
  · go_wp2_with fail
    go_ret
    exact ⟨rfl, X2.out⟩
  go_wp2_with fail
  clear c0 c1
  refine (HM2.out _ X2.out).mono ?_
  rintro e w3 ⟨hb, v, rfl, hT, hhb, hvv, hx3⟩
  have HHB := Lib.hid (Nat.le_trans X2.out.size hhb); have HVV := Lib.hid (fun j (h : v.ownBlock = some j) => Nat.le_trans X2.out.size (hvv j h))
  clear hhb hvv
  generalize madeD dl = ds at hT
  have X3 := Lib.hid (Ext.trans X2.out hx3); have T3 := Lib.hid hT; have B3 := Lib.hid (B2.out.ext' hx3)
  clear hT hx3 HM2 B2
  have HIN : Hid (Calls Tryz.prog 12 #[.pointer (some ⟨hb, 0, none⟩), .agg #[.string ⟨#[]⟩, .string ⟨#[]⟩]] w3 (RowPost ds w3)) := Lib.hid (by
    have h := in_calls hb v ds ⟨#[]⟩ ⟨#[]⟩ w3 T3.out (by decide) (by decide)
    rw [inD_all ds (fun d hd => (T3.out.ok d hd).2)] at h
    exact h)
  go_wp2_with fail
  refine HIN.out.mono ?_
  intro e w4 hp4
  obtain ⟨ra, ca, la, rfl, hra, hx4⟩ := RowPost.row hp4
  have c0 := (B3.out.ext' hx4).cell 0; have c1 := (B3.out.ext' hx4).cell 1
  simp only [List.getElem?_cons_zero, List.getElem?_cons_succ] at c0 c1
  have X4 := Lib.hid (Ext.trans X3.out hx4); have T4 := Lib.hid (T3.out.ext hx4); have B4 := Lib.hid (B3.out.ext' hx4); have RA4 := Lib.hid hra; have H34 := Lib.hid hx4.size
  have hb3 := Lib.hid T3.out.blk.lt; have hv3 := Lib.hid (fun j (h : v.ownBlock = some j) => T3.out.lt h)
  clear hp4 hra hx4 HIN B3 X3 T3
  go_wp2_with fail
  refine (in_calls hb v ds lo hi w4 T4.out hlo hhi).mono ?_
  intro e w5 hp5
  obtain ⟨ri, ci, li, rfl, hri, hx5⟩ := RowPost.row hp5
  have c0' := (B4.out.ext' hx5).cell 0; have c1' := (B4.out.ext' hx5).cell 1
  simp only [List.getElem?_cons_zero, List.getElem?_cons_succ] at c0' c1'
  have X5 := Lib.hid (Ext.trans X4.out hx5); have T5 := Lib.hid (T4.out.ext hx5); have B5 := Lib.hid (B4.out.ext' hx5); have RA5 := Lib.hid (RA4.out.ext hx5); have RI5 := Lib.hid (hri.mono H34.out)
  clear hp5 hri hx5 B4 X4 T4 RA4 c0 c1
  go_upto_region 8 with fail
  go_cut [56] (fun s wx => s = .bool (hasB lo.data.toList hi.data.toList at_.data.toList && decide (at_.data.toList ≠ lo.data.toList)) ∧ Ext w5 wx)
  case first =>
    cases h1 : spanB lo.data.toList hi.data.toList with
    | false =>
      have h2 : hasB lo.data.toList hi.data.toList at_.data.toList = false := by simp [hasB, h1]
      go_wp2_with fail
      refine (spanRight_calls lo hi w5 hlo hhi).mono ?_
      rw [h1]
      rintro e w6 ⟨rfl, hx6⟩
      have HH2 := Lib.hid h2; have X6 := Lib.hid hx6
      clear h1 h2 hx6
      go_wp2_with fail
      go_meet
      exact ⟨by rw [HH2.out]; rfl, X6.out⟩
    | true =>
      cases h2 : hasB lo.data.toList hi.data.toList at_.data.toList with
      | false =>
        go_wp2_with fail
        refine (spanRight_calls lo hi w5 hlo hhi).mono ?_
        rw [h1]
        rintro e w6 ⟨rfl, hx6⟩
        have d0 := (B5.out.ext' hx6).cell 0; have d1 := (B5.out.ext' hx6).cell 1
        simp only [List.getElem?_cons_zero, List.getElem?_cons_succ] at d0 d1
        have HH2 := Lib.hid h2; have X6 := Lib.hid hx6
        clear h1 h2 hx6
        go_wp2_with fail
        refine (has_calls lo hi at_ w6 hlo hhi hat).mono ?_
        rw [HH2.out]
        rintro e w7 ⟨rfl, hx7⟩
        have X7 := Lib.hid (Ext.trans X6.out hx7); clear hx7
        go_wp2_with fail
        go_meet
        exact ⟨by rw [HH2.out]; rfl, X7.out⟩
      | true =>
        go_wp2_with fail
        refine (spanRight_calls lo hi w5 hlo hhi).mono ?_
        rw [h1]
        rintro e w6 ⟨rfl, hx6⟩
        have d0 := (B5.out.ext' hx6).cell 0; have d1 := (B5.out.ext' hx6).cell 1
        simp only [List.getElem?_cons_zero, List.getElem?_cons_succ] at d0 d1
        have HH2 := Lib.hid h2; have X6 := Lib.hid hx6
        clear h1 h2 hx6
        go_wp2_with fail
        refine (has_calls lo hi at_ w6 hlo hhi hat).mono ?_
        rw [HH2.out]
        rintro e w7 ⟨rfl, hx7⟩
        have e0 := ((B5.out.ext' X6.out).ext' hx7).cell 0
        simp only [List.getElem?_cons_zero] at e0
        have X7 := Lib.hid (Ext.trans X6.out hx7); clear hx7 d0 d1
        go_wp2_with fail
        go_meet
        exact ⟨by rw [HH2.out, Lib.toList_data, Lib.toList_data, Bool.true_and]; exact congrArg Value.bool (neq_dec _ _), X7.out⟩
  case rest =>
    obtain ⟨hs56, hx6⟩ := hcut
    subst hs56
    have X6 := Lib.hid (Ext.trans X5.out hx6); have T6 := Lib.hid (T5.out.ext hx6); have B6 := Lib.hid (B5.out.ext' hx6); have RA6 := Lib.hid (RA5.out.ext hx6); have RI6 := Lib.hid (RI5.out.ext hx6)
    clear c0' c1' hx6 X5 T5 B5 RA5 RI5
    generalize hC : (hasB lo.data.toList hi.data.toList at_.data.toList && decide (at_.data.toList ≠ lo.data.toList)) = C
    have HC := Lib.hid hC
    clear hC
    go_upto_if 56 with fail
    go_cut [] (fun wy => Ext wc wy)
    case first =>
      cases C with
      | false =>
        go_wp2_with fail
        go_meet
        exact Below.refl _ _
      | true =>
        go_wp2_with fail
        simp only [Bool.and_eq_true, decide_eq_true_eq] at HC
        have k0 := ExtBy.cell (B6.out.cell 0); have k1 := ExtBy.cell (B6.out.cell 1)
        refine wp_region_first wc [0, 1, 2, 3, 4, 6, 7, 8, 9, 10] 4 (by kernel_rfl) (by kernel_rfl) (fun _ _ _ _ h => h) (Below.refl _ _) ?_
        simp only [opsAt, List.getElem?_toArray, List.getElem?_cons_succ, List.getElem?_cons_zero]
        repeat (go_big_quiet_step (fail))
        refine wpQuiet_nil ?_
        clear k0 k1
        refine wpAnyH_ready (rs := [5]) (by kernel_rfl) (by simp) ?_
        refine AllReadyH.cons rfl (fun K hK => ?_) AllReadyH.nil
        go_simp
        refine (in_calls hb v ds lo at_ wc.drew (T6.out.ext (Below.refl _ _).drew) hlo hat).mono ?_
        intro e w7 hp7
        obtain ⟨rb, cb, lb, rfl, hrb, hx7⟩ := RowPost.row hp7
        have X7 := Lib.hid (show Ext wc w7 from Ext.trans (Below.refl _ _).drew hx7)
        have RB7 := Lib.hid (show HRow w7 wc.heap.size rb cb lb (inD lo at_ ds) from hrb)
        clear hp7 hrb hx7
        refine hK.out _ _ ⟨⟨_, X7.out⟩, rfl⟩ (fun _ => ?_)
        clear hK K
        refine wpAnyH_ready (rs := [11]) (by kernel_rfl) (by simp) ?_
        refine AllReadyH.cons rfl (fun K hK => ?_) AllReadyH.nil
        go_simp
        refine (in_calls hb v ds at_ hi w7 (T6.out.ext X7.out) hat hhi).mono ?_
        intro e w8 hp8
        obtain ⟨rd, cd, ld, rfl, hrd, hx8⟩ := RowPost.row hp8
        have X8 := Lib.hid (show Ext wc w8 from Ext.trans X7.out hx8)
        have RB8 := Lib.hid (RB7.out.ext hx8)
        have RD8 := Lib.hid hrd
        have H78 := Lib.hid X7.out.size
        clear hp8 hrd hx8 X7 RB7
        refine hK.out _ _ ⟨⟨_, X8.out⟩, rfl⟩ (fun _ => ?_)
        clear hK K
        refine wpAnyH_ready (rs := [12]) (by kernel_rfl) (by simp) ?_
        refine AllReadyH.cons rfl (fun K hK => ?_) AllReadyH.nil
        go_simp
        refine hK.out _ _ ⟨⟨_, X8.out⟩, rfl⟩ (fun _ => ?_)
        clear hK K
        refine wpAnyH_ready (rs := [13]) (by kernel_rfl) (by simp) ?_
        refine AllReadyH.cons rfl (fun K hK => ?_) AllReadyH.nil
        go_simp
        refine hK.out _ _ ⟨⟨_, X8.out⟩, rfl⟩ (fun _ => ?_)
        clear hK K
        refine wpAnyH_done (by kernel_rfl) ?_ _
        have hfew := T6.out.few
        have hlb : lb.length ≤ 60 := by rw [RB8.out.len]; exact Nat.le_trans (List.length_filter_le _ _) hfew
        have hld : ld.length ≤ 60 := by rw [RD8.out.len]; exact Nat.le_trans (List.length_filter_le _ _) hfew
        have E8 : Hid (Ext w8 (w8.alloc (.cells #[] 35))) := Lib.hid ((Below.refl _ w8).alloc (Nat.le_refl _) _)
        go_wp2_with (first
          | (at_builtin; refine wpList_append_rows (enc := encHV) (size := 7) (fun _ => rfl) one_hold rfl (.tmp 69) (.tmp 70) 22 rfl 35 i0 _ 104 Tryz.underlying22 hi0 hz0 hz1 hz2 rfl (by decide) (.slice (some ⟨w8.heap.size, 0, none⟩) 0 0) 0 [] rfl (World.ownsRow_made w8 #[] 0 (Nat.zero_le _) (Nat.zero_le _) rfl) rb lb cb rfl ((RB8.out.ext E8.out).rows) (by unfold maxLen; omega) (by omega) ?_; intro v9 w9 hown9 hbut9 hkept9; have O9 := Lib.hid hown9; have X9 := Lib.hid (Ext.butNew E8.out hbut9 (fun j e => Nat.le_of_eq (by simpa [Value.ownBlock] using e))); have P9 := Lib.hid (fun j (hj : v9.ownBlock = some j) => show w8.heap.size ≤ j from (hkept9 j hj).elim (fun e => Nat.le_of_eq (by simpa [Value.ownBlock] using e)) (fun e => Nat.le_trans E8.out.size e)); clear hown9 hbut9 hkept9)
          | (at_builtin; go_must (refine wpList_append_rows (enc := encHV) (size := 7) (fun _ => rfl) one_hold rfl (.tmp 71) (.tmp 72) 22 rfl 35 i0 _ 104 Tryz.underlying22 hi0 hz0 hz1 hz2 rfl (by decide) v9 (0 + lb.length) ([] ++ lb.flatMap encHV) rfl O9.out rd ld cd rfl ((RD8.out.ext X9.out).rows) (by unfold maxLen; omega) (by omega) ?_; intro v10 w10 hown10 hbut10 hkept10; have X10 := Lib.hid (Ext.butNew X9.out hbut10 (fun j e => P9.out j e)); have P10 := Lib.hid (fun j (hj : v10.ownBlock = some j) => show w8.heap.size ≤ j from (hkept10 j hj).elim (fun e => P9.out j e) (fun e => Nat.le_trans X9.out.size e)); obtain ⟨po, pc, rfl⟩ := own_slice hown10; have O10 := Lib.hid hown10; clear hown10 hbut10 hkept10)))
        have hrow : HRow w10 wc.heap.size po pc (lb ++ ld) (inD lo at_ ds ++ inD at_ hi ds) := by
          have hO := O10.out
          simp only [Nat.zero_add, List.nil_append, ← List.length_append, ← List.flatMap_append] at hO
          have hP := P10.out
          simp only [Nat.zero_add, ← List.length_append] at hP
          have h8 := X8.out.size
          refine ⟨hO, fun j hj => Nat.le_trans h8 (hP j hj), HoldsAre.append ((RB8.out.are.mono (fun b hb e => e.elim (fun e => absurd hb (Nat.not_lt.2 (hP b e))) .inr)).ext X10.out) ((RD8.out.are.mono (fun b hb e => e.elim (fun e => absurd hb (Nat.not_lt.2 (hP b e))) (fun e => .inr (Nat.lt_of_lt_of_le e H78.out)))).ext X10.out)⟩
        rw [in_split T6.out.rise lo hi at_ HC.out.1 HC.out.2] at hrow
        have hX10 : Ext wc w10 := Ext.trans X8.out X10.out
        have hsame := same_rows hrow (RI6.out.ext hX10) (by have := List.length_filter_le (HoldD.tells fun k _ _ => hasB lo.data.toList hi.data.toList k.data.toList) ds; have e : (inD lo hi ds).length ≤ ds.length := this; omega) (fun d hd => T6.out.fits d (in_mem hd))
        rw [List.length_append] at hsame
        have HSM := Lib.hid hsame; have HX10 := Lib.hid hX10
        clear hrow hX10 hsame O10 P10 X9 X10 O9 P9
        refine HSM.out.mono ?_
        rintro e w11 ⟨rfl, hx11⟩
        have X11 := Lib.hid (Ext.trans HX10.out hx11)
        clear hx11
        go_wp2_with fail
        go_meet
        exact X11.out
    case rest =>
      have X7 := Lib.hid (Ext.trans X6.out hcut); have T7 := Lib.hid (T6.out.ext hcut); have B7 := Lib.hid (B6.out.ext' hcut); have RA7 := Lib.hid (RA6.out.ext hcut); have RI7 := Lib.hid (RI6.out.ext hcut)
      clear hcut X6 T6 B6 RA6 RI6
      have c0 := B7.out.cell 0; have c1 := B7.out.cell 1
      simp only [List.getElem?_cons_zero, List.getElem?_cons_succ] at c0 c1
      go_wp2_with fail
      refine (take_calls hb v ds lo hi wc T7.out hlo hhi).mono ?_
      intro e w8 hp8
      obtain ⟨rt, ct, lt, v8, rfl, hrt, hT8, hv8, hx8⟩ := LessPost.row hp8
      have hnew : ∀ j, (j = hb ∨ v.ownBlock = some j) → w.heap.size ≤ j ∧ j < w3.heap.size := fun j e => e.elim (fun e => by subst e; exact ⟨HHB.out, hb3.out⟩) (fun e => ⟨HVV.out j e, hv3.out j e⟩)
      have hns : ¬ (NS = hb ∨ v.ownBlock = some NS) := fun e => by
        rcases e with e | e
        · subst e; exact absurd (blk_type B7.out T7.out.blk) (by decide)
        · obtain ⟨_, ho, _⟩ := T7.out.row
          exact own_ne ho B7.out (by decide) e
      have hb8 := B7.out.but hx8 hns
      have d0 := hb8.cell 0; have d1 := hb8.cell 1
      simp only [List.getElem?_cons_zero, List.getElem?_cons_succ] at d0 d1
      have X8 := Lib.hid (Ext.butNew X7.out hx8 (fun j e => (hnew j e).1)); have T8 := Lib.hid hT8; have V8 := Lib.hid hv8
      have RA8 := Lib.hid (RA7.out.but hx8 (fun b e => (hnew b e).2)); have RI8 := Lib.hid (RI7.out.but hx8 (fun b e => (hnew b e).2))
      have RT8 := Lib.hid hrt; have B8 := Lib.hid hb8; have HNEW := Lib.hid hnew; have HCS := Lib.hid hx8.size
      have HWC := Lib.hid (fun j (e : j = hb ∨ v8.ownBlock = some j) => show j < wc.heap.size from e.elim (fun e => by subst e; exact T7.out.blk.lt) (fun e => T7.out.lt (hv8 j e)))
      have hfew := T7.out.few
      have HRISE := Lib.hid T7.out.rise; have HOKD := Lib.hid T7.out.ok
      have hla : la.length ≤ 60 := by rw [RA7.out.len]; exact hfew
      have hlin : (inD lo hi ds).length ≤ 60 := by have := in_out_len lo hi ds; omega
      have hlt : lt.length ≤ 60 := by rw [hrt.len]; exact hlin
      have hsum : (outD lo hi ds).length + lt.length = la.length := by rw [RA7.out.len, hrt.len]; have := in_out_len lo hi ds; omega
      have HFIT := Lib.hid T7.out.fits
      clear hp8 hrt hT8 hv8 hx8 hnew hns hb8 c0 c1 X7 T7 B7 RA7 RI7
      go_wp2_with fail
      refine (same_rows RT8.out RI8.out (by omega) (fun d hd => HFIT.out d (in_mem hd))).mono ?_
      rintro e w9 ⟨rfl, hx9⟩
      have hb9 := B8.out.ext' hx9
      have e0 := hb9.cell 0; have e1 := hb9.cell 1
      simp only [List.getElem?_cons_zero, List.getElem?_cons_succ] at e0 e1
      have X9 := Lib.hid (Ext.trans X8.out hx9); have T9 := Lib.hid (T8.out.ext hx9); have RA9 := Lib.hid (RA8.out.ext hx9); have RT9 := Lib.hid (RT8.out.ext hx9)
      clear hx9 hb9 d0 d1 X8 T8 RA8 RI8 RT8 B8
      have HSUM := Lib.hid hsum
      have hmany : (((outD lo hi ds).length : Int) != (la.length : Int) - (lt.length : Int)) = false := by
        have e : ((outD lo hi ds).length : Int) = (la.length : Int) - (lt.length : Int) := by omega
        rw [e]; simp
      generalize hon : (outD lo hi ds).length = on at hmany hsum
      have HON := Lib.hid hon
      clear hon hsum
      go_wp2_with fail
      refine (in_calls hb v8 (outD lo hi ds) lo hi w9 T9.out hlo hhi).mono ?_
      rw [in_out]
      intro e w10 hp10
      obtain ⟨rq, cq, lq, rfl, hrq, hx10⟩ := RowPost.row hp10
      obtain rfl : lq = [] := List.eq_nil_of_length_eq_zero hrq.len
      have X10 := Lib.hid (Ext.trans X9.out hx10); have T10 := Lib.hid (T9.out.ext hx10); have RA10 := Lib.hid (RA9.out.ext hx10); have RT10 := Lib.hid (RT9.out.ext hx10)
      clear hp10 hrq hx10 e0 e1 X9 T9 RA9 RT9
      go_wp2_with fail
      refine (manyT_calls hb v8 (outD lo hi ds) w10 T10.out).mono ?_
      rw [HON.out]
      rintro e w11 ⟨rfl, rfl⟩
      go_wp2_with fail
      obtain ⟨hn1, hn2⟩ := RT10.out.nrows (fun b => b = hb ∨ v8.ownBlock = some b) HWC.out
      refine (put_calls hb v8 (outD lo hi ds) lt (inD lo hi ds) rt ct w10 T10.out (by omega) hn1 hn2 (fun d hd => (HOKD.out d (in_mem hd)).1)).mono ?_
      rintro e w12 ⟨he, ⟨v12, hT12, hv12⟩, hx12, -⟩
      rw [back_E HRISE.out (fun d hd => (HOKD.out d hd).2) hfew] at he
      subst he
      have hT12' : Tab w12 hb v12 ds := by
        have hpt : putT (inD lo hi ds) (outD lo hi ds) = insAll (inD lo hi ds) (outD lo hi ds) := by rw [putT, if_pos (back_E HRISE.out (fun d hd => (HOKD.out d hd).2) hfew)]
        have hr := hT12.rise
        rw [hpt] at hr
        rw [hpt, back_T HRISE.out hr] at hT12
        exact hT12
      have hold : ∀ j, (j = hb ∨ v8.ownBlock = some j) → (j = hb ∨ v.ownBlock = some j) := fun j e => e.elim .inl (fun e => .inr (V8.out j e))
      have X12 := Lib.hid (Ext.butNew X10.out hx12 (fun j e => (HNEW.out j (hold j e)).1)); have T12 := Lib.hid hT12'
      have RA12 := Lib.hid (RA10.out.but hx12 (fun b e => (HNEW.out b (hold b e)).2))
      clear hn1 hn2 hT12 hv12 hx12 hT12' hold X10 T10 RA10 RT10
      go_wp2_with fail
      have HIN2 : Hid (Calls Tryz.prog 12 #[.pointer (some ⟨hb, 0, none⟩), .agg #[.string ⟨#[]⟩, .string ⟨#[]⟩]] w12 (RowPost ds w12)) := Lib.hid (by
        have h := in_calls hb v12 ds ⟨#[]⟩ ⟨#[]⟩ w12 T12.out (by decide) (by decide)
        rw [inD_all ds (fun d hd => (HOKD.out d hd).2)] at h
        exact h)
      refine HIN2.out.mono ?_
      intro e w13 hp13
      obtain ⟨rr, cr, lr, rfl, hrr, hx13⟩ := RowPost.row hp13
      have X13 := Lib.hid (Ext.trans X12.out hx13); have RA13 := Lib.hid (RA12.out.ext hx13); have RR13 := Lib.hid hrr
      clear hp13 hrr hx13 HIN2 X12 T12 RA12
      go_wp2_with fail
      refine (same_rows RR13.out RA13.out (by omega) HFIT.out).mono ?_
      rintro e w14 ⟨rfl, hx14⟩
      have X14 := Lib.hid (Ext.trans X13.out hx14); have RA14 := Lib.hid (RA13.out.ext hx14)
      clear hx14 X13 RA13 RR13
      go_wp2_with fail
      refine (newWriter_calls w14).mono ?_
      rintro e w15 ⟨rfl, hT15, hx15⟩
      have hn0 : NRows 7 encHV (fun b => b = w14.heap.size ∨ (Value.slice none 0 0).ownBlock = some b) w14 ra la := nrows_of_own (fun _ => rfl) RA14.out.own (fun j hj e => by have := (RA14.out.own.lt j hj).2; have := wr_new e; omega)
      have hn1 := hn0.ext hx15
      have hn2 : HoldsAre w15 (fun b => b = w14.heap.size ∨ (Value.slice none 0 0).ownBlock = some b) la ds := (RA14.out.are.mono (fun b hb e => by have := wr_new e; omega)).ext hx15
      clear hn0
      have N1 := Lib.hid hn1; have N2 := Lib.hid hn2; have T15 := Lib.hid hT15; have Y15 := Lib.hid hx15
      have hW0 : w14.heap.size ≤ w14.heap.size := Nat.le_refl _
      clear hn1 hn2 hT15 hx15
      generalize hwb : w14.heap.size = wb at N1 N2 T15 hW0 ⊢
      have HWB := Lib.hid hwb
      clear hwb hW0
      have hwf : ∀ d ∈ ds, d.wfit := fun d hd => right_wfit (HOKD.out d hd).2
      have HWF := Lib.hid hwf; clear hwf
      go_wp2_with fail
      refine (write_calls wb false (.slice none 0 0) [] la ds ra ca w15 T15.out (by omega) (by simp) N1.out N2.out HWF.out).mono ?_
      rintro e w16 ⟨rfl, v16, hT16, hB16, -⟩
      rw [rights_bad (fun d hd => (HOKD.out d hd).2), Bool.or_false, List.nil_append] at hT16
      have hy16 : Ext w14 w16 := Ext.butNew Y15.out hB16 (fun j e => by have := wr_new e; have := HWB.out; omega)
      have T16 := Lib.hid hT16; have Y16 := Lib.hid hy16
      clear hT16 hB16 hy16 N1 N2 T15 Y15
      have hwl := writeW_len HWF.out (by omega)
      go_wp2_with fail
      refine (done_calls wb false v16 (writeW ds) w16 T16.out (by omega)).mono ?_
      rintro e w17 ⟨⟨u, rfl, -, hu, -⟩, hx17⟩
      have hu := hu rfl
      obtain ⟨po, pc, rfl, _, _, hur⟩ := Rows.own (enc := encU8) (sz := 1) (fun _ => rfl) hu
      have Y17 := Lib.hid (Ext.trans Y16.out hx17); have U17 := Lib.hid hur
      clear hu hur hx17 T16 Y16
      simp only [Bool.false_eq_true, if_false]
      go_wp2_with fail
      refine (newReader_calls (writeW ds) po pc w17 (by omega) U17.out).mono ?_
      rintro e w18 ⟨rb, ro, c, rfl, hrb, hR18, hx18⟩
      have Y18 := Lib.hid (Ext.trans Y17.out hx18); have R18 := Lib.hid hR18; have HRB := Lib.hid (Nat.le_trans Y17.out.size hrb)
      clear hrb hR18 hx18 Y17 U17
      have hrd := holds_read w18.heap.size rb c ro ⟨false, writeW ds⟩ w18 R18.out (Nat.le_refl _)
      rw [holds_back (fun d hd => (HOKD.out d hd).2) HRISE.out hfew] at hrd
      have HRD := Lib.hid hrd; clear hrd
      go_wp2_with fail
      refine HRD.out.mono ?_
      rintro e w19 ⟨⟨v19, q, rfl, hq, hown, hnew, hare⟩, ⟨ao', cap', hR⟩, hBut⟩
      obtain ⟨qo, qc, rfl⟩ := own_slice hown
      have hrow : HRow w19 w18.heap.size qo qc q ds := ⟨hown, hnew, hare⟩
      have Y19 := Lib.hid (show Ext w14 w19 from Ext.butNew Y18.out hBut (fun j e => by subst e; exact HRB.out)); have R19 := Lib.hid hR; have Q19 := Lib.hid hrow
      clear hq hown hnew hare hR hBut hrow Y18 R18 HRD
      go_wp2_with fail
      refine (end_read w18.heap.size rb cap' ao' ⟨false, []⟩ w19 R19.out).mono ?_
      rintro e w20 ⟨rfl, rfl⟩
      have hE : endE ⟨false, []⟩ = 0 := by simp [endE]
      rw [hE]
      clear hE
      go_wp2_with fail
      refine (same_rows Q19.out (RA14.out.ext Y19.out) (by omega) HFIT.out).mono ?_
      rintro e w21 ⟨rfl, hx21⟩
      have X21 := Lib.hid (Ext.trans X14.out (Ext.trans Y19.out hx21))
      clear hx21
      go_wp2_with fail
      go_ret
      exact ⟨rfl, X21.out⟩
end Go.Proofs.YtdmejbjpbjcfbaaGreatDoor
