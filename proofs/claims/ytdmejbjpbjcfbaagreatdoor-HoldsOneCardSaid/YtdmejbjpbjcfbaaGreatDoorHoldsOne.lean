/- HoldsOne: a key has one holder at most. -/
import Derived.Test.YtdmejbjpbjcfbaaGreatDoorOneL
import Derived.Test.YtdmejbjpbjcfbaaGreatDoorFirst
namespace Go.Proofs.YtdmejbjpbjcfbaaGreatDoor
open Go.RowKit

set_option maxRecDepth 100000 in
set_option maxHeartbeats 6400000 in
theorem holdsOne_calls (ls : List HoldV) (dl : List HoldD) (ao : Option Addr) (cap : Nat) (key : ByteArray) (c m : Int) (w : World) (hl : ls.length ≤ 9223372036854775807) (hr : Rows 7 encHV w.heap.size w ao ls) (hd : HoldsAre w (fun _ => False) ls dl) (hs : ∀ d ∈ dl, d.small)
    (hok : ∀ d ∈ dl, d.acts.length ≤ 1000000 → d.reads.length ≤ 1000000 → d.ok) (hk : key.size ≤ 140737488351232) :
    Calls Tryz.prog 3 #[.slice ao ls.length cap, .string key, .agg #[.int .i64 c, .int .i64 m]] w fun e w' => e = .returned (.bool true) ∧ Ext w w' := by
  have HO := Lib.hid (fun W (hW : Ext w W) => holdsOf_calls ls dl (fun _ => False) ao cap 1500 W (by omega) hl ((hr.ext hW).mono hW.size) (hd.ext hW) hs)
  have HM : Hid (holdsN 1500 0 dl ≤ 1500 → ∀ W, Ext w W → Calls Tryz.prog 11 #[.slice ao ls.length cap] W fun e w' => ∃ (hb : Nat) (v : Value), e = .returned (.pointer (some ⟨hb, 0, none⟩)) ∧ Tab w' hb v (madeD dl) ∧ W.heap.size ≤ hb ∧ (∀ j, v.ownBlock = some j → W.heap.size ≤ j) ∧ Ext W w') := Lib.hid (fun hN W hW => by
    obtain ⟨h1, h2⟩ := holdsN_le dl 0 hN
    have hlen := hd.len
    exact made_calls ls dl ao cap W (by omega) ((hr.ext hW).mono hW.size) (hd.ext hW) (fun d hdm => hok d hdm (by have := h2 d hdm; omega) (by have := h2 d hdm; omega)))
  have HB0 : Hid (Blk (w.alloc (.cells #[.int .i64 c, .int .i64 m] 24)) w.heap.size [.int .i64 c, .int .i64 m] 24) := Lib.hid (Blk.new w _ _)
  have HX0 : Hid (Ext w (w.alloc (.cells #[.int .i64 c, .int .i64 m] 24))) := Lib.hid ((Below.refl _ w).alloc (Nat.le_refl _) _)
  clear hr hd hs hok
  go_enter Tryz.func3, Tryz.ntmps3
  go_wp2_with fail
  refine (awake_calls _).mono ?_
  rintro e w1 ⟨rfl, hx1⟩
  have X1 := Lib.hid (Ext.trans HX0.out hx1)
  have B1 := Lib.hid (HB0.out.ext' hx1)
  clear hx1 HB0 HX0
  generalize w.heap.size = N5 at B1 ⊢
  go_wp2_with fail
  refine (HO.out _ X1.out).mono ?_
  rintro e w2 ⟨rfl, hx2⟩
  have X2 := Lib.hid (Ext.trans X1.out hx2)
  have B2 := Lib.hid (B1.out.ext' hx2)
  clear hx2 B1 HO
  by_cases hN : 1500 < holdsN 1500 0 dl
  · generalize holdsN 1500 0 dl = N at hN
    go_wp2_with fail
    go_ret
    exact ⟨rfl, X2.out⟩
  · have HM2 := Lib.hid (HM.out (by omega))
    clear HM
    generalize holdsN 1500 0 dl = N at hN
    by_cases hK : 1500 < key.size
    · go_wp2_with fail
      go_ret
      exact ⟨rfl, X2.out⟩
    · go_wp2_with fail
      refine (HM2.out _ X2.out).mono ?_
      rintro e w3 ⟨hb, v, rfl, hT, hhb, hvv, hx3⟩
      have HHB := Lib.hid (Nat.le_trans X2.out.size hhb); have HVV := Lib.hid (fun j (h : v.ownBlock = some j) => Nat.le_trans X2.out.size (hvv j h))
      clear hhb hvv
      generalize madeD dl = ds at hT
      have X3 := Lib.hid (Ext.trans X2.out hx3); have T3 := Lib.hid hT; have B3 := Lib.hid (B2.out.ext' hx3)
      clear hT hx3 HM2 B2
      have HIN : Hid (Calls Tryz.prog 12 #[.pointer (some ⟨hb, 0, none⟩), .agg #[.string ⟨#[]⟩, .string ⟨#[]⟩]] w3 (RowPost ds w3)) := Lib.hid (by
        have h := in_calls hb v ds ⟨#[]⟩ ⟨#[]⟩ w3 T3.out (by decide) (by decide)
        rw [inD_all ds (fun d hd => (T3.out.ok d hd).2)] at h
        exact h)
      go_wp2_with fail
      refine HIN.out.mono ?_
      rintro e w4 ⟨r, l, rfl, hll, hown, hnew, hare, hx4⟩
      obtain ⟨ro, rc, rfl, hlc, _, hrows⟩ := Rows.own (enc := encHV) (sz := 7) (fun _ => rfl) hown
      have hfew := T3.out.few
      have hbl : hb < w3.heap.size := T3.out.blk.lt
      have HV := Lib.hid (fun j (h : v.ownBlock = some j) => T3.out.lt h)
      have X4 := Lib.hid (Ext.trans X3.out hx4); have T4 := Lib.hid (T3.out.ext hx4); have B4 := Lib.hid (B3.out.ext' hx4)
      have HR4 := Lib.hid hrows
      have HA4 := Lib.hid (hare.mono (no' := fun b => b < w3.heap.size) (fun b _ e => .inr e))
      have HLL := Lib.hid hll
      have hl60 : l.length ≤ 60 := by omega
      have hsz4 := hx4.size
      clear hown hnew hare hx4 HIN T3 B3 hrows hlc hll
      go_wp2_with fail
      go_loopw [9, 10] (fun vm vi wr => ∃ k : Nat, k ≤ l.length ∧ vm = .int .i64 (cntD key.data.toList (ds.take k)) ∧ vi = .int .i64 k ∧ Ext w4 wr) (fun _ vi _ => l.length - (intOf vi).toNat)
      case atStart => exact ⟨0, by omega, rfl, rfl, Below.refl _ _⟩
      case round =>
        obtain ⟨k, hk, rfl, rfl, hx⟩ := hrel
        have K1 := Lib.hid hx; clear hx
        by_cases hlt : k < l.length
        · obtain ⟨x, hx⟩ : ∃ x, l[k]? = some x := ⟨_, List.getElem?_eq_getElem hlt⟩
          obtain ⟨d, hdk, hxd⟩ := HA4.out.at k x hx
          have hdm := List.mem_of_getElem? hdk
          obtain ⟨hdok, hdr⟩ := T4.out.ok d hdm
          obtain ⟨b, off, rfl, hbb, hcell⟩ := HR4.out (by intro e; rw [e] at hlt; simp at hlt)
          have hcx := hcell k x hx
          have hmove : ∀ j, wr.cell? ⟨b, j, none⟩ = w4.cell? ⟨b, j, none⟩ := fun j => K1.out.cell (p := ⟨b, j, none⟩) hbb
          have hcs := cntD_succ key.data.toList ds k d hdk
          have hcl := cntD_le key.data.toList (ds.take k)
          rw [List.length_take] at hcl
          have hxw : x.is w4 (fun b => b = hb ∨ v.ownBlock = some b) d := hxd.mono (fun b _ e => e.elim (fun e => by omega) (fun e => HV.out b e))
          have HP : Hid (Calls Tryz.prog 13 #[.pointer (some ⟨hb, 0, none⟩), .slice (some ⟨wr.heap.size, 0, none⟩) 1 1] (wr.alloc (.cells (encHV x).toArray 35)).drew fun e w' => e = .returned (.int .i64 7) ∧ Ext wr w') := Lib.hid ((put1_calls hb v ds x d wr.drew ((T4.out.ext K1.out).ext (Below.refl _ wr).drew) ((hxw.ext K1.out).ext (Below.refl _ wr).drew) hdok).mono (fun e w' h => by
            have h7 := putE_there hdr hdm
            exact ⟨by rw [h.1, h7], Ext.trans ((Below.refl _ wr).drew.alloc (Nat.le_refl _) _) (h.2.2.2 (by rw [h7]; decide))⟩))
          have hkx : x.key = d.key := hxd.key
          have hrise := rise_of HA4.out T4.out.rise
          have hlts : ∀ (j : Nat) (y : HoldV), k = j + 1 → l[j]? = some y → vkey y < vkey x := fun j y e hy => rise_lt hrise (by omega) hy hx
          have HLT := Lib.hid hlts; have HX := Lib.hid hx; have HKX := Lib.hid hkx; have HCS := Lib.hid hcs; have HC := Lib.hid hcell
          obtain ⟨xk, xcl, xnm, xo, xn, xc, yo, yn, yc, put, value⟩ := x
          simp only [encHV] at HP
          have d0 := (hmove _).trans (hcx 0 _ rfl); have d1 := (hmove _).trans (hcx 1 _ rfl); have d2 := (hmove _).trans (hcx 2 _ rfl); have d3 := (hmove _).trans (hcx 3 _ rfl); have d4 := (hmove _).trans (hcx 4 _ rfl); have d5 := (hmove _).trans (hcx 5 _ rfl); have d6 := (hmove _).trans (hcx 6 _ rfl)
          simp only [Nat.add_zero] at d0
          have i0 : (0 : Int) ≤ (k : Int) := by omega
          have i1 : (k : Int) < (l.length : Int) := by omega
          clear hx hdk hdok hdr hcell hcx hxw hxd hcs hrise hlts hkx hdm
          rcases Nat.eq_zero_or_pos k with h0 | hpos
          · have hg : decide (0 < k) = false := by simp; omega
            have hg2 : decide ((0 : Int) < (k : Int)) = false := by simp; omega
            have hg3 : ¬ 0 < k := by omega
            have H0 := Lib.hid h0
            clear hmove h0
            go_wp2_with fail
            have q0 := ExtBy.cell d0; have q1 := ExtBy.cell d1; have q2 := ExtBy.cell d2; have q3 := ExtBy.cell d3; have q4 := ExtBy.cell d4; have q5 := ExtBy.cell d5; have q6 := ExtBy.cell d6
            refine wp_region_first wr [0, 1, 2, 3, 4, 5, 6, 7, 8, 9, 10, 11, 12, 13, 14, 15, 16, 17, 18, 19, 20, 21] 4 (by kernel_rfl) (by kernel_rfl) (fun _ _ _ _ h => h) (Below.refl _ _) ?_
            simp only [opsAt, List.getElem?_toArray, List.getElem?_cons_succ, List.getElem?_cons_zero]
            repeat (go_big_quiet_step (fail))
            refine wpQuiet_nil ?_
            refine wpAnyH_ready (rs := [22]) (by kernel_rfl) (by simp) ?_
            refine AllReadyH.cons rfl (fun K hK => ?_) AllReadyH.nil
            go_simp
            refine hK.out _ _ ⟨⟨_, ((Below.refl _ wr).alloc (Nat.le_refl _) _).drew⟩, rfl⟩ (fun _ => ?_)
            clear hK K
            refine wpAnyH_ready (rs := [23]) (by kernel_rfl) (by simp) ?_
            refine AllReadyH.cons rfl (fun K hK => ?_) AllReadyH.nil
            go_simp
            refine HP.out.mono ?_
            rintro e w5 ⟨rfl, hx5⟩
            have Y5 := Lib.hid hx5
            have hk5 := (hx5.cell (p := ⟨b, off + k * 7, none⟩) (Nat.lt_of_lt_of_le hbb K1.out.size)).trans d0
            clear hx5
            refine hK.out _ _ ⟨⟨_, Y5.out⟩, rfl⟩ (fun _ => ?_)
            clear hK K
            refine wpAnyH_ready (rs := [24]) (by kernel_rfl) (by simp) ?_
            refine AllReadyH.cons rfl (fun K hK => ?_) AllReadyH.nil
            go_simp
            refine hK.out _ _ ⟨⟨_, Y5.out⟩, rfl⟩ (fun _ => ?_)
            clear hK K
            refine wpAnyH_ready (rs := [25]) (by kernel_rfl) (by simp) ?_
            refine AllReadyH.cons rfl (fun K hK => ?_) AllReadyH.nil
            go_simp
            refine hK.out _ _ ⟨⟨_, Y5.out⟩, rfl⟩ (fun _ => ?_)
            clear hK K
            refine wpAnyH_done (by kernel_rfl) ?_ _
            clear d0 d1 d2 d3 d4 d5 d6
            cases hq : (xk.toList == key.toList)
            all_goals
              have HQ := Lib.hid hq
              go_wp2_with fail
              go_roundw
              case rel =>
                have hkq := HQ.out
                have hkx := HKX.out
                first
                  | (rw [beq_eq_false_iff_ne, Lib.toList_data, Lib.toList_data] at hkq
                     refine ⟨k + 1, by omega, ?_, by go_num, Ext.trans K1.out Y5.out⟩
                     rw [HCS.out, if_neg (by unfold dkey; rw [← hkx]; exact hkq)]; rfl)
                  | (rw [beq_iff_eq, Lib.toList_data, Lib.toList_data] at hkq
                     refine ⟨k + 1, by omega, ?_, by go_num, Ext.trans K1.out Y5.out⟩
                     rw [HCS.out, if_pos (by unfold dkey; rw [← hkx]; exact hkq)]; go_num)
              case measure => simp [intOf]; omega
          · obtain ⟨j, hj⟩ : ∃ j, k = j + 1 := ⟨k - 1, by omega⟩
            obtain ⟨y, hy⟩ : ∃ y, l[j]? = some y := ⟨_, List.getElem?_eq_getElem (by omega)⟩
            have hyl := HLT.out j y hj hy
            have hcy := (hmove _).trans (HC.out j y hy 0 _ rfl)
            simp only [Nat.add_zero] at hcy
            have j0 : (0 : Int) ≤ (j : Int) := by omega
            have j1 : (j : Int) < (l.length : Int) := by omega
            have hbl2 : Op.bytesLess y.key.toList xk.toList = true := by rw [Lib.toList_data, Lib.toList_data, bytesLess_eq]; exact decide_eq_true hyl
            have hg : decide (0 < k) = true := by simp; omega
            have hg2 : decide ((0 : Int) < (k : Int)) = true := by simp; omega
            have hg3 : 0 < k := hpos
            have hwr : IntKind.i64.wrap ((k : Int) - 1) = (j : Int) := by rw [IntWalk.i64_in _ (by omega)]; omega
            clear hy hyl hmove hj hpos
            go_wp2_with fail
            have q0 := ExtBy.cell d0; have q1 := ExtBy.cell d1; have q2 := ExtBy.cell d2; have q3 := ExtBy.cell d3; have q4 := ExtBy.cell d4; have q5 := ExtBy.cell d5; have q6 := ExtBy.cell d6; have q7 := ExtBy.cell hcy
            refine wp_region_first wr [0, 1, 2, 3, 4, 5, 6, 7, 8, 9, 10, 11, 12, 13, 14, 15, 16, 17, 18, 19, 20, 21] 4 (by kernel_rfl) (by kernel_rfl) (fun _ _ _ _ h => h) (Below.refl _ _) ?_
            simp only [opsAt, List.getElem?_toArray, List.getElem?_cons_succ, List.getElem?_cons_zero]
            repeat (go_big_quiet_step (fail))
            refine wpQuiet_nil ?_
            refine wpAnyH_ready (rs := [22]) (by kernel_rfl) (by simp) ?_
            refine AllReadyH.cons rfl (fun K hK => ?_) AllReadyH.nil
            go_simp
            refine hK.out _ _ ⟨⟨_, ((Below.refl _ wr).alloc (Nat.le_refl _) _).drew⟩, rfl⟩ (fun _ => ?_)
            clear hK K
            refine wpAnyH_ready (rs := [23]) (by kernel_rfl) (by simp) ?_
            refine AllReadyH.cons rfl (fun K hK => ?_) AllReadyH.nil
            go_simp
            refine HP.out.mono ?_
            rintro e w5 ⟨rfl, hx5⟩
            have Y5 := Lib.hid hx5
            have hk5 := (hx5.cell (p := ⟨b, off + k * 7, none⟩) (Nat.lt_of_lt_of_le hbb K1.out.size)).trans d0
            clear hx5
            refine hK.out _ _ ⟨⟨_, Y5.out⟩, rfl⟩ (fun _ => ?_)
            clear hK K
            refine wpAnyH_ready (rs := [24]) (by kernel_rfl) (by simp) ?_
            refine AllReadyH.cons rfl (fun K hK => ?_) AllReadyH.nil
            go_simp
            refine hK.out _ _ ⟨⟨_, Y5.out⟩, rfl⟩ (fun _ => ?_)
            clear hK K
            refine wpAnyH_ready (rs := [25]) (by kernel_rfl) (by simp) ?_
            refine AllReadyH.cons rfl (fun K hK => ?_) AllReadyH.nil
            go_simp
            refine hK.out _ _ ⟨⟨_, Y5.out⟩, rfl⟩ (fun _ => ?_)
            clear hK K
            refine wpAnyH_done (by kernel_rfl) ?_ _
            clear d0 d1 d2 d3 d4 d5 d6
            cases hq : (xk.toList == key.toList)
            all_goals
              have HQ := Lib.hid hq
              go_wp2_with fail
              go_roundw
              case rel =>
                have hkq := HQ.out
                have hkx := HKX.out
                first
                  | (rw [beq_eq_false_iff_ne, Lib.toList_data, Lib.toList_data] at hkq
                     refine ⟨k + 1, by omega, ?_, by go_num, Ext.trans K1.out Y5.out⟩
                     rw [HCS.out, if_neg (by unfold dkey; rw [← hkx]; exact hkq)]; rfl)
                  | (rw [beq_iff_eq, Lib.toList_data, Lib.toList_data] at hkq
                     refine ⟨k + 1, by omega, ?_, by go_num, Ext.trans K1.out Y5.out⟩
                     rw [HCS.out, if_pos (by unfold dkey; rw [← hkx]; exact hkq)]; go_num)
              case measure => simp [intOf]; omega
        · obtain rfl : k = l.length := by omega
          have hall : ds.take l.length = ds := List.take_of_length_le (by have := HLL.out; omega)
          have hcnt := cntD_all (k := key.data.toList) T4.out.rise
          rw [hall]
          have T5 := Lib.hid (T4.out.ext K1.out)
          have OF := Lib.hid (of_calls hb v ds key wr T5.out)
          generalize hC : cntD key.data.toList ds = C at hcnt ⊢
          have HBU := Lib.hid (fun W (hW : Ext wr W) ao cap hr => busyT_calls hb v ds c m [key] ao cap W (T5.out.ext hW) (by simp) hr)
          have HMANY : Hid (∀ W, Ext wr W → Calls Tryz.prog 16 #[.pointer (some ⟨hb, 0, none⟩)] W fun e w' => e = .returned (.int .i64 l.length) ∧ W = w') := Lib.hid (fun W hW => by
            have h := manyT_calls hb v ds W (T5.out.ext hW)
            rw [← HLL.out] at h; exact h)
          have HFREE := Lib.hid (fun W (hW : Ext wr W) ao cap hr => free_calls hb v ds [key] ao cap W (T5.out.ext hW) (by simp) hr)
          have B5 := Lib.hid (B4.out.ext' K1.out)
          clear hall hC HA4 HR4
          go_wp2_with fail
          refine OF.out.mono ?_
          rintro e w5 ⟨x, rfl, hx, hx5⟩
          have X5 := Lib.hid hx5
          have hb5 := B5.out.ext' hx5
          have n0 := hb5.cell 0; have n1 := hb5.cell 1
          simp only [List.getElem?_cons_zero, List.getElem?_cons_succ] at n0 n1
          have hN5 := hb5.lt
          have hN5n : N5 ≠ w5.heap.size := by omega
          clear hx5 hb5 OF
          cases hh : hasD key.data.toList ds
          · have ho : ofD key.data.toList ds = none := by
              have h := ofD_has key.data.toList ds
              rw [hh] at h
              cases hq : ofD key.data.toList ds with
              | none => rfl
              | some d => rw [hq] at h; cases h
            rw [ho] at hx
            obtain rfl : x = HoldV.zero := hx
            have hc1 : ((C : Int) == 1) = false := by rw [hcnt, hh]; rfl
            have hc2 : C ≤ 1 := by rw [hcnt, hh]; decide
            have hbz : busyL (fun k => hasD k ds) (nameD ds) c m (sortL (bytesL [key])) = (0, 0, false) := by rw [busy_one, hh]; rfl
            have hfz : ofKeys [key] ds = [] := by rw [ofKeys_one T5.out.rise, ho]; rfl
            have HBZ := Lib.hid hbz; have HFZ := Lib.hid hfz; have HH := Lib.hid hh
            have hbx : Ext w5 ((w5.alloc (.cells (encHV HoldV.zero).toArray 35)).alloc (.cells #[.string key] 9)) := ((Below.refl _ w5).alloc (Nat.le_refl _) _).alloc (by simp) _
            have hrk := (rows_fresh (enc := encStr) (sz := 1) (fun _ => rfl) [key] (Blk.new (w5.alloc (.cells (encHV HoldV.zero).toArray 35)) [.string key] 9) (fun _ => False) (fun e => e)).rows
            have hsz : (w5.alloc (.cells (encHV HoldV.zero).toArray 35)).heap.size = w5.heap.size + 1 := by simp
            rw [hsz] at hrk
            have HBX := Lib.hid hbx; have HRK := Lib.hid hrk
            clear hcnt hh ho hbz hfz hbx hrk hsz
            simp only [encHV, HoldV.zero] at HBX HRK ⊢
            go_wp2_with fail
            refine (HBU.out _ (Ext.trans X5.out HBX.out) _ _ HRK.out).mono ?_
            rintro e w6 ⟨⟨r, hr, rfl⟩, hx6⟩
            rw [HBZ.out] at hr
            subst hr
            have X6 := Lib.hid (Ext.trans X5.out (Ext.trans HBX.out (Ext.trans hx6 ((Below.refl _ w6).alloc (Nat.le_refl _) (.cells #[.int .i64 0, .int .i64 0] 24)))))
            clear hx6
            go_wp2_with fail
            refine (HMANY.out _ X6.out).mono ?_
            rintro e w7 ⟨rfl, rfl⟩
            have hx7 : Ext wr ((w6.alloc (.cells #[.int .i64 0, .int .i64 0] 24)).alloc (.cells #[.string key] 9)) := Ext.trans X6.out ((Below.refl _ _).alloc (Nat.le_refl _) _)
            have hs6 := X6.out.size
            have hrk := rows_fresh (enc := encStr) (sz := 1) (fun _ => rfl) [key] (Blk.new (w6.alloc (.cells #[.int .i64 0, .int .i64 0] 24)) [.string key] 9) (fun j => j = hb ∨ v.ownBlock = some j) (fun e => e.elim (fun e => by have := T5.out.blk.lt; omega) (fun e => by have := T5.out.lt e; omega))
            have hsz : (w6.alloc (.cells #[.int .i64 0, .int .i64 0] 24)).heap.size = w6.heap.size + 1 := by simp
            rw [hsz] at hrk
            have HX7 := Lib.hid hx7; have HRK2 := Lib.hid hrk
            clear hx7 hs6 hrk hsz
            go_wp2_with fail
            refine (HFREE.out _ HX7.out _ _ HRK2.out).mono ?_
            rintro e w8 ⟨r, l2, v2, rfl, g1, g2, -, -, -, -, g8⟩
            rw [HFZ.out] at g1
            obtain ⟨ro2, rc2, rfl, -, -, -⟩ := Rows.own (enc := encHV) (sz := 7) (fun _ => rfl) g2
            rw [g1]
            have G8 := Lib.hid g8
            clear g1 g2 g8
            go_wp2_with fail
            go_ret
            refine ⟨ret_bool (by simp), ?_⟩
            have h1 := Ext.trans X4.out (Ext.trans K1.out HX7.out)
            exact ((h1.but (fun _ => False)).trans G8.out (U := fun j => w.heap.size ≤ j) (fun _ _ e => e.elim) (fun i _ e => e.elim (fun e => by rw [e]; exact HHB.out) (HVV.out i))).ext (fun i hi e => by omega)
          · obtain ⟨d, ho⟩ : ∃ d, ofD key.data.toList ds = some d := by
              have h := ofD_has key.data.toList ds
              rw [hh] at h
              exact Option.isSome_iff_exists.1 h
            rw [ho] at hx
            have hx : x.is w5 (fun b => b < wr.heap.size) d := hx
            have hdm : d ∈ ds := List.mem_of_find?_eq_some ho
            have hdk : dkey d = key.data.toList := by have := List.find?_some ho; simpa using this
            obtain ⟨hdok, hdr⟩ := T5.out.ok d hdm
            have hc1 : ((C : Int) == 1) = true := by rw [hcnt, hh]; rfl
            have hc2 : C ≤ 1 := by rw [hcnt, hh]; decide
            have hof : ofKeys [key] ds = [d] := by rw [ofKeys_one T5.out.rise, ho]; rfl
            have hnl : (notKeys [key] ds).length + 1 = ds.length := by have := notKeys_len [key] ds; rw [hof] at this; simp at this; omega
            have hpe : putE [otherD d] (notKeys [key] ds) = 0 := putE_ok (otherD_right hdr) (by show hasD (dkey d) _ = false; rw [hdk]; exact notKeys_has key ds) (by have := T5.out.few; omega)
            have hnm := name_bd hdr
            have hbu : busyL (fun k => hasD k ds) (nameD ds) c m (sortL (bytesL [key])) = if (!(x.cl == c && x.nm == m)) = true then (x.cl, x.nm, true) else (0, 0, false) := by
              have hn : nameD ds key.data.toList = (x.cl, x.nm) := by unfold nameD; rw [ho]; show (d.cl, d.nm) = _; rw [hx.cl, hx.nm]
              rw [busy_one, hh, hn]; rfl
            have hlen2 : (putT [otherD d] (notKeys [key] ds)).length = l.length := by
              unfold putT; rw [if_pos hpe, insAll_len, HLL.out]; simp; omega
            have hcl0 : 0 ≤ x.cl := by rw [hx.cl]; omega
            have hcl8 : x.cl ≤ 8 := by rw [hx.cl]; omega
            have HXD := Lib.hid hx; have HDOK := Lib.hid hdok; have HDR := Lib.hid hdr; have HOF := Lib.hid hof; have HPE := Lib.hid hpe; have HL2 := Lib.hid hlen2; have HH := Lib.hid hh
            have hok2 : (otherD d).ok := ⟨hdok.acts, hdok.an, hdok.rn, hdok.ks, hdok.vs, hdok.rs⟩
            have HOK2 := Lib.hid hok2
            clear hx hdm hdk hdok hdr hof hnl hpe hnm hlen2 hok2 hcnt hh ho
            obtain ⟨xk, xcl, xnm, xo, xn, xc, yo, yn, yc, put, value⟩ := x
            simp only at hbu hcl0 hcl8
            have HBU2 := Lib.hid hbu
            have HB11 : Hid (Blk (w5.alloc (.cells #[.string xk, .int .i64 xcl, .int .i64 xnm, .slice xo xn xc, .slice yo yn yc, .bool put, .string value] 35)) w5.heap.size [.string xk, .int .i64 xcl, .int .i64 xnm, .slice xo xn xc, .slice yo yn yc, .bool put, .string value] 35) := Lib.hid (Blk.new w5 _ _)
            have HBX : Hid (Ext w5 ((w5.alloc (.cells #[.string xk, .int .i64 xcl, .int .i64 xnm, .slice xo xn xc, .slice yo yn yc, .bool put, .string value] 35)).alloc (.cells #[.string key] 9))) := Lib.hid (((Below.refl _ w5).alloc (Nat.le_refl _) _).alloc (by simp) _)
            have HBX2 : Hid (Ext (w5.alloc (.cells #[.string xk, .int .i64 xcl, .int .i64 xnm, .slice xo xn xc, .slice yo yn yc, .bool put, .string value] 35)) ((w5.alloc (.cells #[.string xk, .int .i64 xcl, .int .i64 xnm, .slice xo xn xc, .slice yo yn yc, .bool put, .string value] 35)).alloc (.cells #[.string key] 9))) := Lib.hid ((Below.refl _ _).alloc (Nat.le_refl _) _)
            have hrk := (rows_fresh (enc := encStr) (sz := 1) (fun _ => rfl) [key] (Blk.new (w5.alloc (.cells #[.string xk, .int .i64 xcl, .int .i64 xnm, .slice xo xn xc, .slice yo yn yc, .bool put, .string value] 35)) [.string key] 9) (fun _ => False) (fun e => e)).rows
            have hsz : (w5.alloc (.cells #[.string xk, .int .i64 xcl, .int .i64 xnm, .slice xo xn xc, .slice yo yn yc, .bool put, .string value] 35)).heap.size = w5.heap.size + 1 := by simp
            rw [hsz] at hrk
            have HRK := Lib.hid hrk
            clear hbu hrk hsz
            simp only [encHV]
            go_wp2_with fail
            refine (HBU.out _ (Ext.trans X5.out HBX.out) _ _ HRK.out).mono ?_
            rintro e w6 ⟨⟨r, hr, rfl⟩, hx6⟩
            rw [HBU2.out] at hr
            have hb11 := HB11.out.ext' (Ext.trans HBX2.out hx6)
            have hb5 := B5.out.ext' (Ext.trans X5.out (Ext.trans HBX.out hx6))
            have n0 := hb5.cell 0; have n1 := hb5.cell 1
            have p0 := hb11.cell 0; have p1 := hb11.cell 1; have p2 := hb11.cell 2; have p3 := hb11.cell 3; have p4 := hb11.cell 4; have p5 := hb11.cell 5; have p6 := hb11.cell 6
            simp only [List.getElem?_cons_zero, List.getElem?_cons_succ] at n0 n1 p0 p1 p2 p3 p4 p5 p6
            have hN5 := hb5.lt
            have hN5n : N5 ≠ w6.heap.size := by omega
            have hN11 := hb11.lt
            have hN11n : w5.heap.size ≠ w6.heap.size := by omega
            have X6 := Lib.hid (Ext.trans X5.out (Ext.trans HBX.out hx6)); have B11 := Lib.hid hb11
            have X56 := Lib.hid (Ext.trans HBX.out hx6)
            have XI := Lib.hid (HXD.out.ext (Ext.trans HBX.out hx6))
            clear hx6 hb11 hb5 HBU HBX HBX2 HRK HB11
            have hfin : ∀ (q1 q2 : Int), Ext w6 (w6.alloc (.cells #[.int .i64 q1, .int .i64 q2] 24)) := fun q1 q2 => (Below.refl _ w6).alloc (Nat.le_refl _) _
            have HFI := Lib.hid hfin; clear hfin
            cases hq1 : (xcl == c) <;> cases hq2 : (xnm == m)
            all_goals
              rw [hq1, hq2] at hr
              simp only [Bool.and_self, Bool.and_false, Bool.and_true, Bool.not_true, Bool.not_false, if_true, Bool.false_eq_true, if_false] at hr
              subst hr
              go_wp2_with fail
              refine (HMANY.out _ (Ext.trans X6.out (HFI.out _ _))).mono ?_
              rintro e w7 ⟨rfl, hw7⟩
              have h7 : Ext w6 w7 := by rw [← hw7]; exact HFI.out _ _
              have b7 : Blk w7 w5.heap.size [.string xk, .int .i64 xcl, .int .i64 xnm, .slice xo xn xc, .slice yo yn yc, .bool put, .string value] 35 := by rw [← hw7]; exact B11.out.alloc _
              clear hw7 p0 p1 p2 p3 p4 p5 p6 n0 n1
              have p0 := b7.cell 0; have p1 := b7.cell 1; have p2 := b7.cell 2; have p3 := b7.cell 3; have p4 := b7.cell 4; have p5 := b7.cell 5; have p6 := b7.cell 6
              simp only [List.getElem?_cons_zero, List.getElem?_cons_succ] at p0 p1 p2 p3 p4 p5 p6
              have hN7 := b7.lt
              have hN7n : w5.heap.size ≠ w7.heap.size := by omega
              have hx9 : Ext w7 ((w7.alloc (.cells #[.string xk, .int .i64 (1 + xcl % 8), .int .i64 1, .slice xo xn xc, .slice yo yn yc, .bool put, .string value] 35)).alloc (.cells #[.string key] 9)) := ((Below.refl _ w7).alloc (Nat.le_refl _) _).alloc (by simp) _
              have hsz8 : (w7.alloc (.cells #[.string xk, .int .i64 (1 + xcl % 8), .int .i64 1, .slice xo xn xc, .slice yo yn yc, .bool put, .string value] 35)).heap.size = w7.heap.size + 1 := by simp
              have hs7 := (Ext.trans X6.out h7).size
              have hhl := T5.out.blk.lt
              have hrk := rows_fresh (enc := encStr) (sz := 1) (fun _ => rfl) [key] (Blk.new (w7.alloc (.cells #[.string xk, .int .i64 (1 + xcl % 8), .int .i64 1, .slice xo xn xc, .slice yo yn yc, .bool put, .string value] 35)) [.string key] 9) (fun j => j = hb ∨ v.ownBlock = some j) (fun e => e.elim (fun e => by omega) (fun e => by have := T5.out.lt e; omega))
              rw [hsz8] at hrk
              have b15 : Blk ((w7.alloc (.cells #[.string xk, .int .i64 (1 + xcl % 8), .int .i64 1, .slice xo xn xc, .slice yo yn yc, .bool put, .string value] 35)).alloc (.cells #[.string key] 9)) w7.heap.size [.string xk, .int .i64 (1 + xcl % 8), .int .i64 1, .slice xo xn xc, .slice yo yn yc, .bool put, .string value] 35 := (Blk.new w7 _ _).alloc _
              have hs9 : ((w7.alloc (.cells #[.string xk, .int .i64 (1 + xcl % 8), .int .i64 1, .slice xo xn xc, .slice yo yn yc, .bool put, .string value] 35)).alloc (.cells #[.string key] 9)).heap.size = w7.heap.size + 2 := by simp
              have X9 := Lib.hid (Ext.trans X6.out (Ext.trans h7 hx9)); have RK9 := Lib.hid hrk; have B15 := Lib.hid b15; have B7 := Lib.hid (b7.ext' hx9); have X59 := Lib.hid (Ext.trans h7 hx9); have HS9 := Lib.hid hs9
              clear hx9 hrk hsz8 b15 b7 h7 hs9
              go_wp2_with fail
              refine (HFREE.out _ X9.out _ _ RK9.out).mono ?_
              rintro e w8 ⟨r2, l2, v2, rfl, g1, g2, g3, g4, g5, g6, g7⟩
              rw [HOF.out] at g1 g4
              obtain ⟨x2, rfl⟩ := List.length_eq_one_iff.1 g1
              obtain ⟨ro2, rc2, rfl, -, -, hrow2⟩ := Rows.own (enc := encHV) (sz := 7) (fun _ => rfl) g2
              obtain ⟨fb, fo, rfl, hfb, hfc⟩ := hrow2 (by simp)
              have hf := hfc 0 x2 rfl
              have hfn := g3 fb rfl
              rw [HS9.out] at hfn
              have hvl : ∀ j, v2.ownBlock = some j → j < wr.heap.size := fun j e => T5.out.lt (g6 j e)
              have hS : ∀ j, (j = hb ∨ v2.ownBlock = some j) → j < wr.heap.size := fun j e => e.elim (fun e => e ▸ hhl) (hvl j)
              have hS0 : ∀ j, (j = hb ∨ v.ownBlock = some j) → j < wr.heap.size := fun j e => e.elim (fun e => e ▸ hhl) (fun e => T5.out.lt e)
              have hw5 := X5.out.size
              have b15 := B15.out.but g7 (fun e => by have := hS0 _ e; omega)
              have b7 := B7.out.but g7 (fun e => by have := hS0 _ e; omega)
              have nS1 : ¬ (fb = hb ∨ v2.ownBlock = some fb) := fun e => by have := hS _ e; omega
              have nS2 : ¬ (w5.heap.size = hb ∨ v2.ownBlock = some w5.heap.size) := fun e => by have := hS _ e; omega
              have nS3 : ¬ (w7.heap.size = hb ∨ v2.ownBlock = some w7.heap.size) := fun e => by have := hS _ e; omega
              have hx8 : (⟨xk, xcl, xnm, xo, xn, xc, yo, yn, yc, put, value⟩ : HoldV).is w8 (fun b => b < wr.heap.size) d := (XI.out.ext X59.out).but g7 (fun b _ e => hS0 b e)
              have HSAME : Hid (∀ W, But (fun j => j = hb ∨ v2.ownBlock = some j) w8 W → Calls Tryz.prog 18 #[.agg (encHV x2).toArray, .agg #[.string xk, .int .i64 xcl, .int .i64 xnm, .slice xo xn xc, .slice yo yn yc, .bool put, .string value]] W fun e w' => e = .returned (.bool true) ∧ Ext W w') := Lib.hid (fun W hW => by
                have h := sameHold_calls x2 ⟨xk, xcl, xnm, xo, xn, xc, yo, yn, yc, put, value⟩ d _ _ W (g4.1.but hW (fun b _ e => .inr (by have := hS b e; have := X9.out.size; omega))) (hx8.but hW (fun b _ e => hS b e)) HDOK.out.an HDOK.out.rn
                exact h)
              have hxo : ∀ W, But (fun j => j = hb ∨ v2.ownBlock = some j) w8 W → (⟨xk, 1 + xcl % 8, 1, xo, xn, xc, yo, yn, yc, put, value⟩ : HoldV).is W (fun b => b = hb ∨ v2.ownBlock = some b) (otherD d) := fun W hW => by
                have h := (hx8.but hW (fun b _ e => hS b e)).mono (no' := fun b => b = hb ∨ v2.ownBlock = some b) (fun b _ e => hS b e)
                exact ⟨h.key, by show 1 + xcl % 8 = 1 + d.cl % 8; rw [show xcl = d.cl from h.cl], rfl, h.an, h.rn, h.put, h.value, h.acts, h.reads⟩
              have HPUT : Hid (∀ W, Ext w8 W → Calls Tryz.prog 13 #[.pointer (some ⟨hb, 0, none⟩), .slice (some ⟨W.heap.size, 0, none⟩) 1 1] (W.alloc (.cells #[.string xk, .int .i64 (1 + xcl % 8), .int .i64 1, .slice xo xn xc, .slice yo yn yc, .bool put, .string value] 35)) fun e w' => e = .returned (.int .i64 0) ∧ (∃ v3, Tab w' hb v3 (putT [otherD d] (notKeys [key] ds))) ∧ But (fun j => j = hb ∨ v2.ownBlock = some j) w8 w') := Lib.hid (fun W hW => by
                refine (put1_calls hb v2 (notKeys [key] ds) ⟨xk, 1 + xcl % 8, 1, xo, xn, xc, yo, yn, yc, put, value⟩ (otherD d) W (g5.ext hW) (hxo W (hW.but _)) HOK2.out).mono ?_
                rintro e w' ⟨h1, ⟨v3, h2, _⟩, h3, _⟩
                refine ⟨by rw [h1, HPE.out], ⟨v3, h2⟩, ((Ext.trans hW ((Below.refl _ W).alloc (Nat.le_refl _) _)).but (fun _ => False)).trans h3 (fun _ _ e => e.elim) (fun _ _ e => e)⟩)
              have G7 := Lib.hid g7; have G6 := Lib.hid g6
              obtain ⟨k2, cl2, nm2, zo, zn, zc, uo, un, uc, pt2, vl2⟩ := x2
              simp only [encHV] at HSAME
              have f0 := hf 0 _ rfl; have f1 := hf 1 _ rfl; have f2 := hf 2 _ rfl; have f3 := hf 3 _ rfl; have f4 := hf 4 _ rfl; have f5 := hf 5 _ rfl; have f6 := hf 6 _ rfl
              simp only [Nat.zero_mul, Nat.add_zero] at f0 f1 f2 f3 f4 f5 f6
              have y0 := b7.cell 0; have y1 := b7.cell 1; have y2 := b7.cell 2; have y3 := b7.cell 3; have y4 := b7.cell 4; have y5 := b7.cell 5; have y6 := b7.cell 6
              have z0 := b15.cell 0; have z1 := b15.cell 1; have z2 := b15.cell 2; have z3 := b15.cell 3; have z4 := b15.cell 4; have z5 := b15.cell 5; have z6 := b15.cell 6
              simp only [List.getElem?_cons_zero, List.getElem?_cons_succ] at y0 y1 y2 y3 y4 y5 y6 z0 z1 z2 z3 z4 z5 z6
              clear p0 p1 p2 p3 p4 p5 p6
              have BC : ∀ {b i : Nat} {u : Value}, w8.cell? ⟨b, i, none⟩ = some u → ¬ (b = hb ∨ v2.ownBlock = some b) → ∀ p : ButBy (fun j => j = hb ∨ v2.ownBlock = some j) w8, p.W.cell? ⟨b, i, none⟩ = some u := fun h k => ButBy.cell (S := fun j => j = hb ∨ v2.ownBlock = some j) h k
              have f0 := BC f0 nS1; have f1 := BC f1 nS1; have f2 := BC f2 nS1; have f3 := BC f3 nS1; have f4 := BC f4 nS1; have f5 := BC f5 nS1; have f6 := BC f6 nS1
              have y0 := BC y0 nS2; have y1 := BC y1 nS2; have y2 := BC y2 nS2; have y3 := BC y3 nS2; have y4 := BC y4 nS2; have y5 := BC y5 nS2; have y6 := BC y6 nS2
              have z0 := BC z0 nS3; have z1 := BC z1 nS3; have z2 := BC z2 nS3; have z3 := BC z3 nS3; have z4 := BC z4 nS3; have z5 := BC z5 nS3; have z6 := BC z6 nS3
              clear BC g1 g2 g3 g4 g5 g6 g7 hrow2 hfc hf hvl hS hS0 b15 b7 nS1 nS2 nS3 hx8 hxo hfn hfb
              go_wp2_with fail
              refine wp_region_firstS (fun w' => ∃ p : ButBy (fun j => j = hb ∨ v2.ownBlock = some j) w8, w' = p.W) [0, 1, 2, 3, 4, 5, 6, 7] 17 (by kernel_rfl) (by kernel_rfl) (fun _ _ _ _ h => h) ⟨⟨_, (But.refl _ w8).drew⟩, rfl⟩ ?_
              simp only [opsAt, List.getElem?_toArray, List.getElem?_cons_succ, List.getElem?_cons_zero]
              repeat (go_big_quiet_step (fail))
              refine wpQuiet_nil ?_
              refine wpAnyH_ready (rs := [8]) (by kernel_rfl) (by simp) ?_
              refine AllReadyH.cons rfl (fun K hK => ?_) AllReadyH.nil
              go_simp
              refine (HSAME.out _ ((But.refl _ w8).drew)).mono ?_
              rintro e w9 ⟨rfl, hx9⟩
              have X9b := Lib.hid (Ext.trans ((Below.refl _ w8).drew) hx9)
              clear hx9
              refine hK.out _ _ ⟨⟨_, X9b.out.but _⟩, rfl⟩ (fun _ => ?_)
              clear hK K
              refine wp_takes (f := 12) [9, 10, 11, 12] (by kernel_rfl) (fun _ _ _ _ h => h) ⟨⟨_, X9b.out.but _⟩, rfl⟩ ?_
              simp only [opsAt, List.getElem?_toArray, List.getElem?_cons_succ, List.getElem?_cons_zero]
              repeat (go_big_quiet_step (fail))
              refine wpQuiet_nil ?_
              refine wpAnyH_ready (rs := [13]) (by kernel_rfl) (by simp) ?_
              refine AllReadyH.cons rfl (fun K hK => ?_) AllReadyH.nil
              go_simp
              refine hK.out _ _ ⟨⟨_, (Ext.trans X9b.out ((Below.refl _ w9).alloc (Nat.le_refl _) _)).but _⟩, rfl⟩ (fun _ => ?_)
              clear hK K
              refine wpAnyH_ready (rs := [14]) (by kernel_rfl) (by simp) ?_
              refine AllReadyH.cons rfl (fun K hK => ?_) AllReadyH.nil
              go_simp
              refine (HPUT.out w9 X9b.out).mono ?_
              rintro e w10 ⟨rfl, hT10, hB10⟩
              have T10 := Lib.hid hT10; have B10 := Lib.hid hB10
              clear hT10 hB10
              refine hK.out _ _ ⟨⟨_, B10.out⟩, rfl⟩ (fun _ => ?_)
              clear hK K
              refine wp_takes (f := 4) [15, 16, 17, 18, 20, 21] (by kernel_rfl) (fun _ _ _ _ h => h) ⟨⟨_, B10.out⟩, rfl⟩ ?_
              simp only [opsAt, List.getElem?_toArray, List.getElem?_cons_succ, List.getElem?_cons_zero]
              repeat (go_big_quiet_step (fail))
              refine wpQuiet_nil ?_
              refine wpAnyH_ready (rs := [19]) (by kernel_rfl) (by simp) ?_
              refine AllReadyH.cons rfl (fun K hK => ?_) AllReadyH.nil
              go_simp
              obtain ⟨v3, hT3⟩ := T10.out
              refine (manyT_calls hb v3 _ w10 hT3).mono ?_
              rw [HL2.out]
              rintro e w11 ⟨rfl, rfl⟩
              clear hT3
              refine hK.out _ _ ⟨⟨_, B10.out⟩, rfl⟩ (fun _ => ?_)
              clear hK K
              refine wp_takes (f := 0) [22, 23, 24] (by kernel_rfl) (fun _ _ _ _ h => h) ⟨⟨_, B10.out⟩, rfl⟩ ?_
              simp only [opsAt, List.getElem?_toArray, List.getElem?_cons_succ, List.getElem?_cons_zero]
              repeat (go_big_quiet_step (fail))
              refine wpQuiet_nil ?_
              refine wpAnyH_done (by kernel_rfl) ?_ _
              go_wp2_with fail
              go_ret
              refine ⟨ret_bool (by simp), ?_⟩
              have h1 := Ext.trans X4.out (Ext.trans K1.out X9.out)
              have h2 := (h1.but (fun _ => False)).trans G7.out (U := fun j => w.heap.size ≤ j) (fun _ _ e => e.elim) (fun i _ e => e.elim (fun e => by rw [e]; exact HHB.out) (HVV.out i))
              exact (h2.trans B10.out (U := fun j => w.heap.size ≤ j) (fun _ _ e => e) (fun i _ e => e.elim (fun e => by rw [e]; exact HHB.out) (fun e => HVV.out i (G6.out i e)))).ext (fun i hi e => by omega)
end Go.Proofs.YtdmejbjpbjcfbaaGreatDoor
