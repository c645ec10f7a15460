/- The law package's turned, all, same: steps of the program as the document's. -/
import Derived.Test.YtngahblgicjoiaaGreatDoorRefSteps
namespace Go.Proofs.YtngahblgicjoiaaGreatDoor
open Go.RowKit

theorem neq_name (c1 n1 c2 n2 : Int) (w : World) :
    (binOp .neq 34 (.agg #[.int .i64 c1, .int .i64 n1]) (.agg #[.int .i64 c2, .int .i64 n2])).run Tryz.prog w = .ok (.bool (!(c1 == c2 && n1 == n2))) w := by
  have hS : Tryz.prog.underlying 34 = some (.struct (Tryz.prog.fieldsOf 34)) := by kernel_rfl
  have hp : Tryz.prog.stoodInHeld 34 = false := by kernel_rfl
  have u9 := Tryz.underlying3
  rw [run_neq_struct, show (10000 : Nat) = 9999 + 1 from rfl, run_equalIn_agg w 9999 34 _ _ hS hp]
  simp only [Program.fieldsOf, Tryz.underlying34]
  go_simp
  by_cases h1 : c1 = c2 <;> by_cases h3 : n1 = n2 <;> simp [h1, h3]

set_option maxRecDepth 100000 in
set_option maxHeartbeats 1600000 in
theorem turned_calls (l : List StepZ) (ao : Option Addr) (cap : Nat) (w : World) (hl : l.length ≤ 1000) (hs : StepsAt w ao l) :
    Calls Tryz.prog 15 #[.slice ao l.length cap] w fun e w' => ∃ so c, e = .returned (.slice so l.length c) ∧ l.length ≤ c ∧ StepsAt w' so l ∧ Ext w w' := by
  have HS := Lib.hid hs
  clear hs
  go_enter Tryz.func15, Tryz.ntmps15
  go_wp2_with fail
  go_loopw [3, 4] (fun v i wr => ∃ k : Nat, k ≤ l.length ∧ i = .int .i64 k ∧ wr.ownsRow 0 44 6 v (l.take k).length ((l.take k).flatMap encStep) ∧ (∀ j, v.ownBlock = some j → w.heap.size ≤ j) ∧ Ext w wr) (fun _ i _ => l.length - (intOf i).toNat)
  case atStart => exact ⟨0, by omega, rfl, World.ownsRow_nil _ _ _ _, by simp [Value.ownBlock], Below.refl _ _⟩
  case round =>
    obtain ⟨k, hk, rfl, hown, hnew, hx⟩ := hrel
    have K1 := Lib.hid hown; have K2 := Lib.hid hnew; have K3 := Lib.hid hx
    by_cases hlt : k < l.length
    · obtain ⟨z, hz⟩ : ∃ z, l[k]? = some z := ⟨_, List.getElem?_eq_getElem hlt⟩
      obtain ⟨b, off, rfl, hb, hcell⟩ := HS.out.1 (by intro e; rw [e] at hlt; simp at hlt)
      have hbn : ¬ w.heap.size ≤ b := by omega
      have hcx : ∀ (j : Nat) (u : Value), (encStep z)[j]? = some u → ∀ p : ButBy (fun j => w.heap.size ≤ j) wr, p.W.cell? ⟨b, off + k * 6 + j, none⟩ = some u := fun j u hj => ButBy.cell ((hx.cell (p := ⟨b, _, none⟩) hb).trans (hcell k z hz j u hj)) hbn
      obtain ⟨q2, hq2⟩ : ∃ q2, q2 = l.take (k + 1) := ⟨_, rfl⟩
      have hm : l.take k ++ [z] = q2 := by rw [hq2, List.take_add_one, hz]; rfl
      have HM := Lib.hid hm; have HQ2 := Lib.hid hq2
      have hq : (l.take k).length ≤ 999 := by rw [List.length_take]; omega
      obtain ⟨q, hqq⟩ : ∃ q, q = l.take k := ⟨_, rfl⟩
      rw [← hqq] at K1 HM hq
      clear hown hnew hx hz hcell hm hqq hbn hq2
      obtain ⟨⟨cl, nm, acts, reads, ca, an⟩, ao2, ac2, ro2, rc2⟩ := z
      unfold encStep at hcx
      simp only at hcx
      have d0 := hcx 0 _ rfl; have d1 := hcx 1 _ rfl; have d2 := hcx 2 _ rfl; have d3 := hcx 3 _ rfl; have d4 := hcx 4 _ rfl; have d5 := hcx 5 _ rfl
      simp only [Nat.add_zero] at d0
      have i0 : (0 : Int) ≤ (k : Int) := by omega
      have i1 : (k : Int) < (l.length : Int) := by omega
      have XD : Hid (Ext wr wr.drew) := Lib.hid (Below.refl _ wr).drew
      clear hcx
      go_wp2_with fail
      refine wp_region_firstC (fun W => ∃ p : ButBy (fun j => w.heap.size ≤ j) wr, W = p.W) [0, 1, 2, 3, 4, 5, 6, 7, 8, 9, 10, 11, 12, 13, 14, 15, 16, 17, 18, 19, 20, 21, 22, 23, 24, 25, 26] 3 (by kernel_rfl) (by kernel_rfl) (fun _ _ _ _ h => h) ⟨⟨wr.drew, Ext.but XD.out _⟩, rfl⟩ ?_
      simp only [opsAt, List.getElem?_toArray, List.getElem?_cons_succ, List.getElem?_cons_zero]
      repeat (go_big_quiet_step (fail))
      refine wpQuiet_nil ?_
      obtain ⟨wq, hwq⟩ : ∃ wq, wq = wr.drew := ⟨_, rfl⟩
      rw [← hwq] at XD ⊢
      clear hwq d0 d1 d2 d3 d4 d5
      refine wpAnyH_ready (rs := [27]) (by kernel_rfl) (by simp) ?_
      refine AllReadyH.cons rfl (fun K hK => ?_) AllReadyH.nil
      go_simp
      obtain ⟨wa, hN⟩ : ∃ wa, wa = wq.alloc (.cells #[.int .i64 cl, .int .i64 nm, .slice ao2 acts.length ac2, .slice ro2 reads.length rc2, .int .i64 ca, .int .i64 an] 44) := ⟨_, rfl⟩
      have Ywa : Hid (Ext wq wa) := Lib.hid (by rw [hN]; exact (Below.refl _ wq).alloc (Nat.le_refl _) _)
      have Xwa := Lib.hid (Ext.trans XD.out Ywa.out)
      have OB := Lib.hid (Blk.new wq (encStep ⟨⟨cl, nm, acts, reads, ca, an⟩, ao2, ac2, ro2, rc2⟩) 44)
      unfold encStep at OB
      simp only at OB
      rw [← hN] at OB ⊢
      refine hK.out _ _ ⟨⟨_, Ext.but Xwa.out _⟩, rfl⟩ (fun _ => ?_)
      clear hK K hN
      refine wpAnyH_ready (rs := [28]) (by kernel_rfl) (by simp) ?_
      refine AllReadyH.cons rfl (fun K hK => ?_) AllReadyH.nil
      refine step_add_steps rfl (.tmp 11) (.tmp 38) rfl (base := w) (acc := q) (l := [⟨⟨cl, nm, acts, reads, ca, an⟩, ao2, ac2, ro2, rc2⟩]) rfl rfl (own_ext K1.out Xwa.out) K2.out (Ext.trans K3.out Xwa.out) (rows_one OB.out) (by simp; omega) _ HM.out ?_
      intro so c' w1 h1 h2 h3 h4 h5
      have X1 := Lib.hid h1; have X2 := Lib.hid h2; have X3 := Lib.hid h4
      have Y1 := Lib.hid ((Ext.but Xwa.out (fun _ => False)).trans h5 (U := fun j => w.heap.size ≤ j) (fun _ _ e => e.elim) (fun i _ e => K2.out i e))
      go_simp
      refine hK.out _ _ ⟨⟨_, Y1.out⟩, rfl⟩ (fun _ => ?_)
      clear hK K h1 h2 h3 h4 h5
      refine wp_takesC (f := 0) [29] (by kernel_rfl) (fun _ _ _ _ h => h) ⟨⟨_, Y1.out⟩, rfl⟩ ?_
      simp only [opsAt, List.getElem?_toArray, List.getElem?_cons_succ, List.getElem?_cons_zero]
      repeat (go_big_quiet_step (fail))
      refine wpQuiet_nil ?_
      refine wpAnyH_done (by kernel_rfl) ?_ _
      go_wp2_with fail
      go_roundw
      case rel => exact ⟨k + 1, by omega, by go_num, by rw [← HQ2.out]; exact X1.out, X2.out, X3.out⟩
      case measure => simp [intOf]; omega
    · have hall : l.take k = l := List.take_of_length_le (by omega)
      rw [hall] at hown
      obtain ⟨so, c, rfl, hc, -, hrr⟩ := Rows.own (enc := encStep) (sz := 6) (fun _ => rfl) hown
      have RR := Lib.hid hrr; have HC := Lib.hid hc
      clear hall hown hnew hx hrr hc K1 K2
      go_wp2_with fail
      go_ret
      exact ⟨so, c, rfl, HC.out, ⟨RR.out, fun z hz => ((HS.out.2 z hz).ext K3.out).mono K3.out.size⟩, K3.out⟩

set_option maxRecDepth 100000 in
set_option maxHeartbeats 1600000 in
theorem allB_calls (l : List StepZ) (ao : Option Addr) (cap : Nat) (w : World) (hl : l.length ≤ 1000) (hs : StepsAt w ao l) (hd : ∀ z ∈ l, z.d.ok) :
    Calls Tryz.prog 32 #[.slice ao l.length cap] w fun e w' => e = .returned (.bool (l.all fun z => rightS z.d)) ∧ Ext w w' := by
  have HS := Lib.hid hs; have HD := Lib.hid hd
  clear hs hd
  go_enter Tryz.func32, Tryz.ntmps32
  go_wp2_with fail
  go_loopw [3] (fun i wr => ∃ k : Nat, k ≤ l.length ∧ i = .int .i64 k ∧ (∀ (j : Nat) (z : StepZ), j < k → l[j]? = some z → rightS z.d = true) ∧ Ext w wr) (fun i _ => l.length - (intOf i).toNat)
  case atStart => exact ⟨0, by omega, rfl, fun j z h => by omega, Below.refl _ _⟩
  case round =>
    obtain ⟨k, hk, rfl, hal, hx⟩ := hrel
    have K1 := Lib.hid hal; have K3 := Lib.hid hx
    by_cases hlt : k < l.length
    · obtain ⟨z, hz⟩ : ∃ z, l[k]? = some z := ⟨_, List.getElem?_eq_getElem hlt⟩
      have hS := HS.out.ext hx
      have hzm := List.mem_of_getElem? hz
      obtain ⟨b, off, rfl, hb, hcell⟩ := hS.1 (by intro e; rw [e] at hlt; simp at hlt)
      have hcx := hcell k z hz
      have RC := Lib.hid (refStep_calls z wr (hS.2 z hzm) (HD.out z hzm))
      have HZ := Lib.hid hz; have HZM := Lib.hid hzm
      obtain ⟨R, hR⟩ : ∃ R, rightS z.d = R := ⟨_, rfl⟩
      have RR := Lib.hid hR
      rw [hR] at RC
      clear hal hx hz hcell hS hzm hR
      obtain ⟨⟨cl, nm, acts, reads, ca, an⟩, ao2, ac2, ro2, rc2⟩ := z
      unfold encStep at hcx RC
      simp only at hcx RC
      have d0 := hcx 0 _ rfl; have d1 := hcx 1 _ rfl; have d2 := hcx 2 _ rfl; have d3 := hcx 3 _ rfl; have d4 := hcx 4 _ rfl; have d5 := hcx 5 _ rfl
      simp only [Nat.add_zero] at d0
      have i0 : (0 : Int) ≤ (k : Int) := by omega
      have i1 : (k : Int) < (l.length : Int) := by omega
      clear hcx
      go_wp2_with fail
      refine RC.out.mono ?_
      rintro e w1 ⟨rfl, hx1⟩
      have X1 := Lib.hid (Ext.trans K3.out hx1); clear hx1
      cases R
      · go_wp2_with fail
        go_ret
        refine ⟨ret_bool (Eq.symm (List.all_eq_false.2 ⟨_, HZM.out, by rw [RR.out]; simp⟩)), X1.out⟩
      · go_wp2_with fail
        go_roundw
        case rel =>
          refine ⟨k + 1, by omega, by go_num, fun j z hj hz => ?_, X1.out⟩
          rcases Nat.lt_or_ge j k with h | h
          · exact K1.out j z h hz
          · obtain rfl : j = k := by omega
            rw [HZ.out] at hz
            rw [← Option.some.inj hz]; exact RR.out
        case measure => simp [intOf]; omega
    · clear hal hx
      go_wp2_with fail
      go_ret
      refine ⟨ret_bool (Eq.symm (List.all_eq_true.2 fun z hz => ?_)), K3.out⟩
      obtain ⟨j, hj, rfl⟩ := List.mem_iff_getElem.1 hz
      exact K1.out j _ (by omega) (List.getElem?_eq_getElem hj)

set_option maxRecDepth 100000 in
set_option maxHeartbeats 3200000 in
theorem same_calls (l m : List StepZ) (ao bo : Option Addr) (cap cap' : Nat) (w : World) (hl : l.length ≤ 1000) (hs : StepsAt w ao l) (hq : StepsAt w bo m) (hd : ∀ z ∈ l, z.d.ok) (heq : l.map (·.d) = m.map (·.d)) :
    Calls Tryz.prog 16 #[.slice ao l.length cap, .slice bo m.length cap'] w fun e w' => e = .returned (.bool true) ∧ Ext w w' := by
  have HS := Lib.hid hs; have HQ := Lib.hid hq; have HE := Lib.hid heq; have HD := Lib.hid hd
  have hlen : l.length = m.length := by have := congrArg List.length heq; simpa using this
  have HL := Lib.hid hlen
  have g0 : ((l.length : Int) != (m.length : Int)) = false := by simp [hlen]
  clear hs hq heq hlen hd
  go_enter Tryz.func16, Tryz.ntmps16
  go_wp2_with fail
  go_loopw [5] (fun i wr => ∃ k : Nat, k ≤ l.length ∧ i = .int .i64 k ∧ Ext w wr) (fun i _ => l.length - (intOf i).toNat)
  case atStart => exact ⟨0, by omega, rfl, Below.refl _ _⟩
  case round =>
    obtain ⟨k, hk, rfl, hx⟩ := hrel
    have K3 := Lib.hid hx
    by_cases hlt : k < l.length
    · have hlt' : k < m.length := by have := HL.out; omega
      obtain ⟨z, hz⟩ : ∃ z, l[k]? = some z := ⟨_, List.getElem?_eq_getElem hlt⟩
      obtain ⟨y, hy⟩ : ∃ y, m[k]? = some y := ⟨_, List.getElem?_eq_getElem hlt'⟩
      have hzy : z.d = y.d := by
        have h1 : (l.map (·.d))[k]? = some z.d := by rw [List.getElem?_map, hz]; rfl
        have h2 : (m.map (·.d))[k]? = some y.d := by rw [List.getElem?_map, hy]; rfl
        rw [HE.out, h2] at h1
        exact (Option.some.inj h1).symm
      have hzm := List.mem_of_getElem? hz; have hym := List.mem_of_getElem? hy
      have hok := HD.out z hzm
      obtain ⟨b, off, rfl, hb, hcell⟩ := HS.out.1 (by intro e; rw [e] at hlt; simp at hlt)
      obtain ⟨b', off', rfl, hb', hcell'⟩ := HQ.out.1 (by intro e; rw [e] at hlt'; simp at hlt')
      have CZ := Lib.hid (fun W (hW : Ext w W) (j : Nat) (u : Value) (hj : (encStep z)[j]? = some u) => (hW.cell (p := ⟨b, _, none⟩) hb).trans (hcell k z hz j u hj))
      have CY := Lib.hid (fun W (hW : Ext w W) (j : Nat) (u : Value) (hj : (encStep y)[j]? = some u) => (hW.cell (p := ⟨b', _, none⟩) hb').trans (hcell' k y hy j u hj))
      have ZA := Lib.hid (fun W (hW : Ext w W) => ((HS.out.2 z hzm).ext hW).mono hW.size)
      have YA := Lib.hid (fun W (hW : Ext w W) => ((HQ.out.2 y hym).ext hW).mono hW.size)
      have OK1 := Lib.hid hok.an; have OK2 := Lib.hid hok.rn
      clear hz hy hcell hcell' hzm hym hok
      obtain ⟨⟨cl, nm, acts, reads, ca, an⟩, ao2, ac2, ro2, rc2⟩ := z
      obtain ⟨d', ao3, ac3, ro3, rc3⟩ := y
      simp only at hzy
      subst hzy
      unfold encStep at CZ CY
      simp only at CZ CY OK1 OK2
      have hcz := CZ.out _ K3.out; have hcy := CY.out _ K3.out
      have d0 := ExtBy.cell (hcz 0 _ rfl); have d1 := ExtBy.cell (hcz 1 _ rfl); have d2 := ExtBy.cell (hcz 2 _ rfl); have d3 := ExtBy.cell (hcz 3 _ rfl); have d4 := ExtBy.cell (hcz 4 _ rfl); have d5 := ExtBy.cell (hcz 5 _ rfl)
      have e0 := ExtBy.cell (hcy 0 _ rfl); have e1 := ExtBy.cell (hcy 1 _ rfl); have e2 := ExtBy.cell (hcy 2 _ rfl); have e3 := ExtBy.cell (hcy 3 _ rfl); have e4 := ExtBy.cell (hcy 4 _ rfl); have e5 := ExtBy.cell (hcy 5 _ rfl)
      simp only [Nat.add_zero] at d0 e0
      have SA := Lib.hid (fun (p : ExtBy wr) => (sameActs_calls acts acts ao2 ao3 ac2 ac3 p.W OK1.out (ZA.out _ (Ext.trans K3.out p.ext)).1 (YA.out _ (Ext.trans K3.out p.ext)).1).mono (R' := fun e w' => e = .returned (.bool true) ∧ Ext p.W w') (fun e w' ⟨h1, h2⟩ => ⟨by rw [h1]; simp, h2⟩))
      have SR := Lib.hid (fun (p : ExtBy wr) => (sameReads_calls reads reads ro2 ro3 rc2 rc3 p.W OK2.out (ZA.out _ (Ext.trans K3.out p.ext)).2 (YA.out _ (Ext.trans K3.out p.ext)).2).mono (R' := fun e w' => e = .returned (.bool true) ∧ Ext p.W w') (fun e w' ⟨h1, h2⟩ => ⟨by rw [h1]; simp, h2⟩))
      have i0 : (0 : Int) ≤ (k : Int) := by omega
      have i1 : (k : Int) < (l.length : Int) := by omega
      have i2 : (k : Int) < (m.length : Int) := by omega
      have hnn : ∀ W, (binOp .neq 34 (.agg #[.int .i64 cl, .int .i64 nm]) (.agg #[.int .i64 cl, .int .i64 nm])).run Tryz.prog W = .ok (.bool false) W := fun W => by rw [neq_name]; simp
      clear hcz hcy hx
      go_wp2_with fail
      refine wp_region_ext (by kernel_rfl) (by kernel_rfl) ?_
      repeat (go_big_quiet_step (first | (with_reducible exact Calls.ext_of _ (SA.out _)) | (with_reducible exact Calls.ext_of _ (SR.out _))))
      refine wpQuiet_nil ?_
      intro wc hw'
      have XC : Hid (Ext w wc) := Lib.hid (by obtain ⟨p, rfl⟩ := hw'; exact Ext.trans K3.out p.ext)
      clear hw' d0 d1 d2 d3 d4 d5 e0 e1 e2 e3 e4 e5 hnn
      go_wp2_with fail
      go_roundw
      case rel => exact ⟨k + 1, by omega, by go_num, XC.out⟩
      case measure => simp [intOf]; omega
    · clear hx
      go_wp2_with fail
      go_ret
      exact ⟨ret_bool rfl, K3.out⟩
/-- What the document's Order leaves. -/
def ROrdPost (w : World) (r : Option (List StepD)) (e : Ending) (w' : World) : Prop :=
  ∃ (so : Option Addr) (c : Nat) (l' : List StepZ), e = .returned (.tuple #[.slice so l'.length c, .bool r.isSome]) ∧ l'.map (·.d) = r.getD [] ∧ StepsAt w' so l' ∧ Ext w w'
set_option maxRecDepth 100000 in
theorem refOrder_calls (l : List StepZ) (ao : Option Addr) (cap : Nat) (w : World) (hcap : l.length ≤ cap) (hs : StepsAt w ao l) (hd : ∀ z ∈ l, z.d.ok) :
    Calls Tryz.prog 14 #[.slice ao l.length cap] w (ROrdPost w (orderD (l.map (·.d)))) := by
  by_cases h8 : 8 < l.length
  · have g1 : decide ((8 : Int) < (l.length : Int)) = true := by simp; omega
    have ho : orderD (l.map (·.d)) = none := by unfold orderD; rw [if_pos (by simpa using h8)]
    have HO := Lib.hid ho
    clear ho hs hd
    go_enter Tryz.func14, Tryz.ntmps14
    go_wp2_with fail
    go_ret2
    rw [HO.out]
    exact ⟨none, 0, [], rfl, rfl, ⟨fun h => absurd rfl h, fun z hz => by cases hz⟩, Below.refl _ _⟩
  · have g1 : decide ((8 : Int) < (l.length : Int)) = false := by simp; omega
    have OC := orders_calls l.length [] l none ao 0 cap w rfl (by simp; omega) (by simp) hcap ⟨fun h => absurd rfl h, fun z hz => by cases hz⟩ hs (fun z hz => by cases hz) hd
    simp only [List.length_nil] at OC
    have HO := Lib.hid (ordZ_order l (by omega))
    obtain ⟨o, ho⟩ : ∃ o, o = ordZ l.length [] l := ⟨_, rfl⟩
    rw [← ho] at OC HO
    have HOC := Lib.hid OC
    clear ho hs hd OC
    go_enter Tryz.func14, Tryz.ntmps14
    go_wp2_with fail
    refine HOC.out.mono ?_
    rintro e w1 ⟨so, c, rfl, hst, hx⟩
    have ST := Lib.hid hst; have X := Lib.hid hx
    clear hst hx
    go_wp2_with fail
    go_ret2
    rw [← HO.out]
    refine ⟨so, c, o.getD [], by rw [Option.isSome_map]; rfl, ?_, ST.out, X.out⟩
    cases o <;> rfl
end Go.Proofs.YtngahblgicjoiaaGreatDoor
