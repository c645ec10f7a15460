/- WitnessOrders: the walk. -/
import Derived.Test.YtngahblgicjoiaaGreatDoorLawSt
namespace Go.Proofs.YtngahblgicjoiaaGreatDoor
open Go.RowKit

theorem order_in {ds : List StepD} {r : Option (List StepD)} (h : orderD ds = r) : ∀ d ∈ r.getD [], d ∈ ds := by
  intro d hd
  cases r with
  | none => cases hd
  | some a =>
    unfold orderD at h
    split at h
    · cases h
    · exact ((order_fits h).1.mem_iff).1 hd
set_option maxRecDepth 100000 in
set_option maxHeartbeats 1600000 in
theorem ordersW_calls (l : List StepZ) (ao : Option Addr) (cap : Nat) (w : World) (hl : l.length ≤ 9223372036854775807) (hs : StepsAt w ao l) (hsm : ∀ z ∈ l, z.d.small) (hlv : LV w.heap.size w) :
    Calls Tryz.prog 3 #[.slice ao l.length cap] w fun e w' => e = .returned (.bool true) ∧ Ext w w' := by
  have HS := Lib.hid hs; have HM := Lib.hid hsm; have HLV := Lib.hid hlv
  have AW := Lib.hid (fun W (hW : Ext w W) => awake_calls W ((HLV.out.below hW).up hW.size))
  clear hs hsm hlv
  go_enter Tryz.func3, Tryz.ntmps3
  go_wp2_with fail
  refine (great_calls l ao cap w hl HS.out HM.out).mono ?_
  rintro e w1 ⟨rfl, hx1⟩
  have X1 := Lib.hid hx1
  clear hx1
  cases hgr : greatD (l.map (·.d))
  case true =>
    clear hgr
    go_wp2_with fail
    refine (AW.out _ X1.out).mono ?_
    rintro e w2 ⟨rfl, hx2⟩
    have X2 := Lib.hid (Ext.trans X1.out hx2)
    clear hx2
    go_wp2_with fail
    go_ret
    exact ⟨rfl, X2.out⟩
  case false =>
    have hfew := great_few hgr
    have hlen : l.length ≤ 120 := by have := hfew.1; simpa using this
    have OK : Hid (∀ z ∈ l, z.d.ok) := Lib.hid (fun z hz => (HM.out z hz).ok (by have := (hfew.2 z.d (List.mem_map.2 ⟨z, hz, rfl⟩)).1; omega) (by have := (hfew.2 z.d (List.mem_map.2 ⟨z, hz, rfl⟩)).2; omega))
    clear hgr hfew
    have key : (5 < l.length ∧ l.length ≤ 8) ∨ ¬ 5 < l.length ∨ (5 < l.length ∧ ¬ l.length ≤ 8) := by omega
    rcases key with ⟨h1, h2⟩ | h1 | ⟨h1, h2⟩
    · have g1 : decide ((5 : Int) < (l.length : Int)) = true := by simp; omega
      have g2 : decide ((l.length : Int) ≤ (8 : Int)) = true := by simp; omega
      go_wp2_with fail
      refine (AW.out _ X1.out).mono ?_
      rintro e w2 ⟨rfl, hx2⟩
      have X2 := Lib.hid (Ext.trans X1.out hx2)
      clear hx2
      go_wp2_with fail
      go_ret
      exact ⟨rfl, X2.out⟩
    case' inr.inl => have g1 : decide ((5 : Int) < (l.length : Int)) = false := by simp; omega
    case' inr.inr =>
      have g1 : decide ((5 : Int) < (l.length : Int)) = true := by simp; omega
      have g2 : decide ((l.length : Int) ≤ (8 : Int)) = false := by simp; omega
    all_goals
      go_wp2_with fail
      refine (orderP_calls l ao cap w1 (by omega) (HS.out.ext X1.out) OK.out ((HLV.out.below X1.out).up X1.out.size)).mono ?_
      rintro e w2 ⟨v1, l1, rfl, hl1, hown1, -, hmine1, hx2⟩
      obtain ⟨o1, c1, rfl, -, -, hrr1⟩ := Rows.own (enc := encStep) (sz := 6) (fun _ => rfl) hown1
      have M1 := Lib.hid hl1; have R1 : Hid (StepsAt w2 o1 l1) := Lib.hid ⟨hrr1, fun z hz => (hmine1 z hz).at⟩; have X2 := Lib.hid (Ext.trans X1.out hx2)
      clear hl1 hown1 hmine1 hrr1 hx2 X1
      go_wp2_with fail
      refine (turned_calls l ao cap w2 (by omega) (HS.out.ext X2.out)).mono ?_
      rintro e w3 ⟨so, sc, rfl, hsc, hst, hx3⟩
      have T3 := Lib.hid hst; have X3 := Lib.hid (Ext.trans X2.out hx3); have R3 := Lib.hid (R1.out.ext hx3)
      clear hst hx3
      go_wp2_with fail
      refine (refOrder_calls l so sc w3 hsc T3.out OK.out).mono ?_
      rintro e w4 ⟨bo, bc, l2, rfl, hl2, hst2, hx4⟩
      have X4 := Lib.hid (Ext.trans X3.out hx4); have R4 := Lib.hid (R3.out.ext hx4); have Q4 := Lib.hid hst2
      have hlen1 : l1.length ≤ 1000 := by
        have h1 := congrArg List.length M1.out
        rw [List.length_map] at h1
        rw [h1]
        cases ho : orderD (l.map (·.d)) with
        | none => simp
        | some a =>
          unfold orderD at ho
          split at ho
          · cases ho
          · have := (order_fits ho).1.length_eq
            rw [List.length_map] at this
            show a.length ≤ 1000
            omega
      have OK1 : Hid (∀ z ∈ l1, z.d.ok) := Lib.hid (fun z hz => by
        have h1 : z.d ∈ l1.map (·.d) := List.mem_map.2 ⟨z, hz, rfl⟩
        rw [M1.out] at h1
        obtain ⟨y, hy, he⟩ := List.mem_map.1 (order_in rfl _ h1)
        rw [← he]; exact OK.out y hy)
      have SC := Lib.hid (same_calls l1 l2 o1 bo c1 bc w4 hlen1 R4.out Q4.out OK1.out (M1.out.trans hl2.symm))
      clear hl2 hst2 hx4 hsc hlen1
      obtain ⟨B, hB⟩ : ∃ B, (orderD (l.map (·.d))).isSome = B := ⟨_, rfl⟩
      rw [hB]
      clear hB M1
      cases B
      all_goals
        go_wp2_with fail
        refine SC.out.mono ?_
        rintro e w5 ⟨rfl, hx5⟩
        have X5 := Lib.hid (Ext.trans X4.out hx5)
        clear hx5
        go_wp2_with fail
        refine (AW.out _ X5.out).mono ?_
        rintro e w6 ⟨rfl, hx6⟩
        have X6 := Lib.hid (Ext.trans X5.out hx6)
        clear hx6
        go_wp2_with fail
        go_ret
        exact ⟨rfl, X6.out⟩
end Go.Proofs.YtngahblgicjoiaaGreatDoor
