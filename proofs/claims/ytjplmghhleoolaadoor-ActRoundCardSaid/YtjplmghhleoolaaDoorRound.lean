/- ActRound: the walk. -/
import Derived.Test.YtjplmghhleoolaaDoorAwake
import Derived.Test.YtjplmghhleoolaaDoorLaw14Small
import Derived.Test.YtjplmghhleoolaaDoorKeys
import Derived.Test.YtjplmghhleoolaaDoorOf
import Derived.Test.YtjplmghhleoolaaDoorOlder
import Derived.Test.YtjplmghhleoolaaDoorValues
import Derived.Test.YtjplmghhleoolaaDoorExtRegion
import Derived.Laws.StructEq
namespace Go.Proofs.YtjplmghhleoolaaDoor
open Go.RowKit

theorem neq_name (c1 n1 c2 n2 : Int) (w : World) :
    (binOp .neq 35 (.agg #[.int .i64 c1, .int .i64 n1]) (.agg #[.int .i64 c2, .int .i64 n2])).run Tryd.prog w = .ok (.bool (!(decide (c1 = c2) && decide (n1 = n2)))) w := by
  have hS : Tryd.prog.underlying 35 = some (.struct (Tryd.prog.fieldsOf 35)) := by kernel_rfl
  have hp : Tryd.prog.stoodInHeld 35 = false := by kernel_rfl
  have u3 := Tryd.underlying3
  rw [run_neq_struct, show (10000 : Nat) = 9999 + 1 from rfl, run_equalIn_agg w 9999 35 _ _ hS hp]
  simp only [Program.fieldsOf, Tryd.underlying35]
  go_simp
  by_cases h1 : c1 = c2 <;> by_cases h2 : n1 = n2 <;> simp [h1, h2]

theorem older_law (c1 n1 c2 n2 : Int) : (olderB c1 n1 c2 n2 || olderB c2 n2 c1 n1) = !(decide (c1 = c2) && decide (n1 = n2)) ∧ (olderB c1 n1 c2 n2 && olderB c2 n2 c1 n1) = false := by
  unfold olderB
  constructor
  · rw [Bool.eq_iff_iff]; simp; omega
  · rw [Bool.eq_false_iff]; simp; omega

set_option maxRecDepth 100000 in
set_option maxHeartbeats 1600000 in
theorem round_calls {B : Nat} (hR : RightOne) (n : Int) (l : List ActD) (ao : Option Addr) (cap : Nat) (c1 n1 c2 n2 : Int) (w : World) (hn0 : -9223372036854775808 ≤ n) (hn1 : n ≤ 9223372036854775807) (hok : ∀ a ∈ l, a.ok) (hl : l.length ≤ cap) (hc : cap ≤ 9223372036854775807) (hr : Rows 4 encAct w.heap.size w ao l)
    (hv : LV B w) (hB : B ≤ w.heap.size) :
    Calls Tryd.prog 5 #[.int .i64 n, .slice ao l.length cap, .agg #[.int .i64 c1, .int .i64 n1], .agg #[.int .i64 c2, .int .i64 n2]] w fun e w' => e = .returned (.bool true) ∧ Ext w w' := by
  have HV := Lib.hid hv; have HF := Lib.hid hR; have HR := Lib.hid hr; have H0 := Lib.hid hok; have HB := Lib.hid hB
  clear hv hR hr hok hB
  go_enter Tryd.func5, Tryd.ntmps5
  go_wp2_with fail
  have hx : Ext w ((w.alloc (.cells #[.int .i64 c1, .int .i64 n1] 35)).alloc (.cells #[.int .i64 c2, .int .i64 n2] 35)) := ((Below.refl _ w).alloc (Nat.le_refl _) _).alloc (by simp) _
  have hb1 := (Blk.new w [.int .i64 c1, .int .i64 n1] 35).alloc (.cells #[.int .i64 c2, .int .i64 n2] 35)
  have hb2 := Blk.new (w.alloc (.cells #[.int .i64 c1, .int .i64 n1] 35)) [.int .i64 c2, .int .i64 n2] 35
  rw [show (w.alloc (.cells #[.int .i64 c1, .int .i64 n1] 35)).heap.size = w.heap.size + 1 from by simp] at hb2
  generalize (w.alloc _).alloc _ = W0 at *
  generalize w.heap.size = N at hb1 hb2 ⊢
  have X0 := Lib.hid hx; have C1 := Lib.hid hb1; have C2 := Lib.hid hb2
  clear hx hb1 hb2
  refine (awake_calls HF.out W0 (HV.out.ext X0.out) (Nat.le_trans HB.out X0.out.size)).mono ?_
  rintro e w1 ⟨rfl, hx⟩; have X1 := Lib.hid (Ext.trans X0.out hx); have Y1 := Lib.hid hx; clear hx
  go_wp2_with fail
  refine (great_calls l [] ao none cap 0 w1 H0.out (by omega) (by simp) ((HR.out.ext X1.out).mono X1.out.size) (Rows.nil _ _ _ _ _)).mono ?_
  rintro e w2 ⟨rfl, hx⟩; have X2 := Lib.hid (Ext.trans X1.out hx); have Y2 := Lib.hid (Ext.trans Y1.out hx); clear hx
  cases hg : greatB l []
  · have hng := not_great hg
    have h40 := hng.1
    have HG := Lib.hid hg; clear hg hng
    have HRest : Hid (∀ w3, Ext W0 w3 → Ext w w3 → True) := Lib.hid fun _ _ _ => trivial
    rcases (show (-1073741824 ≤ n ∧ n ≤ 1073741824) ∨ n < -1073741824 ∨ (-1073741824 ≤ n ∧ 1073741824 < n) from by omega) with ⟨g0, g1⟩ | g0 | ⟨g0, g1⟩
    · have hnv := number_value n g0 g1
      have hvl := valueL_le n
      have NV := Lib.hid hnv; have VL := Lib.hid hvl; clear hnv hvl
      have e0 : decide (-1073741824 ≤ n) = true := by simp; omega
      have e1 : decide (n ≤ 1073741824) = true := by simp; omega
      go_wp2_with fail
      refine (value_calls n w2 (HV.out.ext X2.out)).mono ?_
      rintro e w3 ⟨rfl, hx⟩; have X3 := Lib.hid (Ext.trans X2.out hx); have Y3 := Lib.hid (Ext.trans Y2.out hx); clear hx
      go_wp2_with fail
      refine (number_calls _ w3 (HV.out.ext X3.out) (by have := VL.out; simp only [ByteArray.size, List.size_toArray]; omega)).mono ?_
      rintro e w4 ⟨rfl, hx⟩; have X4 := Lib.hid (Ext.trans X3.out hx); have Y4 := Lib.hid (Ext.trans Y3.out hx); clear hx
      rw [show numberL (⟨(valueL n).toArray⟩ : ByteArray).data.toList = n from NV.out]
      clear e0 e1
      have g2 : (n != n) = false := by simp
      go_wp2_with fail
      refine (keys_calls l ao cap w4 (by omega) ((HR.out.ext X4.out).mono X4.out.size)).mono ?_
      rintro e w5 ⟨ko, kcap, rfl, hks, hx⟩
      have X5 := Lib.hid (Ext.trans X4.out hx); have Y5 := Lib.hid (Ext.trans Y4.out hx); have KS := Lib.hid hks
      clear hx hks
      have hkl := keysL_len l
      have PW := Lib.hid (keysL_pw l); have PM := Lib.hid (keysL_mem l); have MA := Lib.hid (keysL_many l)
      go_wp2_with fail
      generalize keysL l = ks at *
      go_loopw [10, 11] (fun m i wr => ∃ k : Nat, k ≤ ks.length ∧ i = .int .i64 k ∧ m = .int .i64 (manyL (ks.take k) l : Nat) ∧ Ext w5 wr) (fun _ i _ => ks.length - (intOf i).toNat)
      case atStart => exact ⟨0, by omega, rfl, rfl, Below.refl _ _⟩
      case round =>
        obtain ⟨k, hk, rfl, rfl, hx⟩ := hrel
        have Z1 := Lib.hid hx; clear hx
        by_cases hlt : k < ks.length
        · obtain ⟨x, hx⟩ : ∃ x, ks[k]? = some x := ⟨_, List.getElem?_eq_getElem hlt⟩
          have hsucc := manyL_take_succ ks l k x hx
          have hM : manyL (ks.take (k + 1)) l ≤ l.length := by have := MA.out; have := manyL_take_le ks l (k + 1); omega
          have hpos : 1 ≤ (ofL x l).length := by
            obtain ⟨a, ha, e⟩ := (PM.out x).1 (List.mem_of_getElem? hx)
            exact List.length_pos_iff.2 (List.ne_nil_of_mem (List.mem_filter.2 ⟨ha, by simpa using e⟩))
          rw [hsucc] at hM
          have HS := Lib.hid hsucc; have HX := Lib.hid hx
          obtain ⟨b, off, rfl, hb, hcell⟩ := KS.out (by intro e; rw [e] at hlt; simp at hlt)
          have hcx := hcell k x hx 0 _ rfl
          rw [show off + k * 1 + 0 = off + k from by omega] at hcx
          have d1 : wr.cell? ⟨b, off + k, none⟩ = some (.string ⟨x.toArray⟩) := (Z1.out.cell (p := ⟨b, off + k, none⟩) hb).trans hcx
          have hi0 : (0 : Int) ≤ (k : Int) := by omega
          have hi1 : (k : Int) < (ks.length : Int) := by omega
          have hof := fun wz (hz : Ext w5 wz) => of_calls ⟨x.toArray⟩ l ao cap wz (by omega) ((HR.out.ext (Ext.trans X5.out hz)).mono (Ext.trans X5.out hz).size)
          have HO := Lib.hid hof
          clear hof hsucc hx
          generalize manyL (ks.take k) l = M at *
          have hdata : (⟨x.toArray⟩ : ByteArray).data.toList = x := rfl
          rw [hdata] at HO
          clear hdata
          rcases Nat.eq_zero_or_pos k with hk0 | hk0
          · have hd : decide ((0 : Int) < (k : Int)) = false := by simp; omega
            have hd' : decide (0 < k) = false := by simp; omega
            clear hcell hcx hk0
            go_wp2_with fail
            go_quiet (fail)
            go_wp2_with fail
            refine (HO.out _ (Z1.out.drewN _)).mono ?_
            rintro e w6 ⟨rv, rfl, hown, hnew, hx⟩
            obtain ⟨oo, ocap, rfl, -⟩ := Rows.own (enc := encAct) (sz := 4) (fun _ => rfl) hown
            have Z2 := Lib.hid (Ext.trans (Z1.out.drewN _) hx)
            clear hown hnew hx
            have hne : ((ofL x l).length == 0) = false := beq_eq_false_iff_ne.2 (by omega)
            have hne2 : (((ofL x l).length : Int) == 0) = false := beq_eq_false_iff_ne.2 (by omega)
            go_wp2_with fail
            go_roundw
            case rel => exact ⟨_, (by omega : k + 1 ≤ ks.length), by go_num, by rw [HS.out]; go_num, Z2.out⟩
            case measure => simp [intOf]; omega
          · obtain ⟨j, rfl⟩ : ∃ j, k = j + 1 := ⟨k - 1, by omega⟩
            obtain ⟨y, hy⟩ : ∃ y, ks[j]? = some y := ⟨_, List.getElem?_eq_getElem (by omega)⟩
            have hcy := hcell j y hy 0 _ rfl
            rw [show off + j * 1 + 0 = off + j from by omega] at hcy
            have d2 : wr.cell? ⟨b, off + j, none⟩ = some (.string ⟨y.toArray⟩) := (Z1.out.cell (p := ⟨b, off + j, none⟩) hb).trans hcy
            have hd : decide ((0 : Int) < ((j + 1 : Nat) : Int)) = true := decide_eq_true (by omega)
            have hyx : y < x := by
              have h1 := List.getElem?_eq_some_iff.1 hy
              have h2 := List.getElem?_eq_some_iff.1 HX.out
              have := List.pairwise_iff_getElem.1 PW.out j (j + 1) h1.1 h2.1 (by omega)
              rw [h1.2, h2.2] at this
              exact this
            have hlt2 : Op.bytesLess y x = true := by
              rw [bytesLess_eq]
              simpa using hyx
            have hi3 : (0 : Int) ≤ (j : Int) := by omega
            have hi4 : (j : Int) < (ks.length : Int) := by omega
            clear hcell hcx hcy hy hyx
            go_wp2_with fail
            go_quiet (fail)
            go_wp2_with fail
            refine (HO.out _ (Z1.out.drewN _)).mono ?_
            rintro e w6 ⟨rv, rfl, hown, hnew, hx⟩
            obtain ⟨oo, ocap, rfl, -⟩ := Rows.own (enc := encAct) (sz := 4) (fun _ => rfl) hown
            have Z2 := Lib.hid (Ext.trans (Z1.out.drewN _) hx)
            clear hown hnew hx
            have hne : ((ofL x l).length == 0) = false := beq_eq_false_iff_ne.2 (by omega)
            have hne2 : (((ofL x l).length : Int) == 0) = false := beq_eq_false_iff_ne.2 (by omega)
            go_wp2_with fail
            go_roundw
            case rel => exact ⟨_, (by omega : j + 1 + 1 ≤ ks.length), by go_num, by rw [HS.out]; go_num, Z2.out⟩
            case measure => simp [intOf]; omega
        · have hall : ks.take k = ks := List.take_of_length_le (by omega)
          have hmk : manyL (ks.take k) l = l.length := by rw [hall]; exact MA.out
          rw [hmk]
          clear hall hmk
          have D1 := C1.out.ext' Y5.out; have D2 := C2.out.ext' Y5.out
          have D1 := D1.ext' Z1.out; have D2 := D2.ext' Z1.out
          have k0 := ExtBy.cell (D1.cell 0); have k1 := ExtBy.cell (D1.cell 1); have k2 := ExtBy.cell (D2.cell 0); have k3 := ExtBy.cell (D2.cell 1)
          clear D1 D2
          have hol := older_law c1 n1 c2 n2
          have o1 := fun (W : World) => older_calls c1 n1 c2 n2 W; have o2 := fun (W : World) => older_calls c2 n2 c1 n1 W
          have hneq := neq_name c1 n1 c2 n2
          cases e1 : olderB c1 n1 c2 n2 <;> cases e2 : olderB c2 n2 c1 n1 <;> cases e3 : (decide (c1 = c2) && decide (n1 = n2)) <;> rw [e1, e2, e3] at hol <;> first
            | exact absurd hol.1 (by decide)
            | exact absurd hol.2 (by decide)
            | (rw [e1] at o1; rw [e2] at o2; rw [e3] at hneq
               have O1 := Lib.hid o1; have O2 := Lib.hid o2
               clear hol o1 o2 e1 e2 e3
               go_wp2_with fail
               refine wp_region_ext (by kernel_rfl) (by kernel_rfl) ?_
               repeat (go_big_quiet_step ((first | (with_reducible exact Calls.ext_of _ (O1.out _)) | (with_reducible exact Calls.ext_of _ (O2.out _)))))
               refine wpQuiet_nil ?_
               intro _ hw'
               obtain ⟨⟨w7, hx7⟩, hw''⟩ := hw'
               have X7 := Lib.hid (Ext.trans X5.out (Ext.trans Z1.out hx7))
               subst hw''
               clear hx7
               go_wp2_with fail
               go_ret
               exact ⟨ret_bool rfl, X7.out⟩)
    · obtain ⟨w4, rfl⟩ : ∃ w4, w4 = w2 := ⟨_, rfl⟩
      have X4 := X2; have Y4 := Y2
      have e0 : decide (-1073741824 ≤ n) = false := by simp; omega
      go_wp2_with fail
      refine (keys_calls l ao cap w4 (by omega) ((HR.out.ext X4.out).mono X4.out.size)).mono ?_
      rintro e w5 ⟨ko, kcap, rfl, hks, hx⟩
      have X5 := Lib.hid (Ext.trans X4.out hx); have Y5 := Lib.hid (Ext.trans Y4.out hx); have KS := Lib.hid hks
      clear hx hks
      have hkl := keysL_len l
      have PW := Lib.hid (keysL_pw l); have PM := Lib.hid (keysL_mem l); have MA := Lib.hid (keysL_many l)
      go_wp2_with fail
      generalize keysL l = ks at *
      go_loopw [10, 11] (fun m i wr => ∃ k : Nat, k ≤ ks.length ∧ i = .int .i64 k ∧ m = .int .i64 (manyL (ks.take k) l : Nat) ∧ Ext w5 wr) (fun _ i _ => ks.length - (intOf i).toNat)
      case atStart => exact ⟨0, by omega, rfl, rfl, Below.refl _ _⟩
      case round =>
        obtain ⟨k, hk, rfl, rfl, hx⟩ := hrel
        have Z1 := Lib.hid hx; clear hx
        by_cases hlt : k < ks.length
        · obtain ⟨x, hx⟩ : ∃ x, ks[k]? = some x := ⟨_, List.getElem?_eq_getElem hlt⟩
          have hsucc := manyL_take_succ ks l k x hx
          have hM : manyL (ks.take (k + 1)) l ≤ l.length := by have := MA.out; have := manyL_take_le ks l (k + 1); omega
          have hpos : 1 ≤ (ofL x l).length := by
            obtain ⟨a, ha, e⟩ := (PM.out x).1 (List.mem_of_getElem? hx)
            exact List.length_pos_iff.2 (List.ne_nil_of_mem (List.mem_filter.2 ⟨ha, by simpa using e⟩))
          rw [hsucc] at hM
          have HS := Lib.hid hsucc; have HX := Lib.hid hx
          obtain ⟨b, off, rfl, hb, hcell⟩ := KS.out (by intro e; rw [e] at hlt; simp at hlt)
          have hcx := hcell k x hx 0 _ rfl
          rw [show off + k * 1 + 0 = off + k from by omega] at hcx
          have d1 : wr.cell? ⟨b, off + k, none⟩ = some (.string ⟨x.toArray⟩) := (Z1.out.cell (p := ⟨b, off + k, none⟩) hb).trans hcx
          have hi0 : (0 : Int) ≤ (k : Int) := by omega
          have hi1 : (k : Int) < (ks.length : Int) := by omega
          have hof := fun wz (hz : Ext w5 wz) => of_calls ⟨x.toArray⟩ l ao cap wz (by omega) ((HR.out.ext (Ext.trans X5.out hz)).mono (Ext.trans X5.out hz).size)
          have HO := Lib.hid hof
          clear hof hsucc hx
          generalize manyL (ks.take k) l = M at *
          have hdata : (⟨x.toArray⟩ : ByteArray).data.toList = x := rfl
          rw [hdata] at HO
          clear hdata
          rcases Nat.eq_zero_or_pos k with hk0 | hk0
          · have hd : decide ((0 : Int) < (k : Int)) = false := by simp; omega
            have hd' : decide (0 < k) = false := by simp; omega
            clear hcell hcx hk0
            go_wp2_with fail
            go_quiet (fail)
            go_wp2_with fail
            refine (HO.out _ (Z1.out.drewN _)).mono ?_
            rintro e w6 ⟨rv, rfl, hown, hnew, hx⟩
            obtain ⟨oo, ocap, rfl, -⟩ := Rows.own (enc := encAct) (sz := 4) (fun _ => rfl) hown
            have Z2 := Lib.hid (Ext.trans (Z1.out.drewN _) hx)
            clear hown hnew hx
            have hne : ((ofL x l).length == 0) = false := beq_eq_false_iff_ne.2 (by omega)
            have hne2 : (((ofL x l).length : Int) == 0) = false := beq_eq_false_iff_ne.2 (by omega)
            go_wp2_with fail
            go_roundw
            case rel => exact ⟨_, (by omega : k + 1 ≤ ks.length), by go_num, by rw [HS.out]; go_num, Z2.out⟩
            case measure => simp [intOf]; omega
          · obtain ⟨j, rfl⟩ : ∃ j, k = j + 1 := ⟨k - 1, by omega⟩
            obtain ⟨y, hy⟩ : ∃ y, ks[j]? = some y := ⟨_, List.getElem?_eq_getElem (by omega)⟩
            have hcy := hcell j y hy 0 _ rfl
            rw [show off + j * 1 + 0 = off + j from by omega] at hcy
            have d2 : wr.cell? ⟨b, off + j, none⟩ = some (.string ⟨y.toArray⟩) := (Z1.out.cell (p := ⟨b, off + j, none⟩) hb).trans hcy
            have hd : decide ((0 : Int) < ((j + 1 : Nat) : Int)) = true := decide_eq_true (by omega)
            have hyx : y < x := by
              have h1 := List.getElem?_eq_some_iff.1 hy
              have h2 := List.getElem?_eq_some_iff.1 HX.out
              have := List.pairwise_iff_getElem.1 PW.out j (j + 1) h1.1 h2.1 (by omega)
              rw [h1.2, h2.2] at this
              exact this
            have hlt2 : Op.bytesLess y x = true := by
              rw [bytesLess_eq]
              simpa using hyx
            have hi3 : (0 : Int) ≤ (j : Int) := by omega
            have hi4 : (j : Int) < (ks.length : Int) := by omega
            clear hcell hcx hcy hy hyx
            go_wp2_with fail
            go_quiet (fail)
            go_wp2_with fail
            refine (HO.out _ (Z1.out.drewN _)).mono ?_
            rintro e w6 ⟨rv, rfl, hown, hnew, hx⟩
            obtain ⟨oo, ocap, rfl, -⟩ := Rows.own (enc := encAct) (sz := 4) (fun _ => rfl) hown
            have Z2 := Lib.hid (Ext.trans (Z1.out.drewN _) hx)
            clear hown hnew hx
            have hne : ((ofL x l).length == 0) = false := beq_eq_false_iff_ne.2 (by omega)
            have hne2 : (((ofL x l).length : Int) == 0) = false := beq_eq_false_iff_ne.2 (by omega)
            go_wp2_with fail
            go_roundw
            case rel => exact ⟨_, (by omega : j + 1 + 1 ≤ ks.length), by go_num, by rw [HS.out]; go_num, Z2.out⟩
            case measure => simp [intOf]; omega
        · have hall : ks.take k = ks := List.take_of_length_le (by omega)
          have hmk : manyL (ks.take k) l = l.length := by rw [hall]; exact MA.out
          rw [hmk]
          clear hall hmk
          have D1 := C1.out.ext' Y5.out; have D2 := C2.out.ext' Y5.out
          have D1 := D1.ext' Z1.out; have D2 := D2.ext' Z1.out
          have k0 := ExtBy.cell (D1.cell 0); have k1 := ExtBy.cell (D1.cell 1); have k2 := ExtBy.cell (D2.cell 0); have k3 := ExtBy.cell (D2.cell 1)
          clear D1 D2
          have hol := older_law c1 n1 c2 n2
          have o1 := fun (W : World) => older_calls c1 n1 c2 n2 W; have o2 := fun (W : World) => older_calls c2 n2 c1 n1 W
          have hneq := neq_name c1 n1 c2 n2
          cases e1 : olderB c1 n1 c2 n2 <;> cases e2 : olderB c2 n2 c1 n1 <;> cases e3 : (decide (c1 = c2) && decide (n1 = n2)) <;> rw [e1, e2, e3] at hol <;> first
            | exact absurd hol.1 (by decide)
            | exact absurd hol.2 (by decide)
            | (rw [e1] at o1; rw [e2] at o2; rw [e3] at hneq
               have O1 := Lib.hid o1; have O2 := Lib.hid o2
               clear hol o1 o2 e1 e2 e3
               go_wp2_with fail
               refine wp_region_ext (by kernel_rfl) (by kernel_rfl) ?_
               repeat (go_big_quiet_step ((first | (with_reducible exact Calls.ext_of _ (O1.out _)) | (with_reducible exact Calls.ext_of _ (O2.out _)))))
               refine wpQuiet_nil ?_
               intro _ hw'
               obtain ⟨⟨w7, hx7⟩, hw''⟩ := hw'
               have X7 := Lib.hid (Ext.trans X5.out (Ext.trans Z1.out hx7))
               subst hw''
               clear hx7
               go_wp2_with fail
               go_ret
               exact ⟨ret_bool rfl, X7.out⟩)
    · obtain ⟨w4, rfl⟩ : ∃ w4, w4 = w2 := ⟨_, rfl⟩
      have X4 := X2; have Y4 := Y2
      have e0 : decide (-1073741824 ≤ n) = true := by simp; omega
      have e1 : decide (n ≤ 1073741824) = false := by simp; omega
      go_wp2_with fail
      refine (keys_calls l ao cap w4 (by omega) ((HR.out.ext X4.out).mono X4.out.size)).mono ?_
      rintro e w5 ⟨ko, kcap, rfl, hks, hx⟩
      have X5 := Lib.hid (Ext.trans X4.out hx); have Y5 := Lib.hid (Ext.trans Y4.out hx); have KS := Lib.hid hks
      clear hx hks
      have hkl := keysL_len l
      have PW := Lib.hid (keysL_pw l); have PM := Lib.hid (keysL_mem l); have MA := Lib.hid (keysL_many l)
      go_wp2_with fail
      generalize keysL l = ks at *
      go_loopw [10, 11] (fun m i wr => ∃ k : Nat, k ≤ ks.length ∧ i = .int .i64 k ∧ m = .int .i64 (manyL (ks.take k) l : Nat) ∧ Ext w5 wr) (fun _ i _ => ks.length - (intOf i).toNat)
      case atStart => exact ⟨0, by omega, rfl, rfl, Below.refl _ _⟩
      case round =>
        obtain ⟨k, hk, rfl, rfl, hx⟩ := hrel
        have Z1 := Lib.hid hx; clear hx
        by_cases hlt : k < ks.length
        · obtain ⟨x, hx⟩ : ∃ x, ks[k]? = some x := ⟨_, List.getElem?_eq_getElem hlt⟩
          have hsucc := manyL_take_succ ks l k x hx
          have hM : manyL (ks.take (k + 1)) l ≤ l.length := by have := MA.out; have := manyL_take_le ks l (k + 1); omega
          have hpos : 1 ≤ (ofL x l).length := by
            obtain ⟨a, ha, e⟩ := (PM.out x).1 (List.mem_of_getElem? hx)
            exact List.length_pos_iff.2 (List.ne_nil_of_mem (List.mem_filter.2 ⟨ha, by simpa using e⟩))
          rw [hsucc] at hM
          have HS := Lib.hid hsucc; have HX := Lib.hid hx
          obtain ⟨b, off, rfl, hb, hcell⟩ := KS.out (by intro e; rw [e] at hlt; simp at hlt)
          have hcx := hcell k x hx 0 _ rfl
          rw [show off + k * 1 + 0 = off + k from by omega] at hcx
          have d1 : wr.cell? ⟨b, off + k, none⟩ = some (.string ⟨x.toArray⟩) := (Z1.out.cell (p := ⟨b, off + k, none⟩) hb).trans hcx
          have hi0 : (0 : Int) ≤ (k : Int) := by omega
          have hi1 : (k : Int) < (ks.length : Int) := by omega
          have hof := fun wz (hz : Ext w5 wz) => of_calls ⟨x.toArray⟩ l ao cap wz (by omega) ((HR.out.ext (Ext.trans X5.out hz)).mono (Ext.trans X5.out hz).size)
          have HO := Lib.hid hof
          clear hof hsucc hx
          generalize manyL (ks.take k) l = M at *
          have hdata : (⟨x.toArray⟩ : ByteArray).data.toList = x := rfl
          rw [hdata] at HO
          clear hdata
          rcases Nat.eq_zero_or_pos k with hk0 | hk0
          · have hd : decide ((0 : Int) < (k : Int)) = false := by simp; omega
            have hd' : decide (0 < k) = false := by simp; omega
            clear hcell hcx hk0
            go_wp2_with fail
            go_quiet (fail)
            go_wp2_with fail
            refine (HO.out _ (Z1.out.drewN _)).mono ?_
            rintro e w6 ⟨rv, rfl, hown, hnew, hx⟩
            obtain ⟨oo, ocap, rfl, -⟩ := Rows.own (enc := encAct) (sz := 4) (fun _ => rfl) hown
            have Z2 := Lib.hid (Ext.trans (Z1.out.drewN _) hx)
            clear hown hnew hx
            have hne : ((ofL x l).length == 0) = false := beq_eq_false_iff_ne.2 (by omega)
            have hne2 : (((ofL x l).length : Int) == 0) = false := beq_eq_false_iff_ne.2 (by omega)
            go_wp2_with fail
            go_roundw
            case rel => exact ⟨_, (by omega : k + 1 ≤ ks.length), by go_num, by rw [HS.out]; go_num, Z2.out⟩
            case measure => simp [intOf]; omega
          · obtain ⟨j, rfl⟩ : ∃ j, k = j + 1 := ⟨k - 1, by omega⟩
            obtain ⟨y, hy⟩ : ∃ y, ks[j]? = some y := ⟨_, List.getElem?_eq_getElem (by omega)⟩
            have hcy := hcell j y hy 0 _ rfl
            rw [show off + j * 1 + 0 = off + j from by omega] at hcy
            have d2 : wr.cell? ⟨b, off + j, none⟩ = some (.string ⟨y.toArray⟩) := (Z1.out.cell (p := ⟨b, off + j, none⟩) hb).trans hcy
            have hd : decide ((0 : Int) < ((j + 1 : Nat) : Int)) = true := decide_eq_true (by omega)
            have hyx : y < x := by
              have h1 := List.getElem?_eq_some_iff.1 hy
              have h2 := List.getElem?_eq_some_iff.1 HX.out
              have := List.pairwise_iff_getElem.1 PW.out j (j + 1) h1.1 h2.1 (by omega)
              rw [h1.2, h2.2] at this
              exact this
            have hlt2 : Op.bytesLess y x = true := by
              rw [bytesLess_eq]
              simpa using hyx
            have hi3 : (0 : Int) ≤ (j : Int) := by omega
            have hi4 : (j : Int) < (ks.length : Int) := by omega
            clear hcell hcx hcy hy hyx
            go_wp2_with fail
            go_quiet (fail)
            go_wp2_with fail
            refine (HO.out _ (Z1.out.drewN _)).mono ?_
            rintro e w6 ⟨rv, rfl, hown, hnew, hx⟩
            obtain ⟨oo, ocap, rfl, -⟩ := Rows.own (enc := encAct) (sz := 4) (fun _ => rfl) hown
            have Z2 := Lib.hid (Ext.trans (Z1.out.drewN _) hx)
            clear hown hnew hx
            have hne : ((ofL x l).length == 0) = false := beq_eq_false_iff_ne.2 (by omega)
            have hne2 : (((ofL x l).length : Int) == 0) = false := beq_eq_false_iff_ne.2 (by omega)
            go_wp2_with fail
            go_roundw
            case rel => exact ⟨_, (by omega : j + 1 + 1 ≤ ks.length), by go_num, by rw [HS.out]; go_num, Z2.out⟩
            case measure => simp [intOf]; omega
        · have hall : ks.take k = ks := List.take_of_length_le (by omega)
          have hmk : manyL (ks.take k) l = l.length := by rw [hall]; exact MA.out
          rw [hmk]
          clear hall hmk
          have D1 := C1.out.ext' Y5.out; have D2 := C2.out.ext' Y5.out
          have D1 := D1.ext' Z1.out; have D2 := D2.ext' Z1.out
          have k0 := ExtBy.cell (D1.cell 0); have k1 := ExtBy.cell (D1.cell 1); have k2 := ExtBy.cell (D2.cell 0); have k3 := ExtBy.cell (D2.cell 1)
          clear D1 D2
          have hol := older_law c1 n1 c2 n2
          have o1 := fun (W : World) => older_calls c1 n1 c2 n2 W; have o2 := fun (W : World) => older_calls c2 n2 c1 n1 W
          have hneq := neq_name c1 n1 c2 n2
          cases e1 : olderB c1 n1 c2 n2 <;> cases e2 : olderB c2 n2 c1 n1 <;> cases e3 : (decide (c1 = c2) && decide (n1 = n2)) <;> rw [e1, e2, e3] at hol <;> first
            | exact absurd hol.1 (by decide)
            | exact absurd hol.2 (by decide)
            | (rw [e1] at o1; rw [e2] at o2; rw [e3] at hneq
               have O1 := Lib.hid o1; have O2 := Lib.hid o2
               clear hol o1 o2 e1 e2 e3
               go_wp2_with fail
               refine wp_region_ext (by kernel_rfl) (by kernel_rfl) ?_
               repeat (go_big_quiet_step ((first | (with_reducible exact Calls.ext_of _ (O1.out _)) | (with_reducible exact Calls.ext_of _ (O2.out _)))))
               refine wpQuiet_nil ?_
               intro _ hw'
               obtain ⟨⟨w7, hx7⟩, hw''⟩ := hw'
               have X7 := Lib.hid (Ext.trans X5.out (Ext.trans Z1.out hx7))
               subst hw''
               clear hx7
               go_wp2_with fail
               go_ret
               exact ⟨ret_bool rfl, X7.out⟩)
  · go_wp2_with fail
    go_ret
    exact ⟨ret_bool rfl, X2.out⟩
end Go.Proofs.YtjplmghhleoolaaDoor
