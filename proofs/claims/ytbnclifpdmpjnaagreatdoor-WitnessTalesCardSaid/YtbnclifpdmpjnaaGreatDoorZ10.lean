/- slices.Clone at rows and steps; IndexFunc, ContainsFunc at steps; Equal at reads. -/
import Derived.Test.YtbnclifpdmpjnaaGreatDoorZ09
import Derived.Test.YtbnclifpdmpjnaaGreatDoorZ07
namespace Go.Proofs.YtbnclifpdmpjnaaGreatDoor
open Go.RowKit
theorem infoRow : (Tryz.prog.info? 184).map (fun i => (i.zero, i.size, i.bytes)) = some (some (.agg #[.string ⟨#[]⟩, .string ⟨#[]⟩]), 2, 32) := by kernel_rfl
theorem one_row : ∀ (x : RowD), ∀ u ∈ encRw x, u.oneCell' = true := by
  intro x u hu
  simp only [encRw, List.mem_cons, List.not_mem_nil, or_false] at hu
  rcases hu with rfl | rfl <;> rfl
theorem infoStep : (Tryz.prog.info? 51).map (fun i => (i.zero, i.size, i.bytes)) = some (some (.agg #[.int .i64 0, .int .i64 0, .slice none 0 0, .slice none 0 0, .int .i64 0, .int .i64 0]), 6, 80) := by kernel_rfl
theorem infoStepR : (Tryz.prog.info? 86).map (fun i => (i.zero, i.size, i.bytes)) = some (some (.agg #[.int .i64 0, .int .i64 0, .slice none 0 0, .slice none 0 0, .int .i64 0, .int .i64 0]), 6, 80) := by kernel_rfl
theorem one_step : ∀ (x : StepZ), ∀ u ∈ encStep x, u.oneCell' = true := by
  intro x u hu
  simp only [encStep, List.mem_cons, List.not_mem_nil, or_false] at hu
  rcases hu with rfl | rfl | rfl | rfl | rfl | rfl <;> rfl
set_option maxRecDepth 100000 in
theorem clone_rows_calls (l : List RowD) (ao : Option Addr) (cap : Nat) (w : World) (hl : l.length ≤ 1000000) (hr : Rows 2 encRw w.heap.size w ao l) :
    Calls Tryz.prog 120 #[.slice ao l.length cap] w fun e w' => ∃ v, e = .returned v ∧ w'.ownsRow 0 184 2 v l.length (l.flatMap encRw) ∧ (∀ j, v.ownBlock = some j → w.heap.size ≤ j) ∧ Ext w w' := by
  obtain ⟨i0, hi, hz0, hz1, hz2⟩ := info_parts infoRow
  have heq := fun W => Lib.run_eql_slice_nil (P := Tryz.prog) W 151 184 ao l.length cap 0 0 Tryz.underlying151
  have E1 : Hid (Ext w (w.alloc (.cells #[] 184))) := Lib.hid ((Below.refl _ w).alloc (Nat.le_refl _) _)
  cases ao with
  | none =>
    have hl0 : l = [] := by
      cases l with
      | nil => rfl
      | cons a l => obtain ⟨b, off, e, -⟩ := hr (by simp); cases e
    have HL0 := Lib.hid hl0
    clear hr hl0
    simp only [Option.isNone_none] at heq
    go_enter Tryz.func120, Tryz.ntmps120
    go_wp2_with fail
    go_ret
    exact ⟨_, rfl, by rw [HL0.out]; exact World.ownsRow_nil _ _ _ _, by simp [Value.ownBlock], Below.refl _ _⟩
  | some a =>
    have HR := Lib.hid hr
    clear hr
    simp only [Option.isNone_some] at heq
    go_enter Tryz.func120, Tryz.ntmps120
    go_wp2_with (at_builtin; refine wpList_append_rows (enc := encRw) (size := 2) (fun _ => rfl) one_row rfl (.tmp 5) (.tmp 6) 151 rfl 184 i0 _ 32 Tryz.underlying151 hi hz0 hz1 hz2 rfl (by decide) (.slice (some ⟨w.heap.size, 0, none⟩) 0 0) 0 [] rfl (World.ownsRow_made w #[] 0 (Nat.zero_le _) (Nat.zero_le _) rfl) (some a) l cap rfl ((HR.out.ext E1.out).mono E1.out.size) (by unfold maxLen; omega) (by omega) ?_; intro v1 w1 hown1 hbut1 hkept1; have O1 := Lib.hid hown1; have B1 := Lib.hid hbut1; have P1 := Lib.hid hkept1; clear hown1 hbut1 hkept1)
    go_ret
    refine ⟨v1, rfl, by have := O1.out; rwa [Nat.zero_add, List.nil_append] at this, fun j hj => ?_, ?_⟩
    · rcases P1.out j hj with e | e
      · simp [Value.ownBlock] at e; omega
      · have := E1.out.size; omega
    · exact ((Ext.but E1.out (fun _ => False)).trans B1.out (U := fun i => i = w.heap.size) (fun _ _ e => e.elim) (fun i _ e => by simp [Value.ownBlock] at e; exact e.symm)).ext (fun i hi e => by omega)
set_option maxRecDepth 100000 in
theorem clone_steps_calls (l : List StepZ) (ao : Option Addr) (cap : Nat) (w : World) (hl : l.length ≤ 1000000) (hr : Rows 6 encStep w.heap.size w ao l) :
    Calls Tryz.prog 118 #[.slice ao l.length cap] w fun e w' => ∃ v, e = .returned v ∧ w'.ownsRow 0 51 6 v l.length (l.flatMap encStep) ∧ (∀ j, v.ownBlock = some j → w.heap.size ≤ j) ∧ Ext w w' := by
  obtain ⟨i0, hi, hz0, hz1, hz2⟩ := info_parts infoStep
  have heq := fun W => Lib.run_eql_slice_nil (P := Tryz.prog) W 41 51 ao l.length cap 0 0 Tryz.underlying41
  have E1 : Hid (Ext w (w.alloc (.cells #[] 51))) := Lib.hid ((Below.refl _ w).alloc (Nat.le_refl _) _)
  cases ao with
  | none =>
    have hl0 : l = [] := by
      cases l with
      | nil => rfl
      | cons a l => obtain ⟨b, off, e, -⟩ := hr (by simp); cases e
    have HL0 := Lib.hid hl0
    clear hr hl0
    simp only [Option.isNone_none] at heq
    go_enter Tryz.func118, Tryz.ntmps118
    go_wp2_with fail
    go_ret
    exact ⟨_, rfl, by rw [HL0.out]; exact World.ownsRow_nil _ _ _ _, by simp [Value.ownBlock], Below.refl _ _⟩
  | some a =>
    have HR := Lib.hid hr
    clear hr
    simp only [Option.isNone_some] at heq
    go_enter Tryz.func118, Tryz.ntmps118
    go_wp2_with (at_builtin; refine wpList_append_rows (enc := encStep) (size := 6) (fun _ => rfl) one_step rfl (.tmp 5) (.tmp 6) 41 rfl 51 i0 _ 80 Tryz.underlying41 hi hz0 hz1 hz2 rfl (by decide) (.slice (some ⟨w.heap.size, 0, none⟩) 0 0) 0 [] rfl (World.ownsRow_made w #[] 0 (Nat.zero_le _) (Nat.zero_le _) rfl) (some a) l cap rfl ((HR.out.ext E1.out).mono E1.out.size) (by unfold maxLen; omega) (by omega) ?_; intro v1 w1 hown1 hbut1 hkept1; have O1 := Lib.hid hown1; have B1 := Lib.hid hbut1; have P1 := Lib.hid hkept1; clear hown1 hbut1 hkept1)
    go_ret
    refine ⟨v1, rfl, by have := O1.out; rwa [Nat.zero_add, List.nil_append] at this, fun j hj => ?_, ?_⟩
    · rcases P1.out j hj with e | e
      · simp [Value.ownBlock] at e; omega
      · have := E1.out.size; omega
    · exact ((Ext.but E1.out (fun _ => False)).trans B1.out (U := fun i => i = w.heap.size) (fun _ _ e => e.elim) (fun i _ e => by simp [Value.ownBlock] at e; exact e.symm)).ext (fun i hi e => by omega)
def FirstS (p : StepZ → Bool) (l : List StepZ) (k : Int) : Prop :=
  (k = -1 ∧ ∀ x ∈ l, p x = false) ∨ ∃ n : Nat, k = n ∧ n < l.length ∧ (∀ (i : Nat) (x : StepZ), i < n → l[i]? = some x → p x = false) ∧ ∀ x, l[n]? = some x → p x = true
set_option maxRecDepth 100000 in
set_option maxHeartbeats 800000 in
theorem indexS_calls (g : Nat) (lb : Array Value) (eg : ∀ args w, (callFunc g args).run Tryz.prog w = .ok (.enter g args) w) (p : StepZ → Bool)
    (l : List StepZ) (ao : Option Addr) (cap : Nat) (w : World) (hl : l.length ≤ 1000000) (hr : Rows 6 encStep w.heap.size w ao l) (hq : ∀ W, Ext w W → ∀ x ∈ l, Calls Tryz.prog g (#[.agg (encStep x).toArray] ++ lb) W fun e w' => e = .returned (.bool (p x)) ∧ Ext W w') :
    Calls Tryz.prog 119 #[.slice ao l.length cap, .func (.func g) #[] lb] w fun e w' => ∃ k : Int, e = .returned (.int .i64 k) ∧ FirstS p l k ∧ Ext w w' := by
  have HR := Lib.hid hr; have HF := Lib.hid hq
  clear hr hq
  go_enter Tryz.func119, Tryz.ntmps119
  go_wp2_with fail
  go_loopw [8] (fun i wr => ∃ (k : Nat), k ≤ l.length ∧ i = .int .i64 k ∧ (∀ (i : Nat) (x : StepZ), i < k → l[i]? = some x → p x = false) ∧ Ext w wr) (fun i _ => l.length - (intOf i).toNat)
  case atStart => exact ⟨0, by omega, rfl, fun i x h => by omega, Below.refl _ _⟩
  case round =>
    obtain ⟨k, hk, rfl, ha, hx⟩ := hrel
    have K1 := Lib.hid ha; have K2 := Lib.hid hx
    clear ha hx
    by_cases hlt : k < l.length
    · obtain ⟨x, hx⟩ : ∃ x, l[k]? = some x := ⟨_, List.getElem?_eq_getElem hlt⟩
      obtain ⟨b, off, rfl, hb, hcell⟩ := HR.out (by intro e; rw [e] at hlt; simp at hlt)
      have hcx := hcell k x hx
      have hmove : ∀ j, wr.cell? ⟨b, j, none⟩ = w.cell? ⟨b, j, none⟩ := fun j => K2.out.cell (p := ⟨b, j, none⟩) hb
      have HX := Lib.hid hx
      have hcc : ∀ W, Ext wr W → Calls Tryz.prog g (#[.agg (encStep x).toArray] ++ lb) W fun e w' => e = .returned (.bool (p x)) ∧ Ext W w' := fun W hW => HF.out W (Ext.trans K2.out hW) x (List.mem_of_getElem? hx)
      obtain ⟨d, xo, xc, yo, yc⟩ := x
      have d0 := (hmove _).trans (hcx 0 _ rfl); have d1 := (hmove _).trans (hcx 1 _ rfl); have d2 := (hmove _).trans (hcx 2 _ rfl); have d3 := (hmove _).trans (hcx 3 _ rfl); have d4 := (hmove _).trans (hcx 4 _ rfl); have d5 := (hmove _).trans (hcx 5 _ rfl)
      simp only [Nat.add_zero] at d0
      have CC := Lib.hid hcc
      have i0 : (0 : Int) ≤ (k : Int) := by omega
      have i1 : (k : Int) < (l.length : Int) := by omega
      clear hcell hcx hmove hx hcc
      cases hrb : p ⟨d, xo, xc, yo, yc⟩
      · have RB := Lib.hid hrb; clear hrb
        go_wp2_with fail
        refine (CC.out _ (Below.refl _ _)).mono ?_
        rw [RB.out]
        rintro e w' ⟨rfl, hx2⟩
        have X2 := Lib.hid hx2; clear hx2
        go_wp2_with fail
        go_roundw
        case rel =>
          refine ⟨k + 1, by omega, by go_num, fun i x hi hx => ?_, Ext.trans K2.out X2.out⟩
          rcases Nat.lt_or_ge i k with h | h
          · exact K1.out i x h hx
          · obtain rfl : i = k := by omega
            rw [HX.out] at hx
            rw [← Option.some.inj hx]; exact RB.out
        case measure => simp [intOf]; omega
      · have RB := Lib.hid hrb; clear hrb
        go_wp2_with fail
        refine (CC.out _ (Below.refl _ _)).mono ?_
        rw [RB.out]
        rintro e w' ⟨rfl, hx2⟩
        have X2 := Lib.hid hx2; clear hx2
        go_wp2_with fail
        go_ret
        exact ⟨k, ret_int (by omega), .inr ⟨k, rfl, hlt, K1.out, fun x hx => by rw [HX.out] at hx; rw [← Option.some.inj hx]; exact RB.out⟩, Ext.trans K2.out X2.out⟩
    · go_wp2_with fail
      go_ret
      refine ⟨-1, ret_int (by omega), .inl ⟨rfl, fun x hx => ?_⟩, K2.out⟩
      obtain ⟨i, hi⟩ := List.mem_iff_getElem?.1 hx
      exact K1.out i x (by have := (List.getElem?_eq_some_iff.1 hi).1; omega) hi
set_option maxRecDepth 100000 in
theorem containsS_calls (g : Nat) (lb : Array Value) (eg : ∀ args w, (callFunc g args).run Tryz.prog w = .ok (.enter g args) w) (p : StepZ → Bool)
    (l : List StepZ) (ao : Option Addr) (cap : Nat) (w : World) (hl : l.length ≤ 1000000) (hr : Rows 6 encStep w.heap.size w ao l) (hq : ∀ W, Ext w W → ∀ x ∈ l, Calls Tryz.prog g (#[.agg (encStep x).toArray] ++ lb) W fun e w' => e = .returned (.bool (p x)) ∧ Ext W w') :
    Calls Tryz.prog 80 #[.slice ao l.length cap, .func (.func g) #[] lb] w fun e w' => e = .returned (.bool (l.any p)) ∧ Ext w w' := by
  have HI := Lib.hid (indexS_calls g lb eg p l ao cap w hl hr hq)
  clear hr hq
  go_enter Tryz.func80, Tryz.ntmps80
  go_wp2_with fail
  refine HI.out.mono ?_
  rintro e w1 ⟨k, rfl, hk, hx⟩
  have X := Lib.hid hx; clear hx
  rcases hk with ⟨rfl, hno⟩ | ⟨n, rfl, hnl, _, hyes⟩
  · have ha : l.any p = false := by rw [List.any_eq_false]; intro x hx; rw [hno x hx]; simp
    have A1 := Lib.hid ha; clear ha hno
    go_wp2_with fail
    go_ret
    exact ⟨ret_bool (by rw [A1.out]), X.out⟩
  · have ha : l.any p = true := List.any_eq_true.2 ⟨l[n], List.getElem_mem hnl, hyes _ (List.getElem?_eq_getElem hnl)⟩
    have A1 := Lib.hid ha; clear ha hyes
    have i0 : (0 : Int) ≤ (n : Int) := by omega
    have g1 : decide ((0 : Int) ≤ (n : Int)) = true := decide_eq_true i0
    go_wp2_with fail
    go_ret
    exact ⟨ret_bool (by rw [A1.out]), X.out⟩
set_option maxRecDepth 100000 in
set_option maxHeartbeats 800000 in
theorem equalReads_calls (l m : List Rd) (ao bo : Option Addr) (cap cap' : Nat) (w : World) (hl : l.length ≤ 1000000) (hr : Rows 3 encRd w.heap.size w ao l) (hq : Rows 3 encRd w.heap.size w bo m) :
    Calls Tryz.prog 48 #[.slice ao l.length cap, .slice bo m.length cap'] w fun e w' => e = .returned (.bool (decide (l = m))) ∧ Ext w w' := by
  have HR := Lib.hid hr; have HQ := Lib.hid hq
  clear hr hq
  by_cases hlen : l.length = m.length
  · have HL := Lib.hid hlen
    go_enter Tryz.func48, Tryz.ntmps48
    have hd : ((l.length : Int) != (m.length : Int)) = false := by simp [hlen]
    have hneq := neq_read
    clear hlen
    go_wp2_with fail
    go_loopw [13] (fun i wr => ∃ (k : Nat), k ≤ l.length ∧ i = .int .i64 k ∧ l.take k = m.take k ∧ Ext w wr) (fun i _ => l.length - (intOf i).toNat)
    case atStart => exact ⟨0, by omega, rfl, by simp, Below.refl _ _⟩
    case round =>
      obtain ⟨k, hk, rfl, ha, hx⟩ := hrel
      have K1 := Lib.hid ha; have K2 := Lib.hid hx
      clear ha hx
      by_cases hlt : k < l.length
      · have hlt' : k < m.length := by have := HL.out; omega
        obtain ⟨x, hx⟩ : ∃ x, l[k]? = some x := ⟨_, List.getElem?_eq_getElem hlt⟩
        obtain ⟨y, hy⟩ : ∃ y, m[k]? = some y := ⟨_, List.getElem?_eq_getElem hlt'⟩
        obtain ⟨b, off, rfl, hb, hcell⟩ := HR.out (by intro e; rw [e] at hlt; simp at hlt)
        obtain ⟨b', off', rfl, hb', hcell'⟩ := HQ.out (by intro e; rw [e] at hlt'; simp at hlt')
        have hcx := hcell k x hx; have hcy := hcell' k y hy
        have hmove : ∀ j, wr.cell? ⟨b, j, none⟩ = w.cell? ⟨b, j, none⟩ := fun j => K2.out.cell (p := ⟨b, j, none⟩) hb
        have hmove' : ∀ j, wr.cell? ⟨b', j, none⟩ = w.cell? ⟨b', j, none⟩ := fun j => K2.out.cell (p := ⟨b', j, none⟩) hb'
        have TK := Lib.hid (show l.take (k + 1) = l.take k ++ [x] by rw [List.take_add_one, hx]; rfl)
        have TM := Lib.hid (show m.take (k + 1) = m.take k ++ [y] by rw [List.take_add_one, hy]; rfl)
        have HX := Lib.hid hx; have HY := Lib.hid hy
        obtain ⟨k1, i1, v1⟩ := x; obtain ⟨k2, i2, v2⟩ := y
        have d0 := (hmove _).trans (hcx 0 _ rfl); have d1 := (hmove _).trans (hcx 1 _ rfl); have d2 := (hmove _).trans (hcx 2 _ rfl)
        have c0 := (hmove' _).trans (hcy 0 _ rfl); have c1 := (hmove' _).trans (hcy 1 _ rfl); have c2 := (hmove' _).trans (hcy 2 _ rfl)
        simp only [Nat.add_zero] at d0 c0
        have hi0 : (0 : Int) ≤ (k : Int) := by omega
        have hi1 : (k : Int) < (l.length : Int) := by omega
        have hi2 : (k : Int) < (m.length : Int) := by omega
        clear hx hy hcell hcell' hcx hcy hmove hmove'
        by_cases heq : (⟨k1, i1, v1⟩ : Rd) = ⟨k2, i2, v2⟩
        · have he : sameRd k1 i1 v1 k2 i2 v2 = true := decide_eq_true heq
          have E := Lib.hid heq; clear heq
          go_wp2_with fail
          go_quiet (fail)
          go_wp2_with fail
          go_roundw
          case rel => exact ⟨k + 1, by omega, by go_num, by rw [TK.out, TM.out, K1.out, E.out], (Ext.drewN K2.out _)⟩
          case measure => simp [intOf]; omega
        · have he : sameRd k1 i1 v1 k2 i2 v2 = false := decide_eq_false heq
          have E := Lib.hid heq; clear heq
          go_wp2_with fail
          go_quiet (fail)
          go_wp2_with fail
          go_ret
          refine ⟨ret_bool (Eq.symm (decide_eq_false fun e => ?_)), (Ext.drewN K2.out _)⟩
          have h1 := HX.out; have h2 := HY.out
          rw [e, h2] at h1
          exact E.out (Option.some.inj h1).symm
      · have hall : l = m := by
          have := K1.out
          rwa [List.take_of_length_le (by omega), List.take_of_length_le (by have := HL.out; omega)] at this
        have HA := Lib.hid hall; clear hall
        go_wp2_with fail
        go_ret
        exact ⟨ret_bool (by simp [HA.out]), K2.out⟩
  · go_enter Tryz.func48, Tryz.ntmps48
    have hd : ((l.length : Int) != (m.length : Int)) = true := by simp; omega
    go_wp2_with fail
    go_ret
    exact ⟨ret_bool (Eq.symm (decide_eq_false fun e => hlen (by rw [e]))), Below.refl _ _⟩
end Go.Proofs.YtbnclifpdmpjnaaGreatDoor
