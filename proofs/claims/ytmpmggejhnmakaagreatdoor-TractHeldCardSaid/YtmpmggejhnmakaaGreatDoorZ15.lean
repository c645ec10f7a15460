/- slices.IndexFunc, slices.ContainsFunc over any function, at several types. -/
import Derived.Test.YtmpmggejhnmakaaGreatDoorZ14
namespace Go.Proofs.YtmpmggejhnmakaaGreatDoor
open Go.RowKit
def FirstG {α : Type} (p : α → Bool) (l : List α) (k : Int) : Prop :=
 (k = -1 ∧ ∀ x ∈ l, p x = false) ∨ ∃ n : Nat, k = n ∧ n < l.length ∧ (∀ (i : Nat) (x : α), i < n → l[i]? = some x → p x = false) ∧ ∀ x, l[n]? = some x → p x = true
set_option maxRecDepth 100000 in
set_option maxHeartbeats 800000 in
theorem indexInt_calls (g : Nat) (lb : Array Value) (eg : ∀ args w, (callFunc g args).run Tryz.prog w = .ok (.enter g args) w) (p : (Int) → Bool)
 (l : List (Int)) (ao : Option Addr) (cap : Nat) (w : World) (hl : l.length ≤ 1000000) (hr : Rows 1 encInt w.heap.size w ao l) (hq : ∀ W, Ext w W → ∀ x ∈ l, Calls Tryz.prog g (#[.int .i64 x] ++ lb) W fun e w' => e = .returned (.bool (p x)) ∧ Ext W w') :
 Calls Tryz.prog 172 #[.slice ao l.length cap, .func (.func g) #[] lb] w fun e w' => ∃ k : Int, e = .returned (.int .i64 k) ∧ FirstG p l k ∧ Ext w w' := by
 have HR := Lib.hid hr; have HF := Lib.hid hq
 clear hr hq
 go_enter Tryz.func172, Tryz.ntmps172
 go_wp2_with fail
 go_loopw [8] (fun i wr => ∃ (k : Nat), k ≤ l.length ∧ i = .int .i64 k ∧ (∀ (i : Nat) (x : Int), i < k → l[i]? = some x → p x = false) ∧ Ext w wr) (fun i _ => l.length - (intOf i).toNat)
 case atStart => exact ⟨0, by omega, rfl, fun i x h => by omega, Below.refl _ _⟩
 case round =>
  obtain ⟨k, hk, rfl, ha, hx⟩ := hrel
  have K1 := Lib.hid ha; have K2 := Lib.hid hx
  clear ha hx
  by_cases hlt : k < l.length
  · obtain ⟨x, hx⟩ : ∃ x, l[k]? = some x := ⟨_, List.getElem?_eq_getElem hlt⟩
    obtain ⟨b, off, rfl, hb, hcell⟩ := HR.out (by intro e; rw [e] at hlt; simp at hlt)
    have hcx := hcell k x hx
    have hmove : ∀ j, wr.cell? ⟨b, j, none⟩ = w.cell? ⟨b, j, none⟩ := fun j => K2.out.cell (p := ⟨b, j, none⟩) hb
    have HX := Lib.hid hx
    have hcc : ∀ W, Ext wr W → Calls Tryz.prog g (#[.int .i64 x] ++ lb) W fun e w' => e = .returned (.bool (p x)) ∧ Ext W w' := fun W hW => HF.out W (Ext.trans K2.out hW) x (List.mem_of_getElem? hx)
    have d0 := (hmove _).trans (hcx 0 _ rfl)
    simp only [Nat.add_zero, Nat.mul_one] at d0
    have CC := Lib.hid hcc
    have i0 : (0 : Int) ≤ (k : Int) := by omega
    have i1 : (k : Int) < (l.length : Int) := by omega
    clear hcell hcx hmove hx hcc
    cases hrb : p x
    · have RB := Lib.hid hrb; clear hrb
      go_wp2_with fail
      refine (CC.out _ (Below.refl _ _)).mono ?_
      rw [RB.out]
      rintro e w' ⟨rfl, hx2⟩
      have X2 := Lib.hid hx2; clear hx2
      go_wp2_with fail
      go_roundw
      case rel =>
       refine ⟨k + 1, by omega, by go_num, fun i x hi hx => ?_, Ext.trans K2.out X2.out⟩
       rcases Nat.lt_or_ge i k with h | h
       · exact K1.out i x h hx
       · obtain rfl : i = k := by omega
         rw [HX.out] at hx
         rw [← Option.some.inj hx]; exact RB.out
      case measure => simp [intOf]; omega
    · have RB := Lib.hid hrb; clear hrb
      go_wp2_with fail
      refine (CC.out _ (Below.refl _ _)).mono ?_
      rw [RB.out]
      rintro e w' ⟨rfl, hx2⟩
      have X2 := Lib.hid hx2; clear hx2
      go_wp2_with fail
      go_ret
      exact ⟨k, ret_int (by omega), .inr ⟨k, rfl, hlt, K1.out, fun x hx => by rw [HX.out] at hx; rw [← Option.some.inj hx]; exact RB.out⟩, Ext.trans K2.out X2.out⟩
  · go_wp2_with fail
    go_ret
    refine ⟨-1, ret_int (by omega), .inl ⟨rfl, fun x hx => ?_⟩, K2.out⟩
    obtain ⟨i, hi⟩ := List.mem_iff_getElem?.1 hx
    exact K1.out i x (by have := (List.getElem?_eq_some_iff.1 hi).1; omega) hi
set_option maxRecDepth 100000 in
theorem containsInt_calls (g : Nat) (lb : Array Value) (eg : ∀ args w, (callFunc g args).run Tryz.prog w = .ok (.enter g args) w) (p : (Int) → Bool)
 (l : List (Int)) (ao : Option Addr) (cap : Nat) (w : World) (hl : l.length ≤ 1000000) (hr : Rows 1 encInt w.heap.size w ao l) (hq : ∀ W, Ext w W → ∀ x ∈ l, Calls Tryz.prog g (#[.int .i64 x] ++ lb) W fun e w' => e = .returned (.bool (p x)) ∧ Ext W w') :
 Calls Tryz.prog 100 #[.slice ao l.length cap, .func (.func g) #[] lb] w fun e w' => e = .returned (.bool (l.any p)) ∧ Ext w w' := by
 have HI := Lib.hid (indexInt_calls g lb eg p l ao cap w hl hr hq)
 clear hr hq
 go_enter Tryz.func100, Tryz.ntmps100
 go_wp2_with fail
 refine HI.out.mono ?_
 rintro e w1 ⟨k, rfl, hk, hx⟩
 have X := Lib.hid hx; clear hx
 rcases hk with ⟨rfl, hno⟩ | ⟨n, rfl, hnl, _, hyes⟩
 · have ha : l.any p = false := by rw [List.any_eq_false]; intro x hx; rw [hno x hx]; simp
   have A1 := Lib.hid ha; clear ha hno
   go_wp2_with fail
   go_ret
   exact ⟨ret_bool (by rw [A1.out]), X.out⟩
 · have ha : l.any p = true := List.any_eq_true.2 ⟨l[n], List.getElem_mem hnl, hyes _ (List.getElem?_eq_getElem hnl)⟩
   have A1 := Lib.hid ha; clear ha hyes
   have i0 : (0 : Int) ≤ (n : Int) := by omega
   have g1 : decide ((0 : Int) ≤ (n : Int)) = true := decide_eq_true i0
   go_wp2_with fail
   go_ret
   exact ⟨ret_bool (by rw [A1.out]), X.out⟩
set_option maxRecDepth 100000 in
set_option maxHeartbeats 800000 in
theorem indexStr_calls (g : Nat) (lb : Array Value) (eg : ∀ args w, (callFunc g args).run Tryz.prog w = .ok (.enter g args) w) (p : (ByteArray) → Bool)
 (l : List (ByteArray)) (ao : Option Addr) (cap : Nat) (w : World) (hl : l.length ≤ 1000000) (hr : Rows 1 encStr w.heap.size w ao l) (hq : ∀ W, Ext w W → ∀ x ∈ l, Calls Tryz.prog g (#[.string x] ++ lb) W fun e w' => e = .returned (.bool (p x)) ∧ Ext W w') :
 Calls Tryz.prog 160 #[.slice ao l.length cap, .func (.func g) #[] lb] w fun e w' => ∃ k : Int, e = .returned (.int .i64 k) ∧ FirstG p l k ∧ Ext w w' := by
 have HR := Lib.hid hr; have HF := Lib.hid hq
 clear hr hq
 go_enter Tryz.func160, Tryz.ntmps160
 go_wp2_with fail
 go_loopw [8] (fun i wr => ∃ (k : Nat), k ≤ l.length ∧ i = .int .i64 k ∧ (∀ (i : Nat) (x : ByteArray), i < k → l[i]? = some x → p x = false) ∧ Ext w wr) (fun i _ => l.length - (intOf i).toNat)
 case atStart => exact ⟨0, by omega, rfl, fun i x h => by omega, Below.refl _ _⟩
 case round =>
  obtain ⟨k, hk, rfl, ha, hx⟩ := hrel
  have K1 := Lib.hid ha; have K2 := Lib.hid hx
  clear ha hx
  by_cases hlt : k < l.length
  · obtain ⟨x, hx⟩ : ∃ x, l[k]? = some x := ⟨_, List.getElem?_eq_getElem hlt⟩
    obtain ⟨b, off, rfl, hb, hcell⟩ := HR.out (by intro e; rw [e] at hlt; simp at hlt)
    have hcx := hcell k x hx
    have hmove : ∀ j, wr.cell? ⟨b, j, none⟩ = w.cell? ⟨b, j, none⟩ := fun j => K2.out.cell (p := ⟨b, j, none⟩) hb
    have HX := Lib.hid hx
    have hcc : ∀ W, Ext wr W → Calls Tryz.prog g (#[.string x] ++ lb) W fun e w' => e = .returned (.bool (p x)) ∧ Ext W w' := fun W hW => HF.out W (Ext.trans K2.out hW) x (List.mem_of_getElem? hx)
    have d0 := (hmove _).trans (hcx 0 _ rfl)
    simp only [Nat.add_zero, Nat.mul_one] at d0
    have CC := Lib.hid hcc
    have i0 : (0 : Int) ≤ (k : Int) := by omega
    have i1 : (k : Int) < (l.length : Int) := by omega
    clear hcell hcx hmove hx hcc
    cases hrb : p x
    · have RB := Lib.hid hrb; clear hrb
      go_wp2_with fail
      refine (CC.out _ (Below.refl _ _)).mono ?_
      rw [RB.out]
      rintro e w' ⟨rfl, hx2⟩
      have X2 := Lib.hid hx2; clear hx2
      go_wp2_with fail
      go_roundw
      case rel =>
       refine ⟨k + 1, by omega, by go_num, fun i x hi hx => ?_, Ext.trans K2.out X2.out⟩
       rcases Nat.lt_or_ge i k with h | h
       · exact K1.out i x h hx
       · obtain rfl : i = k := by omega
         rw [HX.out] at hx
         rw [← Option.some.inj hx]; exact RB.out
      case measure => simp [intOf]; omega
    · have RB := Lib.hid hrb; clear hrb
      go_wp2_with fail
      refine (CC.out _ (Below.refl _ _)).mono ?_
      rw [RB.out]
      rintro e w' ⟨rfl, hx2⟩
      have X2 := Lib.hid hx2; clear hx2
      go_wp2_with fail
      go_ret
      exact ⟨k, ret_int (by omega), .inr ⟨k, rfl, hlt, K1.out, fun x hx => by rw [HX.out] at hx; rw [← Option.some.inj hx]; exact RB.out⟩, Ext.trans K2.out X2.out⟩
  · go_wp2_with fail
    go_ret
    refine ⟨-1, ret_int (by omega), .inl ⟨rfl, fun x hx => ?_⟩, K2.out⟩
    obtain ⟨i, hi⟩ := List.mem_iff_getElem?.1 hx
    exact K1.out i x (by have := (List.getElem?_eq_some_iff.1 hi).1; omega) hi
set_option maxRecDepth 100000 in
theorem containsStr_calls (g : Nat) (lb : Array Value) (eg : ∀ args w, (callFunc g args).run Tryz.prog w = .ok (.enter g args) w) (p : (ByteArray) → Bool)
 (l : List (ByteArray)) (ao : Option Addr) (cap : Nat) (w : World) (hl : l.length ≤ 1000000) (hr : Rows 1 encStr w.heap.size w ao l) (hq : ∀ W, Ext w W → ∀ x ∈ l, Calls Tryz.prog g (#[.string x] ++ lb) W fun e w' => e = .returned (.bool (p x)) ∧ Ext W w') :
 Calls Tryz.prog 84 #[.slice ao l.length cap, .func (.func g) #[] lb] w fun e w' => e = .returned (.bool (l.any p)) ∧ Ext w w' := by
 have HI := Lib.hid (indexStr_calls g lb eg p l ao cap w hl hr hq)
 clear hr hq
 go_enter Tryz.func84, Tryz.ntmps84
 go_wp2_with fail
 refine HI.out.mono ?_
 rintro e w1 ⟨k, rfl, hk, hx⟩
 have X := Lib.hid hx; clear hx
 rcases hk with ⟨rfl, hno⟩ | ⟨n, rfl, hnl, _, hyes⟩
 · have ha : l.any p = false := by rw [List.any_eq_false]; intro x hx; rw [hno x hx]; simp
   have A1 := Lib.hid ha; clear ha hno
   go_wp2_with fail
   go_ret
   exact ⟨ret_bool (by rw [A1.out]), X.out⟩
 · have ha : l.any p = true := List.any_eq_true.2 ⟨l[n], List.getElem_mem hnl, hyes _ (List.getElem?_eq_getElem hnl)⟩
   have A1 := Lib.hid ha; clear ha hyes
   have i0 : (0 : Int) ≤ (n : Int) := by omega
   have g1 : decide ((0 : Int) ≤ (n : Int)) = true := decide_eq_true i0
   go_wp2_with fail
   go_ret
   exact ⟨ret_bool (by rw [A1.out]), X.out⟩
set_option maxRecDepth 100000 in
set_option maxHeartbeats 800000 in
theorem indexStz_calls (g : Nat) (lb : Array Value) (eg : ∀ args w, (callFunc g args).run Tryz.prog w = .ok (.enter g args) w) (p : (StrZ) → Bool)
 (l : List (StrZ)) (ao : Option Addr) (cap : Nat) (w : World) (hl : l.length ≤ 1000000) (hr : Rows 5 encSt w.heap.size w ao l) (hq : ∀ W, Ext w W → ∀ x ∈ l, Calls Tryz.prog g (#[.agg (encSt x).toArray] ++ lb) W fun e w' => e = .returned (.bool (p x)) ∧ Ext W w') :
 Calls Tryz.prog 46 #[.slice ao l.length cap, .func (.func g) #[] lb] w fun e w' => ∃ k : Int, e = .returned (.int .i64 k) ∧ FirstG p l k ∧ Ext w w' := by
 have HR := Lib.hid hr; have HF := Lib.hid hq
 clear hr hq
 go_enter Tryz.func46, Tryz.ntmps46
 go_wp2_with fail
 go_loopw [8] (fun i wr => ∃ (k : Nat), k ≤ l.length ∧ i = .int .i64 k ∧ (∀ (i : Nat) (x : StrZ), i < k → l[i]? = some x → p x = false) ∧ Ext w wr) (fun i _ => l.length - (intOf i).toNat)
 case atStart => exact ⟨0, by omega, rfl, fun i x h => by omega, Below.refl _ _⟩
 case round =>
  obtain ⟨k, hk, rfl, ha, hx⟩ := hrel
  have K1 := Lib.hid ha; have K2 := Lib.hid hx
  clear ha hx
  by_cases hlt : k < l.length
  · obtain ⟨x, hx⟩ : ∃ x, l[k]? = some x := ⟨_, List.getElem?_eq_getElem hlt⟩
    obtain ⟨b, off, rfl, hb, hcell⟩ := HR.out (by intro e; rw [e] at hlt; simp at hlt)
    have hcx := hcell k x hx
    have hmove : ∀ j, wr.cell? ⟨b, j, none⟩ = w.cell? ⟨b, j, none⟩ := fun j => K2.out.cell (p := ⟨b, j, none⟩) hb
    have HX := Lib.hid hx
    have hcc : ∀ W, Ext wr W → Calls Tryz.prog g (#[.agg (encSt x).toArray] ++ lb) W fun e w' => e = .returned (.bool (p x)) ∧ Ext W w' := fun W hW => HF.out W (Ext.trans K2.out hW) x (List.mem_of_getElem? hx)
    obtain ⟨lo, hi, ep, st, sc⟩ := x
    have d0 := (hmove _).trans (hcx 0 _ rfl); have d1 := (hmove _).trans (hcx 1 _ rfl); have d2 := (hmove _).trans (hcx 2 _ rfl); have d3 := (hmove _).trans (hcx 3 _ rfl); have d4 := (hmove _).trans (hcx 4 _ rfl)
    simp only [Nat.add_zero] at d0
    have CC := Lib.hid hcc
    have i0 : (0 : Int) ≤ (k : Int) := by omega
    have i1 : (k : Int) < (l.length : Int) := by omega
    clear hcell hcx hmove hx hcc
    cases hrb : p ⟨lo, hi, ep, st, sc⟩
    · have RB := Lib.hid hrb; clear hrb
      go_wp2_with fail
      refine (CC.out _ (Below.refl _ _)).mono ?_
      rw [RB.out]
      rintro e w' ⟨rfl, hx2⟩
      have X2 := Lib.hid hx2; clear hx2
      go_wp2_with fail
      go_roundw
      case rel =>
       refine ⟨k + 1, by omega, by go_num, fun i x hi hx => ?_, Ext.trans K2.out X2.out⟩
       rcases Nat.lt_or_ge i k with h | h
       · exact K1.out i x h hx
       · obtain rfl : i = k := by omega
         rw [HX.out] at hx
         rw [← Option.some.inj hx]; exact RB.out
      case measure => simp [intOf]; omega
    · have RB := Lib.hid hrb; clear hrb
      go_wp2_with fail
      refine (CC.out _ (Below.refl _ _)).mono ?_
      rw [RB.out]
      rintro e w' ⟨rfl, hx2⟩
      have X2 := Lib.hid hx2; clear hx2
      go_wp2_with fail
      go_ret
      exact ⟨k, ret_int (by omega), .inr ⟨k, rfl, hlt, K1.out, fun x hx => by rw [HX.out] at hx; rw [← Option.some.inj hx]; exact RB.out⟩, Ext.trans K2.out X2.out⟩
  · go_wp2_with fail
    go_ret
    refine ⟨-1, ret_int (by omega), .inl ⟨rfl, fun x hx => ?_⟩, K2.out⟩
    obtain ⟨i, hi⟩ := List.mem_iff_getElem?.1 hx
    exact K1.out i x (by have := (List.getElem?_eq_some_iff.1 hi).1; omega) hi
set_option maxRecDepth 100000 in
theorem containsStz_calls (g : Nat) (lb : Array Value) (eg : ∀ args w, (callFunc g args).run Tryz.prog w = .ok (.enter g args) w) (p : (StrZ) → Bool)
 (l : List (StrZ)) (ao : Option Addr) (cap : Nat) (w : World) (hl : l.length ≤ 1000000) (hr : Rows 5 encSt w.heap.size w ao l) (hq : ∀ W, Ext w W → ∀ x ∈ l, Calls Tryz.prog g (#[.agg (encSt x).toArray] ++ lb) W fun e w' => e = .returned (.bool (p x)) ∧ Ext W w') :
 Calls Tryz.prog 124 #[.slice ao l.length cap, .func (.func g) #[] lb] w fun e w' => e = .returned (.bool (l.any p)) ∧ Ext w w' := by
 have HI := Lib.hid (indexStz_calls g lb eg p l ao cap w hl hr hq)
 clear hr hq
 go_enter Tryz.func124, Tryz.ntmps124
 go_wp2_with fail
 refine HI.out.mono ?_
 rintro e w1 ⟨k, rfl, hk, hx⟩
 have X := Lib.hid hx; clear hx
 rcases hk with ⟨rfl, hno⟩ | ⟨n, rfl, hnl, _, hyes⟩
 · have ha : l.any p = false := by rw [List.any_eq_false]; intro x hx; rw [hno x hx]; simp
   have A1 := Lib.hid ha; clear ha hno
   go_wp2_with fail
   go_ret
   exact ⟨ret_bool (by rw [A1.out]), X.out⟩
 · have ha : l.any p = true := List.any_eq_true.2 ⟨l[n], List.getElem_mem hnl, hyes _ (List.getElem?_eq_getElem hnl)⟩
   have A1 := Lib.hid ha; clear ha hyes
   have i0 : (0 : Int) ≤ (n : Int) := by omega
   have g1 : decide ((0 : Int) ≤ (n : Int)) = true := decide_eq_true i0
   go_wp2_with fail
   go_ret
   exact ⟨ret_bool (by rw [A1.out]), X.out⟩
set_option maxRecDepth 100000 in
set_option maxHeartbeats 800000 in
theorem indexRow_calls (g : Nat) (lb : Array Value) (eg : ∀ args w, (callFunc g args).run Tryz.prog w = .ok (.enter g args) w) (p : (RowD) → Bool)
 (l : List (RowD)) (ao : Option Addr) (cap : Nat) (w : World) (hl : l.length ≤ 1000000) (hr : Rows 2 encRw w.heap.size w ao l) (hq : ∀ W, Ext w W → ∀ x ∈ l, Calls Tryz.prog g (#[.agg (encRw x).toArray] ++ lb) W fun e w' => e = .returned (.bool (p x)) ∧ Ext W w') :
 Calls Tryz.prog 180 #[.slice ao l.length cap, .func (.func g) #[] lb] w fun e w' => ∃ k : Int, e = .returned (.int .i64 k) ∧ FirstG p l k ∧ Ext w w' := by
 have HR := Lib.hid hr; have HF := Lib.hid hq
 clear hr hq
 go_enter Tryz.func180, Tryz.ntmps180
 go_wp2_with fail
 go_loopw [8] (fun i wr => ∃ (k : Nat), k ≤ l.length ∧ i = .int .i64 k ∧ (∀ (i : Nat) (x : RowD), i < k → l[i]? = some x → p x = false) ∧ Ext w wr) (fun i _ => l.length - (intOf i).toNat)
 case atStart => exact ⟨0, by omega, rfl, fun i x h => by omega, Below.refl _ _⟩
 case round =>
  obtain ⟨k, hk, rfl, ha, hx⟩ := hrel
  have K1 := Lib.hid ha; have K2 := Lib.hid hx
  clear ha hx
  by_cases hlt : k < l.length
  · obtain ⟨x, hx⟩ : ∃ x, l[k]? = some x := ⟨_, List.getElem?_eq_getElem hlt⟩
    obtain ⟨b, off, rfl, hb, hcell⟩ := HR.out (by intro e; rw [e] at hlt; simp at hlt)
    have hcx := hcell k x hx
    have hmove : ∀ j, wr.cell? ⟨b, j, none⟩ = w.cell? ⟨b, j, none⟩ := fun j => K2.out.cell (p := ⟨b, j, none⟩) hb
    have HX := Lib.hid hx
    have hcc : ∀ W, Ext wr W → Calls Tryz.prog g (#[.agg (encRw x).toArray] ++ lb) W fun e w' => e = .returned (.bool (p x)) ∧ Ext W w' := fun W hW => HF.out W (Ext.trans K2.out hW) x (List.mem_of_getElem? hx)
    obtain ⟨key, value⟩ := x
    have d0 := (hmove _).trans (hcx 0 _ rfl); have d1 := (hmove _).trans (hcx 1 _ rfl)
    simp only [Nat.add_zero] at d0
    have CC := Lib.hid hcc
    have i0 : (0 : Int) ≤ (k : Int) := by omega
    have i1 : (k : Int) < (l.length : Int) := by omega
    clear hcell hcx hmove hx hcc
    cases hrb : p ⟨key, value⟩
    · have RB := Lib.hid hrb; clear hrb
      go_wp2_with fail
      refine (CC.out _ (Below.refl _ _)).mono ?_
      rw [RB.out]
      rintro e w' ⟨rfl, hx2⟩
      have X2 := Lib.hid hx2; clear hx2
      go_wp2_with fail
      go_roundw
      case rel =>
       refine ⟨k + 1, by omega, by go_num, fun i x hi hx => ?_, Ext.trans K2.out X2.out⟩
       rcases Nat.lt_or_ge i k with h | h
       · exact K1.out i x h hx
       · obtain rfl : i = k := by omega
         rw [HX.out] at hx
         rw [← Option.some.inj hx]; exact RB.out
      case measure => simp [intOf]; omega
    · have RB := Lib.hid hrb; clear hrb
      go_wp2_with fail
      refine (CC.out _ (Below.refl _ _)).mono ?_
      rw [RB.out]
      rintro e w' ⟨rfl, hx2⟩
      have X2 := Lib.hid hx2; clear hx2
      go_wp2_with fail
      go_ret
      exact ⟨k, ret_int (by omega), .inr ⟨k, rfl, hlt, K1.out, fun x hx => by rw [HX.out] at hx; rw [← Option.some.inj hx]; exact RB.out⟩, Ext.trans K2.out X2.out⟩
  · go_wp2_with fail
    go_ret
    refine ⟨-1, ret_int (by omega), .inl ⟨rfl, fun x hx => ?_⟩, K2.out⟩
    obtain ⟨i, hi⟩ := List.mem_iff_getElem?.1 hx
    exact K1.out i x (by have := (List.getElem?_eq_some_iff.1 hi).1; omega) hi
set_option maxRecDepth 100000 in
theorem containsRow_calls (g : Nat) (lb : Array Value) (eg : ∀ args w, (callFunc g args).run Tryz.prog w = .ok (.enter g args) w) (p : (RowD) → Bool)
 (l : List (RowD)) (ao : Option Addr) (cap : Nat) (w : World) (hl : l.length ≤ 1000000) (hr : Rows 2 encRw w.heap.size w ao l) (hq : ∀ W, Ext w W → ∀ x ∈ l, Calls Tryz.prog g (#[.agg (encRw x).toArray] ++ lb) W fun e w' => e = .returned (.bool (p x)) ∧ Ext W w') :
 Calls Tryz.prog 130 #[.slice ao l.length cap, .func (.func g) #[] lb] w fun e w' => e = .returned (.bool (l.any p)) ∧ Ext w w' := by
 have HI := Lib.hid (indexRow_calls g lb eg p l ao cap w hl hr hq)
 clear hr hq
 go_enter Tryz.func130, Tryz.ntmps130
 go_wp2_with fail
 refine HI.out.mono ?_
 rintro e w1 ⟨k, rfl, hk, hx⟩
 have X := Lib.hid hx; clear hx
 rcases hk with ⟨rfl, hno⟩ | ⟨n, rfl, hnl, _, hyes⟩
 · have ha : l.any p = false := by rw [List.any_eq_false]; intro x hx; rw [hno x hx]; simp
   have A1 := Lib.hid ha; clear ha hno
   go_wp2_with fail
   go_ret
   exact ⟨ret_bool (by rw [A1.out]), X.out⟩
 · have ha : l.any p = true := List.any_eq_true.2 ⟨l[n], List.getElem_mem hnl, hyes _ (List.getElem?_eq_getElem hnl)⟩
   have A1 := Lib.hid ha; clear ha hyes
   have i0 : (0 : Int) ≤ (n : Int) := by omega
   have g1 : decide ((0 : Int) ≤ (n : Int)) = true := decide_eq_true i0
   go_wp2_with fail
   go_ret
   exact ⟨ret_bool (by rw [A1.out]), X.out⟩
set_option maxRecDepth 100000 in
set_option maxHeartbeats 800000 in
theorem indexNmz_calls (g : Nat) (lb : Array Value) (eg : ∀ args w, (callFunc g args).run Tryz.prog w = .ok (.enter g args) w) (p : (Int × Int) → Bool)
 (l : List (Int × Int)) (ao : Option Addr) (cap : Nat) (w : World) (hl : l.length ≤ 1000000) (hr : Rows 2 encNz w.heap.size w ao l) (hq : ∀ W, Ext w W → ∀ x ∈ l, Calls Tryz.prog g (#[.agg (encNz x).toArray] ++ lb) W fun e w' => e = .returned (.bool (p x)) ∧ Ext W w') :
 Calls Tryz.prog 247 #[.slice ao l.length cap, .func (.func g) #[] lb] w fun e w' => ∃ k : Int, e = .returned (.int .i64 k) ∧ FirstG p l k ∧ Ext w w' := by
 have HR := Lib.hid hr; have HF := Lib.hid hq
 clear hr hq
 go_enter Tryz.func247, Tryz.ntmps247
 go_wp2_with fail
 go_loopw [8] (fun i wr => ∃ (k : Nat), k ≤ l.length ∧ i = .int .i64 k ∧ (∀ (i : Nat) (x : Int × Int), i < k → l[i]? = some x → p x = false) ∧ Ext w wr) (fun i _ => l.length - (intOf i).toNat)
 case atStart => exact ⟨0, by omega, rfl, fun i x h => by omega, Below.refl _ _⟩
 case round =>
  obtain ⟨k, hk, rfl, ha, hx⟩ := hrel
  have K1 := Lib.hid ha; have K2 := Lib.hid hx
  clear ha hx
  by_cases hlt : k < l.length
  · obtain ⟨x, hx⟩ : ∃ x, l[k]? = some x := ⟨_, List.getElem?_eq_getElem hlt⟩
    obtain ⟨b, off, rfl, hb, hcell⟩ := HR.out (by intro e; rw [e] at hlt; simp at hlt)
    have hcx := hcell k x hx
    have hmove : ∀ j, wr.cell? ⟨b, j, none⟩ = w.cell? ⟨b, j, none⟩ := fun j => K2.out.cell (p := ⟨b, j, none⟩) hb
    have HX := Lib.hid hx
    have hcc : ∀ W, Ext wr W → Calls Tryz.prog g (#[.agg (encNz x).toArray] ++ lb) W fun e w' => e = .returned (.bool (p x)) ∧ Ext W w' := fun W hW => HF.out W (Ext.trans K2.out hW) x (List.mem_of_getElem? hx)
    obtain ⟨cl, nm⟩ := x
    have d0 := (hmove _).trans (hcx 0 _ rfl); have d1 := (hmove _).trans (hcx 1 _ rfl)
    simp only [Nat.add_zero] at d0
    have CC := Lib.hid hcc
    have i0 : (0 : Int) ≤ (k : Int) := by omega
    have i1 : (k : Int) < (l.length : Int) := by omega
    clear hcell hcx hmove hx hcc
    cases hrb : p ⟨cl, nm⟩
    · have RB := Lib.hid hrb; clear hrb
      go_wp2_with fail
      refine (CC.out _ (Below.refl _ _)).mono ?_
      rw [RB.out]
      rintro e w' ⟨rfl, hx2⟩
      have X2 := Lib.hid hx2; clear hx2
      go_wp2_with fail
      go_roundw
      case rel =>
       refine ⟨k + 1, by omega, by go_num, fun i x hi hx => ?_, Ext.trans K2.out X2.out⟩
       rcases Nat.lt_or_ge i k with h | h
       · exact K1.out i x h hx
       · obtain rfl : i = k := by omega
         rw [HX.out] at hx
         rw [← Option.some.inj hx]; exact RB.out
      case measure => simp [intOf]; omega
    · have RB := Lib.hid hrb; clear hrb
      go_wp2_with fail
      refine (CC.out _ (Below.refl _ _)).mono ?_
      rw [RB.out]
      rintro e w' ⟨rfl, hx2⟩
      have X2 := Lib.hid hx2; clear hx2
      go_wp2_with fail
      go_ret
      exact ⟨k, ret_int (by omega), .inr ⟨k, rfl, hlt, K1.out, fun x hx => by rw [HX.out] at hx; rw [← Option.some.inj hx]; exact RB.out⟩, Ext.trans K2.out X2.out⟩
  · go_wp2_with fail
    go_ret
    refine ⟨-1, ret_int (by omega), .inl ⟨rfl, fun x hx => ?_⟩, K2.out⟩
    obtain ⟨i, hi⟩ := List.mem_iff_getElem?.1 hx
    exact K1.out i x (by have := (List.getElem?_eq_some_iff.1 hi).1; omega) hi
set_option maxRecDepth 100000 in
theorem containsNmz_calls (g : Nat) (lb : Array Value) (eg : ∀ args w, (callFunc g args).run Tryz.prog w = .ok (.enter g args) w) (p : (Int × Int) → Bool)
 (l : List (Int × Int)) (ao : Option Addr) (cap : Nat) (w : World) (hl : l.length ≤ 1000000) (hr : Rows 2 encNz w.heap.size w ao l) (hq : ∀ W, Ext w W → ∀ x ∈ l, Calls Tryz.prog g (#[.agg (encNz x).toArray] ++ lb) W fun e w' => e = .returned (.bool (p x)) ∧ Ext W w') :
 Calls Tryz.prog 209 #[.slice ao l.length cap, .func (.func g) #[] lb] w fun e w' => e = .returned (.bool (l.any p)) ∧ Ext w w' := by
 have HI := Lib.hid (indexNmz_calls g lb eg p l ao cap w hl hr hq)
 clear hr hq
 go_enter Tryz.func209, Tryz.ntmps209
 go_wp2_with fail
 refine HI.out.mono ?_
 rintro e w1 ⟨k, rfl, hk, hx⟩
 have X := Lib.hid hx; clear hx
 rcases hk with ⟨rfl, hno⟩ | ⟨n, rfl, hnl, _, hyes⟩
 · have ha : l.any p = false := by rw [List.any_eq_false]; intro x hx; rw [hno x hx]; simp
   have A1 := Lib.hid ha; clear ha hno
   go_wp2_with fail
   go_ret
   exact ⟨ret_bool (by rw [A1.out]), X.out⟩
 · have ha : l.any p = true := List.any_eq_true.2 ⟨l[n], List.getElem_mem hnl, hyes _ (List.getElem?_eq_getElem hnl)⟩
   have A1 := Lib.hid ha; clear ha hyes
   have i0 : (0 : Int) ≤ (n : Int) := by omega
   have g1 : decide ((0 : Int) ≤ (n : Int)) = true := decide_eq_true i0
   go_wp2_with fail
   go_ret
   exact ⟨ret_bool (by rw [A1.out]), X.out⟩
set_option maxRecDepth 100000 in
set_option maxHeartbeats 800000 in
theorem indexPtr_calls (g : Nat) (lb : Array Value) (eg : ∀ args w, (callFunc g args).run Tryz.prog w = .ok (.enter g args) w) (p : (Nat) → Bool)
 (l : List (Nat)) (ao : Option Addr) (cap : Nat) (w : World) (hl : l.length ≤ 1000000) (hr : Rows 1 encPtr w.heap.size w ao l) (hq : ∀ W, Ext w W → ∀ x ∈ l, Calls Tryz.prog g (#[.pointer (some ⟨x, 0, none⟩)] ++ lb) W fun e w' => e = .returned (.bool (p x)) ∧ Ext W w') :
 Calls Tryz.prog 223 #[.slice ao l.length cap, .func (.func g) #[] lb] w fun e w' => ∃ k : Int, e = .returned (.int .i64 k) ∧ FirstG p l k ∧ Ext w w' := by
 have HR := Lib.hid hr; have HF := Lib.hid hq
 clear hr hq
 go_enter Tryz.func223, Tryz.ntmps223
 go_wp2_with fail
 go_loopw [8] (fun i wr => ∃ (k : Nat), k ≤ l.length ∧ i = .int .i64 k ∧ (∀ (i : Nat) (x : Nat), i < k → l[i]? = some x → p x = false) ∧ Ext w wr) (fun i _ => l.length - (intOf i).toNat)
 case atStart => exact ⟨0, by omega, rfl, fun i x h => by omega, Below.refl _ _⟩
 case round =>
  obtain ⟨k, hk, rfl, ha, hx⟩ := hrel
  have K1 := Lib.hid ha; have K2 := Lib.hid hx
  clear ha hx
  by_cases hlt : k < l.length
  · obtain ⟨x, hx⟩ : ∃ x, l[k]? = some x := ⟨_, List.getElem?_eq_getElem hlt⟩
    obtain ⟨b, off, rfl, hb, hcell⟩ := HR.out (by intro e; rw [e] at hlt; simp at hlt)
    have hcx := hcell k x hx
    have hmove : ∀ j, wr.cell? ⟨b, j, none⟩ = w.cell? ⟨b, j, none⟩ := fun j => K2.out.cell (p := ⟨b, j, none⟩) hb
    have HX := Lib.hid hx
    have hcc : ∀ W, Ext wr W → Calls Tryz.prog g (#[.pointer (some ⟨x, 0, none⟩)] ++ lb) W fun e w' => e = .returned (.bool (p x)) ∧ Ext W w' := fun W hW => HF.out W (Ext.trans K2.out hW) x (List.mem_of_getElem? hx)
    have d0 := (hmove _).trans (hcx 0 _ rfl)
    simp only [Nat.add_zero, Nat.mul_one] at d0
    have CC := Lib.hid hcc
    have i0 : (0 : Int) ≤ (k : Int) := by omega
    have i1 : (k : Int) < (l.length : Int) := by omega
    clear hcell hcx hmove hx hcc
    cases hrb : p x
    · have RB := Lib.hid hrb; clear hrb
      go_wp2_with fail
      refine (CC.out _ (Below.refl _ _)).mono ?_
      rw [RB.out]
      rintro e w' ⟨rfl, hx2⟩
      have X2 := Lib.hid hx2; clear hx2
      go_wp2_with fail
      go_roundw
      case rel =>
       refine ⟨k + 1, by omega, by go_num, fun i x hi hx => ?_, Ext.trans K2.out X2.out⟩
       rcases Nat.lt_or_ge i k with h | h
       · exact K1.out i x h hx
       · obtain rfl : i = k := by omega
         rw [HX.out] at hx
         rw [← Option.some.inj hx]; exact RB.out
      case measure => simp [intOf]; omega
    · have RB := Lib.hid hrb; clear hrb
      go_wp2_with fail
      refine (CC.out _ (Below.refl _ _)).mono ?_
      rw [RB.out]
      rintro e w' ⟨rfl, hx2⟩
      have X2 := Lib.hid hx2; clear hx2
      go_wp2_with fail
      go_ret
      exact ⟨k, ret_int (by omega), .inr ⟨k, rfl, hlt, K1.out, fun x hx => by rw [HX.out] at hx; rw [← Option.some.inj hx]; exact RB.out⟩, Ext.trans K2.out X2.out⟩
  · go_wp2_with fail
    go_ret
    refine ⟨-1, ret_int (by omega), .inl ⟨rfl, fun x hx => ?_⟩, K2.out⟩
    obtain ⟨i, hi⟩ := List.mem_iff_getElem?.1 hx
    exact K1.out i x (by have := (List.getElem?_eq_some_iff.1 hi).1; omega) hi
set_option maxRecDepth 100000 in
theorem containsPtr_calls (g : Nat) (lb : Array Value) (eg : ∀ args w, (callFunc g args).run Tryz.prog w = .ok (.enter g args) w) (p : (Nat) → Bool)
 (l : List (Nat)) (ao : Option Addr) (cap : Nat) (w : World) (hl : l.length ≤ 1000000) (hr : Rows 1 encPtr w.heap.size w ao l) (hq : ∀ W, Ext w W → ∀ x ∈ l, Calls Tryz.prog g (#[.pointer (some ⟨x, 0, none⟩)] ++ lb) W fun e w' => e = .returned (.bool (p x)) ∧ Ext W w') :
 Calls Tryz.prog 188 #[.slice ao l.length cap, .func (.func g) #[] lb] w fun e w' => e = .returned (.bool (l.any p)) ∧ Ext w w' := by
 have HI := Lib.hid (indexPtr_calls g lb eg p l ao cap w hl hr hq)
 clear hr hq
 go_enter Tryz.func188, Tryz.ntmps188
 go_wp2_with fail
 refine HI.out.mono ?_
 rintro e w1 ⟨k, rfl, hk, hx⟩
 have X := Lib.hid hx; clear hx
 rcases hk with ⟨rfl, hno⟩ | ⟨n, rfl, hnl, _, hyes⟩
 · have ha : l.any p = false := by rw [List.any_eq_false]; intro x hx; rw [hno x hx]; simp
   have A1 := Lib.hid ha; clear ha hno
   go_wp2_with fail
   go_ret
   exact ⟨ret_bool (by rw [A1.out]), X.out⟩
 · have ha : l.any p = true := List.any_eq_true.2 ⟨l[n], List.getElem_mem hnl, hyes _ (List.getElem?_eq_getElem hnl)⟩
   have A1 := Lib.hid ha; clear ha hyes
   have i0 : (0 : Int) ≤ (n : Int) := by omega
   have g1 : decide ((0 : Int) ≤ (n : Int)) = true := decide_eq_true i0
   go_wp2_with fail
   go_ret
   exact ⟨ret_bool (by rw [A1.out]), X.out⟩
end Go.Proofs.YtmpmggejhnmakaaGreatDoor
