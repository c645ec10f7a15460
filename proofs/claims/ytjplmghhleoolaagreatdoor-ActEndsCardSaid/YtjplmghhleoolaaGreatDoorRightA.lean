/- act.right, one of four cases. -/
import Derived.Test.YtjplmghhleoolaaGreatDoorRightL
namespace Go.Proofs.YtjplmghhleoolaaGreatDoor
open Go.RowKit
set_option maxRecDepth 100000 in
set_option maxHeartbeats 4000000 in
theorem right_A (a : ActD) (w : World) (hok : a.ok) (hE : a.value.data.toList = []) :
    Calls Tryz.prog 35 #[.agg (encAct a).toArray] w fun e w' => e = .returned (.bool (rightB a)) ∧ Ext w w' := by
  obtain ⟨kd, key, val, num⟩ := a
  simp only at hE
  unfold encAct
  have hem : val.toList.isEmpty = true := by rw [Lib.toList_data, hE]; rfl
  have hz : val.size = 0 := by rw [Lib.size_eq, hE]; rfl
  have hT : (Lib.trimS val.data.toList [97, 98, 99, 100, 101, 102, 103, 104, 105, 106, 107, 108, 109, 110, 111, 112, 113, 114, 115, 116, 117, 118, 119, 120, 121, 122, 48, 49, 50, 51, 52, 53, 54, 55, 56, 57, 45]).isEmpty = true := by rw [hE]; decide
  have F1 : Hid (decide (val.data.toList = []) = true) := Lib.hid (by simp [hE])
  have F2 : Hid (decide (val.data.toList.length ≤ 20) = true) := Lib.hid (by simp [hE])
  have F3 : Hid (textL val.data.toList = true) := Lib.hid (by rw [hE]; decide)
  have HOK := Lib.hid hok; clear hE hok
  have hmm := @run_makeMap Tryz.prog
  go_enter Tryz.func35, Tryz.ntmps35
  go_wp2_with (first
    | (go_at_call 40; refine (trim_calls _ _ _ (by omega) (by decide) (by decide)).mono ?_; rintro e w1 ⟨rfl, hx1⟩; have X1 := Lib.hid hx1; clear hx1))
  have hbox := (Blk.new w [.int .u8 kd, .string key, .string val, .int .i64 num] 51).ext' X1.out
  have hx : Ext w w1 := Ext.trans (b := w.alloc (.cells #[.int .u8 kd, .string key, .string val, .int .i64 num] 51)) ((Below.refl _ w).alloc (Nat.le_refl _) _) X1.out
  have hN := hbox.lt
  generalize w.heap.size = N at *
  have c2 := hbox.cell 2; have c3 := hbox.cell 3
  simp only [List.getElem?_cons_zero, List.getElem?_cons_succ] at c2 c3
  have hk2 : ∀ o, ((w1.alloc o).drew).cell? ⟨N, 2, none⟩ = some (.string val) := fun o => (World.cell?_alloc_past o N 2 hN).trans c2
  have hk3 : ∀ o, ((w1.alloc o).drew).cell? ⟨N, 3, none⟩ = some (.int .i64 num) := fun o => (World.cell?_alloc_past o N 3 hN).trans c3
  have c1 := hbox.cell 1; have c0 := hbox.cell 0
  simp only [List.getElem?_cons_zero, List.getElem?_cons_succ] at c1 c0
  have hk0 : ∀ o, ((w1.alloc o).drew).cell? ⟨N, 0, none⟩ = some (.int .u8 kd) := fun o => (World.cell?_alloc_past o N 0 hN).trans c0
  have hk1 : ∀ o, ((w1.alloc o).drew).cell? ⟨N, 1, none⟩ = some (.string key) := fun o => (World.cell?_alloc_past o N 1 hN).trans c1
  have HK0 := Lib.hid hk0; have HK1 := Lib.hid hk1; clear hk0 hk1 c0 c1
  have HK2 := Lib.hid hk2; have HK3 := Lib.hid hk3; clear hk2 hk3
  have H1 := Lib.hid hbox; have H2 := Lib.hid hx
  clear hbox hx X1
  have hins := fun (es : List MapEntry) (c : Nat) (k : Int) (v : Value) (hf : Instr.findNow (.int .u8) (.int .u8 k) es 0 = some none) => run_mapUpdate_drew (P := Tryz.prog) Tryz.underlying78 Tryz.underlying49 rfl w1 _ rfl es c (.int .u8 k) v hf
  have i1 := fun (v : Value) => hins [] 0 1 v rfl
  have i21 := fun (a v : Value) => hins [⟨.int .u8 2, a, 0⟩] 1 1 v rfl
  have i231 := fun (a b v : Value) => hins [⟨.int .u8 2, a, 0⟩, ⟨.int .u8 3, b, 1⟩] 2 1 v rfl
  have i31 := fun (a v : Value) => hins [⟨.int .u8 3, a, 0⟩] 1 1 v rfl
  have i321 := fun (a b v : Value) => hins [⟨.int .u8 3, a, 0⟩, ⟨.int .u8 2, b, 1⟩] 2 1 v rfl
  have i2 := fun (v : Value) => hins [] 0 2 v rfl
  have i12 := fun (a v : Value) => hins [⟨.int .u8 1, a, 0⟩] 1 2 v rfl
  have i132 := fun (a b v : Value) => hins [⟨.int .u8 1, a, 0⟩, ⟨.int .u8 3, b, 1⟩] 2 2 v rfl
  have i32 := fun (a v : Value) => hins [⟨.int .u8 3, a, 0⟩] 1 2 v rfl
  have i312 := fun (a b v : Value) => hins [⟨.int .u8 3, a, 0⟩, ⟨.int .u8 1, b, 1⟩] 2 2 v rfl
  have i3 := fun (v : Value) => hins [] 0 3 v rfl
  have i13 := fun (a v : Value) => hins [⟨.int .u8 1, a, 0⟩] 1 3 v rfl
  have i123 := fun (a b v : Value) => hins [⟨.int .u8 1, a, 0⟩, ⟨.int .u8 2, b, 1⟩] 2 3 v rfl
  have i23 := fun (a v : Value) => hins [⟨.int .u8 2, a, 0⟩] 1 3 v rfl
  have i213 := fun (a b v : Value) => hins [⟨.int .u8 2, a, 0⟩, ⟨.int .u8 1, b, 1⟩] 2 3 v rfl
  clear hins
  simp only [List.cons_append, List.nil_append, Nat.reduceAdd] at i1 i21 i231 i31 i321 i2 i12 i132 i32 i312 i3 i13 i123 i23 i213
  go_region_held3 (fun W => W.cell? ⟨N, 2, none⟩ = some (.string val) ∧ W.cell? ⟨N, 3, none⟩ = some (.int .i64 num)) (first | exact ⟨c2, c3⟩ | exact ⟨HK2.out _, HK3.out _⟩)
    (first
    | (go_at_call 42; refine (cut_calls _ _).mono ?_; rintro e w' ⟨rfl, rfl⟩))
  all_goals
    clear i1 i21 i231 i31 i321 i2 i12 i132 i32 i312 i3 i13 i123 i23 i213
    have q1 := look123 w1; have q2 := look132 w1; have q3 := look213 w1; have q4 := look231 w1; have q5 := look312 w1; have q6 := look321 w1
    have k0 := HK0.out; have k1 := HK1.out
    rename_i hHeld
    clear hHeld
  all_goals
    cases hk : keyL key.data.toList
    · have HK := Lib.hid hk; clear hk
      go_wp2_with (go_at_call 47; refine (key_calls _ _ HOK.out.2.2.1).mono ?_; rw [HK.out]; rintro e w' ⟨rfl, rfl⟩)
      go_ret
      exact ⟨ret_bool (by rw [rightB_eq, HK.out]; rfl), (H2.out.trans ((Below.refl _ w1).alloc (Nat.le_refl _) _)).drew⟩
    · have HK := Lib.hid hk; clear hk
      go_wp2_with (go_at_call 47; refine (key_calls _ _ HOK.out.2.2.1).mono ?_; rw [HK.out]; rintro e w' ⟨rfl, rfl⟩)
      go_ret
      exact ⟨ret_bool (by rw [rightB_eq, HK.out, F1.out, F2.out, F3.out]; rfl), (H2.out.trans ((Below.refl _ w1).alloc (Nat.le_refl _) _)).drew⟩
end Go.Proofs.YtjplmghhleoolaaGreatDoor
