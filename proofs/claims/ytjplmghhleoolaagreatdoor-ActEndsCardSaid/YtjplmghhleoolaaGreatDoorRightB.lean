/- act.right, one of four cases. -/
import Derived.Test.YtjplmghhleoolaaGreatDoorRightL
namespace Go.Proofs.YtjplmghhleoolaaGreatDoor
open Go.RowKit
set_option maxRecDepth 100000 in
set_option maxHeartbeats 4000000 in
theorem right_B (a : ActD) (w : World) (hok : a.ok) (hE : ¬ a.value.data.toList = []) (hA : 20 < a.value.size) :
    Calls Tryz.prog 35 #[.agg (encAct a).toArray] w fun e w' => e = .returned (.bool (rightB a)) ∧ Ext w w' := by
  obtain ⟨kd, key, val, num⟩ := a
  simp only at hE hA
  unfold encAct
  have hem : val.toList.isEmpty = false := by
    rw [Lib.toList_data]
    cases h : val.data.toList with
    | nil => exact absurd h hE
    | cons a r => rfl
  have hvs : val.size ≤ 140737488351232 := hok.2.2.2.1
  have F1 : Hid (decide (val.data.toList = []) = false) := Lib.hid (by simpa using hE)
  have hz : 20 < val.size := hA
  have hg : decide ((val.size : Int) ≤ 20) = false := by simp; omega
  have F2 : Hid (decide (val.data.toList.length ≤ 20) = false) := Lib.hid (by have := Lib.size_eq val; simp; omega)
  have HOK := Lib.hid hok; clear hE hok hA
  have hmm := @run_makeMap Tryz.prog
  go_enter Tryz.func35, Tryz.ntmps35
  go_wp2_with (first
    | (go_at_call 40; refine (trim_calls _ _ _ (by omega) (by decide) (by decide)).mono ?_; rintro e w1 ⟨rfl, hx1⟩; have X1 := Lib.hid hx1; clear hx1))
  have hbox := (Blk.new w [.int .u8 kd, .string key, .string val, .int .i64 num] 51).ext' X1.out
  have hx : Ext w w1 := Ext.trans (b := w.alloc (.cells #[.int .u8 kd, .string key, .string val, .int .i64 num] 51)) ((Below.refl _ w).alloc (Nat.le_refl _) _) X1.out
  have hN := hbox.lt
  generalize w.heap.size = N at *
  have c2 := hbox.cell 2; have c3 := hbox.cell 3
  simp only [List.getElem?_cons_zero, List.getElem?_cons_succ] at c2 c3
  have hk2 : ∀ o, ((w1.alloc o).drew).cell? ⟨N, 2, none⟩ = some (.string val) := fun o => (World.cell?_alloc_past o N 2 hN).trans c2
  have hk3 : ∀ o, ((w1.alloc o).drew).cell? ⟨N, 3, none⟩ = some (.int .i64 num) := fun o => (World.cell?_alloc_past o N 3 hN).trans c3
  have c1 := hbox.cell 1; have c0 := hbox.cell 0
  simp only [List.getElem?_cons_zero, List.getElem?_cons_succ] at c1 c0
  have hk0 : ∀ o, ((w1.alloc o).drew).cell? ⟨N, 0, none⟩ = some (.int .u8 kd) := fun o => (World.cell?_alloc_past o N 0 hN).trans c0
  have hk1 : ∀ o, ((w1.alloc o).drew).cell? ⟨N, 1, none⟩ = some (.string key) := fun o => (World.cell?_alloc_past o N 1 hN).trans c1
  have HK0 := Lib.hid hk0; have HK1 := Lib.hid hk1; clear hk0 hk1 c0 c1
  have HK2 := Lib.hid hk2; have HK3 := Lib.hid hk3; clear hk2 hk3
  have H1 := Lib.hid hbox; have H2 := Lib.hid hx
  clear hbox hx X1
  have hins := fun (es : List MapEntry) (c : Nat) (k : Int) (v : Value) (hf : Instr.findNow (.int .u8) (.int .u8 k) es 0 = some none) => run_mapUpdate_drew (P := Tryz.prog) Tryz.underlying78 Tryz.underlying49 rfl w1 _ rfl es c (.int .u8 k) v hf
  have i1 := fun (v : Value) => hins [] 0 1 v rfl
  have i21 := fun (a v : Value) => hins [⟨.int .u8 2, a, 0⟩] 1 1 v rfl
  have i231 := fun (a b v : Value) => hins [⟨.int .u8 2, a, 0⟩, ⟨.int .u8 3, b, 1⟩] 2 1 v rfl
  have i31 := fun (a v : Value) => hins [⟨.int .u8 3, a, 0⟩] 1 1 v rfl
  have i321 := fun (a b v : Value) => hins [⟨.int .u8 3, a, 0⟩, ⟨.int .u8 2, b, 1⟩] 2 1 v rfl
  have i2 := fun (v : Value) => hins [] 0 2 v rfl
  have i12 := fun (a v : Value) => hins [⟨.int .u8 1, a, 0⟩] 1 2 v rfl
  have i132 := fun (a b v : Value) => hins [⟨.int .u8 1, a, 0⟩, ⟨.int .u8 3, b, 1⟩] 2 2 v rfl
  have i32 := fun (a v : Value) => hins [⟨.int .u8 3, a, 0⟩] 1 2 v rfl
  have i312 := fun (a b v : Value) => hins [⟨.int .u8 3, a, 0⟩, ⟨.int .u8 1, b, 1⟩] 2 2 v rfl
  have i3 := fun (v : Value) => hins [] 0 3 v rfl
  have i13 := fun (a v : Value) => hins [⟨.int .u8 1, a, 0⟩] 1 3 v rfl
  have i123 := fun (a b v : Value) => hins [⟨.int .u8 1, a, 0⟩, ⟨.int .u8 2, b, 1⟩] 2 3 v rfl
  have i23 := fun (a v : Value) => hins [⟨.int .u8 2, a, 0⟩] 1 3 v rfl
  have i213 := fun (a b v : Value) => hins [⟨.int .u8 2, a, 0⟩, ⟨.int .u8 1, b, 1⟩] 2 3 v rfl
  clear hins
  simp only [List.cons_append, List.nil_append, Nat.reduceAdd] at i1 i21 i231 i31 i321 i2 i12 i132 i32 i312 i3 i13 i123 i23 i213
  refine wp_region_held_drew (S := fun W => W.cell? ⟨N, 2, none⟩ = some (.string val) ∧ W.cell? ⟨N, 3, none⟩ = some (.int .i64 num)) (by kernel_rfl) ?_ (fun hHeld => ?_)
  · exact ⟨c2, c3⟩
  refine wpAnyH_take (i := 1) (oi := ?oi1) (v := ?v1) ?hi1 ?hs1 ?hf1 ?hr1 ?hQ1 ?hy1 ?hS1 ?rest1
  case hi1 => (simp only [List.getElem?_toArray, List.getElem?_cons_succ, List.getElem?_cons_zero]; rfl)
  case hs1 => kernel_rfl
  case hf1 => kernel_rfl
  case hr1 => kernel_rfl
  case hQ1 => exact (fun _ _ _ h => h)
  case hS1 => assumption
  case hy1 => (refine Or.inl ⟨by rfl, ?_⟩; intro w hSw; (try dsimp only at hSw); go_simp; try with_reducible rfl)
  (try simp only [Act.put, List.setIfInBounds_toArray, List.set_cons_zero, List.set_cons_succ])
  refine wpAnyH_take (i := 3) (oi := ?oi2) (v := ?v2) ?hi2 ?hs2 ?hf2 ?hr2 ?hQ2 ?hy2 ?hS2 ?rest2
  case hi2 => (simp only [List.getElem?_toArray, List.getElem?_cons_succ, List.getElem?_cons_zero]; rfl)
  case hs2 => kernel_rfl
  case hf2 => kernel_rfl
  case hr2 => kernel_rfl
  case hQ2 => exact (fun _ _ _ h => h)
  case hS2 => assumption
  case hy2 => (refine Or.inl ⟨by rfl, ?_⟩; intro w hSw; (try dsimp only at hSw); go_simp; try with_reducible rfl)
  (try simp only [Act.put, List.setIfInBounds_toArray, List.set_cons_zero, List.set_cons_succ])
  refine wpAnyH_take (i := 4) (oi := ?oi3) (v := ?v3) ?hi3 ?hs3 ?hf3 ?hr3 ?hQ3 ?hy3 ?hS3 ?rest3
  case hi3 => (simp only [List.getElem?_toArray, List.getElem?_cons_succ, List.getElem?_cons_zero]; rfl)
  case hs3 => kernel_rfl
  case hf3 => kernel_rfl
  case hr3 => kernel_rfl
  case hQ3 => exact (fun _ _ _ h => h)
  case hS3 => assumption
  case hy3 => (refine Or.inl ⟨by rfl, ?_⟩; intro w hSw; (try dsimp only at hSw); go_simp; try with_reducible rfl)
  (try simp only [Act.put, List.setIfInBounds_toArray, List.set_cons_zero, List.set_cons_succ])
  refine wpAnyH_take (i := 5) (oi := ?oi4) (v := ?v4) ?hi4 ?hs4 ?hf4 ?hr4 ?hQ4 ?hy4 ?hS4 ?rest4
  case hi4 => (simp only [List.getElem?_toArray, List.getElem?_cons_succ, List.getElem?_cons_zero]; rfl)
  case hs4 => kernel_rfl
  case hf4 => kernel_rfl
  case hr4 => kernel_rfl
  case hQ4 => exact (fun _ _ _ h => h)
  case hS4 => assumption
  case hy4 => (refine Or.inl ⟨by rfl, ?_⟩; intro w hSw; (try dsimp only at hSw); go_simp; try with_reducible rfl)
  (try simp only [Act.put, List.setIfInBounds_toArray, List.set_cons_zero, List.set_cons_succ])
  refine wpAnyH_take (i := 6) (oi := ?oi5) (v := ?v5) ?hi5 ?hs5 ?hf5 ?hr5 ?hQ5 ?hy5 ?hS5 ?rest5
  case hi5 => (simp only [List.getElem?_toArray, List.getElem?_cons_succ, List.getElem?_cons_zero]; rfl)
  case hs5 => kernel_rfl
  case hf5 => kernel_rfl
  case hr5 => kernel_rfl
  case hQ5 => exact (fun _ _ _ h => h)
  case hS5 => assumption
  case hy5 => (refine Or.inl ⟨by rfl, ?_⟩; intro w hSw; (try dsimp only at hSw); go_simp; try with_reducible rfl)
  (try simp only [Act.put, List.setIfInBounds_toArray, List.set_cons_zero, List.set_cons_succ])
  refine wpAnyH_take (i := 7) (oi := ?oi6) (v := ?v6) ?hi6 ?hs6 ?hf6 ?hr6 ?hQ6 ?hy6 ?hS6 ?rest6
  case hi6 => (simp only [List.getElem?_toArray, List.getElem?_cons_succ, List.getElem?_cons_zero]; rfl)
  case hs6 => kernel_rfl
  case hf6 => kernel_rfl
  case hr6 => kernel_rfl
  case hQ6 => exact (fun _ _ _ h => h)
  case hS6 => assumption
  case hy6 => (refine Or.inl ⟨by rfl, ?_⟩; intro w hSw; (try dsimp only at hSw); go_simp; try with_reducible rfl)
  (try simp only [Act.put, List.setIfInBounds_toArray, List.set_cons_zero, List.set_cons_succ])
  refine wpAnyH_take (i := 8) (oi := ?oi7) (v := undef) ?hi7 ?hs7 ?hf7 ?hr7 ?hQ7 ?hy7 ?hS7 ?rest7
  case hi7 => (simp only [List.getElem?_toArray, List.getElem?_cons_succ, List.getElem?_cons_zero]; rfl)
  case hs7 => kernel_rfl
  case hf7 => kernel_rfl
  case hr7 => kernel_rfl
  case hQ7 => exact (fun _ _ _ h => h)
  case hS7 => assumption
  case hy7 => exact Or.inr ⟨by rfl, rfl⟩
  (try simp only [Act.put, List.setIfInBounds_toArray, List.set_cons_zero, List.set_cons_succ])
  refine wpAnyH_take (i := 9) (oi := ?oi8) (v := ?v8) ?hi8 ?hs8 ?hf8 ?hr8 ?hQ8 ?hy8 ?hS8 ?rest8
  case hi8 => (simp only [List.getElem?_toArray, List.getElem?_cons_succ, List.getElem?_cons_zero]; rfl)
  case hs8 => kernel_rfl
  case hf8 => kernel_rfl
  case hr8 => kernel_rfl
  case hQ8 => exact (fun _ _ _ h => h)
  case hS8 => assumption
  case hy8 => (refine Or.inl ⟨by rfl, ?_⟩; intro w hSw; (try dsimp only at hSw); go_simp; try with_reducible rfl)
  (try simp only [Act.put, List.setIfInBounds_toArray, List.set_cons_zero, List.set_cons_succ])
  refine wpAnyH_take (i := 10) (oi := ?oi9) (v := ?v9) ?hi9 ?hs9 ?hf9 ?hr9 ?hQ9 ?hy9 ?hS9 ?rest9
  case hi9 => (simp only [List.getElem?_toArray, List.getElem?_cons_succ, List.getElem?_cons_zero]; rfl)
  case hs9 => kernel_rfl
  case hf9 => kernel_rfl
  case hr9 => kernel_rfl
  case hQ9 => exact (fun _ _ _ h => h)
  case hS9 => assumption
  case hy9 => (refine Or.inl ⟨by rfl, ?_⟩; intro w hSw; (try dsimp only at hSw); go_simp; try with_reducible rfl)
  (try simp only [Act.put, List.setIfInBounds_toArray, List.set_cons_zero, List.set_cons_succ])
  refine wpAnyH_take (i := 11) (oi := ?oi10) (v := undef) ?hi10 ?hs10 ?hf10 ?hr10 ?hQ10 ?hy10 ?hS10 ?rest10
  case hi10 => (simp only [List.getElem?_toArray, List.getElem?_cons_succ, List.getElem?_cons_zero]; rfl)
  case hs10 => kernel_rfl
  case hf10 => kernel_rfl
  case hr10 => kernel_rfl
  case hQ10 => exact (fun _ _ _ h => h)
  case hS10 => assumption
  case hy10 => exact Or.inr ⟨by rfl, rfl⟩
  (try simp only [Act.put, List.setIfInBounds_toArray, List.set_cons_zero, List.set_cons_succ])
  refine wpAnyH_take (i := 12) (oi := ?oi11) (v := undef) ?hi11 ?hs11 ?hf11 ?hr11 ?hQ11 ?hy11 ?hS11 ?rest11
  case hi11 => (simp only [List.getElem?_toArray, List.getElem?_cons_succ, List.getElem?_cons_zero]; rfl)
  case hs11 => kernel_rfl
  case hf11 => kernel_rfl
  case hr11 => kernel_rfl
  case hQ11 => exact (fun _ _ _ h => h)
  case hS11 => assumption
  case hy11 => exact Or.inr ⟨by rfl, rfl⟩
  (try simp only [Act.put, List.setIfInBounds_toArray, List.set_cons_zero, List.set_cons_succ])
  refine wpAnyH_take (i := 13) (oi := ?oi12) (v := undef) ?hi12 ?hs12 ?hf12 ?hr12 ?hQ12 ?hy12 ?hS12 ?rest12
  case hi12 => (simp only [List.getElem?_toArray, List.getElem?_cons_succ, List.getElem?_cons_zero]; rfl)
  case hs12 => kernel_rfl
  case hf12 => kernel_rfl
  case hr12 => kernel_rfl
  case hQ12 => exact (fun _ _ _ h => h)
  case hS12 => assumption
  case hy12 => exact Or.inr ⟨by rfl, rfl⟩
  (try simp only [Act.put, List.setIfInBounds_toArray, List.set_cons_zero, List.set_cons_succ])
  refine wpAnyH_take (i := 14) (oi := ?oi13) (v := ?v13) ?hi13 ?hs13 ?hf13 ?hr13 ?hQ13 ?hy13 ?hS13 ?rest13
  case hi13 => (simp only [List.getElem?_toArray, List.getElem?_cons_succ, List.getElem?_cons_zero]; rfl)
  case hs13 => kernel_rfl
  case hf13 => kernel_rfl
  case hr13 => kernel_rfl
  case hQ13 => exact (fun _ _ _ h => h)
  case hS13 => assumption
  case hy13 => (refine Or.inl ⟨by rfl, ?_⟩; intro w hSw; (try dsimp only at hSw); go_simp; try with_reducible rfl)
  (try simp only [Act.put, List.setIfInBounds_toArray, List.set_cons_zero, List.set_cons_succ])
  refine wpAnyH_take (i := 16) (oi := ?oi14) (v := ?v14) ?hi14 ?hs14 ?hf14 ?hr14 ?hQ14 ?hy14 ?hS14 ?rest14
  case hi14 => (simp only [List.getElem?_toArray, List.getElem?_cons_succ, List.getElem?_cons_zero]; rfl)
  case hs14 => kernel_rfl
  case hf14 => kernel_rfl
  case hr14 => kernel_rfl
  case hQ14 => exact (fun _ _ _ h => h)
  case hS14 => assumption
  case hy14 => (refine Or.inl ⟨by rfl, ?_⟩; intro w hSw; (try dsimp only at hSw); go_simp; try with_reducible rfl)
  (try simp only [Act.put, List.setIfInBounds_toArray, List.set_cons_zero, List.set_cons_succ])
  refine wpAnyH_take (i := 17) (oi := ?oi15) (v := ?v15) ?hi15 ?hs15 ?hf15 ?hr15 ?hQ15 ?hy15 ?hS15 ?rest15
  case hi15 => (simp only [List.getElem?_toArray, List.getElem?_cons_succ, List.getElem?_cons_zero]; rfl)
  case hs15 => kernel_rfl
  case hf15 => kernel_rfl
  case hr15 => kernel_rfl
  case hQ15 => exact (fun _ _ _ h => h)
  case hS15 => assumption
  case hy15 => (refine Or.inl ⟨by rfl, ?_⟩; intro w hSw; (try dsimp only at hSw); go_simp; try with_reducible rfl)
  (try simp only [Act.put, List.setIfInBounds_toArray, List.set_cons_zero, List.set_cons_succ])
  refine wpAnyH_take (i := 18) (oi := ?oi16) (v := ?v16) ?hi16 ?hs16 ?hf16 ?hr16 ?hQ16 ?hy16 ?hS16 ?rest16
  case hi16 => (simp only [List.getElem?_toArray, List.getElem?_cons_succ, List.getElem?_cons_zero]; rfl)
  case hs16 => kernel_rfl
  case hf16 => kernel_rfl
  case hr16 => kernel_rfl
  case hQ16 => exact (fun _ _ _ h => h)
  case hS16 => assumption
  case hy16 => (refine Or.inl ⟨by rfl, ?_⟩; intro w hSw; (try dsimp only at hSw); go_simp; try with_reducible rfl)
  (try simp only [Act.put, List.setIfInBounds_toArray, List.set_cons_zero, List.set_cons_succ])
  refine wpAnyH_take (i := 19) (oi := ?oi17) (v := ?v17) ?hi17 ?hs17 ?hf17 ?hr17 ?hQ17 ?hy17 ?hS17 ?rest17
  case hi17 => (simp only [List.getElem?_toArray, List.getElem?_cons_succ, List.getElem?_cons_zero]; rfl)
  case hs17 => kernel_rfl
  case hf17 => kernel_rfl
  case hr17 => kernel_rfl
  case hQ17 => exact (fun _ _ _ h => h)
  case hS17 => assumption
  case hy17 => (refine Or.inl ⟨by rfl, ?_⟩; intro w hSw; (try dsimp only at hSw); go_simp; try with_reducible rfl)
  (try simp only [Act.put, List.setIfInBounds_toArray, List.set_cons_zero, List.set_cons_succ])
  refine wpAnyH_take (i := 20) (oi := ?oi18) (v := undef) ?hi18 ?hs18 ?hf18 ?hr18 ?hQ18 ?hy18 ?hS18 ?rest18
  case hi18 => (simp only [List.getElem?_toArray, List.getElem?_cons_succ, List.getElem?_cons_zero]; rfl)
  case hs18 => kernel_rfl
  case hf18 => kernel_rfl
  case hr18 => kernel_rfl
  case hQ18 => exact (fun _ _ _ h => h)
  case hS18 => assumption
  case hy18 => exact Or.inr ⟨by rfl, rfl⟩
  (try simp only [Act.put, List.setIfInBounds_toArray, List.set_cons_zero, List.set_cons_succ])
  refine wpAnyH_take (i := 21) (oi := ?oi19) (v := undef) ?hi19 ?hs19 ?hf19 ?hr19 ?hQ19 ?hy19 ?hS19 ?rest19
  case hi19 => (simp only [List.getElem?_toArray, List.getElem?_cons_succ, List.getElem?_cons_zero]; rfl)
  case hs19 => kernel_rfl
  case hf19 => kernel_rfl
  case hr19 => kernel_rfl
  case hQ19 => exact (fun _ _ _ h => h)
  case hS19 => assumption
  case hy19 => exact Or.inr ⟨by rfl, rfl⟩
  (try simp only [Act.put, List.setIfInBounds_toArray, List.set_cons_zero, List.set_cons_succ])
  refine wpAnyH_take (i := 22) (oi := ?oi20) (v := undef) ?hi20 ?hs20 ?hf20 ?hr20 ?hQ20 ?hy20 ?hS20 ?rest20
  case hi20 => (simp only [List.getElem?_toArray, List.getElem?_cons_succ, List.getElem?_cons_zero]; rfl)
  case hs20 => kernel_rfl
  case hf20 => kernel_rfl
  case hr20 => kernel_rfl
  case hQ20 => exact (fun _ _ _ h => h)
  case hS20 => assumption
  case hy20 => exact Or.inr ⟨by rfl, rfl⟩
  (try simp only [Act.put, List.setIfInBounds_toArray, List.set_cons_zero, List.set_cons_succ])
  refine wpAnyH_take (i := 23) (oi := ?oi21) (v := undef) ?hi21 ?hs21 ?hf21 ?hr21 ?hQ21 ?hy21 ?hS21 ?rest21
  case hi21 => (simp only [List.getElem?_toArray, List.getElem?_cons_succ, List.getElem?_cons_zero]; rfl)
  case hs21 => kernel_rfl
  case hf21 => kernel_rfl
  case hr21 => kernel_rfl
  case hQ21 => exact (fun _ _ _ h => h)
  case hS21 => assumption
  case hy21 => exact Or.inr ⟨by rfl, rfl⟩
  (try simp only [Act.put, List.setIfInBounds_toArray, List.set_cons_zero, List.set_cons_succ])
  refine wpAnyH_take (i := 24) (oi := ?oi22) (v := undef) ?hi22 ?hs22 ?hf22 ?hr22 ?hQ22 ?hy22 ?hS22 ?rest22
  case hi22 => (simp only [List.getElem?_toArray, List.getElem?_cons_succ, List.getElem?_cons_zero]; rfl)
  case hs22 => kernel_rfl
  case hf22 => kernel_rfl
  case hr22 => kernel_rfl
  case hQ22 => exact (fun _ _ _ h => h)
  case hS22 => assumption
  case hy22 => exact Or.inr ⟨by rfl, rfl⟩
  (try simp only [Act.put, List.setIfInBounds_toArray, List.set_cons_zero, List.set_cons_succ])
  refine wpAnyH_take (i := 25) (oi := ?oi23) (v := undef) ?hi23 ?hs23 ?hf23 ?hr23 ?hQ23 ?hy23 ?hS23 ?rest23
  case hi23 => (simp only [List.getElem?_toArray, List.getElem?_cons_succ, List.getElem?_cons_zero]; rfl)
  case hs23 => kernel_rfl
  case hf23 => kernel_rfl
  case hr23 => kernel_rfl
  case hQ23 => exact (fun _ _ _ h => h)
  case hS23 => assumption
  case hy23 => exact Or.inr ⟨by rfl, rfl⟩
  (try simp only [Act.put, List.setIfInBounds_toArray, List.set_cons_zero, List.set_cons_succ])
  refine wpAnyH_take (i := 26) (oi := ?oi24) (v := ?v24) ?hi24 ?hs24 ?hf24 ?hr24 ?hQ24 ?hy24 ?hS24 ?rest24
  case hi24 => (simp only [List.getElem?_toArray, List.getElem?_cons_succ, List.getElem?_cons_zero]; rfl)
  case hs24 => kernel_rfl
  case hf24 => kernel_rfl
  case hr24 => kernel_rfl
  case hQ24 => exact (fun _ _ _ h => h)
  case hS24 => assumption
  case hy24 => (refine Or.inl ⟨by rfl, ?_⟩; intro w hSw; (try dsimp only at hSw); go_simp; try with_reducible rfl)
  (try simp only [Act.put, List.setIfInBounds_toArray, List.set_cons_zero, List.set_cons_succ])
  refine wpAnyH_ready (rs := [0]) (by kernel_rfl) (by simp) ?_
  refine AllReadyH.cons rfl (fun K hK => ?_) ?_
  · go_simp
    refine hK.out _ _ ?_ (fun hHeld2 => ?_)
    · (first | exact ⟨c2, c3⟩ | exact ⟨HK2.out _, HK3.out _⟩)
    · clear hK K hHeld
      have hHeld := hHeld2; clear hHeld2
      (try simp only [Act.put, List.setIfInBounds_toArray, List.set_cons_zero, List.set_cons_succ])
      refine wpAnyH_ready (rs := [2, 15, 27]) (by kernel_rfl) (by simp) ?_
      refine AllReadyH.cons rfl (fun K hK => ?_) ?_
      · go_simp
        refine hK.out _ _ ?_ (fun hHeld2 => ?_)
        · (first | exact ⟨c2, c3⟩ | exact ⟨HK2.out _, HK3.out _⟩)
        · clear hK K hHeld
          have hHeld := hHeld2; clear hHeld2
          (try simp only [Act.put, List.setIfInBounds_toArray, List.set_cons_zero, List.set_cons_succ])
          refine wpAnyH_ready (rs := [15, 27]) (by kernel_rfl) (by simp) ?_
          refine AllReadyH.cons rfl (fun K hK => ?_) ?_
          · go_simp
            refine hK.out _ _ ?_ (fun hHeld2 => ?_)
            · (first | exact ⟨c2, c3⟩ | exact ⟨HK2.out _, HK3.out _⟩)
            · clear hK K hHeld
              have hHeld := hHeld2; clear hHeld2
              (try simp only [Act.put, List.setIfInBounds_toArray, List.set_cons_zero, List.set_cons_succ])
              refine wpAnyH_ready (rs := [27]) (by kernel_rfl) (by simp) ?_
              refine AllReadyH.cons rfl (fun K hK => ?_) ?_
              · go_simp
                refine hK.out _ _ ?_ (fun hHeld2 => ?_)
                · (first | exact ⟨c2, c3⟩ | exact ⟨HK2.out _, HK3.out _⟩)
                · clear hK K hHeld
                  have hHeld := hHeld2; clear hHeld2
                  (try simp only [Act.put, List.setIfInBounds_toArray, List.set_cons_zero, List.set_cons_succ])
                  refine wpAnyH_take (i := 28) (oi := ?oi25) (v := ?v25) ?hi25 ?hs25 ?hf25 ?hr25 ?hQ25 ?hy25 ?hS25 ?rest25
                  case hi25 => (simp only [List.getElem?_toArray, List.getElem?_cons_succ, List.getElem?_cons_zero]; rfl)
                  case hs25 => kernel_rfl
                  case hf25 => kernel_rfl
                  case hr25 => kernel_rfl
                  case hQ25 => exact (fun _ _ _ h => h)
                  case hS25 => assumption
                  case hy25 => (refine Or.inl ⟨by rfl, ?_⟩; intro w hSw; (try dsimp only at hSw); go_simp; try with_reducible rfl)
                  (try simp only [Act.put, List.setIfInBounds_toArray, List.set_cons_zero, List.set_cons_succ])
                  refine wpAnyH_take (i := 29) (oi := ?oi26) (v := ?v26) ?hi26 ?hs26 ?hf26 ?hr26 ?hQ26 ?hy26 ?hS26 ?rest26
                  case hi26 => (simp only [List.getElem?_toArray, List.getElem?_cons_succ, List.getElem?_cons_zero]; rfl)
                  case hs26 => kernel_rfl
                  case hf26 => kernel_rfl
                  case hr26 => kernel_rfl
                  case hQ26 => exact (fun _ _ _ h => h)
                  case hS26 => assumption
                  case hy26 => (refine Or.inl ⟨by rfl, ?_⟩; intro w hSw; (try dsimp only at hSw); go_simp; try with_reducible rfl)
                  (try simp only [Act.put, List.setIfInBounds_toArray, List.set_cons_zero, List.set_cons_succ])
                  refine wpAnyH_done (by kernel_rfl) ?_ _
                  clear i1 i21 i231 i31 i321 i2 i12 i132 i32 i312 i3 i13 i123 i23 i213
                  have q1 := look123 w1; have q2 := look132 w1; have q3 := look213 w1; have q4 := look231 w1; have q5 := look312 w1; have q6 := look321 w1
                  have k0 := HK0.out; have k1 := HK1.out
                  clear hHeld
                  cases hk : keyL key.data.toList
                  · have HK := Lib.hid hk; clear hk
                    go_wp2_with (go_at_call 47; refine (key_calls _ _ HOK.out.2.2.1).mono ?_; rw [HK.out]; rintro e w' ⟨rfl, rfl⟩)
                    go_ret
                    exact ⟨ret_bool (by rw [rightB_eq, HK.out]; rfl), (H2.out.trans ((Below.refl _ w1).alloc (Nat.le_refl _) _)).drew⟩
                  · have HK := Lib.hid hk; clear hk
                    go_wp2_with (go_at_call 47; refine (key_calls _ _ HOK.out.2.2.1).mono ?_; rw [HK.out]; rintro e w' ⟨rfl, rfl⟩)
                    go_ret
                    exact ⟨ret_bool (by rw [rightB_eq, HK.out, F1.out, F2.out]; rfl), (H2.out.trans ((Below.refl _ w1).alloc (Nat.le_refl _) _)).drew⟩
              exact AllReadyH.nil
          refine AllReadyH.cons rfl (fun K hK => ?_) ?_
          · go_simp
            refine hK.out _ _ ?_ (fun hHeld2 => ?_)
            · (first | exact ⟨c2, c3⟩ | exact ⟨HK2.out _, HK3.out _⟩)
            · clear hK K hHeld
              have hHeld := hHeld2; clear hHeld2
              (try simp only [Act.put, List.setIfInBounds_toArray, List.set_cons_zero, List.set_cons_succ])
              refine wpAnyH_ready (rs := [15]) (by kernel_rfl) (by simp) ?_
              refine AllReadyH.cons rfl (fun K hK => ?_) ?_
              · go_simp
                refine hK.out _ _ ?_ (fun hHeld2 => ?_)
                · (first | exact ⟨c2, c3⟩ | exact ⟨HK2.out _, HK3.out _⟩)
                · clear hK K hHeld
                  have hHeld := hHeld2; clear hHeld2
                  (try simp only [Act.put, List.setIfInBounds_toArray, List.set_cons_zero, List.set_cons_succ])
                  refine wpAnyH_take (i := 28) (oi := ?oi27) (v := ?v27) ?hi27 ?hs27 ?hf27 ?hr27 ?hQ27 ?hy27 ?hS27 ?rest27
                  case hi27 => (simp only [List.getElem?_toArray, List.getElem?_cons_succ, List.getElem?_cons_zero]; rfl)
                  case hs27 => kernel_rfl
                  case hf27 => kernel_rfl
                  case hr27 => kernel_rfl
                  case hQ27 => exact (fun _ _ _ h => h)
                  case hS27 => assumption
                  case hy27 => (refine Or.inl ⟨by rfl, ?_⟩; intro w hSw; (try dsimp only at hSw); go_simp; try with_reducible rfl)
                  (try simp only [Act.put, List.setIfInBounds_toArray, List.set_cons_zero, List.set_cons_succ])
                  refine wpAnyH_take (i := 29) (oi := ?oi28) (v := ?v28) ?hi28 ?hs28 ?hf28 ?hr28 ?hQ28 ?hy28 ?hS28 ?rest28
                  case hi28 => (simp only [List.getElem?_toArray, List.getElem?_cons_succ, List.getElem?_cons_zero]; rfl)
                  case hs28 => kernel_rfl
                  case hf28 => kernel_rfl
                  case hr28 => kernel_rfl
                  case hQ28 => exact (fun _ _ _ h => h)
                  case hS28 => assumption
                  case hy28 => (refine Or.inl ⟨by rfl, ?_⟩; intro w hSw; (try dsimp only at hSw); go_simp; try with_reducible rfl)
                  (try simp only [Act.put, List.setIfInBounds_toArray, List.set_cons_zero, List.set_cons_succ])
                  refine wpAnyH_done (by kernel_rfl) ?_ _
                  clear i1 i21 i231 i31 i321 i2 i12 i132 i32 i312 i3 i13 i123 i23 i213
                  have q1 := look123 w1; have q2 := look132 w1; have q3 := look213 w1; have q4 := look231 w1; have q5 := look312 w1; have q6 := look321 w1
                  have k0 := HK0.out; have k1 := HK1.out
                  clear hHeld
                  cases hk : keyL key.data.toList
                  · have HK := Lib.hid hk; clear hk
                    go_wp2_with (go_at_call 47; refine (key_calls _ _ HOK.out.2.2.1).mono ?_; rw [HK.out]; rintro e w' ⟨rfl, rfl⟩)
                    go_ret
                    exact ⟨ret_bool (by rw [rightB_eq, HK.out]; rfl), (H2.out.trans ((Below.refl _ w1).alloc (Nat.le_refl _) _)).drew⟩
                  · have HK := Lib.hid hk; clear hk
                    go_wp2_with (go_at_call 47; refine (key_calls _ _ HOK.out.2.2.1).mono ?_; rw [HK.out]; rintro e w' ⟨rfl, rfl⟩)
                    go_ret
                    exact ⟨ret_bool (by rw [rightB_eq, HK.out, F1.out, F2.out]; rfl), (H2.out.trans ((Below.refl _ w1).alloc (Nat.le_refl _) _)).drew⟩
              exact AllReadyH.nil
          exact AllReadyH.nil
      refine AllReadyH.cons rfl (fun K hK => ?_) ?_
      · go_simp
        refine hK.out _ _ ?_ (fun hHeld2 => ?_)
        · (first | exact ⟨c2, c3⟩ | exact ⟨HK2.out _, HK3.out _⟩)
        · clear hK K hHeld
          have hHeld := hHeld2; clear hHeld2
          (try simp only [Act.put, List.setIfInBounds_toArray, List.set_cons_zero, List.set_cons_succ])
          refine wpAnyH_ready (rs := [2, 27]) (by kernel_rfl) (by simp) ?_
          refine AllReadyH.cons rfl (fun K hK => ?_) ?_
          · go_simp
            refine hK.out _ _ ?_ (fun hHeld2 => ?_)
            · (first | exact ⟨c2, c3⟩ | exact ⟨HK2.out _, HK3.out _⟩)
            · clear hK K hHeld
              have hHeld := hHeld2; clear hHeld2
              (try simp only [Act.put, List.setIfInBounds_toArray, List.set_cons_zero, List.set_cons_succ])
              refine wpAnyH_ready (rs := [27]) (by kernel_rfl) (by simp) ?_
              refine AllReadyH.cons rfl (fun K hK => ?_) ?_
              · go_simp
                refine hK.out _ _ ?_ (fun hHeld2 => ?_)
                · (first | exact ⟨c2, c3⟩ | exact ⟨HK2.out _, HK3.out _⟩)
                · clear hK K hHeld
                  have hHeld := hHeld2; clear hHeld2
                  (try simp only [Act.put, List.setIfInBounds_toArray, List.set_cons_zero, List.set_cons_succ])
                  refine wpAnyH_take (i := 28) (oi := ?oi29) (v := ?v29) ?hi29 ?hs29 ?hf29 ?hr29 ?hQ29 ?hy29 ?hS29 ?rest29
                  case hi29 => (simp only [List.getElem?_toArray, List.getElem?_cons_succ, List.getElem?_cons_zero]; rfl)
                  case hs29 => kernel_rfl
                  case hf29 => kernel_rfl
                  case hr29 => kernel_rfl
                  case hQ29 => exact (fun _ _ _ h => h)
                  case hS29 => assumption
                  case hy29 => (refine Or.inl ⟨by rfl, ?_⟩; intro w hSw; (try dsimp only at hSw); go_simp; try with_reducible rfl)
                  (try simp only [Act.put, List.setIfInBounds_toArray, List.set_cons_zero, List.set_cons_succ])
                  refine wpAnyH_take (i := 29) (oi := ?oi30) (v := ?v30) ?hi30 ?hs30 ?hf30 ?hr30 ?hQ30 ?hy30 ?hS30 ?rest30
                  case hi30 => (simp only [List.getElem?_toArray, List.getElem?_cons_succ, List.getElem?_cons_zero]; rfl)
                  case hs30 => kernel_rfl
                  case hf30 => kernel_rfl
                  case hr30 => kernel_rfl
                  case hQ30 => exact (fun _ _ _ h => h)
                  case hS30 => assumption
                  case hy30 => (refine Or.inl ⟨by rfl, ?_⟩; intro w hSw; (try dsimp only at hSw); go_simp; try with_reducible rfl)
                  (try simp only [Act.put, List.setIfInBounds_toArray, List.set_cons_zero, List.set_cons_succ])
                  refine wpAnyH_done (by kernel_rfl) ?_ _
                  clear i1 i21 i231 i31 i321 i2 i12 i132 i32 i312 i3 i13 i123 i23 i213
                  have q1 := look123 w1; have q2 := look132 w1; have q3 := look213 w1; have q4 := look231 w1; have q5 := look312 w1; have q6 := look321 w1
                  have k0 := HK0.out; have k1 := HK1.out
                  clear hHeld
                  cases hk : keyL key.data.toList
                  · have HK := Lib.hid hk; clear hk
                    go_wp2_with (go_at_call 47; refine (key_calls _ _ HOK.out.2.2.1).mono ?_; rw [HK.out]; rintro e w' ⟨rfl, rfl⟩)
                    go_ret
                    exact ⟨ret_bool (by rw [rightB_eq, HK.out]; rfl), (H2.out.trans ((Below.refl _ w1).alloc (Nat.le_refl _) _)).drew⟩
                  · have HK := Lib.hid hk; clear hk
                    go_wp2_with (go_at_call 47; refine (key_calls _ _ HOK.out.2.2.1).mono ?_; rw [HK.out]; rintro e w' ⟨rfl, rfl⟩)
                    go_ret
                    exact ⟨ret_bool (by rw [rightB_eq, HK.out, F1.out, F2.out]; rfl), (H2.out.trans ((Below.refl _ w1).alloc (Nat.le_refl _) _)).drew⟩
              exact AllReadyH.nil
          refine AllReadyH.cons rfl (fun K hK => ?_) ?_
          · go_simp
            refine hK.out _ _ ?_ (fun hHeld2 => ?_)
            · (first | exact ⟨c2, c3⟩ | exact ⟨HK2.out _, HK3.out _⟩)
            · clear hK K hHeld
              have hHeld := hHeld2; clear hHeld2
              (try simp only [Act.put, List.setIfInBounds_toArray, List.set_cons_zero, List.set_cons_succ])
              refine wpAnyH_ready (rs := [2]) (by kernel_rfl) (by simp) ?_
              refine AllReadyH.cons rfl (fun K hK => ?_) ?_
              · go_simp
                refine hK.out _ _ ?_ (fun hHeld2 => ?_)
                · (first | exact ⟨c2, c3⟩ | exact ⟨HK2.out _, HK3.out _⟩)
                · clear hK K hHeld
                  have hHeld := hHeld2; clear hHeld2
                  (try simp only [Act.put, List.setIfInBounds_toArray, List.set_cons_zero, List.set_cons_succ])
                  refine wpAnyH_take (i := 28) (oi := ?oi31) (v := ?v31) ?hi31 ?hs31 ?hf31 ?hr31 ?hQ31 ?hy31 ?hS31 ?rest31
                  case hi31 => (simp only [List.getElem?_toArray, List.getElem?_cons_succ, List.getElem?_cons_zero]; rfl)
                  case hs31 => kernel_rfl
                  case hf31 => kernel_rfl
                  case hr31 => kernel_rfl
                  case hQ31 => exact (fun _ _ _ h => h)
                  case hS31 => assumption
                  case hy31 => (refine Or.inl ⟨by rfl, ?_⟩; intro w hSw; (try dsimp only at hSw); go_simp; try with_reducible rfl)
                  (try simp only [Act.put, List.setIfInBounds_toArray, List.set_cons_zero, List.set_cons_succ])
                  refine wpAnyH_take (i := 29) (oi := ?oi32) (v := ?v32) ?hi32 ?hs32 ?hf32 ?hr32 ?hQ32 ?hy32 ?hS32 ?rest32
                  case hi32 => (simp only [List.getElem?_toArray, List.getElem?_cons_succ, List.getElem?_cons_zero]; rfl)
                  case hs32 => kernel_rfl
                  case hf32 => kernel_rfl
                  case hr32 => kernel_rfl
                  case hQ32 => exact (fun _ _ _ h => h)
                  case hS32 => assumption
                  case hy32 => (refine Or.inl ⟨by rfl, ?_⟩; intro w hSw; (try dsimp only at hSw); go_simp; try with_reducible rfl)
                  (try simp only [Act.put, List.setIfInBounds_toArray, List.set_cons_zero, List.set_cons_succ])
                  refine wpAnyH_done (by kernel_rfl) ?_ _
                  clear i1 i21 i231 i31 i321 i2 i12 i132 i32 i312 i3 i13 i123 i23 i213
                  have q1 := look123 w1; have q2 := look132 w1; have q3 := look213 w1; have q4 := look231 w1; have q5 := look312 w1; have q6 := look321 w1
                  have k0 := HK0.out; have k1 := HK1.out
                  clear hHeld
                  cases hk : keyL key.data.toList
                  · have HK := Lib.hid hk; clear hk
                    go_wp2_with (go_at_call 47; refine (key_calls _ _ HOK.out.2.2.1).mono ?_; rw [HK.out]; rintro e w' ⟨rfl, rfl⟩)
                    go_ret
                    exact ⟨ret_bool (by rw [rightB_eq, HK.out]; rfl), (H2.out.trans ((Below.refl _ w1).alloc (Nat.le_refl _) _)).drew⟩
                  · have HK := Lib.hid hk; clear hk
                    go_wp2_with (go_at_call 47; refine (key_calls _ _ HOK.out.2.2.1).mono ?_; rw [HK.out]; rintro e w' ⟨rfl, rfl⟩)
                    go_ret
                    exact ⟨ret_bool (by rw [rightB_eq, HK.out, F1.out, F2.out]; rfl), (H2.out.trans ((Below.refl _ w1).alloc (Nat.le_refl _) _)).drew⟩
              exact AllReadyH.nil
          exact AllReadyH.nil
      refine AllReadyH.cons rfl (fun K hK => ?_) ?_
      · go_simp
        refine hK.out _ _ ?_ (fun hHeld2 => ?_)
        · (first | exact ⟨c2, c3⟩ | exact ⟨HK2.out _, HK3.out _⟩)
        · clear hK K hHeld
          have hHeld := hHeld2; clear hHeld2
          (try simp only [Act.put, List.setIfInBounds_toArray, List.set_cons_zero, List.set_cons_succ])
          refine wpAnyH_ready (rs := [2, 15]) (by kernel_rfl) (by simp) ?_
          refine AllReadyH.cons rfl (fun K hK => ?_) ?_
          · go_simp
            refine hK.out _ _ ?_ (fun hHeld2 => ?_)
            · (first | exact ⟨c2, c3⟩ | exact ⟨HK2.out _, HK3.out _⟩)
            · clear hK K hHeld
              have hHeld := hHeld2; clear hHeld2
              (try simp only [Act.put, List.setIfInBounds_toArray, List.set_cons_zero, List.set_cons_succ])
              refine wpAnyH_ready (rs := [15]) (by kernel_rfl) (by simp) ?_
              refine AllReadyH.cons rfl (fun K hK => ?_) ?_
              · go_simp
                refine hK.out _ _ ?_ (fun hHeld2 => ?_)
                · (first | exact ⟨c2, c3⟩ | exact ⟨HK2.out _, HK3.out _⟩)
                · clear hK K hHeld
                  have hHeld := hHeld2; clear hHeld2
                  (try simp only [Act.put, List.setIfInBounds_toArray, List.set_cons_zero, List.set_cons_succ])
                  refine wpAnyH_take (i := 28) (oi := ?oi33) (v := ?v33) ?hi33 ?hs33 ?hf33 ?hr33 ?hQ33 ?hy33 ?hS33 ?rest33
                  case hi33 => (simp only [List.getElem?_toArray, List.getElem?_cons_succ, List.getElem?_cons_zero]; rfl)
                  case hs33 => kernel_rfl
                  case hf33 => kernel_rfl
                  case hr33 => kernel_rfl
                  case hQ33 => exact (fun _ _ _ h => h)
                  case hS33 => assumption
                  case hy33 => (refine Or.inl ⟨by rfl, ?_⟩; intro w hSw; (try dsimp only at hSw); go_simp; try with_reducible rfl)
                  (try simp only [Act.put, List.setIfInBounds_toArray, List.set_cons_zero, List.set_cons_succ])
                  refine wpAnyH_take (i := 29) (oi := ?oi34) (v := ?v34) ?hi34 ?hs34 ?hf34 ?hr34 ?hQ34 ?hy34 ?hS34 ?rest34
                  case hi34 => (simp only [List.getElem?_toArray, List.getElem?_cons_succ, List.getElem?_cons_zero]; rfl)
                  case hs34 => kernel_rfl
                  case hf34 => kernel_rfl
                  case hr34 => kernel_rfl
                  case hQ34 => exact (fun _ _ _ h => h)
                  case hS34 => assumption
                  case hy34 => (refine Or.inl ⟨by rfl, ?_⟩; intro w hSw; (try dsimp only at hSw); go_simp; try with_reducible rfl)
                  (try simp only [Act.put, List.setIfInBounds_toArray, List.set_cons_zero, List.set_cons_succ])
                  refine wpAnyH_done (by kernel_rfl) ?_ _
                  clear i1 i21 i231 i31 i321 i2 i12 i132 i32 i312 i3 i13 i123 i23 i213
                  have q1 := look123 w1; have q2 := look132 w1; have q3 := look213 w1; have q4 := look231 w1; have q5 := look312 w1; have q6 := look321 w1
                  have k0 := HK0.out; have k1 := HK1.out
                  clear hHeld
                  cases hk : keyL key.data.toList
                  · have HK := Lib.hid hk; clear hk
                    go_wp2_with (go_at_call 47; refine (key_calls _ _ HOK.out.2.2.1).mono ?_; rw [HK.out]; rintro e w' ⟨rfl, rfl⟩)
                    go_ret
                    exact ⟨ret_bool (by rw [rightB_eq, HK.out]; rfl), (H2.out.trans ((Below.refl _ w1).alloc (Nat.le_refl _) _)).drew⟩
                  · have HK := Lib.hid hk; clear hk
                    go_wp2_with (go_at_call 47; refine (key_calls _ _ HOK.out.2.2.1).mono ?_; rw [HK.out]; rintro e w' ⟨rfl, rfl⟩)
                    go_ret
                    exact ⟨ret_bool (by rw [rightB_eq, HK.out, F1.out, F2.out]; rfl), (H2.out.trans ((Below.refl _ w1).alloc (Nat.le_refl _) _)).drew⟩
              exact AllReadyH.nil
          refine AllReadyH.cons rfl (fun K hK => ?_) ?_
          · go_simp
            refine hK.out _ _ ?_ (fun hHeld2 => ?_)
            · (first | exact ⟨c2, c3⟩ | exact ⟨HK2.out _, HK3.out _⟩)
            · clear hK K hHeld
              have hHeld := hHeld2; clear hHeld2
              (try simp only [Act.put, List.setIfInBounds_toArray, List.set_cons_zero, List.set_cons_succ])
              refine wpAnyH_ready (rs := [2]) (by kernel_rfl) (by simp) ?_
              refine AllReadyH.cons rfl (fun K hK => ?_) ?_
              · go_simp
                refine hK.out _ _ ?_ (fun hHeld2 => ?_)
                · (first | exact ⟨c2, c3⟩ | exact ⟨HK2.out _, HK3.out _⟩)
                · clear hK K hHeld
                  have hHeld := hHeld2; clear hHeld2
                  (try simp only [Act.put, List.setIfInBounds_toArray, List.set_cons_zero, List.set_cons_succ])
                  refine wpAnyH_take (i := 28) (oi := ?oi35) (v := ?v35) ?hi35 ?hs35 ?hf35 ?hr35 ?hQ35 ?hy35 ?hS35 ?rest35
                  case hi35 => (simp only [List.getElem?_toArray, List.getElem?_cons_succ, List.getElem?_cons_zero]; rfl)
                  case hs35 => kernel_rfl
                  case hf35 => kernel_rfl
                  case hr35 => kernel_rfl
                  case hQ35 => exact (fun _ _ _ h => h)
                  case hS35 => assumption
                  case hy35 => (refine Or.inl ⟨by rfl, ?_⟩; intro w hSw; (try dsimp only at hSw); go_simp; try with_reducible rfl)
                  (try simp only [Act.put, List.setIfInBounds_toArray, List.set_cons_zero, List.set_cons_succ])
                  refine wpAnyH_take (i := 29) (oi := ?oi36) (v := ?v36) ?hi36 ?hs36 ?hf36 ?hr36 ?hQ36 ?hy36 ?hS36 ?rest36
                  case hi36 => (simp only [List.getElem?_toArray, List.getElem?_cons_succ, List.getElem?_cons_zero]; rfl)
                  case hs36 => kernel_rfl
                  case hf36 => kernel_rfl
                  case hr36 => kernel_rfl
                  case hQ36 => exact (fun _ _ _ h => h)
                  case hS36 => assumption
                  case hy36 => (refine Or.inl ⟨by rfl, ?_⟩; intro w hSw; (try dsimp only at hSw); go_simp; try with_reducible rfl)
                  (try simp only [Act.put, List.setIfInBounds_toArray, List.set_cons_zero, List.set_cons_succ])
                  refine wpAnyH_done (by kernel_rfl) ?_ _
                  clear i1 i21 i231 i31 i321 i2 i12 i132 i32 i312 i3 i13 i123 i23 i213
                  have q1 := look123 w1; have q2 := look132 w1; have q3 := look213 w1; have q4 := look231 w1; have q5 := look312 w1; have q6 := look321 w1
                  have k0 := HK0.out; have k1 := HK1.out
                  clear hHeld
                  cases hk : keyL key.data.toList
                  · have HK := Lib.hid hk; clear hk
                    go_wp2_with (go_at_call 47; refine (key_calls _ _ HOK.out.2.2.1).mono ?_; rw [HK.out]; rintro e w' ⟨rfl, rfl⟩)
                    go_ret
                    exact ⟨ret_bool (by rw [rightB_eq, HK.out]; rfl), (H2.out.trans ((Below.refl _ w1).alloc (Nat.le_refl _) _)).drew⟩
                  · have HK := Lib.hid hk; clear hk
                    go_wp2_with (go_at_call 47; refine (key_calls _ _ HOK.out.2.2.1).mono ?_; rw [HK.out]; rintro e w' ⟨rfl, rfl⟩)
                    go_ret
                    exact ⟨ret_bool (by rw [rightB_eq, HK.out, F1.out, F2.out]; rfl), (H2.out.trans ((Below.refl _ w1).alloc (Nat.le_refl _) _)).drew⟩
              exact AllReadyH.nil
          exact AllReadyH.nil
      exact AllReadyH.nil
  exact AllReadyH.nil
end Go.Proofs.YtjplmghhleoolaaGreatDoor
