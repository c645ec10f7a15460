/- act.right, one of four cases. -/
import Derived.Test.YtjplmghhleoolaaGreatDoorRightL
namespace Go.Proofs.YtjplmghhleoolaaGreatDoor
open Go.RowKit
set_option maxRecDepth 100000 in
set_option maxHeartbeats 4000000 in
theorem right_C (a : ActD) (w : World) (hok : a.ok) (hE : ¬ a.value.data.toList = []) (hA : a.value.size ≤ 20) (hX : textL a.value.data.toList = true) :
    Calls Tryz.prog 35 #[.agg (encAct a).toArray] w fun e w' => e = .returned (.bool (rightB a)) ∧ Ext w w' := by
  obtain ⟨kd, key, val, num⟩ := a
  simp only at hE hA hX
  unfold encAct
  have hem : val.toList.isEmpty = false := by
    rw [Lib.toList_data]
    cases h : val.data.toList with
    | nil => exact absurd h hE
    | cons a r => rfl
  have hvs : val.size ≤ 140737488351232 := hok.2.2.2.1
  have F1 : Hid (decide (val.data.toList = []) = false) := Lib.hid (by simpa using hE)
  have hz : val.size ≤ 20 := hA
  have hg : decide ((val.size : Int) ≤ 20) = true := by simp; omega
  have hT : (Lib.trimS val.data.toList [97, 98, 99, 100, 101, 102, 103, 104, 105, 106, 107, 108, 109, 110, 111, 112, 113, 114, 115, 116, 117, 118, 119, 120, 121, 122, 48, 49, 50, 51, 52, 53, 54, 55, 56, 57, 45]).isEmpty = true := by
    have h := hX
    unfold textL alnumL at h
    simp only [decide_eq_true_eq] at h
    cases hh : Lib.trimS val.data.toList [97, 98, 99, 100, 101, 102, 103, 104, 105, 106, 107, 108, 109, 110, 111, 112, 113, 114, 115, 116, 117, 118, 119, 120, 121, 122, 48, 49, 50, 51, 52, 53, 54, 55, 56, 57, 45] with
    | nil => rfl
    | cons a r => rw [hh] at h; cases h
  have F2 : Hid (decide (val.data.toList.length ≤ 20) = true) := Lib.hid (by have := Lib.size_eq val; simp; omega)
  have F3 : Hid (textL val.data.toList = true) := Lib.hid hX
  have HOK := Lib.hid hok; clear hE hok hA hX
  have hmm := @run_makeMap Tryz.prog
  go_enter Tryz.func35, Tryz.ntmps35
  go_wp2_with (first
    | (go_at_call 40; refine (trim_calls _ _ _ (by omega) (by decide) (by decide)).mono ?_; rintro e w1 ⟨rfl, hx1⟩; have X1 := Lib.hid hx1; clear hx1))
  have hbox := (Blk.new w [.int .u8 kd, .string key, .string val, .int .i64 num] 51).ext' X1.out
  have hx : Ext w w1 := Ext.trans (b := w.alloc (.cells #[.int .u8 kd, .string key, .string val, .int .i64 num] 51)) ((Below.refl _ w).alloc (Nat.le_refl _) _) X1.out
  have hN := hbox.lt
  generalize w.heap.size = N at *
  have c2 := hbox.cell 2; have c3 := hbox.cell 3
  simp only [List.getElem?_cons_zero, List.getElem?_cons_succ] at c2 c3
  have hk2 : ∀ o, ((w1.alloc o).drew).cell? ⟨N, 2, none⟩ = some (.string val) := fun o => (World.cell?_alloc_past o N 2 hN).trans c2
  have hk3 : ∀ o, ((w1.alloc o).drew).cell? ⟨N, 3, none⟩ = some (.int .i64 num) := fun o => (World.cell?_alloc_past o N 3 hN).trans c3
  have c1 := hbox.cell 1; have c0 := hbox.cell 0
  simp only [List.getElem?_cons_zero, List.getElem?_cons_succ] at c1 c0
  have hk0 : ∀ o, ((w1.alloc o).drew).cell? ⟨N, 0, none⟩ = some (.int .u8 kd) := fun o => (World.cell?_alloc_past o N 0 hN).trans c0
  have hk1 : ∀ o, ((w1.alloc o).drew).cell? ⟨N, 1, none⟩ = some (.string key) := fun o => (World.cell?_alloc_past o N 1 hN).trans c1
  have HK0 := Lib.hid hk0; have HK1 := Lib.hid hk1; clear hk0 hk1 c0 c1
  have HK2 := Lib.hid hk2; have HK3 := Lib.hid hk3; clear hk2 hk3
  have H1 := Lib.hid hbox; have H2 := Lib.hid hx
  clear hbox hx X1
  have hins := fun (es : List MapEntry) (c : Nat) (k : Int) (v : Value) (hf : Instr.findNow (.int .u8) (.int .u8 k) es 0 = some none) => run_mapUpdate_drew (P := Tryz.prog) Tryz.underlying78 Tryz.underlying49 rfl w1 _ rfl es c (.int .u8 k) v hf
  have i1 := fun (v : Value) => hins [] 0 1 v rfl
  have i21 := fun (a v : Value) => hins [⟨.int .u8 2, a, 0⟩] 1 1 v rfl
  have i231 := fun (a b v : Value) => hins [⟨.int .u8 2, a, 0⟩, ⟨.int .u8 3, b, 1⟩] 2 1 v rfl
  have i31 := fun (a v : Value) => hins [⟨.int .u8 3, a, 0⟩] 1 1 v rfl
  have i321 := fun (a b v : Value) => hins [⟨.int .u8 3, a, 0⟩, ⟨.int .u8 2, b, 1⟩] 2 1 v rfl
  have i2 := fun (v : Value) => hins [] 0 2 v rfl
  have i12 := fun (a v : Value) => hins [⟨.int .u8 1, a, 0⟩] 1 2 v rfl
  have i132 := fun (a b v : Value) => hins [⟨.int .u8 1, a, 0⟩, ⟨.int .u8 3, b, 1⟩] 2 2 v rfl
  have i32 := fun (a v : Value) => hins [⟨.int .u8 3, a, 0⟩] 1 2 v rfl
  have i312 := fun (a b v : Value) => hins [⟨.int .u8 3, a, 0⟩, ⟨.int .u8 1, b, 1⟩] 2 2 v rfl
  have i3 := fun (v : Value) => hins [] 0 3 v rfl
  have i13 := fun (a v : Value) => hins [⟨.int .u8 1, a, 0⟩] 1 3 v rfl
  have i123 := fun (a b v : Value) => hins [⟨.int .u8 1, a, 0⟩, ⟨.int .u8 2, b, 1⟩] 2 3 v rfl
  have i23 := fun (a v : Value) => hins [⟨.int .u8 2, a, 0⟩] 1 3 v rfl
  have i213 := fun (a b v : Value) => hins [⟨.int .u8 2, a, 0⟩, ⟨.int .u8 1, b, 1⟩] 2 3 v rfl
  clear hins
  simp only [List.cons_append, List.nil_append, Nat.reduceAdd] at i1 i21 i231 i31 i321 i2 i12 i132 i32 i312 i3 i13 i123 i23 i213
  refine wp_region_held_drew (S := fun W => W.cell? ⟨N, 2, none⟩ = some (.string val) ∧ W.cell? ⟨N, 3, none⟩ = some (.int .i64 num)) (by kernel_rfl) ?_ (fun hHeld => ?_)
  · exact ⟨c2, c3⟩
  refine wpAnyH_take (i := 1) (oi := ?oi37) (v := ?v37) ?hi37 ?hs37 ?hf37 ?hr37 ?hQ37 ?hy37 ?hS37 ?rest37
  case hi37 => (simp only [List.getElem?_toArray, List.getElem?_cons_succ, List.getElem?_cons_zero]; rfl)
  case hs37 => kernel_rfl
  case hf37 => kernel_rfl
  case hr37 => kernel_rfl
  case hQ37 => exact (fun _ _ _ h => h)
  case hS37 => assumption
  case hy37 => (refine Or.inl ⟨by rfl, ?_⟩; intro w hSw; (try dsimp only at hSw); go_simp; try with_reducible rfl)
  (try simp only [Act.put, List.setIfInBounds_toArray, List.set_cons_zero, List.set_cons_succ])
  refine wpAnyH_take (i := 3) (oi := ?oi38) (v := ?v38) ?hi38 ?hs38 ?hf38 ?hr38 ?hQ38 ?hy38 ?hS38 ?rest38
  case hi38 => (simp only [List.getElem?_toArray, List.getElem?_cons_succ, List.getElem?_cons_zero]; rfl)
  case hs38 => kernel_rfl
  case hf38 => kernel_rfl
  case hr38 => kernel_rfl
  case hQ38 => exact (fun _ _ _ h => h)
  case hS38 => assumption
  case hy38 => (refine Or.inl ⟨by rfl, ?_⟩; intro w hSw; (try dsimp only at hSw); go_simp; try with_reducible rfl)
  (try simp only [Act.put, List.setIfInBounds_toArray, List.set_cons_zero, List.set_cons_succ])
  refine wpAnyH_take (i := 4) (oi := ?oi39) (v := ?v39) ?hi39 ?hs39 ?hf39 ?hr39 ?hQ39 ?hy39 ?hS39 ?rest39
  case hi39 => (simp only [List.getElem?_toArray, List.getElem?_cons_succ, List.getElem?_cons_zero]; rfl)
  case hs39 => kernel_rfl
  case hf39 => kernel_rfl
  case hr39 => kernel_rfl
  case hQ39 => exact (fun _ _ _ h => h)
  case hS39 => assumption
  case hy39 => (refine Or.inl ⟨by rfl, ?_⟩; intro w hSw; (try dsimp only at hSw); go_simp; try with_reducible rfl)
  (try simp only [Act.put, List.setIfInBounds_toArray, List.set_cons_zero, List.set_cons_succ])
  refine wpAnyH_take (i := 5) (oi := ?oi40) (v := ?v40) ?hi40 ?hs40 ?hf40 ?hr40 ?hQ40 ?hy40 ?hS40 ?rest40
  case hi40 => (simp only [List.getElem?_toArray, List.getElem?_cons_succ, List.getElem?_cons_zero]; rfl)
  case hs40 => kernel_rfl
  case hf40 => kernel_rfl
  case hr40 => kernel_rfl
  case hQ40 => exact (fun _ _ _ h => h)
  case hS40 => assumption
  case hy40 => (refine Or.inl ⟨by rfl, ?_⟩; intro w hSw; (try dsimp only at hSw); go_simp; try with_reducible rfl)
  (try simp only [Act.put, List.setIfInBounds_toArray, List.set_cons_zero, List.set_cons_succ])
  refine wpAnyH_take (i := 6) (oi := ?oi41) (v := ?v41) ?hi41 ?hs41 ?hf41 ?hr41 ?hQ41 ?hy41 ?hS41 ?rest41
  case hi41 => (simp only [List.getElem?_toArray, List.getElem?_cons_succ, List.getElem?_cons_zero]; rfl)
  case hs41 => kernel_rfl
  case hf41 => kernel_rfl
  case hr41 => kernel_rfl
  case hQ41 => exact (fun _ _ _ h => h)
  case hS41 => assumption
  case hy41 => (refine Or.inl ⟨by rfl, ?_⟩; intro w hSw; (try dsimp only at hSw); go_simp; try with_reducible rfl)
  (try simp only [Act.put, List.setIfInBounds_toArray, List.set_cons_zero, List.set_cons_succ])
  refine wpAnyH_take (i := 7) (oi := ?oi42) (v := ?v42) ?hi42 ?hs42 ?hf42 ?hr42 ?hQ42 ?hy42 ?hS42 ?rest42
  case hi42 => (simp only [List.getElem?_toArray, List.getElem?_cons_succ, List.getElem?_cons_zero]; rfl)
  case hs42 => kernel_rfl
  case hf42 => kernel_rfl
  case hr42 => kernel_rfl
  case hQ42 => exact (fun _ _ _ h => h)
  case hS42 => assumption
  case hy42 => (refine Or.inl ⟨by rfl, ?_⟩; intro w hSw; (try dsimp only at hSw); go_simp; try with_reducible rfl)
  (try simp only [Act.put, List.setIfInBounds_toArray, List.set_cons_zero, List.set_cons_succ])
  refine wpAnyH_take (i := 8) (oi := ?oi43) (v := ?v43) ?hi43 ?hs43 ?hf43 ?hr43 ?hQ43 ?hy43 ?hS43 ?rest43
  case hi43 => (simp only [List.getElem?_toArray, List.getElem?_cons_succ, List.getElem?_cons_zero]; rfl)
  case hs43 => kernel_rfl
  case hf43 => kernel_rfl
  case hr43 => kernel_rfl
  case hQ43 => exact (fun _ _ _ h => h)
  case hS43 => assumption
  case hy43 => (refine Or.inl ⟨by rfl, ?_⟩; intro w hSw; (try dsimp only at hSw); go_simp; try with_reducible rfl)
  (try simp only [Act.put, List.setIfInBounds_toArray, List.set_cons_zero, List.set_cons_succ])
  refine wpAnyH_take (i := 9) (oi := ?oi44) (v := ?v44) ?hi44 ?hs44 ?hf44 ?hr44 ?hQ44 ?hy44 ?hS44 ?rest44
  case hi44 => (simp only [List.getElem?_toArray, List.getElem?_cons_succ, List.getElem?_cons_zero]; rfl)
  case hs44 => kernel_rfl
  case hf44 => kernel_rfl
  case hr44 => kernel_rfl
  case hQ44 => exact (fun _ _ _ h => h)
  case hS44 => assumption
  case hy44 => (refine Or.inl ⟨by rfl, ?_⟩; intro w hSw; (try dsimp only at hSw); go_simp; try with_reducible rfl)
  (try simp only [Act.put, List.setIfInBounds_toArray, List.set_cons_zero, List.set_cons_succ])
  refine wpAnyH_take (i := 10) (oi := ?oi45) (v := ?v45) ?hi45 ?hs45 ?hf45 ?hr45 ?hQ45 ?hy45 ?hS45 ?rest45
  case hi45 => (simp only [List.getElem?_toArray, List.getElem?_cons_succ, List.getElem?_cons_zero]; rfl)
  case hs45 => kernel_rfl
  case hf45 => kernel_rfl
  case hr45 => kernel_rfl
  case hQ45 => exact (fun _ _ _ h => h)
  case hS45 => assumption
  case hy45 => (refine Or.inl ⟨by rfl, ?_⟩; intro w hSw; (try dsimp only at hSw); go_simp; try with_reducible rfl)
  (try simp only [Act.put, List.setIfInBounds_toArray, List.set_cons_zero, List.set_cons_succ])
  refine wpAnyH_take (i := 11) (oi := ?oi46) (v := ?v46) ?hi46 ?hs46 ?hf46 ?hr46 ?hQ46 ?hy46 ?hS46 ?rest46
  case hi46 => (simp only [List.getElem?_toArray, List.getElem?_cons_succ, List.getElem?_cons_zero]; rfl)
  case hs46 => kernel_rfl
  case hf46 => kernel_rfl
  case hr46 => kernel_rfl
  case hQ46 => exact (fun _ _ _ h => h)
  case hS46 => assumption
  case hy46 => (refine Or.inl ⟨by rfl, ?_⟩; intro w hSw; (try dsimp only at hSw); go_simp; try with_reducible rfl)
  (try simp only [Act.put, List.setIfInBounds_toArray, List.set_cons_zero, List.set_cons_succ])
  refine wpAnyH_take (i := 12) (oi := ?oi47) (v := ?v47) ?hi47 ?hs47 ?hf47 ?hr47 ?hQ47 ?hy47 ?hS47 ?rest47
  case hi47 => (simp only [List.getElem?_toArray, List.getElem?_cons_succ, List.getElem?_cons_zero]; rfl)
  case hs47 => kernel_rfl
  case hf47 => kernel_rfl
  case hr47 => kernel_rfl
  case hQ47 => exact (fun _ _ _ h => h)
  case hS47 => assumption
  case hy47 => (refine Or.inl ⟨by rfl, ?_⟩; intro w hSw; (try dsimp only at hSw); go_simp; try with_reducible rfl)
  (try simp only [Act.put, List.setIfInBounds_toArray, List.set_cons_zero, List.set_cons_succ])
  refine wpAnyH_take (i := 13) (oi := ?oi48) (v := ?v48) ?hi48 ?hs48 ?hf48 ?hr48 ?hQ48 ?hy48 ?hS48 ?rest48
  case hi48 => (simp only [List.getElem?_toArray, List.getElem?_cons_succ, List.getElem?_cons_zero]; rfl)
  case hs48 => kernel_rfl
  case hf48 => kernel_rfl
  case hr48 => kernel_rfl
  case hQ48 => exact (fun _ _ _ h => h)
  case hS48 => assumption
  case hy48 => (refine Or.inl ⟨by rfl, ?_⟩; intro w hSw; (try dsimp only at hSw); go_simp; try with_reducible rfl)
  (try simp only [Act.put, List.setIfInBounds_toArray, List.set_cons_zero, List.set_cons_succ])
  refine wpAnyH_take (i := 14) (oi := ?oi49) (v := ?v49) ?hi49 ?hs49 ?hf49 ?hr49 ?hQ49 ?hy49 ?hS49 ?rest49
  case hi49 => (simp only [List.getElem?_toArray, List.getElem?_cons_succ, List.getElem?_cons_zero]; rfl)
  case hs49 => kernel_rfl
  case hf49 => kernel_rfl
  case hr49 => kernel_rfl
  case hQ49 => exact (fun _ _ _ h => h)
  case hS49 => assumption
  case hy49 => (refine Or.inl ⟨by rfl, ?_⟩; intro w hSw; (try dsimp only at hSw); go_simp; try with_reducible rfl)
  (try simp only [Act.put, List.setIfInBounds_toArray, List.set_cons_zero, List.set_cons_succ])
  refine wpAnyH_take (i := 16) (oi := ?oi50) (v := ?v50) ?hi50 ?hs50 ?hf50 ?hr50 ?hQ50 ?hy50 ?hS50 ?rest50
  case hi50 => (simp only [List.getElem?_toArray, List.getElem?_cons_succ, List.getElem?_cons_zero]; rfl)
  case hs50 => kernel_rfl
  case hf50 => kernel_rfl
  case hr50 => kernel_rfl
  case hQ50 => exact (fun _ _ _ h => h)
  case hS50 => assumption
  case hy50 => (refine Or.inl ⟨by rfl, ?_⟩; intro w hSw; (try dsimp only at hSw); go_simp; try with_reducible rfl)
  (try simp only [Act.put, List.setIfInBounds_toArray, List.set_cons_zero, List.set_cons_succ])
  refine wpAnyH_take (i := 17) (oi := ?oi51) (v := ?v51) ?hi51 ?hs51 ?hf51 ?hr51 ?hQ51 ?hy51 ?hS51 ?rest51
  case hi51 => (simp only [List.getElem?_toArray, List.getElem?_cons_succ, List.getElem?_cons_zero]; rfl)
  case hs51 => kernel_rfl
  case hf51 => kernel_rfl
  case hr51 => kernel_rfl
  case hQ51 => exact (fun _ _ _ h => h)
  case hS51 => assumption
  case hy51 => (refine Or.inl ⟨by rfl, ?_⟩; intro w hSw; (try dsimp only at hSw); go_simp; try with_reducible rfl)
  (try simp only [Act.put, List.setIfInBounds_toArray, List.set_cons_zero, List.set_cons_succ])
  refine wpAnyH_take (i := 18) (oi := ?oi52) (v := ?v52) ?hi52 ?hs52 ?hf52 ?hr52 ?hQ52 ?hy52 ?hS52 ?rest52
  case hi52 => (simp only [List.getElem?_toArray, List.getElem?_cons_succ, List.getElem?_cons_zero]; rfl)
  case hs52 => kernel_rfl
  case hf52 => kernel_rfl
  case hr52 => kernel_rfl
  case hQ52 => exact (fun _ _ _ h => h)
  case hS52 => assumption
  case hy52 => (refine Or.inl ⟨by rfl, ?_⟩; intro w hSw; (try dsimp only at hSw); go_simp; try with_reducible rfl)
  (try simp only [Act.put, List.setIfInBounds_toArray, List.set_cons_zero, List.set_cons_succ])
  refine wpAnyH_take (i := 19) (oi := ?oi53) (v := ?v53) ?hi53 ?hs53 ?hf53 ?hr53 ?hQ53 ?hy53 ?hS53 ?rest53
  case hi53 => (simp only [List.getElem?_toArray, List.getElem?_cons_succ, List.getElem?_cons_zero]; rfl)
  case hs53 => kernel_rfl
  case hf53 => kernel_rfl
  case hr53 => kernel_rfl
  case hQ53 => exact (fun _ _ _ h => h)
  case hS53 => assumption
  case hy53 => (refine Or.inl ⟨by rfl, ?_⟩; intro w hSw; (try dsimp only at hSw); go_simp; try with_reducible rfl)
  (try simp only [Act.put, List.setIfInBounds_toArray, List.set_cons_zero, List.set_cons_succ])
  refine wpAnyH_take (i := 20) (oi := ?oi54) (v := undef) ?hi54 ?hs54 ?hf54 ?hr54 ?hQ54 ?hy54 ?hS54 ?rest54
  case hi54 => (simp only [List.getElem?_toArray, List.getElem?_cons_succ, List.getElem?_cons_zero]; rfl)
  case hs54 => kernel_rfl
  case hf54 => kernel_rfl
  case hr54 => kernel_rfl
  case hQ54 => exact (fun _ _ _ h => h)
  case hS54 => assumption
  case hy54 => exact Or.inr ⟨by rfl, rfl⟩
  (try simp only [Act.put, List.setIfInBounds_toArray, List.set_cons_zero, List.set_cons_succ])
  refine wpAnyH_take (i := 21) (oi := ?oi55) (v := undef) ?hi55 ?hs55 ?hf55 ?hr55 ?hQ55 ?hy55 ?hS55 ?rest55
  case hi55 => (simp only [List.getElem?_toArray, List.getElem?_cons_succ, List.getElem?_cons_zero]; rfl)
  case hs55 => kernel_rfl
  case hf55 => kernel_rfl
  case hr55 => kernel_rfl
  case hQ55 => exact (fun _ _ _ h => h)
  case hS55 => assumption
  case hy55 => exact Or.inr ⟨by rfl, rfl⟩
  (try simp only [Act.put, List.setIfInBounds_toArray, List.set_cons_zero, List.set_cons_succ])
  refine wpAnyH_take (i := 22) (oi := ?oi56) (v := undef) ?hi56 ?hs56 ?hf56 ?hr56 ?hQ56 ?hy56 ?hS56 ?rest56
  case hi56 => (simp only [List.getElem?_toArray, List.getElem?_cons_succ, List.getElem?_cons_zero]; rfl)
  case hs56 => kernel_rfl
  case hf56 => kernel_rfl
  case hr56 => kernel_rfl
  case hQ56 => exact (fun _ _ _ h => h)
  case hS56 => assumption
  case hy56 => exact Or.inr ⟨by rfl, rfl⟩
  (try simp only [Act.put, List.setIfInBounds_toArray, List.set_cons_zero, List.set_cons_succ])
  refine wpAnyH_take (i := 23) (oi := ?oi57) (v := undef) ?hi57 ?hs57 ?hf57 ?hr57 ?hQ57 ?hy57 ?hS57 ?rest57
  case hi57 => (simp only [List.getElem?_toArray, List.getElem?_cons_succ, List.getElem?_cons_zero]; rfl)
  case hs57 => kernel_rfl
  case hf57 => kernel_rfl
  case hr57 => kernel_rfl
  case hQ57 => exact (fun _ _ _ h => h)
  case hS57 => assumption
  case hy57 => exact Or.inr ⟨by rfl, rfl⟩
  (try simp only [Act.put, List.setIfInBounds_toArray, List.set_cons_zero, List.set_cons_succ])
  refine wpAnyH_take (i := 24) (oi := ?oi58) (v := undef) ?hi58 ?hs58 ?hf58 ?hr58 ?hQ58 ?hy58 ?hS58 ?rest58
  case hi58 => (simp only [List.getElem?_toArray, List.getElem?_cons_succ, List.getElem?_cons_zero]; rfl)
  case hs58 => kernel_rfl
  case hf58 => kernel_rfl
  case hr58 => kernel_rfl
  case hQ58 => exact (fun _ _ _ h => h)
  case hS58 => assumption
  case hy58 => exact Or.inr ⟨by rfl, rfl⟩
  (try simp only [Act.put, List.setIfInBounds_toArray, List.set_cons_zero, List.set_cons_succ])
  refine wpAnyH_take (i := 25) (oi := ?oi59) (v := undef) ?hi59 ?hs59 ?hf59 ?hr59 ?hQ59 ?hy59 ?hS59 ?rest59
  case hi59 => (simp only [List.getElem?_toArray, List.getElem?_cons_succ, List.getElem?_cons_zero]; rfl)
  case hs59 => kernel_rfl
  case hf59 => kernel_rfl
  case hr59 => kernel_rfl
  case hQ59 => exact (fun _ _ _ h => h)
  case hS59 => assumption
  case hy59 => exact Or.inr ⟨by rfl, rfl⟩
  (try simp only [Act.put, List.setIfInBounds_toArray, List.set_cons_zero, List.set_cons_succ])
  refine wpAnyH_take (i := 26) (oi := ?oi60) (v := ?v60) ?hi60 ?hs60 ?hf60 ?hr60 ?hQ60 ?hy60 ?hS60 ?rest60
  case hi60 => (simp only [List.getElem?_toArray, List.getElem?_cons_succ, List.getElem?_cons_zero]; rfl)
  case hs60 => kernel_rfl
  case hf60 => kernel_rfl
  case hr60 => kernel_rfl
  case hQ60 => exact (fun _ _ _ h => h)
  case hS60 => assumption
  case hy60 => (refine Or.inl ⟨by rfl, ?_⟩; intro w hSw; (try dsimp only at hSw); go_simp; try with_reducible rfl)
  (try simp only [Act.put, List.setIfInBounds_toArray, List.set_cons_zero, List.set_cons_succ])
  refine wpAnyH_ready (rs := [0]) (by kernel_rfl) (by simp) ?_
  refine AllReadyH.cons rfl (fun K hK => ?_) ?_
  · go_simp
    refine hK.out _ _ ?_ (fun hHeld2 => ?_)
    · (first | exact ⟨c2, c3⟩ | exact ⟨HK2.out _, HK3.out _⟩)
    · clear hK K hHeld
      have hHeld := hHeld2; clear hHeld2
      (try simp only [Act.put, List.setIfInBounds_toArray, List.set_cons_zero, List.set_cons_succ])
      refine wpAnyH_ready (rs := [2, 15, 27]) (by kernel_rfl) (by simp) ?_
      refine AllReadyH.cons rfl (fun K hK => ?_) ?_
      · go_simp
        refine hK.out _ _ ?_ (fun hHeld2 => ?_)
        · (first | exact ⟨c2, c3⟩ | exact ⟨HK2.out _, HK3.out _⟩)
        · clear hK K hHeld
          have hHeld := hHeld2; clear hHeld2
          (try simp only [Act.put, List.setIfInBounds_toArray, List.set_cons_zero, List.set_cons_succ])
          refine wpAnyH_ready (rs := [15, 27]) (by kernel_rfl) (by simp) ?_
          refine AllReadyH.cons rfl (fun K hK => ?_) ?_
          · go_simp
            refine hK.out _ _ ?_ (fun hHeld2 => ?_)
            · (first | exact ⟨c2, c3⟩ | exact ⟨HK2.out _, HK3.out _⟩)
            · clear hK K hHeld
              have hHeld := hHeld2; clear hHeld2
              (try simp only [Act.put, List.setIfInBounds_toArray, List.set_cons_zero, List.set_cons_succ])
              refine wpAnyH_ready (rs := [27]) (by kernel_rfl) (by simp) ?_
              refine AllReadyH.cons rfl (fun K hK => ?_) ?_
              · go_simp
                refine hK.out _ _ ?_ (fun hHeld2 => ?_)
                · (first | exact ⟨c2, c3⟩ | exact ⟨HK2.out _, HK3.out _⟩)
                · clear hK K hHeld
                  have hHeld := hHeld2; clear hHeld2
                  (try simp only [Act.put, List.setIfInBounds_toArray, List.set_cons_zero, List.set_cons_succ])
                  refine wpAnyH_take (i := 28) (oi := ?oi61) (v := ?v61) ?hi61 ?hs61 ?hf61 ?hr61 ?hQ61 ?hy61 ?hS61 ?rest61
                  case hi61 => (simp only [List.getElem?_toArray, List.getElem?_cons_succ, List.getElem?_cons_zero]; rfl)
                  case hs61 => kernel_rfl
                  case hf61 => kernel_rfl
                  case hr61 => kernel_rfl
                  case hQ61 => exact (fun _ _ _ h => h)
                  case hS61 => assumption
                  case hy61 => (refine Or.inl ⟨by rfl, ?_⟩; intro w hSw; (try dsimp only at hSw); go_simp; try with_reducible rfl)
                  (try simp only [Act.put, List.setIfInBounds_toArray, List.set_cons_zero, List.set_cons_succ])
                  refine wpAnyH_take (i := 29) (oi := ?oi62) (v := ?v62) ?hi62 ?hs62 ?hf62 ?hr62 ?hQ62 ?hy62 ?hS62 ?rest62
                  case hi62 => (simp only [List.getElem?_toArray, List.getElem?_cons_succ, List.getElem?_cons_zero]; rfl)
                  case hs62 => kernel_rfl
                  case hf62 => kernel_rfl
                  case hr62 => kernel_rfl
                  case hQ62 => exact (fun _ _ _ h => h)
                  case hS62 => assumption
                  case hy62 => (refine Or.inl ⟨by rfl, ?_⟩; intro w hSw; (try dsimp only at hSw); go_simp; try with_reducible rfl)
                  (try simp only [Act.put, List.setIfInBounds_toArray, List.set_cons_zero, List.set_cons_succ])
                  refine wpAnyH_done (by kernel_rfl) ?_ _
                  clear i1 i21 i231 i31 i321 i2 i12 i132 i32 i312 i3 i13 i123 i23 i213
                  have q1 := look123 w1; have q2 := look132 w1; have q3 := look213 w1; have q4 := look231 w1; have q5 := look312 w1; have q6 := look321 w1
                  have k0 := HK0.out; have k1 := HK1.out
                  clear hHeld
                  cases hk : keyL key.data.toList
                  · have HK := Lib.hid hk; clear hk
                    go_wp2_with (go_at_call 47; refine (key_calls _ _ HOK.out.2.2.1).mono ?_; rw [HK.out]; rintro e w' ⟨rfl, rfl⟩)
                    go_ret
                    exact ⟨ret_bool (by rw [rightB_eq, HK.out]; rfl), (H2.out.trans ((Below.refl _ w1).alloc (Nat.le_refl _) _)).drew⟩
                  · have HK := Lib.hid hk; clear hk
                    go_wp2_with (go_at_call 47; refine (key_calls _ _ HOK.out.2.2.1).mono ?_; rw [HK.out]; rintro e w' ⟨rfl, rfl⟩)
                    go_ret
                    exact ⟨ret_bool (by rw [rightB_eq, HK.out, F1.out, F2.out, F3.out]; rfl), (H2.out.trans ((Below.refl _ w1).alloc (Nat.le_refl _) _)).drew⟩
              exact AllReadyH.nil
          refine AllReadyH.cons rfl (fun K hK => ?_) ?_
          · go_simp
            refine hK.out _ _ ?_ (fun hHeld2 => ?_)
            · (first | exact ⟨c2, c3⟩ | exact ⟨HK2.out _, HK3.out _⟩)
            · clear hK K hHeld
              have hHeld := hHeld2; clear hHeld2
              (try simp only [Act.put, List.setIfInBounds_toArray, List.set_cons_zero, List.set_cons_succ])
              refine wpAnyH_ready (rs := [15]) (by kernel_rfl) (by simp) ?_
              refine AllReadyH.cons rfl (fun K hK => ?_) ?_
              · go_simp
                refine hK.out _ _ ?_ (fun hHeld2 => ?_)
                · (first | exact ⟨c2, c3⟩ | exact ⟨HK2.out _, HK3.out _⟩)
                · clear hK K hHeld
                  have hHeld := hHeld2; clear hHeld2
                  (try simp only [Act.put, List.setIfInBounds_toArray, List.set_cons_zero, List.set_cons_succ])
                  refine wpAnyH_take (i := 28) (oi := ?oi63) (v := ?v63) ?hi63 ?hs63 ?hf63 ?hr63 ?hQ63 ?hy63 ?hS63 ?rest63
                  case hi63 => (simp only [List.getElem?_toArray, List.getElem?_cons_succ, List.getElem?_cons_zero]; rfl)
                  case hs63 => kernel_rfl
                  case hf63 => kernel_rfl
                  case hr63 => kernel_rfl
                  case hQ63 => exact (fun _ _ _ h => h)
                  case hS63 => assumption
                  case hy63 => (refine Or.inl ⟨by rfl, ?_⟩; intro w hSw; (try dsimp only at hSw); go_simp; try with_reducible rfl)
                  (try simp only [Act.put, List.setIfInBounds_toArray, List.set_cons_zero, List.set_cons_succ])
                  refine wpAnyH_take (i := 29) (oi := ?oi64) (v := ?v64) ?hi64 ?hs64 ?hf64 ?hr64 ?hQ64 ?hy64 ?hS64 ?rest64
                  case hi64 => (simp only [List.getElem?_toArray, List.getElem?_cons_succ, List.getElem?_cons_zero]; rfl)
                  case hs64 => kernel_rfl
                  case hf64 => kernel_rfl
                  case hr64 => kernel_rfl
                  case hQ64 => exact (fun _ _ _ h => h)
                  case hS64 => assumption
                  case hy64 => (refine Or.inl ⟨by rfl, ?_⟩; intro w hSw; (try dsimp only at hSw); go_simp; try with_reducible rfl)
                  (try simp only [Act.put, List.setIfInBounds_toArray, List.set_cons_zero, List.set_cons_succ])
                  refine wpAnyH_done (by kernel_rfl) ?_ _
                  clear i1 i21 i231 i31 i321 i2 i12 i132 i32 i312 i3 i13 i123 i23 i213
                  have q1 := look123 w1; have q2 := look132 w1; have q3 := look213 w1; have q4 := look231 w1; have q5 := look312 w1; have q6 := look321 w1
                  have k0 := HK0.out; have k1 := HK1.out
                  clear hHeld
                  cases hk : keyL key.data.toList
                  · have HK := Lib.hid hk; clear hk
                    go_wp2_with (go_at_call 47; refine (key_calls _ _ HOK.out.2.2.1).mono ?_; rw [HK.out]; rintro e w' ⟨rfl, rfl⟩)
                    go_ret
                    exact ⟨ret_bool (by rw [rightB_eq, HK.out]; rfl), (H2.out.trans ((Below.refl _ w1).alloc (Nat.le_refl _) _)).drew⟩
                  · have HK := Lib.hid hk; clear hk
                    go_wp2_with (go_at_call 47; refine (key_calls _ _ HOK.out.2.2.1).mono ?_; rw [HK.out]; rintro e w' ⟨rfl, rfl⟩)
                    go_ret
                    exact ⟨ret_bool (by rw [rightB_eq, HK.out, F1.out, F2.out, F3.out]; rfl), (H2.out.trans ((Below.refl _ w1).alloc (Nat.le_refl _) _)).drew⟩
              exact AllReadyH.nil
          exact AllReadyH.nil
      refine AllReadyH.cons rfl (fun K hK => ?_) ?_
      · go_simp
        refine hK.out _ _ ?_ (fun hHeld2 => ?_)
        · (first | exact ⟨c2, c3⟩ | exact ⟨HK2.out _, HK3.out _⟩)
        · clear hK K hHeld
          have hHeld := hHeld2; clear hHeld2
          (try simp only [Act.put, List.setIfInBounds_toArray, List.set_cons_zero, List.set_cons_succ])
          refine wpAnyH_ready (rs := [2, 27]) (by kernel_rfl) (by simp) ?_
          refine AllReadyH.cons rfl (fun K hK => ?_) ?_
          · go_simp
            refine hK.out _ _ ?_ (fun hHeld2 => ?_)
            · (first | exact ⟨c2, c3⟩ | exact ⟨HK2.out _, HK3.out _⟩)
            · clear hK K hHeld
              have hHeld := hHeld2; clear hHeld2
              (try simp only [Act.put, List.setIfInBounds_toArray, List.set_cons_zero, List.set_cons_succ])
              refine wpAnyH_ready (rs := [27]) (by kernel_rfl) (by simp) ?_
              refine AllReadyH.cons rfl (fun K hK => ?_) ?_
              · go_simp
                refine hK.out _ _ ?_ (fun hHeld2 => ?_)
                · (first | exact ⟨c2, c3⟩ | exact ⟨HK2.out _, HK3.out _⟩)
                · clear hK K hHeld
                  have hHeld := hHeld2; clear hHeld2
                  (try simp only [Act.put, List.setIfInBounds_toArray, List.set_cons_zero, List.set_cons_succ])
                  refine wpAnyH_take (i := 28) (oi := ?oi65) (v := ?v65) ?hi65 ?hs65 ?hf65 ?hr65 ?hQ65 ?hy65 ?hS65 ?rest65
                  case hi65 => (simp only [List.getElem?_toArray, List.getElem?_cons_succ, List.getElem?_cons_zero]; rfl)
                  case hs65 => kernel_rfl
                  case hf65 => kernel_rfl
                  case hr65 => kernel_rfl
                  case hQ65 => exact (fun _ _ _ h => h)
                  case hS65 => assumption
                  case hy65 => (refine Or.inl ⟨by rfl, ?_⟩; intro w hSw; (try dsimp only at hSw); go_simp; try with_reducible rfl)
                  (try simp only [Act.put, List.setIfInBounds_toArray, List.set_cons_zero, List.set_cons_succ])
                  refine wpAnyH_take (i := 29) (oi := ?oi66) (v := ?v66) ?hi66 ?hs66 ?hf66 ?hr66 ?hQ66 ?hy66 ?hS66 ?rest66
                  case hi66 => (simp only [List.getElem?_toArray, List.getElem?_cons_succ, List.getElem?_cons_zero]; rfl)
                  case hs66 => kernel_rfl
                  case hf66 => kernel_rfl
                  case hr66 => kernel_rfl
                  case hQ66 => exact (fun _ _ _ h => h)
                  case hS66 => assumption
                  case hy66 => (refine Or.inl ⟨by rfl, ?_⟩; intro w hSw; (try dsimp only at hSw); go_simp; try with_reducible rfl)
                  (try simp only [Act.put, List.setIfInBounds_toArray, List.set_cons_zero, List.set_cons_succ])
                  refine wpAnyH_done (by kernel_rfl) ?_ _
                  clear i1 i21 i231 i31 i321 i2 i12 i132 i32 i312 i3 i13 i123 i23 i213
                  have q1 := look123 w1; have q2 := look132 w1; have q3 := look213 w1; have q4 := look231 w1; have q5 := look312 w1; have q6 := look321 w1
                  have k0 := HK0.out; have k1 := HK1.out
                  clear hHeld
                  cases hk : keyL key.data.toList
                  · have HK := Lib.hid hk; clear hk
                    go_wp2_with (go_at_call 47; refine (key_calls _ _ HOK.out.2.2.1).mono ?_; rw [HK.out]; rintro e w' ⟨rfl, rfl⟩)
                    go_ret
                    exact ⟨ret_bool (by rw [rightB_eq, HK.out]; rfl), (H2.out.trans ((Below.refl _ w1).alloc (Nat.le_refl _) _)).drew⟩
                  · have HK := Lib.hid hk; clear hk
                    go_wp2_with (go_at_call 47; refine (key_calls _ _ HOK.out.2.2.1).mono ?_; rw [HK.out]; rintro e w' ⟨rfl, rfl⟩)
                    go_ret
                    exact ⟨ret_bool (by rw [rightB_eq, HK.out, F1.out, F2.out, F3.out]; rfl), (H2.out.trans ((Below.refl _ w1).alloc (Nat.le_refl _) _)).drew⟩
              exact AllReadyH.nil
          refine AllReadyH.cons rfl (fun K hK => ?_) ?_
          · go_simp
            refine hK.out _ _ ?_ (fun hHeld2 => ?_)
            · (first | exact ⟨c2, c3⟩ | exact ⟨HK2.out _, HK3.out _⟩)
            · clear hK K hHeld
              have hHeld := hHeld2; clear hHeld2
              (try simp only [Act.put, List.setIfInBounds_toArray, List.set_cons_zero, List.set_cons_succ])
              refine wpAnyH_ready (rs := [2]) (by kernel_rfl) (by simp) ?_
              refine AllReadyH.cons rfl (fun K hK => ?_) ?_
              · go_simp
                refine hK.out _ _ ?_ (fun hHeld2 => ?_)
                · (first | exact ⟨c2, c3⟩ | exact ⟨HK2.out _, HK3.out _⟩)
                · clear hK K hHeld
                  have hHeld := hHeld2; clear hHeld2
                  (try simp only [Act.put, List.setIfInBounds_toArray, List.set_cons_zero, List.set_cons_succ])
                  refine wpAnyH_take (i := 28) (oi := ?oi67) (v := ?v67) ?hi67 ?hs67 ?hf67 ?hr67 ?hQ67 ?hy67 ?hS67 ?rest67
                  case hi67 => (simp only [List.getElem?_toArray, List.getElem?_cons_succ, List.getElem?_cons_zero]; rfl)
                  case hs67 => kernel_rfl
                  case hf67 => kernel_rfl
                  case hr67 => kernel_rfl
                  case hQ67 => exact (fun _ _ _ h => h)
                  case hS67 => assumption
                  case hy67 => (refine Or.inl ⟨by rfl, ?_⟩; intro w hSw; (try dsimp only at hSw); go_simp; try with_reducible rfl)
                  (try simp only [Act.put, List.setIfInBounds_toArray, List.set_cons_zero, List.set_cons_succ])
                  refine wpAnyH_take (i := 29) (oi := ?oi68) (v := ?v68) ?hi68 ?hs68 ?hf68 ?hr68 ?hQ68 ?hy68 ?hS68 ?rest68
                  case hi68 => (simp only [List.getElem?_toArray, List.getElem?_cons_succ, List.getElem?_cons_zero]; rfl)
                  case hs68 => kernel_rfl
                  case hf68 => kernel_rfl
                  case hr68 => kernel_rfl
                  case hQ68 => exact (fun _ _ _ h => h)
                  case hS68 => assumption
                  case hy68 => (refine Or.inl ⟨by rfl, ?_⟩; intro w hSw; (try dsimp only at hSw); go_simp; try with_reducible rfl)
                  (try simp only [Act.put, List.setIfInBounds_toArray, List.set_cons_zero, List.set_cons_succ])
                  refine wpAnyH_done (by kernel_rfl) ?_ _
                  clear i1 i21 i231 i31 i321 i2 i12 i132 i32 i312 i3 i13 i123 i23 i213
                  have q1 := look123 w1; have q2 := look132 w1; have q3 := look213 w1; have q4 := look231 w1; have q5 := look312 w1; have q6 := look321 w1
                  have k0 := HK0.out; have k1 := HK1.out
                  clear hHeld
                  cases hk : keyL key.data.toList
                  · have HK := Lib.hid hk; clear hk
                    go_wp2_with (go_at_call 47; refine (key_calls _ _ HOK.out.2.2.1).mono ?_; rw [HK.out]; rintro e w' ⟨rfl, rfl⟩)
                    go_ret
                    exact ⟨ret_bool (by rw [rightB_eq, HK.out]; rfl), (H2.out.trans ((Below.refl _ w1).alloc (Nat.le_refl _) _)).drew⟩
                  · have HK := Lib.hid hk; clear hk
                    go_wp2_with (go_at_call 47; refine (key_calls _ _ HOK.out.2.2.1).mono ?_; rw [HK.out]; rintro e w' ⟨rfl, rfl⟩)
                    go_ret
                    exact ⟨ret_bool (by rw [rightB_eq, HK.out, F1.out, F2.out, F3.out]; rfl), (H2.out.trans ((Below.refl _ w1).alloc (Nat.le_refl _) _)).drew⟩
              exact AllReadyH.nil
          exact AllReadyH.nil
      refine AllReadyH.cons rfl (fun K hK => ?_) ?_
      · go_simp
        refine hK.out _ _ ?_ (fun hHeld2 => ?_)
        · (first | exact ⟨c2, c3⟩ | exact ⟨HK2.out _, HK3.out _⟩)
        · clear hK K hHeld
          have hHeld := hHeld2; clear hHeld2
          (try simp only [Act.put, List.setIfInBounds_toArray, List.set_cons_zero, List.set_cons_succ])
          refine wpAnyH_ready (rs := [2, 15]) (by kernel_rfl) (by simp) ?_
          refine AllReadyH.cons rfl (fun K hK => ?_) ?_
          · go_simp
            refine hK.out _ _ ?_ (fun hHeld2 => ?_)
            · (first | exact ⟨c2, c3⟩ | exact ⟨HK2.out _, HK3.out _⟩)
            · clear hK K hHeld
              have hHeld := hHeld2; clear hHeld2
              (try simp only [Act.put, List.setIfInBounds_toArray, List.set_cons_zero, List.set_cons_succ])
              refine wpAnyH_ready (rs := [15]) (by kernel_rfl) (by simp) ?_
              refine AllReadyH.cons rfl (fun K hK => ?_) ?_
              · go_simp
                refine hK.out _ _ ?_ (fun hHeld2 => ?_)
                · (first | exact ⟨c2, c3⟩ | exact ⟨HK2.out _, HK3.out _⟩)
                · clear hK K hHeld
                  have hHeld := hHeld2; clear hHeld2
                  (try simp only [Act.put, List.setIfInBounds_toArray, List.set_cons_zero, List.set_cons_succ])
                  refine wpAnyH_take (i := 28) (oi := ?oi69) (v := ?v69) ?hi69 ?hs69 ?hf69 ?hr69 ?hQ69 ?hy69 ?hS69 ?rest69
                  case hi69 => (simp only [List.getElem?_toArray, List.getElem?_cons_succ, List.getElem?_cons_zero]; rfl)
                  case hs69 => kernel_rfl
                  case hf69 => kernel_rfl
                  case hr69 => kernel_rfl
                  case hQ69 => exact (fun _ _ _ h => h)
                  case hS69 => assumption
                  case hy69 => (refine Or.inl ⟨by rfl, ?_⟩; intro w hSw; (try dsimp only at hSw); go_simp; try with_reducible rfl)
                  (try simp only [Act.put, List.setIfInBounds_toArray, List.set_cons_zero, List.set_cons_succ])
                  refine wpAnyH_take (i := 29) (oi := ?oi70) (v := ?v70) ?hi70 ?hs70 ?hf70 ?hr70 ?hQ70 ?hy70 ?hS70 ?rest70
                  case hi70 => (simp only [List.getElem?_toArray, List.getElem?_cons_succ, List.getElem?_cons_zero]; rfl)
                  case hs70 => kernel_rfl
                  case hf70 => kernel_rfl
                  case hr70 => kernel_rfl
                  case hQ70 => exact (fun _ _ _ h => h)
                  case hS70 => assumption
                  case hy70 => (refine Or.inl ⟨by rfl, ?_⟩; intro w hSw; (try dsimp only at hSw); go_simp; try with_reducible rfl)
                  (try simp only [Act.put, List.setIfInBounds_toArray, List.set_cons_zero, List.set_cons_succ])
                  refine wpAnyH_done (by kernel_rfl) ?_ _
                  clear i1 i21 i231 i31 i321 i2 i12 i132 i32 i312 i3 i13 i123 i23 i213
                  have q1 := look123 w1; have q2 := look132 w1; have q3 := look213 w1; have q4 := look231 w1; have q5 := look312 w1; have q6 := look321 w1
                  have k0 := HK0.out; have k1 := HK1.out
                  clear hHeld
                  cases hk : keyL key.data.toList
                  · have HK := Lib.hid hk; clear hk
                    go_wp2_with (go_at_call 47; refine (key_calls _ _ HOK.out.2.2.1).mono ?_; rw [HK.out]; rintro e w' ⟨rfl, rfl⟩)
                    go_ret
                    exact ⟨ret_bool (by rw [rightB_eq, HK.out]; rfl), (H2.out.trans ((Below.refl _ w1).alloc (Nat.le_refl _) _)).drew⟩
                  · have HK := Lib.hid hk; clear hk
                    go_wp2_with (go_at_call 47; refine (key_calls _ _ HOK.out.2.2.1).mono ?_; rw [HK.out]; rintro e w' ⟨rfl, rfl⟩)
                    go_ret
                    exact ⟨ret_bool (by rw [rightB_eq, HK.out, F1.out, F2.out, F3.out]; rfl), (H2.out.trans ((Below.refl _ w1).alloc (Nat.le_refl _) _)).drew⟩
              exact AllReadyH.nil
          refine AllReadyH.cons rfl (fun K hK => ?_) ?_
          · go_simp
            refine hK.out _ _ ?_ (fun hHeld2 => ?_)
            · (first | exact ⟨c2, c3⟩ | exact ⟨HK2.out _, HK3.out _⟩)
            · clear hK K hHeld
              have hHeld := hHeld2; clear hHeld2
              (try simp only [Act.put, List.setIfInBounds_toArray, List.set_cons_zero, List.set_cons_succ])
              refine wpAnyH_ready (rs := [2]) (by kernel_rfl) (by simp) ?_
              refine AllReadyH.cons rfl (fun K hK => ?_) ?_
              · go_simp
                refine hK.out _ _ ?_ (fun hHeld2 => ?_)
                · (first | exact ⟨c2, c3⟩ | exact ⟨HK2.out _, HK3.out _⟩)
                · clear hK K hHeld
                  have hHeld := hHeld2; clear hHeld2
                  (try simp only [Act.put, List.setIfInBounds_toArray, List.set_cons_zero, List.set_cons_succ])
                  refine wpAnyH_take (i := 28) (oi := ?oi71) (v := ?v71) ?hi71 ?hs71 ?hf71 ?hr71 ?hQ71 ?hy71 ?hS71 ?rest71
                  case hi71 => (simp only [List.getElem?_toArray, List.getElem?_cons_succ, List.getElem?_cons_zero]; rfl)
                  case hs71 => kernel_rfl
                  case hf71 => kernel_rfl
                  case hr71 => kernel_rfl
                  case hQ71 => exact (fun _ _ _ h => h)
                  case hS71 => assumption
                  case hy71 => (refine Or.inl ⟨by rfl, ?_⟩; intro w hSw; (try dsimp only at hSw); go_simp; try with_reducible rfl)
                  (try simp only [Act.put, List.setIfInBounds_toArray, List.set_cons_zero, List.set_cons_succ])
                  refine wpAnyH_take (i := 29) (oi := ?oi72) (v := ?v72) ?hi72 ?hs72 ?hf72 ?hr72 ?hQ72 ?hy72 ?hS72 ?rest72
                  case hi72 => (simp only [List.getElem?_toArray, List.getElem?_cons_succ, List.getElem?_cons_zero]; rfl)
                  case hs72 => kernel_rfl
                  case hf72 => kernel_rfl
                  case hr72 => kernel_rfl
                  case hQ72 => exact (fun _ _ _ h => h)
                  case hS72 => assumption
                  case hy72 => (refine Or.inl ⟨by rfl, ?_⟩; intro w hSw; (try dsimp only at hSw); go_simp; try with_reducible rfl)
                  (try simp only [Act.put, List.setIfInBounds_toArray, List.set_cons_zero, List.set_cons_succ])
                  refine wpAnyH_done (by kernel_rfl) ?_ _
                  clear i1 i21 i231 i31 i321 i2 i12 i132 i32 i312 i3 i13 i123 i23 i213
                  have q1 := look123 w1; have q2 := look132 w1; have q3 := look213 w1; have q4 := look231 w1; have q5 := look312 w1; have q6 := look321 w1
                  have k0 := HK0.out; have k1 := HK1.out
                  clear hHeld
                  cases hk : keyL key.data.toList
                  · have HK := Lib.hid hk; clear hk
                    go_wp2_with (go_at_call 47; refine (key_calls _ _ HOK.out.2.2.1).mono ?_; rw [HK.out]; rintro e w' ⟨rfl, rfl⟩)
                    go_ret
                    exact ⟨ret_bool (by rw [rightB_eq, HK.out]; rfl), (H2.out.trans ((Below.refl _ w1).alloc (Nat.le_refl _) _)).drew⟩
                  · have HK := Lib.hid hk; clear hk
                    go_wp2_with (go_at_call 47; refine (key_calls _ _ HOK.out.2.2.1).mono ?_; rw [HK.out]; rintro e w' ⟨rfl, rfl⟩)
                    go_ret
                    exact ⟨ret_bool (by rw [rightB_eq, HK.out, F1.out, F2.out, F3.out]; rfl), (H2.out.trans ((Below.refl _ w1).alloc (Nat.le_refl _) _)).drew⟩
              exact AllReadyH.nil
          exact AllReadyH.nil
      exact AllReadyH.nil
  exact AllReadyH.nil
end Go.Proofs.YtjplmghhleoolaaGreatDoor
