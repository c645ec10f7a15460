/- act.right, one of four cases. -/
import Derived.Test.YtjplmghhleoolaaGreatDoorRightL
namespace Go.Proofs.YtjplmghhleoolaaGreatDoor
open Go.RowKit
set_option maxRecDepth 100000 in
set_option maxHeartbeats 4000000 in
theorem right_D (a : ActD) (w : World) (hok : a.ok) (hE : ¬ a.value.data.toList = []) (hA : a.value.size ≤ 20) (hX : textL a.value.data.toList = false) :
    Calls Tryz.prog 35 #[.agg (encAct a).toArray] w fun e w' => e = .returned (.bool (rightB a)) ∧ Ext w w' := by
  obtain ⟨kd, key, val, num⟩ := a
  simp only at hE hA hX
  unfold encAct
  have hem : val.toList.isEmpty = false := by
    rw [Lib.toList_data]
    cases h : val.data.toList with
    | nil => exact absurd h hE
    | cons a r => rfl
  have hvs : val.size ≤ 140737488351232 := hok.2.2.2.1
  have F1 : Hid (decide (val.data.toList = []) = false) := Lib.hid (by simpa using hE)
  have hz : val.size ≤ 20 := hA
  have hg : decide ((val.size : Int) ≤ 20) = true := by simp; omega
  have hT : (Lib.trimS val.data.toList [97, 98, 99, 100, 101, 102, 103, 104, 105, 106, 107, 108, 109, 110, 111, 112, 113, 114, 115, 116, 117, 118, 119, 120, 121, 122, 48, 49, 50, 51, 52, 53, 54, 55, 56, 57, 45]).isEmpty = false := by
    have h := hX
    unfold textL alnumL at h
    simp only [decide_eq_false_iff_not] at h
    cases hh : Lib.trimS val.data.toList [97, 98, 99, 100, 101, 102, 103, 104, 105, 106, 107, 108, 109, 110, 111, 112, 113, 114, 115, 116, 117, 118, 119, 120, 121, 122, 48, 49, 50, 51, 52, 53, 54, 55, 56, 57, 45] with
    | nil => exact absurd hh h
    | cons a r => rfl
  have F2 : Hid (decide (val.data.toList.length ≤ 20) = true) := Lib.hid (by have := Lib.size_eq val; simp; omega)
  have F3 : Hid (textL val.data.toList = false) := Lib.hid hX
  have HOK := Lib.hid hok; clear hE hok hA hX
  have hmm := @run_makeMap Tryz.prog
  go_enter Tryz.func35, Tryz.ntmps35
  go_wp2_with (first
    | (go_at_call 40; refine (trim_calls _ _ _ (by omega) (by decide) (by decide)).mono ?_; rintro e w1 ⟨rfl, hx1⟩; have X1 := Lib.hid hx1; clear hx1))
  have hbox := (Blk.new w [.int .u8 kd, .string key, .string val, .int .i64 num] 51).ext' X1.out
  have hx : Ext w w1 := Ext.trans (b := w.alloc (.cells #[.int .u8 kd, .string key, .string val, .int .i64 num] 51)) ((Below.refl _ w).alloc (Nat.le_refl _) _) X1.out
  have hN := hbox.lt
  generalize w.heap.size = N at *
  have c2 := hbox.cell 2; have c3 := hbox.cell 3
  simp only [List.getElem?_cons_zero, List.getElem?_cons_succ] at c2 c3
  have hk2 : ∀ o, ((w1.alloc o).drew).cell? ⟨N, 2, none⟩ = some (.string val) := fun o => (World.cell?_alloc_past o N 2 hN).trans c2
  have hk3 : ∀ o, ((w1.alloc o).drew).cell? ⟨N, 3, none⟩ = some (.int .i64 num) := fun o => (World.cell?_alloc_past o N 3 hN).trans c3
  have c1 := hbox.cell 1; have c0 := hbox.cell 0
  simp only [List.getElem?_cons_zero, List.getElem?_cons_succ] at c1 c0
  have hk0 : ∀ o, ((w1.alloc o).drew).cell? ⟨N, 0, none⟩ = some (.int .u8 kd) := fun o => (World.cell?_alloc_past o N 0 hN).trans c0
  have hk1 : ∀ o, ((w1.alloc o).drew).cell? ⟨N, 1, none⟩ = some (.string key) := fun o => (World.cell?_alloc_past o N 1 hN).trans c1
  have HK0 := Lib.hid hk0; have HK1 := Lib.hid hk1; clear hk0 hk1 c0 c1
  have HK2 := Lib.hid hk2; have HK3 := Lib.hid hk3; clear hk2 hk3
  have H1 := Lib.hid hbox; have H2 := Lib.hid hx
  clear hbox hx X1
  have hins := fun (es : List MapEntry) (c : Nat) (k : Int) (v : Value) (hf : Instr.findNow (.int .u8) (.int .u8 k) es 0 = some none) => run_mapUpdate_drew (P := Tryz.prog) Tryz.underlying78 Tryz.underlying49 rfl w1 _ rfl es c (.int .u8 k) v hf
  have i1 := fun (v : Value) => hins [] 0 1 v rfl
  have i21 := fun (a v : Value) => hins [⟨.int .u8 2, a, 0⟩] 1 1 v rfl
  have i231 := fun (a b v : Value) => hins [⟨.int .u8 2, a, 0⟩, ⟨.int .u8 3, b, 1⟩] 2 1 v rfl
  have i31 := fun (a v : Value) => hins [⟨.int .u8 3, a, 0⟩] 1 1 v rfl
  have i321 := fun (a b v : Value) => hins [⟨.int .u8 3, a, 0⟩, ⟨.int .u8 2, b, 1⟩] 2 1 v rfl
  have i2 := fun (v : Value) => hins [] 0 2 v rfl
  have i12 := fun (a v : Value) => hins [⟨.int .u8 1, a, 0⟩] 1 2 v rfl
  have i132 := fun (a b v : Value) => hins [⟨.int .u8 1, a, 0⟩, ⟨.int .u8 3, b, 1⟩] 2 2 v rfl
  have i32 := fun (a v : Value) => hins [⟨.int .u8 3, a, 0⟩] 1 2 v rfl
  have i312 := fun (a b v : Value) => hins [⟨.int .u8 3, a, 0⟩, ⟨.int .u8 1, b, 1⟩] 2 2 v rfl
  have i3 := fun (v : Value) => hins [] 0 3 v rfl
  have i13 := fun (a v : Value) => hins [⟨.int .u8 1, a, 0⟩] 1 3 v rfl
  have i123 := fun (a b v : Value) => hins [⟨.int .u8 1, a, 0⟩, ⟨.int .u8 2, b, 1⟩] 2 3 v rfl
  have i23 := fun (a v : Value) => hins [⟨.int .u8 2, a, 0⟩] 1 3 v rfl
  have i213 := fun (a b v : Value) => hins [⟨.int .u8 2, a, 0⟩, ⟨.int .u8 1, b, 1⟩] 2 3 v rfl
  clear hins
  simp only [List.cons_append, List.nil_append, Nat.reduceAdd] at i1 i21 i231 i31 i321 i2 i12 i132 i32 i312 i3 i13 i123 i23 i213
  refine wp_region_held_drew (S := fun W => W.cell? ⟨N, 2, none⟩ = some (.string val) ∧ W.cell? ⟨N, 3, none⟩ = some (.int .i64 num)) (by kernel_rfl) ?_ (fun hHeld => ?_)
  · exact ⟨c2, c3⟩
  refine wpAnyH_take (i := 1) (oi := ?oi73) (v := ?v73) ?hi73 ?hs73 ?hf73 ?hr73 ?hQ73 ?hy73 ?hS73 ?rest73
  case hi73 => (simp only [List.getElem?_toArray, List.getElem?_cons_succ, List.getElem?_cons_zero]; rfl)
  case hs73 => kernel_rfl
  case hf73 => kernel_rfl
  case hr73 => kernel_rfl
  case hQ73 => exact (fun _ _ _ h => h)
  case hS73 => assumption
  case hy73 => (refine Or.inl ⟨by rfl, ?_⟩; intro w hSw; (try dsimp only at hSw); go_simp; try with_reducible rfl)
  (try simp only [Act.put, List.setIfInBounds_toArray, List.set_cons_zero, List.set_cons_succ])
  refine wpAnyH_take (i := 3) (oi := ?oi74) (v := ?v74) ?hi74 ?hs74 ?hf74 ?hr74 ?hQ74 ?hy74 ?hS74 ?rest74
  case hi74 => (simp only [List.getElem?_toArray, List.getElem?_cons_succ, List.getElem?_cons_zero]; rfl)
  case hs74 => kernel_rfl
  case hf74 => kernel_rfl
  case hr74 => kernel_rfl
  case hQ74 => exact (fun _ _ _ h => h)
  case hS74 => assumption
  case hy74 => (refine Or.inl ⟨by rfl, ?_⟩; intro w hSw; (try dsimp only at hSw); go_simp; try with_reducible rfl)
  (try simp only [Act.put, List.setIfInBounds_toArray, List.set_cons_zero, List.set_cons_succ])
  refine wpAnyH_take (i := 4) (oi := ?oi75) (v := ?v75) ?hi75 ?hs75 ?hf75 ?hr75 ?hQ75 ?hy75 ?hS75 ?rest75
  case hi75 => (simp only [List.getElem?_toArray, List.getElem?_cons_succ, List.getElem?_cons_zero]; rfl)
  case hs75 => kernel_rfl
  case hf75 => kernel_rfl
  case hr75 => kernel_rfl
  case hQ75 => exact (fun _ _ _ h => h)
  case hS75 => assumption
  case hy75 => (refine Or.inl ⟨by rfl, ?_⟩; intro w hSw; (try dsimp only at hSw); go_simp; try with_reducible rfl)
  (try simp only [Act.put, List.setIfInBounds_toArray, List.set_cons_zero, List.set_cons_succ])
  refine wpAnyH_take (i := 5) (oi := ?oi76) (v := ?v76) ?hi76 ?hs76 ?hf76 ?hr76 ?hQ76 ?hy76 ?hS76 ?rest76
  case hi76 => (simp only [List.getElem?_toArray, List.getElem?_cons_succ, List.getElem?_cons_zero]; rfl)
  case hs76 => kernel_rfl
  case hf76 => kernel_rfl
  case hr76 => kernel_rfl
  case hQ76 => exact (fun _ _ _ h => h)
  case hS76 => assumption
  case hy76 => (refine Or.inl ⟨by rfl, ?_⟩; intro w hSw; (try dsimp only at hSw); go_simp; try with_reducible rfl)
  (try simp only [Act.put, List.setIfInBounds_toArray, List.set_cons_zero, List.set_cons_succ])
  refine wpAnyH_take (i := 6) (oi := ?oi77) (v := ?v77) ?hi77 ?hs77 ?hf77 ?hr77 ?hQ77 ?hy77 ?hS77 ?rest77
  case hi77 => (simp only [List.getElem?_toArray, List.getElem?_cons_succ, List.getElem?_cons_zero]; rfl)
  case hs77 => kernel_rfl
  case hf77 => kernel_rfl
  case hr77 => kernel_rfl
  case hQ77 => exact (fun _ _ _ h => h)
  case hS77 => assumption
  case hy77 => (refine Or.inl ⟨by rfl, ?_⟩; intro w hSw; (try dsimp only at hSw); go_simp; try with_reducible rfl)
  (try simp only [Act.put, List.setIfInBounds_toArray, List.set_cons_zero, List.set_cons_succ])
  refine wpAnyH_take (i := 7) (oi := ?oi78) (v := ?v78) ?hi78 ?hs78 ?hf78 ?hr78 ?hQ78 ?hy78 ?hS78 ?rest78
  case hi78 => (simp only [List.getElem?_toArray, List.getElem?_cons_succ, List.getElem?_cons_zero]; rfl)
  case hs78 => kernel_rfl
  case hf78 => kernel_rfl
  case hr78 => kernel_rfl
  case hQ78 => exact (fun _ _ _ h => h)
  case hS78 => assumption
  case hy78 => (refine Or.inl ⟨by rfl, ?_⟩; intro w hSw; (try dsimp only at hSw); go_simp; try with_reducible rfl)
  (try simp only [Act.put, List.setIfInBounds_toArray, List.set_cons_zero, List.set_cons_succ])
  refine wpAnyH_take (i := 8) (oi := ?oi79) (v := ?v79) ?hi79 ?hs79 ?hf79 ?hr79 ?hQ79 ?hy79 ?hS79 ?rest79
  case hi79 => (simp only [List.getElem?_toArray, List.getElem?_cons_succ, List.getElem?_cons_zero]; rfl)
  case hs79 => kernel_rfl
  case hf79 => kernel_rfl
  case hr79 => kernel_rfl
  case hQ79 => exact (fun _ _ _ h => h)
  case hS79 => assumption
  case hy79 => (refine Or.inl ⟨by rfl, ?_⟩; intro w hSw; (try dsimp only at hSw); go_simp; try with_reducible rfl)
  (try simp only [Act.put, List.setIfInBounds_toArray, List.set_cons_zero, List.set_cons_succ])
  refine wpAnyH_take (i := 9) (oi := ?oi80) (v := ?v80) ?hi80 ?hs80 ?hf80 ?hr80 ?hQ80 ?hy80 ?hS80 ?rest80
  case hi80 => (simp only [List.getElem?_toArray, List.getElem?_cons_succ, List.getElem?_cons_zero]; rfl)
  case hs80 => kernel_rfl
  case hf80 => kernel_rfl
  case hr80 => kernel_rfl
  case hQ80 => exact (fun _ _ _ h => h)
  case hS80 => assumption
  case hy80 => (refine Or.inl ⟨by rfl, ?_⟩; intro w hSw; (try dsimp only at hSw); go_simp; try with_reducible rfl)
  (try simp only [Act.put, List.setIfInBounds_toArray, List.set_cons_zero, List.set_cons_succ])
  refine wpAnyH_take (i := 10) (oi := ?oi81) (v := ?v81) ?hi81 ?hs81 ?hf81 ?hr81 ?hQ81 ?hy81 ?hS81 ?rest81
  case hi81 => (simp only [List.getElem?_toArray, List.getElem?_cons_succ, List.getElem?_cons_zero]; rfl)
  case hs81 => kernel_rfl
  case hf81 => kernel_rfl
  case hr81 => kernel_rfl
  case hQ81 => exact (fun _ _ _ h => h)
  case hS81 => assumption
  case hy81 => (refine Or.inl ⟨by rfl, ?_⟩; intro w hSw; (try dsimp only at hSw); go_simp; try with_reducible rfl)
  (try simp only [Act.put, List.setIfInBounds_toArray, List.set_cons_zero, List.set_cons_succ])
  refine wpAnyH_take (i := 11) (oi := ?oi82) (v := undef) ?hi82 ?hs82 ?hf82 ?hr82 ?hQ82 ?hy82 ?hS82 ?rest82
  case hi82 => (simp only [List.getElem?_toArray, List.getElem?_cons_succ, List.getElem?_cons_zero]; rfl)
  case hs82 => kernel_rfl
  case hf82 => kernel_rfl
  case hr82 => kernel_rfl
  case hQ82 => exact (fun _ _ _ h => h)
  case hS82 => assumption
  case hy82 => exact Or.inr ⟨by rfl, rfl⟩
  (try simp only [Act.put, List.setIfInBounds_toArray, List.set_cons_zero, List.set_cons_succ])
  refine wpAnyH_take (i := 12) (oi := ?oi83) (v := undef) ?hi83 ?hs83 ?hf83 ?hr83 ?hQ83 ?hy83 ?hS83 ?rest83
  case hi83 => (simp only [List.getElem?_toArray, List.getElem?_cons_succ, List.getElem?_cons_zero]; rfl)
  case hs83 => kernel_rfl
  case hf83 => kernel_rfl
  case hr83 => kernel_rfl
  case hQ83 => exact (fun _ _ _ h => h)
  case hS83 => assumption
  case hy83 => exact Or.inr ⟨by rfl, rfl⟩
  (try simp only [Act.put, List.setIfInBounds_toArray, List.set_cons_zero, List.set_cons_succ])
  refine wpAnyH_take (i := 13) (oi := ?oi84) (v := undef) ?hi84 ?hs84 ?hf84 ?hr84 ?hQ84 ?hy84 ?hS84 ?rest84
  case hi84 => (simp only [List.getElem?_toArray, List.getElem?_cons_succ, List.getElem?_cons_zero]; rfl)
  case hs84 => kernel_rfl
  case hf84 => kernel_rfl
  case hr84 => kernel_rfl
  case hQ84 => exact (fun _ _ _ h => h)
  case hS84 => assumption
  case hy84 => exact Or.inr ⟨by rfl, rfl⟩
  (try simp only [Act.put, List.setIfInBounds_toArray, List.set_cons_zero, List.set_cons_succ])
  refine wpAnyH_take (i := 14) (oi := ?oi85) (v := ?v85) ?hi85 ?hs85 ?hf85 ?hr85 ?hQ85 ?hy85 ?hS85 ?rest85
  case hi85 => (simp only [List.getElem?_toArray, List.getElem?_cons_succ, List.getElem?_cons_zero]; rfl)
  case hs85 => kernel_rfl
  case hf85 => kernel_rfl
  case hr85 => kernel_rfl
  case hQ85 => exact (fun _ _ _ h => h)
  case hS85 => assumption
  case hy85 => (refine Or.inl ⟨by rfl, ?_⟩; intro w hSw; (try dsimp only at hSw); go_simp; try with_reducible rfl)
  (try simp only [Act.put, List.setIfInBounds_toArray, List.set_cons_zero, List.set_cons_succ])
  refine wpAnyH_take (i := 16) (oi := ?oi86) (v := ?v86) ?hi86 ?hs86 ?hf86 ?hr86 ?hQ86 ?hy86 ?hS86 ?rest86
  case hi86 => (simp only [List.getElem?_toArray, List.getElem?_cons_succ, List.getElem?_cons_zero]; rfl)
  case hs86 => kernel_rfl
  case hf86 => kernel_rfl
  case hr86 => kernel_rfl
  case hQ86 => exact (fun _ _ _ h => h)
  case hS86 => assumption
  case hy86 => (refine Or.inl ⟨by rfl, ?_⟩; intro w hSw; (try dsimp only at hSw); go_simp; try with_reducible rfl)
  (try simp only [Act.put, List.setIfInBounds_toArray, List.set_cons_zero, List.set_cons_succ])
  refine wpAnyH_take (i := 17) (oi := ?oi87) (v := ?v87) ?hi87 ?hs87 ?hf87 ?hr87 ?hQ87 ?hy87 ?hS87 ?rest87
  case hi87 => (simp only [List.getElem?_toArray, List.getElem?_cons_succ, List.getElem?_cons_zero]; rfl)
  case hs87 => kernel_rfl
  case hf87 => kernel_rfl
  case hr87 => kernel_rfl
  case hQ87 => exact (fun _ _ _ h => h)
  case hS87 => assumption
  case hy87 => (refine Or.inl ⟨by rfl, ?_⟩; intro w hSw; (try dsimp only at hSw); go_simp; try with_reducible rfl)
  (try simp only [Act.put, List.setIfInBounds_toArray, List.set_cons_zero, List.set_cons_succ])
  refine wpAnyH_take (i := 18) (oi := ?oi88) (v := ?v88) ?hi88 ?hs88 ?hf88 ?hr88 ?hQ88 ?hy88 ?hS88 ?rest88
  case hi88 => (simp only [List.getElem?_toArray, List.getElem?_cons_succ, List.getElem?_cons_zero]; rfl)
  case hs88 => kernel_rfl
  case hf88 => kernel_rfl
  case hr88 => kernel_rfl
  case hQ88 => exact (fun _ _ _ h => h)
  case hS88 => assumption
  case hy88 => (refine Or.inl ⟨by rfl, ?_⟩; intro w hSw; (try dsimp only at hSw); go_simp; try with_reducible rfl)
  (try simp only [Act.put, List.setIfInBounds_toArray, List.set_cons_zero, List.set_cons_succ])
  refine wpAnyH_take (i := 19) (oi := ?oi89) (v := ?v89) ?hi89 ?hs89 ?hf89 ?hr89 ?hQ89 ?hy89 ?hS89 ?rest89
  case hi89 => (simp only [List.getElem?_toArray, List.getElem?_cons_succ, List.getElem?_cons_zero]; rfl)
  case hs89 => kernel_rfl
  case hf89 => kernel_rfl
  case hr89 => kernel_rfl
  case hQ89 => exact (fun _ _ _ h => h)
  case hS89 => assumption
  case hy89 => (refine Or.inl ⟨by rfl, ?_⟩; intro w hSw; (try dsimp only at hSw); go_simp; try with_reducible rfl)
  (try simp only [Act.put, List.setIfInBounds_toArray, List.set_cons_zero, List.set_cons_succ])
  refine wpAnyH_take (i := 20) (oi := ?oi90) (v := undef) ?hi90 ?hs90 ?hf90 ?hr90 ?hQ90 ?hy90 ?hS90 ?rest90
  case hi90 => (simp only [List.getElem?_toArray, List.getElem?_cons_succ, List.getElem?_cons_zero]; rfl)
  case hs90 => kernel_rfl
  case hf90 => kernel_rfl
  case hr90 => kernel_rfl
  case hQ90 => exact (fun _ _ _ h => h)
  case hS90 => assumption
  case hy90 => exact Or.inr ⟨by rfl, rfl⟩
  (try simp only [Act.put, List.setIfInBounds_toArray, List.set_cons_zero, List.set_cons_succ])
  refine wpAnyH_take (i := 21) (oi := ?oi91) (v := undef) ?hi91 ?hs91 ?hf91 ?hr91 ?hQ91 ?hy91 ?hS91 ?rest91
  case hi91 => (simp only [List.getElem?_toArray, List.getElem?_cons_succ, List.getElem?_cons_zero]; rfl)
  case hs91 => kernel_rfl
  case hf91 => kernel_rfl
  case hr91 => kernel_rfl
  case hQ91 => exact (fun _ _ _ h => h)
  case hS91 => assumption
  case hy91 => exact Or.inr ⟨by rfl, rfl⟩
  (try simp only [Act.put, List.setIfInBounds_toArray, List.set_cons_zero, List.set_cons_succ])
  refine wpAnyH_take (i := 22) (oi := ?oi92) (v := undef) ?hi92 ?hs92 ?hf92 ?hr92 ?hQ92 ?hy92 ?hS92 ?rest92
  case hi92 => (simp only [List.getElem?_toArray, List.getElem?_cons_succ, List.getElem?_cons_zero]; rfl)
  case hs92 => kernel_rfl
  case hf92 => kernel_rfl
  case hr92 => kernel_rfl
  case hQ92 => exact (fun _ _ _ h => h)
  case hS92 => assumption
  case hy92 => exact Or.inr ⟨by rfl, rfl⟩
  (try simp only [Act.put, List.setIfInBounds_toArray, List.set_cons_zero, List.set_cons_succ])
  refine wpAnyH_take (i := 23) (oi := ?oi93) (v := undef) ?hi93 ?hs93 ?hf93 ?hr93 ?hQ93 ?hy93 ?hS93 ?rest93
  case hi93 => (simp only [List.getElem?_toArray, List.getElem?_cons_succ, List.getElem?_cons_zero]; rfl)
  case hs93 => kernel_rfl
  case hf93 => kernel_rfl
  case hr93 => kernel_rfl
  case hQ93 => exact (fun _ _ _ h => h)
  case hS93 => assumption
  case hy93 => exact Or.inr ⟨by rfl, rfl⟩
  (try simp only [Act.put, List.setIfInBounds_toArray, List.set_cons_zero, List.set_cons_succ])
  refine wpAnyH_take (i := 24) (oi := ?oi94) (v := undef) ?hi94 ?hs94 ?hf94 ?hr94 ?hQ94 ?hy94 ?hS94 ?rest94
  case hi94 => (simp only [List.getElem?_toArray, List.getElem?_cons_succ, List.getElem?_cons_zero]; rfl)
  case hs94 => kernel_rfl
  case hf94 => kernel_rfl
  case hr94 => kernel_rfl
  case hQ94 => exact (fun _ _ _ h => h)
  case hS94 => assumption
  case hy94 => exact Or.inr ⟨by rfl, rfl⟩
  (try simp only [Act.put, List.setIfInBounds_toArray, List.set_cons_zero, List.set_cons_succ])
  refine wpAnyH_take (i := 25) (oi := ?oi95) (v := undef) ?hi95 ?hs95 ?hf95 ?hr95 ?hQ95 ?hy95 ?hS95 ?rest95
  case hi95 => (simp only [List.getElem?_toArray, List.getElem?_cons_succ, List.getElem?_cons_zero]; rfl)
  case hs95 => kernel_rfl
  case hf95 => kernel_rfl
  case hr95 => kernel_rfl
  case hQ95 => exact (fun _ _ _ h => h)
  case hS95 => assumption
  case hy95 => exact Or.inr ⟨by rfl, rfl⟩
  (try simp only [Act.put, List.setIfInBounds_toArray, List.set_cons_zero, List.set_cons_succ])
  refine wpAnyH_take (i := 26) (oi := ?oi96) (v := ?v96) ?hi96 ?hs96 ?hf96 ?hr96 ?hQ96 ?hy96 ?hS96 ?rest96
  case hi96 => (simp only [List.getElem?_toArray, List.getElem?_cons_succ, List.getElem?_cons_zero]; rfl)
  case hs96 => kernel_rfl
  case hf96 => kernel_rfl
  case hr96 => kernel_rfl
  case hQ96 => exact (fun _ _ _ h => h)
  case hS96 => assumption
  case hy96 => (refine Or.inl ⟨by rfl, ?_⟩; intro w hSw; (try dsimp only at hSw); go_simp; try with_reducible rfl)
  (try simp only [Act.put, List.setIfInBounds_toArray, List.set_cons_zero, List.set_cons_succ])
  refine wpAnyH_ready (rs := [0]) (by kernel_rfl) (by simp) ?_
  refine AllReadyH.cons rfl (fun K hK => ?_) ?_
  · go_simp
    refine hK.out _ _ ?_ (fun hHeld2 => ?_)
    · (first | exact ⟨c2, c3⟩ | exact ⟨HK2.out _, HK3.out _⟩)
    · clear hK K hHeld
      have hHeld := hHeld2; clear hHeld2
      (try simp only [Act.put, List.setIfInBounds_toArray, List.set_cons_zero, List.set_cons_succ])
      refine wpAnyH_ready (rs := [2, 15, 27]) (by kernel_rfl) (by simp) ?_
      refine AllReadyH.cons rfl (fun K hK => ?_) ?_
      · go_simp
        refine hK.out _ _ ?_ (fun hHeld2 => ?_)
        · (first | exact ⟨c2, c3⟩ | exact ⟨HK2.out _, HK3.out _⟩)
        · clear hK K hHeld
          have hHeld := hHeld2; clear hHeld2
          (try simp only [Act.put, List.setIfInBounds_toArray, List.set_cons_zero, List.set_cons_succ])
          refine wpAnyH_ready (rs := [15, 27]) (by kernel_rfl) (by simp) ?_
          refine AllReadyH.cons rfl (fun K hK => ?_) ?_
          · go_simp
            refine hK.out _ _ ?_ (fun hHeld2 => ?_)
            · (first | exact ⟨c2, c3⟩ | exact ⟨HK2.out _, HK3.out _⟩)
            · clear hK K hHeld
              have hHeld := hHeld2; clear hHeld2
              (try simp only [Act.put, List.setIfInBounds_toArray, List.set_cons_zero, List.set_cons_succ])
              refine wpAnyH_ready (rs := [27]) (by kernel_rfl) (by simp) ?_
              refine AllReadyH.cons rfl (fun K hK => ?_) ?_
              · go_simp
                refine hK.out _ _ ?_ (fun hHeld2 => ?_)
                · (first | exact ⟨c2, c3⟩ | exact ⟨HK2.out _, HK3.out _⟩)
                · clear hK K hHeld
                  have hHeld := hHeld2; clear hHeld2
                  (try simp only [Act.put, List.setIfInBounds_toArray, List.set_cons_zero, List.set_cons_succ])
                  refine wpAnyH_take (i := 28) (oi := ?oi97) (v := ?v97) ?hi97 ?hs97 ?hf97 ?hr97 ?hQ97 ?hy97 ?hS97 ?rest97
                  case hi97 => (simp only [List.getElem?_toArray, List.getElem?_cons_succ, List.getElem?_cons_zero]; rfl)
                  case hs97 => kernel_rfl
                  case hf97 => kernel_rfl
                  case hr97 => kernel_rfl
                  case hQ97 => exact (fun _ _ _ h => h)
                  case hS97 => assumption
                  case hy97 => (refine Or.inl ⟨by rfl, ?_⟩; intro w hSw; (try dsimp only at hSw); go_simp; try with_reducible rfl)
                  (try simp only [Act.put, List.setIfInBounds_toArray, List.set_cons_zero, List.set_cons_succ])
                  refine wpAnyH_take (i := 29) (oi := ?oi98) (v := ?v98) ?hi98 ?hs98 ?hf98 ?hr98 ?hQ98 ?hy98 ?hS98 ?rest98
                  case hi98 => (simp only [List.getElem?_toArray, List.getElem?_cons_succ, List.getElem?_cons_zero]; rfl)
                  case hs98 => kernel_rfl
                  case hf98 => kernel_rfl
                  case hr98 => kernel_rfl
                  case hQ98 => exact (fun _ _ _ h => h)
                  case hS98 => assumption
                  case hy98 => (refine Or.inl ⟨by rfl, ?_⟩; intro w hSw; (try dsimp only at hSw); go_simp; try with_reducible rfl)
                  (try simp only [Act.put, List.setIfInBounds_toArray, List.set_cons_zero, List.set_cons_succ])
                  refine wpAnyH_done (by kernel_rfl) ?_ _
                  clear i1 i21 i231 i31 i321 i2 i12 i132 i32 i312 i3 i13 i123 i23 i213
                  have q1 := look123 w1; have q2 := look132 w1; have q3 := look213 w1; have q4 := look231 w1; have q5 := look312 w1; have q6 := look321 w1
                  have k0 := HK0.out; have k1 := HK1.out
                  clear hHeld
                  cases hk : keyL key.data.toList
                  · have HK := Lib.hid hk; clear hk
                    go_wp2_with (go_at_call 47; refine (key_calls _ _ HOK.out.2.2.1).mono ?_; rw [HK.out]; rintro e w' ⟨rfl, rfl⟩)
                    go_ret
                    exact ⟨ret_bool (by rw [rightB_eq, HK.out]; rfl), (H2.out.trans ((Below.refl _ w1).alloc (Nat.le_refl _) _)).drew⟩
                  · have HK := Lib.hid hk; clear hk
                    go_wp2_with (go_at_call 47; refine (key_calls _ _ HOK.out.2.2.1).mono ?_; rw [HK.out]; rintro e w' ⟨rfl, rfl⟩)
                    go_ret
                    exact ⟨ret_bool (by rw [rightB_eq, HK.out, F1.out, F2.out, F3.out]; rfl), (H2.out.trans ((Below.refl _ w1).alloc (Nat.le_refl _) _)).drew⟩
              exact AllReadyH.nil
          refine AllReadyH.cons rfl (fun K hK => ?_) ?_
          · go_simp
            refine hK.out _ _ ?_ (fun hHeld2 => ?_)
            · (first | exact ⟨c2, c3⟩ | exact ⟨HK2.out _, HK3.out _⟩)
            · clear hK K hHeld
              have hHeld := hHeld2; clear hHeld2
              (try simp only [Act.put, List.setIfInBounds_toArray, List.set_cons_zero, List.set_cons_succ])
              refine wpAnyH_ready (rs := [15]) (by kernel_rfl) (by simp) ?_
              refine AllReadyH.cons rfl (fun K hK => ?_) ?_
              · go_simp
                refine hK.out _ _ ?_ (fun hHeld2 => ?_)
                · (first | exact ⟨c2, c3⟩ | exact ⟨HK2.out _, HK3.out _⟩)
                · clear hK K hHeld
                  have hHeld := hHeld2; clear hHeld2
                  (try simp only [Act.put, List.setIfInBounds_toArray, List.set_cons_zero, List.set_cons_succ])
                  refine wpAnyH_take (i := 28) (oi := ?oi99) (v := ?v99) ?hi99 ?hs99 ?hf99 ?hr99 ?hQ99 ?hy99 ?hS99 ?rest99
                  case hi99 => (simp only [List.getElem?_toArray, List.getElem?_cons_succ, List.getElem?_cons_zero]; rfl)
                  case hs99 => kernel_rfl
                  case hf99 => kernel_rfl
                  case hr99 => kernel_rfl
                  case hQ99 => exact (fun _ _ _ h => h)
                  case hS99 => assumption
                  case hy99 => (refine Or.inl ⟨by rfl, ?_⟩; intro w hSw; (try dsimp only at hSw); go_simp; try with_reducible rfl)
                  (try simp only [Act.put, List.setIfInBounds_toArray, List.set_cons_zero, List.set_cons_succ])
                  refine wpAnyH_take (i := 29) (oi := ?oi100) (v := ?v100) ?hi100 ?hs100 ?hf100 ?hr100 ?hQ100 ?hy100 ?hS100 ?rest100
                  case hi100 => (simp only [List.getElem?_toArray, List.getElem?_cons_succ, List.getElem?_cons_zero]; rfl)
                  case hs100 => kernel_rfl
                  case hf100 => kernel_rfl
                  case hr100 => kernel_rfl
                  case hQ100 => exact (fun _ _ _ h => h)
                  case hS100 => assumption
                  case hy100 => (refine Or.inl ⟨by rfl, ?_⟩; intro w hSw; (try dsimp only at hSw); go_simp; try with_reducible rfl)
                  (try simp only [Act.put, List.setIfInBounds_toArray, List.set_cons_zero, List.set_cons_succ])
                  refine wpAnyH_done (by kernel_rfl) ?_ _
                  clear i1 i21 i231 i31 i321 i2 i12 i132 i32 i312 i3 i13 i123 i23 i213
                  have q1 := look123 w1; have q2 := look132 w1; have q3 := look213 w1; have q4 := look231 w1; have q5 := look312 w1; have q6 := look321 w1
                  have k0 := HK0.out; have k1 := HK1.out
                  clear hHeld
                  cases hk : keyL key.data.toList
                  · have HK := Lib.hid hk; clear hk
                    go_wp2_with (go_at_call 47; refine (key_calls _ _ HOK.out.2.2.1).mono ?_; rw [HK.out]; rintro e w' ⟨rfl, rfl⟩)
                    go_ret
                    exact ⟨ret_bool (by rw [rightB_eq, HK.out]; rfl), (H2.out.trans ((Below.refl _ w1).alloc (Nat.le_refl _) _)).drew⟩
                  · have HK := Lib.hid hk; clear hk
                    go_wp2_with (go_at_call 47; refine (key_calls _ _ HOK.out.2.2.1).mono ?_; rw [HK.out]; rintro e w' ⟨rfl, rfl⟩)
                    go_ret
                    exact ⟨ret_bool (by rw [rightB_eq, HK.out, F1.out, F2.out, F3.out]; rfl), (H2.out.trans ((Below.refl _ w1).alloc (Nat.le_refl _) _)).drew⟩
              exact AllReadyH.nil
          exact AllReadyH.nil
      refine AllReadyH.cons rfl (fun K hK => ?_) ?_
      · go_simp
        refine hK.out _ _ ?_ (fun hHeld2 => ?_)
        · (first | exact ⟨c2, c3⟩ | exact ⟨HK2.out _, HK3.out _⟩)
        · clear hK K hHeld
          have hHeld := hHeld2; clear hHeld2
          (try simp only [Act.put, List.setIfInBounds_toArray, List.set_cons_zero, List.set_cons_succ])
          refine wpAnyH_ready (rs := [2, 27]) (by kernel_rfl) (by simp) ?_
          refine AllReadyH.cons rfl (fun K hK => ?_) ?_
          · go_simp
            refine hK.out _ _ ?_ (fun hHeld2 => ?_)
            · (first | exact ⟨c2, c3⟩ | exact ⟨HK2.out _, HK3.out _⟩)
            · clear hK K hHeld
              have hHeld := hHeld2; clear hHeld2
              (try simp only [Act.put, List.setIfInBounds_toArray, List.set_cons_zero, List.set_cons_succ])
              refine wpAnyH_ready (rs := [27]) (by kernel_rfl) (by simp) ?_
              refine AllReadyH.cons rfl (fun K hK => ?_) ?_
              · go_simp
                refine hK.out _ _ ?_ (fun hHeld2 => ?_)
                · (first | exact ⟨c2, c3⟩ | exact ⟨HK2.out _, HK3.out _⟩)
                · clear hK K hHeld
                  have hHeld := hHeld2; clear hHeld2
                  (try simp only [Act.put, List.setIfInBounds_toArray, List.set_cons_zero, List.set_cons_succ])
                  refine wpAnyH_take (i := 28) (oi := ?oi101) (v := ?v101) ?hi101 ?hs101 ?hf101 ?hr101 ?hQ101 ?hy101 ?hS101 ?rest101
                  case hi101 => (simp only [List.getElem?_toArray, List.getElem?_cons_succ, List.getElem?_cons_zero]; rfl)
                  case hs101 => kernel_rfl
                  case hf101 => kernel_rfl
                  case hr101 => kernel_rfl
                  case hQ101 => exact (fun _ _ _ h => h)
                  case hS101 => assumption
                  case hy101 => (refine Or.inl ⟨by rfl, ?_⟩; intro w hSw; (try dsimp only at hSw); go_simp; try with_reducible rfl)
                  (try simp only [Act.put, List.setIfInBounds_toArray, List.set_cons_zero, List.set_cons_succ])
                  refine wpAnyH_take (i := 29) (oi := ?oi102) (v := ?v102) ?hi102 ?hs102 ?hf102 ?hr102 ?hQ102 ?hy102 ?hS102 ?rest102
                  case hi102 => (simp only [List.getElem?_toArray, List.getElem?_cons_succ, List.getElem?_cons_zero]; rfl)
                  case hs102 => kernel_rfl
                  case hf102 => kernel_rfl
                  case hr102 => kernel_rfl
                  case hQ102 => exact (fun _ _ _ h => h)
                  case hS102 => assumption
                  case hy102 => (refine Or.inl ⟨by rfl, ?_⟩; intro w hSw; (try dsimp only at hSw); go_simp; try with_reducible rfl)
                  (try simp only [Act.put, List.setIfInBounds_toArray, List.set_cons_zero, List.set_cons_succ])
                  refine wpAnyH_done (by kernel_rfl) ?_ _
                  clear i1 i21 i231 i31 i321 i2 i12 i132 i32 i312 i3 i13 i123 i23 i213
                  have q1 := look123 w1; have q2 := look132 w1; have q3 := look213 w1; have q4 := look231 w1; have q5 := look312 w1; have q6 := look321 w1
                  have k0 := HK0.out; have k1 := HK1.out
                  clear hHeld
                  cases hk : keyL key.data.toList
                  · have HK := Lib.hid hk; clear hk
                    go_wp2_with (go_at_call 47; refine (key_calls _ _ HOK.out.2.2.1).mono ?_; rw [HK.out]; rintro e w' ⟨rfl, rfl⟩)
                    go_ret
                    exact ⟨ret_bool (by rw [rightB_eq, HK.out]; rfl), (H2.out.trans ((Below.refl _ w1).alloc (Nat.le_refl _) _)).drew⟩
                  · have HK := Lib.hid hk; clear hk
                    go_wp2_with (go_at_call 47; refine (key_calls _ _ HOK.out.2.2.1).mono ?_; rw [HK.out]; rintro e w' ⟨rfl, rfl⟩)
                    go_ret
                    exact ⟨ret_bool (by rw [rightB_eq, HK.out, F1.out, F2.out, F3.out]; rfl), (H2.out.trans ((Below.refl _ w1).alloc (Nat.le_refl _) _)).drew⟩
              exact AllReadyH.nil
          refine AllReadyH.cons rfl (fun K hK => ?_) ?_
          · go_simp
            refine hK.out _ _ ?_ (fun hHeld2 => ?_)
            · (first | exact ⟨c2, c3⟩ | exact ⟨HK2.out _, HK3.out _⟩)
            · clear hK K hHeld
              have hHeld := hHeld2; clear hHeld2
              (try simp only [Act.put, List.setIfInBounds_toArray, List.set_cons_zero, List.set_cons_succ])
              refine wpAnyH_ready (rs := [2]) (by kernel_rfl) (by simp) ?_
              refine AllReadyH.cons rfl (fun K hK => ?_) ?_
              · go_simp
                refine hK.out _ _ ?_ (fun hHeld2 => ?_)
                · (first | exact ⟨c2, c3⟩ | exact ⟨HK2.out _, HK3.out _⟩)
                · clear hK K hHeld
                  have hHeld := hHeld2; clear hHeld2
                  (try simp only [Act.put, List.setIfInBounds_toArray, List.set_cons_zero, List.set_cons_succ])
                  refine wpAnyH_take (i := 28) (oi := ?oi103) (v := ?v103) ?hi103 ?hs103 ?hf103 ?hr103 ?hQ103 ?hy103 ?hS103 ?rest103
                  case hi103 => (simp only [List.getElem?_toArray, List.getElem?_cons_succ, List.getElem?_cons_zero]; rfl)
                  case hs103 => kernel_rfl
                  case hf103 => kernel_rfl
                  case hr103 => kernel_rfl
                  case hQ103 => exact (fun _ _ _ h => h)
                  case hS103 => assumption
                  case hy103 => (refine Or.inl ⟨by rfl, ?_⟩; intro w hSw; (try dsimp only at hSw); go_simp; try with_reducible rfl)
                  (try simp only [Act.put, List.setIfInBounds_toArray, List.set_cons_zero, List.set_cons_succ])
                  refine wpAnyH_take (i := 29) (oi := ?oi104) (v := ?v104) ?hi104 ?hs104 ?hf104 ?hr104 ?hQ104 ?hy104 ?hS104 ?rest104
                  case hi104 => (simp only [List.getElem?_toArray, List.getElem?_cons_succ, List.getElem?_cons_zero]; rfl)
                  case hs104 => kernel_rfl
                  case hf104 => kernel_rfl
                  case hr104 => kernel_rfl
                  case hQ104 => exact (fun _ _ _ h => h)
                  case hS104 => assumption
                  case hy104 => (refine Or.inl ⟨by rfl, ?_⟩; intro w hSw; (try dsimp only at hSw); go_simp; try with_reducible rfl)
                  (try simp only [Act.put, List.setIfInBounds_toArray, List.set_cons_zero, List.set_cons_succ])
                  refine wpAnyH_done (by kernel_rfl) ?_ _
                  clear i1 i21 i231 i31 i321 i2 i12 i132 i32 i312 i3 i13 i123 i23 i213
                  have q1 := look123 w1; have q2 := look132 w1; have q3 := look213 w1; have q4 := look231 w1; have q5 := look312 w1; have q6 := look321 w1
                  have k0 := HK0.out; have k1 := HK1.out
                  clear hHeld
                  cases hk : keyL key.data.toList
                  · have HK := Lib.hid hk; clear hk
                    go_wp2_with (go_at_call 47; refine (key_calls _ _ HOK.out.2.2.1).mono ?_; rw [HK.out]; rintro e w' ⟨rfl, rfl⟩)
                    go_ret
                    exact ⟨ret_bool (by rw [rightB_eq, HK.out]; rfl), (H2.out.trans ((Below.refl _ w1).alloc (Nat.le_refl _) _)).drew⟩
                  · have HK := Lib.hid hk; clear hk
                    go_wp2_with (go_at_call 47; refine (key_calls _ _ HOK.out.2.2.1).mono ?_; rw [HK.out]; rintro e w' ⟨rfl, rfl⟩)
                    go_ret
                    exact ⟨ret_bool (by rw [rightB_eq, HK.out, F1.out, F2.out, F3.out]; rfl), (H2.out.trans ((Below.refl _ w1).alloc (Nat.le_refl _) _)).drew⟩
              exact AllReadyH.nil
          exact AllReadyH.nil
      refine AllReadyH.cons rfl (fun K hK => ?_) ?_
      · go_simp
        refine hK.out _ _ ?_ (fun hHeld2 => ?_)
        · (first | exact ⟨c2, c3⟩ | exact ⟨HK2.out _, HK3.out _⟩)
        · clear hK K hHeld
          have hHeld := hHeld2; clear hHeld2
          (try simp only [Act.put, List.setIfInBounds_toArray, List.set_cons_zero, List.set_cons_succ])
          refine wpAnyH_ready (rs := [2, 15]) (by kernel_rfl) (by simp) ?_
          refine AllReadyH.cons rfl (fun K hK => ?_) ?_
          · go_simp
            refine hK.out _ _ ?_ (fun hHeld2 => ?_)
            · (first | exact ⟨c2, c3⟩ | exact ⟨HK2.out _, HK3.out _⟩)
            · clear hK K hHeld
              have hHeld := hHeld2; clear hHeld2
              (try simp only [Act.put, List.setIfInBounds_toArray, List.set_cons_zero, List.set_cons_succ])
              refine wpAnyH_ready (rs := [15]) (by kernel_rfl) (by simp) ?_
              refine AllReadyH.cons rfl (fun K hK => ?_) ?_
              · go_simp
                refine hK.out _ _ ?_ (fun hHeld2 => ?_)
                · (first | exact ⟨c2, c3⟩ | exact ⟨HK2.out _, HK3.out _⟩)
                · clear hK K hHeld
                  have hHeld := hHeld2; clear hHeld2
                  (try simp only [Act.put, List.setIfInBounds_toArray, List.set_cons_zero, List.set_cons_succ])
                  refine wpAnyH_take (i := 28) (oi := ?oi105) (v := ?v105) ?hi105 ?hs105 ?hf105 ?hr105 ?hQ105 ?hy105 ?hS105 ?rest105
                  case hi105 => (simp only [List.getElem?_toArray, List.getElem?_cons_succ, List.getElem?_cons_zero]; rfl)
                  case hs105 => kernel_rfl
                  case hf105 => kernel_rfl
                  case hr105 => kernel_rfl
                  case hQ105 => exact (fun _ _ _ h => h)
                  case hS105 => assumption
                  case hy105 => (refine Or.inl ⟨by rfl, ?_⟩; intro w hSw; (try dsimp only at hSw); go_simp; try with_reducible rfl)
                  (try simp only [Act.put, List.setIfInBounds_toArray, List.set_cons_zero, List.set_cons_succ])
                  refine wpAnyH_take (i := 29) (oi := ?oi106) (v := ?v106) ?hi106 ?hs106 ?hf106 ?hr106 ?hQ106 ?hy106 ?hS106 ?rest106
                  case hi106 => (simp only [List.getElem?_toArray, List.getElem?_cons_succ, List.getElem?_cons_zero]; rfl)
                  case hs106 => kernel_rfl
                  case hf106 => kernel_rfl
                  case hr106 => kernel_rfl
                  case hQ106 => exact (fun _ _ _ h => h)
                  case hS106 => assumption
                  case hy106 => (refine Or.inl ⟨by rfl, ?_⟩; intro w hSw; (try dsimp only at hSw); go_simp; try with_reducible rfl)
                  (try simp only [Act.put, List.setIfInBounds_toArray, List.set_cons_zero, List.set_cons_succ])
                  refine wpAnyH_done (by kernel_rfl) ?_ _
                  clear i1 i21 i231 i31 i321 i2 i12 i132 i32 i312 i3 i13 i123 i23 i213
                  have q1 := look123 w1; have q2 := look132 w1; have q3 := look213 w1; have q4 := look231 w1; have q5 := look312 w1; have q6 := look321 w1
                  have k0 := HK0.out; have k1 := HK1.out
                  clear hHeld
                  cases hk : keyL key.data.toList
                  · have HK := Lib.hid hk; clear hk
                    go_wp2_with (go_at_call 47; refine (key_calls _ _ HOK.out.2.2.1).mono ?_; rw [HK.out]; rintro e w' ⟨rfl, rfl⟩)
                    go_ret
                    exact ⟨ret_bool (by rw [rightB_eq, HK.out]; rfl), (H2.out.trans ((Below.refl _ w1).alloc (Nat.le_refl _) _)).drew⟩
                  · have HK := Lib.hid hk; clear hk
                    go_wp2_with (go_at_call 47; refine (key_calls _ _ HOK.out.2.2.1).mono ?_; rw [HK.out]; rintro e w' ⟨rfl, rfl⟩)
                    go_ret
                    exact ⟨ret_bool (by rw [rightB_eq, HK.out, F1.out, F2.out, F3.out]; rfl), (H2.out.trans ((Below.refl _ w1).alloc (Nat.le_refl _) _)).drew⟩
              exact AllReadyH.nil
          refine AllReadyH.cons rfl (fun K hK => ?_) ?_
          · go_simp
            refine hK.out _ _ ?_ (fun hHeld2 => ?_)
            · (first | exact ⟨c2, c3⟩ | exact ⟨HK2.out _, HK3.out _⟩)
            · clear hK K hHeld
              have hHeld := hHeld2; clear hHeld2
              (try simp only [Act.put, List.setIfInBounds_toArray, List.set_cons_zero, List.set_cons_succ])
              refine wpAnyH_ready (rs := [2]) (by kernel_rfl) (by simp) ?_
              refine AllReadyH.cons rfl (fun K hK => ?_) ?_
              · go_simp
                refine hK.out _ _ ?_ (fun hHeld2 => ?_)
                · (first | exact ⟨c2, c3⟩ | exact ⟨HK2.out _, HK3.out _⟩)
                · clear hK K hHeld
                  have hHeld := hHeld2; clear hHeld2
                  (try simp only [Act.put, List.setIfInBounds_toArray, List.set_cons_zero, List.set_cons_succ])
                  refine wpAnyH_take (i := 28) (oi := ?oi107) (v := ?v107) ?hi107 ?hs107 ?hf107 ?hr107 ?hQ107 ?hy107 ?hS107 ?rest107
                  case hi107 => (simp only [List.getElem?_toArray, List.getElem?_cons_succ, List.getElem?_cons_zero]; rfl)
                  case hs107 => kernel_rfl
                  case hf107 => kernel_rfl
                  case hr107 => kernel_rfl
                  case hQ107 => exact (fun _ _ _ h => h)
                  case hS107 => assumption
                  case hy107 => (refine Or.inl ⟨by rfl, ?_⟩; intro w hSw; (try dsimp only at hSw); go_simp; try with_reducible rfl)
                  (try simp only [Act.put, List.setIfInBounds_toArray, List.set_cons_zero, List.set_cons_succ])
                  refine wpAnyH_take (i := 29) (oi := ?oi108) (v := ?v108) ?hi108 ?hs108 ?hf108 ?hr108 ?hQ108 ?hy108 ?hS108 ?rest108
                  case hi108 => (simp only [List.getElem?_toArray, List.getElem?_cons_succ, List.getElem?_cons_zero]; rfl)
                  case hs108 => kernel_rfl
                  case hf108 => kernel_rfl
                  case hr108 => kernel_rfl
                  case hQ108 => exact (fun _ _ _ h => h)
                  case hS108 => assumption
                  case hy108 => (refine Or.inl ⟨by rfl, ?_⟩; intro w hSw; (try dsimp only at hSw); go_simp; try with_reducible rfl)
                  (try simp only [Act.put, List.setIfInBounds_toArray, List.set_cons_zero, List.set_cons_succ])
                  refine wpAnyH_done (by kernel_rfl) ?_ _
                  clear i1 i21 i231 i31 i321 i2 i12 i132 i32 i312 i3 i13 i123 i23 i213
                  have q1 := look123 w1; have q2 := look132 w1; have q3 := look213 w1; have q4 := look231 w1; have q5 := look312 w1; have q6 := look321 w1
                  have k0 := HK0.out; have k1 := HK1.out
                  clear hHeld
                  cases hk : keyL key.data.toList
                  · have HK := Lib.hid hk; clear hk
                    go_wp2_with (go_at_call 47; refine (key_calls _ _ HOK.out.2.2.1).mono ?_; rw [HK.out]; rintro e w' ⟨rfl, rfl⟩)
                    go_ret
                    exact ⟨ret_bool (by rw [rightB_eq, HK.out]; rfl), (H2.out.trans ((Below.refl _ w1).alloc (Nat.le_refl _) _)).drew⟩
                  · have HK := Lib.hid hk; clear hk
                    go_wp2_with (go_at_call 47; refine (key_calls _ _ HOK.out.2.2.1).mono ?_; rw [HK.out]; rintro e w' ⟨rfl, rfl⟩)
                    go_ret
                    exact ⟨ret_bool (by rw [rightB_eq, HK.out, F1.out, F2.out, F3.out]; rfl), (H2.out.trans ((Below.refl _ w1).alloc (Nat.le_refl _) _)).drew⟩
              exact AllReadyH.nil
          exact AllReadyH.nil
      exact AllReadyH.nil
  exact AllReadyH.nil
end Go.Proofs.YtjplmghhleoolaaGreatDoor
