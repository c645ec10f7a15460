/- The package act's right, Right. -/
import Derived.Test.YtdmejbjpbjcfbaaGreatDoorMem
import Derived.Test.YtdmejbjpbjcfbaaGreatDoorKey
import Derived.Deep.RegionHeld3
namespace Go.Proofs.YtdmejbjpbjcfbaaGreatDoor
open Go.RowKit
attribute [local go_sem] Instr.findNow Instr.sameNow

def pick3 (kd : Int) (v1 v2 v3 : Bool) : Bool := if kd = 1 then v1 else if kd = 2 then v2 else if kd = 3 then v3 else false
theorem zeroB (w : World) : (zeroValue 4).run Tryz.prog w = .ok (.bool false) w := by kernel_rfl
theorem look_of (W : World) (es : List MapEntry) (c : Nat) (kd : Int) (v1 v2 v3 : Bool) (h : ∀ kd, Instr.findNow (.int .u8) (.int .u8 kd) es 0 = some none ∧ pick3 kd v1 v2 v3 = false ∨ ∃ i, Instr.findNow (.int .u8) (.int .u8 kd) es 0 = some (some (i, .bool (pick3 kd v1 v2 v3)))) :
    (Instr.lookup 224 (.map (some W.heap.size)) (.int .u8 kd) false).run Tryz.prog (W.alloc (.map es.toArray c)).drew = .ok (.bool (pick3 kd v1 v2 v3)) (W.alloc (.map es.toArray c)).drew := by
  have hb : (W.alloc (.map es.toArray c)).drew.heap[W.heap.size]? = some (.map es.toArray c) := heap_alloc_new W _
  rcases h kd with ⟨h1, h2⟩ | ⟨i, h1⟩
  · have := run_lookup_miss (P := Tryz.prog) Tryz.underlying224 Tryz.underlying96 rfl hb (key := .int .u8 kd) (zeroB _) (by simpa using h1) false
    rw [h2]; simpa using this
  · have := run_lookup_hit (P := Tryz.prog) Tryz.underlying224 Tryz.underlying96 rfl hb (key := .int .u8 kd) (i := i) (v := .bool (pick3 kd v1 v2 v3)) (by simpa using h1) false
    simpa using this
theorem look123 (W : World) (kd : Int) (v1 v2 v3 : Bool) : (Instr.lookup 224 (.map (some W.heap.size)) (.int .u8 kd) false).run Tryz.prog (W.alloc (.map #[⟨.int .u8 1, .bool v1, 0⟩, ⟨.int .u8 2, .bool v2, 1⟩, ⟨.int .u8 3, .bool v3, 2⟩] 3)).drew = .ok (.bool (pick3 kd v1 v2 v3)) (W.alloc (.map #[⟨.int .u8 1, .bool v1, 0⟩, ⟨.int .u8 2, .bool v2, 1⟩, ⟨.int .u8 3, .bool v3, 2⟩] 3)).drew :=
  look_of W [⟨.int .u8 1, .bool v1, 0⟩, ⟨.int .u8 2, .bool v2, 1⟩, ⟨.int .u8 3, .bool v3, 2⟩] 3 kd v1 v2 v3 fun kd => by
    unfold pick3
    by_cases k1 : kd = 1
    · subst k1; exact .inr ⟨_, rfl⟩
    · by_cases k2 : kd = 2
      · subst k2; exact .inr ⟨_, rfl⟩
      · by_cases k3 : kd = 3
        · subst k3; exact .inr ⟨_, rfl⟩
        · have e1 : (kd == 1) = false := by simpa using k1
          have e2 : (kd == 2) = false := by simpa using k2
          have e3 : (kd == 3) = false := by simpa using k3
          exact .inl ⟨by simp [Instr.findNow, Instr.sameNow, e1, e2, e3], by simp [k1, k2, k3]⟩
theorem look132 (W : World) (kd : Int) (v1 v2 v3 : Bool) : (Instr.lookup 224 (.map (some W.heap.size)) (.int .u8 kd) false).run Tryz.prog (W.alloc (.map #[⟨.int .u8 1, .bool v1, 0⟩, ⟨.int .u8 3, .bool v3, 1⟩, ⟨.int .u8 2, .bool v2, 2⟩] 3)).drew = .ok (.bool (pick3 kd v1 v2 v3)) (W.alloc (.map #[⟨.int .u8 1, .bool v1, 0⟩, ⟨.int .u8 3, .bool v3, 1⟩, ⟨.int .u8 2, .bool v2, 2⟩] 3)).drew :=
  look_of W [⟨.int .u8 1, .bool v1, 0⟩, ⟨.int .u8 3, .bool v3, 1⟩, ⟨.int .u8 2, .bool v2, 2⟩] 3 kd v1 v2 v3 fun kd => by
    unfold pick3
    by_cases k1 : kd = 1
    · subst k1; exact .inr ⟨_, rfl⟩
    · by_cases k2 : kd = 2
      · subst k2; exact .inr ⟨_, rfl⟩
      · by_cases k3 : kd = 3
        · subst k3; exact .inr ⟨_, rfl⟩
        · have e1 : (kd == 1) = false := by simpa using k1
          have e2 : (kd == 2) = false := by simpa using k2
          have e3 : (kd == 3) = false := by simpa using k3
          exact .inl ⟨by simp [Instr.findNow, Instr.sameNow, e1, e2, e3], by simp [k1, k2, k3]⟩
theorem look213 (W : World) (kd : Int) (v1 v2 v3 : Bool) : (Instr.lookup 224 (.map (some W.heap.size)) (.int .u8 kd) false).run Tryz.prog (W.alloc (.map #[⟨.int .u8 2, .bool v2, 0⟩, ⟨.int .u8 1, .bool v1, 1⟩, ⟨.int .u8 3, .bool v3, 2⟩] 3)).drew = .ok (.bool (pick3 kd v1 v2 v3)) (W.alloc (.map #[⟨.int .u8 2, .bool v2, 0⟩, ⟨.int .u8 1, .bool v1, 1⟩, ⟨.int .u8 3, .bool v3, 2⟩] 3)).drew :=
  look_of W [⟨.int .u8 2, .bool v2, 0⟩, ⟨.int .u8 1, .bool v1, 1⟩, ⟨.int .u8 3, .bool v3, 2⟩] 3 kd v1 v2 v3 fun kd => by
    unfold pick3
    by_cases k1 : kd = 1
    · subst k1; exact .inr ⟨_, rfl⟩
    · by_cases k2 : kd = 2
      · subst k2; exact .inr ⟨_, rfl⟩
      · by_cases k3 : kd = 3
        · subst k3; exact .inr ⟨_, rfl⟩
        · have e1 : (kd == 1) = false := by simpa using k1
          have e2 : (kd == 2) = false := by simpa using k2
          have e3 : (kd == 3) = false := by simpa using k3
          exact .inl ⟨by simp [Instr.findNow, Instr.sameNow, e1, e2, e3], by simp [k1, k2, k3]⟩
theorem look231 (W : World) (kd : Int) (v1 v2 v3 : Bool) : (Instr.lookup 224 (.map (some W.heap.size)) (.int .u8 kd) false).run Tryz.prog (W.alloc (.map #[⟨.int .u8 2, .bool v2, 0⟩, ⟨.int .u8 3, .bool v3, 1⟩, ⟨.int .u8 1, .bool v1, 2⟩] 3)).drew = .ok (.bool (pick3 kd v1 v2 v3)) (W.alloc (.map #[⟨.int .u8 2, .bool v2, 0⟩, ⟨.int .u8 3, .bool v3, 1⟩, ⟨.int .u8 1, .bool v1, 2⟩] 3)).drew :=
  look_of W [⟨.int .u8 2, .bool v2, 0⟩, ⟨.int .u8 3, .bool v3, 1⟩, ⟨.int .u8 1, .bool v1, 2⟩] 3 kd v1 v2 v3 fun kd => by
    unfold pick3
    by_cases k1 : kd = 1
    · subst k1; exact .inr ⟨_, rfl⟩
    · by_cases k2 : kd = 2
      · subst k2; exact .inr ⟨_, rfl⟩
      · by_cases k3 : kd = 3
        · subst k3; exact .inr ⟨_, rfl⟩
        · have e1 : (kd == 1) = false := by simpa using k1
          have e2 : (kd == 2) = false := by simpa using k2
          have e3 : (kd == 3) = false := by simpa using k3
          exact .inl ⟨by simp [Instr.findNow, Instr.sameNow, e1, e2, e3], by simp [k1, k2, k3]⟩
theorem look312 (W : World) (kd : Int) (v1 v2 v3 : Bool) : (Instr.lookup 224 (.map (some W.heap.size)) (.int .u8 kd) false).run Tryz.prog (W.alloc (.map #[⟨.int .u8 3, .bool v3, 0⟩, ⟨.int .u8 1, .bool v1, 1⟩, ⟨.int .u8 2, .bool v2, 2⟩] 3)).drew = .ok (.bool (pick3 kd v1 v2 v3)) (W.alloc (.map #[⟨.int .u8 3, .bool v3, 0⟩, ⟨.int .u8 1, .bool v1, 1⟩, ⟨.int .u8 2, .bool v2, 2⟩] 3)).drew :=
  look_of W [⟨.int .u8 3, .bool v3, 0⟩, ⟨.int .u8 1, .bool v1, 1⟩, ⟨.int .u8 2, .bool v2, 2⟩] 3 kd v1 v2 v3 fun kd => by
    unfold pick3
    by_cases k1 : kd = 1
    · subst k1; exact .inr ⟨_, rfl⟩
    · by_cases k2 : kd = 2
      · subst k2; exact .inr ⟨_, rfl⟩
      · by_cases k3 : kd = 3
        · subst k3; exact .inr ⟨_, rfl⟩
        · have e1 : (kd == 1) = false := by simpa using k1
          have e2 : (kd == 2) = false := by simpa using k2
          have e3 : (kd == 3) = false := by simpa using k3
          exact .inl ⟨by simp [Instr.findNow, Instr.sameNow, e1, e2, e3], by simp [k1, k2, k3]⟩
theorem look321 (W : World) (kd : Int) (v1 v2 v3 : Bool) : (Instr.lookup 224 (.map (some W.heap.size)) (.int .u8 kd) false).run Tryz.prog (W.alloc (.map #[⟨.int .u8 3, .bool v3, 0⟩, ⟨.int .u8 2, .bool v2, 1⟩, ⟨.int .u8 1, .bool v1, 2⟩] 3)).drew = .ok (.bool (pick3 kd v1 v2 v3)) (W.alloc (.map #[⟨.int .u8 3, .bool v3, 0⟩, ⟨.int .u8 2, .bool v2, 1⟩, ⟨.int .u8 1, .bool v1, 2⟩] 3)).drew :=
  look_of W [⟨.int .u8 3, .bool v3, 0⟩, ⟨.int .u8 2, .bool v2, 1⟩, ⟨.int .u8 1, .bool v1, 2⟩] 3 kd v1 v2 v3 fun kd => by
    unfold pick3
    by_cases k1 : kd = 1
    · subst k1; exact .inr ⟨_, rfl⟩
    · by_cases k2 : kd = 2
      · subst k2; exact .inr ⟨_, rfl⟩
      · by_cases k3 : kd = 3
        · subst k3; exact .inr ⟨_, rfl⟩
        · have e1 : (kd == 1) = false := by simpa using k1
          have e2 : (kd == 2) = false := by simpa using k2
          have e3 : (kd == 3) = false := by simpa using k3
          exact .inl ⟨by simp [Instr.findNow, Instr.sameNow, e1, e2, e3], by simp [k1, k2, k3]⟩

theorem rightB_eq (kd : Int) (key val : ByteArray) (num : Int) : rightB ⟨kd, key, val, num⟩ = (keyL key.data.toList && pick3 kd (decide (val.data.toList = []) && (num == 0)) (decide (val.data.toList.length ≤ 20) && textL val.data.toList && (num == 0)) (decide (val.data.toList = []) && (num == cutI num))) := by
  unfold rightB kindB pick3
  congr 1

end Go.Proofs.YtdmejbjpbjcfbaaGreatDoor
/- act.right, one of four cases. -/
namespace Go.Proofs.YtdmejbjpbjcfbaaGreatDoor
open Go.RowKit
set_option maxRecDepth 100000 in
set_option maxHeartbeats 4000000 in
theorem right_A (a : ActD) (w : World) (hok : a.ok) (hE : a.value.data.toList = []) :
    Calls Tryz.prog 160 #[.agg (encAct a).toArray] w fun e w' => e = .returned (.bool (rightB a)) ∧ Ext w w' := by
  obtain ⟨kd, key, val, num⟩ := a
  simp only at hE
  unfold encAct
  have hem : val.toList.isEmpty = true := by rw [Lib.toList_data, hE]; rfl
  have hz : val.size = 0 := by rw [Lib.size_eq, hE]; rfl
  have hT : (Lib.trimS val.data.toList [97, 98, 99, 100, 101, 102, 103, 104, 105, 106, 107, 108, 109, 110, 111, 112, 113, 114, 115, 116, 117, 118, 119, 120, 121, 122, 48, 49, 50, 51, 52, 53, 54, 55, 56, 57, 45]).isEmpty = true := by rw [hE]; decide
  have F1 : Hid (decide (val.data.toList = []) = true) := Lib.hid (by simp [hE])
  have F2 : Hid (decide (val.data.toList.length ≤ 20) = true) := Lib.hid (by simp [hE])
  have F3 : Hid (textL val.data.toList = true) := Lib.hid (by rw [hE]; decide)
  have HOK := Lib.hid hok; clear hE hok
  have hmm := @run_makeMap Tryz.prog
  go_enter Tryz.func160, Tryz.ntmps160
  go_wp2_with (first
    | (go_at_call 189; refine (trim_calls _ _ _ (by omega) (by decide) (by decide)).mono ?_; rintro e w1 ⟨rfl, hx1⟩; have X1 := Lib.hid hx1; clear hx1))
  have hbox := (Blk.new w [.int .u8 kd, .string key, .string val, .int .i64 num] 98).ext' X1.out
  have hx : Ext w w1 := Ext.trans (b := w.alloc (.cells #[.int .u8 kd, .string key, .string val, .int .i64 num] 98)) ((Below.refl _ w).alloc (Nat.le_refl _) _) X1.out
  have hN := hbox.lt
  generalize w.heap.size = N at *
  have c2 := hbox.cell 2; have c3 := hbox.cell 3
  simp only [List.getElem?_cons_zero, List.getElem?_cons_succ] at c2 c3
  have hk2 : ∀ o, ((w1.alloc o).drew).cell? ⟨N, 2, none⟩ = some (.string val) := fun o => (World.cell?_alloc_past o N 2 hN).trans c2
  have hk3 : ∀ o, ((w1.alloc o).drew).cell? ⟨N, 3, none⟩ = some (.int .i64 num) := fun o => (World.cell?_alloc_past o N 3 hN).trans c3
  have c1 := hbox.cell 1; have c0 := hbox.cell 0
  simp only [List.getElem?_cons_zero, List.getElem?_cons_succ] at c1 c0
  have hk0 : ∀ o, ((w1.alloc o).drew).cell? ⟨N, 0, none⟩ = some (.int .u8 kd) := fun o => (World.cell?_alloc_past o N 0 hN).trans c0
  have hk1 : ∀ o, ((w1.alloc o).drew).cell? ⟨N, 1, none⟩ = some (.string key) := fun o => (World.cell?_alloc_past o N 1 hN).trans c1
  have HK0 := Lib.hid hk0; have HK1 := Lib.hid hk1; clear hk0 hk1 c0 c1
  have HK2 := Lib.hid hk2; have HK3 := Lib.hid hk3; clear hk2 hk3
  have H1 := Lib.hid hbox; have H2 := Lib.hid hx
  clear hbox hx X1
  have hins := fun (es : List MapEntry) (c : Nat) (k : Int) (v : Value) (hf : Instr.findNow (.int .u8) (.int .u8 k) es 0 = some none) => run_mapUpdate_drew (P := Tryz.prog) Tryz.underlying224 Tryz.underlying96 rfl w1 _ rfl es c (.int .u8 k) v hf
  have i1 := fun (v : Value) => hins [] 0 1 v rfl
  have i21 := fun (a v : Value) => hins [⟨.int .u8 2, a, 0⟩] 1 1 v rfl
  have i231 := fun (a b v : Value) => hins [⟨.int .u8 2, a, 0⟩, ⟨.int .u8 3, b, 1⟩] 2 1 v rfl
  have i31 := fun (a v : Value) => hins [⟨.int .u8 3, a, 0⟩] 1 1 v rfl
  have i321 := fun (a b v : Value) => hins [⟨.int .u8 3, a, 0⟩, ⟨.int .u8 2, b, 1⟩] 2 1 v rfl
  have i2 := fun (v : Value) => hins [] 0 2 v rfl
  have i12 := fun (a v : Value) => hins [⟨.int .u8 1, a, 0⟩] 1 2 v rfl
  have i132 := fun (a b v : Value) => hins [⟨.int .u8 1, a, 0⟩, ⟨.int .u8 3, b, 1⟩] 2 2 v rfl
  have i32 := fun (a v : Value) => hins [⟨.int .u8 3, a, 0⟩] 1 2 v rfl
  have i312 := fun (a b v : Value) => hins [⟨.int .u8 3, a, 0⟩, ⟨.int .u8 1, b, 1⟩] 2 2 v rfl
  have i3 := fun (v : Value) => hins [] 0 3 v rfl
  have i13 := fun (a v : Value) => hins [⟨.int .u8 1, a, 0⟩] 1 3 v rfl
  have i123 := fun (a b v : Value) => hins [⟨.int .u8 1, a, 0⟩, ⟨.int .u8 2, b, 1⟩] 2 3 v rfl
  have i23 := fun (a v : Value) => hins [⟨.int .u8 2, a, 0⟩] 1 3 v rfl
  have i213 := fun (a b v : Value) => hins [⟨.int .u8 2, a, 0⟩, ⟨.int .u8 1, b, 1⟩] 2 3 v rfl
  clear hins
  simp only [List.cons_append, List.nil_append, Nat.reduceAdd] at i1 i21 i231 i31 i321 i2 i12 i132 i32 i312 i3 i13 i123 i23 i213
  go_region_held3 (fun W => W.cell? ⟨N, 2, none⟩ = some (.string val) ∧ W.cell? ⟨N, 3, none⟩ = some (.int .i64 num)) (first | exact ⟨c2, c3⟩ | exact ⟨HK2.out _, HK3.out _⟩)
    (first
    | (go_at_call 190; refine (cut_calls _ _).mono ?_; rintro e w' ⟨rfl, rfl⟩))
  all_goals
    clear i1 i21 i231 i31 i321 i2 i12 i132 i32 i312 i3 i13 i123 i23 i213
    have q1 := look123 w1; have q2 := look132 w1; have q3 := look213 w1; have q4 := look231 w1; have q5 := look312 w1; have q6 := look321 w1
    have k0 := HK0.out; have k1 := HK1.out
    rename_i hHeld
    clear hHeld
  all_goals
    cases hk : keyL key.data.toList
    · have HK := Lib.hid hk; clear hk
      go_wp2_with (go_at_call 82; refine (key_calls _ _ HOK.out.2.2.1).mono ?_; rw [HK.out]; rintro e w' ⟨rfl, rfl⟩)
      go_ret
      exact ⟨ret_bool (by rw [rightB_eq, HK.out]; rfl), (H2.out.trans ((Below.refl _ w1).alloc (Nat.le_refl _) _)).drew⟩
    · have HK := Lib.hid hk; clear hk
      go_wp2_with (go_at_call 82; refine (key_calls _ _ HOK.out.2.2.1).mono ?_; rw [HK.out]; rintro e w' ⟨rfl, rfl⟩)
      go_ret
      exact ⟨ret_bool (by rw [rightB_eq, HK.out, F1.out, F2.out, F3.out]; rfl), (H2.out.trans ((Below.refl _ w1).alloc (Nat.le_refl _) _)).drew⟩
end Go.Proofs.YtdmejbjpbjcfbaaGreatDoor
/- act.right, one of four cases. -/
namespace Go.Proofs.YtdmejbjpbjcfbaaGreatDoor
open Go.RowKit
set_option maxRecDepth 100000 in
set_option maxHeartbeats 4000000 in
theorem right_B (a : ActD) (w : World) (hok : a.ok) (hE : ¬ a.value.data.toList = []) (hA : 20 < a.value.size) :
    Calls Tryz.prog 160 #[.agg (encAct a).toArray] w fun e w' => e = .returned (.bool (rightB a)) ∧ Ext w w' := by
  obtain ⟨kd, key, val, num⟩ := a
  simp only at hE hA
  unfold encAct
  have hem : val.toList.isEmpty = false := by
    rw [Lib.toList_data]
    cases h : val.data.toList with
    | nil => exact absurd h hE
    | cons a r => rfl
  have hvs : val.size ≤ 140737488351232 := hok.2.2.2.1
  have F1 : Hid (decide (val.data.toList = []) = false) := Lib.hid (by simpa using hE)
  have hz : 20 < val.size := hA
  have hg : decide ((val.size : Int) ≤ 20) = false := by simp; omega
  have F2 : Hid (decide (val.data.toList.length ≤ 20) = false) := Lib.hid (by have := Lib.size_eq val; simp; omega)
  have HOK := Lib.hid hok; clear hE hok hA
  have hmm := @run_makeMap Tryz.prog
  go_enter Tryz.func160, Tryz.ntmps160
  go_wp2_with (first
    | (go_at_call 189; refine (trim_calls _ _ _ (by omega) (by decide) (by decide)).mono ?_; rintro e w1 ⟨rfl, hx1⟩; have X1 := Lib.hid hx1; clear hx1))
  have hbox := (Blk.new w [.int .u8 kd, .string key, .string val, .int .i64 num] 98).ext' X1.out
  have hx : Ext w w1 := Ext.trans (b := w.alloc (.cells #[.int .u8 kd, .string key, .string val, .int .i64 num] 98)) ((Below.refl _ w).alloc (Nat.le_refl _) _) X1.out
  have hN := hbox.lt
  generalize w.heap.size = N at *
  have c2 := hbox.cell 2; have c3 := hbox.cell 3
  simp only [List.getElem?_cons_zero, List.getElem?_cons_succ] at c2 c3
  have hk2 : ∀ o, ((w1.alloc o).drew).cell? ⟨N, 2, none⟩ = some (.string val) := fun o => (World.cell?_alloc_past o N 2 hN).trans c2
  have hk3 : ∀ o, ((w1.alloc o).drew).cell? ⟨N, 3, none⟩ = some (.int .i64 num) := fun o => (World.cell?_alloc_past o N 3 hN).trans c3
  have c1 := hbox.cell 1; have c0 := hbox.cell 0
  simp only [List.getElem?_cons_zero, List.getElem?_cons_succ] at c1 c0
  have hk0 : ∀ o, ((w1.alloc o).drew).cell? ⟨N, 0, none⟩ = some (.int .u8 kd) := fun o => (World.cell?_alloc_past o N 0 hN).trans c0
  have hk1 : ∀ o, ((w1.alloc o).drew).cell? ⟨N, 1, none⟩ = some (.string key) := fun o => (World.cell?_alloc_past o N 1 hN).trans c1
  have HK0 := Lib.hid hk0; have HK1 := Lib.hid hk1; clear hk0 hk1 c0 c1
  have HK2 := Lib.hid hk2; have HK3 := Lib.hid hk3; clear hk2 hk3
  have H1 := Lib.hid hbox; have H2 := Lib.hid hx
  clear hbox hx X1
  have hins := fun (es : List MapEntry) (c : Nat) (k : Int) (v : Value) (hf : Instr.findNow (.int .u8) (.int .u8 k) es 0 = some none) => run_mapUpdate_drew (P := Tryz.prog) Tryz.underlying224 Tryz.underlying96 rfl w1 _ rfl es c (.int .u8 k) v hf
  have i1 := fun (v : Value) => hins [] 0 1 v rfl
  have i21 := fun (a v : Value) => hins [⟨.int .u8 2, a, 0⟩] 1 1 v rfl
  have i231 := fun (a b v : Value) => hins [⟨.int .u8 2, a, 0⟩, ⟨.int .u8 3, b, 1⟩] 2 1 v rfl
  have i31 := fun (a v : Value) => hins [⟨.int .u8 3, a, 0⟩] 1 1 v rfl
  have i321 := fun (a b v : Value) => hins [⟨.int .u8 3, a, 0⟩, ⟨.int .u8 2, b, 1⟩] 2 1 v rfl
  have i2 := fun (v : Value) => hins [] 0 2 v rfl
  have i12 := fun (a v : Value) => hins [⟨.int .u8 1, a, 0⟩] 1 2 v rfl
  have i132 := fun (a b v : Value) => hins [⟨.int .u8 1, a, 0⟩, ⟨.int .u8 3, b, 1⟩] 2 2 v rfl
  have i32 := fun (a v : Value) => hins [⟨.int .u8 3, a, 0⟩] 1 2 v rfl
  have i312 := fun (a b v : Value) => hins [⟨.int .u8 3, a, 0⟩, ⟨.int .u8 1, b, 1⟩] 2 2 v rfl
  have i3 := fun (v : Value) => hins [] 0 3 v rfl
  have i13 := fun (a v : Value) => hins [⟨.int .u8 1, a, 0⟩] 1 3 v rfl
  have i123 := fun (a b v : Value) => hins [⟨.int .u8 1, a, 0⟩, ⟨.int .u8 2, b, 1⟩] 2 3 v rfl
  have i23 := fun (a v : Value) => hins [⟨.int .u8 2, a, 0⟩] 1 3 v rfl
  have i213 := fun (a b v : Value) => hins [⟨.int .u8 2, a, 0⟩, ⟨.int .u8 1, b, 1⟩] 2 3 v rfl
  clear hins
  simp only [List.cons_append, List.nil_append, Nat.reduceAdd] at i1 i21 i231 i31 i321 i2 i12 i132 i32 i312 i3 i13 i123 i23 i213
  refine wp_region_held_drew (S := fun W => W.cell? ⟨N, 2, none⟩ = some (.string val) ∧ W.cell? ⟨N, 3, none⟩ = some (.int .i64 num)) (by kernel_rfl) ?_ (fun hHeld => ?_)
  · exact ⟨c2, c3⟩
  refine wpAnyH_take (i := 1) (oi := ?oi1) (v := ?v1) ?hi1 ?hs1 ?hf1 ?hr1 ?hQ1 ?hy1 ?hS1 ?rest1
  case hi1 => (simp only [List.getElem?_toArray, List.getElem?_cons_succ, List.getElem?_cons_zero]; rfl)
  case hs1 => kernel_rfl
  case hf1 => kernel_rfl
  case hr1 => kernel_rfl
  case hQ1 => exact (fun _ _ _ h => h)
  case hS1 => assumption
  case hy1 => (refine Or.inl ⟨by rfl, ?_⟩; intro w hSw; (try dsimp only at hSw); go_simp; try with_reducible rfl)
  (try simp only [Act.put, List.setIfInBounds_toArray, List.set_cons_zero, List.set_cons_succ])
  refine wpAnyH_take (i := 3) (oi := ?oi2) (v := ?v2) ?hi2 ?hs2 ?hf2 ?hr2 ?hQ2 ?hy2 ?hS2 ?rest2
  case hi2 => (simp only [List.getElem?_toArray, List.getElem?_cons_succ, List.getElem?_cons_zero]; rfl)
  case hs2 => kernel_rfl
  case hf2 => kernel_rfl
  case hr2 => kernel_rfl
  case hQ2 => exact (fun _ _ _ h => h)
  case hS2 => assumption
  case hy2 => (refine Or.inl ⟨by rfl, ?_⟩; intro w hSw; (try dsimp only at hSw); go_simp; try with_reducible rfl)
  (try simp only [Act.put, List.setIfInBounds_toArray, List.set_cons_zero, List.set_cons_succ])
  refine wpAnyH_take (i := 4) (oi := ?oi3) (v := ?v3) ?hi3 ?hs3 ?hf3 ?hr3 ?hQ3 ?hy3 ?hS3 ?rest3
  case hi3 => (simp only [List.getElem?_toArray, List.getElem?_cons_succ, List.getElem?_cons_zero]; rfl)
  case hs3 => kernel_rfl
  case hf3 => kernel_rfl
  case hr3 => kernel_rfl
  case hQ3 => exact (fun _ _ _ h => h)
  case hS3 => assumption
  case hy3 => (refine Or.inl ⟨by rfl, ?_⟩; intro w hSw; (try dsimp only at hSw); go_simp; try with_reducible rfl)
  (try simp only [Act.put, List.setIfInBounds_toArray, List.set_cons_zero, List.set_cons_succ])
  refine wpAnyH_take (i := 5) (oi := ?oi4) (v := ?v4) ?hi4 ?hs4 ?hf4 ?hr4 ?hQ4 ?hy4 ?hS4 ?rest4
  case hi4 => (simp only [List.getElem?_toArray, List.getElem?_cons_succ, List.getElem?_cons_zero]; rfl)
  case hs4 => kernel_rfl
  case hf4 => kernel_rfl
  case hr4 => kernel_rfl
  case hQ4 => exact (fun _ _ _ h => h)
  case hS4 => assumption
  case hy4 => (refine Or.inl ⟨by rfl, ?_⟩; intro w hSw; (try dsimp only at hSw); go_simp; try with_reducible rfl)
  (try simp only [Act.put, List.setIfInBounds_toArray, List.set_cons_zero, List.set_cons_succ])
  refine wpAnyH_take (i := 6) (oi := ?oi5) (v := ?v5) ?hi5 ?hs5 ?hf5 ?hr5 ?hQ5 ?hy5 ?hS5 ?rest5
  case hi5 => (simp only [List.getElem?_toArray, List.getElem?_cons_succ, List.getElem?_cons_zero]; rfl)
  case hs5 => kernel_rfl
  case hf5 => kernel_rfl
  case hr5 => kernel_rfl
  case hQ5 => exact (fun _ _ _ h => h)
  case hS5 => assumption
  case hy5 => (refine Or.inl ⟨by rfl, ?_⟩; intro w hSw; (try dsimp only at hSw); go_simp; try with_reducible rfl)
  (try simp only [Act.put, List.setIfInBounds_toArray, List.set_cons_zero, List.set_cons_succ])
  refine wpAnyH_take (i := 7) (oi := ?oi6) (v := ?v6) ?hi6 ?hs6 ?hf6 ?hr6 ?hQ6 ?hy6 ?hS6 ?rest6
  case hi6 => (simp only [List.getElem?_toArray, List.getElem?_cons_succ, List.getElem?_cons_zero]; rfl)
  case hs6 => kernel_rfl
  case hf6 => kernel_rfl
  case hr6 => kernel_rfl
  case hQ6 => exact (fun _ _ _ h => h)
  case hS6 => assumption
  case hy6 => (refine Or.inl ⟨by rfl, ?_⟩; intro w hSw; (try dsimp only at hSw); go_simp; try with_reducible rfl)
  (try simp only [Act.put, List.setIfInBounds_toArray, List.set_cons_zero, List.set_cons_succ])
  refine wpAnyH_take (i := 8) (oi := ?oi7) (v := undef) ?hi7 ?hs7 ?hf7 ?hr7 ?hQ7 ?hy7 ?hS7 ?rest7
  case hi7 => (simp only [List.getElem?_toArray, List.getElem?_cons_succ, List.getElem?_cons_zero]; rfl)
  case hs7 => kernel_rfl
  case hf7 => kernel_rfl
  case hr7 => kernel_rfl
  case hQ7 => exact (fun _ _ _ h => h)
  case hS7 => assumption
  case hy7 => exact Or.inr ⟨by rfl, rfl⟩
  (try simp only [Act.put, List.setIfInBounds_toArray, List.set_cons_zero, List.set_cons_succ])
  refine wpAnyH_take (i := 9) (oi := ?oi8) (v := ?v8) ?hi8 ?hs8 ?hf8 ?hr8 ?hQ8 ?hy8 ?hS8 ?rest8
  case hi8 => (simp only [List.getElem?_toArray, List.getElem?_cons_succ, List.getElem?_cons_zero]; rfl)
  case hs8 => kernel_rfl
  case hf8 => kernel_rfl
  case hr8 => kernel_rfl
  case hQ8 => exact (fun _ _ _ h => h)
  case hS8 => assumption
  case hy8 => (refine Or.inl ⟨by rfl, ?_⟩; intro w hSw; (try dsimp only at hSw); go_simp; try with_reducible rfl)
  (try simp only [Act.put, List.setIfInBounds_toArray, List.set_cons_zero, List.set_cons_succ])
  refine wpAnyH_take (i := 10) (oi := ?oi9) (v := ?v9) ?hi9 ?hs9 ?hf9 ?hr9 ?hQ9 ?hy9 ?hS9 ?rest9
  case hi9 => (simp only [List.getElem?_toArray, List.getElem?_cons_succ, List.getElem?_cons_zero]; rfl)
  case hs9 => kernel_rfl
  case hf9 => kernel_rfl
  case hr9 => kernel_rfl
  case hQ9 => exact (fun _ _ _ h => h)
  case hS9 => assumption
  case hy9 => (refine Or.inl ⟨by rfl, ?_⟩; intro w hSw; (try dsimp only at hSw); go_simp; try with_reducible rfl)
  (try simp only [Act.put, List.setIfInBounds_toArray, List.set_cons_zero, List.set_cons_succ])
  refine wpAnyH_take (i := 11) (oi := ?oi10) (v := undef) ?hi10 ?hs10 ?hf10 ?hr10 ?hQ10 ?hy10 ?hS10 ?rest10
  case hi10 => (simp only [List.getElem?_toArray, List.getElem?_cons_succ, List.getElem?_cons_zero]; rfl)
  case hs10 => kernel_rfl
  case hf10 => kernel_rfl
  case hr10 => kernel_rfl
  case hQ10 => exact (fun _ _ _ h => h)
  case hS10 => assumption
  case hy10 => exact Or.inr ⟨by rfl, rfl⟩
  (try simp only [Act.put, List.setIfInBounds_toArray, List.set_cons_zero, List.set_cons_succ])
  refine wpAnyH_take (i := 12) (oi := ?oi11) (v := undef) ?hi11 ?hs11 ?hf11 ?hr11 ?hQ11 ?hy11 ?hS11 ?rest11
  case hi11 => (simp only [List.getElem?_toArray, List.getElem?_cons_succ, List.getElem?_cons_zero]; rfl)
  case hs11 => kernel_rfl
  case hf11 => kernel_rfl
  case hr11 => kernel_rfl
  case hQ11 => exact (fun _ _ _ h => h)
  case hS11 => assumption
  case hy11 => exact Or.inr ⟨by rfl, rfl⟩
  (try simp only [Act.put, List.setIfInBounds_toArray, List.set_cons_zero, List.set_cons_succ])
  refine wpAnyH_take (i := 13) (oi := ?oi12) (v := undef) ?hi12 ?hs12 ?hf12 ?hr12 ?hQ12 ?hy12 ?hS12 ?rest12
  case hi12 => (simp only [List.getElem?_toArray, List.getElem?_cons_succ, List.getElem?_cons_zero]; rfl)
  case hs12 => kernel_rfl
  case hf12 => kernel_rfl
  case hr12 => kernel_rfl
  case hQ12 => exact (fun _ _ _ h => h)
  case hS12 => assumption
  case hy12 => exact Or.inr ⟨by rfl, rfl⟩
  (try simp only [Act.put, List.setIfInBounds_toArray, List.set_cons_zero, List.set_cons_succ])
  refine wpAnyH_take (i := 14) (oi := ?oi13) (v := ?v13) ?hi13 ?hs13 ?hf13 ?hr13 ?hQ13 ?hy13 ?hS13 ?rest13
  case hi13 => (simp only [List.getElem?_toArray, List.getElem?_cons_succ, List.getElem?_cons_zero]; rfl)
  case hs13 => kernel_rfl
  case hf13 => kernel_rfl
  case hr13 => kernel_rfl
  case hQ13 => exact (fun _ _ _ h => h)
  case hS13 => assumption
  case hy13 => (refine Or.inl ⟨by rfl, ?_⟩; intro w hSw; (try dsimp only at hSw); go_simp; try with_reducible rfl)
  (try simp only [Act.put, List.setIfInBounds_toArray, List.set_cons_zero, List.set_cons_succ])
  refine wpAnyH_take (i := 16) (oi := ?oi14) (v := ?v14) ?hi14 ?hs14 ?hf14 ?hr14 ?hQ14 ?hy14 ?hS14 ?rest14
  case hi14 => (simp only [List.getElem?_toArray, List.getElem?_cons_succ, List.getElem?_cons_zero]; rfl)
  case hs14 => kernel_rfl
  case hf14 => kernel_rfl
  case hr14 => kernel_rfl
  case hQ14 => exact (fun _ _ _ h => h)
  case hS14 => assumption
  case hy14 => (refine Or.inl ⟨by rfl, ?_⟩; intro w hSw; (try dsimp only at hSw); go_simp; try with_reducible rfl)
  (try simp only [Act.put, List.setIfInBounds_toArray, List.set_cons_zero, List.set_cons_succ])
  refine wpAnyH_take (i := 17) (oi := ?oi15) (v := ?v15) ?hi15 ?hs15 ?hf15 ?hr15 ?hQ15 ?hy15 ?hS15 ?rest15
  case hi15 => (simp only [List.getElem?_toArray, List.getElem?_cons_succ, List.getElem?_cons_zero]; rfl)
  case hs15 => kernel_rfl
  case hf15 => kernel_rfl
  case hr15 => kernel_rfl
  case hQ15 => exact (fun _ _ _ h => h)
  case hS15 => assumption
  case hy15 => (refine Or.inl ⟨by rfl, ?_⟩; intro w hSw; (try dsimp only at hSw); go_simp; try with_reducible rfl)
  (try simp only [Act.put, List.setIfInBounds_toArray, List.set_cons_zero, List.set_cons_succ])
  refine wpAnyH_take (i := 18) (oi := ?oi16) (v := ?v16) ?hi16 ?hs16 ?hf16 ?hr16 ?hQ16 ?hy16 ?hS16 ?rest16
  case hi16 => (simp only [List.getElem?_toArray, List.getElem?_cons_succ, List.getElem?_cons_zero]; rfl)
  case hs16 => kernel_rfl
  case hf16 => kernel_rfl
  case hr16 => kernel_rfl
  case hQ16 => exact (fun _ _ _ h => h)
  case hS16 => assumption
  case hy16 => (refine Or.inl ⟨by rfl, ?_⟩; intro w hSw; (try dsimp only at hSw); go_simp; try with_reducible rfl)
  (try simp only [Act.put, List.setIfInBounds_toArray, List.set_cons_zero, List.set_cons_succ])
  refine wpAnyH_take (i := 19) (oi := ?oi17) (v := ?v17) ?hi17 ?hs17 ?hf17 ?hr17 ?hQ17 ?hy17 ?hS17 ?rest17
  case hi17 => (simp only [List.getElem?_toArray, List.getElem?_cons_succ, List.getElem?_cons_zero]; rfl)
  case hs17 => kernel_rfl
  case hf17 => kernel_rfl
  case hr17 => kernel_rfl
  case hQ17 => exact (fun _ _ _ h => h)
  case hS17 => assumption
  case hy17 => (refine Or.inl ⟨by rfl, ?_⟩; intro w hSw; (try dsimp only at hSw); go_simp; try with_reducible rfl)
  (try simp only [Act.put, List.setIfInBounds_toArray, List.set_cons_zero, List.set_cons_succ])
  refine wpAnyH_take (i := 20) (oi := ?oi18) (v := undef) ?hi18 ?hs18 ?hf18 ?hr18 ?hQ18 ?hy18 ?hS18 ?rest18
  case hi18 => (simp only [List.getElem?_toArray, List.getElem?_cons_succ, List.getElem?_cons_zero]; rfl)
  case hs18 => kernel_rfl
  case hf18 => kernel_rfl
  case hr18 => kernel_rfl
  case hQ18 => exact (fun _ _ _ h => h)
  case hS18 => assumption
  case hy18 => exact Or.inr ⟨by rfl, rfl⟩
  (try simp only [Act.put, List.setIfInBounds_toArray, List.set_cons_zero, List.set_cons_succ])
  refine wpAnyH_take (i := 21) (oi := ?oi19) (v := undef) ?hi19 ?hs19 ?hf19 ?hr19 ?hQ19 ?hy19 ?hS19 ?rest19
  case hi19 => (simp only [List.getElem?_toArray, List.getElem?_cons_succ, List.getElem?_cons_zero]; rfl)
  case hs19 => kernel_rfl
  case hf19 => kernel_rfl
  case hr19 => kernel_rfl
  case hQ19 => exact (fun _ _ _ h => h)
  case hS19 => assumption
  case hy19 => exact Or.inr ⟨by rfl, rfl⟩
  (try simp only [Act.put, List.setIfInBounds_toArray, List.set_cons_zero, List.set_cons_succ])
  refine wpAnyH_take (i := 22) (oi := ?oi20) (v := undef) ?hi20 ?hs20 ?hf20 ?hr20 ?hQ20 ?hy20 ?hS20 ?rest20
  case hi20 => (simp only [List.getElem?_toArray, List.getElem?_cons_succ, List.getElem?_cons_zero]; rfl)
  case hs20 => kernel_rfl
  case hf20 => kernel_rfl
  case hr20 => kernel_rfl
  case hQ20 => exact (fun _ _ _ h => h)
  case hS20 => assumption
  case hy20 => exact Or.inr ⟨by rfl, rfl⟩
  (try simp only [Act.put, List.setIfInBounds_toArray, List.set_cons_zero, List.set_cons_succ])
  refine wpAnyH_take (i := 23) (oi := ?oi21) (v := undef) ?hi21 ?hs21 ?hf21 ?hr21 ?hQ21 ?hy21 ?hS21 ?rest21
  case hi21 => (simp only [List.getElem?_toArray, List.getElem?_cons_succ, List.getElem?_cons_zero]; rfl)
  case hs21 => kernel_rfl
  case hf21 => kernel_rfl
  case hr21 => kernel_rfl
  case hQ21 => exact (fun _ _ _ h => h)
  case hS21 => assumption
  case hy21 => exact Or.inr ⟨by rfl, rfl⟩
  (try simp only [Act.put, List.setIfInBounds_toArray, List.set_cons_zero, List.set_cons_succ])
  refine wpAnyH_take (i := 24) (oi := ?oi22) (v := undef) ?hi22 ?hs22 ?hf22 ?hr22 ?hQ22 ?hy22 ?hS22 ?rest22
  case hi22 => (simp only [List.getElem?_toArray, List.getElem?_cons_succ, List.getElem?_cons_zero]; rfl)
  case hs22 => kernel_rfl
  case hf22 => kernel_rfl
  case hr22 => kernel_rfl
  case hQ22 => exact (fun _ _ _ h => h)
  case hS22 => assumption
  case hy22 => exact Or.inr ⟨by rfl, rfl⟩
  (try simp only [Act.put, List.setIfInBounds_toArray, List.set_cons_zero, List.set_cons_succ])
  refine wpAnyH_take (i := 25) (oi := ?oi23) (v := undef) ?hi23 ?hs23 ?hf23 ?hr23 ?hQ23 ?hy23 ?hS23 ?rest23
  case hi23 => (simp only [List.getElem?_toArray, List.getElem?_cons_succ, List.getElem?_cons_zero]; rfl)
  case hs23 => kernel_rfl
  case hf23 => kernel_rfl
  case hr23 => kernel_rfl
  case hQ23 => exact (fun _ _ _ h => h)
  case hS23 => assumption
  case hy23 => exact Or.inr ⟨by rfl, rfl⟩
  (try simp only [Act.put, List.setIfInBounds_toArray, List.set_cons_zero, List.set_cons_succ])
  refine wpAnyH_take (i := 26) (oi := ?oi24) (v := ?v24) ?hi24 ?hs24 ?hf24 ?hr24 ?hQ24 ?hy24 ?hS24 ?rest24
  case hi24 => (simp only [List.getElem?_toArray, List.getElem?_cons_succ, List.getElem?_cons_zero]; rfl)
  case hs24 => kernel_rfl
  case hf24 => kernel_rfl
  case hr24 => kernel_rfl
  case hQ24 => exact (fun _ _ _ h => h)
  case hS24 => assumption
  case hy24 => (refine Or.inl ⟨by rfl, ?_⟩; intro w hSw; (try dsimp only at hSw); go_simp; try with_reducible rfl)
  (try simp only [Act.put, List.setIfInBounds_toArray, List.set_cons_zero, List.set_cons_succ])
  refine wpAnyH_ready (rs := [0]) (by kernel_rfl) (by simp) ?_
  refine AllReadyH.cons rfl (fun K hK => ?_) ?_
  · go_simp
    refine hK.out _ _ ?_ (fun hHeld2 => ?_)
    · (first | exact ⟨c2, c3⟩ | exact ⟨HK2.out _, HK3.out _⟩)
    · clear hK K hHeld
      have hHeld := hHeld2; clear hHeld2
      (try simp only [Act.put, List.setIfInBounds_toArray, List.set_cons_zero, List.set_cons_succ])
      refine wpAnyH_ready (rs := [2, 15, 27]) (by kernel_rfl) (by simp) ?_
      refine AllReadyH.cons rfl (fun K hK => ?_) ?_
      · go_simp
        refine hK.out _ _ ?_ (fun hHeld2 => ?_)
        · (first | exact ⟨c2, c3⟩ | exact ⟨HK2.out _, HK3.out _⟩)
        · clear hK K hHeld
          have hHeld := hHeld2; clear hHeld2
          (try simp only [Act.put, List.setIfInBounds_toArray, List.set_cons_zero, List.set_cons_succ])
          refine wpAnyH_ready (rs := [15, 27]) (by kernel_rfl) (by simp) ?_
          refine AllReadyH.cons rfl (fun K hK => ?_) ?_
          · go_simp
            refine hK.out _ _ ?_ (fun hHeld2 => ?_)
            · (first | exact ⟨c2, c3⟩ | exact ⟨HK2.out _, HK3.out _⟩)
            · clear hK K hHeld
              have hHeld := hHeld2; clear hHeld2
              (try simp only [Act.put, List.setIfInBounds_toArray, List.set_cons_zero, List.set_cons_succ])
              refine wpAnyH_ready (rs := [27]) (by kernel_rfl) (by simp) ?_
              refine AllReadyH.cons rfl (fun K hK => ?_) ?_
              · go_simp
                refine hK.out _ _ ?_ (fun hHeld2 => ?_)
                · (first | exact ⟨c2, c3⟩ | exact ⟨HK2.out _, HK3.out _⟩)
                · clear hK K hHeld
                  have hHeld := hHeld2; clear hHeld2
                  (try simp only [Act.put, List.setIfInBounds_toArray, List.set_cons_zero, List.set_cons_succ])
                  refine wpAnyH_take (i := 28) (oi := ?oi25) (v := ?v25) ?hi25 ?hs25 ?hf25 ?hr25 ?hQ25 ?hy25 ?hS25 ?rest25
                  case hi25 => (simp only [List.getElem?_toArray, List.getElem?_cons_succ, List.getElem?_cons_zero]; rfl)
                  case hs25 => kernel_rfl
                  case hf25 => kernel_rfl
                  case hr25 => kernel_rfl
                  case hQ25 => exact (fun _ _ _ h => h)
                  case hS25 => assumption
                  case hy25 => (refine Or.inl ⟨by rfl, ?_⟩; intro w hSw; (try dsimp only at hSw); go_simp; try with_reducible rfl)
                  (try simp only [Act.put, List.setIfInBounds_toArray, List.set_cons_zero, List.set_cons_succ])
                  refine wpAnyH_take (i := 29) (oi := ?oi26) (v := ?v26) ?hi26 ?hs26 ?hf26 ?hr26 ?hQ26 ?hy26 ?hS26 ?rest26
                  case hi26 => (simp only [List.getElem?_toArray, List.getElem?_cons_succ, List.getElem?_cons_zero]; rfl)
                  case hs26 => kernel_rfl
                  case hf26 => kernel_rfl
                  case hr26 => kernel_rfl
                  case hQ26 => exact (fun _ _ _ h => h)
                  case hS26 => assumption
                  case hy26 => (refine Or.inl ⟨by rfl, ?_⟩; intro w hSw; (try dsimp only at hSw); go_simp; try with_reducible rfl)
                  (try simp only [Act.put, List.setIfInBounds_toArray, List.set_cons_zero, List.set_cons_succ])
                  refine wpAnyH_done (by kernel_rfl) ?_ _
                  clear i1 i21 i231 i31 i321 i2 i12 i132 i32 i312 i3 i13 i123 i23 i213
                  have q1 := look123 w1; have q2 := look132 w1; have q3 := look213 w1; have q4 := look231 w1; have q5 := look312 w1; have q6 := look321 w1
                  have k0 := HK0.out; have k1 := HK1.out
                  clear hHeld
                  cases hk : keyL key.data.toList
                  · have HK := Lib.hid hk; clear hk
                    go_wp2_with (go_at_call 82; refine (key_calls _ _ HOK.out.2.2.1).mono ?_; rw [HK.out]; rintro e w' ⟨rfl, rfl⟩)
                    go_ret
                    exact ⟨ret_bool (by rw [rightB_eq, HK.out]; rfl), (H2.out.trans ((Below.refl _ w1).alloc (Nat.le_refl _) _)).drew⟩
                  · have HK := Lib.hid hk; clear hk
                    go_wp2_with (go_at_call 82; refine (key_calls _ _ HOK.out.2.2.1).mono ?_; rw [HK.out]; rintro e w' ⟨rfl, rfl⟩)
                    go_ret
                    exact ⟨ret_bool (by rw [rightB_eq, HK.out, F1.out, F2.out]; rfl), (H2.out.trans ((Below.refl _ w1).alloc (Nat.le_refl _) _)).drew⟩
              exact AllReadyH.nil
          refine AllReadyH.cons rfl (fun K hK => ?_) ?_
          · go_simp
            refine hK.out _ _ ?_ (fun hHeld2 => ?_)
            · (first | exact ⟨c2, c3⟩ | exact ⟨HK2.out _, HK3.out _⟩)
            · clear hK K hHeld
              have hHeld := hHeld2; clear hHeld2
              (try simp only [Act.put, List.setIfInBounds_toArray, List.set_cons_zero, List.set_cons_succ])
              refine wpAnyH_ready (rs := [15]) (by kernel_rfl) (by simp) ?_
              refine AllReadyH.cons rfl (fun K hK => ?_) ?_
              · go_simp
                refine hK.out _ _ ?_ (fun hHeld2 => ?_)
                · (first | exact ⟨c2, c3⟩ | exact ⟨HK2.out _, HK3.out _⟩)
                · clear hK K hHeld
                  have hHeld := hHeld2; clear hHeld2
                  (try simp only [Act.put, List.setIfInBounds_toArray, List.set_cons_zero, List.set_cons_succ])
                  refine wpAnyH_take (i := 28) (oi := ?oi27) (v := ?v27) ?hi27 ?hs27 ?hf27 ?hr27 ?hQ27 ?hy27 ?hS27 ?rest27
                  case hi27 => (simp only [List.getElem?_toArray, List.getElem?_cons_succ, List.getElem?_cons_zero]; rfl)
                  case hs27 => kernel_rfl
                  case hf27 => kernel_rfl
                  case hr27 => kernel_rfl
                  case hQ27 => exact (fun _ _ _ h => h)
                  case hS27 => assumption
                  case hy27 => (refine Or.inl ⟨by rfl, ?_⟩; intro w hSw; (try dsimp only at hSw); go_simp; try with_reducible rfl)
                  (try simp only [Act.put, List.setIfInBounds_toArray, List.set_cons_zero, List.set_cons_succ])
                  refine wpAnyH_take (i := 29) (oi := ?oi28) (v := ?v28) ?hi28 ?hs28 ?hf28 ?hr28 ?hQ28 ?hy28 ?hS28 ?rest28
                  case hi28 => (simp only [List.getElem?_toArray, List.getElem?_cons_succ, List.getElem?_cons_zero]; rfl)
                  case hs28 => kernel_rfl
                  case hf28 => kernel_rfl
                  case hr28 => kernel_rfl
                  case hQ28 => exact (fun _ _ _ h => h)
                  case hS28 => assumption
                  case hy28 => (refine Or.inl ⟨by rfl, ?_⟩; intro w hSw; (try dsimp only at hSw); go_simp; try with_reducible rfl)
                  (try simp only [Act.put, List.setIfInBounds_toArray, List.set_cons_zero, List.set_cons_succ])
                  refine wpAnyH_done (by kernel_rfl) ?_ _
                  clear i1 i21 i231 i31 i321 i2 i12 i132 i32 i312 i3 i13 i123 i23 i213
                  have q1 := look123 w1; have q2 := look132 w1; have q3 := look213 w1; have q4 := look231 w1; have q5 := look312 w1; have q6 := look321 w1
                  have k0 := HK0.out; have k1 := HK1.out
                  clear hHeld
                  cases hk : keyL key.data.toList
                  · have HK := Lib.hid hk; clear hk
                    go_wp2_with (go_at_call 82; refine (key_calls _ _ HOK.out.2.2.1).mono ?_; rw [HK.out]; rintro e w' ⟨rfl, rfl⟩)
                    go_ret
                    exact ⟨ret_bool (by rw [rightB_eq, HK.out]; rfl), (H2.out.trans ((Below.refl _ w1).alloc (Nat.le_refl _) _)).drew⟩
                  · have HK := Lib.hid hk; clear hk
                    go_wp2_with (go_at_call 82; refine (key_calls _ _ HOK.out.2.2.1).mono ?_; rw [HK.out]; rintro e w' ⟨rfl, rfl⟩)
                    go_ret
                    exact ⟨ret_bool (by rw [rightB_eq, HK.out, F1.out, F2.out]; rfl), (H2.out.trans ((Below.refl _ w1).alloc (Nat.le_refl _) _)).drew⟩
              exact AllReadyH.nil
          exact AllReadyH.nil
      refine AllReadyH.cons rfl (fun K hK => ?_) ?_
      · go_simp
        refine hK.out _ _ ?_ (fun hHeld2 => ?_)
        · (first | exact ⟨c2, c3⟩ | exact ⟨HK2.out _, HK3.out _⟩)
        · clear hK K hHeld
          have hHeld := hHeld2; clear hHeld2
          (try simp only [Act.put, List.setIfInBounds_toArray, List.set_cons_zero, List.set_cons_succ])
          refine wpAnyH_ready (rs := [2, 27]) (by kernel_rfl) (by simp) ?_
          refine AllReadyH.cons rfl (fun K hK => ?_) ?_
          · go_simp
            refine hK.out _ _ ?_ (fun hHeld2 => ?_)
            · (first | exact ⟨c2, c3⟩ | exact ⟨HK2.out _, HK3.out _⟩)
            · clear hK K hHeld
              have hHeld := hHeld2; clear hHeld2
              (try simp only [Act.put, List.setIfInBounds_toArray, List.set_cons_zero, List.set_cons_succ])
              refine wpAnyH_ready (rs := [27]) (by kernel_rfl) (by simp) ?_
              refine AllReadyH.cons rfl (fun K hK => ?_) ?_
              · go_simp
                refine hK.out _ _ ?_ (fun hHeld2 => ?_)
                · (first | exact ⟨c2, c3⟩ | exact ⟨HK2.out _, HK3.out _⟩)
                · clear hK K hHeld
                  have hHeld := hHeld2; clear hHeld2
                  (try simp only [Act.put, List.setIfInBounds_toArray, List.set_cons_zero, List.set_cons_succ])
                  refine wpAnyH_take (i := 28) (oi := ?oi29) (v := ?v29) ?hi29 ?hs29 ?hf29 ?hr29 ?hQ29 ?hy29 ?hS29 ?rest29
                  case hi29 => (simp only [List.getElem?_toArray, List.getElem?_cons_succ, List.getElem?_cons_zero]; rfl)
                  case hs29 => kernel_rfl
                  case hf29 => kernel_rfl
                  case hr29 => kernel_rfl
                  case hQ29 => exact (fun _ _ _ h => h)
                  case hS29 => assumption
                  case hy29 => (refine Or.inl ⟨by rfl, ?_⟩; intro w hSw; (try dsimp only at hSw); go_simp; try with_reducible rfl)
                  (try simp only [Act.put, List.setIfInBounds_toArray, List.set_cons_zero, List.set_cons_succ])
                  refine wpAnyH_take (i := 29) (oi := ?oi30) (v := ?v30) ?hi30 ?hs30 ?hf30 ?hr30 ?hQ30 ?hy30 ?hS30 ?rest30
                  case hi30 => (simp only [List.getElem?_toArray, List.getElem?_cons_succ, List.getElem?_cons_zero]; rfl)
                  case hs30 => kernel_rfl
                  case hf30 => kernel_rfl
                  case hr30 => kernel_rfl
                  case hQ30 => exact (fun _ _ _ h => h)
                  case hS30 => assumption
                  case hy30 => (refine Or.inl ⟨by rfl, ?_⟩; intro w hSw; (try dsimp only at hSw); go_simp; try with_reducible rfl)
                  (try simp only [Act.put, List.setIfInBounds_toArray, List.set_cons_zero, List.set_cons_succ])
                  refine wpAnyH_done (by kernel_rfl) ?_ _
                  clear i1 i21 i231 i31 i321 i2 i12 i132 i32 i312 i3 i13 i123 i23 i213
                  have q1 := look123 w1; have q2 := look132 w1; have q3 := look213 w1; have q4 := look231 w1; have q5 := look312 w1; have q6 := look321 w1
                  have k0 := HK0.out; have k1 := HK1.out
                  clear hHeld
                  cases hk : keyL key.data.toList
                  · have HK := Lib.hid hk; clear hk
                    go_wp2_with (go_at_call 82; refine (key_calls _ _ HOK.out.2.2.1).mono ?_; rw [HK.out]; rintro e w' ⟨rfl, rfl⟩)
                    go_ret
                    exact ⟨ret_bool (by rw [rightB_eq, HK.out]; rfl), (H2.out.trans ((Below.refl _ w1).alloc (Nat.le_refl _) _)).drew⟩
                  · have HK := Lib.hid hk; clear hk
                    go_wp2_with (go_at_call 82; refine (key_calls _ _ HOK.out.2.2.1).mono ?_; rw [HK.out]; rintro e w' ⟨rfl, rfl⟩)
                    go_ret
                    exact ⟨ret_bool (by rw [rightB_eq, HK.out, F1.out, F2.out]; rfl), (H2.out.trans ((Below.refl _ w1).alloc (Nat.le_refl _) _)).drew⟩
              exact AllReadyH.nil
          refine AllReadyH.cons rfl (fun K hK => ?_) ?_
          · go_simp
            refine hK.out _ _ ?_ (fun hHeld2 => ?_)
            · (first | exact ⟨c2, c3⟩ | exact ⟨HK2.out _, HK3.out _⟩)
            · clear hK K hHeld
              have hHeld := hHeld2; clear hHeld2
              (try simp only [Act.put, List.setIfInBounds_toArray, List.set_cons_zero, List.set_cons_succ])
              refine wpAnyH_ready (rs := [2]) (by kernel_rfl) (by simp) ?_
              refine AllReadyH.cons rfl (fun K hK => ?_) ?_
              · go_simp
                refine hK.out _ _ ?_ (fun hHeld2 => ?_)
                · (first | exact ⟨c2, c3⟩ | exact ⟨HK2.out _, HK3.out _⟩)
                · clear hK K hHeld
                  have hHeld := hHeld2; clear hHeld2
                  (try simp only [Act.put, List.setIfInBounds_toArray, List.set_cons_zero, List.set_cons_succ])
                  refine wpAnyH_take (i := 28) (oi := ?oi31) (v := ?v31) ?hi31 ?hs31 ?hf31 ?hr31 ?hQ31 ?hy31 ?hS31 ?rest31
                  case hi31 => (simp only [List.getElem?_toArray, List.getElem?_cons_succ, List.getElem?_cons_zero]; rfl)
                  case hs31 => kernel_rfl
                  case hf31 => kernel_rfl
                  case hr31 => kernel_rfl
                  case hQ31 => exact (fun _ _ _ h => h)
                  case hS31 => assumption
                  case hy31 => (refine Or.inl ⟨by rfl, ?_⟩; intro w hSw; (try dsimp only at hSw); go_simp; try with_reducible rfl)
                  (try simp only [Act.put, List.setIfInBounds_toArray, List.set_cons_zero, List.set_cons_succ])
                  refine wpAnyH_take (i := 29) (oi := ?oi32) (v := ?v32) ?hi32 ?hs32 ?hf32 ?hr32 ?hQ32 ?hy32 ?hS32 ?rest32
                  case hi32 => (simp only [List.getElem?_toArray, List.getElem?_cons_succ, List.getElem?_cons_zero]; rfl)
                  case hs32 => kernel_rfl
                  case hf32 => kernel_rfl
                  case hr32 => kernel_rfl
                  case hQ32 => exact (fun _ _ _ h => h)
                  case hS32 => assumption
                  case hy32 => (refine Or.inl ⟨by rfl, ?_⟩; intro w hSw; (try dsimp only at hSw); go_simp; try with_reducible rfl)
                  (try simp only [Act.put, List.setIfInBounds_toArray, List.set_cons_zero, List.set_cons_succ])
                  refine wpAnyH_done (by kernel_rfl) ?_ _
                  clear i1 i21 i231 i31 i321 i2 i12 i132 i32 i312 i3 i13 i123 i23 i213
                  have q1 := look123 w1; have q2 := look132 w1; have q3 := look213 w1; have q4 := look231 w1; have q5 := look312 w1; have q6 := look321 w1
                  have k0 := HK0.out; have k1 := HK1.out
                  clear hHeld
                  cases hk : keyL key.data.toList
                  · have HK := Lib.hid hk; clear hk
                    go_wp2_with (go_at_call 82; refine (key_calls _ _ HOK.out.2.2.1).mono ?_; rw [HK.out]; rintro e w' ⟨rfl, rfl⟩)
                    go_ret
                    exact ⟨ret_bool (by rw [rightB_eq, HK.out]; rfl), (H2.out.trans ((Below.refl _ w1).alloc (Nat.le_refl _) _)).drew⟩
                  · have HK := Lib.hid hk; clear hk
                    go_wp2_with (go_at_call 82; refine (key_calls _ _ HOK.out.2.2.1).mono ?_; rw [HK.out]; rintro e w' ⟨rfl, rfl⟩)
                    go_ret
                    exact ⟨ret_bool (by rw [rightB_eq, HK.out, F1.out, F2.out]; rfl), (H2.out.trans ((Below.refl _ w1).alloc (Nat.le_refl _) _)).drew⟩
              exact AllReadyH.nil
          exact AllReadyH.nil
      refine AllReadyH.cons rfl (fun K hK => ?_) ?_
      · go_simp
        refine hK.out _ _ ?_ (fun hHeld2 => ?_)
        · (first | exact ⟨c2, c3⟩ | exact ⟨HK2.out _, HK3.out _⟩)
        · clear hK K hHeld
          have hHeld := hHeld2; clear hHeld2
          (try simp only [Act.put, List.setIfInBounds_toArray, List.set_cons_zero, List.set_cons_succ])
          refine wpAnyH_ready (rs := [2, 15]) (by kernel_rfl) (by simp) ?_
          refine AllReadyH.cons rfl (fun K hK => ?_) ?_
          · go_simp
            refine hK.out _ _ ?_ (fun hHeld2 => ?_)
            · (first | exact ⟨c2, c3⟩ | exact ⟨HK2.out _, HK3.out _⟩)
            · clear hK K hHeld
              have hHeld := hHeld2; clear hHeld2
              (try simp only [Act.put, List.setIfInBounds_toArray, List.set_cons_zero, List.set_cons_succ])
              refine wpAnyH_ready (rs := [15]) (by kernel_rfl) (by simp) ?_
              refine AllReadyH.cons rfl (fun K hK => ?_) ?_
              · go_simp
                refine hK.out _ _ ?_ (fun hHeld2 => ?_)
                · (first | exact ⟨c2, c3⟩ | exact ⟨HK2.out _, HK3.out _⟩)
                · clear hK K hHeld
                  have hHeld := hHeld2; clear hHeld2
                  (try simp only [Act.put, List.setIfInBounds_toArray, List.set_cons_zero, List.set_cons_succ])
                  refine wpAnyH_take (i := 28) (oi := ?oi33) (v := ?v33) ?hi33 ?hs33 ?hf33 ?hr33 ?hQ33 ?hy33 ?hS33 ?rest33
                  case hi33 => (simp only [List.getElem?_toArray, List.getElem?_cons_succ, List.getElem?_cons_zero]; rfl)
                  case hs33 => kernel_rfl
                  case hf33 => kernel_rfl
                  case hr33 => kernel_rfl
                  case hQ33 => exact (fun _ _ _ h => h)
                  case hS33 => assumption
                  case hy33 => (refine Or.inl ⟨by rfl, ?_⟩; intro w hSw; (try dsimp only at hSw); go_simp; try with_reducible rfl)
                  (try simp only [Act.put, List.setIfInBounds_toArray, List.set_cons_zero, List.set_cons_succ])
                  refine wpAnyH_take (i := 29) (oi := ?oi34) (v := ?v34) ?hi34 ?hs34 ?hf34 ?hr34 ?hQ34 ?hy34 ?hS34 ?rest34
                  case hi34 => (simp only [List.getElem?_toArray, List.getElem?_cons_succ, List.getElem?_cons_zero]; rfl)
                  case hs34 => kernel_rfl
                  case hf34 => kernel_rfl
                  case hr34 => kernel_rfl
                  case hQ34 => exact (fun _ _ _ h => h)
                  case hS34 => assumption
                  case hy34 => (refine Or.inl ⟨by rfl, ?_⟩; intro w hSw; (try dsimp only at hSw); go_simp; try with_reducible rfl)
                  (try simp only [Act.put, List.setIfInBounds_toArray, List.set_cons_zero, List.set_cons_succ])
                  refine wpAnyH_done (by kernel_rfl) ?_ _
                  clear i1 i21 i231 i31 i321 i2 i12 i132 i32 i312 i3 i13 i123 i23 i213
                  have q1 := look123 w1; have q2 := look132 w1; have q3 := look213 w1; have q4 := look231 w1; have q5 := look312 w1; have q6 := look321 w1
                  have k0 := HK0.out; have k1 := HK1.out
                  clear hHeld
                  cases hk : keyL key.data.toList
                  · have HK := Lib.hid hk; clear hk
                    go_wp2_with (go_at_call 82; refine (key_calls _ _ HOK.out.2.2.1).mono ?_; rw [HK.out]; rintro e w' ⟨rfl, rfl⟩)
                    go_ret
                    exact ⟨ret_bool (by rw [rightB_eq, HK.out]; rfl), (H2.out.trans ((Below.refl _ w1).alloc (Nat.le_refl _) _)).drew⟩
                  · have HK := Lib.hid hk; clear hk
                    go_wp2_with (go_at_call 82; refine (key_calls _ _ HOK.out.2.2.1).mono ?_; rw [HK.out]; rintro e w' ⟨rfl, rfl⟩)
                    go_ret
                    exact ⟨ret_bool (by rw [rightB_eq, HK.out, F1.out, F2.out]; rfl), (H2.out.trans ((Below.refl _ w1).alloc (Nat.le_refl _) _)).drew⟩
              exact AllReadyH.nil
          refine AllReadyH.cons rfl (fun K hK => ?_) ?_
          · go_simp
            refine hK.out _ _ ?_ (fun hHeld2 => ?_)
            · (first | exact ⟨c2, c3⟩ | exact ⟨HK2.out _, HK3.out _⟩)
            · clear hK K hHeld
              have hHeld := hHeld2; clear hHeld2
              (try simp only [Act.put, List.setIfInBounds_toArray, List.set_cons_zero, List.set_cons_succ])
              refine wpAnyH_ready (rs := [2]) (by kernel_rfl) (by simp) ?_
              refine AllReadyH.cons rfl (fun K hK => ?_) ?_
              · go_simp
                refine hK.out _ _ ?_ (fun hHeld2 => ?_)
                · (first | exact ⟨c2, c3⟩ | exact ⟨HK2.out _, HK3.out _⟩)
                · clear hK K hHeld
                  have hHeld := hHeld2; clear hHeld2
                  (try simp only [Act.put, List.setIfInBounds_toArray, List.set_cons_zero, List.set_cons_succ])
                  refine wpAnyH_take (i := 28) (oi := ?oi35) (v := ?v35) ?hi35 ?hs35 ?hf35 ?hr35 ?hQ35 ?hy35 ?hS35 ?rest35
                  case hi35 => (simp only [List.getElem?_toArray, List.getElem?_cons_succ, List.getElem?_cons_zero]; rfl)
                  case hs35 => kernel_rfl
                  case hf35 => kernel_rfl
                  case hr35 => kernel_rfl
                  case hQ35 => exact (fun _ _ _ h => h)
                  case hS35 => assumption
                  case hy35 => (refine Or.inl ⟨by rfl, ?_⟩; intro w hSw; (try dsimp only at hSw); go_simp; try with_reducible rfl)
                  (try simp only [Act.put, List.setIfInBounds_toArray, List.set_cons_zero, List.set_cons_succ])
                  refine wpAnyH_take (i := 29) (oi := ?oi36) (v := ?v36) ?hi36 ?hs36 ?hf36 ?hr36 ?hQ36 ?hy36 ?hS36 ?rest36
                  case hi36 => (simp only [List.getElem?_toArray, List.getElem?_cons_succ, List.getElem?_cons_zero]; rfl)
                  case hs36 => kernel_rfl
                  case hf36 => kernel_rfl
                  case hr36 => kernel_rfl
                  case hQ36 => exact (fun _ _ _ h => h)
                  case hS36 => assumption
                  case hy36 => (refine Or.inl ⟨by rfl, ?_⟩; intro w hSw; (try dsimp only at hSw); go_simp; try with_reducible rfl)
                  (try simp only [Act.put, List.setIfInBounds_toArray, List.set_cons_zero, List.set_cons_succ])
                  refine wpAnyH_done (by kernel_rfl) ?_ _
                  clear i1 i21 i231 i31 i321 i2 i12 i132 i32 i312 i3 i13 i123 i23 i213
                  have q1 := look123 w1; have q2 := look132 w1; have q3 := look213 w1; have q4 := look231 w1; have q5 := look312 w1; have q6 := look321 w1
                  have k0 := HK0.out; have k1 := HK1.out
                  clear hHeld
                  cases hk : keyL key.data.toList
                  · have HK := Lib.hid hk; clear hk
                    go_wp2_with (go_at_call 82; refine (key_calls _ _ HOK.out.2.2.1).mono ?_; rw [HK.out]; rintro e w' ⟨rfl, rfl⟩)
                    go_ret
                    exact ⟨ret_bool (by rw [rightB_eq, HK.out]; rfl), (H2.out.trans ((Below.refl _ w1).alloc (Nat.le_refl _) _)).drew⟩
                  · have HK := Lib.hid hk; clear hk
                    go_wp2_with (go_at_call 82; refine (key_calls _ _ HOK.out.2.2.1).mono ?_; rw [HK.out]; rintro e w' ⟨rfl, rfl⟩)
                    go_ret
                    exact ⟨ret_bool (by rw [rightB_eq, HK.out, F1.out, F2.out]; rfl), (H2.out.trans ((Below.refl _ w1).alloc (Nat.le_refl _) _)).drew⟩
              exact AllReadyH.nil
          exact AllReadyH.nil
      exact AllReadyH.nil
  exact AllReadyH.nil
end Go.Proofs.YtdmejbjpbjcfbaaGreatDoor
/- act.right, one of four cases. -/
namespace Go.Proofs.YtdmejbjpbjcfbaaGreatDoor
open Go.RowKit
set_option maxRecDepth 100000 in
set_option maxHeartbeats 4000000 in
theorem right_C (a : ActD) (w : World) (hok : a.ok) (hE : ¬ a.value.data.toList = []) (hA : a.value.size ≤ 20) (hX : textL a.value.data.toList = true) :
    Calls Tryz.prog 160 #[.agg (encAct a).toArray] w fun e w' => e = .returned (.bool (rightB a)) ∧ Ext w w' := by
  obtain ⟨kd, key, val, num⟩ := a
  simp only at hE hA hX
  unfold encAct
  have hem : val.toList.isEmpty = false := by
    rw [Lib.toList_data]
    cases h : val.data.toList with
    | nil => exact absurd h hE
    | cons a r => rfl
  have hvs : val.size ≤ 140737488351232 := hok.2.2.2.1
  have F1 : Hid (decide (val.data.toList = []) = false) := Lib.hid (by simpa using hE)
  have hz : val.size ≤ 20 := hA
  have hg : decide ((val.size : Int) ≤ 20) = true := by simp; omega
  have hT : (Lib.trimS val.data.toList [97, 98, 99, 100, 101, 102, 103, 104, 105, 106, 107, 108, 109, 110, 111, 112, 113, 114, 115, 116, 117, 118, 119, 120, 121, 122, 48, 49, 50, 51, 52, 53, 54, 55, 56, 57, 45]).isEmpty = true := by
    have h := hX
    unfold textL alnumL at h
    simp only [decide_eq_true_eq] at h
    cases hh : Lib.trimS val.data.toList [97, 98, 99, 100, 101, 102, 103, 104, 105, 106, 107, 108, 109, 110, 111, 112, 113, 114, 115, 116, 117, 118, 119, 120, 121, 122, 48, 49, 50, 51, 52, 53, 54, 55, 56, 57, 45] with
    | nil => rfl
    | cons a r => rw [hh] at h; cases h
  have F2 : Hid (decide (val.data.toList.length ≤ 20) = true) := Lib.hid (by have := Lib.size_eq val; simp; omega)
  have F3 : Hid (textL val.data.toList = true) := Lib.hid hX
  have HOK := Lib.hid hok; clear hE hok hA hX
  have hmm := @run_makeMap Tryz.prog
  go_enter Tryz.func160, Tryz.ntmps160
  go_wp2_with (first
    | (go_at_call 189; refine (trim_calls _ _ _ (by omega) (by decide) (by decide)).mono ?_; rintro e w1 ⟨rfl, hx1⟩; have X1 := Lib.hid hx1; clear hx1))
  have hbox := (Blk.new w [.int .u8 kd, .string key, .string val, .int .i64 num] 98).ext' X1.out
  have hx : Ext w w1 := Ext.trans (b := w.alloc (.cells #[.int .u8 kd, .string key, .string val, .int .i64 num] 98)) ((Below.refl _ w).alloc (Nat.le_refl _) _) X1.out
  have hN := hbox.lt
  generalize w.heap.size = N at *
  have c2 := hbox.cell 2; have c3 := hbox.cell 3
  simp only [List.getElem?_cons_zero, List.getElem?_cons_succ] at c2 c3
  have hk2 : ∀ o, ((w1.alloc o).drew).cell? ⟨N, 2, none⟩ = some (.string val) := fun o => (World.cell?_alloc_past o N 2 hN).trans c2
  have hk3 : ∀ o, ((w1.alloc o).drew).cell? ⟨N, 3, none⟩ = some (.int .i64 num) := fun o => (World.cell?_alloc_past o N 3 hN).trans c3
  have c1 := hbox.cell 1; have c0 := hbox.cell 0
  simp only [List.getElem?_cons_zero, List.getElem?_cons_succ] at c1 c0
  have hk0 : ∀ o, ((w1.alloc o).drew).cell? ⟨N, 0, none⟩ = some (.int .u8 kd) := fun o => (World.cell?_alloc_past o N 0 hN).trans c0
  have hk1 : ∀ o, ((w1.alloc o).drew).cell? ⟨N, 1, none⟩ = some (.string key) := fun o => (World.cell?_alloc_past o N 1 hN).trans c1
  have HK0 := Lib.hid hk0; have HK1 := Lib.hid hk1; clear hk0 hk1 c0 c1
  have HK2 := Lib.hid hk2; have HK3 := Lib.hid hk3; clear hk2 hk3
  have H1 := Lib.hid hbox; have H2 := Lib.hid hx
  clear hbox hx X1
  have hins := fun (es : List MapEntry) (c : Nat) (k : Int) (v : Value) (hf : Instr.findNow (.int .u8) (.int .u8 k) es 0 = some none) => run_mapUpdate_drew (P := Tryz.prog) Tryz.underlying224 Tryz.underlying96 rfl w1 _ rfl es c (.int .u8 k) v hf
  have i1 := fun (v : Value) => hins [] 0 1 v rfl
  have i21 := fun (a v : Value) => hins [⟨.int .u8 2, a, 0⟩] 1 1 v rfl
  have i231 := fun (a b v : Value) => hins [⟨.int .u8 2, a, 0⟩, ⟨.int .u8 3, b, 1⟩] 2 1 v rfl
  have i31 := fun (a v : Value) => hins [⟨.int .u8 3, a, 0⟩] 1 1 v rfl
  have i321 := fun (a b v : Value) => hins [⟨.int .u8 3, a, 0⟩, ⟨.int .u8 2, b, 1⟩] 2 1 v rfl
  have i2 := fun (v : Value) => hins [] 0 2 v rfl
  have i12 := fun (a v : Value) => hins [⟨.int .u8 1, a, 0⟩] 1 2 v rfl
  have i132 := fun (a b v : Value) => hins [⟨.int .u8 1, a, 0⟩, ⟨.int .u8 3, b, 1⟩] 2 2 v rfl
  have i32 := fun (a v : Value) => hins [⟨.int .u8 3, a, 0⟩] 1 2 v rfl
  have i312 := fun (a b v : Value) => hins [⟨.int .u8 3, a, 0⟩, ⟨.int .u8 1, b, 1⟩] 2 2 v rfl
  have i3 := fun (v : Value) => hins [] 0 3 v rfl
  have i13 := fun (a v : Value) => hins [⟨.int .u8 1, a, 0⟩] 1 3 v rfl
  have i123 := fun (a b v : Value) => hins [⟨.int .u8 1, a, 0⟩, ⟨.int .u8 2, b, 1⟩] 2 3 v rfl
  have i23 := fun (a v : Value) => hins [⟨.int .u8 2, a, 0⟩] 1 3 v rfl
  have i213 := fun (a b v : Value) => hins [⟨.int .u8 2, a, 0⟩, ⟨.int .u8 1, b, 1⟩] 2 3 v rfl
  clear hins
  simp only [List.cons_append, List.nil_append, Nat.reduceAdd] at i1 i21 i231 i31 i321 i2 i12 i132 i32 i312 i3 i13 i123 i23 i213
  refine wp_region_held_drew (S := fun W => W.cell? ⟨N, 2, none⟩ = some (.string val) ∧ W.cell? ⟨N, 3, none⟩ = some (.int .i64 num)) (by kernel_rfl) ?_ (fun hHeld => ?_)
  · exact ⟨c2, c3⟩
  refine wpAnyH_take (i := 1) (oi := ?oi37) (v := ?v37) ?hi37 ?hs37 ?hf37 ?hr37 ?hQ37 ?hy37 ?hS37 ?rest37
  case hi37 => (simp only [List.getElem?_toArray, List.getElem?_cons_succ, List.getElem?_cons_zero]; rfl)
  case hs37 => kernel_rfl
  case hf37 => kernel_rfl
  case hr37 => kernel_rfl
  case hQ37 => exact (fun _ _ _ h => h)
  case hS37 => assumption
  case hy37 => (refine Or.inl ⟨by rfl, ?_⟩; intro w hSw; (try dsimp only at hSw); go_simp; try with_reducible rfl)
  (try simp only [Act.put, List.setIfInBounds_toArray, List.set_cons_zero, List.set_cons_succ])
  refine wpAnyH_take (i := 3) (oi := ?oi38) (v := ?v38) ?hi38 ?hs38 ?hf38 ?hr38 ?hQ38 ?hy38 ?hS38 ?rest38
  case hi38 => (simp only [List.getElem?_toArray, List.getElem?_cons_succ, List.getElem?_cons_zero]; rfl)
  case hs38 => kernel_rfl
  case hf38 => kernel_rfl
  case hr38 => kernel_rfl
  case hQ38 => exact (fun _ _ _ h => h)
  case hS38 => assumption
  case hy38 => (refine Or.inl ⟨by rfl, ?_⟩; intro w hSw; (try dsimp only at hSw); go_simp; try with_reducible rfl)
  (try simp only [Act.put, List.setIfInBounds_toArray, List.set_cons_zero, List.set_cons_succ])
  refine wpAnyH_take (i := 4) (oi := ?oi39) (v := ?v39) ?hi39 ?hs39 ?hf39 ?hr39 ?hQ39 ?hy39 ?hS39 ?rest39
  case hi39 => (simp only [List.getElem?_toArray, List.getElem?_cons_succ, List.getElem?_cons_zero]; rfl)
  case hs39 => kernel_rfl
  case hf39 => kernel_rfl
  case hr39 => kernel_rfl
  case hQ39 => exact (fun _ _ _ h => h)
  case hS39 => assumption
  case hy39 => (refine Or.inl ⟨by rfl, ?_⟩; intro w hSw; (try dsimp only at hSw); go_simp; try with_reducible rfl)
  (try simp only [Act.put, List.setIfInBounds_toArray, List.set_cons_zero, List.set_cons_succ])
  refine wpAnyH_take (i := 5) (oi := ?oi40) (v := ?v40) ?hi40 ?hs40 ?hf40 ?hr40 ?hQ40 ?hy40 ?hS40 ?rest40
  case hi40 => (simp only [List.getElem?_toArray, List.getElem?_cons_succ, List.getElem?_cons_zero]; rfl)
  case hs40 => kernel_rfl
  case hf40 => kernel_rfl
  case hr40 => kernel_rfl
  case hQ40 => exact (fun _ _ _ h => h)
  case hS40 => assumption
  case hy40 => (refine Or.inl ⟨by rfl, ?_⟩; intro w hSw; (try dsimp only at hSw); go_simp; try with_reducible rfl)
  (try simp only [Act.put, List.setIfInBounds_toArray, List.set_cons_zero, List.set_cons_succ])
  refine wpAnyH_take (i := 6) (oi := ?oi41) (v := ?v41) ?hi41 ?hs41 ?hf41 ?hr41 ?hQ41 ?hy41 ?hS41 ?rest41
  case hi41 => (simp only [List.getElem?_toArray, List.getElem?_cons_succ, List.getElem?_cons_zero]; rfl)
  case hs41 => kernel_rfl
  case hf41 => kernel_rfl
  case hr41 => kernel_rfl
  case hQ41 => exact (fun _ _ _ h => h)
  case hS41 => assumption
  case hy41 => (refine Or.inl ⟨by rfl, ?_⟩; intro w hSw; (try dsimp only at hSw); go_simp; try with_reducible rfl)
  (try simp only [Act.put, List.setIfInBounds_toArray, List.set_cons_zero, List.set_cons_succ])
  refine wpAnyH_take (i := 7) (oi := ?oi42) (v := ?v42) ?hi42 ?hs42 ?hf42 ?hr42 ?hQ42 ?hy42 ?hS42 ?rest42
  case hi42 => (simp only [List.getElem?_toArray, List.getElem?_cons_succ, List.getElem?_cons_zero]; rfl)
  case hs42 => kernel_rfl
  case hf42 => kernel_rfl
  case hr42 => kernel_rfl
  case hQ42 => exact (fun _ _ _ h => h)
  case hS42 => assumption
  case hy42 => (refine Or.inl ⟨by rfl, ?_⟩; intro w hSw; (try dsimp only at hSw); go_simp; try with_reducible rfl)
  (try simp only [Act.put, List.setIfInBounds_toArray, List.set_cons_zero, List.set_cons_succ])
  refine wpAnyH_take (i := 8) (oi := ?oi43) (v := ?v43) ?hi43 ?hs43 ?hf43 ?hr43 ?hQ43 ?hy43 ?hS43 ?rest43
  case hi43 => (simp only [List.getElem?_toArray, List.getElem?_cons_succ, List.getElem?_cons_zero]; rfl)
  case hs43 => kernel_rfl
  case hf43 => kernel_rfl
  case hr43 => kernel_rfl
  case hQ43 => exact (fun _ _ _ h => h)
  case hS43 => assumption
  case hy43 => (refine Or.inl ⟨by rfl, ?_⟩; intro w hSw; (try dsimp only at hSw); go_simp; try with_reducible rfl)
  (try simp only [Act.put, List.setIfInBounds_toArray, List.set_cons_zero, List.set_cons_succ])
  refine wpAnyH_take (i := 9) (oi := ?oi44) (v := ?v44) ?hi44 ?hs44 ?hf44 ?hr44 ?hQ44 ?hy44 ?hS44 ?rest44
  case hi44 => (simp only [List.getElem?_toArray, List.getElem?_cons_succ, List.getElem?_cons_zero]; rfl)
  case hs44 => kernel_rfl
  case hf44 => kernel_rfl
  case hr44 => kernel_rfl
  case hQ44 => exact (fun _ _ _ h => h)
  case hS44 => assumption
  case hy44 => (refine Or.inl ⟨by rfl, ?_⟩; intro w hSw; (try dsimp only at hSw); go_simp; try with_reducible rfl)
  (try simp only [Act.put, List.setIfInBounds_toArray, List.set_cons_zero, List.set_cons_succ])
  refine wpAnyH_take (i := 10) (oi := ?oi45) (v := ?v45) ?hi45 ?hs45 ?hf45 ?hr45 ?hQ45 ?hy45 ?hS45 ?rest45
  case hi45 => (simp only [List.getElem?_toArray, List.getElem?_cons_succ, List.getElem?_cons_zero]; rfl)
  case hs45 => kernel_rfl
  case hf45 => kernel_rfl
  case hr45 => kernel_rfl
  case hQ45 => exact (fun _ _ _ h => h)
  case hS45 => assumption
  case hy45 => (refine Or.inl ⟨by rfl, ?_⟩; intro w hSw; (try dsimp only at hSw); go_simp; try with_reducible rfl)
  (try simp only [Act.put, List.setIfInBounds_toArray, List.set_cons_zero, List.set_cons_succ])
  refine wpAnyH_take (i := 11) (oi := ?oi46) (v := ?v46) ?hi46 ?hs46 ?hf46 ?hr46 ?hQ46 ?hy46 ?hS46 ?rest46
  case hi46 => (simp only [List.getElem?_toArray, List.getElem?_cons_succ, List.getElem?_cons_zero]; rfl)
  case hs46 => kernel_rfl
  case hf46 => kernel_rfl
  case hr46 => kernel_rfl
  case hQ46 => exact (fun _ _ _ h => h)
  case hS46 => assumption
  case hy46 => (refine Or.inl ⟨by rfl, ?_⟩; intro w hSw; (try dsimp only at hSw); go_simp; try with_reducible rfl)
  (try simp only [Act.put, List.setIfInBounds_toArray, List.set_cons_zero, List.set_cons_succ])
  refine wpAnyH_take (i := 12) (oi := ?oi47) (v := ?v47) ?hi47 ?hs47 ?hf47 ?hr47 ?hQ47 ?hy47 ?hS47 ?rest47
  case hi47 => (simp only [List.getElem?_toArray, List.getElem?_cons_succ, List.getElem?_cons_zero]; rfl)
  case hs47 => kernel_rfl
  case hf47 => kernel_rfl
  case hr47 => kernel_rfl
  case hQ47 => exact (fun _ _ _ h => h)
  case hS47 => assumption
  case hy47 => (refine Or.inl ⟨by rfl, ?_⟩; intro w hSw; (try dsimp only at hSw); go_simp; try with_reducible rfl)
  (try simp only [Act.put, List.setIfInBounds_toArray, List.set_cons_zero, List.set_cons_succ])
  refine wpAnyH_take (i := 13) (oi := ?oi48) (v := ?v48) ?hi48 ?hs48 ?hf48 ?hr48 ?hQ48 ?hy48 ?hS48 ?rest48
  case hi48 => (simp only [List.getElem?_toArray, List.getElem?_cons_succ, List.getElem?_cons_zero]; rfl)
  case hs48 => kernel_rfl
  case hf48 => kernel_rfl
  case hr48 => kernel_rfl
  case hQ48 => exact (fun _ _ _ h => h)
  case hS48 => assumption
  case hy48 => (refine Or.inl ⟨by rfl, ?_⟩; intro w hSw; (try dsimp only at hSw); go_simp; try with_reducible rfl)
  (try simp only [Act.put, List.setIfInBounds_toArray, List.set_cons_zero, List.set_cons_succ])
  refine wpAnyH_take (i := 14) (oi := ?oi49) (v := ?v49) ?hi49 ?hs49 ?hf49 ?hr49 ?hQ49 ?hy49 ?hS49 ?rest49
  case hi49 => (simp only [List.getElem?_toArray, List.getElem?_cons_succ, List.getElem?_cons_zero]; rfl)
  case hs49 => kernel_rfl
  case hf49 => kernel_rfl
  case hr49 => kernel_rfl
  case hQ49 => exact (fun _ _ _ h => h)
  case hS49 => assumption
  case hy49 => (refine Or.inl ⟨by rfl, ?_⟩; intro w hSw; (try dsimp only at hSw); go_simp; try with_reducible rfl)
  (try simp only [Act.put, List.setIfInBounds_toArray, List.set_cons_zero, List.set_cons_succ])
  refine wpAnyH_take (i := 16) (oi := ?oi50) (v := ?v50) ?hi50 ?hs50 ?hf50 ?hr50 ?hQ50 ?hy50 ?hS50 ?rest50
  case hi50 => (simp only [List.getElem?_toArray, List.getElem?_cons_succ, List.getElem?_cons_zero]; rfl)
  case hs50 => kernel_rfl
  case hf50 => kernel_rfl
  case hr50 => kernel_rfl
  case hQ50 => exact (fun _ _ _ h => h)
  case hS50 => assumption
  case hy50 => (refine Or.inl ⟨by rfl, ?_⟩; intro w hSw; (try dsimp only at hSw); go_simp; try with_reducible rfl)
  (try simp only [Act.put, List.setIfInBounds_toArray, List.set_cons_zero, List.set_cons_succ])
  refine wpAnyH_take (i := 17) (oi := ?oi51) (v := ?v51) ?hi51 ?hs51 ?hf51 ?hr51 ?hQ51 ?hy51 ?hS51 ?rest51
  case hi51 => (simp only [List.getElem?_toArray, List.getElem?_cons_succ, List.getElem?_cons_zero]; rfl)
  case hs51 => kernel_rfl
  case hf51 => kernel_rfl
  case hr51 => kernel_rfl
  case hQ51 => exact (fun _ _ _ h => h)
  case hS51 => assumption
  case hy51 => (refine Or.inl ⟨by rfl, ?_⟩; intro w hSw; (try dsimp only at hSw); go_simp; try with_reducible rfl)
  (try simp only [Act.put, List.setIfInBounds_toArray, List.set_cons_zero, List.set_cons_succ])
  refine wpAnyH_take (i := 18) (oi := ?oi52) (v := ?v52) ?hi52 ?hs52 ?hf52 ?hr52 ?hQ52 ?hy52 ?hS52 ?rest52
  case hi52 => (simp only [List.getElem?_toArray, List.getElem?_cons_succ, List.getElem?_cons_zero]; rfl)
  case hs52 => kernel_rfl
  case hf52 => kernel_rfl
  case hr52 => kernel_rfl
  case hQ52 => exact (fun _ _ _ h => h)
  case hS52 => assumption
  case hy52 => (refine Or.inl ⟨by rfl, ?_⟩; intro w hSw; (try dsimp only at hSw); go_simp; try with_reducible rfl)
  (try simp only [Act.put, List.setIfInBounds_toArray, List.set_cons_zero, List.set_cons_succ])
  refine wpAnyH_take (i := 19) (oi := ?oi53) (v := ?v53) ?hi53 ?hs53 ?hf53 ?hr53 ?hQ53 ?hy53 ?hS53 ?rest53
  case hi53 => (simp only [List.getElem?_toArray, List.getElem?_cons_succ, List.getElem?_cons_zero]; rfl)
  case hs53 => kernel_rfl
  case hf53 => kernel_rfl
  case hr53 => kernel_rfl
  case hQ53 => exact (fun _ _ _ h => h)
  case hS53 => assumption
  case hy53 => (refine Or.inl ⟨by rfl, ?_⟩; intro w hSw; (try dsimp only at hSw); go_simp; try with_reducible rfl)
  (try simp only [Act.put, List.setIfInBounds_toArray, List.set_cons_zero, List.set_cons_succ])
  refine wpAnyH_take (i := 20) (oi := ?oi54) (v := undef) ?hi54 ?hs54 ?hf54 ?hr54 ?hQ54 ?hy54 ?hS54 ?rest54
  case hi54 => (simp only [List.getElem?_toArray, List.getElem?_cons_succ, List.getElem?_cons_zero]; rfl)
  case hs54 => kernel_rfl
  case hf54 => kernel_rfl
  case hr54 => kernel_rfl
  case hQ54 => exact (fun _ _ _ h => h)
  case hS54 => assumption
  case hy54 => exact Or.inr ⟨by rfl, rfl⟩
  (try simp only [Act.put, List.setIfInBounds_toArray, List.set_cons_zero, List.set_cons_succ])
  refine wpAnyH_take (i := 21) (oi := ?oi55) (v := undef) ?hi55 ?hs55 ?hf55 ?hr55 ?hQ55 ?hy55 ?hS55 ?rest55
  case hi55 => (simp only [List.getElem?_toArray, List.getElem?_cons_succ, List.getElem?_cons_zero]; rfl)
  case hs55 => kernel_rfl
  case hf55 => kernel_rfl
  case hr55 => kernel_rfl
  case hQ55 => exact (fun _ _ _ h => h)
  case hS55 => assumption
  case hy55 => exact Or.inr ⟨by rfl, rfl⟩
  (try simp only [Act.put, List.setIfInBounds_toArray, List.set_cons_zero, List.set_cons_succ])
  refine wpAnyH_take (i := 22) (oi := ?oi56) (v := undef) ?hi56 ?hs56 ?hf56 ?hr56 ?hQ56 ?hy56 ?hS56 ?rest56
  case hi56 => (simp only [List.getElem?_toArray, List.getElem?_cons_succ, List.getElem?_cons_zero]; rfl)
  case hs56 => kernel_rfl
  case hf56 => kernel_rfl
  case hr56 => kernel_rfl
  case hQ56 => exact (fun _ _ _ h => h)
  case hS56 => assumption
  case hy56 => exact Or.inr ⟨by rfl, rfl⟩
  (try simp only [Act.put, List.setIfInBounds_toArray, List.set_cons_zero, List.set_cons_succ])
  refine wpAnyH_take (i := 23) (oi := ?oi57) (v := undef) ?hi57 ?hs57 ?hf57 ?hr57 ?hQ57 ?hy57 ?hS57 ?rest57
  case hi57 => (simp only [List.getElem?_toArray, List.getElem?_cons_succ, List.getElem?_cons_zero]; rfl)
  case hs57 => kernel_rfl
  case hf57 => kernel_rfl
  case hr57 => kernel_rfl
  case hQ57 => exact (fun _ _ _ h => h)
  case hS57 => assumption
  case hy57 => exact Or.inr ⟨by rfl, rfl⟩
  (try simp only [Act.put, List.setIfInBounds_toArray, List.set_cons_zero, List.set_cons_succ])
  refine wpAnyH_take (i := 24) (oi := ?oi58) (v := undef) ?hi58 ?hs58 ?hf58 ?hr58 ?hQ58 ?hy58 ?hS58 ?rest58
  case hi58 => (simp only [List.getElem?_toArray, List.getElem?_cons_succ, List.getElem?_cons_zero]; rfl)
  case hs58 => kernel_rfl
  case hf58 => kernel_rfl
  case hr58 => kernel_rfl
  case hQ58 => exact (fun _ _ _ h => h)
  case hS58 => assumption
  case hy58 => exact Or.inr ⟨by rfl, rfl⟩
  (try simp only [Act.put, List.setIfInBounds_toArray, List.set_cons_zero, List.set_cons_succ])
  refine wpAnyH_take (i := 25) (oi := ?oi59) (v := undef) ?hi59 ?hs59 ?hf59 ?hr59 ?hQ59 ?hy59 ?hS59 ?rest59
  case hi59 => (simp only [List.getElem?_toArray, List.getElem?_cons_succ, List.getElem?_cons_zero]; rfl)
  case hs59 => kernel_rfl
  case hf59 => kernel_rfl
  case hr59 => kernel_rfl
  case hQ59 => exact (fun _ _ _ h => h)
  case hS59 => assumption
  case hy59 => exact Or.inr ⟨by rfl, rfl⟩
  (try simp only [Act.put, List.setIfInBounds_toArray, List.set_cons_zero, List.set_cons_succ])
  refine wpAnyH_take (i := 26) (oi := ?oi60) (v := ?v60) ?hi60 ?hs60 ?hf60 ?hr60 ?hQ60 ?hy60 ?hS60 ?rest60
  case hi60 => (simp only [List.getElem?_toArray, List.getElem?_cons_succ, List.getElem?_cons_zero]; rfl)
  case hs60 => kernel_rfl
  case hf60 => kernel_rfl
  case hr60 => kernel_rfl
  case hQ60 => exact (fun _ _ _ h => h)
  case hS60 => assumption
  case hy60 => (refine Or.inl ⟨by rfl, ?_⟩; intro w hSw; (try dsimp only at hSw); go_simp; try with_reducible rfl)
  (try simp only [Act.put, List.setIfInBounds_toArray, List.set_cons_zero, List.set_cons_succ])
  refine wpAnyH_ready (rs := [0]) (by kernel_rfl) (by simp) ?_
  refine AllReadyH.cons rfl (fun K hK => ?_) ?_
  · go_simp
    refine hK.out _ _ ?_ (fun hHeld2 => ?_)
    · (first | exact ⟨c2, c3⟩ | exact ⟨HK2.out _, HK3.out _⟩)
    · clear hK K hHeld
      have hHeld := hHeld2; clear hHeld2
      (try simp only [Act.put, List.setIfInBounds_toArray, List.set_cons_zero, List.set_cons_succ])
      refine wpAnyH_ready (rs := [2, 15, 27]) (by kernel_rfl) (by simp) ?_
      refine AllReadyH.cons rfl (fun K hK => ?_) ?_
      · go_simp
        refine hK.out _ _ ?_ (fun hHeld2 => ?_)
        · (first | exact ⟨c2, c3⟩ | exact ⟨HK2.out _, HK3.out _⟩)
        · clear hK K hHeld
          have hHeld := hHeld2; clear hHeld2
          (try simp only [Act.put, List.setIfInBounds_toArray, List.set_cons_zero, List.set_cons_succ])
          refine wpAnyH_ready (rs := [15, 27]) (by kernel_rfl) (by simp) ?_
          refine AllReadyH.cons rfl (fun K hK => ?_) ?_
          · go_simp
            refine hK.out _ _ ?_ (fun hHeld2 => ?_)
            · (first | exact ⟨c2, c3⟩ | exact ⟨HK2.out _, HK3.out _⟩)
            · clear hK K hHeld
              have hHeld := hHeld2; clear hHeld2
              (try simp only [Act.put, List.setIfInBounds_toArray, List.set_cons_zero, List.set_cons_succ])
              refine wpAnyH_ready (rs := [27]) (by kernel_rfl) (by simp) ?_
              refine AllReadyH.cons rfl (fun K hK => ?_) ?_
              · go_simp
                refine hK.out _ _ ?_ (fun hHeld2 => ?_)
                · (first | exact ⟨c2, c3⟩ | exact ⟨HK2.out _, HK3.out _⟩)
                · clear hK K hHeld
                  have hHeld := hHeld2; clear hHeld2
                  (try simp only [Act.put, List.setIfInBounds_toArray, List.set_cons_zero, List.set_cons_succ])
                  refine wpAnyH_take (i := 28) (oi := ?oi61) (v := ?v61) ?hi61 ?hs61 ?hf61 ?hr61 ?hQ61 ?hy61 ?hS61 ?rest61
                  case hi61 => (simp only [List.getElem?_toArray, List.getElem?_cons_succ, List.getElem?_cons_zero]; rfl)
                  case hs61 => kernel_rfl
                  case hf61 => kernel_rfl
                  case hr61 => kernel_rfl
                  case hQ61 => exact (fun _ _ _ h => h)
                  case hS61 => assumption
                  case hy61 => (refine Or.inl ⟨by rfl, ?_⟩; intro w hSw; (try dsimp only at hSw); go_simp; try with_reducible rfl)
                  (try simp only [Act.put, List.setIfInBounds_toArray, List.set_cons_zero, List.set_cons_succ])
                  refine wpAnyH_take (i := 29) (oi := ?oi62) (v := ?v62) ?hi62 ?hs62 ?hf62 ?hr62 ?hQ62 ?hy62 ?hS62 ?rest62
                  case hi62 => (simp only [List.getElem?_toArray, List.getElem?_cons_succ, List.getElem?_cons_zero]; rfl)
                  case hs62 => kernel_rfl
                  case hf62 => kernel_rfl
                  case hr62 => kernel_rfl
                  case hQ62 => exact (fun _ _ _ h => h)
                  case hS62 => assumption
                  case hy62 => (refine Or.inl ⟨by rfl, ?_⟩; intro w hSw; (try dsimp only at hSw); go_simp; try with_reducible rfl)
                  (try simp only [Act.put, List.setIfInBounds_toArray, List.set_cons_zero, List.set_cons_succ])
                  refine wpAnyH_done (by kernel_rfl) ?_ _
                  clear i1 i21 i231 i31 i321 i2 i12 i132 i32 i312 i3 i13 i123 i23 i213
                  have q1 := look123 w1; have q2 := look132 w1; have q3 := look213 w1; have q4 := look231 w1; have q5 := look312 w1; have q6 := look321 w1
                  have k0 := HK0.out; have k1 := HK1.out
                  clear hHeld
                  cases hk : keyL key.data.toList
                  · have HK := Lib.hid hk; clear hk
                    go_wp2_with (go_at_call 82; refine (key_calls _ _ HOK.out.2.2.1).mono ?_; rw [HK.out]; rintro e w' ⟨rfl, rfl⟩)
                    go_ret
                    exact ⟨ret_bool (by rw [rightB_eq, HK.out]; rfl), (H2.out.trans ((Below.refl _ w1).alloc (Nat.le_refl _) _)).drew⟩
                  · have HK := Lib.hid hk; clear hk
                    go_wp2_with (go_at_call 82; refine (key_calls _ _ HOK.out.2.2.1).mono ?_; rw [HK.out]; rintro e w' ⟨rfl, rfl⟩)
                    go_ret
                    exact ⟨ret_bool (by rw [rightB_eq, HK.out, F1.out, F2.out, F3.out]; rfl), (H2.out.trans ((Below.refl _ w1).alloc (Nat.le_refl _) _)).drew⟩
              exact AllReadyH.nil
          refine AllReadyH.cons rfl (fun K hK => ?_) ?_
          · go_simp
            refine hK.out _ _ ?_ (fun hHeld2 => ?_)
            · (first | exact ⟨c2, c3⟩ | exact ⟨HK2.out _, HK3.out _⟩)
            · clear hK K hHeld
              have hHeld := hHeld2; clear hHeld2
              (try simp only [Act.put, List.setIfInBounds_toArray, List.set_cons_zero, List.set_cons_succ])
              refine wpAnyH_ready (rs := [15]) (by kernel_rfl) (by simp) ?_
              refine AllReadyH.cons rfl (fun K hK => ?_) ?_
              · go_simp
                refine hK.out _ _ ?_ (fun hHeld2 => ?_)
                · (first | exact ⟨c2, c3⟩ | exact ⟨HK2.out _, HK3.out _⟩)
                · clear hK K hHeld
                  have hHeld := hHeld2; clear hHeld2
                  (try simp only [Act.put, List.setIfInBounds_toArray, List.set_cons_zero, List.set_cons_succ])
                  refine wpAnyH_take (i := 28) (oi := ?oi63) (v := ?v63) ?hi63 ?hs63 ?hf63 ?hr63 ?hQ63 ?hy63 ?hS63 ?rest63
                  case hi63 => (simp only [List.getElem?_toArray, List.getElem?_cons_succ, List.getElem?_cons_zero]; rfl)
                  case hs63 => kernel_rfl
                  case hf63 => kernel_rfl
                  case hr63 => kernel_rfl
                  case hQ63 => exact (fun _ _ _ h => h)
                  case hS63 => assumption
                  case hy63 => (refine Or.inl ⟨by rfl, ?_⟩; intro w hSw; (try dsimp only at hSw); go_simp; try with_reducible rfl)
                  (try simp only [Act.put, List.setIfInBounds_toArray, List.set_cons_zero, List.set_cons_succ])
                  refine wpAnyH_take (i := 29) (oi := ?oi64) (v := ?v64) ?hi64 ?hs64 ?hf64 ?hr64 ?hQ64 ?hy64 ?hS64 ?rest64
                  case hi64 => (simp only [List.getElem?_toArray, List.getElem?_cons_succ, List.getElem?_cons_zero]; rfl)
                  case hs64 => kernel_rfl
                  case hf64 => kernel_rfl
                  case hr64 => kernel_rfl
                  case hQ64 => exact (fun _ _ _ h => h)
                  case hS64 => assumption
                  case hy64 => (refine Or.inl ⟨by rfl, ?_⟩; intro w hSw; (try dsimp only at hSw); go_simp; try with_reducible rfl)
                  (try simp only [Act.put, List.setIfInBounds_toArray, List.set_cons_zero, List.set_cons_succ])
                  refine wpAnyH_done (by kernel_rfl) ?_ _
                  clear i1 i21 i231 i31 i321 i2 i12 i132 i32 i312 i3 i13 i123 i23 i213
                  have q1 := look123 w1; have q2 := look132 w1; have q3 := look213 w1; have q4 := look231 w1; have q5 := look312 w1; have q6 := look321 w1
                  have k0 := HK0.out; have k1 := HK1.out
                  clear hHeld
                  cases hk : keyL key.data.toList
                  · have HK := Lib.hid hk; clear hk
                    go_wp2_with (go_at_call 82; refine (key_calls _ _ HOK.out.2.2.1).mono ?_; rw [HK.out]; rintro e w' ⟨rfl, rfl⟩)
                    go_ret
                    exact ⟨ret_bool (by rw [rightB_eq, HK.out]; rfl), (H2.out.trans ((Below.refl _ w1).alloc (Nat.le_refl _) _)).drew⟩
                  · have HK := Lib.hid hk; clear hk
                    go_wp2_with (go_at_call 82; refine (key_calls _ _ HOK.out.2.2.1).mono ?_; rw [HK.out]; rintro e w' ⟨rfl, rfl⟩)
                    go_ret
                    exact ⟨ret_bool (by rw [rightB_eq, HK.out, F1.out, F2.out, F3.out]; rfl), (H2.out.trans ((Below.refl _ w1).alloc (Nat.le_refl _) _)).drew⟩
              exact AllReadyH.nil
          exact AllReadyH.nil
      refine AllReadyH.cons rfl (fun K hK => ?_) ?_
      · go_simp
        refine hK.out _ _ ?_ (fun hHeld2 => ?_)
        · (first | exact ⟨c2, c3⟩ | exact ⟨HK2.out _, HK3.out _⟩)
        · clear hK K hHeld
          have hHeld := hHeld2; clear hHeld2
          (try simp only [Act.put, List.setIfInBounds_toArray, List.set_cons_zero, List.set_cons_succ])
          refine wpAnyH_ready (rs := [2, 27]) (by kernel_rfl) (by simp) ?_
          refine AllReadyH.cons rfl (fun K hK => ?_) ?_
          · go_simp
            refine hK.out _ _ ?_ (fun hHeld2 => ?_)
            · (first | exact ⟨c2, c3⟩ | exact ⟨HK2.out _, HK3.out _⟩)
            · clear hK K hHeld
              have hHeld := hHeld2; clear hHeld2
              (try simp only [Act.put, List.setIfInBounds_toArray, List.set_cons_zero, List.set_cons_succ])
              refine wpAnyH_ready (rs := [27]) (by kernel_rfl) (by simp) ?_
              refine AllReadyH.cons rfl (fun K hK => ?_) ?_
              · go_simp
                refine hK.out _ _ ?_ (fun hHeld2 => ?_)
                · (first | exact ⟨c2, c3⟩ | exact ⟨HK2.out _, HK3.out _⟩)
                · clear hK K hHeld
                  have hHeld := hHeld2; clear hHeld2
                  (try simp only [Act.put, List.setIfInBounds_toArray, List.set_cons_zero, List.set_cons_succ])
                  refine wpAnyH_take (i := 28) (oi := ?oi65) (v := ?v65) ?hi65 ?hs65 ?hf65 ?hr65 ?hQ65 ?hy65 ?hS65 ?rest65
                  case hi65 => (simp only [List.getElem?_toArray, List.getElem?_cons_succ, List.getElem?_cons_zero]; rfl)
                  case hs65 => kernel_rfl
                  case hf65 => kernel_rfl
                  case hr65 => kernel_rfl
                  case hQ65 => exact (fun _ _ _ h => h)
                  case hS65 => assumption
                  case hy65 => (refine Or.inl ⟨by rfl, ?_⟩; intro w hSw; (try dsimp only at hSw); go_simp; try with_reducible rfl)
                  (try simp only [Act.put, List.setIfInBounds_toArray, List.set_cons_zero, List.set_cons_succ])
                  refine wpAnyH_take (i := 29) (oi := ?oi66) (v := ?v66) ?hi66 ?hs66 ?hf66 ?hr66 ?hQ66 ?hy66 ?hS66 ?rest66
                  case hi66 => (simp only [List.getElem?_toArray, List.getElem?_cons_succ, List.getElem?_cons_zero]; rfl)
                  case hs66 => kernel_rfl
                  case hf66 => kernel_rfl
                  case hr66 => kernel_rfl
                  case hQ66 => exact (fun _ _ _ h => h)
                  case hS66 => assumption
                  case hy66 => (refine Or.inl ⟨by rfl, ?_⟩; intro w hSw; (try dsimp only at hSw); go_simp; try with_reducible rfl)
                  (try simp only [Act.put, List.setIfInBounds_toArray, List.set_cons_zero, List.set_cons_succ])
                  refine wpAnyH_done (by kernel_rfl) ?_ _
                  clear i1 i21 i231 i31 i321 i2 i12 i132 i32 i312 i3 i13 i123 i23 i213
                  have q1 := look123 w1; have q2 := look132 w1; have q3 := look213 w1; have q4 := look231 w1; have q5 := look312 w1; have q6 := look321 w1
                  have k0 := HK0.out; have k1 := HK1.out
                  clear hHeld
                  cases hk : keyL key.data.toList
                  · have HK := Lib.hid hk; clear hk
                    go_wp2_with (go_at_call 82; refine (key_calls _ _ HOK.out.2.2.1).mono ?_; rw [HK.out]; rintro e w' ⟨rfl, rfl⟩)
                    go_ret
                    exact ⟨ret_bool (by rw [rightB_eq, HK.out]; rfl), (H2.out.trans ((Below.refl _ w1).alloc (Nat.le_refl _) _)).drew⟩
                  · have HK := Lib.hid hk; clear hk
                    go_wp2_with (go_at_call 82; refine (key_calls _ _ HOK.out.2.2.1).mono ?_; rw [HK.out]; rintro e w' ⟨rfl, rfl⟩)
                    go_ret
                    exact ⟨ret_bool (by rw [rightB_eq, HK.out, F1.out, F2.out, F3.out]; rfl), (H2.out.trans ((Below.refl _ w1).alloc (Nat.le_refl _) _)).drew⟩
              exact AllReadyH.nil
          refine AllReadyH.cons rfl (fun K hK => ?_) ?_
          · go_simp
            refine hK.out _ _ ?_ (fun hHeld2 => ?_)
            · (first | exact ⟨c2, c3⟩ | exact ⟨HK2.out _, HK3.out _⟩)
            · clear hK K hHeld
              have hHeld := hHeld2; clear hHeld2
              (try simp only [Act.put, List.setIfInBounds_toArray, List.set_cons_zero, List.set_cons_succ])
              refine wpAnyH_ready (rs := [2]) (by kernel_rfl) (by simp) ?_
              refine AllReadyH.cons rfl (fun K hK => ?_) ?_
              · go_simp
                refine hK.out _ _ ?_ (fun hHeld2 => ?_)
                · (first | exact ⟨c2, c3⟩ | exact ⟨HK2.out _, HK3.out _⟩)
                · clear hK K hHeld
                  have hHeld := hHeld2; clear hHeld2
                  (try simp only [Act.put, List.setIfInBounds_toArray, List.set_cons_zero, List.set_cons_succ])
                  refine wpAnyH_take (i := 28) (oi := ?oi67) (v := ?v67) ?hi67 ?hs67 ?hf67 ?hr67 ?hQ67 ?hy67 ?hS67 ?rest67
                  case hi67 => (simp only [List.getElem?_toArray, List.getElem?_cons_succ, List.getElem?_cons_zero]; rfl)
                  case hs67 => kernel_rfl
                  case hf67 => kernel_rfl
                  case hr67 => kernel_rfl
                  case hQ67 => exact (fun _ _ _ h => h)
                  case hS67 => assumption
                  case hy67 => (refine Or.inl ⟨by rfl, ?_⟩; intro w hSw; (try dsimp only at hSw); go_simp; try with_reducible rfl)
                  (try simp only [Act.put, List.setIfInBounds_toArray, List.set_cons_zero, List.set_cons_succ])
                  refine wpAnyH_take (i := 29) (oi := ?oi68) (v := ?v68) ?hi68 ?hs68 ?hf68 ?hr68 ?hQ68 ?hy68 ?hS68 ?rest68
                  case hi68 => (simp only [List.getElem?_toArray, List.getElem?_cons_succ, List.getElem?_cons_zero]; rfl)
                  case hs68 => kernel_rfl
                  case hf68 => kernel_rfl
                  case hr68 => kernel_rfl
                  case hQ68 => exact (fun _ _ _ h => h)
                  case hS68 => assumption
                  case hy68 => (refine Or.inl ⟨by rfl, ?_⟩; intro w hSw; (try dsimp only at hSw); go_simp; try with_reducible rfl)
                  (try simp only [Act.put, List.setIfInBounds_toArray, List.set_cons_zero, List.set_cons_succ])
                  refine wpAnyH_done (by kernel_rfl) ?_ _
                  clear i1 i21 i231 i31 i321 i2 i12 i132 i32 i312 i3 i13 i123 i23 i213
                  have q1 := look123 w1; have q2 := look132 w1; have q3 := look213 w1; have q4 := look231 w1; have q5 := look312 w1; have q6 := look321 w1
                  have k0 := HK0.out; have k1 := HK1.out
                  clear hHeld
                  cases hk : keyL key.data.toList
                  · have HK := Lib.hid hk; clear hk
                    go_wp2_with (go_at_call 82; refine (key_calls _ _ HOK.out.2.2.1).mono ?_; rw [HK.out]; rintro e w' ⟨rfl, rfl⟩)
                    go_ret
                    exact ⟨ret_bool (by rw [rightB_eq, HK.out]; rfl), (H2.out.trans ((Below.refl _ w1).alloc (Nat.le_refl _) _)).drew⟩
                  · have HK := Lib.hid hk; clear hk
                    go_wp2_with (go_at_call 82; refine (key_calls _ _ HOK.out.2.2.1).mono ?_; rw [HK.out]; rintro e w' ⟨rfl, rfl⟩)
                    go_ret
                    exact ⟨ret_bool (by rw [rightB_eq, HK.out, F1.out, F2.out, F3.out]; rfl), (H2.out.trans ((Below.refl _ w1).alloc (Nat.le_refl _) _)).drew⟩
              exact AllReadyH.nil
          exact AllReadyH.nil
      refine AllReadyH.cons rfl (fun K hK => ?_) ?_
      · go_simp
        refine hK.out _ _ ?_ (fun hHeld2 => ?_)
        · (first | exact ⟨c2, c3⟩ | exact ⟨HK2.out _, HK3.out _⟩)
        · clear hK K hHeld
          have hHeld := hHeld2; clear hHeld2
          (try simp only [Act.put, List.setIfInBounds_toArray, List.set_cons_zero, List.set_cons_succ])
          refine wpAnyH_ready (rs := [2, 15]) (by kernel_rfl) (by simp) ?_
          refine AllReadyH.cons rfl (fun K hK => ?_) ?_
          · go_simp
            refine hK.out _ _ ?_ (fun hHeld2 => ?_)
            · (first | exact ⟨c2, c3⟩ | exact ⟨HK2.out _, HK3.out _⟩)
            · clear hK K hHeld
              have hHeld := hHeld2; clear hHeld2
              (try simp only [Act.put, List.setIfInBounds_toArray, List.set_cons_zero, List.set_cons_succ])
              refine wpAnyH_ready (rs := [15]) (by kernel_rfl) (by simp) ?_
              refine AllReadyH.cons rfl (fun K hK => ?_) ?_
              · go_simp
                refine hK.out _ _ ?_ (fun hHeld2 => ?_)
                · (first | exact ⟨c2, c3⟩ | exact ⟨HK2.out _, HK3.out _⟩)
                · clear hK K hHeld
                  have hHeld := hHeld2; clear hHeld2
                  (try simp only [Act.put, List.setIfInBounds_toArray, List.set_cons_zero, List.set_cons_succ])
                  refine wpAnyH_take (i := 28) (oi := ?oi69) (v := ?v69) ?hi69 ?hs69 ?hf69 ?hr69 ?hQ69 ?hy69 ?hS69 ?rest69
                  case hi69 => (simp only [List.getElem?_toArray, List.getElem?_cons_succ, List.getElem?_cons_zero]; rfl)
                  case hs69 => kernel_rfl
                  case hf69 => kernel_rfl
                  case hr69 => kernel_rfl
                  case hQ69 => exact (fun _ _ _ h => h)
                  case hS69 => assumption
                  case hy69 => (refine Or.inl ⟨by rfl, ?_⟩; intro w hSw; (try dsimp only at hSw); go_simp; try with_reducible rfl)
                  (try simp only [Act.put, List.setIfInBounds_toArray, List.set_cons_zero, List.set_cons_succ])
                  refine wpAnyH_take (i := 29) (oi := ?oi70) (v := ?v70) ?hi70 ?hs70 ?hf70 ?hr70 ?hQ70 ?hy70 ?hS70 ?rest70
                  case hi70 => (simp only [List.getElem?_toArray, List.getElem?_cons_succ, List.getElem?_cons_zero]; rfl)
                  case hs70 => kernel_rfl
                  case hf70 => kernel_rfl
                  case hr70 => kernel_rfl
                  case hQ70 => exact (fun _ _ _ h => h)
                  case hS70 => assumption
                  case hy70 => (refine Or.inl ⟨by rfl, ?_⟩; intro w hSw; (try dsimp only at hSw); go_simp; try with_reducible rfl)
                  (try simp only [Act.put, List.setIfInBounds_toArray, List.set_cons_zero, List.set_cons_succ])
                  refine wpAnyH_done (by kernel_rfl) ?_ _
                  clear i1 i21 i231 i31 i321 i2 i12 i132 i32 i312 i3 i13 i123 i23 i213
                  have q1 := look123 w1; have q2 := look132 w1; have q3 := look213 w1; have q4 := look231 w1; have q5 := look312 w1; have q6 := look321 w1
                  have k0 := HK0.out; have k1 := HK1.out
                  clear hHeld
                  cases hk : keyL key.data.toList
                  · have HK := Lib.hid hk; clear hk
                    go_wp2_with (go_at_call 82; refine (key_calls _ _ HOK.out.2.2.1).mono ?_; rw [HK.out]; rintro e w' ⟨rfl, rfl⟩)
                    go_ret
                    exact ⟨ret_bool (by rw [rightB_eq, HK.out]; rfl), (H2.out.trans ((Below.refl _ w1).alloc (Nat.le_refl _) _)).drew⟩
                  · have HK := Lib.hid hk; clear hk
                    go_wp2_with (go_at_call 82; refine (key_calls _ _ HOK.out.2.2.1).mono ?_; rw [HK.out]; rintro e w' ⟨rfl, rfl⟩)
                    go_ret
                    exact ⟨ret_bool (by rw [rightB_eq, HK.out, F1.out, F2.out, F3.out]; rfl), (H2.out.trans ((Below.refl _ w1).alloc (Nat.le_refl _) _)).drew⟩
              exact AllReadyH.nil
          refine AllReadyH.cons rfl (fun K hK => ?_) ?_
          · go_simp
            refine hK.out _ _ ?_ (fun hHeld2 => ?_)
            · (first | exact ⟨c2, c3⟩ | exact ⟨HK2.out _, HK3.out _⟩)
            · clear hK K hHeld
              have hHeld := hHeld2; clear hHeld2
              (try simp only [Act.put, List.setIfInBounds_toArray, List.set_cons_zero, List.set_cons_succ])
              refine wpAnyH_ready (rs := [2]) (by kernel_rfl) (by simp) ?_
              refine AllReadyH.cons rfl (fun K hK => ?_) ?_
              · go_simp
                refine hK.out _ _ ?_ (fun hHeld2 => ?_)
                · (first | exact ⟨c2, c3⟩ | exact ⟨HK2.out _, HK3.out _⟩)
                · clear hK K hHeld
                  have hHeld := hHeld2; clear hHeld2
                  (try simp only [Act.put, List.setIfInBounds_toArray, List.set_cons_zero, List.set_cons_succ])
                  refine wpAnyH_take (i := 28) (oi := ?oi71) (v := ?v71) ?hi71 ?hs71 ?hf71 ?hr71 ?hQ71 ?hy71 ?hS71 ?rest71
                  case hi71 => (simp only [List.getElem?_toArray, List.getElem?_cons_succ, List.getElem?_cons_zero]; rfl)
                  case hs71 => kernel_rfl
                  case hf71 => kernel_rfl
                  case hr71 => kernel_rfl
                  case hQ71 => exact (fun _ _ _ h => h)
                  case hS71 => assumption
                  case hy71 => (refine Or.inl ⟨by rfl, ?_⟩; intro w hSw; (try dsimp only at hSw); go_simp; try with_reducible rfl)
                  (try simp only [Act.put, List.setIfInBounds_toArray, List.set_cons_zero, List.set_cons_succ])
                  refine wpAnyH_take (i := 29) (oi := ?oi72) (v := ?v72) ?hi72 ?hs72 ?hf72 ?hr72 ?hQ72 ?hy72 ?hS72 ?rest72
                  case hi72 => (simp only [List.getElem?_toArray, List.getElem?_cons_succ, List.getElem?_cons_zero]; rfl)
                  case hs72 => kernel_rfl
                  case hf72 => kernel_rfl
                  case hr72 => kernel_rfl
                  case hQ72 => exact (fun _ _ _ h => h)
                  case hS72 => assumption
                  case hy72 => (refine Or.inl ⟨by rfl, ?_⟩; intro w hSw; (try dsimp only at hSw); go_simp; try with_reducible rfl)
                  (try simp only [Act.put, List.setIfInBounds_toArray, List.set_cons_zero, List.set_cons_succ])
                  refine wpAnyH_done (by kernel_rfl) ?_ _
                  clear i1 i21 i231 i31 i321 i2 i12 i132 i32 i312 i3 i13 i123 i23 i213
                  have q1 := look123 w1; have q2 := look132 w1; have q3 := look213 w1; have q4 := look231 w1; have q5 := look312 w1; have q6 := look321 w1
                  have k0 := HK0.out; have k1 := HK1.out
                  clear hHeld
                  cases hk : keyL key.data.toList
                  · have HK := Lib.hid hk; clear hk
                    go_wp2_with (go_at_call 82; refine (key_calls _ _ HOK.out.2.2.1).mono ?_; rw [HK.out]; rintro e w' ⟨rfl, rfl⟩)
                    go_ret
                    exact ⟨ret_bool (by rw [rightB_eq, HK.out]; rfl), (H2.out.trans ((Below.refl _ w1).alloc (Nat.le_refl _) _)).drew⟩
                  · have HK := Lib.hid hk; clear hk
                    go_wp2_with (go_at_call 82; refine (key_calls _ _ HOK.out.2.2.1).mono ?_; rw [HK.out]; rintro e w' ⟨rfl, rfl⟩)
                    go_ret
                    exact ⟨ret_bool (by rw [rightB_eq, HK.out, F1.out, F2.out, F3.out]; rfl), (H2.out.trans ((Below.refl _ w1).alloc (Nat.le_refl _) _)).drew⟩
              exact AllReadyH.nil
          exact AllReadyH.nil
      exact AllReadyH.nil
  exact AllReadyH.nil
end Go.Proofs.YtdmejbjpbjcfbaaGreatDoor
/- act.right, one of four cases. -/
namespace Go.Proofs.YtdmejbjpbjcfbaaGreatDoor
open Go.RowKit
set_option maxRecDepth 100000 in
set_option maxHeartbeats 4000000 in
theorem right_D (a : ActD) (w : World) (hok : a.ok) (hE : ¬ a.value.data.toList = []) (hA : a.value.size ≤ 20) (hX : textL a.value.data.toList = false) :
    Calls Tryz.prog 160 #[.agg (encAct a).toArray] w fun e w' => e = .returned (.bool (rightB a)) ∧ Ext w w' := by
  obtain ⟨kd, key, val, num⟩ := a
  simp only at hE hA hX
  unfold encAct
  have hem : val.toList.isEmpty = false := by
    rw [Lib.toList_data]
    cases h : val.data.toList with
    | nil => exact absurd h hE
    | cons a r => rfl
  have hvs : val.size ≤ 140737488351232 := hok.2.2.2.1
  have F1 : Hid (decide (val.data.toList = []) = false) := Lib.hid (by simpa using hE)
  have hz : val.size ≤ 20 := hA
  have hg : decide ((val.size : Int) ≤ 20) = true := by simp; omega
  have hT : (Lib.trimS val.data.toList [97, 98, 99, 100, 101, 102, 103, 104, 105, 106, 107, 108, 109, 110, 111, 112, 113, 114, 115, 116, 117, 118, 119, 120, 121, 122, 48, 49, 50, 51, 52, 53, 54, 55, 56, 57, 45]).isEmpty = false := by
    have h := hX
    unfold textL alnumL at h
    simp only [decide_eq_false_iff_not] at h
    cases hh : Lib.trimS val.data.toList [97, 98, 99, 100, 101, 102, 103, 104, 105, 106, 107, 108, 109, 110, 111, 112, 113, 114, 115, 116, 117, 118, 119, 120, 121, 122, 48, 49, 50, 51, 52, 53, 54, 55, 56, 57, 45] with
    | nil => exact absurd hh h
    | cons a r => rfl
  have F2 : Hid (decide (val.data.toList.length ≤ 20) = true) := Lib.hid (by have := Lib.size_eq val; simp; omega)
  have F3 : Hid (textL val.data.toList = false) := Lib.hid hX
  have HOK := Lib.hid hok; clear hE hok hA hX
  have hmm := @run_makeMap Tryz.prog
  go_enter Tryz.func160, Tryz.ntmps160
  go_wp2_with (first
    | (go_at_call 189; refine (trim_calls _ _ _ (by omega) (by decide) (by decide)).mono ?_; rintro e w1 ⟨rfl, hx1⟩; have X1 := Lib.hid hx1; clear hx1))
  have hbox := (Blk.new w [.int .u8 kd, .string key, .string val, .int .i64 num] 98).ext' X1.out
  have hx : Ext w w1 := Ext.trans (b := w.alloc (.cells #[.int .u8 kd, .string key, .string val, .int .i64 num] 98)) ((Below.refl _ w).alloc (Nat.le_refl _) _) X1.out
  have hN := hbox.lt
  generalize w.heap.size = N at *
  have c2 := hbox.cell 2; have c3 := hbox.cell 3
  simp only [List.getElem?_cons_zero, List.getElem?_cons_succ] at c2 c3
  have hk2 : ∀ o, ((w1.alloc o).drew).cell? ⟨N, 2, none⟩ = some (.string val) := fun o => (World.cell?_alloc_past o N 2 hN).trans c2
  have hk3 : ∀ o, ((w1.alloc o).drew).cell? ⟨N, 3, none⟩ = some (.int .i64 num) := fun o => (World.cell?_alloc_past o N 3 hN).trans c3
  have c1 := hbox.cell 1; have c0 := hbox.cell 0
  simp only [List.getElem?_cons_zero, List.getElem?_cons_succ] at c1 c0
  have hk0 : ∀ o, ((w1.alloc o).drew).cell? ⟨N, 0, none⟩ = some (.int .u8 kd) := fun o => (World.cell?_alloc_past o N 0 hN).trans c0
  have hk1 : ∀ o, ((w1.alloc o).drew).cell? ⟨N, 1, none⟩ = some (.string key) := fun o => (World.cell?_alloc_past o N 1 hN).trans c1
  have HK0 := Lib.hid hk0; have HK1 := Lib.hid hk1; clear hk0 hk1 c0 c1
  have HK2 := Lib.hid hk2; have HK3 := Lib.hid hk3; clear hk2 hk3
  have H1 := Lib.hid hbox; have H2 := Lib.hid hx
  clear hbox hx X1
  have hins := fun (es : List MapEntry) (c : Nat) (k : Int) (v : Value) (hf : Instr.findNow (.int .u8) (.int .u8 k) es 0 = some none) => run_mapUpdate_drew (P := Tryz.prog) Tryz.underlying224 Tryz.underlying96 rfl w1 _ rfl es c (.int .u8 k) v hf
  have i1 := fun (v : Value) => hins [] 0 1 v rfl
  have i21 := fun (a v : Value) => hins [⟨.int .u8 2, a, 0⟩] 1 1 v rfl
  have i231 := fun (a b v : Value) => hins [⟨.int .u8 2, a, 0⟩, ⟨.int .u8 3, b, 1⟩] 2 1 v rfl
  have i31 := fun (a v : Value) => hins [⟨.int .u8 3, a, 0⟩] 1 1 v rfl
  have i321 := fun (a b v : Value) => hins [⟨.int .u8 3, a, 0⟩, ⟨.int .u8 2, b, 1⟩] 2 1 v rfl
  have i2 := fun (v : Value) => hins [] 0 2 v rfl
  have i12 := fun (a v : Value) => hins [⟨.int .u8 1, a, 0⟩] 1 2 v rfl
  have i132 := fun (a b v : Value) => hins [⟨.int .u8 1, a, 0⟩, ⟨.int .u8 3, b, 1⟩] 2 2 v rfl
  have i32 := fun (a v : Value) => hins [⟨.int .u8 3, a, 0⟩] 1 2 v rfl
  have i312 := fun (a b v : Value) => hins [⟨.int .u8 3, a, 0⟩, ⟨.int .u8 1, b, 1⟩] 2 2 v rfl
  have i3 := fun (v : Value) => hins [] 0 3 v rfl
  have i13 := fun (a v : Value) => hins [⟨.int .u8 1, a, 0⟩] 1 3 v rfl
  have i123 := fun (a b v : Value) => hins [⟨.int .u8 1, a, 0⟩, ⟨.int .u8 2, b, 1⟩] 2 3 v rfl
  have i23 := fun (a v : Value) => hins [⟨.int .u8 2, a, 0⟩] 1 3 v rfl
  have i213 := fun (a b v : Value) => hins [⟨.int .u8 2, a, 0⟩, ⟨.int .u8 1, b, 1⟩] 2 3 v rfl
  clear hins
  simp only [List.cons_append, List.nil_append, Nat.reduceAdd] at i1 i21 i231 i31 i321 i2 i12 i132 i32 i312 i3 i13 i123 i23 i213
  refine wp_region_held_drew (S := fun W => W.cell? ⟨N, 2, none⟩ = some (.string val) ∧ W.cell? ⟨N, 3, none⟩ = some (.int .i64 num)) (by kernel_rfl) ?_ (fun hHeld => ?_)
  · exact ⟨c2, c3⟩
  refine wpAnyH_take (i := 1) (oi := ?oi73) (v := ?v73) ?hi73 ?hs73 ?hf73 ?hr73 ?hQ73 ?hy73 ?hS73 ?rest73
  case hi73 => (simp only [List.getElem?_toArray, List.getElem?_cons_succ, List.getElem?_cons_zero]; rfl)
  case hs73 => kernel_rfl
  case hf73 => kernel_rfl
  case hr73 => kernel_rfl
  case hQ73 => exact (fun _ _ _ h => h)
  case hS73 => assumption
  case hy73 => (refine Or.inl ⟨by rfl, ?_⟩; intro w hSw; (try dsimp only at hSw); go_simp; try with_reducible rfl)
  (try simp only [Act.put, List.setIfInBounds_toArray, List.set_cons_zero, List.set_cons_succ])
  refine wpAnyH_take (i := 3) (oi := ?oi74) (v := ?v74) ?hi74 ?hs74 ?hf74 ?hr74 ?hQ74 ?hy74 ?hS74 ?rest74
  case hi74 => (simp only [List.getElem?_toArray, List.getElem?_cons_succ, List.getElem?_cons_zero]; rfl)
  case hs74 => kernel_rfl
  case hf74 => kernel_rfl
  case hr74 => kernel_rfl
  case hQ74 => exact (fun _ _ _ h => h)
  case hS74 => assumption
  case hy74 => (refine Or.inl ⟨by rfl, ?_⟩; intro w hSw; (try dsimp only at hSw); go_simp; try with_reducible rfl)
  (try simp only [Act.put, List.setIfInBounds_toArray, List.set_cons_zero, List.set_cons_succ])
  refine wpAnyH_take (i := 4) (oi := ?oi75) (v := ?v75) ?hi75 ?hs75 ?hf75 ?hr75 ?hQ75 ?hy75 ?hS75 ?rest75
  case hi75 => (simp only [List.getElem?_toArray, List.getElem?_cons_succ, List.getElem?_cons_zero]; rfl)
  case hs75 => kernel_rfl
  case hf75 => kernel_rfl
  case hr75 => kernel_rfl
  case hQ75 => exact (fun _ _ _ h => h)
  case hS75 => assumption
  case hy75 => (refine Or.inl ⟨by rfl, ?_⟩; intro w hSw; (try dsimp only at hSw); go_simp; try with_reducible rfl)
  (try simp only [Act.put, List.setIfInBounds_toArray, List.set_cons_zero, List.set_cons_succ])
  refine wpAnyH_take (i := 5) (oi := ?oi76) (v := ?v76) ?hi76 ?hs76 ?hf76 ?hr76 ?hQ76 ?hy76 ?hS76 ?rest76
  case hi76 => (simp only [List.getElem?_toArray, List.getElem?_cons_succ, List.getElem?_cons_zero]; rfl)
  case hs76 => kernel_rfl
  case hf76 => kernel_rfl
  case hr76 => kernel_rfl
  case hQ76 => exact (fun _ _ _ h => h)
  case hS76 => assumption
  case hy76 => (refine Or.inl ⟨by rfl, ?_⟩; intro w hSw; (try dsimp only at hSw); go_simp; try with_reducible rfl)
  (try simp only [Act.put, List.setIfInBounds_toArray, List.set_cons_zero, List.set_cons_succ])
  refine wpAnyH_take (i := 6) (oi := ?oi77) (v := ?v77) ?hi77 ?hs77 ?hf77 ?hr77 ?hQ77 ?hy77 ?hS77 ?rest77
  case hi77 => (simp only [List.getElem?_toArray, List.getElem?_cons_succ, List.getElem?_cons_zero]; rfl)
  case hs77 => kernel_rfl
  case hf77 => kernel_rfl
  case hr77 => kernel_rfl
  case hQ77 => exact (fun _ _ _ h => h)
  case hS77 => assumption
  case hy77 => (refine Or.inl ⟨by rfl, ?_⟩; intro w hSw; (try dsimp only at hSw); go_simp; try with_reducible rfl)
  (try simp only [Act.put, List.setIfInBounds_toArray, List.set_cons_zero, List.set_cons_succ])
  refine wpAnyH_take (i := 7) (oi := ?oi78) (v := ?v78) ?hi78 ?hs78 ?hf78 ?hr78 ?hQ78 ?hy78 ?hS78 ?rest78
  case hi78 => (simp only [List.getElem?_toArray, List.getElem?_cons_succ, List.getElem?_cons_zero]; rfl)
  case hs78 => kernel_rfl
  case hf78 => kernel_rfl
  case hr78 => kernel_rfl
  case hQ78 => exact (fun _ _ _ h => h)
  case hS78 => assumption
  case hy78 => (refine Or.inl ⟨by rfl, ?_⟩; intro w hSw; (try dsimp only at hSw); go_simp; try with_reducible rfl)
  (try simp only [Act.put, List.setIfInBounds_toArray, List.set_cons_zero, List.set_cons_succ])
  refine wpAnyH_take (i := 8) (oi := ?oi79) (v := ?v79) ?hi79 ?hs79 ?hf79 ?hr79 ?hQ79 ?hy79 ?hS79 ?rest79
  case hi79 => (simp only [List.getElem?_toArray, List.getElem?_cons_succ, List.getElem?_cons_zero]; rfl)
  case hs79 => kernel_rfl
  case hf79 => kernel_rfl
  case hr79 => kernel_rfl
  case hQ79 => exact (fun _ _ _ h => h)
  case hS79 => assumption
  case hy79 => (refine Or.inl ⟨by rfl, ?_⟩; intro w hSw; (try dsimp only at hSw); go_simp; try with_reducible rfl)
  (try simp only [Act.put, List.setIfInBounds_toArray, List.set_cons_zero, List.set_cons_succ])
  refine wpAnyH_take (i := 9) (oi := ?oi80) (v := ?v80) ?hi80 ?hs80 ?hf80 ?hr80 ?hQ80 ?hy80 ?hS80 ?rest80
  case hi80 => (simp only [List.getElem?_toArray, List.getElem?_cons_succ, List.getElem?_cons_zero]; rfl)
  case hs80 => kernel_rfl
  case hf80 => kernel_rfl
  case hr80 => kernel_rfl
  case hQ80 => exact (fun _ _ _ h => h)
  case hS80 => assumption
  case hy80 => (refine Or.inl ⟨by rfl, ?_⟩; intro w hSw; (try dsimp only at hSw); go_simp; try with_reducible rfl)
  (try simp only [Act.put, List.setIfInBounds_toArray, List.set_cons_zero, List.set_cons_succ])
  refine wpAnyH_take (i := 10) (oi := ?oi81) (v := ?v81) ?hi81 ?hs81 ?hf81 ?hr81 ?hQ81 ?hy81 ?hS81 ?rest81
  case hi81 => (simp only [List.getElem?_toArray, List.getElem?_cons_succ, List.getElem?_cons_zero]; rfl)
  case hs81 => kernel_rfl
  case hf81 => kernel_rfl
  case hr81 => kernel_rfl
  case hQ81 => exact (fun _ _ _ h => h)
  case hS81 => assumption
  case hy81 => (refine Or.inl ⟨by rfl, ?_⟩; intro w hSw; (try dsimp only at hSw); go_simp; try with_reducible rfl)
  (try simp only [Act.put, List.setIfInBounds_toArray, List.set_cons_zero, List.set_cons_succ])
  refine wpAnyH_take (i := 11) (oi := ?oi82) (v := undef) ?hi82 ?hs82 ?hf82 ?hr82 ?hQ82 ?hy82 ?hS82 ?rest82
  case hi82 => (simp only [List.getElem?_toArray, List.getElem?_cons_succ, List.getElem?_cons_zero]; rfl)
  case hs82 => kernel_rfl
  case hf82 => kernel_rfl
  case hr82 => kernel_rfl
  case hQ82 => exact (fun _ _ _ h => h)
  case hS82 => assumption
  case hy82 => exact Or.inr ⟨by rfl, rfl⟩
  (try simp only [Act.put, List.setIfInBounds_toArray, List.set_cons_zero, List.set_cons_succ])
  refine wpAnyH_take (i := 12) (oi := ?oi83) (v := undef) ?hi83 ?hs83 ?hf83 ?hr83 ?hQ83 ?hy83 ?hS83 ?rest83
  case hi83 => (simp only [List.getElem?_toArray, List.getElem?_cons_succ, List.getElem?_cons_zero]; rfl)
  case hs83 => kernel_rfl
  case hf83 => kernel_rfl
  case hr83 => kernel_rfl
  case hQ83 => exact (fun _ _ _ h => h)
  case hS83 => assumption
  case hy83 => exact Or.inr ⟨by rfl, rfl⟩
  (try simp only [Act.put, List.setIfInBounds_toArray, List.set_cons_zero, List.set_cons_succ])
  refine wpAnyH_take (i := 13) (oi := ?oi84) (v := undef) ?hi84 ?hs84 ?hf84 ?hr84 ?hQ84 ?hy84 ?hS84 ?rest84
  case hi84 => (simp only [List.getElem?_toArray, List.getElem?_cons_succ, List.getElem?_cons_zero]; rfl)
  case hs84 => kernel_rfl
  case hf84 => kernel_rfl
  case hr84 => kernel_rfl
  case hQ84 => exact (fun _ _ _ h => h)
  case hS84 => assumption
  case hy84 => exact Or.inr ⟨by rfl, rfl⟩
  (try simp only [Act.put, List.setIfInBounds_toArray, List.set_cons_zero, List.set_cons_succ])
  refine wpAnyH_take (i := 14) (oi := ?oi85) (v := ?v85) ?hi85 ?hs85 ?hf85 ?hr85 ?hQ85 ?hy85 ?hS85 ?rest85
  case hi85 => (simp only [List.getElem?_toArray, List.getElem?_cons_succ, List.getElem?_cons_zero]; rfl)
  case hs85 => kernel_rfl
  case hf85 => kernel_rfl
  case hr85 => kernel_rfl
  case hQ85 => exact (fun _ _ _ h => h)
  case hS85 => assumption
  case hy85 => (refine Or.inl ⟨by rfl, ?_⟩; intro w hSw; (try dsimp only at hSw); go_simp; try with_reducible rfl)
  (try simp only [Act.put, List.setIfInBounds_toArray, List.set_cons_zero, List.set_cons_succ])
  refine wpAnyH_take (i := 16) (oi := ?oi86) (v := ?v86) ?hi86 ?hs86 ?hf86 ?hr86 ?hQ86 ?hy86 ?hS86 ?rest86
  case hi86 => (simp only [List.getElem?_toArray, List.getElem?_cons_succ, List.getElem?_cons_zero]; rfl)
  case hs86 => kernel_rfl
  case hf86 => kernel_rfl
  case hr86 => kernel_rfl
  case hQ86 => exact (fun _ _ _ h => h)
  case hS86 => assumption
  case hy86 => (refine Or.inl ⟨by rfl, ?_⟩; intro w hSw; (try dsimp only at hSw); go_simp; try with_reducible rfl)
  (try simp only [Act.put, List.setIfInBounds_toArray, List.set_cons_zero, List.set_cons_succ])
  refine wpAnyH_take (i := 17) (oi := ?oi87) (v := ?v87) ?hi87 ?hs87 ?hf87 ?hr87 ?hQ87 ?hy87 ?hS87 ?rest87
  case hi87 => (simp only [List.getElem?_toArray, List.getElem?_cons_succ, List.getElem?_cons_zero]; rfl)
  case hs87 => kernel_rfl
  case hf87 => kernel_rfl
  case hr87 => kernel_rfl
  case hQ87 => exact (fun _ _ _ h => h)
  case hS87 => assumption
  case hy87 => (refine Or.inl ⟨by rfl, ?_⟩; intro w hSw; (try dsimp only at hSw); go_simp; try with_reducible rfl)
  (try simp only [Act.put, List.setIfInBounds_toArray, List.set_cons_zero, List.set_cons_succ])
  refine wpAnyH_take (i := 18) (oi := ?oi88) (v := ?v88) ?hi88 ?hs88 ?hf88 ?hr88 ?hQ88 ?hy88 ?hS88 ?rest88
  case hi88 => (simp only [List.getElem?_toArray, List.getElem?_cons_succ, List.getElem?_cons_zero]; rfl)
  case hs88 => kernel_rfl
  case hf88 => kernel_rfl
  case hr88 => kernel_rfl
  case hQ88 => exact (fun _ _ _ h => h)
  case hS88 => assumption
  case hy88 => (refine Or.inl ⟨by rfl, ?_⟩; intro w hSw; (try dsimp only at hSw); go_simp; try with_reducible rfl)
  (try simp only [Act.put, List.setIfInBounds_toArray, List.set_cons_zero, List.set_cons_succ])
  refine wpAnyH_take (i := 19) (oi := ?oi89) (v := ?v89) ?hi89 ?hs89 ?hf89 ?hr89 ?hQ89 ?hy89 ?hS89 ?rest89
  case hi89 => (simp only [List.getElem?_toArray, List.getElem?_cons_succ, List.getElem?_cons_zero]; rfl)
  case hs89 => kernel_rfl
  case hf89 => kernel_rfl
  case hr89 => kernel_rfl
  case hQ89 => exact (fun _ _ _ h => h)
  case hS89 => assumption
  case hy89 => (refine Or.inl ⟨by rfl, ?_⟩; intro w hSw; (try dsimp only at hSw); go_simp; try with_reducible rfl)
  (try simp only [Act.put, List.setIfInBounds_toArray, List.set_cons_zero, List.set_cons_succ])
  refine wpAnyH_take (i := 20) (oi := ?oi90) (v := undef) ?hi90 ?hs90 ?hf90 ?hr90 ?hQ90 ?hy90 ?hS90 ?rest90
  case hi90 => (simp only [List.getElem?_toArray, List.getElem?_cons_succ, List.getElem?_cons_zero]; rfl)
  case hs90 => kernel_rfl
  case hf90 => kernel_rfl
  case hr90 => kernel_rfl
  case hQ90 => exact (fun _ _ _ h => h)
  case hS90 => assumption
  case hy90 => exact Or.inr ⟨by rfl, rfl⟩
  (try simp only [Act.put, List.setIfInBounds_toArray, List.set_cons_zero, List.set_cons_succ])
  refine wpAnyH_take (i := 21) (oi := ?oi91) (v := undef) ?hi91 ?hs91 ?hf91 ?hr91 ?hQ91 ?hy91 ?hS91 ?rest91
  case hi91 => (simp only [List.getElem?_toArray, List.getElem?_cons_succ, List.getElem?_cons_zero]; rfl)
  case hs91 => kernel_rfl
  case hf91 => kernel_rfl
  case hr91 => kernel_rfl
  case hQ91 => exact (fun _ _ _ h => h)
  case hS91 => assumption
  case hy91 => exact Or.inr ⟨by rfl, rfl⟩
  (try simp only [Act.put, List.setIfInBounds_toArray, List.set_cons_zero, List.set_cons_succ])
  refine wpAnyH_take (i := 22) (oi := ?oi92) (v := undef) ?hi92 ?hs92 ?hf92 ?hr92 ?hQ92 ?hy92 ?hS92 ?rest92
  case hi92 => (simp only [List.getElem?_toArray, List.getElem?_cons_succ, List.getElem?_cons_zero]; rfl)
  case hs92 => kernel_rfl
  case hf92 => kernel_rfl
  case hr92 => kernel_rfl
  case hQ92 => exact (fun _ _ _ h => h)
  case hS92 => assumption
  case hy92 => exact Or.inr ⟨by rfl, rfl⟩
  (try simp only [Act.put, List.setIfInBounds_toArray, List.set_cons_zero, List.set_cons_succ])
  refine wpAnyH_take (i := 23) (oi := ?oi93) (v := undef) ?hi93 ?hs93 ?hf93 ?hr93 ?hQ93 ?hy93 ?hS93 ?rest93
  case hi93 => (simp only [List.getElem?_toArray, List.getElem?_cons_succ, List.getElem?_cons_zero]; rfl)
  case hs93 => kernel_rfl
  case hf93 => kernel_rfl
  case hr93 => kernel_rfl
  case hQ93 => exact (fun _ _ _ h => h)
  case hS93 => assumption
  case hy93 => exact Or.inr ⟨by rfl, rfl⟩
  (try simp only [Act.put, List.setIfInBounds_toArray, List.set_cons_zero, List.set_cons_succ])
  refine wpAnyH_take (i := 24) (oi := ?oi94) (v := undef) ?hi94 ?hs94 ?hf94 ?hr94 ?hQ94 ?hy94 ?hS94 ?rest94
  case hi94 => (simp only [List.getElem?_toArray, List.getElem?_cons_succ, List.getElem?_cons_zero]; rfl)
  case hs94 => kernel_rfl
  case hf94 => kernel_rfl
  case hr94 => kernel_rfl
  case hQ94 => exact (fun _ _ _ h => h)
  case hS94 => assumption
  case hy94 => exact Or.inr ⟨by rfl, rfl⟩
  (try simp only [Act.put, List.setIfInBounds_toArray, List.set_cons_zero, List.set_cons_succ])
  refine wpAnyH_take (i := 25) (oi := ?oi95) (v := undef) ?hi95 ?hs95 ?hf95 ?hr95 ?hQ95 ?hy95 ?hS95 ?rest95
  case hi95 => (simp only [List.getElem?_toArray, List.getElem?_cons_succ, List.getElem?_cons_zero]; rfl)
  case hs95 => kernel_rfl
  case hf95 => kernel_rfl
  case hr95 => kernel_rfl
  case hQ95 => exact (fun _ _ _ h => h)
  case hS95 => assumption
  case hy95 => exact Or.inr ⟨by rfl, rfl⟩
  (try simp only [Act.put, List.setIfInBounds_toArray, List.set_cons_zero, List.set_cons_succ])
  refine wpAnyH_take (i := 26) (oi := ?oi96) (v := ?v96) ?hi96 ?hs96 ?hf96 ?hr96 ?hQ96 ?hy96 ?hS96 ?rest96
  case hi96 => (simp only [List.getElem?_toArray, List.getElem?_cons_succ, List.getElem?_cons_zero]; rfl)
  case hs96 => kernel_rfl
  case hf96 => kernel_rfl
  case hr96 => kernel_rfl
  case hQ96 => exact (fun _ _ _ h => h)
  case hS96 => assumption
  case hy96 => (refine Or.inl ⟨by rfl, ?_⟩; intro w hSw; (try dsimp only at hSw); go_simp; try with_reducible rfl)
  (try simp only [Act.put, List.setIfInBounds_toArray, List.set_cons_zero, List.set_cons_succ])
  refine wpAnyH_ready (rs := [0]) (by kernel_rfl) (by simp) ?_
  refine AllReadyH.cons rfl (fun K hK => ?_) ?_
  · go_simp
    refine hK.out _ _ ?_ (fun hHeld2 => ?_)
    · (first | exact ⟨c2, c3⟩ | exact ⟨HK2.out _, HK3.out _⟩)
    · clear hK K hHeld
      have hHeld := hHeld2; clear hHeld2
      (try simp only [Act.put, List.setIfInBounds_toArray, List.set_cons_zero, List.set_cons_succ])
      refine wpAnyH_ready (rs := [2, 15, 27]) (by kernel_rfl) (by simp) ?_
      refine AllReadyH.cons rfl (fun K hK => ?_) ?_
      · go_simp
        refine hK.out _ _ ?_ (fun hHeld2 => ?_)
        · (first | exact ⟨c2, c3⟩ | exact ⟨HK2.out _, HK3.out _⟩)
        · clear hK K hHeld
          have hHeld := hHeld2; clear hHeld2
          (try simp only [Act.put, List.setIfInBounds_toArray, List.set_cons_zero, List.set_cons_succ])
          refine wpAnyH_ready (rs := [15, 27]) (by kernel_rfl) (by simp) ?_
          refine AllReadyH.cons rfl (fun K hK => ?_) ?_
          · go_simp
            refine hK.out _ _ ?_ (fun hHeld2 => ?_)
            · (first | exact ⟨c2, c3⟩ | exact ⟨HK2.out _, HK3.out _⟩)
            · clear hK K hHeld
              have hHeld := hHeld2; clear hHeld2
              (try simp only [Act.put, List.setIfInBounds_toArray, List.set_cons_zero, List.set_cons_succ])
              refine wpAnyH_ready (rs := [27]) (by kernel_rfl) (by simp) ?_
              refine AllReadyH.cons rfl (fun K hK => ?_) ?_
              · go_simp
                refine hK.out _ _ ?_ (fun hHeld2 => ?_)
                · (first | exact ⟨c2, c3⟩ | exact ⟨HK2.out _, HK3.out _⟩)
                · clear hK K hHeld
                  have hHeld := hHeld2; clear hHeld2
                  (try simp only [Act.put, List.setIfInBounds_toArray, List.set_cons_zero, List.set_cons_succ])
                  refine wpAnyH_take (i := 28) (oi := ?oi97) (v := ?v97) ?hi97 ?hs97 ?hf97 ?hr97 ?hQ97 ?hy97 ?hS97 ?rest97
                  case hi97 => (simp only [List.getElem?_toArray, List.getElem?_cons_succ, List.getElem?_cons_zero]; rfl)
                  case hs97 => kernel_rfl
                  case hf97 => kernel_rfl
                  case hr97 => kernel_rfl
                  case hQ97 => exact (fun _ _ _ h => h)
                  case hS97 => assumption
                  case hy97 => (refine Or.inl ⟨by rfl, ?_⟩; intro w hSw; (try dsimp only at hSw); go_simp; try with_reducible rfl)
                  (try simp only [Act.put, List.setIfInBounds_toArray, List.set_cons_zero, List.set_cons_succ])
                  refine wpAnyH_take (i := 29) (oi := ?oi98) (v := ?v98) ?hi98 ?hs98 ?hf98 ?hr98 ?hQ98 ?hy98 ?hS98 ?rest98
                  case hi98 => (simp only [List.getElem?_toArray, List.getElem?_cons_succ, List.getElem?_cons_zero]; rfl)
                  case hs98 => kernel_rfl
                  case hf98 => kernel_rfl
                  case hr98 => kernel_rfl
                  case hQ98 => exact (fun _ _ _ h => h)
                  case hS98 => assumption
                  case hy98 => (refine Or.inl ⟨by rfl, ?_⟩; intro w hSw; (try dsimp only at hSw); go_simp; try with_reducible rfl)
                  (try simp only [Act.put, List.setIfInBounds_toArray, List.set_cons_zero, List.set_cons_succ])
                  refine wpAnyH_done (by kernel_rfl) ?_ _
                  clear i1 i21 i231 i31 i321 i2 i12 i132 i32 i312 i3 i13 i123 i23 i213
                  have q1 := look123 w1; have q2 := look132 w1; have q3 := look213 w1; have q4 := look231 w1; have q5 := look312 w1; have q6 := look321 w1
                  have k0 := HK0.out; have k1 := HK1.out
                  clear hHeld
                  cases hk : keyL key.data.toList
                  · have HK := Lib.hid hk; clear hk
                    go_wp2_with (go_at_call 82; refine (key_calls _ _ HOK.out.2.2.1).mono ?_; rw [HK.out]; rintro e w' ⟨rfl, rfl⟩)
                    go_ret
                    exact ⟨ret_bool (by rw [rightB_eq, HK.out]; rfl), (H2.out.trans ((Below.refl _ w1).alloc (Nat.le_refl _) _)).drew⟩
                  · have HK := Lib.hid hk; clear hk
                    go_wp2_with (go_at_call 82; refine (key_calls _ _ HOK.out.2.2.1).mono ?_; rw [HK.out]; rintro e w' ⟨rfl, rfl⟩)
                    go_ret
                    exact ⟨ret_bool (by rw [rightB_eq, HK.out, F1.out, F2.out, F3.out]; rfl), (H2.out.trans ((Below.refl _ w1).alloc (Nat.le_refl _) _)).drew⟩
              exact AllReadyH.nil
          refine AllReadyH.cons rfl (fun K hK => ?_) ?_
          · go_simp
            refine hK.out _ _ ?_ (fun hHeld2 => ?_)
            · (first | exact ⟨c2, c3⟩ | exact ⟨HK2.out _, HK3.out _⟩)
            · clear hK K hHeld
              have hHeld := hHeld2; clear hHeld2
              (try simp only [Act.put, List.setIfInBounds_toArray, List.set_cons_zero, List.set_cons_succ])
              refine wpAnyH_ready (rs := [15]) (by kernel_rfl) (by simp) ?_
              refine AllReadyH.cons rfl (fun K hK => ?_) ?_
              · go_simp
                refine hK.out _ _ ?_ (fun hHeld2 => ?_)
                · (first | exact ⟨c2, c3⟩ | exact ⟨HK2.out _, HK3.out _⟩)
                · clear hK K hHeld
                  have hHeld := hHeld2; clear hHeld2
                  (try simp only [Act.put, List.setIfInBounds_toArray, List.set_cons_zero, List.set_cons_succ])
                  refine wpAnyH_take (i := 28) (oi := ?oi99) (v := ?v99) ?hi99 ?hs99 ?hf99 ?hr99 ?hQ99 ?hy99 ?hS99 ?rest99
                  case hi99 => (simp only [List.getElem?_toArray, List.getElem?_cons_succ, List.getElem?_cons_zero]; rfl)
                  case hs99 => kernel_rfl
                  case hf99 => kernel_rfl
                  case hr99 => kernel_rfl
                  case hQ99 => exact (fun _ _ _ h => h)
                  case hS99 => assumption
                  case hy99 => (refine Or.inl ⟨by rfl, ?_⟩; intro w hSw; (try dsimp only at hSw); go_simp; try with_reducible rfl)
                  (try simp only [Act.put, List.setIfInBounds_toArray, List.set_cons_zero, List.set_cons_succ])
                  refine wpAnyH_take (i := 29) (oi := ?oi100) (v := ?v100) ?hi100 ?hs100 ?hf100 ?hr100 ?hQ100 ?hy100 ?hS100 ?rest100
                  case hi100 => (simp only [List.getElem?_toArray, List.getElem?_cons_succ, List.getElem?_cons_zero]; rfl)
                  case hs100 => kernel_rfl
                  case hf100 => kernel_rfl
                  case hr100 => kernel_rfl
                  case hQ100 => exact (fun _ _ _ h => h)
                  case hS100 => assumption
                  case hy100 => (refine Or.inl ⟨by rfl, ?_⟩; intro w hSw; (try dsimp only at hSw); go_simp; try with_reducible rfl)
                  (try simp only [Act.put, List.setIfInBounds_toArray, List.set_cons_zero, List.set_cons_succ])
                  refine wpAnyH_done (by kernel_rfl) ?_ _
                  clear i1 i21 i231 i31 i321 i2 i12 i132 i32 i312 i3 i13 i123 i23 i213
                  have q1 := look123 w1; have q2 := look132 w1; have q3 := look213 w1; have q4 := look231 w1; have q5 := look312 w1; have q6 := look321 w1
                  have k0 := HK0.out; have k1 := HK1.out
                  clear hHeld
                  cases hk : keyL key.data.toList
                  · have HK := Lib.hid hk; clear hk
                    go_wp2_with (go_at_call 82; refine (key_calls _ _ HOK.out.2.2.1).mono ?_; rw [HK.out]; rintro e w' ⟨rfl, rfl⟩)
                    go_ret
                    exact ⟨ret_bool (by rw [rightB_eq, HK.out]; rfl), (H2.out.trans ((Below.refl _ w1).alloc (Nat.le_refl _) _)).drew⟩
                  · have HK := Lib.hid hk; clear hk
                    go_wp2_with (go_at_call 82; refine (key_calls _ _ HOK.out.2.2.1).mono ?_; rw [HK.out]; rintro e w' ⟨rfl, rfl⟩)
                    go_ret
                    exact ⟨ret_bool (by rw [rightB_eq, HK.out, F1.out, F2.out, F3.out]; rfl), (H2.out.trans ((Below.refl _ w1).alloc (Nat.le_refl _) _)).drew⟩
              exact AllReadyH.nil
          exact AllReadyH.nil
      refine AllReadyH.cons rfl (fun K hK => ?_) ?_
      · go_simp
        refine hK.out _ _ ?_ (fun hHeld2 => ?_)
        · (first | exact ⟨c2, c3⟩ | exact ⟨HK2.out _, HK3.out _⟩)
        · clear hK K hHeld
          have hHeld := hHeld2; clear hHeld2
          (try simp only [Act.put, List.setIfInBounds_toArray, List.set_cons_zero, List.set_cons_succ])
          refine wpAnyH_ready (rs := [2, 27]) (by kernel_rfl) (by simp) ?_
          refine AllReadyH.cons rfl (fun K hK => ?_) ?_
          · go_simp
            refine hK.out _ _ ?_ (fun hHeld2 => ?_)
            · (first | exact ⟨c2, c3⟩ | exact ⟨HK2.out _, HK3.out _⟩)
            · clear hK K hHeld
              have hHeld := hHeld2; clear hHeld2
              (try simp only [Act.put, List.setIfInBounds_toArray, List.set_cons_zero, List.set_cons_succ])
              refine wpAnyH_ready (rs := [27]) (by kernel_rfl) (by simp) ?_
              refine AllReadyH.cons rfl (fun K hK => ?_) ?_
              · go_simp
                refine hK.out _ _ ?_ (fun hHeld2 => ?_)
                · (first | exact ⟨c2, c3⟩ | exact ⟨HK2.out _, HK3.out _⟩)
                · clear hK K hHeld
                  have hHeld := hHeld2; clear hHeld2
                  (try simp only [Act.put, List.setIfInBounds_toArray, List.set_cons_zero, List.set_cons_succ])
                  refine wpAnyH_take (i := 28) (oi := ?oi101) (v := ?v101) ?hi101 ?hs101 ?hf101 ?hr101 ?hQ101 ?hy101 ?hS101 ?rest101
                  case hi101 => (simp only [List.getElem?_toArray, List.getElem?_cons_succ, List.getElem?_cons_zero]; rfl)
                  case hs101 => kernel_rfl
                  case hf101 => kernel_rfl
                  case hr101 => kernel_rfl
                  case hQ101 => exact (fun _ _ _ h => h)
                  case hS101 => assumption
                  case hy101 => (refine Or.inl ⟨by rfl, ?_⟩; intro w hSw; (try dsimp only at hSw); go_simp; try with_reducible rfl)
                  (try simp only [Act.put, List.setIfInBounds_toArray, List.set_cons_zero, List.set_cons_succ])
                  refine wpAnyH_take (i := 29) (oi := ?oi102) (v := ?v102) ?hi102 ?hs102 ?hf102 ?hr102 ?hQ102 ?hy102 ?hS102 ?rest102
                  case hi102 => (simp only [List.getElem?_toArray, List.getElem?_cons_succ, List.getElem?_cons_zero]; rfl)
                  case hs102 => kernel_rfl
                  case hf102 => kernel_rfl
                  case hr102 => kernel_rfl
                  case hQ102 => exact (fun _ _ _ h => h)
                  case hS102 => assumption
                  case hy102 => (refine Or.inl ⟨by rfl, ?_⟩; intro w hSw; (try dsimp only at hSw); go_simp; try with_reducible rfl)
                  (try simp only [Act.put, List.setIfInBounds_toArray, List.set_cons_zero, List.set_cons_succ])
                  refine wpAnyH_done (by kernel_rfl) ?_ _
                  clear i1 i21 i231 i31 i321 i2 i12 i132 i32 i312 i3 i13 i123 i23 i213
                  have q1 := look123 w1; have q2 := look132 w1; have q3 := look213 w1; have q4 := look231 w1; have q5 := look312 w1; have q6 := look321 w1
                  have k0 := HK0.out; have k1 := HK1.out
                  clear hHeld
                  cases hk : keyL key.data.toList
                  · have HK := Lib.hid hk; clear hk
                    go_wp2_with (go_at_call 82; refine (key_calls _ _ HOK.out.2.2.1).mono ?_; rw [HK.out]; rintro e w' ⟨rfl, rfl⟩)
                    go_ret
                    exact ⟨ret_bool (by rw [rightB_eq, HK.out]; rfl), (H2.out.trans ((Below.refl _ w1).alloc (Nat.le_refl _) _)).drew⟩
                  · have HK := Lib.hid hk; clear hk
                    go_wp2_with (go_at_call 82; refine (key_calls _ _ HOK.out.2.2.1).mono ?_; rw [HK.out]; rintro e w' ⟨rfl, rfl⟩)
                    go_ret
                    exact ⟨ret_bool (by rw [rightB_eq, HK.out, F1.out, F2.out, F3.out]; rfl), (H2.out.trans ((Below.refl _ w1).alloc (Nat.le_refl _) _)).drew⟩
              exact AllReadyH.nil
          refine AllReadyH.cons rfl (fun K hK => ?_) ?_
          · go_simp
            refine hK.out _ _ ?_ (fun hHeld2 => ?_)
            · (first | exact ⟨c2, c3⟩ | exact ⟨HK2.out _, HK3.out _⟩)
            · clear hK K hHeld
              have hHeld := hHeld2; clear hHeld2
              (try simp only [Act.put, List.setIfInBounds_toArray, List.set_cons_zero, List.set_cons_succ])
              refine wpAnyH_ready (rs := [2]) (by kernel_rfl) (by simp) ?_
              refine AllReadyH.cons rfl (fun K hK => ?_) ?_
              · go_simp
                refine hK.out _ _ ?_ (fun hHeld2 => ?_)
                · (first | exact ⟨c2, c3⟩ | exact ⟨HK2.out _, HK3.out _⟩)
                · clear hK K hHeld
                  have hHeld := hHeld2; clear hHeld2
                  (try simp only [Act.put, List.setIfInBounds_toArray, List.set_cons_zero, List.set_cons_succ])
                  refine wpAnyH_take (i := 28) (oi := ?oi103) (v := ?v103) ?hi103 ?hs103 ?hf103 ?hr103 ?hQ103 ?hy103 ?hS103 ?rest103
                  case hi103 => (simp only [List.getElem?_toArray, List.getElem?_cons_succ, List.getElem?_cons_zero]; rfl)
                  case hs103 => kernel_rfl
                  case hf103 => kernel_rfl
                  case hr103 => kernel_rfl
                  case hQ103 => exact (fun _ _ _ h => h)
                  case hS103 => assumption
                  case hy103 => (refine Or.inl ⟨by rfl, ?_⟩; intro w hSw; (try dsimp only at hSw); go_simp; try with_reducible rfl)
                  (try simp only [Act.put, List.setIfInBounds_toArray, List.set_cons_zero, List.set_cons_succ])
                  refine wpAnyH_take (i := 29) (oi := ?oi104) (v := ?v104) ?hi104 ?hs104 ?hf104 ?hr104 ?hQ104 ?hy104 ?hS104 ?rest104
                  case hi104 => (simp only [List.getElem?_toArray, List.getElem?_cons_succ, List.getElem?_cons_zero]; rfl)
                  case hs104 => kernel_rfl
                  case hf104 => kernel_rfl
                  case hr104 => kernel_rfl
                  case hQ104 => exact (fun _ _ _ h => h)
                  case hS104 => assumption
                  case hy104 => (refine Or.inl ⟨by rfl, ?_⟩; intro w hSw; (try dsimp only at hSw); go_simp; try with_reducible rfl)
                  (try simp only [Act.put, List.setIfInBounds_toArray, List.set_cons_zero, List.set_cons_succ])
                  refine wpAnyH_done (by kernel_rfl) ?_ _
                  clear i1 i21 i231 i31 i321 i2 i12 i132 i32 i312 i3 i13 i123 i23 i213
                  have q1 := look123 w1; have q2 := look132 w1; have q3 := look213 w1; have q4 := look231 w1; have q5 := look312 w1; have q6 := look321 w1
                  have k0 := HK0.out; have k1 := HK1.out
                  clear hHeld
                  cases hk : keyL key.data.toList
                  · have HK := Lib.hid hk; clear hk
                    go_wp2_with (go_at_call 82; refine (key_calls _ _ HOK.out.2.2.1).mono ?_; rw [HK.out]; rintro e w' ⟨rfl, rfl⟩)
                    go_ret
                    exact ⟨ret_bool (by rw [rightB_eq, HK.out]; rfl), (H2.out.trans ((Below.refl _ w1).alloc (Nat.le_refl _) _)).drew⟩
                  · have HK := Lib.hid hk; clear hk
                    go_wp2_with (go_at_call 82; refine (key_calls _ _ HOK.out.2.2.1).mono ?_; rw [HK.out]; rintro e w' ⟨rfl, rfl⟩)
                    go_ret
                    exact ⟨ret_bool (by rw [rightB_eq, HK.out, F1.out, F2.out, F3.out]; rfl), (H2.out.trans ((Below.refl _ w1).alloc (Nat.le_refl _) _)).drew⟩
              exact AllReadyH.nil
          exact AllReadyH.nil
      refine AllReadyH.cons rfl (fun K hK => ?_) ?_
      · go_simp
        refine hK.out _ _ ?_ (fun hHeld2 => ?_)
        · (first | exact ⟨c2, c3⟩ | exact ⟨HK2.out _, HK3.out _⟩)
        · clear hK K hHeld
          have hHeld := hHeld2; clear hHeld2
          (try simp only [Act.put, List.setIfInBounds_toArray, List.set_cons_zero, List.set_cons_succ])
          refine wpAnyH_ready (rs := [2, 15]) (by kernel_rfl) (by simp) ?_
          refine AllReadyH.cons rfl (fun K hK => ?_) ?_
          · go_simp
            refine hK.out _ _ ?_ (fun hHeld2 => ?_)
            · (first | exact ⟨c2, c3⟩ | exact ⟨HK2.out _, HK3.out _⟩)
            · clear hK K hHeld
              have hHeld := hHeld2; clear hHeld2
              (try simp only [Act.put, List.setIfInBounds_toArray, List.set_cons_zero, List.set_cons_succ])
              refine wpAnyH_ready (rs := [15]) (by kernel_rfl) (by simp) ?_
              refine AllReadyH.cons rfl (fun K hK => ?_) ?_
              · go_simp
                refine hK.out _ _ ?_ (fun hHeld2 => ?_)
                · (first | exact ⟨c2, c3⟩ | exact ⟨HK2.out _, HK3.out _⟩)
                · clear hK K hHeld
                  have hHeld := hHeld2; clear hHeld2
                  (try simp only [Act.put, List.setIfInBounds_toArray, List.set_cons_zero, List.set_cons_succ])
                  refine wpAnyH_take (i := 28) (oi := ?oi105) (v := ?v105) ?hi105 ?hs105 ?hf105 ?hr105 ?hQ105 ?hy105 ?hS105 ?rest105
                  case hi105 => (simp only [List.getElem?_toArray, List.getElem?_cons_succ, List.getElem?_cons_zero]; rfl)
                  case hs105 => kernel_rfl
                  case hf105 => kernel_rfl
                  case hr105 => kernel_rfl
                  case hQ105 => exact (fun _ _ _ h => h)
                  case hS105 => assumption
                  case hy105 => (refine Or.inl ⟨by rfl, ?_⟩; intro w hSw; (try dsimp only at hSw); go_simp; try with_reducible rfl)
                  (try simp only [Act.put, List.setIfInBounds_toArray, List.set_cons_zero, List.set_cons_succ])
                  refine wpAnyH_take (i := 29) (oi := ?oi106) (v := ?v106) ?hi106 ?hs106 ?hf106 ?hr106 ?hQ106 ?hy106 ?hS106 ?rest106
                  case hi106 => (simp only [List.getElem?_toArray, List.getElem?_cons_succ, List.getElem?_cons_zero]; rfl)
                  case hs106 => kernel_rfl
                  case hf106 => kernel_rfl
                  case hr106 => kernel_rfl
                  case hQ106 => exact (fun _ _ _ h => h)
                  case hS106 => assumption
                  case hy106 => (refine Or.inl ⟨by rfl, ?_⟩; intro w hSw; (try dsimp only at hSw); go_simp; try with_reducible rfl)
                  (try simp only [Act.put, List.setIfInBounds_toArray, List.set_cons_zero, List.set_cons_succ])
                  refine wpAnyH_done (by kernel_rfl) ?_ _
                  clear i1 i21 i231 i31 i321 i2 i12 i132 i32 i312 i3 i13 i123 i23 i213
                  have q1 := look123 w1; have q2 := look132 w1; have q3 := look213 w1; have q4 := look231 w1; have q5 := look312 w1; have q6 := look321 w1
                  have k0 := HK0.out; have k1 := HK1.out
                  clear hHeld
                  cases hk : keyL key.data.toList
                  · have HK := Lib.hid hk; clear hk
                    go_wp2_with (go_at_call 82; refine (key_calls _ _ HOK.out.2.2.1).mono ?_; rw [HK.out]; rintro e w' ⟨rfl, rfl⟩)
                    go_ret
                    exact ⟨ret_bool (by rw [rightB_eq, HK.out]; rfl), (H2.out.trans ((Below.refl _ w1).alloc (Nat.le_refl _) _)).drew⟩
                  · have HK := Lib.hid hk; clear hk
                    go_wp2_with (go_at_call 82; refine (key_calls _ _ HOK.out.2.2.1).mono ?_; rw [HK.out]; rintro e w' ⟨rfl, rfl⟩)
                    go_ret
                    exact ⟨ret_bool (by rw [rightB_eq, HK.out, F1.out, F2.out, F3.out]; rfl), (H2.out.trans ((Below.refl _ w1).alloc (Nat.le_refl _) _)).drew⟩
              exact AllReadyH.nil
          refine AllReadyH.cons rfl (fun K hK => ?_) ?_
          · go_simp
            refine hK.out _ _ ?_ (fun hHeld2 => ?_)
            · (first | exact ⟨c2, c3⟩ | exact ⟨HK2.out _, HK3.out _⟩)
            · clear hK K hHeld
              have hHeld := hHeld2; clear hHeld2
              (try simp only [Act.put, List.setIfInBounds_toArray, List.set_cons_zero, List.set_cons_succ])
              refine wpAnyH_ready (rs := [2]) (by kernel_rfl) (by simp) ?_
              refine AllReadyH.cons rfl (fun K hK => ?_) ?_
              · go_simp
                refine hK.out _ _ ?_ (fun hHeld2 => ?_)
                · (first | exact ⟨c2, c3⟩ | exact ⟨HK2.out _, HK3.out _⟩)
                · clear hK K hHeld
                  have hHeld := hHeld2; clear hHeld2
                  (try simp only [Act.put, List.setIfInBounds_toArray, List.set_cons_zero, List.set_cons_succ])
                  refine wpAnyH_take (i := 28) (oi := ?oi107) (v := ?v107) ?hi107 ?hs107 ?hf107 ?hr107 ?hQ107 ?hy107 ?hS107 ?rest107
                  case hi107 => (simp only [List.getElem?_toArray, List.getElem?_cons_succ, List.getElem?_cons_zero]; rfl)
                  case hs107 => kernel_rfl
                  case hf107 => kernel_rfl
                  case hr107 => kernel_rfl
                  case hQ107 => exact (fun _ _ _ h => h)
                  case hS107 => assumption
                  case hy107 => (refine Or.inl ⟨by rfl, ?_⟩; intro w hSw; (try dsimp only at hSw); go_simp; try with_reducible rfl)
                  (try simp only [Act.put, List.setIfInBounds_toArray, List.set_cons_zero, List.set_cons_succ])
                  refine wpAnyH_take (i := 29) (oi := ?oi108) (v := ?v108) ?hi108 ?hs108 ?hf108 ?hr108 ?hQ108 ?hy108 ?hS108 ?rest108
                  case hi108 => (simp only [List.getElem?_toArray, List.getElem?_cons_succ, List.getElem?_cons_zero]; rfl)
                  case hs108 => kernel_rfl
                  case hf108 => kernel_rfl
                  case hr108 => kernel_rfl
                  case hQ108 => exact (fun _ _ _ h => h)
                  case hS108 => assumption
                  case hy108 => (refine Or.inl ⟨by rfl, ?_⟩; intro w hSw; (try dsimp only at hSw); go_simp; try with_reducible rfl)
                  (try simp only [Act.put, List.setIfInBounds_toArray, List.set_cons_zero, List.set_cons_succ])
                  refine wpAnyH_done (by kernel_rfl) ?_ _
                  clear i1 i21 i231 i31 i321 i2 i12 i132 i32 i312 i3 i13 i123 i23 i213
                  have q1 := look123 w1; have q2 := look132 w1; have q3 := look213 w1; have q4 := look231 w1; have q5 := look312 w1; have q6 := look321 w1
                  have k0 := HK0.out; have k1 := HK1.out
                  clear hHeld
                  cases hk : keyL key.data.toList
                  · have HK := Lib.hid hk; clear hk
                    go_wp2_with (go_at_call 82; refine (key_calls _ _ HOK.out.2.2.1).mono ?_; rw [HK.out]; rintro e w' ⟨rfl, rfl⟩)
                    go_ret
                    exact ⟨ret_bool (by rw [rightB_eq, HK.out]; rfl), (H2.out.trans ((Below.refl _ w1).alloc (Nat.le_refl _) _)).drew⟩
                  · have HK := Lib.hid hk; clear hk
                    go_wp2_with (go_at_call 82; refine (key_calls _ _ HOK.out.2.2.1).mono ?_; rw [HK.out]; rintro e w' ⟨rfl, rfl⟩)
                    go_ret
                    exact ⟨ret_bool (by rw [rightB_eq, HK.out, F1.out, F2.out, F3.out]; rfl), (H2.out.trans ((Below.refl _ w1).alloc (Nat.le_refl _) _)).drew⟩
              exact AllReadyH.nil
          exact AllReadyH.nil
      exact AllReadyH.nil
  exact AllReadyH.nil
end Go.Proofs.YtdmejbjpbjcfbaaGreatDoor
/- act.right: is an act right? -/
namespace Go.Proofs.YtdmejbjpbjcfbaaGreatDoor
open Go.RowKit
theorem right_calls (a : ActD) (w : World) (hok : a.ok) : Calls Tryz.prog 160 #[.agg (encAct a).toArray] w fun e w' => e = .returned (.bool (rightB a)) ∧ Ext w w' := by
  by_cases hE : a.value.data.toList = []
  · exact right_A a w hok hE
  · by_cases hA : a.value.size ≤ 20
    · cases hX : textL a.value.data.toList
      · exact right_D a w hok hE hA hX
      · exact right_C a w hok hE hA hX
    · exact right_B a w hok hE (by omega)
end Go.Proofs.YtdmejbjpbjcfbaaGreatDoor
/- act.Right: are all acts right? -/
namespace Go.Proofs.YtdmejbjpbjcfbaaGreatDoor
open Go.RowKit

/-- What one act's look is to answer. -/
def RightOne : Prop := ∀ (a : ActD) (w : World), a.ok → Calls Tryz.prog 160 #[.agg (encAct a).toArray] w fun e w' => e = .returned (.bool (rightB a)) ∧ Ext w w'

theorem right1_calls (hR : RightOne) (a : ActD) (w : World) (hok : a.ok) : Calls Tryz.prog 159 #[.agg (encAct a).toArray] w fun e w' => e = .returned (.bool (!rightB a)) ∧ Ext w w' := by
  obtain ⟨kd, key, val, num⟩ := a
  have HK := Lib.hid hok; clear hok
  unfold encAct
  go_enter Tryz.func159, Tryz.ntmps159
  go_wp2_with fail
  refine (hR ⟨kd, key, val, num⟩ _ HK.out).mono ?_
  rintro e w' ⟨rfl, hx⟩
  have H1 := Lib.hid hx; clear hx
  go_wp2_with fail
  go_ret
  exact ⟨ret_bool rfl, Ext.trans ((Below.refl _ w).alloc (Nat.le_refl _) _) H1.out⟩

set_option maxRecDepth 100000 in
theorem indexFunc_calls (hR : RightOne) (l : List ActD) (ao : Option Addr) (cap : Nat) (w : World) (hl : l.length ≤ 1000000) (hok : ∀ a ∈ l, a.ok) (hr : Rows 4 encAct w.heap.size w ao l) :
    Calls Tryz.prog 188 #[.slice ao l.length cap, .func (.func 159) #[] #[]] w fun e w' => ∃ k : Int, e = .returned (.int .i64 k) ∧ decide (0 ≤ k) = !(l.all rightB) ∧ Ext w w' := by
  have HR := Lib.hid hr; have H0 := Lib.hid hok; have HF := Lib.hid hR
  clear hr hok hR
  go_enter Tryz.func188, Tryz.ntmps188
  go_wp2_with fail
  go_loopw [8] (fun i wr => ∃ (k : Nat), k ≤ l.length ∧ i = .int .i64 k ∧ (l.take k).all rightB = true ∧ Ext w wr) (fun i _ => l.length - (intOf i).toNat)
  case atStart => exact ⟨0, by omega, rfl, by simp, Below.refl _ _⟩
  case round =>
    obtain ⟨k, hk, rfl, ha, hx⟩ := hrel
    have K1 := Lib.hid ha; have K2 := Lib.hid hx
    clear ha hx
    by_cases hlt : k < l.length
    · obtain ⟨x, hx⟩ : ∃ x, l[k]? = some x := ⟨_, List.getElem?_eq_getElem hlt⟩
      have hxok := H0.out x (List.mem_of_getElem? hx)
      have htk : (l.take (k + 1)).all rightB = ((l.take k).all rightB && rightB x) := by rw [List.take_add_one, hx]; simp
      obtain ⟨b, off, rfl, hb, hcell⟩ := HR.out (by intro e; rw [e] at hlt; simp at hlt)
      have hcx := hcell k x hx
      have hmove : ∀ j, wr.cell? ⟨b, j, none⟩ = w.cell? ⟨b, j, none⟩ := fun j => K2.out.cell (p := ⟨b, j, none⟩) hb
      have hmem : x ∈ l := List.mem_of_getElem? hx
      have M := Lib.hid hmem; have TK := Lib.hid htk; have XK := Lib.hid hxok
      clear hmem htk hxok hx hcell
      obtain ⟨kd, key, val, num⟩ := x
      have d0 := (hmove _).trans (hcx 0 _ rfl); have d1 := (hmove _).trans (hcx 1 _ rfl); have d2 := (hmove _).trans (hcx 2 _ rfl); have d3 := (hmove _).trans (hcx 3 _ rfl)
      simp only [Nat.add_zero] at d0
      clear hcx hmove
      go_wp2_with fail
      refine (right1_calls HF.out ⟨kd, key, val, num⟩ _ XK.out).mono ?_
      rintro e w' ⟨rfl, hx2⟩
      have X2 := Lib.hid hx2; clear hx2
      cases hrb : rightB ⟨kd, key, val, num⟩
      · have RB := Lib.hid hrb; clear hrb
        go_wp2_with fail
        go_ret
        exact ⟨k, ret_int (by omega), by
          have : l.all rightB = false := by rw [List.all_eq_false]; exact ⟨_, M.out, by simp [RB.out]⟩
          rw [this]; simp, Ext.trans K2.out X2.out⟩
      · have RB := Lib.hid hrb; clear hrb
        go_wp2_with fail
        go_roundw
        case rel => exact ⟨k + 1, by omega, by go_num, by rw [TK.out, K1.out, RB.out]; rfl, Ext.trans K2.out X2.out⟩
        case measure => simp [intOf]; omega
    · go_wp2_with fail
      go_ret
      exact ⟨-1, ret_int (by omega), by have h := K1.out; rw [List.take_of_length_le (by omega)] at h; rw [h]; simp, K2.out⟩

theorem containsFunc_calls (hR : RightOne) (l : List ActD) (ao : Option Addr) (cap : Nat) (w : World) (hl : l.length ≤ 1000000) (hok : ∀ a ∈ l, a.ok) (hr : Rows 4 encAct w.heap.size w ao l) :
    Calls Tryz.prog 158 #[.slice ao l.length cap, .func (.func 159) #[] #[]] w fun e w' => e = .returned (.bool (!(l.all rightB))) ∧ Ext w w' := by
  have HR := Lib.hid hr; have H0 := Lib.hid hok; have HF := Lib.hid hR
  clear hr hok hR
  go_enter Tryz.func158, Tryz.ntmps158
  go_wp2_with fail
  refine (indexFunc_calls HF.out l ao cap _ hl H0.out HR.out).mono ?_
  rintro e w' ⟨k, rfl, hk, hx⟩
  have X2 := Lib.hid hx; have K2 := Lib.hid hk; clear hx hk
  go_wp2_with fail
  go_ret
  exact ⟨ret_bool (by rw [← K2.out]), X2.out⟩

theorem rights_calls (hR : RightOne) (l : List ActD) (ao : Option Addr) (cap : Nat) (w : World) (hl : l.length ≤ 1000000) (hok : ∀ a ∈ l, a.ok) (hr : Rows 4 encAct w.heap.size w ao l) :
    Calls Tryz.prog 128 #[.slice ao l.length cap] w fun e w' => e = .returned (.bool (rightsB l)) ∧ Ext w w' := by
  have HR := Lib.hid hr; have H0 := Lib.hid hok; have HF := Lib.hid hR
  clear hr hok hR
  by_cases h1 : 1 ≤ l.length
  · by_cases h6 : l.length ≤ 6
    · have g1 : decide ((1 : Int) ≤ l.length) = true := by simp; omega
      have g6 : decide ((l.length : Int) ≤ 6) = true := by simp; omega
      go_enter Tryz.func128, Tryz.ntmps128
      go_wp2_with fail
      refine (containsFunc_calls HF.out l ao cap _ hl H0.out HR.out).mono ?_
      rintro e w' ⟨rfl, hx⟩
      have X2 := Lib.hid hx; clear hx
      go_wp2_with fail
      go_ret
      exact ⟨ret_bool (by simp [rightsB, h1, h6]), X2.out⟩
    · have g1 : decide ((1 : Int) ≤ l.length) = true := by simp; omega
      have g6 : decide ((l.length : Int) ≤ 6) = false := by simp; omega
      go_enter Tryz.func128, Tryz.ntmps128
      go_wp2_with fail
      go_ret
      exact ⟨ret_bool (by simp [rightsB, h6]), Below.refl _ _⟩
  · have g1 : decide ((1 : Int) ≤ l.length) = false := by simp; omega
    go_enter Tryz.func128, Tryz.ntmps128
    go_wp2_with fail
    go_ret
    exact ⟨ret_bool (by simp [rightsB, h1]), Below.refl _ _⟩
end Go.Proofs.YtdmejbjpbjcfbaaGreatDoor
