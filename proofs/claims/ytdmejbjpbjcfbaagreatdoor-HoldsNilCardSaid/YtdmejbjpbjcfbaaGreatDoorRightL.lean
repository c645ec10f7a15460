/- The package act's right, Right. -/
import Derived.Test.YtdmejbjpbjcfbaaGreatDoorMem
import Derived.Test.YtdmejbjpbjcfbaaGreatDoorMaps
import Derived.Test.YtdmejbjpbjcfbaaGreatDoorTrim
import Derived.Test.YtdmejbjpbjcfbaaGreatDoorKey
import Derived.Deep.RegionHeld3
namespace Go.Proofs.YtdmejbjpbjcfbaaGreatDoor
open Go.RowKit
attribute [local go_sem] Instr.findNow Instr.sameNow

def pick3 (kd : Int) (v1 v2 v3 : Bool) : Bool := if kd = 1 then v1 else if kd = 2 then v2 else if kd = 3 then v3 else false
theorem zeroB (w : World) : (zeroValue 4).run Tryz.prog w = .ok (.bool false) w := by kernel_rfl
theorem look_of (W : World) (es : List MapEntry) (c : Nat) (kd : Int) (v1 v2 v3 : Bool) (h : ∀ kd, Instr.findNow (.int .u8) (.int .u8 kd) es 0 = some none ∧ pick3 kd v1 v2 v3 = false ∨ ∃ i, Instr.findNow (.int .u8) (.int .u8 kd) es 0 = some (some (i, .bool (pick3 kd v1 v2 v3)))) :
    (Instr.lookup 224 (.map (some W.heap.size)) (.int .u8 kd) false).run Tryz.prog (W.alloc (.map es.toArray c)).drew = .ok (.bool (pick3 kd v1 v2 v3)) (W.alloc (.map es.toArray c)).drew := by
  have hb : (W.alloc (.map es.toArray c)).drew.heap[W.heap.size]? = some (.map es.toArray c) := heap_alloc_new W _
  rcases h kd with ⟨h1, h2⟩ | ⟨i, h1⟩
  · have := run_lookup_miss (P := Tryz.prog) Tryz.underlying224 Tryz.underlying96 rfl hb (key := .int .u8 kd) (zeroB _) (by simpa using h1) false
    rw [h2]; simpa using this
  · have := run_lookup_hit (P := Tryz.prog) Tryz.underlying224 Tryz.underlying96 rfl hb (key := .int .u8 kd) (i := i) (v := .bool (pick3 kd v1 v2 v3)) (by simpa using h1) false
    simpa using this
theorem look123 (W : World) (kd : Int) (v1 v2 v3 : Bool) : (Instr.lookup 224 (.map (some W.heap.size)) (.int .u8 kd) false).run Tryz.prog (W.alloc (.map #[⟨.int .u8 1, .bool v1, 0⟩, ⟨.int .u8 2, .bool v2, 1⟩, ⟨.int .u8 3, .bool v3, 2⟩] 3)).drew = .ok (.bool (pick3 kd v1 v2 v3)) (W.alloc (.map #[⟨.int .u8 1, .bool v1, 0⟩, ⟨.int .u8 2, .bool v2, 1⟩, ⟨.int .u8 3, .bool v3, 2⟩] 3)).drew :=
  look_of W [⟨.int .u8 1, .bool v1, 0⟩, ⟨.int .u8 2, .bool v2, 1⟩, ⟨.int .u8 3, .bool v3, 2⟩] 3 kd v1 v2 v3 fun kd => by
    unfold pick3
    by_cases k1 : kd = 1
    · subst k1; exact .inr ⟨_, rfl⟩
    · by_cases k2 : kd = 2
      · subst k2; exact .inr ⟨_, rfl⟩
      · by_cases k3 : kd = 3
        · subst k3; exact .inr ⟨_, rfl⟩
        · have e1 : (kd == 1) = false := by simpa using k1
          have e2 : (kd == 2) = false := by simpa using k2
          have e3 : (kd == 3) = false := by simpa using k3
          exact .inl ⟨by simp [Instr.findNow, Instr.sameNow, e1, e2, e3], by simp [k1, k2, k3]⟩
theorem look132 (W : World) (kd : Int) (v1 v2 v3 : Bool) : (Instr.lookup 224 (.map (some W.heap.size)) (.int .u8 kd) false).run Tryz.prog (W.alloc (.map #[⟨.int .u8 1, .bool v1, 0⟩, ⟨.int .u8 3, .bool v3, 1⟩, ⟨.int .u8 2, .bool v2, 2⟩] 3)).drew = .ok (.bool (pick3 kd v1 v2 v3)) (W.alloc (.map #[⟨.int .u8 1, .bool v1, 0⟩, ⟨.int .u8 3, .bool v3, 1⟩, ⟨.int .u8 2, .bool v2, 2⟩] 3)).drew :=
  look_of W [⟨.int .u8 1, .bool v1, 0⟩, ⟨.int .u8 3, .bool v3, 1⟩, ⟨.int .u8 2, .bool v2, 2⟩] 3 kd v1 v2 v3 fun kd => by
    unfold pick3
    by_cases k1 : kd = 1
    · subst k1; exact .inr ⟨_, rfl⟩
    · by_cases k2 : kd = 2
      · subst k2; exact .inr ⟨_, rfl⟩
      · by_cases k3 : kd = 3
        · subst k3; exact .inr ⟨_, rfl⟩
        · have e1 : (kd == 1) = false := by simpa using k1
          have e2 : (kd == 2) = false := by simpa using k2
          have e3 : (kd == 3) = false := by simpa using k3
          exact .inl ⟨by simp [Instr.findNow, Instr.sameNow, e1, e2, e3], by simp [k1, k2, k3]⟩
theorem look213 (W : World) (kd : Int) (v1 v2 v3 : Bool) : (Instr.lookup 224 (.map (some W.heap.size)) (.int .u8 kd) false).run Tryz.prog (W.alloc (.map #[⟨.int .u8 2, .bool v2, 0⟩, ⟨.int .u8 1, .bool v1, 1⟩, ⟨.int .u8 3, .bool v3, 2⟩] 3)).drew = .ok (.bool (pick3 kd v1 v2 v3)) (W.alloc (.map #[⟨.int .u8 2, .bool v2, 0⟩, ⟨.int .u8 1, .bool v1, 1⟩, ⟨.int .u8 3, .bool v3, 2⟩] 3)).drew :=
  look_of W [⟨.int .u8 2, .bool v2, 0⟩, ⟨.int .u8 1, .bool v1, 1⟩, ⟨.int .u8 3, .bool v3, 2⟩] 3 kd v1 v2 v3 fun kd => by
    unfold pick3
    by_cases k1 : kd = 1
    · subst k1; exact .inr ⟨_, rfl⟩
    · by_cases k2 : kd = 2
      · subst k2; exact .inr ⟨_, rfl⟩
      · by_cases k3 : kd = 3
        · subst k3; exact .inr ⟨_, rfl⟩
        · have e1 : (kd == 1) = false := by simpa using k1
          have e2 : (kd == 2) = false := by simpa using k2
          have e3 : (kd == 3) = false := by simpa using k3
          exact .inl ⟨by simp [Instr.findNow, Instr.sameNow, e1, e2, e3], by simp [k1, k2, k3]⟩
theorem look231 (W : World) (kd : Int) (v1 v2 v3 : Bool) : (Instr.lookup 224 (.map (some W.heap.size)) (.int .u8 kd) false).run Tryz.prog (W.alloc (.map #[⟨.int .u8 2, .bool v2, 0⟩, ⟨.int .u8 3, .bool v3, 1⟩, ⟨.int .u8 1, .bool v1, 2⟩] 3)).drew = .ok (.bool (pick3 kd v1 v2 v3)) (W.alloc (.map #[⟨.int .u8 2, .bool v2, 0⟩, ⟨.int .u8 3, .bool v3, 1⟩, ⟨.int .u8 1, .bool v1, 2⟩] 3)).drew :=
  look_of W [⟨.int .u8 2, .bool v2, 0⟩, ⟨.int .u8 3, .bool v3, 1⟩, ⟨.int .u8 1, .bool v1, 2⟩] 3 kd v1 v2 v3 fun kd => by
    unfold pick3
    by_cases k1 : kd = 1
    · subst k1; exact .inr ⟨_, rfl⟩
    · by_cases k2 : kd = 2
      · subst k2; exact .inr ⟨_, rfl⟩
      · by_cases k3 : kd = 3
        · subst k3; exact .inr ⟨_, rfl⟩
        · have e1 : (kd == 1) = false := by simpa using k1
          have e2 : (kd == 2) = false := by simpa using k2
          have e3 : (kd == 3) = false := by simpa using k3
          exact .inl ⟨by simp [Instr.findNow, Instr.sameNow, e1, e2, e3], by simp [k1, k2, k3]⟩
theorem look312 (W : World) (kd : Int) (v1 v2 v3 : Bool) : (Instr.lookup 224 (.map (some W.heap.size)) (.int .u8 kd) false).run Tryz.prog (W.alloc (.map #[⟨.int .u8 3, .bool v3, 0⟩, ⟨.int .u8 1, .bool v1, 1⟩, ⟨.int .u8 2, .bool v2, 2⟩] 3)).drew = .ok (.bool (pick3 kd v1 v2 v3)) (W.alloc (.map #[⟨.int .u8 3, .bool v3, 0⟩, ⟨.int .u8 1, .bool v1, 1⟩, ⟨.int .u8 2, .bool v2, 2⟩] 3)).drew :=
  look_of W [⟨.int .u8 3, .bool v3, 0⟩, ⟨.int .u8 1, .bool v1, 1⟩, ⟨.int .u8 2, .bool v2, 2⟩] 3 kd v1 v2 v3 fun kd => by
    unfold pick3
    by_cases k1 : kd = 1
    · subst k1; exact .inr ⟨_, rfl⟩
    · by_cases k2 : kd = 2
      · subst k2; exact .inr ⟨_, rfl⟩
      · by_cases k3 : kd = 3
        · subst k3; exact .inr ⟨_, rfl⟩
        · have e1 : (kd == 1) = false := by simpa using k1
          have e2 : (kd == 2) = false := by simpa using k2
          have e3 : (kd == 3) = false := by simpa using k3
          exact .inl ⟨by simp [Instr.findNow, Instr.sameNow, e1, e2, e3], by simp [k1, k2, k3]⟩
theorem look321 (W : World) (kd : Int) (v1 v2 v3 : Bool) : (Instr.lookup 224 (.map (some W.heap.size)) (.int .u8 kd) false).run Tryz.prog (W.alloc (.map #[⟨.int .u8 3, .bool v3, 0⟩, ⟨.int .u8 2, .bool v2, 1⟩, ⟨.int .u8 1, .bool v1, 2⟩] 3)).drew = .ok (.bool (pick3 kd v1 v2 v3)) (W.alloc (.map #[⟨.int .u8 3, .bool v3, 0⟩, ⟨.int .u8 2, .bool v2, 1⟩, ⟨.int .u8 1, .bool v1, 2⟩] 3)).drew :=
  look_of W [⟨.int .u8 3, .bool v3, 0⟩, ⟨.int .u8 2, .bool v2, 1⟩, ⟨.int .u8 1, .bool v1, 2⟩] 3 kd v1 v2 v3 fun kd => by
    unfold pick3
    by_cases k1 : kd = 1
    · subst k1; exact .inr ⟨_, rfl⟩
    · by_cases k2 : kd = 2
      · subst k2; exact .inr ⟨_, rfl⟩
      · by_cases k3 : kd = 3
        · subst k3; exact .inr ⟨_, rfl⟩
        · have e1 : (kd == 1) = false := by simpa using k1
          have e2 : (kd == 2) = false := by simpa using k2
          have e3 : (kd == 3) = false := by simpa using k3
          exact .inl ⟨by simp [Instr.findNow, Instr.sameNow, e1, e2, e3], by simp [k1, k2, k3]⟩

theorem rightB_eq (kd : Int) (key val : ByteArray) (num : Int) : rightB ⟨kd, key, val, num⟩ = (keyL key.data.toList && pick3 kd (decide (val.data.toList = []) && (num == 0)) (decide (val.data.toList.length ≤ 20) && textL val.data.toList && (num == 0)) (decide (val.data.toList = []) && (num == cutI num))) := by
  unfold rightB kindB pick3
  congr 1

end Go.Proofs.YtdmejbjpbjcfbaaGreatDoor
