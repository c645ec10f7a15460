/- slices.Sorted(slices.Values(keys)): the keys in their order, in a row of the call's own. -/
import Derived.Test.YtdmejbjpbjcfbaaGreatDoorShelf
import Derived.Test.YtdmejbjpbjcfbaaGreatDoorMem
import Derived.Test.YtdmejbjpbjcfbaaGreatDoorActDefs
import Derived.Shelf.SlIter.Sorted
import Derived.Ground.GgzProg
import Derived.RangeFuncBox
import Derived.RangeFuncLeaves
import Derived.Shelf.Abstract
import Derived.WalkKit
import Derived.OwnWalkIn
import Derived.TacticsInMore
import Derived.LoopNIn
import Derived.LoopIn
namespace Go.Proofs
open Go.RowKit Go.Maps Go.Sort Go.Shelf
def Tryz.apSeqZ_ren : Go.Shelf.Ren := ⟨fun | 11 => 153 | n => n, fun | 24 => 74 | 26 => 9 | 28 => 112 | 0 => 0 | 33 => 146 | 4 => 4 | n => n, fun | n => n⟩
theorem Tryz.apSeqZ : Go.Proofs.SlLaysZ.n11 Tryz.prog Tryz.apSeqZ_ren := {
  mixed := by kernel_rfl
  f11 := ⟨Tryz.f153.name, by decide, Tryz.func153.trans (congrArg some (by kernel_rfl))⟩
  t0 := Tryz.underlying0
  a0 := Tryz.isAgg0
  z0 := Tryz.sizeOf0
  v0 := Tryz.zeroValue0
  t24 := Tryz.underlying74
  a24 := Tryz.isAgg74
  z24 := Tryz.sizeOf74
  v24 := Tryz.zeroValue74
  t26 := Tryz.underlying9
  a26 := Tryz.isAgg9
  z26 := Tryz.sizeOf9
  v26 := Tryz.zeroValue9
  t28 := Tryz.underlying112
  a28 := Tryz.isAgg112
  z28 := Tryz.sizeOf112
  v28 := Tryz.zeroValue112
  i26 := by kernel_rfl }
end Go.Proofs
namespace Go.Proofs.YtdmejbjpbjcfbaaGreatDoor
open Go.RowKit Go.Maps Go.Sort Go.Shelf

attribute [local go_sem] Oper.semAt_some

/-- What an iterator gives to a caller whose state says that nothing that lay before has turned. -/
def GivesB (F : Fence) (n : Nat) (P : Program) (g : Nat) (lb : Array Value) (S : List (List UInt8) → Prop) (N : Nat) (w : World) : Prop :=
  ∀ (l : Nat) (J : List (List UInt8) → World → Prop) (W : World), Below w.heap.size w W → (∀ s W', J s W' → Below w.heap.size w W') →
    (∀ pre x W1, J pre W1 → pre.length < N → YieldAt F (n - 1) P l #[Go.Proofs.encStr x] W1 fun e W' => e = .returned (.bool true) ∧ J (pre ++ [x]) W' ∧ KeepsWalks W1 W') →
    J [] W →
    CallsIn F n P g (#[.func (.yield l) #[] #[]] ++ lb) W fun e W' => (∃ v, e = .returned v) ∧ ∃ xs, S xs ∧ J xs W'

set_option maxRecDepth 100000 in
set_option maxHeartbeats 2000000 in
/-- slices.Values' closure: the texts of a row, one behind the other. -/
theorem values1_gives (Bs : Nat) (ao : Option Addr) (cap : Nat) (zs : List (List UInt8)) (w : World) (hlen : zs.length ≤ 1000000) (hBs : Bs < w.heap.size)
    (hc : w.cell? ⟨Bs, 0, none⟩ = some (.slice ao zs.length cap)) (hr : zs ≠ [] → ∃ b off, ao = some ⟨b, off, none⟩ ∧ b < w.heap.size ∧ ∀ j x, zs[j]? = some x → w.cell? ⟨b, off + j, none⟩ = some (Go.Proofs.encStr x)) :
    GivesB Fence.wide 2 Tryz.prog 112 #[.pointer (some ⟨Bs, 0, none⟩)] (fun ys => ys = zs) zs.length w := fun l J W hW hJB hY h0 => by
  have hcW := (hW.cell (p := ⟨Bs, 0, none⟩) hBs).trans hc
  refine callsIn_of_wp Tryz.func112 rfl trivial ?_ rfl
  simp only [Tryz.ntmps112, List.size_toArray, List.length_cons, List.length_nil, Nat.reduceAdd, Nat.reduceSub, Array.replicate_succ, Array.replicate_zero, List.push_toArray, List.append_toArray, List.nil_append, List.cons_append]
  gi_wp2
  gi_loopw [7] (fun i wr => ∃ k : Nat, k ≤ zs.length ∧ i = .int .i64 k ∧ J (zs.take k) wr) (fun i _ => zs.length - (intOf i).toNat)
  case atStart => exact ⟨0, Nat.zero_le _, rfl, h0⟩
  case round =>
    obtain ⟨k, hk, rfl, hJs⟩ := hrel
    by_cases hlt : k < zs.length
    · obtain ⟨x, hx⟩ : ∃ x, zs[k]? = some x := ⟨_, List.getElem?_eq_getElem hlt⟩
      obtain ⟨b, off, rfl, hb, hcell⟩ := hr (by intro e; rw [e] at hlt; simp at hlt)
      have hcx := ((hJB _ _ hJs).cell (p := ⟨b, off + k, none⟩) hb).trans (hcell k x hx)
      have hsucc : zs.take (k + 1) = zs.take k ++ [x] := by rw [List.take_add_one, hx]; rfl
      obtain ⟨fn, tmps, assign, body, hy, hR⟩ := hY _ x wr hJs (by rw [List.length_take]; omega)
      have i0 : (0 : Int) ≤ (k : Int) := by omega
      have i1 : (k : Int) < (zs.length : Int) := by omega
      clear hcell
      gi_wp2
      refine hR.mono ?_
      rintro e W3 ⟨rfl, hJ3, hk3⟩
      gi_wp2
      go_roundw
      case rel => exact ⟨k + 1, by omega, by simp, by rw [hsucc]; exact hJ3⟩
      case measure => simp [intOf]; omega
    · obtain rfl : k = zs.length := by omega
      rw [List.take_length] at hJs
      gi_wp2
      go_end0
      exact ⟨⟨_, rfl⟩, zs, rfl, hJs⟩
set_option maxRecDepth 100000 in
set_option maxHeartbeats 2000000 in
/-- slices.AppendSeq(nil, seq): what the iterator gives, in that order, in a row of the call's own. -/
theorem appendSeq_calls (g : Nat) (lb : Array Value) (eg : ∀ args w, (callFunc g args).run Tryz.prog w = .ok (.enter g args) w)
    (S : List (List UInt8) → Prop) (N : Nat) (hN : N ≤ maxLen) (hNb : N * 16 ≤ 140737488355328) (w : World) (hseq : GivesB Fence.wide 2 Tryz.prog g lb S N w) :
    CallsIn Fence.wide 3 Tryz.prog 153 #[.slice none 0 0, .func (.func g) #[] lb] w fun e w' => ∃ (v : Value) (ss : List (List UInt8)), e = .returned v ∧ S ss ∧ w'.ownsRow w.heap.size 9 1 v ss.length (ss.map Go.Proofs.encStr) ∧ Below w.heap.size w w' := by
  refine callsIn_of_wp_marks Tryz.func153 rfl trivial ?_ rfl
  simp only [Tryz.ntmps153, List.size_toArray, List.length_cons, List.length_nil, Nat.reduceAdd, Nat.reduceSub, Array.replicate_succ, Array.replicate_zero, List.push_toArray, List.append_toArray, List.nil_append, List.cons_append]
  gi_wp2
  refine wpIn_rangeFunc ?_
  intro fn hfn
  obtain ⟨W0, hW0⟩ : ∃ W0, w.alloc (.cells #[.slice none 0 0] 74) = W0 := ⟨_, rfl⟩
  have hs0 : W0.heap.size = w.heap.size + 1 := by rw [← hW0]; simp
  have hv0 : W0.heap[w.heap.size]? = some (.cells #[.slice none 0 0] 74 (0, 0)) := by rw [← hW0]; exact World.alloc_heap_new w _
  have hb0 : Below w.heap.size w W0 := by rw [← hW0]; exact (Below.refl _ w).alloc (Nat.le_refl _) _
  rw [hW0]
  obtain ⟨W1, hW1⟩ : ∃ W1, (W0.alloc (.deferred (some []))).alloc (.loop (AnyZ.apRec Tryz.apSeqZ_ren fn (.func (.func g) #[] lb) w.heap.size W0.heap.size .ready none)) = W1 := ⟨_, rfl⟩
  have hold : ∀ k, k < W0.heap.size → W1.heap[k]? = W0.heap[k]? := fun k hk => by
    rw [← hW1]; exact (Below.heap_alloc _ _ k (by simp; omega)).trans (Below.heap_alloc _ _ k hk)
  have hb1 : Below w.heap.size w W1 := by rw [← hW1]; exact (hb0.alloc hb0.size _).alloc (by have := hb0.size; simp; omega) _
  have hs1 : W1.heap.size = W0.heap.size + 2 := by rw [← hW1]; simp
  have hM : AnyZ.ApAt Tryz.apSeqZ_ren w fn (.func (.func g) #[] lb) w.heap.size (W0.heap.size + 1) W0.heap.size [] W1 :=
    ⟨⟨_, (hold w.heap.size (by omega)).trans hv0, ⟨rfl, .inl ⟨rfl, rfl⟩⟩, by simp⟩,
     by rw [← hW1]; have := World.alloc_heap_new (W0.alloc (.deferred (some []))) (.loop (AnyZ.apRec Tryz.apSeqZ_ren fn (.func (.func g) #[] lb) w.heap.size W0.heap.size .ready none)); rwa [World.size_alloc] at this,
     by rw [← hW1]; exact (Below.heap_alloc _ _ _ (by simp)).trans (World.alloc_heap_new W0 _), hb1⟩
  refine ⟨W0.heap.size + 1, [{ target := .collected W0.heap.size, args := #[] }], W1, { target := .fn (.func g) lb, args := #[.func (.yield (W0.heap.size + 1)) #[] #[]] }, W1, g,
    #[.func (.yield (W0.heap.size + 1)) #[] #[]] ++ lb, W1, ?_, ?_, ?_, ?_, fun _ => (by decide), ?_⟩
  · rw [← hW1]; exact run_enterLoop_outer _ _ _ _ _
  · simp [resolve, go_sem]
  · intro f' hf'; trivial
  · simp [invoke, go_sem, eg]
  · refine (hseq (W0.heap.size + 1) (AnyZ.ApAt Tryz.apSeqZ_ren w fn (.func (.func g) #[] lb) w.heap.size (W0.heap.size + 1) W0.heap.size) W1 hb1 (fun s W' h => h.below)
      (fun pre x W hJ hl => AnyZ.apYield { Tryz.apSeqZ with } Fence.wide 1 w fn hfn _ w.heap.size (W0.heap.size + 1) W0.heap.size (by omega) (by omega) (by omega) (Nat.le_refl _) (by omega) N hN hNb pre x W hJ hl) hM).mono ?_
    rintro e W2 ⟨⟨v0, rfl⟩, ss, hS, h2⟩
    obtain ⟨v, hv, hrow, hnil⟩ := h2.box
    have hend := run_endLoop (P := Tryz.prog) h2.L (by simp [AnyZ.apRec])
    obtain ⟨W3, hW3⟩ : ∃ W3, W2.putObj (W0.heap.size + 1) (.loop { AnyZ.apRec Tryz.apSeqZ_ren fn (.func (.func g) #[] lb) w.heap.size W0.heap.size .ready none with state := .exhausted }) = W3 := ⟨_, rfl⟩
    rw [hW3] at hend
    have hg3 : W2.grownBy W3 (some (W0.heap.size + 1)) := by rw [← hW3]; exact grownBy_putObj_a _ _ _
    have hv3 : W3.heap[w.heap.size]? = some (.cells #[v] 74 (0, 0)) := by rw [← hW3]; exact (World.putObj_heap_other (by omega)).trans hv
    have hK3 : W3.heap[W0.heap.size]? = some (.deferred (some [])) := by rw [← hW3]; exact (World.putObj_heap_other (by omega)).trans h2.K
    have hrow3 := hrow.kept hg3 (ownsRow_ne_a hrow h2.L (fun cur e => by cases e))
    have hb3 : Below w.heap.size w W3 := h2.below.grown hg3 h2.below.size (fun k e => by cases e; omega)
    obtain ⟨hc3, hf3⟩ := cell_of_box_a hv3
    clear hW3
    refine ⟨none, W3, hend, ?_⟩
    gi_wp2
    rw [← hs0]
    refine ⟨by simp, .inl ⟨_, _, rfl, run_takeDeferred hK3, ?_⟩⟩
    exact ⟨_, results_tmp rfl _ _ _, v, ss, rfl, hS, hrow3.kept (grownBy_putObj_a _ _ _) (ownsRow_ne_a hrow3 hK3 (fun cur e => by cases e)), hb3.grown (grownBy_putObj_a _ _ _) hb3.size (fun k e => by cases e; omega)⟩

theorem collect_calls (g : Nat) (lb : Array Value) (eg : ∀ args w, (callFunc g args).run Tryz.prog w = .ok (.enter g args) w)
    (S : List (List UInt8) → Prop) (N : Nat) (hN : N ≤ maxLen) (hNb : N * 16 ≤ 140737488355328) (w : World) (hseq : GivesB Fence.wide 2 Tryz.prog g lb S N w) :
    Calls Tryz.prog 110 #[.func (.func g) #[] lb] w fun e w' => ∃ (v : Value) (ss : List (List UInt8)), e = .returned v ∧ S ss ∧ w'.ownsRow w.heap.size 9 1 v ss.length (ss.map Go.Proofs.encStr) ∧ Below w.heap.size w w' := by
  have HC := Lib.hid (callsIn_wide.1 (appendSeq_calls g lb eg S N hN hNb w hseq))
  clear hseq
  go_enter Tryz.func110, Tryz.ntmps110
  go_wp2_with fail
  refine HC.out.mono ?_
  rintro e w' ⟨v, ss, rfl, hS, hrow, hb⟩
  have H1 := Lib.hid hS; have H2 := Lib.hid hrow; have H3 := Lib.hid hb
  clear hS hrow hb
  go_wp2_with fail
  go_ret
  exact ⟨v, ss, rfl, H1.out, H2.out, H3.out⟩
end Go.Proofs.YtdmejbjpbjcfbaaGreatDoor
/- slices.Sorted at slices.Values: the texts of a row in their order, in a row of the call's own. -/
namespace Go.Proofs.YtdmejbjpbjcfbaaGreatDoor
open Go.RowKit Go.Maps Go.Sort Go.Shelf

/-- Texts in their order. -/
def sortL (zs : List (List UInt8)) : List (List UInt8) := zs.mergeSort (fun x y => decide (x ≤ y))
set_option maxRecDepth 100000 in
theorem sorted_calls (g : Nat) (lb : Array Value) (eg : ∀ args w, (callFunc g args).run Tryz.prog w = .ok (.enter g args) w)
    (zs : List (List UInt8)) (hN : zs.length ≤ 1000000) (w : World) (hseq : GivesB Fence.wide 2 Tryz.prog g lb (fun ss => ss = zs) zs.length w) :
    Calls Tryz.prog 54 #[.func (.func g) #[] lb] w fun e w' => ∃ v : Value, e = .returned v ∧ w'.ownsRow w.heap.size 9 1 v zs.length ((sortL zs).map Go.Proofs.encStr) ∧ Ext w w' := by
  have HC := Lib.hid (collect_calls g lb eg (fun ss => ss = zs) zs.length (by unfold maxLen; omega) (by omega) w hseq)
  clear hseq
  go_enter Tryz.func54, Tryz.ntmps54
  go_wp2_with fail
  refine HC.out.mono ?_
  rintro e W ⟨v, ss, rfl, rfl, hrow, hb⟩
  rcases hrow.2 with ⟨rfl, hz⟩ | ⟨gb, cap, cur, rfl, hbase, hgb, r1, r2, r3, r4⟩
  · have hss : ss = [] := List.eq_nil_of_length_eq_zero hz
    subst hss
    have H3 := Lib.hid hb; have H2 := Lib.hid hrow
    clear hb hrow hz HC
    go_wp2_with (go_at_call 111; refine (Tryz.slices_Sort_string_none none 0 W).mono ?_; rintro e w' ⟨rfl, rfl⟩)
    go_ret
    exact ⟨.slice none 0 0, rfl, by simpa [sortL] using H2.out, H3.out⟩
  · have hH : Holds Go.Proofs.encStr W gb 0 ss.toArray := holds_of_block hgb (by simpa using r4)
    have hgl : gb < W.heap.size := (Array.getElem?_eq_some_iff.1 hgb).1
    have cS := Tryz.slices_Sort_string gb 0 cap ss W hH hgl (by omega)
    have HS := Lib.hid cS; have H1 := Lib.hid hrow; have H2 := Lib.hid hgb; have H3 := Lib.hid hb; have H4 := Lib.hid r4
    clear cS hrow hgb hb r4 HC hH
    go_wp2_with fail
    refine HS.out.mono ?_
    rintro e w' ⟨rfl, nn, os, rfl⟩
    go_wp2_with fail
    go_ret
    exact ⟨_, rfl, ownsRow_sorted (by simp) hbase H2.out r1 r2 r3, H3.out.grown (grownBy_sorted _) H3.out.size (fun j hj => by cases hj; exact hbase)⟩

theorem values_calls (ao : Option Addr) (n c : Nat) (w : World) :
    Calls Tryz.prog 55 #[.slice ao n c] w fun e w' => e = .returned (.func (.func 112) #[] #[.pointer (some ⟨w.heap.size, 0, none⟩)]) ∧ w' = w.alloc (.cells #[.slice ao n c] 74) := by
  go_enter Tryz.func55, Tryz.ntmps55
  go_wp2_with fail
  go_ret
  exact ⟨rfl, rfl⟩

/-- The texts of a row, told by their bytes. -/
def bytesL (l : List ByteArray) : List (List UInt8) := l.map fun s => s.data.toList
theorem sortedOf_calls (l : List ByteArray) (ao : Option Addr) (cap : Nat) (w : World) (hl : l.length ≤ 1000000) (hr : Rows 1 encStr w.heap.size w ao l) :
    Calls Tryz.prog 54 #[.func (.func 112) #[] #[.pointer (some ⟨w.heap.size, 0, none⟩)]] (w.alloc (.cells #[.slice ao l.length cap] 74)) fun e w' => ∃ v : Value, e = .returned v ∧ w'.ownsRow w.heap.size 9 1 v l.length ((sortL (bytesL l)).map Go.Proofs.encStr) ∧ Ext (w.alloc (.cells #[.slice ao l.length cap] 74)) w' := by
  have hlen : (bytesL l).length = l.length := by simp [bytesL]
  have hx : Ext w (w.alloc (.cells #[.slice ao l.length cap] 74)) := (Below.refl _ w).alloc (Nat.le_refl _) _
  have hB := Blk.new w [.slice ao l.length cap] 74
  have hseq := values1_gives w.heap.size ao cap (bytesL l) (w.alloc (.cells #[.slice ao l.length cap] 74)) (by omega) hB.lt (by rw [hlen]; exact hB.cell 0) (by
    intro hne
    obtain ⟨b, off, rfl, hb, hc⟩ := hr (by intro e; subst e; exact hne rfl)
    refine ⟨b, off, rfl, by have := hx.size; omega, fun j x hj => ?_⟩
    unfold bytesL at hj
    rw [List.getElem?_map] at hj
    cases hlj : l[j]? with
    | none => rw [hlj] at hj; cases hj
    | some s =>
      rw [hlj] at hj
      have := Option.some.inj hj
      subst this
      have h := hc j s hlj 0 (.string s) rfl
      rw [Nat.mul_one, Nat.add_zero] at h
      exact (hx.cell (p := ⟨b, off + j, none⟩) hb).trans h)
  refine (sorted_calls _ _ (enters_of Tryz.func112 (by kernel_rfl) rfl) (bytesL l) (by omega) _ hseq).mono ?_
  rintro e w' ⟨v, he, ho, hx'⟩
  rw [hlen] at ho
  exact ⟨v, he, ownsRow_base_a ho (by simp), hx'⟩
end Go.Proofs.YtdmejbjpbjcfbaaGreatDoor
