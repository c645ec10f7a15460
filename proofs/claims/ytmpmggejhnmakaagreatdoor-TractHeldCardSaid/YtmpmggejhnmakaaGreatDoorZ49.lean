/- tract: what awake's calls come to, as data. -/
import Derived.Test.YtmpmggejhnmakaaGreatDoorZ41
import Derived.Test.YtmpmggejhnmakaaGreatDoorZ44
import Derived.Test.YtmpmggejhnmakaaGreatDoorZ38
import Derived.Test.YtmpmggejhnmakaaGreatDoorZ48
namespace Go.Proofs.YtmpmggejhnmakaaGreatDoor
open Go.RowKit
def wA : ActD := ⟨3, ⟨#[107]⟩, noBytes, 5⟩
def wD0 : TrD := ⟨[], [], List.replicate 8 0, [st0], 0⟩
def wH : HoldD := ⟨⟨#[107]⟩, 1, 1, [wA], [⟨⟨#[107]⟩, false, noBytes⟩], true, ⟨#[53]⟩⟩
def wD1 : TrD := { wD0 with holds := [wH] }
def wD2 : TrD := ⟨[⟨⟨#[107]⟩, ⟨#[53]⟩⟩], [], [1, 0, 0, 0, 0, 0, 0, 0], [st0], 0⟩
def wD3 : TrD := { wD2 with parts := [⟨noBytes, ⟨#[107]⟩, 1, 1, 0⟩, ⟨⟨#[107]⟩, noBytes, 1, 2, 1⟩] }
def wL : List UInt8 := [1, 1, 107, 1, 53, 0, 1, 0, 0, 0, 0, 0, 0, 0]
theorem wPrep : prepD 1 1 1 [wA] wD0 = (0, wD1) := by kernel_rfl
theorem wFin : finD 1 1 true wD1 = wD2 := by kernel_rfl
theorem wFinE : finE 1 1 true wD1 = 0 := by kernel_rfl
theorem wCut : cutKs [⟨#[107]⟩, noBytes] = [[], [107]] := by
 have h : sortL (bytesL [⟨#[107]⟩, noBytes]) = [[], [107]] := by
  show sortL [[107], []] = _
  simp [sortL, List.mergeSort, List.MergeSort.Internal.splitInTwo]
 have h2 : Lib.compact ([[], [107]] : List (List UInt8)) = [[], [107]] := by kernel_rfl
 unfold cutKs
 rw [h]
 exact h2
theorem wNew : frzNew 1 1 ⟨#[107]⟩ noBytes st0 = wD3.parts := by
 show (cutD noBytes noBytes [⟨#[107]⟩, noBytes]).map _ = _
 unfold cutD
 rw [wCut]
 kernel_rfl
theorem wFrz : frzD 1 ⟨#[107]⟩ noBytes 1 wD2 = (wL, 0, wD3) := by
 have h : frzD 1 ⟨#[107]⟩ noBytes 1 wD2 = (tabW ⟨#[107]⟩ noBytes wD2, 0, { wD2 with parts := repD wD2.parts (frzNew 1 1 ⟨#[107]⟩ noBytes st0) 0 1 }) := by kernel_rfl
 have h2 : (tabW ⟨#[107]⟩ noBytes wD2, (0 : Int), ({ wD2 with parts := repD wD2.parts wD3.parts 0 1 } : TrD)) = (wL, 0, wD3) := by kernel_rfl
 rw [h, wNew]
 exact h2
theorem wLate : prepD 1 2 1 [wA] wD3 = (20, wD3) := by kernel_rfl
theorem wGood : GoodB ⟨false, wL⟩ [⟨⟨#[107]⟩, ⟨#[53]⟩⟩] [1, 0, 0, 0, 0, 0, 0, 0] ⟨false, []⟩ :=
 ⟨1, ⟨false, wL.drop 1⟩, ⟨false, wL.drop 6⟩, by kernel_rfl, rfl, fun k hk => by
  obtain rfl : k = 0 := by omega
  kernel_rfl, by kernel_rfl, by kernel_rfl, rfl, by kernel_rfl, rfl, by kernel_rfl⟩
end Go.Proofs.YtmpmggejhnmakaaGreatDoor
/- New of no share. -/
namespace Go.Proofs.YtmpmggejhnmakaaGreatDoor
open Go.RowKit
set_option maxRecDepth 100000 in
set_option maxHeartbeats 3200000 in
theorem rise0_calls (w : World) : Calls Tryz.prog 34 #[.slice none 0 0] w fun e w' => e = .returned (.bool true) ∧ Ext w w' := by
 go_enter Tryz.func34, Tryz.ntmps34
 go_wp2_with fail
 go_loopw [7] (fun i wr => i = .int .i64 0 ∧ wr = w) (fun i _ => 0)
 case atStart => exact ⟨rfl, rfl⟩
 case round =>
  obtain ⟨rfl, rfl⟩ := hrel
  go_wp2_with fail
  go_ret
  exact ⟨rfl, Below.refl _ _⟩
set_option maxRecDepth 100000 in
set_option maxHeartbeats 3200000 in
theorem newNone_calls (w : World) :
 Calls Tryz.prog 8 #[.slice none 0 0] w fun e w' => ∃ k : TrK, e = .returned (.pointer (some ⟨k.tb, 0, none⟩)) ∧ TrIs w' k ⟨[], [], List.replicate 8 0, [], 0⟩ ∧ (w.heap.size ≤ k.tb ∧ w.heap.size ≤ k.rb ∧ w.heap.size ≤ k.hb ∧ w.heap.size ≤ k.pb) ∧ (k.rv = .slice none 0 0 ∧ k.hv = .slice none 0 0 ∧ k.pv = .slice none 0 0) ∧ Ext w w' := by
 go_enter Tryz.func8, Tryz.ntmps8
 go_wp2_with fail
 refine (empty_calls _).mono ?_
 rintro e w1 ⟨rb, hb, pb, rfl, b1, b2, b3, l1, l2, l3, hx1⟩
 obtain ⟨w2, hw2⟩ : ∃ w2, w2 = w1.alloc (.cells #[.pointer (some ⟨rb, 0, none⟩), .pointer (some ⟨hb, 0, none⟩), .pointer (some ⟨pb, 0, none⟩), .slice none 0 0, .int .i64 0, .pointer none, .bool true] 86) := ⟨_, rfl⟩
 have x2 : Ext w1 w2 := by rw [hw2]; exact (Below.refl _ w1).alloc (Nat.le_refl _) _
 have bt : Blk w2 w1.heap.size [.pointer (some ⟨rb, 0, none⟩), .pointer (some ⟨hb, 0, none⟩), .pointer (some ⟨pb, 0, none⟩), .slice none 0 0, .int .i64 0, .pointer none, .bool true] 86 := by rw [hw2]; exact Blk.new w1 _ _
 have B1 := Lib.hid (b1.ext' x2); have B2 := Lib.hid (b2.ext' x2); have B3 := Lib.hid (b3.ext' x2); have BT := Lib.hid bt
 have X2 := Lib.hid (Ext.trans hx1 x2)
 have HS1 := Lib.hid hx1.size
 have W2 := Lib.hid hw2
 clear b1 b2 b3 hx1 x2 bt hw2
 go_upto_region 2 with fail
 rw [← W2.out]
 clear W2
 go_wp2_with fail
 have hs0 : w.heap.size ≤ w1.heap.size := HS1.out
 generalize w1.heap.size = tb at *
 go_loopw [11] (fun i wr => i = .int .i64 0 ∧ wr = w2) (fun i _ => 0)
 case atStart => exact ⟨rfl, rfl⟩
 case round =>
  obtain ⟨rfl, rfl⟩ := hrel
  have t3 := BT.out.cell 3
  simp only [List.getElem?_cons_zero, List.getElem?_cons_succ] at t3
  have RS := Lib.hid (fun W (hW : Ext wr W) => rise0_calls W)
  go_wp2_with fail
  refine (RS.out _ (Below.refl _ _)).mono ?_
  rintro e w8 ⟨rfl, hx8⟩
  have X8 := Lib.hid hx8
  clear hx8
  go_wp2_with fail
  go_ret
  exact ⟨⟨tb, rb, hb, pb, .slice none 0 0, .slice none 0 0, .slice none 0 0⟩, rfl, ⟨BT.out.ext' X8.out, rtabNew (B1.out.ext' X8.out), tabNew _ (B2.out.ext' X8.out), ptabNew (B3.out.ext' X8.out), World.ownsRow_nil _ _ _ _, by simp, by simp⟩, ⟨hs0, l1, l2, l3⟩, ⟨rfl, rfl, rfl⟩, Ext.trans X2.out X8.out⟩
end Go.Proofs.YtmpmggejhnmakaaGreatDoor
