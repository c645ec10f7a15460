/- markText: the mark of a place in a list; what a block of cells lets be stored. -/
import Derived.Test.YtdmejbjpbjcfbaaGreatDoorTrim
import Derived.Test.YtdmejbjpbjcfbaaGreatDoorMem
namespace Go.Proofs.YtdmejbjpbjcfbaaGreatDoor
open Go.RowKit

theorem run_eight_bytes (W : World) (x0 x1 x2 x3 x4 x5 x6 x7 : Int) : (convert 46 9 (.slice (some ⟨W.heap.size, 0, none⟩) 8 8)).run Tryz.prog (W.alloc (.cells #[.int .u8 x0, .int .u8 x1, .int .u8 x2, .int .u8 x3, .int .u8 x4, .int .u8 x5, .int .u8 x6, .int .u8 x7] 5)) = .ok (.string ⟨#[UInt8.ofNat x0.toNat, UInt8.ofNat x1.toNat, UInt8.ofNat x2.toNat, UInt8.ofNat x3.toNat, UInt8.ofNat x4.toNat, UInt8.ofNat x5.toNat, UInt8.ofNat x6.toNat, UInt8.ofNat x7.toNat]⟩) (W.alloc (.cells #[.int .u8 x0, .int .u8 x1, .int .u8 x2, .int .u8 x3, .int .u8 x4, .int .u8 x5, .int .u8 x6, .int .u8 x7] 5)) :=
  run_convert_bytes_arg (P := Tryz.prog) (w := W.alloc (.cells #[.int .u8 x0, .int .u8 x1, .int .u8 x2, .int .u8 x3, .int .u8 x4, .int .u8 x5, .int .u8 x6, .int .u8 x7] 5)) 46 5 Tryz.underlying46 Tryz.underlying5 W.heap.size 0 8 8 [x0, x1, x2, x3, x4, x5, x6, x7] rfl (fun i hi => by
    obtain rfl | rfl | rfl | rfl | rfl | rfl | rfl | rfl : i = 0 ∨ i = 1 ∨ i = 2 ∨ i = 3 ∨ i = 4 ∨ i = 5 ∨ i = 6 ∨ i = 7 := by omega
    all_goals simp) 9 Tryz.underlying9

/-- A place's mark as a text. -/
def markB (k i : Int) : ByteArray := ⟨#[35, UInt8.ofNat (k % 256).toNat, UInt8.ofNat (k / 256 % 256).toNat, UInt8.ofNat (k / 65536 % 256).toNat, 47, UInt8.ofNat (i % 256).toNat, UInt8.ofNat (i / 256 % 256).toNat, UInt8.ofNat (i / 65536 % 256).toNat]⟩
theorem markText_calls (k i : Int) (w : World) : Calls Tryz.prog 117 #[.int .i64 k, .int .i64 i] w fun e w' => e = .returned (.string (markB k i)) ∧ Ext w w' := by
  have hcv := run_eight_bytes
  go_enter Tryz.func117, Tryz.ntmps117
  go_wp2_with fail
  go_ret
  exact ⟨rfl, (Below.refl _ w).alloc (Nat.le_refl _) _⟩

/-- Block g holds n cells that may be written. -/
def Room (w : World) (g : Nat) (t : TypeId) (n : Nat) : Prop := ∃ cur : Array Value, w.heap[g]? = some (.cells cur t (0, 0)) ∧ cur.size = n
theorem Room.lt {w : World} {g : Nat} {t : TypeId} {n : Nat} (h : Room w g t n) : g < w.heap.size := by
  obtain ⟨cur, h, _⟩ := h; exact lt_of_block h
theorem Room.cell {w : World} {g : Nat} {t : TypeId} {n : Nat} (h : Room w g t n) (i : Nat) (hi : i < n) : ∃ u, w.cell? ⟨g, i, none⟩ = some u := by
  obtain ⟨cur, h, hs⟩ := h
  exact ⟨cur[i], by rw [cell_of_row w g i cur t _ h]; exact Array.getElem?_eq_getElem (by omega)⟩
theorem Room.free {w : World} {g : Nat} {t : TypeId} {n : Nat} (h : Room w g t n) (i : Nat) : w.frozen? ⟨g, i, none⟩ = false := by
  obtain ⟨cur, h, _⟩ := h; exact frozen_of_row w g i cur t h
theorem Room.set {w : World} {g : Nat} {t : TypeId} {n : Nat} (h : Room w g t n) (i : Nat) (v : Value) : Room (w.setCell ⟨g, i, none⟩ v) g t n := by
  obtain ⟨cur, h, hs⟩ := h
  exact ⟨_, heap_setCell_same w g i cur t v h, by simpa using hs⟩
theorem Room.ext {w w' : World} {g : Nat} {t : TypeId} {n : Nat} (h : Room w g t n) (hx : Ext w w') : Room w' g t n := by
  obtain ⟨cur, h, hs⟩ := h
  exact ⟨cur, (hx.block g (lt_of_block h)).trans h, hs⟩
theorem room_own {w : World} {B : Nat} {e : TypeId} {size g n cap : Nat} {xs : List Value} (h : w.ownsRow B e size (.slice (some ⟨g, 0, none⟩) n cap) n xs) : Room w g e (cap * size) ∧ n ≤ cap ∧ cap ≤ maxLen := by
  obtain ⟨_, h2⟩ := h
  rcases h2 with ⟨h, _⟩ | ⟨g', cap', cur, h, _, hg, hn, hm, hs, _⟩
  · cases h
  · simp only [Value.slice.injEq, Option.some.injEq, Addr.mk.injEq, and_true, true_and] at h
    obtain ⟨rfl, rfl⟩ := h
    exact ⟨⟨cur, hg, hs⟩, hn, hm⟩
/-- How a slice of an owned row is spelled. -/
theorem own_form {w : World} {B : Nat} {e : TypeId} {size n : Nat} {v : Value} {xs : List Value} (h : w.ownsRow B e size v n xs) : (v = .slice none 0 0 ∧ n = 0) ∨ ∃ g cap, v = .slice (some ⟨g, 0, none⟩) n cap := by
  obtain ⟨_, h2⟩ := h
  rcases h2 with ⟨rfl, h0⟩ | ⟨g, cap, cur, rfl, _⟩
  · exact .inl ⟨rfl, h0⟩
  · exact .inr ⟨g, cap, rfl⟩
end Go.Proofs.YtdmejbjpbjcfbaaGreatDoor
