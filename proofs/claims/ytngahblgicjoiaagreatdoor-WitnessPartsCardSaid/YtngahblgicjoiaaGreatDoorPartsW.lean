/- WitnessParts: what it is told of. -/
import Derived.Test.YtngahblgicjoiaaGreatDoorDoesAll
import Derived.Test.YtngahblgicjoiaaGreatDoorTellsW
namespace Go.Proofs.YtngahblgicjoiaaGreatDoor
open Go.RowKit

def actsP : List (List ActD) := [[], [⟨1, ⟨#[107]⟩, ⟨#[]⟩, 0⟩], [⟨2, ⟨#[107]⟩, ⟨#[55]⟩, 0⟩], [⟨3, ⟨#[107]⟩, ⟨#[]⟩, 2⟩], [⟨1, ⟨#[107]⟩, ⟨#[]⟩, 0⟩, ⟨2, ⟨#[97]⟩, ⟨#[120]⟩, 0⟩, ⟨3, ⟨#[107]⟩, ⟨#[]⟩, (-3)⟩, ⟨1, ⟨#[97]⟩, ⟨#[]⟩, 0⟩, ⟨1, ⟨#[107]⟩, ⟨#[]⟩, 0⟩], [⟨9, ⟨#[107]⟩, ⟨#[]⟩, 0⟩], [⟨1, ⟨#[75]⟩, ⟨#[]⟩, 0⟩]]
def tablesP : List (List RowD) := [[], [⟨⟨#[107]⟩, ⟨#[53]⟩⟩], [⟨⟨#[97]⟩, ⟨#[]⟩⟩, ⟨⟨#[107]⟩, ⟨#[45, 49]⟩⟩, ⟨⟨#[122]⟩, ⟨#[]⟩⟩], [⟨⟨#[107]⟩, ⟨#[]⟩⟩, ⟨⟨#[97]⟩, ⟨#[]⟩⟩], [⟨⟨#[107]⟩, ⟨#[49, 50, 51, 52, 53, 54, 55, 56, 57, 48, 49, 50, 51, 52, 53, 54, 55, 56, 57, 48, 49]⟩⟩]]
def timesP : List Int := [(-1), 0, 1, 2, 1073741824, 1073741825]
/-- The world behind the first three lines. -/
def partsW (w : World) : World := (((((((((((((w.alloc (.cells #[.int .u8 1, .string ⟨#[107]⟩, .string ⟨#[]⟩, .int .i64 0] 53)).alloc (.cells #[.int .u8 2, .string ⟨#[107]⟩, .string ⟨#[55]⟩, .int .i64 0] 53)).alloc (.cells #[.int .u8 3, .string ⟨#[107]⟩, .string ⟨#[]⟩, .int .i64 2] 53)).alloc (.cells #[.int .u8 1, .string ⟨#[107]⟩, .string ⟨#[]⟩, .int .i64 0, .int .u8 2, .string ⟨#[97]⟩, .string ⟨#[120]⟩, .int .i64 0, .int .u8 3, .string ⟨#[107]⟩, .string ⟨#[]⟩, .int .i64 (-3), .int .u8 1, .string ⟨#[97]⟩, .string ⟨#[]⟩, .int .i64 0, .int .u8 1, .string ⟨#[107]⟩, .string ⟨#[]⟩, .int .i64 0] 53)).alloc (.cells #[.int .u8 9, .string ⟨#[107]⟩, .string ⟨#[]⟩, .int .i64 0] 53)).alloc (.cells #[.int .u8 1, .string ⟨#[75]⟩, .string ⟨#[]⟩, .int .i64 0] 53)).alloc (.cells #[.slice none 0 0, .slice (some ⟨w.heap.size, 0, none⟩) 1 1, .slice (some ⟨w.heap.size + 1, 0, none⟩) 1 1, .slice (some ⟨w.heap.size + 1 + 1, 0, none⟩) 1 1, .slice (some ⟨w.heap.size + 1 + 1 + 1, 0, none⟩) 5 5, .slice (some ⟨w.heap.size + 1 + 1 + 1 + 1, 0, none⟩) 1 1, .slice (some ⟨w.heap.size + 1 + 1 + 1 + 1 + 1, 0, none⟩) 1 1] 35)).alloc (.cells #[.string ⟨#[107]⟩, .string ⟨#[53]⟩] 73)).alloc (.cells #[.string ⟨#[97]⟩, .string ⟨#[]⟩, .string ⟨#[107]⟩, .string ⟨#[45, 49]⟩, .string ⟨#[122]⟩, .string ⟨#[]⟩] 73)).alloc (.cells #[.string ⟨#[107]⟩, .string ⟨#[]⟩, .string ⟨#[97]⟩, .string ⟨#[]⟩] 73)).alloc (.cells #[.string ⟨#[107]⟩, .string ⟨#[49, 50, 51, 52, 53, 54, 55, 56, 57, 48, 49, 50, 51, 52, 53, 54, 55, 56, 57, 48, 49]⟩] 73)).alloc (.cells #[.slice none 0 0, .slice (some ⟨w.heap.size + 1 + 1 + 1 + 1 + 1 + 1 + 1, 0, none⟩) 1 1, .slice (some ⟨w.heap.size + 1 + 1 + 1 + 1 + 1 + 1 + 1 + 1, 0, none⟩) 3 3, .slice (some ⟨w.heap.size + 1 + 1 + 1 + 1 + 1 + 1 + 1 + 1 + 1, 0, none⟩) 2 2, .slice (some ⟨w.heap.size + 1 + 1 + 1 + 1 + 1 + 1 + 1 + 1 + 1 + 1, 0, none⟩) 1 1] 32)).alloc (.cells #[.int .i64 (-1), .int .i64 0, .int .i64 1, .int .i64 2, .int .i64 1073741824, .int .i64 1073741825] 3))
/-- What lies there. -/
structure PData (w : World) (A T C : Nat) : Prop where
  acts : ∀ (i : Nat) (l : List ActD), actsP[i]? = some l → ∃ ao, w.cell? ⟨A, i, none⟩ = some (.slice ao l.length l.length) ∧ Rows 4 encAct w.heap.size w ao l
  tables : ∀ (i : Nat) (l : List RowD), tablesP[i]? = some l → ∃ ao, w.cell? ⟨T, i, none⟩ = some (.slice ao l.length l.length) ∧ Rows 2 encRw w.heap.size w ao l
  times : ∀ (i : Nat) (t : Int), timesP[i]? = some t → w.cell? ⟨C, i, none⟩ = some (.int .i64 t)
  lt : A < w.heap.size ∧ T < w.heap.size ∧ C < w.heap.size
theorem PData.ext {w w' : World} {A T C : Nat} (h : PData w A T C) (hx : Ext w w') : PData w' A T C :=
  ⟨fun i l hi => by
    obtain ⟨ao, h1, h2⟩ := h.acts i l hi
    exact ⟨ao, (hx.cell (p := ⟨A, i, none⟩) h.lt.1).trans h1, (h2.ext hx).mono hx.size⟩, fun i l hi => by
    obtain ⟨ao, h1, h2⟩ := h.tables i l hi
    exact ⟨ao, (hx.cell (p := ⟨T, i, none⟩) h.lt.2.1).trans h1, (h2.ext hx).mono hx.size⟩, fun i t hi => (hx.cell (p := ⟨C, i, none⟩) h.lt.2.2).trans (h.times i t hi), by
    have := hx.size; have := h.lt; omega⟩
theorem pblk0 (w : World) : Blk (partsW w) (w.heap.size) [.int .u8 1, .string ⟨#[107]⟩, .string ⟨#[]⟩, .int .i64 0] 53 := by
  have h := Blk.new w [.int .u8 1, .string ⟨#[107]⟩, .string ⟨#[]⟩, .int .i64 0] 53
  exact ((((((((((((h.alloc _).alloc _).alloc _).alloc _).alloc _).alloc _).alloc _).alloc _).alloc _).alloc _).alloc _).alloc _)
theorem pblk1 (w : World) : Blk (partsW w) (w.heap.size + 1) [.int .u8 2, .string ⟨#[107]⟩, .string ⟨#[55]⟩, .int .i64 0] 53 := by
  have h := Blk.new (w.alloc (.cells #[.int .u8 1, .string ⟨#[107]⟩, .string ⟨#[]⟩, .int .i64 0] 53)) [.int .u8 2, .string ⟨#[107]⟩, .string ⟨#[55]⟩, .int .i64 0] 53
  simp only [World.size_alloc] at h
  exact (((((((((((h.alloc _).alloc _).alloc _).alloc _).alloc _).alloc _).alloc _).alloc _).alloc _).alloc _).alloc _)
theorem pblk2 (w : World) : Blk (partsW w) (w.heap.size + 1 + 1) [.int .u8 3, .string ⟨#[107]⟩, .string ⟨#[]⟩, .int .i64 2] 53 := by
  have h := Blk.new ((w.alloc (.cells #[.int .u8 1, .string ⟨#[107]⟩, .string ⟨#[]⟩, .int .i64 0] 53)).alloc (.cells #[.int .u8 2, .string ⟨#[107]⟩, .string ⟨#[55]⟩, .int .i64 0] 53)) [.int .u8 3, .string ⟨#[107]⟩, .string ⟨#[]⟩, .int .i64 2] 53
  simp only [World.size_alloc] at h
  exact ((((((((((h.alloc _).alloc _).alloc _).alloc _).alloc _).alloc _).alloc _).alloc _).alloc _).alloc _)
theorem pblk3 (w : World) : Blk (partsW w) (w.heap.size + 1 + 1 + 1) [.int .u8 1, .string ⟨#[107]⟩, .string ⟨#[]⟩, .int .i64 0, .int .u8 2, .string ⟨#[97]⟩, .string ⟨#[120]⟩, .int .i64 0, .int .u8 3, .string ⟨#[107]⟩, .string ⟨#[]⟩, .int .i64 (-3), .int .u8 1, .string ⟨#[97]⟩, .string ⟨#[]⟩, .int .i64 0, .int .u8 1, .string ⟨#[107]⟩, .string ⟨#[]⟩, .int .i64 0] 53 := by
  have h := Blk.new (((w.alloc (.cells #[.int .u8 1, .string ⟨#[107]⟩, .string ⟨#[]⟩, .int .i64 0] 53)).alloc (.cells #[.int .u8 2, .string ⟨#[107]⟩, .string ⟨#[55]⟩, .int .i64 0] 53)).alloc (.cells #[.int .u8 3, .string ⟨#[107]⟩, .string ⟨#[]⟩, .int .i64 2] 53)) [.int .u8 1, .string ⟨#[107]⟩, .string ⟨#[]⟩, .int .i64 0, .int .u8 2, .string ⟨#[97]⟩, .string ⟨#[120]⟩, .int .i64 0, .int .u8 3, .string ⟨#[107]⟩, .string ⟨#[]⟩, .int .i64 (-3), .int .u8 1, .string ⟨#[97]⟩, .string ⟨#[]⟩, .int .i64 0, .int .u8 1, .string ⟨#[107]⟩, .string ⟨#[]⟩, .int .i64 0] 53
  simp only [World.size_alloc] at h
  exact (((((((((h.alloc _).alloc _).alloc _).alloc _).alloc _).alloc _).alloc _).alloc _).alloc _)
theorem pblk4 (w : World) : Blk (partsW w) (w.heap.size + 1 + 1 + 1 + 1) [.int .u8 9, .string ⟨#[107]⟩, .string ⟨#[]⟩, .int .i64 0] 53 := by
  have h := Blk.new ((((w.alloc (.cells #[.int .u8 1, .string ⟨#[107]⟩, .string ⟨#[]⟩, .int .i64 0] 53)).alloc (.cells #[.int .u8 2, .string ⟨#[107]⟩, .string ⟨#[55]⟩, .int .i64 0] 53)).alloc (.cells #[.int .u8 3, .string ⟨#[107]⟩, .string ⟨#[]⟩, .int .i64 2] 53)).alloc (.cells #[.int .u8 1, .string ⟨#[107]⟩, .string ⟨#[]⟩, .int .i64 0, .int .u8 2, .string ⟨#[97]⟩, .string ⟨#[120]⟩, .int .i64 0, .int .u8 3, .string ⟨#[107]⟩, .string ⟨#[]⟩, .int .i64 (-3), .int .u8 1, .string ⟨#[97]⟩, .string ⟨#[]⟩, .int .i64 0, .int .u8 1, .string ⟨#[107]⟩, .string ⟨#[]⟩, .int .i64 0] 53)) [.int .u8 9, .string ⟨#[107]⟩, .string ⟨#[]⟩, .int .i64 0] 53
  simp only [World.size_alloc] at h
  exact ((((((((h.alloc _).alloc _).alloc _).alloc _).alloc _).alloc _).alloc _).alloc _)
theorem pblk5 (w : World) : Blk (partsW w) (w.heap.size + 1 + 1 + 1 + 1 + 1) [.int .u8 1, .string ⟨#[75]⟩, .string ⟨#[]⟩, .int .i64 0] 53 := by
  have h := Blk.new (((((w.alloc (.cells #[.int .u8 1, .string ⟨#[107]⟩, .string ⟨#[]⟩, .int .i64 0] 53)).alloc (.cells #[.int .u8 2, .string ⟨#[107]⟩, .string ⟨#[55]⟩, .int .i64 0] 53)).alloc (.cells #[.int .u8 3, .string ⟨#[107]⟩, .string ⟨#[]⟩, .int .i64 2] 53)).alloc (.cells #[.int .u8 1, .string ⟨#[107]⟩, .string ⟨#[]⟩, .int .i64 0, .int .u8 2, .string ⟨#[97]⟩, .string ⟨#[120]⟩, .int .i64 0, .int .u8 3, .string ⟨#[107]⟩, .string ⟨#[]⟩, .int .i64 (-3), .int .u8 1, .string ⟨#[97]⟩, .string ⟨#[]⟩, .int .i64 0, .int .u8 1, .string ⟨#[107]⟩, .string ⟨#[]⟩, .int .i64 0] 53)).alloc (.cells #[.int .u8 9, .string ⟨#[107]⟩, .string ⟨#[]⟩, .int .i64 0] 53)) [.int .u8 1, .string ⟨#[75]⟩, .string ⟨#[]⟩, .int .i64 0] 53
  simp only [World.size_alloc] at h
  exact (((((((h.alloc _).alloc _).alloc _).alloc _).alloc _).alloc _).alloc _)
theorem pblk6 (w : World) : Blk (partsW w) (w.heap.size + 1 + 1 + 1 + 1 + 1 + 1) [.slice none 0 0, .slice (some ⟨w.heap.size, 0, none⟩) 1 1, .slice (some ⟨w.heap.size + 1, 0, none⟩) 1 1, .slice (some ⟨w.heap.size + 1 + 1, 0, none⟩) 1 1, .slice (some ⟨w.heap.size + 1 + 1 + 1, 0, none⟩) 5 5, .slice (some ⟨w.heap.size + 1 + 1 + 1 + 1, 0, none⟩) 1 1, .slice (some ⟨w.heap.size + 1 + 1 + 1 + 1 + 1, 0, none⟩) 1 1] 35 := by
  have h := Blk.new ((((((w.alloc (.cells #[.int .u8 1, .string ⟨#[107]⟩, .string ⟨#[]⟩, .int .i64 0] 53)).alloc (.cells #[.int .u8 2, .string ⟨#[107]⟩, .string ⟨#[55]⟩, .int .i64 0] 53)).alloc (.cells #[.int .u8 3, .string ⟨#[107]⟩, .string ⟨#[]⟩, .int .i64 2] 53)).alloc (.cells #[.int .u8 1, .string ⟨#[107]⟩, .string ⟨#[]⟩, .int .i64 0, .int .u8 2, .string ⟨#[97]⟩, .string ⟨#[120]⟩, .int .i64 0, .int .u8 3, .string ⟨#[107]⟩, .string ⟨#[]⟩, .int .i64 (-3), .int .u8 1, .string ⟨#[97]⟩, .string ⟨#[]⟩, .int .i64 0, .int .u8 1, .string ⟨#[107]⟩, .string ⟨#[]⟩, .int .i64 0] 53)).alloc (.cells #[.int .u8 9, .string ⟨#[107]⟩, .string ⟨#[]⟩, .int .i64 0] 53)).alloc (.cells #[.int .u8 1, .string ⟨#[75]⟩, .string ⟨#[]⟩, .int .i64 0] 53)) [.slice none 0 0, .slice (some ⟨w.heap.size, 0, none⟩) 1 1, .slice (some ⟨w.heap.size + 1, 0, none⟩) 1 1, .slice (some ⟨w.heap.size + 1 + 1, 0, none⟩) 1 1, .slice (some ⟨w.heap.size + 1 + 1 + 1, 0, none⟩) 5 5, .slice (some ⟨w.heap.size + 1 + 1 + 1 + 1, 0, none⟩) 1 1, .slice (some ⟨w.heap.size + 1 + 1 + 1 + 1 + 1, 0, none⟩) 1 1] 35
  simp only [World.size_alloc] at h
  exact ((((((h.alloc _).alloc _).alloc _).alloc _).alloc _).alloc _)
theorem pblk7 (w : World) : Blk (partsW w) (w.heap.size + 1 + 1 + 1 + 1 + 1 + 1 + 1) [.string ⟨#[107]⟩, .string ⟨#[53]⟩] 73 := by
  have h := Blk.new (((((((w.alloc (.cells #[.int .u8 1, .string ⟨#[107]⟩, .string ⟨#[]⟩, .int .i64 0] 53)).alloc (.cells #[.int .u8 2, .string ⟨#[107]⟩, .string ⟨#[55]⟩, .int .i64 0] 53)).alloc (.cells #[.int .u8 3, .string ⟨#[107]⟩, .string ⟨#[]⟩, .int .i64 2] 53)).alloc (.cells #[.int .u8 1, .string ⟨#[107]⟩, .string ⟨#[]⟩, .int .i64 0, .int .u8 2, .string ⟨#[97]⟩, .string ⟨#[120]⟩, .int .i64 0, .int .u8 3, .string ⟨#[107]⟩, .string ⟨#[]⟩, .int .i64 (-3), .int .u8 1, .string ⟨#[97]⟩, .string ⟨#[]⟩, .int .i64 0, .int .u8 1, .string ⟨#[107]⟩, .string ⟨#[]⟩, .int .i64 0] 53)).alloc (.cells #[.int .u8 9, .string ⟨#[107]⟩, .string ⟨#[]⟩, .int .i64 0] 53)).alloc (.cells #[.int .u8 1, .string ⟨#[75]⟩, .string ⟨#[]⟩, .int .i64 0] 53)).alloc (.cells #[.slice none 0 0, .slice (some ⟨w.heap.size, 0, none⟩) 1 1, .slice (some ⟨w.heap.size + 1, 0, none⟩) 1 1, .slice (some ⟨w.heap.size + 1 + 1, 0, none⟩) 1 1, .slice (some ⟨w.heap.size + 1 + 1 + 1, 0, none⟩) 5 5, .slice (some ⟨w.heap.size + 1 + 1 + 1 + 1, 0, none⟩) 1 1, .slice (some ⟨w.heap.size + 1 + 1 + 1 + 1 + 1, 0, none⟩) 1 1] 35)) [.string ⟨#[107]⟩, .string ⟨#[53]⟩] 73
  simp only [World.size_alloc] at h
  exact (((((h.alloc _).alloc _).alloc _).alloc _).alloc _)
theorem pblk8 (w : World) : Blk (partsW w) (w.heap.size + 1 + 1 + 1 + 1 + 1 + 1 + 1 + 1) [.string ⟨#[97]⟩, .string ⟨#[]⟩, .string ⟨#[107]⟩, .string ⟨#[45, 49]⟩, .string ⟨#[122]⟩, .string ⟨#[]⟩] 73 := by
  have h := Blk.new ((((((((w.alloc (.cells #[.int .u8 1, .string ⟨#[107]⟩, .string ⟨#[]⟩, .int .i64 0] 53)).alloc (.cells #[.int .u8 2, .string ⟨#[107]⟩, .string ⟨#[55]⟩, .int .i64 0] 53)).alloc (.cells #[.int .u8 3, .string ⟨#[107]⟩, .string ⟨#[]⟩, .int .i64 2] 53)).alloc (.cells #[.int .u8 1, .string ⟨#[107]⟩, .string ⟨#[]⟩, .int .i64 0, .int .u8 2, .string ⟨#[97]⟩, .string ⟨#[120]⟩, .int .i64 0, .int .u8 3, .string ⟨#[107]⟩, .string ⟨#[]⟩, .int .i64 (-3), .int .u8 1, .string ⟨#[97]⟩, .string ⟨#[]⟩, .int .i64 0, .int .u8 1, .string ⟨#[107]⟩, .string ⟨#[]⟩, .int .i64 0] 53)).alloc (.cells #[.int .u8 9, .string ⟨#[107]⟩, .string ⟨#[]⟩, .int .i64 0] 53)).alloc (.cells #[.int .u8 1, .string ⟨#[75]⟩, .string ⟨#[]⟩, .int .i64 0] 53)).alloc (.cells #[.slice none 0 0, .slice (some ⟨w.heap.size, 0, none⟩) 1 1, .slice (some ⟨w.heap.size + 1, 0, none⟩) 1 1, .slice (some ⟨w.heap.size + 1 + 1, 0, none⟩) 1 1, .slice (some ⟨w.heap.size + 1 + 1 + 1, 0, none⟩) 5 5, .slice (some ⟨w.heap.size + 1 + 1 + 1 + 1, 0, none⟩) 1 1, .slice (some ⟨w.heap.size + 1 + 1 + 1 + 1 + 1, 0, none⟩) 1 1] 35)).alloc (.cells #[.string ⟨#[107]⟩, .string ⟨#[53]⟩] 73)) [.string ⟨#[97]⟩, .string ⟨#[]⟩, .string ⟨#[107]⟩, .string ⟨#[45, 49]⟩, .string ⟨#[122]⟩, .string ⟨#[]⟩] 73
  simp only [World.size_alloc] at h
  exact ((((h.alloc _).alloc _).alloc _).alloc _)
theorem pblk9 (w : World) : Blk (partsW w) (w.heap.size + 1 + 1 + 1 + 1 + 1 + 1 + 1 + 1 + 1) [.string ⟨#[107]⟩, .string ⟨#[]⟩, .string ⟨#[97]⟩, .string ⟨#[]⟩] 73 := by
  have h := Blk.new (((((((((w.alloc (.cells #[.int .u8 1, .string ⟨#[107]⟩, .string ⟨#[]⟩, .int .i64 0] 53)).alloc (.cells #[.int .u8 2, .string ⟨#[107]⟩, .string ⟨#[55]⟩, .int .i64 0] 53)).alloc (.cells #[.int .u8 3, .string ⟨#[107]⟩, .string ⟨#[]⟩, .int .i64 2] 53)).alloc (.cells #[.int .u8 1, .string ⟨#[107]⟩, .string ⟨#[]⟩, .int .i64 0, .int .u8 2, .string ⟨#[97]⟩, .string ⟨#[120]⟩, .int .i64 0, .int .u8 3, .string ⟨#[107]⟩, .string ⟨#[]⟩, .int .i64 (-3), .int .u8 1, .string ⟨#[97]⟩, .string ⟨#[]⟩, .int .i64 0, .int .u8 1, .string ⟨#[107]⟩, .string ⟨#[]⟩, .int .i64 0] 53)).alloc (.cells #[.int .u8 9, .string ⟨#[107]⟩, .string ⟨#[]⟩, .int .i64 0] 53)).alloc (.cells #[.int .u8 1, .string ⟨#[75]⟩, .string ⟨#[]⟩, .int .i64 0] 53)).alloc (.cells #[.slice none 0 0, .slice (some ⟨w.heap.size, 0, none⟩) 1 1, .slice (some ⟨w.heap.size + 1, 0, none⟩) 1 1, .slice (some ⟨w.heap.size + 1 + 1, 0, none⟩) 1 1, .slice (some ⟨w.heap.size + 1 + 1 + 1, 0, none⟩) 5 5, .slice (some ⟨w.heap.size + 1 + 1 + 1 + 1, 0, none⟩) 1 1, .slice (some ⟨w.heap.size + 1 + 1 + 1 + 1 + 1, 0, none⟩) 1 1] 35)).alloc (.cells #[.string ⟨#[107]⟩, .string ⟨#[53]⟩] 73)).alloc (.cells #[.string ⟨#[97]⟩, .string ⟨#[]⟩, .string ⟨#[107]⟩, .string ⟨#[45, 49]⟩, .string ⟨#[122]⟩, .string ⟨#[]⟩] 73)) [.string ⟨#[107]⟩, .string ⟨#[]⟩, .string ⟨#[97]⟩, .string ⟨#[]⟩] 73
  simp only [World.size_alloc] at h
  exact (((h.alloc _).alloc _).alloc _)
theorem pblk10 (w : World) : Blk (partsW w) (w.heap.size + 1 + 1 + 1 + 1 + 1 + 1 + 1 + 1 + 1 + 1) [.string ⟨#[107]⟩, .string ⟨#[49, 50, 51, 52, 53, 54, 55, 56, 57, 48, 49, 50, 51, 52, 53, 54, 55, 56, 57, 48, 49]⟩] 73 := by
  have h := Blk.new ((((((((((w.alloc (.cells #[.int .u8 1, .string ⟨#[107]⟩, .string ⟨#[]⟩, .int .i64 0] 53)).alloc (.cells #[.int .u8 2, .string ⟨#[107]⟩, .string ⟨#[55]⟩, .int .i64 0] 53)).alloc (.cells #[.int .u8 3, .string ⟨#[107]⟩, .string ⟨#[]⟩, .int .i64 2] 53)).alloc (.cells #[.int .u8 1, .string ⟨#[107]⟩, .string ⟨#[]⟩, .int .i64 0, .int .u8 2, .string ⟨#[97]⟩, .string ⟨#[120]⟩, .int .i64 0, .int .u8 3, .string ⟨#[107]⟩, .string ⟨#[]⟩, .int .i64 (-3), .int .u8 1, .string ⟨#[97]⟩, .string ⟨#[]⟩, .int .i64 0, .int .u8 1, .string ⟨#[107]⟩, .string ⟨#[]⟩, .int .i64 0] 53)).alloc (.cells #[.int .u8 9, .string ⟨#[107]⟩, .string ⟨#[]⟩, .int .i64 0] 53)).alloc (.cells #[.int .u8 1, .string ⟨#[75]⟩, .string ⟨#[]⟩, .int .i64 0] 53)).alloc (.cells #[.slice none 0 0, .slice (some ⟨w.heap.size, 0, none⟩) 1 1, .slice (some ⟨w.heap.size + 1, 0, none⟩) 1 1, .slice (some ⟨w.heap.size + 1 + 1, 0, none⟩) 1 1, .slice (some ⟨w.heap.size + 1 + 1 + 1, 0, none⟩) 5 5, .slice (some ⟨w.heap.size + 1 + 1 + 1 + 1, 0, none⟩) 1 1, .slice (some ⟨w.heap.size + 1 + 1 + 1 + 1 + 1, 0, none⟩) 1 1] 35)).alloc (.cells #[.string ⟨#[107]⟩, .string ⟨#[53]⟩] 73)).alloc (.cells #[.string ⟨#[97]⟩, .string ⟨#[]⟩, .string ⟨#[107]⟩, .string ⟨#[45, 49]⟩, .string ⟨#[122]⟩, .string ⟨#[]⟩] 73)).alloc (.cells #[.string ⟨#[107]⟩, .string ⟨#[]⟩, .string ⟨#[97]⟩, .string ⟨#[]⟩] 73)) [.string ⟨#[107]⟩, .string ⟨#[49, 50, 51, 52, 53, 54, 55, 56, 57, 48, 49, 50, 51, 52, 53, 54, 55, 56, 57, 48, 49]⟩] 73
  simp only [World.size_alloc] at h
  exact ((h.alloc _).alloc _)
theorem pblk11 (w : World) : Blk (partsW w) (w.heap.size + 1 + 1 + 1 + 1 + 1 + 1 + 1 + 1 + 1 + 1 + 1) [.slice none 0 0, .slice (some ⟨w.heap.size + 1 + 1 + 1 + 1 + 1 + 1 + 1, 0, none⟩) 1 1, .slice (some ⟨w.heap.size + 1 + 1 + 1 + 1 + 1 + 1 + 1 + 1, 0, none⟩) 3 3, .slice (some ⟨w.heap.size + 1 + 1 + 1 + 1 + 1 + 1 + 1 + 1 + 1, 0, none⟩) 2 2, .slice (some ⟨w.heap.size + 1 + 1 + 1 + 1 + 1 + 1 + 1 + 1 + 1 + 1, 0, none⟩) 1 1] 32 := by
  have h := Blk.new (((((((((((w.alloc (.cells #[.int .u8 1, .string ⟨#[107]⟩, .string ⟨#[]⟩, .int .i64 0] 53)).alloc (.cells #[.int .u8 2, .string ⟨#[107]⟩, .string ⟨#[55]⟩, .int .i64 0] 53)).alloc (.cells #[.int .u8 3, .string ⟨#[107]⟩, .string ⟨#[]⟩, .int .i64 2] 53)).alloc (.cells #[.int .u8 1, .string ⟨#[107]⟩, .string ⟨#[]⟩, .int .i64 0, .int .u8 2, .string ⟨#[97]⟩, .string ⟨#[120]⟩, .int .i64 0, .int .u8 3, .string ⟨#[107]⟩, .string ⟨#[]⟩, .int .i64 (-3), .int .u8 1, .string ⟨#[97]⟩, .string ⟨#[]⟩, .int .i64 0, .int .u8 1, .string ⟨#[107]⟩, .string ⟨#[]⟩, .int .i64 0] 53)).alloc (.cells #[.int .u8 9, .string ⟨#[107]⟩, .string ⟨#[]⟩, .int .i64 0] 53)).alloc (.cells #[.int .u8 1, .string ⟨#[75]⟩, .string ⟨#[]⟩, .int .i64 0] 53)).alloc (.cells #[.slice none 0 0, .slice (some ⟨w.heap.size, 0, none⟩) 1 1, .slice (some ⟨w.heap.size + 1, 0, none⟩) 1 1, .slice (some ⟨w.heap.size + 1 + 1, 0, none⟩) 1 1, .slice (some ⟨w.heap.size + 1 + 1 + 1, 0, none⟩) 5 5, .slice (some ⟨w.heap.size + 1 + 1 + 1 + 1, 0, none⟩) 1 1, .slice (some ⟨w.heap.size + 1 + 1 + 1 + 1 + 1, 0, none⟩) 1 1] 35)).alloc (.cells #[.string ⟨#[107]⟩, .string ⟨#[53]⟩] 73)).alloc (.cells #[.string ⟨#[97]⟩, .string ⟨#[]⟩, .string ⟨#[107]⟩, .string ⟨#[45, 49]⟩, .string ⟨#[122]⟩, .string ⟨#[]⟩] 73)).alloc (.cells #[.string ⟨#[107]⟩, .string ⟨#[]⟩, .string ⟨#[97]⟩, .string ⟨#[]⟩] 73)).alloc (.cells #[.string ⟨#[107]⟩, .string ⟨#[49, 50, 51, 52, 53, 54, 55, 56, 57, 48, 49, 50, 51, 52, 53, 54, 55, 56, 57, 48, 49]⟩] 73)) [.slice none 0 0, .slice (some ⟨w.heap.size + 1 + 1 + 1 + 1 + 1 + 1 + 1, 0, none⟩) 1 1, .slice (some ⟨w.heap.size + 1 + 1 + 1 + 1 + 1 + 1 + 1 + 1, 0, none⟩) 3 3, .slice (some ⟨w.heap.size + 1 + 1 + 1 + 1 + 1 + 1 + 1 + 1 + 1, 0, none⟩) 2 2, .slice (some ⟨w.heap.size + 1 + 1 + 1 + 1 + 1 + 1 + 1 + 1 + 1 + 1, 0, none⟩) 1 1] 32
  simp only [World.size_alloc] at h
  exact (h.alloc _)
theorem pblk12 (w : World) : Blk (partsW w) (w.heap.size + 1 + 1 + 1 + 1 + 1 + 1 + 1 + 1 + 1 + 1 + 1 + 1) [.int .i64 (-1), .int .i64 0, .int .i64 1, .int .i64 2, .int .i64 1073741824, .int .i64 1073741825] 3 := by
  have h := Blk.new ((((((((((((w.alloc (.cells #[.int .u8 1, .string ⟨#[107]⟩, .string ⟨#[]⟩, .int .i64 0] 53)).alloc (.cells #[.int .u8 2, .string ⟨#[107]⟩, .string ⟨#[55]⟩, .int .i64 0] 53)).alloc (.cells #[.int .u8 3, .string ⟨#[107]⟩, .string ⟨#[]⟩, .int .i64 2] 53)).alloc (.cells #[.int .u8 1, .string ⟨#[107]⟩, .string ⟨#[]⟩, .int .i64 0, .int .u8 2, .string ⟨#[97]⟩, .string ⟨#[120]⟩, .int .i64 0, .int .u8 3, .string ⟨#[107]⟩, .string ⟨#[]⟩, .int .i64 (-3), .int .u8 1, .string ⟨#[97]⟩, .string ⟨#[]⟩, .int .i64 0, .int .u8 1, .string ⟨#[107]⟩, .string ⟨#[]⟩, .int .i64 0] 53)).alloc (.cells #[.int .u8 9, .string ⟨#[107]⟩, .string ⟨#[]⟩, .int .i64 0] 53)).alloc (.cells #[.int .u8 1, .string ⟨#[75]⟩, .string ⟨#[]⟩, .int .i64 0] 53)).alloc (.cells #[.slice none 0 0, .slice (some ⟨w.heap.size, 0, none⟩) 1 1, .slice (some ⟨w.heap.size + 1, 0, none⟩) 1 1, .slice (some ⟨w.heap.size + 1 + 1, 0, none⟩) 1 1, .slice (some ⟨w.heap.size + 1 + 1 + 1, 0, none⟩) 5 5, .slice (some ⟨w.heap.size + 1 + 1 + 1 + 1, 0, none⟩) 1 1, .slice (some ⟨w.heap.size + 1 + 1 + 1 + 1 + 1, 0, none⟩) 1 1] 35)).alloc (.cells #[.string ⟨#[107]⟩, .string ⟨#[53]⟩] 73)).alloc (.cells #[.string ⟨#[97]⟩, .string ⟨#[]⟩, .string ⟨#[107]⟩, .string ⟨#[45, 49]⟩, .string ⟨#[122]⟩, .string ⟨#[]⟩] 73)).alloc (.cells #[.string ⟨#[107]⟩, .string ⟨#[]⟩, .string ⟨#[97]⟩, .string ⟨#[]⟩] 73)).alloc (.cells #[.string ⟨#[107]⟩, .string ⟨#[49, 50, 51, 52, 53, 54, 55, 56, 57, 48, 49, 50, 51, 52, 53, 54, 55, 56, 57, 48, 49]⟩] 73)).alloc (.cells #[.slice none 0 0, .slice (some ⟨w.heap.size + 1 + 1 + 1 + 1 + 1 + 1 + 1, 0, none⟩) 1 1, .slice (some ⟨w.heap.size + 1 + 1 + 1 + 1 + 1 + 1 + 1 + 1, 0, none⟩) 3 3, .slice (some ⟨w.heap.size + 1 + 1 + 1 + 1 + 1 + 1 + 1 + 1 + 1, 0, none⟩) 2 2, .slice (some ⟨w.heap.size + 1 + 1 + 1 + 1 + 1 + 1 + 1 + 1 + 1 + 1, 0, none⟩) 1 1] 32)) [.int .i64 (-1), .int .i64 0, .int .i64 1, .int .i64 2, .int .i64 1073741824, .int .i64 1073741825] 3
  simp only [World.size_alloc] at h
  exact h
theorem partsW_ext (w : World) : Ext w (partsW w) := by
  unfold partsW
  refine ((((((((((((((Below.refl _ w).alloc (by simp <;> omega) _).alloc (by simp <;> omega) _).alloc (by simp <;> omega) _).alloc (by simp <;> omega) _).alloc (by simp <;> omega) _).alloc (by simp <;> omega) _).alloc (by simp <;> omega) _).alloc (by simp <;> omega) _).alloc (by simp <;> omega) _).alloc (by simp <;> omega) _).alloc (by simp <;> omega) _).alloc (by simp <;> omega) _).alloc (by simp <;> omega) _)
theorem parts_data (w : World) : PData (partsW w) (w.heap.size + 1 + 1 + 1 + 1 + 1 + 1) (w.heap.size + 1 + 1 + 1 + 1 + 1 + 1 + 1 + 1 + 1 + 1 + 1) (w.heap.size + 1 + 1 + 1 + 1 + 1 + 1 + 1 + 1 + 1 + 1 + 1 + 1) where
  acts := fun i l h => by
    match i, h with
    | 0, h => obtain rfl := Option.some.inj h; exact ⟨none, (pblk6 w).cell 0, fun h => absurd rfl h⟩
    | 1, h => obtain rfl := Option.some.inj h; exact ⟨some ⟨w.heap.size, 0, none⟩, (pblk6 w).cell 1, rows_blk (enc := encAct) (sz := 4) (fun _ => rfl) (pblk0 w) (by decide)⟩
    | 2, h => obtain rfl := Option.some.inj h; exact ⟨some ⟨w.heap.size + 1, 0, none⟩, (pblk6 w).cell 2, rows_blk (enc := encAct) (sz := 4) (fun _ => rfl) (pblk1 w) (by decide)⟩
    | 3, h => obtain rfl := Option.some.inj h; exact ⟨some ⟨w.heap.size + 1 + 1, 0, none⟩, (pblk6 w).cell 3, rows_blk (enc := encAct) (sz := 4) (fun _ => rfl) (pblk2 w) (by decide)⟩
    | 4, h => obtain rfl := Option.some.inj h; exact ⟨some ⟨w.heap.size + 1 + 1 + 1, 0, none⟩, (pblk6 w).cell 4, rows_blk (enc := encAct) (sz := 4) (fun _ => rfl) (pblk3 w) (by decide)⟩
    | 5, h => obtain rfl := Option.some.inj h; exact ⟨some ⟨w.heap.size + 1 + 1 + 1 + 1, 0, none⟩, (pblk6 w).cell 5, rows_blk (enc := encAct) (sz := 4) (fun _ => rfl) (pblk4 w) (by decide)⟩
    | 6, h => obtain rfl := Option.some.inj h; exact ⟨some ⟨w.heap.size + 1 + 1 + 1 + 1 + 1, 0, none⟩, (pblk6 w).cell 6, rows_blk (enc := encAct) (sz := 4) (fun _ => rfl) (pblk5 w) (by decide)⟩
  tables := fun i l h => by
    match i, h with
    | 0, h => obtain rfl := Option.some.inj h; exact ⟨none, (pblk11 w).cell 0, fun h => absurd rfl h⟩
    | 1, h => obtain rfl := Option.some.inj h; exact ⟨some ⟨w.heap.size + 1 + 1 + 1 + 1 + 1 + 1 + 1, 0, none⟩, (pblk11 w).cell 1, rows_blk (enc := encRw) (sz := 2) (fun _ => rfl) (pblk7 w) (by decide)⟩
    | 2, h => obtain rfl := Option.some.inj h; exact ⟨some ⟨w.heap.size + 1 + 1 + 1 + 1 + 1 + 1 + 1 + 1, 0, none⟩, (pblk11 w).cell 2, rows_blk (enc := encRw) (sz := 2) (fun _ => rfl) (pblk8 w) (by decide)⟩
    | 3, h => obtain rfl := Option.some.inj h; exact ⟨some ⟨w.heap.size + 1 + 1 + 1 + 1 + 1 + 1 + 1 + 1 + 1, 0, none⟩, (pblk11 w).cell 3, rows_blk (enc := encRw) (sz := 2) (fun _ => rfl) (pblk9 w) (by decide)⟩
    | 4, h => obtain rfl := Option.some.inj h; exact ⟨some ⟨w.heap.size + 1 + 1 + 1 + 1 + 1 + 1 + 1 + 1 + 1 + 1, 0, none⟩, (pblk11 w).cell 4, rows_blk (enc := encRw) (sz := 2) (fun _ => rfl) (pblk10 w) (by decide)⟩
  times := fun i l h => by
    match i, h with
    | 0, h => obtain rfl := Option.some.inj h; exact (pblk12 w).cell 0
    | 1, h => obtain rfl := Option.some.inj h; exact (pblk12 w).cell 1
    | 2, h => obtain rfl := Option.some.inj h; exact (pblk12 w).cell 2
    | 3, h => obtain rfl := Option.some.inj h; exact (pblk12 w).cell 3
    | 4, h => obtain rfl := Option.some.inj h; exact (pblk12 w).cell 4
    | 5, h => obtain rfl := Option.some.inj h; exact (pblk12 w).cell 5
  lt := ⟨(pblk6 w).lt, (pblk11 w).lt, (pblk12 w).lt⟩
def stepP (la : List ActD) (rs : List Rd) (ca an : Int) : StepD := ⟨1, 1, la, rs, ca, an⟩
theorem actsP_ok : (actsP.all fun la => la.all fun a => decide (0 ≤ a.kind) && decide (a.kind ≤ 255) && decide (a.key.size ≤ 100) && decide (a.value.size ≤ 100) && decide (-100 ≤ a.num) && decide (a.num ≤ 100)) = true := by decide +kernel
theorem tablesP_ok : (tablesP.all fun l => l.all fun r => decide (r.key.size ≤ 100) && decide (r.value.size ≤ 100)) = true := by decide +kernel
/-- Reads that are short. -/
def Rd.short (r : Rd) : Prop := r.key.size ≤ 100 ∧ r.value.size ≤ 100
theorem St.step_short {s : St} {a : ActD} (hs : ∀ r ∈ s.reads, r.short) (hv : s.value.size ≤ 20) (hk : a.key.size ≤ 20) : ∀ r ∈ (s.step a).reads, r.short := by
  have hg : ∀ r ∈ (s.get a.key).reads, r.short := fun r hr => by
    unfold St.get at hr
    rcases List.mem_append.1 hr with h | h
    · exact hs r h
    · rw [List.mem_singleton] at h
      subst h
      exact ⟨by show a.key.size ≤ 100; omega, by show s.value.size ≤ 100; omega⟩
  unfold St.step
  split
  · exact hg
  · split
    · exact hs
    · split
      · exact hg
      · exact hs
theorem St.after_short : ∀ (l : List ActD) {s : St}, (∀ r ∈ s.reads, r.short) → s.value.size ≤ 20 → (∀ a ∈ l, rightB a = true ∧ a.key.size ≤ 20) → ∀ r ∈ (s.after l).reads, r.short
  | [], _, hs, _, _ => hs
  | a :: l, s, hs, hv, h => by
    have := St.after_short l (St.step_short hs hv (h a (by simp)).2) (St.step_20 hv (h a (by simp)).1) (fun x hx => h x (by simp [hx]))
    unfold St.after at *
    exact this
theorem tell_short : ∀ (acts : List ActD) (p : List Rd × Told), (∀ r ∈ p.1, r.short) → (∀ x, ∀ r ∈ p.2 x, r.short) → ∀ r ∈ (acts.foldl tellAct p).1, r.short
  | [], _, h1, _ => h1
  | a :: l, p, h1, h2 => by
    rw [List.foldl_cons]
    refine tell_short l _ ?_ ?_
    · unfold tellAct
      split
      · exact h1
      · intro r hr
        rcases List.mem_append.1 hr with h | h
        · exact h1 r h
        · cases hc : p.2 (keyT a) with
          | nil => rw [hc] at h; simp at h
          | cons y ys =>
            rw [hc] at h
            simp at h
            subst h
            exact h2 (keyT a) r (by rw [hc]; simp)
    · unfold tellAct
      split
      · exact h2
      · intro x r hr
        simp only at hr
        split at hr
        · exact h2 x r (List.mem_of_mem_tail hr)
        · exact h2 x r hr
theorem doS_short {rows : List RowD} {x : StepD} : ∀ r ∈ (doS rows x).2, r.short := by
  unfold doS
  split
  · rename_i h
    have hS := (soundB_iff _).1 h.2
    have hr := rightS_kinds h.1
    have hra := rightsB_all (rightS_acts h.1)
    refine tell_short _ _ (fun r hr => by cases hr) (fun k r hr2 => ?_)
    rw [doneK_told hS.1] at hr2
    split at hr2
    · unfold keySt at hr2
      refine St.after_short _ (s := St.begin _ _) (fun r hr => by cases hr) ?_ (fun a ha => ?_) r hr2
      · unfold St.begin
        simp only
        split
        · exact getR_20 hS.2 _
        · exact Nat.zero_le _
      · have hm := (List.mem_filter.1 ha).1
        exact ⟨hra a hm, (hr.2.2 a hm).2⟩
    · cases hr2
  · intro r hr
    cases hr
theorem actsP_each {la : List ActD} {i : Nat} (h : actsP[i]? = some la) : (∀ a ∈ la, a.ok) ∧ la.length ≤ 5 := by
  have h1 := List.all_eq_true.1 actsP_ok la (List.mem_of_getElem? h)
  refine ⟨fun a ha => ?_, ?_⟩
  · have h2 := List.all_eq_true.1 h1 a ha
    simp only [Bool.and_eq_true, decide_eq_true_eq] at h2
    exact ⟨h2.1.1.1.1.1, h2.1.1.1.1.2, by omega, by omega, by omega, by omega⟩
  · have h3 : (actsP.all fun l => decide (l.length ≤ 5)) = true := by decide +kernel
    exact of_decide_eq_true (List.all_eq_true.1 h3 la (List.mem_of_getElem? h))
theorem tablesP_each {l : List RowD} {i : Nat} (h : tablesP[i]? = some l) : (∀ r ∈ l, r.ok) ∧ l.length ≤ 3 := by
  have h1 := List.all_eq_true.1 tablesP_ok l (List.mem_of_getElem? h)
  refine ⟨fun r hr => ?_, ?_⟩
  · have h2 := List.all_eq_true.1 h1 r hr
    simp only [Bool.and_eq_true, decide_eq_true_eq] at h2
    exact ⟨by omega, by omega⟩
  · have h3 : (tablesP.all fun l => decide (l.length ≤ 3)) = true := by decide +kernel
    exact of_decide_eq_true (List.all_eq_true.1 h3 l (List.mem_of_getElem? h))
theorem stepP_small {la : List ActD} {i : Nat} (h : actsP[i]? = some la) {rs : List Rd} (hr : ∀ r ∈ rs, r.key.size ≤ 100 ∧ r.value.size ≤ 100) (hl : rs.length ≤ 5) {ca an : Int} (h1 : i64B ca) (h2 : i64B an) : (stepP la rs ca an).small := by
  have ha := actsP_each h
  exact ⟨ha.1, fun r hh => by have := hr r hh; exact ⟨by omega, by omega⟩, ⟨by show (-9223372036854775808 : Int) ≤ 1; decide, by show (1 : Int) ≤ _; decide⟩, ⟨by show (-9223372036854775808 : Int) ≤ 1; decide, by show (1 : Int) ≤ _; decide⟩, h1, h2, by have := ha.2; show la.length ≤ _; omega, by show rs.length ≤ _; omega⟩
theorem readsP_each {la : List ActD} {lt : List RowD} {i k : Nat} (h : actsP[i]? = some la) (hk : tablesP[k]? = some lt) : (∀ r ∈ (doS lt (stepP la [] 0 0)).2, r.key.size ≤ 100 ∧ r.value.size ≤ 100) ∧ (doS lt (stepP la [] 0 0)).2.length ≤ 5 := by
  refine ⟨fun r hr => doS_short r hr, ?_⟩
  · have ha := actsP_each h
    have hok := (stepP_small h (rs := []) (fun r hr => by cases hr) (by simp) (ca := 0) (an := 0) ⟨by decide, by decide⟩ ⟨by decide, by decide⟩).ok (by show la.length ≤ _; omega) (by simp [stepP])
    have := (doS_few hok (tablesP_each hk).1).2.2
    exact Nat.le_trans this ha.2
end Go.Proofs.YtngahblgicjoiaaGreatDoor
/- WitnessParts: the walk. -/
namespace Go.Proofs.YtngahblgicjoiaaGreatDoor
open Go.RowKit

theorem steps_blk {W : World} {p : Nat} {l : List StepZ} (hb : Blk W p (l.flatMap encStep) 38) (hl : l.length ≤ 1000) (hz : ∀ z ∈ l, z.at W.heap.size W) : StepsAt W (some ⟨p, 0, none⟩) l :=
  ⟨rows_blk (enc := encStep) (sz := 6) (fun _ => rfl) hb hl, hz⟩
theorem tellsB_calls {W : World} {p cap : Nat} {l : List StepZ} (hb : Blk W p (l.flatMap encStep) 38) (hl : l.length ≤ 1000) (hz : ∀ z ∈ l, z.at W.heap.size W) (hs : ∀ z ∈ l, z.d.small) (hlv : LV W.heap.size W) :
    Calls Tryz.prog 6 #[.slice (some ⟨p, 0, none⟩) l.length cap] W fun e w' => e = .returned (.bool true) ∧ Ext W w' := tellsW_calls l _ cap W (by omega) (steps_blk hb hl hz) hs hlv
theorem ordersB_calls {W : World} {p cap : Nat} {l : List StepZ} (hb : Blk W p (l.flatMap encStep) 38) (hl : l.length ≤ 1000) (hz : ∀ z ∈ l, z.at W.heap.size W) (hs : ∀ z ∈ l, z.d.small) (hlv : LV W.heap.size W) :
    Calls Tryz.prog 3 #[.slice (some ⟨p, 0, none⟩) l.length cap] W fun e w' => e = .returned (.bool true) ∧ Ext W w' := ordersW_calls l _ cap W (by omega) (steps_blk hb hl hz) hs hlv
theorem i64_small {n : Int} (h : -1000 ≤ n ∧ n ≤ 1000) : i64B n := ⟨by omega, by omega⟩
theorem putOf_small {c : Int} {k v : ByteArray} (hc : -1000 ≤ c ∧ c ≤ 1000) (hk : k.size ≤ 100) (hv : v.size ≤ 100) : (putOf c k v).small := by
  refine ⟨fun a ha => ?_, (fun r hr => by cases hr), i64_small hc, i64_small (n := 1) (by omega), i64_small (n := 0) (by omega), i64_small (n := 0) (by omega), by show ([_] : List ActD).length ≤ _; simp, by show ([] : List Rd).length ≤ _; simp⟩
  simp only [putOf, List.mem_singleton] at ha
  subst ha
  exact ⟨by show (0 : Int) ≤ 2; omega, by show (2 : Int) ≤ 255; omega, by show k.size ≤ _; omega, by show v.size ≤ _; omega, by show _ ≤ (0 : Int); omega, by show (0 : Int) ≤ _; omega⟩
theorem getOf_small {c : Int} {k v : ByteArray} (hc : -1000 ≤ c ∧ c ≤ 1000) (hk : k.size ≤ 100) (hv : v.size ≤ 100) : (getOf c k v).small := by
  refine ⟨fun a ha => ?_, fun r hr => ?_, i64_small hc, i64_small (n := 1) (by omega), i64_small (n := 0) (by omega), i64_small (n := 0) (by omega), by show ([_] : List ActD).length ≤ _; simp, by show ([_] : List Rd).length ≤ _; simp⟩
  · simp only [getOf, List.mem_singleton] at ha
    subst ha
    exact ⟨by show (0 : Int) ≤ 1; omega, by show (1 : Int) ≤ 255; omega, by show k.size ≤ _; omega, by show (0 : Nat) ≤ _; omega, by show _ ≤ (0 : Int); omega, by show (0 : Int) ≤ _; omega⟩
  · simp only [getOf, List.mem_singleton] at hr
    subst hr
    exact ⟨by show k.size ≤ _; omega, by show v.size ≤ _; omega⟩
theorem times_each {t : Int} {i : Nat} (h : timesP[i]? = some t) : i64B t := by
  have h1 : (timesP.all fun t => decide (-1000 ≤ t) && decide (t ≤ 2147483648)) = true := by decide +kernel
  have h2 := List.all_eq_true.1 h1 t (List.mem_of_getElem? h)
  simp only [Bool.and_eq_true, decide_eq_true_eq] at h2
  exact ⟨by omega, by omega⟩
theorem StepD.small.times {d : StepD} (h : d.small) {ca an : Int} (h1 : i64B ca) (h2 : i64B an) : (⟨d.cl, d.nm, d.acts, d.reads, ca, an⟩ : StepD).small := ⟨h.acts, h.reads, h.cl, h.nm, h1, h2, h.al, h.rl⟩
theorem own_one {W : World} {p : Nat} {z : StepZ} (hb : Blk W p (([z] : List StepZ).flatMap encStep) 38) : W.ownsRow 0 38 6 (.slice (some ⟨p, 0, none⟩) 1 1) [z].length (([z] : List StepZ).flatMap encStep) :=
  own_of_blk hb rfl (Nat.le_refl _) (by decide) rfl
theorem exec_add_w {o : Oper} {a : Act} (s x : Operand)
    (ho : o.op = .call { callee := .builtin .append, args := #[s, x], argTypes := #[22, 22] })
    {base W : World} {acc l : List StepZ} {v : Value} {xo : Option Addr} {c : Nat} (hs : a.eval s = v) (hx : a.eval x = .slice xo l.length c)
    (hown : W.ownsRow 0 38 6 v acc.length (acc.flatMap encStep)) (hnew : ∀ j, v.ownBlock = some j → base.heap.size ≤ j) (hext : Ext base W) (hr : Rows 6 encStep W.heap.size W xo l) (hlen : acc.length + l.length ≤ 1000) (m : List StepZ) (hm : acc ++ l = m) :
    ∃ so c' w', (execOp a.eval o).run Tryz.prog W = .ok (.value (.slice so m.length c')) w' ∧ w'.ownsRow 0 38 6 (.slice so m.length c') m.length (m.flatMap encStep) ∧ (∀ j, (Value.slice so m.length c').ownBlock = some j → base.heap.size ≤ j) ∧ Ext base w' := by
  obtain ⟨i0, hi, hz0, hz1, hz2⟩ := info_parts infoStep
  obtain ⟨v', w', h0, h1, h2, h3⟩ := exec_append_rows (P := Tryz.prog) (enc := encStep) (size := 6) (fun _ => rfl) one_step (o := o) (a := a) s x 22 ho 38 i0 _ 80 Tryz.underlying22 hi hz0 hz1 hz2 rfl (by decide) v acc.length (acc.flatMap encStep) hs hown xo l c hx hr (by unfold maxLen; omega) (by omega)
  have h4 : w'.ownsRow 0 38 6 v' m.length (m.flatMap encStep) := by
    rw [← hm, List.length_append, List.flatMap_append]; exact h1
  obtain ⟨so, c', rfl, hc, -, -⟩ := Rows.own (enc := encStep) (sz := 6) (fun _ => rfl) h4
  refine ⟨so, c', w', h0, h4, fun j e => ?_, ?_⟩
  · rcases h3 j e with e | e
    · exact hnew j e
    · exact Nat.le_trans hext.size e
  · exact Below.trans hext (h2.below hext.size (fun i e => hnew i e))
theorem step_add_w {ops : Array Oper} {o : Oper} {a : Act} {K : Act → World → Prop} {Q : Exit → Act → World → Prop} {E : Prop} (hw : Region.wanted o (yielded ops a.tmps) = true) (s x : Operand)
    (ho : o.op = .call { callee := .builtin .append, args := #[s, x], argTypes := #[22, 22] })
    {base W : World} {acc l : List StepZ} {v : Value} {xo : Option Addr} {c : Nat} (hs : a.eval s = v) (hx : a.eval x = .slice xo l.length c)
    (hown : W.ownsRow 0 38 6 v acc.length (acc.flatMap encStep)) (hnew : ∀ j, v.ownBlock = some j → base.heap.size ≤ j) (hext : Ext base W) (hr : Rows 6 encStep W.heap.size W xo l) (hlen : acc.length + l.length ≤ 1000) (m : List StepZ) (hm : acc ++ l = m)
    (h : ∀ so c' w', w'.ownsRow 0 38 6 (.slice so m.length c') m.length (m.flatMap encStep) → (∀ j, (Value.slice so m.length c').ownBlock = some j → base.heap.size ≤ j) → Ext base w' → K (a.put o.dst (.slice so m.length c')) w') :
    if Region.wanted o (yielded ops a.tmps) = true then Oper.wp Tryz.prog o a W K Q else E := by
  obtain ⟨so, c', w', h0, h1, h2, h3⟩ := exec_add_w s x ho hs hx hown hnew hext hr hlen m hm
  rw [if_pos hw]
  unfold Oper.wp
  rw [h0]
  exact h so c' w' h1 h2 h3
theorem wpList_add_w {ops : Array Oper} {rest : List Oper} {o : Oper} {a : Act} {Q : Exit → Act → World → Prop} {W : World} (hw : Region.wanted o (yielded ops a.tmps) = true) (s x : Operand)
    (ho : o.op = .call { callee := .builtin .append, args := #[s, x], argTypes := #[22, 22] })
    {base : World} {acc l : List StepZ} {v : Value} {xo : Option Addr} {c : Nat} (hs : a.eval s = v) (hx : a.eval x = .slice xo l.length c)
    (hown : W.ownsRow 0 38 6 v acc.length (acc.flatMap encStep)) (hnew : ∀ j, v.ownBlock = some j → base.heap.size ≤ j) (hext : Ext base W) (hr : Rows 6 encStep W.heap.size W xo l) (hlen : acc.length + l.length ≤ 1000) (m : List StepZ) (hm : acc ++ l = m)
    (h : ∀ so c' w', w'.ownsRow 0 38 6 (.slice so m.length c') m.length (m.flatMap encStep) → (∀ j, (Value.slice so m.length c').ownBlock = some j → base.heap.size ≤ j) → Ext base w' → wpList Tryz.prog ops Q rest (a.put o.dst (.slice so m.length c')) w') : wpList Tryz.prog ops Q (o :: rest) a W := by
  obtain ⟨so, c', w', h0, h1, h2, h3⟩ := exec_add_w s x ho hs hx hown hnew hext hr hlen m hm
  show (if Region.wanted o (yielded ops a.tmps) = true then _ else _)
  rw [if_pos hw]
  left
  unfold Oper.wp
  rw [h0]
  exact h so c' w' h1 h2 h3
theorem wrap_i64 {n : Int} (h0 : 0 ≤ n) (h1 : n < 2 ^ 63) : IntKind.i64.wrap n = n := by
  have e : n % 2 ^ 64 = n := Int.emod_eq_of_lt h0 (by omega)
  simp only [IntKind.wrap, IntKind.bits, IntKind.signed, Bool.true_and, e]
  rw [if_neg (by simp; omega)]
theorem strs_at (k : Nat) (h : k < 7) : ∃ s : ByteArray, s.size ≤ 100 ∧ ([.string ⟨#[]⟩, .string ⟨#[50]⟩, .string ⟨#[52]⟩, .string ⟨#[54]⟩, .string ⟨#[56]⟩, .string ⟨#[49, 48]⟩, .string ⟨#[49, 50]⟩] : List Value)[k]? = some (.string s) :=
  match k, h with
  | 0, _ => ⟨⟨#[]⟩, by decide, rfl⟩
  | 1, _ => ⟨⟨#[50]⟩, by decide, rfl⟩
  | 2, _ => ⟨⟨#[52]⟩, by decide, rfl⟩
  | 3, _ => ⟨⟨#[54]⟩, by decide, rfl⟩
  | 4, _ => ⟨⟨#[56]⟩, by decide, rfl⟩
  | 5, _ => ⟨⟨#[49, 48]⟩, by decide, rfl⟩
  | 6, _ => ⟨⟨#[49, 50]⟩, by decide, rfl⟩
def l3 : List ActD := [⟨3, ⟨#[107]⟩, ⟨#[]⟩, 2⟩]
def l2 : List ActD := [⟨2, ⟨#[107]⟩, ⟨#[55]⟩, 0⟩]
def manyD (n : Nat) : List StepD := (List.range n).map fun (i : Nat) => ⟨1, (i : Int) + 1, l2, [], 0, 0⟩
theorem fit_many : fitD (manyD 8) = (8, 0) ∧ (timeD (manyD 8)).1 = -1 := by decide +kernel
theorem order_many : (orderD (manyD 8)).isSome = true ∧ ((orderD (manyD 8)).getD []).length = 8 := by
  have h : (orderD (manyD 8)).isSome = true := by
    unfold orderD
    rw [if_neg (by decide)]
    exact order_there fit_many.1 (by rw [fit_many.2]; decide)
  refine ⟨h, ?_⟩
  obtain ⟨a, ha⟩ := Option.isSome_iff_exists.1 h
  rw [ha]
  unfold orderD at ha
  rw [if_neg (by decide)] at ha
  exact (order_fits ha).1.length_eq
theorem order_none : orderD (manyD 9) = none := by
  unfold orderD
  rw [if_pos (by decide)]
/-- Steps of the many. -/
def ManyZ (a2 : Option Addr) (l : List StepZ) : Prop := ∀ z ∈ l, ∃ nm : Int, z = ⟨⟨1, nm, l2, [], 0, 0⟩, a2, 1, none, 0⟩ ∧ 0 ≤ nm ∧ nm ≤ 100
theorem many_next {l : List StepZ} {a2 : Option Addr} {k : Nat} (h : l.map (·.d) = manyD k) : (l ++ [(⟨⟨1, (k : Int) + 1, l2, [], 0, 0⟩, a2, 1, none, 0⟩ : StepZ)]).map (·.d) = manyD (k + 1) := by
  unfold manyD at *
  rw [List.map_append, h, List.range_succ, List.map_append]
  rfl
set_option maxRecDepth 100000 in
set_option maxHeartbeats 12800000 in
theorem partsW_calls (w : World) (hlv : LV w.heap.size w) :
    Calls Tryz.prog 8 #[] w fun e w' => e = .returned (.bool true) ∧ Ext w w' := by
  have HLV := Lib.hid hlv
  have LVX := Lib.hid (fun W (hW : Ext w W) => (HLV.out.below hW).up hW.size)
  have AW := Lib.hid (fun W (hW : Ext w W) => awake_calls W (LVX.out W hW))
  obtain ⟨A, hA⟩ : ∃ A, A = w.heap.size + 1 + 1 + 1 + 1 + 1 + 1 := ⟨_, rfl⟩
  obtain ⟨T, hT⟩ : ∃ T, T = w.heap.size + 1 + 1 + 1 + 1 + 1 + 1 + 1 + 1 + 1 + 1 + 1 := ⟨_, rfl⟩
  obtain ⟨C, hC⟩ : ∃ C, C = w.heap.size + 1 + 1 + 1 + 1 + 1 + 1 + 1 + 1 + 1 + 1 + 1 + 1 := ⟨_, rfl⟩
  obtain ⟨wE, hE⟩ : ∃ wE, wE = partsW w := ⟨_, rfl⟩
  have PD : Hid (PData wE A T C) := Lib.hid (by rw [hE, hA, hT, hC]; exact parts_data w)
  have XE : Hid (Ext w wE) := Lib.hid (by rw [hE]; exact partsW_ext w)
  unfold partsW at hE
  have HE := Lib.hid hE; have HA := Lib.hid hA; have HT := Lib.hid hT; have HC := Lib.hid hC
  clear hlv hA hT hC hE
  go_enter Tryz.func8, Tryz.ntmps8
  go_wp2_with fail
  rw [← HE.out, ← HC.out, ← HT.out, ← HA.out]
  clear HE HC HT HA
  go_loopw [4] (fun i wr => ∃ k : Nat, k ≤ 7 ∧ i = .int .i64 k ∧ Ext wE wr) (fun i _ => 7 - (intOf i).toNat)
  case atStart => exact ⟨0, by omega, rfl, Below.refl _ _⟩
  case round =>
    obtain ⟨i, hi, rfl, hx⟩ := hrel
    have K1 := Lib.hid hx
    clear hx
    by_cases hlt : i < 7
    · obtain ⟨la, hla⟩ : ∃ la, actsP[i]? = some la := ⟨_, List.getElem?_eq_getElem (by simpa [actsP] using hlt)⟩
      obtain ⟨ao, hac, har⟩ := PD.out.acts i la hla
      have LA := Lib.hid hla; have AC := Lib.hid (fun W (hW : Ext wE W) => (hW.cell (p := ⟨A, i, none⟩) PD.out.lt.1).trans hac); have AR := Lib.hid (fun W (hW : Ext wE W) => (har.ext hW).mono hW.size)
      have i0 : (0 : Int) ≤ (i : Int) := by omega
      have i1 : (i : Int) < 7 := by omega
      clear hla hac har
      go_wp2_with fail
      go_loopw [5] (fun j wr => ∃ k : Nat, k ≤ 5 ∧ j = .int .i64 k ∧ Ext wE wr) (fun j _ => 5 - (intOf j).toNat)
      case atStart => exact ⟨0, by omega, rfl, K1.out⟩
      case round =>
        obtain ⟨k, hk, rfl, hx⟩ := hrel
        have K2 := Lib.hid hx
        clear hx
        by_cases hkt : k < 5
        · obtain ⟨lt, hlt2⟩ : ∃ lt, tablesP[k]? = some lt := ⟨_, List.getElem?_eq_getElem (by simpa [tablesP] using hkt)⟩
          obtain ⟨to_, htc, htr⟩ := PD.out.tables k lt hlt2
          have LT := Lib.hid hlt2; have TC := Lib.hid (fun W (hW : Ext wE W) => (hW.cell (p := ⟨T, k, none⟩) PD.out.lt.2.1).trans htc); have TR := Lib.hid (fun W (hW : Ext wE W) => (htr.ext hW).mono hW.size)
          have ac := AC.out wr K2.out
          have k0 : (0 : Int) ≤ (k : Int) := by omega
          have k1 : (k : Int) < 5 := by omega
          clear hlt2 htc htr
          go_upto_region 11 with fail
          clear ac
          obtain ⟨xp, hxp⟩ : ∃ xp, xp = wr.heap.size := ⟨_, rfl⟩
          obtain ⟨wx, hwx⟩ : ∃ wx, wx = wr.alloc (.cells #[.int .i64 1, .int .i64 1, .slice ao la.length la.length, .slice none 0 0, .int .i64 0, .int .i64 0] 38) := ⟨_, rfl⟩
          have bx : Blk wx xp [.int .i64 1, .int .i64 1, .slice ao la.length la.length, .slice none 0 0, .int .i64 0, .int .i64 0] 38 := by rw [hwx, hxp]; exact Blk.new wr _ _
          have BX := Lib.hid bx
          have X1 : Hid (Ext wE wx) := Lib.hid (Ext.trans K2.out (by rw [hwx]; exact (Below.refl _ wr).alloc (Nat.le_refl _) _))
          have XR : Hid (Ext wr wx) := Lib.hid (by rw [hwx]; exact (Below.refl _ wr).alloc (Nat.le_refl _) _)
          rw [← hwx, ← hxp]
          have HXP := Lib.hid hxp
          clear hwx hxp bx
          have ZX0 := Lib.hid (fun W (hW : Ext wE W) => (⟨AR.out W hW, fun h => absurd rfl h⟩ : (⟨stepP la [] 0 0, ao, la.length, none, 0⟩ : StepZ).at W.heap.size W))
          have SX0 := Lib.hid (stepP_small LA.out (rs := []) (fun r hr => by cases hr) (by simp) (ca := 0) (an := 0) (i64_small (by omega)) (i64_small (by omega)))
          have hdc := fun (p : ExtBy wx) => doesW_calls lt to_ lt.length ⟨stepP la [] 0 0, ao, la.length, none, 0⟩ p.W (by have := (tablesP_each LT.out).2; omega) (TR.out _ (Ext.trans X1.out p.ext)) (tablesP_each LT.out).1 (ZX0.out _ (Ext.trans X1.out p.ext)) SX0.out (LVX.out _ (Ext.trans XE.out (Ext.trans X1.out p.ext)))
          unfold encStep stepP at hdc
          try simp only [List.length_nil] at hdc
          have DC := Lib.hid hdc
          have l0 := ExtBy.cell (TC.out wx X1.out)
          have x0 := ExtBy.cell (BX.out.cell 0); have x1 := ExtBy.cell (BX.out.cell 1); have x2 := ExtBy.cell (BX.out.cell 2); have x3 := ExtBy.cell (BX.out.cell 3); have x4 := ExtBy.cell (BX.out.cell 4); have x5 := ExtBy.cell (BX.out.cell 5)
          try simp only [List.getElem?_cons_zero, List.getElem?_cons_succ] at x0 x1 x2 x3 x4 x5
          clear hdc
          refine wp_region_ext (by kernel_rfl) (by kernel_rfl) ?_
          repeat (go_big_quiet_step ((with_reducible exact Calls.ext_of _ (DC.out _))))
          refine wpQuiet_nil ?_
          intro wc hw'
          have X2 : Hid (Ext wx wc) := Lib.hid (by obtain ⟨p, rfl⟩ := hw'; exact p.ext)
          clear hw' l0 x0 x1 x2 x3 x4 x5 DC
          have X3 := Lib.hid (Ext.trans X1.out X2.out)
          have B2 := Lib.hid (BX.out.ext' X2.out)
          go_wp2_with fail
          have l0 := ExtBy.cell (TC.out wc X3.out)
          have x0 := ExtBy.cell (B2.out.cell 0); have x1 := ExtBy.cell (B2.out.cell 1); have x2 := ExtBy.cell (B2.out.cell 2); have x3 := ExtBy.cell (B2.out.cell 3); have x4 := ExtBy.cell (B2.out.cell 4); have x5 := ExtBy.cell (B2.out.cell 5)
          try simp only [List.getElem?_cons_zero, List.getElem?_cons_succ] at x0 x1 x2 x3 x4 x5
          have hrd := fun W (hW : Ext wc W) => refDoP_calls lt to_ lt.length ⟨stepP la [] 0 0, ao, la.length, none, 0⟩ W (by have := (tablesP_each LT.out).2; omega) (TR.out _ (Ext.trans X3.out hW)) (tablesP_each LT.out).1 (ZX0.out _ (Ext.trans X3.out hW)) (SX0.out.ok (by show la.length ≤ _; have := (actsP_each LA.out).2; omega) (by simp [stepP]))
          unfold encStep stepP at hrd
          try simp only [List.length_nil] at hrd
          have hrl := readsP_each LA.out LT.out
          unfold stepP at hrl
          obtain ⟨p1, rs, hP⟩ : ∃ p1 rs, doS lt ⟨1, 1, la, [], 0, 0⟩ = (p1, rs) := ⟨_, _, rfl⟩
          rw [hP] at hrl
          simp only [hP] at hrd
          simp only at hrl
          have RD := Lib.hid hrd; have RL := Lib.hid hrl
          clear hrd hrl hP
          refine wp_region_firstC (fun W => ∃ p : ExtBy wc, W = p.W) [0, 1, 2, 3, 4] 10 (by kernel_rfl) (by kernel_rfl) (fun _ _ _ _ h => h) ⟨⟨wc.drew, (Below.refl _ wc).drew⟩, rfl⟩ ?_
          simp only [opsAt, List.getElem?_toArray, List.getElem?_cons_succ, List.getElem?_cons_zero]
          repeat (go_big_quiet_step (fail))
          refine wpQuiet_nil ?_
          obtain ⟨k1, hN⟩ : ∃ k1, k1 = wc.drew := ⟨_, rfl⟩
          have Xk1 : Hid (Ext wc k1) := Lib.hid (by rw [hN]; exact (Below.refl _ wc).drew)
          rw [← hN]
          clear hN
          refine wpAnyH_ready (rs := [5]) (by kernel_rfl) (by simp) ?_
          refine AllReadyH.cons rfl (fun K hK => ?_) AllReadyH.nil
          go_simp
          obtain ⟨k2, hN⟩ : ∃ k2, k2 = k1.alloc (.cells #[.int .i64 1, .int .i64 1, .slice ao la.length la.length, .slice none 0 0, .int .i64 0, .int .i64 0] 38) := ⟨_, rfl⟩
          have Yk2 : Hid (Ext k1 k2) := Lib.hid (by rw [hN]; exact (Below.refl _ k1).alloc (Nat.le_refl _) _)
          have Xk2 := Lib.hid (Ext.trans Xk1.out Yk2.out)
          have Bk2 : Hid (Blk k2 k1.heap.size (([⟨stepP la [] 0 0, ao, la.length, none, 0⟩] : List StepZ).flatMap encStep) 38) := Lib.hid (by rw [hN]; exact Blk.new k1 _ _)
          rw [← hN]
          clear hN
          refine hK.out _ _ ⟨⟨_, Xk2.out⟩, rfl⟩ (fun _ => ?_)
          clear hK K
          refine wpAnyH_ready (rs := [6]) (by kernel_rfl) (by simp) ?_
          refine AllReadyH.cons rfl (fun K hK => ?_) AllReadyH.nil
          go_simp
          refine (turned_calls [⟨stepP la [] 0 0, ao, la.length, none, 0⟩] _ 1 k2 (by simp) (steps_blk Bk2.out (by simp) (fun z hz => ?_))).mono ?_
          · simp only [List.mem_cons, List.not_mem_nil, or_false] at hz; subst hz; exact ZX0.out _ (Ext.trans X3.out Xk2.out)
          rintro e k3 ⟨so, sc, rfl, -, hst, hx⟩
          obtain ⟨tb, tf, rfl, -, hc⟩ := hst.1 (by simp)
          have hc0 := hc 0 _ rfl
          have Xk3 := Lib.hid (Ext.trans Xk2.out hx)
          have d0 := hc0 0 _ rfl; have d1 := hc0 1 _ rfl; have d2 := hc0 2 _ rfl; have d3 := hc0 3 _ rfl; have d4 := hc0 4 _ rfl; have d5 := hc0 5 _ rfl
          simp only [Nat.add_zero, Nat.zero_mul, stepP, List.length_nil] at d0 d1 d2 d3 d4 d5
          clear hx hst hc hc0
          refine hK.out _ _ ⟨⟨_, Xk3.out⟩, rfl⟩ (fun _ => ?_)
          clear hK K
          refine wpAnyH_ready (rs := [7]) (by kernel_rfl) (by simp) ?_
          refine AllReadyH.cons rfl (fun K hK => ?_) AllReadyH.nil
          go_simp
          refine hK.out _ _ ⟨⟨_, Xk3.out⟩, rfl⟩ (fun _ => ?_)
          clear hK K
          refine wpAnyH_ready (rs := [8]) (by kernel_rfl) (by simp) ?_
          refine AllReadyH.cons rfl (fun K hK => ?_) AllReadyH.nil
          go_simp
          refine hK.out _ _ ⟨⟨_, Xk3.out⟩, rfl⟩ (fun _ => ?_)
          clear hK K
          refine wpAnyH_ready (rs := [9]) (by kernel_rfl) (by simp) ?_
          refine AllReadyH.cons rfl (fun K hK => ?_) AllReadyH.nil
          go_simp
          clear d0 d1 d2 d3 d4 d5
          refine (RD.out _ Xk3.out).mono ?_
          rintro e k4 ⟨vk, rk, rfl, hvk, hrk, hx⟩
          simp only at hvk hrk
          obtain ⟨qv, sv, rfl, -, -, -⟩ := Rows.own (enc := encRw) (sz := 2) (fun _ => rfl) hvk
          obtain ⟨qo, qs, rfl, -, -, -⟩ := Rows.own (enc := encRd) (sz := 3) (fun _ => rfl) hrk
          have RS := Lib.hid hrk; have GE := Lib.hid (fun j (hj : Value.ownBlock (.slice qo rs.length qs) = some j) => own_ge hrk j hj)
          have Xk4 := Lib.hid (Ext.trans Xk3.out hx)
          clear hx hvk hrk
          refine hK.out _ _ ⟨⟨_, Xk4.out⟩, rfl⟩ (fun _ => ?_)
          clear hK K
          refine wp_takesC (f := 0) [10, 11, 12, 13, 14] (by kernel_rfl) (fun _ _ _ _ h => h) ⟨⟨_, Xk4.out⟩, rfl⟩ ?_
          simp only [opsAt, List.getElem?_toArray, List.getElem?_cons_succ, List.getElem?_cons_zero]
          repeat (go_big_quiet_step (fail))
          refine wpQuiet_nil ?_
          refine wpAnyH_done (by kernel_rfl) ?_ _
          clear l0 x0 x1 x2 x3 x4 x5 RD
          have B3 := Lib.hid (B2.out.ext' Xk4.out)
          have f3 := B3.out.free 3
          have x3 := B3.out.cell 3
          simp only [List.getElem?_cons_zero, List.getElem?_cons_succ] at x3
          go_upto_region 15 with fail
          obtain ⟨wS, hwS⟩ : ∃ wS, wS = k4.setCell ⟨xp, 3, none⟩ (.slice qo rs.length qs) := ⟨_, rfl⟩
          have XRS : Hid (Ext wr wS) := Lib.hid (by rw [hwS]; exact Below.setCell (p := ⟨xp, 3, none⟩) (Ext.trans XR.out (Ext.trans X2.out Xk4.out)) (Nat.le_of_eq HXP.out.symm) _)
          have XS := Lib.hid (Ext.trans K2.out XRS.out)
          have BS : Hid (Blk wS xp [.int .i64 1, .int .i64 1, .slice ao la.length la.length, .slice qo rs.length qs, .int .i64 0, .int .i64 0] 38) := Lib.hid (by rw [hwS]; exact B3.out.set 3 _)
          have RSS : Hid (wS.ownsRow k3.heap.size 78 3 (.slice qo rs.length qs) rs.length (rs.flatMap encRd)) := Lib.hid (by
            rw [hwS]
            exact own_setOther RS.out (a := ⟨xp, 3, none⟩) (fun h => by
              have h1 := GE.out xp h; have h2 := BX.out.lt; have h3 := X2.out.size; have h4 := Xk3.out.size
              omega) _)
          have ZX := Lib.hid (fun W (hW : Ext wS W) => (⟨AR.out W (Ext.trans XS.out hW), rows_of_own (enc := encRd) (sz := 3) (fun _ => rfl) (own_ext RSS.out hW)⟩ : (⟨stepP la rs 0 0, ao, la.length, qo, qs⟩ : StepZ).at W.heap.size W))
          have SX := Lib.hid (stepP_small LA.out RL.out.1 RL.out.2 (ca := 0) (an := 0) (i64_small (by omega)) (i64_small (by omega)))
          rw [← hwS]
          clear hwS f3 x3
          go_wp2_with fail
          refine (putS_calls 2 ⟨#[107]⟩ ⟨#[53]⟩ _).mono ?_
          rintro e wy ⟨⟨dy, oy, cy, ry, sy⟩, rfl, hd, hz, hx⟩
          have XY := Lib.hid hx
          have ZYY := Lib.hid (fun W (hW : Ext wy W) => (hz.ext hW).mono hW.size)
          have SY : Hid (dy.small) := Lib.hid (by simp only at hd; rw [hd]; exact putOf_small (by omega) (by decide) (by decide))
          unfold encStep
          simp only
          clear hd hz hx
          go_wp2_with fail
          obtain ⟨wB, hwB⟩ : ∃ wB, wB = wy.alloc (.cells #[.int .i64 dy.cl, .int .i64 dy.nm, .slice oy dy.acts.length cy, .slice ry dy.reads.length sy, .int .i64 dy.ca, .int .i64 dy.an] 38) := ⟨_, rfl⟩
          have XYB : Hid (Ext wy wB) := Lib.hid (by rw [hwB]; exact (Below.refl _ wy).alloc (Nat.le_refl _) _)
          have BY : Hid (Blk wB wy.heap.size [.int .i64 dy.cl, .int .i64 dy.nm, .slice oy dy.acts.length cy, .slice ry dy.reads.length sy, .int .i64 dy.ca, .int .i64 dy.an] 38) := Lib.hid (by rw [hwB]; exact Blk.new wy _ _)
          have XSB := Lib.hid (Ext.trans XY.out XYB.out)
          have XB := Lib.hid (Ext.trans XE.out (Ext.trans XS.out XSB.out))
          have BXB := Lib.hid (BS.out.ext' XSB.out)
          rw [← hwB]
          clear hwB
          have ZXB := Lib.hid (fun W (hW : Ext wB W) => ZX.out W (Ext.trans XSB.out hW))
          have ZY := Lib.hid (fun W (hW : Ext wB W) => ZYY.out W (Ext.trans XYB.out hW))
          have x0 := ExtBy.cell (BXB.out.cell 0); have x1 := ExtBy.cell (BXB.out.cell 1); have x2 := ExtBy.cell (BXB.out.cell 2); have x3 := ExtBy.cell (BXB.out.cell 3); have x4 := ExtBy.cell (BXB.out.cell 4); have x5 := ExtBy.cell (BXB.out.cell 5)
          have y0 := ExtBy.cell (BY.out.cell 0); have y1 := ExtBy.cell (BY.out.cell 1); have y2 := ExtBy.cell (BY.out.cell 2); have y3 := ExtBy.cell (BY.out.cell 3); have y4 := ExtBy.cell (BY.out.cell 4); have y5 := ExtBy.cell (BY.out.cell 5)
          clear ZX
          have ZX := ZXB
          refine wp_region_firstC (fun W => ∃ p : ExtBy wB, W = p.W) [0] 27 (by kernel_rfl) (by kernel_rfl) (fun _ _ _ _ h => h) ⟨⟨wB.drew, (Below.refl _ wB).drew⟩, rfl⟩ ?_
          simp only [opsAt, List.getElem?_toArray, List.getElem?_cons_zero]
          repeat (go_big_quiet_step (fail))
          refine wpQuiet_nil ?_
          obtain ⟨g1, hN⟩ : ∃ g1, g1 = wB.drew := ⟨_, rfl⟩
          have Xg1 : Hid (Ext wB g1) := Lib.hid (by rw [hN]; exact (Below.refl _ wB).drew)
          rw [← hN]
          clear hN
          refine wpAnyH_ready (rs := [1]) (by kernel_rfl) (by simp) ?_
          refine AllReadyH.cons rfl (fun K hK => ?_) AllReadyH.nil
          go_simp
          obtain ⟨g2, hN⟩ : ∃ g2, g2 = g1.alloc (.cells #[.int .i64 1, .int .i64 1, .slice ao la.length la.length, .slice qo rs.length qs, .int .i64 0, .int .i64 0] 38) := ⟨_, rfl⟩
          have Yg2 : Hid (Ext g1 g2) := Lib.hid (by rw [hN]; exact (Below.refl _ g1).alloc (Nat.le_refl _) _)
          have Xg2 := Lib.hid (Ext.trans Xg1.out Yg2.out)
          have Bg2 : Hid (Blk g2 g1.heap.size (([⟨stepP la rs 0 0, ao, la.length, qo, qs⟩] : List StepZ).flatMap encStep) 38) := Lib.hid (by rw [hN]; exact Blk.new g1 _ _)
          rw [← hN]
          clear hN
          refine hK.out _ _ ⟨⟨_, Xg2.out⟩, rfl⟩ (fun _ => ?_)
          clear hK K
          refine wpAnyH_ready (rs := [2]) (by kernel_rfl) (by simp) ?_
          refine AllReadyH.cons rfl (fun K hK => ?_) AllReadyH.nil
          go_simp
          refine (tellsB_calls Bg2.out (by simp) (fun z hz => ?_) (fun z hz => ?_) (LVX.out _ (Ext.trans XB.out Xg2.out))).mono ?_
          · simp only [List.mem_cons, List.not_mem_nil, or_false] at hz
            subst hz
            exact ZX.out _ Xg2.out
          · simp only [List.mem_cons, List.not_mem_nil, or_false] at hz
            subst hz
            exact SX.out
          rintro e g3 ⟨rfl, hx⟩
          have Xg3 := Lib.hid (Ext.trans Xg2.out hx)
          clear hx
          refine hK.out _ _ ⟨⟨_, Xg3.out⟩, rfl⟩ (fun _ => ?_)
          clear hK K
          refine wp_takesC (f := 20) [3, 4, 5, 6, 7] (by kernel_rfl) (fun _ _ _ _ h => h) ⟨⟨_, Xg3.out⟩, rfl⟩ ?_
          simp only [opsAt, List.getElem?_toArray, List.getElem?_cons_succ, List.getElem?_cons_zero]
          repeat (go_big_quiet_step (fail))
          refine wpQuiet_nil ?_
          refine wpAnyH_ready (rs := [8]) (by kernel_rfl) (by simp) ?_
          refine AllReadyH.cons rfl (fun K hK => ?_) AllReadyH.nil
          go_simp
          obtain ⟨g4, hN⟩ : ∃ g4, g4 = g3.alloc (.cells #[.int .i64 dy.cl, .int .i64 dy.nm, .slice oy dy.acts.length cy, .slice ry dy.reads.length sy, .int .i64 dy.ca, .int .i64 dy.an, .int .i64 1, .int .i64 1, .slice ao la.length la.length, .slice qo rs.length qs, .int .i64 0, .int .i64 0, .int .i64 dy.cl, .int .i64 dy.nm, .slice oy dy.acts.length cy, .slice ry dy.reads.length sy, .int .i64 dy.ca, .int .i64 dy.an] 38) := ⟨_, rfl⟩
          have Yg4 : Hid (Ext g3 g4) := Lib.hid (by rw [hN]; exact (Below.refl _ g3).alloc (Nat.le_refl _) _)
          have Xg4 := Lib.hid (Ext.trans Xg3.out Yg4.out)
          have Bg4 : Hid (Blk g4 g3.heap.size (([⟨dy, oy, cy, ry, sy⟩, ⟨stepP la rs 0 0, ao, la.length, qo, qs⟩, ⟨dy, oy, cy, ry, sy⟩] : List StepZ).flatMap encStep) 38) := Lib.hid (by rw [hN]; exact Blk.new g3 _ _)
          rw [← hN]
          clear hN
          refine hK.out _ _ ⟨⟨_, Xg4.out⟩, rfl⟩ (fun _ => ?_)
          clear hK K
          refine wpAnyH_ready (rs := [9]) (by kernel_rfl) (by simp) ?_
          refine AllReadyH.cons rfl (fun K hK => ?_) AllReadyH.nil
          go_simp
          refine (tellsB_calls Bg4.out (by simp) (fun z hz => ?_) (fun z hz => ?_) (LVX.out _ (Ext.trans XB.out Xg4.out))).mono ?_
          · simp only [List.mem_cons, List.not_mem_nil, or_false] at hz
            rcases hz with rfl | rfl | rfl
            · exact ZY.out _ Xg4.out
            · exact ZX.out _ Xg4.out
            · exact ZY.out _ Xg4.out
          · simp only [List.mem_cons, List.not_mem_nil, or_false] at hz
            rcases hz with rfl | rfl | rfl
            · exact SY.out
            · exact SX.out
            · exact SY.out
          rintro e g5 ⟨rfl, hx⟩
          have Xg5 := Lib.hid (Ext.trans Xg4.out hx)
          clear hx
          refine hK.out _ _ ⟨⟨_, Xg5.out⟩, rfl⟩ (fun _ => ?_)
          clear hK K
          refine wp_takesC (f := 13) [10, 11, 12, 13, 14] (by kernel_rfl) (fun _ _ _ _ h => h) ⟨⟨_, Xg5.out⟩, rfl⟩ ?_
          simp only [opsAt, List.getElem?_toArray, List.getElem?_cons_succ, List.getElem?_cons_zero]
          repeat (go_big_quiet_step (fail))
          refine wpQuiet_nil ?_
          refine wpAnyH_ready (rs := [15]) (by kernel_rfl) (by simp) ?_
          refine AllReadyH.cons rfl (fun K hK => ?_) AllReadyH.nil
          go_simp
          refine (getS_calls 3 ⟨#[107]⟩ ⟨#[55]⟩ g5).mono ?_
          rintro e g6 ⟨⟨dg, og, cg, rg, sg⟩, rfl, hd, hz, hx⟩
          have Xg6 := Lib.hid (Ext.trans Xg5.out hx)
          have Zg := Lib.hid (fun W (hW : Ext g6 W) => (hz.ext hW).mono hW.size)
          have Sg : Hid (dg.small) := Lib.hid (by simp only at hd; rw [hd]; exact getOf_small (by decide) (by decide) (by decide))
          unfold encStep
          simp only
          clear hd hz hx
          refine hK.out _ _ ⟨⟨_, Xg6.out⟩, rfl⟩ (fun _ => ?_)
          clear hK K
          refine wpAnyH_ready (rs := [16]) (by kernel_rfl) (by simp) ?_
          refine AllReadyH.cons rfl (fun K hK => ?_) AllReadyH.nil
          go_simp
          obtain ⟨g7, hN⟩ : ∃ g7, g7 = g6.alloc (.cells #[.int .i64 1, .int .i64 1, .slice ao la.length la.length, .slice qo rs.length qs, .int .i64 0, .int .i64 0, .int .i64 dy.cl, .int .i64 dy.nm, .slice oy dy.acts.length cy, .slice ry dy.reads.length sy, .int .i64 dy.ca, .int .i64 dy.an, .int .i64 dg.cl, .int .i64 dg.nm, .slice og dg.acts.length cg, .slice rg dg.reads.length sg, .int .i64 dg.ca, .int .i64 dg.an] 38) := ⟨_, rfl⟩
          have Yg7 : Hid (Ext g6 g7) := Lib.hid (by rw [hN]; exact (Below.refl _ g6).alloc (Nat.le_refl _) _)
          have Xg7 := Lib.hid (Ext.trans Xg6.out Yg7.out)
          have Bg7 : Hid (Blk g7 g6.heap.size (([⟨stepP la rs 0 0, ao, la.length, qo, qs⟩, ⟨dy, oy, cy, ry, sy⟩, ⟨dg, og, cg, rg, sg⟩] : List StepZ).flatMap encStep) 38) := Lib.hid (by rw [hN]; exact Blk.new g6 _ _)
          rw [← hN]
          clear hN
          refine hK.out _ _ ⟨⟨_, Xg7.out⟩, rfl⟩ (fun _ => ?_)
          clear hK K
          refine wpAnyH_ready (rs := [17]) (by kernel_rfl) (by simp) ?_
          refine AllReadyH.cons rfl (fun K hK => ?_) AllReadyH.nil
          go_simp
          refine (ordersB_calls Bg7.out (by simp) (fun z hz => ?_) (fun z hz => ?_) (LVX.out _ (Ext.trans XB.out Xg7.out))).mono ?_
          · simp only [List.mem_cons, List.not_mem_nil, or_false] at hz
            rcases hz with rfl | rfl | rfl
            · exact ZX.out _ Xg7.out
            · exact ZY.out _ Xg7.out
            · exact Zg.out _ Yg7.out
          · simp only [List.mem_cons, List.not_mem_nil, or_false] at hz
            rcases hz with rfl | rfl | rfl
            · exact SX.out
            · exact SY.out
            · exact Sg.out
          rintro e g8 ⟨rfl, hx⟩
          have Xg8 := Lib.hid (Ext.trans Xg7.out hx)
          clear hx
          refine hK.out _ _ ⟨⟨_, Xg8.out⟩, rfl⟩ (fun _ => ?_)
          clear hK K
          refine wp_takesC (f := 5) [18, 19, 20, 21, 23] (by kernel_rfl) (fun _ _ _ _ h => h) ⟨⟨_, Xg8.out⟩, rfl⟩ ?_
          simp only [opsAt, List.getElem?_toArray, List.getElem?_cons_succ, List.getElem?_cons_zero]
          repeat (go_big_quiet_step (fail))
          refine wpQuiet_nil ?_
          refine wpAnyH_ready (rs := [22]) (by kernel_rfl) (by simp) ?_
          refine AllReadyH.cons rfl (fun K hK => ?_) AllReadyH.nil
          go_simp
          refine (getS_calls 4 ⟨#[97]⟩ ⟨#[120]⟩ g8).mono ?_
          rintro e g9 ⟨⟨dh, oh, ch, rh, sh⟩, rfl, hd, hz, hx⟩
          have Xg9 := Lib.hid (Ext.trans Xg8.out hx)
          have Zh := Lib.hid (fun W (hW : Ext g9 W) => (hz.ext hW).mono hW.size)
          have Sh : Hid (dh.small) := Lib.hid (by simp only at hd; rw [hd]; exact getOf_small (by decide) (by decide) (by decide))
          unfold encStep
          simp only
          clear hd hz hx
          refine hK.out _ _ ⟨⟨_, Xg9.out⟩, rfl⟩ (fun _ => ?_)
          clear hK K
          refine wpAnyH_ready (rs := [24]) (by kernel_rfl) (by simp) ?_
          refine AllReadyH.cons rfl (fun K hK => ?_) AllReadyH.nil
          go_simp
          obtain ⟨g10, hN⟩ : ∃ g10, g10 = g9.alloc (.cells #[.int .i64 dy.cl, .int .i64 dy.nm, .slice oy dy.acts.length cy, .slice ry dy.reads.length sy, .int .i64 dy.ca, .int .i64 dy.an, .int .i64 dh.cl, .int .i64 dh.nm, .slice oh dh.acts.length ch, .slice rh dh.reads.length sh, .int .i64 dh.ca, .int .i64 dh.an, .int .i64 1, .int .i64 1, .slice ao la.length la.length, .slice qo rs.length qs, .int .i64 0, .int .i64 0] 38) := ⟨_, rfl⟩
          have Yg10 : Hid (Ext g9 g10) := Lib.hid (by rw [hN]; exact (Below.refl _ g9).alloc (Nat.le_refl _) _)
          have Xg10 := Lib.hid (Ext.trans Xg9.out Yg10.out)
          have Bg10 : Hid (Blk g10 g9.heap.size (([⟨dy, oy, cy, ry, sy⟩, ⟨dh, oh, ch, rh, sh⟩, ⟨stepP la rs 0 0, ao, la.length, qo, qs⟩] : List StepZ).flatMap encStep) 38) := Lib.hid (by rw [hN]; exact Blk.new g9 _ _)
          rw [← hN]
          clear hN
          refine hK.out _ _ ⟨⟨_, Xg10.out⟩, rfl⟩ (fun _ => ?_)
          clear hK K
          refine wpAnyH_ready (rs := [25]) (by kernel_rfl) (by simp) ?_
          refine AllReadyH.cons rfl (fun K hK => ?_) AllReadyH.nil
          go_simp
          refine (ordersB_calls Bg10.out (by simp) (fun z hz => ?_) (fun z hz => ?_) (LVX.out _ (Ext.trans XB.out Xg10.out))).mono ?_
          · simp only [List.mem_cons, List.not_mem_nil, or_false] at hz
            rcases hz with rfl | rfl | rfl
            · exact ZY.out _ Xg10.out
            · exact Zh.out _ Yg10.out
            · exact ZX.out _ Xg10.out
          · simp only [List.mem_cons, List.not_mem_nil, or_false] at hz
            rcases hz with rfl | rfl | rfl
            · exact SY.out
            · exact Sh.out
            · exact SX.out
          rintro e g11 ⟨rfl, hx⟩
          have Xg11 := Lib.hid (Ext.trans Xg10.out hx)
          clear hx
          refine hK.out _ _ ⟨⟨_, Xg11.out⟩, rfl⟩ (fun _ => ?_)
          clear hK K
          refine wp_takesC (f := 0) [26, 27] (by kernel_rfl) (fun _ _ _ _ h => h) ⟨⟨_, Xg11.out⟩, rfl⟩ ?_
          simp only [opsAt, List.getElem?_toArray, List.getElem?_cons_succ, List.getElem?_cons_zero]
          repeat (go_big_quiet_step (fail))
          refine wpQuiet_nil ?_
          refine wpAnyH_done (by kernel_rfl) ?_ _
          clear x0 x1 x2 x3 x4 x5 y0 y1 y2 y3 y4 y5
          have XF := Lib.hid (Ext.trans XS.out (Ext.trans XSB.out Xg11.out))
          go_wp2_with fail
          exact ⟨⟨k + 1, by omega, by go_num, XF.out⟩, by simp [intOf]; omega⟩
        · have g5 : decide ((k : Int) < (5 : Int)) = false := by simp; omega
          clear AC AR LA
          obtain ⟨i6, hi6⟩ : ∃ i6 : Nat, i6 = i % 6 := ⟨_, rfl⟩
          have I6 : i6 < 6 := by omega
          have ie : (i : Int).tmod 6 = (i6 : Int) := by rw [Int.tmod_eq_emod_of_nonneg (by omega)]; omega
          obtain ⟨ti, hti⟩ : ∃ ti, timesP[i6]? = some ti := ⟨_, List.getElem?_eq_getElem (by simpa [timesP] using I6)⟩
          have TI := Lib.hid (fun W (hW : Ext wE W) => (hW.cell (p := ⟨C, i6, none⟩) PD.out.lt.2.2).trans (PD.out.times i6 ti hti))
          have TIS := Lib.hid hti
          have i60 : (0 : Int) ≤ (i6 : Int) := by omega
          have i61 : (i6 : Int) < 6 := by omega
          clear hti hi6
          go_wp2_with fail
          go_loopw [10] (fun j wr => ∃ k : Nat, k ≤ 6 ∧ j = .int .i64 k ∧ Ext wE wr) (fun j _ => 6 - (intOf j).toNat)
          case atStart => exact ⟨0, by omega, rfl, K2.out⟩
          case round =>
            clear K2
            obtain ⟨m, hm, rfl, hx⟩ := hrel
            have K3 := Lib.hid hx
            clear hx
            by_cases hmt : m < 6
            · obtain ⟨tm, htm⟩ : ∃ tm, timesP[m]? = some tm := ⟨_, List.getElem?_eq_getElem (by simpa [timesP] using hmt)⟩
              have TM := Lib.hid (fun W (hW : Ext wE W) => (hW.cell (p := ⟨C, m, none⟩) PD.out.lt.2.2).trans (PD.out.times m tm htm))
              have TMS := Lib.hid htm
              have m0 : (0 : Int) ≤ (m : Int) := by omega
              have m1 : (m : Int) < 6 := by omega
              clear htm
              go_wp2_with fail
              go_loopw [11] (fun j wr => ∃ k : Nat, k ≤ 6 ∧ j = .int .i64 k ∧ Ext wE wr) (fun j _ => 6 - (intOf j).toNat)
              case atStart => exact ⟨0, by omega, rfl, K3.out⟩
              case round =>
                obtain ⟨j, hj, rfl, hx⟩ := hrel
                have K4 := Lib.hid hx
                clear hx
                by_cases hjt : j < 6
                · obtain ⟨tj, htj⟩ : ∃ tj, timesP[j]? = some tj := ⟨_, List.getElem?_eq_getElem (by simpa [timesP] using hjt)⟩
                  have TJ := Lib.hid (fun W (hW : Ext wE W) => (hW.cell (p := ⟨C, j, none⟩) PD.out.lt.2.2).trans (PD.out.times j tj htj))
                  have TJS := Lib.hid htj
                  have j0 : (0 : Int) ≤ (j : Int) := by omega
                  have j1 : (j : Int) < 6 := by omega
                  obtain ⟨jq, hjq⟩ : ∃ jq : Nat, jq = (i + j) % 6 := ⟨_, rfl⟩
                  have J6 : jq < 6 := by omega
                  have je : ((i : Int) + (j : Int)).tmod 6 = (jq : Int) := by rw [Int.tmod_eq_emod_of_nonneg (by omega)]; omega
                  obtain ⟨tq, htq⟩ : ∃ tq, timesP[jq]? = some tq := ⟨_, List.getElem?_eq_getElem (by simpa [timesP] using J6)⟩
                  have TQ := Lib.hid (fun W (hW : Ext wE W) => (hW.cell (p := ⟨C, jq, none⟩) PD.out.lt.2.2).trans (PD.out.times jq tq htq))
                  have TQS := Lib.hid htq
                  have jq0 : (0 : Int) ≤ (jq : Int) := by omega
                  have jq1 : (jq : Int) < 6 := by omega
                  clear htj htq hjq
                  go_wp2_with fail
                  refine (putS_calls 1 ⟨#[107]⟩ ⟨#[49]⟩ _).mono ?_
                  rintro e w1 ⟨⟨dx, ox, cx, rx, sx⟩, rfl, hd, hz, hx⟩
                  have X1 := Lib.hid (Ext.trans K4.out hx)
                  have ZX1 := Lib.hid (fun W (hW : Ext w1 W) => (hz.ext hW).mono hW.size)
                  have DX : Hid (dx = putOf 1 ⟨#[107]⟩ ⟨#[49]⟩) := Lib.hid (by simpa using hd)
                  unfold encStep
                  simp only
                  clear hd hz hx
                  go_wp2_with fail
                  refine (putS_calls 2 ⟨#[107]⟩ ⟨#[50]⟩ _).mono ?_
                  rintro e w2 ⟨⟨dy, oy, cy, ry, sy⟩, rfl, hd, hz, hx⟩
                  have X2 := Lib.hid (Ext.trans X1.out hx)
                  have Y2 := Lib.hid hx
                  have ZY2 := Lib.hid (fun W (hW : Ext w2 W) => (hz.ext hW).mono hW.size)
                  have DY : Hid (dy = putOf 2 ⟨#[107]⟩ ⟨#[50]⟩) := Lib.hid (by simpa using hd)
                  unfold encStep
                  simp only
                  clear hd hz hx
                  go_upto_region 25 with fail
                  obtain ⟨xp, hxp⟩ : ∃ xp, xp = w2.heap.size := ⟨_, rfl⟩
                  obtain ⟨yp, hyp⟩ : ∃ yp, yp = xp + 1 := ⟨_, rfl⟩
                  have Px : Hid (w2.heap.size ≤ xp) := Lib.hid (by omega)
                  have Py : Hid (w2.heap.size ≤ yp) := Lib.hid (by omega)
                  have PN : Hid (xp ≠ yp) := Lib.hid (by omega)
                  obtain ⟨v0, hv0⟩ : ∃ v0, v0 = (w2.alloc (.cells #[.int .i64 dx.cl, .int .i64 dx.nm, .slice ox dx.acts.length cx, .slice rx dx.reads.length sx, .int .i64 dx.ca, .int .i64 dx.an] 38)).alloc (.cells #[.int .i64 dy.cl, .int .i64 dy.nm, .slice oy dy.acts.length cy, .slice ry dy.reads.length sy, .int .i64 dy.ca, .int .i64 dy.an] 38) := ⟨_, rfl⟩
                  have Yv0 : Hid (Ext w2 v0) := Lib.hid (by rw [hv0]; exact ((Below.refl _ w2).alloc (Nat.le_refl _) _).alloc (by simp) _)
                  have BXv0 : Hid (Blk v0 xp [.int .i64 dx.cl, .int .i64 dx.nm, .slice ox dx.acts.length cx, .slice rx dx.reads.length sx, .int .i64 dx.ca, .int .i64 dx.an] 38) := Lib.hid (by rw [hv0, hxp]; exact (Blk.new w2 _ _).alloc _)
                  have BYv0 : Hid (Blk v0 yp [.int .i64 dy.cl, .int .i64 dy.nm, .slice oy dy.acts.length cy, .slice ry dy.reads.length sy, .int .i64 dy.ca, .int .i64 dy.an] 38) := Lib.hid (by
                    have h := Blk.new (w2.alloc (.cells #[.int .i64 dx.cl, .int .i64 dx.nm, .slice ox dx.acts.length cx, .slice rx dx.reads.length sx, .int .i64 dx.ca, .int .i64 dx.an] 38)) [.int .i64 dy.cl, .int .i64 dy.nm, .slice oy dy.acts.length cy, .slice ry dy.reads.length sy, .int .i64 dy.ca, .int .i64 dy.an] 38
                    rw [World.size_alloc] at h
                    rw [hv0, hyp, hxp]; exact h)
                  rw [← hv0, ← hxp, ← hyp]
                  clear hv0 hxp hyp
                  have fq := BXv0.out.free 4; have cq := BXv0.out.cell 4; have tq_ := TM.out v0 (Ext.trans X2.out Yv0.out)
                  simp only [List.getElem?_cons_zero, List.getElem?_cons_succ] at cq
                  go_upto_region 26 with fail
                  obtain ⟨v1, hN⟩ : ∃ v1, v1 = v0.setCell ⟨xp, 4, none⟩ (.int .i64 tm) := ⟨_, rfl⟩
                  have Yv1 : Hid (Ext w2 v1) := Lib.hid (by rw [hN]; exact Below.setCell (p := ⟨xp, 4, none⟩) Yv0.out Px.out _)
                  have BXv1 : Hid (Blk v1 xp [.int .i64 dx.cl, .int .i64 dx.nm, .slice ox dx.acts.length cx, .slice rx dx.reads.length sx, .int .i64 tm, .int .i64 dx.an] 38) := Lib.hid (by rw [hN]; exact BXv0.out.set 4 _)
                  have BYv1 : Hid (Blk v1 yp [.int .i64 dy.cl, .int .i64 dy.nm, .slice oy dy.acts.length cy, .slice ry dy.reads.length sy, .int .i64 dy.ca, .int .i64 dy.an] 38) := Lib.hid (by rw [hN]; exact BYv0.out.other (a := ⟨xp, 4, none⟩) (fun h => PN.out h.symm) _)
                  rw [← hN]
                  clear fq cq tq_ hN
                  have fq := BXv1.out.free 5; have cq := BXv1.out.cell 5; have tq_ := TJ.out v1 (Ext.trans X2.out Yv1.out)
                  simp only [List.getElem?_cons_zero, List.getElem?_cons_succ] at cq
                  go_upto_region 27 with fail
                  obtain ⟨v2, hN⟩ : ∃ v2, v2 = v1.setCell ⟨xp, 5, none⟩ (.int .i64 tj) := ⟨_, rfl⟩
                  have Yv2 : Hid (Ext w2 v2) := Lib.hid (by rw [hN]; exact Below.setCell (p := ⟨xp, 5, none⟩) Yv1.out Px.out _)
                  have BXv2 : Hid (Blk v2 xp [.int .i64 dx.cl, .int .i64 dx.nm, .slice ox dx.acts.length cx, .slice rx dx.reads.length sx, .int .i64 tm, .int .i64 tj] 38) := Lib.hid (by rw [hN]; exact BXv1.out.set 5 _)
                  have BYv2 : Hid (Blk v2 yp [.int .i64 dy.cl, .int .i64 dy.nm, .slice oy dy.acts.length cy, .slice ry dy.reads.length sy, .int .i64 dy.ca, .int .i64 dy.an] 38) := Lib.hid (by rw [hN]; exact BYv1.out.other (a := ⟨xp, 5, none⟩) (fun h => PN.out h.symm) _)
                  rw [← hN]
                  clear fq cq tq_ hN
                  have fq := BYv2.out.free 4; have cq := BYv2.out.cell 4; have tq_ := TI.out v2 (Ext.trans X2.out Yv2.out)
                  simp only [List.getElem?_cons_zero, List.getElem?_cons_succ] at cq
                  go_upto_region 28 with fail
                  obtain ⟨v3, hN⟩ : ∃ v3, v3 = v2.setCell ⟨yp, 4, none⟩ (.int .i64 ti) := ⟨_, rfl⟩
                  have Yv3 : Hid (Ext w2 v3) := Lib.hid (by rw [hN]; exact Below.setCell (p := ⟨yp, 4, none⟩) Yv2.out Py.out _)
                  have BXv3 : Hid (Blk v3 xp [.int .i64 dx.cl, .int .i64 dx.nm, .slice ox dx.acts.length cx, .slice rx dx.reads.length sx, .int .i64 tm, .int .i64 tj] 38) := Lib.hid (by rw [hN]; exact BXv2.out.other (a := ⟨yp, 4, none⟩) PN.out _)
                  have BYv3 : Hid (Blk v3 yp [.int .i64 dy.cl, .int .i64 dy.nm, .slice oy dy.acts.length cy, .slice ry dy.reads.length sy, .int .i64 ti, .int .i64 dy.an] 38) := Lib.hid (by rw [hN]; exact BYv2.out.set 4 _)
                  rw [← hN]
                  clear fq cq tq_ hN
                  have fq := BYv3.out.free 5; have cq := BYv3.out.cell 5; have tq_ := TQ.out v3 (Ext.trans X2.out Yv3.out)
                  simp only [List.getElem?_cons_zero, List.getElem?_cons_succ] at cq
                  go_upto_region 29 with fail
                  obtain ⟨v4, hN⟩ : ∃ v4, v4 = v3.setCell ⟨yp, 5, none⟩ (.int .i64 tq) := ⟨_, rfl⟩
                  have Yv4 : Hid (Ext w2 v4) := Lib.hid (by rw [hN]; exact Below.setCell (p := ⟨yp, 5, none⟩) Yv3.out Py.out _)
                  have BXv4 : Hid (Blk v4 xp [.int .i64 dx.cl, .int .i64 dx.nm, .slice ox dx.acts.length cx, .slice rx dx.reads.length sx, .int .i64 tm, .int .i64 tj] 38) := Lib.hid (by rw [hN]; exact BXv3.out.other (a := ⟨yp, 5, none⟩) PN.out _)
                  have BYv4 : Hid (Blk v4 yp [.int .i64 dy.cl, .int .i64 dy.nm, .slice oy dy.acts.length cy, .slice ry dy.reads.length sy, .int .i64 ti, .int .i64 tq] 38) := Lib.hid (by rw [hN]; exact BYv3.out.set 5 _)
                  rw [← hN]
                  clear fq cq tq_ hN
                  have ZX := Lib.hid (fun W (hW : Ext v4 W) => (ZX1.out W (Ext.trans Y2.out (Ext.trans Yv4.out hW)) : (⟨⟨dx.cl, dx.nm, dx.acts, dx.reads, tm, tj⟩, ox, cx, rx, sx⟩ : StepZ).at W.heap.size W))
                  have ZY := Lib.hid (fun W (hW : Ext v4 W) => (ZY2.out W (Ext.trans Yv4.out hW) : (⟨⟨dy.cl, dy.nm, dy.acts, dy.reads, ti, tq⟩, oy, cy, ry, sy⟩ : StepZ).at W.heap.size W))
                  have SX : Hid ((⟨dx.cl, dx.nm, dx.acts, dx.reads, tm, tj⟩ : StepD).small) := Lib.hid (by rw [DX.out]; exact (putOf_small (by omega) (by decide) (by decide)).times (times_each TMS.out) (times_each TJS.out))
                  have SY : Hid ((⟨dy.cl, dy.nm, dy.acts, dy.reads, ti, tq⟩ : StepD).small) := Lib.hid (by rw [DY.out]; exact (putOf_small (by omega) (by decide) (by decide)).times (times_each TIS.out) (times_each TQS.out))
                  have XB := Lib.hid (Ext.trans XE.out (Ext.trans X2.out Yv4.out))
                  obtain ⟨wB, hwB⟩ : ∃ wB, wB = v4 := ⟨_, rfl⟩
                  rw [← hwB] at ZX ZY XB Yv4 BXv4 BYv4 ⊢
                  have x0 := ExtBy.cell (BXv4.out.cell 0); have x1 := ExtBy.cell (BXv4.out.cell 1); have x2 := ExtBy.cell (BXv4.out.cell 2); have x3 := ExtBy.cell (BXv4.out.cell 3); have x4 := ExtBy.cell (BXv4.out.cell 4); have x5 := ExtBy.cell (BXv4.out.cell 5)
                  have y0 := ExtBy.cell (BYv4.out.cell 0); have y1 := ExtBy.cell (BYv4.out.cell 1); have y2 := ExtBy.cell (BYv4.out.cell 2); have y3 := ExtBy.cell (BYv4.out.cell 3); have y4 := ExtBy.cell (BYv4.out.cell 4); have y5 := ExtBy.cell (BYv4.out.cell 5)
                  clear hwB
                  refine wp_region_firstC (fun W => ∃ p : ExtBy wB, W = p.W) [0, 1] 18 (by kernel_rfl) (by kernel_rfl) (fun _ _ _ _ h => h) ⟨⟨wB.drew, (Below.refl _ wB).drew⟩, rfl⟩ ?_
                  simp only [opsAt, List.getElem?_toArray, List.getElem?_cons_succ, List.getElem?_cons_zero]
                  repeat (go_big_quiet_step (fail))
                  refine wpQuiet_nil ?_
                  obtain ⟨h1, hN⟩ : ∃ h1, h1 = wB.drew := ⟨_, rfl⟩
                  have Xh1 : Hid (Ext wB h1) := Lib.hid (by rw [hN]; exact (Below.refl _ wB).drew)
                  rw [← hN]
                  clear hN
                  refine wpAnyH_ready (rs := [2]) (by kernel_rfl) (by simp) ?_
                  refine AllReadyH.cons rfl (fun K hK => ?_) AllReadyH.nil
                  go_simp
                  obtain ⟨h2, hN⟩ : ∃ h2, h2 = h1.alloc (.cells #[.int .i64 dx.cl, .int .i64 dx.nm, .slice ox dx.acts.length cx, .slice rx dx.reads.length sx, .int .i64 tm, .int .i64 tj, .int .i64 dy.cl, .int .i64 dy.nm, .slice oy dy.acts.length cy, .slice ry dy.reads.length sy, .int .i64 ti, .int .i64 tq] 38) := ⟨_, rfl⟩
                  have Yh2 : Hid (Ext h1 h2) := Lib.hid (by rw [hN]; exact (Below.refl _ h1).alloc (Nat.le_refl _) _)
                  have Xh2 := Lib.hid (Ext.trans Xh1.out Yh2.out)
                  have Bh2 : Hid (Blk h2 h1.heap.size (([⟨⟨dx.cl, dx.nm, dx.acts, dx.reads, tm, tj⟩, ox, cx, rx, sx⟩, ⟨⟨dy.cl, dy.nm, dy.acts, dy.reads, ti, tq⟩, oy, cy, ry, sy⟩] : List StepZ).flatMap encStep) 38) := Lib.hid (by rw [hN]; exact Blk.new h1 _ _)
                  rw [← hN]
                  clear hN
                  refine hK.out _ _ ⟨⟨_, Xh2.out⟩, rfl⟩ (fun _ => ?_)
                  clear hK K
                  refine wpAnyH_ready (rs := [3]) (by kernel_rfl) (by simp) ?_
                  refine AllReadyH.cons rfl (fun K hK => ?_) AllReadyH.nil
                  go_simp
                  refine (tellsB_calls Bh2.out (by simp) (fun z hz => ?_) (fun z hz => ?_) (LVX.out _ (Ext.trans XB.out Xh2.out))).mono ?_
                  · simp only [List.mem_cons, List.not_mem_nil, or_false] at hz
                    rcases hz with rfl | rfl
                    · exact ZX.out _ Xh2.out
                    · exact ZY.out _ Xh2.out
                  · simp only [List.mem_cons, List.not_mem_nil, or_false] at hz
                    rcases hz with rfl | rfl
                    · exact SX.out
                    · exact SY.out
                  rintro e h3 ⟨rfl, hx⟩
                  have Xh3 := Lib.hid (Ext.trans Xh2.out hx)
                  clear hx
                  refine hK.out _ _ ⟨⟨_, Xh3.out⟩, rfl⟩ (fun _ => ?_)
                  clear hK K
                  refine wp_takesC (f := 12) [4, 5, 6, 7] (by kernel_rfl) (fun _ _ _ _ h => h) ⟨⟨_, Xh3.out⟩, rfl⟩ ?_
                  simp only [opsAt, List.getElem?_toArray, List.getElem?_cons_succ, List.getElem?_cons_zero]
                  repeat (go_big_quiet_step (fail))
                  refine wpQuiet_nil ?_
                  refine wpAnyH_ready (rs := [8]) (by kernel_rfl) (by simp) ?_
                  refine AllReadyH.cons rfl (fun K hK => ?_) AllReadyH.nil
                  go_simp
                  obtain ⟨h4, hN⟩ : ∃ h4, h4 = h3.alloc (.cells #[.int .i64 dy.cl, .int .i64 dy.nm, .slice oy dy.acts.length cy, .slice ry dy.reads.length sy, .int .i64 ti, .int .i64 tq, .int .i64 dx.cl, .int .i64 dx.nm, .slice ox dx.acts.length cx, .slice rx dx.reads.length sx, .int .i64 tm, .int .i64 tj] 38) := ⟨_, rfl⟩
                  have Yh4 : Hid (Ext h3 h4) := Lib.hid (by rw [hN]; exact (Below.refl _ h3).alloc (Nat.le_refl _) _)
                  have Xh4 := Lib.hid (Ext.trans Xh3.out Yh4.out)
                  have Bh4 : Hid (Blk h4 h3.heap.size (([⟨⟨dy.cl, dy.nm, dy.acts, dy.reads, ti, tq⟩, oy, cy, ry, sy⟩, ⟨⟨dx.cl, dx.nm, dx.acts, dx.reads, tm, tj⟩, ox, cx, rx, sx⟩] : List StepZ).flatMap encStep) 38) := Lib.hid (by rw [hN]; exact Blk.new h3 _ _)
                  rw [← hN]
                  clear hN
                  refine hK.out _ _ ⟨⟨_, Xh4.out⟩, rfl⟩ (fun _ => ?_)
                  clear hK K
                  refine wpAnyH_ready (rs := [9]) (by kernel_rfl) (by simp) ?_
                  refine AllReadyH.cons rfl (fun K hK => ?_) AllReadyH.nil
                  go_simp
                  refine (tellsB_calls Bh4.out (by simp) (fun z hz => ?_) (fun z hz => ?_) (LVX.out _ (Ext.trans XB.out Xh4.out))).mono ?_
                  · simp only [List.mem_cons, List.not_mem_nil, or_false] at hz
                    rcases hz with rfl | rfl
                    · exact ZY.out _ Xh4.out
                    · exact ZX.out _ Xh4.out
                  · simp only [List.mem_cons, List.not_mem_nil, or_false] at hz
                    rcases hz with rfl | rfl
                    · exact SY.out
                    · exact SX.out
                  rintro e h5 ⟨rfl, hx⟩
                  have Xh5 := Lib.hid (Ext.trans Xh4.out hx)
                  clear hx
                  refine hK.out _ _ ⟨⟨_, Xh5.out⟩, rfl⟩ (fun _ => ?_)
                  clear hK K
                  refine wp_takesC (f := 5) [10, 11, 12, 13, 14] (by kernel_rfl) (fun _ _ _ _ h => h) ⟨⟨_, Xh5.out⟩, rfl⟩ ?_
                  simp only [opsAt, List.getElem?_toArray, List.getElem?_cons_succ, List.getElem?_cons_zero]
                  repeat (go_big_quiet_step (fail))
                  refine wpQuiet_nil ?_
                  refine wpAnyH_ready (rs := [15]) (by kernel_rfl) (by simp) ?_
                  refine AllReadyH.cons rfl (fun K hK => ?_) AllReadyH.nil
                  go_simp
                  refine (getS_calls 3 ⟨#[107]⟩ ⟨#[49]⟩ h5).mono ?_
                  rintro e h6 ⟨⟨dg, og, cg, rg, sg⟩, rfl, hd, hz, hx⟩
                  have Xh6 := Lib.hid (Ext.trans Xh5.out hx)
                  have Zg := Lib.hid (fun W (hW : Ext h6 W) => (hz.ext hW).mono hW.size)
                  have Sg : Hid (dg.small) := Lib.hid (by simp only at hd; rw [hd]; exact getOf_small (by decide) (by decide) (by decide))
                  unfold encStep
                  simp only
                  clear hd hz hx
                  refine hK.out _ _ ⟨⟨_, Xh6.out⟩, rfl⟩ (fun _ => ?_)
                  clear hK K
                  refine wpAnyH_ready (rs := [16]) (by kernel_rfl) (by simp) ?_
                  refine AllReadyH.cons rfl (fun K hK => ?_) AllReadyH.nil
                  go_simp
                  obtain ⟨h7, hN⟩ : ∃ h7, h7 = h6.alloc (.cells #[.int .i64 dx.cl, .int .i64 dx.nm, .slice ox dx.acts.length cx, .slice rx dx.reads.length sx, .int .i64 tm, .int .i64 tj, .int .i64 dy.cl, .int .i64 dy.nm, .slice oy dy.acts.length cy, .slice ry dy.reads.length sy, .int .i64 ti, .int .i64 tq, .int .i64 dg.cl, .int .i64 dg.nm, .slice og dg.acts.length cg, .slice rg dg.reads.length sg, .int .i64 dg.ca, .int .i64 dg.an] 38) := ⟨_, rfl⟩
                  have Yh7 : Hid (Ext h6 h7) := Lib.hid (by rw [hN]; exact (Below.refl _ h6).alloc (Nat.le_refl _) _)
                  have Xh7 := Lib.hid (Ext.trans Xh6.out Yh7.out)
                  have Bh7 : Hid (Blk h7 h6.heap.size (([⟨⟨dx.cl, dx.nm, dx.acts, dx.reads, tm, tj⟩, ox, cx, rx, sx⟩, ⟨⟨dy.cl, dy.nm, dy.acts, dy.reads, ti, tq⟩, oy, cy, ry, sy⟩, ⟨dg, og, cg, rg, sg⟩] : List StepZ).flatMap encStep) 38) := Lib.hid (by rw [hN]; exact Blk.new h6 _ _)
                  rw [← hN]
                  clear hN
                  refine hK.out _ _ ⟨⟨_, Xh7.out⟩, rfl⟩ (fun _ => ?_)
                  clear hK K
                  refine wpAnyH_ready (rs := [17]) (by kernel_rfl) (by simp) ?_
                  refine AllReadyH.cons rfl (fun K hK => ?_) AllReadyH.nil
                  go_simp
                  refine (ordersB_calls Bh7.out (by simp) (fun z hz => ?_) (fun z hz => ?_) (LVX.out _ (Ext.trans XB.out Xh7.out))).mono ?_
                  · simp only [List.mem_cons, List.not_mem_nil, or_false] at hz
                    rcases hz with rfl | rfl | rfl
                    · exact ZX.out _ Xh7.out
                    · exact ZY.out _ Xh7.out
                    · exact Zg.out _ Yh7.out
                  · simp only [List.mem_cons, List.not_mem_nil, or_false] at hz
                    rcases hz with rfl | rfl | rfl
                    · exact SX.out
                    · exact SY.out
                    · exact Sg.out
                  rintro e h8 ⟨rfl, hx⟩
                  have Xh8 := Lib.hid (Ext.trans Xh7.out hx)
                  clear hx
                  refine hK.out _ _ ⟨⟨_, Xh8.out⟩, rfl⟩ (fun _ => ?_)
                  clear hK K
                  refine wp_takesC (f := 0) [18, 19] (by kernel_rfl) (fun _ _ _ _ h => h) ⟨⟨_, Xh8.out⟩, rfl⟩ ?_
                  simp only [opsAt, List.getElem?_toArray, List.getElem?_cons_succ, List.getElem?_cons_zero]
                  repeat (go_big_quiet_step (fail))
                  refine wpQuiet_nil ?_
                  refine wpAnyH_done (by kernel_rfl) ?_ _
                  clear x0 x1 x2 x3 x4 x5 y0 y1 y2 y3 y4 y5
                  have XF := Lib.hid (Ext.trans X2.out (Ext.trans Yv4.out Xh8.out))
                  go_wp2_with fail
                  exact ⟨⟨j + 1, by omega, by go_num, XF.out⟩, by simp [intOf]; omega⟩
                · have g6 : decide ((j : Int) < (6 : Int)) = false := by simp; omega
                  go_wp2_with fail
                  exact ⟨⟨m + 1, by omega, by go_num, K4.out⟩, by simp [intOf]; omega⟩
            · have g6 : decide ((m : Int) < (6 : Int)) = false := by simp; omega
              go_wp2_with fail
              exact ⟨⟨i + 1, by omega, by go_num, K3.out⟩, by simp [intOf]; omega⟩
    · have g7 : decide ((i : Int) < (7 : Int)) = false := by simp; omega
      go_wp2_with fail
      obtain ⟨a3, hac3, har3⟩ : ∃ a3, wE.cell? ⟨A, 3, none⟩ = some (.slice a3 1 1) ∧ Rows 4 encAct wE.heap.size wE a3 l3 := PD.out.acts 3 l3 rfl
      have AQ := Lib.hid (fun W (hW : Ext wE W) => (hW.cell (p := ⟨A, 3, none⟩) PD.out.lt.1).trans hac3)
      have AR := Lib.hid (fun W (hW : Ext wE W) => (har3.ext hW).mono hW.size)
      clear hac3 har3
      go_loopw [14, 15] (fun v i wr => ∃ (n : Nat) (l : List StepZ) (so : Option Addr) (c : Nat), 1 ≤ n ∧ n ≤ 8 ∧ i = .int .i64 n ∧ v = .slice so l.length c ∧ Hid (l.length = n - 1) ∧ Hid (StepsAt wr so l) ∧ Hid (∀ z ∈ l, z.d.small) ∧ Hid (Ext wE wr)) (fun _ i _ => 8 - (intOf i).toNat)
      case atStart => exact ⟨1, [], none, 0, by omega, by omega, rfl, rfl, Lib.hid rfl, Lib.hid ⟨fun h => absurd rfl h, fun z hz => by cases hz⟩, Lib.hid (fun z hz => by cases hz), Lib.hid K1.out⟩
      case round =>
        obtain ⟨n, l, so, c, hn1, hn8, rfl, rfl, HL, ST, SM, K5⟩ := hrel
        by_cases hlt8 : n < 8
        · obtain ⟨k, hk⟩ : ∃ k, n = k + 1 := ⟨n - 1, by omega⟩
          have hk7 : k < 7 := by omega
          obtain ⟨s, hs100, hsk⟩ := strs_at k hk7
          have n0 : (0 : Int) ≤ (n : Int) := by omega
          have n1 : (1 : Int) ≤ (n : Int) := by omega
          have n8 : (n : Int) < 8 := by omega
          have e1 : (n : Int) - 1 = (k : Int) := by omega
          have e2 : IntKind.i64.wrap ((n : Int) - 1) = (k : Int) := by rw [e1]; exact wrap_i64 (by omega) (by omega)
          have k0 : (0 : Int) ≤ (k : Int) := by omega
          have k7 : (k : Int) < 7 := by omega
          obtain ⟨bb, hbb⟩ : ∃ bb, decide ((1 : Int) < (n : Int)) = bb := ⟨_, rfl⟩
          have HK := Lib.hid hk; have HS100 := Lib.hid hs100
          clear hk hs100
          go_wp2_with fail
          have ac := ExtBy.cell (AQ.out wr K5.out)
          refine wp_region_firstC (fun W => ∃ p : ExtBy wr, W = p.W) [0, 1, 2, 3, 4, 5, 6, 8, 9, 16] 9 (by kernel_rfl) (by kernel_rfl) (fun _ _ _ _ h => h) ⟨⟨wr.drew, (Below.refl _ wr).drew⟩, rfl⟩ ?_
          simp only [opsAt, List.getElem?_toArray, List.getElem?_cons_succ, List.getElem?_cons_zero]
          repeat (go_big_quiet_step (fail))
          refine wpQuiet_nil ?_
          obtain ⟨p1, hN⟩ : ∃ p1, p1 = wr.drew := ⟨_, rfl⟩
          have Xp1 : Hid (Ext wr p1) := Lib.hid (by rw [hN]; exact (Below.refl _ wr).drew)
          rw [← hN]
          clear hN
          refine wpAnyH_ready (rs := [7]) (by kernel_rfl) (by simp) ?_
          refine AllReadyH.cons rfl (fun K hK => ?_) AllReadyH.nil
          go_simp
          obtain ⟨p2, hN⟩ : ∃ p2, p2 = p1.alloc (.cells #[.string ⟨#[]⟩, .string ⟨#[50]⟩, .string ⟨#[52]⟩, .string ⟨#[54]⟩, .string ⟨#[56]⟩, .string ⟨#[49, 48]⟩, .string ⟨#[49, 50]⟩] 9) := ⟨_, rfl⟩
          have Yp2 : Hid (Ext p1 p2) := Lib.hid (by rw [hN]; exact (Below.refl _ p1).alloc (Nat.le_refl _) _)
          have Xp2 := Lib.hid (Ext.trans Xp1.out Yp2.out)
          have Bp2 : Hid (Blk p2 p1.heap.size [.string ⟨#[]⟩, .string ⟨#[50]⟩, .string ⟨#[52]⟩, .string ⟨#[54]⟩, .string ⟨#[56]⟩, .string ⟨#[49, 48]⟩, .string ⟨#[49, 50]⟩] 9) := Lib.hid (by rw [hN]; exact Blk.new p1 _ _)
          rw [← hN]
          clear hN
          refine hK.out _ _ ⟨⟨_, Xp2.out⟩, rfl⟩ (fun _ => ?_)
          clear hK K
          have sc := (Bp2.out.cell k).trans hsk
          refine wp_takesC (f := 7) [10] (by kernel_rfl) (fun _ _ _ _ h => h) ⟨⟨_, Xp2.out⟩, rfl⟩ ?_
          simp only [opsAt, List.getElem?_toArray, List.getElem?_cons_succ, List.getElem?_cons_zero]
          repeat (go_big_quiet_step (fail))
          refine wpQuiet_nil ?_
          refine wpAnyH_ready (rs := [11]) (by kernel_rfl) (by simp) ?_
          refine AllReadyH.cons rfl (fun K hK => ?_) AllReadyH.nil
          go_simp
          refine hK.out _ _ ⟨⟨_, Xp2.out⟩, rfl⟩ (fun _ => ?_)
          clear hK K
          clear sc
          refine wp_takesC (f := 5) [12] (by kernel_rfl) (fun _ _ _ _ h => h) ⟨⟨_, Xp2.out⟩, rfl⟩ ?_
          simp only [opsAt, List.getElem?_toArray, List.getElem?_cons_succ, List.getElem?_cons_zero]
          repeat (go_big_quiet_step (fail))
          refine wpQuiet_nil ?_
          refine wpAnyH_ready (rs := [13]) (by kernel_rfl) (by simp) ?_
          refine AllReadyH.cons rfl (fun K hK => ?_) AllReadyH.nil
          go_simp
          obtain ⟨p3, hN⟩ : ∃ p3, p3 = p2.alloc (.cells #[.string ⟨#[107]⟩, .bool bb, .string s] 78) := ⟨_, rfl⟩
          have Yp3 : Hid (Ext p2 p3) := Lib.hid (by rw [hN]; exact (Below.refl _ p2).alloc (Nat.le_refl _) _)
          have Xp3 := Lib.hid (Ext.trans Xp2.out Yp3.out)
          have Bp3 : Hid (Blk p3 p2.heap.size [.string ⟨#[107]⟩, .bool bb, .string s] 78) := Lib.hid (by rw [hN]; exact Blk.new p2 _ _)
          rw [← hN]
          clear hN
          refine hK.out _ _ ⟨⟨_, Xp3.out⟩, rfl⟩ (fun _ => ?_)
          clear hK K
          refine wp_takesC (f := 3) [14] (by kernel_rfl) (fun _ _ _ _ h => h) ⟨⟨_, Xp3.out⟩, rfl⟩ ?_
          simp only [opsAt, List.getElem?_toArray, List.getElem?_cons_succ, List.getElem?_cons_zero]
          repeat (go_big_quiet_step (fail))
          refine wpQuiet_nil ?_
          refine wpAnyH_ready (rs := [15]) (by kernel_rfl) (by simp) ?_
          refine AllReadyH.cons rfl (fun K hK => ?_) AllReadyH.nil
          go_simp
          obtain ⟨p4, hN⟩ : ∃ p4, p4 = p3.alloc (.cells #[.int .i64 1, .int .i64 n, .slice a3 1 1, .slice (some ⟨p2.heap.size, 0, none⟩) 1 1, .int .i64 0, .int .i64 0] 38) := ⟨_, rfl⟩
          have Yp4 : Hid (Ext p3 p4) := Lib.hid (by rw [hN]; exact (Below.refl _ p3).alloc (Nat.le_refl _) _)
          have Xp4 := Lib.hid (Ext.trans Xp3.out Yp4.out)
          have Bp4 : Hid (Blk p4 p3.heap.size (([⟨⟨1, n, l3, [⟨⟨#[107]⟩, bb, s⟩], 0, 0⟩, a3, 1, some ⟨p2.heap.size, 0, none⟩, 1⟩] : List StepZ).flatMap encStep) 38) := Lib.hid (by rw [hN]; exact Blk.new p3 _ _)
          rw [← hN]
          clear hN
          refine hK.out _ _ ⟨⟨_, Xp4.out⟩, rfl⟩ (fun _ => ?_)
          clear hK K
          obtain ⟨q, hq⟩ : ∃ q : List StepZ, [(⟨⟨1, n, l3, [⟨⟨#[107]⟩, bb, s⟩], 0, 0⟩, a3, 1, some ⟨p2.heap.size, 0, none⟩, 1⟩ : StepZ)] ++ l = q := ⟨_, rfl⟩
          have HQ := Lib.hid hq
          clear hq
          refine wpAnyH_ready (rs := [17]) (by kernel_rfl) (by simp) ?_
          refine AllReadyH.cons rfl (fun K hK => ?_) AllReadyH.nil
          refine step_add_w (by first | rfl | simp [Region.wanted, yielded]) (.tmp 197) (.tmp 198) rfl (base := p3) (acc := [⟨⟨1, n, l3, [⟨⟨#[107]⟩, bb, s⟩], 0, 0⟩, a3, 1, some ⟨p2.heap.size, 0, none⟩, 1⟩]) (l := l) rfl rfl (own_one Bp4.out) (fun j hj => Nat.le_of_eq (Option.some.inj hj)) Yp4.out (((ST.out.1.ext Xp4.out).mono Xp4.out.size)) (by have := HL.out; show 1 + l.length ≤ 1000; omega) q (HQ.out) ?_
          intro sop5 cp5 p5 h1 _ h4
          have Xp5 := Lib.hid (Ext.trans Xp3.out h4); have Yp5 := Lib.hid h4
          have RWp5 := Lib.hid (rows_of_own (enc := encStep) (sz := 6) (fun _ => rfl) h1)
          clear h1 h4
          go_simp
          refine hK.out _ _ ⟨⟨_, Xp5.out⟩, rfl⟩ (fun _ => ?_)
          clear hK K
          refine wp_takesC (f := 0) [18] (by kernel_rfl) (fun _ _ _ _ h => h) ⟨⟨_, Xp5.out⟩, rfl⟩ ?_
          simp only [opsAt, List.getElem?_toArray, List.getElem?_cons_succ, List.getElem?_cons_zero]
          repeat (go_big_quiet_step (fail))
          refine wpQuiet_nil ?_
          refine wpAnyH_done (by kernel_rfl) ?_ _
          clear ac hsk e1 e2 hbb
          have SQ0 : Hid (∀ W, Ext p5 W → StepsAt W sop5 q) := Lib.hid (fun W hW => ⟨(RWp5.out.ext hW).mono hW.size, fun z hz => by
            rw [← HQ.out] at hz
            rcases List.mem_append.1 hz with h | h
            · rw [List.mem_singleton] at h; subst h
              exact ⟨AR.out W (Ext.trans K5.out (Ext.trans Xp5.out hW)), rows_blk (enc := encRd) (sz := 3) (fun _ => rfl) (l := [⟨⟨#[107]⟩, bb, s⟩]) (Bp3.out.ext' (Ext.trans Yp5.out hW)) (by simp)⟩
            · exact ((ST.out.2 z h).ext (Ext.trans Xp5.out hW)).mono (Ext.trans Xp5.out hW).size⟩)
          have SM2 : Hid (∀ z ∈ q, z.d.small) := Lib.hid (fun z hz => by
            rw [← HQ.out] at hz
            rcases List.mem_append.1 hz with h | h
            · rw [List.mem_singleton] at h; subst h
              exact ⟨(actsP_each (i := 3) (la := l3) rfl).1, fun r hr => by rw [List.mem_singleton] at hr; subst hr; exact ⟨by show (1 : Nat) ≤ _; omega, by show s.size ≤ _; have := HS100.out; omega⟩, i64_small (n := 1) (by omega), i64_small (n := (n : Int)) (by omega), i64_small (n := 0) (by omega), i64_small (n := 0) (by omega), by show (1 : Nat) ≤ _; omega, by show (1 : Nat) ≤ _; omega⟩
            · exact SM.out z h)
          have QL : Hid (q.length = n) := Lib.hid (by rw [← HQ.out]; have := HL.out; simp only [List.length_append, List.length_cons, List.length_nil]; omega)
          have XF := Lib.hid (Ext.trans K5.out Xp5.out)
          have XB := Lib.hid (Ext.trans XE.out XF.out)
          obtain ⟨so2, hso⟩ : ∃ so2, so2 = sop5 := ⟨_, rfl⟩
          obtain ⟨c2, hc2⟩ : ∃ c2, c2 = cp5 := ⟨_, rfl⟩
          obtain ⟨wB, hwB⟩ : ∃ wB, wB = p5 := ⟨_, rfl⟩
          have SQ := SQ0
          rw [← hwB, ← hso] at SQ
          rw [← hwB] at XB XF
          rw [← hwB, ← hso, ← hc2]
          clear SQ0 hwB hso hc2
          go_wp2_with fail
          refine (ordersW_calls q so2 c2 wB (by have := QL.out; omega) (SQ.out _ (Below.refl _ _)) SM2.out (LVX.out _ XB.out)).mono ?_
          rintro e v1 ⟨rfl, hx⟩
          have XV1 := Lib.hid hx
          clear hx
          go_wp2_with fail
          refine (getS_calls 3 ⟨#[107]⟩ ⟨#[51]⟩ v1).mono ?_
          rintro e v2 ⟨⟨dg, og, cg, rg, sg⟩, rfl, hd, hz, hx⟩
          have XV2 := Lib.hid (Ext.trans XV1.out hx)
          have Zg := Lib.hid (fun W (hW : Ext v2 W) => (hz.ext hW).mono hW.size)
          have Sg : Hid (dg.small) := Lib.hid (by simp only at hd; rw [hd]; exact getOf_small (by omega) (by decide) (by decide))
          obtain ⟨q2, hq⟩ : ∃ q2 : List StepZ, [(⟨dg, og, cg, rg, sg⟩ : StepZ)] ++ q = q2 := ⟨_, rfl⟩
          have HQ2 := Lib.hid hq
          have XV3 : Hid (Ext v2 (v2.alloc (.cells #[.int .i64 dg.cl, .int .i64 dg.nm, .slice og dg.acts.length cg, .slice rg dg.reads.length sg, .int .i64 dg.ca, .int .i64 dg.an] 38))) := Lib.hid ((Below.refl _ v2).alloc (Nat.le_refl _) _)
          unfold encStep
          simp only
          clear hd hz hx hq
          go_wp2_with (at_builtin; refine wpList_add_w (by first | rfl | simp [Region.wanted, yielded]) (.tmp 205) (.tmp 206) rfl (base := v2) (acc := [⟨dg, og, cg, rg, sg⟩]) (l := q) rfl rfl (own_one (Blk.new v2 _ _)) (fun j hj => Nat.le_of_eq (Option.some.inj hj)) XV3.out (SQ.out _ (Ext.trans XV2.out XV3.out)).1 (by have := QL.out; show 1 + q.length ≤ 1000; omega) q2 HQ2.out ?_; intro so3 c3 v4 h1 _ h4; have YV4 := Lib.hid h4; have XV4 := Lib.hid (Ext.trans XV2.out h4); have RV4 := Lib.hid (rows_of_own (enc := encStep) (sz := 6) (fun _ => rfl) h1); clear h1 h4)
          refine (ordersW_calls q2 so3 c3 v4 (by rw [← HQ2.out]; have := QL.out; simp only [List.length_append, List.length_cons, List.length_nil]; omega) ⟨RV4.out, fun z hz => ?_⟩ (fun z hz => ?_) (LVX.out _ (Ext.trans XB.out XV4.out))).mono ?_
          · rw [← HQ2.out] at hz
            rcases List.mem_append.1 hz with h | h
            · rw [List.mem_singleton] at h; subst h; exact Zg.out _ YV4.out
            · exact (SQ.out _ XV4.out).2 z h
          · rw [← HQ2.out] at hz
            rcases List.mem_append.1 hz with h | h
            · rw [List.mem_singleton] at h; subst h; exact Sg.out
            · exact SM2.out z h
          rintro e v5 ⟨rfl, hx⟩
          have XV5 := Lib.hid (Ext.trans XV4.out hx)
          clear hx
          have XG := Lib.hid (Ext.trans XF.out XV5.out)
          have SQ9 := Lib.hid (SQ.out _ XV5.out)
          go_wp2_with fail
          exact ⟨⟨n + 1, q, so2, c2, by omega, by omega, by go_num, rfl, Lib.hid (by have := QL.out; omega), SQ9, SM2, XG⟩, by simp [intOf]; omega⟩
        · have g8 : decide ((n : Int) < (8 : Int)) = false := by simp; omega
          clear ST SM HL AQ AR
          obtain ⟨a2, hac2, har2⟩ : ∃ a2, wE.cell? ⟨A, 2, none⟩ = some (.slice a2 1 1) ∧ Rows 4 encAct wE.heap.size wE a2 l2 := PD.out.acts 2 l2 rfl
          have AQ := Lib.hid (fun W (hW : Ext wE W) => (hW.cell (p := ⟨A, 2, none⟩) PD.out.lt.1).trans hac2)
          have AR := Lib.hid (fun W (hW : Ext wE W) => (har2.ext hW).mono hW.size)
          clear hac2 har2
          go_wp2_with fail
          go_loopw [16] (fun i wr => ∃ n : Nat, 8 ≤ n ∧ n ≤ 10 ∧ i = .int .i64 n ∧ Ext wE wr) (fun i _ => 10 - (intOf i).toNat)
          case atStart => exact ⟨8, by omega, by omega, rfl, K5.out⟩
          case round =>
            clear K5
            obtain ⟨n, hn8, hn10, rfl, hx⟩ := hrel
            have K6 := Lib.hid hx
            clear hx
            by_cases hlt9 : n < 10
            · have n8 : (8 : Int) ≤ (n : Int) := by omega
              have n9 : (n : Int) < 10 := by omega
              obtain ⟨w6, hw6⟩ : ∃ w6, w6 = wr := ⟨_, rfl⟩
              rw [← hw6] at K6 ⊢
              clear hw6
              go_wp2_with fail
              go_loopw [17, 18] (fun v i wr => ∃ (k : Nat) (l : List StepZ), k ≤ n ∧ i = .int .i64 k ∧ Hid (wr.ownsRow 0 38 6 v l.length (l.flatMap encStep)) ∧ Hid (∀ j, v.ownBlock = some j → w6.heap.size ≤ j) ∧ Hid (l.map (·.d) = manyD k) ∧ Hid (ManyZ a2 l) ∧ Hid (l.length = k) ∧ Hid (Ext w6 wr)) (fun _ i _ => n - (intOf i).toNat)
              case atStart => exact ⟨0, [], by omega, rfl, Lib.hid (World.ownsRow_nil _ _ _ _), Lib.hid (by simp [Value.ownBlock]), Lib.hid rfl, Lib.hid (fun z hz => by cases hz), Lib.hid rfl, Lib.hid (Below.refl _ _)⟩
              case round =>
                obtain ⟨k, l, hkn, rfl, OW, NW, MD, MZ, ML, K7⟩ := hrel
                by_cases hlt7 : k < n
                · have k0 : (0 : Int) ≤ (k : Int) := by omega
                  have k1 : (k : Int) < (n : Int) := by omega
                  have K8 := Lib.hid (Ext.trans K6.out K7.out)
                  have ac := AQ.out wr K8.out
                  obtain ⟨q, hq⟩ : ∃ q : List StepZ, l ++ [(⟨⟨1, (k : Int) + 1, l2, [], 0, 0⟩, a2, 1, none, 0⟩ : StepZ)] = q := ⟨_, rfl⟩
                  have HQ := Lib.hid hq
                  have XN : Hid (Ext wr (wr.alloc (.cells (encStep ⟨⟨1, (k : Int) + 1, l2, [], 0, 0⟩, a2, 1, none, 0⟩).toArray 38))) := Lib.hid ((Below.refl _ wr).alloc (Nat.le_refl _) _)
                  clear hq
                  go_wp2_with (at_builtin; refine wpList_add_w (by first | rfl | simp [Region.wanted, yielded]) (.tmp 220) (.tmp 228) rfl (base := w6) (acc := l) (l := [⟨⟨1, (k : Int) + 1, l2, [], 0, 0⟩, a2, 1, none, 0⟩]) rfl rfl (own_ext OW.out XN.out) NW.out (Ext.trans K7.out XN.out) (rows_one (Blk.new wr (encStep ⟨⟨1, (k : Int) + 1, l2, [], 0, 0⟩, a2, 1, none, 0⟩) _)) (by have := ML.out; show l.length + 1 ≤ 1000; omega) q HQ.out ?_; intro so3 c3 v4 h1 h2 h4; have OV := Lib.hid h1; have NV := Lib.hid h2; have XV := Lib.hid h4; clear h1 h2 h4)
                  clear ac
                  exact ⟨⟨k + 1, q, by omega, by go_num, OV, NV, Lib.hid (by rw [← HQ.out]; exact many_next MD.out), Lib.hid (by
                    rw [← HQ.out]
                    intro z hz
                    rcases List.mem_append.1 hz with h | h
                    · exact MZ.out z h
                    · rw [List.mem_singleton] at h; subst h
                      exact ⟨_, rfl, by omega, by omega⟩), Lib.hid (by rw [← HQ.out]; have := ML.out; simp only [List.length_append, List.length_cons, List.length_nil]; omega), XV⟩, by simp [intOf]; omega⟩
                · have g9 : decide ((k : Int) < (n : Int)) = false := by simp; omega
                  obtain ⟨so, c, rfl, -, -, hrw⟩ := Rows.own (enc := encStep) (sz := 6) (fun _ => rfl) OW.out
                  have RW := Lib.hid hrw
                  clear hrw OW NW
                  have hkn2 : k = n := by omega
                  have KN := Lib.hid hkn2
                  clear hkn2 hkn
                  have K8 := Lib.hid (Ext.trans K6.out K7.out)
                  go_wp2_with fail
                  have SA : Hid (StepsAt wr so l) := Lib.hid ⟨RW.out, fun z hz => by
                    obtain ⟨nm, rfl, -, -⟩ := MZ.out z hz
                    exact ⟨AR.out wr K8.out, fun h => absurd rfl h⟩⟩
                  refine (orderP_calls l so c wr (by have := ML.out; have := KN.out; omega) SA.out (fun z hz => ?_) (LVX.out _ (Ext.trans XE.out K8.out))).mono ?_
                  · obtain ⟨nm, rfl, h0, h1⟩ := MZ.out z hz
                    exact ⟨(actsP_each (i := 2) (la := l2) rfl).1, by show (1 : Nat) ≤ _; omega, by show (0 : Nat) ≤ _; omega, i64_small (n := 1) (by omega), i64_small (n := nm) (by omega), i64_small (n := 0) (by omega), i64_small (n := 0) (by omega)⟩
                  rw [MD.out, KN.out]
                  obtain ⟨od, hod⟩ : ∃ od, orderD (manyD n) = od := ⟨_, rfl⟩
                  rw [hod]
                  rintro e w2 ⟨v, l', rfl, hd, hown, -, -, hx⟩
                  have hlen : l'.length = (od.getD []).length := by rw [← hd, List.length_map]
                  obtain ⟨so', c', rfl, -, -, -⟩ := Rows.own (enc := encStep) (sz := 6) (fun _ => rfl) hown
                  obtain ⟨L, hL⟩ : ∃ L, l'.length = L := ⟨_, rfl⟩
                  obtain ⟨bs, hbs⟩ : ∃ bs, od.isSome = bs := ⟨_, rfl⟩
                  rw [hL, hbs]
                  have X9 := Lib.hid (Ext.trans K8.out hx)
                  have hcase : (n = 8 ∧ bs = true ∧ L = 8) ∨ (n = 9 ∧ bs = false ∧ L = 0) := by
                    rcases (by omega : n = 8 ∨ n = 9) with h | h
                    · rw [h] at hod
                      exact .inl ⟨h, by rw [← hbs, ← hod]; exact order_many.1, by rw [← hL, hlen, ← hod]; exact order_many.2⟩
                    · rw [h, order_none] at hod
                      exact .inr ⟨h, by rw [← hbs, ← hod]; rfl, by rw [← hL, hlen, ← hod]; rfl⟩
                  clear hd hown hx hlen hL hbs hod
                  rcases hcase with ⟨h, rfl, rfl⟩ | ⟨h, rfl, rfl⟩
                  · have s9 : (9 : Int) - (n : Int) = 1 := by omega
                    have e8 : ((n : Int) == 8) = true := by simp; omega
                    clear h
                    go_wp2_with fail
                    exact ⟨⟨n + 1, by omega, by omega, by go_num, X9.out⟩, by simp [intOf]; omega⟩
                  · have s9 : (9 : Int) - (n : Int) = 0 := by omega
                    have e8 : ((n : Int) == 8) = false := by simp; omega
                    clear h
                    go_wp2_with fail
                    exact ⟨⟨n + 1, by omega, by omega, by go_num, X9.out⟩, by simp [intOf]; omega⟩
            · have g9 : decide ((n : Int) < (10 : Int)) = false := by simp; omega
              have XB := Lib.hid (Ext.trans XE.out K6.out)
              clear AQ AR
              go_wp2_with fail
              refine (tellsW_calls [] none 0 wr (by simp) ⟨fun h => absurd rfl h, fun z hz => by cases hz⟩ (fun z hz => by cases hz) (LVX.out _ XB.out)).mono ?_
              rintro e w7 ⟨rfl, hx⟩
              have X7 := Lib.hid (Ext.trans XB.out hx)
              clear hx
              go_wp2_with fail
              refine (ordersW_calls [] none 0 w7 (by simp) ⟨fun h => absurd rfl h, fun z hz => by cases hz⟩ (fun z hz => by cases hz) (LVX.out _ X7.out)).mono ?_
              rintro e w8 ⟨rfl, hx⟩
              have X8 := Lib.hid (Ext.trans X7.out hx)
              clear hx
              go_wp2_with fail
              refine (AW.out _ X8.out).mono ?_
              rintro e w9 ⟨rfl, hx⟩
              have X9 := Lib.hid (Ext.trans X8.out hx)
              clear hx
              go_wp2_with fail
              go_ret
              exact ⟨rfl, X9.out⟩
end Go.Proofs.YtngahblgicjoiaaGreatDoor
