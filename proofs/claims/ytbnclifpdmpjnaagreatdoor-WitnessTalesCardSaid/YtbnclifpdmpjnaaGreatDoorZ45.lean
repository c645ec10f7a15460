/- The kit's flatX, each at no list. -/
import Derived.Laws.OwnMore
import Derived.Test.YtbnclifpdmpjnaaGreatDoorZ25
import Derived.Test.YtbnclifpdmpjnaaGreatDoorZ38
namespace Go.Proofs.YtbnclifpdmpjnaaGreatDoor
open Go.RowKit
theorem infoLimbs : (Tryz.prog.info? 165).map (fun i => (i.zero, i.size, i.bytes)) = some (some (.slice none 0 0), 1, 24) := by kernel_rfl
set_option maxRecDepth 100000 in
theorem nilLimbs (w : World) : Calls Tryz.prog 54 #[.slice none 0 0] w fun e w' => e = .returned (.bool true) ∧ Ext w w' := by
  obtain ⟨i0, hi, hz0, hz1, hz2⟩ := info_parts infoLimbs
  go_enter Tryz.func54, Tryz.ntmps54
  go_wp2_with fail
  go_loopw [3] (fun i wr => i = .int .i64 0 ∧ Ext w wr) (fun _ _ => 0)
  case atStart => exact ⟨rfl, Below.refl _ _⟩
  case round =>
    obtain ⟨rfl, hx⟩ := hrel
    obtain ⟨wm, hmk, -, hg⟩ := run_make_full (P := Tryz.prog) wr 0 88 165 i0 _ 1 Tryz.underlying88 hi hz0 hz1 .i64 .i64 0 (by rw [hz2]; omega) (by unfold maxLen; omega) (Nat.zero_le _)
    have X := Lib.hid (Ext.trans hx (⟨hg.os, hg.tape, hg.output, hg.size, fun k hk => hg.block k hk (fun e => by cases e)⟩ : Ext wr wm))
    clear hx hg hi hz0 hz1 hz2
    simp only [Int.ofNat_zero] at hmk
    go_wp2_with fail
    go_loopw [6] (fun i wr => i = .int .i64 0 ∧ Ext w wr) (fun _ _ => 0)
    case atStart => exact ⟨rfl, X.out⟩
    case round =>
      obtain ⟨rfl, hx⟩ := hrel
      go_wp2_with fail
      go_loopw [9] (fun i wr => i = .int .i64 0 ∧ Ext w wr) (fun _ _ => 0)
      case atStart => exact ⟨rfl, hx⟩
      case round =>
        obtain ⟨rfl, hx⟩ := hrel
        go_wp2_with fail
        go_loopw [11] (fun i wr => i = .int .i64 0 ∧ Ext w wr) (fun _ _ => 0)
        case atStart => exact ⟨rfl, hx⟩
        case round =>
          obtain ⟨rfl, hx⟩ := hrel
          go_wp2_with fail
          go_loopw [14] (fun i wr => i = .int .i64 0 ∧ Ext w wr) (fun _ _ => 0)
          case atStart => exact ⟨rfl, hx⟩
          case round =>
            obtain ⟨rfl, hx⟩ := hrel
            go_wp2_with fail
            go_ret
            exact ⟨rfl, hx⟩
theorem infoWords : (Tryz.prog.info? 167).map (fun i => (i.zero, i.size, i.bytes)) = some (some (.slice none 0 0), 1, 24) := by kernel_rfl
set_option maxRecDepth 100000 in
theorem nilWords (w : World) : Calls Tryz.prog 55 #[.slice none 0 0] w fun e w' => e = .returned (.bool true) ∧ Ext w w' := by
  obtain ⟨i0, hi, hz0, hz1, hz2⟩ := info_parts infoWords
  go_enter Tryz.func55, Tryz.ntmps55
  go_wp2_with fail
  go_loopw [3] (fun i wr => i = .int .i64 0 ∧ Ext w wr) (fun _ _ => 0)
  case atStart => exact ⟨rfl, Below.refl _ _⟩
  case round =>
    obtain ⟨rfl, hx⟩ := hrel
    obtain ⟨wm, hmk, -, hg⟩ := run_make_full (P := Tryz.prog) wr 0 89 167 i0 _ 1 Tryz.underlying89 hi hz0 hz1 .i64 .i64 0 (by rw [hz2]; omega) (by unfold maxLen; omega) (Nat.zero_le _)
    have X := Lib.hid (Ext.trans hx (⟨hg.os, hg.tape, hg.output, hg.size, fun k hk => hg.block k hk (fun e => by cases e)⟩ : Ext wr wm))
    clear hx hg hi hz0 hz1 hz2
    simp only [Int.ofNat_zero] at hmk
    go_wp2_with fail
    go_loopw [6] (fun i wr => i = .int .i64 0 ∧ Ext w wr) (fun _ _ => 0)
    case atStart => exact ⟨rfl, X.out⟩
    case round =>
      obtain ⟨rfl, hx⟩ := hrel
      go_wp2_with fail
      go_loopw [9] (fun i wr => i = .int .i64 0 ∧ Ext w wr) (fun _ _ => 0)
      case atStart => exact ⟨rfl, hx⟩
      case round =>
        obtain ⟨rfl, hx⟩ := hrel
        go_wp2_with fail
        go_loopw [11] (fun i wr => i = .int .i64 0 ∧ Ext w wr) (fun _ _ => 0)
        case atStart => exact ⟨rfl, hx⟩
        case round =>
          obtain ⟨rfl, hx⟩ := hrel
          go_wp2_with fail
          go_loopw [14] (fun i wr => i = .int .i64 0 ∧ Ext w wr) (fun _ _ => 0)
          case atStart => exact ⟨rfl, hx⟩
          case round =>
            obtain ⟨rfl, hx⟩ := hrel
            go_wp2_with fail
            go_ret
            exact ⟨rfl, hx⟩
theorem infoInts : (Tryz.prog.info? 59).map (fun i => (i.zero, i.size, i.bytes)) = some (some (.slice none 0 0), 1, 24) := by kernel_rfl
set_option maxRecDepth 100000 in
theorem nilInts (w : World) : Calls Tryz.prog 56 #[.slice none 0 0] w fun e w' => e = .returned (.bool true) ∧ Ext w w' := by
  obtain ⟨i0, hi, hz0, hz1, hz2⟩ := info_parts infoInts
  go_enter Tryz.func56, Tryz.ntmps56
  go_wp2_with fail
  go_loopw [3] (fun i wr => i = .int .i64 0 ∧ Ext w wr) (fun _ _ => 0)
  case atStart => exact ⟨rfl, Below.refl _ _⟩
  case round =>
    obtain ⟨rfl, hx⟩ := hrel
    obtain ⟨wm, hmk, -, hg⟩ := run_make_full (P := Tryz.prog) wr 0 90 59 i0 _ 1 Tryz.underlying90 hi hz0 hz1 .i64 .i64 0 (by rw [hz2]; omega) (by unfold maxLen; omega) (Nat.zero_le _)
    have X := Lib.hid (Ext.trans hx (⟨hg.os, hg.tape, hg.output, hg.size, fun k hk => hg.block k hk (fun e => by cases e)⟩ : Ext wr wm))
    clear hx hg hi hz0 hz1 hz2
    simp only [Int.ofNat_zero] at hmk
    go_wp2_with fail
    go_loopw [6] (fun i wr => i = .int .i64 0 ∧ Ext w wr) (fun _ _ => 0)
    case atStart => exact ⟨rfl, X.out⟩
    case round =>
      obtain ⟨rfl, hx⟩ := hrel
      go_wp2_with fail
      go_loopw [9] (fun i wr => i = .int .i64 0 ∧ Ext w wr) (fun _ _ => 0)
      case atStart => exact ⟨rfl, hx⟩
      case round =>
        obtain ⟨rfl, hx⟩ := hrel
        go_wp2_with fail
        go_loopw [11] (fun i wr => i = .int .i64 0 ∧ Ext w wr) (fun _ _ => 0)
        case atStart => exact ⟨rfl, hx⟩
        case round =>
          obtain ⟨rfl, hx⟩ := hrel
          go_wp2_with fail
          go_loopw [14] (fun i wr => i = .int .i64 0 ∧ Ext w wr) (fun _ _ => 0)
          case atStart => exact ⟨rfl, hx⟩
          case round =>
            obtain ⟨rfl, hx⟩ := hrel
            go_wp2_with fail
            go_ret
            exact ⟨rfl, hx⟩
theorem infoLongs : (Tryz.prog.info? 169).map (fun i => (i.zero, i.size, i.bytes)) = some (some (.slice none 0 0), 1, 24) := by kernel_rfl
set_option maxRecDepth 100000 in
theorem nilLongs (w : World) : Calls Tryz.prog 57 #[.slice none 0 0] w fun e w' => e = .returned (.bool true) ∧ Ext w w' := by
  obtain ⟨i0, hi, hz0, hz1, hz2⟩ := info_parts infoLongs
  go_enter Tryz.func57, Tryz.ntmps57
  go_wp2_with fail
  go_loopw [3] (fun i wr => i = .int .i64 0 ∧ Ext w wr) (fun _ _ => 0)
  case atStart => exact ⟨rfl, Below.refl _ _⟩
  case round =>
    obtain ⟨rfl, hx⟩ := hrel
    obtain ⟨wm, hmk, -, hg⟩ := run_make_full (P := Tryz.prog) wr 0 91 169 i0 _ 1 Tryz.underlying91 hi hz0 hz1 .i64 .i64 0 (by rw [hz2]; omega) (by unfold maxLen; omega) (Nat.zero_le _)
    have X := Lib.hid (Ext.trans hx (⟨hg.os, hg.tape, hg.output, hg.size, fun k hk => hg.block k hk (fun e => by cases e)⟩ : Ext wr wm))
    clear hx hg hi hz0 hz1 hz2
    simp only [Int.ofNat_zero] at hmk
    go_wp2_with fail
    go_loopw [6] (fun i wr => i = .int .i64 0 ∧ Ext w wr) (fun _ _ => 0)
    case atStart => exact ⟨rfl, X.out⟩
    case round =>
      obtain ⟨rfl, hx⟩ := hrel
      go_wp2_with fail
      go_loopw [9] (fun i wr => i = .int .i64 0 ∧ Ext w wr) (fun _ _ => 0)
      case atStart => exact ⟨rfl, hx⟩
      case round =>
        obtain ⟨rfl, hx⟩ := hrel
        go_wp2_with fail
        go_loopw [11] (fun i wr => i = .int .i64 0 ∧ Ext w wr) (fun _ _ => 0)
        case atStart => exact ⟨rfl, hx⟩
        case round =>
          obtain ⟨rfl, hx⟩ := hrel
          go_wp2_with fail
          go_loopw [14] (fun i wr => i = .int .i64 0 ∧ Ext w wr) (fun _ _ => 0)
          case atStart => exact ⟨rfl, hx⟩
          case round =>
            obtain ⟨rfl, hx⟩ := hrel
            go_wp2_with fail
            go_ret
            exact ⟨rfl, hx⟩
theorem infoTexts : (Tryz.prog.info? 170).map (fun i => (i.zero, i.size, i.bytes)) = some (some (.slice none 0 0), 1, 24) := by kernel_rfl
set_option maxRecDepth 100000 in
theorem nilTexts (w : World) : Calls Tryz.prog 58 #[.slice none 0 0] w fun e w' => e = .returned (.bool true) ∧ Ext w w' := by
  obtain ⟨i0, hi, hz0, hz1, hz2⟩ := info_parts infoTexts
  go_enter Tryz.func58, Tryz.ntmps58
  go_wp2_with fail
  go_loopw [3] (fun i wr => i = .int .i64 0 ∧ Ext w wr) (fun _ _ => 0)
  case atStart => exact ⟨rfl, Below.refl _ _⟩
  case round =>
    obtain ⟨rfl, hx⟩ := hrel
    obtain ⟨wm, hmk, -, hg⟩ := run_make_full (P := Tryz.prog) wr 0 92 170 i0 _ 1 Tryz.underlying92 hi hz0 hz1 .i64 .i64 0 (by rw [hz2]; omega) (by unfold maxLen; omega) (Nat.zero_le _)
    have X := Lib.hid (Ext.trans hx (⟨hg.os, hg.tape, hg.output, hg.size, fun k hk => hg.block k hk (fun e => by cases e)⟩ : Ext wr wm))
    clear hx hg hi hz0 hz1 hz2
    simp only [Int.ofNat_zero] at hmk
    go_wp2_with fail
    go_loopw [6] (fun i wr => i = .int .i64 0 ∧ Ext w wr) (fun _ _ => 0)
    case atStart => exact ⟨rfl, X.out⟩
    case round =>
      obtain ⟨rfl, hx⟩ := hrel
      go_wp2_with fail
      go_loopw [9] (fun i wr => i = .int .i64 0 ∧ Ext w wr) (fun _ _ => 0)
      case atStart => exact ⟨rfl, hx⟩
      case round =>
        obtain ⟨rfl, hx⟩ := hrel
        go_wp2_with fail
        go_loopw [11] (fun i wr => i = .int .i64 0 ∧ Ext w wr) (fun _ _ => 0)
        case atStart => exact ⟨rfl, hx⟩
        case round =>
          obtain ⟨rfl, hx⟩ := hrel
          go_wp2_with fail
          go_loopw [14] (fun i wr => i = .int .i64 0 ∧ Ext w wr) (fun _ _ => 0)
          case atStart => exact ⟨rfl, hx⟩
          case round =>
            obtain ⟨rfl, hx⟩ := hrel
            go_wp2_with fail
            go_ret
            exact ⟨rfl, hx⟩
theorem infoBytes : (Tryz.prog.info? 37).map (fun i => (i.zero, i.size, i.bytes)) = some (some (.slice none 0 0), 1, 24) := by kernel_rfl
set_option maxRecDepth 100000 in
theorem nilBytes (w : World) : Calls Tryz.prog 59 #[.slice none 0 0] w fun e w' => e = .returned (.bool true) ∧ Ext w w' := by
  obtain ⟨i0, hi, hz0, hz1, hz2⟩ := info_parts infoBytes
  go_enter Tryz.func59, Tryz.ntmps59
  go_wp2_with fail
  go_loopw [3] (fun i wr => i = .int .i64 0 ∧ Ext w wr) (fun _ _ => 0)
  case atStart => exact ⟨rfl, Below.refl _ _⟩
  case round =>
    obtain ⟨rfl, hx⟩ := hrel
    obtain ⟨wm, hmk, -, hg⟩ := run_make_full (P := Tryz.prog) wr 0 93 37 i0 _ 1 Tryz.underlying93 hi hz0 hz1 .i64 .i64 0 (by rw [hz2]; omega) (by unfold maxLen; omega) (Nat.zero_le _)
    have X := Lib.hid (Ext.trans hx (⟨hg.os, hg.tape, hg.output, hg.size, fun k hk => hg.block k hk (fun e => by cases e)⟩ : Ext wr wm))
    clear hx hg hi hz0 hz1 hz2
    simp only [Int.ofNat_zero] at hmk
    go_wp2_with fail
    go_loopw [6] (fun i wr => i = .int .i64 0 ∧ Ext w wr) (fun _ _ => 0)
    case atStart => exact ⟨rfl, X.out⟩
    case round =>
      obtain ⟨rfl, hx⟩ := hrel
      go_wp2_with fail
      go_loopw [9] (fun i wr => i = .int .i64 0 ∧ Ext w wr) (fun _ _ => 0)
      case atStart => exact ⟨rfl, hx⟩
      case round =>
        obtain ⟨rfl, hx⟩ := hrel
        go_wp2_with fail
        go_loopw [11] (fun i wr => i = .int .i64 0 ∧ Ext w wr) (fun _ _ => 0)
        case atStart => exact ⟨rfl, hx⟩
        case round =>
          obtain ⟨rfl, hx⟩ := hrel
          go_wp2_with fail
          go_loopw [14] (fun i wr => i = .int .i64 0 ∧ Ext w wr) (fun _ _ => 0)
          case atStart => exact ⟨rfl, hx⟩
          case round =>
            obtain ⟨rfl, hx⟩ := hrel
            go_wp2_with fail
            go_ret
            exact ⟨rfl, hx⟩
theorem infoTruths : (Tryz.prog.info? 172).map (fun i => (i.zero, i.size, i.bytes)) = some (some (.slice none 0 0), 1, 24) := by kernel_rfl
set_option maxRecDepth 100000 in
theorem nilTruths (w : World) : Calls Tryz.prog 60 #[.slice none 0 0] w fun e w' => e = .returned (.bool true) ∧ Ext w w' := by
  obtain ⟨i0, hi, hz0, hz1, hz2⟩ := info_parts infoTruths
  go_enter Tryz.func60, Tryz.ntmps60
  go_wp2_with fail
  go_loopw [3] (fun i wr => i = .int .i64 0 ∧ Ext w wr) (fun _ _ => 0)
  case atStart => exact ⟨rfl, Below.refl _ _⟩
  case round =>
    obtain ⟨rfl, hx⟩ := hrel
    obtain ⟨wm, hmk, -, hg⟩ := run_make_full (P := Tryz.prog) wr 0 94 172 i0 _ 1 Tryz.underlying94 hi hz0 hz1 .i64 .i64 0 (by rw [hz2]; omega) (by unfold maxLen; omega) (Nat.zero_le _)
    have X := Lib.hid (Ext.trans hx (⟨hg.os, hg.tape, hg.output, hg.size, fun k hk => hg.block k hk (fun e => by cases e)⟩ : Ext wr wm))
    clear hx hg hi hz0 hz1 hz2
    simp only [Int.ofNat_zero] at hmk
    go_wp2_with fail
    go_loopw [6] (fun i wr => i = .int .i64 0 ∧ Ext w wr) (fun _ _ => 0)
    case atStart => exact ⟨rfl, X.out⟩
    case round =>
      obtain ⟨rfl, hx⟩ := hrel
      go_wp2_with fail
      go_loopw [9] (fun i wr => i = .int .i64 0 ∧ Ext w wr) (fun _ _ => 0)
      case atStart => exact ⟨rfl, hx⟩
      case round =>
        obtain ⟨rfl, hx⟩ := hrel
        go_wp2_with fail
        go_loopw [11] (fun i wr => i = .int .i64 0 ∧ Ext w wr) (fun _ _ => 0)
        case atStart => exact ⟨rfl, hx⟩
        case round =>
          obtain ⟨rfl, hx⟩ := hrel
          go_wp2_with fail
          go_loopw [14] (fun i wr => i = .int .i64 0 ∧ Ext w wr) (fun _ _ => 0)
          case atStart => exact ⟨rfl, hx⟩
          case round =>
            obtain ⟨rfl, hx⟩ := hrel
            go_wp2_with fail
            go_ret
            exact ⟨rfl, hx⟩
theorem infoSpans : (Tryz.prog.info? 173).map (fun i => (i.zero, i.size, i.bytes)) = some (some (.slice none 0 0), 1, 24) := by kernel_rfl
set_option maxRecDepth 100000 in
theorem nilSpans (w : World) : Calls Tryz.prog 61 #[.slice none 0 0] w fun e w' => e = .returned (.bool true) ∧ Ext w w' := by
  obtain ⟨i0, hi, hz0, hz1, hz2⟩ := info_parts infoSpans
  go_enter Tryz.func61, Tryz.ntmps61
  go_wp2_with fail
  go_loopw [3] (fun i wr => i = .int .i64 0 ∧ Ext w wr) (fun _ _ => 0)
  case atStart => exact ⟨rfl, Below.refl _ _⟩
  case round =>
    obtain ⟨rfl, hx⟩ := hrel
    obtain ⟨wm, hmk, -, hg⟩ := run_make_full (P := Tryz.prog) wr 0 95 173 i0 _ 1 Tryz.underlying95 hi hz0 hz1 .i64 .i64 0 (by rw [hz2]; omega) (by unfold maxLen; omega) (Nat.zero_le _)
    have X := Lib.hid (Ext.trans hx (⟨hg.os, hg.tape, hg.output, hg.size, fun k hk => hg.block k hk (fun e => by cases e)⟩ : Ext wr wm))
    clear hx hg hi hz0 hz1 hz2
    simp only [Int.ofNat_zero] at hmk
    go_wp2_with fail
    go_loopw [6] (fun i wr => i = .int .i64 0 ∧ Ext w wr) (fun _ _ => 0)
    case atStart => exact ⟨rfl, X.out⟩
    case round =>
      obtain ⟨rfl, hx⟩ := hrel
      go_wp2_with fail
      go_loopw [9] (fun i wr => i = .int .i64 0 ∧ Ext w wr) (fun _ _ => 0)
      case atStart => exact ⟨rfl, hx⟩
      case round =>
        obtain ⟨rfl, hx⟩ := hrel
        go_wp2_with fail
        go_loopw [11] (fun i wr => i = .int .i64 0 ∧ Ext w wr) (fun _ _ => 0)
        case atStart => exact ⟨rfl, hx⟩
        case round =>
          obtain ⟨rfl, hx⟩ := hrel
          go_wp2_with fail
          go_loopw [14] (fun i wr => i = .int .i64 0 ∧ Ext w wr) (fun _ _ => 0)
          case atStart => exact ⟨rfl, hx⟩
          case round =>
            obtain ⟨rfl, hx⟩ := hrel
            go_wp2_with fail
            go_ret
            exact ⟨rfl, hx⟩
theorem infoShareRows : (Tryz.prog.info? 34).map (fun i => (i.zero, i.size, i.bytes)) = some (some (.slice none 0 0), 1, 24) := by kernel_rfl
set_option maxRecDepth 100000 in
theorem nilShareRows (w : World) : Calls Tryz.prog 62 #[.slice none 0 0] w fun e w' => e = .returned (.bool true) ∧ Ext w w' := by
  obtain ⟨i0, hi, hz0, hz1, hz2⟩ := info_parts infoShareRows
  go_enter Tryz.func62, Tryz.ntmps62
  go_wp2_with fail
  go_loopw [3] (fun i wr => i = .int .i64 0 ∧ Ext w wr) (fun _ _ => 0)
  case atStart => exact ⟨rfl, Below.refl _ _⟩
  case round =>
    obtain ⟨rfl, hx⟩ := hrel
    obtain ⟨wm, hmk, -, hg⟩ := run_make_full (P := Tryz.prog) wr 0 96 34 i0 _ 1 Tryz.underlying96 hi hz0 hz1 .i64 .i64 0 (by rw [hz2]; omega) (by unfold maxLen; omega) (Nat.zero_le _)
    have X := Lib.hid (Ext.trans hx (⟨hg.os, hg.tape, hg.output, hg.size, fun k hk => hg.block k hk (fun e => by cases e)⟩ : Ext wr wm))
    clear hx hg hi hz0 hz1 hz2
    simp only [Int.ofNat_zero] at hmk
    go_wp2_with fail
    go_loopw [6] (fun i wr => i = .int .i64 0 ∧ Ext w wr) (fun _ _ => 0)
    case atStart => exact ⟨rfl, X.out⟩
    case round =>
      obtain ⟨rfl, hx⟩ := hrel
      go_wp2_with fail
      go_loopw [9] (fun i wr => i = .int .i64 0 ∧ Ext w wr) (fun _ _ => 0)
      case atStart => exact ⟨rfl, hx⟩
      case round =>
        obtain ⟨rfl, hx⟩ := hrel
        go_wp2_with fail
        go_loopw [11] (fun i wr => i = .int .i64 0 ∧ Ext w wr) (fun _ _ => 0)
        case atStart => exact ⟨rfl, hx⟩
        case round =>
          obtain ⟨rfl, hx⟩ := hrel
          go_wp2_with fail
          go_loopw [14] (fun i wr => i = .int .i64 0 ∧ Ext w wr) (fun _ _ => 0)
          case atStart => exact ⟨rfl, hx⟩
          case round =>
            obtain ⟨rfl, hx⟩ := hrel
            go_wp2_with fail
            go_ret
            exact ⟨rfl, hx⟩
theorem infoSharesRows : (Tryz.prog.info? 178).map (fun i => (i.zero, i.size, i.bytes)) = some (some (.slice none 0 0), 1, 24) := by kernel_rfl
set_option maxRecDepth 100000 in
theorem nilSharesRows (w : World) : Calls Tryz.prog 63 #[.slice none 0 0] w fun e w' => e = .returned (.bool true) ∧ Ext w w' := by
  obtain ⟨i0, hi, hz0, hz1, hz2⟩ := info_parts infoSharesRows
  go_enter Tryz.func63, Tryz.ntmps63
  go_wp2_with fail
  go_loopw [3] (fun i wr => i = .int .i64 0 ∧ Ext w wr) (fun _ _ => 0)
  case atStart => exact ⟨rfl, Below.refl _ _⟩
  case round =>
    obtain ⟨rfl, hx⟩ := hrel
    obtain ⟨wm, hmk, -, hg⟩ := run_make_full (P := Tryz.prog) wr 0 97 178 i0 _ 1 Tryz.underlying97 hi hz0 hz1 .i64 .i64 0 (by rw [hz2]; omega) (by unfold maxLen; omega) (Nat.zero_le _)
    have X := Lib.hid (Ext.trans hx (⟨hg.os, hg.tape, hg.output, hg.size, fun k hk => hg.block k hk (fun e => by cases e)⟩ : Ext wr wm))
    clear hx hg hi hz0 hz1 hz2
    simp only [Int.ofNat_zero] at hmk
    go_wp2_with fail
    go_loopw [6] (fun i wr => i = .int .i64 0 ∧ Ext w wr) (fun _ _ => 0)
    case atStart => exact ⟨rfl, X.out⟩
    case round =>
      obtain ⟨rfl, hx⟩ := hrel
      go_wp2_with fail
      go_loopw [9] (fun i wr => i = .int .i64 0 ∧ Ext w wr) (fun _ _ => 0)
      case atStart => exact ⟨rfl, hx⟩
      case round =>
        obtain ⟨rfl, hx⟩ := hrel
        go_wp2_with fail
        go_loopw [11] (fun i wr => i = .int .i64 0 ∧ Ext w wr) (fun _ _ => 0)
        case atStart => exact ⟨rfl, hx⟩
        case round =>
          obtain ⟨rfl, hx⟩ := hrel
          go_wp2_with fail
          go_loopw [14] (fun i wr => i = .int .i64 0 ∧ Ext w wr) (fun _ _ => 0)
          case atStart => exact ⟨rfl, hx⟩
          case round =>
            obtain ⟨rfl, hx⟩ := hrel
            go_wp2_with fail
            go_ret
            exact ⟨rfl, hx⟩
theorem infoNames : (Tryz.prog.info? 181).map (fun i => (i.zero, i.size, i.bytes)) = some (some (.slice none 0 0), 1, 24) := by kernel_rfl
set_option maxRecDepth 100000 in
theorem nilNames (w : World) : Calls Tryz.prog 64 #[.slice none 0 0] w fun e w' => e = .returned (.bool true) ∧ Ext w w' := by
  obtain ⟨i0, hi, hz0, hz1, hz2⟩ := info_parts infoNames
  go_enter Tryz.func64, Tryz.ntmps64
  go_wp2_with fail
  go_loopw [3] (fun i wr => i = .int .i64 0 ∧ Ext w wr) (fun _ _ => 0)
  case atStart => exact ⟨rfl, Below.refl _ _⟩
  case round =>
    obtain ⟨rfl, hx⟩ := hrel
    obtain ⟨wm, hmk, -, hg⟩ := run_make_full (P := Tryz.prog) wr 0 98 181 i0 _ 1 Tryz.underlying98 hi hz0 hz1 .i64 .i64 0 (by rw [hz2]; omega) (by unfold maxLen; omega) (Nat.zero_le _)
    have X := Lib.hid (Ext.trans hx (⟨hg.os, hg.tape, hg.output, hg.size, fun k hk => hg.block k hk (fun e => by cases e)⟩ : Ext wr wm))
    clear hx hg hi hz0 hz1 hz2
    simp only [Int.ofNat_zero] at hmk
    go_wp2_with fail
    go_loopw [6] (fun i wr => i = .int .i64 0 ∧ Ext w wr) (fun _ _ => 0)
    case atStart => exact ⟨rfl, X.out⟩
    case round =>
      obtain ⟨rfl, hx⟩ := hrel
      go_wp2_with fail
      go_loopw [9] (fun i wr => i = .int .i64 0 ∧ Ext w wr) (fun _ _ => 0)
      case atStart => exact ⟨rfl, hx⟩
      case round =>
        obtain ⟨rfl, hx⟩ := hrel
        go_wp2_with fail
        go_loopw [11] (fun i wr => i = .int .i64 0 ∧ Ext w wr) (fun _ _ => 0)
        case atStart => exact ⟨rfl, hx⟩
        case round =>
          obtain ⟨rfl, hx⟩ := hrel
          go_wp2_with fail
          go_loopw [14] (fun i wr => i = .int .i64 0 ∧ Ext w wr) (fun _ _ => 0)
          case atStart => exact ⟨rfl, hx⟩
          case round =>
            obtain ⟨rfl, hx⟩ := hrel
            go_wp2_with fail
            go_ret
            exact ⟨rfl, hx⟩
theorem infoActs : (Tryz.prog.info? 27).map (fun i => (i.zero, i.size, i.bytes)) = some (some (.slice none 0 0), 1, 24) := by kernel_rfl
set_option maxRecDepth 100000 in
theorem nilActs (w : World) : Calls Tryz.prog 65 #[.slice none 0 0] w fun e w' => e = .returned (.bool true) ∧ Ext w w' := by
  obtain ⟨i0, hi, hz0, hz1, hz2⟩ := info_parts infoActs
  go_enter Tryz.func65, Tryz.ntmps65
  go_wp2_with fail
  go_loopw [3] (fun i wr => i = .int .i64 0 ∧ Ext w wr) (fun _ _ => 0)
  case atStart => exact ⟨rfl, Below.refl _ _⟩
  case round =>
    obtain ⟨rfl, hx⟩ := hrel
    obtain ⟨wm, hmk, -, hg⟩ := run_make_full (P := Tryz.prog) wr 0 48 27 i0 _ 1 Tryz.underlying48 hi hz0 hz1 .i64 .i64 0 (by rw [hz2]; omega) (by unfold maxLen; omega) (Nat.zero_le _)
    have X := Lib.hid (Ext.trans hx (⟨hg.os, hg.tape, hg.output, hg.size, fun k hk => hg.block k hk (fun e => by cases e)⟩ : Ext wr wm))
    clear hx hg hi hz0 hz1 hz2
    simp only [Int.ofNat_zero] at hmk
    go_wp2_with fail
    go_loopw [6] (fun i wr => i = .int .i64 0 ∧ Ext w wr) (fun _ _ => 0)
    case atStart => exact ⟨rfl, X.out⟩
    case round =>
      obtain ⟨rfl, hx⟩ := hrel
      go_wp2_with fail
      go_loopw [9] (fun i wr => i = .int .i64 0 ∧ Ext w wr) (fun _ _ => 0)
      case atStart => exact ⟨rfl, hx⟩
      case round =>
        obtain ⟨rfl, hx⟩ := hrel
        go_wp2_with fail
        go_loopw [11] (fun i wr => i = .int .i64 0 ∧ Ext w wr) (fun _ _ => 0)
        case atStart => exact ⟨rfl, hx⟩
        case round =>
          obtain ⟨rfl, hx⟩ := hrel
          go_wp2_with fail
          go_loopw [14] (fun i wr => i = .int .i64 0 ∧ Ext w wr) (fun _ _ => 0)
          case atStart => exact ⟨rfl, hx⟩
          case round =>
            obtain ⟨rfl, hx⟩ := hrel
            go_wp2_with fail
            go_ret
            exact ⟨rfl, hx⟩
theorem infoReads : (Tryz.prog.info? 28).map (fun i => (i.zero, i.size, i.bytes)) = some (some (.slice none 0 0), 1, 24) := by kernel_rfl
set_option maxRecDepth 100000 in
theorem nilReads (w : World) : Calls Tryz.prog 66 #[.slice none 0 0] w fun e w' => e = .returned (.bool true) ∧ Ext w w' := by
  obtain ⟨i0, hi, hz0, hz1, hz2⟩ := info_parts infoReads
  go_enter Tryz.func66, Tryz.ntmps66
  go_wp2_with fail
  go_loopw [3] (fun i wr => i = .int .i64 0 ∧ Ext w wr) (fun _ _ => 0)
  case atStart => exact ⟨rfl, Below.refl _ _⟩
  case round =>
    obtain ⟨rfl, hx⟩ := hrel
    obtain ⟨wm, hmk, -, hg⟩ := run_make_full (P := Tryz.prog) wr 0 49 28 i0 _ 1 Tryz.underlying49 hi hz0 hz1 .i64 .i64 0 (by rw [hz2]; omega) (by unfold maxLen; omega) (Nat.zero_le _)
    have X := Lib.hid (Ext.trans hx (⟨hg.os, hg.tape, hg.output, hg.size, fun k hk => hg.block k hk (fun e => by cases e)⟩ : Ext wr wm))
    clear hx hg hi hz0 hz1 hz2
    simp only [Int.ofNat_zero] at hmk
    go_wp2_with fail
    go_loopw [6] (fun i wr => i = .int .i64 0 ∧ Ext w wr) (fun _ _ => 0)
    case atStart => exact ⟨rfl, X.out⟩
    case round =>
      obtain ⟨rfl, hx⟩ := hrel
      go_wp2_with fail
      go_loopw [9] (fun i wr => i = .int .i64 0 ∧ Ext w wr) (fun _ _ => 0)
      case atStart => exact ⟨rfl, hx⟩
      case round =>
        obtain ⟨rfl, hx⟩ := hrel
        go_wp2_with fail
        go_loopw [11] (fun i wr => i = .int .i64 0 ∧ Ext w wr) (fun _ _ => 0)
        case atStart => exact ⟨rfl, hx⟩
        case round =>
          obtain ⟨rfl, hx⟩ := hrel
          go_wp2_with fail
          go_loopw [14] (fun i wr => i = .int .i64 0 ∧ Ext w wr) (fun _ _ => 0)
          case atStart => exact ⟨rfl, hx⟩
          case round =>
            obtain ⟨rfl, hx⟩ := hrel
            go_wp2_with fail
            go_ret
            exact ⟨rfl, hx⟩
theorem infoLines : (Tryz.prog.info? 151).map (fun i => (i.zero, i.size, i.bytes)) = some (some (.slice none 0 0), 1, 24) := by kernel_rfl
set_option maxRecDepth 100000 in
theorem nilLines (w : World) : Calls Tryz.prog 67 #[.slice none 0 0] w fun e w' => e = .returned (.bool true) ∧ Ext w w' := by
  obtain ⟨i0, hi, hz0, hz1, hz2⟩ := info_parts infoLines
  go_enter Tryz.func67, Tryz.ntmps67
  go_wp2_with fail
  go_loopw [3] (fun i wr => i = .int .i64 0 ∧ Ext w wr) (fun _ _ => 0)
  case atStart => exact ⟨rfl, Below.refl _ _⟩
  case round =>
    obtain ⟨rfl, hx⟩ := hrel
    obtain ⟨wm, hmk, -, hg⟩ := run_make_full (P := Tryz.prog) wr 0 99 151 i0 _ 1 Tryz.underlying99 hi hz0 hz1 .i64 .i64 0 (by rw [hz2]; omega) (by unfold maxLen; omega) (Nat.zero_le _)
    have X := Lib.hid (Ext.trans hx (⟨hg.os, hg.tape, hg.output, hg.size, fun k hk => hg.block k hk (fun e => by cases e)⟩ : Ext wr wm))
    clear hx hg hi hz0 hz1 hz2
    simp only [Int.ofNat_zero] at hmk
    go_wp2_with fail
    go_loopw [6] (fun i wr => i = .int .i64 0 ∧ Ext w wr) (fun _ _ => 0)
    case atStart => exact ⟨rfl, X.out⟩
    case round =>
      obtain ⟨rfl, hx⟩ := hrel
      go_wp2_with fail
      go_loopw [9] (fun i wr => i = .int .i64 0 ∧ Ext w wr) (fun _ _ => 0)
      case atStart => exact ⟨rfl, hx⟩
      case round =>
        obtain ⟨rfl, hx⟩ := hrel
        go_wp2_with fail
        go_loopw [11] (fun i wr => i = .int .i64 0 ∧ Ext w wr) (fun _ _ => 0)
        case atStart => exact ⟨rfl, hx⟩
        case round =>
          obtain ⟨rfl, hx⟩ := hrel
          go_wp2_with fail
          go_loopw [14] (fun i wr => i = .int .i64 0 ∧ Ext w wr) (fun _ _ => 0)
          case atStart => exact ⟨rfl, hx⟩
          case round =>
            obtain ⟨rfl, hx⟩ := hrel
            go_wp2_with fail
            go_ret
            exact ⟨rfl, hx⟩
theorem infoHolds : (Tryz.prog.info? 186).map (fun i => (i.zero, i.size, i.bytes)) = some (some (.slice none 0 0), 1, 24) := by kernel_rfl
set_option maxRecDepth 100000 in
theorem nilHolds (w : World) : Calls Tryz.prog 68 #[.slice none 0 0] w fun e w' => e = .returned (.bool true) ∧ Ext w w' := by
  obtain ⟨i0, hi, hz0, hz1, hz2⟩ := info_parts infoHolds
  go_enter Tryz.func68, Tryz.ntmps68
  go_wp2_with fail
  go_loopw [3] (fun i wr => i = .int .i64 0 ∧ Ext w wr) (fun _ _ => 0)
  case atStart => exact ⟨rfl, Below.refl _ _⟩
  case round =>
    obtain ⟨rfl, hx⟩ := hrel
    obtain ⟨wm, hmk, -, hg⟩ := run_make_full (P := Tryz.prog) wr 0 100 186 i0 _ 1 Tryz.underlying100 hi hz0 hz1 .i64 .i64 0 (by rw [hz2]; omega) (by unfold maxLen; omega) (Nat.zero_le _)
    have X := Lib.hid (Ext.trans hx (⟨hg.os, hg.tape, hg.output, hg.size, fun k hk => hg.block k hk (fun e => by cases e)⟩ : Ext wr wm))
    clear hx hg hi hz0 hz1 hz2
    simp only [Int.ofNat_zero] at hmk
    go_wp2_with fail
    go_loopw [6] (fun i wr => i = .int .i64 0 ∧ Ext w wr) (fun _ _ => 0)
    case atStart => exact ⟨rfl, X.out⟩
    case round =>
      obtain ⟨rfl, hx⟩ := hrel
      go_wp2_with fail
      go_loopw [9] (fun i wr => i = .int .i64 0 ∧ Ext w wr) (fun _ _ => 0)
      case atStart => exact ⟨rfl, hx⟩
      case round =>
        obtain ⟨rfl, hx⟩ := hrel
        go_wp2_with fail
        go_loopw [11] (fun i wr => i = .int .i64 0 ∧ Ext w wr) (fun _ _ => 0)
        case atStart => exact ⟨rfl, hx⟩
        case round =>
          obtain ⟨rfl, hx⟩ := hrel
          go_wp2_with fail
          go_loopw [14] (fun i wr => i = .int .i64 0 ∧ Ext w wr) (fun _ _ => 0)
          case atStart => exact ⟨rfl, hx⟩
          case round =>
            obtain ⟨rfl, hx⟩ := hrel
            go_wp2_with fail
            go_ret
            exact ⟨rfl, hx⟩
theorem infoConfigs : (Tryz.prog.info? 191).map (fun i => (i.zero, i.size, i.bytes)) = some (some (.slice none 0 0), 1, 24) := by kernel_rfl
set_option maxRecDepth 100000 in
theorem nilConfigs (w : World) : Calls Tryz.prog 69 #[.slice none 0 0] w fun e w' => e = .returned (.bool true) ∧ Ext w w' := by
  obtain ⟨i0, hi, hz0, hz1, hz2⟩ := info_parts infoConfigs
  go_enter Tryz.func69, Tryz.ntmps69
  go_wp2_with fail
  go_loopw [3] (fun i wr => i = .int .i64 0 ∧ Ext w wr) (fun _ _ => 0)
  case atStart => exact ⟨rfl, Below.refl _ _⟩
  case round =>
    obtain ⟨rfl, hx⟩ := hrel
    obtain ⟨wm, hmk, -, hg⟩ := run_make_full (P := Tryz.prog) wr 0 101 191 i0 _ 1 Tryz.underlying101 hi hz0 hz1 .i64 .i64 0 (by rw [hz2]; omega) (by unfold maxLen; omega) (Nat.zero_le _)
    have X := Lib.hid (Ext.trans hx (⟨hg.os, hg.tape, hg.output, hg.size, fun k hk => hg.block k hk (fun e => by cases e)⟩ : Ext wr wm))
    clear hx hg hi hz0 hz1 hz2
    simp only [Int.ofNat_zero] at hmk
    go_wp2_with fail
    go_loopw [6] (fun i wr => i = .int .i64 0 ∧ Ext w wr) (fun _ _ => 0)
    case atStart => exact ⟨rfl, X.out⟩
    case round =>
      obtain ⟨rfl, hx⟩ := hrel
      go_wp2_with fail
      go_loopw [9] (fun i wr => i = .int .i64 0 ∧ Ext w wr) (fun _ _ => 0)
      case atStart => exact ⟨rfl, hx⟩
      case round =>
        obtain ⟨rfl, hx⟩ := hrel
        go_wp2_with fail
        go_loopw [11] (fun i wr => i = .int .i64 0 ∧ Ext w wr) (fun _ _ => 0)
        case atStart => exact ⟨rfl, hx⟩
        case round =>
          obtain ⟨rfl, hx⟩ := hrel
          go_wp2_with fail
          go_loopw [14] (fun i wr => i = .int .i64 0 ∧ Ext w wr) (fun _ _ => 0)
          case atStart => exact ⟨rfl, hx⟩
          case round =>
            obtain ⟨rfl, hx⟩ := hrel
            go_wp2_with fail
            go_ret
            exact ⟨rfl, hx⟩
theorem infoEntries : (Tryz.prog.info? 196).map (fun i => (i.zero, i.size, i.bytes)) = some (some (.slice none 0 0), 1, 24) := by kernel_rfl
set_option maxRecDepth 100000 in
theorem nilEntries (w : World) : Calls Tryz.prog 70 #[.slice none 0 0] w fun e w' => e = .returned (.bool true) ∧ Ext w w' := by
  obtain ⟨i0, hi, hz0, hz1, hz2⟩ := info_parts infoEntries
  go_enter Tryz.func70, Tryz.ntmps70
  go_wp2_with fail
  go_loopw [3] (fun i wr => i = .int .i64 0 ∧ Ext w wr) (fun _ _ => 0)
  case atStart => exact ⟨rfl, Below.refl _ _⟩
  case round =>
    obtain ⟨rfl, hx⟩ := hrel
    obtain ⟨wm, hmk, -, hg⟩ := run_make_full (P := Tryz.prog) wr 0 102 196 i0 _ 1 Tryz.underlying102 hi hz0 hz1 .i64 .i64 0 (by rw [hz2]; omega) (by unfold maxLen; omega) (Nat.zero_le _)
    have X := Lib.hid (Ext.trans hx (⟨hg.os, hg.tape, hg.output, hg.size, fun k hk => hg.block k hk (fun e => by cases e)⟩ : Ext wr wm))
    clear hx hg hi hz0 hz1 hz2
    simp only [Int.ofNat_zero] at hmk
    go_wp2_with fail
    go_loopw [6] (fun i wr => i = .int .i64 0 ∧ Ext w wr) (fun _ _ => 0)
    case atStart => exact ⟨rfl, X.out⟩
    case round =>
      obtain ⟨rfl, hx⟩ := hrel
      go_wp2_with fail
      go_loopw [9] (fun i wr => i = .int .i64 0 ∧ Ext w wr) (fun _ _ => 0)
      case atStart => exact ⟨rfl, hx⟩
      case round =>
        obtain ⟨rfl, hx⟩ := hrel
        go_wp2_with fail
        go_loopw [11] (fun i wr => i = .int .i64 0 ∧ Ext w wr) (fun _ _ => 0)
        case atStart => exact ⟨rfl, hx⟩
        case round =>
          obtain ⟨rfl, hx⟩ := hrel
          go_wp2_with fail
          go_loopw [14] (fun i wr => i = .int .i64 0 ∧ Ext w wr) (fun _ _ => 0)
          case atStart => exact ⟨rfl, hx⟩
          case round =>
            obtain ⟨rfl, hx⟩ := hrel
            go_wp2_with fail
            go_ret
            exact ⟨rfl, hx⟩
theorem infoBases : (Tryz.prog.info? 202).map (fun i => (i.zero, i.size, i.bytes)) = some (some (.slice none 0 0), 1, 24) := by kernel_rfl
set_option maxRecDepth 100000 in
theorem nilBases (w : World) : Calls Tryz.prog 71 #[.slice none 0 0] w fun e w' => e = .returned (.bool true) ∧ Ext w w' := by
  obtain ⟨i0, hi, hz0, hz1, hz2⟩ := info_parts infoBases
  go_enter Tryz.func71, Tryz.ntmps71
  go_wp2_with fail
  go_loopw [3] (fun i wr => i = .int .i64 0 ∧ Ext w wr) (fun _ _ => 0)
  case atStart => exact ⟨rfl, Below.refl _ _⟩
  case round =>
    obtain ⟨rfl, hx⟩ := hrel
    obtain ⟨wm, hmk, -, hg⟩ := run_make_full (P := Tryz.prog) wr 0 103 202 i0 _ 1 Tryz.underlying103 hi hz0 hz1 .i64 .i64 0 (by rw [hz2]; omega) (by unfold maxLen; omega) (Nat.zero_le _)
    have X := Lib.hid (Ext.trans hx (⟨hg.os, hg.tape, hg.output, hg.size, fun k hk => hg.block k hk (fun e => by cases e)⟩ : Ext wr wm))
    clear hx hg hi hz0 hz1 hz2
    simp only [Int.ofNat_zero] at hmk
    go_wp2_with fail
    go_loopw [6] (fun i wr => i = .int .i64 0 ∧ Ext w wr) (fun _ _ => 0)
    case atStart => exact ⟨rfl, X.out⟩
    case round =>
      obtain ⟨rfl, hx⟩ := hrel
      go_wp2_with fail
      go_loopw [9] (fun i wr => i = .int .i64 0 ∧ Ext w wr) (fun _ _ => 0)
      case atStart => exact ⟨rfl, hx⟩
      case round =>
        obtain ⟨rfl, hx⟩ := hrel
        go_wp2_with fail
        go_loopw [11] (fun i wr => i = .int .i64 0 ∧ Ext w wr) (fun _ _ => 0)
        case atStart => exact ⟨rfl, hx⟩
        case round =>
          obtain ⟨rfl, hx⟩ := hrel
          go_wp2_with fail
          go_loopw [14] (fun i wr => i = .int .i64 0 ∧ Ext w wr) (fun _ _ => 0)
          case atStart => exact ⟨rfl, hx⟩
          case round =>
            obtain ⟨rfl, hx⟩ := hrel
            go_wp2_with fail
            go_ret
            exact ⟨rfl, hx⟩
theorem infoImages : (Tryz.prog.info? 207).map (fun i => (i.zero, i.size, i.bytes)) = some (some (.slice none 0 0), 1, 24) := by kernel_rfl
set_option maxRecDepth 100000 in
theorem nilImages (w : World) : Calls Tryz.prog 72 #[.slice none 0 0] w fun e w' => e = .returned (.bool true) ∧ Ext w w' := by
  obtain ⟨i0, hi, hz0, hz1, hz2⟩ := info_parts infoImages
  go_enter Tryz.func72, Tryz.ntmps72
  go_wp2_with fail
  go_loopw [3] (fun i wr => i = .int .i64 0 ∧ Ext w wr) (fun _ _ => 0)
  case atStart => exact ⟨rfl, Below.refl _ _⟩
  case round =>
    obtain ⟨rfl, hx⟩ := hrel
    obtain ⟨wm, hmk, -, hg⟩ := run_make_full (P := Tryz.prog) wr 0 104 207 i0 _ 1 Tryz.underlying104 hi hz0 hz1 .i64 .i64 0 (by rw [hz2]; omega) (by unfold maxLen; omega) (Nat.zero_le _)
    have X := Lib.hid (Ext.trans hx (⟨hg.os, hg.tape, hg.output, hg.size, fun k hk => hg.block k hk (fun e => by cases e)⟩ : Ext wr wm))
    clear hx hg hi hz0 hz1 hz2
    simp only [Int.ofNat_zero] at hmk
    go_wp2_with fail
    go_loopw [6] (fun i wr => i = .int .i64 0 ∧ Ext w wr) (fun _ _ => 0)
    case atStart => exact ⟨rfl, X.out⟩
    case round =>
      obtain ⟨rfl, hx⟩ := hrel
      go_wp2_with fail
      go_loopw [9] (fun i wr => i = .int .i64 0 ∧ Ext w wr) (fun _ _ => 0)
      case atStart => exact ⟨rfl, hx⟩
      case round =>
        obtain ⟨rfl, hx⟩ := hrel
        go_wp2_with fail
        go_loopw [11] (fun i wr => i = .int .i64 0 ∧ Ext w wr) (fun _ _ => 0)
        case atStart => exact ⟨rfl, hx⟩
        case round =>
          obtain ⟨rfl, hx⟩ := hrel
          go_wp2_with fail
          go_loopw [14] (fun i wr => i = .int .i64 0 ∧ Ext w wr) (fun _ _ => 0)
          case atStart => exact ⟨rfl, hx⟩
          case round =>
            obtain ⟨rfl, hx⟩ := hrel
            go_wp2_with fail
            go_ret
            exact ⟨rfl, hx⟩
theorem infoLetters : (Tryz.prog.info? 212).map (fun i => (i.zero, i.size, i.bytes)) = some (some (.slice none 0 0), 1, 24) := by kernel_rfl
set_option maxRecDepth 100000 in
theorem nilLetters (w : World) : Calls Tryz.prog 73 #[.slice none 0 0] w fun e w' => e = .returned (.bool true) ∧ Ext w w' := by
  obtain ⟨i0, hi, hz0, hz1, hz2⟩ := info_parts infoLetters
  go_enter Tryz.func73, Tryz.ntmps73
  go_wp2_with fail
  go_loopw [3] (fun i wr => i = .int .i64 0 ∧ Ext w wr) (fun _ _ => 0)
  case atStart => exact ⟨rfl, Below.refl _ _⟩
  case round =>
    obtain ⟨rfl, hx⟩ := hrel
    obtain ⟨wm, hmk, -, hg⟩ := run_make_full (P := Tryz.prog) wr 0 105 212 i0 _ 1 Tryz.underlying105 hi hz0 hz1 .i64 .i64 0 (by rw [hz2]; omega) (by unfold maxLen; omega) (Nat.zero_le _)
    have X := Lib.hid (Ext.trans hx (⟨hg.os, hg.tape, hg.output, hg.size, fun k hk => hg.block k hk (fun e => by cases e)⟩ : Ext wr wm))
    clear hx hg hi hz0 hz1 hz2
    simp only [Int.ofNat_zero] at hmk
    go_wp2_with fail
    go_loopw [6] (fun i wr => i = .int .i64 0 ∧ Ext w wr) (fun _ _ => 0)
    case atStart => exact ⟨rfl, X.out⟩
    case round =>
      obtain ⟨rfl, hx⟩ := hrel
      go_wp2_with fail
      go_loopw [9] (fun i wr => i = .int .i64 0 ∧ Ext w wr) (fun _ _ => 0)
      case atStart => exact ⟨rfl, hx⟩
      case round =>
        obtain ⟨rfl, hx⟩ := hrel
        go_wp2_with fail
        go_loopw [11] (fun i wr => i = .int .i64 0 ∧ Ext w wr) (fun _ _ => 0)
        case atStart => exact ⟨rfl, hx⟩
        case round =>
          obtain ⟨rfl, hx⟩ := hrel
          go_wp2_with fail
          go_loopw [14] (fun i wr => i = .int .i64 0 ∧ Ext w wr) (fun _ _ => 0)
          case atStart => exact ⟨rfl, hx⟩
          case round =>
            obtain ⟨rfl, hx⟩ := hrel
            go_wp2_with fail
            go_ret
            exact ⟨rfl, hx⟩
theorem infoStretches : (Tryz.prog.info? 218).map (fun i => (i.zero, i.size, i.bytes)) = some (some (.slice none 0 0), 1, 24) := by kernel_rfl
set_option maxRecDepth 100000 in
theorem nilStretches (w : World) : Calls Tryz.prog 74 #[.slice none 0 0] w fun e w' => e = .returned (.bool true) ∧ Ext w w' := by
  obtain ⟨i0, hi, hz0, hz1, hz2⟩ := info_parts infoStretches
  go_enter Tryz.func74, Tryz.ntmps74
  go_wp2_with fail
  go_loopw [3] (fun i wr => i = .int .i64 0 ∧ Ext w wr) (fun _ _ => 0)
  case atStart => exact ⟨rfl, Below.refl _ _⟩
  case round =>
    obtain ⟨rfl, hx⟩ := hrel
    obtain ⟨wm, hmk, -, hg⟩ := run_make_full (P := Tryz.prog) wr 0 106 218 i0 _ 1 Tryz.underlying106 hi hz0 hz1 .i64 .i64 0 (by rw [hz2]; omega) (by unfold maxLen; omega) (Nat.zero_le _)
    have X := Lib.hid (Ext.trans hx (⟨hg.os, hg.tape, hg.output, hg.size, fun k hk => hg.block k hk (fun e => by cases e)⟩ : Ext wr wm))
    clear hx hg hi hz0 hz1 hz2
    simp only [Int.ofNat_zero] at hmk
    go_wp2_with fail
    go_loopw [6] (fun i wr => i = .int .i64 0 ∧ Ext w wr) (fun _ _ => 0)
    case atStart => exact ⟨rfl, X.out⟩
    case round =>
      obtain ⟨rfl, hx⟩ := hrel
      go_wp2_with fail
      go_loopw [9] (fun i wr => i = .int .i64 0 ∧ Ext w wr) (fun _ _ => 0)
      case atStart => exact ⟨rfl, hx⟩
      case round =>
        obtain ⟨rfl, hx⟩ := hrel
        go_wp2_with fail
        go_loopw [11] (fun i wr => i = .int .i64 0 ∧ Ext w wr) (fun _ _ => 0)
        case atStart => exact ⟨rfl, hx⟩
        case round =>
          obtain ⟨rfl, hx⟩ := hrel
          go_wp2_with fail
          go_loopw [14] (fun i wr => i = .int .i64 0 ∧ Ext w wr) (fun _ _ => 0)
          case atStart => exact ⟨rfl, hx⟩
          case round =>
            obtain ⟨rfl, hx⟩ := hrel
            go_wp2_with fail
            go_ret
            exact ⟨rfl, hx⟩
theorem infoPeers : (Tryz.prog.info? 220).map (fun i => (i.zero, i.size, i.bytes)) = some (some (.slice none 0 0), 1, 24) := by kernel_rfl
set_option maxRecDepth 100000 in
theorem nilPeers (w : World) : Calls Tryz.prog 75 #[.slice none 0 0] w fun e w' => e = .returned (.bool true) ∧ Ext w w' := by
  obtain ⟨i0, hi, hz0, hz1, hz2⟩ := info_parts infoPeers
  go_enter Tryz.func75, Tryz.ntmps75
  go_wp2_with fail
  go_loopw [3] (fun i wr => i = .int .i64 0 ∧ Ext w wr) (fun _ _ => 0)
  case atStart => exact ⟨rfl, Below.refl _ _⟩
  case round =>
    obtain ⟨rfl, hx⟩ := hrel
    obtain ⟨wm, hmk, -, hg⟩ := run_make_full (P := Tryz.prog) wr 0 107 220 i0 _ 1 Tryz.underlying107 hi hz0 hz1 .i64 .i64 0 (by rw [hz2]; omega) (by unfold maxLen; omega) (Nat.zero_le _)
    have X := Lib.hid (Ext.trans hx (⟨hg.os, hg.tape, hg.output, hg.size, fun k hk => hg.block k hk (fun e => by cases e)⟩ : Ext wr wm))
    clear hx hg hi hz0 hz1 hz2
    simp only [Int.ofNat_zero] at hmk
    go_wp2_with fail
    go_loopw [6] (fun i wr => i = .int .i64 0 ∧ Ext w wr) (fun _ _ => 0)
    case atStart => exact ⟨rfl, X.out⟩
    case round =>
      obtain ⟨rfl, hx⟩ := hrel
      go_wp2_with fail
      go_loopw [9] (fun i wr => i = .int .i64 0 ∧ Ext w wr) (fun _ _ => 0)
      case atStart => exact ⟨rfl, hx⟩
      case round =>
        obtain ⟨rfl, hx⟩ := hrel
        go_wp2_with fail
        go_loopw [11] (fun i wr => i = .int .i64 0 ∧ Ext w wr) (fun _ _ => 0)
        case atStart => exact ⟨rfl, hx⟩
        case round =>
          obtain ⟨rfl, hx⟩ := hrel
          go_wp2_with fail
          go_loopw [14] (fun i wr => i = .int .i64 0 ∧ Ext w wr) (fun _ _ => 0)
          case atStart => exact ⟨rfl, hx⟩
          case round =>
            obtain ⟨rfl, hx⟩ := hrel
            go_wp2_with fail
            go_ret
            exact ⟨rfl, hx⟩
end Go.Proofs.YtbnclifpdmpjnaaGreatDoor
