/- The package act's cut; strings.Trim. -/
import Derived.Test.YtdjjpnobfopplaaGreatDoorBase
import Derived.Test.YtdjjpnobfopplaaGreatDoorShelf
import Derived.Test.YtdjjpnobfopplaaGreatDoorMem
import Derived.Shelf.Strings.SlTrimAscii
namespace Go.Proofs.YtdjjpnobfopplaaGreatDoor
open Go.RowKit

theorem cutI_bd (n : Int) : -1073741824 ≤ cutI n ∧ cutI n ≤ 1073741824 := by unfold cutI; omega
theorem cut_calls (n : Int) (w : World) : Calls Tryz.prog 65 #[.int .i64 n] w fun e w' => e = .returned (.int .i64 (cutI n)) ∧ w = w' := by
  go_enter Tryz.func65, Tryz.ntmps65
  go_wp2
  all_goals (go_ret; exact ⟨ret_int (by unfold cutI; omega), rfl⟩)

theorem trim_calls (s : ByteArray) (cs : ByteArray) (w : World) (hs : s.size ≤ 9223372036854775807) (hc : cs.size < 4294967281) (ha : cs.data.toList.all (fun b => decide (b.toNat < 128)) = true) :
    Calls Tryz.prog 64 #[.string s, .string cs] w fun e w' => e = .returned (.string ⟨(Lib.trimS s.data.toList cs.data.toList).toArray⟩) ∧ Ext w w' :=
  Any.strings_Trim_laid Tryz.lays160 (by kernel_rfl) s cs w hs hc (ascii_of_all ha)

end Go.Proofs.YtdjjpnobfopplaaGreatDoor
/- The package span's Key. -/
namespace Go.Proofs.YtdjjpnobfopplaaGreatDoor
open Go.RowKit

set_option maxRecDepth 100000 in
set_option maxHeartbeats 400000 in
theorem key_calls (s : ByteArray) (w : World) (hs : s.size ≤ 140737488351232) : Calls Tryz.prog 66 #[.string s] w fun e w' => e = .returned (.bool (keyL s.data.toList)) ∧ w = w' := by
  have hsz := Lib.size_eq s
  by_cases h0 : s.data.toList = []
  · have e0 : keyL s.data.toList = false := by rw [h0]; rfl
    have hem : s.toList.isEmpty = true := by rw [Lib.toList_data, h0]; rfl
    have E0 := Lib.hid e0; clear e0 h0
    go_enter Tryz.func66, Tryz.ntmps66
    go_wp2
    go_ret
    exact ⟨ret_bool (by rw [E0.out]), rfl⟩
  · have hem : s.toList.isEmpty = false := by rw [Lib.toList_data]; cases h : s.data.toList with
      | nil => exact absurd h h0
      | cons a r => rfl
    by_cases h20 : 20 < s.size
    · have e0 : keyL s.data.toList = false := by unfold keyL; rw [← hsz]; simp; omega
      have E0 := Lib.hid e0; clear e0 h0 hsz
      go_enter Tryz.func66, Tryz.ntmps66
      go_wp2
      go_ret
      exact ⟨ret_bool (by rw [E0.out]), rfl⟩
    · have e0 : keyL s.data.toList = s.data.toList.all keyC := by
        unfold keyL
        rw [← hsz]
        have : s.data.toList.isEmpty = false := by rw [← Lib.toList_data]; exact hem
        rw [this]; simp; omega
      have E0 := Lib.hid e0; have HZ := Lib.hid hsz; clear e0 h0 hsz
      go_enter Tryz.func66, Tryz.ntmps66
      go_wp2
      go_loop [3, 4, 14] (fun _ _ i => ∃ k : Nat, k ≤ s.size ∧ i = .int .i64 k ∧ (s.data.toList.take k).all keyC = true) (fun _ _ i => s.size - (intOf i).toNat)
      case atStart => exact ⟨0, by omega, rfl, by simp⟩
      case round =>
        obtain ⟨k, hk, rfl, hall⟩ := hrel
        have HA := Lib.hid hall; clear hall
        by_cases hlt : k < s.size
        · have htk : s.data.toList.take (k + 1) = s.data.toList.take k ++ [s[k]] := by
            rw [List.take_succ_eq_append_getElem (by rw [← HZ.out]; exact hlt)]; rfl
          have hmem : s[k] ∈ s.data.toList := by
            have : s.data.toList[k]'(by rw [← HZ.out]; exact hlt) = s[k] := rfl
            rw [← this]; exact List.getElem_mem _
          have HT := Lib.hid htk; have HM := Lib.hid hmem
          clear htk hmem
          have hcases : (s[k].toNat < 48 ∨ (57 < s[k].toNat ∧ s[k].toNat < 97) ∨ 122 < s[k].toNat) ∨ (48 ≤ s[k].toNat ∧ s[k].toNat ≤ 57) ∨ (97 ≤ s[k].toNat ∧ s[k].toNat ≤ 122) := by omega
          rcases hcases with h | h
          · have hno : keyC s[k] = false := by unfold keyC; simp; omega
            have e1 : s.data.toList.all keyC = false := by
              rw [List.all_eq_false]; exact ⟨s[k], HM.out, by simp [hno]⟩
            have E1 := Lib.hid e1
            clear hno e1
            rcases h with h | ⟨ha, hb⟩ | h
            all_goals
              go_wp2
              all_goals first | (go_ret; exact ⟨ret_bool (by rw [E0.out, E1.out]), rfl⟩) | (exfalso; rename_i h; simp at h; omega)
          · have hyes : keyC s[k] = true := by unfold keyC; simp; omega
            have e1 : (s.data.toList.take (k + 1)).all keyC = true := by rw [HT.out, List.all_append, HA.out]; simp [hyes]
            have E1 := Lib.hid e1
            clear hyes e1
            rcases h with ⟨ha, hb⟩ | ⟨ha, hb⟩
            all_goals
              first
                | (have hd : decide ((s[k].toNat : Int) ≤ 57) = true := by simp; omega)
                | (have hd : decide ((s[k].toNat : Int) ≤ 122) = true := by simp; omega)
              go_wp2
              go_round
              case rel => exact ⟨k + 1, by omega, by go_num, E1.out⟩
              case measure => simp [intOf]; omega
        · have e1 : s.data.toList.all keyC = true := by
            have := HA.out
            rwa [List.take_of_length_le (by rw [← HZ.out]; omega)] at this
          have E1 := Lib.hid e1; clear e1
          go_wp2
          go_ret
          exact ⟨ret_bool (by rw [E0.out, E1.out]), rfl⟩
end Go.Proofs.YtdjjpnobfopplaaGreatDoor
/- markText: the mark of a place in a list; what a block of cells lets be stored. -/
namespace Go.Proofs.YtdjjpnobfopplaaGreatDoor
open Go.RowKit

theorem run_eight_bytes (W : World) (x0 x1 x2 x3 x4 x5 x6 x7 : Int) : (convert 28 9 (.slice (some ⟨W.heap.size, 0, none⟩) 8 8)).run Tryz.prog (W.alloc (.cells #[.int .u8 x0, .int .u8 x1, .int .u8 x2, .int .u8 x3, .int .u8 x4, .int .u8 x5, .int .u8 x6, .int .u8 x7] 5)) = .ok (.string ⟨#[UInt8.ofNat x0.toNat, UInt8.ofNat x1.toNat, UInt8.ofNat x2.toNat, UInt8.ofNat x3.toNat, UInt8.ofNat x4.toNat, UInt8.ofNat x5.toNat, UInt8.ofNat x6.toNat, UInt8.ofNat x7.toNat]⟩) (W.alloc (.cells #[.int .u8 x0, .int .u8 x1, .int .u8 x2, .int .u8 x3, .int .u8 x4, .int .u8 x5, .int .u8 x6, .int .u8 x7] 5)) :=
  run_convert_bytes_arg (P := Tryz.prog) (w := W.alloc (.cells #[.int .u8 x0, .int .u8 x1, .int .u8 x2, .int .u8 x3, .int .u8 x4, .int .u8 x5, .int .u8 x6, .int .u8 x7] 5)) 28 5 Tryz.underlying28 Tryz.underlying5 W.heap.size 0 8 8 [x0, x1, x2, x3, x4, x5, x6, x7] rfl (fun i hi => by
    obtain rfl | rfl | rfl | rfl | rfl | rfl | rfl | rfl : i = 0 ∨ i = 1 ∨ i = 2 ∨ i = 3 ∨ i = 4 ∨ i = 5 ∨ i = 6 ∨ i = 7 := by omega
    all_goals simp) 9 Tryz.underlying9

/-- A place's mark as a text. -/
def markB (k i : Int) : ByteArray := ⟨#[35, UInt8.ofNat (k % 256).toNat, UInt8.ofNat (k / 256 % 256).toNat, UInt8.ofNat (k / 65536 % 256).toNat, 47, UInt8.ofNat (i % 256).toNat, UInt8.ofNat (i / 256 % 256).toNat, UInt8.ofNat (i / 65536 % 256).toNat]⟩
/-- Block g holds n cells that may be written. -/
def Room (w : World) (g : Nat) (t : TypeId) (n : Nat) : Prop := ∃ cur : Array Value, w.heap[g]? = some (.cells cur t (0, 0)) ∧ cur.size = n
theorem Room.lt {w : World} {g : Nat} {t : TypeId} {n : Nat} (h : Room w g t n) : g < w.heap.size := by
  obtain ⟨cur, h, _⟩ := h; exact lt_of_block h
theorem Room.cell {w : World} {g : Nat} {t : TypeId} {n : Nat} (h : Room w g t n) (i : Nat) (hi : i < n) : ∃ u, w.cell? ⟨g, i, none⟩ = some u := by
  obtain ⟨cur, h, hs⟩ := h
  exact ⟨cur[i], by rw [cell_of_row w g i cur t _ h]; exact Array.getElem?_eq_getElem (by omega)⟩
theorem Room.free {w : World} {g : Nat} {t : TypeId} {n : Nat} (h : Room w g t n) (i : Nat) : w.frozen? ⟨g, i, none⟩ = false := by
  obtain ⟨cur, h, _⟩ := h; exact frozen_of_row w g i cur t h
theorem Room.set {w : World} {g : Nat} {t : TypeId} {n : Nat} (h : Room w g t n) (i : Nat) (v : Value) : Room (w.setCell ⟨g, i, none⟩ v) g t n := by
  obtain ⟨cur, h, hs⟩ := h
  exact ⟨_, heap_setCell_same w g i cur t v h, by simpa using hs⟩
theorem Room.ext {w w' : World} {g : Nat} {t : TypeId} {n : Nat} (h : Room w g t n) (hx : Ext w w') : Room w' g t n := by
  obtain ⟨cur, h, hs⟩ := h
  exact ⟨cur, (hx.block g (lt_of_block h)).trans h, hs⟩
theorem room_own {w : World} {B : Nat} {e : TypeId} {size g n cap : Nat} {xs : List Value} (h : w.ownsRow B e size (.slice (some ⟨g, 0, none⟩) n cap) n xs) : Room w g e (cap * size) ∧ n ≤ cap ∧ cap ≤ maxLen := by
  obtain ⟨_, h2⟩ := h
  rcases h2 with ⟨h, _⟩ | ⟨g', cap', cur, h, _, hg, hn, hm, hs, _⟩
  · cases h
  · simp only [Value.slice.injEq, Option.some.injEq, Addr.mk.injEq, and_true, true_and] at h
    obtain ⟨rfl, rfl⟩ := h
    exact ⟨⟨cur, hg, hs⟩, hn, hm⟩
/-- How a slice of an owned row is spelled. -/
theorem own_form {w : World} {B : Nat} {e : TypeId} {size n : Nat} {v : Value} {xs : List Value} (h : w.ownsRow B e size v n xs) : (v = .slice none 0 0 ∧ n = 0) ∨ ∃ g cap, v = .slice (some ⟨g, 0, none⟩) n cap := by
  obtain ⟨_, h2⟩ := h
  rcases h2 with ⟨rfl, h0⟩ | ⟨g, cap, cur, rfl, _⟩
  · exact .inl ⟨rfl, h0⟩
  · exact .inr ⟨g, cap, rfl⟩
end Go.Proofs.YtdjjpnobfopplaaGreatDoor
