/- The reference's numbers and texts: what each returns. -/
import Derived.Test.YtjplmghhleoolaaGreatDoorStr
import Derived.Lib.ItoaLen
namespace Go.Proofs.YtjplmghhleoolaaGreatDoor
open Go.RowKit

theorem run_one_byte (W : World) (x : Int) : (convert 76 9 (.slice (some ⟨W.heap.size, 0, none⟩) 1 1)).run Tryz.prog (W.alloc (.cells #[.int .u8 x] 5)) = .ok (.string ⟨#[UInt8.ofNat x.toNat]⟩) (W.alloc (.cells #[.int .u8 x] 5)) :=
  run_convert_bytes_arg (P := Tryz.prog) (w := W.alloc (.cells #[.int .u8 x] 5)) 76 5 Tryz.underlying76 Tryz.underlying5 W.heap.size 0 1 1 [x] rfl (fun i hi => by
    obtain rfl : i = 0 := by omega
    simp) 9 Tryz.underlying9

/-- What the numeral's lower places are when n is what is left. -/
def lowIs (u n : Nat) (s : List UInt8) : Prop := Lib.decDigits u = (if n < 10 then [] else Lib.decDigits (n / 10)) ++ s
theorem lowIs_start (u : Nat) : lowIs u u [UInt8.ofNat (48 + u % 10)] := by
  unfold lowIs
  rw [Lib.decDigits]
  split
  · rename_i h; rw [Nat.mod_eq_of_lt h]; rfl
  · rfl
theorem lowIs_step {u n : Nat} {s : List UInt8} (h : lowIs u n s) (hn : ¬ n < 10) : lowIs u (n / 10) (UInt8.ofNat (48 + n / 10 % 10) :: s) := by
  unfold lowIs at h ⊢
  rw [h, if_neg hn, Lib.decDigits]
  split
  · rename_i h; rw [Nat.mod_eq_of_lt h]; rfl
  · simp
theorem lowIs_end {u n : Nat} {s : List UInt8} (h : lowIs u n s) (hn : n < 10) : s = Lib.decDigits u := by
  unfold lowIs at h
  rw [h, if_pos hn]; rfl

set_option maxRecDepth 100000 in
theorem refValue_pos (x : Int) (n : Nat) (w : World) (hn : n ≤ 1073741824) (hmin : min x 1073741824 = (n : Int)) : Calls Tryz.prog 32 #[.int .i64 x] w fun e w' => e = .returned (.string ⟨(Lib.decDigits n).toArray⟩) ∧ Ext w w' := by
  have hmax : max (n : Int) (-1073741824) = (n : Int) := by omega
  have hcv := run_one_byte
  go_enter Tryz.func32, Tryz.ntmps32
  go_wp2_with fail
  go_loopw [0, 3] (fun nv s wr => ∃ (k : Nat) (l : List UInt8), k ≤ n ∧ nv = .int .i64 k ∧ s = .string ⟨l.toArray⟩ ∧ lowIs n k l ∧ l.length + k ≤ n + 1 ∧ Ext w wr) (fun nv _ _ => (intOf nv).toNat)
  case atStart => exact ⟨n, _, by omega, rfl, rfl, lowIs_start n, by simp; omega, (Below.refl _ _).alloc (Nat.le_refl _) _⟩
  case round =>
    obtain ⟨k, l, hk, rfl, rfl, hlow, hlen, hx⟩ := hrel
    have HL := Lib.hid hlow
    clear hlow
    by_cases h10 : k < 10
    · go_wp2_with fail
      go_ret
      exact ⟨ret_str (lowIs_end HL.out h10), hx⟩
    · go_wp2_with fail
      go_roundw
      case rel => exact ⟨k / 10, UInt8.ofNat (48 + k / 10 % 10) :: l, by omega, by go_num, by simp [ByteArray.mk_append_mk], lowIs_step HL.out h10, by simp; omega, hx.alloc hx.size _⟩
      case measure => simp [intOf]; omega

/-- The reference's numeral is the program's. -/
theorem refValue_calls (n : Int) (w : World) : Calls Tryz.prog 32 #[.int .i64 n] w fun e w' => e = .returned (.string ⟨(valueL n).toArray⟩) ∧ Ext w w' := by
  by_cases hneg : n < 0
  · obtain ⟨u, hu, hu1, hu0⟩ : ∃ u : Nat, cutI n = -(u : Int) ∧ u ≤ 1073741824 ∧ 1 ≤ u := ⟨(-(cutI n)).toNat, by unfold cutI; omega, by unfold cutI; omega, by unfold cutI; omega⟩
    have hv : valueL n = 45 :: Lib.decDigits u := by unfold valueL; rw [hu]; exact Lib.itoa_neg u hu0
    have hmin : min n 1073741824 = n := by omega
    have hmax : max n (-1073741824) = -(u : Int) := by unfold cutI at hu; rw [hmin] at hu; exact hu
    have HV := Lib.hid hv; clear hv hu
    have hlen : (Lib.decDigits u).length ≤ 20 := by rw [Lib.decDigits_length]; exact Lib.nDigits_le20 u (by omega)
    go_enter Tryz.func32, Tryz.ntmps32
    go_wp2_with (go_at_call 32; refine (refValue_pos _ u _ hu1 (by omega)).mono ?_; rintro e w1 ⟨rfl, hx1⟩)
    go_ret
    exact ⟨by rw [HV.out]; simp [ByteArray.mk_append_mk], hx1⟩
  · obtain ⟨u, hu⟩ : ∃ u : Nat, cutI n = (u : Int) := ⟨(cutI n).toNat, by unfold cutI; omega⟩
    have hv : valueL n = Lib.decDigits u := by unfold valueL; rw [hu]; exact Lib.itoa_nonneg u
    rw [hv]
    exact refValue_pos n u w (by unfold cutI at hu; omega) (by unfold cutI at hu; omega)

set_option maxHeartbeats 800000 in
theorem refNumber_calls (s : ByteArray) (w : World) (hs : s.size ≤ 140737488351232) : Calls Tryz.prog 25 #[.string s] w fun e w' => e = .returned (.int .i64 (refNumberL s.data.toList)) ∧ w = w' := by
  by_cases h0 : 0 < s.size
  · have hhead : s.data.toList.head? = some s[0] := by
      have : s.data.toList[0]? = some s[0] := by
        rw [Array.getElem?_toList]
        exact Array.getElem?_eq_getElem h0
      rwa [List.head?_eq_getElem?]
    by_cases hm : s[0] = 45
    · obtain ⟨t, ht⟩ : ∃ t, s.extract 1 s.size = t := ⟨_, rfl⟩
      have htl : t.data.toList = s.data.toList.tail := by rw [← ht, Lib.extract_data]; simp; exact List.take_of_length_le (by simp)
      have he : refNumberL s.data.toList = refEnd true (refMag 0 t.data.toList) := by unfold refNumberL; rw [hhead, hm, if_pos rfl, htl]
      have hts : t.size ≤ 140737488351232 := by rw [Lib.size_eq, htl, List.length_tail, ← Lib.size_eq]; omega
      clear htl hhead
      have HE : Hid (refNumberL s.data.toList = refEnd true (refMag 0 t.data.toList)) := Lib.hid he
      clear he
      go_enter Tryz.func25, Tryz.ntmps25
      go_wp2
      go_loop [4, 5] (fun nv i => ∃ (k : Nat) (m : Int), k ≤ t.size ∧ i = .int .i64 k ∧ nv = .int .i64 m ∧ 0 ≤ m ∧ m ≤ 2147483648 ∧ refMag m (t.data.toList.drop k) = refMag 0 t.data.toList) (fun _ i => t.size - (intOf i).toNat)
      case atStart => exact ⟨0, 0, by omega, rfl, rfl, by omega, by omega, by simp⟩
      case round =>
        obtain ⟨k, m, hk, rfl, rfl, hm0, hm1, hrest⟩ := hrel
        have HR := Lib.hid hrest; clear hrest
        by_cases hlt : k < t.size
        · have hd : t.data.toList.drop k = t[k] :: t.data.toList.drop (k + 1) := List.drop_eq_getElem_cons (by simpa using hlt)
          have HD := Lib.hid hd; clear hd
          by_cases hbad : t[k].toNat < 48 ∨ 57 < t[k].toNat
          · have hnone : refMag 0 t.data.toList = none := by rw [← HR.out, HD.out, refMag, if_pos hbad]
            have HN := Lib.hid hnone; clear hnone
            rcases hbad with hb | hb
            all_goals
              go_wp2
              go_ret
              exact ⟨ret_int (by rw [HE.out, HN.out]; rfl), rfl⟩
          · obtain ⟨hb1, hb2⟩ : 48 ≤ t[k].toNat ∧ t[k].toNat ≤ 57 := by omega
            have hstep : refMag (min (m * 10 + ((t[k].toNat : Int) - 48)) 2147483648) (t.data.toList.drop (k + 1)) = refMag 0 t.data.toList := by rw [← HR.out, HD.out, refMag, if_neg (by omega)]
            have HS := Lib.hid hstep; clear hstep hbad
            go_wp2
            all_goals
              go_round
              case rel => exact ⟨k + 1, min (m * 10 + ((t[k].toNat : Int) - 48)) 2147483648, by omega, by go_num, by first | rfl | (congr 1; omega), by omega, by omega, HS.out⟩
              case measure => simp [intOf]; omega
        · have hend : refMag 0 t.data.toList = some m := by rw [← HR.out, List.drop_eq_nil_of_le (by rw [← Lib.size_eq]; omega), refMag]
          have HN := Lib.hid hend; clear hend
          go_wp2
          all_goals (go_ret; exact ⟨ret_int (by rw [HE.out, HN.out]; first | (rw [refEnd_big (by omega)]) | (rw [refEnd_neg (by omega)]) | (rw [refEnd_pos (by omega)])), rfl⟩)
    · have he : refNumberL s.data.toList = refEnd false (refMag 0 s.data.toList) := by unfold refNumberL; rw [hhead, if_neg (by simpa using hm)]
      have hmn : ((s[0].toNat : Int) == 45) = false := by
        rw [beq_eq_false_iff_ne]; intro h; exact hm (UInt8.toNat_inj.1 (show s[0].toNat = 45 by omega))
      clear hhead
      have HE : Hid (refNumberL s.data.toList = refEnd false (refMag 0 s.data.toList)) := Lib.hid he
      clear he
      go_enter Tryz.func25, Tryz.ntmps25
      go_wp2
      go_loop [4, 5] (fun nv i => ∃ (k : Nat) (m : Int), k ≤ s.size ∧ i = .int .i64 k ∧ nv = .int .i64 m ∧ 0 ≤ m ∧ m ≤ 2147483648 ∧ refMag m (s.data.toList.drop k) = refMag 0 s.data.toList) (fun _ i => s.size - (intOf i).toNat)
      case atStart => exact ⟨0, 0, by omega, rfl, rfl, by omega, by omega, by simp⟩
      case round =>
        obtain ⟨k, m, hk, rfl, rfl, hm0, hm1, hrest⟩ := hrel
        have HR := Lib.hid hrest; clear hrest
        by_cases hlt : k < s.size
        · have hd : s.data.toList.drop k = s[k] :: s.data.toList.drop (k + 1) := List.drop_eq_getElem_cons (by simpa using hlt)
          have HD := Lib.hid hd; clear hd
          by_cases hbad : s[k].toNat < 48 ∨ 57 < s[k].toNat
          · have hnone : refMag 0 s.data.toList = none := by rw [← HR.out, HD.out, refMag, if_pos hbad]
            have HN := Lib.hid hnone; clear hnone
            rcases hbad with hb | hb
            all_goals
              go_wp2
              go_ret
              exact ⟨ret_int (by rw [HE.out, HN.out]; rfl), rfl⟩
          · obtain ⟨hb1, hb2⟩ : 48 ≤ s[k].toNat ∧ s[k].toNat ≤ 57 := by omega
            have hstep : refMag (min (m * 10 + ((s[k].toNat : Int) - 48)) 2147483648) (s.data.toList.drop (k + 1)) = refMag 0 s.data.toList := by rw [← HR.out, HD.out, refMag, if_neg (by omega)]
            have HS := Lib.hid hstep; clear hstep hbad
            go_wp2
            all_goals
              go_round
              case rel => exact ⟨k + 1, min (m * 10 + ((s[k].toNat : Int) - 48)) 2147483648, by omega, by go_num, by first | rfl | (congr 1; omega), by omega, by omega, HS.out⟩
              case measure => simp [intOf]; omega
        · have hend : refMag 0 s.data.toList = some m := by rw [← HR.out, List.drop_eq_nil_of_le (by rw [← Lib.size_eq]; omega), refMag]
          have HN := Lib.hid hend; clear hend
          go_wp2
          all_goals (go_ret; exact ⟨ret_int (by rw [HE.out, HN.out]; first | (rw [refEnd_big (by omega)]) | (rw [refEnd_neg (by omega)]) | (rw [refEnd_pos (by omega)])), rfl⟩)
  · have he : refNumberL s.data.toList = refEnd false (refMag 0 s.data.toList) := by
      have : s.data.toList = [] := List.eq_nil_of_length_eq_zero (by rw [← Lib.size_eq]; omega)
      unfold refNumberL; rw [this]; rfl
    have HE : Hid (refNumberL s.data.toList = refEnd false (refMag 0 s.data.toList)) := Lib.hid he
    clear he
    go_enter Tryz.func25, Tryz.ntmps25
    go_wp2
    go_loop [4, 5] (fun nv i => ∃ (k : Nat) (m : Int), k ≤ s.size ∧ i = .int .i64 k ∧ nv = .int .i64 m ∧ 0 ≤ m ∧ m ≤ 2147483648 ∧ refMag m (s.data.toList.drop k) = refMag 0 s.data.toList) (fun _ i => s.size - (intOf i).toNat)
    case atStart => exact ⟨0, 0, by omega, rfl, rfl, by omega, by omega, by simp⟩
    case round =>
      obtain ⟨k, m, hk, rfl, rfl, hm0, hm1, hrest⟩ := hrel
      have HR := Lib.hid hrest; clear hrest
      by_cases hlt : k < s.size
      · exact absurd hlt (by omega)
      · have hend : refMag 0 s.data.toList = some m := by rw [← HR.out, List.drop_eq_nil_of_le (by rw [← Lib.size_eq]; omega), refMag]
        have HN := Lib.hid hend; clear hend
        go_wp2
        all_goals (go_ret; exact ⟨ret_int (by rw [HE.out, HN.out]; first | (rw [refEnd_big (by omega)]) | (rw [refEnd_neg (by omega)]) | (rw [refEnd_pos (by omega)])), rfl⟩)
end Go.Proofs.YtjplmghhleoolaaGreatDoor
