/- Of: the acts of a key. -/
import Derived.Test.YtngahblgicjoiaaGreatDoorMem
import Derived.Test.YtngahblgicjoiaaGreatDoorSame
import Derived.Test.YtngahblgicjoiaaGreatDoorKeysLaw
import Derived.Lib.SlicesS
namespace Go.Proofs.YtngahblgicjoiaaGreatDoor
open Go.RowKit

theorem infoAct : (Tryz.prog.info? 53).map (fun i => (i.zero, i.size, i.bytes)) = some (some (.agg #[.int .u8 0, .string ⟨#[]⟩, .string ⟨#[]⟩, .int .i64 0]), 4, 48) := by kernel_rfl
theorem one_act : ∀ (x : ActD), ∀ u ∈ encAct x, u.oneCell' = true := by
  intro x u hu
  simp only [encAct, List.mem_cons, List.not_mem_nil, or_false] at hu
  rcases hu with rfl | rfl | rfl | rfl <;> rfl
theorem keyT_iff (a : ActD) (key : ByteArray) : keyT a = key.data.toList ↔ a.key = key := by
  unfold keyT
  exact ⟨fun h => ByteArray.ext (Array.toList_inj.1 h), fun h => by rw [h]⟩
theorem ofL_succ (key : Txt) (l : List ActD) (k : Nat) (x : ActD) (h : l[k]? = some x) : ofL key (l.take (k + 1)) = ofL key (l.take k) ++ (if keyT x = key then [x] else []) := by
  unfold ofL
  rw [List.take_add_one, h, List.filter_append]
  congr 1
  by_cases e : keyT x = key <;> simp [e]

set_option maxRecDepth 100000 in
set_option maxHeartbeats 800000 in
theorem of_calls (key : ByteArray) (l : List ActD) (ao : Option Addr) (cap : Nat) (w : World) (hl : l.length ≤ 1000000) (hr : Rows 4 encAct w.heap.size w ao l) :
    Calls Tryz.prog 98 #[.string key, .slice ao l.length cap] w fun e w' => ∃ rv, e = .returned rv ∧ w'.ownsRow 0 53 4 rv (ofL key.data.toList l).length ((ofL key.data.toList l).flatMap encAct) ∧ (∀ j, rv.ownBlock = some j → w.heap.size ≤ j) ∧ Ext w w' := by
  obtain ⟨i0, hi, hz0, hz1, hz2⟩ := info_parts infoAct
  have HR := Lib.hid hr
  clear hr
  go_enter Tryz.func98, Tryz.ntmps98
  go_wp2_with fail
  go_loopw [5, 10] (fun v i wr => ∃ (k : Nat), k ≤ l.length ∧ i = .int .i64 k ∧ wr.ownsRow 0 53 4 v (ofL key.data.toList (l.take k)).length ((ofL key.data.toList (l.take k)).flatMap encAct) ∧ (∀ j, v.ownBlock = some j → w.heap.size ≤ j) ∧ Ext w wr) (fun _ i _ => l.length - (intOf i).toNat)
  case atStart => exact ⟨0, by omega, rfl, World.ownsRow_nil _ _ _ _, by simp [Value.ownBlock], Below.refl _ _⟩
  case round =>
    obtain ⟨k, hk, rfl, hown, hnew, hx⟩ := hrel
    have K1 := Lib.hid hown; have K2 := Lib.hid hnew; have K3 := Lib.hid hx
    clear hown hnew hx
    by_cases hlt : k < l.length
    · obtain ⟨x, hx⟩ : ∃ x, l[k]? = some x := ⟨_, List.getElem?_eq_getElem hlt⟩
      obtain ⟨b, off, rfl, hb, hcell⟩ := HR.out (by intro e; rw [e] at hlt; simp at hlt)
      have hcx := hcell k x hx
      have hmove : ∀ j, wr.cell? ⟨b, j, none⟩ = w.cell? ⟨b, j, none⟩ := fun j => K3.out.cell (p := ⟨b, j, none⟩) hb
      have hof := ofL_succ key.data.toList l k x hx
      have hbd : (ofL key.data.toList (l.take k)).length ≤ 1000000 := Nat.le_trans (ofL_len _ _) (by simp; omega)
      generalize ofL key.data.toList (l.take k) = q at *
      have HO := Lib.hid hof
      obtain ⟨kd, ky, val, num⟩ := x
      have d0 := (hmove _).trans (hcx 0 _ rfl); have d1 := (hmove _).trans (hcx 1 _ rfl); have d2 := (hmove _).trans (hcx 2 _ rfl); have d3 := (hmove _).trans (hcx 3 _ rfl)
      simp only [Nat.add_zero] at d0
      have hi0 : (0 : Int) ≤ (k : Int) := by omega
      have hi1 : (k : Int) < (l.length : Int) := by omega
      clear hof hx hcell hcx hmove
      have E1 : Hid (Ext wr (wr.alloc (.cells #[.int .u8 kd, .string ky, .string val, .int .i64 num] 53))) := Lib.hid ((Below.refl _ wr).alloc (Nat.le_refl _) _)
      by_cases hkey : ky = key
      · have g1 : (ky.toList == key.toList) = true := by simp [hkey]
        have HK := Lib.hid hkey; clear hkey
        have CN := Lib.hid (cells_new (wr.alloc (.cells #[.int .u8 kd, .string ky, .string val, .int .i64 num] 53)) [.int .u8 kd, .string ky, .string val, .int .i64 num] 53)
        rw [show (wr.alloc (.cells #[.int .u8 kd, .string ky, .string val, .int .i64 num] 53)).heap.size = wr.heap.size + 1 from by simp] at CN
        have E2 : Hid (Ext wr ((wr.alloc (.cells #[.int .u8 kd, .string ky, .string val, .int .i64 num] 53)).alloc (.cells #[.int .u8 kd, .string ky, .string val, .int .i64 num] 53))) := Lib.hid (((Below.refl _ wr).alloc (Nat.le_refl _) _).alloc (by simp) _)
        go_wp2_with (at_builtin; refine wpList_append_at _ rfl _ _ 35 rfl 53 i0 _ 4 48 Tryz.underlying35 hi hz0 hz1 hz2 rfl (by decide) _ q.length (q.flatMap encAct) rfl (own_ext K1.out E2.out) ⟨wr.heap.size + 1, 0, none⟩ 1 1 (encAct ⟨kd, ky, val, num⟩) rfl rfl CN.out (by simp [encAct, Value.oneCell']) (by decide) (by unfold maxLen; omega) (by omega) ?_; intro g cap2 w1 hown' hbut hkept; have X1 := Lib.hid hown'; have X2 := Lib.hid hbut; have X3 := Lib.hid hkept; clear hown' hbut hkept)
        go_roundw
        case rel =>
          refine ⟨k + 1, by omega, by go_num, ?_, ?_, ?_⟩
          · rw [HO.out, if_pos ((keyT_iff _ _).2 HK.out)]
            have := X1.out
            rw [List.length_append, List.flatMap_append]
            simpa using this
          · intro j hj
            rcases X3.out j hj with e | e
            · exact K2.out j e
            · have := K3.out.size; have := E2.out.size; omega
          · exact Below.trans K3.out (((Ext.but E2.out (fun _ => False)).trans X2.out (U := fun j => w.heap.size ≤ j) (fun _ _ e => e.elim) (fun i _ e => K2.out i e)).below K3.out.size (fun _ h => h))
        case measure => simp [intOf]; omega
      · have g1 : (ky.toList == key.toList) = false := by rw [Lib.bytes_beq_false_iff]; exact hkey
        have HK := Lib.hid hkey; clear hkey
        go_wp2_with fail
        go_roundw
        case rel => exact ⟨k + 1, by omega, by go_num, by rw [HO.out, if_neg (fun e => HK.out ((keyT_iff _ _).1 e)), List.append_nil]; exact own_ext K1.out E1.out, K2.out, Ext.trans K3.out E1.out⟩
        case measure => simp [intOf]; omega
    · have hall : l.take k = l := List.take_of_length_le (by omega)
      have HA := Lib.hid hall; clear hall
      go_wp2_with fail
      go_ret
      exact ⟨_, rfl, by have := K1.out; rwa [HA.out] at this, K2.out, K3.out⟩
end Go.Proofs.YtngahblgicjoiaaGreatDoor
