/- watershedref02: Number. -/
import Derived.Test.YtdmejbjpbjcfbaaGreatDoorRefW
namespace Go.Proofs.YtdmejbjpbjcfbaaGreatDoor
open Go.RowKit

set_option maxRecDepth 100000 in
set_option maxHeartbeats 1600000 in
theorem refNum_bad (n : Int) (w : World) (h : okN n = false) :
    Calls Tryz.prog 121 #[.int .i64 n] w fun e w' => e = .returned (.tuple #[.slice none 0 0, .bool false]) ∧ w = w' := by
  have h : n < 0 ∨ (¬ n < 0 ∧ 4611686018427387903 < n) := by
    simp only [okN, Bool.and_eq_false_iff, decide_eq_false_iff_not] at h
    omega
  rcases h with h | ⟨h, h2⟩
  case' inl => have g1 : decide (n < 0) = true := by simp; omega
  case' inr =>
    have g1 : decide (n < 0) = false := by simp; omega
    have g2 : decide ((4611686018427387903 : Int) < n) = true := by simp; omega
  all_goals
    go_enter Tryz.func121, Tryz.ntmps121
    go_wp2_with fail
    go_ret2
    exact ⟨rfl, rfl⟩
theorem enc8_len : ∀ l : List UInt8, (l.flatMap encU8).length = l.length
  | [] => rfl
  | x :: l => by rw [List.flatMap_cons, List.length_append, enc8_len l]; simp [encU8]; omega
theorem set_last8 (cs : List UInt8) (a b : UInt8) : ((cs ++ [a]).flatMap encU8).set cs.length (.int .u8 (b.toNat : Int)) = (cs ++ [b]).flatMap encU8 := by
  rw [List.flatMap_append, List.flatMap_append, List.set_append_right _ _ (by rw [enc8_len]; omega), enc8_len, Nat.sub_self]
  rfl
theorem cells_newR (w : World) (cs : List Value) (t : TypeId) (g : Nat) (hg : g = w.heap.size) : ∀ (j : Nat) (u : Value), cs[j]? = some u → (w.alloc (.cells cs.toArray t)).cell? ((⟨g, 0, none⟩ : Addr).add j) = some u := by
  subst hg; exact cells_new w cs t
theorem lastB_more {c k : Nat} (h : 0 < k) : lastB c k = UInt8.ofNat (c + 128) :: numB k := by rw [lastB, if_neg (by omega)]
theorem and127n (n : Nat) (h : n ≤ 4611686018427387903) : bits .and .i64 (n : Int) 127 % 256 = (((UInt8.ofNat (n % 128)).toNat : Nat) : Int) := by
  have e : bits .and .i64 (n : Int) 127 = (n : Int) % 128 := bits_mask .i64 63 (by decide) wraps_i64 7 (by decide) n (by omega) (by omega)
  rw [e, UInt8.toNat_ofNat']
  omega
set_option maxRecDepth 100000 in
set_option maxHeartbeats 1600000 in
theorem refNum_ok (n : Nat) (w : World) (h : n ≤ 4611686018427387903) :
    Calls Tryz.prog 121 #[.int .i64 n] w fun e w' => (∃ v, e = .returned (.tuple #[v, .bool true]) ∧ w'.ownsRow 0 5 1 v (numB n).length ((numB n).flatMap encU8) ∧ (∀ j, v.ownBlock = some j → w.heap.size ≤ j)) ∧ Ext w w' := by
  have g1 : decide ((n : Int) < 0) = false := by simp
  have g2 : decide ((4611686018427387903 : Int) < (n : Int)) = false := by simp; omega
  go_enter Tryz.func121, Tryz.ntmps121
  go_wp2_with fail
  obtain ⟨i0, hi, hz0, hz1, hz2⟩ := info_parts infoU8
  have I0 := Lib.hid hi
  clear hi
  go_loopw [0, 4] (fun vk vs wr => ∃ (k : Nat) (cs : List UInt8) (c g cap : Nat), vk = .int .i64 k ∧ vs = .slice (some ⟨g, 0, none⟩) (cs.length + 1) cap ∧ wr.ownsRow 0 5 1 vs (cs.length + 1) ((cs ++ [UInt8.ofNat c]).flatMap encU8) ∧ c < 128 ∧ cs ++ lastB c k = numB n ∧ k ≤ n ∧ w.heap.size ≤ g ∧ Ext w wr) (fun vk _ _ => (intOf vk).toNat)
  case atStart =>
    refine ⟨n / 128, [], n % 128, w.heap.size, 1, by rw [Int.natCast_ediv]; rfl, rfl, ?_, Nat.mod_lt _ (by decide), (numB_last' n).symm, Nat.div_le_self _ _, Nat.le_refl _, (Ext.refl w).alloc (Nat.le_refl _) _⟩
    rw [and127n n h]
    exact ⟨by simp [encU8], .inr ⟨w.heap.size, 1, #[.int .u8 ((UInt8.ofNat (n % 128)).toNat : Int)], rfl, Nat.zero_le _, heap_alloc_new w _, Nat.le_refl _, by decide, rfl, rfl⟩⟩
  case round =>
    obtain ⟨k, cs, c, g, cap, rfl, rfl, hown, hc, hcs, hkn, hg, hx⟩ := hrel
    have O1 := Lib.hid hown; have X1 := Lib.hid hx; have CS := Lib.hid hcs
    obtain ⟨j, hj⟩ : ∃ j, j = cs.length := ⟨_, rfl⟩
    have J := Lib.hid hj
    clear hown hx hcs
    by_cases hlt : 0 < k
    · have t1 : decide ((0 : Int) < (k : Int)) = true := by simp; omega
      have hj9 : j ≤ 9 := by
        have := congrArg List.length CS.out
        have := numB_nine h
        simp only [List.length_append] at *
        omega
      have hcb : c = (UInt8.ofNat c).toNat := by rw [UInt8.toNat_ofNat']; omega
      have hcell : wr.cell? ⟨g, j, none⟩ = some (.int .u8 (c : Int)) := by
        obtain ⟨ao, cap', hv, _, _, hr⟩ := Rows.own (l := cs ++ [UInt8.ofNat c]) (enc := encU8) (fun _ => rfl) (by simpa using O1.out)
        simp only [Value.slice.injEq] at hv
        obtain ⟨rfl, _, rfl⟩ := hv
        obtain ⟨b, off, e, _, hh⟩ := hr (by simp)
        simp only [Option.some.injEq, Addr.mk.injEq, and_true] at e
        obtain ⟨rfl, rfl⟩ := e
        have := hh j (UInt8.ofNat c) (by rw [hj]; simp) 0 _ rfl
        rw [← hcb] at this
        simpa using this
      have hfree : wr.frozen? ⟨g, j, none⟩ = false := by
        rcases O1.out.2 with ⟨h2, _⟩ | ⟨g', cap', cur, hv, hB, hg', hn, hm, hcc, ht⟩
        · cases h2
        · simp only [Value.slice.injEq, Option.some.injEq, Addr.mk.injEq, and_true, true_and] at hv
          obtain ⟨rfl, rfl⟩ := hv
          exact Blk.free (cs := cur.toList) (t := 5) (by unfold Blk; rw [hg']) j
      have O2 : (wr.setCell ⟨g, j, none⟩ (.int .u8 (bits .or .u8 (c : Int) 128))).ownsRow 0 5 1 (.slice (some ⟨g, 0, none⟩) (j + 1) cap) (j + 1) ((cs ++ [UInt8.ofNat (c + 128)]).flatMap encU8) := by
        have := own_set O1.out j (.int .u8 (bits .or .u8 (c : Int) 128))
        rw [or128b c hc, hj, set_last8] at this
        rw [or128b c hc, hj]
        exact this
      have O2 := Lib.hid O2
      have JJ := Lib.hid hj
      rw [← hj]
      clear hj hcb
      have wj : wrap64 (j : Int) = (j : Int) := by unfold wrap64; omega
      have j0 : (0 : Int) ≤ (j : Int) := by omega
      have j1 : (j : Int) < (j : Int) + 1 := by omega
      have hi := I0.out
      go_wp2_with (at_builtin; go_must (refine wpList_append_at _ rfl _ _ 46 rfl 5 i0 _ 1 1 Tryz.underlying46 hi hz0 hz1 hz2 rfl (by decide) (.slice (some ⟨g, 0, none⟩) (j + 1) cap) (j + 1) ((cs ++ [UInt8.ofNat (c + 128)]).flatMap encU8) rfl (own_ext O2.out ((Below.refl _ _).alloc (Nat.le_refl _) _)) ⟨_, 0, none⟩ 1 1 [.int .u8 (bits .and .i64 (k : Int) 127 % 256)] rfl rfl (cells_newR (wr.setCell ⟨g, j, none⟩ (.int .u8 (bits .or .u8 (c : Int) 128))) [.int .u8 (bits .and .i64 (k : Int) 127 % 256)] _ _ (by simp)) (by simp [Value.oneCell']) (by decide) (by unfold maxLen; omega) (by omega) ?_; intro g2 cap2 w6 hown' hbut hkept; have Y1 := Lib.hid hown'; have Y2 := Lib.hid hbut; have Y3 := Lib.hid hkept; clear hown' hbut hkept))
      have hl2 : (cs ++ [UInt8.ofNat (c + 128)]).length = j + 1 := by rw [JJ.out]; simp
      have hk62 : k ≤ 4611686018427387903 := by omega
      refine ⟨⟨k / 128, cs ++ [UInt8.ofNat (c + 128)], k % 128, g2, cap2, by rw [Int.natCast_ediv]; rfl, by rw [hl2], ?_, Nat.mod_lt _ (by decide), ?_, by omega, ?_, ?_⟩, by simp only [intOf]; omega⟩
      · have := Y1.out
        rw [and127n k hk62] at this
        rw [hl2, List.flatMap_append]
        exact this
      · rw [← CS.out, lastB_more hlt, numB_last' k, List.append_assoc]; rfl
      · rcases Y3.out g2 rfl with e | e
        · have e : some g = some g2 := e
          cases e; exact hg
        · have := X1.out.size; simp at e; omega
      · have B : But (fun i => w.heap.size ≤ i) w ((wr.setCell ⟨g, j, none⟩ (.int .u8 (bits .or .u8 (c : Int) 128))).alloc (.cells #[.int .u8 (bits .and .i64 (k : Int) 127 % 256)] 5)) := ((X1.out.but _).setCell (p := ⟨g, j, none⟩) (fun _ => hg) _).alloc _
        exact (B.trans Y2.out (fun _ _ e => e) (fun i _ e => by simp only [Value.ownBlock, Option.some.injEq] at e; omega)).ext (fun i hi e => by omega)
    · have t1 : decide ((0 : Int) < (k : Int)) = false := by simp; omega
      have hk0 : k = 0 := by omega
      subst hk0
      go_wp2_with fail
      go_ret2
      have hl2 : (cs ++ [UInt8.ofNat c]).length = cs.length + 1 := by simp
      have hnb : numB n = cs ++ [UInt8.ofNat c] := by rw [← CS.out, lastB, if_pos rfl]
      refine ⟨⟨_, rfl, ?_, fun i e => ?_⟩, X1.out⟩
      · rw [hnb, hl2]; exact O1.out
      · have e : some g = some i := e
        cases e; exact hg
/-- Bytes that were told. -/
def BytesPost (bs : List UInt8) (w : World) (e : Ending) (w' : World) : Prop :=
  (∃ v, e = .returned v ∧ w'.ownsRow 0 5 1 v bs.length (bs.flatMap encU8) ∧ (∀ j, v.ownBlock = some j → w.heap.size ≤ j)) ∧ Ext w w'
set_option maxRecDepth 100000 in
theorem refFlag_calls (b : Bool) (w : World) : Calls Tryz.prog 122 #[.bool b] w (BytesPost (flagB b) w) := by
  cases b
  all_goals
    go_enter Tryz.func122, Tryz.ntmps122
    go_wp2_with fail
    go_ret
  · exact ⟨⟨_, rfl, ⟨rfl, .inr ⟨w.heap.size, 1, #[.int .u8 0], rfl, Nat.zero_le _, heap_alloc_new w _, Nat.le_refl _, by decide, rfl, rfl⟩⟩, fun i e => by have e : some w.heap.size = some i := e; cases e; exact Nat.le_refl _⟩, (Ext.refl w).alloc (Nat.le_refl _) _⟩
  · exact ⟨⟨_, rfl, ⟨rfl, .inr ⟨w.heap.size, 1, #[.int .u8 1], rfl, Nat.zero_le _, heap_alloc_new w _, Nat.le_refl _, by decide, rfl, rfl⟩⟩, fun i e => by have e : some w.heap.size = some i := e; cases e; exact Nat.le_refl _⟩, (Ext.refl w).alloc (Nat.le_refl _) _⟩
set_option maxRecDepth 100000 in
set_option maxHeartbeats 1600000 in
theorem refRow_calls (l : List UInt8) (ao : Option Addr) (cap : Nat) (w : World) (hr : Rows 1 encU8 w.heap.size w ao l) (hl : l.length ≤ 1000000000) : Calls Tryz.prog 123 #[.slice ao l.length cap] w (BytesPost (rowB l) w) := by
  obtain ⟨i0, hi, hz0, hz1, hz2⟩ := info_parts infoU8
  have HR := Lib.hid hr; have I0 := Lib.hid hi
  have hnb := numB_nine (n := l.length) (by omega)
  clear hr hi
  go_enter Tryz.func123, Tryz.ntmps123
  go_wp2_with fail
  refine (refNum_ok l.length w (by omega)).mono ?_
  rintro e w1 ⟨⟨v, rfl, h1, h2⟩, hx⟩
  have O1 := Lib.hid h1; have P1 := Lib.hid h2; have X1 := Lib.hid hx
  clear h1 h2 hx
  have hi := I0.out
  go_wp2_with (at_builtin; go_must (refine wpList_append_rows (enc := encU8) (size := 1) (fun _ => rfl) one_u8 rfl _ _ 46 rfl 5 i0 _ 1 Tryz.underlying46 hi hz0 hz1 hz2 rfl (by decide) v (numB l.length).length ((numB l.length).flatMap encU8) rfl O1.out ao l cap rfl ((HR.out.ext X1.out).mono X1.out.size) (by unfold maxLen; omega) (by omega) ?_; intro v1 w2 hown1 hbut1 hkept1; have O2 := Lib.hid hown1; have B2 := Lib.hid hbut1; have P2 := Lib.hid hkept1; clear hown1 hbut1 hkept1))
  go_ret
  refine ⟨⟨_, rfl, by rw [rowB, List.length_append, List.flatMap_append]; exact O2.out, fun j e => ?_⟩, ?_⟩
  · rcases P2.out j e with e | e
    · exact P1.out j e
    · have := X1.out.size; omega
  · exact ((X1.out.but (fun k => v.ownBlock = some k)).trans B2.out (fun _ _ e => e) (fun _ _ e => e)).ext (fun i hi e => by have := P1.out i e; omega)
end Go.Proofs.YtdmejbjpbjcfbaaGreatDoor
