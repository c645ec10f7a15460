/- watershedref02: what is written, by the document. -/
import Derived.Test.YtdmejbjpbjcfbaaGreatDoorWire
import Derived.IntWalk
import Derived.Test.YtdmejbjpbjcfbaaGreatDoorHoldW
import Derived.Deep.DeepMust
import Derived.Deep.CutRange
import Derived.Deep.DeepCutAuto
namespace Go.Proofs.YtdmejbjpbjcfbaaGreatDoor
open Go.RowKit
theorem own_set {w : World} {B : Nat} {e : TypeId} {size n cap g : Nat} {xs : List Value} (h : w.ownsRow B e size (.slice (some ⟨g, 0, none⟩) n cap) n xs) (j : Nat) (u : Value) : (w.setCell ⟨g, j, none⟩ u).ownsRow B e size (.slice (some ⟨g, 0, none⟩) n cap) n (xs.set j u) := by
  obtain ⟨h1, h2⟩ := h
  refine ⟨by simpa using h1, .inr ?_⟩
  rcases h2 with ⟨h2, _⟩ | ⟨g', cap', cur, hv, hB, hg, hn, hm, hc, ht⟩
  · cases h2
  · simp only [Value.slice.injEq, Option.some.injEq, Addr.mk.injEq, and_true, true_and] at hv
    obtain ⟨rfl, rfl⟩ := hv
    have hb : Blk w g cur.toList e := by unfold Blk; rw [hg]
    have hs := hb.set j u
    unfold Blk at hs
    refine ⟨g, cap, (cur.toList.set j u).toArray, rfl, hB, hs, hn, hm, by simpa using hc, ?_⟩
    rw [List.toList_toArray, ← ht, List.take_set]
theorem or128b (c : Nat) (h : c < 128) : bits .or .u8 (c : Int) 128 = (((UInt8.ofNat (c + 128)).toNat : Nat) : Int) := by
  have h2 : ∀ m : Fin 128, bits .or .u8 ((m.val : Nat) : Int) 128 = ((m.val + 128 : Nat) : Int) := by decide
  have := h2 ⟨c, h⟩
  simp only at this
  rw [this, UInt8.toNat_ofNat']
  omega
def lastB (c k : Nat) : List UInt8 := if k = 0 then [UInt8.ofNat c] else UInt8.ofNat (c + 128) :: numB k
theorem numB_last' (n : Nat) : numB n = lastB (n % 128) (n / 128) := by
  rw [numB, lastB]
  split
  · rename_i h
    rw [if_pos (by omega), Nat.mod_eq_of_lt h]
  · rw [if_neg (by omega)]
set_option maxRecDepth 100000 in
set_option maxHeartbeats 1600000 in
theorem refNum_bad (n : Int) (w : World) (h : okN n = false) :
    Calls Tryz.prog 121 #[.int .i64 n] w fun e w' => e = .returned (.tuple #[.slice none 0 0, .bool false]) ∧ w = w' := by
  have h : n < 0 ∨ (¬ n < 0 ∧ 4611686018427387903 < n) := by
    simp only [okN, Bool.and_eq_false_iff, decide_eq_false_iff_not] at h
    omega
  rcases h with h | ⟨h, h2⟩
  case' inl => have g1 : decide (n < 0) = true := by simp; omega
  case' inr =>
    have g1 : decide (n < 0) = false := by simp; omega
    have g2 : decide ((4611686018427387903 : Int) < n) = true := by simp; omega
  all_goals
    go_enter Tryz.func121, Tryz.ntmps121
    go_wp2_with fail
    go_ret2
    exact ⟨rfl, rfl⟩
theorem enc8_len : ∀ l : List UInt8, (l.flatMap encU8).length = l.length
  | [] => rfl
  | x :: l => by rw [List.flatMap_cons, List.length_append, enc8_len l]; simp [encU8]; omega
theorem set_last8 (cs : List UInt8) (a b : UInt8) : ((cs ++ [a]).flatMap encU8).set cs.length (.int .u8 (b.toNat : Int)) = (cs ++ [b]).flatMap encU8 := by
  rw [List.flatMap_append, List.flatMap_append, List.set_append_right _ _ (by rw [enc8_len]; omega), enc8_len, Nat.sub_self]
  rfl
theorem cells_newR (w : World) (cs : List Value) (t : TypeId) (g : Nat) (hg : g = w.heap.size) : ∀ (j : Nat) (u : Value), cs[j]? = some u → (w.alloc (.cells cs.toArray t)).cell? ((⟨g, 0, none⟩ : Addr).add j) = some u := by
  subst hg; exact cells_new w cs t
theorem lastB_more {c k : Nat} (h : 0 < k) : lastB c k = UInt8.ofNat (c + 128) :: numB k := by rw [lastB, if_neg (by omega)]
theorem and127n (n : Nat) (h : n ≤ 4611686018427387903) : bits .and .i64 (n : Int) 127 % 256 = (((UInt8.ofNat (n % 128)).toNat : Nat) : Int) := by
  have e : bits .and .i64 (n : Int) 127 = (n : Int) % 128 := bits_mask .i64 63 (by decide) wraps_i64 7 (by decide) n (by omega) (by omega)
  rw [e, UInt8.toNat_ofNat']
  omega
set_option maxRecDepth 100000 in
set_option maxHeartbeats 1600000 in
theorem refNum_ok (n : Nat) (w : World) (h : n ≤ 4611686018427387903) :
    Calls Tryz.prog 121 #[.int .i64 n] w fun e w' => (∃ v, e = .returned (.tuple #[v, .bool true]) ∧ w'.ownsRow 0 5 1 v (numB n).length ((numB n).flatMap encU8) ∧ (∀ j, v.ownBlock = some j → w.heap.size ≤ j)) ∧ Ext w w' := by
  have g1 : decide ((n : Int) < 0) = false := by simp
  have g2 : decide ((4611686018427387903 : Int) < (n : Int)) = false := by simp; omega
  go_enter Tryz.func121, Tryz.ntmps121
  go_wp2_with fail
  obtain ⟨i0, hi, hz0, hz1, hz2⟩ := info_parts infoU8
  have I0 := Lib.hid hi
  clear hi
  go_loopw [0, 4] (fun vk vs wr => ∃ (k : Nat) (cs : List UInt8) (c g cap : Nat), vk = .int .i64 k ∧ vs = .slice (some ⟨g, 0, none⟩) (cs.length + 1) cap ∧ wr.ownsRow 0 5 1 vs (cs.length + 1) ((cs ++ [UInt8.ofNat c]).flatMap encU8) ∧ c < 128 ∧ cs ++ lastB c k = numB n ∧ k ≤ n ∧ w.heap.size ≤ g ∧ Ext w wr) (fun vk _ _ => (intOf vk).toNat)
  case atStart =>
    refine ⟨n / 128, [], n % 128, w.heap.size, 1, by rw [Int.natCast_ediv]; rfl, rfl, ?_, Nat.mod_lt _ (by decide), (numB_last' n).symm, Nat.div_le_self _ _, Nat.le_refl _, (Ext.refl w).alloc (Nat.le_refl _) _⟩
    rw [and127n n h]
    exact ⟨by simp [encU8], .inr ⟨w.heap.size, 1, #[.int .u8 ((UInt8.ofNat (n % 128)).toNat : Int)], rfl, Nat.zero_le _, heap_alloc_new w _, Nat.le_refl _, by decide, rfl, rfl⟩⟩
  case round =>
    obtain ⟨k, cs, c, g, cap, rfl, rfl, hown, hc, hcs, hkn, hg, hx⟩ := hrel
    have O1 := Lib.hid hown; have X1 := Lib.hid hx; have CS := Lib.hid hcs
    obtain ⟨j, hj⟩ : ∃ j, j = cs.length := ⟨_, rfl⟩
    have J := Lib.hid hj
    clear hown hx hcs
    by_cases hlt : 0 < k
    · have t1 : decide ((0 : Int) < (k : Int)) = true := by simp; omega
      have hj9 : j ≤ 9 := by
        have := congrArg List.length CS.out
        have := numB_nine h
        simp only [List.length_append] at *
        omega
      have hcb : c = (UInt8.ofNat c).toNat := by rw [UInt8.toNat_ofNat']; omega
      have hcell : wr.cell? ⟨g, j, none⟩ = some (.int .u8 (c : Int)) := by
        obtain ⟨ao, cap', hv, _, _, hr⟩ := Rows.own (l := cs ++ [UInt8.ofNat c]) (enc := encU8) (fun _ => rfl) (by simpa using O1.out)
        simp only [Value.slice.injEq] at hv
        obtain ⟨rfl, _, rfl⟩ := hv
        obtain ⟨b, off, e, _, hh⟩ := hr (by simp)
        simp only [Option.some.injEq, Addr.mk.injEq, and_true] at e
        obtain ⟨rfl, rfl⟩ := e
        have := hh j (UInt8.ofNat c) (by rw [hj]; simp) 0 _ rfl
        rw [← hcb] at this
        simpa using this
      have hfree : wr.frozen? ⟨g, j, none⟩ = false := by
        rcases O1.out.2 with ⟨h2, _⟩ | ⟨g', cap', cur, hv, hB, hg', hn, hm, hcc, ht⟩
        · cases h2
        · simp only [Value.slice.injEq, Option.some.injEq, Addr.mk.injEq, and_true, true_and] at hv
          obtain ⟨rfl, rfl⟩ := hv
          exact Blk.free (cs := cur.toList) (t := 5) (by unfold Blk; rw [hg']) j
      have O2 : (wr.setCell ⟨g, j, none⟩ (.int .u8 (bits .or .u8 (c : Int) 128))).ownsRow 0 5 1 (.slice (some ⟨g, 0, none⟩) (j + 1) cap) (j + 1) ((cs ++ [UInt8.ofNat (c + 128)]).flatMap encU8) := by
        have := own_set O1.out j (.int .u8 (bits .or .u8 (c : Int) 128))
        rw [or128b c hc, hj, set_last8] at this
        rw [or128b c hc, hj]
        exact this
      have O2 := Lib.hid O2
      have JJ := Lib.hid hj
      rw [← hj]
      clear hj hcb
      have wj : wrap64 (j : Int) = (j : Int) := by unfold wrap64; omega
      have j0 : (0 : Int) ≤ (j : Int) := by omega
      have j1 : (j : Int) < (j : Int) + 1 := by omega
      have hi := I0.out
      go_wp2_with (at_builtin; go_must (refine wpList_append_at _ rfl _ _ 46 rfl 5 i0 _ 1 1 Tryz.underlying46 hi hz0 hz1 hz2 rfl (by decide) (.slice (some ⟨g, 0, none⟩) (j + 1) cap) (j + 1) ((cs ++ [UInt8.ofNat (c + 128)]).flatMap encU8) rfl (own_ext O2.out ((Below.refl _ _).alloc (Nat.le_refl _) _)) ⟨_, 0, none⟩ 1 1 [.int .u8 (bits .and .i64 (k : Int) 127 % 256)] rfl rfl (cells_newR (wr.setCell ⟨g, j, none⟩ (.int .u8 (bits .or .u8 (c : Int) 128))) [.int .u8 (bits .and .i64 (k : Int) 127 % 256)] _ _ (by simp)) (by simp [Value.oneCell']) (by decide) (by unfold maxLen; omega) (by omega) ?_; intro g2 cap2 w6 hown' hbut hkept; have Y1 := Lib.hid hown'; have Y2 := Lib.hid hbut; have Y3 := Lib.hid hkept; clear hown' hbut hkept))
      have hl2 : (cs ++ [UInt8.ofNat (c + 128)]).length = j + 1 := by rw [JJ.out]; simp
      have hk62 : k ≤ 4611686018427387903 := by omega
      refine ⟨⟨k / 128, cs ++ [UInt8.ofNat (c + 128)], k % 128, g2, cap2, by rw [Int.natCast_ediv]; rfl, by rw [hl2], ?_, Nat.mod_lt _ (by decide), ?_, by omega, ?_, ?_⟩, by simp only [intOf]; omega⟩
      · have := Y1.out
        rw [and127n k hk62] at this
        rw [hl2, List.flatMap_append]
        exact this
      · rw [← CS.out, lastB_more hlt, numB_last' k, List.append_assoc]; rfl
      · rcases Y3.out g2 rfl with e | e
        · have e : some g = some g2 := e
          cases e; exact hg
        · have := X1.out.size; simp at e; omega
      · have B : But (fun i => w.heap.size ≤ i) w ((wr.setCell ⟨g, j, none⟩ (.int .u8 (bits .or .u8 (c : Int) 128))).alloc (.cells #[.int .u8 (bits .and .i64 (k : Int) 127 % 256)] 5)) := ((X1.out.but _).setCell (p := ⟨g, j, none⟩) (fun _ => hg) _).alloc _
        exact (B.trans Y2.out (fun _ _ e => e) (fun i _ e => by simp only [Value.ownBlock, Option.some.injEq] at e; omega)).ext (fun i hi e => by omega)
    · have t1 : decide ((0 : Int) < (k : Int)) = false := by simp; omega
      have hk0 : k = 0 := by omega
      subst hk0
      go_wp2_with fail
      go_ret2
      have hl2 : (cs ++ [UInt8.ofNat c]).length = cs.length + 1 := by simp
      have hnb : numB n = cs ++ [UInt8.ofNat c] := by rw [← CS.out, lastB, if_pos rfl]
      refine ⟨⟨_, rfl, ?_, fun i e => ?_⟩, X1.out⟩
      · rw [hnb, hl2]; exact O1.out
      · have e : some g = some i := e
        cases e; exact hg
def BytesPost (bs : List UInt8) (w : World) (e : Ending) (w' : World) : Prop :=
  (∃ v, e = .returned v ∧ w'.ownsRow 0 5 1 v bs.length (bs.flatMap encU8) ∧ (∀ j, v.ownBlock = some j → w.heap.size ≤ j)) ∧ Ext w w'
set_option maxRecDepth 100000 in
theorem refFlag_calls (b : Bool) (w : World) : Calls Tryz.prog 122 #[.bool b] w (BytesPost (flagB b) w) := by
  cases b
  all_goals
    go_enter Tryz.func122, Tryz.ntmps122
    go_wp2_with fail
    go_ret
  · exact ⟨⟨_, rfl, ⟨rfl, .inr ⟨w.heap.size, 1, #[.int .u8 0], rfl, Nat.zero_le _, heap_alloc_new w _, Nat.le_refl _, by decide, rfl, rfl⟩⟩, fun i e => by have e : some w.heap.size = some i := e; cases e; exact Nat.le_refl _⟩, (Ext.refl w).alloc (Nat.le_refl _) _⟩
  · exact ⟨⟨_, rfl, ⟨rfl, .inr ⟨w.heap.size, 1, #[.int .u8 1], rfl, Nat.zero_le _, heap_alloc_new w _, Nat.le_refl _, by decide, rfl, rfl⟩⟩, fun i e => by have e : some w.heap.size = some i := e; cases e; exact Nat.le_refl _⟩, (Ext.refl w).alloc (Nat.le_refl _) _⟩
set_option maxRecDepth 100000 in
set_option maxHeartbeats 1600000 in
theorem refRow_calls (l : List UInt8) (ao : Option Addr) (cap : Nat) (w : World) (hr : Rows 1 encU8 w.heap.size w ao l) (hl : l.length ≤ 1000000000) : Calls Tryz.prog 123 #[.slice ao l.length cap] w (BytesPost (rowB l) w) := by
  obtain ⟨i0, hi, hz0, hz1, hz2⟩ := info_parts infoU8
  have HR := Lib.hid hr; have I0 := Lib.hid hi
  have hnb := numB_nine (n := l.length) (by omega)
  clear hr hi
  go_enter Tryz.func123, Tryz.ntmps123
  go_wp2_with fail
  refine (refNum_ok l.length w (by omega)).mono ?_
  rintro e w1 ⟨⟨v, rfl, h1, h2⟩, hx⟩
  have O1 := Lib.hid h1; have P1 := Lib.hid h2; have X1 := Lib.hid hx
  clear h1 h2 hx
  have hi := I0.out
  go_wp2_with (at_builtin; go_must (refine wpList_append_rows (enc := encU8) (size := 1) (fun _ => rfl) one_u8 rfl _ _ 46 rfl 5 i0 _ 1 Tryz.underlying46 hi hz0 hz1 hz2 rfl (by decide) v (numB l.length).length ((numB l.length).flatMap encU8) rfl O1.out ao l cap rfl ((HR.out.ext X1.out).mono X1.out.size) (by unfold maxLen; omega) (by omega) ?_; intro v1 w2 hown1 hbut1 hkept1; have O2 := Lib.hid hown1; have B2 := Lib.hid hbut1; have P2 := Lib.hid hkept1; clear hown1 hbut1 hkept1))
  go_ret
  refine ⟨⟨_, rfl, by rw [rowB, List.length_append, List.flatMap_append]; exact O2.out, fun j e => ?_⟩, ?_⟩
  · rcases P2.out j e with e | e
    · exact P1.out j e
    · have := X1.out.size; omega
  · exact ((X1.out.but (fun k => v.ownBlock = some k)).trans B2.out (fun _ _ e => e) (fun _ _ e => e)).ext (fun i hi e => by have := P1.out i e; omega)
def encTx (s : ByteArray) : List Value := [.string s]
def refBytes (nums : List Int) (flags : List Bool) (texts : List ByteArray) : List UInt8 :=
  if badsZ nums = true then [] else nums.flatMap numZ ++ (flags.flatMap flagB ++ texts.flatMap fun x => rowB x.data.toList)
def RefWPost (bs : List UInt8) (bad : Bool) (w : World) (e : Ending) (w' : World) : Prop :=
  (∃ v, e = .returned (.tuple #[v, .int .i64 (if bad = true then 2 else 0)]) ∧ w'.ownsRow 0 5 1 v bs.length (bs.flatMap encU8) ∧ (∀ j, v.ownBlock = some j → w.heap.size ≤ j)) ∧ Ext w w'
structure Grow (w : World) (v : Value) (bs : List UInt8) (wr : World) : Prop where
  row : wr.ownsRow 0 5 1 v bs.length (bs.flatMap encU8)
  new : ∀ j, v.ownBlock = some j → w.heap.size ≤ j
  ext : Ext w wr
theorem Grow.more {w wr w1 w2 : World} {v v' : Value} {bs l : List UInt8} (h : Grow w v bs wr) (hx : Ext wr w1) (hown : w2.ownsRow 0 5 1 v' (bs.length + l.length) (bs.flatMap encU8 ++ l.flatMap encU8)) (hb : But (fun k => v.ownBlock = some k) w1 w2) (hk : Kept1 w1 v v') : Grow w v' (bs ++ l) w2 := by
  refine ⟨by rw [List.length_append, List.flatMap_append]; exact hown, fun j e => ?_, ?_⟩
  · rcases hk j e with e | e
    · exact h.new j e
    · have := hx.size; have := h.ext.size; omega
  · exact (((h.ext.trans hx).but (fun k => v.ownBlock = some k)).trans hb (fun _ _ e => e) (fun _ _ e => e)).ext (fun i hi e => by have := h.new i e; omega)
set_option maxRecDepth 100000 in
set_option maxHeartbeats 3200000 in
theorem refWrite_calls (nums : List Int) (flags : List Bool) (texts : List ByteArray) (ao bo co : Option Addr) (ac bc cc : Nat) (w : World) (ha : Rows 1 encI w.heap.size w ao nums) (hb : Rows 1 encBool w.heap.size w bo flags) (hc : Rows 1 encTx w.heap.size w co texts)
    (la : nums.length ≤ 100) (lb : flags.length ≤ 100) (lc : texts.length ≤ 100) (lt : ∀ x ∈ texts, x.data.toList.length ≤ 1000000000) :
    Calls Tryz.prog 68 #[.slice ao nums.length ac, .slice bo flags.length bc, .slice co texts.length cc, .slice none 0 0] w (RefWPost (refBytes nums flags texts) (badsZ nums) w) := by
  obtain ⟨i0, hi, hz0, hz1, hz2⟩ := info_parts infoU8
  have I0 := Lib.hid hi; have HA := Lib.hid ha; have HB := Lib.hid hb; have HC := Lib.hid hc; have LT := Lib.hid lt
  clear hi ha hb hc lt
  go_enter Tryz.func68, Tryz.ntmps68
  go_wp2_with fail
  go_loopw [11, 10] (fun vi v wr => ∃ k : Nat, vi = .int .i64 k ∧ k ≤ nums.length ∧ badsZ (nums.take k) = false ∧ Grow w v ((nums.take k).flatMap numZ) wr) (fun vi _ _ => nums.length - (intOf vi).toNat)
  case atStart => exact ⟨0, rfl, by omega, rfl, ⟨World.ownsRow_nil _ _ _ _, fun j e => (by cases e), Ext.refl w⟩⟩
  case round =>
    obtain ⟨k, rfl, hk, hbd, hG⟩ := hrel
    have BD := Lib.hid hbd; have G1 := Lib.hid hG
    clear hbd hG
    by_cases hlt : k < nums.length
    · obtain ⟨x, hx⟩ : ∃ x, nums[k]? = some x := ⟨_, List.getElem?_eq_getElem hlt⟩
      obtain ⟨b, off, rfl, hb, hcell⟩ := (HA.out.ext G1.out.ext) (by intro e; rw [e] at hlt; simp at hlt)
      have hcx := hcell k x hx 0 _ rfl
      simp only [Nat.add_zero, Nat.mul_one] at hcx
      have i0' : (0 : Int) ≤ (k : Int) := by omega
      have i1 : (k : Int) < (nums.length : Int) := by omega
      have htk : nums.take (k + 1) = nums.take k ++ [x] := by rw [List.take_add_one, hx]; rfl
      have TK := Lib.hid htk; have BK := Lib.hid (badsZ_succ nums k x hx)
      have NL := Lib.hid (numsZ_len (nums.take k)); have KL := Lib.hid (List.length_take_le k nums)
      clear htk hcell
      cases ho : okN x with
      | false =>
        have HO := Lib.hid ho
        go_wp2_with fail
        refine (refNum_bad x wr ho).mono ?_
        rintro e w1 ⟨rfl, rfl⟩
        clear ho
        go_wp2_with fail
        have hbz : badsZ nums = true := by
          rw [badsZ, List.any_eq_true]
          exact ⟨x, List.mem_of_getElem? hx, by rw [HO.out]; rfl⟩
        rw [refBytes, if_pos hbz, hbz]
        go_ret2
        exact ⟨⟨_, rfl, World.ownsRow_nil _ _ _ _, fun j e => (by cases e)⟩, G1.out.ext⟩
      | true =>
        have h := ho
        simp only [okN, Bool.and_eq_true, decide_eq_true_eq] at h
        obtain ⟨m, rfl⟩ : ∃ m : Nat, x = (m : Int) := ⟨x.toNat, by omega⟩
        have hm : m ≤ 4611686018427387903 := by omega
        have HO := Lib.hid ho
        have hn9 := numB_nine hm
        clear ho h
        go_wp2_with fail
        refine (refNum_ok m wr hm).mono ?_
        rintro e w1 ⟨⟨v1, rfl, h1, h2⟩, h3⟩
        obtain ⟨xo, xc, rfl, _, _, hrr⟩ := Rows.own (enc := encU8) (sz := 1) (fun _ => rfl) h1
        have RR := Lib.hid hrr; have X1 := Lib.hid h3
        clear h1 h2 h3 hrr
        have hlen : ((nums.take k).flatMap numZ).length ≤ 900 := by
          have := NL.out; have := KL.out; omega
        have hi := I0.out
        go_wp2_with (at_builtin; go_must (refine wpList_append_rows (enc := encU8) (size := 1) (fun _ => rfl) one_u8 rfl _ _ 46 rfl 5 i0 _ 1 Tryz.underlying46 hi hz0 hz1 hz2 rfl (by decide) u10 ((nums.take k).flatMap numZ).length (((nums.take k).flatMap numZ).flatMap encU8) rfl (own_ext G1.out.row X1.out) xo (numB m) xc rfl RR.out (by unfold maxLen; omega) (by omega) ?_; intro v2 w2 hown1 hbut1 hkept1; have O2 := Lib.hid hown1; have B2 := Lib.hid hbut1; have P2 := Lib.hid hkept1; clear hown1 hbut1 hkept1))
        go_roundw
        case rel =>
          refine ⟨k + 1, by go_num, by omega, by rw [BK.out, BD.out, HO.out]; rfl, ?_⟩
          have := G1.out.more X1.out O2.out B2.out P2.out
          rw [TK.out, List.flatMap_append, List.flatMap_singleton, numZ, if_pos HO.out, Int.toNat_natCast]
          exact this
        case measure => simp [intOf]; omega
    · have : k = nums.length := by omega
      subst this
      rw [List.take_length] at BD G1
      have hlen1 : (nums.flatMap numZ).length ≤ 900 := by have := numsZ_len nums; omega
      obtain ⟨bs1, hbs1⟩ : ∃ b, b = nums.flatMap numZ := ⟨_, rfl⟩
      rw [← hbs1] at G1 hlen1
      have E1 := Lib.hid hbs1
      clear hbs1
      go_wp2_with fail
      go_loopw [14, 10] (fun vi v wr => ∃ k : Nat, vi = .int .i64 k ∧ k ≤ flags.length ∧ Grow w v (bs1 ++ (flags.take k).flatMap flagB) wr) (fun vi _ _ => flags.length - (intOf vi).toNat)
      case atStart => exact ⟨0, rfl, by omega, by simpa using G1.out⟩
      case round =>
        clear G1
        obtain ⟨k, rfl, hk, hG⟩ := hrel
        have G1 := Lib.hid hG
        clear hG
        by_cases hlt : k < flags.length
        · obtain ⟨x, hx⟩ : ∃ x, flags[k]? = some x := ⟨_, List.getElem?_eq_getElem hlt⟩
          obtain ⟨b, off, rfl, hb, hcell⟩ := (HB.out.ext G1.out.ext) (by intro e; rw [e] at hlt; simp at hlt)
          have hcx := hcell k x hx 0 _ rfl
          simp only [Nat.add_zero, Nat.mul_one] at hcx
          have i0' : (0 : Int) ≤ (k : Int) := by omega
          have i1 : (k : Int) < (flags.length : Int) := by omega
          have htk : flags.take (k + 1) = flags.take k ++ [x] := by rw [List.take_add_one, hx]; rfl
          have TK := Lib.hid htk
          have hlen : (bs1 ++ (flags.take k).flatMap flagB).length ≤ 1000 := by
            rw [List.length_append, flags_len, List.length_take]; omega
          clear htk hcell
          go_wp2_with fail
          refine (refFlag_calls x wr).mono ?_
          rintro e w1 ⟨⟨v1, rfl, h1, h2⟩, h3⟩
          obtain ⟨xo, xc, rfl, _, _, hrr⟩ := Rows.own (enc := encU8) (sz := 1) (fun _ => rfl) h1
          have RR := Lib.hid hrr; have X1 := Lib.hid h3
          clear h1 h2 h3 hrr
          have hi := I0.out
          have hf1 : (flagB x).length = 1 := rfl
          go_wp2_with (at_builtin; go_must (refine wpList_append_rows (enc := encU8) (size := 1) (fun _ => rfl) one_u8 rfl _ _ 46 rfl 5 i0 _ 1 Tryz.underlying46 hi hz0 hz1 hz2 rfl (by decide) u10 (bs1 ++ (flags.take k).flatMap flagB).length ((bs1 ++ (flags.take k).flatMap flagB).flatMap encU8) rfl (own_ext G1.out.row X1.out) xo (flagB x) xc rfl RR.out (by unfold maxLen; omega) (by omega) ?_; intro v2 w2 hown1 hbut1 hkept1; have O2 := Lib.hid hown1; have B2 := Lib.hid hbut1; have P2 := Lib.hid hkept1; clear hown1 hbut1 hkept1))
          go_roundw
          case rel =>
            refine ⟨k + 1, by go_num, by omega, ?_⟩
            have := G1.out.more X1.out O2.out B2.out P2.out
            rw [TK.out, List.flatMap_append, List.flatMap_singleton, ← List.append_assoc]
            exact this
          case measure => simp [intOf]; omega
        · have : k = flags.length := by omega
          subst this
          rw [List.take_length] at G1
          have hlen2 : (bs1 ++ flags.flatMap flagB).length ≤ 1000 := by
            rw [List.length_append, flags_len]; omega
          obtain ⟨bs2, hbs2⟩ : ∃ b, b = bs1 ++ flags.flatMap flagB := ⟨_, rfl⟩
          rw [← hbs2] at G1 hlen2
          have E2 := Lib.hid hbs2
          clear hbs2
          go_wp2_with fail
          go_loopw [15, 10] (fun vi v wr => ∃ k : Nat, vi = .int .i64 k ∧ k ≤ texts.length ∧ Grow w v (bs2 ++ (texts.take k).flatMap fun x => rowB x.data.toList) wr) (fun vi _ _ => texts.length - (intOf vi).toNat)
          case atStart => exact ⟨0, rfl, by omega, by simpa using G1.out⟩
          case round =>
            clear G1
            obtain ⟨k, rfl, hk, hG⟩ := hrel
            have G1 := Lib.hid hG
            clear hG
            by_cases hlt : k < texts.length
            · obtain ⟨x, hx⟩ : ∃ x, texts[k]? = some x := ⟨_, List.getElem?_eq_getElem hlt⟩
              obtain ⟨b, off, rfl, hb, hcell⟩ := (HC.out.ext G1.out.ext) (by intro e; rw [e] at hlt; simp at hlt)
              have hcx := hcell k x hx 0 _ rfl
              simp only [Nat.add_zero, Nat.mul_one] at hcx
              have i0' : (0 : Int) ≤ (k : Int) := by omega
              have i1 : (k : Int) < (texts.length : Int) := by omega
              have htk : texts.take (k + 1) = texts.take k ++ [x] := by rw [List.take_add_one, hx]; rfl
              have TK := Lib.hid htk
              have hxl := LT.out x (List.mem_of_getElem? hx)
              have hlen : (bs2 ++ (texts.take k).flatMap fun x => rowB x.data.toList).length ≤ 110000000000 := by
                have := rowsT_len (texts.take k) (fun y hy => LT.out y (List.mem_of_mem_take hy))
                rw [List.length_take] at this
                rw [List.length_append]
                have : min k texts.length ≤ 100 := by omega
                omega
              clear htk hcell
              have hw1 : ∃ W, W = Lib.bytesWorld wr 5 x ∧ Ext wr W ∧ Rows 1 encU8 W.heap.size W (some ⟨wr.heap.size, 0, none⟩) x.data.toList := by
                refine ⟨_, rfl, ext_bytesWorld, fun _ => ⟨_, 0, rfl, by rw [Lib.bytesWorld_size]; omega, fun i y hi j u hj => ?_⟩⟩
                obtain ⟨rfl, rfl⟩ : j = 0 ∧ u = .int .u8 (y.toNat : Int) := by
                  match j, hj with
                  | 0, hj => simp [encU8] at hj; exact ⟨rfl, hj.symm⟩
                  | j + 1, hj => simp [encU8] at hj
                have hil := (List.getElem?_eq_some_iff.1 hi).1
                rw [show 0 + i * 1 + 0 = i from by omega, Lib.bytesWorld_cell wr _ x i (by simpa using hil)]
                rw [List.getD_eq_getElem?_getD, hi]; rfl
              obtain ⟨W, eW, xW, rW⟩ := hw1
              have EW := Lib.hid eW; have XW := Lib.hid xW; have RW := Lib.hid rW
              clear eW xW rW
              go_wp2_with fail
              rw [Lib.run_convert_string_bytes wr _ _ 5 x (u := .string) Tryz.underlying9 Tryz.underlying46 Tryz.underlying5]
              simp only [Result.andThen]
              rw [Oper.upon_value, ← EW.out]
              go_wp2_with fail
              refine (refRow_calls x.data.toList (some ⟨wr.heap.size, 0, none⟩) _ W RW.out hxl).mono ?_
              rintro e w1 ⟨⟨v1, rfl, h1, h2⟩, h3⟩
              obtain ⟨xo, xc, rfl, _, _, hrr⟩ := Rows.own (enc := encU8) (sz := 1) (fun _ => rfl) h1
              have RR := Lib.hid hrr; have X1 := Lib.hid (XW.out.trans h3)
              clear h1 h2 h3 hrr
              have hi := I0.out
              have hrl : (rowB x.data.toList).length ≤ 1000000009 := by
                rw [rowB, List.length_append]
                have := numB_nine (n := x.data.toList.length) (by omega)
                omega
              go_wp2_with (at_builtin; go_must (refine wpList_append_rows (enc := encU8) (size := 1) (fun _ => rfl) one_u8 rfl _ _ 46 rfl 5 i0 _ 1 Tryz.underlying46 hi hz0 hz1 hz2 rfl (by decide) u10 (bs2 ++ (texts.take k).flatMap fun x => rowB x.data.toList).length ((bs2 ++ (texts.take k).flatMap fun x => rowB x.data.toList).flatMap encU8) rfl (own_ext G1.out.row X1.out) xo (rowB x.data.toList) xc rfl RR.out (by unfold maxLen; omega) (by omega) ?_; intro v2 w2 hown1 hbut1 hkept1; have O2 := Lib.hid hown1; have B2 := Lib.hid hbut1; have P2 := Lib.hid hkept1; clear hown1 hbut1 hkept1))
              go_roundw
              case rel =>
                refine ⟨k + 1, by go_num, by omega, ?_⟩
                have := G1.out.more X1.out O2.out B2.out P2.out
                rw [TK.out, List.flatMap_append, List.flatMap_singleton, ← List.append_assoc]
                exact this
              case measure => simp [intOf]; omega
            · have : k = texts.length := by omega
              subst this
              rw [List.take_length] at G1
              go_wp2_with fail
              go_loopw [16, 10] (fun vi v wr => vi = .int .i64 0 ∧ Grow w v (bs2 ++ texts.flatMap fun x => rowB x.data.toList) wr) (fun _ _ _ => 0)
              case atStart => exact ⟨rfl, G1.out⟩
              case round =>
                clear G1
                obtain ⟨rfl, hG⟩ := hrel
                have G1 := Lib.hid hG
                clear hG
                go_wp2_with fail
                go_ret2
                rw [refBytes, BD.out, if_neg (by decide), ← List.append_assoc, ← E1.out, ← E2.out]
                exact ⟨⟨_, rfl, G1.out.row, G1.out.new⟩, G1.out.ext⟩
def headR (d : HoldD) : List UInt8 := rowB d.key.data.toList ++ refBytes [d.cl, d.nm, (d.acts.length : Int)] [] []
def holdR (d : HoldD) : List UInt8 := headR d ++ d.acts.flatMap actW ++ numZ (d.reads.length : Int) ++ d.reads.flatMap readW ++ (flagB d.put ++ rowB d.value.data.toList)
def writeR (ds : List HoldD) : List UInt8 := numZ (ds.length : Int) ++ ds.flatMap holdR
def headBad (d : HoldD) : Bool := !okN d.cl || !okN d.nm
theorem okN_nat (n : Nat) (h : n ≤ 1000000) : okN (n : Int) = true := by simp [okN]; omega
theorem badsZ_head (d : HoldD) (h : d.acts.length ≤ 10000) : badsZ [d.cl, d.nm, (d.acts.length : Int)] = headBad d := by
  simp [badsZ, headBad, okN_nat d.acts.length (by omega)]
theorem refBytes_num (x : Int) : refBytes [x] [] [] = numZ x := by
  unfold refBytes badsZ numZ
  cases h : okN x <;> simp [h]
theorem refBytes_text (t : ByteArray) : refBytes [] [] [t] = rowB t.data.toList := by simp [refBytes, badsZ]
theorem refBytes_flag (b : Bool) : refBytes [] [b] [] = flagB b := by simp [refBytes, badsZ]
theorem refBytes_both (b : Bool) (t : ByteArray) : refBytes [] [b] [t] = flagB b ++ rowB t.data.toList := by simp [refBytes, badsZ]
theorem headR_eq {d : HoldD} (h : d.acts.length ≤ 10000) (hb : headBad d = false) : headR d = headW d := by
  unfold headR headW refBytes
  rw [badsZ_head d h, hb]; simp
theorem headR_len (d : HoldD) (h : d.wfit) : (headR d).length ≤ 100100 := by
  have h1 := headW_len d h
  unfold headR refBytes
  rw [headW] at h1
  simp only [List.length_append] at h1
  rw [List.length_append]
  split
  · simp; omega
  · simp; omega
theorem holdR_len (d : HoldD) (h : d.wfit) : (holdR d).length ≤ 2100000000 := by
  have h1 := headR_len d h
  have h2 := flat_len actW 100100 d.acts (fun a ha => actW_len a (h.acts a ha).1)
  have h3 := flat_len readW 100100 d.reads (fun r hr => readW_len r (h.reads r hr))
  have h4 := rowB_len d.value.data.toList (by rw [size_data]; exact h.vs)
  have h5 := numZ_len (d.reads.length : Int)
  have h6 := flagB_len d.put
  have h7 := h.an; have h8 := h.rn
  simp only [holdR, List.length_append]; omega
theorem holdR_eq {d : HoldD} (h : d.acts.length ≤ 10000) (hb : holdBad d = false) : holdR d = holdW d := by
  have : headBad d = false := by
    unfold holdBad at hb; unfold headBad
    simp only [Bool.or_eq_false_iff] at hb ⊢
    exact hb.1
  rw [holdR, holdW, headR_eq h this]
theorem writeR_eq {ds : List HoldD} (h : ∀ d ∈ ds, d.wfit) (hb : ds.any holdBad = false) : writeR ds = writeW ds := by
  unfold writeR writeW
  congr 1
  induction ds with
  | nil => rfl
  | cons d l ih =>
    rw [List.any_cons, Bool.or_eq_false_iff] at hb
    rw [List.flatMap_cons, List.flatMap_cons, holdR_eq (h d (by simp)).an hb.1, ih (fun x hx => h x (by simp [hx])) hb.2]
def errZ (b : Bool) : Int := if b = true then 2 else 0
theorem errZ_f : errZ false = 0 := rfl
theorem errZ_t : errZ true = 2 := rfl
def Piece (bs : List UInt8) (bad : Bool) (w : World) (e : Ending) (w' : World) : Prop :=
  ∃ ao cap, e = .returned (.tuple #[.slice ao bs.length cap, .int .i64 (errZ bad)]) ∧ NRows 1 encU8 (fun b => b < w.heap.size) w' ao bs ∧ Ext w w'
theorem RefWPost.piece {bs : List UInt8} {bad : Bool} {w w' : World} {e : Ending} (h : RefWPost bs bad w e w') : Piece bs bad w e w' := by
  obtain ⟨⟨v, rfl, hown, hnew⟩, hx⟩ := h
  obtain ⟨ao, cap, rfl⟩ := own_slice hown
  exact ⟨ao, cap, rfl, nrows_of_own (fun _ => rfl) hown (fun j hj e => by have := hnew j hj; omega), hx⟩
theorem piece_nums (l : List Int) (n : Nat) (hn : n = l.length) (g : Nat) (w : World) (hb : Blk w g (l.flatMap encI) 3) (hl : l.length ≤ 100) :
    Calls Tryz.prog 68 #[.slice (some ⟨g, 0, none⟩) n n, .slice none 0 0, .slice none 0 0, .slice none 0 0] w (Piece (refBytes l [] []) (badsZ l) w) := by
  subst hn
  exact (refWrite_calls l [] [] (some ⟨g, 0, none⟩) none none l.length 0 0 w (nrow_blk (sz := 1) (enc := encI) (no := fun _ => False) (fun _ => rfl) l hb id).rows (Rows.nil _ _ _ _ _) (Rows.nil _ _ _ _ _) hl (by simp) (by simp) (by simp)).mono fun _ _ h => h.piece
theorem rw_num1 (x : Int) (g : Nat) (w : World) (hb : Blk w g [.int .i64 x] 3) :
    Calls Tryz.prog 68 #[.slice (some ⟨g, 0, none⟩) 1 1, .slice none 0 0, .slice none 0 0, .slice none 0 0] w fun e w' => (∃ v, e = .returned (.tuple #[v, .int .i64 (errZ (!okN x))]) ∧ w'.ownsRow 0 5 1 v (numZ x).length ((numZ x).flatMap encU8) ∧ (∀ j, v.ownBlock = some j → w.heap.size ≤ j)) ∧ Ext w w' := by
  have h := refWrite_calls [x] [] [] (some ⟨g, 0, none⟩) none none 1 0 0 w (nrow_blk (sz := 1) (enc := encI) (no := fun _ => False) (fun _ => rfl) [x] hb id).rows (Rows.nil _ _ _ _ _) (Rows.nil _ _ _ _ _) (by simp) (by simp) (by simp) (by simp)
  rw [refBytes_num] at h
  refine h.mono fun e w' h => ?_
  obtain ⟨⟨v, rfl, h1, h2⟩, h3⟩ := h
  exact ⟨⟨v, by simp [badsZ, errZ], h1, h2⟩, h3⟩
theorem piece_num1 (x : Int) (g : Nat) (w : World) (hb : Blk w g [.int .i64 x] 3) :
    Calls Tryz.prog 68 #[.slice (some ⟨g, 0, none⟩) 1 1, .slice none 0 0, .slice none 0 0, .slice none 0 0] w (Piece (numZ x) (!okN x) w) := by
  have h := piece_nums [x] 1 rfl g w hb (by simp)
  rw [refBytes_num, show badsZ [x] = !okN x by simp [badsZ]] at h
  exact h
theorem piece_text (t : ByteArray) (g : Nat) (w : World) (hb : Blk w g [.string t] 9) (ht : t.size ≤ 1000000000) :
    Calls Tryz.prog 68 #[.slice none 0 0, .slice none 0 0, .slice (some ⟨g, 0, none⟩) 1 1, .slice none 0 0] w (Piece (rowB t.data.toList) false w) := by
  have h := (refWrite_calls [] [] [t] none none (some ⟨g, 0, none⟩) 0 0 1 w (Rows.nil _ _ _ _ _) (Rows.nil _ _ _ _ _) (nrow_blk (sz := 1) (enc := encTx) (no := fun _ => False) (fun _ => rfl) [t] hb id).rows (by simp) (by simp) (by simp) (by simpa [size_data] using ht)).mono fun _ _ h => h.piece
  rw [refBytes_text] at h
  exact h
theorem piece_flag (b : Bool) (g : Nat) (w : World) (hb : Blk w g [.bool b] 4) :
    Calls Tryz.prog 68 #[.slice none 0 0, .slice (some ⟨g, 0, none⟩) 1 1, .slice none 0 0, .slice none 0 0] w (Piece (flagB b) false w) := by
  have h := (refWrite_calls [] [b] [] none (some ⟨g, 0, none⟩) none 0 1 0 w (Rows.nil _ _ _ _ _) (nrow_blk (sz := 1) (enc := encBool) (no := fun _ => False) (fun _ => rfl) [b] hb id).rows (Rows.nil _ _ _ _ _) (by simp) (by simp) (by simp) (by simp)).mono fun _ _ h => h.piece
  rw [refBytes_flag] at h
  exact h
theorem piece_both (b : Bool) (t : ByteArray) (g g' : Nat) (w : World) (hb : Blk w g [.bool b] 4) (hc : Blk w g' [.string t] 9) (ht : t.size ≤ 1000000000) :
    Calls Tryz.prog 68 #[.slice none 0 0, .slice (some ⟨g, 0, none⟩) 1 1, .slice (some ⟨g', 0, none⟩) 1 1, .slice none 0 0] w (Piece (flagB b ++ rowB t.data.toList) false w) := by
  have h := (refWrite_calls [] [b] [t] none (some ⟨g, 0, none⟩) (some ⟨g', 0, none⟩) 0 1 1 w (Rows.nil _ _ _ _ _) (nrow_blk (sz := 1) (enc := encBool) (no := fun _ => False) (fun _ => rfl) [b] hb id).rows (nrow_blk (sz := 1) (enc := encTx) (no := fun _ => False) (fun _ => rfl) [t] hc id).rows (by simp) (by simp) (by simp) (by simpa [size_data] using ht)).mono fun _ _ h => h.piece
  rw [refBytes_both] at h
  exact h
theorem Blk.new' (w : World) (cs : List Value) (t : TypeId) (g : Nat) (hg : g = w.heap.size) : Blk (w.alloc (.cells cs.toArray t)) g cs t := hg ▸ Blk.new w cs t
def Waits (w : World) (v : Value) (ao : Option Addr) (l : List UInt8) : Prop := NRows 1 encU8 (fun b => v.ownBlock = some b) w ao l
theorem Waits.ext {w w' : World} {v : Value} {ao : Option Addr} {l : List UInt8} (h : Waits w v ao l) (hx : Ext w w') : Waits w' v ao l := NRows.ext h hx
theorem Waits.rows {w : World} {v : Value} {ao : Option Addr} {l : List UInt8} (h : Waits w v ao l) : Rows 1 encU8 w.heap.size w ao l := NRows.rows h
theorem Grow.ext2 {w wr w1 : World} {v : Value} {bs : List UInt8} (h : Grow w v bs wr) (hx : Ext wr w1) : Grow w v bs w1 := ⟨own_ext h.row hx, h.new, h.ext.trans hx⟩
theorem Grow.waits {w wr w1 w2 : World} {v : Value} {bs l : List UInt8} {ao : Option Addr} (h : Grow w v bs wr) (hx : Ext wr w1) (hp : NRows 1 encU8 (fun b => b < w1.heap.size) w2 ao l) : Waits w2 v ao l :=
  hp.mono fun b _ e => by
    have h1 := (h.row.lt b e).2
    have h2 := hx.size
    show b < w1.heap.size
    omega
theorem Waits.app {w w' : World} {v v' : Value} {ao : Option Addr} {l : List UInt8} (h : Waits w v ao l) (hb : But (fun k => v.ownBlock = some k) w w') (hk : Kept1 w v v') : Waits w' v' ao l := by
  have h1 : NRows 1 encU8 (fun b => v.ownBlock = some b ∨ v'.ownBlock = some b) w ao l := NRows.mono h fun b hb e => e.elim id fun e => (hk b e).elim id fun e => absurd hb (Nat.not_lt.2 e)
  have h2 := h1.but hb (fun b _ e => .inl e)
  exact h2.mono fun b _ e => .inr e
theorem piece_bothE (b : Bool) (t : ByteArray) (pb : List UInt8) (hpb : pb = flagB b ++ rowB t.data.toList) (g g' : Nat) (w : World) (hb : Blk w g [.bool b] 4) (hc : Blk w g' [.string t] 9) (ht : t.size ≤ 1000000000) :
    Calls Tryz.prog 68 #[.slice none 0 0, .slice (some ⟨g, 0, none⟩) 1 1, .slice (some ⟨g', 0, none⟩) 1 1, .slice none 0 0] w (Piece pb false w) := by
  rw [hpb]; exact piece_both b t g g' w hb hc ht
set_option maxRecDepth 100000 in
set_option maxHeartbeats 12800000 in
theorem refBytes_calls (ls : List HoldV) (ds : List HoldD) (no : Nat → Prop) (ao : Option Addr) (cap : Nat) (w : World) (hl : ls.length ≤ 10000) (hr : Rows 7 encHV w.heap.size w ao ls) (hd : HoldsAre w no ls ds) (hfit : ∀ d ∈ ds, d.wfit) :
    Calls Tryz.prog 23 #[.slice ao ls.length cap] w fun e w' => ∃ bo bc, e = .returned (.tuple #[.slice bo (writeR ds).length bc, .bool (!ds.any holdBad)]) ∧ NRows 1 encU8 (fun b => b < w.heap.size) w' bo (writeR ds) ∧ Ext w w' ∧ (writeR ds).length ≤ bc ∧ bc ≤ maxLen := by
  obtain ⟨i0, hi, hz0, hz1, hz2⟩ := info_parts infoU8
  have I0 := Lib.hid hi; have HR := Lib.hid hr; have HD := Lib.hid hd; have HF := Lib.hid hfit
  have HDL := Lib.hid hd.len
  clear hi hr hd hfit
  go_enter Tryz.func23, Tryz.ntmps23
  go_wp2_with fail
  have hp := rw_num1 (ls.length : Int) w.heap.size _ (Blk.new w [.int .i64 (ls.length : Int)] _)
  rw [okN_nat ls.length (by omega)] at hp
  refine hp.mono ?_
  rintro e w1 ⟨⟨v1, rfl, hown, hnew⟩, hx⟩
  have hx0 : Ext w (w.alloc (.cells #[.int .i64 (ls.length : Int)] 3)) := (Below.refl _ w).alloc (Nat.le_refl _) _
  have G1 : Hid (Grow w v1 (numZ (ls.length : Int)) w1) := Lib.hid ⟨hown, fun j hj => Nat.le_trans hx0.size (hnew j hj), hx0.trans hx⟩
  clear hp hown hnew hx hx0
  go_wp2_with fail
  try simp only [errZ_f]
  go_loopw [4, 6, 7] (fun v vg vi wr => ∃ k : Nat, vi = .int .i64 k ∧ k ≤ ls.length ∧ vg = .bool (!(ds.take k).any holdBad) ∧ Grow w v (numZ (ds.length : Int) ++ (ds.take k).flatMap holdR) wr) (fun _ _ vi _ => ls.length - (intOf vi).toNat)
  case atStart =>
    refine ⟨0, rfl, by omega, rfl, ?_⟩
    have := G1.out
    rw [HDL.out] at this
    simpa using this
  case round =>
    obtain ⟨k, rfl, hk, rfl, hG⟩ := hrel
    obtain ⟨v, hv⟩ : ∃ v, v = u4 := ⟨_, rfl⟩
    clear G1
    by_cases hlt : k < ls.length
    · obtain ⟨x, hx⟩ : ∃ x, ls[k]? = some x := ⟨_, List.getElem?_eq_getElem hlt⟩
      obtain ⟨d, hdk, hxd⟩ := HD.out.at k x hx
      have hfd := HF.out d (List.mem_of_getElem? hdk)
      obtain ⟨b, off, rfl, hb, hcell⟩ := (HR.out.ext hG.ext) (by intro e; rw [e] at hlt; simp at hlt)
      have hcx := hcell k x hx
      obtain ⟨kx, cl, nm, xo, xn, xc, yo, yn, yc, put, value⟩ := x
      have ean : xn = d.acts.length := hxd.an
      have ern : yn = d.reads.length := hxd.rn
      subst ean ern
      have d0 := hcx 0 _ rfl; have d1 := hcx 1 _ rfl; have d2 := hcx 2 _ rfl; have d3 := hcx 3 _ rfl; have d4 := hcx 4 _ rfl; have d5 := hcx 5 _ rfl; have d6 := hcx 6 _ rfl
      simp only [Nat.add_zero] at d0
      have ii0 : (0 : Int) ≤ (k : Int) := by omega
      have i1 : (k : Int) < (ls.length : Int) := by omega
      have hlk := flat_len holdR 2100000000 (ds.take k) (fun d hd => holdR_len d (HF.out d (List.mem_of_mem_take hd)))
      rw [List.length_take] at hlk
      have hn9 := numZ_len (ds.length : Int)
      obtain ⟨gd, hgd⟩ : ∃ gd, gd = !(ds.take k).any holdBad := ⟨_, rfl⟩
      obtain ⟨bk, hbk⟩ : ∃ bk, bk = numZ (ds.length : Int) ++ (ds.take k).flatMap holdR := ⟨_, rfl⟩
      have hbl : bk.length ≤ 30000000000000 := by
        have hdl := HDL.out
        rw [hbk]; simp only [List.length_append]; omega
      have hks : kx.size ≤ 100000 := by have e : kx = d.key := hxd.key; rw [e]; exact hfd.ks
      have hvs : value.size ≤ 100000 := by have e : value = d.value := hxd.value; rw [e]; exact hfd.vs
      have hkl := rowB_len kx.data.toList (by rw [size_data]; exact hks)
      rw [← hbk] at hG
      rw [← hgd]
      have hheadE : rowB kx.data.toList ++ refBytes [cl, nm, (d.acts.length : Int)] [] [] = headR d := by
        have e1 : kx = d.key := hxd.key
        have e2 : cl = d.cl := hxd.cl
        have e3 : nm = d.nm := hxd.nm
        rw [e1, e2, e3]; rfl
      have hhl := headR_len d hfd
      rw [← hheadE, List.length_append] at hhl
      have hbz : badsZ [cl, nm, (d.acts.length : Int)] = headBad d := by
        have e2 : cl = d.cl := hxd.cl
        have e3 : nm = d.nm := hxd.nm
        rw [e2, e3]; exact badsZ_head d hfd.an
      have hwS : Ext w wr := hG.ext
      have HGD := Lib.hid hgd; have HBK := Lib.hid hbk; have HHE := Lib.hid hheadE; have HBZ := Lib.hid hbz; have HHL := Lib.hid hhl
      have HXD := Lib.hid hxd; have HFD := Lib.hid hfd; have HDK := Lib.hid hdk; have G2 := Lib.hid hG; have HWS := Lib.hid hwS; have HKL := Lib.hid hkl
      have hi := I0.out
      clear hx hdk hxd hfd hcell hcx hG hgd hbk hlk hn9 hheadE hbz hhl hwS hkl
      go_wp2_with fail
      have hbox := Blk.new wr [.string kx, .int .i64 cl, .int .i64 nm, .slice xo d.acts.length xc, .slice yo d.reads.length yc, .bool put, .string value] 35
      have hxb : Ext wr (wr.alloc (.cells #[.string kx, .int .i64 cl, .int .i64 nm, .slice xo d.acts.length xc, .slice yo d.reads.length yc, .bool put, .string value] 35)) := (Below.refl _ wr).alloc (Nat.le_refl _) _
      have hsz : wr.heap.size + 1 = (wr.alloc (.cells #[.string kx, .int .i64 cl, .int .i64 nm, .slice xo d.acts.length xc, .slice yo d.reads.length yc, .bool put, .string value] 35)).heap.size := by simp
      generalize wr.alloc (.cells #[.string kx, .int .i64 cl, .int .i64 nm, .slice xo d.acts.length xc, .slice yo d.reads.length yc, .bool put, .string value] 35) = w2 at hbox hxb hsz ⊢
      try rw [hsz]
      generalize hNe : wr.heap.size = N at hbox ⊢
      clear hsz
      have HBX := Lib.hid hbox; have X2 := Lib.hid hxb
      clear hbox hxb hNe
      refine (piece_text kx w2.heap.size _ (Blk.new w2 [.string kx] _) (by omega)).mono ?_
      rintro e w3 ⟨ao1, ac1, rfl, hp, hx⟩
      have hx1 : Ext w2 (w2.alloc (.cells #[.string kx] 9)) := (Below.refl _ w2).alloc (Nat.le_refl _) _
      have G3 := Lib.hid (G2.out.ext2 (X2.out.trans (hx1.trans hx)))
      have P1 := Lib.hid (G2.out.waits (X2.out.trans hx1) hp)
      have hb3 := HBX.out.ext' (hx1.trans hx)
      have c1 := hb3.cell 1; have c2 := hb3.cell 2; have c3 := hb3.cell 3
      simp only [List.getElem?_cons_zero, List.getElem?_cons_succ] at c1 c2 c3
      have HB3 := Lib.hid hb3
      clear hp hx hx1 hb3 G2 HBX X2
      go_wp2_with fail
      refine (piece_nums [cl, nm, (d.acts.length : Int)] 3 rfl w3.heap.size _ (Blk.new w3 [.int .i64 cl, .int .i64 nm, .int .i64 (d.acts.length : Int)] _) (by simp)).mono ?_
      rw [HBZ.out]
      rintro e w4 ⟨ao2, ac2, rfl, hp, hx⟩
      have hx1 : Ext w3 (w3.alloc (.cells #[.int .i64 cl, .int .i64 nm, .int .i64 (d.acts.length : Int)] 3)) := (Below.refl _ w3).alloc (Nat.le_refl _) _
      have G4 := Lib.hid (G3.out.ext2 (hx1.trans hx))
      have P14 := Lib.hid (P1.out.ext (hx1.trans hx))
      have P24 := Lib.hid (G3.out.waits hx1 hp)
      have HB4 := Lib.hid (HB3.out.ext' (hx1.trans hx))
      clear hp hx hx1 c1 c2 c3 G3 P1 HB3
      have hhl := HHL.out; have hkl := HKL.out
      go_upto_region 10 with (first
        | (at_builtin; refine wpList_append_rows (enc := encU8) (size := 1) (fun _ => rfl) one_u8 rfl (.tmp 68) (.tmp 69) 46 rfl 5 i0 _ 1 Tryz.underlying46 hi hz0 hz1 hz2 rfl (by decide) u4 (bk).length ((bk).flatMap encU8) rfl G4.out.row ao1 (rowB kx.data.toList) ac1 rfl P14.out.rows (by unfold maxLen; omega) (by omega) ?_; intro v5 w5 hown hbut hkept; have G5 := Lib.hid (G4.out.more (Ext.refl _) hown hbut hkept); have HB5 := Lib.hid (HB4.out.but hbut (own_ne G4.out.row HB4.out (by decide))); have P25 := Lib.hid (P24.out.app hbut hkept); have hl5 : (bk ++ rowB kx.data.toList).length = (bk).length + (rowB kx.data.toList).length := List.length_append; clear hown hbut hkept)
        | (at_builtin; refine wpList_append_rows (enc := encU8) (size := 1) (fun _ => rfl) one_u8 rfl (.tmp 70) (.tmp 71) 46 rfl 5 i0 _ 1 Tryz.underlying46 hi hz0 hz1 hz2 rfl (by decide) v5 (bk ++ rowB kx.data.toList).length ((bk ++ rowB kx.data.toList).flatMap encU8) rfl G5.out.row ao2 (refBytes [cl, nm, (d.acts.length : Int)] [] []) ac2 rfl P25.out.rows (by unfold maxLen; omega) (by omega) ?_; intro v6 w6 hown hbut hkept; have G6 := Lib.hid (G5.out.more (Ext.refl _) hown hbut hkept); have HB6 := Lib.hid (HB5.out.but hbut (own_ne G5.out.row HB5.out (by decide))); have hl6 : (bk ++ rowB kx.data.toList ++ refBytes [cl, nm, (d.acts.length : Int)] [] []).length = (bk ++ rowB kx.data.toList).length + (refBytes [cl, nm, (d.acts.length : Int)] [] []).length := List.length_append; clear hown hbut hkept))
      clear G4 P14 P24 HB4 G5 P25 HB5 hhl hkl hl5 hl6
      have G6' : Hid (Grow w v6 (bk ++ headR d) w6) := Lib.hid (by
        have := G6.out
        rw [List.append_assoc, HHE.out] at this
        exact this)
      clear G6
      generalize hbad : headBad d = bad
      have HBAD := Lib.hid hbad
      clear hbad
      go_cut [6] (fun s wx => s = .bool (gd && !bad) ∧ w6 = wx)
      case first =>
        cases gd <;> cases bad <;> simp only [errZ_f, errZ_t]
        all_goals
          go_wp2_with fail
          go_meet
          exact ⟨rfl, rfl⟩
      case rest =>
        obtain ⟨hs6, rfl⟩ := hcut
        subst hs6
        obtain ⟨gs, hgs⟩ : ∃ gs, gs = (gd && !bad) := ⟨_, rfl⟩
        rw [← hgs]
        have HGS := Lib.hid hgs
        clear hgs
        have c2 := HB6.out.cell 3
        simp only [List.getElem?_cons_zero, List.getElem?_cons_succ] at c2
        go_wp2_with fail
        try simp only [errZ_f]
        go_loopw [4, 6, 13] (fun v vg vj wr => ∃ j : Nat, vj = .int .i64 j ∧ j ≤ d.acts.length ∧ vg = .bool (gs && !(d.acts.take j).any actBad) ∧ Grow w v (bk ++ headR d ++ (d.acts.take j).flatMap actW) wr ∧ Blk wr N [.string kx, .int .i64 cl, .int .i64 nm, .slice xo d.acts.length xc, .slice yo d.reads.length yc, .bool put, .string value] 35) (fun _ _ vj _ => d.acts.length - (intOf vj).toNat)
        case atStart => exact ⟨0, rfl, by omega, by simp, by simpa using G6'.out, HB6.out⟩
        case round =>
          obtain ⟨j, rfl, hj, rfl, hG, hbk⟩ := hrel
          clear G6' HB6 c2
          have hhl := headR_len d HFD.out
          have hfl := flat_len actW 100100 (d.acts.take j) (fun a ha => actW_len a (HFD.out.acts a (List.mem_of_mem_take ha)).1)
          rw [List.length_take] at hfl
          have han := HFD.out.an
          have c2 := hbk.cell 3
          simp only [List.getElem?_cons_zero, List.getElem?_cons_succ] at c2
          by_cases hjl : j < d.acts.length
          · obtain ⟨y, hy⟩ : ∃ y, d.acts[j]? = some y := ⟨_, List.getElem?_eq_getElem hjl⟩
            obtain ⟨ab, aoff, rfl, hab, hano, hacell⟩ := (HXD.out.acts.ext hG.ext) (by intro e; rw [e] at hjl; simp at hjl)
            have hac := hacell j y hy
            have hfa := HFD.out.acts y (List.mem_of_getElem? hy)
            have hty : d.acts.take (j + 1) = d.acts.take j ++ [y] := by rw [List.take_add_one, hy]; rfl
            obtain ⟨kd, key, val, num⟩ := y
            have e0 := hac 0 _ rfl; have e1 := hac 1 _ rfl; have e2 := hac 2 _ rfl; have e3 := hac 3 _ rfl
            simp only [Nat.add_zero] at e0
            obtain ⟨hva, hk0, hk255⟩ := hfa
            simp only at hva hk0 hk255
            have jj0 : (0 : Int) ≤ (j : Int) := by omega
            have jj1 : (j : Int) < (d.acts.length : Int) := by omega
            have hkw : IntKind.i64.wrap kd = kd := wrap64_id _ hk0 (by omega)
            have hko : okN kd = true := by simp [okN]; omega
            obtain ⟨gj, hgj⟩ : ∃ gj, gj = (gs && !(d.acts.take j).any actBad) := ⟨_, rfl⟩
            obtain ⟨b3, hb3⟩ : ∃ b3, b3 = bk ++ headR d ++ (d.acts.take j).flatMap actW := ⟨_, rfl⟩
            have hbl3 : b3.length ≤ 40000000000000 := by rw [hb3]; simp only [List.length_append]; omega
            have hgj2 : (gs && !(d.acts.take (j + 1)).any actBad) = (gj && okN (absZ num)) := by
              rw [hgj, hty, List.any_append, List.any_cons, List.any_nil, actBad]
              simp only [hko]
              cases gs <;> cases (List.take j d.acts).any actBad <;> cases okN (absZ num) <;> rfl
            have hb4 : bk ++ headR d ++ (d.acts.take (j + 1)).flatMap actW = b3 ++ numZ kd ++ rowB val.data.toList ++ flagB (decide (num < 0)) ++ numZ (absZ num) := by
              rw [hb3, hty, List.flatMap_append, List.flatMap_singleton, actW]
              simp only [List.append_assoc]
            rw [← hb3] at hG
            rw [← hgj]
            have n1 := numZ_len kd; have n2 := rowB_len val.data.toList (by rw [size_data]; exact hva); have n3 := flagB_len (decide (num < 0)); have n4 := numZ_len (absZ num)
            have HGJ2 := Lib.hid hgj2; have HB4E := Lib.hid hb4
            have G2 := Lib.hid hG; have HBX := Lib.hid hbk
            have M1 := Lib.hid n1; have M2 := Lib.hid n2; have M3 := Lib.hid n3; have M4 := Lib.hid n4
            clear hy hacell hac hty hfl hhl hgj hb3 hgj2 hb4 hG hbk hko n1 n2 n3 n4
            go_wp2_with fail
            have hbox := Blk.new wr [.int .u8 kd, .string key, .string val, .int .i64 num] 98
            have hxb : Ext wr (wr.alloc (.cells #[.int .u8 kd, .string key, .string val, .int .i64 num] 98)) := (Below.refl _ wr).alloc (Nat.le_refl _) _
            have hsz : wr.heap.size + 1 = (wr.alloc (.cells #[.int .u8 kd, .string key, .string val, .int .i64 num] 98)).heap.size := by simp
            have HBX2 := Lib.hid (HBX.out.ext' hxb)
            generalize wr.alloc (.cells #[.int .u8 kd, .string key, .string val, .int .i64 num] 98) = w2 at hbox hxb hsz HBX2 ⊢
            try rw [hsz]
            generalize hMe : wr.heap.size = M at hbox ⊢
            clear hsz
            have HMX := Lib.hid hbox; have X2 := Lib.hid hxb
            clear hbox hxb hMe HBX c2 e0 e1 e2 e3
            refine (piece_num1 kd w2.heap.size _ (Blk.new w2 [.int .i64 kd] _)).mono ?_
            rintro e w3 ⟨ao1, ac1, rfl, hp, hx⟩
            have hx1 : Ext w2 (w2.alloc (.cells #[.int .i64 kd] 3)) := (Below.refl _ w2).alloc (Nat.le_refl _) _
            have G3 := Lib.hid (G2.out.ext2 (X2.out.trans (hx1.trans hx)))
            have P13 := Lib.hid (G2.out.waits (X2.out.trans hx1) hp)
            have HB3 := Lib.hid (HBX2.out.ext' (hx1.trans hx))
            have hm3 := HMX.out.ext' (hx1.trans hx)
            have e2 := hm3.cell 2
            simp only [List.getElem?_cons_zero, List.getElem?_cons_succ] at e2
            have HM3 := Lib.hid hm3
            clear hp hx hx1 hm3 G2 HBX2 X2 HMX
            go_wp2_with fail
            refine (piece_text val w3.heap.size _ (Blk.new w3 [.string val] _) (by omega)).mono ?_
            rintro e w4 ⟨ao2, ac2, rfl, hp, hx⟩
            have hx1 : Ext w3 (w3.alloc (.cells #[.string val] 9)) := (Below.refl _ w3).alloc (Nat.le_refl _) _
            have G4 := Lib.hid (G3.out.ext2 (hx1.trans hx))
            have P14 := Lib.hid (P13.out.ext (hx1.trans hx)); have P24 := Lib.hid (G3.out.waits hx1 hp)
            have HB4 := Lib.hid (HB3.out.ext' (hx1.trans hx))
            have hm4 := HM3.out.ext' (hx1.trans hx)
            have e3 := hm4.cell 3
            simp only [List.getElem?_cons_zero, List.getElem?_cons_succ] at e3
            have HM4 := Lib.hid hm4
            clear hp hx hx1 hm4 G3 P13 HB3 HM3 e2
            go_wp2_with fail
            refine (piece_flag (decide (num < 0)) w4.heap.size _ (Blk.new w4 [.bool (decide (num < 0))] _)).mono ?_
            rintro e w5 ⟨ao3, ac3, rfl, hp, hx⟩
            have hx1 : Ext w4 (w4.alloc (.cells #[.bool (decide (num < 0))] 4)) := (Below.refl _ w4).alloc (Nat.le_refl _) _
            have G5 := Lib.hid (G4.out.ext2 (hx1.trans hx))
            have P15 := Lib.hid (P14.out.ext (hx1.trans hx)); have P25 := Lib.hid (P24.out.ext (hx1.trans hx)); have P35 := Lib.hid (G4.out.waits hx1 hp)
            have HB5 := Lib.hid (HB4.out.ext' (hx1.trans hx))
            have hm5 := HM4.out.ext' (hx1.trans hx)
            have f3 := hm5.cell 3
            simp only [List.getElem?_cons_zero, List.getElem?_cons_succ] at f3
            clear hp hx hx1 hm5 G4 P14 P24 HB4 HM4 e3
            go_wp2_with fail
            refine (piece_num1 (absZ num) w5.heap.size _ (Blk.new w5 [.int .i64 (absZ num)] _)).mono ?_
            rintro e w6 ⟨ao4, ac4, rfl, hp, hx⟩
            have hx1 : Ext w5 (w5.alloc (.cells #[.int .i64 (absZ num)] 3)) := (Below.refl _ w5).alloc (Nat.le_refl _) _
            have G6 := Lib.hid (G5.out.ext2 (hx1.trans hx))
            have P16 := Lib.hid (P15.out.ext (hx1.trans hx)); have P26 := Lib.hid (P25.out.ext (hx1.trans hx)); have P36 := Lib.hid (P35.out.ext (hx1.trans hx)); have P46 := Lib.hid (G5.out.waits hx1 hp)
            have HB6 := Lib.hid (HB5.out.ext' (hx1.trans hx))
            clear hp hx hx1 G5 P15 P25 P35 HB5 f3
            have n1 := M1.out; have n2 := M2.out; have n3 := M3.out; have n4 := M4.out
            go_upto_region 20 with (first
              | (at_builtin; refine wpList_append_rows (enc := encU8) (size := 1) (fun _ => rfl) one_u8 rfl (.tmp 124) (.tmp 125) 46 rfl 5 i0 _ 1 Tryz.underlying46 hi hz0 hz1 hz2 rfl (by decide) u4 (b3).length ((b3).flatMap encU8) rfl G6.out.row ao1 (numZ kd) ac1 rfl P16.out.rows (by unfold maxLen; omega) (by omega) ?_; intro v7 w7 hown hbut hkept; have G7 := Lib.hid (G6.out.more (Ext.refl _) hown hbut hkept); have HB7 := Lib.hid (HB6.out.but hbut (own_ne G6.out.row HB6.out (by decide))); have P27 := Lib.hid (P26.out.app hbut hkept); have P37 := Lib.hid (P36.out.app hbut hkept); have P47 := Lib.hid (P46.out.app hbut hkept); have hl7 : (b3 ++ numZ kd).length = (b3).length + (numZ kd).length := List.length_append; clear hown hbut hkept)
              | (at_builtin; refine wpList_append_rows (enc := encU8) (size := 1) (fun _ => rfl) one_u8 rfl (.tmp 126) (.tmp 127) 46 rfl 5 i0 _ 1 Tryz.underlying46 hi hz0 hz1 hz2 rfl (by decide) v7 (b3 ++ numZ kd).length ((b3 ++ numZ kd).flatMap encU8) rfl G7.out.row ao2 (rowB val.data.toList) ac2 rfl P27.out.rows (by unfold maxLen; omega) (by omega) ?_; intro v8 w8 hown hbut hkept; have G8 := Lib.hid (G7.out.more (Ext.refl _) hown hbut hkept); have HB8 := Lib.hid (HB7.out.but hbut (own_ne G7.out.row HB7.out (by decide))); have P38 := Lib.hid (P37.out.app hbut hkept); have P48 := Lib.hid (P47.out.app hbut hkept); have hl8 : (b3 ++ numZ kd ++ rowB val.data.toList).length = (b3 ++ numZ kd).length + (rowB val.data.toList).length := List.length_append; clear hown hbut hkept)
              | (at_builtin; refine wpList_append_rows (enc := encU8) (size := 1) (fun _ => rfl) one_u8 rfl (.tmp 128) (.tmp 129) 46 rfl 5 i0 _ 1 Tryz.underlying46 hi hz0 hz1 hz2 rfl (by decide) v8 (b3 ++ numZ kd ++ rowB val.data.toList).length ((b3 ++ numZ kd ++ rowB val.data.toList).flatMap encU8) rfl G8.out.row ao3 (flagB (decide (num < 0))) ac3 rfl P38.out.rows (by unfold maxLen; omega) (by omega) ?_; intro v9 w9 hown hbut hkept; have G9 := Lib.hid (G8.out.more (Ext.refl _) hown hbut hkept); have HB9 := Lib.hid (HB8.out.but hbut (own_ne G8.out.row HB8.out (by decide))); have P49 := Lib.hid (P48.out.app hbut hkept); have hl9 : (b3 ++ numZ kd ++ rowB val.data.toList ++ flagB (decide (num < 0))).length = (b3 ++ numZ kd ++ rowB val.data.toList).length + (flagB (decide (num < 0))).length := List.length_append; clear hown hbut hkept)
              | (at_builtin; refine wpList_append_rows (enc := encU8) (size := 1) (fun _ => rfl) one_u8 rfl (.tmp 130) (.tmp 131) 46 rfl 5 i0 _ 1 Tryz.underlying46 hi hz0 hz1 hz2 rfl (by decide) v9 (b3 ++ numZ kd ++ rowB val.data.toList ++ flagB (decide (num < 0))).length ((b3 ++ numZ kd ++ rowB val.data.toList ++ flagB (decide (num < 0))).flatMap encU8) rfl G9.out.row ao4 (numZ (absZ num)) ac4 rfl P49.out.rows (by unfold maxLen; omega) (by omega) ?_; intro vA wA hown hbut hkept; have GA := Lib.hid (G9.out.more (Ext.refl _) hown hbut hkept); have HBA := Lib.hid (HB9.out.but hbut (own_ne G9.out.row HB9.out (by decide))); have hlA : (b3 ++ numZ kd ++ rowB val.data.toList ++ flagB (decide (num < 0)) ++ numZ (absZ num)).length = (b3 ++ numZ kd ++ rowB val.data.toList ++ flagB (decide (num < 0))).length + (numZ (absZ num)).length := List.length_append; clear hown hbut hkept))
            clear G6 P16 P26 P36 P46 HB6 G7 P27 P37 P47 HB7 G8 P38 P48 HB8 G9 P49 HB9 hl7 hl8 hl9 hlA n1 n2 n3 n4 M1 M2 M3 M4
            generalize okN (absZ num) = oz at *
            have key : gj = false ∨ (gj = true ∧ oz = false) ∨ (gj = true ∧ oz = true) := by cases gj <;> cases oz <;> simp
            rcases key with rfl | ⟨rfl, rfl⟩ | ⟨rfl, rfl⟩
            all_goals
              simp only [Bool.not_true, Bool.not_false, errZ_f, errZ_t]
              go_wp2_with fail
              go_roundw
              case rel => exact ⟨j + 1, by go_num, by omega, by rw [HGJ2.out]; rfl, by rw [HB4E.out]; exact GA.out, HBA.out⟩
              case measure => simp [intOf]; omega
          · obtain rfl : j = d.acts.length := by omega
            rw [List.take_length] at hG hfl
            obtain ⟨gj, hgj⟩ : ∃ gj, gj = (gs && !d.acts.any actBad) := ⟨_, rfl⟩
            obtain ⟨b3, hb3⟩ : ∃ b3, b3 = bk ++ headR d ++ d.acts.flatMap actW := ⟨_, rfl⟩
            have hbl3 : b3.length ≤ 40000000000000 := by rw [hb3]; simp only [List.length_append]; omega
            have htl : d.acts.take d.acts.length = d.acts := List.take_length
            rw [← hb3] at hG
            rw [htl, ← hgj]
            have n1 := numZ_len (d.reads.length : Int)
            have hrn := HFD.out.rn
            have c4 := hbk.cell 4
            simp only [List.getElem?_cons_zero, List.getElem?_cons_succ] at c4
            have HGJ := Lib.hid hgj; have HB3E := Lib.hid hb3; have G2 := Lib.hid hG; have HBX := Lib.hid hbk; have M1 := Lib.hid n1
            clear hgj hb3 htl hG hbk hfl hhl n1
            go_wp2_with fail
            refine (piece_num1 (d.reads.length : Int) wr.heap.size _ (Blk.new wr [.int .i64 (d.reads.length : Int)] _)).mono ?_
            rintro e w3 ⟨ao1, ac1, rfl, hp, hx⟩
            have hx1 : Ext wr (wr.alloc (.cells #[.int .i64 (d.reads.length : Int)] 3)) := (Below.refl _ wr).alloc (Nat.le_refl _) _
            have G3 := Lib.hid (G2.out.ext2 (hx1.trans hx))
            have P13 := Lib.hid (G2.out.waits hx1 hp)
            have HB3 := Lib.hid (HBX.out.ext' (hx1.trans hx))
            clear hp hx hx1 G2 HBX c2 c4
            have n1 := M1.out
            go_wp2_with (at_builtin; refine wpList_append_rows (enc := encU8) (size := 1) (fun _ => rfl) one_u8 rfl (.tmp 146) (.tmp 147) 46 rfl 5 i0 _ 1 Tryz.underlying46 hi hz0 hz1 hz2 rfl (by decide) u4 (b3).length ((b3).flatMap encU8) rfl G3.out.row ao1 (numZ (d.reads.length : Int)) ac1 rfl P13.out.rows (by unfold maxLen; omega) (by omega) ?_; intro v4 w4 hown hbut hkept; have G4 := Lib.hid (G3.out.more (Ext.refl _) hown hbut hkept); have HB4 := Lib.hid (HB3.out.but hbut (own_ne G3.out.row HB3.out (by decide))); have hl4 : (b3 ++ numZ (d.reads.length : Int)).length = (b3).length + (numZ (d.reads.length : Int)).length := List.length_append; clear hown hbut hkept)
            clear G3 P13 HB3
            obtain ⟨b6, hb6⟩ : ∃ b6, b6 = b3 ++ numZ (d.reads.length : Int) := ⟨_, rfl⟩
            have hbl6 : b6.length ≤ 40000000001000 := by rw [hb6, List.length_append]; omega
            have G4' := Lib.hid (show Grow w v4 b6 w4 by rw [hb6]; exact G4.out)
            have HB6E := Lib.hid hb6
            clear hb6 G4 hl4 n1 M1
            try simp only [errZ_f]
            go_loopw [4, 25] (fun v vj wr => ∃ j : Nat, vj = .int .i64 j ∧ j ≤ d.reads.length ∧ Grow w v (b6 ++ (d.reads.take j).flatMap readW) wr ∧ Blk wr N [.string kx, .int .i64 cl, .int .i64 nm, .slice xo d.acts.length xc, .slice yo d.reads.length yc, .bool put, .string value] 35) (fun _ vj _ => d.reads.length - (intOf vj).toNat)
            case atStart => exact ⟨0, rfl, by omega, by simpa using G4'.out, HB4.out⟩
            case round =>
              obtain ⟨j, rfl, hj, hG, hbk⟩ := hrel
              clear G4' HB4
              have hfl := flat_len readW 100100 (d.reads.take j) (fun a ha => readW_len a (HFD.out.reads a (List.mem_of_mem_take ha)))
              rw [List.length_take] at hfl
              have c4 := hbk.cell 4
              simp only [List.getElem?_cons_zero, List.getElem?_cons_succ] at c4
              by_cases hjl : j < d.reads.length
              · obtain ⟨y, hy⟩ : ∃ y, d.reads[j]? = some y := ⟨_, List.getElem?_eq_getElem hjl⟩
                obtain ⟨ab, aoff, rfl, hab, hano, hacell⟩ := (HXD.out.reads.ext hG.ext) (by intro e; rw [e] at hjl; simp at hjl)
                have hac := hacell j y hy
                have hva := HFD.out.reads y (List.mem_of_getElem? hy)
                have hty : d.reads.take (j + 1) = d.reads.take j ++ [y] := by rw [List.take_add_one, hy]; rfl
                obtain ⟨key, is, val⟩ := y
                have e1 := hac 1 _ rfl; have e2 := hac 2 _ rfl
                simp only at hva
                have jj0 : (0 : Int) ≤ (j : Int) := by omega
                have jj1 : (j : Int) < (d.reads.length : Int) := by omega
                obtain ⟨b7, hb7⟩ : ∃ b7, b7 = b6 ++ (d.reads.take j).flatMap readW := ⟨_, rfl⟩
                have hbl7 : b7.length ≤ 50000000000000 := by rw [hb7]; simp only [List.length_append]; omega
                have hb8 : b6 ++ (d.reads.take (j + 1)).flatMap readW = b7 ++ (flagB is ++ rowB val.data.toList) := by
                  rw [hb7, hty, List.flatMap_append, List.flatMap_singleton, readW, ← List.append_assoc]
                rw [← hb7] at hG
                have n2 := rowB_len val.data.toList (by rw [size_data]; exact hva)
                have n3 : (flagB is ++ rowB val.data.toList).length ≤ 100010 := by rw [List.length_append, flagB_len]; omega
                obtain ⟨pb, hpb⟩ : ∃ pb, pb = flagB is ++ rowB val.data.toList := ⟨_, rfl⟩
                rw [← hpb] at hb8 n3
                have HPB := Lib.hid hpb
                clear hpb
                have HB8E := Lib.hid hb8; have G2 := Lib.hid hG; have HBX := Lib.hid hbk; have M3 := Lib.hid n3
                have q4 := ExtBy.cell c4; have k1 := ExtBy.cell e1; have k2 := ExtBy.cell e2
                clear hy hacell hac hty hfl hb7 hb8 hG hbk n2 n3 e1 e2
                go_wp2_with fail
                clear c4
                refine wp_region_first wr [0, 1, 2, 3, 4, 5, 7, 8, 9, 10, 11, 12] 8 (by kernel_rfl) (by kernel_rfl) (fun _ _ _ _ h => h) (Below.refl _ _) ?_
                simp only [opsAt, List.getElem?_toArray, List.getElem?_cons_succ, List.getElem?_cons_zero]
                repeat (go_big_quiet_step (fail))
                refine wpQuiet_nil ?_
                clear q4 k1 k2
                have hpost : ∀ (W w5 : World) (e : Ending), Ext wr W → Piece pb false W e w5 → ∃ ao5 ac5, e = .returned (.tuple #[.slice ao5 pb.length ac5, .int .i64 (errZ false)]) ∧ Waits w5 u4 ao5 pb ∧ Grow w u4 b7 w5 ∧ Blk w5 N [.string kx, .int .i64 cl, .int .i64 nm, .slice xo d.acts.length xc, .slice (some ⟨ab, aoff, none⟩) d.reads.length yc, .bool put, .string value] 35 ∧ Ext wr w5 := by
                  rintro W w5 e hX ⟨ao5, ac5, rfl, hp, hx⟩
                  exact ⟨ao5, ac5, rfl, G2.out.waits hX hp, G2.out.ext2 (hX.trans hx), HBX.out.ext' (hX.trans hx), hX.trans hx⟩
                have HPOST := Lib.hid hpost
                clear hpost
                refine wpAnyH_ready (rs := [6, 13]) (by kernel_rfl) (by simp) ?_
                refine AllReadyH.cons rfl (fun K hK => ?_) (AllReadyH.cons rfl (fun K hK => ?_) AllReadyH.nil)
                · go_simp
                  refine hK.out _ _ ⟨⟨_, (Below.refl _ wr).drew.alloc (Nat.le_refl _) _⟩, rfl⟩ (fun _ => ?_)
                  clear hK K
                  refine wpAnyH_ready (rs := [13]) (by kernel_rfl) (by simp) ?_
                  refine AllReadyH.cons rfl (fun K hK => ?_) AllReadyH.nil
                  go_simp
                  refine hK.out _ _ ⟨⟨_, ((Below.refl _ wr).drew.alloc (Nat.le_refl _) _).alloc (by simp) _⟩, rfl⟩ (fun _ => ?_)
                  clear hK K
                  refine wpAnyH_ready (rs := [14]) (by kernel_rfl) (by simp) ?_
                  refine AllReadyH.cons rfl (fun K hK => ?_) AllReadyH.nil
                  go_simp
                  refine (piece_bothE is val pb HPB.out _ _ _ ((Blk.new wr.drew [.bool is] 4).alloc _) (Blk.new' _ [.string val] 9 _ (by simp)) (by omega)).mono ?_
                  intro e w5 hp5
                  obtain ⟨ao5, ac5, rfl, hP, hG5, hB5, hX5⟩ := HPOST.out _ w5 e (((Below.refl _ wr).drew.alloc (Nat.le_refl _) _).alloc (by simp) _) hp5
                  have P15 := Lib.hid hP; have G5 := Lib.hid hG5; have HB5 := Lib.hid hB5
                  refine hK.out _ _ ⟨⟨_, hX5⟩, rfl⟩ (fun _ => ?_)
                  clear hK K
                  refine wp_takes (f := 0) [15, 16, 17, 18, 19] (by kernel_rfl) (fun _ _ _ _ h => h) ⟨⟨_, hX5⟩, rfl⟩ ?_
                  simp only [opsAt, List.getElem?_toArray, List.getElem?_cons_succ, List.getElem?_cons_zero]
                  repeat (go_big_quiet_step (fail))
                  refine wpQuiet_nil ?_
                  refine wpAnyH_done (by kernel_rfl) ?_ _
                  clear hP hG5 hB5 hX5 hp5 HPOST
                  have n3 := M3.out
                  go_wp2_with (at_builtin; refine wpList_append_rows (enc := encU8) (size := 1) (fun _ => rfl) one_u8 rfl (.tmp 174) (.tmp 175) 46 rfl 5 i0 _ 1 Tryz.underlying46 hi hz0 hz1 hz2 rfl (by decide) u4 (b7).length ((b7).flatMap encU8) rfl G5.out.row ao5 pb ac5 rfl P15.out.rows (by unfold maxLen; omega) (by omega) ?_; intro v6 w6 hown hbut hkept; have G6 := Lib.hid (G5.out.more (Ext.refl _) hown hbut hkept); have HB6 := Lib.hid (HB5.out.but hbut (own_ne G5.out.row HB5.out (by decide))); have hl6 : (b7 ++ pb).length = (b7).length + pb.length := List.length_append; clear hown hbut hkept)
                  go_roundw
                  case rel => exact ⟨j + 1, by go_num, by omega, by rw [HB8E.out]; exact G6.out, HB6.out⟩
                  case measure => simp [intOf]; omega
                · go_simp
                  refine hK.out _ _ ⟨⟨_, (Below.refl _ wr).drew.alloc (Nat.le_refl _) _⟩, rfl⟩ (fun _ => ?_)
                  clear hK K
                  refine wpAnyH_ready (rs := [6]) (by kernel_rfl) (by simp) ?_
                  refine AllReadyH.cons rfl (fun K hK => ?_) AllReadyH.nil
                  go_simp
                  refine hK.out _ _ ⟨⟨_, ((Below.refl _ wr).drew.alloc (Nat.le_refl _) _).alloc (by simp) _⟩, rfl⟩ (fun _ => ?_)
                  clear hK K
                  refine wpAnyH_ready (rs := [14]) (by kernel_rfl) (by simp) ?_
                  refine AllReadyH.cons rfl (fun K hK => ?_) AllReadyH.nil
                  go_simp
                  refine (piece_bothE is val pb HPB.out _ _ _ (Blk.new' _ [.bool is] 4 _ (by simp)) ((Blk.new wr.drew [.string val] 9).alloc _) (by omega)).mono ?_
                  intro e w5 hp5
                  obtain ⟨ao5, ac5, rfl, hP, hG5, hB5, hX5⟩ := HPOST.out _ w5 e (((Below.refl _ wr).drew.alloc (Nat.le_refl _) _).alloc (by simp) _) hp5
                  have P15 := Lib.hid hP; have G5 := Lib.hid hG5; have HB5 := Lib.hid hB5
                  refine hK.out _ _ ⟨⟨_, hX5⟩, rfl⟩ (fun _ => ?_)
                  clear hK K
                  refine wp_takes (f := 0) [15, 16, 17, 18, 19] (by kernel_rfl) (fun _ _ _ _ h => h) ⟨⟨_, hX5⟩, rfl⟩ ?_
                  simp only [opsAt, List.getElem?_toArray, List.getElem?_cons_succ, List.getElem?_cons_zero]
                  repeat (go_big_quiet_step (fail))
                  refine wpQuiet_nil ?_
                  refine wpAnyH_done (by kernel_rfl) ?_ _
                  clear hP hG5 hB5 hX5 hp5 HPOST
                  have n3 := M3.out
                  go_wp2_with (at_builtin; refine wpList_append_rows (enc := encU8) (size := 1) (fun _ => rfl) one_u8 rfl (.tmp 174) (.tmp 175) 46 rfl 5 i0 _ 1 Tryz.underlying46 hi hz0 hz1 hz2 rfl (by decide) u4 (b7).length ((b7).flatMap encU8) rfl G5.out.row ao5 pb ac5 rfl P15.out.rows (by unfold maxLen; omega) (by omega) ?_; intro v6 w6 hown hbut hkept; have G6 := Lib.hid (G5.out.more (Ext.refl _) hown hbut hkept); have HB6 := Lib.hid (HB5.out.but hbut (own_ne G5.out.row HB5.out (by decide))); have hl6 : (b7 ++ pb).length = (b7).length + pb.length := List.length_append; clear hown hbut hkept)
                  go_roundw
                  case rel => exact ⟨j + 1, by go_num, by omega, by rw [HB8E.out]; exact G6.out, HB6.out⟩
                  case measure => simp [intOf]; omega
              · obtain rfl : j = d.reads.length := by omega
                rw [List.take_length] at hG hfl
                obtain ⟨b7, hb7⟩ : ∃ b7, b7 = b6 ++ d.reads.flatMap readW := ⟨_, rfl⟩
                have hbl7 : b7.length ≤ 50000000000000 := by rw [hb7]; simp only [List.length_append]; omega
                rw [← hb7] at hG
                have htk : ds.take (k + 1) = ds.take k ++ [d] := by rw [List.take_add_one, HDK.out]; rfl
                have hgood : gj = !(ds.take (k + 1)).any holdBad := by
                  rw [HGJ.out, HGS.out, HGD.out, htk, List.any_append, List.any_cons, List.any_nil, ← HBAD.out, headBad, holdBad]
                  cases (List.take k ds).any holdBad <;> cases okN d.cl <;> cases okN d.nm <;> cases d.acts.any actBad <;> rfl
                have hb8 : numZ (ds.length : Int) ++ (ds.take (k + 1)).flatMap holdR = b7 ++ (flagB put ++ rowB value.data.toList) := by
                  have e1 : put = d.put := HXD.out.put
                  have e2 : value = d.value := HXD.out.value
                  rw [hb7, HB6E.out, HB3E.out, HBK.out, htk, List.flatMap_append, List.flatMap_singleton, holdR, e1, e2]
                  simp only [List.append_assoc]
                have n2 := rowB_len value.data.toList (by rw [size_data]; exact hvs)
                have n3 : (flagB put ++ rowB value.data.toList).length ≤ 100010 := by rw [List.length_append, flagB_len]; omega
                have hNl := hbk.lt
                have c5 := hbk.cell 5; have c6 := hbk.cell 6
                simp only [List.getElem?_cons_zero, List.getElem?_cons_succ] at c5 c6
                obtain ⟨pb, hpb⟩ : ∃ pb, pb = flagB put ++ rowB value.data.toList := ⟨_, rfl⟩
                rw [← hpb] at hb8 n3
                have HPB := Lib.hid hpb
                clear hpb
                have HB8E := Lib.hid hb8; have HGG := Lib.hid hgood; have G2 := Lib.hid hG; have HBX := Lib.hid hbk; have M3 := Lib.hid n3
                clear hb7 hb8 hgood htk hG hbk hfl n2 n3
                go_wp2_with fail
                refine (piece_bothE put value pb HPB.out wr.heap.size (wr.heap.size + 1) _ ((Blk.new wr [.bool put] 4).alloc _) (Blk.new' _ [.string value] 9 _ (by simp)) (by omega)).mono ?_
                rintro e w5 ⟨ao5, ac5, rfl, hp, hx⟩
                have hx1 : Ext wr ((wr.alloc (.cells #[.bool put] 4)).alloc (.cells #[.string value] 9)) := ((Below.refl _ wr).alloc (Nat.le_refl _) _).alloc (by simp) _
                have G5 := Lib.hid (G2.out.ext2 (hx1.trans hx))
                have P15 := Lib.hid (G2.out.waits hx1 hp)
                clear hp hx hx1 G2 HBX c4 c5 c6
                have n3 := M3.out
                go_wp2_with (at_builtin; refine wpList_append_rows (enc := encU8) (size := 1) (fun _ => rfl) one_u8 rfl (.tmp 187) (.tmp 188) 46 rfl 5 i0 _ 1 Tryz.underlying46 hi hz0 hz1 hz2 rfl (by decide) u4 (b7).length ((b7).flatMap encU8) rfl G5.out.row ao5 pb ac5 rfl P15.out.rows (by unfold maxLen; omega) (by omega) ?_; intro v6 w6 hown hbut hkept; have G6 := Lib.hid (G5.out.more (Ext.refl _) hown hbut hkept); have hl6 : (b7 ++ pb).length = (b7).length + pb.length := List.length_append; clear hown hbut hkept)
                go_roundw
                case rel => exact ⟨k + 1, by go_num, by omega, by rw [HGG.out], by rw [HB8E.out]; exact G6.out⟩
                case measure => simp [intOf]; omega
    · have hkl : k = ls.length := by omega
      have hkd : ds.take k = ds := List.take_of_length_le (by have := HDL.out; omega)
      rw [hkd] at hG
      rw [hkd]
      obtain ⟨bo, bc, rfl, hc1, hc2, _⟩ := Rows.own (enc := encU8) (sz := 1) (fun _ => rfl) hG.row
      have G2 := Lib.hid hG; have C1 := Lib.hid hc1; have C2 := Lib.hid hc2
      clear hG hkd hc1 hc2
      go_wp2_with fail
      go_ret2
      exact ⟨bo, bc, rfl, nrows_of_own (fun _ => rfl) G2.out.row (fun j hj e => by have := G2.out.new j hj; omega), G2.out.ext, C1.out, C2.out⟩
end Go.Proofs.YtdmejbjpbjcfbaaGreatDoor
