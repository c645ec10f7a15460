/- Keys: the acts' keys, each once, rising. -/
import Derived.Test.YtbnclifpdmpjnaaGreatDoorZ02
import Derived.Test.YtbnclifpdmpjnaaGreatDoorZ05
import Derived.Test.YtbnclifpdmpjnaaGreatDoorShelf
import Derived.Test.YtbnclifpdmpjnaaGreatDoorZ06
import Derived.Lib.SlicesS
namespace Go.Proofs.YtbnclifpdmpjnaaGreatDoor
open Go.RowKit
open Go.Sort (Holds putRow grow mapBlock heap_grow_old)
def encT (s : Txt) : List Value := [Proofs.encStr s]
theorem ext_grow (w : World) (os : Array Obj) : Ext w (grow w os) := ⟨rfl, rfl, rfl, by simp, fun k hk => heap_grow_old w os hk⟩
theorem below_putRow {α : Type} [Inhabited α] (enc : α → Value) (w : World) (n blk off : Nat) (d : Array α) {B : Nat} (hb : B ≤ blk) : Below B w (putRow enc (Sort.ahead w n) blk off d) :=
  ⟨rfl, rfl, rfl, by simp, fun k hk => by
    simp only [putRow, mapBlock, Sort.heap_ahead, Array.getElem?_modify]
    rw [if_neg (by omega)]⟩
theorem holds_own {w : World} {B : Nat} {e : TypeId} {g n cap : Nat} (ss : List Txt) (h : w.ownsRow B e 1 (.slice (some ⟨g, 0, none⟩) n cap) n (ss.flatMap encT)) (hn : n = ss.length) : Holds Proofs.encStr w g 0 ss.toArray := by
  intro j hj
  have hj' : j < ss.length := by simpa using hj
  refine ⟨?_, by rw [Nat.zero_add]; exact h.frozenAt j⟩
  rw [Nat.zero_add, h.cellAt j (by omega)]
  have := flat_at (enc := encT) (sz := 1) (fun _ => rfl) ss j ss[j] (List.getElem?_eq_getElem hj') 0 _ rfl
  rw [show j * 1 + 0 = j from by omega] at this
  rw [this]
  simp [hj']
theorem rows_holds {w : World} {blk off : Nat} {d : Array Txt} (hb : blk < w.heap.size) (h : Holds Proofs.encStr w blk off d) (ks : List Txt) (hk : ∀ (i : Nat) (x : Txt), ks[i]? = some x → d[i]? = some x) : Rows 1 encT w.heap.size w (some ⟨blk, off, none⟩) ks := by
  intro _
  refine ⟨blk, off, rfl, hb, fun i x hi j v hj => ?_⟩
  have hd := hk i x hi
  have hlt : i < d.size := (Array.getElem?_eq_some_iff.1 hd).1
  obtain rfl : j = 0 := by
    have := (List.getElem?_eq_some_iff.1 hj).1
    simp [encT] at this; omega
  have hv : v = Proofs.encStr x := by simpa [encT] using hj.symm
  rw [show off + i * 1 + 0 = off + i from by omega, (h i hlt).1, hv]
  rw [getElem!_pos d i hlt]
  rw [Array.getElem?_eq_getElem hlt] at hd
  rw [Option.some.inj hd]
theorem own_cases {w : World} {B : Nat} {e : TypeId} {size n : Nat} {v : Value} {xs : List Value} (h : w.ownsRow B e size v n xs) : (v = .slice none 0 0 ∧ n = 0) ∨ ∃ g cap, v = .slice (some ⟨g, 0, none⟩) n cap ∧ g < w.heap.size ∧ n ≤ cap := by
  obtain ⟨_, h2⟩ := h
  rcases h2 with ⟨rfl, h0⟩ | ⟨g, cap, cur, rfl, _, hg, hn, _⟩
  · exact .inl ⟨rfl, h0⟩
  · exact .inr ⟨g, cap, rfl, lt_of_block hg, hn⟩
theorem infoStr : (Tryz.prog.info? 9).map (fun i => (i.zero, i.size, i.bytes)) = some (some (.string ⟨#[]⟩), 1, 16) := by kernel_rfl
set_option maxRecDepth 100000 in
set_option maxHeartbeats 800000 in
theorem keys_callsN (l : List ActD) (ao : Option Addr) (cap : Nat) (w : World) (hl : l.length ≤ 1000000) (hr : Rows 4 encAct w.heap.size w ao l) :
    Calls Tryz.prog 110 #[.slice ao l.length cap] w fun e w' => ∃ ko kcap, e = .returned (.slice ko (keysL l).length kcap) ∧ Rows 1 encT w'.heap.size w' ko (keysL l) ∧ Ext w w' ∧ ∀ b o, ko = some ⟨b, o, none⟩ → w.heap.size ≤ b := by
  obtain ⟨i0, hi, hz0, hz1, hz2⟩ := info_parts infoStr
  have HR := Lib.hid hr
  clear hr
  go_enter Tryz.func110, Tryz.ntmps110
  go_wp2_with fail
  go_loopw [3, 8] (fun v i wr => ∃ (k : Nat), k ≤ l.length ∧ i = .int .i64 k ∧ wr.ownsRow 0 9 1 v ((l.map keyT).take k).length (((l.map keyT).take k).flatMap encT) ∧ (∀ j, v.ownBlock = some j → w.heap.size ≤ j) ∧ Ext w wr) (fun _ i _ => l.length - (intOf i).toNat)
  case atStart => exact ⟨0, by omega, rfl, World.ownsRow_nil _ _ _ _, by simp [Value.ownBlock], Below.refl _ _⟩
  case round =>
    obtain ⟨k, hk, rfl, hown, hnew, hx⟩ := hrel
    have K1 := Lib.hid hown; have K2 := Lib.hid hnew; have K3 := Lib.hid hx
    clear hown hnew hx
    by_cases hlt : k < l.length
    · obtain ⟨x, hx⟩ : ∃ x, l[k]? = some x := ⟨_, List.getElem?_eq_getElem hlt⟩
      obtain ⟨b, off, rfl, hb, hcell⟩ := HR.out (by intro e; rw [e] at hlt; simp at hlt)
      have hcx := hcell k x hx
      have hmove : ∀ j, wr.cell? ⟨b, j, none⟩ = w.cell? ⟨b, j, none⟩ := fun j => K3.out.cell (p := ⟨b, j, none⟩) hb
      have hof : (l.map keyT).take (k + 1) = (l.map keyT).take k ++ [keyT x] := by
        rw [List.take_add_one, List.getElem?_map, hx]; rfl
      have hbd : ((l.map keyT).take k).length ≤ 1000000 := by simp; omega
      generalize (l.map keyT).take k = q at *
      have HO := Lib.hid hof
      obtain ⟨kd, ky, val, num⟩ := x
      have d0 := (hmove _).trans (hcx 0 _ rfl); have d1 := (hmove _).trans (hcx 1 _ rfl); have d2 := (hmove _).trans (hcx 2 _ rfl); have d3 := (hmove _).trans (hcx 3 _ rfl)
      simp only [Nat.add_zero] at d0
      have hi0 : (0 : Int) ≤ (k : Int) := by omega
      have hi1 : (k : Int) < (l.length : Int) := by omega
      clear hof hx hcell hcx hmove
      have CN := Lib.hid (cells_new (wr.alloc (.cells #[.int .u8 kd, .string ky, .string val, .int .i64 num] 114)) [.string ky] 9)
      rw [show (wr.alloc (.cells #[.int .u8 kd, .string ky, .string val, .int .i64 num] 114)).heap.size = wr.heap.size + 1 from by simp] at CN
      have E2 : Hid (Ext wr ((wr.alloc (.cells #[.int .u8 kd, .string ky, .string val, .int .i64 num] 114)).alloc (.cells #[.string ky] 9))) := Lib.hid (((Below.refl _ wr).alloc (Nat.le_refl _) _).alloc (by simp) _)
      go_wp2_with (at_builtin; refine wpList_append_at _ rfl _ _ 170 rfl 9 i0 _ 1 16 Tryz.underlying170 hi hz0 hz1 hz2 rfl (by decide) _ q.length (q.flatMap encT) rfl (own_ext K1.out E2.out) ⟨wr.heap.size + 1, 0, none⟩ 1 1 [.string ky] rfl rfl CN.out (by simp [Value.oneCell']) (by decide) (by unfold maxLen; omega) (by omega) ?_; intro g cap2 w1 hown' hbut hkept; have X1 := Lib.hid hown'; have X2 := Lib.hid hbut; have X3 := Lib.hid hkept; clear hown' hbut hkept)
      go_roundw
      case rel =>
        refine ⟨k + 1, by omega, by go_num, ?_, ?_, ?_⟩
        · rw [HO.out]
          have := X1.out
          rw [List.length_append, List.flatMap_append]
          simpa [encT, keyT, Proofs.encStr] using this
        · intro j hj
          rcases X3.out j hj with e | e
          · exact K2.out j e
          · have := K3.out.size; have := E2.out.size; omega
        · exact Below.trans K3.out (((Ext.but E2.out (fun _ => False)).trans X2.out (U := fun j => w.heap.size ≤ j) (fun _ _ e => e.elim) (fun i _ e => K2.out i e)).below K3.out.size (fun _ h => h))
      case measure => simp [intOf]; omega
    · have hall : (l.map keyT).take k = l.map keyT := List.take_of_length_le (by simp; omega)
      rw [hall] at K1
      have hlen : (l.map keyT).length = l.length := by simp
      have HL := Lib.hid hlen
      clear hall hlen
      rcases own_cases K1.out with ⟨rfl, h0⟩ | ⟨g, cap3, rfl, hg, hle⟩
      · have hks : keysL l = [] := by
          refine List.eq_nil_of_length_eq_zero ?_
          have := keysL_len l
          simp only [List.length_map] at h0
          omega
        have HK := Lib.hid hks; clear hks h0
        go_wp2_with fail
        refine (Tryz.slices_Sort_string_none _ _ _).mono ?_
        rintro e w1 ⟨rfl, rfl⟩
        go_wp2_with fail
        refine (Tryz.slices_Compact_string_empty _ _ _).mono ?_
        rintro e w1 ⟨rfl, rfl⟩
        go_wp2_with fail
        go_ret
        exact ⟨none, 0, by rw [HK.out]; rfl, by rw [HK.out]; exact Rows.nil _ _ _ _ _, K3.out, fun b o e => by cases e⟩
      · have hHd := holds_own (l.map keyT) K1.out rfl
        have hng := K2.out g rfl
        have hlen2 : (sortT (l.map keyT)).length = (l.map keyT).length := by unfold sortT; rw [List.length_mergeSort]
        have h1 := Tryz.slices_Sort_string g 0 cap3 (l.map keyT) wr hHd hg (by have := HL.out; omega)
        rw [HL.out] at h1
        have H1 := Lib.hid h1; have H2 := Lib.hid hHd; have H3 := Lib.hid hlen2
        clear h1 hHd hlen2
        go_wp2_with fail
        refine H1.out.mono ?_
        rintro e w1 ⟨rfl, n, os, hw1⟩
        have hsort : ((l.map keyT).mergeSort fun x y => decide (x ≤ y)) = sortT (l.map keyT) := rfl
        rw [hsort] at hw1
        have hh1 : Holds Proofs.encStr w1 g 0 (sortT (l.map keyT)).toArray := by
          rw [hw1]
          exact Sort.holds_grow _ _ _ _ _ _ (by simpa using hg) (Sort.holds_putRow _ _ _ _ _ _ (Sort.holds_ahead _ _ _ _ _ _ H2.out) (by have := H3.out; simpa using this))
        have hb1 : Below w.heap.size wr w1 := by
          rw [hw1]
          exact Below.trans (below_putRow _ _ _ _ _ _ hng) (Below.mono (ext_grow _ _) (by have := K3.out.size; simp; omega))
        have hg1 : g < w1.heap.size := by rw [hw1]; simp; omega
        have hcomp := Tryz.slices_Compact_string g 0 cap3 (sortT (l.map keyT)) w1 hh1 (by have := HL.out; have := H3.out; omega) (by have := H3.out; omega)
        rw [H3.out, HL.out] at hcomp
        have H4 := Lib.hid hcomp; have H5 := Lib.hid hb1; have H6 := Lib.hid hh1; have H7 := Lib.hid hg1
        clear hw1 hh1 hb1 hcomp hsort hg1
        go_wp2_with fail
        refine H4.out.mono ?_
        rintro e w2 ⟨rfl, q, hw2⟩
        have hcl := compact_len (sortT (l.map keyT))
        have hh2 : Holds Proofs.encStr w2 g 0 (Lib.compact (sortT (l.map keyT)) ++ List.replicate ((sortT (l.map keyT)).length - (Lib.compact (sortT (l.map keyT))).length) []).toArray := by
          have e : l.length = (sortT (l.map keyT)).length := by rw [H3.out, HL.out]
          rw [hw2, e]
          exact Sort.holds_putRow _ _ _ _ _ _ (Sort.holds_ahead _ _ _ _ _ _ H6.out) (by simp; omega)
        have hb2 : Below w.heap.size w1 w2 := by
          rw [hw2]; exact below_putRow _ _ _ _ _ _ hng
        have hg2 : g < w2.heap.size := by rw [hw2]; simp; exact H7.out
        have J1 := Lib.hid hh2; have J2 := Lib.hid hb2; have J3 := Lib.hid hg2
        clear hw2 hh2 hb2 hcl hg2
        go_wp2_with fail
        go_ret
        refine ⟨some ⟨g, 0, none⟩, cap3, rfl, ?_, Below.trans K3.out (Below.trans H5.out J2.out), fun b o e => by cases e; exact hng⟩
        refine rows_holds J3.out J1.out _ fun i x hi => ?_
        rw [List.getElem?_toArray]
        change (keysL l ++ _)[i]? = some x
        rw [List.getElem?_append_left (List.getElem?_eq_some_iff.1 hi).1]
        exact hi
end Go.Proofs.YtbnclifpdmpjnaaGreatDoor
/- Of: the acts of a key. -/
namespace Go.Proofs.YtbnclifpdmpjnaaGreatDoor
open Go.RowKit
theorem infoAct : (Tryz.prog.info? 114).map (fun i => (i.zero, i.size, i.bytes)) = some (some (.agg #[.int .u8 0, .string ⟨#[]⟩, .string ⟨#[]⟩, .int .i64 0]), 4, 48) := by kernel_rfl
theorem one_act : ∀ (x : ActD), ∀ u ∈ encAct x, u.oneCell' = true := by
  intro x u hu
  simp only [encAct, List.mem_cons, List.not_mem_nil, or_false] at hu
  rcases hu with rfl | rfl | rfl | rfl <;> rfl
theorem keyT_iff (a : ActD) (key : ByteArray) : keyT a = key.data.toList ↔ a.key = key := by
  unfold keyT
  exact ⟨fun h => ByteArray.ext (Array.toList_inj.1 h), fun h => by rw [h]⟩
theorem ofL_succ (key : Txt) (l : List ActD) (k : Nat) (x : ActD) (h : l[k]? = some x) : ofL key (l.take (k + 1)) = ofL key (l.take k) ++ (if keyT x = key then [x] else []) := by
  unfold ofL
  rw [List.take_add_one, h, List.filter_append]
  congr 1
  by_cases e : keyT x = key <;> simp [e]
set_option maxRecDepth 100000 in
set_option maxHeartbeats 800000 in
theorem of_calls (key : ByteArray) (l : List ActD) (ao : Option Addr) (cap : Nat) (w : World) (hl : l.length ≤ 1000000) (hr : Rows 4 encAct w.heap.size w ao l) :
    Calls Tryz.prog 113 #[.string key, .slice ao l.length cap] w fun e w' => ∃ rv, e = .returned rv ∧ w'.ownsRow 0 114 4 rv (ofL key.data.toList l).length ((ofL key.data.toList l).flatMap encAct) ∧ (∀ j, rv.ownBlock = some j → w.heap.size ≤ j) ∧ Ext w w' := by
  obtain ⟨i0, hi, hz0, hz1, hz2⟩ := info_parts infoAct
  have HR := Lib.hid hr
  clear hr
  go_enter Tryz.func113, Tryz.ntmps113
  go_wp2_with fail
  go_loopw [5, 10] (fun v i wr => ∃ (k : Nat), k ≤ l.length ∧ i = .int .i64 k ∧ wr.ownsRow 0 114 4 v (ofL key.data.toList (l.take k)).length ((ofL key.data.toList (l.take k)).flatMap encAct) ∧ (∀ j, v.ownBlock = some j → w.heap.size ≤ j) ∧ Ext w wr) (fun _ i _ => l.length - (intOf i).toNat)
  case atStart => exact ⟨0, by omega, rfl, World.ownsRow_nil _ _ _ _, by simp [Value.ownBlock], Below.refl _ _⟩
  case round =>
    obtain ⟨k, hk, rfl, hown, hnew, hx⟩ := hrel
    have K1 := Lib.hid hown; have K2 := Lib.hid hnew; have K3 := Lib.hid hx
    clear hown hnew hx
    by_cases hlt : k < l.length
    · obtain ⟨x, hx⟩ : ∃ x, l[k]? = some x := ⟨_, List.getElem?_eq_getElem hlt⟩
      obtain ⟨b, off, rfl, hb, hcell⟩ := HR.out (by intro e; rw [e] at hlt; simp at hlt)
      have hcx := hcell k x hx
      have hmove : ∀ j, wr.cell? ⟨b, j, none⟩ = w.cell? ⟨b, j, none⟩ := fun j => K3.out.cell (p := ⟨b, j, none⟩) hb
      have hof := ofL_succ key.data.toList l k x hx
      have hbd : (ofL key.data.toList (l.take k)).length ≤ 1000000 := Nat.le_trans (ofL_len _ _) (by simp; omega)
      generalize ofL key.data.toList (l.take k) = q at *
      have HO := Lib.hid hof
      obtain ⟨kd, ky, val, num⟩ := x
      have d0 := (hmove _).trans (hcx 0 _ rfl); have d1 := (hmove _).trans (hcx 1 _ rfl); have d2 := (hmove _).trans (hcx 2 _ rfl); have d3 := (hmove _).trans (hcx 3 _ rfl)
      simp only [Nat.add_zero] at d0
      have hi0 : (0 : Int) ≤ (k : Int) := by omega
      have hi1 : (k : Int) < (l.length : Int) := by omega
      clear hof hx hcell hcx hmove
      have E1 : Hid (Ext wr (wr.alloc (.cells #[.int .u8 kd, .string ky, .string val, .int .i64 num] 114))) := Lib.hid ((Below.refl _ wr).alloc (Nat.le_refl _) _)
      by_cases hkey : ky = key
      · have g1 : (ky.toList == key.toList) = true := by simp [hkey]
        have HK := Lib.hid hkey; clear hkey
        have CN := Lib.hid (cells_new (wr.alloc (.cells #[.int .u8 kd, .string ky, .string val, .int .i64 num] 114)) [.int .u8 kd, .string ky, .string val, .int .i64 num] 114)
        rw [show (wr.alloc (.cells #[.int .u8 kd, .string ky, .string val, .int .i64 num] 114)).heap.size = wr.heap.size + 1 from by simp] at CN
        have E2 : Hid (Ext wr ((wr.alloc (.cells #[.int .u8 kd, .string ky, .string val, .int .i64 num] 114)).alloc (.cells #[.int .u8 kd, .string ky, .string val, .int .i64 num] 114))) := Lib.hid (((Below.refl _ wr).alloc (Nat.le_refl _) _).alloc (by simp) _)
        go_wp2_with (at_builtin; refine wpList_append_at _ rfl _ _ 27 rfl 114 i0 _ 4 48 Tryz.underlying27 hi hz0 hz1 hz2 rfl (by decide) _ q.length (q.flatMap encAct) rfl (own_ext K1.out E2.out) ⟨wr.heap.size + 1, 0, none⟩ 1 1 (encAct ⟨kd, ky, val, num⟩) rfl rfl CN.out (by simp [encAct, Value.oneCell']) (by decide) (by unfold maxLen; omega) (by omega) ?_; intro g cap2 w1 hown' hbut hkept; have X1 := Lib.hid hown'; have X2 := Lib.hid hbut; have X3 := Lib.hid hkept; clear hown' hbut hkept)
        go_roundw
        case rel =>
          refine ⟨k + 1, by omega, by go_num, ?_, ?_, ?_⟩
          · rw [HO.out, if_pos ((keyT_iff _ _).2 HK.out)]
            have := X1.out
            rw [List.length_append, List.flatMap_append]
            simpa using this
          · intro j hj
            rcases X3.out j hj with e | e
            · exact K2.out j e
            · have := K3.out.size; have := E2.out.size; omega
          · exact Below.trans K3.out (((Ext.but E2.out (fun _ => False)).trans X2.out (U := fun j => w.heap.size ≤ j) (fun _ _ e => e.elim) (fun i _ e => K2.out i e)).below K3.out.size (fun _ h => h))
        case measure => simp [intOf]; omega
      · have g1 : (ky.toList == key.toList) = false := by rw [Lib.bytes_beq_false_iff]; exact hkey
        have HK := Lib.hid hkey; clear hkey
        go_wp2_with fail
        go_roundw
        case rel => exact ⟨k + 1, by omega, by go_num, by rw [HO.out, if_neg (fun e => HK.out ((keyT_iff _ _).1 e)), List.append_nil]; exact own_ext K1.out E1.out, K2.out, Ext.trans K3.out E1.out⟩
        case measure => simp [intOf]; omega
    · have hall : l.take k = l := List.take_of_length_le (by omega)
      have HA := Lib.hid hall; clear hall
      go_wp2_with fail
      go_ret
      exact ⟨_, rfl, by have := K1.out; rwa [HA.out] at this, K2.out, K3.out⟩
end Go.Proofs.YtbnclifpdmpjnaaGreatDoor
