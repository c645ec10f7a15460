/- watershedref02: Write, of numbers, flags and texts. -/
import Derived.Test.YtdmejbjpbjcfbaaGreatDoorRefW2
namespace Go.Proofs.YtdmejbjpbjcfbaaGreatDoor
open Go.RowKit

def encTx (s : ByteArray) : List Value := [.string s]
/-- What Write tells. -/
def refBytes (nums : List Int) (flags : List Bool) (texts : List ByteArray) : List UInt8 :=
  if badsZ nums = true then [] else nums.flatMap numZ ++ (flags.flatMap flagB ++ texts.flatMap fun x => rowB x.data.toList)
def RefWPost (bs : List UInt8) (bad : Bool) (w : World) (e : Ending) (w' : World) : Prop :=
  (∃ v, e = .returned (.tuple #[v, .int .i64 (if bad = true then 2 else 0)]) ∧ w'.ownsRow 0 5 1 v bs.length (bs.flatMap encU8) ∧ (∀ j, v.ownBlock = some j → w.heap.size ≤ j)) ∧ Ext w w'
/-- Bytes that grow. -/
structure Grow (w : World) (v : Value) (bs : List UInt8) (wr : World) : Prop where
  row : wr.ownsRow 0 5 1 v bs.length (bs.flatMap encU8)
  new : ∀ j, v.ownBlock = some j → w.heap.size ≤ j
  ext : Ext w wr
theorem Grow.more {w wr w1 w2 : World} {v v' : Value} {bs l : List UInt8} (h : Grow w v bs wr) (hx : Ext wr w1) (hown : w2.ownsRow 0 5 1 v' (bs.length + l.length) (bs.flatMap encU8 ++ l.flatMap encU8)) (hb : But (fun k => v.ownBlock = some k) w1 w2) (hk : Kept1 w1 v v') : Grow w v' (bs ++ l) w2 := by
  refine ⟨by rw [List.length_append, List.flatMap_append]; exact hown, fun j e => ?_, ?_⟩
  · rcases hk j e with e | e
    · exact h.new j e
    · have := hx.size; have := h.ext.size; omega
  · exact (((h.ext.trans hx).but (fun k => v.ownBlock = some k)).trans hb (fun _ _ e => e) (fun _ _ e => e)).ext (fun i hi e => by have := h.new i e; omega)
set_option maxRecDepth 100000 in
set_option maxHeartbeats 3200000 in
theorem refWrite_calls (nums : List Int) (flags : List Bool) (texts : List ByteArray) (ao bo co : Option Addr) (ac bc cc : Nat) (w : World) (ha : Rows 1 encI w.heap.size w ao nums) (hb : Rows 1 encBool w.heap.size w bo flags) (hc : Rows 1 encTx w.heap.size w co texts)
    (la : nums.length ≤ 100) (lb : flags.length ≤ 100) (lc : texts.length ≤ 100) (lt : ∀ x ∈ texts, x.data.toList.length ≤ 1000000000) :
    Calls Tryz.prog 68 #[.slice ao nums.length ac, .slice bo flags.length bc, .slice co texts.length cc, .slice none 0 0] w (RefWPost (refBytes nums flags texts) (badsZ nums) w) := by
  obtain ⟨i0, hi, hz0, hz1, hz2⟩ := info_parts infoU8
  have I0 := Lib.hid hi; have HA := Lib.hid ha; have HB := Lib.hid hb; have HC := Lib.hid hc; have LT := Lib.hid lt
  clear hi ha hb hc lt
  go_enter Tryz.func68, Tryz.ntmps68
  go_wp2_with fail
  go_loopw [11, 10] (fun vi v wr => ∃ k : Nat, vi = .int .i64 k ∧ k ≤ nums.length ∧ badsZ (nums.take k) = false ∧ Grow w v ((nums.take k).flatMap numZ) wr) (fun vi _ _ => nums.length - (intOf vi).toNat)
  case atStart => exact ⟨0, rfl, by omega, rfl, ⟨World.ownsRow_nil _ _ _ _, fun j e => (by cases e), Ext.refl w⟩⟩
  case round =>
    obtain ⟨k, rfl, hk, hbd, hG⟩ := hrel
    have BD := Lib.hid hbd; have G1 := Lib.hid hG
    clear hbd hG
    by_cases hlt : k < nums.length
    · obtain ⟨x, hx⟩ : ∃ x, nums[k]? = some x := ⟨_, List.getElem?_eq_getElem hlt⟩
      obtain ⟨b, off, rfl, hb, hcell⟩ := (HA.out.ext G1.out.ext) (by intro e; rw [e] at hlt; simp at hlt)
      have hcx := hcell k x hx 0 _ rfl
      simp only [Nat.add_zero, Nat.mul_one] at hcx
      have i0' : (0 : Int) ≤ (k : Int) := by omega
      have i1 : (k : Int) < (nums.length : Int) := by omega
      have htk : nums.take (k + 1) = nums.take k ++ [x] := by rw [List.take_add_one, hx]; rfl
      have TK := Lib.hid htk; have BK := Lib.hid (badsZ_succ nums k x hx)
      have NL := Lib.hid (numsZ_len (nums.take k)); have KL := Lib.hid (List.length_take_le k nums)
      clear htk hcell
      cases ho : okN x with
      | false =>
        have HO := Lib.hid ho
        go_wp2_with fail
        refine (refNum_bad x wr ho).mono ?_
        rintro e w1 ⟨rfl, rfl⟩
        clear ho
        go_wp2_with fail
        have hbz : badsZ nums = true := by
          rw [badsZ, List.any_eq_true]
          exact ⟨x, List.mem_of_getElem? hx, by rw [HO.out]; rfl⟩
        rw [refBytes, if_pos hbz, hbz]
        go_ret2
        exact ⟨⟨_, rfl, World.ownsRow_nil _ _ _ _, fun j e => (by cases e)⟩, G1.out.ext⟩
      | true =>
        have h := ho
        simp only [okN, Bool.and_eq_true, decide_eq_true_eq] at h
        obtain ⟨m, rfl⟩ : ∃ m : Nat, x = (m : Int) := ⟨x.toNat, by omega⟩
        have hm : m ≤ 4611686018427387903 := by omega
        have HO := Lib.hid ho
        have hn9 := numB_nine hm
        clear ho h
        go_wp2_with fail
        refine (refNum_ok m wr hm).mono ?_
        rintro e w1 ⟨⟨v1, rfl, h1, h2⟩, h3⟩
        obtain ⟨xo, xc, rfl, _, _, hrr⟩ := Rows.own (enc := encU8) (sz := 1) (fun _ => rfl) h1
        have RR := Lib.hid hrr; have X1 := Lib.hid h3
        clear h1 h2 h3 hrr
        have hlen : ((nums.take k).flatMap numZ).length ≤ 900 := by
          have := NL.out; have := KL.out; omega
        have hi := I0.out
        go_wp2_with (at_builtin; go_must (refine wpList_append_rows (enc := encU8) (size := 1) (fun _ => rfl) one_u8 rfl _ _ 46 rfl 5 i0 _ 1 Tryz.underlying46 hi hz0 hz1 hz2 rfl (by decide) u10 ((nums.take k).flatMap numZ).length (((nums.take k).flatMap numZ).flatMap encU8) rfl (own_ext G1.out.row X1.out) xo (numB m) xc rfl RR.out (by unfold maxLen; omega) (by omega) ?_; intro v2 w2 hown1 hbut1 hkept1; have O2 := Lib.hid hown1; have B2 := Lib.hid hbut1; have P2 := Lib.hid hkept1; clear hown1 hbut1 hkept1))
        go_roundw
        case rel =>
          refine ⟨k + 1, by go_num, by omega, by rw [BK.out, BD.out, HO.out]; rfl, ?_⟩
          have := G1.out.more X1.out O2.out B2.out P2.out
          rw [TK.out, List.flatMap_append, List.flatMap_singleton, numZ, if_pos HO.out, Int.toNat_natCast]
          exact this
        case measure => simp [intOf]; omega
    · have : k = nums.length := by omega
      subst this
      rw [List.take_length] at BD G1
      have hlen1 : (nums.flatMap numZ).length ≤ 900 := by have := numsZ_len nums; omega
      obtain ⟨bs1, hbs1⟩ : ∃ b, b = nums.flatMap numZ := ⟨_, rfl⟩
      rw [← hbs1] at G1 hlen1
      have E1 := Lib.hid hbs1
      clear hbs1
      go_wp2_with fail
      go_loopw [14, 10] (fun vi v wr => ∃ k : Nat, vi = .int .i64 k ∧ k ≤ flags.length ∧ Grow w v (bs1 ++ (flags.take k).flatMap flagB) wr) (fun vi _ _ => flags.length - (intOf vi).toNat)
      case atStart => exact ⟨0, rfl, by omega, by simpa using G1.out⟩
      case round =>
        clear G1
        obtain ⟨k, rfl, hk, hG⟩ := hrel
        have G1 := Lib.hid hG
        clear hG
        by_cases hlt : k < flags.length
        · obtain ⟨x, hx⟩ : ∃ x, flags[k]? = some x := ⟨_, List.getElem?_eq_getElem hlt⟩
          obtain ⟨b, off, rfl, hb, hcell⟩ := (HB.out.ext G1.out.ext) (by intro e; rw [e] at hlt; simp at hlt)
          have hcx := hcell k x hx 0 _ rfl
          simp only [Nat.add_zero, Nat.mul_one] at hcx
          have i0' : (0 : Int) ≤ (k : Int) := by omega
          have i1 : (k : Int) < (flags.length : Int) := by omega
          have htk : flags.take (k + 1) = flags.take k ++ [x] := by rw [List.take_add_one, hx]; rfl
          have TK := Lib.hid htk
          have hlen : (bs1 ++ (flags.take k).flatMap flagB).length ≤ 1000 := by
            rw [List.length_append, flags_len, List.length_take]; omega
          clear htk hcell
          go_wp2_with fail
          refine (refFlag_calls x wr).mono ?_
          rintro e w1 ⟨⟨v1, rfl, h1, h2⟩, h3⟩
          obtain ⟨xo, xc, rfl, _, _, hrr⟩ := Rows.own (enc := encU8) (sz := 1) (fun _ => rfl) h1
          have RR := Lib.hid hrr; have X1 := Lib.hid h3
          clear h1 h2 h3 hrr
          have hi := I0.out
          have hf1 : (flagB x).length = 1 := rfl
          go_wp2_with (at_builtin; go_must (refine wpList_append_rows (enc := encU8) (size := 1) (fun _ => rfl) one_u8 rfl _ _ 46 rfl 5 i0 _ 1 Tryz.underlying46 hi hz0 hz1 hz2 rfl (by decide) u10 (bs1 ++ (flags.take k).flatMap flagB).length ((bs1 ++ (flags.take k).flatMap flagB).flatMap encU8) rfl (own_ext G1.out.row X1.out) xo (flagB x) xc rfl RR.out (by unfold maxLen; omega) (by omega) ?_; intro v2 w2 hown1 hbut1 hkept1; have O2 := Lib.hid hown1; have B2 := Lib.hid hbut1; have P2 := Lib.hid hkept1; clear hown1 hbut1 hkept1))
          go_roundw
          case rel =>
            refine ⟨k + 1, by go_num, by omega, ?_⟩
            have := G1.out.more X1.out O2.out B2.out P2.out
            rw [TK.out, List.flatMap_append, List.flatMap_singleton, ← List.append_assoc]
            exact this
          case measure => simp [intOf]; omega
        · have : k = flags.length := by omega
          subst this
          rw [List.take_length] at G1
          have hlen2 : (bs1 ++ flags.flatMap flagB).length ≤ 1000 := by
            rw [List.length_append, flags_len]; omega
          obtain ⟨bs2, hbs2⟩ : ∃ b, b = bs1 ++ flags.flatMap flagB := ⟨_, rfl⟩
          rw [← hbs2] at G1 hlen2
          have E2 := Lib.hid hbs2
          clear hbs2
          go_wp2_with fail
          go_loopw [15, 10] (fun vi v wr => ∃ k : Nat, vi = .int .i64 k ∧ k ≤ texts.length ∧ Grow w v (bs2 ++ (texts.take k).flatMap fun x => rowB x.data.toList) wr) (fun vi _ _ => texts.length - (intOf vi).toNat)
          case atStart => exact ⟨0, rfl, by omega, by simpa using G1.out⟩
          case round =>
            clear G1
            obtain ⟨k, rfl, hk, hG⟩ := hrel
            have G1 := Lib.hid hG
            clear hG
            by_cases hlt : k < texts.length
            · obtain ⟨x, hx⟩ : ∃ x, texts[k]? = some x := ⟨_, List.getElem?_eq_getElem hlt⟩
              obtain ⟨b, off, rfl, hb, hcell⟩ := (HC.out.ext G1.out.ext) (by intro e; rw [e] at hlt; simp at hlt)
              have hcx := hcell k x hx 0 _ rfl
              simp only [Nat.add_zero, Nat.mul_one] at hcx
              have i0' : (0 : Int) ≤ (k : Int) := by omega
              have i1 : (k : Int) < (texts.length : Int) := by omega
              have htk : texts.take (k + 1) = texts.take k ++ [x] := by rw [List.take_add_one, hx]; rfl
              have TK := Lib.hid htk
              have hxl := LT.out x (List.mem_of_getElem? hx)
              have hlen : (bs2 ++ (texts.take k).flatMap fun x => rowB x.data.toList).length ≤ 110000000000 := by
                have := rowsT_len (texts.take k) (fun y hy => LT.out y (List.mem_of_mem_take hy))
                rw [List.length_take] at this
                rw [List.length_append]
                have : min k texts.length ≤ 100 := by omega
                omega
              clear htk hcell
              have hw1 : ∃ W, W = Lib.bytesWorld wr 5 x ∧ Ext wr W ∧ Rows 1 encU8 W.heap.size W (some ⟨wr.heap.size, 0, none⟩) x.data.toList := by
                refine ⟨_, rfl, ext_bytesWorld, fun _ => ⟨_, 0, rfl, by rw [Lib.bytesWorld_size]; omega, fun i y hi j u hj => ?_⟩⟩
                obtain ⟨rfl, rfl⟩ : j = 0 ∧ u = .int .u8 (y.toNat : Int) := by
                  match j, hj with
                  | 0, hj => simp [encU8] at hj; exact ⟨rfl, hj.symm⟩
                  | j + 1, hj => simp [encU8] at hj
                have hil := (List.getElem?_eq_some_iff.1 hi).1
                rw [show 0 + i * 1 + 0 = i from by omega, Lib.bytesWorld_cell wr _ x i (by simpa using hil)]
                rw [List.getD_eq_getElem?_getD, hi]; rfl
              obtain ⟨W, eW, xW, rW⟩ := hw1
              have EW := Lib.hid eW; have XW := Lib.hid xW; have RW := Lib.hid rW
              clear eW xW rW
              go_wp2_with fail
              rw [Lib.run_convert_string_bytes wr _ _ 5 x (u := .string) Tryz.underlying9 Tryz.underlying46 Tryz.underlying5]
              simp only [Result.andThen]
              rw [Oper.upon_value, ← EW.out]
              go_wp2_with fail
              refine (refRow_calls x.data.toList (some ⟨wr.heap.size, 0, none⟩) _ W RW.out hxl).mono ?_
              rintro e w1 ⟨⟨v1, rfl, h1, h2⟩, h3⟩
              obtain ⟨xo, xc, rfl, _, _, hrr⟩ := Rows.own (enc := encU8) (sz := 1) (fun _ => rfl) h1
              have RR := Lib.hid hrr; have X1 := Lib.hid (XW.out.trans h3)
              clear h1 h2 h3 hrr
              have hi := I0.out
              have hrl : (rowB x.data.toList).length ≤ 1000000009 := by
                rw [rowB, List.length_append]
                have := numB_nine (n := x.data.toList.length) (by omega)
                omega
              go_wp2_with (at_builtin; go_must (refine wpList_append_rows (enc := encU8) (size := 1) (fun _ => rfl) one_u8 rfl _ _ 46 rfl 5 i0 _ 1 Tryz.underlying46 hi hz0 hz1 hz2 rfl (by decide) u10 (bs2 ++ (texts.take k).flatMap fun x => rowB x.data.toList).length ((bs2 ++ (texts.take k).flatMap fun x => rowB x.data.toList).flatMap encU8) rfl (own_ext G1.out.row X1.out) xo (rowB x.data.toList) xc rfl RR.out (by unfold maxLen; omega) (by omega) ?_; intro v2 w2 hown1 hbut1 hkept1; have O2 := Lib.hid hown1; have B2 := Lib.hid hbut1; have P2 := Lib.hid hkept1; clear hown1 hbut1 hkept1))
              go_roundw
              case rel =>
                refine ⟨k + 1, by go_num, by omega, ?_⟩
                have := G1.out.more X1.out O2.out B2.out P2.out
                rw [TK.out, List.flatMap_append, List.flatMap_singleton, ← List.append_assoc]
                exact this
              case measure => simp [intOf]; omega
            · have : k = texts.length := by omega
              subst this
              rw [List.take_length] at G1
              go_wp2_with fail
              go_loopw [16, 10] (fun vi v wr => vi = .int .i64 0 ∧ Grow w v (bs2 ++ texts.flatMap fun x => rowB x.data.toList) wr) (fun _ _ _ => 0)
              case atStart => exact ⟨rfl, G1.out⟩
              case round =>
                clear G1
                obtain ⟨rfl, hG⟩ := hrel
                have G1 := Lib.hid hG
                clear hG
                go_wp2_with fail
                go_ret2
                rw [refBytes, BD.out, if_neg (by decide), ← List.append_assoc, ← E1.out, ← E2.out]
                exact ⟨⟨_, rfl, G1.out.row, G1.out.new⟩, G1.out.ext⟩
end Go.Proofs.YtdmejbjpbjcfbaaGreatDoor
