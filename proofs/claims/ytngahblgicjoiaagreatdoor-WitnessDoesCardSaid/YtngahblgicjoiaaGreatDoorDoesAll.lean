/- ApartLines: rows that were handed out lie apart. -/
import Derived.Test.YtngahblgicjoiaaGreatDoorFlatLn
import Derived.Test.YtngahblgicjoiaaGreatDoorFlatNil
import Derived.Test.YtngahblgicjoiaaGreatDoorTold
import Derived.Test.YtngahblgicjoiaaGreatDoorLawSt
namespace Go.Proofs.YtngahblgicjoiaaGreatDoor
open Go.RowKit

set_option maxRecDepth 100000 in
set_option maxHeartbeats 3200000 in
theorem bagLines_calls (vs : List SlV) (lo : Option Addr) (lcap bb : Nat) (w : World) (c0 : Nat → List RowD) (hN : vs.length ≤ 1000) (hn : ∀ (j : Nat) (v : SlV), vs[j]? = some v → v.n ≤ 1000000) (hb : Blk w bb [.slice none 0 0, .slice none 0 0, .slice none 0 0, .slice none 0 0, .slice none 0 0, .slice none 0 0, .slice none 0 0, .slice none 0 0, .slice none 0 0, .slice none 0 0, .slice none 0 0, .slice none 0 0, .slice none 0 0, .slice lo vs.length lcap, .slice none 0 0, .slice none 0 0, .slice none 0 0, .slice none 0 0, .slice none 0 0, .slice none 0 0, .slice none 0 0, .slice none 0 0] 137) (hnb : ¬ OwnB vs bb) (hrow : NRows 1 encSl (OwnB vs) w lo vs) (hlists : ListsAt w vs c0) (hap : Apart1 vs) :
    Calls Tryz.prog 62 #[.pointer (some ⟨bb, 0, none⟩)] w fun e w' => e = .returned (.bool true) ∧ But (OwnB vs) w w' := by
  have HB := Lib.hid hb
  have FL := Lib.hid (fun W (hW : But (OwnB vs) w W) (hx : Ext w W) => flatLines_calls vs lo lcap W c0 hN hn (hrow.step hW (fun b _ e => .inl e) (fun _ _ e => e)) (hlists.ext hx) hap)
  have NB := Lib.hid hnb
  clear hb hnb hrow hlists hap hn
  go_enter Tryz.func62, Tryz.ntmps62
  have X0 := Lib.hid (Below.refl w.heap.size w)
  have B0 := HB
  have c0 := B0.out.cell 0
  simp only [List.getElem?_cons_zero] at c0
  go_wp2_with fail
  clear c0
  refine (nilLimbs _).mono ?_
  rintro e w1 ⟨rfl, hx⟩
  have X1 := Lib.hid (Ext.trans X0.out hx)
  have B1 := Lib.hid (B0.out.ext' hx)
  clear hx X0
  have c1 := B1.out.cell 1
  simp only [List.getElem?_cons_zero, List.getElem?_cons_succ] at c1
  go_wp2_with fail
  clear c1
  refine (nilWords _).mono ?_
  rintro e w2 ⟨rfl, hx⟩
  have X2 := Lib.hid (Ext.trans X1.out hx)
  have B2 := Lib.hid (B1.out.ext' hx)
  clear hx X1 B1
  have c2 := B2.out.cell 2
  simp only [List.getElem?_cons_zero, List.getElem?_cons_succ] at c2
  go_wp2_with fail
  clear c2
  refine (nilInts _).mono ?_
  rintro e w3 ⟨rfl, hx⟩
  have X3 := Lib.hid (Ext.trans X2.out hx)
  have B3 := Lib.hid (B2.out.ext' hx)
  clear hx X2 B2
  have c3 := B3.out.cell 3
  simp only [List.getElem?_cons_zero, List.getElem?_cons_succ] at c3
  go_wp2_with fail
  clear c3
  refine (nilLongs _).mono ?_
  rintro e w4 ⟨rfl, hx⟩
  have X4 := Lib.hid (Ext.trans X3.out hx)
  have B4 := Lib.hid (B3.out.ext' hx)
  clear hx X3 B3
  have c4 := B4.out.cell 4
  simp only [List.getElem?_cons_zero, List.getElem?_cons_succ] at c4
  go_wp2_with fail
  clear c4
  refine (nilTexts _).mono ?_
  rintro e w5 ⟨rfl, hx⟩
  have X5 := Lib.hid (Ext.trans X4.out hx)
  have B5 := Lib.hid (B4.out.ext' hx)
  clear hx X4 B4
  have c5 := B5.out.cell 5
  simp only [List.getElem?_cons_zero, List.getElem?_cons_succ] at c5
  go_wp2_with fail
  clear c5
  refine (nilBytes _).mono ?_
  rintro e w6 ⟨rfl, hx⟩
  have X6 := Lib.hid (Ext.trans X5.out hx)
  have B6 := Lib.hid (B5.out.ext' hx)
  clear hx X5 B5
  have c6 := B6.out.cell 6
  simp only [List.getElem?_cons_zero, List.getElem?_cons_succ] at c6
  go_wp2_with fail
  clear c6
  refine (nilTruths _).mono ?_
  rintro e w7 ⟨rfl, hx⟩
  have X7 := Lib.hid (Ext.trans X6.out hx)
  have B7 := Lib.hid (B6.out.ext' hx)
  clear hx X6 B6
  have c7 := B7.out.cell 7
  simp only [List.getElem?_cons_zero, List.getElem?_cons_succ] at c7
  go_wp2_with fail
  clear c7
  refine (nilSpans _).mono ?_
  rintro e w8 ⟨rfl, hx⟩
  have X8 := Lib.hid (Ext.trans X7.out hx)
  have B8 := Lib.hid (B7.out.ext' hx)
  clear hx X7 B7
  have c8 := B8.out.cell 8
  simp only [List.getElem?_cons_zero, List.getElem?_cons_succ] at c8
  go_wp2_with fail
  clear c8
  refine (nilShareRows _).mono ?_
  rintro e w9 ⟨rfl, hx⟩
  have X9 := Lib.hid (Ext.trans X8.out hx)
  have B9 := Lib.hid (B8.out.ext' hx)
  clear hx X8 B8
  have c9 := B9.out.cell 9
  simp only [List.getElem?_cons_zero, List.getElem?_cons_succ] at c9
  go_wp2_with fail
  clear c9
  refine (nilSharesRows _).mono ?_
  rintro e w10 ⟨rfl, hx⟩
  have X10 := Lib.hid (Ext.trans X9.out hx)
  have B10 := Lib.hid (B9.out.ext' hx)
  clear hx X9 B9
  have c10 := B10.out.cell 10
  simp only [List.getElem?_cons_zero, List.getElem?_cons_succ] at c10
  go_wp2_with fail
  clear c10
  refine (nilNames _).mono ?_
  rintro e w11 ⟨rfl, hx⟩
  have X11 := Lib.hid (Ext.trans X10.out hx)
  have B11 := Lib.hid (B10.out.ext' hx)
  clear hx X10 B10
  have c11 := B11.out.cell 11
  simp only [List.getElem?_cons_zero, List.getElem?_cons_succ] at c11
  go_wp2_with fail
  clear c11
  refine (nilActs _).mono ?_
  rintro e w12 ⟨rfl, hx⟩
  have X12 := Lib.hid (Ext.trans X11.out hx)
  have B12 := Lib.hid (B11.out.ext' hx)
  clear hx X11 B11
  have c12 := B12.out.cell 12
  simp only [List.getElem?_cons_zero, List.getElem?_cons_succ] at c12
  go_wp2_with fail
  clear c12
  refine (nilReads _).mono ?_
  rintro e w13 ⟨rfl, hx⟩
  have X13 := Lib.hid (Ext.trans X12.out hx)
  have B13 := Lib.hid (B12.out.ext' hx)
  clear hx X12 B12
  have c13 := B13.out.cell 13
  simp only [List.getElem?_cons_zero, List.getElem?_cons_succ] at c13
  go_wp2_with fail
  clear c13
  refine (FL.out _ (Ext.but X13.out _) X13.out).mono ?_
  rintro e w14 ⟨rfl, hx⟩
  have K14 := Lib.hid ((Ext.but X13.out (OwnB vs)).trans hx (fun _ _ e => e) (fun _ _ e => e))
  have B14 := Lib.hid (B13.out.but hx NB.out)
  clear hx X13 B13
  have c14 := B14.out.cell 14
  simp only [List.getElem?_cons_zero, List.getElem?_cons_succ] at c14
  go_wp2_with fail
  clear c14
  refine (nilHolds _).mono ?_
  rintro e w15 ⟨rfl, hx⟩
  have K15 := Lib.hid (K14.out.trans (Ext.but hx (fun _ => False)) (fun _ _ e => e) (fun _ _ e => e.elim))
  have B15 := Lib.hid (B14.out.ext' hx)
  clear hx K14 B14
  have c15 := B15.out.cell 15
  simp only [List.getElem?_cons_zero, List.getElem?_cons_succ] at c15
  go_wp2_with fail
  clear c15
  refine (nilConfigs _).mono ?_
  rintro e w16 ⟨rfl, hx⟩
  have K16 := Lib.hid (K15.out.trans (Ext.but hx (fun _ => False)) (fun _ _ e => e) (fun _ _ e => e.elim))
  have B16 := Lib.hid (B15.out.ext' hx)
  clear hx K15 B15
  have c16 := B16.out.cell 16
  simp only [List.getElem?_cons_zero, List.getElem?_cons_succ] at c16
  go_wp2_with fail
  clear c16
  refine (nilEntries _).mono ?_
  rintro e w17 ⟨rfl, hx⟩
  have K17 := Lib.hid (K16.out.trans (Ext.but hx (fun _ => False)) (fun _ _ e => e) (fun _ _ e => e.elim))
  have B17 := Lib.hid (B16.out.ext' hx)
  clear hx K16 B16
  have c17 := B17.out.cell 17
  simp only [List.getElem?_cons_zero, List.getElem?_cons_succ] at c17
  go_wp2_with fail
  clear c17
  refine (nilBases _).mono ?_
  rintro e w18 ⟨rfl, hx⟩
  have K18 := Lib.hid (K17.out.trans (Ext.but hx (fun _ => False)) (fun _ _ e => e) (fun _ _ e => e.elim))
  have B18 := Lib.hid (B17.out.ext' hx)
  clear hx K17 B17
  have c18 := B18.out.cell 18
  simp only [List.getElem?_cons_zero, List.getElem?_cons_succ] at c18
  go_wp2_with fail
  clear c18
  refine (nilImages _).mono ?_
  rintro e w19 ⟨rfl, hx⟩
  have K19 := Lib.hid (K18.out.trans (Ext.but hx (fun _ => False)) (fun _ _ e => e) (fun _ _ e => e.elim))
  have B19 := Lib.hid (B18.out.ext' hx)
  clear hx K18 B18
  have c19 := B19.out.cell 19
  simp only [List.getElem?_cons_zero, List.getElem?_cons_succ] at c19
  go_wp2_with fail
  clear c19
  refine (nilLetters _).mono ?_
  rintro e w20 ⟨rfl, hx⟩
  have K20 := Lib.hid (K19.out.trans (Ext.but hx (fun _ => False)) (fun _ _ e => e) (fun _ _ e => e.elim))
  have B20 := Lib.hid (B19.out.ext' hx)
  clear hx K19 B19
  have c20 := B20.out.cell 20
  simp only [List.getElem?_cons_zero, List.getElem?_cons_succ] at c20
  go_wp2_with fail
  clear c20
  refine (nilStretches _).mono ?_
  rintro e w21 ⟨rfl, hx⟩
  have K21 := Lib.hid (K20.out.trans (Ext.but hx (fun _ => False)) (fun _ _ e => e) (fun _ _ e => e.elim))
  have B21 := Lib.hid (B20.out.ext' hx)
  clear hx K20 B20
  have c21 := B21.out.cell 21
  simp only [List.getElem?_cons_zero, List.getElem?_cons_succ] at c21
  go_wp2_with fail
  clear c21
  refine (nilPeers _).mono ?_
  rintro e w22 ⟨rfl, hx⟩
  have K22 := Lib.hid (K21.out.trans (Ext.but hx (fun _ => False)) (fun _ _ e => e) (fun _ _ e => e.elim))
  have B22 := Lib.hid (B21.out.ext' hx)
  clear hx K21 B21
  clear B22
  go_wp2_with fail
  go_ret
  exact ⟨rfl, K22.out⟩

theorem one_sl : ∀ (x : SlV), ∀ u ∈ encSl x, u.oneCell' = true := by
  intro x u hu
  simp only [encSl, List.mem_cons, List.not_mem_nil, or_false] at hu
  subst hu; rfl
/-- The bag amid the putting: k lists are in it. -/
structure BagMid (w : World) (bb : Nat) (vs : List SlV) (k : Nat) (wr : World) : Prop where
  out : ∃ so cap, Blk wr bb [.slice none 0 0, .slice none 0 0, .slice none 0 0, .slice none 0 0, .slice none 0 0, .slice none 0 0, .slice none 0 0, .slice none 0 0, .slice none 0 0, .slice none 0 0, .slice none 0 0, .slice none 0 0, .slice none 0 0, .slice so k cap, .slice none 0 0, .slice none 0 0, .slice none 0 0, .slice none 0 0, .slice none 0 0, .slice none 0 0, .slice none 0 0, .slice none 0 0] 137 ∧ wr.ownsRow w.heap.size 32 1 (.slice so k cap) k ((vs.take k).flatMap encSl) ∧ Ext w wr
set_option maxRecDepth 100000 in
set_option maxHeartbeats 1600000 in
theorem putLines_calls (x : SlV) (bb n cap : Nat) (so : Option Addr) (us : List Value) (w0 w : World) (hn : n ≤ 1000) (hb : Blk w bb [.slice none 0 0, .slice none 0 0, .slice none 0 0, .slice none 0 0, .slice none 0 0, .slice none 0 0, .slice none 0 0, .slice none 0 0, .slice none 0 0, .slice none 0 0, .slice none 0 0, .slice none 0 0, .slice none 0 0, .slice so n cap, .slice none 0 0, .slice none 0 0, .slice none 0 0, .slice none 0 0, .slice none 0 0, .slice none 0 0, .slice none 0 0, .slice none 0 0] 137) (hbb : w0.heap.size ≤ bb) (hown : w.ownsRow w0.heap.size 32 1 (.slice so n cap) n us) (hx0 : Ext w0 w) :
    Calls Tryz.prog 61 #[.pointer (some ⟨bb, 0, none⟩), .slice x.ao x.n x.cap] w fun e w' => e = .returned (.tuple #[]) ∧ ∃ so' cap', Blk w' bb [.slice none 0 0, .slice none 0 0, .slice none 0 0, .slice none 0 0, .slice none 0 0, .slice none 0 0, .slice none 0 0, .slice none 0 0, .slice none 0 0, .slice none 0 0, .slice none 0 0, .slice none 0 0, .slice none 0 0, .slice so' (n + 1) cap', .slice none 0 0, .slice none 0 0, .slice none 0 0, .slice none 0 0, .slice none 0 0, .slice none 0 0, .slice none 0 0, .slice none 0 0] 137 ∧ w'.ownsRow w0.heap.size 32 1 (.slice so' (n + 1) cap') (n + 1) (us ++ encSl x) ∧ Ext w0 w' := by
  obtain ⟨i0, hi, hz0, hz1, hz2⟩ := info_parts infoLines
  have HB := Lib.hid hb; have HO := Lib.hid hown; have HX := Lib.hid hx0
  have c13 := hb.cell 13
  simp only [List.getElem?_cons_zero, List.getElem?_cons_succ] at c13
  have EN : Hid (Ext w (w.alloc (.cells #[.slice x.ao x.n x.cap] 32))) := Lib.hid ((Below.refl _ w).alloc (Nat.le_refl _) _)
  have CN := Lib.hid (cells_new w [.slice x.ao x.n x.cap] 32)
  clear hb hown hx0
  go_enter Tryz.func61, Tryz.ntmps61
  go_wp2_with (at_builtin; refine wpList_append_at _ rfl (.tmp 8) (.tmp 10) 48 rfl 32 i0 _ 1 24 Tryz.underlying48 hi hz0 hz1 hz2 rfl (by decide) (.slice so n cap) n us rfl (own_ext (own_base HO.out (fun _ _ => Nat.zero_le _)) EN.out) ⟨w.heap.size, 0, none⟩ 1 1 (encSl x) rfl rfl CN.out (one_sl _) (by decide) (by unfold maxLen; omega) (by omega) ?_; intro g cap5 w5 h1 h2 h3; have Y1 := Lib.hid h1; have Y2 := Lib.hid h2; have Y3 := Lib.hid h3; have hb5 := (HB.out.ext' EN.out).but h2 (fun e => own_ne (own_ext HO.out EN.out) (HB.out.ext' EN.out) (by decide) e); have B5 := Lib.hid hb5; have c5 := hb5.cell 13; have f5 := hb5.free 13; simp only [List.getElem?_cons_zero, List.getElem?_cons_succ] at c5; clear h1 h2 h3 hb5)
  go_end0
  have hge : ∀ j, (Value.slice (some ⟨g, 0, none⟩) (n + 1) cap5).ownBlock = some j → w0.heap.size ≤ j := fun j hj => by
    rcases Y3.out j hj with e | e
    · exact own_ge HO.out j e
    · have := HX.out.size; have := EN.out.size; omega
  have hx5 : Ext w0 w5 := Below.trans HX.out (((Ext.but EN.out (fun _ => False)).trans Y2.out (U := fun j => w0.heap.size ≤ j) (fun _ _ e => e.elim) (fun i _ e => own_ge HO.out i e)).below HX.out.size (fun _ h => h))
  refine ⟨rfl, _, cap5, B5.out.set 13 _, ?_, hx5.setCell (p := ⟨bb, 13, none⟩) hbb _⟩
  exact own_setOther (a := ⟨bb, 13, none⟩) (own_base Y1.out hge) (own_ne Y1.out B5.out (by decide)) _
set_option maxRecDepth 100000 in
set_option maxHeartbeats 1600000 in
theorem apartLines_calls (vs : List SlV) (lo : Option Addr) (lcap : Nat) (w : World) (c0 : Nat → List RowD) (hN : vs.length ≤ 1000) (hn : ∀ (j : Nat) (v : SlV), vs[j]? = some v → v.n ≤ 1000000) (hrow : NRows 1 encSl (OwnB vs) w lo vs) (hlists : ListsAt w vs c0) (hap : Apart1 vs) :
    Calls Tryz.prog 24 #[.slice lo vs.length lcap] w fun e w' => e = .returned (.bool true) ∧ But (OwnB vs) w w' := by
  have HR := Lib.hid hrow; have HL := Lib.hid hlists; have HA := Lib.hid hap; have HN := Lib.hid hn
  obtain ⟨bb, hbb⟩ : ∃ bb, bb = w.heap.size := ⟨_, rfl⟩
  obtain ⟨wA, hwA⟩ : ∃ wA, wA = w.alloc (.cells #[.slice none 0 0, .slice none 0 0, .slice none 0 0, .slice none 0 0, .slice none 0 0, .slice none 0 0, .slice none 0 0, .slice none 0 0, .slice none 0 0, .slice none 0 0, .slice none 0 0, .slice none 0 0, .slice none 0 0, .slice none 0 0, .slice none 0 0, .slice none 0 0, .slice none 0 0, .slice none 0 0, .slice none 0 0, .slice none 0 0, .slice none 0 0, .slice none 0 0] 137) := ⟨_, rfl⟩
  have BA : Hid (Blk wA bb [.slice none 0 0, .slice none 0 0, .slice none 0 0, .slice none 0 0, .slice none 0 0, .slice none 0 0, .slice none 0 0, .slice none 0 0, .slice none 0 0, .slice none 0 0, .slice none 0 0, .slice none 0 0, .slice none 0 0, .slice none 0 0, .slice none 0 0, .slice none 0 0, .slice none 0 0, .slice none 0 0, .slice none 0 0, .slice none 0 0, .slice none 0 0, .slice none 0 0] 137) := Lib.hid (by rw [hwA, hbb]; exact Blk.new w _ _)
  have XA : Hid (Ext w wA) := Lib.hid (by rw [hwA]; exact (Below.refl _ w).alloc (Nat.le_refl _) _)
  have WA := Lib.hid hwA; have HBB := Lib.hid hbb
  clear hrow hlists hap hn hwA hbb
  go_enter Tryz.func24, Tryz.ntmps24
  go_wp2_with fail
  rw [← WA.out, ← HBB.out]
  go_loopw [4] (fun i wr => ∃ k : Nat, k ≤ vs.length ∧ i = .int .i64 k ∧ BagMid w bb vs k wr) (fun i _ => vs.length - (intOf i).toNat)
  case atStart => exact ⟨0, by omega, rfl, none, 0, BA.out, World.ownsRow_nil _ _ _ _, XA.out⟩
  case round =>
    obtain ⟨k, hk, rfl, hmid⟩ := hrel
    obtain ⟨so, cap, hb, hown, hx⟩ := hmid.out
    have B1 := Lib.hid hb; have O1 := Lib.hid hown; have X1 := Lib.hid hx
    clear hmid hb hown hx
    by_cases hlt : k < vs.length
    · obtain ⟨v, hv⟩ : ∃ v, vs[k]? = some v := ⟨_, List.getElem?_eq_getElem hlt⟩
      obtain ⟨b, off, rfl, -, -, hcell⟩ := outer_cell (HR.out.step (Ext.but X1.out (fun _ => False)) (no' := OwnB vs) (fun _ _ e => e.elim) (fun _ _ e => e)) hv
      have PC := Lib.hid (putLines_calls v bb k cap so _ w wr (by omega) B1.out (by rw [HBB.out]; exact Nat.le_refl _) O1.out X1.out)
      have TK : Hid ((vs.take (k + 1)).flatMap encSl = (vs.take k).flatMap encSl ++ encSl v) := Lib.hid (by rw [List.take_add_one, hv, Option.toList_some, List.flatMap_append]; simp)
      have i0 : (0 : Int) ≤ (k : Int) := by omega
      have i1 : (k : Int) < (vs.length : Int) := by omega
      clear hv
      go_wp2_with fail
      refine PC.out.mono ?_
      rintro e w2 ⟨rfl, so2, cap2, hb2, ho2, hx2⟩
      have B2 := Lib.hid hb2; have O2 := Lib.hid ho2; have X2 := Lib.hid hx2
      clear hb2 ho2 hx2 hcell
      go_wp2_with fail
      go_roundw
      case rel => exact ⟨k + 1, by omega, by go_num, so2, cap2, B2.out, by rw [TK.out]; exact O2.out, X2.out⟩
      case measure => simp [intOf]; omega
    · obtain rfl : k = vs.length := by omega
      have hall : vs.take vs.length = vs := List.take_of_length_le (Nat.le_refl _)
      rw [hall] at O1
      have hrow2 : NRows 1 encSl (OwnB vs) wr so vs := by
        intro hne
        obtain ⟨g, off, e, hg, hc⟩ := rows_of_own (enc := encSl) (sz := 1) (fun _ => rfl) O1.out hne
        subst e
        exact ⟨g, off, rfl, hg, fun ho => by
          have h1 := HL.out.lt ho
          have h2 := own_ge O1.out g rfl
          omega, hc⟩
      have BC := Lib.hid (bagLines_calls vs so cap bb wr c0 hN HN.out B1.out (fun ho => by have h1 := HL.out.lt ho; have h2 := HBB.out; omega) hrow2 (HL.out.ext X1.out) HA.out)
      clear hall hrow2
      go_wp2_with fail
      refine BC.out.mono ?_
      rintro e w2 ⟨rfl, hx2⟩
      have X2 := Lib.hid ((Ext.but X1.out (OwnB vs)).trans hx2 (fun _ _ e => e) (fun _ _ e => e))
      clear hx2
      go_wp2_with fail
      go_ret
      exact ⟨rfl, X2.out⟩
end Go.Proofs.YtngahblgicjoiaaGreatDoor
/- WitnessDoes: the walk. -/
namespace Go.Proofs.YtngahblgicjoiaaGreatDoor
open Go.RowKit

theorem nrows_atD {α : Type} {sz : Nat} {enc : α → List Value} {no : Nat → Prop} {w : World} {g : Nat} {l : List α} (h : Rows sz enc w.heap.size w (some ⟨g, 0, none⟩) l) (hn : ¬ no g) : NRows sz enc no w (some ⟨g, 0, none⟩) l := by
  intro hl
  obtain ⟨b, off, e, hb, hc⟩ := h hl
  cases e
  exact ⟨g, 0, rfl, hb, hn, hc⟩
theorem linesN_few {most : Nat} : ∀ (l : List RowD) (n : Nat), linesN most n l ≤ most → n + l.length ≤ linesN most n l
  | [], n, _ => by simp [linesN]
  | x :: l, n, h => by
    rw [linesN] at h ⊢
    split at h
    · rename_i hn
      rw [if_pos hn]
      have := linesN_few l _ h
      simp only [List.length_cons]
      omega
    · rename_i hn
      exact absurd h (by omega)
theorem doS_few {rows : List RowD} {x : StepD} (hx : x.ok) (h : ∀ r ∈ rows, r.ok) : (∀ r ∈ (doS rows x).1, r.ok) ∧ (doS rows x).1.length ≤ rows.length + x.acts.length ∧ (doS rows x).2.length ≤ x.acts.length := by
  unfold doS
  split
  · exact ⟨(doneK_ok hx.acts h).1, (doneK_ok hx.acts h).2, tell_len _ _⟩
  · exact ⟨h, by simp, by simp⟩

set_option maxRecDepth 100000 in
set_option maxHeartbeats 3200000 in
theorem doesW_calls (l : List RowD) (ao : Option Addr) (cap : Nat) (z : StepZ) (w : World) (hl : l.length ≤ 9223372036854775807) (hr : Rows 2 encRw w.heap.size w ao l) (hok : ∀ r ∈ l, r.ok) (hz : z.at w.heap.size w) (hsm : z.d.small) (hlv : LV w.heap.size w) :
    Calls Tryz.prog 4 #[.slice ao l.length cap, .agg (encStep z).toArray] w fun e w' => e = .returned (.bool true) ∧ Ext w w' := by
  have HR := Lib.hid hr; have HOK := Lib.hid hok; have HLV := Lib.hid hlv
  have ZA := Lib.hid (fun W (hW : Ext w W) => (hz.ext hW).mono hW.size)
  have AW := Lib.hid (fun W (hW : Ext w W) => awake_calls W ((HLV.out.below hW).up hW.size))
  have SM := Lib.hid hsm
  obtain ⟨wA, hwA⟩ : ∃ wA, wA = w.alloc (.cells (encStep z).toArray 38) := ⟨_, rfl⟩
  have BA : Hid (Blk wA w.heap.size (encStep z) 38) := Lib.hid (by rw [hwA]; exact Blk.new w _ _)
  have XA : Hid (Ext w wA) := Lib.hid (by rw [hwA]; exact (Below.refl _ w).alloc (Nat.le_refl _) _)
  -- what the walk is told of the step
  have GC := Lib.hid (fun W (sa : Option Addr) (hs : StepsAt W sa [z]) => (great_calls [z] sa 1 W (by simp) hs (fun y hy => by rw [List.mem_singleton] at hy; rw [hy]; exact SM.out)).mono (R' := fun e w' => e = .returned (.bool (greatD [z.d])) ∧ Ext W w') (fun _ _ h => h))
  have DPC := Lib.hid (fun W (hW : Ext w W) (ro : Option Addr) (rc : Nat) (h1 : l.length ≤ 90000) (h2 : Rows 2 encRw W.heap.size W ro l) (hd : z.d.ok) => doP_calls l ro rc z W (by omega) h2 HOK.out (ZA.out W hW) hd ((HLV.out.below hW).up hW.size))
  have RDC := Lib.hid (fun W (hW : Ext w W) (h1 : l.length ≤ 90000) (hd : z.d.ok) => refDoP_calls l ao cap z W h1 ((HR.out.ext hW).mono hW.size) HOK.out (ZA.out W hW) hd)
  have TC := Lib.hid (fun W (sa : Option Addr) (hs : StepsAt W sa [z]) => (turned_calls [z] sa 1 W (by simp) hs).mono (R' := fun e w' => ∃ b off c, e = .returned (.slice (some ⟨b, off, none⟩) 1 c) ∧ (∀ (j : Nat) (u : Value), (encStep z)[j]? = some u → w'.cell? ⟨b, off + j, none⟩ = some u) ∧ Ext W w') (fun e w' ⟨so, c, h1, _, h2, h3⟩ => by
    obtain ⟨b, off, rfl, _, hc⟩ := h2.1 (by simp)
    exact ⟨b, off, c, h1, fun j u hj => by have := hc 0 z rfl j u hj; simpa using this, h3⟩))
  have ST := Lib.hid (fun W (hW : Ext w W) => (⟨⟨rows_one (Blk.new W (encStep z) 38), fun y hy => by
      rw [List.mem_singleton] at hy; rw [hy]
      exact ZA.out _ (Ext.trans hW ((Below.refl _ W).alloc (Nat.le_refl _) _))⟩, (Below.refl _ W).alloc (Nat.le_refl _) _⟩ : StepsAt (W.alloc (.cells (encStep z).toArray 38)) (some ⟨W.heap.size, 0, none⟩) [z] ∧ Ext W (W.alloc (.cells (encStep z).toArray 38))))
  have GF := Lib.hid (fun (h : greatD [z.d] = false) => (great_few h).2 z.d (by simp))
  have DF := Lib.hid (fun (hd : z.d.ok) => doS_few hd HOK.out)
  have WA := Lib.hid hwA
  have HS1 : Hid (wA.heap.size = w.heap.size + 1) := Lib.hid (by rw [hwA]; simp)
  clear hr hok hz hsm hlv hwA
  obtain ⟨d, zao, zac, zro, zrc⟩ := z
  unfold encStep at BA DPC RDC TC ST WA ⊢
  simp only at BA DPC RDC TC ST WA GC GF DF SM
  obtain ⟨hst1, hxs1⟩ := ST.out wA XA.out
  rw [HS1.out] at hst1
  have S1 := Lib.hid hst1; have XS1 := Lib.hid (Ext.trans XA.out hxs1)
  clear hst1 hxs1
  go_enter Tryz.func4, Tryz.ntmps4
  go_wp2_with fail
  rw [← WA.out]
  refine (GC.out _ _ S1.out).mono ?_
  rintro e w1 ⟨rfl, hx1⟩
  have X1 := Lib.hid (Ext.trans XS1.out hx1)
  have hxA1 : Hid (Ext wA w1) := Lib.hid (Ext.trans (by rw [← HS1.out] at *; exact (Below.refl _ wA).alloc (Nat.le_refl _) _) hx1)
  clear hx1 S1
  cases hgr : greatD [d]
  case true =>
    clear hgr
    go_wp2_with fail
    refine (AW.out _ X1.out).mono ?_
    rintro e w2 ⟨rfl, hx2⟩
    have X2 := Lib.hid (Ext.trans X1.out hx2)
    clear hx2
    go_wp2_with fail
    go_ret
    exact ⟨rfl, X2.out⟩
  case false =>
    have hdf := GF.out hgr
    have OKD : Hid d.ok := Lib.hid (SM.out.ok (by omega) (by omega))
    have AL := Lib.hid hdf.1
    clear hgr hdf
    have hLO := linesOf_calls l ao cap 1000 w1 (by omega) hl ((HR.out.ext X1.out).mono X1.out.size) HOK.out
    simp only [Int.cast_ofNat_Int] at hLO
    have hfew := linesN_few (most := 1000) l 0
    obtain ⟨N, hN⟩ : ∃ N, linesN 1000 0 l = N := ⟨_, rfl⟩
    rw [hN] at hLO hfew
    have LO := Lib.hid hLO; have LF := Lib.hid hfew
    clear hLO hfew hN
    go_wp2_with fail
    refine LO.out.mono ?_
    rintro e w2 ⟨rfl, hx2⟩
    have X2 := Lib.hid (Ext.trans X1.out hx2); have XA2 := Lib.hid (Ext.trans hxA1.out hx2)
    clear hx2 LO
    by_cases hbig : 1000 < N
    · have g1 : decide ((1000 : Int) < (N : Int)) = true := by simp; omega
      go_wp2_with fail
      refine (AW.out _ X2.out).mono ?_
      rintro e w3 ⟨rfl, hx3⟩
      have X3 := Lib.hid (Ext.trans X2.out hx3)
      clear hx3
      go_wp2_with fail
      go_ret
      exact ⟨rfl, X3.out⟩
    · have g1 : decide ((1000 : Int) < (N : Int)) = false := by simp; omega
      have hll : l.length ≤ 1000 := by have := LF.out (by omega); omega
      clear hbig LF
      have CB := Lib.hid (fun W (hW : Ext wA W) => BA.out.ext' hW)
      go_wp2_with fail
      refine (lentLines_calls l ao cap w2 (by omega) ((HR.out.ext X2.out).mono X2.out.size)).mono ?_
      rintro e w3 ⟨g, cp, rfl, hcp, hmp, hlr, hgn, hx3⟩
      have X3 := Lib.hid (Ext.trans X2.out hx3); have XA3 := Lib.hid (Ext.trans XA2.out hx3)
      have LR := Lib.hid hlr; have HCP := Lib.hid hcp; have HMP := Lib.hid hmp
      have IN : Hid (∀ W, Ext w3 W → Rows 2 encRw W.heap.size W (some ⟨g, 0, none⟩) l) := Lib.hid (fun W hW => by
        have h := ((hlr.ext hW).mono hW.size).take l.length
        rwa [List.take_left' rfl] at h)
      have hb := CB.out w3 XA3.out
      have c0 := hb.cell 0; have c1 := hb.cell 1; have c2 := hb.cell 2; have c3 := hb.cell 3; have c4 := hb.cell 4; have c5 := hb.cell 5
      simp only [List.getElem?_cons_zero, List.getElem?_cons_succ] at c0 c1 c2 c3 c4 c5
      clear hlr hcp hmp hx3 hb hgn g1
      go_wp2_with fail
      refine (DPC.out w3 X3.out _ _ (by omega) (IN.out w3 (Below.refl _ _)) OKD.out).mono ?_
      obtain ⟨P, hP⟩ : ∃ P, doS l d = P := ⟨_, rfl⟩
      have hdf := DF.out OKD.out
      rw [hP] at hdf ⊢
      have hdl : P.1.length ≤ 10000 ∧ P.2.length ≤ 1000000 := by
        have h1 := AL.out
        have h2 := hdf.2.1
        have h3 := hdf.2.2
        omega
      have PO := Lib.hid hdf.1; have PL := Lib.hid hdl; have HP := Lib.hid hP
      clear hdf hdl hP
      rintro e w4 ⟨v4, rv4, rfl, hv4, hrv4, hx4⟩
      obtain ⟨o4, p4, rfl, -, -, -⟩ := Rows.own (enc := encRw) (sz := 2) (fun _ => rfl) hv4
      obtain ⟨q4, s4, rfl, -, -, -⟩ := Rows.own (enc := encRd) (sz := 3) (fun _ => rfl) hrv4
      have V4 := Lib.hid hv4; have R4 := Lib.hid hrv4; have X4 := Lib.hid (Ext.trans X3.out hx4); have XA4 := Lib.hid (Ext.trans XA3.out hx4); have Y4 := Lib.hid hx4
      obtain ⟨hst4, hxs4⟩ := ST.out w4 X4.out
      have S4 := Lib.hid hst4; have E4 := Lib.hid hxs4
      have hb := CB.out w4 XA4.out
      clear hv4 hrv4 hx4 hst4 hxs4 c0 c1 c2 c3 c4 c5
      have c0 := hb.cell 0; have c1 := hb.cell 1; have c2 := hb.cell 2; have c3 := hb.cell 3; have c4 := hb.cell 4; have c5 := hb.cell 5
      simp only [List.getElem?_cons_zero, List.getElem?_cons_succ] at c0 c1 c2 c3 c4 c5
      clear hb
      go_wp2_with fail
      refine (TC.out _ _ S4.out).mono ?_
      rintro e w5 ⟨b5, f5, k5, rfl, hc5, hx5⟩
      have X5 := Lib.hid (Ext.trans X4.out (Ext.trans E4.out hx5)); have XA5 := Lib.hid (Ext.trans XA4.out (Ext.trans E4.out hx5)); have Y5 := Lib.hid (Ext.trans Y4.out (Ext.trans E4.out hx5)); have Z5 := Lib.hid (Ext.trans E4.out hx5)
      have d0 := hc5 0 _ rfl; have d1 := hc5 1 _ rfl; have d2 := hc5 2 _ rfl; have d3 := hc5 3 _ rfl; have d4 := hc5 4 _ rfl; have d5 := hc5 5 _ rfl
      simp only [Nat.add_zero] at d0
      clear hc5 hx5 c0 c1 c2 c3 c4 c5 S4
      go_wp2_with fail
      refine (RDC.out w5 X5.out (by omega) OKD.out).mono ?_
      rw [HP.out]
      rintro e w6 ⟨v6, rv6, rfl, hv6, hrv6, hx6⟩
      obtain ⟨o6, p6, rfl, -, -, hr6⟩ := Rows.own (enc := encRw) (sz := 2) (fun _ => rfl) hv6
      obtain ⟨q6, s6, rfl, -, -, ht6⟩ := Rows.own (enc := encRd) (sz := 3) (fun _ => rfl) hrv6
      have X6 := Lib.hid (Ext.trans X5.out hx6); have XA6 := Lib.hid (Ext.trans XA5.out hx6); have Y6 := Lib.hid (Ext.trans Y5.out hx6); have Z6 := Lib.hid (Ext.trans Z5.out hx6)
      have R6 := Lib.hid hr6; have T6 := Lib.hid ht6
      have hb := CB.out w6 XA6.out
      clear hv6 hrv6 hx6 hr6 ht6 d0 d1 d2 d3 d4 d5
      have c0 := hb.cell 0; have c1 := hb.cell 1; have c2 := hb.cell 2; have c3 := hb.cell 3; have c4 := hb.cell 4; have c5 := hb.cell 5
      simp only [List.getElem?_cons_zero, List.getElem?_cons_succ] at c0 c1 c2 c3 c4 c5
      clear hb
      go_wp2_with fail
      refine (DPC.out w6 X6.out _ _ (by omega) (IN.out w6 Y6.out) OKD.out).mono ?_
      rw [HP.out]
      rintro e w7 ⟨v7, rv7, rfl, hv7, -, hx7⟩
      obtain ⟨o7, p7, rfl, -, -, -⟩ := Rows.own (enc := encRw) (sz := 2) (fun _ => rfl) hv7
      have V7 := Lib.hid hv7; have X7 := Lib.hid (Ext.trans X6.out hx7); have Y7 := Lib.hid (Ext.trans Y6.out hx7); have Z7 := Lib.hid (Ext.trans Z6.out hx7); have U7 := Lib.hid hx7
      clear hv7 hx7 c0 c1 c2 c3 c4 c5
      go_wp2_with fail
      have hSL := sameLines_calls P.1 P.1 o4 o6 p4 p6 w7 (by have := PL.out.1; omega) (rows_of_own (fun _ => rfl) (own_ext V4.out Z7.out)) ((R6.out.ext U7.out).mono U7.out.size)
      rw [decide_eq_true rfl] at hSL
      refine hSL.mono ?_
      rintro e w8 ⟨rfl, hx8⟩
      have X8 := Lib.hid (Ext.trans X7.out hx8); have Y8 := Lib.hid (Ext.trans Y7.out hx8); have Z8 := Lib.hid (Ext.trans Z7.out hx8); have U8 := Lib.hid (Ext.trans U7.out hx8); have Q8 := Lib.hid hx8
      clear hx8 hSL
      go_wp2_with fail
      have hSR := sameReads_calls P.2 P.2 q4 q6 s4 s6 w8 PL.out.2 (rows_of_own (fun _ => rfl) (own_ext R4.out Z8.out)) ((T6.out.ext U8.out).mono U8.out.size)
      rw [decide_eq_true rfl] at hSR
      refine hSR.mono ?_
      rintro e w9 ⟨rfl, hx9⟩
      have X9 := Lib.hid (Ext.trans X8.out hx9); have Y9 := Lib.hid (Ext.trans Y8.out hx9); have Z9 := Lib.hid (Ext.trans Z8.out hx9); have Q9 := Lib.hid (Ext.trans Q8.out hx9)
      clear hx9 hSR
      go_wp2_with fail
      refine (keptLines_calls l g cp ao cap w9 (by omega) HCP.out HMP.out ((LR.out.ext Y9.out).mono Y9.out.size) ((HR.out.ext X9.out).mono X9.out.size)).mono ?_
      rintro e w10 ⟨rfl, hx10⟩
      have X10 := Lib.hid (Ext.trans X9.out hx10); have Y10 := Lib.hid (Ext.trans Y9.out hx10); have Z10 := Lib.hid (Ext.trans Z9.out hx10); have Q10 := Lib.hid (Ext.trans Q9.out hx10)
      clear hx10
      obtain ⟨vs, hvs⟩ : ∃ vs : List SlV, vs = [⟨o4, P.1.length, p4⟩, ⟨o7, P.1.length, p7⟩] := ⟨_, rfl⟩
      obtain ⟨wE, hwE⟩ : ∃ wE, wE = w10.alloc (.cells #[.slice o4 P.1.length p4, .slice o7 P.1.length p7] 32) := ⟨_, rfl⟩
      have hxE : Ext w10 wE := by rw [hwE]; exact (Below.refl _ w10).alloc (Nat.le_refl _) _
      have v4E := own_ext V4.out (Ext.trans Z10.out hxE)
      have v7E := own_ext V7.out (Ext.trans Q10.out hxE)
      have hat : ∀ (j : Nat) (v : SlV), vs[j]? = some v → (j = 0 ∧ v = ⟨o4, P.1.length, p4⟩) ∨ (j = 1 ∧ v = ⟨o7, P.1.length, p7⟩) := fun j v hv => by
        rw [hvs] at hv
        match j, hv with
        | 0, hv => exact .inl ⟨rfl, (Option.some.inj hv).symm⟩
        | 1, hv => exact .inr ⟨rfl, (Option.some.inj hv).symm⟩
      have hl4 : ∀ b, (Value.slice o4 P.1.length p4).ownBlock = some b → w3.heap.size ≤ b ∧ b < w4.heap.size := fun b hb => V4.out.lt b hb
      have hl7 : ∀ b, (Value.slice o7 P.1.length p7).ownBlock = some b → w6.heap.size ≤ b ∧ b < w7.heap.size := fun b hb => V7.out.lt b hb
      have hs46 := Z6.out.size
      have hs36 := Y6.out.size
      have hs47 := Z10.out.size
      have hs77 := Q10.out.size
      have hob : ∀ b, OwnB vs b → w3.heap.size ≤ b ∧ b < w10.heap.size := fun b hb => by
        obtain ⟨j, v, hv, hb⟩ := hb
        rcases hat j v hv with ⟨_, rfl⟩ | ⟨_, rfl⟩
        · have := hl4 b hb; omega
        · have := hl7 b hb; omega
      have hlists : ListsAt wE vs (fun _ => P.1) := fun j v hv => by
        rcases hat j v hv with ⟨_, rfl⟩ | ⟨_, rfl⟩
        · exact ⟨rfl, own_base v4E (fun _ _ => Nat.zero_le _)⟩
        · exact ⟨rfl, own_base v7E (fun _ _ => Nat.zero_le _)⟩
      have hap : Apart1 vs := fun i j u v hij hu hv b hb hb2 => by
        rcases hat i u hu with ⟨hi, rfl⟩ | ⟨hi, rfl⟩ <;> rcases hat j v hv with ⟨hj, rfl⟩ | ⟨hj, rfl⟩
        · omega
        · have := hl4 b hb; have := hl7 b hb2; omega
        · have := hl7 b hb; have := hl4 b hb2; omega
        · omega
      have hrow : NRows 1 encSl (OwnB vs) wE (some ⟨w10.heap.size, 0, none⟩) vs := nrows_atD (rows_blk (enc := encSl) (sz := 1) (fun _ => rfl) (t := 32) (by rw [hwE, hvs]; exact Blk.new w10 _ _) (by rw [hvs]; simp)) (fun ho => by have := hob _ ho; omega)
      have AC := Lib.hid (apartLines_calls vs (some ⟨w10.heap.size, 0, none⟩) 2 wE (fun _ => P.1) (by rw [hvs]; simp) (fun j v hv => by
        have := PL.out.1
        rcases hat j v hv with ⟨_, rfl⟩ | ⟨_, rfl⟩ <;> (simp only; omega)) hrow hlists hap)
      have hvl : vs.length = 2 := by rw [hvs]; rfl
      rw [hvl] at AC
      have WE := Lib.hid hwE; have XE := Lib.hid hxE; have OB := Lib.hid hob
      clear hvs hwE hxE v4E v7E hat hl4 hl7 hs46 hs36 hs47 hs77 hob hlists hap hrow hvl
      go_wp2_with fail
      rw [← WE.out]
      refine AC.out.mono ?_
      rintro e w11 ⟨rfl, hx11⟩
      have hE := Ext.trans Y10.out XE.out
      have LR11 : Hid (Rows 2 encRw w11.heap.size w11 (some ⟨g, 0, none⟩) (l ++ marksLines)) := Lib.hid (((LR.out.ext hE).but hx11 hE.size (fun k hk e => by have := OB.out k e; omega)).mono (Nat.le_trans hE.size hx11.size))
      have B11 := Lib.hid (show Below w.heap.size w w11 from Below.trans (Ext.trans X10.out XE.out) (hx11.below (Ext.trans X10.out XE.out).size (fun i e => by have h1 := OB.out i e; have h2 := X3.out.size; omega)))
      clear hx11 hE
      go_wp2_with fail
      refine (keptLines_calls l g cp ao cap w11 (by omega) HCP.out HMP.out LR11.out ((HR.out.ext B11.out).mono B11.out.size)).mono ?_
      rintro e w12 ⟨rfl, hx12⟩
      have X12 := Lib.hid (Ext.trans B11.out hx12)
      clear hx12
      go_wp2_with fail
      refine (AW.out _ X12.out).mono ?_
      rintro e w13 ⟨rfl, hx13⟩
      have X13 := Lib.hid (Ext.trans X12.out hx13)
      clear hx13
      go_wp2_with fail
      go_ret
      exact ⟨rfl, X13.out⟩
end Go.Proofs.YtngahblgicjoiaaGreatDoor
