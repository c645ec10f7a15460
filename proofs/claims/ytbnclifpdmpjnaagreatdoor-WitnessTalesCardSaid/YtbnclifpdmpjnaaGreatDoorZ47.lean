/- ApartReads: rows that were handed out lie apart. -/
import Derived.Test.YtbnclifpdmpjnaaGreatDoorZ45
import Derived.Test.YtbnclifpdmpjnaaGreatDoorZ43
import Derived.Test.YtbnclifpdmpjnaaGreatDoorZ07
import Derived.Test.YtbnclifpdmpjnaaGreatDoorZ26
namespace Go.Proofs.YtbnclifpdmpjnaaGreatDoor
open Go.RowKit
namespace FlatR
set_option maxRecDepth 100000 in
set_option maxHeartbeats 3200000 in
theorem bagReads_calls (vs : List SlV) (lo : Option Addr) (lcap bb : Nat) (w : World) (c0 : Nat → List Rd) (hN : vs.length ≤ 1000) (hn : ∀ (j : Nat) (v : SlV), vs[j]? = some v → v.n ≤ 1000000) (hb : Blk w bb [.slice none 0 0, .slice none 0 0, .slice none 0 0, .slice none 0 0, .slice none 0 0, .slice none 0 0, .slice none 0 0, .slice none 0 0, .slice none 0 0, .slice none 0 0, .slice none 0 0, .slice none 0 0, .slice lo vs.length lcap, .slice none 0 0, .slice none 0 0, .slice none 0 0, .slice none 0 0, .slice none 0 0, .slice none 0 0, .slice none 0 0, .slice none 0 0, .slice none 0 0] 109) (hnb : ¬ OwnB vs bb) (hrow : NRows 1 encSl (OwnB vs) w lo vs) (hlists : ListsAt w vs c0) (hap : Apart1 vs) :
    Calls Tryz.prog 38 #[.pointer (some ⟨bb, 0, none⟩)] w fun e w' => e = .returned (.bool true) ∧ But (OwnB vs) w w' := by
  have HB := Lib.hid hb
  have FL := Lib.hid (fun W (hW : But (OwnB vs) w W) (hx : Ext w W) => flatReads_calls vs lo lcap W c0 hN hn (hrow.step hW (fun b _ e => .inl e) (fun _ _ e => e)) (hlists.ext hx) hap)
  have NB := Lib.hid hnb
  clear hb hnb hrow hlists hap hn
  go_enter Tryz.func38, Tryz.ntmps38
  have X0 := Lib.hid (Below.refl w.heap.size w)
  have B0 := HB
  have c0 := B0.out.cell 0
  simp only [List.getElem?_cons_zero] at c0
  go_wp2_with fail
  clear c0
  refine (nilLimbs _).mono ?_
  rintro e w1 ⟨rfl, hx⟩
  have X1 := Lib.hid (Ext.trans X0.out hx)
  have B1 := Lib.hid (B0.out.ext' hx)
  clear hx X0
  have c1 := B1.out.cell 1
  simp only [List.getElem?_cons_zero, List.getElem?_cons_succ] at c1
  go_wp2_with fail
  clear c1
  refine (nilWords _).mono ?_
  rintro e w2 ⟨rfl, hx⟩
  have X2 := Lib.hid (Ext.trans X1.out hx)
  have B2 := Lib.hid (B1.out.ext' hx)
  clear hx X1 B1
  have c2 := B2.out.cell 2
  simp only [List.getElem?_cons_zero, List.getElem?_cons_succ] at c2
  go_wp2_with fail
  clear c2
  refine (nilInts _).mono ?_
  rintro e w3 ⟨rfl, hx⟩
  have X3 := Lib.hid (Ext.trans X2.out hx)
  have B3 := Lib.hid (B2.out.ext' hx)
  clear hx X2 B2
  have c3 := B3.out.cell 3
  simp only [List.getElem?_cons_zero, List.getElem?_cons_succ] at c3
  go_wp2_with fail
  clear c3
  refine (nilLongs _).mono ?_
  rintro e w4 ⟨rfl, hx⟩
  have X4 := Lib.hid (Ext.trans X3.out hx)
  have B4 := Lib.hid (B3.out.ext' hx)
  clear hx X3 B3
  have c4 := B4.out.cell 4
  simp only [List.getElem?_cons_zero, List.getElem?_cons_succ] at c4
  go_wp2_with fail
  clear c4
  refine (nilTexts _).mono ?_
  rintro e w5 ⟨rfl, hx⟩
  have X5 := Lib.hid (Ext.trans X4.out hx)
  have B5 := Lib.hid (B4.out.ext' hx)
  clear hx X4 B4
  have c5 := B5.out.cell 5
  simp only [List.getElem?_cons_zero, List.getElem?_cons_succ] at c5
  go_wp2_with fail
  clear c5
  refine (nilBytes _).mono ?_
  rintro e w6 ⟨rfl, hx⟩
  have X6 := Lib.hid (Ext.trans X5.out hx)
  have B6 := Lib.hid (B5.out.ext' hx)
  clear hx X5 B5
  have c6 := B6.out.cell 6
  simp only [List.getElem?_cons_zero, List.getElem?_cons_succ] at c6
  go_wp2_with fail
  clear c6
  refine (nilTruths _).mono ?_
  rintro e w7 ⟨rfl, hx⟩
  have X7 := Lib.hid (Ext.trans X6.out hx)
  have B7 := Lib.hid (B6.out.ext' hx)
  clear hx X6 B6
  have c7 := B7.out.cell 7
  simp only [List.getElem?_cons_zero, List.getElem?_cons_succ] at c7
  go_wp2_with fail
  clear c7
  refine (nilSpans _).mono ?_
  rintro e w8 ⟨rfl, hx⟩
  have X8 := Lib.hid (Ext.trans X7.out hx)
  have B8 := Lib.hid (B7.out.ext' hx)
  clear hx X7 B7
  have c8 := B8.out.cell 8
  simp only [List.getElem?_cons_zero, List.getElem?_cons_succ] at c8
  go_wp2_with fail
  clear c8
  refine (nilShareRows _).mono ?_
  rintro e w9 ⟨rfl, hx⟩
  have X9 := Lib.hid (Ext.trans X8.out hx)
  have B9 := Lib.hid (B8.out.ext' hx)
  clear hx X8 B8
  have c9 := B9.out.cell 9
  simp only [List.getElem?_cons_zero, List.getElem?_cons_succ] at c9
  go_wp2_with fail
  clear c9
  refine (nilSharesRows _).mono ?_
  rintro e w10 ⟨rfl, hx⟩
  have X10 := Lib.hid (Ext.trans X9.out hx)
  have B10 := Lib.hid (B9.out.ext' hx)
  clear hx X9 B9
  have c10 := B10.out.cell 10
  simp only [List.getElem?_cons_zero, List.getElem?_cons_succ] at c10
  go_wp2_with fail
  clear c10
  refine (nilNames _).mono ?_
  rintro e w11 ⟨rfl, hx⟩
  have X11 := Lib.hid (Ext.trans X10.out hx)
  have B11 := Lib.hid (B10.out.ext' hx)
  clear hx X10 B10
  have c11 := B11.out.cell 11
  simp only [List.getElem?_cons_zero, List.getElem?_cons_succ] at c11
  go_wp2_with fail
  clear c11
  refine (nilActs _).mono ?_
  rintro e w12 ⟨rfl, hx⟩
  have X12 := Lib.hid (Ext.trans X11.out hx)
  have B12 := Lib.hid (B11.out.ext' hx)
  clear hx X11 B11
  have c12 := B12.out.cell 12
  simp only [List.getElem?_cons_zero, List.getElem?_cons_succ] at c12
  go_wp2_with fail
  clear c12
  refine (FL.out _ (Ext.but X12.out _) X12.out).mono ?_
  rintro e w13 ⟨rfl, hx⟩
  have K13 := Lib.hid ((Ext.but X12.out (OwnB vs)).trans hx (fun _ _ e => e) (fun _ _ e => e))
  have B13 := Lib.hid (B12.out.but hx NB.out)
  clear hx X12 B12
  have c13 := B13.out.cell 13
  simp only [List.getElem?_cons_zero, List.getElem?_cons_succ] at c13
  go_wp2_with fail
  clear c13
  refine (nilLines _).mono ?_
  rintro e w14 ⟨rfl, hx⟩
  have K14 := Lib.hid (K13.out.trans (Ext.but hx (fun _ => False)) (fun _ _ e => e) (fun _ _ e => e.elim))
  have B14 := Lib.hid (B13.out.ext' hx)
  clear hx K13 B13
  have c14 := B14.out.cell 14
  simp only [List.getElem?_cons_zero, List.getElem?_cons_succ] at c14
  go_wp2_with fail
  clear c14
  refine (nilHolds _).mono ?_
  rintro e w15 ⟨rfl, hx⟩
  have K15 := Lib.hid (K14.out.trans (Ext.but hx (fun _ => False)) (fun _ _ e => e) (fun _ _ e => e.elim))
  have B15 := Lib.hid (B14.out.ext' hx)
  clear hx K14 B14
  have c15 := B15.out.cell 15
  simp only [List.getElem?_cons_zero, List.getElem?_cons_succ] at c15
  go_wp2_with fail
  clear c15
  refine (nilConfigs _).mono ?_
  rintro e w16 ⟨rfl, hx⟩
  have K16 := Lib.hid (K15.out.trans (Ext.but hx (fun _ => False)) (fun _ _ e => e) (fun _ _ e => e.elim))
  have B16 := Lib.hid (B15.out.ext' hx)
  clear hx K15 B15
  have c16 := B16.out.cell 16
  simp only [List.getElem?_cons_zero, List.getElem?_cons_succ] at c16
  go_wp2_with fail
  clear c16
  refine (nilEntries _).mono ?_
  rintro e w17 ⟨rfl, hx⟩
  have K17 := Lib.hid (K16.out.trans (Ext.but hx (fun _ => False)) (fun _ _ e => e) (fun _ _ e => e.elim))
  have B17 := Lib.hid (B16.out.ext' hx)
  clear hx K16 B16
  have c17 := B17.out.cell 17
  simp only [List.getElem?_cons_zero, List.getElem?_cons_succ] at c17
  go_wp2_with fail
  clear c17
  refine (nilBases _).mono ?_
  rintro e w18 ⟨rfl, hx⟩
  have K18 := Lib.hid (K17.out.trans (Ext.but hx (fun _ => False)) (fun _ _ e => e) (fun _ _ e => e.elim))
  have B18 := Lib.hid (B17.out.ext' hx)
  clear hx K17 B17
  have c18 := B18.out.cell 18
  simp only [List.getElem?_cons_zero, List.getElem?_cons_succ] at c18
  go_wp2_with fail
  clear c18
  refine (nilImages _).mono ?_
  rintro e w19 ⟨rfl, hx⟩
  have K19 := Lib.hid (K18.out.trans (Ext.but hx (fun _ => False)) (fun _ _ e => e) (fun _ _ e => e.elim))
  have B19 := Lib.hid (B18.out.ext' hx)
  clear hx K18 B18
  have c19 := B19.out.cell 19
  simp only [List.getElem?_cons_zero, List.getElem?_cons_succ] at c19
  go_wp2_with fail
  clear c19
  refine (nilLetters _).mono ?_
  rintro e w20 ⟨rfl, hx⟩
  have K20 := Lib.hid (K19.out.trans (Ext.but hx (fun _ => False)) (fun _ _ e => e) (fun _ _ e => e.elim))
  have B20 := Lib.hid (B19.out.ext' hx)
  clear hx K19 B19
  have c20 := B20.out.cell 20
  simp only [List.getElem?_cons_zero, List.getElem?_cons_succ] at c20
  go_wp2_with fail
  clear c20
  refine (nilStretches _).mono ?_
  rintro e w21 ⟨rfl, hx⟩
  have K21 := Lib.hid (K20.out.trans (Ext.but hx (fun _ => False)) (fun _ _ e => e) (fun _ _ e => e.elim))
  have B21 := Lib.hid (B20.out.ext' hx)
  clear hx K20 B20
  have c21 := B21.out.cell 21
  simp only [List.getElem?_cons_zero, List.getElem?_cons_succ] at c21
  go_wp2_with fail
  clear c21
  refine (nilPeers _).mono ?_
  rintro e w22 ⟨rfl, hx⟩
  have K22 := Lib.hid (K21.out.trans (Ext.but hx (fun _ => False)) (fun _ _ e => e) (fun _ _ e => e.elim))
  clear hx K21 B21
  go_wp2_with fail
  go_ret
  exact ⟨rfl, K22.out⟩
theorem one_sl : ∀ (x : SlV), ∀ u ∈ encSl x, u.oneCell' = true := by
  intro x u hu
  simp only [encSl, List.mem_cons, List.not_mem_nil, or_false] at hu
  subst hu; rfl
structure BagMid (w : World) (bb : Nat) (vs : List SlV) (k : Nat) (wr : World) : Prop where
  out : ∃ so cap, Blk wr bb [.slice none 0 0, .slice none 0 0, .slice none 0 0, .slice none 0 0, .slice none 0 0, .slice none 0 0, .slice none 0 0, .slice none 0 0, .slice none 0 0, .slice none 0 0, .slice none 0 0, .slice none 0 0, .slice so k cap, .slice none 0 0, .slice none 0 0, .slice none 0 0, .slice none 0 0, .slice none 0 0, .slice none 0 0, .slice none 0 0, .slice none 0 0, .slice none 0 0] 109 ∧ wr.ownsRow w.heap.size 28 1 (.slice so k cap) k ((vs.take k).flatMap encSl) ∧ Ext w wr
set_option maxRecDepth 100000 in
set_option maxHeartbeats 1600000 in
theorem putReads_calls (x : SlV) (bb n cap : Nat) (so : Option Addr) (us : List Value) (w0 w : World) (hn : n ≤ 1000) (hb : Blk w bb [.slice none 0 0, .slice none 0 0, .slice none 0 0, .slice none 0 0, .slice none 0 0, .slice none 0 0, .slice none 0 0, .slice none 0 0, .slice none 0 0, .slice none 0 0, .slice none 0 0, .slice none 0 0, .slice so n cap, .slice none 0 0, .slice none 0 0, .slice none 0 0, .slice none 0 0, .slice none 0 0, .slice none 0 0, .slice none 0 0, .slice none 0 0, .slice none 0 0] 109) (hbb : w0.heap.size ≤ bb) (hown : w.ownsRow w0.heap.size 28 1 (.slice so n cap) n us) (hx0 : Ext w0 w) :
    Calls Tryz.prog 39 #[.pointer (some ⟨bb, 0, none⟩), .slice x.ao x.n x.cap] w fun e w' => e = .returned (.tuple #[]) ∧ ∃ so' cap', Blk w' bb [.slice none 0 0, .slice none 0 0, .slice none 0 0, .slice none 0 0, .slice none 0 0, .slice none 0 0, .slice none 0 0, .slice none 0 0, .slice none 0 0, .slice none 0 0, .slice none 0 0, .slice none 0 0, .slice so' (n + 1) cap', .slice none 0 0, .slice none 0 0, .slice none 0 0, .slice none 0 0, .slice none 0 0, .slice none 0 0, .slice none 0 0, .slice none 0 0, .slice none 0 0] 109 ∧ w'.ownsRow w0.heap.size 28 1 (.slice so' (n + 1) cap') (n + 1) (us ++ encSl x) ∧ Ext w0 w' := by
  obtain ⟨i0, hi, hz0, hz1, hz2⟩ := info_parts infoReads
  have HB := Lib.hid hb; have HO := Lib.hid hown; have HX := Lib.hid hx0
  have cI := hb.cell 12
  simp only [List.getElem?_cons_zero, List.getElem?_cons_succ] at cI
  have EN : Hid (Ext w (w.alloc (.cells #[.slice x.ao x.n x.cap] 28))) := Lib.hid ((Below.refl _ w).alloc (Nat.le_refl _) _)
  have CN := Lib.hid (cells_new w [.slice x.ao x.n x.cap] 28)
  clear hb hown hx0
  go_enter Tryz.func39, Tryz.ntmps39
  go_wp2_with (at_builtin; refine wpList_append_at _ rfl (.tmp 8) (.tmp 10) 49 rfl 28 i0 _ 1 24 Tryz.underlying49 hi hz0 hz1 hz2 rfl (by decide) (.slice so n cap) n us rfl (own_ext (own_base HO.out (fun _ _ => Nat.zero_le _)) EN.out) ⟨w.heap.size, 0, none⟩ 1 1 (encSl x) rfl rfl CN.out (one_sl _) (by decide) (by unfold maxLen; omega) (by omega) ?_; intro g cap5 w5 h1 h2 h3; have Y1 := Lib.hid h1; have Y2 := Lib.hid h2; have Y3 := Lib.hid h3; have hb5 := (HB.out.ext' EN.out).but h2 (fun e => own_ne (own_ext HO.out EN.out) (HB.out.ext' EN.out) (by decide) e); have B5 := Lib.hid hb5; have c5 := hb5.cell 12; have f5 := hb5.free 12; simp only [List.getElem?_cons_zero, List.getElem?_cons_succ] at c5; clear h1 h2 h3 hb5)
  go_end0
  have hge : ∀ j, (Value.slice (some ⟨g, 0, none⟩) (n + 1) cap5).ownBlock = some j → w0.heap.size ≤ j := fun j hj => by
    rcases Y3.out j hj with e | e
    · exact own_ge HO.out j e
    · have := HX.out.size; have := EN.out.size; omega
  have hx5 : Ext w0 w5 := Below.trans HX.out (((Ext.but EN.out (fun _ => False)).trans Y2.out (U := fun j => w0.heap.size ≤ j) (fun _ _ e => e.elim) (fun i _ e => own_ge HO.out i e)).below HX.out.size (fun _ h => h))
  refine ⟨rfl, _, cap5, B5.out.set 12 _, ?_, hx5.setCell (p := ⟨bb, 12, none⟩) hbb _⟩
  exact own_setOther (a := ⟨bb, 12, none⟩) (own_base Y1.out hge) (own_ne Y1.out B5.out (by decide)) _
set_option maxRecDepth 100000 in
set_option maxHeartbeats 1600000 in
theorem apartReads_calls (vs : List SlV) (lo : Option Addr) (lcap : Nat) (w : World) (c0 : Nat → List Rd) (hN : vs.length ≤ 1000) (hn : ∀ (j : Nat) (v : SlV), vs[j]? = some v → v.n ≤ 1000000) (hrow : NRows 1 encSl (OwnB vs) w lo vs) (hlists : ListsAt w vs c0) (hap : Apart1 vs) :
    Calls Tryz.prog 11 #[.slice lo vs.length lcap] w fun e w' => e = .returned (.bool true) ∧ But (OwnB vs) w w' := by
  have HR := Lib.hid hrow; have HL := Lib.hid hlists; have HA := Lib.hid hap; have HN := Lib.hid hn
  obtain ⟨bb, hbb⟩ : ∃ bb, bb = w.heap.size := ⟨_, rfl⟩
  obtain ⟨wA, hwA⟩ : ∃ wA, wA = w.alloc (.cells #[.slice none 0 0, .slice none 0 0, .slice none 0 0, .slice none 0 0, .slice none 0 0, .slice none 0 0, .slice none 0 0, .slice none 0 0, .slice none 0 0, .slice none 0 0, .slice none 0 0, .slice none 0 0, .slice none 0 0, .slice none 0 0, .slice none 0 0, .slice none 0 0, .slice none 0 0, .slice none 0 0, .slice none 0 0, .slice none 0 0, .slice none 0 0, .slice none 0 0] 109) := ⟨_, rfl⟩
  have BA : Hid (Blk wA bb [.slice none 0 0, .slice none 0 0, .slice none 0 0, .slice none 0 0, .slice none 0 0, .slice none 0 0, .slice none 0 0, .slice none 0 0, .slice none 0 0, .slice none 0 0, .slice none 0 0, .slice none 0 0, .slice none 0 0, .slice none 0 0, .slice none 0 0, .slice none 0 0, .slice none 0 0, .slice none 0 0, .slice none 0 0, .slice none 0 0, .slice none 0 0, .slice none 0 0] 109) := Lib.hid (by rw [hwA, hbb]; exact Blk.new w _ _)
  have XA : Hid (Ext w wA) := Lib.hid (by rw [hwA]; exact (Below.refl _ w).alloc (Nat.le_refl _) _)
  have WA := Lib.hid hwA; have HBB := Lib.hid hbb
  clear hrow hlists hap hn hwA hbb
  go_enter Tryz.func11, Tryz.ntmps11
  go_wp2_with fail
  rw [← WA.out, ← HBB.out]
  go_loopw [4] (fun i wr => ∃ k : Nat, k ≤ vs.length ∧ i = .int .i64 k ∧ BagMid w bb vs k wr) (fun i _ => vs.length - (intOf i).toNat)
  case atStart => exact ⟨0, by omega, rfl, none, 0, BA.out, World.ownsRow_nil _ _ _ _, XA.out⟩
  case round =>
    obtain ⟨k, hk, rfl, hmid⟩ := hrel
    obtain ⟨so, cap, hb, hown, hx⟩ := hmid.out
    have B1 := Lib.hid hb; have O1 := Lib.hid hown; have X1 := Lib.hid hx
    clear hmid hb hown hx
    by_cases hlt : k < vs.length
    · obtain ⟨v, hv⟩ : ∃ v, vs[k]? = some v := ⟨_, List.getElem?_eq_getElem hlt⟩
      obtain ⟨b, off, rfl, -, -, hcell⟩ := outer_cell (HR.out.step (Ext.but X1.out (fun _ => False)) (no' := OwnB vs) (fun _ _ e => e.elim) (fun _ _ e => e)) hv
      have PC := Lib.hid (putReads_calls v bb k cap so _ w wr (by omega) B1.out (by rw [HBB.out]; exact Nat.le_refl _) O1.out X1.out)
      have TK : Hid ((vs.take (k + 1)).flatMap encSl = (vs.take k).flatMap encSl ++ encSl v) := Lib.hid (by rw [List.take_add_one, hv, Option.toList_some, List.flatMap_append]; simp)
      have i0 : (0 : Int) ≤ (k : Int) := by omega
      have i1 : (k : Int) < (vs.length : Int) := by omega
      clear hv
      go_wp2_with fail
      refine PC.out.mono ?_
      rintro e w2 ⟨rfl, so2, cap2, hb2, ho2, hx2⟩
      have B2 := Lib.hid hb2; have O2 := Lib.hid ho2; have X2 := Lib.hid hx2
      clear hb2 ho2 hx2 hcell
      go_wp2_with fail
      go_roundw
      case rel => exact ⟨k + 1, by omega, by go_num, so2, cap2, B2.out, by rw [TK.out]; exact O2.out, X2.out⟩
      case measure => simp [intOf]; omega
    · obtain rfl : k = vs.length := by omega
      have hall : vs.take vs.length = vs := List.take_of_length_le (Nat.le_refl _)
      rw [hall] at O1
      have hrow2 : NRows 1 encSl (OwnB vs) wr so vs := by
        intro hne
        obtain ⟨g, off, e, hg, hc⟩ := rows_of_own (enc := encSl) (sz := 1) (fun _ => rfl) O1.out hne
        subst e
        exact ⟨g, off, rfl, hg, fun ho => by
          have h1 := HL.out.lt ho
          have h2 := own_ge O1.out g rfl
          omega, hc⟩
      have BC := Lib.hid (bagReads_calls vs so cap bb wr c0 hN HN.out B1.out (fun ho => by have h1 := HL.out.lt ho; have h2 := HBB.out; omega) hrow2 (HL.out.ext X1.out) HA.out)
      clear hall hrow2
      go_wp2_with fail
      refine BC.out.mono ?_
      rintro e w2 ⟨rfl, hx2⟩
      have X2 := Lib.hid ((Ext.but X1.out (OwnB vs)).trans hx2 (fun _ _ e => e) (fun _ _ e => e))
      clear hx2
      go_wp2_with fail
      go_ret
      exact ⟨rfl, X2.out⟩
end FlatR
end Go.Proofs.YtbnclifpdmpjnaaGreatDoor
/- Rows of tales, opened: from the data that a row reads to the cells that a walk reads. -/
namespace Go.Proofs.YtbnclifpdmpjnaaGreatDoor
open Go.ChangeShapes Go.WideShapes Go.ChangeAt Go.RowKit Go.Deep Go.Joins
section
variable {H : Type} {P : Program} {enc : TypeId × Value → H} {w : World} {base : Nat} {spare : Nat → Bool} {held : Bool}
theorem trod_struct12 {t : TypeId} {f0 f1 f2 f3 f4 f5 f6 f7 f8 f9 f10 f11 : Field} {fuel : Nat} {cs : List Value} {x : DataW H × List MemPlace} (ht : P.underlying t = some (.struct #[f0, f1, f2, f3, f4, f5, f6, f7, f8, f9, f10, f11])) (h : DataW.trod enc P w base spare held fuel t cs = some x) :
    ∃ y0 y1 y2 y3 y4 y5 y6 y7 y8 y9 y10 y11 n, x.1 = .agg [y0.1, y1.1, y2.1, y3.1, y4.1, y5.1, y6.1, y7.1, y8.1, y9.1, y10.1, y11.1] ∧ DataW.trod enc P w base spare held n f0.type ((cs.drop f0.offset).take (P.cellsOf f0.type)) = some y0 ∧ DataW.trod enc P w base spare held n f1.type ((cs.drop f1.offset).take (P.cellsOf f1.type)) = some y1 ∧ DataW.trod enc P w base spare held n f2.type ((cs.drop f2.offset).take (P.cellsOf f2.type)) = some y2 ∧ DataW.trod enc P w base spare held n f3.type ((cs.drop f3.offset).take (P.cellsOf f3.type)) = some y3 ∧ DataW.trod enc P w base spare held n f4.type ((cs.drop f4.offset).take (P.cellsOf f4.type)) = some y4 ∧ DataW.trod enc P w base spare held n f5.type ((cs.drop f5.offset).take (P.cellsOf f5.type)) = some y5 ∧ DataW.trod enc P w base spare held n f6.type ((cs.drop f6.offset).take (P.cellsOf f6.type)) = some y6 ∧ DataW.trod enc P w base spare held n f7.type ((cs.drop f7.offset).take (P.cellsOf f7.type)) = some y7 ∧ DataW.trod enc P w base spare held n f8.type ((cs.drop f8.offset).take (P.cellsOf f8.type)) = some y8 ∧ DataW.trod enc P w base spare held n f9.type ((cs.drop f9.offset).take (P.cellsOf f9.type)) = some y9 ∧ DataW.trod enc P w base spare held n f10.type ((cs.drop f10.offset).take (P.cellsOf f10.type)) = some y10 ∧ DataW.trod enc P w base spare held n f11.type ((cs.drop f11.offset).take (P.cellsOf f11.type)) = some y11 := by
  obtain ⟨xs, n, _, rfl, hl, hlen, hf⟩ := DataW.trod_struct ht h
  match xs, hlen with
  | [y0, y1, y2, y3, y4, y5, y6, y7, y8, y9, y10, y11], _ => exact ⟨y0, y1, y2, y3, y4, y5, y6, y7, y8, y9, y10, y11, n, by simp, by simpa using hf 0 f0 rfl, by simpa using hf 1 f1 rfl, by simpa using hf 2 f2 rfl, by simpa using hf 3 f3 rfl, by simpa using hf 4 f4 rfl, by simpa using hf 5 f5 rfl, by simpa using hf 6 f6 rfl, by simpa using hf 7 f7 rfl, by simpa using hf 8 f8 rfl, by simpa using hf 9 f9 rfl, by simpa using hf 10 f10 rfl, by simpa using hf 11 f11 rfl⟩
theorem trod_struct4T {t : TypeId} {f0 f1 f2 f3 : Field} {fuel : Nat} {cs : List Value} {x : DataW H × List MemPlace} (ht : P.underlying t = some (.struct #[f0, f1, f2, f3])) (h : DataW.trod enc P w base spare held fuel t cs = some x) :
    ∃ y0 y1 y2 y3 n, x.1 = .agg [y0.1, y1.1, y2.1, y3.1] ∧ DataW.trod enc P w base spare held n f0.type ((cs.drop f0.offset).take (P.cellsOf f0.type)) = some y0 ∧ DataW.trod enc P w base spare held n f1.type ((cs.drop f1.offset).take (P.cellsOf f1.type)) = some y1 ∧ DataW.trod enc P w base spare held n f2.type ((cs.drop f2.offset).take (P.cellsOf f2.type)) = some y2 ∧ DataW.trod enc P w base spare held n f3.type ((cs.drop f3.offset).take (P.cellsOf f3.type)) = some y3 := by
  obtain ⟨xs, n, _, rfl, hl, hlen, hf⟩ := DataW.trod_struct ht h
  match xs, hlen with
  | [y0, y1, y2, y3], _ => exact ⟨y0, y1, y2, y3, n, by simp, by simpa using hf 0 f0 rfl, by simpa using hf 1 f1 rfl, by simpa using hf 2 f2 rfl, by simpa using hf 3 f3 rfl⟩
theorem slice_shape {t e : TypeId} {fuel : Nat} {cs : List Value} {x : DataW H × List MemPlace} (ht : P.underlying t = some (.slice e)) (h : DataW.trod enc P w base spare held fuel t cs = some x) : ∃ o n c, cs = [.slice o n c] := by
  rcases DataW.trod_slice ht h with ⟨e, _⟩ | ⟨a, n, c, _, _, _, _, e, _⟩
  · exact ⟨none, 0, 0, e⟩
  · exact ⟨some a, n, c, e⟩
theorem slice_weight {t e : TypeId} {fuel : Nat} {cs : List Value} {x : DataW H × List MemPlace} {o : Option Addr} {n c : Nat} (ht : P.underlying t = some (.slice e)) (h : DataW.trod enc P w base spare held fuel t cs = some x) (hcs : cs = [.slice o n c]) (hb : 1 ≤ P.bytesOf e) : n = 0 ∨ ∃ k ∈ x.1.weights P t, n ≤ k := by
  rcases DataW.trod_slice ht h with ⟨e1, _⟩ | ⟨a, len, cap, elems, rest, m, _, e1, hx, _, _, _, hl, _⟩
  · rw [hcs] at e1
    simp only [List.cons.injEq, Value.slice.injEq, and_true] at e1
    exact .inl e1.2.1
  · rw [hcs] at e1
    simp only [List.cons.injEq, Value.slice.injEq, and_true] at e1
    refine .inr ⟨((elems.map (·.1)).length + (rest.map (·.1)).length) * P.bytesOf e, ?_, ?_⟩
    · rw [hx]; simp [DataW.weights, ht]
    · rw [List.length_map, e1.2.1, ← hl]
      calc elems.length = elems.length * 1 := by omega
        _ ≤ (elems.length + (rest.map (·.1)).length) * P.bytesOf e := Nat.mul_le_mul (by omega) hb
end
structure TGood (W : World) (z : TaleZ) (ws : List Nat) : Prop where
  here : z.at W.heap.size W
  acts : ∀ a ∈ z.d.acts, a.fits ws
  reads : ∀ r ∈ z.d.reads, r.fits ws
  cl : i64B z.d.cl
  nm : i64B z.d.nm
  ix : i64B z.d.index
  kd : 0 ≤ z.d.kind ∧ z.d.kind ≤ 255
  al : z.d.acts.length = 0 ∨ ∃ k ∈ ws, z.d.acts.length ≤ k
  rl : z.d.reads.length = 0 ∨ ∃ k ∈ ws, z.d.reads.length ≤ k
structure TaleD.small (d : TaleD) : Prop where
  acts : ∀ a ∈ d.acts, a.ok
  reads : ∀ r ∈ d.reads, r.key.size ≤ 140737488351232 ∧ r.value.size ≤ 140737488351232
  cl : i64B d.cl
  nm : i64B d.nm
  ix : i64B d.index
  kd : 0 ≤ d.kind ∧ d.kind ≤ 255
  al : d.acts.length ≤ 140737488351232
  rl : d.reads.length ≤ 140737488351232
theorem TGood.small {W : World} {z : TaleZ} {ws : List Nat} (h : TGood W z ws) (hw : ws.all (· ≤ reachBytes) = true) : z.d.small := by
  have hb : ∀ k ∈ ws, k ≤ 140737488351232 := fun k hk => of_decide_eq_true (List.all_eq_true.1 hw k hk)
  exact ⟨fun a ha => (h.acts a ha).ok hw, fun r hr => ⟨hb _ (h.reads r hr).1, hb _ (h.reads r hr).2⟩, h.cl, h.nm, h.ix, h.kd, h.al.elim (fun e => by omega) (fun ⟨k, hk, hl⟩ => Nat.le_trans hl (hb k hk)), h.rl.elim (fun e => by omega) (fun ⟨k, hk, hl⟩ => Nat.le_trans hl (hb k hk))⟩
theorem TaleD.small.ok {d : TaleD} (h : d.small) (ha : d.acts.length ≤ 1000) (hr : d.reads.length ≤ 1000) : d.ok := ⟨h.acts, ha, hr, h.cl, h.nm, h.ix, h.kd⟩
set_option maxRecDepth 10000 in
theorem open_tale {H : Type} {enc : TypeId × Value → H} {W : World} {sp : Nat → Bool} {held : Bool} {n : Nat} {cs' : List Value} {y : DataW H × List MemPlace} (hlen : cs'.length = 18) (h2 : DataW.trod enc Tryz.prog W 0 sp held n 39 cs' = some y) :
    ∃ z : TaleZ, encTale z = cs' ∧ TGood W z (y.1.weights Tryz.prog 39) := by
  have c0 : Tryz.prog.cellsOf 24 = 1 := by kernel_rfl
  have c2 : Tryz.prog.cellsOf 26 = 2 := by kernel_rfl
  have c3 : Tryz.prog.cellsOf 27 = 1 := by kernel_rfl
  have c4 : Tryz.prog.cellsOf 28 = 1 := by kernel_rfl
  have c5 : Tryz.prog.cellsOf 3 = 1 := by kernel_rfl
  have c6 : Tryz.prog.cellsOf 4 = 1 := by kernel_rfl
  have c7 : Tryz.prog.cellsOf 33 = 5 := by kernel_rfl
  have c8 : Tryz.prog.cellsOf 36 = 2 := by kernel_rfl
  have c9 : Tryz.prog.cellsOf 37 = 1 := by kernel_rfl
  have ca : Tryz.prog.cellsOf 30 = 2 := by kernel_rfl
  have cb : Tryz.prog.cellsOf 31 = 1 := by kernel_rfl
  have cc : Tryz.prog.cellsOf 34 = 1 := by kernel_rfl
  have cd : Tryz.prog.cellsOf 9 = 1 := by kernel_rfl
  obtain ⟨y0, y1, y2, y3, y4, y5, y6, y7, y8, y9, y10, y11, k, hxy, g0, g1, g2, g3, g4, g5, g6, g7, g8, g9, g10, g11⟩ := trod_struct12 Tryz.underlying39 h2
  match cs', hlen with
  | [v0, v1, v2, v3, v4, v5, v6, v7, v8, v9, v10, v11, v12, v13, v14, v15, v16, v17], _ =>
    simp [c0, c2, c3, c4, c5, c6, c7, c8, c9] at g0 g1 g2 g3 g4 g5 g6 g7 g8 g9 g10 g11
    obtain ⟨kd, e0, hz0, w0⟩ := DataW.trod_int Tryz.underlying24 g0
    obtain ⟨node, e1, hz1, w1⟩ := DataW.trod_int Tryz.underlying3 g1
    obtain ⟨group, e2, hz2, w2⟩ := DataW.trod_int Tryz.underlying3 g2
    obtain ⟨term, e3, hz3, w3⟩ := DataW.trod_int Tryz.underlying3 g3
    obtain ⟨index, e4, hz4, w4⟩ := DataW.trod_int Tryz.underlying3 g4
    obtain ⟨z0, z1, k2, hz, _, m0, m1⟩ := trod_struct2 Tryz.underlying26 g5
    simp [c5] at m0 m1
    obtain ⟨cl, e5, hy0, w5⟩ := DataW.trod_int Tryz.underlying3 m0
    obtain ⟨nm, e6, hy1, w6⟩ := DataW.trod_int Tryz.underlying3 m1
    obtain ⟨xo, xc, acts, e7, a1, a2, ha, hfa⟩ := open_acts g6
    obtain ⟨cm, e8, hy8⟩ := DataW.trod_bool Tryz.underlying4 g7
    obtain ⟨yo, yc, reads, e9, b1, b2, hb, hfb⟩ := open_reads g8
    obtain ⟨s0, s1, s2, s3, k3, hs, n0, n1, n2, n3⟩ := trod_struct4T Tryz.underlying33 g9
    simp [ca, cb, c5] at n0 n1 n2 n3
    obtain ⟨q0, q1, k4, hq, _, o0, o1⟩ := trod_struct2 Tryz.underlying30 n0
    simp [cd] at o0 o1
    obtain ⟨lo, e10, hy10, _⟩ := DataW.trod_string Tryz.underlying9 o0
    obtain ⟨hi, e11, hy11, _⟩ := DataW.trod_string Tryz.underlying9 o1
    obtain ⟨ep, e12, hy12, w12⟩ := DataW.trod_int Tryz.underlying3 n1
    obtain ⟨st, e13, hy13, w13⟩ := DataW.trod_int Tryz.underlying31 n2
    obtain ⟨sc, e14, hy14, w14⟩ := DataW.trod_int Tryz.underlying3 n3
    obtain ⟨r0, r1, k5, hr, _, p0, p1⟩ := trod_struct2 Tryz.underlying36 g10
    simp [c5, cc] at p0 p1
    obtain ⟨se, e15, hy15, w15⟩ := DataW.trod_int Tryz.underlying3 p0
    obtain ⟨so, sn, sp', e16⟩ := slice_shape Tryz.underlying34 p1
    obtain ⟨co, cn, cp, e17⟩ := slice_shape Tryz.underlying37 g11
    simp only [List.cons.injEq, and_true] at e0 e1 e2 e3 e4 e5 e6 e7 e8 e9 e10 e11 e12 e13 e14 e15 e16 e17
    subst e0 e1 e2 e3 e4 e5 e6 e7 e8 e9 e10 e11 e12 e13 e14 e15 e16 e17
    have hwt : y.1.weights Tryz.prog 39 = DataW.weightsEach Tryz.prog [24, 3, 3, 3, 3, 26, 27, 4, 28, 33, 36, 37] [y0.1, y1.1, y2.1, y3.1, y4.1, y5.1, y6.1, y7.1, y8.1, y9.1, y10.1, y11.1] := by
      rw [hxy]; simp only [DataW.weights, Tryz.underlying39]; rfl
    have hup : ∀ (j : Nat) (t : TypeId) (d : DataW H), ([24, 3, 3, 3, 3, 26, 27, 4, 28, 33, 36, 37] : List TypeId)[j]? = some t → [y0.1, y1.1, y2.1, y3.1, y4.1, y5.1, y6.1, y7.1, y8.1, y9.1, y10.1, y11.1][j]? = some d → ∀ z ∈ d.weights Tryz.prog t, z ∈ y.1.weights Tryz.prog 39 := fun j t d ht hd z hz => by
      rw [hwt]; exact DataW.weights_mem_each ht hd z hz
    have wi : ∀ {n : Int}, (Lit.int .i64 n).wf = true → i64B n := fun {n} w => by
      unfold i64B
      simpa [Lit.wf, IntKind.min, IntKind.max, IntKind.signed, IntKind.bits] using w
    refine ⟨⟨⟨kd, index, cl, nm, acts, cm, reads⟩, node, group, term, xo, xc, yo, yc, lo, hi, ep, st, sc, se, so, sn, sp', co, cn, cp⟩, rfl, ⟨ha, hb⟩, ?_, ?_, wi w5, wi w6, wi w4, ?_, ?_, ?_⟩
    · intro a ha'
      obtain ⟨f1, f2, f3, f4⟩ := hfa a ha'
      exact ⟨f1, f2, hup 6 _ _ rfl rfl _ f3, hup 6 _ _ rfl rfl _ f4⟩
    · intro r hr'
      obtain ⟨f1, f2⟩ := hfb r hr'
      exact ⟨hup 8 _ _ rfl rfl _ f1, hup 8 _ _ rfl rfl _ f2⟩
    · simpa [Lit.wf, IntKind.min, IntKind.max, IntKind.signed, IntKind.bits] using w0
    · rcases slice_weight Tryz.underlying27 g6 rfl (by rw [show Tryz.prog.bytesOf 114 = 48 from by kernel_rfl]; decide) with h | ⟨k, hk, hl⟩
      · exact .inl h
      · exact .inr ⟨k, hup 6 _ _ rfl rfl _ hk, hl⟩
    · rcases slice_weight Tryz.underlying28 g8 rfl (by rw [show Tryz.prog.bytesOf 117 = 40 from by kernel_rfl]; decide) with h | ⟨k, hk, hl⟩
      · exact .inl h
      · exact .inr ⟨k, hup 8 _ _ rfl rfl _ hk, hl⟩
theorem TGood.mono {W : World} {q : TaleZ} {ws ws' : List Nat} (hw : ∀ z ∈ ws, z ∈ ws') (hq : TGood W q ws) : TGood W q ws' :=
  ⟨hq.here, fun a ha => ⟨(hq.acts a ha).1, (hq.acts a ha).2.1, hw _ (hq.acts a ha).2.2.1, hw _ (hq.acts a ha).2.2.2⟩, fun r hr => ⟨hw _ (hq.reads r hr).1, hw _ (hq.reads r hr).2⟩, hq.cl, hq.nm, hq.ix, hq.kd, hq.al.imp id (fun ⟨k, hk, hl⟩ => ⟨k, hw _ hk, hl⟩), hq.rl.imp id (fun ⟨k, hk, hl⟩ => ⟨k, hw _ hk, hl⟩)⟩
theorem open_tales {H : Type} {enc : TypeId × Value → H} {W : World} {sp : Nat → Bool} {held : Bool} {fuel : Nat} {cs : List Value} {x : DataW H × List MemPlace} (h : DataW.trod enc Tryz.prog W 0 sp held fuel 22 cs = some x) :
    ∃ (ao : Option Addr) (cap : Nat) (l : List TaleZ), cs = [.slice ao l.length cap] ∧ l.length ≤ cap ∧ cap ≤ maxLen ∧ Rows 18 encTale W.heap.size W ao l ∧ ∀ a ∈ l, TGood W a (x.1.weights Tryz.prog 22) :=
  open_rows encTale (TGood W) ⟨⟨0, 0, 0, 0, [], false, []⟩, 0, 0, 0, none, 0, none, 0, ⟨#[]⟩, ⟨#[]⟩, 0, 0, 0, 0, none, 0, 0, none, 0, 0⟩ Tryz.underlying22 (E := 39) (by kernel_rfl) (fun q => ⟨_, rfl⟩) (fun _ => rfl) (fun n cs' y hlen h2 => open_tale hlen h2) (fun q ws ws' hw hq => hq.mono hw) h
end Go.Proofs.YtbnclifpdmpjnaaGreatDoor
