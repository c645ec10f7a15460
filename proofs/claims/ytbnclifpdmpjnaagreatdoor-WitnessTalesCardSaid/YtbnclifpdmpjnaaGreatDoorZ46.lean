/- ApartActs: rows that were handed out lie apart. -/
import Derived.Test.YtbnclifpdmpjnaaGreatDoorZ45
import Derived.Test.YtbnclifpdmpjnaaGreatDoorZ42
namespace Go.Proofs.YtbnclifpdmpjnaaGreatDoor
open Go.RowKit
namespace FlatA
set_option maxRecDepth 100000 in
set_option maxHeartbeats 3200000 in
theorem bagActs_calls (vs : List SlV) (lo : Option Addr) (lcap bb : Nat) (w : World) (c0 : Nat → List ActD) (hN : vs.length ≤ 1000) (hn : ∀ (j : Nat) (v : SlV), vs[j]? = some v → v.n ≤ 1000000) (hb : Blk w bb [.slice none 0 0, .slice none 0 0, .slice none 0 0, .slice none 0 0, .slice none 0 0, .slice none 0 0, .slice none 0 0, .slice none 0 0, .slice none 0 0, .slice none 0 0, .slice none 0 0, .slice lo vs.length lcap, .slice none 0 0, .slice none 0 0, .slice none 0 0, .slice none 0 0, .slice none 0 0, .slice none 0 0, .slice none 0 0, .slice none 0 0, .slice none 0 0, .slice none 0 0] 109) (hnb : ¬ OwnB vs bb) (hrow : NRows 1 encSl (OwnB vs) w lo vs) (hlists : ListsAt w vs c0) (hap : Apart1 vs) :
    Calls Tryz.prog 38 #[.pointer (some ⟨bb, 0, none⟩)] w fun e w' => e = .returned (.bool true) ∧ But (OwnB vs) w w' := by
  have HB := Lib.hid hb
  have FL := Lib.hid (fun W (hW : But (OwnB vs) w W) (hx : Ext w W) => flatActs_calls vs lo lcap W c0 hN hn (hrow.step hW (fun b _ e => .inl e) (fun _ _ e => e)) (hlists.ext hx) hap)
  have NB := Lib.hid hnb
  clear hb hnb hrow hlists hap hn
  go_enter Tryz.func38, Tryz.ntmps38
  have X0 := Lib.hid (Below.refl w.heap.size w)
  have B0 := HB
  have c0 := B0.out.cell 0
  simp only [List.getElem?_cons_zero] at c0
  go_wp2_with fail
  clear c0
  refine (nilLimbs _).mono ?_
  rintro e w1 ⟨rfl, hx⟩
  have X1 := Lib.hid (Ext.trans X0.out hx)
  have B1 := Lib.hid (B0.out.ext' hx)
  clear hx X0
  have c1 := B1.out.cell 1
  simp only [List.getElem?_cons_zero, List.getElem?_cons_succ] at c1
  go_wp2_with fail
  clear c1
  refine (nilWords _).mono ?_
  rintro e w2 ⟨rfl, hx⟩
  have X2 := Lib.hid (Ext.trans X1.out hx)
  have B2 := Lib.hid (B1.out.ext' hx)
  clear hx X1 B1
  have c2 := B2.out.cell 2
  simp only [List.getElem?_cons_zero, List.getElem?_cons_succ] at c2
  go_wp2_with fail
  clear c2
  refine (nilInts _).mono ?_
  rintro e w3 ⟨rfl, hx⟩
  have X3 := Lib.hid (Ext.trans X2.out hx)
  have B3 := Lib.hid (B2.out.ext' hx)
  clear hx X2 B2
  have c3 := B3.out.cell 3
  simp only [List.getElem?_cons_zero, List.getElem?_cons_succ] at c3
  go_wp2_with fail
  clear c3
  refine (nilLongs _).mono ?_
  rintro e w4 ⟨rfl, hx⟩
  have X4 := Lib.hid (Ext.trans X3.out hx)
  have B4 := Lib.hid (B3.out.ext' hx)
  clear hx X3 B3
  have c4 := B4.out.cell 4
  simp only [List.getElem?_cons_zero, List.getElem?_cons_succ] at c4
  go_wp2_with fail
  clear c4
  refine (nilTexts _).mono ?_
  rintro e w5 ⟨rfl, hx⟩
  have X5 := Lib.hid (Ext.trans X4.out hx)
  have B5 := Lib.hid (B4.out.ext' hx)
  clear hx X4 B4
  have c5 := B5.out.cell 5
  simp only [List.getElem?_cons_zero, List.getElem?_cons_succ] at c5
  go_wp2_with fail
  clear c5
  refine (nilBytes _).mono ?_
  rintro e w6 ⟨rfl, hx⟩
  have X6 := Lib.hid (Ext.trans X5.out hx)
  have B6 := Lib.hid (B5.out.ext' hx)
  clear hx X5 B5
  have c6 := B6.out.cell 6
  simp only [List.getElem?_cons_zero, List.getElem?_cons_succ] at c6
  go_wp2_with fail
  clear c6
  refine (nilTruths _).mono ?_
  rintro e w7 ⟨rfl, hx⟩
  have X7 := Lib.hid (Ext.trans X6.out hx)
  have B7 := Lib.hid (B6.out.ext' hx)
  clear hx X6 B6
  have c7 := B7.out.cell 7
  simp only [List.getElem?_cons_zero, List.getElem?_cons_succ] at c7
  go_wp2_with fail
  clear c7
  refine (nilSpans _).mono ?_
  rintro e w8 ⟨rfl, hx⟩
  have X8 := Lib.hid (Ext.trans X7.out hx)
  have B8 := Lib.hid (B7.out.ext' hx)
  clear hx X7 B7
  have c8 := B8.out.cell 8
  simp only [List.getElem?_cons_zero, List.getElem?_cons_succ] at c8
  go_wp2_with fail
  clear c8
  refine (nilShareRows _).mono ?_
  rintro e w9 ⟨rfl, hx⟩
  have X9 := Lib.hid (Ext.trans X8.out hx)
  have B9 := Lib.hid (B8.out.ext' hx)
  clear hx X8 B8
  have c9 := B9.out.cell 9
  simp only [List.getElem?_cons_zero, List.getElem?_cons_succ] at c9
  go_wp2_with fail
  clear c9
  refine (nilSharesRows _).mono ?_
  rintro e w10 ⟨rfl, hx⟩
  have X10 := Lib.hid (Ext.trans X9.out hx)
  have B10 := Lib.hid (B9.out.ext' hx)
  clear hx X9 B9
  have c10 := B10.out.cell 10
  simp only [List.getElem?_cons_zero, List.getElem?_cons_succ] at c10
  go_wp2_with fail
  clear c10
  refine (nilNames _).mono ?_
  rintro e w11 ⟨rfl, hx⟩
  have X11 := Lib.hid (Ext.trans X10.out hx)
  have B11 := Lib.hid (B10.out.ext' hx)
  clear hx X10 B10
  have c11 := B11.out.cell 11
  simp only [List.getElem?_cons_zero, List.getElem?_cons_succ] at c11
  go_wp2_with fail
  clear c11
  refine (FL.out _ (Ext.but X11.out _) X11.out).mono ?_
  rintro e w12 ⟨rfl, hx⟩
  have K12 := Lib.hid ((Ext.but X11.out (OwnB vs)).trans hx (fun _ _ e => e) (fun _ _ e => e))
  have B12 := Lib.hid (B11.out.but hx NB.out)
  clear hx X11 B11
  have c12 := B12.out.cell 12
  simp only [List.getElem?_cons_zero, List.getElem?_cons_succ] at c12
  go_wp2_with fail
  clear c12
  refine (nilReads _).mono ?_
  rintro e w13 ⟨rfl, hx⟩
  have K13 := Lib.hid (K12.out.trans (Ext.but hx (fun _ => False)) (fun _ _ e => e) (fun _ _ e => e.elim))
  have B13 := Lib.hid (B12.out.ext' hx)
  clear hx K12 B12
  have c13 := B13.out.cell 13
  simp only [List.getElem?_cons_zero, List.getElem?_cons_succ] at c13
  go_wp2_with fail
  clear c13
  refine (nilLines _).mono ?_
  rintro e w14 ⟨rfl, hx⟩
  have K14 := Lib.hid (K13.out.trans (Ext.but hx (fun _ => False)) (fun _ _ e => e) (fun _ _ e => e.elim))
  have B14 := Lib.hid (B13.out.ext' hx)
  clear hx K13 B13
  have c14 := B14.out.cell 14
  simp only [List.getElem?_cons_zero, List.getElem?_cons_succ] at c14
  go_wp2_with fail
  clear c14
  refine (nilHolds _).mono ?_
  rintro e w15 ⟨rfl, hx⟩
  have K15 := Lib.hid (K14.out.trans (Ext.but hx (fun _ => False)) (fun _ _ e => e) (fun _ _ e => e.elim))
  have B15 := Lib.hid (B14.out.ext' hx)
  clear hx K14 B14
  have c15 := B15.out.cell 15
  simp only [List.getElem?_cons_zero, List.getElem?_cons_succ] at c15
  go_wp2_with fail
  clear c15
  refine (nilConfigs _).mono ?_
  rintro e w16 ⟨rfl, hx⟩
  have K16 := Lib.hid (K15.out.trans (Ext.but hx (fun _ => False)) (fun _ _ e => e) (fun _ _ e => e.elim))
  have B16 := Lib.hid (B15.out.ext' hx)
  clear hx K15 B15
  have c16 := B16.out.cell 16
  simp only [List.getElem?_cons_zero, List.getElem?_cons_succ] at c16
  go_wp2_with fail
  clear c16
  refine (nilEntries _).mono ?_
  rintro e w17 ⟨rfl, hx⟩
  have K17 := Lib.hid (K16.out.trans (Ext.but hx (fun _ => False)) (fun _ _ e => e) (fun _ _ e => e.elim))
  have B17 := Lib.hid (B16.out.ext' hx)
  clear hx K16 B16
  have c17 := B17.out.cell 17
  simp only [List.getElem?_cons_zero, List.getElem?_cons_succ] at c17
  go_wp2_with fail
  clear c17
  refine (nilBases _).mono ?_
  rintro e w18 ⟨rfl, hx⟩
  have K18 := Lib.hid (K17.out.trans (Ext.but hx (fun _ => False)) (fun _ _ e => e) (fun _ _ e => e.elim))
  have B18 := Lib.hid (B17.out.ext' hx)
  clear hx K17 B17
  have c18 := B18.out.cell 18
  simp only [List.getElem?_cons_zero, List.getElem?_cons_succ] at c18
  go_wp2_with fail
  clear c18
  refine (nilImages _).mono ?_
  rintro e w19 ⟨rfl, hx⟩
  have K19 := Lib.hid (K18.out.trans (Ext.but hx (fun _ => False)) (fun _ _ e => e) (fun _ _ e => e.elim))
  have B19 := Lib.hid (B18.out.ext' hx)
  clear hx K18 B18
  have c19 := B19.out.cell 19
  simp only [List.getElem?_cons_zero, List.getElem?_cons_succ] at c19
  go_wp2_with fail
  clear c19
  refine (nilLetters _).mono ?_
  rintro e w20 ⟨rfl, hx⟩
  have K20 := Lib.hid (K19.out.trans (Ext.but hx (fun _ => False)) (fun _ _ e => e) (fun _ _ e => e.elim))
  have B20 := Lib.hid (B19.out.ext' hx)
  clear hx K19 B19
  have c20 := B20.out.cell 20
  simp only [List.getElem?_cons_zero, List.getElem?_cons_succ] at c20
  go_wp2_with fail
  clear c20
  refine (nilStretches _).mono ?_
  rintro e w21 ⟨rfl, hx⟩
  have K21 := Lib.hid (K20.out.trans (Ext.but hx (fun _ => False)) (fun _ _ e => e) (fun _ _ e => e.elim))
  have B21 := Lib.hid (B20.out.ext' hx)
  clear hx K20 B20
  have c21 := B21.out.cell 21
  simp only [List.getElem?_cons_zero, List.getElem?_cons_succ] at c21
  go_wp2_with fail
  clear c21
  refine (nilPeers _).mono ?_
  rintro e w22 ⟨rfl, hx⟩
  have K22 := Lib.hid (K21.out.trans (Ext.but hx (fun _ => False)) (fun _ _ e => e) (fun _ _ e => e.elim))
  clear hx K21 B21
  go_wp2_with fail
  go_ret
  exact ⟨rfl, K22.out⟩
theorem one_sl : ∀ (x : SlV), ∀ u ∈ encSl x, u.oneCell' = true := by
  intro x u hu
  simp only [encSl, List.mem_cons, List.not_mem_nil, or_false] at hu
  subst hu; rfl
structure BagMid (w : World) (bb : Nat) (vs : List SlV) (k : Nat) (wr : World) : Prop where
  out : ∃ so cap, Blk wr bb [.slice none 0 0, .slice none 0 0, .slice none 0 0, .slice none 0 0, .slice none 0 0, .slice none 0 0, .slice none 0 0, .slice none 0 0, .slice none 0 0, .slice none 0 0, .slice none 0 0, .slice so k cap, .slice none 0 0, .slice none 0 0, .slice none 0 0, .slice none 0 0, .slice none 0 0, .slice none 0 0, .slice none 0 0, .slice none 0 0, .slice none 0 0, .slice none 0 0] 109 ∧ wr.ownsRow w.heap.size 27 1 (.slice so k cap) k ((vs.take k).flatMap encSl) ∧ Ext w wr
set_option maxRecDepth 100000 in
set_option maxHeartbeats 1600000 in
theorem putActs_calls (x : SlV) (bb n cap : Nat) (so : Option Addr) (us : List Value) (w0 w : World) (hn : n ≤ 1000) (hb : Blk w bb [.slice none 0 0, .slice none 0 0, .slice none 0 0, .slice none 0 0, .slice none 0 0, .slice none 0 0, .slice none 0 0, .slice none 0 0, .slice none 0 0, .slice none 0 0, .slice none 0 0, .slice so n cap, .slice none 0 0, .slice none 0 0, .slice none 0 0, .slice none 0 0, .slice none 0 0, .slice none 0 0, .slice none 0 0, .slice none 0 0, .slice none 0 0, .slice none 0 0] 109) (hbb : w0.heap.size ≤ bb) (hown : w.ownsRow w0.heap.size 27 1 (.slice so n cap) n us) (hx0 : Ext w0 w) :
    Calls Tryz.prog 37 #[.pointer (some ⟨bb, 0, none⟩), .slice x.ao x.n x.cap] w fun e w' => e = .returned (.tuple #[]) ∧ ∃ so' cap', Blk w' bb [.slice none 0 0, .slice none 0 0, .slice none 0 0, .slice none 0 0, .slice none 0 0, .slice none 0 0, .slice none 0 0, .slice none 0 0, .slice none 0 0, .slice none 0 0, .slice none 0 0, .slice so' (n + 1) cap', .slice none 0 0, .slice none 0 0, .slice none 0 0, .slice none 0 0, .slice none 0 0, .slice none 0 0, .slice none 0 0, .slice none 0 0, .slice none 0 0, .slice none 0 0] 109 ∧ w'.ownsRow w0.heap.size 27 1 (.slice so' (n + 1) cap') (n + 1) (us ++ encSl x) ∧ Ext w0 w' := by
  obtain ⟨i0, hi, hz0, hz1, hz2⟩ := info_parts infoActs
  have HB := Lib.hid hb; have HO := Lib.hid hown; have HX := Lib.hid hx0
  have cI := hb.cell 11
  simp only [List.getElem?_cons_zero, List.getElem?_cons_succ] at cI
  have EN : Hid (Ext w (w.alloc (.cells #[.slice x.ao x.n x.cap] 27))) := Lib.hid ((Below.refl _ w).alloc (Nat.le_refl _) _)
  have CN := Lib.hid (cells_new w [.slice x.ao x.n x.cap] 27)
  clear hb hown hx0
  go_enter Tryz.func37, Tryz.ntmps37
  go_wp2_with (at_builtin; refine wpList_append_at _ rfl (.tmp 8) (.tmp 10) 48 rfl 27 i0 _ 1 24 Tryz.underlying48 hi hz0 hz1 hz2 rfl (by decide) (.slice so n cap) n us rfl (own_ext (own_base HO.out (fun _ _ => Nat.zero_le _)) EN.out) ⟨w.heap.size, 0, none⟩ 1 1 (encSl x) rfl rfl CN.out (one_sl _) (by decide) (by unfold maxLen; omega) (by omega) ?_; intro g cap5 w5 h1 h2 h3; have Y1 := Lib.hid h1; have Y2 := Lib.hid h2; have Y3 := Lib.hid h3; have hb5 := (HB.out.ext' EN.out).but h2 (fun e => own_ne (own_ext HO.out EN.out) (HB.out.ext' EN.out) (by decide) e); have B5 := Lib.hid hb5; have c5 := hb5.cell 11; have f5 := hb5.free 11; simp only [List.getElem?_cons_zero, List.getElem?_cons_succ] at c5; clear h1 h2 h3 hb5)
  go_end0
  have hge : ∀ j, (Value.slice (some ⟨g, 0, none⟩) (n + 1) cap5).ownBlock = some j → w0.heap.size ≤ j := fun j hj => by
    rcases Y3.out j hj with e | e
    · exact own_ge HO.out j e
    · have := HX.out.size; have := EN.out.size; omega
  have hx5 : Ext w0 w5 := Below.trans HX.out (((Ext.but EN.out (fun _ => False)).trans Y2.out (U := fun j => w0.heap.size ≤ j) (fun _ _ e => e.elim) (fun i _ e => own_ge HO.out i e)).below HX.out.size (fun _ h => h))
  refine ⟨rfl, _, cap5, B5.out.set 11 _, ?_, hx5.setCell (p := ⟨bb, 11, none⟩) hbb _⟩
  exact own_setOther (a := ⟨bb, 11, none⟩) (own_base Y1.out hge) (own_ne Y1.out B5.out (by decide)) _
set_option maxRecDepth 100000 in
set_option maxHeartbeats 1600000 in
theorem apartActs_calls (vs : List SlV) (lo : Option Addr) (lcap : Nat) (w : World) (c0 : Nat → List ActD) (hN : vs.length ≤ 1000) (hn : ∀ (j : Nat) (v : SlV), vs[j]? = some v → v.n ≤ 1000000) (hrow : NRows 1 encSl (OwnB vs) w lo vs) (hlists : ListsAt w vs c0) (hap : Apart1 vs) :
    Calls Tryz.prog 10 #[.slice lo vs.length lcap] w fun e w' => e = .returned (.bool true) ∧ But (OwnB vs) w w' := by
  have HR := Lib.hid hrow; have HL := Lib.hid hlists; have HA := Lib.hid hap; have HN := Lib.hid hn
  obtain ⟨bb, hbb⟩ : ∃ bb, bb = w.heap.size := ⟨_, rfl⟩
  obtain ⟨wA, hwA⟩ : ∃ wA, wA = w.alloc (.cells #[.slice none 0 0, .slice none 0 0, .slice none 0 0, .slice none 0 0, .slice none 0 0, .slice none 0 0, .slice none 0 0, .slice none 0 0, .slice none 0 0, .slice none 0 0, .slice none 0 0, .slice none 0 0, .slice none 0 0, .slice none 0 0, .slice none 0 0, .slice none 0 0, .slice none 0 0, .slice none 0 0, .slice none 0 0, .slice none 0 0, .slice none 0 0, .slice none 0 0] 109) := ⟨_, rfl⟩
  have BA : Hid (Blk wA bb [.slice none 0 0, .slice none 0 0, .slice none 0 0, .slice none 0 0, .slice none 0 0, .slice none 0 0, .slice none 0 0, .slice none 0 0, .slice none 0 0, .slice none 0 0, .slice none 0 0, .slice none 0 0, .slice none 0 0, .slice none 0 0, .slice none 0 0, .slice none 0 0, .slice none 0 0, .slice none 0 0, .slice none 0 0, .slice none 0 0, .slice none 0 0, .slice none 0 0] 109) := Lib.hid (by rw [hwA, hbb]; exact Blk.new w _ _)
  have XA : Hid (Ext w wA) := Lib.hid (by rw [hwA]; exact (Below.refl _ w).alloc (Nat.le_refl _) _)
  have WA := Lib.hid hwA; have HBB := Lib.hid hbb
  clear hrow hlists hap hn hwA hbb
  go_enter Tryz.func10, Tryz.ntmps10
  go_wp2_with fail
  rw [← WA.out, ← HBB.out]
  go_loopw [4] (fun i wr => ∃ k : Nat, k ≤ vs.length ∧ i = .int .i64 k ∧ BagMid w bb vs k wr) (fun i _ => vs.length - (intOf i).toNat)
  case atStart => exact ⟨0, by omega, rfl, none, 0, BA.out, World.ownsRow_nil _ _ _ _, XA.out⟩
  case round =>
    obtain ⟨k, hk, rfl, hmid⟩ := hrel
    obtain ⟨so, cap, hb, hown, hx⟩ := hmid.out
    have B1 := Lib.hid hb; have O1 := Lib.hid hown; have X1 := Lib.hid hx
    clear hmid hb hown hx
    by_cases hlt : k < vs.length
    · obtain ⟨v, hv⟩ : ∃ v, vs[k]? = some v := ⟨_, List.getElem?_eq_getElem hlt⟩
      obtain ⟨b, off, rfl, -, -, hcell⟩ := outer_cell (HR.out.step (Ext.but X1.out (fun _ => False)) (no' := OwnB vs) (fun _ _ e => e.elim) (fun _ _ e => e)) hv
      have PC := Lib.hid (putActs_calls v bb k cap so _ w wr (by omega) B1.out (by rw [HBB.out]; exact Nat.le_refl _) O1.out X1.out)
      have TK : Hid ((vs.take (k + 1)).flatMap encSl = (vs.take k).flatMap encSl ++ encSl v) := Lib.hid (by rw [List.take_add_one, hv, Option.toList_some, List.flatMap_append]; simp)
      have i0 : (0 : Int) ≤ (k : Int) := by omega
      have i1 : (k : Int) < (vs.length : Int) := by omega
      clear hv
      go_wp2_with fail
      refine PC.out.mono ?_
      rintro e w2 ⟨rfl, so2, cap2, hb2, ho2, hx2⟩
      have B2 := Lib.hid hb2; have O2 := Lib.hid ho2; have X2 := Lib.hid hx2
      clear hb2 ho2 hx2 hcell
      go_wp2_with fail
      go_roundw
      case rel => exact ⟨k + 1, by omega, by go_num, so2, cap2, B2.out, by rw [TK.out]; exact O2.out, X2.out⟩
      case measure => simp [intOf]; omega
    · obtain rfl : k = vs.length := by omega
      have hall : vs.take vs.length = vs := List.take_of_length_le (Nat.le_refl _)
      rw [hall] at O1
      have hrow2 : NRows 1 encSl (OwnB vs) wr so vs := by
        intro hne
        obtain ⟨g, off, e, hg, hc⟩ := rows_of_own (enc := encSl) (sz := 1) (fun _ => rfl) O1.out hne
        subst e
        exact ⟨g, off, rfl, hg, fun ho => by
          have h1 := HL.out.lt ho
          have h2 := own_ge O1.out g rfl
          omega, hc⟩
      have BC := Lib.hid (bagActs_calls vs so cap bb wr c0 hN HN.out B1.out (fun ho => by have h1 := HL.out.lt ho; have h2 := HBB.out; omega) hrow2 (HL.out.ext X1.out) HA.out)
      clear hall hrow2
      go_wp2_with fail
      refine BC.out.mono ?_
      rintro e w2 ⟨rfl, hx2⟩
      have X2 := Lib.hid ((Ext.but X1.out (OwnB vs)).trans hx2 (fun _ _ e => e) (fun _ _ e => e))
      clear hx2
      go_wp2_with fail
      go_ret
      exact ⟨rfl, X2.out⟩
end FlatA
end Go.Proofs.YtbnclifpdmpjnaaGreatDoor
