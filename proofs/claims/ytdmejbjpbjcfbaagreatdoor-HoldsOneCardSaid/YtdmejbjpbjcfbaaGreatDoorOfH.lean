/- Of and Busy at a table of holds. -/
import Derived.Test.YtdmejbjpbjcfbaaGreatDoorPutH
import Derived.Test.YtdmejbjpbjcfbaaGreatDoorBusy
namespace Go.Proofs.YtdmejbjpbjcfbaaGreatDoor
open Go.RowKit

/-- The hold of a key. -/
def ofD (k : List UInt8) (ds : List HoldD) : Option HoldD := ds.find? fun d => decide (dkey d = k)
theorem ofD_has (k : List UInt8) (ds : List HoldD) : (ofD k ds).isSome = hasD k ds := by unfold ofD hasD; rw [Bool.eq_iff_iff, List.find?_isSome, List.any_eq_true]
theorem of_at {w : World} {no : Nat → Prop} {l : List HoldV} {ds : List HoldD} (ha : HoldsAre w no l ds) (k : List UInt8) (ht : thereH k l = true) : ∃ (x : HoldV) (d : HoldD), l[placeD k ds]? = some x ∧ ofD k ds = some d ∧ x.is w no d ∧ d ∈ ds := by
  have hp := ha.place k
  unfold thereH at ht
  rw [hp] at ht
  cases hx : l[placeD k ds]? with
  | none => rw [hx] at ht; cases ht
  | some x =>
    rw [hx] at ht
    have hkx : vkey x = k := by simpa using ht
    obtain ⟨d, hd, hxd⟩ := ha.at _ x hx
    have hkd : dkey d = k := by unfold dkey; rw [← hxd.key]; exact hkx
    refine ⟨x, d, rfl, ?_, hxd, List.mem_of_getElem? hd⟩
    unfold ofD
    rw [List.find?_eq_some_iff_getElem]
    obtain ⟨hi, he⟩ := List.getElem?_eq_some_iff.1 hd
    refine ⟨by simpa using hkd, _, hi, he, fun j hj => ?_⟩
    have := tw_lt (fun z => decide (dkey z < k)) ds j ds[j] hj (List.getElem?_eq_getElem (by omega))
    simp only [decide_eq_true_eq] at this
    simp only [Bool.not_eq_true', decide_eq_false_iff_not]
    intro e; rw [e] at this; exact List.lt_irrefl _ this
/-- What Of tells. -/
def OfPost (k : List UInt8) (ds : List HoldD) (w : World) (e : Ending) (w' : World) : Prop :=
  ∃ x : HoldV, e = .returned (.tuple #[.agg (encHV x).toArray, .bool (hasD k ds)]) ∧ (match ofD k ds with | some d => x.is w' (fun b => b < w.heap.size) d | none => x = HoldV.zero) ∧ Ext w w'

set_option maxRecDepth 100000 in
set_option maxHeartbeats 1600000 in
theorem of_calls (hb : Nat) (v : Value) (ds : List HoldD) (k : ByteArray) (w : World) (T : Tab w hb v ds) :
    Calls Tryz.prog 14 #[.pointer (some ⟨hb, 0, none⟩), .string k] w (OfPost k.data.toList ds w) := by
  obtain ⟨l, ao, cap, rfl, hlc, hll, hrows, hown, hare, hrise⟩ := T.rows
  have hc0 := T.blk.cell 0; have hc1 := T.blk.cell 1
  simp only [List.getElem?_cons_zero, List.getElem?_cons_succ] at hc0 hc1
  have hbl := T.blk.lt
  have hfew := T.few
  have hat : ∀ W, Ext w W → Calls Tryz.prog 51 #[.pointer (some ⟨hb, 0, none⟩), .string k] W fun e w' => e = .returned (.tuple #[.int .i64 (placeD k.data.toList ds), .bool (hasD k.data.toList ds)]) ∧ Ext W w' := fun W hW => by
    have h := at_calls l ao cap hb k W (by omega) ((hrows.ext hW).mono hW.size) hrise ((hW.cell (p := ⟨hb, 0, none⟩) hbl).trans hc0)
    rw [show placeH k.data.toList l = placeD k.data.toList ds from hare.place _, show thereH k.data.toList l = hasD k.data.toList ds from there_eq hare hrise _] at h
    exact h
  have HAT := Lib.hid hat
  have HTH := Lib.hid (fun W (hW : Ext w W) => there_calls (some ⟨hb, 0, none⟩) true W ((show ThereIs w (some ⟨hb, 0, none⟩) true from .inr ⟨hb, rfl, hc1⟩).ext hW))
  have HX : Hid (Ext w (w.alloc (.cells #[.string ⟨#[]⟩, .int .i64 0, .int .i64 0, .slice none 0 0, .slice none 0 0, .bool false, .string ⟨#[]⟩] 35))) := Lib.hid ((Below.refl _ w).alloc (Nat.le_refl _) _)
  have HB : Hid (Blk (w.alloc (.cells #[.string ⟨#[]⟩, .int .i64 0, .int .i64 0, .slice none 0 0, .slice none 0 0, .bool false, .string ⟨#[]⟩] 35)) w.heap.size [.string ⟨#[]⟩, .int .i64 0, .int .i64 0, .slice none 0 0, .slice none 0 0, .bool false, .string ⟨#[]⟩] 35) := Lib.hid (Blk.new w _ _)
  have hte : thereH k.data.toList l = hasD k.data.toList ds := there_eq hare hrise _
  have HC0 := Lib.hid hc0; have HRO := Lib.hid hrows; have HLL := Lib.hid hll
  cases hh : hasD k.data.toList ds
  · have hz : ofD k.data.toList ds = none := by
      have := ofD_has k.data.toList ds
      rw [hh] at this
      cases ho : ofD k.data.toList ds with
      | none => rfl
      | some d => rw [ho] at this; cases this
    rw [hh] at HAT
    have HZ := Lib.hid hz; have HH := Lib.hid hh
    clear T hc0 hc1 hrows hown hare hrise hll hat hte hz hh
    go_enter Tryz.func14, Tryz.ntmps14
    go_wp2_with fail
    refine (HTH.out _ HX.out).mono ?_
    rintro e w' ⟨rfl, rfl⟩
    go_wp2_with fail
    refine (HAT.out _ HX.out).mono ?_
    rintro e w2 ⟨rfl, hx2⟩
    have hb2 := HB.out.ext' hx2
    have hg2 := hb2.lt
    have c0 := hb2.cell 0; have c1 := hb2.cell 1; have c2 := hb2.cell 2; have c3 := hb2.cell 3; have c4 := hb2.cell 4; have c5 := hb2.cell 5; have c6 := hb2.cell 6
    have f0 := hb2.free 0; have f1 := hb2.free 1; have f2 := hb2.free 2; have f3 := hb2.free 3; have f4 := hb2.free 4; have f5 := hb2.free 5; have f6 := hb2.free 6
    simp only [List.getElem?_cons_zero, List.getElem?_cons_succ] at c0 c1 c2 c3 c4 c5 c6
    have X2 := Lib.hid (Ext.trans HX.out hx2); have B2 := Lib.hid hb2
    clear hx2 hb2
    go_wp2_with fail
    (try simp only [Exit.inBlock, Exit.then])
    refine bodyPost_ret (res_row_tmp rfl _ _ w.heap.size 35 (encHV HoldV.zero) _ rfl (B2.out.setCells (encHV HoldV.zero) 0) Tryz.underlying35 rfl (by kernel_rfl)) rfl ?_
    refine ⟨HoldV.zero, by rw [HH.out]; rfl, by rw [HZ.out], ?_⟩
    exact (but_setCells (S := fun j => w.heap.size ≤ j) (Nat.le_refl _) (encHV HoldV.zero) 0 (X2.out.but _)).ext (fun j hj e => by omega)
  · obtain ⟨x, d, hx, hd, hxd, hdm⟩ := of_at hare k.data.toList (hte.trans hh)
    have hdf := (T.ok d hdm).1.fits
    obtain ⟨b, off, rfl, hbb, hcell⟩ := hrows (by intro e; rw [e] at hx; simp at hx)
    have hcx := hcell _ x hx
    have hpl := (List.getElem?_eq_some_iff.1 hx).1
    generalize hP : placeD k.data.toList ds = P at *
    have HXD := Lib.hid (hxd.mono (no' := fun _ => False) (fun _ _ e => e.elim)); have HD := Lib.hid hd; have HDF := Lib.hid hdf
    rw [hh] at HAT
    have HH := Lib.hid hh
    have HCX := Lib.hid hcx
    have i0 : (0 : Int) ≤ (P : Int) := by omega
    have i1 : (P : Int) < (l.length : Int) := by omega
    clear T hc0 hc1 hrows hown hare hrise hll hat hte hh hx hd hxd hdm hdf hcell hcx hP
    go_enter Tryz.func14, Tryz.ntmps14
    go_wp2_with fail
    refine (HTH.out _ HX.out).mono ?_
    rintro e w' ⟨rfl, rfl⟩
    go_wp2_with fail
    refine (HAT.out _ HX.out).mono ?_
    rintro e w2 ⟨rfl, hx2⟩
    have hx2' := Ext.trans HX.out hx2
    have hh0 := (hx2'.cell (p := ⟨hb, 0, none⟩) hbl).trans HC0.out
    have hmv : ∀ j, w2.cell? ⟨b, j, none⟩ = w.cell? ⟨b, j, none⟩ := fun j => hx2'.cell (p := ⟨b, j, none⟩) hbb
    have X2 := Lib.hid hx2'; have B2 := Lib.hid (HB.out.ext' hx2)
    obtain ⟨key, cl, nm, xo, xn, xc, yo, yn, yc, put, value⟩ := x
    have d0 := (hmv _).trans (HCX.out 0 _ rfl); have d1 := (hmv _).trans (HCX.out 1 _ rfl); have d2 := (hmv _).trans (HCX.out 2 _ rfl); have d3 := (hmv _).trans (HCX.out 3 _ rfl); have d4 := (hmv _).trans (HCX.out 4 _ rfl); have d5 := (hmv _).trans (HCX.out 5 _ rfl); have d6 := (hmv _).trans (HCX.out 6 _ rfl)
    simp only [Nat.add_zero] at d0
    have X3 : Hid (Ext w2 (w2.alloc (.cells #[.string key, .int .i64 cl, .int .i64 nm, .slice xo xn xc, .slice yo yn yc, .bool put, .string value] 35))) := Lib.hid ((Below.refl _ w2).alloc (Nat.le_refl _) _)
    have HO := Lib.hid (own1_calls ⟨key, cl, nm, xo, xn, xc, yo, yn, yc, put, value⟩ d (some ⟨w2.heap.size, 0, none⟩) 1 (w2.alloc (.cells #[.string key, .int .i64 cl, .int .i64 nm, .slice xo xn xc, .slice yo yn yc, .bool put, .string value] 35))
      (by
        intro _
        refine ⟨_, 0, rfl, by simp, fun i y hi j u hj => ?_⟩
        obtain ⟨rfl, rfl⟩ : i = 0 ∧ y = ⟨key, cl, nm, xo, xn, xc, yo, yn, yc, put, value⟩ := by
          match i, hi with
          | 0, hi => simp at hi; exact ⟨rfl, hi.symm⟩
          | i + 1, hi => simp at hi
        rw [show 0 + 0 * 7 + j = j from by omega]
        exact ((Blk.new w2 [.string key, .int .i64 cl, .int .i64 nm, .slice xo xn xc, .slice yo yn yc, .bool put, .string value] 35).cell j).trans hj) (HXD.out.ext (Ext.trans X2.out X3.out)) HDF.out)
    clear hx2 hx2' hmv
    go_wp2_with fail
    refine HO.out.mono ?_
    rintro e w3 ⟨g, c, cur, x', rfl, hc1, hcm, hgb, hct, hgn, hxi, hx3⟩
    have hb3 := (B2.out.ext' (Ext.trans X3.out hx3))
    have hg3 := hb3.lt
    have hgl := hgb.lt
    have hsz3 := X2.out.size
    have hsz4 := X3.out.size
    have c0 := hb3.cell 0; have c1 := hb3.cell 1; have c2 := hb3.cell 2; have c3 := hb3.cell 3; have c4 := hb3.cell 4; have c5 := hb3.cell 5; have c6 := hb3.cell 6
    have f0 := hb3.free 0; have f1 := hb3.free 1; have f2 := hb3.free 2; have f3 := hb3.free 3; have f4 := hb3.free 4; have f5 := hb3.free 5; have f6 := hb3.free 6
    simp only [List.getElem?_cons_zero, List.getElem?_cons_succ] at c0 c1 c2 c3 c4 c5 c6
    have hrd : ∀ j u, (encHV x')[j]? = some u → w3.cell? ⟨g, j, none⟩ = some u := fun j u hj => by
      have hj7 : j < 7 := (List.getElem?_eq_some_iff.1 hj).1
      rw [hgb.cell j]; rw [← hct, List.getElem?_take, if_pos hj7] at hj; exact hj
    have X4 := Lib.hid (Ext.trans X2.out (Ext.trans X3.out hx3)); have B3 := Lib.hid hb3; have XI := Lib.hid hxi
    obtain ⟨key', cl', nm', xo', xn', xc', yo', yn', yc', put', value'⟩ := x'
    have e0 := hrd 0 _ rfl; have e1 := hrd 1 _ rfl; have e2 := hrd 2 _ rfl; have e3 := hrd 3 _ rfl; have e4 := hrd 4 _ rfl; have e5 := hrd 5 _ rfl; have e6 := hrd 6 _ rfl
    have GN := Lib.hid hgn
    clear hb3 hgb hct hxi hx3 hrd d0 d1 d2 d3 d4 d5 d6 HO hgn
    go_wp2_with fail
    (try simp only [Exit.inBlock, Exit.then])
    refine bodyPost_ret (res_row_tmp rfl _ _ w.heap.size 35 (encHV ⟨key', cl', nm', xo', xn', xc', yo', yn', yc', put', value'⟩) _ rfl (B3.out.setCells (encHV ⟨key', cl', nm', xo', xn', xc', yo', yn', yc', put', value'⟩) 0) Tryz.underlying35 rfl (by kernel_rfl)) rfl ?_
    have hbt := but_setCells (S := fun j => j = w.heap.size) rfl (encHV ⟨key', cl', nm', xo', xn', xc', yo', yn', yc', put', value'⟩) 0 (But.refl (fun j => j = w.heap.size) w3)
    refine ⟨⟨key', cl', nm', xo', xn', xc', yo', yn', yc', put', value'⟩, by rw [HH.out]; rfl, ?_, ?_⟩
    · rw [HD.out]
      have h1 : w.heap.size < (w2.alloc (.cells #[.string key, .int .i64 cl, .int .i64 nm, .slice xo xn xc, .slice yo yn yc, .bool put, .string value] 35)).heap.size := Nat.lt_of_lt_of_le B2.out.lt X3.out.size
      exact (XI.out.but hbt (fun b _ e => .inr (by rw [e]; exact h1))).mono (fun b _ e => .inr (Nat.lt_trans e h1))
    · exact ((X4.out.but (fun _ => False)).trans hbt (U := fun j => w.heap.size ≤ j) (fun _ _ e => e.elim) (fun i _ e => by rw [e]; exact Nat.le_refl _)).ext (fun j hj e => by omega)
/-- The name of a key's holder. -/
def nameD (ds : List HoldD) (k : List UInt8) : Int × Int := match ofD k ds with | some d => (d.cl, d.nm) | none => (0, 0)
theorem busyT_calls (hb : Nat) (v : Value) (ds : List HoldD) (c n : Int) (l : List ByteArray) (ao : Option Addr) (cap : Nat) (w : World) (T : Tab w hb v ds) (hl : l.length ≤ 1000000) (hr : Rows 1 encStr w.heap.size w ao l) :
    Calls Tryz.prog 15 #[.pointer (some ⟨hb, 0, none⟩), .agg #[.int .i64 c, .int .i64 n], .slice ao l.length cap] w fun e w' => (∃ r, r = busyL (fun k => hasD k ds) (nameD ds) c n (sortL (bytesL l)) ∧ e = .returned (.tuple #[.agg #[.int .i64 r.1, .int .i64 r.2.1], .bool r.2.2])) ∧ Ext w w' := by
  refine busy_calls (fun k => hasD k ds) (nameD ds) (some ⟨hb, 0, none⟩) c n l ao cap w hl hr (fun k W hW => ?_)
  refine (of_calls hb v ds k W (T.ext hW)).mono ?_
  rintro e w' ⟨x, rfl, hx, hxt⟩
  refine ⟨x, rfl, fun ht => ?_, hxt⟩
  have hs := ofD_has k.data.toList ds
  rw [show hasD k.data.toList ds = true from ht] at hs
  unfold nameD
  cases ho : ofD k.data.toList ds with
  | none => rw [ho] at hs; cases hs
  | some d =>
    rw [ho] at hx
    show (d.cl, d.nm) = (x.cl, x.nm)
    rw [hx.cl, hx.nm]
end Go.Proofs.YtdmejbjpbjcfbaaGreatDoor
