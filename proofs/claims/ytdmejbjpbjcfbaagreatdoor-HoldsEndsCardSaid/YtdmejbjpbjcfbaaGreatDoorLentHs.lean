/- LentHold(s), KeptHold(s): holds lent, with marks behind them and behind their rows. -/
import Derived.Test.YtdmejbjpbjcfbaaGreatDoorLentRd
import Derived.Test.YtdmejbjpbjcfbaaGreatDoorOneH
import Derived.Test.YtdmejbjpbjcfbaaGreatDoorHoldR
import Derived.Test.YtdmejbjpbjcfbaaGreatDoorHoldDefs
import Derived.Deep.DeepMust
namespace Go.Proofs.YtdmejbjpbjcfbaaGreatDoor
open Go.RowKit
theorem NRows.left {α : Type} {sz : Nat} {enc : α → List Value} {no : Nat → Prop} {w : World} {ao : Option Addr} {l m : List α} (h : NRows sz enc no w ao (l ++ m)) : NRows sz enc no w ao l := by
  intro hne
  obtain ⟨b, off, rfl, hb, hn, hc⟩ := h (by simp [hne])
  refine ⟨b, off, rfl, hb, hn, fun i x hi => hc i x ?_⟩
  rw [List.getElem?_append_left (List.getElem?_eq_some_iff.1 hi).1]; exact hi
structure LentH (w : World) (no : Nat → Prop) (v : HoldV) (d : HoldD) : Prop where
  is : v.is w no d
  acts : NRows 4 encAct no w v.ao (d.acts ++ marksActs)
  reads : NRows 3 encRd no w v.ro (d.reads ++ marksReads)
  a0 : ∃ g, v.ao = some ⟨g, 0, none⟩
  r0 : ∃ g, v.ro = some ⟨g, 0, none⟩
  ac : d.acts.length + 12 ≤ v.ac ∧ v.ac ≤ maxLen
  rc : d.reads.length + 12 ≤ v.rc ∧ v.rc ≤ maxLen
theorem LentH.but {w w' : World} {no S : Nat → Prop} {v : HoldV} {d : HoldD} (h : LentH w no v d) (hx : But S w w') (hS : ∀ b, b < w.heap.size → S b → no b) : LentH w' no v d :=
  ⟨h.is.but hx hS, h.acts.but hx hS, h.reads.but hx hS, h.a0, h.r0, h.ac, h.rc⟩
theorem LentH.ext {w w' : World} {no : Nat → Prop} {v : HoldV} {d : HoldD} (h : LentH w no v d) (hx : Ext w w') : LentH w' no v d :=
  h.but (Ext.but hx (fun _ => False)) (fun _ _ e => e.elim)
theorem LentH.mono {w : World} {no no' : Nat → Prop} {v : HoldV} {d : HoldD} (h : LentH w no v d) (hno : ∀ b, b < w.heap.size → no' b → no b) : LentH w no' v d :=
  ⟨h.is.mono hno, h.acts.mono hno, h.reads.mono hno, h.a0, h.r0, h.ac, h.rc⟩
def LentAre (w : World) (no : Nat → Prop) (vs : List HoldV) (ds : List HoldD) : Prop := vs.length = ds.length ∧ ∀ (i : Nat) (v : HoldV) (d : HoldD), vs[i]? = some v → ds[i]? = some d → LentH w no v d
theorem LentAre.but {w w' : World} {no S : Nat → Prop} {vs : List HoldV} {ds : List HoldD} (h : LentAre w no vs ds) (hx : But S w w') (hS : ∀ b, b < w.heap.size → S b → no b) : LentAre w' no vs ds :=
  ⟨h.1, fun i v d hv hd => (h.2 i v d hv hd).but hx hS⟩
theorem LentAre.ext {w w' : World} {no : Nat → Prop} {vs : List HoldV} {ds : List HoldD} (h : LentAre w no vs ds) (hx : Ext w w') : LentAre w' no vs ds :=
  h.but (Ext.but hx (fun _ => False)) (fun _ _ e => e.elim)
theorem LentAre.mono {w : World} {no no' : Nat → Prop} {vs : List HoldV} {ds : List HoldD} (h : LentAre w no vs ds) (hno : ∀ b, b < w.heap.size → no' b → no b) : LentAre w no' vs ds :=
  ⟨h.1, fun i v d hv hd => (h.2 i v d hv hd).mono hno⟩
theorem LentAre.snoc {w : World} {no : Nat → Prop} {vs : List HoldV} {ds : List HoldD} {v : HoldV} {d : HoldD} (h : LentAre w no vs ds) (hv : LentH w no v d) : LentAre w no (vs ++ [v]) (ds ++ [d]) := by
  refine ⟨by rw [List.length_append, List.length_append, h.1]; rfl, fun i x y hx hy => ?_⟩
  by_cases hlt : i < vs.length
  · rw [List.getElem?_append_left hlt] at hx
    rw [List.getElem?_append_left (by rw [← h.1]; exact hlt)] at hy
    exact h.2 i x y hx hy
  · have hl := h.1
    have : i = vs.length := by
      have := (List.getElem?_eq_some_iff.1 hx).1
      simp at this; omega
    subst this
    rw [List.getElem?_append_right (Nat.le_refl _)] at hx
    rw [List.getElem?_append_right (by omega)] at hy
    simp [hl] at hx hy
    subst hx hy
    exact hv
theorem holdsAre_of {w : World} {no : Nat → Prop} : ∀ (vs : List HoldV) (ds : List HoldD), vs.length = ds.length → (∀ (i : Nat) (v : HoldV) (d : HoldD), vs[i]? = some v → ds[i]? = some d → v.is w no d) → HoldsAre w no vs ds
  | [], [], _, _ => trivial
  | [], _ :: _, h, _ => by simp at h
  | _ :: _, [], h, _ => by simp at h
  | v :: vs, d :: ds, h, k => ⟨k 0 v d rfl rfl, holdsAre_of vs ds (by simpa using h) fun i x y hx hy => k (i + 1) x y (by simpa using hx) (by simpa using hy)⟩
theorem LentAre.are {w : World} {no : Nat → Prop} {vs : List HoldV} {ds : List HoldD} (h : LentAre w no vs ds) : HoldsAre w no vs ds :=
  holdsAre_of vs ds h.1 fun i v d hv hd => (h.2 i v d hv hd).is
def markHoldV (k i : Int) : HoldV := ⟨markB k i, 0, 0, none, 0, 0, none, 0, 0, false, ⟨#[]⟩⟩
def markHoldD (k i : Int) : HoldD := ⟨markB k i, 0, 0, [], [], false, ⟨#[]⟩⟩
theorem markHold_is (k i : Int) (w : World) (no : Nat → Prop) : (markHoldV k i).is w no (markHoldD k i) :=
  ⟨rfl, rfl, rfl, rfl, rfl, rfl, rfl, fun h => absurd rfl h, fun h => absurd rfl h⟩
def marksHolds : List HoldV := (List.range 12).map fun i : Nat => markHoldV 1 (i : Int)
theorem marksHolds_len : marksHolds.length = 12 := by simp [marksHolds]
theorem marksHolds_at (i : Nat) (h : i < 12) : marksHolds[i]? = some (markHoldV 1 i) := by simp [marksHolds, h]
theorem marksHolds_succ (k : Nat) (h : k < 12) : marksHolds.take (k + 1) = marksHolds.take k ++ [markHoldV 1 k] := by
  rw [List.take_add_one, marksHolds_at k h]; rfl
set_option maxRecDepth 100000 in
set_option maxHeartbeats 1600000 in
theorem lentHold_calls (x : HoldV) (d : HoldD) (w : World) (hx : x.is w (fun _ => False) d) (ha : d.acts.length ≤ 1000000) (hr : d.reads.length ≤ 1000000) :
    Calls Tryz.prog 61 #[.agg (encHV x).toArray] w fun e w' => ∃ y : HoldV, e = .returned (.agg (encHV y).toArray) ∧ LentH w' (fun b => b < w.heap.size) y d ∧ Ext w w' := by
  obtain ⟨key, cl, nm, xo, xn, xc, yo, yn, yc, put, value⟩ := x
  obtain ⟨key', cl', nm', acts, reads, put', value'⟩ := d
  obtain ⟨e1, e2, e3, e4, e5, e6, e7, a1, r1⟩ := hx
  simp only at e1 e2 e3 e4 e5 e6 e7 a1 r1 ha hr
  subst e1 e2 e3 e4 e5 e6 e7
  have hw : ∃ w2, w2 = (w.alloc (.cells #[.string key, .int .i64 cl, .int .i64 nm, .slice xo acts.length xc, .slice yo reads.length yc, .bool put, .string value] 35)).alloc (.cells #[.string ⟨#[]⟩, .int .i64 0, .int .i64 0, .slice none 0 0, .slice none 0 0, .bool false, .string ⟨#[]⟩] 35) ∧ Ext w w2 ∧ Blk w2 w.heap.size [.string key, .int .i64 cl, .int .i64 nm, .slice xo acts.length xc, .slice yo reads.length yc, .bool put, .string value] 35 ∧ Blk w2 (w.heap.size + 1) [.string ⟨#[]⟩, .int .i64 0, .int .i64 0, .slice none 0 0, .slice none 0 0, .bool false, .string ⟨#[]⟩] 35 := by
    refine ⟨_, rfl, ((Below.refl _ w).alloc (Nat.le_refl _) _).alloc (by simp) _, (Blk.new w _ _).alloc _, ?_⟩
    have := Blk.new (w.alloc (.cells #[.string key, .int .i64 cl, .int .i64 nm, .slice xo acts.length xc, .slice yo reads.length yc, .bool put, .string value] 35)) [.string ⟨#[]⟩, .int .i64 0, .int .i64 0, .slice none 0 0, .slice none 0 0, .bool false, .string ⟨#[]⟩] 35
    rwa [World.size_alloc] at this
  obtain ⟨w2, e2, x2, b1, b2⟩ := hw
  have E2 := Lib.hid e2; have X2 := Lib.hid x2; have B1 := Lib.hid b1; have B2 := Lib.hid b2
  have A1 := Lib.hid a1.rows; have R1 := Lib.hid r1.rows
  clear e2 x2 b1 b2 a1 r1
  simp only [encHV]
  go_enter Tryz.func61, Tryz.ntmps61
  go_wp2_with fail
  rw [← E2.out]
  refine (lentActs_calls acts xo xc w2 ha ((A1.out.ext X2.out).mono X2.out.size)).mono ?_
  rintro e w3 ⟨g, c3, rfl, hc1, hc2, hrow, hg, hx3⟩
  have b3 := B1.out.ext' hx3; have b4 := B2.out.ext' hx3
  have k3 := b3.cell 3; have g3 := b3.free 3; have k4 := b3.cell 4
  simp only [List.getElem?_cons_zero, List.getElem?_cons_succ] at k3 k4
  have hN2 : w.heap.size + 1 < w2.heap.size := B2.out.lt
  have hX4 : Ext w (w3.setCell ⟨w.heap.size, 3, none⟩ (.slice (some ⟨g, 0, none⟩) acts.length c3)) := Below.setCell (p := ⟨w.heap.size, 3, none⟩) (Ext.trans X2.out hx3) (Nat.le_refl _) _
  have hq4 : NRows 4 encAct (fun b => b ≤ w.heap.size + 1) w3 (some ⟨g, 0, none⟩) (acts ++ marksActs) := fun hne => by
    obtain ⟨b, off, e, hb, hc⟩ := hrow hne
    obtain ⟨rfl, rfl⟩ : g = b ∧ 0 = off := by simpa using e
    exact ⟨g, 0, rfl, hb, by omega, hc⟩
  have X4 := Lib.hid hX4; have B3 := Lib.hid b3; have B4 := Lib.hid b4; have Q4 := Lib.hid hq4; have C1 := Lib.hid hc1; have C2 := Lib.hid hc2
  clear hrow hg hx3 hX4 b3 b4 hq4 hc1 hc2
  go_wp2_with fail
  refine (lentReads_calls reads yo yc _ hr ((R1.out.ext X4.out).mono X4.out.size)).mono ?_
  rintro e w5 ⟨g2, c5, rfl, hd1, hd2, hrow2, hg2, hx5⟩
  have b5 := (B3.out.set 3 (.slice (some ⟨g, 0, none⟩) acts.length c3)).ext' hx5
  have b6 := (B4.out.other (a := ⟨w.heap.size, 3, none⟩) (by simp) (.slice (some ⟨g, 0, none⟩) acts.length c3)).ext' hx5
  have hq5 : NRows 4 encAct (fun b => b ≤ w.heap.size + 1) w5 (some ⟨g, 0, none⟩) (acts ++ marksActs) := (Q4.out.but (But.set1 w3 w.heap.size 3 (.slice (some ⟨g, 0, none⟩) acts.length c3)) (fun b _ e => by show b ≤ _; omega)).ext hx5
  have hg2' : w3.heap.size ≤ g2 := by simpa using hg2
  have hN3 : w.heap.size + 1 < w3.heap.size := B4.out.lt
  have hq6 : NRows 3 encRd (fun b => b ≤ w.heap.size + 1) w5 (some ⟨g2, 0, none⟩) (reads ++ marksReads) := fun hne => by
    obtain ⟨b, off, e, hb, hc⟩ := hrow2 hne
    obtain ⟨rfl, rfl⟩ : g2 = b ∧ 0 = off := by simpa using e
    exact ⟨g2, 0, rfl, hb, by omega, hc⟩
  simp only [List.set_cons_zero, List.set_cons_succ] at b5
  have b7 := b5.set 4 (.slice (some ⟨g2, 0, none⟩) reads.length c5)
  simp only [List.set_cons_zero, List.set_cons_succ] at b7
  have k4 := b5.cell 4; have g4 := b5.free 4
  simp only [List.getElem?_cons_zero, List.getElem?_cons_succ] at k4
  have b8 := b6.other (a := ⟨w.heap.size, 4, none⟩) (by simp) (.slice (some ⟨g2, 0, none⟩) reads.length c5)
  have hX5 : Ext w (w5.setCell ⟨w.heap.size, 4, none⟩ (.slice (some ⟨g2, 0, none⟩) reads.length c5)) := Below.setCell (p := ⟨w.heap.size, 4, none⟩) (Ext.trans X4.out hx5) (Nat.le_refl _) _
  have X5 := Lib.hid hX5; have B5 := Lib.hid b7; have B6 := Lib.hid b8; have Q5 := Lib.hid hq5; have Q6 := Lib.hid hq6; have D1 := Lib.hid hd1; have D2 := Lib.hid hd2
  clear hrow2 hg2 hg2' hx5 hX5 b5 b6 b7 b8 hq5 hq6 hd1 hd2 k3 g3 B3 B4 X4 Q4
  have j0 := B5.out.cell 0; have j1 := B5.out.cell 1; have j2 := B5.out.cell 2; have j3 := B5.out.cell 3; have j4 := B5.out.cell 4; have j5 := B5.out.cell 5; have j6 := B5.out.cell 6
  have f0 := B6.out.free 0; have f1 := B6.out.free 1; have f2 := B6.out.free 2; have f3 := B6.out.free 3; have f4 := B6.out.free 4; have f5 := B6.out.free 5; have f6 := B6.out.free 6
  have i0 := B6.out.cell 0; have i1 := B6.out.cell 1; have i2 := B6.out.cell 2; have i3 := B6.out.cell 3; have i4 := B6.out.cell 4; have i5 := B6.out.cell 5; have i6 := B6.out.cell 6
  simp only [List.getElem?_cons_zero, List.getElem?_cons_succ] at j0 j1 j2 j3 j4 j5 j6 i0 i1 i2 i3 i4 i5 i6
  go_wp2_with fail
  have hb9 := B6.out.set7 (.string key) (.int .i64 cl) (.int .i64 nm) (.slice (some ⟨g, 0, none⟩) acts.length c3) (.slice (some ⟨g2, 0, none⟩) reads.length c5) (.bool put) (.string value)
  have hx9 := but_set7 (w5.setCell ⟨w.heap.size, 4, none⟩ (.slice (some ⟨g2, 0, none⟩) reads.length c5)) (w.heap.size + 1) (.string key) (.int .i64 cl) (.int .i64 nm) (.slice (some ⟨g, 0, none⟩) acts.length c3) (.slice (some ⟨g2, 0, none⟩) reads.length c5) (.bool put) (.string value)
  have Q7 := Lib.hid ((Q5.out.but (But.set1 w5 w.heap.size 4 (.slice (some ⟨g2, 0, none⟩) reads.length c5)) (fun b _ e => by show b ≤ _; omega)).but hx9 (fun b _ e => by show b ≤ _; omega))
  have Q8 := Lib.hid ((Q6.out.but (But.set1 w5 w.heap.size 4 (.slice (some ⟨g2, 0, none⟩) reads.length c5)) (fun b _ e => by show b ≤ _; omega)).but hx9 (fun b _ e => by show b ≤ _; omega))
  have X9 : Ext w _ := ((Ext.but X5.out (fun _ => False)).trans hx9 (U := fun j => j = w.heap.size + 1) (fun _ _ e => e.elim) (fun _ _ e => e)).ext (fun i hi e => by omega)
  refine bodyPost_ret (results_cell_row rfl _ _ (w.heap.size + 1) 35 (encHV ⟨key, cl, nm, some ⟨g, 0, none⟩, acts.length, c3, some ⟨g2, 0, none⟩, reads.length, c5, put, value⟩).toArray (0, 0) _ rfl hb9 Tryz.underlying35 rfl (by kernel_rfl)) rfl ?_
  have hno : ∀ b, b < w.heap.size → b ≤ w.heap.size + 1 := fun b h => by omega
  exact ⟨⟨key, cl, nm, some ⟨g, 0, none⟩, acts.length, c3, some ⟨g2, 0, none⟩, reads.length, c5, put, value⟩, rfl, ⟨⟨rfl, rfl, rfl, rfl, rfl, rfl, rfl, Q7.out.left.mono (fun b _ e => hno b e), Q8.out.left.mono (fun b _ e => hno b e)⟩, Q7.out.mono (fun b _ e => hno b e), Q8.out.mono (fun b _ e => hno b e), ⟨g, rfl⟩, ⟨g2, rfl⟩, ⟨C1.out, C2.out⟩, ⟨D1.out, D2.out⟩⟩, X9⟩
theorem markHold_calls (k i : Int) (w : World) : Calls Tryz.prog 62 #[.int .i64 k, .int .i64 i] w fun e w' => e = .returned (.agg (encHV (markHoldV k i)).toArray) ∧ Ext w w' := by
  have HB := Lib.hid (Blk.new w [.string ⟨#[]⟩, .int .i64 0, .int .i64 0, .slice none 0 0, .slice none 0 0, .bool false, .string ⟨#[]⟩] 35)
  have HX := Lib.hid (show Ext w (w.alloc (.cells #[.string ⟨#[]⟩, .int .i64 0, .int .i64 0, .slice none 0 0, .slice none 0 0, .bool false, .string ⟨#[]⟩] 35)) from (Below.refl _ w).alloc (Nat.le_refl _) _)
  go_enter Tryz.func62, Tryz.ntmps62
  go_wp2_with fail
  refine (markText_calls k i _).mono ?_
  rintro e w1 ⟨rfl, hx⟩
  have hb := HB.out.ext' hx
  have hx1 := Ext.trans HX.out hx
  have c0 := hb.cell 0; have c1 := hb.cell 1; have c2 := hb.cell 2; have c3 := hb.cell 3; have c4 := hb.cell 4; have c5 := hb.cell 5; have c6 := hb.cell 6
  have f0 := hb.free 0; have f1 := hb.free 1; have f2 := hb.free 2; have f3 := hb.free 3; have f4 := hb.free 4; have f5 := hb.free 5; have f6 := hb.free 6
  simp only [List.getElem?_cons_zero, List.getElem?_cons_succ] at c0 c1 c2 c3 c4 c5 c6
  have HB1 := Lib.hid hb; have HX1 := Lib.hid hx1
  clear hb hx1 hx HB HX
  go_wp2_with fail
  have hx9 := but_set7 w1 w.heap.size (.string (markB k i)) (.int .i64 0) (.int .i64 0) (.slice none 0 0) (.slice none 0 0) (.bool false) (.string ⟨#[]⟩)
  refine bodyPost_ret (results_cell_row rfl _ _ w.heap.size 35 (encHV (markHoldV k i)).toArray (0, 0) _ rfl (HB1.out.set7 (.string (markB k i)) (.int .i64 0) (.int .i64 0) (.slice none 0 0) (.slice none 0 0) (.bool false) (.string ⟨#[]⟩)) Tryz.underlying35 rfl (by kernel_rfl)) rfl ?_
  exact ⟨rfl, ((Ext.but HX1.out (fun _ => False)).trans hx9 (U := fun j => j = w.heap.size) (fun _ _ e => e.elim) (fun _ _ e => e)).ext (fun i hi e => by omega)⟩
theorem lent_step {w wr w3 W5 w6 : World} {v v' : Value} {m : List HoldV} {ds : List HoldD} {y : HoldV} {d : HoldD} {n : Nat} {xs : List Value}
    (hL : LentAre wr (fun b => b < w.heap.size ∨ v.ownBlock = some b) m ds) (hy : LentH w3 (fun b => b < wr.heap.size) y d) (hx3 : Ext wr w3) (hx5 : Ext w3 W5)
    (ho : wr.ownsRow 0 35 7 v n xs) (hw : w.heap.size ≤ wr.heap.size) (hb : But (fun k => v.ownBlock = some k) W5 w6) (hk : Kept1 W5 v v') :
    LentAre w6 (fun b => b < w.heap.size ∨ v'.ownBlock = some b) (m ++ [y]) (ds ++ [d]) := by
  have h1 : LentAre W5 (fun b => (b < w.heap.size ∨ v.ownBlock = some b) ∨ v'.ownBlock = some b) m ds := ((hL.ext hx3).ext hx5).mono fun b hb e => by
    rcases e with e | e
    · exact e
    · rcases hk b e with e | e
      · exact .inr e
      · omega
  have h2 : LentH W5 (fun b => (b < w.heap.size ∨ v.ownBlock = some b) ∨ v'.ownBlock = some b) y d := (hy.ext hx5).mono fun b hb e => by
    rcases e with (e | e) | e
    · show b < wr.heap.size; omega
    · exact (ho.lt b e).2
    · rcases hk b e with e | e
      · exact (ho.lt b e).2
      · omega
  exact ((h1.snoc h2).but hb fun b _ e => .inl (.inr e)).mono fun b _ e => e.elim (fun e => .inl (.inl e)) .inr
theorem lent_keep {w wr W5 w6 : World} {v v' : Value} {m : List HoldV} {ds : List HoldD}
    (hL : LentAre wr (fun b => b < w.heap.size ∨ v.ownBlock = some b) m ds) (hx5 : Ext wr W5) (hb : But (fun k => v.ownBlock = some k) W5 w6) (hk : Kept1 W5 v v') :
    LentAre w6 (fun b => b < w.heap.size ∨ v'.ownBlock = some b) m ds := by
  have h1 : LentAre W5 (fun b => (b < w.heap.size ∨ v.ownBlock = some b) ∨ v'.ownBlock = some b) m ds := (hL.ext hx5).mono fun b hb e => by
    rcases e with e | e
    · exact e
    · rcases hk b e with e | e
      · exact .inr e
      · omega
  exact (h1.but hb fun b _ e => .inl (.inr e)).mono fun b _ e => e.elim (fun e => .inl (.inl e)) .inr
theorem own_step {w wr W5 w6 : World} {v v' : Value} (hn : ∀ j, v.ownBlock = some j → w.heap.size ≤ j) (hx : Ext w wr) (hx5 : Ext wr W5) (hb : But (fun k => v.ownBlock = some k) W5 w6) (hk : Kept1 W5 v v') :
    (∀ j, v'.ownBlock = some j → w.heap.size ≤ j) ∧ Ext w w6 := by
  have hs := hx.size; have hs5 := hx5.size
  refine ⟨fun j hj => ?_, ?_⟩
  · rcases hk j hj with e | e
    · exact hn j e
    · omega
  · exact ((Ext.but (Ext.trans hx hx5) (fun _ => False)).trans hb (U := fun j => w.heap.size ≤ j) (fun _ _ e => e.elim) (fun i _ e => hn i e)).ext (fun _ hi e => absurd hi (Nat.not_lt.2 e))
set_option maxRecDepth 100000 in
set_option maxHeartbeats 1600000 in
theorem lentHolds_calls (l : List HoldV) (ds : List HoldD) (ao : Option Addr) (cap : Nat) (w : World) (hl : l.length ≤ 1000000) (hr : Rows 7 encHV w.heap.size w ao l) (hd : HoldsAre w (fun _ => False) l ds) (hfit : ∀ d ∈ ds, d.fits) :
    Calls Tryz.prog 19 #[.slice ao l.length cap] w fun e w' => ∃ (g cap' : Nat) (m : List HoldV), e = .returned (.slice (some ⟨g, 0, none⟩) m.length cap') ∧ m.length + 12 ≤ cap' ∧ cap' ≤ maxLen ∧ Rows 7 encHV w'.heap.size w' (some ⟨g, 0, none⟩) (m ++ marksHolds) ∧ w.heap.size ≤ g ∧ LentAre w' (fun b => b < w.heap.size ∨ b = g) m ds ∧ Ext w w' := by
  obtain ⟨i0, hi, hz0, hz1, hz2⟩ := info_parts infoHold
  obtain ⟨w1, hmk, hown1, hg1⟩ := run_make_own (P := Tryz.prog) w w.heap.size 22 35 i0 _ 7 Tryz.underlying22 hi hz0 hz1 .i64 .i64 (l.length + 12) (by rw [hz2]; omega) (by unfold maxLen; omega) (Nat.le_refl _)
  simp only [Int.natCast_add, Int.cast_ofNat_Int] at hmk
  have hx1 : Ext w w1 := ⟨hg1.os, hg1.tape, hg1.output, hg1.size, fun k hk => hg1.block k hk (fun e => by cases e)⟩
  have HDL := Lib.hid hd.len
  have HR := Lib.hid hr; have HD := Lib.hid hd; have HF := Lib.hid hfit; have O1 := Lib.hid (own_base (B' := 0) hown1 (fun _ _ => Nat.zero_le _)); have X1 := Lib.hid hx1
  clear hr hown1 hx1 hg1 hd hfit
  go_enter Tryz.func19, Tryz.ntmps19
  go_wp2_with fail
  go_loopw [3, 4] (fun v i wr => ∃ (k : Nat) (m : List HoldV), k ≤ l.length ∧ i = .int .i64 k ∧ m.length = k ∧ wr.ownsRow 0 35 7 v m.length (m.flatMap encHV) ∧ (∀ j, v.ownBlock = some j → w.heap.size ≤ j) ∧ LentAre wr (fun b => b < w.heap.size ∨ v.ownBlock = some b) m (ds.take k) ∧ Ext w wr) (fun _ i _ => l.length - (intOf i).toNat)
  case atStart => exact ⟨0, [], by omega, rfl, rfl, O1.out, by simp [Value.ownBlock], ⟨rfl, fun i v d h => by simp at h⟩, X1.out⟩
  case round =>
    obtain ⟨k, m, hk, rfl, hml, hown, hnew, hL, hx⟩ := hrel
    have K1 := Lib.hid hown; have K2 := Lib.hid hnew; have K3 := Lib.hid hL; have K4 := Lib.hid hx; have K5 := Lib.hid hml
    clear hown hnew hL hx hml
    by_cases hlt : k < l.length
    · obtain ⟨x, hx⟩ : ∃ x, l[k]? = some x := ⟨_, List.getElem?_eq_getElem hlt⟩
      obtain ⟨d, hdk, hxd⟩ := HD.out.at k x hx
      obtain ⟨b, off, rfl, hbb, hcell⟩ := HR.out (by intro e; rw [e] at hlt; simp at hlt)
      have hcx := hcell k x hx
      have hmove : ∀ j, wr.cell? ⟨b, j, none⟩ = w.cell? ⟨b, j, none⟩ := fun j => K4.out.cell (p := ⟨b, j, none⟩) hbb
      have HC := Lib.hid (lentHold_calls x d wr (hxd.ext K4.out) (HF.out d (List.mem_of_getElem? hdk)).1 (HF.out d (List.mem_of_getElem? hdk)).2)
      obtain ⟨key, cl, nm, xo, xn, xc, yo, yn, yc, put, value⟩ := x
      simp only [encHV] at HC
      have d0 := (hmove _).trans (hcx 0 _ rfl); have d1 := (hmove _).trans (hcx 1 _ rfl); have d2 := (hmove _).trans (hcx 2 _ rfl); have d3 := (hmove _).trans (hcx 3 _ rfl); have d4 := (hmove _).trans (hcx 4 _ rfl); have d5 := (hmove _).trans (hcx 5 _ rfl); have d6 := (hmove _).trans (hcx 6 _ rfl)
      simp only [Nat.add_zero] at d0
      have hdt : ds.take (k + 1) = ds.take k ++ [d] := by rw [List.take_add_one, hdk]; rfl
      have HDT := Lib.hid hdt
      have ii0 : (0 : Int) ≤ (k : Int) := by omega
      have ii1 : (k : Int) < (l.length : Int) := by omega
      clear hx hdk hxd hcell hcx hmove hdt hmk
      go_wp2_with fail
      refine HC.out.mono ?_
      rintro e w3 ⟨y, rfl, hy, hx3⟩
      have Y0 := Lib.hid hy; have X3 := Lib.hid hx3
      clear hy hx3 HC
      have hmk5 := K5.out
      have CN := Lib.hid (cells_new' (w3.alloc (.cells (encHV y).toArray 35)) (encHV y) 35 (w3.heap.size + 1) (by simp))
      have E3 : Hid (Ext w3 ((w3.alloc (.cells (encHV y).toArray 35)).alloc (.cells (encHV y).toArray 35))) := Lib.hid (((Below.refl _ w3).alloc (Nat.le_refl _) _).alloc (by simp) _)
      obtain ⟨key', cl', nm', xo', xn', xc', yo', yn', yc', put', value'⟩ := y
      simp only [encHV] at CN E3 ⊢
      go_wp2_with (at_builtin; go_must (refine wpList_append_at _ rfl _ _ 22 rfl 35 i0 _ 7 104 Tryz.underlying22 hi hz0 hz1 hz2 rfl (by decide) _ m.length (m.flatMap encHV) rfl (own_ext (own_ext K1.out X3.out) E3.out) ⟨_, 0, none⟩ 1 1 (encHV ⟨key', cl', nm', xo', xn', xc', yo', yn', yc', put', value'⟩) rfl rfl CN.out (one_hold _) (by decide) (by unfold maxLen; omega) (by omega) ?_; intro g cap2 w6 hown' hbut hkept; have Y1 := Lib.hid hown'; have Y2 := Lib.hid hbut; have Y3 := Lib.hid hkept; clear hown' hbut hkept))
      go_roundw
      case rel =>
        have hos := own_step K2.out K4.out (Ext.trans X3.out E3.out) Y2.out Y3.out
        refine ⟨k + 1, m ++ [⟨key', cl', nm', xo', xn', xc', yo', yn', yc', put', value'⟩], by omega, by go_num, by rw [List.length_append, hmk5]; rfl, ?_, hos.1, ?_, hos.2⟩
        · have := Y1.out
          rw [List.length_append, List.flatMap_append]
          simpa [hmk5] using this
        · rw [HDT.out]
          exact lent_step K3.out Y0.out X3.out E3.out K1.out K4.out.size Y2.out Y3.out
      case measure => simp [intOf]; omega
    · obtain rfl : k = l.length := by omega
      have hds : ds.take l.length = ds := List.take_of_length_le (by have := HDL.out; omega)
      rw [hds] at K3
      clear hds hmk
      have hm0 : (m ++ marksHolds.take 0) = m := by simp
      have K1' := Lib.hid (show wr.ownsRow 0 35 7 u3 (m ++ marksHolds.take 0).length ((m ++ marksHolds.take 0).flatMap encHV) by rw [hm0]; exact K1.out)
      clear hm0 K1
      go_wp2_with fail
      go_loopw [3, 6] (fun v i wr => ∃ k : Nat, k ≤ 12 ∧ i = .int .i64 k ∧ wr.ownsRow 0 35 7 v (m ++ marksHolds.take k).length ((m ++ marksHolds.take k).flatMap encHV) ∧ (∀ j, v.ownBlock = some j → w.heap.size ≤ j) ∧ LentAre wr (fun b => b < w.heap.size ∨ v.ownBlock = some b) m ds ∧ Ext w wr) (fun _ i _ => 12 - (intOf i).toNat)
      case atStart => exact ⟨0, by omega, rfl, K1'.out, K2.out, K3.out, K4.out⟩
      case round =>
        obtain ⟨k, hk, rfl, hown, hnew, hL, hx⟩ := hrel
        have L1 := Lib.hid hown; have L2 := Lib.hid hnew; have L3 := Lib.hid hL; have L4 := Lib.hid hx
        clear hown hnew hL hx K1' K2 K3 K4
        by_cases hlt : k < 12
        · have hq : (m ++ marksHolds.take (k + 1)) = (m ++ marksHolds.take k) ++ [markHoldV 1 k] := by rw [marksHolds_succ k hlt, List.append_assoc]
          have hbd : (m ++ marksHolds.take k).length ≤ 1000012 := by have := K5.out; rw [List.length_append, List.length_take, marksHolds_len]; omega
          generalize m ++ marksHolds.take k = q at *
          have HQ := Lib.hid hq; clear hq
          have hmc := fun W => markHold_calls 1 k W
          have HMC := Lib.hid hmc; clear hmc
          have hmv : encHV (markHoldV 1 k) = [.string (markB 1 k), .int .i64 0, .int .i64 0, .slice none 0 0, .slice none 0 0, .bool false, .string ⟨#[]⟩] := rfl
          have hone := one_hold (markHoldV 1 k)
          rw [hmv] at HMC hone
          have HMV := Lib.hid hmv; have HONE := Lib.hid hone
          clear hmv hone
          go_wp2_with fail
          refine (HMC.out _).mono ?_
          rintro e w3 ⟨rfl, hx3⟩
          have X3 := Lib.hid hx3; clear hx3
          have CN := Lib.hid (cells_new w3 [.string (markB 1 k), .int .i64 0, .int .i64 0, .slice none 0 0, .slice none 0 0, .bool false, .string ⟨#[]⟩] 35)
          have E3 : Hid (Ext w3 (w3.alloc (.cells #[.string (markB 1 k), .int .i64 0, .int .i64 0, .slice none 0 0, .slice none 0 0, .bool false, .string ⟨#[]⟩] 35))) := Lib.hid ((Below.refl _ w3).alloc (Nat.le_refl _) _)
          go_wp2_with (at_builtin; go_must (refine wpList_append_at _ rfl _ _ 22 rfl 35 i0 _ 7 104 Tryz.underlying22 hi hz0 hz1 hz2 rfl (by decide) _ q.length (q.flatMap encHV) rfl (own_ext (own_ext L1.out X3.out) E3.out) ⟨w3.heap.size, 0, none⟩ 1 1 [.string (markB 1 k), .int .i64 0, .int .i64 0, .slice none 0 0, .slice none 0 0, .bool false, .string ⟨#[]⟩] rfl rfl CN.out HONE.out (by decide) (by unfold maxLen; omega) (by omega) ?_; intro g cap2 w6 hown' hbut hkept; have Y1 := Lib.hid hown'; have Y2 := Lib.hid hbut; have Y3 := Lib.hid hkept; clear hown' hbut hkept))
          go_roundw
          case rel =>
            have hos := own_step L2.out L4.out (Ext.trans X3.out E3.out) Y2.out Y3.out
            refine ⟨k + 1, by omega, by go_num, ?_, hos.1, lent_keep L3.out (Ext.trans X3.out E3.out) Y2.out Y3.out, hos.2⟩
            rw [HQ.out]
            have := Y1.out
            rw [List.length_append, List.flatMap_append, List.flatMap_singleton, HMV.out]
            simpa using this
          case measure => simp [intOf]; omega
        · obtain rfl : k = 12 := by omega
          have hall : marksHolds.take 12 = marksHolds := List.take_of_length_le (by rw [marksHolds_len]; exact Nat.le_refl _)
          rw [hall] at L1
          have hlen : (m ++ marksHolds).length = m.length + 12 := by rw [List.length_append, marksHolds_len]
          rcases own_form L1.out with ⟨rfl, h0⟩ | ⟨g, cap3, rfl⟩
          · omega
          · obtain ⟨ro, rcap, hv, hle, hmax, hrr⟩ := Rows.own (enc := encHV) (sz := 7) (fun _ => rfl) L1.out
            simp only [Value.slice.injEq] at hv
            obtain ⟨rfl, -, rfl⟩ := hv
            have hg := L2.out g rfl
            have R1 := Lib.hid hrr; have R2 := Lib.hid hmax
            have hi0 : (0 : Int) ≤ (m.length : Int) := by omega
            have hi1 : (m.length : Int) ≤ (cap3 : Int) := by omega
            have K5' := K5.out
            rw [K5'] at hi1
            have K6 := Lib.hid K5'
            clear hall hrr hmax K5'
            go_wp2_with fail
            go_ret
            exact ⟨g, cap3, m, (by rw [K6.out]; rfl), by omega, R2.out, R1.out, hg, L3.out.mono (fun b _ e => e.elim .inl (fun e => .inr (by rw [e]; rfl))), L4.out⟩
set_option maxRecDepth 100000 in
set_option maxHeartbeats 1600000 in
theorem keptHold_calls (x y : HoldV) (d : HoldD) (no no' : Nat → Prop) (w : World) (hx : LentH w no x d) (hy : y.is w no' d) (ha : d.acts.length ≤ 1000000) (hr : d.reads.length ≤ 1000000) :
    Calls Tryz.prog 73 #[.agg (encHV x).toArray, .agg (encHV y).toArray] w fun e w' => e = .returned (.bool true) ∧ Ext w w' := by
  obtain ⟨hxi, hxa, hxr, ⟨ga, hga⟩, ⟨gr, hgr⟩, ⟨ac1, ac2⟩, ⟨rc1, rc2⟩⟩ := hx
  have HS : Hid (∀ W, Ext w W → Calls Tryz.prog 18 #[.agg (encHV x).toArray, .agg (encHV y).toArray] W fun e w' => e = .returned (.bool true) ∧ Ext W w') := Lib.hid (fun W hW => sameHold_calls x y d no no' W (hxi.ext hW) (hy.ext hW) ha hr)
  obtain ⟨key, cl, nm, xo, xn, xc, yo, yn, yc, put, value⟩ := x
  obtain ⟨key2, cl2, nm2, xo2, xn2, xc2, yo2, yn2, yc2, put2, value2⟩ := y
  obtain ⟨key', cl', nm', acts, reads, put', value'⟩ := d
  obtain ⟨e1, e2, e3, e4, e5, e6, e7, -, -⟩ := hxi
  obtain ⟨f1, f2, f3, f4, f5, f6, f7, a2, r2⟩ := hy
  simp only at e1 e2 e3 e4 e5 e6 e7 f1 f2 f3 f4 f5 f6 f7 hxa hxr a2 r2 ha hr hga hgr ac1 ac2 rc1 rc2
  subst e1 e2 e3 e4 e5 e6 e7 f1 f2 f3 f4 f5 f6 f7 hga hgr
  have hw : ∃ w2, w2 = (w.alloc (.cells #[.string key2, .int .i64 cl2, .int .i64 nm2, .slice (some ⟨ga, 0, none⟩) acts.length xc, .slice (some ⟨gr, 0, none⟩) reads.length yc, .bool put2, .string value2] 35)).alloc (.cells #[.string key2, .int .i64 cl2, .int .i64 nm2, .slice xo2 acts.length xc2, .slice yo2 reads.length yc2, .bool put2, .string value2] 35) ∧ Ext w w2 ∧ Blk w2 w.heap.size [.string key2, .int .i64 cl2, .int .i64 nm2, .slice (some ⟨ga, 0, none⟩) acts.length xc, .slice (some ⟨gr, 0, none⟩) reads.length yc, .bool put2, .string value2] 35 ∧ Blk w2 (w.heap.size + 1) [.string key2, .int .i64 cl2, .int .i64 nm2, .slice xo2 acts.length xc2, .slice yo2 reads.length yc2, .bool put2, .string value2] 35 := by
    refine ⟨_, rfl, ((Below.refl _ w).alloc (Nat.le_refl _) _).alloc (by simp) _, (Blk.new w _ _).alloc _, ?_⟩
    have := Blk.new (w.alloc (.cells #[.string key2, .int .i64 cl2, .int .i64 nm2, .slice (some ⟨ga, 0, none⟩) acts.length xc, .slice (some ⟨gr, 0, none⟩) reads.length yc, .bool put2, .string value2] 35)) [.string key2, .int .i64 cl2, .int .i64 nm2, .slice xo2 acts.length xc2, .slice yo2 reads.length yc2, .bool put2, .string value2] 35
    rwa [World.size_alloc] at this
  obtain ⟨w2, e2, x2, b1, b2⟩ := hw
  have HA : Hid (∀ W, Ext w W → Calls Tryz.prog 131 #[.slice (some ⟨ga, 0, none⟩) acts.length xc, .slice xo2 acts.length xc2] W fun e w' => e = .returned (.bool true) ∧ Ext W w') := Lib.hid (fun W (hW : Ext w W) => keptActs_calls acts ga xc xo2 xc2 W ha ac1 ac2 ((hxa.rows.ext hW).mono hW.size) ((a2.rows.ext hW).mono hW.size))
  have HR : Hid (∀ W, Ext w W → Calls Tryz.prog 132 #[.slice (some ⟨gr, 0, none⟩) reads.length yc, .slice yo2 reads.length yc2] W fun e w' => e = .returned (.bool true) ∧ Ext W w') := Lib.hid (fun W (hW : Ext w W) => keptReads_calls reads gr yc yo2 yc2 W hr rc1 rc2 ((hxr.rows.ext hW).mono hW.size) ((r2.rows.ext hW).mono hW.size))
  have E2 := Lib.hid e2; have X2 := Lib.hid x2; have B1 := Lib.hid b1; have B2 := Lib.hid b2
  have k0 := b1.cell 0; have k1 := b1.cell 1; have k2 := b1.cell 2; have k3 := b1.cell 3; have k4 := b1.cell 4; have k5 := b1.cell 5; have k6 := b1.cell 6
  have q0 := b2.cell 0; have q1 := b2.cell 1; have q2 := b2.cell 2; have q3 := b2.cell 3; have q4 := b2.cell 4; have q5 := b2.cell 5; have q6 := b2.cell 6
  simp only [List.getElem?_cons_zero, List.getElem?_cons_succ] at k0 k1 k2 k3 k4 k5 k6 q0 q1 q2 q3 q4 q5 q6
  clear e2 x2 b1 b2 a2 r2 hxa hxr ac1 ac2 rc1 rc2 k0 k1 k2 k3 k4 k5 k6 q0 q1 q2 q3 q4 q5 q6
  simp only [encHV] at HS ⊢
  go_enter Tryz.func73, Tryz.ntmps73
  go_wp2_with fail
  rw [← E2.out]
  refine (HS.out w2 X2.out).mono ?_
  rintro e w3 ⟨rfl, hx3⟩
  have c3 := (B1.out.ext' hx3).cell 3; have g3 := (B2.out.ext' hx3).cell 3
  simp only [List.getElem?_cons_zero, List.getElem?_cons_succ] at c3 g3
  have X3 := Lib.hid hx3
  clear hx3
  go_wp2_with fail
  refine (HA.out w3 (Ext.trans X2.out X3.out)).mono ?_
  rintro e w4 ⟨rfl, hx4⟩
  have hx34 := Ext.trans X3.out hx4
  have c4 := (B1.out.ext' hx34).cell 4; have g4 := (B2.out.ext' hx34).cell 4
  simp only [List.getElem?_cons_zero, List.getElem?_cons_succ] at c4 g4
  have X4 := Lib.hid (Ext.trans X2.out hx34)
  clear hx4 hx34
  go_wp2_with fail
  refine (HR.out w4 X4.out).mono ?_
  rintro e w5 ⟨rfl, hx5⟩
  have X5 := Lib.hid (Ext.trans X4.out hx5)
  clear hx5
  go_wp2_with fail
  go_ret
  exact ⟨ret_bool (by simp), X5.out⟩
set_option maxRecDepth 100000 in
set_option maxHeartbeats 3200000 in
theorem keptHolds_calls (l m : List HoldV) (ds : List HoldD) (no : Nat → Prop) (g cap' : Nat) (bo : Option Addr) (cap : Nat) (w : World) (hl : l.length ≤ 1000000) (hc : m.length + 12 ≤ cap') (hm : cap' ≤ maxLen) (hr : Rows 7 encHV w.heap.size w (some ⟨g, 0, none⟩) (m ++ marksHolds)) (hL : LentAre w no m ds) (hq : Rows 7 encHV w.heap.size w bo l) (hd : HoldsAre w (fun _ => False) l ds) (hfit : ∀ d ∈ ds, d.fits) :
    Calls Tryz.prog 27 #[.slice (some ⟨g, 0, none⟩) m.length cap', .slice bo l.length cap] w fun e w' => e = .returned (.bool true) ∧ Ext w w' := by
  have hml : m.length = l.length := by rw [hL.1, hd.len]
  rw [hml] at hc ⊢
  have hlen : (m ++ marksHolds).length = l.length + 12 := by rw [List.length_append, marksHolds_len, hml]
  obtain ⟨g', off', hg', hbg, hcell⟩ := hr (fun e => by rw [e] at hlen; simp at hlen)
  obtain ⟨rfl, rfl⟩ : g = g' ∧ 0 = off' := by simpa using hg'
  have HC := Lib.hid hcell; have HQ := Lib.hid hq; have HL := Lib.hid hL; have HD := Lib.hid hd; have HF := Lib.hid hfit; have HML := Lib.hid hml
  unfold maxLen at hm
  clear hr hg' hcell hq hlen hL hd hfit hml
  have hi0 : (0 : Int) ≤ (l.length : Int) + 12 := by omega
  have hi1 : (l.length : Int) + 12 ≤ (cap' : Int) := by omega
  go_enter Tryz.func27, Tryz.ntmps27
  go_wp2_with fail
  go_loopw [6] (fun i wr => ∃ k : Nat, k ≤ l.length + 12 ∧ i = .int .i64 k ∧ Ext w wr) (fun i _ => l.length + 12 - (intOf i).toNat)
  case atStart => exact ⟨0, by omega, rfl, Below.refl _ _⟩
  case round =>
    obtain ⟨k, hk, rfl, hx⟩ := hrel
    have K1 := Lib.hid hx; clear hx
    by_cases hlt : k < l.length
    · obtain ⟨y, hy⟩ : ∃ y, l[k]? = some y := ⟨_, List.getElem?_eq_getElem hlt⟩
      obtain ⟨x, hx⟩ : ∃ x, m[k]? = some x := ⟨_, List.getElem?_eq_getElem (by have := HML.out; omega)⟩
      obtain ⟨d, hdk, hyd⟩ := HD.out.at k y hy
      have hxd := HL.out.2 k x d hx hdk
      obtain ⟨hfa, hfr⟩ := HF.out d (List.mem_of_getElem? hdk)
      have hx' : (m ++ marksHolds)[k]? = some x := by rw [List.getElem?_append_left (by have := HML.out; omega)]; exact hx
      obtain ⟨b, off, rfl, hb, hcell⟩ := HQ.out (by intro e; rw [e] at hlt; simp at hlt)
      have hcy := hcell k y hy; have hcx := HC.out k x hx'
      have hmy : ∀ j, wr.cell? ⟨b, j, none⟩ = w.cell? ⟨b, j, none⟩ := fun j => K1.out.cell (p := ⟨b, j, none⟩) hb
      have hmx : ∀ j, wr.cell? ⟨g, j, none⟩ = w.cell? ⟨g, j, none⟩ := fun j => K1.out.cell (p := ⟨g, j, none⟩) hbg
      have HK : Hid (∀ p : ExtBy wr, Calls Tryz.prog 73 #[.agg (encHV x).toArray, .agg (encHV y).toArray] p.W fun e w' => e = .returned (.bool true) ∧ Ext p.W w') := Lib.hid fun p => keptHold_calls x y d no (fun _ => False) p.W ((hxd.ext K1.out).ext p.ext) ((hyd.ext K1.out).ext p.ext) hfa hfr
      obtain ⟨k1, cl1, nm1, xo1, xn1, xc1, yo1, yn1, yc1, put1, value1⟩ := x
      obtain ⟨k2, cl2, nm2, xo2, xn2, xc2, yo2, yn2, yc2, put2, value2⟩ := y
      simp only [encHV] at HK
      have d0 := (hmx _).trans (hcx 0 _ rfl); have d1 := (hmx _).trans (hcx 1 _ rfl); have d2 := (hmx _).trans (hcx 2 _ rfl); have d3 := (hmx _).trans (hcx 3 _ rfl); have d4 := (hmx _).trans (hcx 4 _ rfl); have d5 := (hmx _).trans (hcx 5 _ rfl); have d6 := (hmx _).trans (hcx 6 _ rfl)
      have e0 := (hmy _).trans (hcy 0 _ rfl); have e1 := (hmy _).trans (hcy 1 _ rfl); have e2 := (hmy _).trans (hcy 2 _ rfl); have e3 := (hmy _).trans (hcy 3 _ rfl); have e4 := (hmy _).trans (hcy 4 _ rfl); have e5 := (hmy _).trans (hcy 5 _ rfl); have e6 := (hmy _).trans (hcy 6 _ rfl)
      simp only [Nat.add_zero, Nat.zero_add] at d0 d1 d2 d3 d4 d5 d6 e0
      have q0 := ExtBy.cell d0; have q1 := ExtBy.cell d1; have q2 := ExtBy.cell d2; have q3 := ExtBy.cell d3; have q4 := ExtBy.cell d4; have q5 := ExtBy.cell d5; have q6 := ExtBy.cell d6
      have r0 := ExtBy.cell e0; have r1 := ExtBy.cell e1; have r2 := ExtBy.cell e2; have r3 := ExtBy.cell e3; have r4 := ExtBy.cell e4; have r5 := ExtBy.cell e5; have r6 := ExtBy.cell e6
      have j0 : (0 : Int) ≤ (k : Int) := by omega
      have j1 : (k : Int) < (l.length : Int) := by omega
      have j2 : (k : Int) < (l.length : Int) + 12 := by omega
      have g1 : decide ((k : Int) < (l.length : Int)) = true := decide_eq_true j1
      have g2 : decide ((l.length : Int) ≤ (k : Int)) = false := decide_eq_false (by omega)
      have g3 : decide (l.length ≤ k) = false := decide_eq_false (by omega)
      clear hx hx' hy hdk hxd hyd hcell hcx hcy hmx hmy d0 d1 d2 d3 d4 d5 d6 e0 e1 e2 e3 e4 e5 e6
      go_wp2_with fail
      refine wp_region_ext (by kernel_rfl) (by kernel_rfl) ?_
      repeat (go_big_quiet_step (with_reducible exact Calls.ext_of _ (HK.out _)))
      refine wpQuiet_nil ?_
      intro wd hw'
      have hxd : Ext wr wd := by obtain ⟨p, rfl⟩ := hw'; exact p.ext
      have XD := Lib.hid (Ext.trans K1.out hxd)
      clear hxd hw' q0 q1 q2 q3 q4 q5 q6 r0 r1 r2 r3 r4 r5 r6 HK
      go_wp2_with fail
      go_roundw
      case rel => exact ⟨k + 1, by omega, by go_num, XD.out⟩
      case measure => simp [intOf]; omega
    · by_cases hlt2 : k < l.length + 12
      · obtain ⟨j, rfl⟩ : ∃ j, k = l.length + j := ⟨k - l.length, by omega⟩
        have hx' : (m ++ marksHolds)[l.length + j]? = some (markHoldV 1 j) := by rw [← HML.out, List.getElem?_append_right (by omega), Nat.add_sub_cancel_left]; exact marksHolds_at j (by omega)
        have hcy := HC.out _ _ hx'
        have hmx : ∀ j, wr.cell? ⟨g, j, none⟩ = w.cell? ⟨g, j, none⟩ := fun j => K1.out.cell (p := ⟨g, j, none⟩) hbg
        have c0 := ExtBy.cell ((hmx _).trans (hcy 0 (.string (markB 1 j)) rfl)); have c1 := ExtBy.cell ((hmx _).trans (hcy 1 (.int .i64 0) rfl)); have c2 := ExtBy.cell ((hmx _).trans (hcy 2 (.int .i64 0) rfl)); have c3 := ExtBy.cell ((hmx _).trans (hcy 3 (.slice none 0 0) rfl)); have c4 := ExtBy.cell ((hmx _).trans (hcy 4 (.slice none 0 0) rfl)); have c5 := ExtBy.cell ((hmx _).trans (hcy 5 (.bool false) rfl)); have c6 := ExtBy.cell ((hmx _).trans (hcy 6 (.string ⟨#[]⟩) rfl))
        simp only [Nat.add_zero, Nat.zero_add] at c0 c1 c2 c3 c4 c5 c6
        have hc1 := fun W => markHold_calls 1 j W
        have hc2 := fun W => sameHold_calls (markHoldV 1 j) (markHoldV 1 j) (markHoldD 1 j) (fun _ => False) (fun _ => False) W (markHold_is 1 j W _) (markHold_is 1 j W _) (by simp [markHoldD]) (by simp [markHoldD])
        rw [show (encHV (markHoldV 1 j)).toArray = #[.string (markB 1 j), .int .i64 0, .int .i64 0, .slice none 0 0, .slice none 0 0, .bool false, .string ⟨#[]⟩] from rfl] at hc1 hc2
        have HM := Lib.hid hc1; have HM2 := Lib.hid hc2
        have j0 : (0 : Int) ≤ (l.length : Int) + (j : Int) := by omega
        have j2 : (l.length : Int) + (j : Int) < (l.length : Int) + 12 := by omega
        have g1 : decide ((l.length : Int) + (j : Int) < (l.length : Int)) = false := decide_eq_false (by omega)
        have g2 : decide ((l.length : Int) ≤ (l.length : Int) + (j : Int)) = true := decide_eq_true (by omega)
        have hw1 : IntKind.i64.wrap ((l.length : Int) + (j : Int) - (l.length : Int)) = (j : Int) := by rw [show (l.length : Int) + (j : Int) - (l.length : Int) = (j : Int) from by omega]; exact IntWalk.i64_in _ (by omega)
        clear hx' hcy hmx hc1 hc2
        go_wp2_with fail
        refine wp_region_ext (by kernel_rfl) (by kernel_rfl) ?_
        repeat (go_big_quiet_step (first | (with_reducible exact Calls.ext_of _ (HM.out _)) | (with_reducible exact Calls.ext_of _ (HM2.out _))))
        refine wpQuiet_nil ?_
        intro _ hw'
        obtain ⟨⟨w7, hx7⟩, hw''⟩ := hw'
        have X7 := Lib.hid (Ext.trans K1.out hx7)
        subst hw''
        clear hx7
        go_wp2_with fail
        go_roundw
        case rel => exact ⟨l.length + j + 1, by omega, by go_num, X7.out⟩
        case measure => simp [intOf]; omega
      · go_wp2_with fail
        go_ret
        exact ⟨ret_bool rfl, K1.out⟩
end Go.Proofs.YtdmejbjpbjcfbaaGreatDoor
