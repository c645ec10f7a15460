/- LentHold(s), KeptHold(s): holds lent, with marks behind them and behind their rows. -/
import Derived.Test.YtdmejbjpbjcfbaaGreatDoorLentReads
import Derived.Test.YtdmejbjpbjcfbaaGreatDoorOneH
import Derived.Test.YtdmejbjpbjcfbaaGreatDoorHoldR
import Derived.Test.YtdmejbjpbjcfbaaGreatDoorHoldDefs
import Derived.Deep.DeepMust
namespace Go.Proofs.YtdmejbjpbjcfbaaGreatDoor
open Go.RowKit

theorem NRows.left {α : Type} {sz : Nat} {enc : α → List Value} {no : Nat → Prop} {w : World} {ao : Option Addr} {l m : List α} (h : NRows sz enc no w ao (l ++ m)) : NRows sz enc no w ao l := by
  intro hne
  obtain ⟨b, off, rfl, hb, hn, hc⟩ := h (by simp [hne])
  refine ⟨b, off, rfl, hb, hn, fun i x hi => hc i x ?_⟩
  rw [List.getElem?_append_left (List.getElem?_eq_some_iff.1 hi).1]; exact hi
/-- A hold that was lent: marks stand behind its rows. -/
structure LentH (w : World) (no : Nat → Prop) (v : HoldV) (d : HoldD) : Prop where
  is : v.is w no d
  acts : NRows 4 encAct no w v.ao (d.acts ++ marksActs)
  reads : NRows 3 encRd no w v.ro (d.reads ++ marksReads)
  a0 : ∃ g, v.ao = some ⟨g, 0, none⟩
  r0 : ∃ g, v.ro = some ⟨g, 0, none⟩
  ac : d.acts.length + 12 ≤ v.ac ∧ v.ac ≤ maxLen
  rc : d.reads.length + 12 ≤ v.rc ∧ v.rc ≤ maxLen
theorem LentH.but {w w' : World} {no S : Nat → Prop} {v : HoldV} {d : HoldD} (h : LentH w no v d) (hx : But S w w') (hS : ∀ b, b < w.heap.size → S b → no b) : LentH w' no v d :=
  ⟨h.is.but hx hS, h.acts.but hx hS, h.reads.but hx hS, h.a0, h.r0, h.ac, h.rc⟩
theorem LentH.ext {w w' : World} {no : Nat → Prop} {v : HoldV} {d : HoldD} (h : LentH w no v d) (hx : Ext w w') : LentH w' no v d :=
  h.but (Ext.but hx (fun _ => False)) (fun _ _ e => e.elim)
theorem LentH.mono {w : World} {no no' : Nat → Prop} {v : HoldV} {d : HoldD} (h : LentH w no v d) (hno : ∀ b, b < w.heap.size → no' b → no b) : LentH w no' v d :=
  ⟨h.is.mono hno, h.acts.mono hno, h.reads.mono hno, h.a0, h.r0, h.ac, h.rc⟩
def LentAre (w : World) (no : Nat → Prop) (vs : List HoldV) (ds : List HoldD) : Prop := vs.length = ds.length ∧ ∀ (i : Nat) (v : HoldV) (d : HoldD), vs[i]? = some v → ds[i]? = some d → LentH w no v d
theorem LentAre.but {w w' : World} {no S : Nat → Prop} {vs : List HoldV} {ds : List HoldD} (h : LentAre w no vs ds) (hx : But S w w') (hS : ∀ b, b < w.heap.size → S b → no b) : LentAre w' no vs ds :=
  ⟨h.1, fun i v d hv hd => (h.2 i v d hv hd).but hx hS⟩
theorem LentAre.ext {w w' : World} {no : Nat → Prop} {vs : List HoldV} {ds : List HoldD} (h : LentAre w no vs ds) (hx : Ext w w') : LentAre w' no vs ds :=
  h.but (Ext.but hx (fun _ => False)) (fun _ _ e => e.elim)
theorem LentAre.mono {w : World} {no no' : Nat → Prop} {vs : List HoldV} {ds : List HoldD} (h : LentAre w no vs ds) (hno : ∀ b, b < w.heap.size → no' b → no b) : LentAre w no' vs ds :=
  ⟨h.1, fun i v d hv hd => (h.2 i v d hv hd).mono hno⟩
theorem LentAre.snoc {w : World} {no : Nat → Prop} {vs : List HoldV} {ds : List HoldD} {v : HoldV} {d : HoldD} (h : LentAre w no vs ds) (hv : LentH w no v d) : LentAre w no (vs ++ [v]) (ds ++ [d]) := by
  refine ⟨by rw [List.length_append, List.length_append, h.1]; rfl, fun i x y hx hy => ?_⟩
  by_cases hlt : i < vs.length
  · rw [List.getElem?_append_left hlt] at hx
    rw [List.getElem?_append_left (by rw [← h.1]; exact hlt)] at hy
    exact h.2 i x y hx hy
  · have hl := h.1
    have : i = vs.length := by
      have := (List.getElem?_eq_some_iff.1 hx).1
      simp at this; omega
    subst this
    rw [List.getElem?_append_right (Nat.le_refl _)] at hx
    rw [List.getElem?_append_right (by omega)] at hy
    simp [hl] at hx hy
    subst hx hy
    exact hv
theorem holdsAre_of {w : World} {no : Nat → Prop} : ∀ (vs : List HoldV) (ds : List HoldD), vs.length = ds.length → (∀ (i : Nat) (v : HoldV) (d : HoldD), vs[i]? = some v → ds[i]? = some d → v.is w no d) → HoldsAre w no vs ds
  | [], [], _, _ => trivial
  | [], _ :: _, h, _ => by simp at h
  | _ :: _, [], h, _ => by simp at h
  | v :: vs, d :: ds, h, k => ⟨k 0 v d rfl rfl, holdsAre_of vs ds (by simpa using h) fun i x y hx hy => k (i + 1) x y (by simpa using hx) (by simpa using hy)⟩
theorem LentAre.are {w : World} {no : Nat → Prop} {vs : List HoldV} {ds : List HoldD} (h : LentAre w no vs ds) : HoldsAre w no vs ds :=
  holdsAre_of vs ds h.1 fun i v d hv hd => (h.2 i v d hv hd).is
def markHoldV (k i : Int) : HoldV := ⟨markB k i, 0, 0, none, 0, 0, none, 0, 0, false, ⟨#[]⟩⟩
def markHoldD (k i : Int) : HoldD := ⟨markB k i, 0, 0, [], [], false, ⟨#[]⟩⟩
theorem markHold_is (k i : Int) (w : World) (no : Nat → Prop) : (markHoldV k i).is w no (markHoldD k i) :=
  ⟨rfl, rfl, rfl, rfl, rfl, rfl, rfl, fun h => absurd rfl h, fun h => absurd rfl h⟩
def marksHolds : List HoldV := (List.range 12).map fun i : Nat => markHoldV 1 (i : Int)
theorem marksHolds_len : marksHolds.length = 12 := by simp [marksHolds]
theorem marksHolds_at (i : Nat) (h : i < 12) : marksHolds[i]? = some (markHoldV 1 i) := by simp [marksHolds, h]
theorem marksHolds_succ (k : Nat) (h : k < 12) : marksHolds.take (k + 1) = marksHolds.take k ++ [markHoldV 1 k] := by
  rw [List.take_add_one, marksHolds_at k h]; rfl
set_option maxRecDepth 100000 in
set_option maxHeartbeats 1600000 in
theorem lentHold_calls (x : HoldV) (d : HoldD) (w : World) (hx : x.is w (fun _ => False) d) (ha : d.acts.length ≤ 1000000) (hr : d.reads.length ≤ 1000000) :
    Calls Tryz.prog 61 #[.agg (encHV x).toArray] w fun e w' => ∃ y : HoldV, e = .returned (.agg (encHV y).toArray) ∧ LentH w' (fun b => b < w.heap.size) y d ∧ Ext w w' := by
  obtain ⟨key, cl, nm, xo, xn, xc, yo, yn, yc, put, value⟩ := x
  obtain ⟨key', cl', nm', acts, reads, put', value'⟩ := d
  obtain ⟨e1, e2, e3, e4, e5, e6, e7, a1, r1⟩ := hx
  simp only at e1 e2 e3 e4 e5 e6 e7 a1 r1 ha hr
  subst e1 e2 e3 e4 e5 e6 e7
  have hw : ∃ w2, w2 = (w.alloc (.cells #[.string key, .int .i64 cl, .int .i64 nm, .slice xo acts.length xc, .slice yo reads.length yc, .bool put, .string value] 35)).alloc (.cells #[.string ⟨#[]⟩, .int .i64 0, .int .i64 0, .slice none 0 0, .slice none 0 0, .bool false, .string ⟨#[]⟩] 35) ∧ Ext w w2 ∧ Blk w2 w.heap.size [.string key, .int .i64 cl, .int .i64 nm, .slice xo acts.length xc, .slice yo reads.length yc, .bool put, .string value] 35 ∧ Blk w2 (w.heap.size + 1) [.string ⟨#[]⟩, .int .i64 0, .int .i64 0, .slice none 0 0, .slice none 0 0, .bool false, .string ⟨#[]⟩] 35 := by
    refine ⟨_, rfl, ((Below.refl _ w).alloc (Nat.le_refl _) _).alloc (by simp) _, (Blk.new w _ _).alloc _, ?_⟩
    have := Blk.new (w.alloc (.cells #[.string key, .int .i64 cl, .int .i64 nm, .slice xo acts.length xc, .slice yo reads.length yc, .bool put, .string value] 35)) [.string ⟨#[]⟩, .int .i64 0, .int .i64 0, .slice none 0 0, .slice none 0 0, .bool false, .string ⟨#[]⟩] 35
    rwa [World.size_alloc] at this
  obtain ⟨w2, e2, x2, b1, b2⟩ := hw
  have E2 := Lib.hid e2; have X2 := Lib.hid x2; have B1 := Lib.hid b1; have B2 := Lib.hid b2
  have A1 := Lib.hid a1.rows; have R1 := Lib.hid r1.rows
  clear e2 x2 b1 b2 a1 r1
  simp only [encHV]
  go_enter Tryz.func61, Tryz.ntmps61
  go_wp2_with fail
  rw [← E2.out]
  refine (lentActs_calls acts xo xc w2 ha ((A1.out.ext X2.out).mono X2.out.size)).mono ?_
  rintro e w3 ⟨g, c3, rfl, hc1, hc2, hrow, hg, hx3⟩
  have b3 := B1.out.ext' hx3; have b4 := B2.out.ext' hx3
  have k3 := b3.cell 3; have g3 := b3.free 3; have k4 := b3.cell 4
  simp only [List.getElem?_cons_zero, List.getElem?_cons_succ] at k3 k4
  have hN2 : w.heap.size + 1 < w2.heap.size := B2.out.lt
  have hX4 : Ext w (w3.setCell ⟨w.heap.size, 3, none⟩ (.slice (some ⟨g, 0, none⟩) acts.length c3)) := Below.setCell (p := ⟨w.heap.size, 3, none⟩) (Ext.trans X2.out hx3) (Nat.le_refl _) _
  have hq4 : NRows 4 encAct (fun b => b ≤ w.heap.size + 1) w3 (some ⟨g, 0, none⟩) (acts ++ marksActs) := fun hne => by
    obtain ⟨b, off, e, hb, hc⟩ := hrow hne
    obtain ⟨rfl, rfl⟩ : g = b ∧ 0 = off := by simpa using e
    exact ⟨g, 0, rfl, hb, by omega, hc⟩
  have X4 := Lib.hid hX4; have B3 := Lib.hid b3; have B4 := Lib.hid b4; have Q4 := Lib.hid hq4; have C1 := Lib.hid hc1; have C2 := Lib.hid hc2
  clear hrow hg hx3 hX4 b3 b4 hq4 hc1 hc2
  go_wp2_with fail
  refine (lentReads_calls reads yo yc _ hr ((R1.out.ext X4.out).mono X4.out.size)).mono ?_
  rintro e w5 ⟨g2, c5, rfl, hd1, hd2, hrow2, hg2, hx5⟩
  have b5 := (B3.out.set 3 (.slice (some ⟨g, 0, none⟩) acts.length c3)).ext' hx5
  have b6 := (B4.out.other (a := ⟨w.heap.size, 3, none⟩) (by simp) (.slice (some ⟨g, 0, none⟩) acts.length c3)).ext' hx5
  have hq5 : NRows 4 encAct (fun b => b ≤ w.heap.size + 1) w5 (some ⟨g, 0, none⟩) (acts ++ marksActs) := (Q4.out.but (But.set1 w3 w.heap.size 3 (.slice (some ⟨g, 0, none⟩) acts.length c3)) (fun b _ e => by show b ≤ _; omega)).ext hx5
  have hg2' : w3.heap.size ≤ g2 := by simpa using hg2
  have hN3 : w.heap.size + 1 < w3.heap.size := B4.out.lt
  have hq6 : NRows 3 encRd (fun b => b ≤ w.heap.size + 1) w5 (some ⟨g2, 0, none⟩) (reads ++ marksReads) := fun hne => by
    obtain ⟨b, off, e, hb, hc⟩ := hrow2 hne
    obtain ⟨rfl, rfl⟩ : g2 = b ∧ 0 = off := by simpa using e
    exact ⟨g2, 0, rfl, hb, by omega, hc⟩
  simp only [List.set_cons_zero, List.set_cons_succ] at b5
  have b7 := b5.set 4 (.slice (some ⟨g2, 0, none⟩) reads.length c5)
  simp only [List.set_cons_zero, List.set_cons_succ] at b7
  have k4 := b5.cell 4; have g4 := b5.free 4
  simp only [List.getElem?_cons_zero, List.getElem?_cons_succ] at k4
  have b8 := b6.other (a := ⟨w.heap.size, 4, none⟩) (by simp) (.slice (some ⟨g2, 0, none⟩) reads.length c5)
  have hX5 : Ext w (w5.setCell ⟨w.heap.size, 4, none⟩ (.slice (some ⟨g2, 0, none⟩) reads.length c5)) := Below.setCell (p := ⟨w.heap.size, 4, none⟩) (Ext.trans X4.out hx5) (Nat.le_refl _) _
  have X5 := Lib.hid hX5; have B5 := Lib.hid b7; have B6 := Lib.hid b8; have Q5 := Lib.hid hq5; have Q6 := Lib.hid hq6; have D1 := Lib.hid hd1; have D2 := Lib.hid hd2
  clear hrow2 hg2 hg2' hx5 hX5 b5 b6 b7 b8 hq5 hq6 hd1 hd2 k3 g3 B3 B4 X4 Q4
  have j0 := B5.out.cell 0; have j1 := B5.out.cell 1; have j2 := B5.out.cell 2; have j3 := B5.out.cell 3; have j4 := B5.out.cell 4; have j5 := B5.out.cell 5; have j6 := B5.out.cell 6
  have f0 := B6.out.free 0; have f1 := B6.out.free 1; have f2 := B6.out.free 2; have f3 := B6.out.free 3; have f4 := B6.out.free 4; have f5 := B6.out.free 5; have f6 := B6.out.free 6
  have i0 := B6.out.cell 0; have i1 := B6.out.cell 1; have i2 := B6.out.cell 2; have i3 := B6.out.cell 3; have i4 := B6.out.cell 4; have i5 := B6.out.cell 5; have i6 := B6.out.cell 6
  simp only [List.getElem?_cons_zero, List.getElem?_cons_succ] at j0 j1 j2 j3 j4 j5 j6 i0 i1 i2 i3 i4 i5 i6
  go_wp2_with fail
  have hb9 := B6.out.set7 (.string key) (.int .i64 cl) (.int .i64 nm) (.slice (some ⟨g, 0, none⟩) acts.length c3) (.slice (some ⟨g2, 0, none⟩) reads.length c5) (.bool put) (.string value)
  have hx9 := but_set7 (w5.setCell ⟨w.heap.size, 4, none⟩ (.slice (some ⟨g2, 0, none⟩) reads.length c5)) (w.heap.size + 1) (.string key) (.int .i64 cl) (.int .i64 nm) (.slice (some ⟨g, 0, none⟩) acts.length c3) (.slice (some ⟨g2, 0, none⟩) reads.length c5) (.bool put) (.string value)
  have Q7 := Lib.hid ((Q5.out.but (But.set1 w5 w.heap.size 4 (.slice (some ⟨g2, 0, none⟩) reads.length c5)) (fun b _ e => by show b ≤ _; omega)).but hx9 (fun b _ e => by show b ≤ _; omega))
  have Q8 := Lib.hid ((Q6.out.but (But.set1 w5 w.heap.size 4 (.slice (some ⟨g2, 0, none⟩) reads.length c5)) (fun b _ e => by show b ≤ _; omega)).but hx9 (fun b _ e => by show b ≤ _; omega))
  have X9 : Ext w _ := ((Ext.but X5.out (fun _ => False)).trans hx9 (U := fun j => j = w.heap.size + 1) (fun _ _ e => e.elim) (fun _ _ e => e)).ext (fun i hi e => by omega)
  refine bodyPost_ret (results_cell_row rfl _ _ (w.heap.size + 1) 35 (encHV ⟨key, cl, nm, some ⟨g, 0, none⟩, acts.length, c3, some ⟨g2, 0, none⟩, reads.length, c5, put, value⟩).toArray (0, 0) _ rfl hb9 Tryz.underlying35 rfl (by kernel_rfl)) rfl ?_
  have hno : ∀ b, b < w.heap.size → b ≤ w.heap.size + 1 := fun b h => by omega
  exact ⟨⟨key, cl, nm, some ⟨g, 0, none⟩, acts.length, c3, some ⟨g2, 0, none⟩, reads.length, c5, put, value⟩, rfl, ⟨⟨rfl, rfl, rfl, rfl, rfl, rfl, rfl, Q7.out.left.mono (fun b _ e => hno b e), Q8.out.left.mono (fun b _ e => hno b e)⟩, Q7.out.mono (fun b _ e => hno b e), Q8.out.mono (fun b _ e => hno b e), ⟨g, rfl⟩, ⟨g2, rfl⟩, ⟨C1.out, C2.out⟩, ⟨D1.out, D2.out⟩⟩, X9⟩
end Go.Proofs.YtdmejbjpbjcfbaaGreatDoor
