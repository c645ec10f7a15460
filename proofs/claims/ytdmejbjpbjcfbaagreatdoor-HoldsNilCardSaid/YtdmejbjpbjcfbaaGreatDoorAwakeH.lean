/- awake of layer 16: the example that every statement looks at first. -/
import Derived.Test.YtdmejbjpbjcfbaaGreatDoorOfH
namespace Go.Proofs.YtdmejbjpbjcfbaaGreatDoor
open Go.RowKit

def plainD (k : ByteArray) (c : Int) : HoldD := ⟨k, c, 1, [⟨1, k, ⟨#[]⟩, 0⟩], [⟨k, false, ⟨#[]⟩⟩], false, ⟨#[]⟩⟩
theorem rows_fresh {α : Type} {sz : Nat} {enc : α → List Value} (hsz : ∀ x, (enc x).length = sz) (l : List α) {w : World} {b : Nat} {t : TypeId} (hb : Blk w b (l.flatMap enc) t) (no : Nat → Prop) (hno : ¬ no b) : NRows sz enc no w (some ⟨b, 0, none⟩) l := by
  intro _
  refine ⟨b, 0, rfl, hb.lt, hno, fun i x hi j v hj => ?_⟩
  rw [hb.cell, Nat.zero_add]
  exact flat_at hsz l i x hi j v hj
set_option maxRecDepth 100000 in
theorem plain_calls (k : ByteArray) (c : Int) (w : World) : Calls Tryz.prog 46 #[.string k, .int .i64 c] w fun e w' => ∃ x : HoldV, e = .returned (.agg (encHV x).toArray) ∧ x.is w' (fun b => b < w.heap.size) (plainD k c) ∧ Ext w w' := by
  go_enter Tryz.func46, Tryz.ntmps46
  go_wp2_with fail
  obtain ⟨w3, hw3⟩ : ∃ w3, w3 = ((w.alloc (.cells #[.string k, .int .i64 c, .int .i64 1, .slice (some ⟨w.heap.size + 1, 0, none⟩) 1 1, .slice (some ⟨w.heap.size + 1 + 1, 0, none⟩) 1 1, .bool false, .string ⟨#[]⟩] 35)).alloc (.cells #[.int .u8 1, .string k, .string ⟨#[]⟩, .int .i64 0] 98)).alloc (.cells #[.string k, .bool false, .string ⟨#[]⟩] 100) := ⟨_, rfl⟩
  have hx : Ext w w3 := by rw [hw3]; exact (((Below.refl _ w).alloc (Nat.le_refl _) _).alloc (by simp) _).alloc (by simp; omega) _
  have h0 : Blk w3 w.heap.size [.string k, .int .i64 c, .int .i64 1, .slice (some ⟨w.heap.size + 1, 0, none⟩) 1 1, .slice (some ⟨w.heap.size + 1 + 1, 0, none⟩) 1 1, .bool false, .string ⟨#[]⟩] 35 := by rw [hw3]; exact ((Blk.new w _ _).alloc _).alloc _
  have h1 : Blk w3 (w.heap.size + 1) [.int .u8 1, .string k, .string ⟨#[]⟩, .int .i64 0] 98 := by
    have := (Blk.new (w.alloc (.cells #[.string k, .int .i64 c, .int .i64 1, .slice (some ⟨w.heap.size + 1, 0, none⟩) 1 1, .slice (some ⟨w.heap.size + 1 + 1, 0, none⟩) 1 1, .bool false, .string ⟨#[]⟩] 35)) [.int .u8 1, .string k, .string ⟨#[]⟩, .int .i64 0] 98).alloc (.cells #[.string k, .bool false, .string ⟨#[]⟩] 100)
    rw [World.size_alloc] at this
    rw [hw3]; exact this
  have h2 : Blk w3 (w.heap.size + 1 + 1) [.string k, .bool false, .string ⟨#[]⟩] 100 := by
    have := Blk.new ((w.alloc (.cells #[.string k, .int .i64 c, .int .i64 1, .slice (some ⟨w.heap.size + 1, 0, none⟩) 1 1, .slice (some ⟨w.heap.size + 1 + 1, 0, none⟩) 1 1, .bool false, .string ⟨#[]⟩] 35)).alloc (.cells #[.int .u8 1, .string k, .string ⟨#[]⟩, .int .i64 0] 98)) [.string k, .bool false, .string ⟨#[]⟩] 100
    rw [World.size_alloc, World.size_alloc] at this
    rw [hw3]; exact this
  rw [← hw3]
  have c0 := h0.cell 0; have c1 := h0.cell 1; have c2 := h0.cell 2; have c3 := h0.cell 3; have c4 := h0.cell 4; have c5 := h0.cell 5; have c6 := h0.cell 6
  simp only [List.getElem?_cons_zero, List.getElem?_cons_succ] at c0 c1 c2 c3 c4 c5 c6
  refine bodyPost_ret (v := .agg (encHV ⟨k, c, 1, some ⟨w.heap.size + 1, 0, none⟩, 1, 1, some ⟨w.heap.size + 1 + 1, 0, none⟩, 1, 1, false, ⟨#[]⟩⟩).toArray) (by simp [results, Tryz.results46, go_sem, c0, c1, c2, c3, c4, c5, c6, encHV]) rfl ⟨_, rfl, ?_, hx⟩
  exact ⟨rfl, rfl, rfl, rfl, rfl, rfl, rfl, rows_fresh (enc := encAct) (sz := 4) (fun _ => rfl) [⟨1, k, ⟨#[]⟩, 0⟩] h1 _ (by show ¬ w.heap.size + 1 < _; omega), rows_fresh (enc := encRd) (sz := 3) (fun _ => rfl) [⟨k, false, ⟨#[]⟩⟩] h2 _ (by show ¬ w.heap.size + 1 + 1 < _; omega)⟩

def kB : ByteArray := ⟨#[107]⟩
theorem exE : putE [plainD kB 1] [] = 0 := by kernel_rfl
theorem exT : insAll [plainD kB 1] [] = [plainD kB 1] := by kernel_rfl
theorem exB1 : busyL (fun k => hasD k [plainD kB 1]) (nameD [plainD kB 1]) 1 1 (sortL (bytesL [kB])) = (0, 0, false) := by kernel_rfl
theorem exB2 : busyL (fun k => hasD k [plainD kB 1]) (nameD [plainD kB 1]) 2 1 (sortL (bytesL [kB])) = (1, 1, true) := by kernel_rfl
theorem empty_size : (⟨#[]⟩ : ByteArray).size = 0 := rfl
theorem plain_ok (k : ByteArray) (c : Int) (hk : k.size ≤ 140737488351232) : (plainD k c).ok :=
  ⟨fun a ha => by
    rw [show (plainD k c).acts = [⟨1, k, ⟨#[]⟩, 0⟩] from rfl, List.mem_singleton] at ha
    subst ha; exact ⟨by show (0 : Int) ≤ 1; omega, by show (1 : Int) ≤ 255; omega, hk, by show (⟨#[]⟩ : ByteArray).size ≤ _; rw [empty_size]; omega, by show (_ : Int) ≤ 0; omega, by show (0 : Int) ≤ _; omega⟩, by simp [plainD], by simp [plainD], hk, by show (⟨#[]⟩ : ByteArray).size ≤ _; rw [empty_size]; omega, fun r hr => by
    rw [show (plainD k c).reads = [⟨k, false, ⟨#[]⟩⟩] from rfl, List.mem_singleton] at hr
    subst hr; show (⟨#[]⟩ : ByteArray).size ≤ _; rw [empty_size]; omega⟩
theorem Tab.new (w : World) : Tab (w.alloc (.cells #[.slice none 0 0, .bool true] 90)) w.heap.size (.slice none 0 0) [] :=
  ⟨Blk.new w _ _, ⟨[], World.ownsRow_nil _ _ _ _, trivial⟩, List.Pairwise.nil, fun d hd => by simp at hd, by decide⟩
/-- One hold in a row of one, as buildSlice lays it. -/
theorem rows_one (x : HoldV) {w : World} {b : Nat} {t : TypeId} (hb : Blk w b (encHV x) t) (no : Nat → Prop) (hno : ¬ no b) : NRows 7 encHV no w (some ⟨b, 0, none⟩) [x] :=
  rows_fresh (enc := encHV) (sz := 7) (fun _ => rfl) [x] (by simpa using hb) no hno

set_option maxRecDepth 100000 in
set_option maxHeartbeats 1600000 in
theorem awake_calls (w : World) : Calls Tryz.prog 9 #[] w fun e w' => e = .returned (.bool true) ∧ Ext w w' := by
  go_enter Tryz.func9, Tryz.ntmps9
  go_wp2_with fail
  refine (new_calls w).mono ?_
  rintro e w1 ⟨rfl, hw1⟩
  have hT1 : Tab w1 w.heap.size (.slice none 0 0) [] := by rw [hw1]; exact Tab.new w
  have hx1 : Ext w w1 := by rw [hw1]; exact (Below.refl _ w).alloc (Nat.le_refl _) _
  have T1 := Lib.hid hT1; have X1 := Lib.hid hx1
  clear hw1 hT1 hx1
  have HPL : Hid (∀ W, Calls Tryz.prog 46 #[.string ⟨#[107]⟩, .int .i64 1] W fun e w' => ∃ x : HoldV, e = .returned (.agg (encHV x).toArray) ∧ x.is w' (fun b => b < W.heap.size) (plainD kB 1) ∧ Ext W w') := Lib.hid (plain_calls kB 1)
  go_wp2_with fail
  refine (HPL.out _).mono ?_
  rintro e w2 ⟨x, rfl, hx, hx2⟩
  have hxx : Ext w2 (w2.alloc (.cells (encHV x).toArray 35)) := (Below.refl _ w2).alloc (Nat.le_refl _) _
  have hbl := T1.out.blk.lt
  have hP := put_calls w.heap.size (.slice none 0 0) [] [x] [plainD kB 1] (some ⟨w2.heap.size, 0, none⟩) 1 (w2.alloc (.cells (encHV x).toArray 35)) (T1.out.ext (Ext.trans hx2 hxx)) (by simp)
    (rows_one x (Blk.new w2 (encHV x) _) _ (fun e => e.elim (fun e => by have := hx2.size; omega) (fun e => by simp [Value.ownBlock] at e)))
    ⟨(hx.ext hxx).mono (fun b _ e => e.elim (fun e => by omega) (fun e => by simp [Value.ownBlock] at e)), trivial⟩ (fun d hd => by rw [List.mem_singleton.1 hd]; exact plain_ok kB 1 (by decide))
  have X2 := Lib.hid (Ext.trans X1.out (Ext.trans hx2 hxx))
  obtain ⟨key, cl, nm, xo, xn, xc, yo, yn, yc, put, value⟩ := x
  have HP := Lib.hid hP
  clear hx hx2 hxx hP
  simp only [encHV] at HP X2
  simp only [encHV]
  go_wp2_with fail
  refine HP.out.mono ?_
  rintro e w3 ⟨rfl, ⟨v, hT3, hv3⟩, hb3, -⟩
  rw [exE]
  have hT3' : Tab w3 w.heap.size v [plainD kB 1] := by
    unfold putT at hT3
    rw [if_pos exE, exT] at hT3
    exact hT3
  have X3 : Hid (Ext w w3) := Lib.hid ((Ext.but X2.out (fun _ => False)).trans hb3 (U := fun j => w.heap.size ≤ j) (fun _ _ e => e.elim) (fun i hi e => by
    rcases e with e | e
    · omega
    · simp [Value.ownBlock] at e) |>.ext (fun j hj e => by omega))
  have T3 := Lib.hid hT3'
  clear hT3 hT3' hb3 hv3
  have HB1 := Lib.hid (fun W (hW : Ext w3 W) ao cap hr => busyT_calls w.heap.size v [plainD kB 1] 1 1 [kB] ao cap W (T3.out.ext hW) (by simp) hr)
  have HB2 := Lib.hid (fun W (hW : Ext w3 W) ao cap hr => busyT_calls w.heap.size v [plainD kB 1] 2 1 [kB] ao cap W (T3.out.ext hW) (by simp) hr)
  have E1 : Hid (Ext w3 (w3.alloc (.cells #[.string ⟨#[107]⟩] 9))) := Lib.hid ((Below.refl _ w3).alloc (Nat.le_refl _) _)
  go_wp2_with fail
  refine (HB1.out _ E1.out _ _ (rows_fresh (enc := encStr) (sz := 1) (fun _ => rfl) [kB] (Blk.new w3 [.string ⟨#[107]⟩] 9) (fun _ => False) (fun e => e)).rows).mono ?_
  rintro e w4 ⟨⟨r, hr, rfl⟩, hx4⟩
  rw [exB1] at hr
  subst hr
  have X4 := Lib.hid (Ext.trans E1.out hx4)
  have hN : Ext w4 (w4.alloc (.cells #[.int .i64 0, .int .i64 0] 24)) := (Below.refl _ w4).alloc (Nat.le_refl _) _
  have E2 : Hid (Ext w3 ((w4.alloc (.cells #[.int .i64 0, .int .i64 0] 24)).alloc (.cells #[.string ⟨#[107]⟩] 9))) := Lib.hid (Ext.trans X4.out (Ext.trans hN ((Below.refl _ _).alloc (Nat.le_refl _) _)))
  clear hx4 hN
  go_wp2_with fail
  have hsz : (w4.alloc (.cells #[.int .i64 0, .int .i64 0] 24)).heap.size = w4.heap.size + 1 := by simp
  have hrk := (rows_fresh (enc := encStr) (sz := 1) (fun _ => rfl) [kB] (Blk.new (w4.alloc (.cells #[.int .i64 0, .int .i64 0] 24)) [.string ⟨#[107]⟩] 9) (fun _ => False) (fun e => e)).rows
  rw [hsz] at hrk
  refine (HB2.out _ E2.out _ _ hrk).mono ?_
  rintro e w5 ⟨⟨r, hr, rfl⟩, hx5⟩
  rw [exB2] at hr
  subst hr
  have X5 := Lib.hid (Ext.trans E2.out hx5)
  have hM : ∀ W, Ext w3 W → Calls Tryz.prog 16 #[.pointer (some ⟨w.heap.size, 0, none⟩)] W fun e w' => e = .returned (.int .i64 1) ∧ W = w' := fun W hW => by
    have hT := T3.out.ext hW
    obtain ⟨l, ao, cap, hv, _, hll, _, _, _, _⟩ := hT.rows
    have h0 := hT.blk.cell 0
    simp only [List.getElem?_cons_zero] at h0
    rw [hv] at h0
    have := many_calls w.heap.size ao l.length cap W h0 (hT.blk.cell 1)
    rw [hll] at this
    exact this
  have HM := Lib.hid hM
  have E3 : Hid (Ext w3 (w5.alloc (.cells #[.int .i64 1, .int .i64 1] 24))) := Lib.hid (Ext.trans X5.out ((Below.refl _ _).alloc (Nat.le_refl _) _))
  clear hx5 hM hrk hsz
  go_wp2_with fail
  refine (HM.out _ E3.out).mono ?_
  rintro e w6 ⟨rfl, rfl⟩
  go_wp2_with fail
  go_ret
  exact ⟨ret_bool rfl, Ext.trans X3.out E3.out⟩
end Go.Proofs.YtdmejbjpbjcfbaaGreatDoor
