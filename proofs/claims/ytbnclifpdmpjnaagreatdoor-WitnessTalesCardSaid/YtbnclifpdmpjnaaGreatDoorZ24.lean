/- awake: the two steps that the laws begin with. -/
import Derived.Test.YtbnclifpdmpjnaaGreatDoorZ23
namespace Go.Proofs.YtbnclifpdmpjnaaGreatDoor
open Go.RowKit
def putOf (c : Int) (k v : ByteArray) : StepD := ⟨c, 1, [⟨2, k, v, 0⟩], [], 0, 0⟩
def getOf (c : Int) (k v : ByteArray) : StepD := ⟨c, 1, [⟨1, k, ⟨#[]⟩, 0⟩], [⟨k, !v.toList.isEmpty, v⟩], 0, 0⟩
def putD : StepD := ⟨1, 1, [⟨2, ⟨#[107]⟩, ⟨#[53]⟩, 0⟩], [], 0, 0⟩
def getD2 : StepD := ⟨2, 1, [⟨1, ⟨#[107]⟩, ⟨#[]⟩, 0⟩], [⟨⟨#[107]⟩, true, ⟨#[53]⟩⟩], 0, 0⟩
theorem fit_pg : fitD [putD, getD2] = (2, 0) := by decide +kernel
theorem fit_gp : fitD [getD2, putD] = (0, 4) := by decide +kernel
theorem order_gp : orderD [getD2, putD] = some [putD, getD2] := by kernel_rfl
def MadeS (w : World) (d : StepD) (e : Ending) (w' : World) : Prop := ∃ z : StepZ, e = .returned (.agg (encStep z).toArray) ∧ z.d = d ∧ z.at w'.heap.size w' ∧ Ext w w'
theorem rows_blk {sz : Nat} {α : Type} {enc : α → List Value} (henc : ∀ a, (enc a).length = sz) {w : World} {g : Nat} {t : TypeId} {l : List α} (h : Blk w g (l.flatMap enc) t) (hl : l.length ≤ 1000) : Rows sz enc w.heap.size w (some ⟨g, 0, none⟩) l := by
  have hlen : (l.flatMap enc).length = l.length * sz := by
    clear h hl
    induction l with
    | nil => simp
    | cons a l ih => rw [List.flatMap_cons, List.length_append, ih, henc, List.length_cons]; rw [Nat.add_mul]; omega
  exact rows_of_own henc (own_of_blk (cap := l.length) h hlen (Nat.le_refl _) (by unfold maxLen; omega) (by rw [← hlen]; exact List.take_length))
set_option maxRecDepth 100000 in
theorem putS_calls (c : Int) (k v : ByteArray) (w : World) : Calls Tryz.prog 14 #[.int .i64 c, .string k, .string v] w (MadeS w (putOf c k v)) := by
  go_enter Tryz.func14, Tryz.ntmps14
  go_wp2_with fail
  obtain ⟨W, hW⟩ : ∃ W, W = ((w.alloc (.cells #[.int .i64 c, .int .i64 1, .slice (some ⟨w.heap.size + 1, 0, none⟩) 1 1, .slice none 0 0, .int .i64 0, .int .i64 0] 51)).alloc (.cells #[.int .u8 2, .string k, .string v, .int .i64 0] 114)) := ⟨_, rfl⟩
  have hb1 : Blk W w.heap.size [.int .i64 c, .int .i64 1, .slice (some ⟨w.heap.size + 1, 0, none⟩) 1 1, .slice none 0 0, .int .i64 0, .int .i64 0] 51 := by rw [hW]; exact (Blk.new w _ _).alloc _
  have hb2 : Blk W (w.heap.size + 1) [.int .u8 2, .string k, .string v, .int .i64 0] 114 := by
    have := Blk.new (w.alloc (.cells #[.int .i64 c, .int .i64 1, .slice (some ⟨w.heap.size + 1, 0, none⟩) 1 1, .slice none 0 0, .int .i64 0, .int .i64 0] 51)) [.int .u8 2, .string k, .string v, .int .i64 0] 114
    rw [hW]; simpa using this
  have hx : Ext w W := by rw [hW]; exact ((Below.refl _ w).alloc (Nat.le_refl _) _).alloc (by simp) _
  rw [← hW]
  refine bodyPost_ret (results_cell_row rfl _ _ w.heap.size 51 (encStep ⟨putOf c k v, some ⟨w.heap.size + 1, 0, none⟩, 1, none, 0⟩).toArray (0, 0) _ rfl hb1 Tryz.underlying51 rfl (by kernel_rfl)) rfl ?_
  exact ⟨⟨putOf c k v, some ⟨w.heap.size + 1, 0, none⟩, 1, none, 0⟩, rfl, rfl, ⟨rows_blk (enc := encAct) (fun _ => rfl) (l := [⟨2, k, v, 0⟩]) hb2 (by simp), fun h => absurd rfl h⟩, hx⟩
set_option maxRecDepth 100000 in
theorem getS_calls (c : Int) (k v : ByteArray) (w : World) : Calls Tryz.prog 15 #[.int .i64 c, .string k, .string v] w (MadeS w (getOf c k v)) := by
  go_enter Tryz.func15, Tryz.ntmps15
  go_wp2_with fail
  obtain ⟨W, hW⟩ : ∃ W, W = (((w.alloc (.cells #[.int .i64 c, .int .i64 1, .slice (some ⟨w.heap.size + 1, 0, none⟩) 1 1, .slice (some ⟨w.heap.size + 1 + 1, 0, none⟩) 1 1, .int .i64 0, .int .i64 0] 51)).alloc (.cells #[.int .u8 1, .string k, .string ⟨#[]⟩, .int .i64 0] 114)).alloc (.cells #[.string k, .bool (!v.toList.isEmpty), .string v] 117)) := ⟨_, rfl⟩
  have hb1 : Blk W w.heap.size [.int .i64 c, .int .i64 1, .slice (some ⟨w.heap.size + 1, 0, none⟩) 1 1, .slice (some ⟨w.heap.size + 1 + 1, 0, none⟩) 1 1, .int .i64 0, .int .i64 0] 51 := by rw [hW]; exact ((Blk.new w _ _).alloc _).alloc _
  have hb2 : Blk W (w.heap.size + 1) [.int .u8 1, .string k, .string ⟨#[]⟩, .int .i64 0] 114 := by
    have := (Blk.new (w.alloc (.cells #[.int .i64 c, .int .i64 1, .slice (some ⟨w.heap.size + 1, 0, none⟩) 1 1, .slice (some ⟨w.heap.size + 1 + 1, 0, none⟩) 1 1, .int .i64 0, .int .i64 0] 51)) [.int .u8 1, .string k, .string ⟨#[]⟩, .int .i64 0] 114).alloc (.cells #[.string k, .bool (!v.toList.isEmpty), .string v] 117)
    rw [hW]; simpa using this
  have hb3 : Blk W (w.heap.size + 1 + 1) [.string k, .bool (!v.toList.isEmpty), .string v] 117 := by
    have := Blk.new ((w.alloc (.cells #[.int .i64 c, .int .i64 1, .slice (some ⟨w.heap.size + 1, 0, none⟩) 1 1, .slice (some ⟨w.heap.size + 1 + 1, 0, none⟩) 1 1, .int .i64 0, .int .i64 0] 51)).alloc (.cells #[.int .u8 1, .string k, .string ⟨#[]⟩, .int .i64 0] 114)) [.string k, .bool (!v.toList.isEmpty), .string v] 117
    rw [hW]; simpa using this
  have hx : Ext w W := by rw [hW]; exact (((Below.refl _ w).alloc (Nat.le_refl _) _).alloc (by simp) _).alloc (by simp; omega) _
  rw [← hW]
  refine bodyPost_ret (results_cell_row rfl _ _ w.heap.size 51 (encStep ⟨getOf c k v, some ⟨w.heap.size + 1, 0, none⟩, 1, some ⟨w.heap.size + 1 + 1, 0, none⟩, 1⟩).toArray (0, 0) _ rfl hb1 Tryz.underlying51 rfl (by kernel_rfl)) rfl ?_
  exact ⟨⟨getOf c k v, some ⟨w.heap.size + 1, 0, none⟩, 1, some ⟨w.heap.size + 1 + 1, 0, none⟩, 1⟩, rfl, rfl, ⟨rows_blk (enc := encAct) (fun _ => rfl) (l := [⟨1, k, ⟨#[]⟩, 0⟩]) hb2 (by simp), rows_blk (enc := encRd) (fun _ => rfl) (l := [⟨k, !v.toList.isEmpty, v⟩]) hb3 (by simp)⟩, hx⟩
theorem getOf_eq : getOf 2 ⟨#[107]⟩ ⟨#[53]⟩ = getD2 := by unfold getOf getD2; rw [Lib.toList_data]; rfl
theorem steps_made {W : World} (y1 y2 : StepZ) (h1 : y1.at W.heap.size W) (h2 : y2.at W.heap.size W) {cs : Array Value} (e : cs = (encStep y1 ++ encStep y2).toArray) :
    StepsAt (W.alloc (.cells cs 51)) (some ⟨W.heap.size, 0, none⟩) [y1, y2] ∧ Ext W (W.alloc (.cells cs 51)) := by
  subst e
  have hx : Ext W (W.alloc (.cells (encStep y1 ++ encStep y2).toArray 51)) := (Below.refl _ W).alloc (Nat.le_refl _) _
  refine ⟨⟨?_, ?_⟩, hx⟩
  · exact rows_blk (enc := encStep) (fun _ => rfl) (l := [y1, y2]) (Blk.new W (encStep y1 ++ encStep y2) _) (by simp)
  · intro z hz
    simp only [List.mem_cons, List.not_mem_nil, or_false] at hz
    rcases hz with rfl | rfl
    · exact (h1.ext hx).mono hx.size
    · exact (h2.ext hx).mono hx.size
theorem putD_ok : putD.ok := ⟨by intro a ha; simp only [putD, List.mem_singleton] at ha; subst ha; exact ⟨by decide, by decide, by decide, by decide, by decide, by decide⟩, by decide, by decide, ⟨by decide, by decide⟩, ⟨by decide, by decide⟩, ⟨by decide, by decide⟩, ⟨by decide, by decide⟩⟩
theorem getD2_ok : getD2.ok := ⟨by intro a ha; simp only [getD2, List.mem_singleton] at ha; subst ha; exact ⟨by decide, by decide, by decide, by decide, by decide, by decide⟩, by decide, by decide, ⟨by decide, by decide⟩, ⟨by decide, by decide⟩, ⟨by decide, by decide⟩, ⟨by decide, by decide⟩⟩
theorem two_ok {y1 y2 : StepZ} (h1 : y1.d.ok) (h2 : y2.d.ok) : ∀ z ∈ [y1, y2], z.d.ok := by
  intro z hz
  simp only [List.mem_cons, List.not_mem_nil, or_false] at hz
  rcases hz with rfl | rfl
  · exact h1
  · exact h2
set_option maxRecDepth 100000 in
set_option maxHeartbeats 1600000 in
theorem awake_calls (w : World) (hlv : LV w.heap.size w) : Calls Tryz.prog 5 #[] w fun e w' => e = .returned (.bool true) ∧ Ext w w' := by
  have HLV := Lib.hid hlv
  clear hlv
  go_enter Tryz.func5, Tryz.ntmps5
  go_wp2_with fail
  refine (putS_calls 1 ⟨#[107]⟩ ⟨#[53]⟩ _).mono ?_
  rintro e w1 ⟨z1, rfl, hd1, hz1, hx1⟩
  have Z1 := Lib.hid hz1; have X1 := Lib.hid hx1; have D1 := Lib.hid (show z1.d = putD from hd1)
  clear hz1 hx1 hd1
  go_wp2_with fail
  refine (getS_calls 2 ⟨#[107]⟩ ⟨#[53]⟩ _).mono ?_
  rintro e w2 ⟨z2, rfl, hd2, hz2, hx2⟩
  have Z2 := Lib.hid hz2; have X2 := Lib.hid hx2; have D2 := Lib.hid (hd2.trans getOf_eq)
  clear hz2 hx2 hd2
  have e1 : encStep z1 = [.int .i64 1, .int .i64 1, .slice z1.ao 1 z1.ac, .slice z1.ro 0 z1.rc, .int .i64 0, .int .i64 0] := by unfold encStep; rw [D1.out]; rfl
  have e2 : encStep z2 = [.int .i64 2, .int .i64 1, .slice z2.ao 1 z2.ac, .slice z2.ro 1 z2.rc, .int .i64 0, .int .i64 0] := by unfold encStep; rw [D2.out]; rfl
  rw [e1, e2]
  have E1 := Lib.hid e1; have E2 := Lib.hid e2
  clear e1 e2
  go_wp2_with fail
  obtain ⟨W3, hW3⟩ : ∃ W3, W3 = ((w2.alloc (.cells #[.int .i64 1, .int .i64 1, .slice z1.ao 1 z1.ac, .slice z1.ro 0 z1.rc, .int .i64 0, .int .i64 0] 51)).alloc (.cells #[.int .i64 2, .int .i64 1, .slice z2.ao 1 z2.ac, .slice z2.ro 1 z2.rc, .int .i64 0, .int .i64 0] 51)) := ⟨_, rfl⟩
  have B1 : Hid (Blk W3 w2.heap.size [.int .i64 1, .int .i64 1, .slice z1.ao 1 z1.ac, .slice z1.ro 0 z1.rc, .int .i64 0, .int .i64 0] 51) := Lib.hid (by rw [hW3]; exact (Blk.new w2 _ _).alloc _)
  have B2 : Hid (Blk W3 (w2.heap.size + 1) [.int .i64 2, .int .i64 1, .slice z2.ao 1 z2.ac, .slice z2.ro 1 z2.rc, .int .i64 0, .int .i64 0] 51) := Lib.hid (by
    have := Blk.new (w2.alloc (.cells #[.int .i64 1, .int .i64 1, .slice z1.ao 1 z1.ac, .slice z1.ro 0 z1.rc, .int .i64 0, .int .i64 0] 51)) [.int .i64 2, .int .i64 1, .slice z2.ao 1 z2.ac, .slice z2.ro 1 z2.rc, .int .i64 0, .int .i64 0] 51
    rw [hW3]; simpa using this)
  have hx3 : Ext w2 W3 := by rw [hW3]; exact ((Below.refl _ w2).alloc (Nat.le_refl _) _).alloc (by simp) _
  have hz3 : W3.heap.size = w2.heap.size + 1 + 1 := by rw [hW3]; simp
  have X3 := Lib.hid (Ext.trans (Ext.trans X1.out X2.out) hx3)
  have hq1 : z1.at W3.heap.size W3 := ((Z1.out.ext X2.out).mono X2.out.size |>.ext hx3).mono hx3.size
  have hq2 : z2.at W3.heap.size W3 := (Z2.out.ext hx3).mono hx3.size
  have Q1 := Lib.hid hq1; have Q2 := Lib.hid hq2
  have HZ3 := Lib.hid hz3
  rw [← hW3, ← hz3]
  clear hW3 hx3 hq1 hq2 hz3 Z1 Z2
  have ok1 : Hid z1.d.ok := Lib.hid (by rw [D1.out]; exact putD_ok)
  have ok2 : Hid z2.d.ok := Lib.hid (by rw [D2.out]; exact getD2_ok)
  obtain ⟨hs4, hx4⟩ := steps_made z1 z2 Q1.out Q2.out (cs := #[.int .i64 1, .int .i64 1, .slice z1.ao 1 z1.ac, .slice z1.ro 0 z1.rc, .int .i64 0, .int .i64 0, .int .i64 2, .int .i64 1, .slice z2.ao 1 z2.ac, .slice z2.ro 1 z2.rc, .int .i64 0, .int .i64 0]) (by rw [E1.out, E2.out]; rfl)
  have X4 := Lib.hid (Ext.trans X3.out hx4)
  refine (fit_calls [z1, z2] _ 2 _ (by simp) hs4 (two_ok ok1.out ok2.out) ((HLV.out.below X4.out).up X4.out.size)).mono ?_
  rintro e w5 ⟨rfl, hx5⟩
  have hv : fitD ([z1, z2].map (·.d)) = (2, 0) := by
    show fitD [z1.d, z2.d] = _
    rw [D1.out, D2.out]; exact fit_pg
  rw [hv]
  have hx5' := Ext.trans hx4 hx5
  have X5 := Lib.hid (Ext.trans X3.out hx5')
  have P1 := Lib.hid (B1.out.ext' hx5'); have P2 := Lib.hid (B2.out.ext' hx5')
  have R1 := Lib.hid ((Q1.out.ext hx5').mono hx5'.size); have R2 := Lib.hid ((Q2.out.ext hx5').mono hx5'.size)
  clear hs4 hx4 hx5 hx5' hv X4 B1 B2 Q1 Q2
  have c0 := P1.out.cell 0; have c1 := P1.out.cell 1; have c2 := P1.out.cell 2; have c3 := P1.out.cell 3; have c4 := P1.out.cell 4; have c5 := P1.out.cell 5
  have d0 := P2.out.cell 0; have d1 := P2.out.cell 1; have d2 := P2.out.cell 2; have d3 := P2.out.cell 3; have d4 := P2.out.cell 4; have d5 := P2.out.cell 5
  simp only [List.getElem?_cons_zero, List.getElem?_cons_succ] at c0 c1 c2 c3 c4 c5 d0 d1 d2 d3 d4 d5
  go_wp2_with fail
  clear c0 c1 c2 c3 c4 c5 d0 d1 d2 d3 d4 d5
  obtain ⟨hs4, hx4⟩ := steps_made z2 z1 R2.out R1.out (cs := #[.int .i64 2, .int .i64 1, .slice z2.ao 1 z2.ac, .slice z2.ro 1 z2.rc, .int .i64 0, .int .i64 0, .int .i64 1, .int .i64 1, .slice z1.ao 1 z1.ac, .slice z1.ro 0 z1.rc, .int .i64 0, .int .i64 0]) (by rw [E1.out, E2.out]; rfl)
  have X6 := Lib.hid (Ext.trans X5.out hx4)
  refine (fit_calls [z2, z1] _ 2 _ (by simp) hs4 (two_ok ok2.out ok1.out) ((HLV.out.below X6.out).up X6.out.size)).mono ?_
  rintro e w6 ⟨rfl, hx6⟩
  have hv : fitD ([z2, z1].map (·.d)) = (0, 4) := by
    show fitD [z2.d, z1.d] = _
    rw [D1.out, D2.out]; exact fit_gp
  rw [hv]
  have hx6' := Ext.trans hx4 hx6
  have X7 := Lib.hid (Ext.trans X5.out hx6')
  have S1 := Lib.hid (P1.out.ext' hx6'); have S2 := Lib.hid (P2.out.ext' hx6')
  have T1 := Lib.hid ((R1.out.ext hx6').mono hx6'.size); have T2 := Lib.hid ((R2.out.ext hx6').mono hx6'.size)
  clear hs4 hx4 hx6 hx6' hv X6 P1 P2 R1 R2
  have c0 := S1.out.cell 0; have c1 := S1.out.cell 1; have c2 := S1.out.cell 2; have c3 := S1.out.cell 3; have c4 := S1.out.cell 4; have c5 := S1.out.cell 5
  have d0 := S2.out.cell 0; have d1 := S2.out.cell 1; have d2 := S2.out.cell 2; have d3 := S2.out.cell 3; have d4 := S2.out.cell 4; have d5 := S2.out.cell 5
  simp only [List.getElem?_cons_zero, List.getElem?_cons_succ] at c0 c1 c2 c3 c4 c5 d0 d1 d2 d3 d4 d5
  go_wp2_with fail
  clear c0 c1 c2 c3 c4 c5 d0 d1 d2 d3 d4 d5
  obtain ⟨hs4, hx4⟩ := steps_made z2 z1 T2.out T1.out (cs := #[.int .i64 2, .int .i64 1, .slice z2.ao 1 z2.ac, .slice z2.ro 1 z2.rc, .int .i64 0, .int .i64 0, .int .i64 1, .int .i64 1, .slice z1.ao 1 z1.ac, .slice z1.ro 0 z1.rc, .int .i64 0, .int .i64 0]) (by rw [E1.out, E2.out]; rfl)
  have X8 := Lib.hid (Ext.trans X7.out hx4)
  refine (orderP_calls [z2, z1] _ 2 _ (by simp) hs4 (two_ok ok2.out ok1.out) ((HLV.out.below X8.out).up X8.out.size)).mono ?_
  rintro e w8 ⟨v, l', rfl, hl', hown, hnew, hmine, hx8⟩
  have hv : orderD ([z2, z1].map (·.d)) = some [putD, getD2] := by
    show orderD [z2.d, z1.d] = _
    rw [D1.out, D2.out]; exact order_gp
  rw [hv] at hl' ⊢
  have hx8' := Ext.trans hx4 hx8
  have X9 := Lib.hid (Ext.trans X7.out hx8')
  have k0 := (S1.out.ext' hx8').cell 0; have k1 := (S1.out.ext' hx8').cell 1
  simp only [List.getElem?_cons_zero, List.getElem?_cons_succ] at k0 k1
  have hlen2 : l'.length = 2 := by have := congrArg List.length hl'; simpa using this
  obtain ⟨y1, y2, rfl⟩ : ∃ y1 y2, l' = [y1, y2] := by
    cases l' with
    | nil => simp at hlen2
    | cons a t =>
      cases t with
      | nil => simp at hlen2
      | cons b t =>
        cases t with
        | nil => exact ⟨a, b, rfl⟩
        | cons c t => simp at hlen2
  · clear hlen2
    simp only [List.map_cons, List.map_nil, Option.getD_some, List.cons.injEq, and_true] at hl'
    obtain ⟨hy1, hy2⟩ := hl'
    obtain ⟨yo, yc, rfl, -, -, hrr⟩ := Rows.own (enc := encStep) (sz := 6) (fun _ => rfl) hown
    obtain ⟨b, off, rfl, hb, hcell⟩ := hrr (by simp)
    have m0 := hcell 0 y1 rfl 0 _ rfl; have m1 := hcell 0 y1 rfl 1 _ rfl
    rw [hy1] at m0 m1
    simp only [Nat.zero_mul, Nat.add_zero] at m0 m1
    clear hs4 hx4 hx8 hx8' hv S1 S2 T1 T2 hown hnew hmine hrr hcell
    simp only [List.length_cons, List.length_nil, Option.isSome_some, Nat.reduceAdd]
    have i0 : (0 : Int) < ((2 : Nat) : Int) := by decide
    go_wp2_with fail
    refine wp_region_ext (by kernel_rfl) (by kernel_rfl) ?_
    have m0' := ExtBy.cell m0; have m1' := ExtBy.cell m1; have k0' := ExtBy.cell k0; have k1' := ExtBy.cell k1
    have u0 : putD.cl = 1 := rfl
    have u1 : putD.nm = 1 := rfl
    rw [u0] at m0'
    rw [u1] at m1'
    clear m0 m1 k0 k1 u0 u1
    repeat (go_big_quiet_step (fail))
    refine wpQuiet_nil ?_
    intro wc hw'
    have hxc := Lib.hid (show Ext w wc by obtain ⟨p, rfl⟩ := hw'; exact Ext.trans X9.out p.ext)
    clear hw' m0' m1' k0' k1'
    go_wp2_with fail
    go_ret
    exact ⟨rfl, hxc.out⟩
end Go.Proofs.YtbnclifpdmpjnaaGreatDoor
/- Steps put behind steps. -/
namespace Go.Proofs.YtbnclifpdmpjnaaGreatDoor
open Go.RowKit
theorem stepAddW {ops : Array Oper} {o : Oper} {a : Act} {K : Act → World → Prop} {Q : Exit → Act → World → Prop} {E : Prop} (hgd : o.guard = none) (s x : Operand)
    (ho : o.op = .call { callee := .builtin .append, args := #[s, x], argTypes := #[41, 41] })
    {base W : World} {acc l : List StepZ} {v : Value} {xo : Option Addr} {c : Nat} (hs : a.eval s = v) (hx : a.eval x = .slice xo l.length c)
    (hown : W.ownsRow 0 51 6 v acc.length (acc.flatMap encStep)) (hnew : ∀ j, v.ownBlock = some j → base.heap.size ≤ j) (hext : Ext base W) (hr : Rows 6 encStep W.heap.size W xo l) (hlen : acc.length + l.length ≤ 1000) (m : List StepZ) (hm : acc ++ l = m)
    (h : ∀ so c' w', w'.ownsRow 0 51 6 (.slice so m.length c') m.length (m.flatMap encStep) → (∀ j, (Value.slice so m.length c').ownBlock = some j → base.heap.size ≤ j) → m.length ≤ c' → Ext base w' → But (fun k => v.ownBlock = some k) W w' → K (a.put o.dst (.slice so m.length c')) w') :
    if Region.wanted o (yielded ops a.tmps) = true then Oper.wp Tryz.prog o a W K Q else E := by
  obtain ⟨i0, hi, hz0, hz1, hz2⟩ := info_parts infoStep
  refine step_append_rows (enc := encStep) (size := 6) (fun _ => rfl) one_step hgd s x 41 ho 51 i0 _ 80 Tryz.underlying41 hi hz0 hz1 hz2 rfl (by decide) v acc.length (acc.flatMap encStep) hs hown xo l c hx hr (by unfold maxLen; omega) (by omega) ?_
  intro v' w' h1 h2 h3
  have h4 : w'.ownsRow 0 51 6 v' m.length (m.flatMap encStep) := by
    rw [← hm, List.length_append, List.flatMap_append]; exact h1
  obtain ⟨so, c', rfl, hc, -, -⟩ := Rows.own (enc := encStep) (sz := 6) (fun _ => rfl) h4
  refine h so c' w' h4 (fun j e => ?_) hc ?_ h2
  · rcases h3 j e with e | e
    · exact hnew j e
    · exact Nat.le_trans hext.size e
  · exact Below.trans hext (h2.below hext.size (fun i e => hnew i e))
theorem stepAddR {ops : Array Oper} {o : Oper} {a : Act} {K : Act → World → Prop} {Q : Exit → Act → World → Prop} {E : Prop} (hgd : o.guard = none) (s x : Operand)
    (ho : o.op = .call { callee := .builtin .append, args := #[s, x], argTypes := #[44, 44] })
    {base W : World} {acc l : List StepZ} {v : Value} {xo : Option Addr} {c : Nat} (hs : a.eval s = v) (hx : a.eval x = .slice xo l.length c)
    (hown : W.ownsRow 0 86 6 v acc.length (acc.flatMap encStep)) (hnew : ∀ j, v.ownBlock = some j → base.heap.size ≤ j) (hext : Ext base W) (hr : Rows 6 encStep W.heap.size W xo l) (hlen : acc.length + l.length ≤ 1000) (m : List StepZ) (hm : acc ++ l = m)
    (h : ∀ so c' w', w'.ownsRow 0 86 6 (.slice so m.length c') m.length (m.flatMap encStep) → (∀ j, (Value.slice so m.length c').ownBlock = some j → base.heap.size ≤ j) → m.length ≤ c' → Ext base w' → But (fun k => v.ownBlock = some k) W w' → K (a.put o.dst (.slice so m.length c')) w') :
    if Region.wanted o (yielded ops a.tmps) = true then Oper.wp Tryz.prog o a W K Q else E := by
  obtain ⟨i0, hi, hz0, hz1, hz2⟩ := info_parts infoStepR
  refine step_append_rows (enc := encStep) (size := 6) (fun _ => rfl) one_step hgd s x 44 ho 86 i0 _ 80 Tryz.underlying44 hi hz0 hz1 hz2 rfl (by decide) v acc.length (acc.flatMap encStep) hs hown xo l c hx hr (by unfold maxLen; omega) (by omega) ?_
  intro v' w' h1 h2 h3
  have h4 : w'.ownsRow 0 86 6 v' m.length (m.flatMap encStep) := by
    rw [← hm, List.length_append, List.flatMap_append]; exact h1
  obtain ⟨so, c', rfl, hc, -, -⟩ := Rows.own (enc := encStep) (sz := 6) (fun _ => rfl) h4
  refine h so c' w' h4 (fun j e => ?_) hc ?_ h2
  · rcases h3 j e with e | e
    · exact hnew j e
    · exact Nat.le_trans hext.size e
  · exact Below.trans hext (h2.below hext.size (fun i e => hnew i e))
theorem rowsOneS {w : World} {p : Nat} {z : StepZ} {t : TypeId} (h : Blk w p (encStep z) t) : Rows 6 encStep w.heap.size w (some ⟨p, 0, none⟩) [z] := rows_blk (enc := encStep) (sz := 6) (fun _ => rfl) (l := [z]) (by simpa using h) (by simp)
theorem elemSR : Tryz.prog.underlying 44 = some (.slice (Tryz.prog.elem 44)) := by kernel_rfl
theorem sizeSR : ∀ W, (sizeOf (Tryz.prog.elem 44)).run Tryz.prog W = .ok 6 W := fun W => by kernel_rfl
theorem slice_uptoT {t : TypeId} {sz : Nat} (ht : Tryz.prog.underlying t = some (.slice (Tryz.prog.elem t))) (hz : ∀ W, (sizeOf (Tryz.prog.elem t)).run Tryz.prog W = .ok sz W) (ao : Option Addr) (len cap n : Nat) (h : n ≤ cap) : ∃ ao', (∀ b off, ao = some ⟨b, off, none⟩ → ao' = ao) ∧ ∀ W, (Instr.slice t (.slice ao len cap) none (some (.int .i64 n)) none).run Tryz.prog W = .ok (.slice ao' n cap) W := by
  refine ⟨if cap = 0 then ao else ao.map (·.add (0 * sz)), fun b off e => ?_, fun W => ?_⟩
  · rw [e]; by_cases hc : cap = 0 <;> simp [hc, WideShapes.add_plain]
  · rw [run_slice_h W _ _ _ _ ht .i64 n (by omega) (by omega), hz W]
    simp only [Result.andThen_ok, sliced, Int.toNat_natCast, Nat.sub_zero]
theorem rows_toT {α : Type} {sz : Nat} {enc : α → List Value} {w : World} {ao ao' : Option Addr} {l : List α} (h : Rows sz enc w.heap.size w ao l) (ha : ∀ b off, ao = some ⟨b, off, none⟩ → ao' = ao) (k : Nat) : Rows sz enc w.heap.size w ao' (l.take k) := by
  intro hne
  have hl : l ≠ [] := fun e => hne (by rw [e]; simp)
  obtain ⟨b, off, e, hb, hc⟩ := h hl
  refine ⟨b, off, by rw [ha b off e, e], hb, fun i x hi => ?_⟩
  have hik : i < k := by
    rcases Nat.lt_or_ge i k with h1 | h1
    · exact h1
    · rw [List.getElem?_take_eq_none h1] at hi; cases hi
  rw [List.getElem?_take_of_lt hik] at hi
  exact hc i x hi
theorem rows_fromT {α : Type} {sz : Nat} {enc : α → List Value} {w : World} {ao ao' : Option Addr} {l : List α} {k : Nat} (h : Rows sz enc w.heap.size w ao l) (ha : k < l.length → ∀ b off, ao = some ⟨b, off, none⟩ → ao' = some ⟨b, off + k * sz, none⟩) : Rows sz enc w.heap.size w ao' (l.drop k) := by
  intro hne
  have hk : k < l.length := by
    rcases Nat.lt_or_ge k l.length with h1 | h1
    · exact h1
    · exact absurd (List.drop_eq_nil_of_le h1) hne
  obtain ⟨b, off, e, hb, hc⟩ := h (by intro e; rw [e] at hk; simp at hk)
  refine ⟨b, off + k * sz, ha hk b off e, hb, fun i x hi => ?_⟩
  rw [List.getElem?_drop] at hi
  intro j u hj
  have := hc (k + i) x hi j u hj
  rw [show off + k * sz + i * sz + j = off + (k + i) * sz + j from by rw [Nat.add_mul]; omega]
  exact this
end Go.Proofs.YtbnclifpdmpjnaaGreatDoor
