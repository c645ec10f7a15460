/- A table of holds; own of one hold; lay, less, Of and Many at a table. -/
import Derived.Test.YtdmejbjpbjcfbaaGreatDoorDelH
import Derived.Test.YtdmejbjpbjcfbaaGreatDoorBusy
import Derived.Test.YtdmejbjpbjcfbaaGreatDoorRightsH
import Derived.Test.YtdmejbjpbjcfbaaGreatDoorSearchH
namespace Go.Proofs.YtdmejbjpbjcfbaaGreatDoor
open Go.RowKit

def dkey (d : HoldD) : List UInt8 := d.key.data.toList
def RiseD (l : List HoldD) : Prop := l.Pairwise fun a b => dkey a < dkey b
/-- A table of holds in block hb, its holds in the row v; their own rows lie in neither. -/
structure Tab (w : World) (hb : Nat) (v : Value) (ds : List HoldD) : Prop where
  blk : Blk w hb [v, .bool true] 90
  row : ∃ l : List HoldV, w.ownsRow 0 35 7 v l.length (l.flatMap encHV) ∧ HoldsAre w (fun b => b = hb ∨ v.ownBlock = some b) l ds
  rise : RiseD ds
  ok : ∀ d ∈ ds, d.ok ∧ holdB d = true
  few : ds.length ≤ 60
theorem Tab.ext {w w' : World} {hb : Nat} {v : Value} {ds : List HoldD} (h : Tab w hb v ds) (hx : Ext w w') : Tab w' hb v ds := by
  obtain ⟨l, h1, h2⟩ := h.row
  exact ⟨h.blk.ext' hx, ⟨l, own_ext h1 hx, h2.ext hx⟩, h.rise, h.ok, h.few⟩
theorem Tab.but {w w' : World} {hb : Nat} {v : Value} {ds : List HoldD} {S : Nat → Prop} (h : Tab w hb v ds) (hx : But S w w') (h1 : ¬ S hb) (h2 : ∀ j, v.ownBlock = some j → ¬ S j) (h3 : ∀ b, b < w.heap.size → S b → False) : Tab w' hb v ds := by
  obtain ⟨l, r1, r2⟩ := h.row
  exact ⟨h.blk.but hx h1, ⟨l, own_but r1 hx h2, r2.but hx (fun b hb e => (h3 b hb e).elim)⟩, h.rise, h.ok, h.few⟩
theorem Tab.apart {w : World} {hb : Nat} {v : Value} {ds : List HoldD} (h : Tab w hb v ds) : v.ownBlock ≠ some hb := by
  obtain ⟨l, r1, _⟩ := h.row
  exact own_ne r1 h.blk (by decide)
theorem Tab.lt {w : World} {hb : Nat} {v : Value} {ds : List HoldD} (h : Tab w hb v ds) {b : Nat} (hv : v.ownBlock = some b) : b < w.heap.size := by
  obtain ⟨l, r1, _⟩ := h.row
  exact (r1.lt b hv).2
theorem HoldD.ok.fits {d : HoldD} (h : d.ok) : d.fits := ⟨h.an, h.rn⟩
theorem Tab.fits {w : World} {hb : Nat} {v : Value} {ds : List HoldD} (h : Tab w hb v ds) : ∀ d ∈ ds, d.fits := fun d hd => (h.ok d hd).1.fits
theorem rise_of {w : World} {no : Nat → Prop} {vs : List HoldV} {ds : List HoldD} (h : HoldsAre w no vs ds) (hr : RiseD ds) : RiseV vs := by
  have hk := h.keys
  unfold RiseD at hr; unfold RiseV
  have h1 : (ds.map (·.key)).Pairwise (fun a b => a.data.toList < b.data.toList) := List.pairwise_map.2 hr
  rw [← hk] at h1
  exact (List.pairwise_map (f := fun v : HoldV => v.key) (R := fun a b : ByteArray => a.data.toList < b.data.toList)).1 h1
/-- A table's row, as it is read. -/
theorem Tab.rows {w : World} {hb : Nat} {v : Value} {ds : List HoldD} (h : Tab w hb v ds) : ∃ (l : List HoldV) (ao : Option Addr) (cap : Nat), v = .slice ao l.length cap ∧ l.length ≤ cap ∧ l.length = ds.length ∧ Rows 7 encHV w.heap.size w ao l ∧ w.ownsRow 0 35 7 v l.length (l.flatMap encHV) ∧ HoldsAre w (fun b => b = hb ∨ v.ownBlock = some b) l ds ∧ RiseV l := by
  obtain ⟨l, r1, r2⟩ := h.row
  obtain ⟨ao, c, hv, hlc, _, hr⟩ := Rows.own (enc := encHV) (sz := 7) (fun _ => rfl) r1
  exact ⟨l, ao, c, hv, hlc, r2.len, hr, r1, r2, rise_of r2 h.rise⟩

theorem Tab.keys {w : World} {hb : Nat} {v : Value} {ds : List HoldD} (h : Tab w hb v ds) {W : World} {no : Nat → Prop} {l : List HoldV} (ha : HoldsAre W no l ds) : ∀ x ∈ l, x.key.size ≤ 140737488351232 := by
  intro x hx
  obtain ⟨i, hi⟩ := List.mem_iff_getElem?.1 hx
  obtain ⟨d, hd, he⟩ := ha.at i x hi
  rw [he.key]
  exact (h.ok d (List.mem_of_getElem? hd)).1.ks
/-- own at one hold that lies in a row of one. -/
theorem own1_calls (x : HoldV) (d : HoldD) (ao : Option Addr) (cap : Nat) (w : World) (hr : Rows 7 encHV w.heap.size w ao [x]) (hx : x.is w (fun _ => False) d) (hf : d.fits) :
    Calls Tryz.prog 53 #[.slice ao 1 cap] w fun e w' => ∃ (g c : Nat) (cur : List Value) (x' : HoldV), e = .returned (.slice (some ⟨g, 0, none⟩) 1 c) ∧ 1 ≤ c ∧ c ≤ maxLen ∧ Blk w' g cur 35 ∧ cur.take 7 = encHV x' ∧ w.heap.size ≤ g ∧ x'.is w' (fun b => b = g ∨ b < w.heap.size) d ∧ Ext w w' := by
  refine (own_calls [x] [d] ao cap w (by simp) hr ⟨hx, trivial⟩ (fun d' hd' => by rw [List.mem_singleton.1 hd']; exact hf)).mono ?_
  rintro e w' ⟨v, l', rfl, hl, hown, hnew, hare, hxt⟩
  match l', hl with
  | [x'], _ =>
    rcases hown.2 with ⟨_, h0⟩ | ⟨g, c, cur, rfl, _, hg, hn, hm, hcs, htk⟩
    · simp at h0
    · refine ⟨g, c, cur.toList, x', rfl, hn, hm, blk_of hg, by simpa using htk, hnew g rfl, ?_, hxt⟩
      exact hare.1.mono (fun b _ e => e.elim (fun e => .inl (by rw [e]; rfl)) .inr)

/-- Where a hold of a key belongs, and the holds with one more. -/
def placeD (k : List UInt8) (ds : List HoldD) : Nat := (ds.takeWhile fun d => decide (dkey d < k)).length
def insD (d : HoldD) (ds : List HoldD) : List HoldD := ds.take (placeD (dkey d) ds) ++ d :: ds.drop (placeD (dkey d) ds)
theorem takeWhile_map_len {α β : Type} (f : α → β) (q : β → Bool) : ∀ l : List α, (l.takeWhile fun x => q (f x)).length = ((l.map f).takeWhile q).length
  | [] => rfl
  | a :: l => by
    rw [List.map_cons, List.takeWhile_cons, List.takeWhile_cons]
    split
    · rw [List.length_cons, List.length_cons, takeWhile_map_len f q l]
    · rfl
theorem HoldsAre.place {w : World} {no : Nat → Prop} {vs : List HoldV} {ds : List HoldD} (h : HoldsAre w no vs ds) (k : List UInt8) : placeH k vs = placeD k ds := by
  have h1 := takeWhile_map_len (fun v : HoldV => v.key) (fun s : ByteArray => decide (s.data.toList < k)) vs
  have h2 := takeWhile_map_len (fun d : HoldD => d.key) (fun s : ByteArray => decide (s.data.toList < k)) ds
  rw [h.keys, ← h2] at h1
  exact h1
/-- Is there a hold of a key? -/
def hasD (k : List UInt8) (ds : List HoldD) : Bool := ds.any fun d => decide (dkey d = k)
theorem placeD_le (k : List UInt8) (ds : List HoldD) : placeD k ds ≤ ds.length := by
  unfold placeD; exact (List.takeWhile_sublist _).length_le
end Go.Proofs.YtdmejbjpbjcfbaaGreatDoor
/- lay: a hold is laid where it belongs. -/
namespace Go.Proofs.YtdmejbjpbjcfbaaGreatDoor
open Go.RowKit

theorem nrise_ins {d : HoldD} {ds : List HoldD} (hr : RiseD ds) (hn : hasD (dkey d) ds = false) : RiseD (insD d ds) := by
  have hlt : ∀ (i : Nat) (y : HoldD), i < placeD (dkey d) ds → ds[i]? = some y → dkey y < dkey d := by
    intro i y hi hy
    have h1 : (ds.takeWhile fun z => decide (dkey z < dkey d))[i]? = some y := by
      rw [← hy]
      have hp := List.takeWhile_prefix (fun z => decide (dkey z < dkey d)) (l := ds)
      obtain ⟨t, ht⟩ := hp
      conv => rhs; rw [← ht]
      rw [List.getElem?_append_left hi]
    have := List.all_eq_true.1 (List.all_takeWhile (p := fun z => decide (dkey z < dkey d)) (l := ds)) y (List.mem_of_getElem? h1)
    simpa using this
  have hge : ∀ (y : HoldD), y ∈ ds.drop (placeD (dkey d) ds) → dkey d < dkey y := by
    intro y hy
    obtain ⟨i, hi⟩ := List.mem_iff_getElem?.1 hy
    rw [List.getElem?_drop] at hi
    have hyn : dkey y ≠ dkey d := by
      intro e
      unfold hasD at hn
      have := List.any_eq_false.1 hn y (List.mem_of_getElem? hi)
      simp [e] at this
    have hno : ¬ dkey y < dkey d := by
      have hp0 : ∃ z, ds[placeD (dkey d) ds]? = some z ∧ ¬ dkey z < dkey d := by
        have hlen : placeD (dkey d) ds < ds.length := by have := (List.getElem?_eq_some_iff.1 hi).1; omega
        refine ⟨ds[placeD (dkey d) ds], List.getElem?_eq_getElem hlen, ?_⟩
        have hd : (ds.dropWhile fun z => decide (dkey z < dkey d)) = ds.drop (placeD (dkey d) ds) := by
          unfold placeD
          conv => rhs; rw [← List.takeWhile_append_dropWhile (p := fun z => decide (dkey z < dkey d)) (l := ds), List.drop_append_of_le_length (by rw [List.takeWhile_append_dropWhile]; exact Nat.le_refl _)]
          rw [List.takeWhile_append_dropWhile, List.drop_length, List.nil_append]
        have hne : (ds.dropWhile fun z => decide (dkey z < dkey d)) ≠ [] := by rw [hd]; intro e; rw [List.drop_eq_nil_iff] at e; omega
        have h0 := List.head_dropWhile_not (fun z => decide (dkey z < dkey d)) hne
        have hh : (ds.dropWhile fun z => decide (dkey z < dkey d)).head hne = ds[placeD (dkey d) ds] := by
          have : (ds.dropWhile fun z => decide (dkey z < dkey d))[0]? = some ds[placeD (dkey d) ds] := by rw [hd, List.getElem?_drop, Nat.add_zero, List.getElem?_eq_getElem hlen]
          rw [← List.head?_eq_getElem?, List.head?_eq_some_head hne] at this
          exact Option.some.inj this
        rw [hh] at h0
        simpa using h0
      obtain ⟨z, hz, hzn⟩ := hp0
      rcases Nat.eq_zero_or_pos i with h0 | h0
      · subst h0; rw [Nat.add_zero, hz] at hi; rw [← Option.some.inj hi]; exact hzn
      · have : dkey z < dkey y := by
          obtain ⟨h1, e1⟩ := List.getElem?_eq_some_iff.1 hz
          obtain ⟨h2, e2⟩ := List.getElem?_eq_some_iff.1 hi
          have := List.pairwise_iff_getElem.1 hr _ _ h1 h2 (by omega)
          rwa [e1, e2] at this
        intro hlt2
        exact hzn (List.lt_trans this hlt2)
    rcases List.le_iff_lt_or_eq.1 (List.not_lt.1 hno) with h | h
    · exact h
    · exact absurd h.symm hyn
  unfold RiseD insD
  rw [List.pairwise_append]
  refine ⟨hr.sublist (List.take_sublist _ _), List.pairwise_cons.2 ⟨hge, hr.sublist (List.drop_sublist _ _)⟩, fun a ha b hb => ?_⟩
  obtain ⟨i, hi⟩ := List.mem_iff_getElem?.1 ha
  rw [List.getElem?_take] at hi
  split at hi
  · rename_i hil
    have hal := hlt i a hil hi
    rcases List.mem_cons.1 hb with rfl | hb
    · exact hal
    · exact List.lt_trans hal (hge b hb)
  · cases hi
theorem insD_len (d : HoldD) (ds : List HoldD) : (insD d ds).length = ds.length + 1 := by
  unfold insD
  rw [List.length_append, List.length_cons, List.length_take, List.length_drop]
  have := placeD_le (dkey d) ds; omega
theorem insD_mem {d x : HoldD} {ds : List HoldD} : x ∈ insD d ds ↔ x = d ∨ x ∈ ds := by
  unfold insD
  rw [List.mem_append, List.mem_cons]
  conv => rhs; rw [← List.take_append_drop (placeD (dkey d) ds) ds, List.mem_append]
  constructor
  · rintro (h | h | h)
    · exact .inr (.inl h)
    · exact .inl h
    · exact .inr (.inr h)
  · rintro (h | h | h)
    · exact .inr (.inl h)
    · exact .inl h
    · exact .inr (.inr h)

theorem lay_close {w wa wb : World} {hb P M : Nat} {v v' : Value} {ds : List HoldD} {d : HoldD} {l : List HoldV} {x' : HoldV} (T : Tab w hb v ds) (hare : HoldsAre w (fun b => b = hb ∨ v.ownBlock = some b) l ds) (hP : placeD (dkey d) ds = P)
    (hok : d.ok ∧ holdB d = true) (hnew : hasD (dkey d) ds = false) (hfew : ds.length < 60) (hno : v.ownBlock ≠ some hb) (xa : Ext w wa) (hM : w.heap.size ≤ M) (xi : x'.is wa (fun b => b < M) d)
    (hown : wb.ownsRow 0 35 7 v' (l.length + 1) ((l.take P ++ x' :: l.drop P).flatMap encHV)) (hk : Kept1 wa v v') (hbut : But (fun j => v.ownBlock = some j) wa wb) :
    (∃ v'', Tab (wb.setCell ⟨hb, 0, none⟩ v') hb v'' (insD d ds) ∧ (∀ j, v''.ownBlock = some j → v.ownBlock = some j ∨ w.heap.size ≤ j)) ∧ But (fun j => j = hb ∨ v.ownBlock = some j) w (wb.setCell ⟨hb, 0, none⟩ v') := by
  have hbl := T.blk.lt
  have hsz := xa.size
  have hB : But (fun j => j = hb ∨ v.ownBlock = some j) wa (wb.setCell ⟨hb, 0, none⟩ v') := (hbut.mono fun _ _ e => .inr e).setCell (fun _ => .inl rfl) v'
  have hv' : v'.ownBlock ≠ some hb := by
    intro e
    rcases hk hb e with e | e
    · exact hno e
    · omega
  have hblk : Blk (wb.setCell ⟨hb, 0, none⟩ v') hb [v', .bool true] 90 := ((T.blk.ext' xa).but hbut hno).set 0 v'
  have hlen : (l.take P ++ x' :: l.drop P).length = l.length + 1 := by
    have := placeD_le (dkey d) ds
    rw [hP] at this
    have := hare.len
    rw [List.length_append, List.length_cons, List.length_take, List.length_drop]; omega
  have ha : HoldsAre wa (fun b => (b = hb ∨ v.ownBlock = some b) ∨ v'.ownBlock = some b) (l.take P ++ x' :: l.drop P) (insD d ds) := by
    have h1 : HoldsAre wa (fun b => (b = hb ∨ v.ownBlock = some b) ∨ v'.ownBlock = some b) l ds := (hare.ext xa).mono fun b hb' e => by
      rcases e with e | e
      · exact e
      · rcases hk b e with e | e
        · exact .inr e
        · omega
    have h2 : x'.is wa (fun b => (b = hb ∨ v.ownBlock = some b) ∨ v'.ownBlock = some b) d := xi.mono fun b hb' e => by
      rcases e with (e | e) | e
      · omega
      · have := T.lt e; omega
      · rcases hk b e with e | e
        · have := T.lt e; omega
        · omega
    unfold insD
    rw [hP]
    exact HoldsAre.append (h1.take P) ⟨h2, h1.drop P⟩
  refine ⟨⟨v', ⟨hblk, ⟨l.take P ++ x' :: l.drop P, by rw [hlen]; exact own_setOther hown (a := ⟨hb, 0, none⟩) hv' v', (ha.but hB (fun b _ e => .inl e)).mono fun b _ e => e.elim (fun e => .inl (.inl e)) .inr⟩, nrise_ins T.rise hnew, fun x hx => ?_, by rw [insD_len]; omega⟩, fun j hj => ?_⟩, ?_⟩
  · rcases insD_mem.1 hx with rfl | hx
    · exact hok
    · exact T.ok x hx
  · rcases hk j hj with e | e
    · exact .inl e
    · exact .inr (by omega)
  · exact (Ext.but xa (fun _ => False)).trans hB (fun _ _ e => e.elim) (fun _ _ e => e)
theorem own_pos {w : World} {B : Nat} {e : TypeId} {size n : Nat} {v : Value} {xs : List Value} (h : w.ownsRow B e size v (n + 1) xs) : ∃ g cap, v = .slice (some ⟨g, 0, none⟩) (n + 1) cap := by
  rcases h.2 with ⟨_, h0⟩ | ⟨g, cap, cur, h, _⟩
  · omega
  · exact ⟨g, cap, h⟩
set_option maxRecDepth 100000 in
set_option maxHeartbeats 1600000 in
theorem lay_calls (x : HoldV) (d : HoldD) (hb : Nat) (v : Value) (ds : List HoldD) (w : World) (T : Tab w hb v ds) (hx : x.is w (fun _ => False) d) (hok : d.ok ∧ holdB d = true) (hnew : hasD (dkey d) ds = false) (hfew : ds.length < 60) :
    Calls Tryz.prog 52 #[.pointer (some ⟨hb, 0, none⟩), .agg (encHV x).toArray] w fun e w' => e = .returned (.tuple #[]) ∧ (∃ v', Tab w' hb v' (insD d ds) ∧ (∀ j, v'.ownBlock = some j → v.ownBlock = some j ∨ w.heap.size ≤ j)) ∧ But (fun j => j = hb ∨ v.ownBlock = some j) w w' := by
  obtain ⟨l, ao, cap, rfl, hlc, hll, hrows, hown, hare, hrise⟩ := T.rows
  have hlf : l.length ≤ 1000000 := by omega
  have hpl : placeH (dkey d) l = placeD (dkey d) ds := hare.place _
  have hpl2 : placeD (dkey d) ds ≤ l.length := by rw [hll]; exact placeD_le _ _
  have hkx : x.key = d.key := hx.key
  have HT := Lib.hid T; have HX := Lib.hid hx; have HOW := Lib.hid hown; have HAR := Lib.hid hare; have HOK := Lib.hid hok; have HNEW := Lib.hid hnew; have HLL := Lib.hid hll
  have HNO := Lib.hid T.apart
  have hcb := T.blk.cell 0
  simp only [List.getElem?_cons_zero] at hcb
  have hbl := T.blk.lt
  have HAT := Lib.hid (fun W (hW : Ext w W) => at_calls l ao cap hb x.key W hlf ((hrows.ext hW).mono hW.size) hrise ((hW.cell (p := ⟨hb, 0, none⟩) hbl).trans hcb))
  have HPL := Lib.hid (show placeH x.key.data.toList l = placeD (dkey d) ds by rw [hkx]; exact hpl)
  generalize hP : placeD (dkey d) ds = P at *
  have HP := Lib.hid hP
  have hpi : (P : Int) ≤ (l.length : Int) := by omega
  obtain ⟨key, cl, nm, xo, xn, xc, yo, yn, yc, put, value⟩ := x
  have HB : Hid (Blk (w.alloc (.cells #[.string key, .int .i64 cl, .int .i64 nm, .slice xo xn xc, .slice yo yn yc, .bool put, .string value] 35)) w.heap.size [.string key, .int .i64 cl, .int .i64 nm, .slice xo xn xc, .slice yo yn yc, .bool put, .string value] 35) := Lib.hid (Blk.new w [.string key, .int .i64 cl, .int .i64 nm, .slice xo xn xc, .slice yo yn yc, .bool put, .string value] 35)
  have XB : Hid (Ext w (w.alloc (.cells #[.string key, .int .i64 cl, .int .i64 nm, .slice xo xn xc, .slice yo yn yc, .bool put, .string value] 35))) := Lib.hid ((Below.refl _ w).alloc (Nat.le_refl _) _)
  clear T hx hown hare hok hnew hrows hrise hpl hkx hcb hll hP
  simp only [encHV]
  go_enter Tryz.func52, Tryz.ntmps52
  go_wp2_with fail
  refine (HAT.out _ XB.out).mono ?_
  rintro e w1 ⟨rfl, hx1⟩
  rw [HPL.out]
  have hb1 := HB.out.ext' hx1
  have X1 := Lib.hid (Ext.trans XB.out hx1)
  have hcb := (HT.out.ext X1.out).blk.cell 0
  simp only [List.getElem?_cons_zero] at hcb
  have c0 := hb1.cell 0; have c1 := hb1.cell 1; have c2 := hb1.cell 2; have c3 := hb1.cell 3; have c4 := hb1.cell 4; have c5 := hb1.cell 5; have c6 := hb1.cell 6
  simp only [List.getElem?_cons_zero, List.getElem?_cons_succ] at c0 c1 c2 c3 c4 c5 c6
  have hw2 : Ext w1 (w1.alloc (.cells #[.string key, .int .i64 cl, .int .i64 nm, .slice xo xn xc, .slice yo yn yc, .bool put, .string value] 35)).drew := ((Below.refl _ w1).alloc (Nat.le_refl _) _).drew
  have X2 := Lib.hid (Ext.trans X1.out hw2)
  have HO := Lib.hid (own1_calls ⟨key, cl, nm, xo, xn, xc, yo, yn, yc, put, value⟩ d (some ⟨w1.heap.size, 0, none⟩) 1 (w1.alloc (.cells #[.string key, .int .i64 cl, .int .i64 nm, .slice xo xn xc, .slice yo yn yc, .bool put, .string value] 35)).drew
    (by
      intro _
      refine ⟨_, 0, rfl, by simp, fun i y hi j u hj => ?_⟩
      obtain ⟨rfl, rfl⟩ : i = 0 ∧ y = ⟨key, cl, nm, xo, xn, xc, yo, yn, yc, put, value⟩ := by
        match i, hi with
        | 0, hi => simp at hi; exact ⟨rfl, hi.symm⟩
        | i + 1, hi => simp at hi
      rw [show 0 + 0 * 7 + j = j from by omega]
      exact ((Blk.new w1 [.string key, .int .i64 cl, .int .i64 nm, .slice xo xn xc, .slice yo yn yc, .bool put, .string value] 35).drew.cell j).trans hj) (HX.out.ext X2.out) HOK.out.1.fits)
  have hbl1 : hb < w1.heap.size := by have := X1.out.size; omega
  have hbne1 : hb ≠ w1.heap.size := by omega
  clear hx1 HAT hw2 hb1 HB
  go_wp2_with fail
  go_region_with (first
    | (go_at_call 53; refine HO.out.mono ?_; rintro e wa ⟨g, c, cur, x', rfl, hc1, hcm, hgb, hct, hgn, hxi, hxa⟩; have hca := (HT.out.ext (Ext.trans X2.out hxa)).blk.cell 0; simp only [List.getElem?_cons_zero] at hca; have XA := Lib.hid (Ext.trans X2.out hxa); have GB := Lib.hid hgb; have CT := Lib.hid hct; have XI := Lib.hid hxi; have GN := Lib.hid hgn; clear hgb hct hxi hxa hgn)
    | (go_at_call 107; refine (insert_calls l x' P (.slice ao l.length cap) g c cur wa hlf hpl2 (own_ext HOW.out XA.out) GB.out CT.out (fun e => by have h := GN.out; have h2 := X2.out.size; have h3 := HT.out.lt e; omega)).mono ?_; rintro e wb ⟨v', rfl, hown', hkept, hbut⟩; obtain ⟨g2, cp2, rfl⟩ := own_pos hown'; have hcc := ((HT.out.ext XA.out).blk.but hbut (fun e => HNO.out e)).cell 0; have hcf := ((HT.out.ext XA.out).blk.but hbut (fun e => HNO.out e)).free 0; simp only [List.getElem?_cons_zero] at hcc; have YO := Lib.hid hown'; have YK := Lib.hid hkept; have YB := Lib.hid hbut; clear hown' hkept hbut))
  all_goals
    go_end0
    have hfin := lay_close HT.out HAR.out HP.out HOK.out HNEW.out hfew HNO.out XA.out X2.out.size (XI.out.mono (fun b _ e => .inr e)) YO.out YK.out YB.out
    exact ⟨rfl, hfin⟩
end Go.Proofs.YtdmejbjpbjcfbaaGreatDoor
