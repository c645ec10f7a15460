/- those: the holds of which a function tells yes, in memory of their own; the function is any one. -/
import Derived.Test.YtdmejbjpbjcfbaaGreatDoorOwnH
import Derived.Test.YtdmejbjpbjcfbaaGreatDoorInsH
namespace Go.Proofs.YtdmejbjpbjcfbaaGreatDoor
open Go.RowKit

/-- A function that tells of a hold by its key and name, wherever only blocks of S have turned. -/
def Asks (g : Nat) (lb : Array Value) (p : ByteArray → Int → Int → Bool) (S : Nat → Prop) (w : World) : Prop :=
  ∀ W, But S w W → ∀ x : HoldV, x.key.size ≤ 140737488351232 → Calls Tryz.prog g (#[.agg (encHV x).toArray] ++ lb) W fun e w' => e = .returned (.bool (p x.key x.cl x.nm)) ∧ Ext W w'
theorem Asks.but {g : Nat} {lb : Array Value} {p : ByteArray → Int → Int → Bool} {S : Nat → Prop} {w w' : World} (h : Asks g lb p S w) (hx : But S w w') : Asks g lb p S w' :=
  fun W hW => h W (hx.trans hW (fun _ _ e => e) (fun _ _ e => e))
theorem Asks.mono {g : Nat} {lb : Array Value} {p : ByteArray → Int → Int → Bool} {S T : Nat → Prop} {w : World} (h : Asks g lb p S w) (hS : ∀ i, T i → S i) : Asks g lb p T w :=
  fun W hW => h W (hW.mono fun i _ e => hS i e)
theorem Asks.ext {g : Nat} {lb : Array Value} {p : ByteArray → Int → Int → Bool} {S : Nat → Prop} {w w' : World} (h : Asks g lb p S w) (hx : Ext w w') : Asks g lb p S w' := h.but (hx.but S)
def HoldV.tells (p : ByteArray → Int → Int → Bool) (x : HoldV) : Bool := p x.key x.cl x.nm
def HoldD.tells (p : ByteArray → Int → Int → Bool) (x : HoldD) : Bool := p x.key x.cl x.nm
theorem HoldsAre.filter {w : World} {no : Nat → Prop} (p : ByteArray → Int → Int → Bool) : ∀ {vs : List HoldV} {ds : List HoldD}, HoldsAre w no vs ds → HoldsAre w no (vs.filter (·.tells p)) (ds.filter (·.tells p))
  | [], [], _ => trivial
  | [], _ :: _, h => h.elim
  | _ :: _, [], h => h.elim
  | v :: vs, d :: ds, h => by
    have e : v.tells p = d.tells p := by unfold HoldV.tells HoldD.tells; rw [h.1.key, h.1.cl, h.1.nm]
    have ih := HoldsAre.filter p h.2
    cases hd : d.tells p
    · rw [List.filter_cons_of_neg (by rw [e, hd]; decide), List.filter_cons_of_neg (by rw [hd]; decide)]; exact ih
    · rw [List.filter_cons_of_pos (by rw [e, hd]), List.filter_cons_of_pos hd]; exact ⟨h.1, ih⟩
theorem filter_succ {α : Type} (q : α → Bool) (l : List α) (k : Nat) (x : α) (h : l[k]? = some x) : (l.take (k + 1)).filter q = (l.take k).filter q ++ (if q x = true then [x] else []) := by
  rw [List.take_add_one, h, List.filter_append]; simp [List.filter_cons]

set_option maxRecDepth 100000 in
set_option maxHeartbeats 1600000 in
theorem those_calls (g : Nat) (lb : Array Value) (eg : ∀ args w, (callFunc g args).run Tryz.prog w = .ok (.enter g args) w) (p : ByteArray → Int → Int → Bool)
    (l : List HoldV) (ds : List HoldD) (no : Nat → Prop) (ao : Option Addr) (cap hb : Nat) (w : World) (hl : l.length ≤ 1000000) (hr : Rows 7 encHV w.heap.size w ao l) (hd : HoldsAre w no l ds) (hfit : ∀ d ∈ ds, d.fits)
    (hc : w.cell? ⟨hb, 0, none⟩ = some (.slice ao l.length cap)) (hks : ∀ x ∈ l, x.key.size ≤ 140737488351232) (hq : Asks g lb p (fun _ => False) w) :
    Calls Tryz.prog 49 #[.pointer (some ⟨hb, 0, none⟩), .func (.func g) #[] lb] w fun e w' => ∃ (v : Value) (l' : List HoldV), e = .returned v ∧ l'.length = (ds.filter (·.tells p)).length ∧ w'.ownsRow 0 35 7 v l'.length (l'.flatMap encHV) ∧ (∀ j, v.ownBlock = some j → w.heap.size ≤ j) ∧ HoldsAre w' (fun b => v.ownBlock = some b ∨ b < w.heap.size) l' (ds.filter (·.tells p)) ∧ Ext w w' := by
  obtain ⟨i0, hi, hz0, hz1, hz2⟩ := info_parts infoHold
  have HR := Lib.hid hr; have HD := Lib.hid hd; have HF := Lib.hid hfit; have HQ := Lib.hid hq; have HKS := Lib.hid hks
  clear hr hd hfit hq hks
  go_enter Tryz.func49, Tryz.ntmps49
  go_wp2_with fail
  go_loopw [5, 13] (fun v i wr => ∃ (k : Nat), k ≤ l.length ∧ i = .int .i64 k ∧ wr.ownsRow 0 35 7 v ((l.take k).filter (·.tells p)).length (((l.take k).filter (·.tells p)).flatMap encHV) ∧ (∀ j, v.ownBlock = some j → w.heap.size ≤ j) ∧ Ext w wr) (fun _ i _ => l.length - (intOf i).toNat)
  case atStart => exact ⟨0, by omega, rfl, World.ownsRow_nil _ _ _ _, by simp [Value.ownBlock], Below.refl _ _⟩
  case round =>
    obtain ⟨k, hk, rfl, hown, hnew, hx⟩ := hrel
    have K1 := Lib.hid hown; have K2 := Lib.hid hnew; have K4 := Lib.hid hx
    clear hown hnew hx
    by_cases hlt : k < l.length
    · obtain ⟨x, hx⟩ : ∃ x, l[k]? = some x := ⟨_, List.getElem?_eq_getElem hlt⟩
      obtain ⟨b, off, rfl, hb, hcell⟩ := HR.out (by intro e; rw [e] at hlt; simp at hlt)
      have hcx := hcell k x hx
      have hmove : ∀ j, wr.cell? ⟨b, j, none⟩ = w.cell? ⟨b, j, none⟩ := fun j => K4.out.cell (p := ⟨b, j, none⟩) hb
      have hfs := filter_succ (·.tells p) l k x hx
      have hfl : ((l.take k).filter (·.tells p)).length ≤ k := Nat.le_trans (List.length_filter_le ..) (List.length_take_le ..)
      have hax : ∀ W, Ext wr W → Calls Tryz.prog g (#[.agg (encHV x).toArray] ++ lb) W fun e w' => e = .returned (.bool (x.tells p)) ∧ Ext W w' := fun W hW => HQ.out W ((Ext.trans K4.out hW).but _) x (HKS.out x (List.mem_of_getElem? hx))
      obtain ⟨key, cl, nm, xo, xn, xc, yo, yn, yc, put, value⟩ := x
      have d0 := (hmove _).trans (hcx 0 _ rfl); have d1 := (hmove _).trans (hcx 1 _ rfl); have d2 := (hmove _).trans (hcx 2 _ rfl); have d3 := (hmove _).trans (hcx 3 _ rfl); have d4 := (hmove _).trans (hcx 4 _ rfl); have d5 := (hmove _).trans (hcx 5 _ rfl); have d6 := (hmove _).trans (hcx 6 _ rfl)
      simp only [Nat.add_zero] at d0
      have ii0 : (0 : Int) ≤ (k : Int) := by omega
      have i1 : (k : Int) < (l.length : Int) := by omega
      have HAX := Lib.hid hax; have HFS := Lib.hid hfs
      have hbox := Blk.new wr [.string key, .int .i64 cl, .int .i64 nm, .slice xo xn xc, .slice yo yn yc, .bool put, .string value] 35
      have hxb : Ext wr (wr.alloc (.cells #[.string key, .int .i64 cl, .int .i64 nm, .slice xo xn xc, .slice yo yn yc, .bool put, .string value] 35)) := (Below.refl _ wr).alloc (Nat.le_refl _) _
      have HB := Lib.hid hbox; have XB := Lib.hid hxb
      clear hx hcell hcx hmove hbox hxb hax hfs
      go_wp2_with fail
      refine (HAX.out _ XB.out).mono ?_
      rintro e w2 ⟨rfl, hx2⟩
      have hb2 := HB.out.ext' hx2
      have K5 := Lib.hid (Ext.trans XB.out hx2)
      have hlt2 := hb2.lt
      have c0 := hb2.cell 0; have c1 := hb2.cell 1; have c2 := hb2.cell 2; have c3 := hb2.cell 3; have c4 := hb2.cell 4; have c5 := hb2.cell 5; have c6 := hb2.cell 6
      simp only [List.getElem?_cons_zero, List.getElem?_cons_succ] at c0 c1 c2 c3 c4 c5 c6
      clear hb2 hx2 d0 d1 d2 d3 d4 d5 d6
      have CN := Lib.hid (cells_new w2 (encHV ⟨key, cl, nm, xo, xn, xc, yo, yn, yc, put, value⟩) 35)
      have E2 : Hid (Ext w2 (w2.alloc (.cells (encHV ⟨key, cl, nm, xo, xn, xc, yo, yn, yc, put, value⟩).toArray 35))) := Lib.hid ((Below.refl _ w2).alloc (Nat.le_refl _) _)
      cases hp : HoldV.tells p ⟨key, cl, nm, xo, xn, xc, yo, yn, yc, put, value⟩
      · have HP := Lib.hid hp; clear hp
        go_wp2_with fail
        go_roundw
        case rel =>
          refine ⟨k + 1, by omega, by go_num, ?_, K2.out, Ext.trans K4.out K5.out⟩
          rw [HFS.out, HP.out]
          simpa using own_ext K1.out K5.out
        case measure => simp [intOf]; omega
      · have HP := Lib.hid hp; clear hp
        generalize hF : (l.take k).filter (·.tells p) = F at *
        have HFF := Lib.hid hF; clear hF
        go_wp2_with (at_builtin; refine wpList_append_at _ rfl _ _ 22 rfl 35 i0 _ 7 104 Tryz.underlying22 hi hz0 hz1 hz2 rfl (by decide) _ F.length (F.flatMap encHV) rfl (own_ext (own_ext K1.out K5.out) E2.out) ⟨w2.heap.size, 0, none⟩ 1 1 (encHV ⟨key, cl, nm, xo, xn, xc, yo, yn, yc, put, value⟩) rfl rfl CN.out (one_hold _) (by decide) (by unfold maxLen; omega) (by omega) ?_; intro g cap2 w4 hown' hbut hkept; have Y1 := Lib.hid hown'; have Y2 := Lib.hid hbut; have Y3 := Lib.hid hkept; clear hown' hbut hkept)
        go_roundw
        case rel =>
          refine ⟨k + 1, by omega, by go_num, ?_, ?_, ?_⟩
          · have := Y1.out
            rw [HFS.out, HP.out]
            simpa using this
          · intro j hj
            rcases Y3.out j hj with e | e
            · exact K2.out j e
            · have e' := Nat.le_trans E2.out.size e; have := K5.out.size; have := K4.out.size; omega
          · exact Below.trans K4.out (((Ext.but (Ext.trans K5.out E2.out) (fun _ => False)).trans Y2.out (U := fun j => w.heap.size ≤ j) (fun _ _ e => e.elim) (fun i _ e => K2.out i e)).below K4.out.size (fun _ h => h))
        case measure => simp [intOf]; omega
    · have hall : (l.take k).filter (·.tells p) = l.filter (·.tells p) := by rw [List.take_of_length_le (by omega)]
      rw [hall] at K1
      have hfl : (l.filter (·.tells p)).length ≤ l.length := List.length_filter_le ..
      have hav := HoldsAre.filter p HD.out
      have hff : ∀ d ∈ ds.filter (·.tells p), d.fits := fun d hd => HF.out d (List.mem_filter.1 hd).1
      obtain ⟨oa, oc, rfl, _, _, hrow⟩ := Rows.own (enc := encHV) (sz := 7) (fun _ => rfl) K1.out
      have hlen := hav.len
      have HO := Lib.hid (own_calls _ _ oa oc wr (by omega) hrow ((hav.ext K4.out).mono (fun _ _ e => e.elim)) hff)
      have HLEN := Lib.hid hlen
      clear hall hav hff hrow hlen K1
      go_wp2_with fail
      refine HO.out.mono ?_
      rintro e w5 ⟨v, l', rfl, h1, h2, h3, h4, h5⟩
      have H1 := Lib.hid h1; have H2 := Lib.hid h2; have H3 := Lib.hid h3; have H4 := Lib.hid h4; have H5 := Lib.hid h5
      clear h1 h2 h3 h4 h5 HO
      go_wp2_with fail
      go_ret
      have hsz := K4.out.size
      exact ⟨v, l', rfl, H1.out.trans HLEN.out, H2.out, fun j hj => Nat.le_trans hsz (H3.out j hj), H4.out.mono (fun b _ e => e.elim .inl (fun h => .inr (Nat.lt_of_lt_of_le h hsz))), Ext.trans K4.out H5.out⟩
end Go.Proofs.YtdmejbjpbjcfbaaGreatDoor
/- slices.IndexFunc and slices.DeleteFunc at holds; the function is any one. -/
namespace Go.Proofs.YtdmejbjpbjcfbaaGreatDoor
open Go.RowKit

/-- Where the first hold of which the function tells yes lies; -1: there is none. -/
def FirstH (p : ByteArray → Int → Int → Bool) (l : List HoldV) (k : Int) : Prop :=
  (k = -1 ∧ ∀ x ∈ l, x.tells p = false) ∨ ∃ n : Nat, k = n ∧ n < l.length ∧ (∀ (i : Nat) (x : HoldV), i < n → l[i]? = some x → x.tells p = false) ∧ ∀ x, l[n]? = some x → x.tells p = true

set_option maxRecDepth 100000 in
set_option maxHeartbeats 800000 in
theorem indexG_calls (g : Nat) (lb : Array Value) (eg : ∀ args w, (callFunc g args).run Tryz.prog w = .ok (.enter g args) w) (p : ByteArray → Int → Int → Bool)
    (l : List HoldV) (ao : Option Addr) (cap : Nat) (w : World) (hl : l.length ≤ 1000000) (hks : ∀ x ∈ l, x.key.size ≤ 140737488351232) (hr : Rows 7 encHV w.heap.size w ao l) (hq : Asks g lb p (fun _ => False) w) :
    Calls Tryz.prog 124 #[.slice ao l.length cap, .func (.func g) #[] lb] w fun e w' => ∃ k : Int, e = .returned (.int .i64 k) ∧ FirstH p l k ∧ Ext w w' := by
  have HR := Lib.hid hr; have HF := Lib.hid hq; have HKS := Lib.hid hks
  clear hr hq hks
  go_enter Tryz.func124, Tryz.ntmps124
  go_wp2_with fail
  go_loopw [8] (fun i wr => ∃ (k : Nat), k ≤ l.length ∧ i = .int .i64 k ∧ (∀ (i : Nat) (x : HoldV), i < k → l[i]? = some x → x.tells p = false) ∧ Ext w wr) (fun i _ => l.length - (intOf i).toNat)
  case atStart => exact ⟨0, by omega, rfl, fun i x h => by omega, Below.refl _ _⟩
  case round =>
    obtain ⟨k, hk, rfl, ha, hx⟩ := hrel
    have K1 := Lib.hid ha; have K2 := Lib.hid hx
    clear ha hx
    by_cases hlt : k < l.length
    · obtain ⟨x, hx⟩ : ∃ x, l[k]? = some x := ⟨_, List.getElem?_eq_getElem hlt⟩
      obtain ⟨b, off, rfl, hb, hcell⟩ := HR.out (by intro e; rw [e] at hlt; simp at hlt)
      have hcx := hcell k x hx
      have hmove : ∀ j, wr.cell? ⟨b, j, none⟩ = w.cell? ⟨b, j, none⟩ := fun j => K2.out.cell (p := ⟨b, j, none⟩) hb
      have HX := Lib.hid hx
      have hcc : ∀ W, Ext wr W → Calls Tryz.prog g (#[.agg (encHV x).toArray] ++ lb) W fun e w' => e = .returned (.bool (x.tells p)) ∧ Ext W w' := fun W hW => HF.out W ((Ext.trans K2.out hW).but _) x (HKS.out x (List.mem_of_getElem? hx))
      obtain ⟨key, cl, nm, xo, xn, xc, yo, yn, yc, put, value⟩ := x
      have d0 := (hmove _).trans (hcx 0 _ rfl); have d1 := (hmove _).trans (hcx 1 _ rfl); have d2 := (hmove _).trans (hcx 2 _ rfl); have d3 := (hmove _).trans (hcx 3 _ rfl); have d4 := (hmove _).trans (hcx 4 _ rfl); have d5 := (hmove _).trans (hcx 5 _ rfl); have d6 := (hmove _).trans (hcx 6 _ rfl)
      simp only [Nat.add_zero] at d0
      have CC := Lib.hid hcc
      have i0 : (0 : Int) ≤ (k : Int) := by omega
      have i1 : (k : Int) < (l.length : Int) := by omega
      clear hcell hcx hmove hx hcc
      cases hrb : HoldV.tells p ⟨key, cl, nm, xo, xn, xc, yo, yn, yc, put, value⟩
      · have RB := Lib.hid hrb; clear hrb
        go_wp2_with fail
        refine (CC.out _ (Below.refl _ _)).mono ?_
        rw [RB.out]
        rintro e w' ⟨rfl, hx2⟩
        have X2 := Lib.hid hx2; clear hx2
        go_wp2_with fail
        go_roundw
        case rel =>
          refine ⟨k + 1, by omega, by go_num, fun i x hi hx => ?_, Ext.trans K2.out X2.out⟩
          rcases Nat.lt_or_ge i k with h | h
          · exact K1.out i x h hx
          · obtain rfl : i = k := by omega
            rw [HX.out] at hx
            rw [← Option.some.inj hx]; exact RB.out
        case measure => simp [intOf]; omega
      · have RB := Lib.hid hrb; clear hrb
        go_wp2_with fail
        refine (CC.out _ (Below.refl _ _)).mono ?_
        rw [RB.out]
        rintro e w' ⟨rfl, hx2⟩
        have X2 := Lib.hid hx2; clear hx2
        go_wp2_with fail
        go_ret
        exact ⟨k, ret_int (by omega), .inr ⟨k, rfl, hlt, K1.out, fun x hx => by rw [HX.out] at hx; rw [← Option.some.inj hx]; exact RB.out⟩, Ext.trans K2.out X2.out⟩
    · go_wp2_with fail
      go_ret
      refine ⟨-1, ret_int (by omega), .inl ⟨rfl, fun x hx => ?_⟩, K2.out⟩
      obtain ⟨i, hi⟩ := List.mem_iff_getElem?.1 hx
      exact K1.out i x (by have := (List.getElem?_eq_some_iff.1 hi).1; omega) hi

theorem run_clear_k {P : Program} (w : World) (t e ty : TypeId) (z : Value) (zc : Array Value) (ht : P.underlying t = some (.slice e)) (hv : ∀ w, (zeroValue e).run P w = .ok z w) (hz : z.cells = zc) (h1 : ∀ n, ∀ v ∈ (Builtin.zeroCells zc n).toList, v.oneCell' = true) (b o n c : Nat) (hn : 0 < n)
    (hc : ∀ j, j < n * zc.size → (w.cell? ⟨b, o + j, none⟩).isSome = true) (hf : ∀ j, j < n * zc.size → w.frozen? ⟨b, o + j, none⟩ = false) :
    (Builtin.clear_ #[t] ty #[.slice (some ⟨b, o, none⟩) n c]).run P w = .ok (.tuple #[]) (w.setCells b o (Builtin.zeroCells zc n).toList) := by
  have hl : (Builtin.zeroCells zc n).toList.length = n * zc.size := by rw [Array.length_toList, zc_size]
  have hst := run_storeCells_cells (P := P) b o (Builtin.zeroCells zc n).toList 0 w (by rw [hl]; simpa using hc) (by rw [hl]; simpa using hf) (h1 n)
  have hn0 : n ≠ 0 := by omega
  cases n with
  | zero => omega
  | succ m =>
    simp only [Nat.add_zero] at hst
    simp [Builtin.clear_, run_underlying ht, hv, hz, hst, Result.andThen]
theorem zeroH_one : ∀ n, ∀ v ∈ (Builtin.zeroCells zeroH n).toList, v.oneCell' = true := by
  intro n v hv
  simp only [Builtin.zeroCells, Array.toList_map, List.mem_map] at hv
  obtain ⟨i, _, rfl⟩ := hv
  have h : i % zeroH.size < 7 := Nat.mod_lt _ (by decide)
  have : ∀ k, k < 7 → (zeroH[k]!).oneCell' = true := by
    intro k hk
    match k, hk with
    | 0, _ => rfl
    | 1, _ => rfl
    | 2, _ => rfl
    | 3, _ => rfl
    | 4, _ => rfl
    | 5, _ => rfl
    | 6, _ => rfl
  exact this _ h

/-- The holds of which the function tells no. -/
def keepH (p : ByteArray → Int → Int → Bool) (l : List HoldV) : List HoldV := l.filter fun x => !x.tells p
theorem keepH_succ (p : ByteArray → Int → Int → Bool) (l : List HoldV) (k : Nat) (x : HoldV) (h : l[k]? = some x) : keepH p (l.take (k + 1)) = keepH p (l.take k) ++ (if x.tells p = true then [] else [x]) := by
  unfold keepH
  rw [filter_succ _ l k x h]
  cases x.tells p <;> rfl
theorem splice_get : ∀ (vs : List Value) (cs : List Value) (o k : Nat), o + vs.length ≤ k → (splice cs o vs)[k]? = cs[k]?
  | [], _, _, _, _ => rfl
  | v :: vs, cs, o, k, h => by
    rw [List.length_cons] at h
    rw [splice, splice_get vs _ (o + 1) k (by omega), List.getElem?_set_ne (by omega)]
/-- From element j on the cells still hold the elements. -/
def TailH (cs : List Value) (j : Nat) (l : List HoldV) : Prop := ∀ (i : Nat) (x : HoldV), j ≤ i → l[i]? = some x → ∀ (t : Nat) (v : Value), (encHV x)[t]? = some v → cs[i * 7 + t]? = some v
theorem take_splice (cs vs : List Value) (o : Nat) (h : o + vs.length ≤ cs.length) : (splice cs o vs).take (o + vs.length) = cs.take o ++ vs := by
  rw [splice_eq vs cs o h]
  have : (cs.take o ++ vs).length = o + vs.length := by rw [List.length_append, List.length_take]; omega
  rw [← this, List.take_left]
theorem take_splice' (cs vs : List Value) (o : Nat) (h : o + vs.length ≤ cs.length) : (splice cs o vs).take o = cs.take o := by
  rw [splice_eq vs cs o h, List.append_assoc]
  have : (cs.take o).length = o := by rw [List.length_take]; omega
  exact List.take_left' this

set_option maxRecDepth 100000 in
set_option maxHeartbeats 3200000 in
theorem del_calls (g : Nat) (lb : Array Value) (eg : ∀ args w, (callFunc g args).run Tryz.prog w = .ok (.enter g args) w) (p : ByteArray → Int → Int → Bool)
    (l : List HoldV) (v : Value) (w : World) (hl : l.length ≤ 1000000) (hks : ∀ x ∈ l, x.key.size ≤ 140737488351232) (hown : w.ownsRow 0 35 7 v l.length (l.flatMap encHV)) (hq : Asks g lb p (fun j => v.ownBlock = some j) w) :
    Calls Tryz.prog 113 #[v, .func (.func g) #[] lb] w fun e w' => ∃ v' : Value, e = .returned v' ∧ w'.ownsRow 0 35 7 v' (keepH p l).length ((keepH p l).flatMap encHV) ∧ (∀ j, v'.ownBlock = some j → v.ownBlock = some j) ∧ But (fun j => v.ownBlock = some j) w w' := by
  obtain ⟨ao, c, rfl, hlc, hcm, hrow⟩ := Rows.own (enc := encHV) (sz := 7) (fun _ => rfl) hown
  have HI := Lib.hid (indexG_calls g lb eg p l ao c w hl hks hrow (hq.mono (fun _ e => e.elim)))
  have HOW := Lib.hid hown; have HQ := Lib.hid hq; have HKS := Lib.hid hks
  clear hown hq hrow hks
  unfold maxLen at hcm
  go_enter Tryz.func113, Tryz.ntmps113
  go_wp2_with fail
  refine HI.out.mono ?_
  rintro e w1 ⟨k, rfl, hk, hx1⟩
  have X1 := Lib.hid hx1
  clear hx1 HI
  rcases hk with ⟨rfl, hno⟩ | ⟨n, rfl, hnl, hlo, hhi⟩
  · have hkeep : keepH p l = l := by unfold keepH; rw [List.filter_eq_self]; intro x hx; rw [hno x hx]; rfl
    have HK := Lib.hid hkeep; clear hkeep hno
    go_wp2_with fail
    go_ret
    exact ⟨_, rfl, by rw [HK.out]; exact own_ext HOW.out X1.out, fun _ h => h, X1.out.but _⟩
  · obtain ⟨gb, rfl, cs, hblk, hcl, htk⟩ : ∃ gb, ao = some ⟨gb, 0, none⟩ ∧ ∃ cs, Blk w gb cs 35 ∧ cs.length = c * 7 ∧ cs.take (l.length * 7) = l.flatMap encHV := by
      rcases HOW.out.2 with ⟨h, h0⟩ | ⟨gb, cap, cur, h, _, hg, _, _, hcs, htk⟩
      · omega
      · simp only [Value.slice.injEq, true_and] at h
        obtain ⟨rfl, rfl⟩ := h
        exact ⟨gb, rfl, cur.toList, blk_of hg, by simpa using hcs, htk⟩
    have hS : ∀ j, (Value.slice (some ⟨gb, 0, none⟩) l.length c).ownBlock = some j ↔ j = gb := fun j => by simp [Value.ownBlock, eq_comm]
    have htail : TailH cs (n + 1) l := by
      intro i x _ hx t u hu
      have ht7 : t < 7 := (List.getElem?_eq_some_iff.1 hu).1
      have hil := (List.getElem?_eq_some_iff.1 hx).1
      have := flat_at (enc := encHV) (sz := 7) (fun _ => rfl) l i x hx t u hu
      rw [← htk, List.getElem?_take, if_pos (by omega)] at this
      exact this
    have hkn : keepH p (l.take (n + 1)) = l.take n := by
      obtain ⟨y, hy⟩ : ∃ y, l[n]? = some y := ⟨_, List.getElem?_eq_getElem hnl⟩
      rw [keepH_succ p l n y hy, if_pos (hhi y hy), List.append_nil]
      unfold keepH
      rw [List.filter_eq_self]
      intro x hx
      obtain ⟨i, hi⟩ := List.mem_iff_getElem?.1 hx
      rw [List.getElem?_take] at hi
      split at hi
      · rename_i hin
        rw [hlo i x hin hi]; rfl
      · cases hi
    have htn : cs.take (n * 7) = (l.take n).flatMap encHV := by
      rw [← hflat_take, ← htk, List.take_take]; congr 1; omega
    have hln : (l.take n).length = n := by rw [List.length_take]; omega
    have B1 := Lib.hid (hblk.ext' X1.out)
    have HT := Lib.hid htail; have HKN := Lib.hid hkn; have HTN := Lib.hid htn; have HLN := Lib.hid hln; have HS := Lib.hid hS
    have hne : ((n : Int) == -1) = false := by rw [beq_eq_false_iff_ne]; omega
    have HCL := Lib.hid hcl
    clear hlo hhi hblk htail hkn htn hln hS htk hcl
    go_wp2_with fail
    go_loopw [5, 6] (fun vi vj wr => ∃ (j K : Nat) (cs : List Value), j ≤ l.length ∧ K < j ∧ vi = .int .i64 K ∧ vj = .int .i64 j ∧ K = (keepH p (l.take j)).length ∧ Blk wr gb cs 35 ∧ cs.length = c * 7 ∧ cs.take (K * 7) = (keepH p (l.take j)).flatMap encHV ∧ TailH cs j l ∧ But (fun i => (Value.slice (some ⟨gb, 0, none⟩) l.length c).ownBlock = some i) w wr) (fun _ vj _ => l.length - (intOf vj).toNat)
    case atStart => exact ⟨n + 1, n, cs, by omega, by omega, rfl, by go_num, by rw [HKN.out, HLN.out], B1.out, HCL.out, by rw [HKN.out]; exact HTN.out, HT.out, X1.out.but _⟩
    case round =>
      obtain ⟨j, K, cs', hj, hKj, rfl, rfl, hK, hblk, hcl, htk, htl, hbut⟩ := hrel
      have K1 := Lib.hid hK; have K2 := Lib.hid hblk; have K3 := Lib.hid hcl; have K4 := Lib.hid htk; have K5 := Lib.hid htl; have K6 := Lib.hid hbut
      clear hK hblk hcl htk htl hbut
      have h2 : Blk wr gb cs' 35 := K2.out
      have h3 := K3.out
      by_cases hlt : j < l.length
      · obtain ⟨x, hx⟩ : ∃ x, l[j]? = some x := ⟨_, List.getElem?_eq_getElem hlt⟩
        have hcx := K5.out j x (Nat.le_refl _) hx
        have hks := keepH_succ p l j x hx
        have HX := Lib.hid hx
        have hcc : ∀ W, Ext wr W → Calls Tryz.prog g (#[.agg (encHV x).toArray] ++ lb) W fun e w' => e = .returned (.bool (x.tells p)) ∧ Ext W w' := fun W hW => HQ.out W (K6.out.trans (hW.but (fun _ => False)) (fun _ _ e => e) (fun _ _ e => e.elim)) x (HKS.out x (List.mem_of_getElem? hx))
        obtain ⟨key, cl, nm, xo, xn, xc, yo, yn, yc, put, value⟩ := x
        have d0 := (h2.cell _).trans (hcx 0 _ rfl); have d1 := (h2.cell _).trans (hcx 1 _ rfl); have d2 := (h2.cell _).trans (hcx 2 _ rfl); have d3 := (h2.cell _).trans (hcx 3 _ rfl); have d4 := (h2.cell _).trans (hcx 4 _ rfl); have d5 := (h2.cell _).trans (hcx 5 _ rfl); have d6 := (h2.cell _).trans (hcx 6 _ rfl)
        simp only [Nat.add_zero] at d0
        have CC := Lib.hid hcc; have HKS := Lib.hid hks
        have hbox := Blk.new wr [.string key, .int .i64 cl, .int .i64 nm, .slice xo xn xc, .slice yo yn yc, .bool put, .string value] 35
        have hxb : Ext wr (wr.alloc (.cells #[.string key, .int .i64 cl, .int .i64 nm, .slice xo xn xc, .slice yo yn yc, .bool put, .string value] 35)) := (Below.refl _ wr).alloc (Nat.le_refl _) _
        have HB := Lib.hid hbox; have XB := Lib.hid hxb
        have i0 : (0 : Int) ≤ (j : Int) := by omega
        have i1 : (j : Int) < (l.length : Int) := by omega
        have k0 : (0 : Int) ≤ (K : Int) := by omega
        have k1 : (K : Int) < (l.length : Int) := by omega
        clear hcx hks hx hcc hbox hxb h2
        cases hp : HoldV.tells p ⟨key, cl, nm, xo, xn, xc, yo, yn, yc, put, value⟩
        · have HP := Lib.hid hp; clear hp
          go_wp2_with fail
          refine (CC.out _ XB.out).mono ?_
          rw [HP.out]
          rintro e w2 ⟨rfl, hx2⟩
          have hb2 := HB.out.ext' hx2
          have X2 := Lib.hid (Ext.trans XB.out hx2)
          have hg2 : Blk w2 gb cs' 35 := K2.out.ext' X2.out
          have hlt2 := hb2.lt
          have hgl2 := hg2.lt
          have hgne : gb ≠ wr.heap.size := by have := K2.out.lt; omega
          have c0 := hb2.cell 0; have c1 := hb2.cell 1; have c2 := hb2.cell 2; have c3 := hb2.cell 3; have c4 := hb2.cell 4; have c5 := hb2.cell 5; have c6 := hb2.cell 6
          simp only [List.getElem?_cons_zero, List.getElem?_cons_succ] at c0 c1 c2 c3 c4 c5 c6
          have hat : ∀ t, t < 7 → ∃ u, w2.cell? ⟨gb, K * 7 + t, none⟩ = some u := fun t ht => ⟨cs'[K * 7 + t]'(by omega), by rw [hg2.cell]; exact List.getElem?_eq_getElem (by omega)⟩
          obtain ⟨u0, g0⟩ := hat 0 (by omega); obtain ⟨u1, g1⟩ := hat 1 (by omega); obtain ⟨u2, g2⟩ := hat 2 (by omega); obtain ⟨u3, g3⟩ := hat 3 (by omega); obtain ⟨u4, g4⟩ := hat 4 (by omega); obtain ⟨u5, g5⟩ := hat 5 (by omega); obtain ⟨u6, g6⟩ := hat 6 (by omega)
          have f0 := hg2.free (K * 7); have f1 := hg2.free (K * 7 + 1); have f2 := hg2.free (K * 7 + 2); have f3 := hg2.free (K * 7 + 3); have f4 := hg2.free (K * 7 + 4); have f5 := hg2.free (K * 7 + 5); have f6 := hg2.free (K * 7 + 6)
          simp only [Nat.add_zero] at g0
          have G2 := Lib.hid hg2
          clear hb2 hx2 hg2 hat d0 d1 d2 d3 d4 d5 d6
          go_wp2_with fail
          go_roundw
          case rel =>
            have hin : K * 7 + (encHV ⟨key, cl, nm, xo, xn, xc, yo, yn, yc, put, value⟩).length ≤ cs'.length := by show K * 7 + 7 ≤ _; omega
            refine ⟨j + 1, K + 1, splice cs' (K * 7) (encHV ⟨key, cl, nm, xo, xn, xc, yo, yn, yc, put, value⟩), by omega, by omega, by go_num, by go_num, ?_, ?_, by rw [splice_length]; exact h3, ?_, ?_, ?_⟩
            · rw [HKS.out, HP.out, List.length_append, ← K1.out]; rfl
            · exact G2.out.setCells (encHV ⟨key, cl, nm, xo, xn, xc, yo, yn, yc, put, value⟩) (K * 7)
            · rw [show (K + 1) * 7 = K * 7 + (encHV ⟨key, cl, nm, xo, xn, xc, yo, yn, yc, put, value⟩).length from by show _ = K * 7 + 7; omega, take_splice _ _ _ hin, K4.out, HKS.out, HP.out]
              simp
            · intro i y hi hy t u hu
              have ht7 : t < 7 := (List.getElem?_eq_some_iff.1 hu).1
              rw [splice_get _ _ _ _ (by show K * 7 + 7 ≤ _; omega)]
              exact K5.out i y (by omega) hy t u hu
            · have hb : But (fun i => (Value.slice (some ⟨gb, 0, none⟩) l.length c).ownBlock = some i) w w2 := K6.out.trans (X2.out.but (fun _ => False)) (fun _ _ e => e) (fun _ _ e => e.elim)
              exact but_setCells ((HS.out gb).2 rfl) (encHV ⟨key, cl, nm, xo, xn, xc, yo, yn, yc, put, value⟩) (K * 7) hb
          case measure => simp [intOf]; omega
        · have HP := Lib.hid hp; clear hp
          go_wp2_with fail
          refine (CC.out _ XB.out).mono ?_
          rw [HP.out]
          rintro e w2 ⟨rfl, hx2⟩
          have X2 := Lib.hid (Ext.trans XB.out hx2)
          clear hx2
          go_wp2_with fail
          go_roundw
          case rel =>
            exact ⟨j + 1, K, cs', by omega, by omega, rfl, by go_num, by rw [HKS.out, HP.out, K1.out]; simp, K2.out.ext' X2.out, h3, by rw [HKS.out, HP.out, K4.out]; simp, fun i y hi => K5.out i y (by omega), K6.out.trans (X2.out.but (fun _ => False)) (fun _ _ e => e) (fun _ _ e => e.elim)⟩
          case measure => simp [intOf]; omega
      · obtain rfl : j = l.length := by omega
        have hKc : ¬ (c = K) := by omega
        have hz : (Builtin.zeroCells zeroH (l.length - K)).toList.length = (l.length - K) * 7 := by rw [Array.length_toList, zc_size]; rfl
        have hcr : ∀ ty, (Builtin.clear_ #[22] ty #[.slice (some ⟨gb, K * 7, none⟩) (l.length - K) (c - K)]).run Tryz.prog wr = .ok (.tuple #[]) (wr.setCells gb (K * 7) (Builtin.zeroCells zeroH (l.length - K)).toList) := fun ty =>
          run_clear_k wr 22 35 ty (.agg zeroH) zeroH Tryz.underlying22 (fun w => by kernel_rfl) rfl zeroH_one gb (K * 7) (l.length - K) (c - K) (by omega) (fun i hi => by
            have hi' : i < (l.length - K) * 7 := hi
            rw [h2.cell, List.getElem?_eq_getElem (by omega)]; rfl) (fun i _ => h2.free _)
        have k0 : (0 : Int) ≤ (K : Int) := by omega
        have k1 : (K : Int) ≤ (l.length : Int) := by omega
        have k2 : (K : Int) ≤ (c : Int) := by omega
        have HZ := Lib.hid hz
        have hall : keepH p (l.take l.length) = keepH p l := by rw [List.take_length]
        have HAL := Lib.hid hall
        clear hz hall h2
        go_wp2_with fail
        go_ret
        have e1 := K1.out; have e4 := K4.out
        rw [HAL.out] at e1 e4
        refine ⟨.slice (some ⟨gb, 0, none⟩) K c, rfl, ?_, fun j hj => hj, ?_⟩
        · rw [← e1]
          exact own_of_blk (K2.out.setCells _ (K * 7)) (by rw [splice_length, h3]) (by omega) (by unfold maxLen; omega) (by rw [take_splice' _ _ _ (by rw [HZ.out]; omega)]; exact e4)
        · exact but_setCells ((HS.out gb).2 rfl) _ (K * 7) K6.out
theorem HoldsAre.keep {w : World} {no : Nat → Prop} (p : ByteArray → Int → Int → Bool) : ∀ {vs : List HoldV} {ds : List HoldD}, HoldsAre w no vs ds → HoldsAre w no (keepH p vs) (ds.filter fun d => !d.tells p)
  | [], [], _ => trivial
  | [], _ :: _, h => h.elim
  | _ :: _, [], h => h.elim
  | v :: vs, d :: ds, h => by
    have e : v.tells p = d.tells p := by unfold HoldV.tells HoldD.tells; rw [h.1.key, h.1.cl, h.1.nm]
    have ih := HoldsAre.keep p h.2
    unfold keepH at ih ⊢
    cases hd : d.tells p
    · rw [List.filter_cons_of_pos (by rw [e, hd]; rfl), List.filter_cons_of_pos (by rw [hd]; rfl)]; exact ⟨h.1, ih⟩
    · rw [List.filter_cons_of_neg (by rw [e, hd]; decide), List.filter_cons_of_neg (by rw [hd]; decide)]; exact ih
end Go.Proofs.YtdmejbjpbjcfbaaGreatDoor
