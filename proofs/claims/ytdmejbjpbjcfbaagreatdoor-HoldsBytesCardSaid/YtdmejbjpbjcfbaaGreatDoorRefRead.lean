/- The document's layer 16: Read. -/
import Derived.Test.YtdmejbjpbjcfbaaGreatDoorRefHold2
namespace Go.Proofs.YtdmejbjpbjcfbaaGreatDoor
open Go.RowKit

/-- What the document's Read tells. -/
def RReadPost (B rb : Nat) (r : Option (List HoldD × RSt)) (w : World) (e : Ending) (w' : World) : Prop := match r with
  | none => e = .returned (.tuple #[.slice none 0 0, .bool false]) ∧ But (fun j => j = rb) w w'
  | some (l, s) => (∃ (v : Value) (q : List HoldV), e = .returned (.tuple #[v, .bool true]) ∧ q.length = l.length ∧ w'.ownsRow 0 35 7 v q.length (q.flatMap encHV) ∧ (∀ j, v.ownBlock = some j → w.heap.size ≤ j) ∧ HoldsAre w' (fun b => v.ownBlock = some b ∨ b < w.heap.size) q l) ∧ RRPost B rb s w w'
set_option maxRecDepth 100000 in
set_option maxHeartbeats 3200000 in
theorem refHolds_read (B rb cap : Nat) (ao : Option Addr) (s : RSt) (w : World) (T : RRdr w B rb ao cap s) (hBw : B ≤ w.heap.size) :
    Calls Tryz.prog 30 #[.pointer (some ⟨rb, 0, none⟩)] w (RReadPost B rb (holdsS s) w) := by
  obtain ⟨i0, hi, hz0, hz1, hz2⟩ := info_parts infoHold
  have HT := Lib.hid T
  have hrb := T.old
  clear T
  have hle := numS_le 60 s
  go_enter Tryz.func30, Tryz.ntmps30
  go_wp2_with fail
  refine (rnum_read B rb cap ao s 60 w HT.out (by omega)).mono ?_
  rintro e w1 ⟨rfl, ⟨ao1, cap1, h1⟩, h2⟩
  have H1 := Lib.hid h1; have H2 := Lib.hid h2
  clear h1 h2
  generalize hns : numS 60 s = ns at *
  obtain ⟨n, s1⟩ := ns
  have HN := Lib.hid hns; clear hns
  simp only at hle
  go_wp2_with fail
  go_loopw [5, 6] (fun vo vi wr => ∃ (k : Nat) (q : List HoldV) (ds : List HoldD) (s2 : RSt) (ao' : Option Addr) (cap' : Nat), vi = .int .i64 k ∧ k ≤ n ∧ holdsK s1 k = some (ds, s2) ∧ q.length = k ∧ (k = 0 → vo = .slice none 0 0) ∧ wr.ownsRow 0 35 7 vo q.length (q.flatMap encHV) ∧ (∀ j, vo.ownBlock = some j → w.heap.size ≤ j) ∧ HoldsAre wr (fun b => vo.ownBlock = some b ∨ b < w.heap.size) q ds ∧ RRdr wr B rb ao' cap' s2 ∧ But (fun j => j = rb) w wr) (fun _ vi _ => n - (intOf vi).toNat)
  case atStart => exact ⟨0, [], [], s1, ao1, cap1, rfl, by omega, rfl, rfl, fun _ => rfl, World.ownsRow_nil _ _ _ _, by simp [Value.ownBlock], trivial, H1.out, H2.out⟩
  case round =>
    obtain ⟨k, q, ds, s2, ao', cap', rfl, hk, hks, hq, hv0, hown, hnew, hare, hT, hB⟩ := hrel
    obtain ⟨vo, vc, rfl⟩ := own_slice hown
    have KS := Lib.hid hks; have HQ := Lib.hid hq; have V0 := Lib.hid hv0; have O1 := Lib.hid hown; have N1 := Lib.hid hnew; have A1 := Lib.hid hare; have T1 := Lib.hid hT; have B1 := Lib.hid hB
    clear hks hq hv0 hown hnew hare hT hB
    by_cases hlt : k < n
    · obtain ⟨d, ok, s3, e1⟩ : ∃ d ok s3, holdS s2 = (d, ok, s3) := ⟨_, _, _, rfl⟩
      have E1 := Lib.hid e1; clear e1
      go_wp2_with fail
      refine (refHold_read rb cap' B ao' s2 wr T1.out (Nat.le_trans hBw B1.out.size)).mono ?_
      rw [E1.out]
      rintro e w2 ⟨⟨x, rfl, hx⟩, ⟨ao2, cap2, h1⟩, h2⟩
      simp only at h1 hx
      obtain ⟨gd, hgd⟩ : ∃ gd, gd = (ok && !s3.fl) := ⟨_, rfl⟩
      simp only [← hgd]
      have HGD := Lib.hid hgd
      clear hgd
      obtain ⟨kx, cl, nm, xo, xn, xc, yo, yn, yc, put, value⟩ := x
      have H3 := Lib.hid h1; have H4 := Lib.hid h2; have HX := Lib.hid hx
      clear h1 h2 hx
      simp only [encHV]
      go_wp2_with fail
      have hbox := Blk.new w2 [.string kx, .int .i64 cl, .int .i64 nm, .slice xo xn xc, .slice yo yn yc, .bool put, .string value] 35
      have hxb : Ext w2 (w2.alloc (.cells #[.string kx, .int .i64 cl, .int .i64 nm, .slice xo xn xc, .slice yo yn yc, .bool put, .string value] 35)) := (Below.refl _ w2).alloc (Nat.le_refl _) _
      have hr3 := H3.out.ext hxb
      have hx3 := HX.out.ext hxb
      have hB3 : But (fun j => j = rb) wr (w2.alloc (.cells #[.string kx, .int .i64 cl, .int .i64 nm, .slice xo xn xc, .slice yo yn yc, .bool put, .string value] 35)) := H4.out.alloc _
      have hN2 : wr.heap.size ≤ w2.heap.size := H4.out.size
      generalize w2.alloc (.cells #[.string kx, .int .i64 cl, .int .i64 nm, .slice xo xn xc, .slice yo yn yc, .bool put, .string value] 35) = w3 at hbox hr3 hx3 hB3 ⊢
      generalize w2.heap.size = N at hbox hN2 ⊢
      have hd0 : d.key = kx := hx3.key.symm
      have HB3 := Lib.hid hbox; have HR3 := Lib.hid hr3; have HX3 := Lib.hid hx3; have BB3 := Lib.hid hB3; have HN3 := Lib.hid hN2; have HD0 := Lib.hid hd0
      clear hbox hxb hr3 hx3 hB3 hN2 H3 H4 HX hd0
      cases gd with
      | false =>
        refine wp_region_ext (by kernel_rfl) (by kernel_rfl) ?_
        repeat (go_big_quiet_step (fail))
        refine wpQuiet_nil ?_
        intro w4 hw'
        have hx4 : Ext w3 w4 := by obtain ⟨p, rfl⟩ := hw'; exact p.ext
        go_wp2_with fail
        go_ret2
        rw [holdsS_stop HN.out KS.out hlt (by rw [E1.out]; simp only [← HGD.out]; simp)]
        exact ⟨rfl, (B1.out.trans BB3.out (fun _ _ e => e) (fun _ _ e => e)).trans (Ext.but hx4 (fun _ => False)) (fun _ _ e => e) (fun _ _ e => e.elim)⟩
      | true =>
        have c0 := HB3.out.cell 0
        simp only [List.getElem?_cons_zero] at c0
        have d0 := ExtBy.cell c0
        have hds := HoldsAre.len A1.out
        have key : (k = 0 ∧ nextB ds d = true) ∨ (∃ (j : Nat) (y : HoldV), k = j + 1 ∧ q[j]? = some y ∧ nextB ds d = decide (y.key.data.toList < kx.data.toList)) := by
          rcases Nat.eq_zero_or_pos k with h | h
          · left
            refine ⟨h, ?_⟩
            have : ds = [] := List.eq_nil_of_length_eq_zero (by have := HQ.out; omega)
            rw [this]; rfl
          · right
            have hj : k - 1 < q.length := by have := HQ.out; omega
            refine ⟨k - 1, q[k - 1], by omega, List.getElem?_eq_getElem hj, ?_⟩
            obtain ⟨dy, h1, h2⟩ := A1.out.at (k - 1) _ (List.getElem?_eq_getElem hj)
            have : ds.getLast? = some dy := by rw [List.getLast?_eq_getElem?, show ds.length - 1 = k - 1 from by have := HQ.out; omega]; exact h1
            rw [nextB, this, HD0.out, h2.key]
        have key2 : (k = 0 ∧ nextB ds d = true) ∨ (∃ (j : Nat) (y : HoldV), k = j + 1 ∧ q[j]? = some y ∧ Op.bytesLess y.key.toList kx.toList = true ∧ nextB ds d = true) ∨ (∃ (j : Nat) (y : HoldV), k = j + 1 ∧ q[j]? = some y ∧ Op.bytesLess y.key.toList kx.toList = false ∧ nextB ds d = false) := by
          rcases key with h | ⟨j, y, h1, h2, h3⟩
          · exact .inl h
          · by_cases hlt2 : y.key.data.toList < kx.data.toList
            · exact .inr (.inl ⟨j, y, h1, h2, by rw [Lib.toList_data, Lib.toList_data, bytesLess_eq]; exact decide_eq_true hlt2, by rw [h3]; exact decide_eq_true hlt2⟩)
            · exact .inr (.inr ⟨j, y, h1, h2, by rw [Lib.toList_data, Lib.toList_data, bytesLess_eq]; exact decide_eq_false hlt2, by rw [h3]; exact decide_eq_false hlt2⟩)
        have hix : ∀ (j : Nat) (y : HoldV), k = j + 1 → q[j]? = some y → ∃ gb go, vo = some ⟨gb, go, none⟩ ∧ (∀ p : ExtBy w3, p.W.cell? ⟨gb, go + j * 7, none⟩ = some (.string y.key)) ∧ IntKind.i64.wrap ((k : Int) - 1) = (j : Int) ∧ (0 : Int) ≤ (j : Int) ∧ (j : Int) < (q.length : Int) := by
          intro j y hkj hy
          obtain ⟨ao3, c3, hv, _, _, hr⟩ := Rows.own (enc := encHV) (sz := 7) (fun _ => rfl) O1.out
          simp only [Value.slice.injEq, true_and] at hv
          obtain ⟨rfl, rfl⟩ := hv
          obtain ⟨gb, go, rfl, hgb, hcell⟩ := hr (by intro e; rw [e] at hy; simp at hy)
          have hc := hcell j y hy 0 _ rfl
          have hgr : ¬ gb = rb := by have := N1.out gb rfl; omega
          refine ⟨gb, go, rfl, ExtBy.cell ((BB3.out.cell (p := ⟨gb, _, none⟩) hgb hgr).trans hc), ?_, by omega, by have := HQ.out; omega⟩
          rw [wraps_i64 _ (by omega) (by omega)]; omega
        have HIX := Lib.hid hix
        clear key hix hds
        rcases key2 with ⟨hk0, hnx⟩ | ⟨j, y, hkj, hy, hbl, hnx⟩ | ⟨j, y, hkj, hy, hbl, hnx⟩
        case' inl =>
          have HNX := Lib.hid hnx; have HK0 := Lib.hid hk0
          have t1 : decide (0 < k) = false := by simp; omega
          clear hnx hk0
        case' inr.inl =>
          obtain ⟨gb, go, rfl, d1, hw, j0, j1⟩ := HIX.out j y hkj hy
          have HNX := Lib.hid hnx; have HKJ := Lib.hid hkj
          have t1 : decide (0 < k) = true := by simp; omega
          clear hnx hkj hy
        case' inr.inr =>
          obtain ⟨gb, go, rfl, d1, hw, j0, j1⟩ := HIX.out j y hkj hy
          have HNX := Lib.hid hnx; have HKJ := Lib.hid hkj
          have t1 : decide (0 < k) = true := by simp; omega
          clear hnx hkj hy
        all_goals
          refine wp_region_ext (by kernel_rfl) (by kernel_rfl) ?_
          repeat (go_big_quiet_step (fail))
          refine wpQuiet_nil ?_
          intro w4 hw'
          have hx4 : Ext w3 w4 := by obtain ⟨p, rfl⟩ := hw'; exact p.ext
          have hb4 := HB3.out.ext' hx4
          have X4 := Lib.hid hx4; have HB4 := Lib.hid hb4
          clear hx4 hw' d0 c0 hb4
        · go_wp2_with fail
          go_ret2
          rw [holdsS_stop HN.out KS.out hlt (by rw [E1.out]; simp only [← HGD.out]; simp [HNX.out])]
          exact ⟨rfl, (B1.out.trans BB3.out (fun _ _ e => e) (fun _ _ e => e)).trans (Ext.but X4.out (fun _ => False)) (fun _ _ e => e) (fun _ _ e => e.elim)⟩
        · have hb5 := HB4.out
          have c0 := hb5.cell 0; have c1 := hb5.cell 1; have c2 := hb5.cell 2; have c3 := hb5.cell 3; have c4 := hb5.cell 4; have c5 := hb5.cell 5; have c6 := hb5.cell 6
          simp only [List.getElem?_cons_zero, List.getElem?_cons_succ] at c0 c1 c2 c3 c4 c5 c6
          have hO4 := own_ext (own_but O1.out BB3.out (fun j hj e => by have := N1.out j hj; omega)) X4.out
          have O4 := Lib.hid hO4
          have hql : q.length ≤ 60 := by have := HQ.out; omega
          clear hO4 hb5
          go_wp2_with (at_builtin; go_must (refine wpList_append_at _ rfl _ _ 22 rfl 35 i0 _ 7 104 Tryz.underlying22 hi hz0 hz1 hz2 rfl (by decide) _ q.length (q.flatMap encHV) rfl (own_ext O4.out ((Below.refl _ _).alloc (Nat.le_refl _) _)) ⟨w4.heap.size, 0, none⟩ 1 1 (encHV ⟨kx, cl, nm, xo, xn, xc, yo, yn, yc, put, value⟩) rfl rfl (cells_new w4 (encHV ⟨kx, cl, nm, xo, xn, xc, yo, yn, yc, put, value⟩) _) (one_hold _) (by decide) (by unfold maxLen; omega) (by omega) ?_; intro g cap3 w5 hown' hbut hkept; have Y1 := Lib.hid hown'; have Y2 := Lib.hid hbut; have Y3 := Lib.hid hkept; clear hown' hbut hkept))
          go_roundw
          case rel =>
            have E2 : Ext w4 (w4.alloc (.cells (encHV ⟨kx, cl, nm, xo, xn, xc, yo, yn, yc, put, value⟩).toArray 35)) := (Below.refl _ w4).alloc (Nat.le_refl _) _
            have hsz : wr.heap.size ≤ w4.heap.size := Nat.le_trans BB3.out.size X4.out.size
            have hwr := B1.out.size
            have hlt3 : ∀ j, (Value.slice (some ⟨gb, go, none⟩) q.length vc).ownBlock = some j → j < wr.heap.size := fun j hj => (O1.out.lt j hj).2
            have hb45 : But (fun j => w.heap.size ≤ j) w4 w5 := (Ext.but E2 (fun _ => False)).trans Y2.out (fun _ _ e => e.elim) (fun i _ e => N1.out i e)
            have hks : holdsK s1 (k + 1) = some (ds ++ [d], s3) := by rw [holdsK_some KS.out, E1.out, if_pos (by simp only [← HGD.out]; simp [HNX.out])]
            refine ⟨k + 1, q ++ [⟨kx, cl, nm, xo, xn, xc, yo, yn, yc, put, value⟩], ds ++ [d], s3, ao2, cap2, by go_num, by omega, hks, by rw [List.length_append, HQ.out]; rfl, fun h => absurd h (by omega), ?_, ?_, ?_, (HR3.out.ext X4.out).but hb45 (fun b hb e => by omega), ?_⟩
            · have := Y1.out
              rw [List.length_append, List.flatMap_append]
              simpa using this
            · intro j hj
              rcases Y3.out j hj with e | e
              · exact N1.out j e
              · have e' := Nat.le_trans E2.size e; omega
            · have hq3 : HoldsAre (w4.alloc (.cells (encHV ⟨kx, cl, nm, xo, xn, xc, yo, yn, yc, put, value⟩).toArray 35)) (fun b => (Value.slice (some ⟨gb, go, none⟩) q.length vc).ownBlock = some b ∨ b < w.heap.size) q ds := ((A1.out.but BB3.out (fun b _ e => .inr (by omega))).ext X4.out).ext E2
              have hv3 : HoldsAre (w4.alloc (.cells (encHV ⟨kx, cl, nm, xo, xn, xc, yo, yn, yc, put, value⟩).toArray 35)) (fun b => (Value.slice (some ⟨gb, go, none⟩) q.length vc).ownBlock = some b ∨ b < w.heap.size) [⟨kx, cl, nm, xo, xn, xc, yo, yn, yc, put, value⟩] [d] :=
                ⟨(((HX3.out.ext X4.out).ext E2).mono (fun b _ e => by
                  rcases e with e | e
                  · exact hlt3 b e
                  · omega)), trivial⟩
              have hall := HoldsAre.append hq3 hv3
              have h2 := HoldsAre.mono (no' := fun b => ((Value.slice (some ⟨gb, go, none⟩) q.length vc).ownBlock = some b ∨ b < w.heap.size) ∨ ((Value.slice (some ⟨g, 0, none⟩) (q.length + 1) cap3).ownBlock = some b ∨ b < w.heap.size)) (fun b hb e => by
                rcases e with e | e
                · exact e
                · rcases e with e | e
                  · rcases Y3.out b e with e | e
                    · exact .inl e
                    · exact absurd e (Nat.not_le.2 hb)
                  · exact .inr e) hall
              have h3 := HoldsAre.but Y2.out (fun b _ e => .inl (.inl e)) h2
              exact h3.mono (fun b _ e => .inr e)
            · exact ((B1.out.trans BB3.out (fun _ _ e => e) (fun _ _ e => e)).trans (Ext.but X4.out (fun _ => False)) (U := fun j => j = rb) (fun _ _ e => e) (fun _ _ e => e.elim)).trans hb45 (fun _ _ e => e) (fun i hi e => absurd hi (Nat.not_lt.2 e))
          case measure => simp [intOf]; omega
        · have hb5 := HB4.out
          have c0 := hb5.cell 0; have c1 := hb5.cell 1; have c2 := hb5.cell 2; have c3 := hb5.cell 3; have c4 := hb5.cell 4; have c5 := hb5.cell 5; have c6 := hb5.cell 6
          simp only [List.getElem?_cons_zero, List.getElem?_cons_succ] at c0 c1 c2 c3 c4 c5 c6
          have hO4 := own_ext (own_but O1.out BB3.out (fun j hj e => by have := N1.out j hj; omega)) X4.out
          have O4 := Lib.hid hO4
          have hql : q.length ≤ 60 := by have := HQ.out; omega
          clear hO4 hb5
          go_wp2_with (at_builtin; go_must (refine wpList_append_at _ rfl _ _ 22 rfl 35 i0 _ 7 104 Tryz.underlying22 hi hz0 hz1 hz2 rfl (by decide) _ q.length (q.flatMap encHV) rfl (own_ext O4.out ((Below.refl _ _).alloc (Nat.le_refl _) _)) ⟨w4.heap.size, 0, none⟩ 1 1 (encHV ⟨kx, cl, nm, xo, xn, xc, yo, yn, yc, put, value⟩) rfl rfl (cells_new w4 (encHV ⟨kx, cl, nm, xo, xn, xc, yo, yn, yc, put, value⟩) _) (one_hold _) (by decide) (by unfold maxLen; omega) (by omega) ?_; intro g cap3 w5 hown' hbut hkept; have Y1 := Lib.hid hown'; have Y2 := Lib.hid hbut; have Y3 := Lib.hid hkept; clear hown' hbut hkept))
          go_roundw
          case rel =>
            have E2 : Ext w4 (w4.alloc (.cells (encHV ⟨kx, cl, nm, xo, xn, xc, yo, yn, yc, put, value⟩).toArray 35)) := (Below.refl _ w4).alloc (Nat.le_refl _) _
            have hsz : wr.heap.size ≤ w4.heap.size := Nat.le_trans BB3.out.size X4.out.size
            have hwr := B1.out.size
            have hlt3 : ∀ j, (Value.slice vo q.length vc).ownBlock = some j → j < wr.heap.size := fun j hj => (O1.out.lt j hj).2
            have hb45 : But (fun j => w.heap.size ≤ j) w4 w5 := (Ext.but E2 (fun _ => False)).trans Y2.out (fun _ _ e => e.elim) (fun i _ e => N1.out i e)
            have hks : holdsK s1 (k + 1) = some (ds ++ [d], s3) := by rw [holdsK_some KS.out, E1.out, if_pos (by simp only [← HGD.out]; simp [HNX.out])]
            refine ⟨k + 1, q ++ [⟨kx, cl, nm, xo, xn, xc, yo, yn, yc, put, value⟩], ds ++ [d], s3, ao2, cap2, by go_num, by omega, hks, by rw [List.length_append, HQ.out]; rfl, fun h => absurd h (by omega), ?_, ?_, ?_, (HR3.out.ext X4.out).but hb45 (fun b hb e => by omega), ?_⟩
            · have := Y1.out
              rw [List.length_append, List.flatMap_append]
              simpa using this
            · intro j hj
              rcases Y3.out j hj with e | e
              · exact N1.out j e
              · have e' := Nat.le_trans E2.size e; omega
            · have hq3 : HoldsAre (w4.alloc (.cells (encHV ⟨kx, cl, nm, xo, xn, xc, yo, yn, yc, put, value⟩).toArray 35)) (fun b => (Value.slice vo q.length vc).ownBlock = some b ∨ b < w.heap.size) q ds := ((A1.out.but BB3.out (fun b _ e => .inr (by omega))).ext X4.out).ext E2
              have hv3 : HoldsAre (w4.alloc (.cells (encHV ⟨kx, cl, nm, xo, xn, xc, yo, yn, yc, put, value⟩).toArray 35)) (fun b => (Value.slice vo q.length vc).ownBlock = some b ∨ b < w.heap.size) [⟨kx, cl, nm, xo, xn, xc, yo, yn, yc, put, value⟩] [d] :=
                ⟨(((HX3.out.ext X4.out).ext E2).mono (fun b _ e => by
                  rcases e with e | e
                  · exact hlt3 b e
                  · omega)), trivial⟩
              have hall := HoldsAre.append hq3 hv3
              have h2 := HoldsAre.mono (no' := fun b => ((Value.slice vo q.length vc).ownBlock = some b ∨ b < w.heap.size) ∨ ((Value.slice (some ⟨g, 0, none⟩) (q.length + 1) cap3).ownBlock = some b ∨ b < w.heap.size)) (fun b hb e => by
                rcases e with e | e
                · exact e
                · rcases e with e | e
                  · rcases Y3.out b e with e | e
                    · exact .inl e
                    · exact absurd e (Nat.not_le.2 hb)
                  · exact .inr e) hall
              have h3 := HoldsAre.but Y2.out (fun b _ e => .inl (.inl e)) h2
              exact h3.mono (fun b _ e => .inr e)
            · exact ((B1.out.trans BB3.out (fun _ _ e => e) (fun _ _ e => e)).trans (Ext.but X4.out (fun _ => False)) (U := fun j => j = rb) (fun _ _ e => e) (fun _ _ e => e.elim)).trans hb45 (fun _ _ e => e) (fun i hi e => absurd hi (Nat.not_lt.2 e))
          case measure => simp [intOf]; omega
    · have hkn : k = n := by omega
      subst hkn
      have hS : holdsS s = if s2.fl = true then none else some (ds, s2) := by simp only [holdsS, HN.out, KS.out]
      have h0 : s2.fl = true → q = [] ∧ k = 0 := by
        intro h
        rcases Nat.eq_zero_or_pos k with h0 | h0
        · exact ⟨List.eq_nil_of_length_eq_zero (by rw [HQ.out]; exact h0), h0⟩
        · obtain ⟨j, rfl⟩ : ∃ j, k = j + 1 := ⟨k - 1, by omega⟩
          have := holdsK_live KS.out
          rw [h] at this; cases this
      have HS := Lib.hid hS; have H0 := Lib.hid h0; have HDL := Lib.hid (HoldsAre.len A1.out)
      clear hS h0
      have r1 := T1.out.blk.cell 1
      simp only [List.getElem?_cons_zero, List.getElem?_cons_succ] at r1
      generalize hfl : s2.fl = fl at *
      have HFL := Lib.hid hfl; clear hfl
      cases fl with
      | true =>
        obtain ⟨rfl, hk0⟩ := H0.out rfl
        have hv := V0.out hk0
        simp only [Value.slice.injEq] at hv
        obtain ⟨rfl, -, rfl⟩ := hv
        clear hk0
        go_wp2_with fail
        go_ret2
        rw [HS.out]
        exact ⟨rfl, B1.out⟩
      | false =>
        go_wp2_with fail
        go_ret2
        rw [HS.out]
        exact ⟨⟨_, q, rfl, HDL.out, O1.out, N1.out, A1.out⟩, ⟨ao', cap', T1.out⟩, B1.out⟩
end Go.Proofs.YtdmejbjpbjcfbaaGreatDoor
