/- table.sound; witness.Do. -/
import Derived.Test.YtngahblgicjoiaaGreatDoorGreat
namespace Go.Proofs.YtngahblgicjoiaaGreatDoor
open Go.RowKit

theorem bless (a b : ByteArray) : Op.bytesLess a.toList b.toList = decide (a.data.toList < b.data.toList) := by rw [Lib.toList_data, Lib.toList_data, bytesLess_eq]
set_option maxRecDepth 100000 in
set_option maxHeartbeats 3200000 in
theorem sound_calls (l : List RowD) (ao : Option Addr) (cap : Nat) (w : World) (hl : l.length ≤ 1000000) (hr : Rows 2 encRw w.heap.size w ao l) (hok : ∀ r ∈ l, r.ok) :
    Calls Tryz.prog 55 #[.agg #[.slice ao l.length cap]] w fun e w' => e = .returned (.bool (soundB l)) ∧ Ext w w' := by
  have HR := Lib.hid hr; have HOK := Lib.hid hok
  have HT := Lib.hid (Blk.new w [.slice ao l.length cap] 108)
  have XT := Lib.hid (show Ext w (w.alloc (.cells #[.slice ao l.length cap] 108)) from (Below.refl _ w).alloc (Nat.le_refl _) _)
  clear hr hok
  go_enter Tryz.func55, Tryz.ntmps55
  go_wp2_with fail
  go_loopw [8] (fun i wr => ∃ k : Nat, k ≤ l.length ∧ i = .int .i64 k ∧ soundG none (l.take k) = true ∧ Ext (w.alloc (.cells #[.slice ao l.length cap] 108)) wr) (fun i _ => l.length - (intOf i).toNat)
  case atStart => exact ⟨0, by omega, rfl, rfl, Below.refl _ _⟩
  case round =>
    obtain ⟨k, hk, rfl, hs, hx⟩ := hrel
    have K1 := Lib.hid hs; have K2 := Lib.hid hx
    clear hs hx
    by_cases hlt : k < l.length
    · obtain ⟨x, hx⟩ : ∃ x, l[k]? = some x := ⟨_, List.getElem?_eq_getElem hlt⟩
      have hxok := HOK.out x (List.mem_of_getElem? hx)
      obtain ⟨b, off, rfl, hb, hcell⟩ := HR.out (by intro e; rw [e] at hlt; simp at hlt)
      have hmove : ∀ j, wr.cell? ⟨b, j, none⟩ = w.cell? ⟨b, j, none⟩ := fun j => (Ext.trans XT.out K2.out).cell (p := ⟨b, j, none⟩) hb
      have hcx := hcell k x hx
      have hst := soundG_take l none k x hx K1.out
      have hrow : okRow x = (keyL (rkey x) && decide (x.value.size ≤ 20)) := rfl
      rw [hrow] at hst
      have hno := fun h => soundG_no l none (k + 1) h
      have hbb : Blk (wr.alloc (.cells (encRw x).toArray 73)) wr.heap.size (encRw x) 73 := Blk.new wr _ _
      have hxb : Ext wr (wr.alloc (.cells (encRw x).toArray 73)) := (Below.refl _ wr).alloc (Nat.le_refl _) _
      have hix : ∀ (j : Nat) (y : RowD), k = j + 1 → l[j]? = some y → (∀ p : ExtBy (wr.alloc (.cells (encRw x).toArray 73)), p.W.cell? ⟨b, off + j * 2, none⟩ = some (.string y.key)) ∧ IntKind.i64.wrap ((k : Int) - 1) = (j : Int) ∧ (0 : Int) ≤ (j : Int) ∧ (j : Int) < (l.length : Int) := fun j y hkj hy => by
        have hc := hcell j y hy 0 _ rfl
        refine ⟨ExtBy.cell ((hxb.cell (p := ⟨b, _, none⟩) (Nat.lt_of_lt_of_le hb (Ext.trans XT.out K2.out).size)).trans ((hmove _).trans hc)), ?_, by omega, by omega⟩
        rw [IntWalk.i64_in _ (by omega)]; omega
      have HKY := Lib.hid (fun (p : ExtBy (wr.alloc (.cells (encRw x).toArray 73))) => (key_calls x.key p.W hxok.1).mono (R' := fun e w' => e = .returned (.bool (keyL x.key.data.toList)) ∧ Ext p.W w') (fun e w' ⟨h1, h2⟩ => ⟨h1, by subst h2; exact Below.refl _ _⟩))
      have ht := ExtBy.cell (show (wr.alloc (.cells (encRw x).toArray 73)).cell? ⟨w.heap.size, 0, none⟩ = some (.slice (some ⟨b, off, none⟩) l.length cap) from ((HT.out.ext' K2.out).ext' hxb).cell 0)
      have c0 := ExtBy.cell (show (wr.alloc (.cells (encRw x).toArray 73)).cell? ⟨wr.heap.size, 0, none⟩ = some (.string x.key) from hbb.cell 0)
      have c1 := ExtBy.cell (show (wr.alloc (.cells (encRw x).toArray 73)).cell? ⟨wr.heap.size, 1, none⟩ = some (.string x.value) from hbb.cell 1)
      have key2 : keyL (rkey x) = false ∨ (keyL (rkey x) = true ∧ ¬ x.value.size ≤ 20) ∨ (keyL (rkey x) = true ∧ x.value.size ≤ 20 ∧ k = 0) ∨ (keyL (rkey x) = true ∧ x.value.size ≤ 20 ∧ ∃ (j : Nat) (y : RowD), k = j + 1 ∧ l[j]? = some y) := by
        cases keyL (rkey x) with
        | false => exact .inl rfl
        | true =>
          by_cases h20 : x.value.size ≤ 20
          · rcases Nat.eq_zero_or_pos k with h0 | h0
            · exact .inr (.inr (.inl ⟨rfl, h20, h0⟩))
            · exact .inr (.inr (.inr ⟨rfl, h20, k - 1, l[k - 1], by omega, List.getElem?_eq_getElem (by omega)⟩))
          · exact .inr (.inl ⟨rfl, h20⟩)
      have HIX := Lib.hid hix; have ST := Lib.hid hst; have NO := Lib.hid hno; have XB := Lib.hid hxb
      obtain ⟨key, val⟩ := x
      unfold encRw at hcx XB HKY HIX ht c0 c1
      unfold rkey at ST key2
      simp only at hcx XB HKY HIX ht c0 c1 ST key2
      have d0 := (hmove _).trans (hcx 0 _ rfl); have d1 := (hmove _).trans (hcx 1 _ rfl)
      simp only [Nat.add_zero] at d0
      have i0 : (0 : Int) ≤ (k : Int) := by omega
      have i1 : (k : Int) < (l.length : Int) := by omega
      clear hx hxok hcell hmove hcx hst hrow hno hbb hxb hix
      go_wp2_with fail
      clear d0 d1
      rcases key2 with hq | ⟨hq, h20⟩ | ⟨hq, h20, h0⟩ | ⟨hq, h20, j, y, hkj, hy⟩
      case' inl =>
        have e1 : soundG none (l.take (k + 1)) = false := by rw [ST.out, hq]; rfl
      case' inr.inl =>
        have e1 : soundG none (l.take (k + 1)) = false := by rw [ST.out, decide_eq_false h20]; simp
        have t0 : decide ((20 : Int) < (val.size : Int)) = true := by simp; omega
      case' inr.inr.inl =>
        have e1 : soundG none (l.take (k + 1)) = true := by rw [ST.out, hq, decide_eq_true h20, if_pos h0]; rfl
        have t0 : decide ((20 : Int) < (val.size : Int)) = false := by simp; omega
        have t1 : decide (0 < k) = false := by simp; omega
      case' inr.inr.inr =>
        have t0 : decide ((20 : Int) < (val.size : Int)) = false := by simp; omega
        have t1 : decide (0 < k) = true := by simp; omega
        obtain ⟨dj, hw, j0, j1⟩ := HIX.out j y hkj hy
        have e0 : soundG none (l.take (k + 1)) = decide (y.key.data.toList < key.data.toList) := by
          have e5 : l[k - 1]? = some y := by rw [hkj]; exact hy
          rw [ST.out, hq, decide_eq_true h20, if_neg (by omega), e5]; rfl
        have HKJ := Lib.hid hkj
        clear hkj hy
        obtain ⟨yk, yv⟩ := y
        simp only at e0 dj
        have hbl := bless yk key
        obtain ⟨q, hqq⟩ : ∃ q, decide (yk.data.toList < key.data.toList) = q := ⟨_, rfl⟩
        rw [hqq] at hbl e0
        clear hqq
        cases q
      case' inr.inr.inr.false => have e1 : soundG none (l.take (k + 1)) = false := e0
      case' inr.inr.inr.true => have e1 : soundG none (l.take (k + 1)) = true := e0
      all_goals
        have E1 := Lib.hid e1
        clear e1
        have HK2 := HKY.out
        rw [hq] at HK2
        have HK3 := Lib.hid HK2
        have HQ := Lib.hid hq
        clear HK2 hq
      all_goals (try clear h20)
      all_goals (try clear e0)
      all_goals (try clear h0)
      all_goals
        refine wp_region_ext (by kernel_rfl) (by kernel_rfl) ?_
        repeat (go_big_quiet_step ((with_reducible exact Calls.ext_of _ (HK3.out _))))
        refine wpQuiet_nil ?_
        intro wc hw'
        have hxc := Lib.hid (show Ext wr wc by obtain ⟨p, rfl⟩ := hw'; exact Ext.trans XB.out p.ext)
        clear hw' ht c0 c1
        go_wp2_with fail
      · go_roundw
        case rel => exact ⟨k + 1, by omega, by go_num, E1.out, Ext.trans K2.out hxc.out⟩
        case measure => simp [intOf]; omega
      · go_ret
        exact ⟨ret_bool (NO.out E1.out).symm, Ext.trans XT.out (Ext.trans K2.out hxc.out)⟩
      · go_roundw
        case rel => exact ⟨k + 1, by omega, by go_num, E1.out, Ext.trans K2.out hxc.out⟩
        case measure => simp [intOf]; omega
      · go_ret
        exact ⟨ret_bool (NO.out E1.out).symm, Ext.trans XT.out (Ext.trans K2.out hxc.out)⟩
      · go_ret
        exact ⟨ret_bool (NO.out E1.out).symm, Ext.trans XT.out (Ext.trans K2.out hxc.out)⟩
    · have hall : l.take k = l := List.take_of_length_le (by omega)
      have HA := Lib.hid hall; clear hall
      go_wp2_with fail
      go_ret
      exact ⟨ret_bool (by unfold soundB; rw [← HA.out]; exact K1.out.symm), Ext.trans XT.out K2.out⟩
/-- A step done upon a table's copy: what witness.Do leaves. -/
def doS (rows : List RowD) (x : StepD) : List RowD × List Rd := if rightS x = true ∧ soundB rows = true then doneD rows x.acts else (rows, [])
def DoPPost (w : World) (p : List RowD × List Rd) (e : Ending) (w' : World) : Prop :=
  ∃ v rv, e = .returned (.tuple #[v, rv]) ∧ w'.ownsRow w.heap.size 73 2 v p.1.length (p.1.flatMap encRw) ∧ w'.ownsRow w.heap.size 78 3 rv p.2.length (p.2.flatMap encRd) ∧ Ext w w'
set_option maxRecDepth 100000 in
set_option maxHeartbeats 1600000 in
theorem doP_calls (l : List RowD) (ao : Option Addr) (cap : Nat) (z : StepZ) (w : World) (hl : l.length ≤ 100000) (hr : Rows 2 encRw w.heap.size w ao l) (hok : ∀ r ∈ l, r.ok) (hz : z.at w.heap.size w) (hd : z.d.ok) (hlv : LV w.heap.size w) :
    Calls Tryz.prog 19 #[.slice ao l.length cap, .agg (encStep z).toArray] w (DoPPost w (doS l z.d)) := by
  have HR := Lib.hid hr; have HOK := Lib.hid hok; have HZ := Lib.hid hz; have HD := Lib.hid hd; have HLV := Lib.hid hlv
  clear hr hok hz hd hlv
  obtain ⟨⟨cl, nm, acts, reads, ca, an⟩, ao2, ac2, ro2, rc2⟩ := z
  have HDO : Hid (∀ {B : Nat} {W : World} {hb : Nat} {v m : Value} {rows : List RowD}, TabAt B W hb v m rows → B ≤ W.heap.size → LV B W → B ≤ hb → NRows 4 encAct (Own2 hb v) W ao2 acts → kinds3 acts → acts.length ≤ 1000 → rows.length ≤ 100000 → Calls Tryz.prog 56 #[.pointer (some ⟨hb, 0, none⟩), .agg #[.int .i64 cl, .int .i64 nm, .slice ao2 acts.length ac2, .slice ro2 reads.length rc2, .int .i64 ca, .int .i64 an]] W (DoneAt B hb v m W (doneD rows acts))) :=
    Lib.hid (fun T h1 h2 h3 h4 h5 h6 h7 => histDo_calls ⟨⟨cl, nm, acts, reads, ca, an⟩, ao2, ac2, ro2, rc2⟩ T h1 h2 h3 h4 HD.out.acts h5 h6 h7)
  have HRC : Hid (∀ W, Ext w W → Calls Tryz.prog 54 #[.agg #[.int .i64 cl, .int .i64 nm, .slice ao2 acts.length ac2, .slice ro2 reads.length rc2, .int .i64 ca, .int .i64 an]] W fun e w' => e = .returned (.bool (rightS ⟨cl, nm, acts, reads, ca, an⟩)) ∧ Ext W w') :=
    Lib.hid (fun W hW => stepRight_calls ⟨⟨cl, nm, acts, reads, ca, an⟩, ao2, ac2, ro2, rc2⟩ W ((HZ.out.ext hW).mono hW.size) HD.out)
  unfold encStep
  simp only
  go_enter Tryz.func19, Tryz.ntmps19
  have BX := Lib.hid (Blk.new w [.int .i64 cl, .int .i64 nm, .slice ao2 acts.length ac2, .slice ro2 reads.length rc2, .int .i64 ca, .int .i64 an] 38)
  have X0 := Lib.hid (show Ext w (w.alloc (.cells #[.int .i64 cl, .int .i64 nm, .slice ao2 acts.length ac2, .slice ro2 reads.length rc2, .int .i64 ca, .int .i64 an] 38)) from (Below.refl _ w).alloc (Nat.le_refl _) _)
  go_wp2_with fail
  refine (begun_calls _).mono ?_
  rintro e w1 ⟨hb, mb, rfl, hh, hx1⟩
  have H1 := Lib.hid (HistAt.tab hh); have X1 := Lib.hid hx1; have G1 := Lib.hid hh.ge
  clear hh hx1
  have hbl1 := H1.out.blk.lt
  go_wp2_with fail
  refine (clone_rows_calls l ao cap _ (by omega) ((HR.out.ext (Ext.trans X0.out X1.out)).mono (Ext.trans X0.out X1.out).size)).mono ?_
  rintro e w2 ⟨v, rfl, hv, hn, hx2⟩
  obtain ⟨vo, vc, rfl, -, -, -⟩ := Rows.own (enc := encRw) (sz := 2) (fun _ => rfl) hv
  have hsz0 := X0.out.size; have hsz1 := X1.out.size; have hg1 := G1.out
  have hvb : (Value.slice vo l.length vc).ownBlock ≠ some hb := fun e => by have := hn hb e; omega
  have hb2 := H1.out.blk.ext' hx2
  have hset : Below w.heap.size w (w2.setCell ⟨hb, 0, none⟩ (.slice vo l.length vc)) := Ext.trans (Ext.trans X0.out X1.out) hx2 |>.setCell (by show w.heap.size ≤ hb; omega) (.slice vo l.length vc)
  have BH : Hid (Blk (w2.setCell ⟨hb, 0, none⟩ (.slice vo l.length vc)) hb [.slice vo l.length vc, .map (some mb)] 111) := Lib.hid (hb2.set 0 (.slice vo l.length vc))
  have OV : Hid ((w2.setCell ⟨hb, 0, none⟩ (.slice vo l.length vc)).ownsRow w.heap.size 73 2 (.slice vo l.length vc) l.length (l.flatMap encRw)) := Lib.hid (own_setOther (own_base hv fun k e => by have := hn k e; omega) hvb (.slice vo l.length vc))
  have XS := Lib.hid hset
  have BX3 : Hid (Blk (w2.setCell ⟨hb, 0, none⟩ (.slice vo l.length vc)) w.heap.size [.int .i64 cl, .int .i64 nm, .slice ao2 acts.length ac2, .slice ro2 reads.length rc2, .int .i64 ca, .int .i64 an] 38) := Lib.hid (Blk.other ((BX.out.ext' X1.out).ext' hx2) (a := ⟨hb, 0, none⟩) (by show w.heap.size ≠ hb; have := BX.out.lt; omega) (.slice vo l.length vc))
  have h0 := hb2.cell 0; have f0 := hb2.free 0
  simp only [List.getElem?_cons_zero] at h0
  have hge : Hid (w.heap.size ≤ hb) := Lib.hid (by omega)
  clear hv hn hx2 hb2 hset hvb hsz0 hsz1 hg1 BX
  have c0 := BX3.out.cell 0; have c1 := BX3.out.cell 1; have c2 := BX3.out.cell 2; have c3 := BX3.out.cell 3; have c4 := BX3.out.cell 4; have c5 := BX3.out.cell 5
  have b0 := BH.out.cell 0; have b1 := BH.out.cell 1
  simp only [List.getElem?_cons_zero, List.getElem?_cons_succ] at c0 c1 c2 c3 c4 c5 b0 b1
  have SC := Lib.hid (fun W (hW : Ext (w2.setCell ⟨hb, 0, none⟩ (.slice vo l.length vc)) W) => own_ext OV.out hW)
  go_wp2_with fail
  have BXX := BX3
  clear h0 f0 c0 c1 c2 c3 c4 c5 BX3
  have hx3 := XS.out
  obtain ⟨w3, hw3⟩ : ∃ w3, w3 = w2.setCell ⟨hb, 0, none⟩ (.slice vo l.length vc) := ⟨_, rfl⟩
  rw [← hw3] at BH OV XS BXX hx3 b0 b1 ⊢
  clear hw3 SC
  refine (HRC.out _ hx3).mono ?_
  rintro e w4 ⟨rfl, hx4⟩
  have X4 := Lib.hid (Ext.trans hx3 hx4)
  have BH4 := Lib.hid (BH.out.ext' hx4); have OV4 := Lib.hid (own_ext OV.out hx4)
  have d0 := hx4.cell (p := ⟨hb, 0, none⟩) BH.out.lt |>.trans b0; have d1 := hx4.cell (p := ⟨hb, 1, none⟩) BH.out.lt |>.trans b1
  have BX4 := Lib.hid (BXX.out.ext' hx4)
  clear BH OV XS hx3 hx4 b0 b1 BXX
  cases hr : rightS ⟨cl, nm, acts, reads, ca, an⟩
  · have R := Lib.hid hr; clear hr
    go_wp2_with fail
    go_ret2
    have e0 : doS l ⟨cl, nm, acts, reads, ca, an⟩ = (l, []) := by unfold doS; rw [if_neg (by rw [R.out]; simp)]
    rw [e0]
    exact ⟨_, _, rfl, OV4.out, World.ownsRow_nil _ _ _ _, X4.out⟩
  · have R := Lib.hid hr; clear hr
    go_wp2_with fail
    refine (sound_calls l vo vc w4 (by omega) (rows_of_own (fun _ => rfl) OV4.out) HOK.out).mono ?_
    rintro e w5 ⟨rfl, hx5⟩
    have X5 := Lib.hid (Ext.trans X4.out hx5)
    have BH5 := Lib.hid (BH4.out.ext' hx5); have OV5 := Lib.hid (own_ext OV4.out hx5)
    have f0 := hx5.cell (p := ⟨hb, 0, none⟩) BH4.out.lt |>.trans d0; have f1 := hx5.cell (p := ⟨hb, 1, none⟩) BH4.out.lt |>.trans d1
    have hbx := BX4.out.ext' hx5
    clear hx5 d0 d1 BH4 OV4 BX4
    have c0 := hbx.cell 0; have c1 := hbx.cell 1; have c2 := hbx.cell 2; have c3 := hbx.cell 3; have c4 := hbx.cell 4; have c5 := hbx.cell 5
    simp only [List.getElem?_cons_zero, List.getElem?_cons_succ] at c0 c1 c2 c3 c4 c5
    clear hbx
    cases hs : soundB l
    · have SB := Lib.hid hs; clear hs
      go_wp2_with fail
      go_ret2
      have e0 : doS l ⟨cl, nm, acts, reads, ca, an⟩ = (l, []) := by unfold doS; rw [if_neg (by rw [SB.out]; simp)]
      rw [e0]
      exact ⟨_, _, rfl, OV5.out, World.ownsRow_nil _ _ _ _, X5.out⟩
    · have SB := Lib.hid hs; clear hs
      obtain ⟨hk3, hal, hkz⟩ := rightS_kinds R.out
      have T5 : TabAt w.heap.size w5 hb (.slice vo l.length vc) (.map (some mb)) l := ⟨BH5.out, OV5.out, ((soundB_iff l).1 SB.out).1, HOK.out⟩
      have hDO := HDO.out T5 X5.out.size (HLV.out.below X5.out) hge.out ((HZ.out.1.ext X5.out).nrows X5.out.size (fun b hb3 e => by have := tab_own2 T5 hge.out e; omega)) hk3 (by have := hal; simp only at this; omega) hl
      have DOC := Lib.hid hDO; have HT5 := Lib.hid T5
      clear hDO T5 hk3 hal hkz
      go_wp2_with fail
      refine DOC.out.mono ?_
      rintro e w6 hdone
      obtain ⟨rv, v6, rfl, hrv, hrn, hT6, -, hb6⟩ := hdone.out
      have g0 := hT6.blk.cell 0
      simp only [List.getElem?_cons_zero] at g0
      have T6 := Lib.hid hT6; have RV := Lib.hid hrv; have RN := Lib.hid hrn
      have hs5 := X5.out.size
      have X6 : Hid (Ext w w6) := Lib.hid (Below.trans X5.out (hb6.below X5.out.size (fun i e => tab_own2 HT5.out hge.out e)))
      have HS5 := Lib.hid hs5
      clear hdone hT6 hb6 hrv hrn hs5 c0 c1 c2 c3 c4 c5 f0 f1
      go_wp2_with fail
      go_ret2
      refine ⟨_, _, rfl, ?_, ?_, X6.out⟩
      · have e0 : doS l ⟨cl, nm, acts, reads, ca, an⟩ = doneD l acts := by unfold doS; rw [if_pos ⟨R.out, SB.out⟩]
        rw [e0]; exact T6.out.row
      · have e0 : doS l ⟨cl, nm, acts, reads, ca, an⟩ = doneD l acts := by unfold doS; rw [if_pos ⟨R.out, SB.out⟩]
        rw [e0]; exact own_base RV.out fun k e => Nat.le_trans HS5.out (RN.out k e)
end Go.Proofs.YtngahblgicjoiaaGreatDoor
