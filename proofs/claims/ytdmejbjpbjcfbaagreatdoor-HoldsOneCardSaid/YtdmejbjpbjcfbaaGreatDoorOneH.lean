/- HoldsOne, its parts: SameHold at one and the same hold, made, and what is plain. -/
import Derived.Test.YtdmejbjpbjcfbaaGreatDoorInH
import Derived.Test.YtdmejbjpbjcfbaaGreatDoorAwakeH
import Derived.Test.YtdmejbjpbjcfbaaGreatDoorCountH
import Derived.Test.YtdmejbjpbjcfbaaGreatDoorSameActs
import Derived.Test.YtdmejbjpbjcfbaaGreatDoorSame
namespace Go.Proofs.YtdmejbjpbjcfbaaGreatDoor
open Go.RowKit

set_option maxRecDepth 100000 in
set_option maxHeartbeats 1600000 in
/-- SameHold at two that say the same hold. -/
theorem sameHold_calls (x y : HoldV) (d : HoldD) (no no' : Nat → Prop) (w : World) (hx : x.is w no d) (hy : y.is w no' d) (ha : d.acts.length ≤ 1000000) (hr : d.reads.length ≤ 1000000) :
    Calls Tryz.prog 18 #[.agg (encHV x).toArray, .agg (encHV y).toArray] w fun e w' => e = .returned (.bool true) ∧ Ext w w' := by
  obtain ⟨key, cl, nm, xo, xn, xc, yo, yn, yc, put, value⟩ := x
  obtain ⟨key2, cl2, nm2, xo2, xn2, xc2, yo2, yn2, yc2, put2, value2⟩ := y
  obtain ⟨key', cl', nm', acts, reads, put', value'⟩ := d
  obtain ⟨e1, e2, e3, e4, e5, e6, e7, a1, r1⟩ := hx
  obtain ⟨f1, f2, f3, f4, f5, f6, f7, a2, r2⟩ := hy
  simp only at e1 e2 e3 e4 e5 e6 e7 f1 f2 f3 f4 f5 f6 f7 a1 r1 a2 r2 ha hr
  subst e1 e2 e3 e4 e5 e6 e7 f1 f2 f3 f4 f5 f6 f7
  have hw : ∃ w2, w2 = (w.alloc (.cells #[.string key2, .int .i64 cl2, .int .i64 nm2, .slice xo acts.length xc, .slice yo reads.length yc, .bool put2, .string value2] 35)).alloc (.cells #[.string key2, .int .i64 cl2, .int .i64 nm2, .slice xo2 acts.length xc2, .slice yo2 reads.length yc2, .bool put2, .string value2] 35) ∧ Ext w w2 ∧ Blk w2 w.heap.size [.string key2, .int .i64 cl2, .int .i64 nm2, .slice xo acts.length xc, .slice yo reads.length yc, .bool put2, .string value2] 35 ∧ Blk w2 (w.heap.size + 1) [.string key2, .int .i64 cl2, .int .i64 nm2, .slice xo2 acts.length xc2, .slice yo2 reads.length yc2, .bool put2, .string value2] 35 := by
    refine ⟨_, rfl, ((Below.refl _ w).alloc (Nat.le_refl _) _).alloc (by simp) _, (Blk.new w _ _).alloc _, ?_⟩
    have := Blk.new (w.alloc (.cells #[.string key2, .int .i64 cl2, .int .i64 nm2, .slice xo acts.length xc, .slice yo reads.length yc, .bool put2, .string value2] 35)) [.string key2, .int .i64 cl2, .int .i64 nm2, .slice xo2 acts.length xc2, .slice yo2 reads.length yc2, .bool put2, .string value2] 35
    rwa [World.size_alloc] at this
  obtain ⟨w2, e2, x2, b1, b2⟩ := hw
  have HA : Hid (∀ W, Ext w W → Calls Tryz.prog 59 #[.slice xo acts.length xc, .slice xo2 acts.length xc2] W fun e w' => e = .returned (.bool true) ∧ Ext W w') := Lib.hid (fun W (hW : Ext w W) => (sameActs_calls acts acts xo xo2 xc xc2 W ha ((a1.rows.ext hW).mono hW.size) ((a2.rows.ext hW).mono hW.size)).mono (fun e w' h => ⟨h.1.trans (ret_bool (decide_eq_true rfl)), h.2⟩))
  have HR : Hid (∀ W, Ext w W → Calls Tryz.prog 60 #[.slice yo reads.length yc, .slice yo2 reads.length yc2] W fun e w' => e = .returned (.bool true) ∧ Ext W w') := Lib.hid (fun W (hW : Ext w W) => (sameReads_calls reads reads yo yo2 yc yc2 W hr ((r1.rows.ext hW).mono hW.size) ((r2.rows.ext hW).mono hW.size)).mono (fun e w' h => ⟨h.1.trans (ret_bool (decide_eq_true rfl)), h.2⟩))
  have E2 := Lib.hid e2; have X2 := Lib.hid x2; have B1 := Lib.hid b1; have B2 := Lib.hid b2
  clear e2 x2 b1 b2 a1 r1 a2 r2
  simp only [encHV]
  go_enter Tryz.func18, Tryz.ntmps18
  go_wp2_with fail
  rw [← E2.out]
  refine (HA.out w2 X2.out).mono ?_
  rintro e w3 ⟨rfl, hx3⟩
  have c3 := (B1.out.ext' hx3).cell 4; have g3 := (B2.out.ext' hx3).cell 4
  simp only [List.getElem?_cons_zero, List.getElem?_cons_succ] at c3 g3
  have X3 := Lib.hid hx3
  clear hx3
  go_wp2_with fail
  refine (HR.out w3 (Ext.trans X2.out X3.out)).mono ?_
  rintro e w4 ⟨rfl, hx4⟩
  have hx34 := Ext.trans X3.out hx4
  have c5 := (B1.out.ext' hx34).cell 5; have g5 := (B2.out.ext' hx34).cell 5; have c6 := (B1.out.ext' hx34).cell 6; have g6 := (B2.out.ext' hx34).cell 6
  simp only [List.getElem?_cons_zero, List.getElem?_cons_succ] at c5 g5 c6 g6
  have X4 := Lib.hid (Ext.trans X2.out hx34)
  clear hx4 hx34
  go_wp2_with fail
  go_ret
  exact ⟨ret_bool (by simp), X4.out⟩

/-- The table that made makes. -/
def madeD (dl : List HoldD) : List HoldD := dl.foldl (fun ds d => putT [d] ds) []
theorem madeD_succ (dl : List HoldD) (k : Nat) (d : HoldD) (h : dl[k]? = some d) : madeD (dl.take (k + 1)) = putT [d] (madeD (dl.take k)) := by
  unfold madeD; rw [List.take_add_one, h, List.foldl_append]; rfl
/-- Put of one hold that lies in a row of one, at a table. -/
theorem put1_calls (hb : Nat) (v : Value) (ds : List HoldD) (x : HoldV) (d : HoldD) (w : World) (T : Tab w hb v ds) (hx : x.is w (fun b => b = hb ∨ v.ownBlock = some b) d) (hok : d.ok) :
    Calls Tryz.prog 13 #[.pointer (some ⟨hb, 0, none⟩), .slice (some ⟨w.heap.size, 0, none⟩) 1 1] (w.alloc (.cells (encHV x).toArray 35)) (PutPost hb v ds [d] (w.alloc (.cells (encHV x).toArray 35))) := by
  have hxx : Ext w (w.alloc (.cells (encHV x).toArray 35)) := (Below.refl _ w).alloc (Nat.le_refl _) _
  have hbl := T.blk.lt
  exact put_calls hb v ds [x] [d] (some ⟨w.heap.size, 0, none⟩) 1 _ (T.ext hxx) (by simp)
    (rows_one x (Blk.new w (encHV x) _) _ (fun e => e.elim (fun e => by omega) (fun e => by have := T.lt e; omega)))
    ⟨hx.ext hxx, trivial⟩ (fun d' hd' => by rw [List.mem_singleton.1 hd']; exact hok)

set_option maxRecDepth 100000 in
set_option maxHeartbeats 1600000 in
theorem made_calls (ls : List HoldV) (dl : List HoldD) (ao : Option Addr) (cap : Nat) (w : World) (hl : ls.length ≤ 1000000) (hr : Rows 7 encHV w.heap.size w ao ls) (hd : HoldsAre w (fun _ => False) ls dl) (hok : ∀ d ∈ dl, d.ok) :
    Calls Tryz.prog 11 #[.slice ao ls.length cap] w fun e w' => ∃ (hb : Nat) (v : Value), e = .returned (.pointer (some ⟨hb, 0, none⟩)) ∧ Tab w' hb v (madeD dl) ∧ w.heap.size ≤ hb ∧ (∀ j, v.ownBlock = some j → w.heap.size ≤ j) ∧ Ext w w' := by
  have HR := Lib.hid hr; have HD := Lib.hid hd; have HOK := Lib.hid hok; have HLN := Lib.hid hd.len
  clear hr hd hok
  go_enter Tryz.func11, Tryz.ntmps11
  go_wp2_with fail
  refine (new_calls w).mono ?_
  rintro e w1 ⟨rfl, hw1⟩
  have T1 : Hid (Tab w1 w.heap.size (.slice none 0 0) []) := Lib.hid (by rw [hw1]; exact Tab.new w)
  have X1 : Hid (Ext w w1) := Lib.hid (by rw [hw1]; exact (Below.refl _ w).alloc (Nat.le_refl _) _)
  clear hw1
  have hge : w.heap.size ≤ w.heap.size := Nat.le_refl _
  generalize hH : w.heap.size = hb at T1 ⊢
  have hhb : w.heap.size ≤ hb := by omega
  clear hge
  go_wp2_with fail
  go_loopw [4] (fun vi wr => ∃ (k : Nat) (v : Value), k ≤ ls.length ∧ vi = .int .i64 k ∧ Tab wr hb v (madeD (dl.take k)) ∧ (∀ j, v.ownBlock = some j → w.heap.size ≤ j) ∧ Ext w wr) (fun vi _ => ls.length - (intOf vi).toNat)
  case atStart => exact ⟨0, .slice none 0 0, by omega, rfl, T1.out, by simp [Value.ownBlock], X1.out⟩
  case round =>
    obtain ⟨k, v, hk, rfl, htab, hv, hx⟩ := hrel
    have K1 := Lib.hid htab; have K2 := Lib.hid hv; have K3 := Lib.hid hx
    clear htab hv hx
    by_cases hlt : k < ls.length
    · obtain ⟨x, hx⟩ : ∃ x, ls[k]? = some x := ⟨_, List.getElem?_eq_getElem hlt⟩
      obtain ⟨d, hdk, hxd⟩ := HD.out.at k x hx
      obtain ⟨b, off, rfl, hbb, hcell⟩ := HR.out (by intro e; rw [e] at hlt; simp at hlt)
      have hcx := hcell k x hx
      have hmove : ∀ j, wr.cell? ⟨b, j, none⟩ = w.cell? ⟨b, j, none⟩ := fun j => K3.out.cell (p := ⟨b, j, none⟩) hbb
      have hms := madeD_succ dl k d hdk
      have hxw : x.is w (fun b => b = hb ∨ v.ownBlock = some b) d := by
        refine ⟨hxd.key, hxd.cl, hxd.nm, hxd.an, hxd.rn, hxd.put, hxd.value, ?_, ?_⟩
        · exact Rows.nrows hxd.acts.rows (Nat.le_refl _) (fun b hb' e => e.elim (fun e => by omega) (fun e => by have := K2.out b e; omega))
        · exact Rows.nrows hxd.reads.rows (Nat.le_refl _) (fun b hb' e => e.elim (fun e => by omega) (fun e => by have := K2.out b e; omega))
      have HP := Lib.hid (put1_calls hb v (madeD (dl.take k)) x d wr K1.out (hxw.ext K3.out) (HOK.out d (List.mem_of_getElem? hdk)))
      have hxb : Ext wr (wr.alloc (.cells (encHV x).toArray 35)) := (Below.refl _ wr).alloc (Nat.le_refl _) _
      have XB := Lib.hid hxb
      obtain ⟨key, cl, nm, xo, xn, xc, yo, yn, yc, put, value⟩ := x
      simp only [encHV] at HP XB
      have d0 := (hmove _).trans (hcx 0 _ rfl); have d1 := (hmove _).trans (hcx 1 _ rfl); have d2 := (hmove _).trans (hcx 2 _ rfl); have d3 := (hmove _).trans (hcx 3 _ rfl); have d4 := (hmove _).trans (hcx 4 _ rfl); have d5 := (hmove _).trans (hcx 5 _ rfl); have d6 := (hmove _).trans (hcx 6 _ rfl)
      simp only [Nat.add_zero] at d0
      have HMS := Lib.hid hms
      have i0 : (0 : Int) ≤ (k : Int) := by omega
      have i1 : (k : Int) < (ls.length : Int) := by omega
      clear hx hdk hxd hcell hcx hmove hms hxw hxb hH
      go_wp2_with fail
      refine HP.out.mono ?_
      rintro e w2 ⟨rfl, hT, hB, -⟩
      have HT := Lib.hid hT; have HB := Lib.hid hB
      clear hT hB HP
      go_wp2_with fail
      go_roundw
      case rel =>
        obtain ⟨v', t1, t2⟩ := HT.out
        have hs := K3.out.size
        have hs2 := XB.out.size
        refine ⟨k + 1, v', by omega, by go_num, by rw [HMS.out]; exact t1, fun j hj => ?_, ?_⟩
        · rcases t2 j hj with e | e
          · exact K2.out j e
          · omega
        · exact ((K3.out.but (fun _ => False)).trans ((Ext.but XB.out (fun _ => False)).trans HB.out (U := fun j => w.heap.size ≤ j) (fun _ _ e => e.elim) (fun i _ e => e.elim (fun e => by rw [e]; exact hhb) (K2.out i))) (U := fun j => w.heap.size ≤ j) (fun _ _ e => e.elim) (fun _ _ e => e)).ext (fun i hi e => by omega)
      case measure => simp [intOf]; omega
    · have hall : dl.take k = dl := List.take_of_length_le (by have := HLN.out; omega)
      rw [hall] at K1
      clear hall hH
      go_wp2_with fail
      go_ret
      exact ⟨hb, v, rfl, K1.out, hhb, K2.out, K3.out⟩
end Go.Proofs.YtdmejbjpbjcfbaaGreatDoor
