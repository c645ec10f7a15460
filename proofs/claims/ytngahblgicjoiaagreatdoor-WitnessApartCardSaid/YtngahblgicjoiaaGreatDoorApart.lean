/- WitnessApart: steps of other keys, done in either order. -/
import Derived.Test.YtngahblgicjoiaaGreatDoorDoP
import Derived.Test.YtngahblgicjoiaaGreatDoorAwake
import Derived.Test.YtngahblgicjoiaaGreatDoorSameLn
namespace Go.Proofs.YtngahblgicjoiaaGreatDoor
open Go.RowKit

theorem tell_few : ∀ (l : List ActD) (p : List Rd × Told), (l.foldl tellAct p).1.length ≤ p.1.length + l.length
  | [], p => by simp
  | a :: l, p => by
    have h1 := tell_few l (tellAct p a)
    have h2 : (tellAct p a).1.length ≤ p.1.length + 1 := by
      unfold tellAct
      split
      · omega
      · simp only [List.length_append]
        have : ((p.2 (keyT a)).head?.toList).length ≤ 1 := by cases (p.2 (keyT a)).head? <;> simp
        omega
    simp only [List.foldl_cons, List.length_cons]
    omega
theorem doneD_few (rows : List RowD) (acts : List ActD) : (doneD rows acts).2.length ≤ acts.length := by
  have := tell_few acts ([], (doneK rows acts).2)
  simpa [doneD, tellAt] using this
theorem doS_ok {rows : List RowD} {x : StepD} (ha : ∀ a ∈ x.acts, a.ok) (h : ∀ r ∈ rows, r.ok) : (∀ r ∈ (doS rows x).1, r.ok) ∧ (doS rows x).1.length ≤ rows.length + x.acts.length ∧ (doS rows x).2.length ≤ x.acts.length := by
  unfold doS
  split
  · have h1 := doneK_ok ha h
    exact ⟨h1.1, h1.2, doneD_few rows x.acts⟩
  · exact ⟨h, by simp, by simp⟩
/-- Of other keys: either order leaves the same, and tells the same. -/
theorem apart_doS {rows : List RowD} {a b : StepD} (ha : rightS a = true) (hb : rightS b = true) (hk : ∀ x ∈ a.acts, ∀ y ∈ b.acts, x.key ≠ y.key) :
    (doS (doS rows a).1 b).1 = (doS (doS rows b).1 a).1 ∧ (doS rows a).2 = (doS (doS rows b).1 a).2 ∧ (doS (doS rows a).1 b).2 = (doS rows b).2 := by
  cases hs : soundB rows
  · have e : ∀ x, doS rows x = (rows, []) := fun x => by unfold doS; rw [if_neg (by rw [hs]; simp)]
    simp only [e, and_self]
  · have hS := (soundB_iff rows).1 hs
    have h := apart_done (rows := rows) hS.1 (keys_apart hk)
    have sa := (soundB_iff _).2 (done_sound hS (rightS_acts ha))
    have sb := (soundB_iff _).2 (done_sound hS (rightS_acts hb))
    have e1 : doS rows a = doneD rows a.acts := by unfold doS; rw [if_pos ⟨ha, hs⟩]
    have e2 : doS rows b = doneD rows b.acts := by unfold doS; rw [if_pos ⟨hb, hs⟩]
    have e3 : doS (doneD rows a.acts).1 b = doneD (doneD rows a.acts).1 b.acts := by unfold doS; rw [if_pos ⟨hb, sa⟩]
    have e4 : doS (doneD rows b.acts).1 a = doneD (doneD rows b.acts).1 a.acts := by unfold doS; rw [if_pos ⟨ha, sb⟩]
    rw [e1, e2, e3, e4]
    exact h
theorem two_small {y1 y2 : StepZ} (h1 : y1.d.small) (h2 : y2.d.small) : ∀ z ∈ [y1, y2], z.d.small := by
  intro z hz
  simp only [List.mem_cons, List.not_mem_nil, or_false] at hz
  rcases hz with rfl | rfl
  · exact h1
  · exact h2
/-- Amid the comparing of keys. -/
def NoKey (l m : List ActD) (i : Nat) : Prop := ∀ (j : Nat) (x : ActD), j < i → l[j]? = some x → ∀ y ∈ m, x.key ≠ y.key
def NoKey1 (l m : List ActD) (i k : Nat) : Prop := ∀ (x : ActD), l[i]? = some x → ∀ (j : Nat) (y : ActD), j < k → m[j]? = some y → x.key ≠ y.key
set_option maxRecDepth 100000 in
set_option maxHeartbeats 3200000 in
theorem apartW_calls (l : List RowD) (ao : Option Addr) (cap : Nat) (za zb : StepZ) (w : World) (hl : l.length ≤ 9223372036854775807) (hr : Rows 2 encRw w.heap.size w ao l) (hok : ∀ r ∈ l, r.ok) (hza : za.at w.heap.size w) (hzb : zb.at w.heap.size w) (hda : za.d.small) (hdb : zb.d.small) (hlv : LV w.heap.size w) :
    Calls Tryz.prog 5 #[.slice ao l.length cap, .agg (encStep za).toArray, .agg (encStep zb).toArray] w fun e w' => e = .returned (.bool true) ∧ Ext w w' := by
  obtain ⟨da, pa, qa, ra, sa⟩ := za
  obtain ⟨db, pb, qb, rb, sb⟩ := zb
  simp only at hda hdb
  have HR := Lib.hid hr; have HOK := Lib.hid hok; have ZA := Lib.hid hza; have ZB := Lib.hid hzb; have DA := Lib.hid hda; have DB := Lib.hid hdb; have HLV := Lib.hid hlv
  clear hr hok hza hzb hda hdb hlv
  obtain ⟨W, hW⟩ : ∃ W, W = ((w.alloc (.cells (encStep ⟨da, pa, qa, ra, sa⟩).toArray 38)).alloc (.cells (encStep ⟨db, pb, qb, rb, sb⟩).toArray 38)) := ⟨_, rfl⟩
  have hb1 : Blk W w.heap.size (encStep ⟨da, pa, qa, ra, sa⟩) 38 := by rw [hW]; exact (Blk.new w _ _).alloc _
  have hb2 : Blk W (w.heap.size + 1) (encStep ⟨db, pb, qb, rb, sb⟩) 38 := by
    have := Blk.new (w.alloc (.cells (encStep ⟨da, pa, qa, ra, sa⟩).toArray 38)) (encStep ⟨db, pb, qb, rb, sb⟩) 38
    rw [hW]; simpa using this
  have hx : Ext w W := by rw [hW]; exact ((Below.refl _ w).alloc (Nat.le_refl _) _).alloc (by simp) _
  have HW := Lib.hid hW; have B1 := Lib.hid hb1; have B2 := Lib.hid hb2; have X1 := Lib.hid hx
  clear hW hb1 hb2 hx
  have SM : Hid (∀ W' (y1 y2 : StepZ) (cs : Array Value), cs = (encStep y1 ++ encStep y2).toArray → y1.at W'.heap.size W' → y2.at W'.heap.size W' → StepsAt (W'.alloc (.cells cs 38)) (some ⟨W'.heap.size, 0, none⟩) [y1, y2] ∧ Ext W' (W'.alloc (.cells cs 38))) := Lib.hid (fun W' y1 y2 cs e h1 h2 => steps_made y1 y2 h1 h2 e)
  have EA : Hid (encStep ⟨da, pa, qa, ra, sa⟩ = [.int .i64 da.cl, .int .i64 da.nm, .slice pa da.acts.length qa, .slice ra da.reads.length sa, .int .i64 da.ca, .int .i64 da.an]) := Lib.hid rfl
  have EB : Hid (encStep ⟨db, pb, qb, rb, sb⟩ = [.int .i64 db.cl, .int .i64 db.nm, .slice pb db.acts.length qb, .slice rb db.reads.length sb, .int .i64 db.ca, .int .i64 db.an]) := Lib.hid rfl
  rw [EA.out, EB.out]
  rw [EA.out] at B1
  rw [EB.out] at B2
  rw [EA.out, EB.out] at HW
  go_enter Tryz.func5, Tryz.ntmps5
  go_wp2_with fail
  rw [← HW.out]
  refine (awake_calls W ((HLV.out.below X1.out).up X1.out.size)).mono ?_
  rintro e w2 ⟨rfl, hx2⟩
  have hxw2 := Ext.trans X1.out hx2
  have X2 := Lib.hid hxw2
  have P1 := Lib.hid (B1.out.ext' hx2); have P2 := Lib.hid (B2.out.ext' hx2)
  have A2 := Lib.hid ((ZA.out.ext hxw2).mono hxw2.size); have C2 := Lib.hid ((ZB.out.ext hxw2).mono hxw2.size)
  clear hxw2 hx2 B1 B2 HW X1
  have c0 := P1.out.cell 0; have c1 := P1.out.cell 1; have c2 := P1.out.cell 2; have c3 := P1.out.cell 3; have c4 := P1.out.cell 4; have c5 := P1.out.cell 5
  have d0 := P2.out.cell 0; have d1 := P2.out.cell 1; have d2 := P2.out.cell 2; have d3 := P2.out.cell 3; have d4 := P2.out.cell 4; have d5 := P2.out.cell 5
  simp only [List.getElem?_cons_zero, List.getElem?_cons_succ] at c0 c1 c2 c3 c4 c5 d0 d1 d2 d3 d4 d5
  go_wp2_with fail
  clear c0 c1 c2 c3 c4 c5 d0 d1 d2 d3 d4 d5
  obtain ⟨hs3, hx3⟩ := SM.out w2 ⟨da, pa, qa, ra, sa⟩ ⟨db, pb, qb, rb, sb⟩ #[.int .i64 da.cl, .int .i64 da.nm, .slice pa da.acts.length qa, .slice ra da.reads.length sa, .int .i64 da.ca, .int .i64 da.an, .int .i64 db.cl, .int .i64 db.nm, .slice pb db.acts.length qb, .slice rb db.reads.length sb, .int .i64 db.ca, .int .i64 db.an] (by rw [EA.out, EB.out]; rfl) A2.out C2.out
  refine (great_calls [⟨da, pa, qa, ra, sa⟩, ⟨db, pb, qb, rb, sb⟩] _ 2 _ (by simp) hs3 (two_small DA.out DB.out)).mono ?_
  rintro e w4 ⟨rfl, hx4⟩
  have hxw4 := Ext.trans hx3 hx4
  have X4 := Lib.hid (Ext.trans X2.out hxw4)
  have Q1 := Lib.hid (P1.out.ext' hxw4); have Q2 := Lib.hid (P2.out.ext' hxw4)
  have A4 := Lib.hid ((A2.out.ext hxw4).mono hxw4.size); have C4 := Lib.hid ((C2.out.ext hxw4).mono hxw4.size)
  clear hxw4 hx3 hx4 hs3 P1 P2 A2 C2 X2
  cases hgr : greatD ([(⟨da, pa, qa, ra, sa⟩ : StepZ), ⟨db, pb, qb, rb, sb⟩].map (·.d))
  case true =>
    clear hgr
    go_wp2_with fail
    go_ret
    exact ⟨rfl, X4.out⟩
  case false =>
    have hfew := great_few hgr
    have hfa := hfew.2 da (by simp); have hfb := hfew.2 db (by simp)
    have OA := Lib.hid (DA.out.ok (by omega) (by omega)); have OB := Lib.hid (DB.out.ok (by omega) (by omega))
    have NA := Lib.hid hfa; have NB := Lib.hid hfb
    clear hgr hfew hfa hfb
    go_wp2_with fail
    refine (linesOf_calls l ao cap 1000 _ (by omega) hl ((HR.out.ext X4.out).mono X4.out.size) HOK.out).mono ?_
    rintro e w5 ⟨rfl, hx5⟩
    have X5 := Lib.hid (Ext.trans X4.out hx5)
    have P1 := Lib.hid (Q1.out.ext' hx5); have P2 := Lib.hid (Q2.out.ext' hx5)
    have A5 := Lib.hid ((A4.out.ext hx5).mono hx5.size); have C5 := Lib.hid ((C4.out.ext hx5).mono hx5.size)
    clear hx5 Q1 Q2 A4 C4 X4
    by_cases hln : 1000 < linesN 1000 0 l
    · have g1 : decide ((1000 : Int) < ((linesN 1000 0 l : Nat) : Int)) = true := by simp; omega
      clear hln
      go_wp2_with fail
      go_ret
      exact ⟨rfl, X5.out⟩
    · have g1 : decide ((1000 : Int) < ((linesN 1000 0 l : Nat) : Int)) = false := by simp; omega
      have hl1 : l.length ≤ 1000 := by have := linesN_le l 0 (show linesN 1000 0 l ≤ 1000 by omega); omega
      have L1 := Lib.hid hl1
      have c0 := P1.out.cell 0; have c1 := P1.out.cell 1; have c2 := P1.out.cell 2; have c3 := P1.out.cell 3; have c4 := P1.out.cell 4; have c5 := P1.out.cell 5
      have d0 := P2.out.cell 0; have d1 := P2.out.cell 1; have d2 := P2.out.cell 2; have d3 := P2.out.cell 3; have d4 := P2.out.cell 4; have d5 := P2.out.cell 5
      simp only [List.getElem?_cons_zero, List.getElem?_cons_succ] at c0 c1 c2 c3 c4 c5 d0 d1 d2 d3 d4 d5
      clear hln hl1
      go_wp2_with fail
      clear c0 c1 c2 c3 c4 c5 d0 d1 d2 d3 d4 d5 g1
      obtain ⟨hs3, hx3⟩ := SM.out w5 ⟨da, pa, qa, ra, sa⟩ ⟨db, pb, qb, rb, sb⟩ #[.int .i64 da.cl, .int .i64 da.nm, .slice pa da.acts.length qa, .slice ra da.reads.length sa, .int .i64 da.ca, .int .i64 da.an, .int .i64 db.cl, .int .i64 db.nm, .slice pb db.acts.length qb, .slice rb db.reads.length sb, .int .i64 db.ca, .int .i64 db.an] (by rw [EA.out, EB.out]; rfl) A5.out C5.out
      refine (rightAll_calls [⟨da, pa, qa, ra, sa⟩, ⟨db, pb, qb, rb, sb⟩] _ 2 _ (by simp) hs3 (two_ok OA.out OB.out)).mono ?_
      rintro e w6 ⟨rfl, hx6⟩
      have hxw6 := Ext.trans hx3 hx6
      have X6 := Lib.hid (Ext.trans X5.out hxw6)
      have Q1 := Lib.hid (P1.out.ext' hxw6); have Q2 := Lib.hid (P2.out.ext' hxw6)
      clear hxw6 hx3 hx6 hs3 P1 P2 A5 C5 X5
      cases hrt : ([(⟨da, pa, qa, ra, sa⟩ : StepZ), ⟨db, pb, qb, rb, sb⟩].all fun z => rightS z.d)
      case false =>
        clear hrt
        go_wp2_with fail
        go_ret
        exact ⟨rfl, X6.out⟩
      case true =>
        have hrr : rightS da = true ∧ rightS db = true := by simpa using hrt
        have RA := Lib.hid hrr.1; have RB := Lib.hid hrr.2
        clear hrt hrr
        go_wp2_with fail
        have RWA := Lib.hid ZA.out.1; have RWB := Lib.hid ZB.out.1
        simp only at RWA RWB
        go_loopw [7] (fun i wr => ∃ k : Nat, k ≤ da.acts.length ∧ i = .int .i64 k ∧ NoKey da.acts db.acts k ∧ Ext w6 wr) (fun i _ => da.acts.length - (intOf i).toNat)
        case atStart => exact ⟨0, by omega, rfl, fun j x h => by omega, Below.refl _ _⟩
        case round =>
          obtain ⟨k, hk, rfl, hno, hx⟩ := hrel
          have K1 := Lib.hid hno; have K2 := Lib.hid hx
          clear hno hx
          have c2 := (Q1.out.ext' K2.out).cell 2; have d2 := (Q2.out.ext' K2.out).cell 2
          simp only [List.getElem?_cons_zero, List.getElem?_cons_succ] at c2 d2
          by_cases hlt : k < da.acts.length
          · obtain ⟨x, hx⟩ : ∃ x, da.acts[k]? = some x := ⟨_, List.getElem?_eq_getElem hlt⟩
            obtain ⟨ba, oa, rfl, hba, hcella⟩ := RWA.out (by intro e; rw [e] at hlt; simp at hlt)
            have hcx := hcella k x hx 1 _ rfl
            have HX := Lib.hid hx; have HCX := Lib.hid hcx
            have BA := Lib.hid hba
            have i0 : (0 : Int) ≤ (k : Int) := by omega
            have i1 : (k : Int) < (da.acts.length : Int) := by omega
            have hna := NA.out.1
            clear hx hcx hcella hba
            go_wp2_with fail
            clear c2 d2
            obtain ⟨wb, hwb⟩ : ∃ wb, wb = wr := ⟨_, rfl⟩
            have K3 : Hid (Ext w6 wb) := Lib.hid (by rw [hwb]; exact K2.out)
            rw [← hwb]
            clear K2 hwb
            go_loopw [8] (fun i ws => ∃ q : Nat, q ≤ db.acts.length ∧ i = .int .i64 q ∧ NoKey1 da.acts db.acts k q ∧ Ext wb ws) (fun i _ => db.acts.length - (intOf i).toNat)
            case atStart => exact ⟨0, by omega, rfl, fun x _ m z hm => by omega, Below.refl _ _⟩
            case round =>
              obtain ⟨q, hq, rfl, hn1, hxs⟩ := hrel
              have N1 := Lib.hid hn1; have XS := Lib.hid (Ext.trans K3.out hxs); have HXS := Lib.hid hxs
              clear hn1 hxs
              have c2 := (Q1.out.ext' XS.out).cell 2; have d2 := (Q2.out.ext' XS.out).cell 2
              simp only [List.getElem?_cons_zero, List.getElem?_cons_succ] at c2 d2
              by_cases hqt : q < db.acts.length
              · obtain ⟨y, hy⟩ : ∃ y, db.acts[q]? = some y := ⟨_, List.getElem?_eq_getElem hqt⟩
                obtain ⟨bb, ob, rfl, hbb, hcellb⟩ := RWB.out (by intro e; rw [e] at hqt; simp at hqt)
                have hcy := hcellb q y hy 1 _ rfl
                have HY := Lib.hid hy
                have hX6 := Ext.trans X6.out XS.out
                have e1 := ExtBy.cell ((hX6.cell (p := ⟨ba, _, none⟩) BA.out).trans HCX.out)
                have e2 := ExtBy.cell ((hX6.cell (p := ⟨bb, _, none⟩) hbb).trans hcy)
                have c2' := ExtBy.cell c2; have d2' := ExtBy.cell d2
                have j0 : (0 : Int) ≤ (q : Int) := by omega
                have j1 : (q : Int) < (db.acts.length : Int) := by omega
                have hnb := NB.out.1
                clear hy hcy hcellb hX6
                go_wp2_with fail
                clear c2 d2
                refine wp_region_ext (by kernel_rfl) (by kernel_rfl) ?_
                repeat (go_big_quiet_step (fail))
                refine wpQuiet_nil ?_
                intro wc hw'
                have XC := Lib.hid (show Ext w6 wc by obtain ⟨p, rfl⟩ := hw'; exact Ext.trans XS.out p.ext)
                have XD := Lib.hid (show Ext wb wc by obtain ⟨p, rfl⟩ := hw'; exact Ext.trans HXS.out p.ext)
                clear hw' c2' d2' e1 e2
                go_wp2_with fail
                · go_ret
                  exact ⟨rfl, Ext.trans X6.out XC.out⟩
                · rename_i hne
                  have hne' : x.key ≠ y.key := fun e => by rw [e] at hne; simp at hne
                  refine ⟨⟨q + 1, by omega, by go_num, fun x2 hx2 m z hm hz => ?_, XD.out⟩, by simp [intOf]; omega⟩
                  rcases Nat.lt_or_ge m q with h | h
                  · exact N1.out x2 hx2 m z h hz
                  · obtain rfl : m = q := by omega
                    rw [HX.out] at hx2; rw [HY.out] at hz
                    rw [← Option.some.inj hx2, ← Option.some.inj hz]; exact hne'
              · obtain rfl : q = db.acts.length := by omega
                go_wp2_with fail
                go_roundw
                case rel =>
                  refine ⟨k + 1, by omega, by go_num, fun j u hj hu y hy => ?_, XS.out⟩
                  rcases Nat.lt_or_ge j k with h | h
                  · exact K1.out j u h hu y hy
                  · obtain rfl : j = k := by omega
                    obtain ⟨m, hm⟩ := List.getElem?_of_mem hy
                    exact N1.out u hu m y (by have := (List.getElem?_eq_some_iff.1 hm).1; exact this) hm
                case measure => simp [intOf]; omega
          · obtain rfl : k = da.acts.length := by omega
            have hxw := Ext.trans X6.out K2.out
            have HKN : Hid (∀ x ∈ da.acts, ∀ y ∈ db.acts, x.key ≠ y.key) := Lib.hid (fun x hx => by
              obtain ⟨m, hm⟩ := List.getElem?_of_mem hx
              exact K1.out m x (List.getElem?_eq_some_iff.1 hm).1 hm)
            obtain ⟨e1, e2, e3⟩ := apart_doS (rows := l) RA.out RB.out HKN.out
            have F1 := Lib.hid (doS_ok (rows := l) (x := da) OA.out.acts HOK.out)
            have F2 := Lib.hid (doS_ok (rows := (doS l da).1) (x := db) OB.out.acts F1.out.1)
            have F3 := Lib.hid (doS_ok (rows := l) (x := db) OB.out.acts HOK.out)
            have F4 := Lib.hid (doS_ok (rows := (doS l db).1) (x := da) OA.out.acts F3.out.1)
            have E1 := Lib.hid e1; have E2 := Lib.hid e2; have E3 := Lib.hid e3
            have na := NA.out; have nb := NB.out; have l1 := L1.out; have f1 := F1.out.2; have f2 := F2.out.2; have f3 := F3.out.2; have f4 := F4.out.2
            have hS : Hid ((doS l da).1.length ≤ 100000 ∧ (doS l db).1.length ≤ 100000 ∧ l.length ≤ 100000 ∧ (doS (doS l da).1 db).1.length ≤ 1000000 ∧ (doS l da).2.length ≤ 1000000 ∧ (doS (doS l da).1 db).2.length ≤ 1000000) := Lib.hid (by omega)
            clear e1 e2 e3 na nb l1 f1 f2 f3 f4 RWA RWB K1
            have Y1 := Lib.hid hxw
            have S1 := Lib.hid (Q1.out.ext' K2.out); have S2 := Lib.hid (Q2.out.ext' K2.out)
            clear hxw Q1 Q2 X6 K2 c2 d2
            have c0 := S1.out.cell 0; have c1 := S1.out.cell 1; have c2 := S1.out.cell 2; have c3 := S1.out.cell 3; have c4 := S1.out.cell 4; have c5 := S1.out.cell 5
            simp only [List.getElem?_cons_zero, List.getElem?_cons_succ] at c0 c1 c2 c3 c4 c5
            have t0 : decide (((da.acts.length : Nat) : Int) < ((da.acts.length : Nat) : Int)) = false := by simp
            go_wp2_with fail
            clear c0 c1 c2 c3 c4 c5 t0
            refine (doP_calls l ao cap ⟨da, pa, qa, ra, sa⟩ wr hS.out.2.2.1 ((HR.out.ext Y1.out).mono Y1.out.size) HOK.out ((ZA.out.ext Y1.out).mono Y1.out.size) OA.out ((HLV.out.below Y1.out).up Y1.out.size)).mono ?_
            rintro e w7 ⟨v1, rv1, rfl, ho1, hr1, hx7⟩
            obtain ⟨vo1, vc1, rfl, -, -, hrr1⟩ := Rows.own (enc := encRw) (sz := 2) (fun _ => rfl) ho1
            obtain ⟨ro1, rc1, rfl, -, -, hrr2⟩ := Rows.own (enc := encRd) (sz := 3) (fun _ => rfl) hr1
            have R1 := Lib.hid hrr1; have T1 := Lib.hid hrr2; have Y7 := Lib.hid (Ext.trans Y1.out hx7)
            have U2 := Lib.hid (S2.out.ext' hx7); have U1 := Lib.hid (S1.out.ext' hx7)
            clear ho1 hr1 hrr1 hrr2 hx7 S1 S2
            have d0 := U2.out.cell 0; have d1 := U2.out.cell 1; have d2 := U2.out.cell 2; have d3 := U2.out.cell 3; have d4 := U2.out.cell 4; have d5 := U2.out.cell 5
            simp only [List.getElem?_cons_zero, List.getElem?_cons_succ] at d0 d1 d2 d3 d4 d5
            go_wp2_with fail
            clear d0 d1 d2 d3 d4 d5
            refine (doP_calls (doS l da).1 vo1 vc1 ⟨db, pb, qb, rb, sb⟩ w7 hS.out.1 R1.out F1.out.1 ((ZB.out.ext Y7.out).mono Y7.out.size) OB.out ((HLV.out.below Y7.out).up Y7.out.size)).mono ?_
            rintro e w8 ⟨v1, rv1, rfl, ho1, hr1, hx8⟩
            obtain ⟨vo2, vc2, rfl, -, -, hrr1⟩ := Rows.own (enc := encRw) (sz := 2) (fun _ => rfl) ho1
            obtain ⟨ro2, rc2, rfl, -, -, hrr2⟩ := Rows.own (enc := encRd) (sz := 3) (fun _ => rfl) hr1
            have R2 := Lib.hid hrr1; have T2 := Lib.hid hrr2; have T1' := Lib.hid ((T1.out.ext hx8).mono hx8.size); have Y8 := Lib.hid (Ext.trans Y7.out hx8)
            have S2 := Lib.hid (U2.out.ext' hx8); have S1 := Lib.hid (U1.out.ext' hx8)
            clear ho1 hr1 hrr1 hrr2 hx8 U2 U1 R1 T1
            have d0 := S2.out.cell 0; have d1 := S2.out.cell 1; have d2 := S2.out.cell 2; have d3 := S2.out.cell 3; have d4 := S2.out.cell 4; have d5 := S2.out.cell 5
            simp only [List.getElem?_cons_zero, List.getElem?_cons_succ] at d0 d1 d2 d3 d4 d5
            go_wp2_with fail
            clear d0 d1 d2 d3 d4 d5
            refine (doP_calls l ao cap ⟨db, pb, qb, rb, sb⟩ w8 hS.out.2.2.1 ((HR.out.ext Y8.out).mono Y8.out.size) HOK.out ((ZB.out.ext Y8.out).mono Y8.out.size) OB.out ((HLV.out.below Y8.out).up Y8.out.size)).mono ?_
            rintro e w9 ⟨v1, rv1, rfl, ho1, hr1, hx9⟩
            obtain ⟨vo3, vc3, rfl, -, -, hrr1⟩ := Rows.own (enc := encRw) (sz := 2) (fun _ => rfl) ho1
            obtain ⟨ro3, rc3, rfl, -, -, hrr2⟩ := Rows.own (enc := encRd) (sz := 3) (fun _ => rfl) hr1
            have R3 := Lib.hid hrr1; have T3 := Lib.hid hrr2; have T1 := Lib.hid ((T1'.out.ext hx9).mono hx9.size); have T2' := Lib.hid ((T2.out.ext hx9).mono hx9.size); have R2' := Lib.hid ((R2.out.ext hx9).mono hx9.size)
            have Y9 := Lib.hid (Ext.trans Y8.out hx9)
            have U1 := Lib.hid (S1.out.ext' hx9)
            clear ho1 hr1 hrr1 hrr2 hx9 S2 S1 T1' T2 R2
            have c0 := U1.out.cell 0; have c1 := U1.out.cell 1; have c2 := U1.out.cell 2; have c3 := U1.out.cell 3; have c4 := U1.out.cell 4; have c5 := U1.out.cell 5
            simp only [List.getElem?_cons_zero, List.getElem?_cons_succ] at c0 c1 c2 c3 c4 c5
            go_wp2_with fail
            clear c0 c1 c2 c3 c4 c5
            refine (doP_calls (doS l db).1 vo3 vc3 ⟨da, pa, qa, ra, sa⟩ w9 hS.out.2.1 R3.out F3.out.1 ((ZA.out.ext Y9.out).mono Y9.out.size) OA.out ((HLV.out.below Y9.out).up Y9.out.size)).mono ?_
            rintro e w10 ⟨v1, rv1, rfl, ho1, hr1, hx10⟩
            obtain ⟨vo4, vc4, rfl, -, -, hrr1⟩ := Rows.own (enc := encRw) (sz := 2) (fun _ => rfl) ho1
            obtain ⟨ro4, rc4, rfl, -, -, hrr2⟩ := Rows.own (enc := encRd) (sz := 3) (fun _ => rfl) hr1
            have R4 := Lib.hid hrr1; have T4 := Lib.hid hrr2; have Z1 := Lib.hid ((T1.out.ext hx10).mono hx10.size); have Z2 := Lib.hid ((T2'.out.ext hx10).mono hx10.size); have Z3 := Lib.hid ((T3.out.ext hx10).mono hx10.size); have R2 := Lib.hid ((R2'.out.ext hx10).mono hx10.size)
            have Y10 := Lib.hid (Ext.trans Y9.out hx10)
            clear ho1 hr1 hrr1 hrr2 hx10 U1 T1 T2' T3 R2' R3
            go_wp2_with fail
            refine (sameLines_calls _ _ vo2 vo4 vc2 vc4 w10 hS.out.2.2.2.1 R2.out R4.out).mono ?_
            rintro e w11 ⟨rfl, hx11⟩
            rw [show decide ((doS (doS l da).1 db).1 = (doS (doS l db).1 da).1) = true from decide_eq_true E1.out]
            have Y11 := Lib.hid (Ext.trans Y10.out hx11)
            have M1 := Lib.hid ((Z1.out.ext hx11).mono hx11.size); have M2 := Lib.hid ((Z2.out.ext hx11).mono hx11.size); have M3 := Lib.hid ((Z3.out.ext hx11).mono hx11.size); have M4 := Lib.hid ((T4.out.ext hx11).mono hx11.size)
            clear hx11 Z1 Z2 Z3 T4 R2 R4
            go_wp2_with fail
            refine (sameReads_calls _ _ ro1 ro4 rc1 rc4 w11 hS.out.2.2.2.2.1 M1.out M4.out).mono ?_
            rintro e w12 ⟨rfl, hx12⟩
            rw [show decide ((doS l da).2 = (doS (doS l db).1 da).2) = true from decide_eq_true E2.out]
            have Y12 := Lib.hid (Ext.trans Y11.out hx12)
            have N2 := Lib.hid ((M2.out.ext hx12).mono hx12.size); have N3 := Lib.hid ((M3.out.ext hx12).mono hx12.size)
            clear hx12 M1 M2 M3 M4
            go_wp2_with fail
            refine (sameReads_calls _ _ ro2 ro3 rc2 rc3 w12 hS.out.2.2.2.2.2 N2.out N3.out).mono ?_
            rintro e w13 ⟨rfl, hx13⟩
            rw [show decide ((doS (doS l da).1 db).2 = (doS l db).2) = true from decide_eq_true E3.out]
            have Y13 := Lib.hid (Ext.trans Y12.out hx13)
            clear hx13
            go_wp2_with fail
            go_ret
            exact ⟨rfl, Y13.out⟩
end Go.Proofs.YtngahblgicjoiaaGreatDoor
