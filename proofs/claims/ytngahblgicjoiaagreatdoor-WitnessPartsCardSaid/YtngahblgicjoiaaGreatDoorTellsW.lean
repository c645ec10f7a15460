/- WitnessOrders: the walk. -/
import Derived.Test.YtngahblgicjoiaaGreatDoorLawSt
import Derived.Test.YtngahblgicjoiaaGreatDoorLentRd
import Derived.Test.YtngahblgicjoiaaGreatDoorSameLn
namespace Go.Proofs.YtngahblgicjoiaaGreatDoor
open Go.RowKit

theorem order_in {ds : List StepD} {r : Option (List StepD)} (h : orderD ds = r) : ∀ d ∈ r.getD [], d ∈ ds := by
  intro d hd
  cases r with
  | none => cases hd
  | some a =>
    unfold orderD at h
    split at h
    · cases h
    · exact ((order_fits h).1.mem_iff).1 hd
set_option maxRecDepth 100000 in
set_option maxHeartbeats 1600000 in
theorem ordersW_calls (l : List StepZ) (ao : Option Addr) (cap : Nat) (w : World) (hl : l.length ≤ 9223372036854775807) (hs : StepsAt w ao l) (hsm : ∀ z ∈ l, z.d.small) (hlv : LV w.heap.size w) :
    Calls Tryz.prog 3 #[.slice ao l.length cap] w fun e w' => e = .returned (.bool true) ∧ Ext w w' := by
  have HS := Lib.hid hs; have HM := Lib.hid hsm; have HLV := Lib.hid hlv
  have AW := Lib.hid (fun W (hW : Ext w W) => awake_calls W ((HLV.out.below hW).up hW.size))
  clear hs hsm hlv
  go_enter Tryz.func3, Tryz.ntmps3
  go_wp2_with fail
  refine (great_calls l ao cap w hl HS.out HM.out).mono ?_
  rintro e w1 ⟨rfl, hx1⟩
  have X1 := Lib.hid hx1
  clear hx1
  cases hgr : greatD (l.map (·.d))
  case true =>
    clear hgr
    go_wp2_with fail
    refine (AW.out _ X1.out).mono ?_
    rintro e w2 ⟨rfl, hx2⟩
    have X2 := Lib.hid (Ext.trans X1.out hx2)
    clear hx2
    go_wp2_with fail
    go_ret
    exact ⟨rfl, X2.out⟩
  case false =>
    have hfew := great_few hgr
    have hlen : l.length ≤ 120 := by have := hfew.1; simpa using this
    have OK : Hid (∀ z ∈ l, z.d.ok) := Lib.hid (fun z hz => (HM.out z hz).ok (by have := (hfew.2 z.d (List.mem_map.2 ⟨z, hz, rfl⟩)).1; omega) (by have := (hfew.2 z.d (List.mem_map.2 ⟨z, hz, rfl⟩)).2; omega))
    clear hgr hfew
    have key : (5 < l.length ∧ l.length ≤ 8) ∨ ¬ 5 < l.length ∨ (5 < l.length ∧ ¬ l.length ≤ 8) := by omega
    rcases key with ⟨h1, h2⟩ | h1 | ⟨h1, h2⟩
    · have g1 : decide ((5 : Int) < (l.length : Int)) = true := by simp; omega
      have g2 : decide ((l.length : Int) ≤ (8 : Int)) = true := by simp; omega
      go_wp2_with fail
      refine (AW.out _ X1.out).mono ?_
      rintro e w2 ⟨rfl, hx2⟩
      have X2 := Lib.hid (Ext.trans X1.out hx2)
      clear hx2
      go_wp2_with fail
      go_ret
      exact ⟨rfl, X2.out⟩
    case' inr.inl => have g1 : decide ((5 : Int) < (l.length : Int)) = false := by simp; omega
    case' inr.inr =>
      have g1 : decide ((5 : Int) < (l.length : Int)) = true := by simp; omega
      have g2 : decide ((l.length : Int) ≤ (8 : Int)) = false := by simp; omega
    all_goals
      go_wp2_with fail
      refine (orderP_calls l ao cap w1 (by omega) (HS.out.ext X1.out) OK.out ((HLV.out.below X1.out).up X1.out.size)).mono ?_
      rintro e w2 ⟨v1, l1, rfl, hl1, hown1, -, hmine1, hx2⟩
      obtain ⟨o1, c1, rfl, -, -, hrr1⟩ := Rows.own (enc := encStep) (sz := 6) (fun _ => rfl) hown1
      have M1 := Lib.hid hl1; have R1 : Hid (StepsAt w2 o1 l1) := Lib.hid ⟨hrr1, fun z hz => (hmine1 z hz).at⟩; have X2 := Lib.hid (Ext.trans X1.out hx2)
      clear hl1 hown1 hmine1 hrr1 hx2 X1
      go_wp2_with fail
      refine (turned_calls l ao cap w2 (by omega) (HS.out.ext X2.out)).mono ?_
      rintro e w3 ⟨so, sc, rfl, hsc, hst, hx3⟩
      have T3 := Lib.hid hst; have X3 := Lib.hid (Ext.trans X2.out hx3); have R3 := Lib.hid (R1.out.ext hx3)
      clear hst hx3
      go_wp2_with fail
      refine (refOrder_calls l so sc w3 hsc T3.out OK.out).mono ?_
      rintro e w4 ⟨bo, bc, l2, rfl, hl2, hst2, hx4⟩
      have X4 := Lib.hid (Ext.trans X3.out hx4); have R4 := Lib.hid (R3.out.ext hx4); have Q4 := Lib.hid hst2
      have hlen1 : l1.length ≤ 1000 := by
        have h1 := congrArg List.length M1.out
        rw [List.length_map] at h1
        rw [h1]
        cases ho : orderD (l.map (·.d)) with
        | none => simp
        | some a =>
          unfold orderD at ho
          split at ho
          · cases ho
          · have := (order_fits ho).1.length_eq
            rw [List.length_map] at this
            show a.length ≤ 1000
            omega
      have OK1 : Hid (∀ z ∈ l1, z.d.ok) := Lib.hid (fun z hz => by
        have h1 : z.d ∈ l1.map (·.d) := List.mem_map.2 ⟨z, hz, rfl⟩
        rw [M1.out] at h1
        obtain ⟨y, hy, he⟩ := List.mem_map.1 (order_in rfl _ h1)
        rw [← he]; exact OK.out y hy)
      have SC := Lib.hid (same_calls l1 l2 o1 bo c1 bc w4 hlen1 R4.out Q4.out OK1.out (M1.out.trans hl2.symm))
      clear hl2 hst2 hx4 hsc hlen1
      obtain ⟨B, hB⟩ : ∃ B, (orderD (l.map (·.d))).isSome = B := ⟨_, rfl⟩
      rw [hB]
      clear hB M1
      cases B
      all_goals
        go_wp2_with fail
        refine SC.out.mono ?_
        rintro e w5 ⟨rfl, hx5⟩
        have X5 := Lib.hid (Ext.trans X4.out hx5)
        clear hx5
        go_wp2_with fail
        refine (AW.out _ X5.out).mono ?_
        rintro e w6 ⟨rfl, hx6⟩
        have X6 := Lib.hid (Ext.trans X5.out hx6)
        clear hx6
        go_wp2_with fail
        go_ret
        exact ⟨rfl, X6.out⟩
end Go.Proofs.YtngahblgicjoiaaGreatDoor
/- WitnessTells: the walk. -/
namespace Go.Proofs.YtngahblgicjoiaaGreatDoor
open Go.RowKit

theorem nrows_at {α : Type} {sz : Nat} {enc : α → List Value} {no : Nat → Prop} {w : World} {g : Nat} {l : List α} (h : Rows sz enc w.heap.size w (some ⟨g, 0, none⟩) l) (hn : ¬ no g) : NRows sz enc no w (some ⟨g, 0, none⟩) l := by
  intro hl
  obtain ⟨b, off, e, hb, hc⟩ := h hl
  cases e
  exact ⟨g, 0, rfl, hb, hn, hc⟩
/-- A step whose rows are lent: marks stand behind them. -/
structure LentS (no : Nat → Prop) (w : World) (z : StepZ) : Prop where
  out : ∃ g g', z.ao = some ⟨g, 0, none⟩ ∧ z.ro = some ⟨g', 0, none⟩ ∧ z.d.acts.length + 12 ≤ z.ac ∧ z.ac ≤ maxLen ∧ z.d.reads.length + 12 ≤ z.rc ∧ z.rc ≤ maxLen ∧ NRows 4 encAct no w z.ao (z.d.acts ++ marksActs) ∧ NRows 3 encRd no w z.ro (z.d.reads ++ marksReads)
theorem LentS.step {no no' S : Nat → Prop} {w w' : World} {z : StepZ} (h : LentS no w z) (hx : But S w w') (hS : ∀ b, b < w.heap.size → S b → no b ∨ NoCells w b) (hn : ∀ b, b < w.heap.size → no' b → no b) : LentS no' w' z := by
  obtain ⟨g, g', h1, h2, h3, h4, h5, h6, h7, h8⟩ := h.out
  exact ⟨g, g', h1, h2, h3, h4, h5, h6, h7.step hx hS hn, h8.step hx hS hn⟩
theorem LentS.at {no : Nat → Prop} {w : World} {z : StepZ} (h : LentS no w z) : z.at w.heap.size w := by
  obtain ⟨g, g', h1, h2, h3, h4, h5, h6, h7, h8⟩ := h.out
  have e1 := h7.rows.take z.d.acts.length
  have e2 := h8.rows.take z.d.reads.length
  rw [List.take_left' rfl] at e1 e2
  exact ⟨e1, e2⟩
/-- Amid the lending: the first k steps are lent. -/
structure LendMid (w0 : World) (l : List StepZ) (k : Nat) (v : Value) (wr : World) : Prop where
  out : ∃ q : List StepZ, q.map (·.d) = (l.take k).map (·.d) ∧ wr.ownsRow 0 38 6 v q.length (q.flatMap encStep) ∧ (∀ j, v.ownBlock = some j → w0.heap.size ≤ j) ∧ (∀ z ∈ q, LentS (fun b => v.ownBlock = some b) wr z) ∧ Ext w0 wr

set_option maxRecDepth 100000 in
set_option maxHeartbeats 12800000 in
theorem tellsW_calls (l : List StepZ) (ao : Option Addr) (cap : Nat) (w : World) (hl : l.length ≤ 9223372036854775807) (hs : StepsAt w ao l) (hsm : ∀ z ∈ l, z.d.small) (hlv : LV w.heap.size w) :
    Calls Tryz.prog 6 #[.slice ao l.length cap] w fun e w' => e = .returned (.bool true) ∧ Ext w w' := by
  have HS := Lib.hid hs; have HM := Lib.hid hsm; have HLV := Lib.hid hlv
  have AW := Lib.hid (fun W (hW : Ext w W) => awake_calls W ((HLV.out.below hW).up hW.size))
  clear hs hsm hlv
  go_enter Tryz.func6, Tryz.ntmps6
  go_wp2_with fail
  refine (great_calls l ao cap w hl HS.out HM.out).mono ?_
  rintro e w1 ⟨rfl, hx1⟩
  have X1 := Lib.hid hx1
  clear hx1
  cases hgr : greatD (l.map (·.d))
  case true =>
    clear hgr
    go_wp2_with fail
    refine (AW.out _ X1.out).mono ?_
    rintro e w2 ⟨rfl, hx2⟩
    have X2 := Lib.hid (Ext.trans X1.out hx2)
    clear hx2
    go_wp2_with fail
    go_ret
    exact ⟨rfl, X2.out⟩
  case false =>
    have hfew := great_few hgr
    have hlen : l.length ≤ 120 := by have := hfew.1; simpa using this
    have OK : Hid (∀ z ∈ l, z.d.ok) := Lib.hid (fun z hz => (HM.out z hz).ok (by have := (hfew.2 z.d (List.mem_map.2 ⟨z, hz, rfl⟩)).1; omega) (by have := (hfew.2 z.d (List.mem_map.2 ⟨z, hz, rfl⟩)).2; omega))
    clear hgr hfew
    obtain ⟨i0, hi, hz0, hz1, hz2⟩ := info_parts infoStep
    go_wp2_with fail
    refine (turned_calls l ao cap w1 (by omega) (HS.out.ext X1.out)).mono ?_
    rintro e w2 ⟨mo, mc, rfl, -, hst, hx2⟩
    have T2 := Lib.hid hst; have X2 := Lib.hid (Ext.trans X1.out hx2)
    clear hst hx2 X1
    go_wp2_with fail
    go_loopw [4, 5] (fun v i wr => ∃ k : Nat, k ≤ l.length ∧ i = .int .i64 k ∧ LendMid w2 l k v wr) (fun _ i _ => l.length - (intOf i).toNat)
    case atStart => exact ⟨0, by omega, rfl, [], rfl, World.ownsRow_nil _ _ _ _, by simp [Value.ownBlock], (fun z hz => by cases hz), Below.refl _ _⟩
    case round =>
      obtain ⟨k, hk, rfl, hmid⟩ := hrel
      obtain ⟨q, hqd, hown, hnew, hlent, hx⟩ := hmid.out
      have hql : q.length = k := by
        have := congrArg List.length hqd
        simp only [List.length_map, List.length_take] at this
        omega
      have hq1 : q.length ≤ 120 := by omega
      have K1 := Lib.hid hown; have K2 := Lib.hid hnew; have K3 := Lib.hid hx; have KD := Lib.hid hqd; have KQ := Lib.hid hlent; have KL := Lib.hid hql
      clear hmid hqd hown hnew hlent hx hql
      by_cases hlt : k < l.length
      · obtain ⟨z, hz⟩ : ∃ z, l[k]? = some z := ⟨_, List.getElem?_eq_getElem hlt⟩
        have hzm := List.mem_of_getElem? hz
        have ZA := Lib.hid (fun W (hW : Ext w W) => ((HS.out.2 z hzm).ext hW).mono hW.size)
        have DK := Lib.hid (OK.out z hzm)
        obtain ⟨b, off, rfl, hb, hcell⟩ := HS.out.1 (by intro e; rw [e] at hlt; simp at hlt)
        have CZ := Lib.hid (fun W (hW : Ext w W) (j : Nat) (u : Value) (hj : (encStep z)[j]? = some u) => (hW.cell (p := ⟨b, _, none⟩) hb).trans (hcell k z hz j u hj))
        have MD : Hid ((l.take (k + 1)).map (·.d) = (l.take k).map (·.d) ++ [z.d]) := Lib.hid (by rw [List.take_add_one, hz]; simp)
        obtain ⟨p, hp⟩ : ∃ p, p = wr.heap.size := ⟨_, rfl⟩
        obtain ⟨⟨cl, nm, acts, reads, ca, an⟩, ao2, ac2, ro2, rc2⟩ := z
        have hal := DK.out.an; have hrl := DK.out.rn
        unfold encStep at CZ
        simp only at CZ hal hrl MD
        have XW := Lib.hid (Ext.trans X2.out K3.out)
        have hcz := CZ.out _ XW.out
        have d0 := hcz 0 _ rfl; have d1 := hcz 1 _ rfl; have d2 := hcz 2 _ rfl; have d3 := hcz 3 _ rfl; have d4 := hcz 4 _ rfl; have d5 := hcz 5 _ rfl
        simp only [Nat.add_zero] at d0
        have j0 : (0 : Int) ≤ (k : Int) := by omega
        have j1 : (k : Int) < (l.length : Int) := by omega
        obtain ⟨wy, hwy⟩ : ∃ wy, wy = wr.alloc (.cells #[.int .i64 cl, .int .i64 nm, .slice ao2 acts.length ac2, .slice ro2 reads.length rc2, .int .i64 ca, .int .i64 an] 38) := ⟨_, rfl⟩
        have hby : Blk wy p [.int .i64 cl, .int .i64 nm, .slice ao2 acts.length ac2, .slice ro2 reads.length rc2, .int .i64 ca, .int .i64 an] 38 := by rw [hwy, hp]; exact Blk.new wr _ _
        have hple : wr.heap.size ≤ p := by omega
        have hxy : Ext wr wy := by rw [hwy]; exact (Below.refl _ wr).alloc (Nat.le_refl _) _
        have hpy : p < wy.heap.size := hby.lt
        have WY := Lib.hid hwy
        have BY := Lib.hid hby; have XY := Lib.hid hxy
        clear hzm hz hcell hcz hwy hby hxy
        subst hp
        go_upto_region 9 with fail
        rw [← WY.out]
        clear d0 d1 d2 d3 d4 d5
        have e2 := CZ.out _ (Ext.trans XW.out XY.out) 2 _ rfl
        go_wp2_with fail
        clear e2
        refine (lentActs_calls acts ao2 ac2 wy hal (ZA.out _ (Ext.trans XW.out XY.out)).1).mono ?_
        rintro e wa ⟨g, cp1, rfl, hc1, hm1, hr1, hg1, hxa⟩
        have hba := BY.out.ext' hxa
        have c2 := hba.cell 2; have f2 := hba.free 2
        simp only [List.getElem?_cons_zero, List.getElem?_cons_succ] at c2
        obtain ⟨wb, hwb⟩ : ∃ wb, wb = wa.setCell ⟨wr.heap.size, 2, none⟩ (.slice (some ⟨g, 0, none⟩) acts.length cp1) := ⟨_, rfl⟩
        have hbb : Blk wb wr.heap.size [.int .i64 cl, .int .i64 nm, .slice (some ⟨g, 0, none⟩) acts.length cp1, .slice ro2 reads.length rc2, .int .i64 ca, .int .i64 an] 38 := by rw [hwb]; exact hba.set 2 _
        have hxb : Ext wr wb := by rw [hwb]; exact (Ext.trans XY.out hxa).setCell (p := ⟨wr.heap.size, 2, none⟩) (Nat.le_refl _) _
        have hsb : But (fun j => j = wr.heap.size) wa wb := by rw [hwb]; exact (But.refl (fun j => j = wr.heap.size) wa).setCell (p := ⟨wr.heap.size, 2, none⟩) (fun _ => rfl) _
        have hpb : wr.heap.size < wb.heap.size := hbb.lt
        have hyb : wy.heap.size ≤ wb.heap.size := Nat.le_trans hxa.size hsb.size
        have NA := Lib.hid ((nrows_at (no := fun b => b < wy.heap.size) hr1 (by omega)).step hsb (no' := fun b => b < wy.heap.size) (fun b _ e => .inl (by rw [show b = wr.heap.size from e]; exact hpy)) (fun _ _ e => e))
        have WB := Lib.hid hwb; have BB := Lib.hid hbb; have XB := Lib.hid hxb; have HC1 := Lib.hid hc1; have HM1 := Lib.hid hm1
        clear hc1 hm1 hr1 hg1 hxa hba hwb hbb hxb hsb
        go_upto_region 10 with fail
        rw [← WB.out]
        clear c2 f2
        have e3 := CZ.out _ (Ext.trans XW.out XB.out) 3 _ rfl
        go_wp2_with fail
        clear e3
        refine (lentReads_calls reads ro2 rc2 wb hrl (ZA.out _ (Ext.trans XW.out XB.out)).2).mono ?_
        rintro e wc ⟨g2, cp2, rfl, hc2, hm2, hr2, hg2, hxc⟩
        have hbc := BB.out.ext' hxc
        have c3 := hbc.cell 3; have f3 := hbc.free 3
        simp only [List.getElem?_cons_zero, List.getElem?_cons_succ] at c3
        obtain ⟨wd, hwd⟩ : ∃ wd, wd = wc.setCell ⟨wr.heap.size, 3, none⟩ (.slice (some ⟨g2, 0, none⟩) reads.length cp2) := ⟨_, rfl⟩
        have hbd : Blk wd wr.heap.size [.int .i64 cl, .int .i64 nm, .slice (some ⟨g, 0, none⟩) acts.length cp1, .slice (some ⟨g2, 0, none⟩) reads.length cp2, .int .i64 ca, .int .i64 an] 38 := by rw [hwd]; exact hbc.set 3 _
        have hxd : Ext wr wd := by rw [hwd]; exact (Ext.trans XB.out hxc).setCell (p := ⟨wr.heap.size, 3, none⟩) (Nat.le_refl _) _
        have hsd : But (fun j => j = wr.heap.size) wc wd := by rw [hwd]; exact (But.refl (fun j => j = wr.heap.size) wc).setCell (p := ⟨wr.heap.size, 3, none⟩) (fun _ => rfl) _
        have NA2 := Lib.hid ((NA.out.step (Ext.but hxc (fun _ => False)) (no' := fun b => b < wy.heap.size) (fun _ _ e => e.elim) (fun _ _ e => e)).step hsd (no' := fun b => b < wy.heap.size) (fun b _ e => .inl (by rw [show b = wr.heap.size from e]; exact hpy)) (fun _ _ e => e))
        have NR2 := Lib.hid ((nrows_at (no := fun b => b < wb.heap.size) hr2 (by omega)).step hsd (no' := fun b => b < wb.heap.size) (fun b _ e => .inl (by rw [show b = wr.heap.size from e]; exact hpb)) (fun _ _ e => e))
        have WD := Lib.hid hwd; have BD := Lib.hid hbd; have XD := Lib.hid hxd; have HC2 := Lib.hid hc2; have HM2 := Lib.hid hm2
        clear hc2 hm2 hr2 hg2 hxc hbc hwd hbd hxd hsd NA
        go_upto_region 11 with fail
        rw [← WD.out]
        clear c3 f3
        have k0 := BD.out.cell 0; have k1 := BD.out.cell 1; have k2 := BD.out.cell 2; have k3 := BD.out.cell 3; have k4 := BD.out.cell 4; have k5 := BD.out.cell 5
        simp only [List.getElem?_cons_zero, List.getElem?_cons_succ] at k0 k1 k2 k3 k4 k5
        have EN : Hid (Ext wd (wd.alloc (.cells #[.int .i64 cl, .int .i64 nm, .slice (some ⟨g, 0, none⟩) acts.length cp1, .slice (some ⟨g2, 0, none⟩) reads.length cp2, .int .i64 ca, .int .i64 an] 38))) := Lib.hid ((Below.refl _ wd).alloc (Nat.le_refl _) _)
        have CN := Lib.hid (cells_new wd [.int .i64 cl, .int .i64 nm, .slice (some ⟨g, 0, none⟩) acts.length cp1, .slice (some ⟨g2, 0, none⟩) reads.length cp2, .int .i64 ca, .int .i64 an] 38)
        go_wp2_with (at_builtin; refine wpList_append_at _ rfl (.tmp 45) (.tmp 47) 22 rfl 38 i0 _ 6 80 Tryz.underlying22 hi hz0 hz1 hz2 rfl (by decide) _ q.length (q.flatMap encStep) rfl (own_ext (own_ext K1.out XD.out) EN.out) ⟨wd.heap.size, 0, none⟩ 1 1 (encStep ⟨⟨cl, nm, acts, reads, ca, an⟩, some ⟨g, 0, none⟩, cp1, some ⟨g2, 0, none⟩, cp2⟩) rfl rfl CN.out (one_step _) (by decide) (by unfold maxLen; omega) (by omega) ?_; intro g5 cap5 w6 hown' hbut hkept; have Y1 := Lib.hid hown'; have Y2 := Lib.hid hbut; have Y3 := Lib.hid hkept; clear hown' hbut hkept)
        clear k0 k1 k2 k3 k4 k5
        go_roundw
        case rel =>
          have hxn := Ext.trans XD.out EN.out
          have hlt1 := K1.out.lt
          have hsn := EN.out.size
          have hsy := XY.out.size
          have hsz := XD.out.size
          refine ⟨k + 1, by omega, by go_num, ⟨q ++ [⟨⟨cl, nm, acts, reads, ca, an⟩, some ⟨g, 0, none⟩, cp1, some ⟨g2, 0, none⟩, cp2⟩], ?_, ?_, ?_, ?_, ?_⟩⟩
          · rw [MD.out, List.map_append, KD.out]; rfl
          · have := Y1.out
            rw [List.length_append, List.flatMap_append]
            simpa using this
          · intro j hj
            rcases Y3.out j hj with e | e
            · exact K2.out j e
            · have := K3.out.size; omega
          · intro z hz
            rcases List.mem_append.1 hz with h | h
            · exact (((KQ.out z h).step (Ext.but hxn (fun _ => False)) (no' := _) (fun _ _ e => e.elim) (fun _ _ e => e)).step Y2.out (fun b _ e => .inl e) (fun b hb e => by
                rcases Y3.out b e with e2 | e2
                · exact e2
                · omega))
            · rw [List.mem_singleton] at h
              subst h
              refine ⟨g, g2, rfl, rfl, HC1.out, HM1.out, HC2.out, HM2.out, ?_, ?_⟩
              · exact ((NA2.out.step (Ext.but EN.out (fun _ => False)) (no' := fun b => b < wy.heap.size) (fun _ _ e => e.elim) (fun _ _ e => e)).step Y2.out (fun b _ e => .inl (by have := (hlt1 b e).2; show b < wy.heap.size; omega)) (fun b hb e => by
                  rcases Y3.out b e with e2 | e2
                  · have := (hlt1 b e2).2; show b < wy.heap.size; omega
                  · omega))
              · exact ((NR2.out.step (Ext.but EN.out (fun _ => False)) (no' := fun b => b < wb.heap.size) (fun _ _ e => e.elim) (fun _ _ e => e)).step Y2.out (fun b _ e => .inl (by have := (hlt1 b e).2; show b < wb.heap.size; omega)) (fun b hb e => by
                  rcases Y3.out b e with e2 | e2
                  · have := (hlt1 b e2).2; show b < wb.heap.size; omega
                  · omega))
          · exact Below.trans K3.out (((Ext.but hxn (fun _ => False)).trans Y2.out (U := fun j => w2.heap.size ≤ j) (fun _ _ e => e.elim) (fun i _ e => K2.out i e)).below K3.out.size (fun _ h => h))
        case measure => simp [intOf]; omega
      · have hall : l.take k = l := List.take_of_length_le (by omega)
        rw [hall] at KD
        have hkl : k = l.length := by omega
        obtain ⟨so, sc, rfl, hsc, -, hrr⟩ := Rows.own (enc := encStep) (sz := 6) (fun _ => rfl) K1.out
        obtain ⟨wL, rfl⟩ : ∃ wL, wL = wr := ⟨_, rfl⟩
        have SQ : Hid (StepsAt wL so q) := Lib.hid ⟨hrr, fun z hz => (KQ.out z hz).at⟩
        have LQ : Hid (∀ z ∈ q, LentS (fun _ => False) wL z) := Lib.hid (fun z hz => (KQ.out z hz).step (But.refl (fun _ => False) wL) (fun _ _ e => e.elim) (fun _ _ e => e.elim))
        have XL := Lib.hid (Ext.trans X2.out K3.out)
        have TL := Lib.hid (T2.out.ext K3.out)
        have OKQ : Hid (∀ z ∈ q, z.d.ok) := Lib.hid (fun z hz => by
          have h1 : z.d ∈ q.map (·.d) := List.mem_map.2 ⟨z, hz, rfl⟩
          rw [KD.out] at h1
          obtain ⟨y, hy, he⟩ := List.mem_map.1 h1
          rw [← he]; exact OK.out y hy)
        have hq : q.length = l.length := by rw [KL.out, hkl]
        have HQ := Lib.hid hq
        clear hall hkl hrr K1 K2 K3 KQ T2 X2 KL hk hq
        have LVX := Lib.hid (fun W (hW : Ext w W) => (HLV.out.below hW).up hW.size)
        go_wp2_with fail
        refine (fit_calls q so sc wL (by omega) SQ.out OKQ.out (LVX.out _ XL.out)).mono ?_
        rintro e w3 ⟨rfl, hx3⟩
        have X3 := Lib.hid (Ext.trans XL.out hx3); have Y3 := Lib.hid hx3
        rw [KD.out]
        clear hx3
        go_wp2_with fail
        refine (refFit_calls l mo mc w3 (by omega) (TL.out.ext Y3.out) OK.out).mono ?_
        rintro e w4 ⟨rfl, hx4⟩
        have X4 := Lib.hid (Ext.trans X3.out hx4); have Y4 := Lib.hid (Ext.trans Y3.out hx4)
        clear hx4 X3 Y3
        go_wp2_with fail
        refine (inTime_calls q so sc w4 (by omega) hsc (SQ.out.ext Y4.out)).mono ?_
        rintro e w5 ⟨rfl, hx5⟩
        have X5 := Lib.hid (Ext.trans X4.out hx5); have Y5 := Lib.hid (Ext.trans Y4.out hx5)
        rw [KD.out]
        clear hx5 X4 Y4
        go_wp2_with fail
        refine (refInTime_calls l mo mc w5 (by omega) (TL.out.ext Y5.out)).mono ?_
        rintro e w6 ⟨rfl, hx6⟩
        have X6 := Lib.hid (Ext.trans X5.out hx6); have Y6 := Lib.hid (Ext.trans Y5.out hx6)
        clear hx6 X5 Y5
        obtain ⟨N, hN⟩ : ∃ N, (((fitD (l.map (·.d))).1 : Nat) : Int) = N := ⟨_, rfl⟩
        obtain ⟨E, hE⟩ : ∃ E, (fitD (l.map (·.d))).2 = E := ⟨_, rfl⟩
        obtain ⟨T1, hT1⟩ : ∃ T, (timeD (l.map (·.d))).1 = T := ⟨_, rfl⟩
        obtain ⟨T2, hT2⟩ : ∃ T, (timeD (l.map (·.d))).2 = T := ⟨_, rfl⟩
        rw [hN, hE, hT1, hT2]
        clear hN hE hT1 hT2
        have g1 : (N != N) = false := by simp
        have g2 : (E != E) = false := by simp
        have g3 : (T1 != T1) = false := by simp
        have g4 : (T2 != T2) = false := by simp
        have hB : (q.all fun z => rightS z.d) = (l.all fun z => rightS z.d) := by
          have h : ∀ m : List StepZ, (m.all fun z => rightS z.d) = (m.map (·.d)).all rightS := fun m => by rw [List.all_map]; rfl
          rw [h, h, KD.out]
        have RA := Lib.hid (rightAll_calls q so sc w6 (by omega) (SQ.out.ext Y6.out) OKQ.out)
        rw [hB] at RA
        have RB := Lib.hid (fun W (hW : Ext wL W) => allB_calls l mo mc W (by omega) (TL.out.ext hW) OK.out)
        obtain ⟨B, hBB⟩ : ∃ B, (l.all fun z => rightS z.d) = B := ⟨_, rfl⟩
        rw [hBB] at RA RB
        have g5 : (B != B) = false := by simp
        clear hB hBB
        go_wp2_with fail
        refine RA.out.mono ?_
        rintro e w7 ⟨rfl, hx7⟩
        have X7 := Lib.hid (Ext.trans X6.out hx7); have Y7 := Lib.hid (Ext.trans Y6.out hx7)
        clear hx7 X6 Y6 RA
        go_wp2_with fail
        refine (RB.out _ Y7.out).mono ?_
        rintro e w8 ⟨rfl, hx8⟩
        have X8 := Lib.hid (Ext.trans X7.out hx8); have Y8 := Lib.hid (Ext.trans Y7.out hx8)
        clear hx8 X7 Y7 RB
        go_wp2_with fail
        have hAF := after_calls q so sc w8 (by omega) (SQ.out.ext Y8.out) OKQ.out (LVX.out _ X8.out)
        rw [KD.out] at hAF
        have HBF := Lib.hid (fun W (hW : Ext wL W) => refAfter_calls l mo mc W (by omega) (TL.out.ext hW) OK.out)
        have AFL : Hid ((afterD (l.map (·.d))).length ≤ 1000000) := Lib.hid (by
          have h : ∀ (m : List StepD), (∀ x ∈ m, x.ok) → (∀ r ∈ afterD m, r.ok) ∧ (afterD m).length ≤ 6 * m.length := by
            intro m hm
            obtain ⟨n, hn⟩ : ∃ n, n = m.length := ⟨_, rfl⟩
            have key : ∀ j, j ≤ m.length → (∀ r ∈ afterD (m.take j), r.ok) ∧ (afterD (m.take j)).length ≤ 6 * j := by
              intro j
              induction j with
              | zero => intro _; exact ⟨fun r hr => by simp [afterD] at hr, by simp [afterD]⟩
              | succ j ih =>
                intro hj
                have hx : m[j]? = some m[j] := List.getElem?_eq_getElem (by omega)
                rw [afterD_succ hx]
                exact afterR_few (hm _ (List.getElem_mem _)) (ih (by omega)).1 (ih (by omega)).2
            have := key m.length (Nat.le_refl _)
            rwa [List.take_of_length_le (Nat.le_refl _)] at this
          have := (h (l.map (·.d)) (fun x hx => by obtain ⟨z, hz, e⟩ := List.mem_map.1 hx; rw [← e]; exact OK.out z hz)).2
          rw [List.length_map] at this
          omega)
        obtain ⟨AF, hAF2⟩ : ∃ AF, afterD (l.map (·.d)) = AF := ⟨_, rfl⟩
        rw [hAF2] at hAF HBF AFL
        clear hAF2
        refine hAF.mono ?_
        rintro e w9 ⟨v9, rfl, hown9, hx9⟩
        obtain ⟨a9, b9, rfl, -, -, hr9⟩ := Rows.own (enc := encRw) (sz := 2) (fun _ => rfl) hown9
        have X9 := Lib.hid (Ext.trans X8.out hx9); have Y9 := Lib.hid (Ext.trans Y8.out hx9); have R9 := Lib.hid hr9
        clear hown9 hr9 hx9 hAF X8 Y8
        go_wp2_with fail
        refine (HBF.out _ Y9.out).mono ?_
        rintro e w10 ⟨v10, rfl, hown10, hx10⟩
        obtain ⟨a10, b10, rfl, -, -, hr10⟩ := Rows.own (enc := encRw) (sz := 2) (fun _ => rfl) hown10
        have X10 := Lib.hid (Ext.trans X9.out hx10); have Y10 := Lib.hid (Ext.trans Y9.out hx10)
        have hSL := sameLines_calls AF AF a9 a10 b9 b10 w10 AFL.out ((R9.out.ext hx10).mono hx10.size) hr10
        rw [decide_eq_true rfl] at hSL
        have SL := Lib.hid hSL
        clear hown10 hr10 hx10 hSL HBF X9 Y9
        go_wp2_with fail
        refine SL.out.mono ?_
        rintro e w11 ⟨rfl, hx11⟩
        have X11 := Lib.hid (Ext.trans X10.out hx11); have Y11 := Lib.hid (Ext.trans Y10.out hx11)
        clear hx11 X10 Y10 SL g1 g2 g3 g4 g5
        go_wp2_with fail
        go_loopw [15] (fun i wr => ∃ k : Nat, k ≤ l.length ∧ i = .int .i64 k ∧ Ext wL wr) (fun i _ => l.length - (intOf i).toNat)
        case atStart => exact ⟨0, by omega, rfl, Y11.out⟩
        case round =>
          obtain ⟨k, hk, rfl, hx⟩ := hrel
          have K3 := Lib.hid hx
          clear hx
          by_cases hlt : k < l.length
          · obtain ⟨z, hz⟩ : ∃ z, l[k]? = some z := ⟨_, List.getElem?_eq_getElem hlt⟩
            obtain ⟨y, hy⟩ : ∃ y, q[k]? = some y := ⟨_, List.getElem?_eq_getElem (by have := HQ.out; omega)⟩
            have hzy : y.d = z.d := by
              have h1 : (q.map (·.d))[k]? = some y.d := by rw [List.getElem?_map, hy]; rfl
              rw [KD.out, List.getElem?_map, hz] at h1
              exact (Option.some.inj h1).symm
            have hzm := List.mem_of_getElem? hz; have hym := List.mem_of_getElem? hy
            have hzok := OK.out z hzm
            have hzat := ((HS.out.2 z hzm).ext (Ext.trans XL.out K3.out)).mono (Ext.trans XL.out K3.out).size
            obtain ⟨g, g', h1, h2, h3, h4, h5, h6, h7, h8⟩ := ((LQ.out y hym).step (Ext.but K3.out (fun _ => False)) (no' := fun _ => False) (fun _ _ e => e.elim) (fun _ _ e => e.elim)).out
            obtain ⟨b, off, rfl, hb, hcell⟩ := (HS.out.ext (Ext.trans XL.out K3.out)).1 (by intro e; rw [e] at hlt; simp at hlt)
            obtain ⟨b', off', rfl, hb', hcell'⟩ := (SQ.out.ext K3.out).1 (by intro e; rw [e] at hy; simp at hy)
            have hcz := hcell k z hz; have hcy := hcell' k y hy
            have KA := Lib.hid (fun (p : ExtBy wr) => keptActs_calls y.d.acts g y.ac z.ao z.ac p.W (by rw [hzy]; exact hzok.an) h3 h4 (by have := (h7.rows.ext p.ext).mono p.ext.size; rwa [h1] at this) (by rw [hzy]; exact (hzat.1.ext p.ext).mono p.ext.size))
            have KR := Lib.hid (fun (p : ExtBy wr) => keptReads_calls y.d.reads g' y.rc z.ro z.rc p.W (by rw [hzy]; exact hzok.rn) h5 h6 (by have := (h8.rows.ext p.ext).mono p.ext.size; rwa [h2] at this) (by rw [hzy]; exact (hzat.2.ext p.ext).mono p.ext.size))
            obtain ⟨yd, yao, yac, yro, yrc⟩ := y
            simp only at hzy h1 h2
            subst h1 h2 hzy
            obtain ⟨⟨cl, nm, acts, reads, ca, an⟩, ao2, ac2, ro2, rc2⟩ := z
            unfold encStep at hcz hcy
            simp only at hcz hcy KA KR
            have d2 := ExtBy.cell (hcz 2 _ rfl); have d3 := ExtBy.cell (hcz 3 _ rfl)
            have e2 := ExtBy.cell (hcy 2 _ rfl); have e3 := ExtBy.cell (hcy 3 _ rfl)
            have i0 : (0 : Int) ≤ (k : Int) := by omega
            have i1 : (k : Int) < (l.length : Int) := by omega
            have i2 : (k : Int) < (q.length : Int) := by have := HQ.out; omega
            clear hz hy hzm hym hzok hzat hcell hcell' hcz hcy h3 h4 h5 h6 h7 h8 hb hb'
            go_wp2_with fail
            refine wp_region_ext (by kernel_rfl) (by kernel_rfl) ?_
            repeat (go_big_quiet_step (first | (with_reducible exact Calls.ext_of _ (KA.out _)) | (with_reducible exact Calls.ext_of _ (KR.out _))))
            refine wpQuiet_nil ?_
            intro wc hw'
            have XC : Hid (Ext wL wc) := Lib.hid (by obtain ⟨p, rfl⟩ := hw'; exact Ext.trans K3.out p.ext)
            clear hw' d2 d3 e2 e3
            go_wp2_with fail
            go_roundw
            case rel => exact ⟨k + 1, by omega, by go_num, XC.out⟩
            case measure => simp [intOf]; omega
          · go_wp2_with fail
            refine (AW.out _ (Ext.trans XL.out K3.out)).mono ?_
            rintro e w12 ⟨rfl, hx12⟩
            have X12 := Lib.hid (Ext.trans (Ext.trans XL.out K3.out) hx12)
            clear hx12
            go_wp2_with fail
            go_ret
            exact ⟨rfl, X12.out⟩
end Go.Proofs.YtngahblgicjoiaaGreatDoor
