/- witness.copied, Order. -/
import Derived.Test.YtbnclifpdmpjnaaGreatDoorZ22
namespace Go.Proofs.YtbnclifpdmpjnaaGreatDoor
open Go.RowKit
structure StepMine (w : World) (B : Nat) (z : StepZ) : Prop where
  acts : w.ownsRow B 114 4 (.slice z.ao z.d.acts.length z.ac) z.d.acts.length (z.d.acts.flatMap encAct)
  reads : w.ownsRow B 117 3 (.slice z.ro z.d.reads.length z.rc) z.d.reads.length (z.d.reads.flatMap encRd)
theorem StepMine.ext {w w' : World} {B : Nat} {z : StepZ} (h : StepMine w B z) (hx : Ext w w') : StepMine w' B z := ⟨own_ext h.acts hx, own_ext h.reads hx⟩
theorem StepMine.at {w : World} {B : Nat} {z : StepZ} (h : StepMine w B z) : z.at w.heap.size w := ⟨rows_of_own (fun _ => rfl) h.acts, rows_of_own (fun _ => rfl) h.reads⟩
theorem StepMine.row {w w' : World} {B B' n : Nat} {z : StepZ} {v : Value} {xs : List Value} (h : StepMine w B z) (hx : But (fun j => v.ownBlock = some j) w w') (hv : w.ownsRow B' 51 6 v n xs) : StepMine w' B z := by
  refine ⟨own_but h.acts hx (fun j hj e => ?_), own_but h.reads hx (fun j hj e => ?_)⟩
  · obtain ⟨cs, hb⟩ := own_blk hv e
    exact own_ne h.acts hb (by decide) hj
  · obtain ⟨cs, hb⟩ := own_blk hv e
    exact own_ne h.reads hb (by decide) hj
def CopyS (w : World) (z : StepZ) (e : Ending) (w' : World) : Prop := ∃ z' : StepZ, e = .returned (.agg (encStep z').toArray) ∧ z'.d = z.d ∧ StepMine w' w.heap.size z' ∧ Ext w w'
set_option maxRecDepth 100000 in
set_option maxHeartbeats 1600000 in
theorem copiedS_calls (z : StepZ) (w : World) (hz : z.at w.heap.size w) (ha : z.d.acts.length ≤ 1000000) (hr : z.d.reads.length ≤ 1000000) :
    Calls Tryz.prog 29 #[.agg (encStep z).toArray] w (CopyS w z) := by
  obtain ⟨⟨cl, nm, acts, reads, ca, an⟩, ao, ac, ro, rc⟩ := z
  obtain ⟨hza, hzr⟩ := hz
  simp only at hza hzr ha hr
  unfold encStep
  simp only
  obtain ⟨w1, hw1⟩ : ∃ w1, w1 = (w.alloc (.cells #[.int .i64 cl, .int .i64 nm, .slice ao acts.length ac, .slice ro reads.length rc, .int .i64 ca, .int .i64 an] 51)).alloc (.cells #[.int .i64 0, .int .i64 0, .slice none 0 0, .slice none 0 0, .int .i64 0, .int .i64 0] 51) := ⟨_, rfl⟩
  have X1 : Hid (Ext w w1) := Lib.hid (by rw [hw1]; exact ((Below.refl _ w).alloc (Nat.le_refl _) _).alloc (by simp) _)
  have b1 : Blk w1 w.heap.size [.int .i64 cl, .int .i64 nm, .slice ao acts.length ac, .slice ro reads.length rc, .int .i64 ca, .int .i64 an] 51 := by rw [hw1]; exact (Blk.new w _ _).alloc _
  have b2 : Blk w1 (w.heap.size + 1) [.int .i64 0, .int .i64 0, .slice none 0 0, .slice none 0 0, .int .i64 0, .int .i64 0] 51 := by
    have := Blk.new (w.alloc (.cells #[.int .i64 cl, .int .i64 nm, .slice ao acts.length ac, .slice ro reads.length rc, .int .i64 ca, .int .i64 an] 51)) [.int .i64 0, .int .i64 0, .slice none 0 0, .slice none 0 0, .int .i64 0, .int .i64 0] 51
    rw [hw1]; simpa using this
  have hsz : w.heap.size + 2 ≤ w1.heap.size := by rw [hw1]; simp
  have HAL := Lib.hid (fun W (hW : Ext w1 W) => (hza.ext (Ext.trans X1.out hW)).mono (Ext.trans X1.out hW).size)
  have HRL := Lib.hid (fun W (hW : Ext w1 W) => (hzr.ext (Ext.trans X1.out hW)).mono (Ext.trans X1.out hW).size)
  have B1 := Lib.hid b1; have B2 := Lib.hid b2; have W1 := Lib.hid hw1
  have HCX := Lib.hid (fun W (hW : Ext w1 W) => (⟨(b1.ext' hW).cell 2, (b1.ext' hW).cell 3, (b1.ext' hW).free 2, (b1.ext' hW).free 3⟩ : W.cell? ⟨w.heap.size, 2, none⟩ = some (.slice ao acts.length ac) ∧ W.cell? ⟨w.heap.size, 3, none⟩ = some (.slice ro reads.length rc) ∧ W.frozen? ⟨w.heap.size, 2, none⟩ = false ∧ W.frozen? ⟨w.heap.size, 3, none⟩ = false))
  obtain ⟨c2, c3, f2, f3⟩ := HCX.out w1 (Below.refl _ _)
  clear hza hzr hw1 b1 b2
  go_enter Tryz.func29, Tryz.ntmps29
  go_wp2_with fail
  rw [← W1.out]
  go_region_with (first
    | (go_at_call 52; refine (clone_acts_calls acts _ _ _ ha (HAL.out _ (by first | exact (Below.refl _ _).drew | exact xr))).mono ?_; rintro e wa ⟨va, rfl, hva, hna, hxa⟩; obtain ⟨pa, qa, rfl, -⟩ := Rows.own (enc := encAct) (sz := 4) (fun _ => rfl) hva; have xa : Ext w1 wa := Ext.trans (by first | exact (Below.refl _ _).drew | exact xr) hxa; obtain ⟨a2, a3, af2, af3⟩ := HCX.out wa xa; have VA := Lib.hid hva; have NA := Lib.hid hna; have XA := Lib.hid hxa; clear hva hna hxa)
    | (go_at_call 53; refine (clone_reads_calls reads _ _ _ hr (HRL.out _ (by first | exact (Below.refl _ _).drew | exact xa))).mono ?_; rintro e wb ⟨vb, rfl, hvb, hnb, hxb⟩; obtain ⟨pb, qb, rfl, -⟩ := Rows.own (enc := encRd) (sz := 3) (fun _ => rfl) hvb; have xr : Ext w1 wb := Ext.trans (by first | exact (Below.refl _ _).drew | exact xa) hxb; obtain ⟨e2, e3, ef2, ef3⟩ := HCX.out wb xr; have VB := Lib.hid hvb; have NB := Lib.hid hnb; have XB := Lib.hid hxb; clear hvb hnb hxb))
  all_goals
    have key : ∀ W, Ext w1 W → W.ownsRow 0 114 4 (.slice pa acts.length qa) acts.length (acts.flatMap encAct) → W.ownsRow 0 117 3 (.slice pb reads.length qb) reads.length (reads.flatMap encRd) →
        Blk ((W.setCell ⟨w.heap.size, 2, none⟩ (.slice pa acts.length qa)).setCell ⟨w.heap.size, 3, none⟩ (.slice pb reads.length qb)) w.heap.size [.int .i64 cl, .int .i64 nm, .slice pa acts.length qa, .slice pb reads.length qb, .int .i64 ca, .int .i64 an] 51 ∧
        Blk ((W.setCell ⟨w.heap.size, 2, none⟩ (.slice pa acts.length qa)).setCell ⟨w.heap.size, 3, none⟩ (.slice pb reads.length qb)) (w.heap.size + 1) [.int .i64 0, .int .i64 0, .slice none 0 0, .slice none 0 0, .int .i64 0, .int .i64 0] 51 ∧
        Ext w ((W.setCell ⟨w.heap.size, 2, none⟩ (.slice pa acts.length qa)).setCell ⟨w.heap.size, 3, none⟩ (.slice pb reads.length qb)) ∧
        StepMine ((W.setCell ⟨w.heap.size, 2, none⟩ (.slice pa acts.length qa)).setCell ⟨w.heap.size, 3, none⟩ (.slice pb reads.length qb)) (w.heap.size + 2) ⟨⟨cl, nm, acts, reads, ca, an⟩, pa, qa, pb, qb⟩ := by
      intro W hW ha' hb'
      have na : ∀ j, (Value.slice pa acts.length qa).ownBlock = some j → w1.heap.size ≤ j := fun j hj => by have := NA.out j hj; first | exact this | (have h := xr.size; omega)
      have nb : ∀ j, (Value.slice pb reads.length qb).ownBlock = some j → w1.heap.size ≤ j := fun j hj => by have := NB.out j hj; first | exact this | (have h := xa.size; omega)
      refine ⟨((B1.out.ext' hW).set 2 _).set 3 _, ((B2.out.ext' hW).other (a := ⟨w.heap.size, 2, none⟩) (by simp) _).other (a := ⟨w.heap.size, 3, none⟩) (by simp) _, ((Ext.trans X1.out hW).setCell (p := ⟨w.heap.size, 2, none⟩) (Nat.le_refl _) _).setCell (p := ⟨w.heap.size, 3, none⟩) (Nat.le_refl _) _, ?_, ?_⟩
      · exact own_setOther (own_setOther (own_base ha' (fun j e => by have := na j e; omega)) (a := ⟨w.heap.size, 2, none⟩) (fun e => by have := na _ e; simp only at this; omega) _) (a := ⟨w.heap.size, 3, none⟩) (fun e => by have := na _ e; simp only at this; omega) _
      · exact own_setOther (own_setOther (own_base hb' (fun j e => by have := nb j e; omega)) (a := ⟨w.heap.size, 2, none⟩) (fun e => by have := nb _ e; simp only at this; omega) _) (a := ⟨w.heap.size, 3, none⟩) (fun e => by have := nb _ e; simp only at this; omega) _
  all_goals
    have hfin := (by first | exact key wb xr (own_ext VA.out XB.out) VB.out | exact key wa xa VA.out (own_ext VB.out XA.out))
    clear key
    obtain ⟨hb1, hb2, hx2, hm2⟩ := hfin
    generalize World.setCell _ ⟨w.heap.size, 3, none⟩ _ = W2 at hb1 hb2 hx2 hm2 ⊢
    have d0 := hb1.cell 0; have d1 := hb1.cell 1; have d2 := hb1.cell 2; have d3 := hb1.cell 3; have d4 := hb1.cell 4; have d5 := hb1.cell 5
    have e0 := hb2.cell 0; have e1 := hb2.cell 1; have e2' := hb2.cell 2; have e3' := hb2.cell 3; have e4 := hb2.cell 4; have e5 := hb2.cell 5
    have f0 := hb2.free 0; have f1 := hb2.free 1; have f2' := hb2.free 2; have f3' := hb2.free 3; have f4 := hb2.free 4; have f5 := hb2.free 5
    simp only [List.getElem?_cons_zero, List.getElem?_cons_succ] at d0 d1 d2 d3 d4 d5 e0 e1 e2' e3' e4 e5
    have HB2 := Lib.hid hb2; have HX2 := Lib.hid hx2; have HM2 := Lib.hid hm2
    clear hb1 hb2 hx2 hm2 c2 c3 f2 f3
    go_wp2_with fail
    have hb9 : Blk ((((((W2.setCell ⟨w.heap.size + 1, 0, none⟩ (.int .i64 cl)).setCell ⟨w.heap.size + 1, 1, none⟩ (.int .i64 nm)).setCell ⟨w.heap.size + 1, 2, none⟩ (.slice pa acts.length qa)).setCell ⟨w.heap.size + 1, 3, none⟩ (.slice pb reads.length qb)).setCell ⟨w.heap.size + 1, 4, none⟩ (.int .i64 ca)).setCell ⟨w.heap.size + 1, 5, none⟩ (.int .i64 an)) (w.heap.size + 1) [.int .i64 cl, .int .i64 nm, .slice pa acts.length qa, .slice pb reads.length qb, .int .i64 ca, .int .i64 an] 51 :=
      (((((HB2.out.set 0 _).set 1 _).set 2 _).set 3 _).set 4 _).set 5 _
    refine bodyPost_ret (results_cell_row rfl _ _ (w.heap.size + 1) 51 (encStep ⟨⟨cl, nm, acts, reads, ca, an⟩, pa, qa, pb, qb⟩).toArray (0, 0) _ rfl hb9 Tryz.underlying51 rfl (by kernel_rfl)) rfl ?_
    have hbut : But (fun j => j = w.heap.size + 1) W2 ((((((W2.setCell ⟨w.heap.size + 1, 0, none⟩ (.int .i64 cl)).setCell ⟨w.heap.size + 1, 1, none⟩ (.int .i64 nm)).setCell ⟨w.heap.size + 1, 2, none⟩ (.slice pa acts.length qa)).setCell ⟨w.heap.size + 1, 3, none⟩ (.slice pb reads.length qb)).setCell ⟨w.heap.size + 1, 4, none⟩ (.int .i64 ca)).setCell ⟨w.heap.size + 1, 5, none⟩ (.int .i64 an)) :=
      ((((((But.refl (fun j => j = w.heap.size + 1) W2).setCell (p := ⟨_, 0, none⟩) (fun _ => rfl) _).setCell (p := ⟨_, 1, none⟩) (fun _ => rfl) _).setCell (p := ⟨_, 2, none⟩) (fun _ => rfl) _).setCell (p := ⟨_, 3, none⟩) (fun _ => rfl) _).setCell (p := ⟨_, 4, none⟩) (fun _ => rfl) _).setCell (p := ⟨_, 5, none⟩) (fun _ => rfl) _
    have hs2 := HX2.out.size
    refine ⟨⟨⟨cl, nm, acts, reads, ca, an⟩, pa, qa, pb, qb⟩, rfl, rfl, ⟨?_, ?_⟩, Below.trans HX2.out (hbut.below hs2 (fun i e => by rw [show i = w.heap.size + 1 from e]; omega))⟩
    · exact own_base (own_but HM2.out.acts hbut (fun j hj e => by have := own_ge HM2.out.acts j hj; have e2 : j = w.heap.size + 1 := e; omega)) (fun j e => by have := own_ge HM2.out.acts j e; omega)
    · exact own_base (own_but HM2.out.reads hbut (fun j hj e => by have := own_ge HM2.out.reads j hj; have e2 : j = w.heap.size + 1 := e; omega)) (fun j e => by have := own_ge HM2.out.reads j e; omega)
theorem list_set_self {α : Type} {l : List α} {k : Nat} {x : α} (h : l[k]? = some x) : l.set k x = l := by
  apply List.ext_getElem?
  intro i
  by_cases e : k = i
  · subst e
    rw [List.getElem?_set_self (List.getElem?_eq_some_iff.1 h).1, h]
  · rw [List.getElem?_set_ne e]
structure OrdMid (w w1 : World) (v : Value) (out : List StepZ) (k : Nat) (wr : World) : Prop where
  out : ∃ l' : List StepZ, l'.length = out.length ∧ l'.map (·.d) = out.map (·.d) ∧ wr.ownsRow 0 51 6 v out.length (l'.flatMap encStep) ∧ (∀ i z, i < k → l'[i]? = some z → StepMine wr w.heap.size z) ∧ (∀ i, k ≤ i → l'[i]? = out[i]?) ∧ But (fun j => v.ownBlock = some j) w1 wr
theorem flat_set6 (z : StepZ) : ∀ (l : List StepZ) (p : Nat), p < l.length → ((((((l.flatMap encStep).set (p * 6) (.int .i64 z.d.cl)).set (p * 6 + 1) (.int .i64 z.d.nm)).set (p * 6 + 2) (.slice z.ao z.d.acts.length z.ac)).set (p * 6 + 3) (.slice z.ro z.d.reads.length z.rc)).set (p * 6 + 4) (.int .i64 z.d.ca)).set (p * 6 + 5) (.int .i64 z.d.an) = (l.set p z).flatMap encStep
  | d :: l, 0, _ => by simp [encStep]
  | d :: l, p + 1, h => by
    have ih := flat_set6 z l p (by simpa using h)
    have e : (p + 1) * 6 = p * 6 + 1 + 1 + 1 + 1 + 1 + 1 := by omega
    simp only [List.flatMap_cons, List.set_cons_succ]
    rw [← ih, e]
    simp [encStep]
def OrderPost (w : World) (r : Option (List StepD)) (e : Ending) (w' : World) : Prop :=
  ∃ (v : Value) (l' : List StepZ), e = .returned (.tuple #[v, .bool r.isSome]) ∧ l'.map (·.d) = r.getD [] ∧ w'.ownsRow 0 51 6 v l'.length (l'.flatMap encStep) ∧ (∀ j, v.ownBlock = some j → w.heap.size ≤ j) ∧ (∀ z ∈ l', StepMine w' w.heap.size z) ∧ Ext w w'
def orderD (l : List StepD) : Option (List StepD) := if 8 < l.length then none else ordP nextD lateD l.length ([], []) l
set_option maxRecDepth 100000 in
set_option maxHeartbeats 3200000 in
theorem orderP_calls (l : List StepZ) (ao : Option Addr) (cap : Nat) (w : World) (hl : l.length ≤ 1000) (hs : StepsAt w ao l) (hd : ∀ z ∈ l, z.d.ok) (hlv : LV w.heap.size w) :
    Calls Tryz.prog 17 #[.slice ao l.length cap] w (OrderPost w (orderD (l.map (·.d)))) := by
  by_cases h8 : 8 < l.length
  · have g1 : decide ((8 : Int) < (l.length : Int)) = true := by simp; omega
    have ho : orderD (l.map (·.d)) = none := by unfold orderD; rw [if_pos (by simpa using h8)]
    have HO := Lib.hid ho
    clear ho hs hd hlv
    go_enter Tryz.func17, Tryz.ntmps17
    go_wp2_with fail
    go_ret2
    exact ⟨.slice none 0 0, [], by rw [HO.out]; rfl, by rw [HO.out]; rfl, World.ownsRow_nil _ _ _ _, (fun j e => by cases e), (fun z hz => by cases hz), Below.refl _ _⟩
  · have g1 : decide ((8 : Int) < (l.length : Int)) = false := by simp; omega
    have HO : Hid (orderD (l.map (·.d)) = (ordP nextZ lateZ l.length ([], []) l).map (List.map (·.d))) := Lib.hid (by
      unfold orderD; rw [if_neg (by simpa using h8), List.length_map]; exact (ordP_map _ _ _).symm)
    have HS := Lib.hid hs; have HD := Lib.hid hd; have HLV := Lib.hid hlv
    clear hs hd hlv
    go_enter Tryz.func17, Tryz.ntmps17
    go_wp2_with fail
    refine (begun_calls _).mono ?_
    rintro e w1 ⟨hb, mb, rfl, hh, hx1⟩
    have OC := Lib.hid (order_calls l.length l ao cap w1 w.heap.size hb mb 0 ([], []) (.slice none 0 0) rfl (by omega) (HS.out.ext hx1) HD.out ((HLV.out.ext hx1).up hx1.size) hh (by omega) (by simp; omega))
    have X1 := Lib.hid hx1
    clear hh hx1
    go_wp2_with fail
    refine OC.out.mono ?_
    rintro e w2 ⟨v, rfl, hown, hnew, hx2⟩
    obtain ⟨r, hr⟩ : ∃ r, ordP nextZ lateZ l.length ([], []) l = r := ⟨_, rfl⟩
    rw [hr] at hown HO ⊢
    have hmem : ∀ z ∈ r.getD [], z ∈ l := fun z hz => by
      cases r with
      | none => cases hz
      | some out => exact ((ordP_spec _ _ _ _ rfl hr).1.mem_iff).1 hz
    have hlen : (r.getD []).length ≤ 8 := by
      cases r with
      | none => simp
      | some out => have := (ordP_spec _ _ _ _ rfl hr).1.length_eq; simp only [Option.getD_some]; omega
    obtain ⟨out, hout⟩ : ∃ out, r.getD [] = out := ⟨_, rfl⟩
    have hod : (r.map (List.map (·.d))).getD [] = out.map (·.d) := by rw [← hout]; cases r <;> rfl
    have hois : (r.map (List.map (·.d) : List StepZ → List StepD)).isSome = r.isSome := by cases r <;> rfl
    rw [hout] at hown hmem hlen
    obtain ⟨b, hb⟩ : ∃ b, r.isSome = b := ⟨_, rfl⟩
    rw [hb] at hois ⊢
    have OD := Lib.hid hod; have OI := Lib.hid hois; have ME := Lib.hid hmem
    have X2 := Lib.hid (Ext.trans X1.out hx2); have NW := Lib.hid hnew
    have hx1s := X1.out.size
    clear hr hout hod hois hmem hx2 hnew hb
    obtain ⟨oo, oc, rfl, -, -, -⟩ := Rows.own (enc := encStep) (sz := 6) (fun _ => rfl) hown
    have OW := Lib.hid hown
    clear hown
    go_wp2_with fail
    go_loopw [19] (fun i wr => ∃ k : Nat, k ≤ out.length ∧ i = .int .i64 k ∧ OrdMid w w2 (.slice oo out.length oc) out k wr) (fun i _ => out.length - (intOf i).toNat)
    case atStart => exact ⟨0, by omega, rfl, out, rfl, rfl, OW.out, fun i z h => by omega, fun i _ => rfl, But.refl _ _⟩
    case round =>
      obtain ⟨k, hk, rfl, hmid⟩ := hrel
      obtain ⟨l', hll, hmp, hown, hmine, hrest, hbt⟩ := hmid.out
      have hge : ∀ j, (Value.slice oo out.length oc).ownBlock = some j → w.heap.size ≤ j := fun j e => by have := NW.out j e; omega
      have hbw : Ext w wr := Below.trans X2.out (hbt.below X2.out.size hge)
      have K1 := Lib.hid hown; have K2 := Lib.hid hmine; have K3 := Lib.hid hrest; have K4 := Lib.hid hbt; have K5 := Lib.hid hmp; have K6 := Lib.hid hll; have GE := Lib.hid hge; have BW := Lib.hid hbw
      clear hmid hown hmine hrest hbt hmp hge hbw hll
      by_cases hlt : k < out.length
      · obtain ⟨z, hz⟩ : ∃ z, out[k]? = some z := ⟨_, List.getElem?_eq_getElem hlt⟩
        have hz' : l'[k]? = some z := by rw [K3.out k (Nat.le_refl _), hz]
        have hzl := ME.out z (List.mem_of_getElem? hz)
        obtain ⟨g, c, hv⟩ := own_pos K1.out (by omega)
        simp only [Value.slice.injEq, true_and] at hv
        obtain ⟨rfl, rfl⟩ := hv
        have hcell := fun j (v : Value) (hv : (encStep z)[j]? = some v) => (K1.out.cellAt (k * 6 + j) (by have := (List.getElem?_eq_some_iff.1 hv).1; simp [encStep] at this; omega)).trans (flat_at (enc := encStep) (sz := 6) (fun _ => rfl) l' k z hz' j v hv)
        have hzat : z.at wr.heap.size wr := ((HS.out.2 z hzl).ext BW.out).mono BW.out.size
        have hzd := HD.out z hzl
        have hxb : Ext wr (wr.alloc (.cells (encStep z).toArray 51)) := (Below.refl _ wr).alloc (Nat.le_refl _) _
        have CC := Lib.hid (copiedS_calls z _ ((hzat.ext hxb).mono hxb.size) hzd.an hzd.rn)
        have HZ := Lib.hid hz; have HZ' := Lib.hid hz'; have XB := Lib.hid hxb
        obtain ⟨zz, hzz⟩ : ∃ zz, zz = z := ⟨_, rfl⟩
        rw [← hzz] at HZ HZ'
        have ZZ := Lib.hid hzz
        clear hzz hz hz' hzat hzd hxb
        obtain ⟨⟨cl, nm, acts, reads, ca, an⟩, ao2, ac2, ro2, rc2⟩ := z
        unfold encStep at hcell CC XB
        simp only at hcell CC XB
        have d0 := hcell 0 _ rfl; have d1 := hcell 1 _ rfl; have d2 := hcell 2 _ rfl; have d3 := hcell 3 _ rfl; have d4 := hcell 4 _ rfl; have d5 := hcell 5 _ rfl
        simp only [Nat.add_zero] at d0
        have i0 : (0 : Int) ≤ (k : Int) := by omega
        have i1 : (k : Int) < (out.length : Int) := by omega
        clear hcell hzl
        go_wp2_with fail
        refine CC.out.mono ?_
        rintro e w5 ⟨z', rfl, hzd, hzm, hx5⟩
        have X5 := Lib.hid (Ext.trans XB.out hx5)
        have hol : l'.length = out.length := K6.out
        have O5 := own_ext K1.out X5.out
        have q0 := O5.cellAt (k * 6) (by omega); have q1 := O5.cellAt (k * 6 + 1) (by omega); have q2 := O5.cellAt (k * 6 + 2) (by omega); have q3 := O5.cellAt (k * 6 + 3) (by omega); have q4 := O5.cellAt (k * 6 + 4) (by omega); have q5 := O5.cellAt (k * 6 + 5) (by omega)
        have hcell := fun j (v : Value) (hv : (encStep zz)[j]? = some v) => flat_at (enc := encStep) (sz := 6) (fun _ => rfl) l' k zz HZ'.out j v hv
        rw [ZZ.out] at hcell
        replace q0 := q0.trans (hcell 0 _ rfl); replace q1 := q1.trans (hcell 1 _ rfl); replace q2 := q2.trans (hcell 2 _ rfl); replace q3 := q3.trans (hcell 3 _ rfl); replace q4 := q4.trans (hcell 4 _ rfl); replace q5 := q5.trans (hcell 5 _ rfl)
        have f0 := O5.frozenAt (k * 6); have f1 := O5.frozenAt (k * 6 + 1); have f2 := O5.frozenAt (k * 6 + 2); have f3 := O5.frozenAt (k * 6 + 3); have f4 := O5.frozenAt (k * 6 + 4); have f5 := O5.frozenAt (k * 6 + 5)
        have PO := Lib.hid O5; have ZD := Lib.hid hzd; have ZM := Lib.hid hzm
        obtain ⟨⟨cl', nm', acts', reads', ca', an'⟩, ao3, ac3, ro3, rc3⟩ := z'
        unfold encStep
        simp only
        clear O5 hcell hol hzd hzm hx5 d0 d1 d2 d3 d4 d5
        go_wp2_with fail
        go_roundw
        case rel =>
          have hol : l'.length = out.length := K6.out
          have hpl : k < l'.length := by omega
          have hset := own_set2 (own_set2 (own_set2 (own_set2 (own_set2 (own_set2 PO.out (k * 6) (.int .i64 cl')) (k * 6 + 1) (.int .i64 nm')) (k * 6 + 2) (.slice ao3 acts'.length ac3)) (k * 6 + 3) (.slice ro3 reads'.length rc3)) (k * 6 + 4) (.int .i64 ca')) (k * 6 + 5) (.int .i64 an')
          have hfs := flat_set6 ⟨⟨cl', nm', acts', reads', ca', an'⟩, ao3, ac3, ro3, rc3⟩ l' k hpl
          simp only at hfs
          rw [hfs] at hset
          have hSg : (Value.slice (some ⟨g, 0, none⟩) out.length oc).ownBlock = some g := rfl
          have hbut : But (fun j => (Value.slice (some ⟨g, 0, none⟩) out.length oc).ownBlock = some j) w5 ((((((w5.setCell ⟨g, k * 6, none⟩ (.int .i64 cl')).setCell ⟨g, k * 6 + 1, none⟩ (.int .i64 nm')).setCell ⟨g, k * 6 + 2, none⟩ (.slice ao3 acts'.length ac3)).setCell ⟨g, k * 6 + 3, none⟩ (.slice ro3 reads'.length rc3)).setCell ⟨g, k * 6 + 4, none⟩ (.int .i64 ca')).setCell ⟨g, k * 6 + 5, none⟩ (.int .i64 an')) :=
            ((((((But.refl (fun j => (Value.slice (some ⟨g, 0, none⟩) out.length oc).ownBlock = some j) w5).setCell (p := ⟨g, k * 6, none⟩) (fun _ => hSg) _).setCell (p := ⟨g, k * 6 + 1, none⟩) (fun _ => hSg) _).setCell (p := ⟨g, k * 6 + 2, none⟩) (fun _ => hSg) _).setCell (p := ⟨g, k * 6 + 3, none⟩) (fun _ => hSg) _).setCell (p := ⟨g, k * 6 + 4, none⟩) (fun _ => hSg) _).setCell (p := ⟨g, k * 6 + 5, none⟩) (fun _ => hSg) _
          refine ⟨k + 1, by omega, by go_num, l'.set k ⟨⟨cl', nm', acts', reads', ca', an'⟩, ao3, ac3, ro3, rc3⟩, by simpa using hol, ?_, hset, fun i y hi hy => ?_, fun i hi => ?_, ?_⟩
          · rw [List.map_set, ← K5.out]
            have e : (l'.map (·.d))[k]? = some (⟨cl', nm', acts', reads', ca', an'⟩ : StepD) := by
              rw [List.getElem?_map, HZ'.out, Option.map_some, ZZ.out]
              exact congrArg some ZD.out.symm
            exact list_set_self e
          · rcases Nat.lt_or_ge i k with h1 | h1
            · rw [List.getElem?_set_ne (by omega)] at hy
              exact ((K2.out i y h1 hy).ext X5.out).row hbut PO.out
            · obtain rfl : i = k := by omega
              rw [List.getElem?_set_self hpl] at hy
              rw [← Option.some.inj hy]
              have h2 := ZM.out.row hbut PO.out
              have h3 : w.heap.size ≤ (wr.alloc (.cells #[.int .i64 cl, .int .i64 nm, .slice ao2 acts.length ac2, .slice ro2 reads.length rc2, .int .i64 ca, .int .i64 an] 51)).heap.size := by have := BW.out.size; simp; omega
              exact ⟨own_base h2.acts (fun j e => Nat.le_trans h3 (own_ge h2.acts j e)), own_base h2.reads (fun j e => Nat.le_trans h3 (own_ge h2.reads j e))⟩
          · rw [List.getElem?_set_ne (by omega)]
            exact K3.out i (by omega)
          · exact (K4.out.trans (Ext.but X5.out (fun _ => False)) (fun _ _ e => e) (fun _ _ e => e.elim)).trans hbut (fun _ _ e => e) (fun _ _ e => e)
        case measure => simp [intOf]; omega
      · obtain rfl : k = out.length := by omega
        go_wp2_with fail
        go_ret2
        have hl' := K6.out
        refine ⟨_, l', by rw [HO.out, OI.out]; rfl, by rw [HO.out, OD.out, K5.out], by rw [hl']; exact K1.out, GE.out, fun z hz => ?_, BW.out⟩
        obtain ⟨i, hi⟩ := List.mem_iff_getElem?.1 hz
        exact K2.out i z (by have := (List.getElem?_eq_some_iff.1 hi).1; omega) hi
end Go.Proofs.YtbnclifpdmpjnaaGreatDoor
