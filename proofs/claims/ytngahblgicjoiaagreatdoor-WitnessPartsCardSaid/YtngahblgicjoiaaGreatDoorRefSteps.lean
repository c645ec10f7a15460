/- Steps that fit, and orders of them: the document's way of it, in plain words. -/
import Derived.Test.YtngahblgicjoiaaGreatDoorOrderP
import Derived.Test.YtngahblgicjoiaaGreatDoorDoP
import Derived.Test.YtngahblgicjoiaaGreatDoorRefRows
import Derived.Test.YtngahblgicjoiaaGreatDoorAwake
import Derived.Deep.DeepMust
import Derived.Deep.CutRange
import Derived.Deep.DeepCutAuto
namespace Go.Proofs.YtngahblgicjoiaaGreatDoor

theorem histAt_names (l : List StepD) : ∀ (k : Nat), (histAt l k).2 = (l.take k).map fun x => (x.cl, x.nm)
  | 0 => by simp [histAt, histF]
  | k + 1 => by
    cases hx : l[k]? with
    | none =>
      have hk : l.length ≤ k := by rw [List.getElem?_eq_none_iff] at hx; exact hx
      have ih := histAt_names l k
      unfold histAt at ih ⊢
      rwa [List.take_of_length_le (Nat.le_succ_of_le hk), ← List.take_of_length_le hk]
    | some x =>
      rw [histAt_succ hx, List.take_add_one, hx]
      show (histAt l k).2 ++ [(x.cl, x.nm)] = _
      rw [histAt_names l k]
      simp
theorem nextE_2 {h : Hist} {x : StepD} (hr : rightS x = false) : nextE h x = 2 := by unfold nextE; rw [if_pos hr]
theorem nextE_7 {h : Hist} {x : StepD} (hr : rightS x = true) (hn : (x.cl, x.nm) ∈ h.2) : nextE h x = 7 := by unfold nextE; rw [if_neg (by rw [hr]; simp), if_pos hn]
theorem nextE_4 {h : Hist} {x : StepD} (hr : rightS x = true) (hn : (x.cl, x.nm) ∉ h.2) (hd : (doneD h.1 x.acts).2 ≠ x.reads) : nextE h x = 4 := by unfold nextE; rw [if_neg (by rw [hr]; simp), if_neg hn, if_pos hd]
theorem nextE_0 {h : Hist} {x : StepD} (hr : rightS x = true) (hn : (x.cl, x.nm) ∉ h.2) (hd : (doneD h.1 x.acts).2 = x.reads) : nextE h x = 0 := by unfold nextE; rw [if_neg (by rw [hr]; simp), if_neg hn, if_neg (by rw [hd]; simp)]
theorem name_in {l : List StepD} {j k : Nat} {x y : StepD} (hjk : j < k) (hj : l[j]? = some y) (hc : y.cl = x.cl) (hn : y.nm = x.nm) : (x.cl, x.nm) ∈ (histAt l k).2 := by
  rw [histAt_names, List.mem_map]
  exact ⟨y, List.mem_of_getElem? (i := j) (by rw [List.getElem?_take_of_lt hjk]; exact hj), by rw [hc, hn]⟩
theorem name_out {l : List StepD} {k : Nat} {x : StepD} (ha : ∀ (j : Nat) (y : StepD), j < k → l[j]? = some y → sameN y x = false) : (x.cl, x.nm) ∉ (histAt l k).2 := by
  rw [histAt_names, List.mem_map]
  rintro ⟨y, hy, he⟩
  obtain ⟨j, hj, rfl⟩ := List.mem_iff_getElem.1 hy
  rw [List.length_take] at hj
  have hjl : j < l.length := by omega
  have := ha j l[j] (by omega) (List.getElem?_eq_getElem hjl)
  rw [List.getElem_take] at he
  simp only [Prod.mk.injEq] at he
  unfold sameN at this
  rw [he.1, he.2] at this
  simp at this
/-- The document's search, over steps as they lie. -/
noncomputable def ordZ (n : Nat) (b r : List StepZ) : Option (List StepZ) := ordD nextZ lateZ ([], []) n b r
theorem fitL_map : ∀ (l : List StepZ) (h : Hist), fitL nextZ h l = fitL nextD h (l.map (·.d))
  | [], _ => rfl
  | x :: l, h => by
    simp only [fitL, List.map_cons]
    rw [show nextZ h x = nextD h x.d from rfl]
    cases nextD h x.d with
    | none => rfl
    | some g => exact fitL_map l g
theorem inTime_map (l : List StepZ) : inTimeL lateZ l ↔ inTimeL lateD (l.map (·.d)) := by
  unfold inTimeL; rw [List.pairwise_map]; rfl
def fitsB (b : List StepZ) : Prop := fitD (b.map (·.d)) = (b.length, 0) ∧ (timeD (b.map (·.d))).1 < 0
theorem fits_iff (b : List StepZ) : ((fitL nextZ ([], []) b).isSome = true ∧ inTimeL lateZ b) ↔ fitsB b := by
  rw [fitL_map, inTime_map]
  unfold fitsB
  have h1 := fit_all (b.map (·.d)) ([], []) 0
  have h2 := time_all (b.map (·.d)) 0
  rw [Nat.zero_add, List.length_map] at h1
  exact and_congr h1 h2
theorem ordZ_bad {n : Nat} {b r : List StepZ} (h : ¬ fitsB b) : ordZ n b r = none := by
  unfold ordZ
  cases n <;> rw [ordD, if_neg (fun e => h ((fits_iff b).1 e))]
theorem ordZ_zero {b r : List StepZ} (h : fitsB b) : ordZ 0 b r = some b := by
  unfold ordZ
  rw [ordD, if_pos ((fits_iff b).2 h)]
/-- What one place of the search gives. -/
noncomputable def ordZAt (n : Nat) (b r : List StepZ) (i : Nat) : Option (List StepZ) := match r[i]? with
  | none => none
  | some x => ordZ n (b ++ [x]) (r.eraseIdx i)
theorem ordZ_step {n : Nat} {b r : List StepZ} (h : fitsB b) : ordZ (n + 1) b r = (List.range r.length).findSome? (ordZAt n b r) := by
  unfold ordZ
  rw [ordD, if_pos ((fits_iff b).2 h)]
  congr 1
  funext i
  unfold ordZAt ordZ
  cases r[i]? <;> rfl
theorem ordZ_none {n : Nat} {b r : List StepZ} (h : fitsB b) (ha : ∀ i, i < r.length → ordZAt n b r i = none) : ordZ (n + 1) b r = none := by
  rw [ordZ_step h]
  exact findSome_none fun i hi => ha i (List.mem_range.1 hi)
theorem ordZ_some {n : Nat} {b r out : List StepZ} {i : Nat} (h : fitsB b) (hi : i < r.length) (ha : ∀ j, j < i → ordZAt n b r j = none) (ho : ordZAt n b r i = some out) : ordZ (n + 1) b r = some out := by
  rw [ordZ_step h]
  exact findSome_range _ _ i out hi ha ho
/-- The document's order is the program's. -/
theorem ordZ_order (l : List StepZ) (h8 : l.length ≤ 8) : (ordZ l.length [] l).map (List.map (·.d)) = orderD (l.map (·.d)) := by
  have h1 := orders_same (next := nextZ) (late := lateZ) ([], []) l.length [] l ([], []) rfl rfl List.Pairwise.nil (fun a ha => by cases ha)
  have h2 : (ordP nextZ lateZ l.length ([], []) l).map (([] : List StepZ) ++ ·) = ordP nextZ lateZ l.length ([], []) l := by
    cases ordP nextZ lateZ l.length ([], []) l <;> rfl
  rw [h2] at h1
  unfold ordZ
  rw [h1, ordP_map]
  unfold orderD
  rw [if_neg (by rw [List.length_map]; omega), List.length_map]
theorem ordZ_mem : ∀ (n : Nat) (b r out : List StepZ), r.length = n → ordZ n b r = some out → ∀ z ∈ out, z ∈ b ∨ z ∈ r
  | 0, b, r, out, _, h, z, hz => by
    unfold ordZ at h
    rw [ordD] at h
    split at h
    · rw [← Option.some.inj h] at hz; exact .inl hz
    · cases h
  | n + 1, b, r, out, hl, h, z, hz => by
    unfold ordZ at h
    rw [ordD] at h
    split at h
    · obtain ⟨i, hi, hx⟩ := List.exists_of_findSome?_eq_some h
      have hi := List.mem_range.1 hi
      rw [List.getElem?_eq_getElem hi] at hx
      simp only at hx
      rcases ordZ_mem n _ _ out (len_erase hi hl) hx z hz with e | e
      · rcases List.mem_append.1 e with e | e
        · exact .inl e
        · rw [List.mem_singleton] at e
          exact .inr (by rw [e]; exact List.getElem_mem hi)
      · exact .inr (List.mem_of_mem_eraseIdx e)
    · cases h
end Go.Proofs.YtngahblgicjoiaaGreatDoor
/- The document's Do, Fit, After, InTime. -/
namespace Go.Proofs.YtngahblgicjoiaaGreatDoor
open Go.RowKit

set_option maxRecDepth 100000 in
set_option maxHeartbeats 1600000 in
theorem refDoP_calls (l : List RowD) (ao : Option Addr) (cap : Nat) (z : StepZ) (w : World) (hl : l.length ≤ 90000) (hr : Rows 2 encRw w.heap.size w ao l) (hok : ∀ r ∈ l, r.ok) (hz : z.at w.heap.size w) (hd : z.d.ok) :
    Calls Tryz.prog 20 #[.slice ao l.length cap, .agg (encStep z).toArray] w (DoPPost w (doS l z.d)) := by
  have HR := Lib.hid hr; have HOK := Lib.hid hok
  have HRC := Lib.hid (fun W (hW : Ext w W) => refStep_calls z W ((hz.ext hW).mono hW.size) hd)
  have HDC := Lib.hid (fun W (hW : Ext w W) (h1 : RiseR l) (h2 : kinds3 z.d.acts) (h3 : z.d.acts.length ≤ 1000) => refDone_calls l ao cap z W hl ((hr.ext hW).mono hW.size) hok h1 ((hz.ext hW).mono hW.size) hd h2 h3)
  have hds : doS l z.d = if rightS z.d = true ∧ soundB l = true then doneD l z.d.acts else (l, []) := rfl
  have HDS := Lib.hid hds
  have hk3 := Lib.hid (fun (h : rightS z.d = true) => rightS_kinds h)
  clear hr hok hz hd hds
  obtain ⟨⟨cl, nm, acts, reads, ca, an⟩, ao2, ac2, ro2, rc2⟩ := z
  obtain ⟨d, hdd⟩ : ∃ d : StepD, d = ⟨cl, nm, acts, reads, ca, an⟩ := ⟨_, rfl⟩
  unfold encStep at HRC HDC ⊢
  simp only at HRC HDC HDS hk3 ⊢
  rw [← hdd] at HRC HDS hk3 ⊢
  clear hdd
  have BX := Lib.hid (Blk.new w [.int .i64 cl, .int .i64 nm, .slice ao2 acts.length ac2, .slice ro2 reads.length rc2, .int .i64 ca, .int .i64 an] 44)
  have X0 := Lib.hid (show Ext w (w.alloc (.cells #[.int .i64 cl, .int .i64 nm, .slice ao2 acts.length ac2, .slice ro2 reads.length rc2, .int .i64 ca, .int .i64 an] 44)) from (Below.refl _ w).alloc (Nat.le_refl _) _)
  have FIN : Hid (∀ W p, Ext w W → ∀ e w', DoPPost W p e w' → DoPPost w p e w') := Lib.hid (fun W p hW e w' ⟨v, rv, h1, h2, h3, h4⟩ => ⟨v, rv, h1, own_base h2 (fun j e => Nat.le_trans hW.size (own_ge h2 j e)), own_base h3 (fun j e => Nat.le_trans hW.size (own_ge h3 j e)), Ext.trans hW h4⟩)
  go_enter Tryz.func20, Tryz.ntmps20
  go_wp2_with fail
  refine (HRC.out _ X0.out).mono ?_
  rintro e w1 ⟨rfl, hx1⟩
  have X1 := Lib.hid (Ext.trans X0.out hx1)
  have hbx := BX.out.ext' hx1
  have B1 := Lib.hid hbx
  clear hx1 hbx
  cases hr : rightS d
  · have R := Lib.hid hr; clear hr
    go_wp2_with fail
    refine (copyLines_calls l ao cap w1 (by omega) ((HR.out.ext X1.out).mono X1.out.size)).mono ?_
    rintro e w2 ⟨v, rfl, hv, hn, hx2⟩
    have V := Lib.hid hv; have N := Lib.hid hn; have X2 := Lib.hid (Ext.trans X1.out hx2); have S1 := Lib.hid X1.out.size
    clear hv hn hx2
    go_wp2_with fail
    go_ret2
    rw [HDS.out, if_neg (by rw [R.out]; simp)]
    exact ⟨v, .slice none 0 0, rfl, own_base V.out (fun j e => Nat.le_trans S1.out (N.out j e)), World.ownsRow_nil _ _ _ _, X2.out⟩
  · have R := Lib.hid hr; clear hr
    go_wp2_with fail
    refine (refTable_calls l ao cap w1 (by omega) ((HR.out.ext X1.out).mono X1.out.size) HOK.out).mono ?_
    rintro e w2 ⟨rfl, hx2⟩
    have X2 := Lib.hid (Ext.trans X1.out hx2)
    have hbx := B1.out.ext' hx2
    have c0 := hbx.cell 0; have c1 := hbx.cell 1; have c2 := hbx.cell 2; have c3 := hbx.cell 3; have c4 := hbx.cell 4; have c5 := hbx.cell 5
    simp only [List.getElem?_cons_zero, List.getElem?_cons_succ] at c0 c1 c2 c3 c4 c5
    clear hx2 hbx
    cases hs : soundB l
    · have SB := Lib.hid hs; clear hs
      go_wp2_with fail
      refine (copyLines_calls l ao cap w2 (by omega) ((HR.out.ext X2.out).mono X2.out.size)).mono ?_
      rintro e w3 ⟨v, rfl, hv, hn, hx3⟩
      have V := Lib.hid hv; have N := Lib.hid hn; have X3 := Lib.hid (Ext.trans X2.out hx3); have S1 := Lib.hid X2.out.size
      clear hv hn hx3
      go_wp2_with fail
      go_ret2
      rw [HDS.out, if_neg (by rw [SB.out]; simp)]
      exact ⟨v, .slice none 0 0, rfl, own_base V.out (fun j e => Nat.le_trans S1.out (N.out j e)), World.ownsRow_nil _ _ _ _, X3.out⟩
    · have SB := Lib.hid hs; clear hs
      have hk := hk3.out R.out
      have DC := Lib.hid (HDC.out w2 X2.out ((soundB_iff l).1 SB.out).1 hk.1 (by have := hk.2.1; omega))
      clear hk
      go_wp2_with fail
      refine DC.out.mono ?_
      rintro e w3 hpost
      obtain ⟨v, rv, rfl, hv, hrv, hx3⟩ := FIN.out _ _ X2.out _ _ hpost
      have V := Lib.hid hv; have RV := Lib.hid hrv; have X3 := Lib.hid hx3
      clear hpost hv hrv hx3
      go_wp2_with fail
      go_ret2
      rw [HDS.out, if_pos ⟨R.out, SB.out⟩]
      exact ⟨v, rv, rfl, V.out, RV.out, X3.out⟩

/-- Amid Fit: the first k fit. -/
structure RFitMid (w : World) (ds : List StepD) (k : Nat) (v : Value) (wr : World) : Prop where
  own : wr.ownsRow w.heap.size 73 2 v (histAt ds k).1.length ((histAt ds k).1.flatMap encRw)
  rise : RiseR (histAt ds k).1
  ok : ∀ r ∈ (histAt ds k).1, r.ok
  few : (histAt ds k).1.length ≤ 6 * k
  zero : ∀ (j : Nat) (y : StepD), j < k → ds[j]? = some y → nextE (histAt ds j) y = 0
  ext : Ext w wr

set_option maxRecDepth 100000 in
set_option maxHeartbeats 3200000 in
theorem refFit_calls (l : List StepZ) (ao : Option Addr) (cap : Nat) (w : World) (hl : l.length ≤ 1000) (hs : StepsAt w ao l) (hd : ∀ z ∈ l, z.d.ok) :
    Calls Tryz.prog 29 #[.slice ao l.length cap] w (FitPost w (fitD (l.map (·.d)))) := by
  have HS := Lib.hid hs; have HD := Lib.hid hd
  clear hs hd
  go_enter Tryz.func29, Tryz.ntmps29
  go_wp2_with fail
  go_loopw [4, 5] (fun v i wr => ∃ k : Nat, k ≤ l.length ∧ i = .int .i64 k ∧ RFitMid w (l.map (·.d)) k v wr) (fun _ i _ => l.length - (intOf i).toNat)
  case atStart => exact ⟨0, by omega, rfl, ⟨World.ownsRow_nil _ _ _ _, List.Pairwise.nil, (fun r hr => by cases hr), by simp [histAt, histF], fun j y h => by omega, Below.refl _ _⟩⟩
  case round =>
    obtain ⟨k, hk, rfl, hmid⟩ := hrel
    obtain ⟨h1, h2, h3, h4, h5, h6⟩ := hmid
    obtain ⟨H, hH⟩ : ∃ H, H = histAt (l.map (·.d)) k := ⟨_, rfl⟩
    rw [← hH] at h1 h2 h3 h4
    have KH := Lib.hid hH; have K2 := Lib.hid h2; have K3 := Lib.hid h3; have K4 := Lib.hid h4; have K5 := Lib.hid h5; have K6 := Lib.hid h6
    have hrl : H.1.length ≤ 6000 := by omega
    clear hH h2 h3 h4 h5
    by_cases hlt : k < l.length
    · obtain ⟨vo, vc, rfl, -, -, -⟩ := Rows.own (enc := encRw) (sz := 2) (fun _ => rfl) h1
      have K1 := Lib.hid h1
      obtain ⟨z, hz⟩ : ∃ z, l[k]? = some z := ⟨_, List.getElem?_eq_getElem hlt⟩
      have hzm := List.mem_of_getElem? hz
      have ZA := Lib.hid (fun W (hW : Ext w W) => ((HS.out.2 z hzm).ext hW).mono hW.size)
      have DK := Lib.hid (HD.out z hzm)
      obtain ⟨b, off, rfl, hb', hcell⟩ := HS.out.1 (by intro e; rw [e] at hlt; simp at hlt)
      have CC : Hid (∀ W, Ext w W → ∀ (i : Nat) (x : StepZ), l[i]? = some x → ∀ (j : Nat) (u : Value), (encStep x)[j]? = some u → W.cell? ⟨b, off + i * 6 + j, none⟩ = some u) := Lib.hid (fun W hW i x hi j u hj => (hW.cell (p := ⟨b, _, none⟩) hb').trans (hcell i x hi j u hj))
      have hcx := CC.out _ h6 k z hz
      have MP : Hid ((l.map (·.d))[k]? = some z.d) := Lib.hid (by rw [List.getElem?_map, hz]; rfl)
      have RC := Lib.hid (fun W (hW : Ext w W) => refStep_calls z W (ZA.out W hW) DK.out)
      have DC := Lib.hid (fun W (hW : Ext w W) (ro : Option Addr) (rcap : Nat) (hr : Rows 2 encRw W.heap.size W ro H.1) (h7 : rightS z.d = true) => refDone_calls H.1 ro rcap z W (by omega) hr K3.out K2.out (ZA.out W hW) DK.out (rightS_kinds h7).1 (by have := (rightS_kinds h7).2.1; omega))
      have CZ := Lib.hid (fun W (hW : Ext w W) => CC.out W hW k z hz)
      have FEW := Lib.hid (fun (h7 : rightS z.d = true) => (⟨(doneK_ok (rows := H.1) DK.out.acts K3.out).1, step_few (k := k) DK.out h7 K3.out K4.out⟩ : (∀ r ∈ (doneK H.1 z.d.acts).1, r.ok) ∧ (stepH H z.d).1.length ≤ 6 * (k + 1)))
      have OK2 := Lib.hid (DK.out.rn)
      obtain ⟨D, hD⟩ : ∃ D, D = z.d := ⟨_, rfl⟩
      rw [← hD] at MP RC FEW
      have HDD := Lib.hid hD
      have ROWS := Lib.hid (fun W (hW : Ext w W) => (ZA.out W hW).2)
      obtain ⟨⟨cl, nm, acts, reads, ca, an⟩, ao2, ac2, ro2, rc2⟩ := z
      unfold encStep at hcx RC CZ DC
      simp only at hcx RC CZ DC hD OK2 ROWS
      rw [← hD] at DC
      have d0 := hcx 0 _ rfl; have d1 := hcx 1 _ rfl; have d2 := hcx 2 _ rfl; have d3 := hcx 3 _ rfl; have d4 := hcx 4 _ rfl; have d5 := hcx 5 _ rfl
      simp only [Nat.add_zero] at d0
      have i0 : (0 : Int) ≤ (k : Int) := by omega
      have i1 : (k : Int) < (l.length : Int) := by omega
      clear hz hcell hcx hzm hD h1 h6
      go_wp2_with fail
      refine (RC.out _ K6.out).mono ?_
      rintro e w1 ⟨rfl, hx1⟩
      have X1 := Lib.hid (Ext.trans K6.out hx1)
      have O1 := Lib.hid (own_ext K1.out hx1)
      clear hx1 d0 d1 d2 d3 d4 d5
      cases hr : rightS D
      · have R := Lib.hid hr; clear hr
        go_wp2_with fail
        go_ret2
        have hst := fit_stop MP.out K5.out (by rw [nextE_2 R.out]; decide)
        rw [nextE_2 R.out] at hst
        exact ⟨by rw [hst]; rfl, X1.out⟩
      · have R := Lib.hid hr; clear hr
        go_wp2_with fail
        go_loopw [6] (fun i wr => ∃ q : Nat, q ≤ k ∧ i = .int .i64 q ∧ (∀ (j : Nat) (y : StepD), j < q → (l.map (·.d))[j]? = some y → sameN y D = false) ∧ Ext w1 wr) (fun i _ => k - (intOf i).toNat)
        case atStart => exact ⟨0, by omega, rfl, fun j y h => by omega, Below.refl _ _⟩
        case round =>
          obtain ⟨q, hq, rfl, hno, hx⟩ := hrel
          have N1 := Lib.hid hno; have XW := Lib.hid (Ext.trans X1.out hx); have XQ := Lib.hid hx; have OW := Lib.hid (own_ext O1.out hx)
          clear hno hx
          have hcz := CZ.out _ XW.out
          have d0 := hcz 0 _ rfl; have d1 := hcz 1 _ rfl; have d2 := hcz 2 _ rfl; have d3 := hcz 3 _ rfl; have d4 := hcz 4 _ rfl; have d5 := hcz 5 _ rfl
          simp only [Nat.add_zero] at d0
          clear hcz
          by_cases hqk : q < k
          · obtain ⟨y, hy⟩ : ∃ y, l[q]? = some y := ⟨_, List.getElem?_eq_getElem (by omega)⟩
            have hcy := CC.out _ XW.out q y hy
            have MY : Hid ((l.map (·.d))[q]? = some y.d) := Lib.hid (by rw [List.getElem?_map, hy]; rfl)
            have SN : Hid (sameN y.d D = (y.d.cl == cl && y.d.nm == nm)) := Lib.hid (by rw [HDD.out]; rfl)
            obtain ⟨⟨cl', nm', acts', reads', ca', an'⟩, ao3, ac3, ro3, rc3⟩ := y
            unfold encStep at hcy
            simp only at hcy MY SN
            have e0 := hcy 0 _ rfl; have e1 := hcy 1 _ rfl
            simp only [Nat.add_zero] at e0
            obtain ⟨S, hS⟩ : ∃ S, (cl' == cl && nm' == nm) = S := ⟨_, rfl⟩
            have heq := eql_name
            rw [hS] at SN
            have HSS := Lib.hid hS
            have j0 : (0 : Int) ≤ (q : Int) := by omega
            have j1 : (q : Int) < (l.length : Int) := by omega
            have f0 := ExtBy.cell d0; have f1 := ExtBy.cell d1; have g0 := ExtBy.cell e0; have g1 := ExtBy.cell e1
            clear hy hcy d0 d1 d2 d3 d4 d5 e0 e1
            cases S
            · go_wp2_with fail
              refine wp_region_ext (by kernel_rfl) (by kernel_rfl) ?_
              repeat (go_big_quiet_step (fail))
              refine wpQuiet_nil ?_
              intro wc hw'
              have XC : Hid (Ext w1 wc) := Lib.hid (by obtain ⟨p, rfl⟩ := hw'; exact Ext.trans XQ.out p.ext)
              clear hw' f0 f1 g0 g1 heq hS
              go_wp2_with fail
              go_roundw
              case rel =>
                refine ⟨q + 1, by omega, by go_num, fun j y hj hy => ?_, XC.out⟩
                rcases Nat.lt_or_ge j q with h | h
                · exact N1.out j y h hy
                · obtain rfl : j = q := by omega
                  rw [MY.out] at hy
                  rw [← Option.some.inj hy]; exact SN.out
              case measure => simp [intOf]; omega
            · go_wp2_with fail
              refine wp_region_ext (by kernel_rfl) (by kernel_rfl) ?_
              repeat (go_big_quiet_step (fail))
              refine wpQuiet_nil ?_
              intro wc hw'
              have XC : Hid (Ext w wc) := Lib.hid (by obtain ⟨p, rfl⟩ := hw'; exact Ext.trans XW.out p.ext)
              clear hw' f0 f1 g0 g1 heq hS
              go_wp2_with fail
              go_ret2
              have hcn := HSS.out
              simp only [Bool.and_eq_true, beq_iff_eq] at hcn
              have hin := name_in (x := D) hqk MY.out (by rw [HDD.out]; exact hcn.1) (by rw [HDD.out]; exact hcn.2)
              have h7 := nextE_7 R.out hin
              have hst := fit_stop MP.out K5.out (by rw [h7]; decide)
              rw [h7] at hst
              exact ⟨by rw [hst]; rfl, XC.out⟩
          · obtain rfl : k = q := by omega
            have DD := Lib.hid (DC.out _ XW.out vo vc (rows_of_own (fun _ => rfl) OW.out) R.out)
            go_wp2_with fail
            refine DD.out.mono ?_
            rintro e w3 ⟨v3, rv, rfl, hv3, hrv, hx3⟩
            obtain ⟨tob, tc, rfl, -, -, htr⟩ := Rows.own (enc := encRd) (sz := 3) (fun _ => rfl) hrv
            have X3 := Lib.hid (Ext.trans XW.out hx3)
            have hcz := CZ.out _ X3.out
            have f3 := hcz 3 _ rfl
            have hda : D.acts = acts := by rw [HDD.out]
            have hdr : D.reads = reads := by rw [HDD.out]
            have DA := Lib.hid hda; have DR := Lib.hid hdr
            obtain ⟨T, hT⟩ : ∃ T, T = (doneD H.1 acts).2 := ⟨_, rfl⟩
            rw [← hT] at htr ⊢
            have HT := Lib.hid hT
            have hTl : T.length ≤ 1000000 := by
              rw [hT]
              have : (doneD H.1 acts).2.length ≤ acts.length := tell_len _ _
              have h8 := (rightS_kinds R.out).2.1
              rw [hda] at h8
              omega
            have V3 := Lib.hid (own_base hv3 (B' := w.heap.size) (fun j e => Nat.le_trans XW.out.size (own_ge hv3 j e)))
            have SR := Lib.hid (sameReads_calls T reads tob ro2 tc rc2 w3 hTl htr (ROWS.out _ X3.out))
            clear hv3 hrv hx3 htr hcz hda hdr hT hTl d0 d1 d2 d3 d4 d5
            go_wp2_with fail
            refine SR.out.mono ?_
            rintro e w4 ⟨rfl, hx4⟩
            have X4 := Lib.hid (Ext.trans X3.out hx4); have V4 := Lib.hid (own_ext V3.out hx4)
            clear hx4 f3
            have hout := name_out N1.out
            have HO := Lib.hid hout; clear hout
            by_cases htr : T = reads
            · have hdt : decide (T = reads) = true := decide_eq_true htr
              have h0 := nextE_0 R.out HO.out (by rw [← KH.out, DA.out, DR.out, ← HT.out]; exact htr)
              have N0 := Lib.hid h0
              clear htr h0
              go_wp2_with fail
              go_roundw
              case rel =>
                have hsu := histAt_succ MP.out
                have hst : (stepH H D).1 = (doneD H.1 acts).1 := by unfold stepH; rw [DA.out]
                refine ⟨k + 1, by omega, by go_num, ?_⟩
                refine ⟨?_, ?_, ?_, ?_, fun j y hj hy => ?_, X4.out⟩
                · rw [hsu, ← KH.out, hst]; exact V4.out
                · rw [hsu, ← KH.out, hst]; exact doneK_rise K2.out
                · rw [hsu, ← KH.out, hst]
                  have := (FEW.out R.out).1
                  rwa [HDD.out] at this
                · rw [hsu, ← KH.out]; exact (FEW.out R.out).2
                · rcases Nat.lt_or_ge j k with h | h
                  · exact K5.out j y h hy
                  · obtain rfl : j = k := by omega
                    rw [MP.out] at hy
                    rw [← Option.some.inj hy]; exact N0.out
              case measure => simp [intOf]; omega
            · have hdt : decide (T = reads) = false := decide_eq_false htr
              have h4 := nextE_4 R.out HO.out (by rw [← KH.out, DA.out, DR.out, ← HT.out]; exact htr)
              have N4 := Lib.hid h4
              clear htr h4
              go_wp2_with fail
              go_ret2
              have hst := fit_stop MP.out K5.out (by rw [N4.out]; decide)
              rw [N4.out] at hst
              exact ⟨by rw [hst]; rfl, X4.out⟩
    · obtain rfl : k = l.length := by omega
      clear h1 h6
      go_wp2_with fail
      go_ret2
      have hst : fitD (l.map (·.d)) = (l.length, 0) := by
        have := fit_end (l := l.map (·.d)) (fun j y hy => K5.out j y (by have := (List.getElem?_eq_some_iff.1 hy).1; simpa using this) hy)
        simpa using this
      exact ⟨by rw [hst]; rfl, K6.out⟩

theorem doS_after (m : List StepD) (x : StepD) : (doS (afterD m) x).1 = afterR (afterD m) x := by
  unfold doS afterR
  have hs := (soundB_iff _).2 (after_sound _ m rfl)
  by_cases h : rightS x = true
  · rw [if_pos ⟨h, hs⟩, if_pos h]
  · rw [if_neg (fun e => h e.1), if_neg h]
/-- Amid After. -/
structure RAftMid (w : World) (ds : List StepD) (k : Nat) (v : Value) (wr : World) : Prop where
  own : wr.ownsRow w.heap.size 73 2 v (afterD (ds.take k)).length ((afterD (ds.take k)).flatMap encRw)
  ok : ∀ r ∈ afterD (ds.take k), r.ok
  few : (afterD (ds.take k)).length ≤ 6 * k
  ext : Ext w wr
theorem afterR_few {rows : List RowD} {x : StepD} {n : Nat} (hx : x.ok) (h : ∀ r ∈ rows, r.ok) (hn : rows.length ≤ 6 * n) : (∀ r ∈ afterR rows x, r.ok) ∧ (afterR rows x).length ≤ 6 * (n + 1) := by
  unfold afterR
  split
  · rename_i hr
    have h1 := doneK_ok (rows := rows) hx.acts h
    have h2 := (rightS_kinds hr).2.1
    exact ⟨h1.1, by have := h1.2; show (doneK rows x.acts).1.length ≤ _; omega⟩
  · exact ⟨h, by omega⟩

set_option maxRecDepth 100000 in
set_option maxHeartbeats 1600000 in
theorem refAfter_calls (l : List StepZ) (ao : Option Addr) (cap : Nat) (w : World) (hl : l.length ≤ 1000) (hs : StepsAt w ao l) (hd : ∀ z ∈ l, z.d.ok) :
    Calls Tryz.prog 34 #[.slice ao l.length cap] w (AftPost w (afterD (l.map (·.d)))) := by
  have HS := Lib.hid hs; have HD := Lib.hid hd
  clear hs hd
  go_enter Tryz.func34, Tryz.ntmps34
  go_wp2_with fail
  go_loopw [3, 4] (fun v i wr => ∃ k : Nat, k ≤ l.length ∧ i = .int .i64 k ∧ RAftMid w (l.map (·.d)) k v wr) (fun _ i _ => l.length - (intOf i).toNat)
  case atStart => exact ⟨0, by omega, rfl, ⟨World.ownsRow_nil _ _ _ _, (fun r hr => by cases hr), by simp [afterD], Below.refl _ _⟩⟩
  case round =>
    obtain ⟨k, hk, rfl, hmid⟩ := hrel
    obtain ⟨h1, h3, h4, h6⟩ := hmid
    by_cases hlt : k < l.length
    · obtain ⟨z, hz⟩ : ∃ z, l[k]? = some z := ⟨_, List.getElem?_eq_getElem hlt⟩
      have hzm := List.mem_of_getElem? hz
      have hmap : (l.map (·.d))[k]? = some z.d := by rw [List.getElem?_map, hz]; rfl
      have hsu := afterD_succ hmap
      obtain ⟨b, off, rfl, hb', hcell⟩ := HS.out.1 (by intro e; rw [e] at hlt; simp at hlt)
      have hcx : ∀ (j : Nat) (u : Value), (encStep z)[j]? = some u → wr.cell? ⟨b, off + k * 6 + j, none⟩ = some u := fun j u hj => (h6.cell (p := ⟨b, _, none⟩) hb').trans (hcell k z hz j u hj)
      have hds := doS_after ((l.map (·.d)).take k) z.d
      obtain ⟨A, hA⟩ : ∃ A, A = afterD ((l.map (·.d)).take k) := ⟨_, rfl⟩
      rw [← hA] at h1 h3 h4 hsu hds
      obtain ⟨vo, vc, rfl, -, -, hrr⟩ := Rows.own (enc := encRw) (sz := 2) (fun _ => rfl) h1
      have DC := Lib.hid (refDoP_calls A vo vc z wr (by omega) hrr h3 (((HS.out.2 z hzm).ext h6).mono h6.size) (HD.out z hzm))
      have FW := Lib.hid (afterR_few (HD.out z hzm) h3 h4)
      have SU := Lib.hid hsu; have DS := Lib.hid hds; have K6 := Lib.hid h6
      obtain ⟨D, hD⟩ : ∃ D, D = z.d := ⟨_, rfl⟩
      rw [← hD] at DC FW SU DS
      clear hz hzm hmap hsu hcell hds hA h1 h3 h4 h6 hrr hD
      obtain ⟨⟨cl, nm, acts, reads, ca, an⟩, ao2, ac2, ro2, rc2⟩ := z
      unfold encStep at hcx DC
      simp only at hcx DC
      have d0 := hcx 0 _ rfl; have d1 := hcx 1 _ rfl; have d2 := hcx 2 _ rfl; have d3 := hcx 3 _ rfl; have d4 := hcx 4 _ rfl; have d5 := hcx 5 _ rfl
      simp only [Nat.add_zero] at d0
      have i0 : (0 : Int) ≤ (k : Int) := by omega
      have i1 : (k : Int) < (l.length : Int) := by omega
      clear hcx
      go_wp2_with fail
      refine DC.out.mono ?_
      rintro e w3 ⟨v3, rv, rfl, hv3, -, hx3⟩
      have V3 := Lib.hid (own_base hv3 (B' := w.heap.size) (fun j e => Nat.le_trans K6.out.size (own_ge hv3 j e)))
      have X3 := Lib.hid (Ext.trans K6.out hx3)
      clear hv3 hx3 d0 d1 d2 d3 d4 d5
      go_wp2_with fail
      go_roundw
      case rel =>
        have h1 := V3.out
        rw [DS.out, ← SU.out] at h1
        have h2 := FW.out
        rw [← SU.out] at h2
        exact ⟨k + 1, by omega, by go_num, h1, h2.1, h2.2, X3.out⟩
      case measure => simp [intOf]; omega
    · have hall : (l.map (·.d)).take k = l.map (·.d) := List.take_of_length_le (by simp; omega)
      rw [hall] at h1
      have V1 := Lib.hid h1; have K6 := Lib.hid h6
      clear h1 h3 h4 h6 hall
      go_wp2_with fail
      go_ret
      exact ⟨_, rfl, V1.out, K6.out⟩

set_option maxRecDepth 100000 in
set_option maxHeartbeats 1600000 in
theorem refInTime_calls (l : List StepZ) (ao : Option Addr) (cap : Nat) (w : World) (hl : l.length ≤ 1000) (hs : StepsAt w ao l) :
    Calls Tryz.prog 31 #[.slice ao l.length cap] w (TimePost w (timeD (l.map (·.d)))) := by
  have HS := Lib.hid hs
  clear hs
  go_enter Tryz.func31, Tryz.ntmps31
  go_wp2_with fail
  go_loopw [4] (fun i wr => ∃ k : Nat, k ≤ l.length ∧ i = .int .i64 k ∧ NoLate (l.map (·.d)) k ∧ Ext w wr) (fun i _ => l.length - (intOf i).toNat)
  case atStart => exact ⟨0, by omega, rfl, fun j u h => by omega, Below.refl _ _⟩
  case round =>
    obtain ⟨k, hk, rfl, hno, hx⟩ := hrel
    have K1 := Lib.hid hno; have K2 := Lib.hid hx
    clear hno hx
    by_cases hlt : k < l.length
    · obtain ⟨z, hz⟩ : ∃ z, l[k]? = some z := ⟨_, List.getElem?_eq_getElem hlt⟩
      obtain ⟨b, off, rfl, hb', hcell⟩ := HS.out.1 (by intro e; rw [e] at hlt; simp at hlt)
      have CC : Hid (∀ W, Ext w W → ∀ (i : Nat) (x : StepZ), l[i]? = some x → ∀ (j : Nat) (u : Value), (encStep x)[j]? = some u → W.cell? ⟨b, off + i * 6 + j, none⟩ = some u) := Lib.hid (fun W hW i x hi j u hj => (hW.cell (p := ⟨b, _, none⟩) hb').trans (hcell i x hi j u hj))
      have CZ := Lib.hid (fun W (hW : Ext w W) => CC.out W hW k z hz)
      have MP : Hid ((l.map (·.d))[k]? = some z.d) := Lib.hid (by rw [List.getElem?_map, hz]; rfl)
      have LC := Lib.hid (fun (y : StepZ) W => refLate_calls y z W)
      obtain ⟨dz, hdz⟩ : ∃ dz, dz = z.d := ⟨_, rfl⟩
      rw [← hdz] at MP LC
      obtain ⟨⟨cl, nm, acts, reads, ca, an⟩, ao2, ac2, ro2, rc2⟩ := z
      unfold encStep at CZ LC
      simp only at CZ LC
      have i0 : (0 : Int) ≤ (k : Int) := by omega
      have i1 : (k : Int) < (l.length : Int) := by omega
      clear hz hcell hdz
      obtain ⟨wL, hwL⟩ : ∃ wL, wL = wr := ⟨_, rfl⟩
      rw [← hwL] at K2 ⊢
      clear hwL
      go_wp2_with fail
      go_loopw [5] (fun i wr => ∃ q : Nat, k + 1 ≤ q ∧ q ≤ l.length ∧ i = .int .i64 q ∧ NoLate1 (l.map (·.d)) k (q - (k + 1)) ∧ Ext wL wr) (fun i _ => l.length - (intOf i).toNat)
      case atStart => exact ⟨k + 1, by omega, by omega, by simp, fun x _ m z hm => by omega, Below.refl _ _⟩
      case round =>
        obtain ⟨q, hkq, hq, rfl, hn1, hxs⟩ := hrel
        have N1 := Lib.hid hn1; have XS := Lib.hid (Ext.trans K2.out hxs); have XL := Lib.hid hxs
        clear hn1 hxs
        by_cases hqt : q < l.length
        · obtain ⟨y, hy⟩ : ∃ y, l[q]? = some y := ⟨_, List.getElem?_eq_getElem hqt⟩
          have hcy := CC.out _ XS.out q y hy
          have hcz := CZ.out _ XS.out
          have MY : Hid ((l.map (·.d))[q]? = some y.d) := Lib.hid (by rw [List.getElem?_map, hy]; rfl)
          have LY := Lib.hid (LC.out y)
          obtain ⟨⟨cl', nm', acts', reads', ca', an'⟩, ao3, ac3, ro3, rc3⟩ := y
          unfold encStep at hcy
          simp only at hcy LY MY
          obtain ⟨dy, hdy⟩ : ∃ dy : StepD, dy = ⟨cl', nm', acts', reads', ca', an'⟩ := ⟨_, rfl⟩
          rw [← hdy] at LY MY
          have d0 := hcy 0 _ rfl; have d1 := hcy 1 _ rfl; have d2 := hcy 2 _ rfl; have d3 := hcy 3 _ rfl; have d4 := hcy 4 _ rfl; have d5 := hcy 5 _ rfl
          have c0 := hcz 0 _ rfl; have c1 := hcz 1 _ rfl; have c2 := hcz 2 _ rfl; have c3 := hcz 3 _ rfl; have c4 := hcz 4 _ rfl; have c5 := hcz 5 _ rfl
          simp only [Nat.add_zero] at d0 c0
          have j0 : (0 : Int) ≤ (q : Int) := by omega
          have j1 : (q : Int) < (l.length : Int) := by omega
          have f0 := ExtBy.cell c0; have f1 := ExtBy.cell c1; have f2 := ExtBy.cell c2; have f3 := ExtBy.cell c3; have f4 := ExtBy.cell c4; have f5 := ExtBy.cell c5
          have g0 := ExtBy.cell d0; have g1 := ExtBy.cell d1; have g2 := ExtBy.cell d2; have g3 := ExtBy.cell d3; have g4 := ExtBy.cell d4; have g5 := ExtBy.cell d5
          have LZ := Lib.hid (fun (p : ExtBy wr) => LY.out p.W)
          clear hy hcy hcz hdy c0 c1 c2 c3 c4 c5 d0 d1 d2 d3 d4 d5
          go_wp2_with fail
          refine wp_region_ext (by kernel_rfl) (by kernel_rfl) ?_
          repeat (go_big_quiet_step ((with_reducible exact Calls.ext_of _ (LZ.out _))))
          refine wpQuiet_nil ?_
          intro w5 hw'
          have X5 : Hid (Ext w w5) := Lib.hid (by obtain ⟨p, rfl⟩ := hw'; exact Ext.trans XS.out p.ext)
          have X6 : Hid (Ext wL w5) := Lib.hid (by obtain ⟨p, rfl⟩ := hw'; exact Ext.trans XL.out p.ext)
          clear hw' f0 f1 f2 f3 f4 f5 g0 g1 g2 g3 g4 g5
          cases hlt2 : lateD dy dz
          · have L := Lib.hid hlt2; clear hlt2
            go_wp2_with fail
            go_roundw
            case rel =>
              refine ⟨q + 1, by omega, by omega, by go_num, fun x hx m z hm hz => ?_, X6.out⟩
              rcases Nat.lt_or_ge m (q - (k + 1)) with h | h
              · exact N1.out x hx m z h hz
              · obtain rfl : m = q - (k + 1) := by omega
                rw [MP.out] at hx
                rw [show k + 1 + (q - (k + 1)) = q from by omega, MY.out] at hz
                rw [← Option.some.inj hx, ← Option.some.inj hz]; exact L.out
            case measure => simp [intOf]; omega
          · have L := Lib.hid hlt2; clear hlt2
            go_wp2_with fail
            go_ret2
            have hst := time_stop (k := q - (k + 1)) MP.out (by rw [show k + 1 + (q - (k + 1)) = q from by omega]; exact MY.out) L.out (fun m z hm hz => N1.out _ MP.out m z hm hz) K1.out
            refine ⟨?_, X5.out⟩
            have e : ((q : Nat) : Int) = (k : Int) + 1 + ((q - (k + 1) : Nat) : Int) := by omega
            rw [hst, e]; rfl
        · obtain rfl : q = l.length := by omega
          go_wp2_with fail
          go_roundw
          case rel =>
            refine ⟨k + 1, by omega, by go_num, fun j u hj hu m z hm hz => ?_, XS.out⟩
            rcases Nat.lt_or_ge j k with h | h
            · exact K1.out j u h hu m z hm hz
            · obtain rfl : j = k := by omega
              have hml : m < l.length := by have := (List.getElem?_eq_some_iff.1 hz).1; simpa using this
              exact N1.out u hu (m - (j + 1)) z (by omega) (by rw [show j + 1 + (m - (j + 1)) = m from by omega]; exact hz)
          case measure => simp [intOf]; omega
    · obtain rfl : k = l.length := by omega
      go_wp2_with fail
      go_ret2
      have hst : timeD (l.map (·.d)) = (-1, -1) := time_endG _ 0 (fun j u hu m z hm hz => K1.out j u (by have := (List.getElem?_eq_some_iff.1 hu).1; simpa using this) hu m z hm hz)
      exact ⟨by rw [hst]; rfl, K2.out⟩
end Go.Proofs.YtngahblgicjoiaaGreatDoor
/- The document's orders, Order. -/
namespace Go.Proofs.YtngahblgicjoiaaGreatDoor
open Go.RowKit

theorem elemStepsR : Tryz.prog.underlying 27 = some (.slice (Tryz.prog.elem 27)) := by kernel_rfl
theorem sizeStepsR : ∀ W, (sizeOf (Tryz.prog.elem 27)).run Tryz.prog W = .ok 6 W := fun W => by kernel_rfl
theorem slice_upto {t : TypeId} {sz : Nat} (ht : Tryz.prog.underlying t = some (.slice (Tryz.prog.elem t))) (hz : ∀ W, (sizeOf (Tryz.prog.elem t)).run Tryz.prog W = .ok sz W) (ao : Option Addr) (len cap n : Nat) (h : n ≤ cap) : ∃ ao', (∀ b off, ao = some ⟨b, off, none⟩ → ao' = ao) ∧ ∀ W, (Instr.slice t (.slice ao len cap) none (some (.int .i64 n)) none).run Tryz.prog W = .ok (.slice ao' n cap) W := by
  refine ⟨if cap = 0 then ao else ao.map (·.add (0 * sz)), fun b off e => ?_, fun W => ?_⟩
  · rw [e]; by_cases hc : cap = 0 <;> simp [hc, WideShapes.add_plain]
  · rw [run_slice_h W _ _ _ _ ht .i64 n (by omega) (by omega), hz W]
    simp only [Result.andThen_ok, sliced, Int.toNat_natCast, Nat.sub_zero]
/-- Rows behind rows of one's own; one row behind them. -/
theorem wpList_add_steps {ops : Array Oper} {rest : List Oper} {o : Oper} {a : Act} {Q : Exit → Act → World → Prop} (hgd : o.guard = none) (s x : Operand)
    (ho : o.op = .call { callee := .builtin .append, args := #[s, x], argTypes := #[27, 27] })
    {base W : World} {acc l : List StepZ} {v : Value} {xo : Option Addr} {c : Nat} (hs : a.eval s = v) (hx : a.eval x = .slice xo l.length c)
    (hown : W.ownsRow 0 44 6 v acc.length (acc.flatMap encStep)) (hnew : ∀ j, v.ownBlock = some j → base.heap.size ≤ j) (hext : Ext base W) (hr : Rows 6 encStep W.heap.size W xo l) (hlen : acc.length + l.length ≤ 1000) (m : List StepZ) (hm : acc ++ l = m)
    (K : ∀ so c' w', w'.ownsRow 0 44 6 (.slice so m.length c') m.length (m.flatMap encStep) → (∀ j, (Value.slice so m.length c').ownBlock = some j → base.heap.size ≤ j) → m.length ≤ c' → Ext base w' →
      wpList Tryz.prog ops Q rest (a.put o.dst (.slice so m.length c')) w') :
    wpList Tryz.prog ops Q (o :: rest) a W := by
  obtain ⟨i0, hi, hz0, hz1, hz2⟩ := info_parts infoStepR
  refine wpList_append_rows (enc := encStep) (size := 6) (fun _ => rfl) one_step hgd s x 27 ho 44 i0 _ 80 Tryz.underlying27 hi hz0 hz1 hz2 rfl (by decide) v acc.length (acc.flatMap encStep) hs hown xo l c hx hr (by unfold maxLen; omega) (by omega) ?_
  intro v' w' h1 h2 h3
  have h4 : w'.ownsRow 0 44 6 v' m.length (m.flatMap encStep) := by
    rw [← hm, List.length_append, List.flatMap_append]; exact h1
  obtain ⟨so, c', rfl, hc, -, -⟩ := Rows.own (enc := encStep) (sz := 6) (fun _ => rfl) h4
  refine K so c' w' h4 (fun j e => ?_) hc ?_
  · rcases h3 j e with e | e
    · exact hnew j e
    · exact Nat.le_trans hext.size e
  · exact Below.trans hext (h2.below hext.size (fun i e => hnew i e))
theorem wpList_add_step {ops : Array Oper} {rest : List Oper} {o : Oper} {a : Act} {Q : Exit → Act → World → Prop} (hgd : o.guard = none) (s x : Operand)
    (ho : o.op = .call { callee := .builtin .append, args := #[s, x], argTypes := #[27, 27] })
    {base W : World} {acc : List StepZ} (z : StepZ) {v : Value} (hs : a.eval s = v) (hx : a.eval x = .slice (some ⟨W.heap.size, 0, none⟩) 1 1)
    (hown : W.ownsRow 0 44 6 v acc.length (acc.flatMap encStep)) (hnew : ∀ j, v.ownBlock = some j → base.heap.size ≤ j) (hext : Ext base W) (hlen : acc.length ≤ 1000000) (m : List StepZ) (hm : acc ++ [z] = m)
    (K : ∀ so c' w', w'.ownsRow 0 44 6 (.slice so m.length c') m.length (m.flatMap encStep) → (∀ j, (Value.slice so m.length c').ownBlock = some j → base.heap.size ≤ j) → m.length ≤ c' → Ext base w' →
      wpList Tryz.prog ops Q rest (a.put o.dst (.slice so m.length c')) w') :
    wpList Tryz.prog ops Q (o :: rest) a (W.alloc (.cells (encStep z).toArray 44)) := by
  obtain ⟨i0, hi, hz0, hz1, hz2⟩ := info_parts infoStepR
  have E2 : Ext W (W.alloc (.cells (encStep z).toArray 44)) := (Below.refl _ W).alloc (Nat.le_refl _) _
  refine wpList_append_at _ hgd s x 27 ho 44 i0 _ 6 80 Tryz.underlying27 hi hz0 hz1 hz2 rfl (by decide) v acc.length (acc.flatMap encStep) hs (own_ext hown E2) ⟨W.heap.size, 0, none⟩ 1 1 (encStep z) hx rfl (cells_new W (encStep z) 44) (one_step _) (by decide) (by unfold maxLen; omega) (by omega) ?_
  intro g cap w' h1 h2 h3
  have hl : acc.length + 1 = m.length := by rw [← hm]; simp
  have h4 : w'.ownsRow 0 44 6 (.slice (some ⟨g, 0, none⟩) m.length cap) m.length (m.flatMap encStep) := by
    rw [← hl, ← hm, List.flatMap_append]; simpa using h1
  rw [hl]
  obtain ⟨so, c', e, hc, -, -⟩ := Rows.own (enc := encStep) (sz := 6) (fun _ => rfl) h4
  simp only [Value.slice.injEq, true_and] at e
  obtain ⟨rfl, rfl⟩ := e
  refine K _ _ w' h4 (fun j e => ?_) hc ?_
  · rcases h3 j e with e | e
    · exact hnew j e
    · exact Nat.le_trans (Nat.le_trans hext.size E2.size) e
  · exact Below.trans hext (((Ext.but E2 (fun _ => False)).trans h2 (U := fun j => base.heap.size ≤ j) (fun _ _ e => e.elim) (fun i _ e => hnew i e)).below hext.size (fun _ h => h))
theorem own_steps {w : World} {B : Nat} {so : Option Addr} {c : Nat} {m : List StepZ} (h : w.ownsRow B 44 6 (.slice so m.length c) m.length (m.flatMap encStep)) (hz : ∀ z ∈ m, z.at w.heap.size w) : StepsAt w so m := ⟨rows_of_own (fun _ => rfl) h, hz⟩
/-- Steps upon where of a slice. -/
theorem rows_toS {w : World} {ao ao' : Option Addr} {l : List StepZ} (h : Rows 6 encStep w.heap.size w ao l) (ha : ∀ b off, ao = some ⟨b, off, none⟩ → ao' = ao) (k : Nat) : Rows 6 encStep w.heap.size w ao' (l.take k) := by
  intro hne
  have hl : l ≠ [] := fun e => hne (by rw [e]; simp)
  obtain ⟨b, off, e, hb, hc⟩ := h hl
  refine ⟨b, off, by rw [ha b off e, e], hb, fun i x hi => ?_⟩
  have hik : i < k := by
    rcases Nat.lt_or_ge i k with h1 | h1
    · exact h1
    · rw [List.getElem?_take_eq_none h1] at hi; cases hi
  rw [List.getElem?_take_of_lt hik] at hi
  exact hc i x hi
theorem rows_fromS {w : World} {ao ao' : Option Addr} {l : List StepZ} {k : Nat} (h : Rows 6 encStep w.heap.size w ao l) (ha : k < l.length → ∀ b off, ao = some ⟨b, off, none⟩ → ao' = some ⟨b, off + k * 6, none⟩) : Rows 6 encStep w.heap.size w ao' (l.drop k) := by
  intro hne
  have hk : k < l.length := by
    rcases Nat.lt_or_ge k l.length with h1 | h1
    · exact h1
    · exact absurd (List.drop_eq_nil_of_le h1) hne
  obtain ⟨b, off, e, hb, hc⟩ := h (by intro e; rw [e] at hk; simp at hk)
  refine ⟨b, off + k * 6, ha hk b off e, hb, fun i x hi => ?_⟩
  rw [List.getElem?_drop] at hi
  intro j u hj
  have := hc (k + i) x hi j u hj
  rw [show off + k * 6 + i * 6 + j = off + (k + i) * 6 + j from by omega]
  exact this
theorem step_add_steps {ops : Array Oper} {o : Oper} {a : Act} {K : Act → World → Prop} {Q : Exit → Act → World → Prop} {E : Prop} (hgd : o.guard = none) (s x : Operand)
    (ho : o.op = .call { callee := .builtin .append, args := #[s, x], argTypes := #[27, 27] })
    {base W : World} {acc l : List StepZ} {v : Value} {xo : Option Addr} {c : Nat} (hs : a.eval s = v) (hx : a.eval x = .slice xo l.length c)
    (hown : W.ownsRow 0 44 6 v acc.length (acc.flatMap encStep)) (hnew : ∀ j, v.ownBlock = some j → base.heap.size ≤ j) (hext : Ext base W) (hr : Rows 6 encStep W.heap.size W xo l) (hlen : acc.length + l.length ≤ 1000) (m : List StepZ) (hm : acc ++ l = m)
    (h : ∀ so c' w', w'.ownsRow 0 44 6 (.slice so m.length c') m.length (m.flatMap encStep) → (∀ j, (Value.slice so m.length c').ownBlock = some j → base.heap.size ≤ j) → m.length ≤ c' → Ext base w' → But (fun k => v.ownBlock = some k) W w' → K (a.put o.dst (.slice so m.length c')) w') :
    if Region.wanted o (yielded ops a.tmps) = true then Oper.wp Tryz.prog o a W K Q else E := by
  obtain ⟨i0, hi, hz0, hz1, hz2⟩ := info_parts infoStepR
  refine step_append_rows (enc := encStep) (size := 6) (fun _ => rfl) one_step hgd s x 27 ho 44 i0 _ 80 Tryz.underlying27 hi hz0 hz1 hz2 rfl (by decide) v acc.length (acc.flatMap encStep) hs hown xo l c hx hr (by unfold maxLen; omega) (by omega) ?_
  intro v' w' h1 h2 h3
  have h4 : w'.ownsRow 0 44 6 v' m.length (m.flatMap encStep) := by
    rw [← hm, List.length_append, List.flatMap_append]; exact h1
  obtain ⟨so, c', rfl, hc, -, -⟩ := Rows.own (enc := encStep) (sz := 6) (fun _ => rfl) h4
  refine h so c' w' h4 (fun j e => ?_) hc ?_ h2
  · rcases h3 j e with e | e
    · exact hnew j e
    · exact Nat.le_trans hext.size e
  · exact Below.trans hext (h2.below hext.size (fun i e => hnew i e))
theorem rows_one {w : World} {p : Nat} {z : StepZ} {t : TypeId} (h : Blk w p (encStep z) t) : Rows 6 encStep w.heap.size w (some ⟨p, 0, none⟩) [z] := rows_blk (enc := encStep) (sz := 6) (fun _ => rfl) (l := [z]) (by simpa using h) (by simp)
theorem zero_steps (w : World) : (w.alloc (.cells #[] 44)).ownsRow 0 44 6 (.slice (some ⟨w.heap.size, 0, none⟩) 0 0) ([] : List StepZ).length (([] : List StepZ).flatMap encStep) := World.ownsRow_made w #[] 0 (Nat.zero_le _) (Nat.zero_le _) rfl
/-- What the document's search leaves. -/
def OrdsPost (w : World) (r : Option (List StepZ)) (e : Ending) (w' : World) : Prop :=
  ∃ (so : Option Addr) (c : Nat), e = .returned (.tuple #[.slice so (r.getD []).length c, .bool r.isSome]) ∧ StepsAt w' so (r.getD []) ∧ Ext w w'
theorem ords_none {w w' : World} (hx : Ext w w') : OrdsPost w none (.returned (.tuple #[.slice none 0 0, .bool false])) w' :=
  ⟨none, 0, rfl, ⟨fun h => absurd rfl h, fun z hz => by cases hz⟩, hx⟩
/-- The document's search, if it does so with one step less to place. -/
def OrdsDo (n : Nat) : Prop := ∀ (b r : List StepZ) (ao bo : Option Addr) (cap cap' : Nat) (w : World), r.length = n → b.length + n ≤ 8 → b.length ≤ cap → r.length ≤ cap' → StepsAt w ao b → StepsAt w bo r → (∀ z ∈ b, z.d.ok) → (∀ z ∈ r, z.d.ok) →
    Calls Tryz.prog 50 #[.slice ao b.length cap, .slice bo r.length cap'] w (OrdsPost w (ordZ n b r))
/-- The next row: those that stand, and one more. -/
structure NextRow (wr : World) (m : List StepZ) (s : Value) (W : World) : Prop where
  out : ∃ so c, s = .slice so m.length c ∧ m.length ≤ c ∧ Rows 6 encStep W.heap.size W so m ∧ Ext wr W

set_option maxRecDepth 100000 in
set_option maxHeartbeats 6400000 in
theorem orders_step (n : Nat) (IH : ∀ m, n = m + 1 → OrdsDo m) : OrdsDo n := by
  intro b r ao bo cap cap' w hrn hbn hbc hrc hb hr hbk hrk
  have HB := Lib.hid hb; have HR := Lib.hid hr; have HBK := Lib.hid hbk; have HRK := Lib.hid hrk; have HRN := Lib.hid hrn; have HBN := Lib.hid hbn; have HI := Lib.hid IH
  have hb8 : b.length ≤ 8 := by omega
  have hr8 : r.length ≤ 8 := by omega
  clear hb hr hbk hrk hrn hbn IH
  have hfit : fitsB b ↔ (fitD (b.map (·.d))).1 = b.length ∧ (fitD (b.map (·.d))).2 = 0 ∧ (timeD (b.map (·.d))).1 < 0 := by
    unfold fitsB
    rw [Prod.ext_iff]
    exact and_assoc
  have hk : (fitD (b.map (·.d))).1 ≠ b.length ∨ ((fitD (b.map (·.d))).1 = b.length ∧ (fitD (b.map (·.d))).2 ≠ 0) ∨ ((fitD (b.map (·.d))).1 = b.length ∧ (fitD (b.map (·.d))).2 = 0 ∧ ¬ (timeD (b.map (·.d))).1 < 0) ∨ ((fitD (b.map (·.d))).1 = b.length ∧ (fitD (b.map (·.d))).2 = 0 ∧ (timeD (b.map (·.d))).1 < 0) := by
    by_cases h1 : (fitD (b.map (·.d))).1 = b.length
    · by_cases h2 : (fitD (b.map (·.d))).2 = 0
      · by_cases h3 : (timeD (b.map (·.d))).1 < 0
        · exact .inr (.inr (.inr ⟨h1, h2, h3⟩))
        · exact .inr (.inr (.inl ⟨h1, h2, h3⟩))
      · exact .inr (.inl ⟨h1, h2⟩)
    · exact .inl h1
  have RF := Lib.hid (refFit_calls b ao cap w (by omega) HB.out HBK.out)
  have RT := Lib.hid (fun W (hW : Ext w W) => refInTime_calls b ao cap W (by omega) (HB.out.ext hW))
  obtain ⟨⟨N, E⟩, hF⟩ : ∃ F, F = fitD (b.map (·.d)) := ⟨_, rfl⟩
  obtain ⟨⟨T1, T2⟩, hT⟩ : ∃ T, T = timeD (b.map (·.d)) := ⟨_, rfl⟩
  rw [← hF] at RF hfit hk
  rw [← hT] at RT hfit hk
  simp only at hfit hk
  have FI := Lib.hid hfit
  clear hF hT hfit
  go_enter Tryz.func50, Tryz.ntmps50
  go_wp2_with fail
  refine RF.out.mono ?_
  rintro e w1 ⟨rfl, hx1⟩
  have X1 := Lib.hid hx1
  clear hx1 RF
  go_wp2_with fail
  refine (RT.out _ X1.out).mono ?_
  rintro e w2 ⟨rfl, hx2⟩
  have X2 := Lib.hid (Ext.trans X1.out hx2)
  clear hx2 RT
  simp only
  rcases hk with h1 | ⟨h1, h2⟩ | ⟨h1, h2, h3⟩ | ⟨h1, h2, h3⟩
  · have g1 : (((N : Nat) : Int) != ((b.length : Nat) : Int)) = true := by simp; omega
    have hbad : ordZ n b r = none := ordZ_bad (fun h => h1 (FI.out.1 h).1)
    have BAD := Lib.hid hbad
    clear h1 hbad
    go_wp2_with fail
    go_ret2
    rw [BAD.out]; exact ords_none X2.out
  · have g1 : (((N : Nat) : Int) != ((b.length : Nat) : Int)) = false := by simp; omega
    have g2 : (E != 0) = true := by simpa using h2
    have hbad : ordZ n b r = none := ordZ_bad (fun h => h2 (FI.out.1 h).2.1)
    have BAD := Lib.hid hbad
    clear h1 h2 hbad
    go_wp2_with fail
    go_ret2
    rw [BAD.out]; exact ords_none X2.out
  · have g1 : (((N : Nat) : Int) != ((b.length : Nat) : Int)) = false := by simp; omega
    have g2 : (E != 0) = false := by simpa using h2
    have g3 : decide (0 ≤ T1) = true := by simp; omega
    have hbad : ordZ n b r = none := ordZ_bad (fun h => by have := (FI.out.1 h).2.2; omega)
    have BAD := Lib.hid hbad
    clear h1 h2 h3 hbad
    go_wp2_with fail
    go_ret2
    rw [BAD.out]; exact ords_none X2.out
  · have g1 : (((N : Nat) : Int) != ((b.length : Nat) : Int)) = false := by simp; omega
    have g2 : (E != 0) = false := by simpa using h2
    have g3 : decide (0 ≤ T1) = false := by simp; omega
    have FB := Lib.hid (FI.out.2 ⟨h1, h2, h3⟩)
    clear h1 h2 h3
    rcases Nat.eq_zero_or_pos n with hn0 | hn0
    · have h0 : r.length = 0 := by rw [HRN.out]; exact hn0
      have g4 : (((r.length : Nat) : Int) == 0) = true := beq_iff_eq.2 (by omega)
      have e : ordZ n b r = some b := by rw [hn0]; exact ordZ_zero FB.out
      have EE := Lib.hid e
      clear e h0 hn0
      go_wp2_with fail
      go_ret2
      rw [EE.out]
      exact ⟨ao, cap, rfl, HB.out.ext X2.out, X2.out⟩
    · obtain ⟨m, hm⟩ : ∃ m, n = m + 1 := ⟨n - 1, by omega⟩
      have h0 : r.length = m + 1 := by rw [HRN.out]; exact hm
      have g4 : (((r.length : Nat) : Int) == 0) = false := beq_eq_false_iff_ne.2 (by omega)
      have HM := Lib.hid hm; have IM := Lib.hid (HI.out m hm); have RM := Lib.hid h0; have BM : Hid (b.length + 1 + m ≤ 8) := Lib.hid (by have := HBN.out; omega)
      clear hm h0 hn0 HI
      go_wp2_with fail
      go_loopw [10] (fun i wr => ∃ k : Nat, k ≤ r.length ∧ i = .int .i64 k ∧ (∀ j, j < k → ordZAt m b r j = none) ∧ Ext w wr) (fun i _ => r.length - (intOf i).toNat)
      case atStart => exact ⟨0, by omega, rfl, fun j h => by omega, X2.out⟩
      case round =>
        obtain ⟨k, hk, rfl, hno, hx⟩ := hrel
        have NO := Lib.hid hno; have K2 := Lib.hid hx
        clear hno
        by_cases hlt : k < r.length
        · obtain ⟨z, hz⟩ : ∃ z, r[k]? = some z := ⟨_, List.getElem?_eq_getElem hlt⟩
          have hS := HR.out.ext hx
          obtain ⟨rb, roff, rfl, hrb, hcell⟩ := hS.1 (by intro e; rw [e] at hlt; simp at hlt)
          have hcx := hcell k z hz
          have RW := Lib.hid hS.1
          have HZ := Lib.hid hz
          have AT : Hid (ordZAt m b r k = ordZ m (b ++ [z]) (r.eraseIdx k)) := Lib.hid (by unfold ordZAt; rw [hz])
          have HBW := Lib.hid (HB.out.ext hx).1
          obtain ⟨⟨cl, nm, acts, reads, ca, an⟩, ao2, ac2, ro2, rc2⟩ := z
          unfold encStep at hcx
          simp only at hcx
          have d0 := ExtBy.cell (hcx 0 _ rfl); have d1 := ExtBy.cell (hcx 1 _ rfl); have d2 := ExtBy.cell (hcx 2 _ rfl); have d3 := ExtBy.cell (hcx 3 _ rfl); have d4 := ExtBy.cell (hcx 4 _ rfl); have d5 := ExtBy.cell (hcx 5 _ rfl)
          simp only [Nat.add_zero] at d0
          have i0 : (0 : Int) ≤ (k : Int) := by omega
          have i1 : (k : Int) < (r.length : Int) := by omega
          clear hz hS hcell hcx hx
          obtain ⟨nx, hnx⟩ : ∃ nx, b ++ [(⟨⟨cl, nm, acts, reads, ca, an⟩, ao2, ac2, ro2, rc2⟩ : StepZ)] = nx := ⟨_, rfl⟩
          have NX := Lib.hid hnx
          clear hnx
          go_upto_region 10 with fail
          go_cut [11] (fun s W => NextRow wr nx s W)
          case first =>
            have XD : Hid (Ext wr wr.drew) := Lib.hid (Below.refl _ wr).drew
            go_wp2_with fail
            refine wp_region_firstC (fun W => ∃ p : ExtBy wr, W = p.W) [1, 3, 4, 5, 6] 5 (by kernel_rfl) (by kernel_rfl) (fun _ _ _ _ h => h) ⟨⟨wr.drew, XD.out⟩, rfl⟩ ?_
            simp only [opsAt, List.getElem?_toArray, List.getElem?_cons_succ, List.getElem?_cons_zero]
            repeat (go_big_quiet_step (fail))
            refine wpQuiet_nil ?_
            obtain ⟨wq, hwq⟩ : ∃ wq, wq = wr.drew := ⟨_, rfl⟩
            rw [← hwq] at XD ⊢
            clear hwq d0 d1 d2 d3 d4 d5
            refine wpAnyH_ready (rs := [0, 7]) (by kernel_rfl) (by simp) ?_
            refine AllReadyH.cons rfl (fun K hK => ?_) (AllReadyH.cons rfl (fun K hK => ?_) AllReadyH.nil)
            · go_simp
              obtain ⟨wa, hN⟩ : ∃ wa, wa = wq.alloc (.cells #[] 44) := ⟨_, rfl⟩
              have Ywa : Hid (Ext wq wa) := Lib.hid (by rw [hN]; exact (Below.refl _ wq).alloc (Nat.le_refl _) _)
              have Xwa := Lib.hid (Ext.trans XD.out Ywa.out)
              have OZ := Lib.hid (zero_steps wq)
              obtain ⟨p0, hp0⟩ : ∃ p0, p0 = wq.heap.size := ⟨_, rfl⟩
              have hp0w : wr.heap.size ≤ p0 ∧ p0 < wa.heap.size := by rw [hp0, hN]; have := XD.out.size; simp; omega
              rw [← hN, ← hp0] at OZ ⊢
              refine hK.out _ _ ⟨⟨_, Xwa.out⟩, rfl⟩ (fun _ => ?_)
              clear hK K hN hp0
              refine wpAnyH_ready (rs := [2, 7]) (by kernel_rfl) (by simp) ?_
              refine AllReadyH.cons rfl (fun K hK => ?_) (AllReadyH.cons rfl (fun K hK => ?_) AllReadyH.nil)
              · refine step_add_steps rfl (.tmp 47) (.tmp 48) rfl (base := wr) (acc := []) (l := b) (v := .slice (some ⟨p0, 0, none⟩) 0 0) rfl rfl OZ.out (fun j e => by cases e; exact hp0w.1) Xwa.out ((HBW.out.ext Xwa.out).mono Xwa.out.size) (by simp; omega) b rfl ?_
                intro so2 c2 wb h1 h2 h3 h4 h5
                have OM := Lib.hid h1; have NM := Lib.hid h2; have Xwb := Lib.hid h4; have BM2 := Lib.hid h5
                go_simp
                refine hK.out _ _ ⟨⟨_, Xwb.out⟩, rfl⟩ (fun _ => ?_)
                clear hK K h1 h2 h3 h4 h5
                have OO := OM
                refine wpAnyH_ready (rs := [7]) (by kernel_rfl) (by simp) ?_
                refine AllReadyH.cons rfl (fun K hK => ?_) AllReadyH.nil
                go_simp
                obtain ⟨wc, hN⟩ : ∃ wc, wc = wb.alloc (.cells #[.int .i64 cl, .int .i64 nm, .slice ao2 acts.length ac2, .slice ro2 reads.length rc2, .int .i64 ca, .int .i64 an] 44) := ⟨_, rfl⟩
                have Ywc : Hid (Ext wb wc) := Lib.hid (by rw [hN]; exact (Below.refl _ wb).alloc (Nat.le_refl _) _)
                have Xwc := Lib.hid (Ext.trans Xwb.out Ywc.out)
                have OB := Lib.hid (Blk.new wb [.int .i64 cl, .int .i64 nm, .slice ao2 acts.length ac2, .slice ro2 reads.length rc2, .int .i64 ca, .int .i64 an] 44)
                obtain ⟨p1, hp1⟩ : ∃ p1, p1 = wb.heap.size := ⟨_, rfl⟩
                have hp1w : wb.heap.size ≤ p1 ∧ p1 < wc.heap.size := by rw [hp1, hN]; simp
                rw [← hN, ← hp1] at OB ⊢
                refine hK.out _ _ ⟨⟨_, Xwc.out⟩, rfl⟩ (fun _ => ?_)
                clear hK K hN hp1
                have OM := Lib.hid (own_ext OO.out Ywc.out)
                refine wpAnyH_ready (rs := [8]) (by kernel_rfl) (by simp) ?_
                refine AllReadyH.cons rfl (fun K hK => ?_) AllReadyH.nil
                refine step_add_steps rfl (.tmp 49) (.tmp 54) rfl (base := wr) (acc := b) (l := [⟨⟨cl, nm, acts, reads, ca, an⟩, ao2, ac2, ro2, rc2⟩]) rfl rfl OM.out NM.out Xwc.out (rows_one OB.out) (by simp; omega) nx NX.out ?_
                intro so8 c8 we h1 h2 h3 h4 h5
                have OE := Lib.hid h1; have LE := Lib.hid h3; have XE := Lib.hid h4
                go_simp
                refine hK.out _ _ ⟨⟨_, XE.out⟩, rfl⟩ (fun _ => ?_)
                clear hK K h1 h2 h3 h4 h5
                refine wp_takesC (f := 0) [9] (by kernel_rfl) (fun _ _ _ _ h => h) ⟨⟨_, XE.out⟩, rfl⟩ ?_
                simp only [opsAt, List.getElem?_toArray, List.getElem?_cons_succ, List.getElem?_cons_zero]
                repeat (go_big_quiet_step (fail))
                refine wpQuiet_nil ?_
                refine wpAnyH_done (by kernel_rfl) ?_ _
                go_wp2_with fail
                go_meet
                exact ⟨so8, c8, rfl, LE.out, rows_of_own (fun _ => rfl) OE.out, XE.out⟩
              · go_simp
                obtain ⟨wc, hN⟩ : ∃ wc, wc = wa.alloc (.cells #[.int .i64 cl, .int .i64 nm, .slice ao2 acts.length ac2, .slice ro2 reads.length rc2, .int .i64 ca, .int .i64 an] 44) := ⟨_, rfl⟩
                have Ywc : Hid (Ext wa wc) := Lib.hid (by rw [hN]; exact (Below.refl _ wa).alloc (Nat.le_refl _) _)
                have Xwc := Lib.hid (Ext.trans Xwa.out Ywc.out)
                have OB := Lib.hid (Blk.new wa [.int .i64 cl, .int .i64 nm, .slice ao2 acts.length ac2, .slice ro2 reads.length rc2, .int .i64 ca, .int .i64 an] 44)
                obtain ⟨p1, hp1⟩ : ∃ p1, p1 = wa.heap.size := ⟨_, rfl⟩
                have hp1w : wa.heap.size ≤ p1 ∧ p1 < wc.heap.size := by rw [hp1, hN]; simp
                rw [← hN, ← hp1] at OB ⊢
                refine hK.out _ _ ⟨⟨_, Xwc.out⟩, rfl⟩ (fun _ => ?_)
                clear hK K hN hp1
                have OZ := Lib.hid (own_ext OZ.out Ywc.out)
                refine wpAnyH_ready (rs := [2]) (by kernel_rfl) (by simp) ?_
                refine AllReadyH.cons rfl (fun K hK => ?_) AllReadyH.nil
                refine step_add_steps rfl (.tmp 47) (.tmp 48) rfl (base := wr) (acc := []) (l := b) (v := .slice (some ⟨p0, 0, none⟩) 0 0) rfl rfl OZ.out (fun j e => by cases e; exact hp0w.1) Xwc.out ((HBW.out.ext Xwc.out).mono Xwc.out.size) (by simp; omega) b rfl ?_
                intro so2 c2 wb h1 h2 h3 h4 h5
                have OM := Lib.hid h1; have NM := Lib.hid h2; have Xwb := Lib.hid h4; have BM2 := Lib.hid h5
                go_simp
                refine hK.out _ _ ⟨⟨_, Xwb.out⟩, rfl⟩ (fun _ => ?_)
                clear hK K h1 h2 h3 h4 h5
                have OB := Lib.hid (OB.out.but BM2.out (fun e => absurd (show p0 = p1 by simpa [Value.ownBlock] using e) (by omega)))
                refine wpAnyH_ready (rs := [8]) (by kernel_rfl) (by simp) ?_
                refine AllReadyH.cons rfl (fun K hK => ?_) AllReadyH.nil
                refine step_add_steps rfl (.tmp 49) (.tmp 54) rfl (base := wr) (acc := b) (l := [⟨⟨cl, nm, acts, reads, ca, an⟩, ao2, ac2, ro2, rc2⟩]) rfl rfl OM.out NM.out Xwb.out (rows_one OB.out) (by simp; omega) nx NX.out ?_
                intro so8 c8 we h1 h2 h3 h4 h5
                have OE := Lib.hid h1; have LE := Lib.hid h3; have XE := Lib.hid h4
                go_simp
                refine hK.out _ _ ⟨⟨_, XE.out⟩, rfl⟩ (fun _ => ?_)
                clear hK K h1 h2 h3 h4 h5
                refine wp_takesC (f := 0) [9] (by kernel_rfl) (fun _ _ _ _ h => h) ⟨⟨_, XE.out⟩, rfl⟩ ?_
                simp only [opsAt, List.getElem?_toArray, List.getElem?_cons_succ, List.getElem?_cons_zero]
                repeat (go_big_quiet_step (fail))
                refine wpQuiet_nil ?_
                refine wpAnyH_done (by kernel_rfl) ?_ _
                go_wp2_with fail
                go_meet
                exact ⟨so8, c8, rfl, LE.out, rows_of_own (fun _ => rfl) OE.out, XE.out⟩
            · go_simp
              obtain ⟨wc, hN⟩ : ∃ wc, wc = wq.alloc (.cells #[.int .i64 cl, .int .i64 nm, .slice ao2 acts.length ac2, .slice ro2 reads.length rc2, .int .i64 ca, .int .i64 an] 44) := ⟨_, rfl⟩
              have Ywc : Hid (Ext wq wc) := Lib.hid (by rw [hN]; exact (Below.refl _ wq).alloc (Nat.le_refl _) _)
              have Xwc := Lib.hid (Ext.trans XD.out Ywc.out)
              have OB := Lib.hid (Blk.new wq [.int .i64 cl, .int .i64 nm, .slice ao2 acts.length ac2, .slice ro2 reads.length rc2, .int .i64 ca, .int .i64 an] 44)
              obtain ⟨p1, hp1⟩ : ∃ p1, p1 = wq.heap.size := ⟨_, rfl⟩
              have hp1w : wq.heap.size ≤ p1 ∧ p1 < wc.heap.size := by rw [hp1, hN]; simp
              rw [← hN, ← hp1] at OB ⊢
              refine hK.out _ _ ⟨⟨_, Xwc.out⟩, rfl⟩ (fun _ => ?_)
              clear hK K hN hp1
              refine wpAnyH_ready (rs := [0]) (by kernel_rfl) (by simp) ?_
              refine AllReadyH.cons rfl (fun K hK => ?_) AllReadyH.nil
              go_simp
              obtain ⟨wa, hN⟩ : ∃ wa, wa = wc.alloc (.cells #[] 44) := ⟨_, rfl⟩
              have Ywa : Hid (Ext wc wa) := Lib.hid (by rw [hN]; exact (Below.refl _ wc).alloc (Nat.le_refl _) _)
              have Xwa := Lib.hid (Ext.trans Xwc.out Ywa.out)
              have OZ := Lib.hid (zero_steps wc)
              obtain ⟨p0, hp0⟩ : ∃ p0, p0 = wc.heap.size := ⟨_, rfl⟩
              have hp0w : wr.heap.size ≤ p0 ∧ p0 < wa.heap.size := by rw [hp0, hN]; have := Xwc.out.size; simp; omega
              have hp01 : p1 < p0 := by rw [hp0]; exact hp1w.2
              rw [← hN, ← hp0] at OZ ⊢
              refine hK.out _ _ ⟨⟨_, Xwa.out⟩, rfl⟩ (fun _ => ?_)
              clear hK K hN hp0
              have OB := Lib.hid (OB.out.ext' Ywa.out)
              have hpp : p0 ≠ p1 := by omega
              refine wpAnyH_ready (rs := [2]) (by kernel_rfl) (by simp) ?_
              refine AllReadyH.cons rfl (fun K hK => ?_) AllReadyH.nil
              refine step_add_steps rfl (.tmp 47) (.tmp 48) rfl (base := wr) (acc := []) (l := b) (v := .slice (some ⟨p0, 0, none⟩) 0 0) rfl rfl OZ.out (fun j e => by cases e; exact hp0w.1) Xwa.out ((HBW.out.ext Xwa.out).mono Xwa.out.size) (by simp; omega) b rfl ?_
              intro so2 c2 wb h1 h2 h3 h4 h5
              have OM := Lib.hid h1; have NM := Lib.hid h2; have Xwb := Lib.hid h4; have BM2 := Lib.hid h5
              go_simp
              refine hK.out _ _ ⟨⟨_, Xwb.out⟩, rfl⟩ (fun _ => ?_)
              clear hK K h1 h2 h3 h4 h5
              have OB := Lib.hid (OB.out.but BM2.out (fun e => absurd (show p0 = p1 by simpa [Value.ownBlock] using e) hpp))
              refine wpAnyH_ready (rs := [8]) (by kernel_rfl) (by simp) ?_
              refine AllReadyH.cons rfl (fun K hK => ?_) AllReadyH.nil
              refine step_add_steps rfl (.tmp 49) (.tmp 54) rfl (base := wr) (acc := b) (l := [⟨⟨cl, nm, acts, reads, ca, an⟩, ao2, ac2, ro2, rc2⟩]) rfl rfl OM.out NM.out Xwb.out (rows_one OB.out) (by simp; omega) nx NX.out ?_
              intro so8 c8 we h1 h2 h3 h4 h5
              have OE := Lib.hid h1; have LE := Lib.hid h3; have XE := Lib.hid h4
              go_simp
              refine hK.out _ _ ⟨⟨_, XE.out⟩, rfl⟩ (fun _ => ?_)
              clear hK K h1 h2 h3 h4 h5
              refine wp_takesC (f := 0) [9] (by kernel_rfl) (fun _ _ _ _ h => h) ⟨⟨_, XE.out⟩, rfl⟩ ?_
              simp only [opsAt, List.getElem?_toArray, List.getElem?_cons_succ, List.getElem?_cons_zero]
              repeat (go_big_quiet_step (fail))
              refine wpQuiet_nil ?_
              refine wpAnyH_done (by kernel_rfl) ?_ _
              go_wp2_with fail
              go_meet
              exact ⟨so8, c8, rfl, LE.out, rows_of_own (fun _ => rfl) OE.out, XE.out⟩
          case rest =>
            obtain ⟨so, c, rfl, hc, hrows, hxm⟩ := hcut.out
            have LC := Lib.hid hc; have RN := Lib.hid hrows; have XM := Lib.hid hxm
            have KM := Lib.hid (Ext.trans K2.out hxm)
            clear hcut hc hrows hxm d0 d1 d2 d3 d4 d5
            obtain ⟨wd, hwd⟩ : ∃ wd, wd = wc := ⟨_, rfl⟩
            rw [← hwd] at RN XM KM ⊢
            clear hwd
            obtain ⟨r1, hr1, hsl1⟩ := slice_upto elemStepsR sizeStepsR (some ⟨rb, roff, none⟩) r.length cap' k (by omega)
            obtain ⟨r2, hr2, hsl2⟩ := slice_from elemStepsR sizeStepsR (some ⟨rb, roff, none⟩) r.length cap' (k + 1) (by omega) hrc
            obtain ⟨k1, hk1⟩ : ∃ k1, k1 = k + 1 := ⟨_, rfl⟩
            rw [← hk1] at hsl2 hr2
            have hw : IntKind.i64.wrap ((k : Int) + 1) = (k1 : Int) := by rw [IntWalk.i64_in _ (by omega)]; omega
            have RWD := Lib.hid ((RW.out.ext XM.out).mono XM.out.size)
            obtain ⟨tk, htk⟩ : ∃ tk, tk = r.take k := ⟨_, rfl⟩
            obtain ⟨dk, hdk⟩ : ∃ dk, dk = r.drop k1 := ⟨_, rfl⟩
            obtain ⟨ot, hot⟩ : ∃ ot, ot = r.eraseIdx k := ⟨_, rfl⟩
            have RT1 := Lib.hid (rows_toS RWD.out hr1 k)
            have RT2 := Lib.hid (rows_fromS (k := k1) RWD.out hr2)
            have LT : Hid (tk.length = k) := Lib.hid (by rw [htk, List.length_take]; omega)
            have LD : Hid (dk.length = r.length - k1) := Lib.hid (by rw [hdk]; exact List.length_drop ..)
            have ER : Hid (tk ++ dk = ot) := Lib.hid (by rw [htk, hdk, hot, hk1, List.eraseIdx_eq_take_drop_succ])
            have OT := Lib.hid hot
            rw [← htk] at RT1
            rw [← hdk] at RT2
            clear htk hdk hot
            have XD : Hid (Ext wd wd.drew) := Lib.hid (Below.refl _ wd).drew
            have HK1 := Lib.hid hk1
            clear hr1 hr2 hk1
            go_wp2_with fail
            refine wp_region_firstC (fun W => ∃ p : ExtBy wd, W = p.W) [1, 2, 3, 5, 6, 7, 8] 4 (by kernel_rfl) (by kernel_rfl) (fun _ _ _ _ h => h) ⟨⟨wd.drew, XD.out⟩, rfl⟩ ?_
            simp only [opsAt, List.getElem?_toArray, List.getElem?_cons_succ, List.getElem?_cons_zero]
            repeat (go_big_quiet_step (fail))
            refine wpQuiet_nil ?_
            obtain ⟨wq, hwq⟩ : ∃ wq, wq = wd.drew := ⟨_, rfl⟩
            rw [← hwq] at XD ⊢
            clear hwq hsl1 hsl2 hw
            refine wpAnyH_ready (rs := [0]) (by kernel_rfl) (by simp) ?_
            refine AllReadyH.cons rfl (fun K hK => ?_) AllReadyH.nil
            go_simp
            obtain ⟨wa, hN⟩ : ∃ wa, wa = wq.alloc (.cells #[] 44) := ⟨_, rfl⟩
            have Ywa : Hid (Ext wq wa) := Lib.hid (by rw [hN]; exact (Below.refl _ wq).alloc (Nat.le_refl _) _)
            have Xwa := Lib.hid (Ext.trans XD.out Ywa.out)
            have OZ := Lib.hid (zero_steps wq)
            obtain ⟨p0, hp0⟩ : ∃ p0, p0 = wq.heap.size := ⟨_, rfl⟩
            have hp0w : wd.heap.size ≤ p0 ∧ p0 < wa.heap.size := by rw [hp0, hN]; have := XD.out.size; simp; omega
            rw [← hN, ← hp0] at OZ ⊢
            refine hK.out _ _ ⟨⟨_, Xwa.out⟩, rfl⟩ (fun _ => ?_)
            clear hK K hN hp0
            refine wpAnyH_ready (rs := [4]) (by kernel_rfl) (by simp) ?_
            refine AllReadyH.cons rfl (fun K hK => ?_) AllReadyH.nil
            refine step_add_steps rfl (.tmp 56) (.tmp 59) rfl (base := wd) (acc := []) (l := tk) (v := .slice (some ⟨p0, 0, none⟩) 0 0) (c := cap') rfl (by rw [LT.out]; rfl) OZ.out (fun j e => by cases e; exact hp0w.1) Xwa.out ((RT1.out.ext Xwa.out).mono Xwa.out.size) (by rw [LT.out]; simp; omega) tk rfl ?_
            intro so2 c2 wb h1 h2 h3 h4 h5
            have OM := Lib.hid h1; have NM := Lib.hid h2; have Xwb := Lib.hid h4
            go_simp
            refine hK.out _ _ ⟨⟨_, Xwb.out⟩, rfl⟩ (fun _ => ?_)
            clear hK K h1 h2 h3 h4 h5
            refine wpAnyH_ready (rs := [9]) (by kernel_rfl) (by simp) ?_
            refine AllReadyH.cons rfl (fun K hK => ?_) AllReadyH.nil
            refine step_add_steps rfl (.tmp 60) (.tmp 64) rfl (base := wd) (acc := tk) (l := dk) (c := cap' - k1) rfl (by rw [LD.out]; rfl) OM.out NM.out Xwb.out ((RT2.out.ext Xwb.out).mono Xwb.out.size) (by rw [LT.out, LD.out]; omega) ot ER.out ?_
            intro so3 c3 we h1 h2 h3 h4 h5
            have OE := Lib.hid h1; have LE := Lib.hid h3; have XE := Lib.hid h4
            go_simp
            refine hK.out _ _ ⟨⟨_, XE.out⟩, rfl⟩ (fun _ => ?_)
            clear hK K h1 h2 h3 h4 h5
            refine wp_takesC (f := 0) [10] (by kernel_rfl) (fun _ _ _ _ h => h) ⟨⟨_, XE.out⟩, rfl⟩ ?_
            simp only [opsAt, List.getElem?_toArray, List.getElem?_cons_succ, List.getElem?_cons_zero]
            repeat (go_big_quiet_step (fail))
            refine wpQuiet_nil ?_
            refine wpAnyH_done (by kernel_rfl) ?_ _
            have KE := Lib.hid (Ext.trans KM.out XE.out)
            have hot := OT.out
            have hzr : ∀ y ∈ nx, y ∈ b ∨ y ∈ r := fun y hy => by
              rw [← NX.out] at hy
              rcases List.mem_append.1 hy with h | h
              · exact .inl h
              · rw [List.mem_singleton] at h; exact .inr (by rw [h]; exact List.mem_of_getElem? HZ.out)
            have hzo : ∀ y ∈ ot, y ∈ r := fun y hy => by rw [hot] at hy; exact List.mem_of_mem_eraseIdx hy
            have hol : ot.length = m := by rw [hot, List.length_eraseIdx, if_pos hlt, RM.out]; rfl
            have hnl : nx.length = b.length + 1 := by rw [← NX.out]; simp
            rw [NX.out, ← hot] at AT
            have OC := Lib.hid (IM.out nx ot so so3 c c3 we hol (by rw [hnl]; exact BM.out) LC.out LE.out ⟨(RN.out.ext XE.out).mono XE.out.size, fun y hy => by
                rcases hzr y hy with h | h
                · exact (HB.out.ext KE.out).2 y h
                · exact (HR.out.ext KE.out).2 y h⟩ ⟨rows_of_own (fun _ => rfl) OE.out, fun y hy => (HR.out.ext KE.out).2 y (hzo y hy)⟩ (fun y hy => by
                rcases hzr y hy with h | h
                · exact HBK.out y h
                · exact HRK.out y h) (fun y hy => HRK.out y (hzo y hy)))
            clear hot hzr hzo hol hnl OE LE RN LC OM NM LT LD ER RT1 RT2 RWD OZ hp0w
            go_wp2_with fail
            refine OC.out.mono ?_
            rintro e wf ⟨so9, c9, rfl, hst, hx9⟩
            have ST := Lib.hid hst; have X9 := Lib.hid (Ext.trans KE.out hx9)
            clear hst hx9 OC
            obtain ⟨o, ho⟩ : ∃ o, o = ordZ m nx ot := ⟨_, rfl⟩
            rw [← ho] at AT ST ⊢
            clear ho
            cases o with
            | none =>
              simp only [Option.isSome_none]
              go_wp2_with fail
              go_roundw
              case rel =>
                refine ⟨k + 1, by omega, by go_num, fun j hj => ?_, X9.out⟩
                rcases Nat.lt_or_ge j k with h | h
                · exact NO.out j h
                · obtain rfl : j = k := by omega
                  exact AT.out
              case measure => simp [intOf]; omega
            | some out =>
              simp only [Option.isSome_some, Option.getD_some]
              go_wp2_with fail
              go_ret2
              have e : ordZ n b r = some out := by rw [HM.out]; exact ordZ_some FB.out hlt NO.out AT.out
              rw [e]
              exact ⟨so9, c9, rfl, ST.out, X9.out⟩
        · clear hx
          have hall : ordZ n b r = none := by rw [HM.out]; exact ordZ_none FB.out (fun i hi => NO.out i (by omega))
          have HA := Lib.hid hall; clear hall
          go_wp2_with fail
          go_ret2
          rw [HA.out]; exact ords_none K2.out
theorem orders_calls : ∀ n, OrdsDo n
  | 0 => orders_step 0 (fun m h => by omega)
  | n + 1 => orders_step (n + 1) (fun m h => by
    obtain rfl : m = n := by omega
    exact orders_calls m)
end Go.Proofs.YtngahblgicjoiaaGreatDoor
