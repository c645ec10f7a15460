/- A history does a step: its table turns, what each key's acts tell is put together. -/
import Derived.Test.YtbnclifpdmpjnaaGreatDoorZ13
import Derived.Test.YtbnclifpdmpjnaaGreatDoorZ15
namespace Go.Proofs.YtbnclifpdmpjnaaGreatDoor
open Go.RowKit
open Go.Maps (Keyed)
structure TabAt (B : Nat) (w : World) (hb : Nat) (v m : Value) (rows : List RowD) : Prop where
  blk : Blk w hb [v, m] 155
  row : w.ownsRow B 184 2 v rows.length (rows.flatMap encRw)
  rise : RiseR rows
  ok : ∀ r ∈ rows, r.ok
variable {B : Nat} {w w' : World} {hb mb n : Nat} {v m : Value} {rows : List RowD}
theorem TabAt.ext (T : TabAt B w hb v m rows) (hx : Ext w w') : TabAt B w' hb v m rows := ⟨T.blk.ext' hx, own_ext T.row hx, T.rise, T.ok⟩
theorem TabAt.but {S : Nat → Prop} (T : TabAt B w hb v m rows) (hx : But S w w') (h1 : ¬ S hb) (h2 : ∀ k, v.ownBlock = some k → ¬ S k) : TabAt B w' hb v m rows := ⟨T.blk.but hx h1, own_but T.row hx h2, T.rise, T.ok⟩
def Own2 (hb : Nat) (v : Value) : Nat → Prop := fun j => j = hb ∨ v.ownBlock = some j
structure DoneAt (B hb : Nat) (v m : Value) (w : World) (p : List RowD × List Rd) (e : Ending) (w' : World) : Prop where
  out : ∃ rv v', e = .returned rv ∧ w'.ownsRow 0 117 3 rv p.2.length (p.2.flatMap encRd) ∧ (∀ j, rv.ownBlock = some j → w.heap.size ≤ j) ∧ TabAt B w' hb v' m p.1 ∧ (∀ j, v'.ownBlock = some j → v.ownBlock = some j ∨ w.heap.size ≤ j) ∧ But (Own2 hb v) w w'
structure DoMid (B hb mb : Nat) (v m : Value) (w1 : World) (acts : List ActD) (rows : List RowD) (ks : List Txt) (k : Nat) (wr : World) : Prop where
  out : ∃ v', TabAt B wr hb v' m (doneAt acts rows (ks.take k)).1 ∧ (∀ j, v'.ownBlock = some j → v.ownBlock = some j ∨ w1.heap.size ≤ j) ∧ ToldAt (Own2 hb v') wr mb k (doneAt acts rows (ks.take k)).2 ∧ But (fun j => Own2 hb v j ∨ j = mb) w1 wr
theorem TabAt.slice (T : TabAt B w hb v m rows) : ∃ ao cap, v = .slice ao rows.length cap ∧ Rows 2 encRw w.heap.size w ao rows := by
  obtain ⟨ao, cap, hv, _, _, hr⟩ := Rows.own (enc := encRw) (sz := 2) (fun _ => rfl) T.row
  exact ⟨ao, cap, hv, hr⟩
theorem own_slice3 {w : World} {B : Nat} {rv : Value} {l : List ActD} (h : w.ownsRow B 114 4 rv l.length (l.flatMap encAct)) : ∃ ao cap, rv = .slice ao l.length cap ∧ Rows 4 encAct w.heap.size w ao l := by
  obtain ⟨ao, cap, hv, _, _, hr⟩ := Rows.own (enc := encAct) (sz := 4) (fun _ => rfl) h
  exact ⟨ao, cap, hv, hr⟩
set_option maxRecDepth 100000 in
set_option maxHeartbeats 3200000 in
theorem histDo_calls (z : StepZ) (T : TabAt B w hb v m rows) (hB : B ≤ w.heap.size) (hlv : LV B w) (hBL : B ≤ hb) (ha : NRows 4 encAct (Own2 hb v) w z.ao z.d.acts) (hok : ∀ a ∈ z.d.acts, a.ok) (hk3 : kinds3 z.d.acts) (hal : z.d.acts.length ≤ 1000) (hrl : rows.length ≤ 100000) :
    Calls Tryz.prog 78 #[.pointer (some ⟨hb, 0, none⟩), .agg (encStep z).toArray] w (DoneAt B hb v m w (doneD rows z.d.acts)) := by
  obtain ⟨⟨cl, nm, acts, reads, ca, an⟩, ao, ac, ro, rc⟩ := z
  simp only at ha hok hk3 hal ⊢
  unfold encStep
  simp only
  have hmm := @run_makeMap Tryz.prog
  have BX : Hid (Blk (w.alloc (.cells #[.int .i64 cl, .int .i64 nm, .slice ao acts.length ac, .slice ro reads.length rc, .int .i64 ca, .int .i64 an] 51)) w.heap.size [.int .i64 cl, .int .i64 nm, .slice ao acts.length ac, .slice ro reads.length rc, .int .i64 ca, .int .i64 an] 51) := Lib.hid (Blk.new w _ _)
  have X1 : Hid (Ext w (w.alloc (.cells #[.int .i64 cl, .int .i64 nm, .slice ao acts.length ac, .slice ro reads.length rc, .int .i64 ca, .int .i64 an] 51))) := Lib.hid ((Below.refl _ w).alloc (Nat.le_refl _) _)
  have HT := Lib.hid T; have HB := Lib.hid hB; have HLV := Lib.hid hlv; have HBL := Lib.hid hBL; have HA := Lib.hid ha; have HOK := Lib.hid hok; have HK := Lib.hid hk3
  have hbl := T.blk.lt
  clear T hB hlv hBL ha hok hk3
  go_enter Tryz.func78, Tryz.ntmps78
  go_wp2_with fail
  obtain ⟨wM, hwM⟩ : ∃ wM, wM = (w.alloc (.cells #[.int .i64 cl, .int .i64 nm, .slice ao acts.length ac, .slice ro reads.length rc, .int .i64 ca, .int .i64 an] 51)).alloc (.map #[] 0) := ⟨_, rfl⟩
  have TM : Hid (ToldAt (Own2 hb v) wM (w.heap.size + 1) 0 (fun _ => [])) := Lib.hid (by
    rw [hwM]
    have := ToldAt.made (Own2 hb v) (w.alloc (.cells #[.int .i64 cl, .int .i64 nm, .slice ao acts.length ac, .slice ro reads.length rc, .int .i64 ca, .int .i64 an] 51))
    rwa [World.size_alloc] at this)
  have XM : Hid (Ext w wM) := Lib.hid (by rw [hwM]; exact X1.out.alloc X1.out.size _)
  have BM : Hid (Blk wM w.heap.size [.int .i64 cl, .int .i64 nm, .slice ao acts.length ac, .slice ro reads.length rc, .int .i64 ca, .int .i64 an] 51) := Lib.hid (by rw [hwM]; exact BX.out.alloc _)
  have hsM : w.heap.size + 1 < wM.heap.size := TM.out.lt
  rw [← hwM]
  clear hwM BX X1 hmm
  have HKY := Lib.hid (keys_callsN acts ao ac wM (by omega) ((HA.out.rows.ext XM.out).mono XM.out.size))
  obtain ⟨ks, hks⟩ : ∃ ks, ks = keysL acts := ⟨_, rfl⟩
  rw [← hks] at HKY
  have hkl : ks.length ≤ acts.length := by rw [hks]; exact keysL_len acts
  have KZ : Hid (∀ k ∈ ks, k.length ≤ 140737488351232) := Lib.hid (by rw [hks]; exact keysL_size HOK.out)
  have HKS := Lib.hid hks
  clear hks
  refine HKY.out.mono ?_
  rintro e w1 ⟨ko, kcap, rfl, hkr, hx1, hkn⟩
  have NR : Hid (NRows 1 encT (fun b => b < wM.heap.size) w1 ko ks) := Lib.hid (by
    intro hne
    obtain ⟨b, off, rfl, hb', hc⟩ := hkr hne
    exact ⟨b, off, rfl, hb', fun h => by have := hkn b off rfl; omega, hc⟩)
  have X1 := Lib.hid hx1
  clear hkr hx1 hkn
  go_wp2_with fail
  go_loopw [18] (fun i wr => ∃ k : Nat, k ≤ ks.length ∧ i = .int .i64 k ∧ DoMid B hb (w.heap.size + 1) v m w1 acts rows ks k wr) (fun i _ => ks.length - (intOf i).toNat)
  case atStart =>
    refine ⟨0, by omega, rfl, v, (HT.out.ext XM.out).ext X1.out, fun _ e => .inl e, TM.out.ext X1.out, But.refl _ _⟩
  case round =>
    obtain ⟨k, hk, rfl, hmid⟩ := hrel
    obtain ⟨v1, hT1, hv1, hM1, hB1⟩ := hmid.out
    have T1 := Lib.hid hT1; have V1 := Lib.hid hv1; have M1 := Lib.hid hM1; have B1 := Lib.hid hB1
    clear hmid hT1 hv1 hM1 hB1
    have hw1s : wM.heap.size ≤ w1.heap.size := X1.out.size
    have hwrs : w1.heap.size ≤ wr.heap.size := B1.out.size
    have hownlt : ∀ j, v.ownBlock = some j → j < w.heap.size := fun j e => (HT.out.row.lt j e).2
    have HOW := Lib.hid hownlt
    clear hownlt
    by_cases hlt : k < ks.length
    · obtain ⟨kt, hkt⟩ : ∃ kt, ks[k]? = some kt := ⟨_, List.getElem?_eq_getElem hlt⟩
      have NR2 : NRows 1 encT (fun b => b < wM.heap.size) wr ko ks := NR.out.step B1.out (fun b _ e => by
        have e2 : (b = hb ∨ v.ownBlock = some b) ∨ b = w.heap.size + 1 := e
        rcases e2 with (e2 | e2) | e2
        · left; show b < wM.heap.size; omega
        · have := HOW.out b e2; left; show b < wM.heap.size; omega
        · left; show b < wM.heap.size; omega) (fun _ _ e => e)
      obtain ⟨b, off, rfl, hb', _, hcell⟩ := NR2 (by intro e; rw [e] at hlt; simp at hlt)
      have c0 := hcell k kt hkt 0 _ rfl
      simp only [Nat.mul_one, Nat.add_zero, Proofs.encStr] at c0
      have hsucc : ks.take (k + 1) = ks.take k ++ [kt] := by rw [List.take_add_one, hkt]; rfl
      have hdn : doneAt acts rows (ks.take (k + 1)) = doneKey acts (doneAt acts rows (ks.take k)) kt := by rw [hsucc, doneAt_snoc]
      obtain ⟨hpok, hplen⟩ := doneAt_ok (rows := rows) HOK.out HT.out.ok k (ks.take k) (by rw [List.length_take]; omega) (fun x hx => KZ.out x (List.mem_of_mem_take hx))
      have hprise := doneAt_rise (acts := acts) HT.out.rise k (ks.take k) (by rw [List.length_take]; omega)
      obtain ⟨hqok, -⟩ := doneAt_ok (rows := rows) HOK.out HT.out.ok (k + 1) (ks.take (k + 1)) (by rw [List.length_take]; omega) (fun x hx => KZ.out x (List.mem_of_mem_take hx))
      have hqrise := doneAt_rise (acts := acts) HT.out.rise (k + 1) (ks.take (k + 1)) (by rw [List.length_take]; omega)
      have hkz := KZ.out kt (List.mem_of_getElem? hkt)
      rw [hdn] at hqok hqrise
      obtain ⟨p, hp⟩ : ∃ p, doneAt acts rows (ks.take k) = p := ⟨_, rfl⟩
      rw [hp] at T1 M1 hdn hpok hplen hprise hqok hqrise
      obtain ⟨key, hkey, hkey2, hkey3⟩ : ∃ key : ByteArray, key = ⟨kt.toArray⟩ ∧ key.data.toList = kt ∧ key.size = kt.length := ⟨_, rfl, rfl, by simp [ByteArray.size]⟩
      rw [← hkey] at c0
      have SU := Lib.hid hdn; have QO := Lib.hid hqok; have QR := Lib.hid hqrise
      have KE := Lib.hid hkey; have KE2 := Lib.hid hkey2
      have hkz2 : key.size ≤ 140737488351232 := by rw [hkey3]; exact hkz
      obtain ⟨ao1, cap1, rfl, hrow1⟩ := T1.out.slice
      have h0 := T1.out.blk.cell 0
      simp only [List.getElem?_cons_zero] at h0
      have GC := Lib.hid (get_calls2 p.1 ao1 cap1 key wr (by omega) hrow1 hprise)
      rw [hkey2] at GC
      obtain ⟨is, his⟩ : ∃ is, (getR kt p.1).isSome = is := ⟨_, rfl⟩
      obtain ⟨va, hva⟩ : ∃ va, (getR kt p.1).getD noBytes = va := ⟨_, rfl⟩
      have hvz : va.size ≤ 140737488351232 := by rw [← hva]; exact getR_ok hpok
      rw [his, hva] at GC
      have hst : keySt acts p.1 kt = doRes is va (ofL kt acts) := by unfold keySt doRes; rw [his, hva]
      have ST := Lib.hid hst
      have ib := B1.out
      have hbM : Blk wr w.heap.size [.int .i64 cl, .int .i64 nm, .slice ao acts.length ac, .slice ro reads.length rc, .int .i64 ca, .int .i64 an] 51 := (BM.out.ext' X1.out).but B1.out (fun e => by
        have e2 : (w.heap.size = hb ∨ v.ownBlock = some w.heap.size) ∨ w.heap.size = w.heap.size + 1 := e
        rcases e2 with (e2 | e2) | e2
        · omega
        · have := HOW.out _ e2; omega
        · omega)
      have BR := Lib.hid hbM
      have i0 : (0 : Int) ≤ (k : Int) := by omega
      have i1 : (k : Int) < (ks.length : Int) := by omega
      have RW := Lib.hid hrow1
      clear hkt NR2 hcell hsucc hdn hqok hqrise hkz hkey hkey2 hkey3 hrow1 his hva hst ib hbM hp hpok
      go_wp2_with fail
      refine GC.out.mono ?_
      rintro e w2 ⟨rfl, hx2⟩
      have X2 := Lib.hid hx2; clear hx2 c0 h0
      -- the key's acts
      have hra : Rows 4 encAct w2.heap.size w2 ao acts := (((HA.out.ext XM.out).ext X1.out).step (no' := fun _ => False) B1.out (fun j hj e => by
          rcases (show Own2 hb v j ∨ j = w.heap.size + 1 from e) with e2 | e2
          · exact .inl e2
          · subst e2; exact .inr (TM.out.ext X1.out).noCells) (fun _ _ e => e.elim)).rows.ext X2.out |>.mono X2.out.size
      have b2 := (BR.out.ext' X2.out).cell 2
      simp only [List.getElem?_cons_zero, List.getElem?_cons_succ] at b2
      have OC := Lib.hid (of_calls key acts ao ac w2 (by omega) hra)
      rw [KE2.out] at OC
      clear hra
      go_wp2_with fail
      refine OC.out.mono ?_
      rintro e w3 ⟨ov, rfl, hov, -, hx3⟩
      obtain ⟨oa, ocap, rfl, hor⟩ := own_slice3 hov
      have X3 := Lib.hid hx3
      have hLV : LV B w3 := ((((HLV.out.ext XM.out).ext X1.out).below (B1.out.below (B := B) (by have := HB.out; omega) (fun j e => by
        rcases (show (j = hb ∨ v.ownBlock = some j) ∨ j = w.heap.size + 1 from e) with (e2 | e2) | e2
        · rw [e2]; exact HBL.out
        · exact (HT.out.row.lt j e2).1
        · have := HB.out; omega))).ext X2.out).ext X3.out
      have hof := ofL_len kt acts
      have DC := Lib.hid (do_calls is va (ofL kt acts) oa ocap w3 hLV (by have := HB.out; have := X2.out.size; have := hx3.size; omega) (by omega) hvz (fun a ha => HOK.out a (List.mem_filter.1 ha).1) hor)
      clear hov hor hx3 hLV b2 hof
      go_wp2_with fail
      refine DC.out.mono ?_
      rintro e w4 ⟨rv, rfl, hrv, hrn, hx4⟩
      obtain ⟨ra, rcap, rfl, hcl, -, hrr⟩ := Rows.own (enc := encRd) (sz := 3) (fun _ => rfl) hrv
      have X4 := Lib.hid (Ext.trans X2.out (Ext.trans X3.out hx4))
      have hr4 : NRows 3 encRd (Own2 hb (.slice ao1 p.1.length cap1)) w4 ra (doRes is va (ofL kt acts)).reads := nrows_of_own (fun _ => rfl) hrv (fun j e => by
        have := hrn j e
        have hs3 := Ext.trans X2.out X3.out |>.size
        intro e2
        rcases e2 with e2 | e2
        · have := HT.out.blk.lt; omega
        · have := (T1.out.row.lt j e2).2; omega)
      obtain ⟨w5, hrun, hT5, hB5⟩ := (M1.out.ext X4.out).put (by omega) key hkz2 _ ra rcap hcl hr4
      rw [KE2.out] at hT5
      have T5 := Lib.hid hT5; have B5 := Lib.hid hB5
      clear hrv hrn hrr hx4 hr4 hcl hT5 hB5
      obtain ⟨R, hR⟩ : ∃ R, doRes is va (ofL kt acts) = R := ⟨_, rfl⟩
      obtain ⟨av, hav⟩ : ∃ av, doAfter is va (ofL kt acts) = av := ⟨_, rfl⟩
      have hav2 : R.put = true → av = R.value := fun e => by rw [← hav]; unfold doAfter; rw [hR, if_pos e]
      rw [hR, hav]
      rw [hR] at ST T5 hrun
      have AV := Lib.hid hav2
      have hone : ¬ (hb = w.heap.size + 1) := by have := HT.out.blk.lt; omega
      have hown1 : ∀ j, (Value.slice ao1 p.1.length cap1).ownBlock = some j → ¬ j = w.heap.size + 1 := fun j e e2 => by
        rcases V1.out j e with e3 | e3
        · have := HOW.out j e3; omega
        · omega
      have T6 : Hid (TabAt B w5 hb (.slice ao1 p.1.length cap1) m p.1) := Lib.hid ((T1.out.ext X4.out).but B5.out hone hown1)
      have hB6 : But (fun j => Own2 hb v j ∨ j = w.heap.size + 1) w1 w5 := (B1.out.trans (Ext.but X4.out (fun _ => False)) (fun _ _ e => e) (fun _ _ e => e.elim)).trans B5.out (fun _ _ e => e) (fun _ _ e => .inr e)
      have B6 := Lib.hid hB6
      have HNM := Lib.hid hown1
      clear hav hav2 hR hB6 hown1
      cases hput : R.put
      · have HP := Lib.hid hput; clear hput
        go_wp2_with fail
        go_roundw
        case rel =>
          have hk1 : (doneKey acts p kt).1 = p.1 := by unfold doneKey; rw [ST.out, HP.out]; simp
          have hk2 : ∀ x, (if x = kt then R.reads else p.2 x) = (doneKey acts p kt).2 x := fun x => by unfold doneKey; rw [ST.out]
          refine ⟨k + 1, by omega, by go_num, ⟨_, ?_, V1.out, ?_, B6.out⟩⟩
          · rw [SU.out, hk1]; exact T6.out
          · rw [SU.out]; exact T5.out.congr hk2
        case measure => simp [intOf]; omega
      · have HP := Lib.hid hput; clear hput
        have PC := Lib.hid (putT_calls ⟨key, av⟩ p.1 hb (.slice ao1 p.1.length cap1) m w5 (by omega) T6.out.blk T6.out.row (by have := HB.out; have := B6.out.size; omega) T6.out.rise)
        unfold encRw at PC
        go_wp2_with fail
        refine PC.out.mono ?_
        rintro e w6 ⟨rfl, v2, hb2, ho2, hk2, hbut2⟩
        have Q1 := Lib.hid hb2; have Q2 := Lib.hid ho2; have Q3 := Lib.hid hk2; have Q4 := Lib.hid hbut2
        clear hb2 ho2 hk2 hbut2
        go_wp2_with fail
        go_roundw
        case rel =>
          have hk1 : (doneKey acts p kt).1 = putR ⟨key, av⟩ p.1 := by unfold doneKey; rw [ST.out, HP.out, AV.out HP.out, KE.out]; simp
          have hk2 : ∀ x, (if x = kt then R.reads else p.2 x) = (doneKey acts p kt).2 x := fun x => by unfold doneKey; rw [ST.out]
          have hsz := B6.out.size
          refine ⟨k + 1, by omega, by go_num, ⟨v2, ?_, ?_, ?_, ?_⟩⟩
          · rw [SU.out]
            have h1 := QR.out; have h2 := QO.out
            rw [hk1] at h1 h2 ⊢
            exact ⟨Q1.out, Q2.out, h1, h2⟩
          · intro j hj
            rcases Q3.out j hj with e | e
            · exact V1.out j e
            · exact .inr (by omega)
          · rw [SU.out]
            refine (T5.out.step Q4.out (fun e => ?_) (fun b _ e => e) (fun b hb3 e => ?_)).congr hk2
            · rcases e with e | e
              · exact hone e.symm
              · exact HNM.out _ e rfl
            · rcases e with e | e
              · exact .inl e
              · rcases Q3.out b e with e | e
                · exact .inr e
                · omega
          · refine B6.out.trans Q4.out (fun _ _ e => e) (fun i hi e => .inl ?_)
            rcases e with e | e
            · exact .inl e
            · rcases V1.out i e with e | e
              · exact .inr e
              · omega
        case measure => simp [intOf]; omega
    · obtain rfl : k = ks.length := by omega
      have hall : ks.take ks.length = ks := List.take_of_length_le (Nat.le_refl _)
      rw [hall] at T1 M1
      have hdk : doneAt acts rows ks = doneK rows acts := by rw [HKS.out]; rfl
      rw [hdk] at T1 M1
      have hra : Rows 4 encAct wr.heap.size wr ao acts := (((HA.out.ext XM.out).ext X1.out).step (no' := fun _ => False) B1.out (fun j hj e => by
          rcases (show Own2 hb v j ∨ j = w.heap.size + 1 from e) with e2 | e2
          · exact .inl e2
          · subst e2; exact .inr (TM.out.ext X1.out).noCells) (fun _ _ e => e.elim)).rows
      have hbM : Blk wr w.heap.size [.int .i64 cl, .int .i64 nm, .slice ao acts.length ac, .slice ro reads.length rc, .int .i64 ca, .int .i64 an] 51 := (BM.out.ext' X1.out).but B1.out (fun e => by
        have e2 : (w.heap.size = hb ∨ v.ownBlock = some w.heap.size) ∨ w.heap.size = w.heap.size + 1 := e
        rcases e2 with (e2 | e2) | e2
        · have := HT.out.blk.lt; omega
        · have := HOW.out _ e2; omega
        · omega)
      have b2 := hbM.cell 2
      simp only [List.getElem?_cons_zero, List.getElem?_cons_succ] at b2
      have TC := Lib.hid (told_calls acts ao ac wr (w.heap.size + 1) ks.length (doneK rows acts).2 hal HOK.out hra (M1.out.step (But.refl (fun _ => False) wr) (fun e => e) (fun _ _ e => e.elim) (fun b hb3 e => by have e2 : wr.heap.size ≤ b := e; omega)) (by omega) (fun x => doneK_len HK.out rows x))
      clear hra hbM hall hdk
      go_wp2_with fail
      refine TC.out.mono ?_
      rintro e w2 ⟨rv, rfl, hrv, hrn, hbt⟩
      have R1 := Lib.hid hrv; have R2 := Lib.hid hrn; have R3 := Lib.hid hbt
      clear hrv hrn hbt
      go_wp2_with fail
      go_ret
      have hone : ¬ (hb = w.heap.size + 1) := by have := HT.out.blk.lt; omega
      refine ⟨rv, v1, rfl, R1.out, fun j e => by have := R2.out j e; omega, T1.out.but R3.out hone (fun j e e2 => ?_), fun j e => ?_, ?_⟩
      · have e3 : j = w.heap.size + 1 := e2
        rcases V1.out j e with e4 | e4
        · have := HOW.out j e4; omega
        · omega
      · rcases V1.out j e with e4 | e4
        · exact .inl e4
        · exact .inr (by omega)
      · have hx := Ext.trans XM.out X1.out
        refine ((Ext.but hx (fun _ => False)).trans B1.out (U := Own2 hb v) (fun _ _ e => e.elim) (fun i hi e => ?_)).trans R3.out (fun _ _ e => e) (fun i hi e => ?_)
        · rcases (show Own2 hb v i ∨ i = w.heap.size + 1 from e) with e2 | e2
          · exact e2
          · omega
        · have e2 : i = w.heap.size + 1 := e
          omega
end Go.Proofs.YtbnclifpdmpjnaaGreatDoor
