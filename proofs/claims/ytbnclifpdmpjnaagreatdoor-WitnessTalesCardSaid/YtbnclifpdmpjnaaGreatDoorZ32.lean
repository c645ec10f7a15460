/- A tale taken: what was decided. -/
import Derived.Test.YtbnclifpdmpjnaaGreatDoorZ31
import Derived.Deep.CutRange
import Derived.Deep.DeepCutAuto
namespace Go.Proofs.YtbnclifpdmpjnaaGreatDoor
open Go.RowKit
open Go.Maps (Keyed)
variable {B rb mb : Nat} {w w' : World} {v : Value} {r : RdS}
set_option maxRecDepth 100000 in
set_option maxHeartbeats 3200000 in
theorem taleDecided_calls (i : Nat) (z : TaleZ) (R : ReadAt B w rb mb v r) (hB : B ≤ w.heap.size) (hz : z.at B w) (hd : z.d.ok) (hfew : r.names.length ≤ 100) (hk : z.d.kind = 6) (hrn : (r.kz z.d.name).k.reads.length ≤ 1000) :
    Calls Tryz.prog 20 #[.pointer (some ⟨rb, 0, none⟩), .int .i64 ((i : Int) + 1), .agg (encTale z).toArray] w (TaleDone B rb mb i z v r w) := by
  have hC : counts z.d = true := by simp [counts, hk]
  have HC := Lib.hid hC; have HB := Lib.hid hB; have ZA := Lib.hid hz; have HKD := Lib.hid hk
  have HRN := Lib.hid hrn
  obtain ⟨A, hA⟩ : ∃ A, (i : Int) + 1 = A := ⟨_, rfl⟩
  rw [hA]
  have HA := Lib.hid hA
  have hcl := hd.cl; have hnm := hd.nm
  obtain ⟨W, hW⟩ : ∃ W, W = w.alloc (.cells (encTale z).toArray 39) := ⟨_, rfl⟩
  have XW : Hid (Ext w W) := Lib.hid (by rw [hW]; exact (Below.refl _ w).alloc (Nat.le_refl _) _)
  have BW : Hid (Blk W w.heap.size (encTale z) 39) := Lib.hid (by rw [hW]; exact Blk.new w _ _)
  have RW := Lib.hid (R.ext XW.out hB)
  have OL := Lib.hid (fun j h => R.own_lt (j := j) h)
  have HN := Lib.hid (name_calls z.d.name RW.out (Nat.le_trans hB XW.out.size) hcl hnm hfew)
  have HW := Lib.hid hW
  clear R hC hk hB hd hz hcl hnm hA hW hrn
  obtain ⟨⟨kind, index, cl, nm, acts, commit, reads⟩, node, group, term, ao, ac, ro, rc, lo, hi, ep, st, sc, se, so, sn, sp, co, cn, cp⟩ := z
  obtain rfl : kind = 6 := HKD.out
  unfold encTale at HW BW ⊢
  simp only at HW BW ⊢
  simp only [TaleD.name] at HN
  have hbw := BW.out
  have t0 := hbw.cell 0; have t5 := hbw.cell 5; have t6 := hbw.cell 6
  simp only [List.getElem?_cons_zero, List.getElem?_cons_succ] at t0 t5 t6
  clear hbw
  go_enter Tryz.func20, Tryz.ntmps20
  go_wp2_with fail
  rw [← HW.out]
  refine HN.out.mono ?_
  rintro e w2 ⟨v', r1, rfl, R1, n1, n2, n3, M1⟩
  have R1 := Lib.hid R1; have N1 := Lib.hid n1; have N2 := Lib.hid n2; have N3 := Lib.hid n3; have M1 := Lib.hid M1
  have hin : (cl, nm) ∈ r1.names := by
    rw [N1.out]
    by_cases e : (cl, nm) ∈ r.names
    · simp [e]
    · simp [e]
  have HIN := Lib.hid hin
  have B2 := Lib.hid (BW.out.but M1.out.but (fun e => by have := OL.out _ e; omega))
  obtain ⟨P, hP⟩ : ∃ P, r1.p (cl, nm) = P := ⟨_, rfl⟩
  rw [hP]
  have HP := Lib.hid hP
  obtain ⟨kz, hkz⟩ : ∃ kz, r1.kz (cl, nm) = kz := ⟨_, rfl⟩
  have HKZ := Lib.hid hkz
  have BK : Hid (Blk w2 P (encKn kz) 77) := Lib.hid (by rw [← hP, ← hkz]; exact (R1.out.kn _ hin).1)
  have KA : Hid (kz.at B w2) := Lib.hid (by rw [← hkz]; exact (R1.out.kn _ hin).2.2)
  have HB2 : Hid (B ≤ w2.heap.size) := Lib.hid (Nat.le_trans HB.out (Nat.le_trans XW.out.size M1.out.but.size))
  have ZB : Hid (Below B w w2) := Lib.hid ((XW.out.mono HB.out).trans (M1.out.but.below (Nat.le_trans HB.out XW.out.size) (fun j e => RW.out.own_ge e)))
  have RN : Hid (kz.k.reads.length ≤ 1000) := Lib.hid (by rw [← hkz, N2.out]; exact HRN.out)
  clear n1 n2 n3 hin hP hkz t0 t5 t6 HN HRN
  obtain ⟨⟨kcl, knm, kix, kdec, kcm, kreads, kacts, kcalled, kans⟩, kao, kac, kro, krc⟩ := kz
  have N3B : Hid (r1.bad = r1.bad) := Lib.hid rfl
  have hne : w.heap.size ≠ P := fun e => by
    have h1 := B2.out; have h2 := BK.out
    rw [e] at h1; unfold Blk at h1 h2; rw [h1] at h2; simp [encKn] at h2
  have hne2 : P ≠ w.heap.size := fun e => hne e.symm
  clear N3B
  cases kdec
  · cases hbd : r1.bad
    · have N3B := Lib.hid hbd
      clear hbd
      have hbk := BK.out; have hb2 := B2.out
      have k2 := (R1.out.blk).cell 2; have t8 := hb2.cell 8; have t9 := hb2.cell 9
      simp only [List.getElem?_cons_zero, List.getElem?_cons_succ, N3B.out] at k2 t8 t9
      have AG := Lib.hid (agrees_calls _ P commit reads ro rc w2 hbk (KA.out.2.mono HB2.out) ((ZA.out.2.ext ZB.out).mono HB2.out) (by show kreads.length ≤ 1000000; have := RN.out; simp only at this; omega))
      obtain ⟨G, hG⟩ : ∃ G, (!false || (decide (kcm = commit) && decide (kreads = reads))) = G := ⟨_, rfl⟩
      simp only [hG] at AG
      have HG := Lib.hid hG
      clear hG hbk hb2
      go_wp2_with fail
      refine AG.out.mono ?_
      rintro e wa ⟨rfl, hxa⟩
      have XA := Lib.hid hxa
      have RA := Lib.hid (R1.out.ext hxa HB2.out)
      clear hxa k2 t8 t9 AG
      have k2 := (RA.out.blk).cell 2; have fb2 := (RA.out.blk).free 2
      simp only [List.getElem?_cons_zero, List.getElem?_cons_succ, N3B.out] at k2
      have W3 := Lib.hid (RA.out.setBad (!G) (Nat.le_trans HB2.out XA.out.size))
      obtain ⟨w3, hw3⟩ : ∃ w3, w3 = wa.setCell ⟨rb, 2, none⟩ (.bool (!G)) := ⟨_, rfl⟩
      have H3 := Lib.hid hw3
      have R3 : Hid (ReadAt B w3 rb mb v' (r1.setBad (!G))) := Lib.hid (by rw [hw3]; exact W3.out)
      have M3 : Hid (MovesR rb mb v' v' r1 (r1.setBad (!G)) w2 w3) := Lib.hid (by rw [hw3]; exact (MovesR.ext XA.out).trans (MovesR.setBad _))
      have BD : Hid ((!G) = (r.bad || (decide ((6 : Int) = 6) && !(r.kz (cl, nm)).k.agrees ⟨6, index, cl, nm, acts, commit, reads⟩))) := Lib.hid (by rw [← N3.out, N3B.out, ← N2.out, HKZ.out]; show _ = (false || (decide ((6 : Int) = 6) && !(!false || (decide (kcm = commit) && decide (kreads = reads))))); rw [HG.out]; simp)
      clear hw3
      go_upto_region 13 with fail
      rw [← H3.out]
      clear k2 fb2
      have HB3 : Hid (B ≤ w3.heap.size) := Lib.hid (Nat.le_trans HB2.out M3.out.but.size)
      have BT3 := Lib.hid (B2.out.but M3.out.but (fun e => by
        rcases M1.out.own _ e with e | e
        · have := OL.out _ e; omega
        · have := BW.out.lt; omega))
      have ZB3 : Hid (Below B w w3) := Lib.hid (ZB.out.trans (M3.out.but.below HB2.out (fun j e => R1.out.own_ge e)))
      have BK3 : Hid (Blk w3 P (encKn ⟨⟨kcl, knm, kix, false, kcm, kreads, kacts, kcalled, kans⟩, kao, kac, kro, krc⟩) 77) := Lib.hid (by
        have := (R3.out.kn _ HIN.out).1
        have e1 : (r1.setBad (!G)).p (cl, nm) = P := HP.out
        have e2 : (r1.setBad (!G)).kz (cl, nm) = _ := HKZ.out
        rw [e1, e2] at this
        exact this)
      have KA4 : Hid (KnZ.at B w3 ⟨⟨kcl, knm, kix, false, kcm, kreads, kacts, kcalled, kans⟩, kao, kac, kro, krc⟩) := Lib.hid (KA.out.ext (M3.out.but.below HB2.out (fun j e => R1.out.own_ge e)))
      have hb3 := BT3.out; have hbk := BK3.out
      have t4 := ExtBy.cell (hb3.cell 4); have k2 := ExtBy.cell (hbk.cell 2); have k3 := ExtBy.cell (hbk.cell 3)
      clear hb3 hbk
      go_wp2_with fail
      refine wp_region_ext (by kernel_rfl) (by kernel_rfl) ?_
      repeat (go_big_quiet_step (fail))
      refine wpQuiet_nil ?_
      intro wc hw'
      have XC : Hid (Ext w3 wc) := Lib.hid (by obtain ⟨p, rfl⟩ := hw'; exact p.ext)
      clear hw' t4 k2 k3
      have BT4 := Lib.hid (BT3.out.ext' XC.out); have BK4 := Lib.hid (BK3.out.ext' XC.out); have R4 := Lib.hid (R3.out.ext XC.out HB3.out)
      have hb3 := BT4.out; have hbk := BK4.out
      have t4 := hb3.cell 4; have t8 := hb3.cell 8; have t9 := hb3.cell 9; have k2 := hbk.cell 2; have k3 := hbk.cell 3; have k4 := hbk.cell 4; have k5 := hbk.cell 5; have f2 := hbk.free 2; have f3 := hbk.free 3; have f4 := hbk.free 4; have f5 := hbk.free 5
      simp only [encKn, List.getElem?_cons_zero, List.getElem?_cons_succ] at t4 t8 t9 k2 k3 k4 k5
      clear hb3 hbk
      go_wp2_with fail
      go_region
      go_wp2_with fail
      go_end0
      have X3 : But (fun j => j = P) wc (((((wc.setCell ⟨P, 2, none⟩ (.int .i64 index)).setCell ⟨P, 3, none⟩ (.bool true)).setCell ⟨P, 4, none⟩ (.bool commit)).setCell ⟨P, 5, none⟩ (.slice ro reads.length rc)).drew) := ((((((But.refl (fun j => j = P) wc).setCell (fun _ => rfl) _).setCell (fun _ => rfl) _).setCell (fun _ => rfl) _).setCell (fun _ => rfl) _).drew)
      have RU := Lib.hid (R4.out.upd HIN.out (z := ⟨⟨kcl, knm, index, true, commit, reads, kacts, kcalled, kans⟩, kao, kac, ro, rc⟩) (w' := (((((wc.setCell ⟨P, 2, none⟩ (.int .i64 index)).setCell ⟨P, 3, none⟩ (.bool true)).setCell ⟨P, 4, none⟩ (.bool commit)).setCell ⟨P, 5, none⟩ (.slice ro reads.length rc)).drew)) (by show But (fun j => j = r1.p (cl, nm)) _ _; rw [HP.out]; exact X3)
        (by show Blk _ (r1.p (cl, nm)) _ _; rw [HP.out]; exact (((((BK4.out.set 2 (.int .i64 index)).set 3 (.bool true)).set 4 (.bool commit)).set 5 (.slice ro reads.length rc)).drew)) ⟨KA4.out.1.ext (XC.out.mono HB3.out), ((ZA.out.2).ext ZB3.out).ext (XC.out.mono HB3.out)⟩ (Nat.le_trans HB3.out XC.out.size))
      refine tale_end HC.out N1.out N2.out RU.out rfl ?_ (fun m hm => if_neg hm) ?_ ((MovesR.ext XW.out).trans M1.out) ((M3.out.trans (MovesR.ext XC.out)).trans (MovesR.upd (r := r1.setBad (!G)) (show (cl, nm) ∈ (r1.setBad (!G)).names from HIN.out) (by show But (fun j => j = r1.p (cl, nm)) _ _; rw [HP.out]; exact X3)))
      · show (if (cl, nm) = (cl, nm) then _ else _) = KnZ.tell (r1.kz (cl, nm)) i _
        rw [if_pos rfl, HKZ.out]
        unfold KnZ.tell KnD.tell
        simp
      · exact BD.out
    · have N3B := Lib.hid hbd
      clear hbd
      have k2 := (R1.out.blk).cell 2; have fb2 := (R1.out.blk).free 2
      simp only [List.getElem?_cons_zero, List.getElem?_cons_succ, N3B.out] at k2
      have W3 := Lib.hid (R1.out.setBad true HB2.out)
      obtain ⟨w3, hw3⟩ : ∃ w3, w3 = w2.setCell ⟨rb, 2, none⟩ (.bool true) := ⟨_, rfl⟩
      have H3 := Lib.hid hw3
      have R3 : Hid (ReadAt B w3 rb mb v' (r1.setBad true)) := Lib.hid (by rw [hw3]; exact W3.out)
      have M3 : Hid (MovesR rb mb v' v' r1 (r1.setBad true) w2 w3) := Lib.hid (by rw [hw3]; exact MovesR.setBad _)
      have BD : Hid (true = (r.bad || (decide ((6 : Int) = 6) && !(r.kz (cl, nm)).k.agrees ⟨6, index, cl, nm, acts, commit, reads⟩))) := Lib.hid (by rw [← N3.out, N3B.out]; rfl)
      clear hw3
      go_upto_region 13 with fail
      rw [← H3.out]
      clear k2 fb2
      have HB3 : Hid (B ≤ w3.heap.size) := Lib.hid (Nat.le_trans HB2.out M3.out.but.size)
      have BT3 := Lib.hid (B2.out.but M3.out.but (fun e => by
        rcases M1.out.own _ e with e | e
        · have := OL.out _ e; omega
        · have := BW.out.lt; omega))
      have ZB3 : Hid (Below B w w3) := Lib.hid (ZB.out.trans (M3.out.but.below HB2.out (fun j e => R1.out.own_ge e)))
      have BK3 : Hid (Blk w3 P (encKn ⟨⟨kcl, knm, kix, false, kcm, kreads, kacts, kcalled, kans⟩, kao, kac, kro, krc⟩) 77) := Lib.hid (by
        have := (R3.out.kn _ HIN.out).1
        have e1 : (r1.setBad true).p (cl, nm) = P := HP.out
        have e2 : (r1.setBad true).kz (cl, nm) = _ := HKZ.out
        rw [e1, e2] at this
        exact this)
      have KA4 : Hid (KnZ.at B w3 ⟨⟨kcl, knm, kix, false, kcm, kreads, kacts, kcalled, kans⟩, kao, kac, kro, krc⟩) := Lib.hid (KA.out.ext (M3.out.but.below HB2.out (fun j e => R1.out.own_ge e)))
      have hb3 := BT3.out; have hbk := BK3.out
      have t4 := ExtBy.cell (hb3.cell 4); have k2 := ExtBy.cell (hbk.cell 2); have k3 := ExtBy.cell (hbk.cell 3)
      clear hb3 hbk
      go_wp2_with fail
      refine wp_region_ext (by kernel_rfl) (by kernel_rfl) ?_
      repeat (go_big_quiet_step (fail))
      refine wpQuiet_nil ?_
      intro wc hw'
      have XC : Hid (Ext w3 wc) := Lib.hid (by obtain ⟨p, rfl⟩ := hw'; exact p.ext)
      clear hw' t4 k2 k3
      have BT4 := Lib.hid (BT3.out.ext' XC.out); have BK4 := Lib.hid (BK3.out.ext' XC.out); have R4 := Lib.hid (R3.out.ext XC.out HB3.out)
      have hb3 := BT4.out; have hbk := BK4.out
      have t4 := hb3.cell 4; have t8 := hb3.cell 8; have t9 := hb3.cell 9; have k2 := hbk.cell 2; have k3 := hbk.cell 3; have k4 := hbk.cell 4; have k5 := hbk.cell 5; have f2 := hbk.free 2; have f3 := hbk.free 3; have f4 := hbk.free 4; have f5 := hbk.free 5
      simp only [encKn, List.getElem?_cons_zero, List.getElem?_cons_succ] at t4 t8 t9 k2 k3 k4 k5
      clear hb3 hbk
      go_wp2_with fail
      go_region
      go_wp2_with fail
      go_end0
      have X3 : But (fun j => j = P) wc (((((wc.setCell ⟨P, 2, none⟩ (.int .i64 index)).setCell ⟨P, 3, none⟩ (.bool true)).setCell ⟨P, 4, none⟩ (.bool commit)).setCell ⟨P, 5, none⟩ (.slice ro reads.length rc)).drew) := ((((((But.refl (fun j => j = P) wc).setCell (fun _ => rfl) _).setCell (fun _ => rfl) _).setCell (fun _ => rfl) _).setCell (fun _ => rfl) _).drew)
      have RU := Lib.hid (R4.out.upd HIN.out (z := ⟨⟨kcl, knm, index, true, commit, reads, kacts, kcalled, kans⟩, kao, kac, ro, rc⟩) (w' := (((((wc.setCell ⟨P, 2, none⟩ (.int .i64 index)).setCell ⟨P, 3, none⟩ (.bool true)).setCell ⟨P, 4, none⟩ (.bool commit)).setCell ⟨P, 5, none⟩ (.slice ro reads.length rc)).drew)) (by show But (fun j => j = r1.p (cl, nm)) _ _; rw [HP.out]; exact X3)
        (by show Blk _ (r1.p (cl, nm)) _ _; rw [HP.out]; exact (((((BK4.out.set 2 (.int .i64 index)).set 3 (.bool true)).set 4 (.bool commit)).set 5 (.slice ro reads.length rc)).drew)) ⟨KA4.out.1.ext (XC.out.mono HB3.out), ((ZA.out.2).ext ZB3.out).ext (XC.out.mono HB3.out)⟩ (Nat.le_trans HB3.out XC.out.size))
      refine tale_end HC.out N1.out N2.out RU.out rfl ?_ (fun m hm => if_neg hm) ?_ ((MovesR.ext XW.out).trans M1.out) ((M3.out.trans (MovesR.ext XC.out)).trans (MovesR.upd (r := r1.setBad true) (show (cl, nm) ∈ (r1.setBad true).names from HIN.out) (by show But (fun j => j = r1.p (cl, nm)) _ _; rw [HP.out]; exact X3)))
      · show (if (cl, nm) = (cl, nm) then _ else _) = KnZ.tell (r1.kz (cl, nm)) i _
        rw [if_pos rfl, HKZ.out]
        unfold KnZ.tell KnD.tell
        simp
      · exact BD.out
  · by_cases hlt : index < kix
    · have IX : Hid (index < kix) := Lib.hid hlt
      cases hbd : r1.bad
      · have N3B := Lib.hid hbd
        clear hbd
        have hbk := BK.out; have hb2 := B2.out
        have k2 := (R1.out.blk).cell 2; have t8 := hb2.cell 8; have t9 := hb2.cell 9
        simp only [List.getElem?_cons_zero, List.getElem?_cons_succ, N3B.out] at k2 t8 t9
        have AG := Lib.hid (agrees_calls _ P commit reads ro rc w2 hbk (KA.out.2.mono HB2.out) ((ZA.out.2.ext ZB.out).mono HB2.out) (by show kreads.length ≤ 1000000; have := RN.out; simp only at this; omega))
        obtain ⟨G, hG⟩ : ∃ G, (!true || (decide (kcm = commit) && decide (kreads = reads))) = G := ⟨_, rfl⟩
        simp only [hG] at AG
        have HG := Lib.hid hG
        clear hG hbk hb2
        go_wp2_with fail
        refine AG.out.mono ?_
        rintro e wa ⟨rfl, hxa⟩
        have XA := Lib.hid hxa
        have RA := Lib.hid (R1.out.ext hxa HB2.out)
        clear hxa k2 t8 t9 AG
        have k2 := (RA.out.blk).cell 2; have fb2 := (RA.out.blk).free 2
        simp only [List.getElem?_cons_zero, List.getElem?_cons_succ, N3B.out] at k2
        have W3 := Lib.hid (RA.out.setBad (!G) (Nat.le_trans HB2.out XA.out.size))
        obtain ⟨w3, hw3⟩ : ∃ w3, w3 = wa.setCell ⟨rb, 2, none⟩ (.bool (!G)) := ⟨_, rfl⟩
        have H3 := Lib.hid hw3
        have R3 : Hid (ReadAt B w3 rb mb v' (r1.setBad (!G))) := Lib.hid (by rw [hw3]; exact W3.out)
        have M3 : Hid (MovesR rb mb v' v' r1 (r1.setBad (!G)) w2 w3) := Lib.hid (by rw [hw3]; exact (MovesR.ext XA.out).trans (MovesR.setBad _))
        have BD : Hid ((!G) = (r.bad || (decide ((6 : Int) = 6) && !(r.kz (cl, nm)).k.agrees ⟨6, index, cl, nm, acts, commit, reads⟩))) := Lib.hid (by rw [← N3.out, N3B.out, ← N2.out, HKZ.out]; show _ = (false || (decide ((6 : Int) = 6) && !(!true || (decide (kcm = commit) && decide (kreads = reads))))); rw [HG.out]; simp)
        clear hw3
        go_upto_region 13 with fail
        rw [← H3.out]
        clear k2 fb2
        have HB3 : Hid (B ≤ w3.heap.size) := Lib.hid (Nat.le_trans HB2.out M3.out.but.size)
        have BT3 := Lib.hid (B2.out.but M3.out.but (fun e => by
          rcases M1.out.own _ e with e | e
          · have := OL.out _ e; omega
          · have := BW.out.lt; omega))
        have ZB3 : Hid (Below B w w3) := Lib.hid (ZB.out.trans (M3.out.but.below HB2.out (fun j e => R1.out.own_ge e)))
        have BK3 : Hid (Blk w3 P (encKn ⟨⟨kcl, knm, kix, true, kcm, kreads, kacts, kcalled, kans⟩, kao, kac, kro, krc⟩) 77) := Lib.hid (by
          have := (R3.out.kn _ HIN.out).1
          have e1 : (r1.setBad (!G)).p (cl, nm) = P := HP.out
          have e2 : (r1.setBad (!G)).kz (cl, nm) = _ := HKZ.out
          rw [e1, e2] at this
          exact this)
        have KA4 : Hid (KnZ.at B w3 ⟨⟨kcl, knm, kix, true, kcm, kreads, kacts, kcalled, kans⟩, kao, kac, kro, krc⟩) := Lib.hid (KA.out.ext (M3.out.but.below HB2.out (fun j e => R1.out.own_ge e)))
        have hb3 := BT3.out; have hbk := BK3.out
        have t4 := ExtBy.cell (hb3.cell 4); have k2 := ExtBy.cell (hbk.cell 2); have k3 := ExtBy.cell (hbk.cell 3)
        clear hb3 hbk
        go_wp2_with fail
        refine wp_region_ext (by kernel_rfl) (by kernel_rfl) ?_
        repeat (go_big_quiet_step (fail))
        refine wpQuiet_nil ?_
        intro wc hw'
        have XC : Hid (Ext w3 wc) := Lib.hid (by obtain ⟨p, rfl⟩ := hw'; exact p.ext)
        clear hw' t4 k2 k3
        have BT4 := Lib.hid (BT3.out.ext' XC.out); have BK4 := Lib.hid (BK3.out.ext' XC.out); have R4 := Lib.hid (R3.out.ext XC.out HB3.out)
        have hb3 := BT4.out; have hbk := BK4.out
        have t4 := hb3.cell 4; have t8 := hb3.cell 8; have t9 := hb3.cell 9; have k2 := hbk.cell 2; have k3 := hbk.cell 3; have k4 := hbk.cell 4; have k5 := hbk.cell 5; have f2 := hbk.free 2; have f3 := hbk.free 3; have f4 := hbk.free 4; have f5 := hbk.free 5
        simp only [encKn, List.getElem?_cons_zero, List.getElem?_cons_succ] at t4 t8 t9 k2 k3 k4 k5
        clear hb3 hbk
        go_wp2_with fail
        go_region
        go_wp2_with fail
        go_end0
        have X3 : But (fun j => j = P) wc (((((wc.setCell ⟨P, 2, none⟩ (.int .i64 index)).setCell ⟨P, 3, none⟩ (.bool true)).setCell ⟨P, 4, none⟩ (.bool commit)).setCell ⟨P, 5, none⟩ (.slice ro reads.length rc)).drew) := ((((((But.refl (fun j => j = P) wc).setCell (fun _ => rfl) _).setCell (fun _ => rfl) _).setCell (fun _ => rfl) _).setCell (fun _ => rfl) _).drew)
        have RU := Lib.hid (R4.out.upd HIN.out (z := ⟨⟨kcl, knm, index, true, commit, reads, kacts, kcalled, kans⟩, kao, kac, ro, rc⟩) (w' := (((((wc.setCell ⟨P, 2, none⟩ (.int .i64 index)).setCell ⟨P, 3, none⟩ (.bool true)).setCell ⟨P, 4, none⟩ (.bool commit)).setCell ⟨P, 5, none⟩ (.slice ro reads.length rc)).drew)) (by show But (fun j => j = r1.p (cl, nm)) _ _; rw [HP.out]; exact X3)
          (by show Blk _ (r1.p (cl, nm)) _ _; rw [HP.out]; exact (((((BK4.out.set 2 (.int .i64 index)).set 3 (.bool true)).set 4 (.bool commit)).set 5 (.slice ro reads.length rc)).drew)) ⟨KA4.out.1.ext (XC.out.mono HB3.out), ((ZA.out.2).ext ZB3.out).ext (XC.out.mono HB3.out)⟩ (Nat.le_trans HB3.out XC.out.size))
        refine tale_end HC.out N1.out N2.out RU.out rfl ?_ (fun m hm => if_neg hm) ?_ ((MovesR.ext XW.out).trans M1.out) ((M3.out.trans (MovesR.ext XC.out)).trans (MovesR.upd (r := r1.setBad (!G)) (show (cl, nm) ∈ (r1.setBad (!G)).names from HIN.out) (by show But (fun j => j = r1.p (cl, nm)) _ _; rw [HP.out]; exact X3)))
        · show (if (cl, nm) = (cl, nm) then _ else _) = KnZ.tell (r1.kz (cl, nm)) i _
          rw [if_pos rfl, HKZ.out]
          unfold KnZ.tell KnD.tell
          simp [IX.out]
        · exact BD.out
      · have N3B := Lib.hid hbd
        clear hbd
        have k2 := (R1.out.blk).cell 2; have fb2 := (R1.out.blk).free 2
        simp only [List.getElem?_cons_zero, List.getElem?_cons_succ, N3B.out] at k2
        have W3 := Lib.hid (R1.out.setBad true HB2.out)
        obtain ⟨w3, hw3⟩ : ∃ w3, w3 = w2.setCell ⟨rb, 2, none⟩ (.bool true) := ⟨_, rfl⟩
        have H3 := Lib.hid hw3
        have R3 : Hid (ReadAt B w3 rb mb v' (r1.setBad true)) := Lib.hid (by rw [hw3]; exact W3.out)
        have M3 : Hid (MovesR rb mb v' v' r1 (r1.setBad true) w2 w3) := Lib.hid (by rw [hw3]; exact MovesR.setBad _)
        have BD : Hid (true = (r.bad || (decide ((6 : Int) = 6) && !(r.kz (cl, nm)).k.agrees ⟨6, index, cl, nm, acts, commit, reads⟩))) := Lib.hid (by rw [← N3.out, N3B.out]; rfl)
        clear hw3
        go_upto_region 13 with fail
        rw [← H3.out]
        clear k2 fb2
        have HB3 : Hid (B ≤ w3.heap.size) := Lib.hid (Nat.le_trans HB2.out M3.out.but.size)
        have BT3 := Lib.hid (B2.out.but M3.out.but (fun e => by
          rcases M1.out.own _ e with e | e
          · have := OL.out _ e; omega
          · have := BW.out.lt; omega))
        have ZB3 : Hid (Below B w w3) := Lib.hid (ZB.out.trans (M3.out.but.below HB2.out (fun j e => R1.out.own_ge e)))
        have BK3 : Hid (Blk w3 P (encKn ⟨⟨kcl, knm, kix, true, kcm, kreads, kacts, kcalled, kans⟩, kao, kac, kro, krc⟩) 77) := Lib.hid (by
          have := (R3.out.kn _ HIN.out).1
          have e1 : (r1.setBad true).p (cl, nm) = P := HP.out
          have e2 : (r1.setBad true).kz (cl, nm) = _ := HKZ.out
          rw [e1, e2] at this
          exact this)
        have KA4 : Hid (KnZ.at B w3 ⟨⟨kcl, knm, kix, true, kcm, kreads, kacts, kcalled, kans⟩, kao, kac, kro, krc⟩) := Lib.hid (KA.out.ext (M3.out.but.below HB2.out (fun j e => R1.out.own_ge e)))
        have hb3 := BT3.out; have hbk := BK3.out
        have t4 := ExtBy.cell (hb3.cell 4); have k2 := ExtBy.cell (hbk.cell 2); have k3 := ExtBy.cell (hbk.cell 3)
        clear hb3 hbk
        go_wp2_with fail
        refine wp_region_ext (by kernel_rfl) (by kernel_rfl) ?_
        repeat (go_big_quiet_step (fail))
        refine wpQuiet_nil ?_
        intro wc hw'
        have XC : Hid (Ext w3 wc) := Lib.hid (by obtain ⟨p, rfl⟩ := hw'; exact p.ext)
        clear hw' t4 k2 k3
        have BT4 := Lib.hid (BT3.out.ext' XC.out); have BK4 := Lib.hid (BK3.out.ext' XC.out); have R4 := Lib.hid (R3.out.ext XC.out HB3.out)
        have hb3 := BT4.out; have hbk := BK4.out
        have t4 := hb3.cell 4; have t8 := hb3.cell 8; have t9 := hb3.cell 9; have k2 := hbk.cell 2; have k3 := hbk.cell 3; have k4 := hbk.cell 4; have k5 := hbk.cell 5; have f2 := hbk.free 2; have f3 := hbk.free 3; have f4 := hbk.free 4; have f5 := hbk.free 5
        simp only [encKn, List.getElem?_cons_zero, List.getElem?_cons_succ] at t4 t8 t9 k2 k3 k4 k5
        clear hb3 hbk
        go_wp2_with fail
        go_region
        go_wp2_with fail
        go_end0
        have X3 : But (fun j => j = P) wc (((((wc.setCell ⟨P, 2, none⟩ (.int .i64 index)).setCell ⟨P, 3, none⟩ (.bool true)).setCell ⟨P, 4, none⟩ (.bool commit)).setCell ⟨P, 5, none⟩ (.slice ro reads.length rc)).drew) := ((((((But.refl (fun j => j = P) wc).setCell (fun _ => rfl) _).setCell (fun _ => rfl) _).setCell (fun _ => rfl) _).setCell (fun _ => rfl) _).drew)
        have RU := Lib.hid (R4.out.upd HIN.out (z := ⟨⟨kcl, knm, index, true, commit, reads, kacts, kcalled, kans⟩, kao, kac, ro, rc⟩) (w' := (((((wc.setCell ⟨P, 2, none⟩ (.int .i64 index)).setCell ⟨P, 3, none⟩ (.bool true)).setCell ⟨P, 4, none⟩ (.bool commit)).setCell ⟨P, 5, none⟩ (.slice ro reads.length rc)).drew)) (by show But (fun j => j = r1.p (cl, nm)) _ _; rw [HP.out]; exact X3)
          (by show Blk _ (r1.p (cl, nm)) _ _; rw [HP.out]; exact (((((BK4.out.set 2 (.int .i64 index)).set 3 (.bool true)).set 4 (.bool commit)).set 5 (.slice ro reads.length rc)).drew)) ⟨KA4.out.1.ext (XC.out.mono HB3.out), ((ZA.out.2).ext ZB3.out).ext (XC.out.mono HB3.out)⟩ (Nat.le_trans HB3.out XC.out.size))
        refine tale_end HC.out N1.out N2.out RU.out rfl ?_ (fun m hm => if_neg hm) ?_ ((MovesR.ext XW.out).trans M1.out) ((M3.out.trans (MovesR.ext XC.out)).trans (MovesR.upd (r := r1.setBad true) (show (cl, nm) ∈ (r1.setBad true).names from HIN.out) (by show But (fun j => j = r1.p (cl, nm)) _ _; rw [HP.out]; exact X3)))
        · show (if (cl, nm) = (cl, nm) then _ else _) = KnZ.tell (r1.kz (cl, nm)) i _
          rw [if_pos rfl, HKZ.out]
          unfold KnZ.tell KnD.tell
          simp [IX.out]
        · exact BD.out
    · have IX : Hid (¬ index < kix) := Lib.hid hlt
      have hge : kix ≤ index := by omega
      clear hlt
      cases hbd : r1.bad
      · have N3B := Lib.hid hbd
        clear hbd
        have hbk := BK.out; have hb2 := B2.out
        have k2 := (R1.out.blk).cell 2; have t8 := hb2.cell 8; have t9 := hb2.cell 9
        simp only [List.getElem?_cons_zero, List.getElem?_cons_succ, N3B.out] at k2 t8 t9
        have AG := Lib.hid (agrees_calls _ P commit reads ro rc w2 hbk (KA.out.2.mono HB2.out) ((ZA.out.2.ext ZB.out).mono HB2.out) (by show kreads.length ≤ 1000000; have := RN.out; simp only at this; omega))
        obtain ⟨G, hG⟩ : ∃ G, (!true || (decide (kcm = commit) && decide (kreads = reads))) = G := ⟨_, rfl⟩
        simp only [hG] at AG
        have HG := Lib.hid hG
        clear hG hbk hb2
        go_wp2_with fail
        refine AG.out.mono ?_
        rintro e wa ⟨rfl, hxa⟩
        have XA := Lib.hid hxa
        have RA := Lib.hid (R1.out.ext hxa HB2.out)
        clear hxa k2 t8 t9 AG
        have k2 := (RA.out.blk).cell 2; have fb2 := (RA.out.blk).free 2
        simp only [List.getElem?_cons_zero, List.getElem?_cons_succ, N3B.out] at k2
        have W3 := Lib.hid (RA.out.setBad (!G) (Nat.le_trans HB2.out XA.out.size))
        obtain ⟨w3, hw3⟩ : ∃ w3, w3 = wa.setCell ⟨rb, 2, none⟩ (.bool (!G)) := ⟨_, rfl⟩
        have H3 := Lib.hid hw3
        have R3 : Hid (ReadAt B w3 rb mb v' (r1.setBad (!G))) := Lib.hid (by rw [hw3]; exact W3.out)
        have M3 : Hid (MovesR rb mb v' v' r1 (r1.setBad (!G)) w2 w3) := Lib.hid (by rw [hw3]; exact (MovesR.ext XA.out).trans (MovesR.setBad _))
        have BD : Hid ((!G) = (r.bad || (decide ((6 : Int) = 6) && !(r.kz (cl, nm)).k.agrees ⟨6, index, cl, nm, acts, commit, reads⟩))) := Lib.hid (by rw [← N3.out, N3B.out, ← N2.out, HKZ.out]; show _ = (false || (decide ((6 : Int) = 6) && !(!true || (decide (kcm = commit) && decide (kreads = reads))))); rw [HG.out]; simp)
        clear hw3
        go_upto_region 13 with fail
        rw [← H3.out]
        clear k2 fb2
        have HB3 : Hid (B ≤ w3.heap.size) := Lib.hid (Nat.le_trans HB2.out M3.out.but.size)
        have BT3 := Lib.hid (B2.out.but M3.out.but (fun e => by
          rcases M1.out.own _ e with e | e
          · have := OL.out _ e; omega
          · have := BW.out.lt; omega))
        have ZB3 : Hid (Below B w w3) := Lib.hid (ZB.out.trans (M3.out.but.below HB2.out (fun j e => R1.out.own_ge e)))
        have BK3 : Hid (Blk w3 P (encKn ⟨⟨kcl, knm, kix, true, kcm, kreads, kacts, kcalled, kans⟩, kao, kac, kro, krc⟩) 77) := Lib.hid (by
          have := (R3.out.kn _ HIN.out).1
          have e1 : (r1.setBad (!G)).p (cl, nm) = P := HP.out
          have e2 : (r1.setBad (!G)).kz (cl, nm) = _ := HKZ.out
          rw [e1, e2] at this
          exact this)
        have KA4 : Hid (KnZ.at B w3 ⟨⟨kcl, knm, kix, true, kcm, kreads, kacts, kcalled, kans⟩, kao, kac, kro, krc⟩) := Lib.hid (KA.out.ext (M3.out.but.below HB2.out (fun j e => R1.out.own_ge e)))
        have hb3 := BT3.out; have hbk := BK3.out
        have t4 := ExtBy.cell (hb3.cell 4); have k2 := ExtBy.cell (hbk.cell 2); have k3 := ExtBy.cell (hbk.cell 3)
        clear hb3 hbk
        go_wp2_with fail
        refine wp_region_ext (by kernel_rfl) (by kernel_rfl) ?_
        repeat (go_big_quiet_step (fail))
        refine wpQuiet_nil ?_
        intro wc hw'
        have XC : Hid (Ext w3 wc) := Lib.hid (by obtain ⟨p, rfl⟩ := hw'; exact p.ext)
        clear hw' t4 k2 k3
        have BT4 := Lib.hid (BT3.out.ext' XC.out); have BK4 := Lib.hid (BK3.out.ext' XC.out); have R4 := Lib.hid (R3.out.ext XC.out HB3.out)
        have hb3 := BT4.out; have hbk := BK4.out
        have t4 := hb3.cell 4; have t8 := hb3.cell 8; have t9 := hb3.cell 9; have k2 := hbk.cell 2; have k3 := hbk.cell 3; have k4 := hbk.cell 4; have k5 := hbk.cell 5; have f2 := hbk.free 2; have f3 := hbk.free 3; have f4 := hbk.free 4; have f5 := hbk.free 5
        simp only [encKn, List.getElem?_cons_zero, List.getElem?_cons_succ] at t4 t8 t9 k2 k3 k4 k5
        clear hb3 hbk
        go_wp2_with fail
        go_region
        go_wp2_with fail
        go_end0
        have X3 : But (fun j => j = P) wc ((((wc.setCell ⟨P, 3, none⟩ (.bool true)).setCell ⟨P, 4, none⟩ (.bool commit)).setCell ⟨P, 5, none⟩ (.slice ro reads.length rc)).drew) := (((((But.refl (fun j => j = P) wc).setCell (fun _ => rfl) _).setCell (fun _ => rfl) _).setCell (fun _ => rfl) _).drew)
        have RU := Lib.hid (R4.out.upd HIN.out (z := ⟨⟨kcl, knm, kix, true, commit, reads, kacts, kcalled, kans⟩, kao, kac, ro, rc⟩) (w' := ((((wc.setCell ⟨P, 3, none⟩ (.bool true)).setCell ⟨P, 4, none⟩ (.bool commit)).setCell ⟨P, 5, none⟩ (.slice ro reads.length rc)).drew)) (by show But (fun j => j = r1.p (cl, nm)) _ _; rw [HP.out]; exact X3)
          (by show Blk _ (r1.p (cl, nm)) _ _; rw [HP.out]; exact ((((BK4.out.set 3 (.bool true)).set 4 (.bool commit)).set 5 (.slice ro reads.length rc)).drew)) ⟨KA4.out.1.ext (XC.out.mono HB3.out), ((ZA.out.2).ext ZB3.out).ext (XC.out.mono HB3.out)⟩ (Nat.le_trans HB3.out XC.out.size))
        refine tale_end HC.out N1.out N2.out RU.out rfl ?_ (fun m hm => if_neg hm) ?_ ((MovesR.ext XW.out).trans M1.out) ((M3.out.trans (MovesR.ext XC.out)).trans (MovesR.upd (r := r1.setBad (!G)) (show (cl, nm) ∈ (r1.setBad (!G)).names from HIN.out) (by show But (fun j => j = r1.p (cl, nm)) _ _; rw [HP.out]; exact X3)))
        · show (if (cl, nm) = (cl, nm) then _ else _) = KnZ.tell (r1.kz (cl, nm)) i _
          rw [if_pos rfl, HKZ.out]
          unfold KnZ.tell KnD.tell
          simp; intro h; have := IX.out; omega
        · exact BD.out
      · have N3B := Lib.hid hbd
        clear hbd
        have k2 := (R1.out.blk).cell 2; have fb2 := (R1.out.blk).free 2
        simp only [List.getElem?_cons_zero, List.getElem?_cons_succ, N3B.out] at k2
        have W3 := Lib.hid (R1.out.setBad true HB2.out)
        obtain ⟨w3, hw3⟩ : ∃ w3, w3 = w2.setCell ⟨rb, 2, none⟩ (.bool true) := ⟨_, rfl⟩
        have H3 := Lib.hid hw3
        have R3 : Hid (ReadAt B w3 rb mb v' (r1.setBad true)) := Lib.hid (by rw [hw3]; exact W3.out)
        have M3 : Hid (MovesR rb mb v' v' r1 (r1.setBad true) w2 w3) := Lib.hid (by rw [hw3]; exact MovesR.setBad _)
        have BD : Hid (true = (r.bad || (decide ((6 : Int) = 6) && !(r.kz (cl, nm)).k.agrees ⟨6, index, cl, nm, acts, commit, reads⟩))) := Lib.hid (by rw [← N3.out, N3B.out]; rfl)
        clear hw3
        go_upto_region 13 with fail
        rw [← H3.out]
        clear k2 fb2
        have HB3 : Hid (B ≤ w3.heap.size) := Lib.hid (Nat.le_trans HB2.out M3.out.but.size)
        have BT3 := Lib.hid (B2.out.but M3.out.but (fun e => by
          rcases M1.out.own _ e with e | e
          · have := OL.out _ e; omega
          · have := BW.out.lt; omega))
        have ZB3 : Hid (Below B w w3) := Lib.hid (ZB.out.trans (M3.out.but.below HB2.out (fun j e => R1.out.own_ge e)))
        have BK3 : Hid (Blk w3 P (encKn ⟨⟨kcl, knm, kix, true, kcm, kreads, kacts, kcalled, kans⟩, kao, kac, kro, krc⟩) 77) := Lib.hid (by
          have := (R3.out.kn _ HIN.out).1
          have e1 : (r1.setBad true).p (cl, nm) = P := HP.out
          have e2 : (r1.setBad true).kz (cl, nm) = _ := HKZ.out
          rw [e1, e2] at this
          exact this)
        have KA4 : Hid (KnZ.at B w3 ⟨⟨kcl, knm, kix, true, kcm, kreads, kacts, kcalled, kans⟩, kao, kac, kro, krc⟩) := Lib.hid (KA.out.ext (M3.out.but.below HB2.out (fun j e => R1.out.own_ge e)))
        have hb3 := BT3.out; have hbk := BK3.out
        have t4 := ExtBy.cell (hb3.cell 4); have k2 := ExtBy.cell (hbk.cell 2); have k3 := ExtBy.cell (hbk.cell 3)
        clear hb3 hbk
        go_wp2_with fail
        refine wp_region_ext (by kernel_rfl) (by kernel_rfl) ?_
        repeat (go_big_quiet_step (fail))
        refine wpQuiet_nil ?_
        intro wc hw'
        have XC : Hid (Ext w3 wc) := Lib.hid (by obtain ⟨p, rfl⟩ := hw'; exact p.ext)
        clear hw' t4 k2 k3
        have BT4 := Lib.hid (BT3.out.ext' XC.out); have BK4 := Lib.hid (BK3.out.ext' XC.out); have R4 := Lib.hid (R3.out.ext XC.out HB3.out)
        have hb3 := BT4.out; have hbk := BK4.out
        have t4 := hb3.cell 4; have t8 := hb3.cell 8; have t9 := hb3.cell 9; have k2 := hbk.cell 2; have k3 := hbk.cell 3; have k4 := hbk.cell 4; have k5 := hbk.cell 5; have f2 := hbk.free 2; have f3 := hbk.free 3; have f4 := hbk.free 4; have f5 := hbk.free 5
        simp only [encKn, List.getElem?_cons_zero, List.getElem?_cons_succ] at t4 t8 t9 k2 k3 k4 k5
        clear hb3 hbk
        go_wp2_with fail
        go_region
        go_wp2_with fail
        go_end0
        have X3 : But (fun j => j = P) wc ((((wc.setCell ⟨P, 3, none⟩ (.bool true)).setCell ⟨P, 4, none⟩ (.bool commit)).setCell ⟨P, 5, none⟩ (.slice ro reads.length rc)).drew) := (((((But.refl (fun j => j = P) wc).setCell (fun _ => rfl) _).setCell (fun _ => rfl) _).setCell (fun _ => rfl) _).drew)
        have RU := Lib.hid (R4.out.upd HIN.out (z := ⟨⟨kcl, knm, kix, true, commit, reads, kacts, kcalled, kans⟩, kao, kac, ro, rc⟩) (w' := ((((wc.setCell ⟨P, 3, none⟩ (.bool true)).setCell ⟨P, 4, none⟩ (.bool commit)).setCell ⟨P, 5, none⟩ (.slice ro reads.length rc)).drew)) (by show But (fun j => j = r1.p (cl, nm)) _ _; rw [HP.out]; exact X3)
          (by show Blk _ (r1.p (cl, nm)) _ _; rw [HP.out]; exact ((((BK4.out.set 3 (.bool true)).set 4 (.bool commit)).set 5 (.slice ro reads.length rc)).drew)) ⟨KA4.out.1.ext (XC.out.mono HB3.out), ((ZA.out.2).ext ZB3.out).ext (XC.out.mono HB3.out)⟩ (Nat.le_trans HB3.out XC.out.size))
        refine tale_end HC.out N1.out N2.out RU.out rfl ?_ (fun m hm => if_neg hm) ?_ ((MovesR.ext XW.out).trans M1.out) ((M3.out.trans (MovesR.ext XC.out)).trans (MovesR.upd (r := r1.setBad true) (show (cl, nm) ∈ (r1.setBad true).names from HIN.out) (by show But (fun j => j = r1.p (cl, nm)) _ _; rw [HP.out]; exact X3)))
        · show (if (cl, nm) = (cl, nm) then _ else _) = KnZ.tell (r1.kz (cl, nm)) i _
          rw [if_pos rfl, HKZ.out]
          unfold KnZ.tell KnD.tell
          simp; intro h; have := IX.out; omega
        · exact BD.out
end Go.Proofs.YtbnclifpdmpjnaaGreatDoor
