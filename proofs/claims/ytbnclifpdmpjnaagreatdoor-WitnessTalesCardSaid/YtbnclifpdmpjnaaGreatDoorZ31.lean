/- A tale taken: witness.read.tale; a reply held against what was decided. -/
import Derived.Test.YtbnclifpdmpjnaaGreatDoorZ26
namespace Go.Proofs.YtbnclifpdmpjnaaGreatDoor
open Go.RowKit
open Go.Maps (Keyed)
variable {B rb mb : Nat} {w w' : World} {v : Value} {r : RdS}
theorem name_calls (n : Int × Int) (R : ReadAt B w rb mb v r) (hB : B ≤ w.heap.size) (hc : i64B n.1) (hn : i64B n.2) (hfew : r.names.length ≤ 100) :
    Calls Tryz.prog 45 #[.pointer (some ⟨rb, 0, none⟩), .agg #[.int .i64 n.1, .int .i64 n.2]] w (NameDone B rb mb n v r w) := by
  by_cases hin : n ∈ r.names
  · exact nameOld_calls n R hB hc hn hin
  · exact nameNew_calls n R hB hc hn hin hfew
set_option maxRecDepth 100000 in
set_option maxHeartbeats 1600000 in
theorem agrees_calls (z : KnZ) (p : Nat) (cm : Bool) (rs : List Rd) (ro : Option Addr) (rc : Nat) (w : World) (hb : Blk w p (encKn z) 77) (h1 : Rows 3 encRd w.heap.size w z.ro z.k.reads) (h2 : Rows 3 encRd w.heap.size w ro rs) (hl : z.k.reads.length ≤ 1000000) :
    Calls Tryz.prog 46 #[.pointer (some ⟨p, 0, none⟩), .bool cm, .slice ro rs.length rc] w fun e w' => e = .returned (.bool (!z.k.decided || (decide (z.k.commit = cm) && decide (z.k.reads = rs)))) ∧ Ext w w' := by
  obtain ⟨⟨cl, nm, index, decided, commit, reads, acts, called, answered⟩, ao, ac, ro1, rc1⟩ := z
  have HE := Lib.hid (equalReads_calls reads rs ro1 ro rc1 rc w hl h1 h2)
  have c3 := hb.cell 3; have c4 := hb.cell 4; have c5 := hb.cell 5
  simp only [encKn, List.getElem?_cons_zero, List.getElem?_cons_succ] at c3 c4 c5
  obtain ⟨E, hE⟩ : ∃ E, decide (reads = rs) = E := ⟨_, rfl⟩
  rw [hE] at HE
  simp only [hE]
  clear hb h1 h2 hE
  cases decided
  · go_enter Tryz.func46, Tryz.ntmps46
    go_wp2_with fail
    go_ret
    exact ⟨rfl, Below.refl _ _⟩
  · cases commit <;> cases cm
    all_goals
      go_enter Tryz.func46, Tryz.ntmps46
      go_wp2_with fail
    · refine HE.out.mono ?_
      rintro e w1 ⟨rfl, hx⟩
      have X := Lib.hid hx
      clear hx
      go_wp2_with fail
      go_ret
      exact ⟨by simp, X.out⟩
    · go_ret
      exact ⟨rfl, Below.refl _ _⟩
    · go_ret
      exact ⟨rfl, Below.refl _ _⟩
    · refine HE.out.mono ?_
      rintro e w1 ⟨rfl, hx⟩
      have X := Lib.hid hx
      clear hx
      go_wp2_with fail
      go_ret
      exact ⟨by simp, X.out⟩
def RdS.upd (r : RdS) (n : Int × Int) (z : KnZ) : RdS := ⟨r.names, r.p, fun m => if m = n then z else r.kz m, r.bad⟩
theorem ReadAt.upd (R : ReadAt B w rb mb v r) {n : Int × Int} (hn : n ∈ r.names) {z : KnZ} (hx : But (fun j => j = r.p n) w w') (hb : Blk w' (r.p n) (encKn z) 77) (hz : z.at B w) (hB : B ≤ w.heap.size) : ReadAt B w' rb mb v (r.upd n z) := by
  have NM := R.ne_map; have NR := R.ne_row
  have hbel : Below B w w' := hx.below hB (fun i e => by rw [e]; exact (R.kn n hn).2.1)
  obtain ⟨val, has, h1, h2⟩ := R.map
  refine ⟨R.blk.but hx (fun e => (NR.2 n hn).2 e.symm), R.ge, ⟨val, has, h1.same (hx.block _ h1.lt (fun e => NM.2.2 n hn e.symm)), h2⟩, R.mge, own_but R.row hx (fun k hk e => (NR.2 n hn).1 (by rw [hk, e])), fun m hm => ?_, R.inj, R.i64, fun m hm => ?_⟩
  · by_cases e : m = n
    · subst e
      simp only [RdS.upd, if_pos]
      exact ⟨hb, (R.kn m hm).2.1, hz.ext hbel⟩
    · simp only [RdS.upd, if_neg e]
      exact ⟨(R.kn m hm).1.but hx (fun e2 => e (R.inj m hm n hn e2)), (R.kn m hm).2.1, (R.kn m hm).2.2.ext hbel⟩
  · have e : m ≠ n := fun e => hm (e ▸ hn)
    simp only [RdS.upd, if_neg e]
    exact R.new m hm
theorem MovesR.upd {w w' : World} {n : Int × Int} (hn : n ∈ r.names) {z : KnZ} (hx : But (fun j => j = r.p n) w w') : MovesR rb mb v v r (r.upd n z) w w' :=
  ⟨hx.mono (fun _ _ e => .inr (.inr (.inr ⟨n, hn, e⟩))), fun _ h => .inl h⟩
def RdS.setBad (r : RdS) (b : Bool) : RdS := ⟨r.names, r.p, r.kz, b⟩
theorem ReadAt.setBad (R : ReadAt B w rb mb v r) (b : Bool) (hB : B ≤ w.heap.size) : ReadAt B (w.setCell ⟨rb, 2, none⟩ (.bool b)) rb mb v (r.setBad b) := by
  have NM := R.ne_map; have NR := R.ne_row
  have hx : But (fun j => j = rb) w (w.setCell ⟨rb, 2, none⟩ (.bool b)) := (But.refl (fun j => j = rb) w).setCell (fun _ => rfl) _
  have hbel : Below B w (w.setCell ⟨rb, 2, none⟩ (.bool b)) := hx.below hB (fun i e => by rw [e]; exact R.ge)
  obtain ⟨val, has, h1, h2⟩ := R.map
  exact ⟨R.blk.set 2 _, R.ge, ⟨val, has, h1.same (hx.block _ h1.lt (fun e => NM.1 e.symm)), h2⟩, R.mge, own_but R.row hx (fun k hk e => NR.1 (by rw [hk, e])), fun m hm => ⟨(R.kn m hm).1.but hx (NR.2 m hm).2, (R.kn m hm).2.1, (R.kn m hm).2.2.ext hbel⟩, R.inj, R.i64, R.new⟩
theorem MovesR.setBad {w : World} (b : Bool) : MovesR rb mb v v r (r.setBad b) w (w.setCell ⟨rb, 2, none⟩ (.bool b)) :=
  ⟨(But.refl _ w).setCell (fun _ => .inl rfl) _, fun _ h => .inl h⟩
def TaleDone (B rb mb : Nat) (i : Nat) (z : TaleZ) (v : Value) (r : RdS) (w : World) (e : Ending) (w' : World) : Prop :=
  e = .returned (.tuple #[]) ∧ ∃ v' r', ReadAt B w' rb mb v' r' ∧ r'.names = (if counts z.d = true ∧ z.d.name ∉ r.names then r.names ++ [z.d.name] else r.names) ∧
    r'.kz z.d.name = (r.kz z.d.name).tell i z ∧ (∀ m, m ≠ z.d.name → r'.kz m = r.kz m) ∧ r'.bad = (r.bad || (decide (z.d.kind = 6) && !(r.kz z.d.name).k.agrees z.d)) ∧ MovesR rb mb v v' r r' w w'
theorem tale_end {i : Nat} {z : TaleZ} {v' : Value} {r1 r' : RdS} {w2 : World} (hk : counts z.d = true) (h1 : r1.names = if z.d.name ∈ r.names then r.names else r.names ++ [z.d.name]) (h2 : r1.kz = r.kz) (R' : ReadAt B w' rb mb v' r') (h3 : r'.names = r1.names)
    (h4 : r'.kz z.d.name = (r1.kz z.d.name).tell i z) (h5 : ∀ m, m ≠ z.d.name → r'.kz m = r1.kz m) (h6 : r'.bad = (r.bad || (decide (z.d.kind = 6) && !(r.kz z.d.name).k.agrees z.d))) (M1 : MovesR rb mb v v' r r1 w w2) (M2 : MovesR rb mb v' v' r1 r' w2 w') :
    TaleDone B rb mb i z v r w (.returned (.tuple #[])) w' := by
  refine ⟨rfl, v', r', R', ?_, by rw [h4, h2], fun m hm => by rw [h5 m hm, h2], h6, M1.trans M2⟩
  rw [h3, h1, hk]
  by_cases e : z.d.name ∈ r.names
  · simp [e]
  · simp [e]
set_option maxRecDepth 100000 in
set_option maxHeartbeats 3200000 in
theorem taleOther_calls (i : Nat) (z : TaleZ) (R : ReadAt B w rb mb v r) (hB : B ≤ w.heap.size) (h1 : z.d.kind ≠ 1) (h2 : z.d.kind ≠ 2) (h6 : z.d.kind ≠ 6) :
    Calls Tryz.prog 20 #[.pointer (some ⟨rb, 0, none⟩), .int .i64 ((i : Int) + 1), .agg (encTale z).toArray] w (TaleDone B rb mb i z v r w) := by
  have hT : (r.kz z.d.name).tell i z = r.kz z.d.name := by unfold KnZ.tell; rw [if_neg h1, if_neg h2, if_neg h6]
  have hC : counts z.d = false := by simp [counts, h1, h2, h6]
  have HR := Lib.hid R; have HT := Lib.hid hT; have HC := Lib.hid hC; have HB := Lib.hid hB
  have G : Hid (decide (z.d.kind = 6) = false) := Lib.hid (by simpa using h6)
  obtain ⟨⟨kind, index, cl, nm, acts, commit, reads⟩, node, group, term, ao, ac, ro, rc, lo, hi, ep, st, sc, se, so, sn, sp, co, cn, cp⟩ := z
  simp only at h1 h2 h6
  have g1 : (kind == 1) = false := by simpa using h1
  have g2 : (kind == 2) = false := by simpa using h2
  have g6 : (kind == 6) = false := by simpa using h6
  clear R hT hC h1 h2 h6 hB
  unfold encTale
  simp only
  go_enter Tryz.func20, Tryz.ntmps20
  go_wp2_with fail
  go_end0
  refine ⟨rfl, v, r, HR.out.ext ((Below.refl _ w).alloc (Nat.le_refl _) _) HB.out, by rw [HC.out]; simp, HT.out.symm, fun _ _ => rfl, by rw [G.out]; simp, MovesR.ext ((Below.refl _ w).alloc (Nat.le_refl _) _)⟩
end Go.Proofs.YtbnclifpdmpjnaaGreatDoor
/- A tale taken: the three kinds that count. -/
namespace Go.Proofs.YtbnclifpdmpjnaaGreatDoor
open Go.RowKit
open Go.Maps (Keyed)
variable {B rb mb : Nat} {w w' : World} {v : Value} {r : RdS}
set_option maxRecDepth 100000 in
set_option maxHeartbeats 3200000 in
theorem taleCalled_calls (i : Nat) (z : TaleZ) (R : ReadAt B w rb mb v r) (hB : B ≤ w.heap.size) (hz : z.at B w) (hd : z.d.ok) (hfew : r.names.length ≤ 100) (hk : z.d.kind = 1) (hrn : (r.kz z.d.name).k.reads.length ≤ 1000) :
    Calls Tryz.prog 20 #[.pointer (some ⟨rb, 0, none⟩), .int .i64 ((i : Int) + 1), .agg (encTale z).toArray] w (TaleDone B rb mb i z v r w) := by
  have hC : counts z.d = true := by simp [counts, hk]
  have HC := Lib.hid hC; have HB := Lib.hid hB; have ZA := Lib.hid hz; have HKD := Lib.hid hk
  have HRN := Lib.hid hrn
  obtain ⟨A, hA⟩ : ∃ A, (i : Int) + 1 = A := ⟨_, rfl⟩
  rw [hA]
  have HA := Lib.hid hA
  have hcl := hd.cl; have hnm := hd.nm
  obtain ⟨W, hW⟩ : ∃ W, W = w.alloc (.cells (encTale z).toArray 39) := ⟨_, rfl⟩
  have XW : Hid (Ext w W) := Lib.hid (by rw [hW]; exact (Below.refl _ w).alloc (Nat.le_refl _) _)
  have BW : Hid (Blk W w.heap.size (encTale z) 39) := Lib.hid (by rw [hW]; exact Blk.new w _ _)
  have RW := Lib.hid (R.ext XW.out hB)
  have OL := Lib.hid (fun j h => R.own_lt (j := j) h)
  have HN := Lib.hid (name_calls z.d.name RW.out (Nat.le_trans hB XW.out.size) hcl hnm hfew)
  have HW := Lib.hid hW
  clear R hC hk hB hd hz hcl hnm hA hW hrn
  obtain ⟨⟨kind, index, cl, nm, acts, commit, reads⟩, node, group, term, ao, ac, ro, rc, lo, hi, ep, st, sc, se, so, sn, sp, co, cn, cp⟩ := z
  obtain rfl : kind = 1 := HKD.out
  unfold encTale at HW BW ⊢
  simp only at HW BW ⊢
  simp only [TaleD.name] at HN
  have hbw := BW.out
  have t0 := hbw.cell 0; have t5 := hbw.cell 5; have t6 := hbw.cell 6
  simp only [List.getElem?_cons_zero, List.getElem?_cons_succ] at t0 t5 t6
  clear hbw
  go_enter Tryz.func20, Tryz.ntmps20
  go_wp2_with fail
  rw [← HW.out]
  refine HN.out.mono ?_
  rintro e w2 ⟨v', r1, rfl, R1, n1, n2, n3, M1⟩
  have R1 := Lib.hid R1; have N1 := Lib.hid n1; have N2 := Lib.hid n2; have N3 := Lib.hid n3; have M1 := Lib.hid M1
  have hin : (cl, nm) ∈ r1.names := by
    rw [N1.out]
    by_cases e : (cl, nm) ∈ r.names
    · simp [e]
    · simp [e]
  have HIN := Lib.hid hin
  have B2 := Lib.hid (BW.out.but M1.out.but (fun e => by have := OL.out _ e; omega))
  obtain ⟨P, hP⟩ : ∃ P, r1.p (cl, nm) = P := ⟨_, rfl⟩
  rw [hP]
  have HP := Lib.hid hP
  obtain ⟨kz, hkz⟩ : ∃ kz, r1.kz (cl, nm) = kz := ⟨_, rfl⟩
  have HKZ := Lib.hid hkz
  have BK : Hid (Blk w2 P (encKn kz) 77) := Lib.hid (by rw [← hP, ← hkz]; exact (R1.out.kn _ hin).1)
  have KA : Hid (kz.at B w2) := Lib.hid (by rw [← hkz]; exact (R1.out.kn _ hin).2.2)
  have HB2 : Hid (B ≤ w2.heap.size) := Lib.hid (Nat.le_trans HB.out (Nat.le_trans XW.out.size M1.out.but.size))
  have ZB : Hid (Below B w w2) := Lib.hid ((XW.out.mono HB.out).trans (M1.out.but.below (Nat.le_trans HB.out XW.out.size) (fun j e => RW.out.own_ge e)))
  have RN : Hid (kz.k.reads.length ≤ 1000) := Lib.hid (by rw [← hkz, N2.out]; exact HRN.out)
  clear n1 n2 n3 hin hP hkz t0 t5 t6 HN HRN
  obtain ⟨⟨kcl, knm, kix, kdec, kcm, kreads, kacts, kcalled, kans⟩, kao, kac, kro, krc⟩ := kz
  have hb2 := B2.out; have hbk := BK.out
  have t7 := hb2.cell 7; have k7 := hbk.cell 7; have k6 := hbk.cell 6; have f7 := hbk.free 7; have f6 := hbk.free 6
  simp only [encKn, List.getElem?_cons_zero, List.getElem?_cons_succ] at t7 k7 k6
  have hne : w.heap.size ≠ P := fun e => by
    have h1 := hb2; have h2 := hbk
    rw [e] at h1; unfold Blk at h1 h2; rw [h1] at h2; simp [encKn] at h2
  have hne2 : P ≠ w.heap.size := fun e => hne e.symm
  clear hb2 hbk
  by_cases hc : kcalled = 0
  · have g1 : (kcalled == 0) = true := by simpa using hc
    have HCC := Lib.hid hc
    clear hc
    go_wp2_with fail
    go_region
    go_wp2_with fail
    go_end0
    have X3 : But (fun j => j = P) w2 ((w2.setCell ⟨P, 7, none⟩ (.int .i64 A)).setCell ⟨P, 6, none⟩ (.slice ao acts.length ac)).drew := (((But.refl (fun j => j = P) w2).setCell (fun _ => rfl) _).setCell (fun _ => rfl) _).drew
    have RU := Lib.hid (R1.out.upd HIN.out (z := ⟨⟨kcl, knm, kix, kdec, kcm, kreads, acts, A, kans⟩, ao, ac, kro, krc⟩) (w' := ((w2.setCell ⟨P, 7, none⟩ (.int .i64 A)).setCell ⟨P, 6, none⟩ (.slice ao acts.length ac)).drew) (by rw [HP.out]; exact X3)
      (by rw [HP.out]; exact ((BK.out.set 7 (.int .i64 A)).set 6 (.slice ao acts.length ac)).drew) ⟨(ZA.out.1).ext ZB.out, KA.out.2⟩ HB2.out)
    refine tale_end HC.out N1.out N2.out RU.out rfl ?_ (fun m hm => if_neg hm) ?_ ((MovesR.ext XW.out).trans M1.out) (MovesR.upd HIN.out (by rw [HP.out]; exact X3))
    · show (if (cl, nm) = (cl, nm) then _ else _) = KnZ.tell (r1.kz (cl, nm)) i _
      rw [if_pos rfl, HKZ.out]
      unfold KnZ.tell KnD.tell
      simp only [HCC.out, if_true, HA.out]
    · show r1.bad = _
      rw [N3.out]; simp
  · have g1 : (kcalled == 0) = false := by simpa using hc
    have HCC := Lib.hid hc
    clear hc
    go_wp2_with fail
    go_end0
    refine tale_end HC.out N1.out N2.out R1.out rfl ?_ (fun m hm => rfl) ?_ ((MovesR.ext XW.out).trans M1.out) (MovesR.refl _ _ _ _ _)
    · show r1.kz (cl, nm) = KnZ.tell (r1.kz (cl, nm)) i _
      rw [HKZ.out]
      unfold KnZ.tell
      simp only [HCC.out, if_true, if_false]
    · rw [N3.out]; simp
set_option maxRecDepth 100000 in
set_option maxHeartbeats 3200000 in
theorem taleReplied_calls (i : Nat) (z : TaleZ) (R : ReadAt B w rb mb v r) (hB : B ≤ w.heap.size) (hz : z.at B w) (hd : z.d.ok) (hfew : r.names.length ≤ 100) (hk : z.d.kind = 2) (hrn : (r.kz z.d.name).k.reads.length ≤ 1000) :
    Calls Tryz.prog 20 #[.pointer (some ⟨rb, 0, none⟩), .int .i64 ((i : Int) + 1), .agg (encTale z).toArray] w (TaleDone B rb mb i z v r w) := by
  have hC : counts z.d = true := by simp [counts, hk]
  have HC := Lib.hid hC; have HB := Lib.hid hB; have ZA := Lib.hid hz; have HKD := Lib.hid hk
  have HRN := Lib.hid hrn
  obtain ⟨A, hA⟩ : ∃ A, (i : Int) + 1 = A := ⟨_, rfl⟩
  rw [hA]
  have HA := Lib.hid hA
  have hcl := hd.cl; have hnm := hd.nm
  obtain ⟨W, hW⟩ : ∃ W, W = w.alloc (.cells (encTale z).toArray 39) := ⟨_, rfl⟩
  have XW : Hid (Ext w W) := Lib.hid (by rw [hW]; exact (Below.refl _ w).alloc (Nat.le_refl _) _)
  have BW : Hid (Blk W w.heap.size (encTale z) 39) := Lib.hid (by rw [hW]; exact Blk.new w _ _)
  have RW := Lib.hid (R.ext XW.out hB)
  have OL := Lib.hid (fun j h => R.own_lt (j := j) h)
  have HN := Lib.hid (name_calls z.d.name RW.out (Nat.le_trans hB XW.out.size) hcl hnm hfew)
  have HW := Lib.hid hW
  clear R hC hk hB hd hz hcl hnm hA hW hrn
  obtain ⟨⟨kind, index, cl, nm, acts, commit, reads⟩, node, group, term, ao, ac, ro, rc, lo, hi, ep, st, sc, se, so, sn, sp, co, cn, cp⟩ := z
  obtain rfl : kind = 2 := HKD.out
  unfold encTale at HW BW ⊢
  simp only at HW BW ⊢
  simp only [TaleD.name] at HN
  have hbw := BW.out
  have t0 := hbw.cell 0; have t5 := hbw.cell 5; have t6 := hbw.cell 6
  simp only [List.getElem?_cons_zero, List.getElem?_cons_succ] at t0 t5 t6
  clear hbw
  go_enter Tryz.func20, Tryz.ntmps20
  go_wp2_with fail
  rw [← HW.out]
  refine HN.out.mono ?_
  rintro e w2 ⟨v', r1, rfl, R1, n1, n2, n3, M1⟩
  have R1 := Lib.hid R1; have N1 := Lib.hid n1; have N2 := Lib.hid n2; have N3 := Lib.hid n3; have M1 := Lib.hid M1
  have hin : (cl, nm) ∈ r1.names := by
    rw [N1.out]
    by_cases e : (cl, nm) ∈ r.names
    · simp [e]
    · simp [e]
  have HIN := Lib.hid hin
  have B2 := Lib.hid (BW.out.but M1.out.but (fun e => by have := OL.out _ e; omega))
  obtain ⟨P, hP⟩ : ∃ P, r1.p (cl, nm) = P := ⟨_, rfl⟩
  rw [hP]
  have HP := Lib.hid hP
  obtain ⟨kz, hkz⟩ : ∃ kz, r1.kz (cl, nm) = kz := ⟨_, rfl⟩
  have HKZ := Lib.hid hkz
  have BK : Hid (Blk w2 P (encKn kz) 77) := Lib.hid (by rw [← hP, ← hkz]; exact (R1.out.kn _ hin).1)
  have KA : Hid (kz.at B w2) := Lib.hid (by rw [← hkz]; exact (R1.out.kn _ hin).2.2)
  have HB2 : Hid (B ≤ w2.heap.size) := Lib.hid (Nat.le_trans HB.out (Nat.le_trans XW.out.size M1.out.but.size))
  have ZB : Hid (Below B w w2) := Lib.hid ((XW.out.mono HB.out).trans (M1.out.but.below (Nat.le_trans HB.out XW.out.size) (fun j e => RW.out.own_ge e)))
  have RN : Hid (kz.k.reads.length ≤ 1000) := Lib.hid (by rw [← hkz, N2.out]; exact HRN.out)
  clear n1 n2 n3 hin hP hkz t0 t5 t6 HN HRN
  obtain ⟨⟨kcl, knm, kix, kdec, kcm, kreads, kacts, kcalled, kans⟩, kao, kac, kro, krc⟩ := kz
  have hbk := BK.out
  have k8 := hbk.cell 8; have f8 := hbk.free 8
  simp only [encKn, List.getElem?_cons_zero, List.getElem?_cons_succ] at k8
  clear hbk
  by_cases hc : kans = 0
  · have g1 : (kans == 0) = true := by simpa using hc
    have HCC := Lib.hid hc
    clear hc
    go_wp2_with fail
    go_end0
    have X3 : But (fun j => j = P) w2 (w2.setCell ⟨P, 8, none⟩ (.int .i64 A)) := (But.refl (fun j => j = P) w2).setCell (fun _ => rfl) _
    have RU := Lib.hid (R1.out.upd HIN.out (z := ⟨⟨kcl, knm, kix, kdec, kcm, kreads, kacts, kcalled, A⟩, kao, kac, kro, krc⟩) (w' := w2.setCell ⟨P, 8, none⟩ (.int .i64 A)) (by rw [HP.out]; exact X3)
      (by rw [HP.out]; exact BK.out.set 8 (.int .i64 A)) KA.out HB2.out)
    refine tale_end HC.out N1.out N2.out RU.out rfl ?_ (fun m hm => if_neg hm) ?_ ((MovesR.ext XW.out).trans M1.out) (MovesR.upd HIN.out (by rw [HP.out]; exact X3))
    · show (if (cl, nm) = (cl, nm) then _ else _) = KnZ.tell (r1.kz (cl, nm)) i _
      rw [if_pos rfl, HKZ.out]
      unfold KnZ.tell KnD.tell
      simp [HCC.out, HA.out]
    · show r1.bad = _
      rw [N3.out]; simp
  · have g1 : (kans == 0) = false := by simpa using hc
    have HCC := Lib.hid hc
    clear hc
    go_wp2_with fail
    go_end0
    refine tale_end HC.out N1.out N2.out R1.out rfl ?_ (fun m hm => rfl) ?_ ((MovesR.ext XW.out).trans M1.out) (MovesR.refl _ _ _ _ _)
    · show r1.kz (cl, nm) = KnZ.tell (r1.kz (cl, nm)) i _
      rw [HKZ.out]
      unfold KnZ.tell KnD.tell
      simp [HCC.out]
    · rw [N3.out]; simp
end Go.Proofs.YtbnclifpdmpjnaaGreatDoor
