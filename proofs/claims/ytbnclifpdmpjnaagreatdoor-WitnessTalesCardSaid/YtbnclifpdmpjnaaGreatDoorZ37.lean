/- What a history tells: witness.From. -/
import Derived.Test.YtbnclifpdmpjnaaGreatDoorZ36
import Derived.Test.YtbnclifpdmpjnaaGreatDoorZ24
import Derived.Deep.CutRange
import Derived.Deep.DeepCutAuto
namespace Go.Proofs.YtbnclifpdmpjnaaGreatDoor
open Go.RowKit
open Go.Maps (Keyed)
def ApartS (q : List StepZ) : Prop := ∀ (i j : Nat) (z y : StepZ), i ≠ j → q[i]? = some z → q[j]? = some y → ∀ b, ((Value.slice z.ao z.d.acts.length z.ac).ownBlock = some b → (Value.slice y.ao y.d.acts.length y.ac).ownBlock ≠ some b) ∧ ((Value.slice z.ro z.d.reads.length z.rc).ownBlock = some b → (Value.slice y.ro y.d.reads.length y.rc).ownBlock ≠ some b)
theorem apart_more {q : List StepZ} {z : StepZ} {N : Nat} (h : ApartS q) (h1 : ∀ y ∈ q, (∀ b, (Value.slice y.ao y.d.acts.length y.ac).ownBlock = some b → b < N) ∧ ∀ b, (Value.slice y.ro y.d.reads.length y.rc).ownBlock = some b → b < N)
    (h2 : (∀ b, (Value.slice z.ao z.d.acts.length z.ac).ownBlock = some b → N ≤ b) ∧ ∀ b, (Value.slice z.ro z.d.reads.length z.rc).ownBlock = some b → N ≤ b) : ApartS (q ++ [z]) := by
  intro i j x y hij hx hy b
  have at_ : ∀ k u, (q ++ [z])[k]? = some u → q[k]? = some u ∧ u ∈ q ∨ k = q.length ∧ u = z := fun k u hu => by
    rcases Nat.lt_or_ge k q.length with hk | hk
    · rw [List.getElem?_append_left hk] at hu
      exact .inl ⟨hu, List.mem_of_getElem? hu⟩
    · rw [List.getElem?_append_right hk] at hu
      have : k - q.length = 0 := by have := (List.getElem?_eq_some_iff.1 hu).1; simp at this; omega
      rw [this] at hu
      exact .inr ⟨by omega, by simpa using hu.symm⟩
  rcases at_ i x hx with ⟨a1, a2⟩ | ⟨a1, rfl⟩ <;> rcases at_ j y hy with ⟨b1, b2⟩ | ⟨b1, rfl⟩
  · exact h i j x y hij a1 b1 b
  · exact ⟨fun e e2 => by have := (h1 x a2).1 b e; have := h2.1 b e2; omega, fun e e2 => by have := (h1 x a2).2 b e; have := h2.2 b e2; omega⟩
  · exact ⟨fun e e2 => by have := (h1 y b2).1 b e2; have := h2.1 b e; omega, fun e e2 => by have := (h1 y b2).2 b e2; have := h2.2 b e; omega⟩
  · omega
theorem StepMine.lts {w : World} {B : Nat} {z : StepZ} (h : StepMine w B z) : (∀ b, (Value.slice z.ao z.d.acts.length z.ac).ownBlock = some b → b < w.heap.size) ∧ ∀ b, (Value.slice z.ro z.d.reads.length z.rc).ownBlock = some b → b < w.heap.size :=
  ⟨fun b e => (h.acts.lt b e).2, fun b e => (h.reads.lt b e).2⟩
def FromPost (w : World) (r : Option (List StepD)) (e : Ending) (w' : World) : Prop :=
  ∃ (v : Value) (q : List StepZ), e = .returned (.tuple #[v, .bool r.isSome]) ∧ q.map (·.d) = r.getD [] ∧ w'.ownsRow w.heap.size 51 6 v q.length (q.flatMap encStep) ∧ (∀ z ∈ q, StepMine w' w.heap.size z) ∧ ApartS q ∧ Ext w w'
theorem from_none_post {w w' : World} {r : Option (List StepD)} (hr : r = none) (hx : Ext w w') : FromPost w r (.returned (.tuple #[.slice none 0 0, .bool false])) w' := by
  subst hr
  exact ⟨_, [], rfl, rfl, World.ownsRow_nil _ _ _ _, (fun z hz => by cases hz), (fun i j z y _ h => by simp at h), hx⟩
def emptyR : RdS := ⟨[], fun _ => 0, KnZ.new, false⟩
theorem read_empty {w W : World} {rb mb : Nat} (hb : Blk W rb [.map (some mb), .slice none 0 0, .bool false] 70) (h1 : w.heap.size ≤ rb) (hm : MapF Tryz.prog 26 W mb 0 (.pointer none) (fun _ => .pointer none) (fun _ => false)) (h2 : w.heap.size ≤ mb) :
    ReadAt w.heap.size W rb mb (.slice none 0 0) emptyR :=
  ⟨hb, h1, ⟨_, _, hm, fun n _ _ => by simp [emptyR]⟩, h2, World.ownsRow_nil _ _ _ _, (fun n hn => by simp [emptyR] at hn), (fun n hn => by simp [emptyR] at hn), (fun n hn => by simp [emptyR] at hn), fun n _ => rfl⟩
theorem readK_empty (D : List TaleD) : ReadK D 0 emptyR := ⟨rfl, fun _ => rfl, rfl⟩
set_option maxRecDepth 100000 in
set_option maxHeartbeats 6400000 in
theorem fromP_calls (l : List TaleZ) (ao : Option Addr) (cap : Nat) (w : World) (hl : l.length ≤ 60) (hs : Rows 18 encTale w.heap.size w ao l) (hat : ∀ z ∈ l, z.at w.heap.size w) (hok : ∀ z ∈ l, z.d.ok) :
    Calls Tryz.prog 7 #[.slice ao l.length cap] w (FromPost w (refFromD (l.map (·.d)))) := by
  have HS := Lib.hid hs; have HAT := Lib.hid hat; have HOK := Lib.hid hok
  obtain ⟨D, hD⟩ : ∃ D, D = l.map (·.d) := ⟨_, rfl⟩
  rw [← hD]
  have HD := Lib.hid hD
  have HDL : Hid (D.length = l.length) := Lib.hid (by rw [hD, List.length_map])
  have HDA : Hid (∀ x ∈ D, x.acts.length ≤ 1000) := Lib.hid (fun x hx => by rw [hD] at hx; obtain ⟨z, hz, rfl⟩ := List.mem_map.1 hx; exact (hok z hz).an)
  have HDR : Hid (∀ x ∈ D, x.reads.length ≤ 1000) := Lib.hid (fun x hx => by rw [hD] at hx; obtain ⟨z, hz, rfl⟩ := List.mem_map.1 hx; exact (hok z hz).rn)
  obtain ⟨W, hW⟩ : ∃ W, W = ((w.alloc (.map #[] 0)).alloc (.cells #[.map (some w.heap.size), .slice none 0 0, .bool false] 70)).alloc (.cells #[.pointer (some ⟨w.heap.size + 1, 0, none⟩)] 66) := ⟨_, rfl⟩
  have hx0 : Ext w (w.alloc (.map #[] 0)) := (Below.refl _ w).alloc (Nat.le_refl _) _
  have hb1 : Blk ((w.alloc (.map #[] 0)).alloc (.cells #[.map (some w.heap.size), .slice none 0 0, .bool false] 70)) (w.heap.size + 1) [.map (some w.heap.size), .slice none 0 0, .bool false] 70 := by
    have := Blk.new (w.alloc (.map #[] 0)) [.map (some w.heap.size), .slice none 0 0, .bool false] 70
    simpa using this
  have hx1 : Ext (w.alloc (.map #[] 0)) W := by rw [hW]; exact ((Below.refl _ _).alloc (Nat.le_refl _) _).alloc (by simp) _
  have XW : Hid (Ext w W) := Lib.hid (Ext.trans hx0 hx1)
  have BR : Hid (Blk W (w.heap.size + 1) [.map (some w.heap.size), .slice none 0 0, .bool false] 70) := Lib.hid (by rw [hW]; exact hb1.alloc _)
  have BT : Hid (Blk W (w.heap.size + 2) [.pointer (some ⟨w.heap.size + 1, 0, none⟩)] 66) := Lib.hid (by
    have := Blk.new ((w.alloc (.map #[] 0)).alloc (.cells #[.map (some w.heap.size), .slice none 0 0, .bool false] 70)) [.pointer (some ⟨w.heap.size + 1, 0, none⟩)] 66
    rw [hW]; simpa using this)
  have MW : Hid (MapF Tryz.prog 26 W w.heap.size 0 (.pointer none) (fun _ => .pointer none) (fun _ => false)) := Lib.hid ((MapF.made _ _ w _).ext hx1)
  have RW : Hid (ReadAt w.heap.size W (w.heap.size + 1) w.heap.size (.slice none 0 0) emptyR) := Lib.hid (read_empty BR.out (by omega) MW.out (Nat.le_refl _))
  have NT : Hid (¬ OwnR (w.heap.size + 1) w.heap.size (.slice none 0 0) emptyR (w.heap.size + 2)) := Lib.hid (fun e => by
    rcases e with e | e | e | ⟨n, hn, _⟩
    · omega
    · omega
    · simp [Value.ownBlock] at e
    · simp [emptyR] at hn)
  have HW := Lib.hid hW
  clear hs hat hok hD hx0 hb1 hx1 hW BR MW
  have hmm := @run_makeMap Tryz.prog
  go_enter Tryz.func7, Tryz.ntmps7
  go_upto_region 2 with fail
  rw [← HW.out]
  clear hmm
  go_wp2_with fail
  go_loopw [15] (fun i wr => ∃ (k : Nat) (v : Value) (r : RdS), k ≤ l.length ∧ i = .int .i64 k ∧ Hid (ReadAt w.heap.size wr (w.heap.size + 1) w.heap.size v r) ∧ Hid (ReadK D k r) ∧ Hid (Blk wr (w.heap.size + 2) [.pointer (some ⟨w.heap.size + 1, 0, none⟩)] 66) ∧ Hid (¬ OwnR (w.heap.size + 1) w.heap.size v r (w.heap.size + 2)) ∧ Hid (Ext w wr)) (fun i _ => l.length - (intOf i).toNat)
  case atStart => exact ⟨0, .slice none 0 0, emptyR, by omega, rfl, RW, Lib.hid (readK_empty D), BT, NT, XW⟩
  case round =>
    clear RW BT NT XW HW
    obtain ⟨k, v, r, hk, rfl, R1, K1, T1, N1, X1⟩ := hrel
    by_cases hlt : k < l.length
    · obtain ⟨z, hz⟩ : ∃ z, l[k]? = some z := ⟨_, List.getElem?_eq_getElem hlt⟩
      have hzm := List.mem_of_getElem? hz
      obtain ⟨b, off, rfl, hb, hcell⟩ := HS.out (by intro e; rw [e] at hlt; simp at hlt)
      have HLD : Hid (wr.rangeAt b (off + k * 18) (encTale z)) := Lib.hid (fun j u hj => (X1.out.cell (p := ⟨b, _, none⟩) hb).trans (hcell k z hz j u hj))
      have HZ : Hid (D[k]? = some z.d) := Lib.hid (by rw [HD.out, List.getElem?_map, hz]; rfl)
      obtain ⟨wb, hwb⟩ : ∃ wb, wb = wr.alloc (.cells (encTale z).toArray 39) := ⟨_, rfl⟩
      have XB : Hid (Ext wr wb) := Lib.hid (by rw [hwb]; exact (Below.refl _ wr).alloc (Nat.le_refl _) _)
      have BB : Hid (Blk wb wr.heap.size (encTale z) 39) := Lib.hid (by rw [hwb]; exact Blk.new wr _ _)
      have RB := Lib.hid (R1.out.ext XB.out X1.out.size)
      have TC := Lib.hid (tale_calls k z RB.out (Nat.le_trans X1.out.size XB.out.size) ((HAT.out z hzm).ext (Ext.trans X1.out XB.out)) (HOK.out z hzm) (by rw [K1.out.names]; have := names_len D k; omega) (by rw [K1.out.kz]; exact know_reads D HDR.out _ _))
      have ZD : Hid (∃ z', z' = z) := Lib.hid ⟨z, rfl⟩
      have PZ := Lib.hid (fun (w2 : World) (v' : Value) (r' : RdS) h1 h2 h3 h4 => K1.out.next (r' := r') HZ.out h1 h2 h3 h4)
      have t4 := (T1.out.ext' XB.out).cell 0
      simp only [List.getElem?_cons_zero] at t4
      have HWB := Lib.hid hwb
      have i0 : (0 : Int) ≤ (k : Int) := by omega
      have i1 : (k : Int) < (l.length : Int) := by omega
      clear hz hzm hcell hwb ZD
      obtain ⟨⟨kind, index, cl, nm, acts, commit, reads⟩, node, group, term, ta, tc, ra, rc, lo, hi, ep, st, sc, se, so, sn, sp, co, cn, cp⟩ := z
      have HLB : Hid (wb.rangeAt wr.heap.size 0 (encTale ⟨⟨kind, index, cl, nm, acts, commit, reads⟩, node, group, term, ta, tc, ra, rc, lo, hi, ep, st, sc, se, so, sn, sp, co, cn, cp⟩)) := Lib.hid (fun j u hj => by rw [Nat.zero_add, BB.out.cell j]; exact hj)
      unfold encTale at HLD HWB BB TC HLB
      simp only at HLD HWB BB TC HLB
      go_upto_region 5 with (refine wpList_load_mid rfl 39 (.tmp 18) rfl b (off + k * 18) rfl _ _ HLD.out Tryz.underlying39 rfl sizeTale ?_)
      rw [← HWB.out]
      go_wp2_with (refine wpList_load_mid rfl 39 (.tmp 6) rfl wr.heap.size 0 rfl _ _ HLB.out Tryz.underlying39 rfl sizeTale ?_)
      refine TC.out.mono ?_
      rintro e w2 ⟨rfl, v', r', R2, n1, n2, n3, n4, M2⟩
      have R2 := Lib.hid R2; have K2 := Lib.hid (PZ.out w2 v' r' n1 n2 n3 n4); have M2 := Lib.hid M2
      have T2 := Lib.hid ((T1.out.ext' XB.out).but M2.out.but N1.out)
      have N2 : Hid (¬ OwnR (w.heap.size + 1) w.heap.size v' r' (w.heap.size + 2)) := Lib.hid (fun e => by
        rcases M2.out.own _ e with e | e
        · exact N1.out e
        · have := T1.out.lt; have := XB.out.size; omega)
      have X2 : Hid (Ext w w2) := Lib.hid (Below.trans (Ext.trans X1.out XB.out) (M2.out.but.below (Nat.le_trans X1.out.size XB.out.size) (fun j e => RB.out.own_ge e)))
      clear n1 n2 n3 n4
      go_wp2_with fail
      go_roundw
      case rel => exact ⟨k + 1, v', r', by omega, by go_num, R2, K2, T2, N2, X2⟩
      case measure => simp [intOf]; omega
    · have hk2 : k = l.length := by omega
      have K2 : Hid (ReadK D D.length r) := Lib.hid (by rw [HDL.out, ← hk2]; exact K1.out)
      clear K1 hk2
      have t4 := T1.out.cell 0; have rb2 := R1.out.blk.cell 2
      simp only [List.getElem?_cons_zero, List.getElem?_cons_succ] at t4 rb2
      cases hbad : r.bad
      · rw [hbad] at rb2
        have HBAD : Hid (badD D D.length = false) := Lib.hid (by rw [← K2.out.bad]; exact hbad)
        have HRB := Lib.hid hbad
        have egT : ∀ args w, (callFunc 22 args).run Tryz.prog w = .ok (.enter 22 args) w := enters_of Tryz.func22 (by kernel_rfl) rfl
        have HANY := Lib.hid (any_said HD.out K2.out)
        have CT := Lib.hid (containsT_calls 22 #[.pointer (some ⟨w.heap.size + 2, 0, none⟩)] egT (fun z => !saidD (r.kz z.d.name).k z.d) l ao cap wr (by omega) ((HS.out.ext X1.out).mono X1.out.size) (fun W hW z hz =>
          saidNot_calls z (w.heap.size + 2) (R1.out.ext hW X1.out.size) (Nat.le_trans X1.out.size hW.size) ((HAT.out z hz).ext (Ext.trans X1.out hW)) (HOK.out z hz) (fun hk => by
            rw [K2.out.names]
            refine ((names_at D D.length (Nat.le_refl _)).2 _).2 ⟨z.d, ?_, by simp [counts, hk], rfl⟩
            rw [List.take_length, HD.out]; exact List.mem_map.2 ⟨z, hz, rfl⟩) (by rw [K2.out.kz]; exact know_reads D HDR.out _ _) ((hW.cell (p := ⟨_, 0, none⟩) T1.out.lt).trans (T1.out.cell 0))))
        rw [HANY.out] at CT
        cases hsaid : D.all fun x => saidD (kn D x.name) x
        · rw [hsaid] at CT
          have HSA := Lib.hid hsaid
          clear hbad hsaid
          go_wp2_with fail
          refine CT.out.mono ?_
          rintro e w3 ⟨rfl, hx3⟩
          have X3 := Lib.hid (Ext.trans X1.out hx3)
          clear hx3
          go_wp2_with fail
          go_ret2
          exact from_none_post (ref_unsaid HBAD.out HSA.out) X3.out
        · rw [hsaid] at CT
          have HSA := Lib.hid hsaid
          clear hbad hsaid
          go_wp2_with fail
          refine CT.out.mono ?_
          rintro e w3 ⟨rfl, hx3⟩
          have X3 := Lib.hid (Ext.trans X1.out hx3)
          have R3 := Lib.hid (R1.out.ext hx3 X1.out.size); have T3 := Lib.hid (T1.out.ext' hx3)
          clear hx3 CT t4 rb2 R1 T1 HANY
          obtain ⟨q0, hq0⟩ : ∃ q0, q0 = r.names.map r.p := ⟨_, rfl⟩
          obtain ⟨va, vc, rfl⟩ : ∃ va vc, v = .slice va q0.length vc := by
            rcases own_cases R3.out.row with ⟨rfl, h0⟩ | ⟨g, cap, hv, _⟩
            · exact ⟨none, 0, by rw [hq0, List.length_map, h0]⟩
            · exact ⟨_, _, by rw [hv, hq0, List.length_map]⟩
          have HQ0 := Lib.hid hq0
          have hq60 : q0.length ≤ 60 := by rw [hq0, List.length_map, K2.out.names]; have := names_len D D.length; have := HDL.out; omega
          have NRW := Lib.hid R3.out.ne_row
          have NOW : Hid (¬ (Value.slice va q0.length vc).ownBlock = some (w.heap.size + 2)) := Lib.hid (fun e => N1.out (.inr (.inr (.inl e))))
          have SZ3 := Lib.hid X3.out.size
          have c4 := ButBy.cell (S := (fun j => (Value.slice va q0.length vc).ownBlock = some j ∨ j = w.heap.size + 1)) (show w3.cell? ⟨w.heap.size + 2, 0, none⟩ = some (.pointer (some ⟨w.heap.size + 1, 0, none⟩)) from T3.out.cell 0) (fun e => e.elim NOW.out (fun e => by omega))
          have BD : Hid (But (fun j => (Value.slice va q0.length vc).ownBlock = some j ∨ j = w.heap.size + 1) w3 w3.drew) := Lib.hid (But.refl _ w3).drew
          clear hq0
          go_wp2_with fail
          refine wp_region_firstC (fun W => ∃ p : ButBy (fun j => (Value.slice va q0.length vc).ownBlock = some j ∨ j = w.heap.size + 1) w3, W = p.W) [0, 1, 2, 3] 5 (by kernel_rfl) (by kernel_rfl) (fun _ _ _ _ h => h) ⟨⟨w3.drew, BD.out⟩, rfl⟩ ?_
          simp only [opsAt, List.getElem?_toArray, List.getElem?_cons_succ, List.getElem?_cons_zero]
          repeat (go_big_quiet_step (fail))
          refine wpQuiet_nil ?_
          obtain ⟨w9, hw9⟩ : ∃ w9, w9 = w3.drew := ⟨_, rfl⟩
          rw [← hw9]
          have X9 : Hid (Ext w3 w9) := Lib.hid (by rw [hw9]; exact (Below.refl _ w3).drew)
          have DR := Lib.hid (delR_calls (R3.out.ext X9.out SZ3.out) HQ0.out (by omega))
          clear hw9 c4 BD
          have rb1 := (R3.out.blk.ext' X9.out).cell 1
          simp only [List.getElem?_cons_zero, List.getElem?_cons_succ] at rb1
          refine wpAnyH_ready (rs := [4]) (by kernel_rfl) (by simp) ?_
          refine AllReadyH.cons rfl (fun K hK => ?_) AllReadyH.nil
          go_simp
          refine hK.out _ _ ⟨⟨_, X9.out.but _⟩, rfl⟩ (fun _ => ?_)
          clear hK K rb1
          refine wpAnyH_ready (rs := [5]) (by kernel_rfl) (by simp) ?_
          refine AllReadyH.cons rfl (fun K hK => ?_) AllReadyH.nil
          go_simp
          refine DR.out.mono ?_
          rintro e wd ⟨a2, c2, q1, rfl, hq1, ho2, hk2, hb2⟩
          have HQ1 := Lib.hid hq1; have OW2 := Lib.hid ho2; have OK2 := Lib.hid hk2
          have BD2 := Lib.hid ((X9.out.but (fun _ => False)).trans hb2 (U := fun j => (Value.slice va q0.length vc).ownBlock = some j) (fun _ _ e => e.elim) (fun _ _ e => e))
          have hrb := R3.out.blk.but BD2.out NRW.out.1
          have rb1 := hrb.cell 1; have rf1 := hrb.free 1
          simp only [List.getElem?_cons_zero, List.getElem?_cons_succ] at rb1
          have RB4 := Lib.hid hrb
          clear hq1 ho2 hk2 hb2 hrb DR
          refine hK.out _ _ ⟨⟨_, BD2.out.mono (fun _ _ e => .inl e)⟩, rfl⟩ (fun _ => ?_)
          clear hK K
          refine wp_takesC (f := 1) [6, 7] (by kernel_rfl) (fun _ _ _ _ h => h) ⟨⟨_, BD2.out.mono (fun _ _ e => .inl e)⟩, rfl⟩ ?_
          simp only [opsAt, List.getElem?_toArray, List.getElem?_cons_succ, List.getElem?_cons_zero]
          repeat (go_big_quiet_step (fail))
          refine wpQuiet_nil ?_
          refine wpAnyH_ready (rs := [8]) (by kernel_rfl) (by simp) ?_
          refine AllReadyH.cons rfl (fun K hK => ?_) AllReadyH.nil
          go_simp
          obtain ⟨w5, hw5⟩ : ∃ w5, w5 = wd.setCell ⟨w.heap.size + 1, 1, none⟩ (.slice a2 q1.length c2) := ⟨_, rfl⟩
          rw [← hw5]
          have B5 : Hid (But (fun j => (Value.slice va q0.length vc).ownBlock = some j ∨ j = w.heap.size + 1) w3 w5) := Lib.hid (by rw [hw5]; exact (BD2.out.mono (T := (fun j => (Value.slice va q0.length vc).ownBlock = some j ∨ j = w.heap.size + 1)) (fun _ _ e => .inl e)).setCell (fun _ => .inr rfl) _)
          have RB5 : Hid (Blk w5 (w.heap.size + 1) [.map (some w.heap.size), .slice a2 q1.length c2, .bool r.bad] 70) := Lib.hid (by rw [hw5]; exact RB4.out.set 1 _)
          have NRB : Hid ((Value.slice a2 q1.length c2).ownBlock ≠ some (w.heap.size + 1)) := Lib.hid (fun e => NRW.out.1 (OK2.out _ e))
          have OW5 : Hid (w5.ownsRow w.heap.size 75 1 (.slice a2 q1.length c2) q1.length (q1.map pv)) := Lib.hid (by rw [hw5]; exact own_setOther OW2.out NRB.out _)
          refine hK.out _ _ ⟨⟨_, B5.out⟩, rfl⟩ (fun _ => ?_)
          clear hK K rb1 rf1 OW2 RB4 BD2 hw5
          refine wpAnyH_done (by kernel_rfl) ?_ _
          -- the sort
          have NT5 : Hid (¬ (Value.slice a2 q1.length c2).ownBlock = some (w.heap.size + 2)) := Lib.hid (fun e => NOW.out (OK2.out _ e))
          have T5 := Lib.hid (T3.out.but B5.out (fun e => e.elim NOW.out (fun e => by omega)))
          have K5 : Hid (∀ n ∈ r.names, Blk w5 (r.p n) (encKn (r.kz n)) 77) := Lib.hid (fun n hn => (R3.out.kn n hn).1.but B5.out (fun e => e.elim (NRW.out.2 n hn).1 (fun e => (NRW.out.2 n hn).2 e)))
          have LQ1 : Hid (∀ b ∈ q1, ∃ n ∈ r.names, b = r.p n) := Lib.hid (fun b hb => by
            rw [HQ1.out] at hb
            obtain ⟨n, hn, rfl⟩ := List.mem_map.1 hb
            exact ⟨n, (List.mem_filter.1 hn).1, rfl⟩)
          have hq1l : q1.length ≤ 60 := by
            have h1 : q1.length ≤ q0.length := by rw [HQ1.out, HQ0.out, List.length_map, List.length_map]; exact List.length_filter_le _ _
            omega
          have SO := Lib.hid (sortAny_calls (fun b => (r.kz (nmOf r b)).k.index) q1 (.slice a2 q1.length c2) w5 (own_base OW5.out (fun _ _ => Nat.zero_le _)) (fun b hb => by
            obtain ⟨n, hn, rfl⟩ := LQ1.out b hb
            refine ⟨fun e => (NRW.out.2 n hn).1 (OK2.out _ e), (K5.out n hn).lt, ?_⟩
            rw [nm_of R3.out.inj hn]
            exact (K5.out n hn).cell 2) (by omega))
          have t4 := T5.out.cell 0; have rb1 := RB5.out.cell 1
          simp only [List.getElem?_cons_zero, List.getElem?_cons_succ] at t4 rb1
          go_wp2_with fail
          refine SO.out.mono ?_
          rintro e w6 ⟨rfl, q2, hp2, hs2, ho6, hb6⟩
          have HP2 := Lib.hid hp2; have HS2 := Lib.hid hs2; have OW6 := Lib.hid ho6; have B6 := Lib.hid hb6
          have L2 : Hid (q1.length = q2.length) := Lib.hid hp2.length_eq.symm
          have T6 := Lib.hid (T5.out.but hb6 NT5.out); have RB6 := Lib.hid (RB5.out.but hb6 NRB.out)
          have K6 : Hid (∀ n ∈ r.names, Blk w6 (r.p n) (encKn (r.kz n)) 77) := Lib.hid (fun n hn => (K5.out n hn).but hb6 (fun e => (NRW.out.2 n hn).1 (OK2.out _ e)))
          have X6 : Hid (Ext w w6) := Lib.hid (Below.trans X3.out ((B5.out.trans hb6 (U := (fun j => (Value.slice va q0.length vc).ownBlock = some j ∨ j = w.heap.size + 1)) (fun _ _ e => e) (fun _ _ e => .inl (OK2.out _ e))).below X3.out.size (fun j e => by
            rcases e with e | e
            · exact (R3.out.row.lt j e).1
            · omega)))
          have A6 : Hid (∀ n ∈ r.names, (r.kz n).at w.heap.size w6) := Lib.hid (fun n hn => (R3.out.kn n hn).2.2.ext ((B5.out.trans hb6 (U := (fun j => (Value.slice va q0.length vc).ownBlock = some j ∨ j = w.heap.size + 1)) (fun _ _ e => e) (fun _ _ e => .inl (OK2.out _ e))).below X3.out.size (fun j e => by
            rcases e with e | e
            · exact (R3.out.row.lt j e).1
            · omega)))
          clear hp2 hs2 ho6 hb6 t4 rb1 SO
          have PN := Lib.hid (ptr_names (r := r) R3.out.inj (ns := r.names.filter fun n => (r.kz n).k.decided) (fun n hn => (List.mem_filter.1 hn).1) (q := q2) (by rw [← HQ1.out]; exact HP2.out))
          have SP := Lib.hid (sorted_pair HS2.out)
          have t4 := T6.out.cell 0; have rb1 := RB6.out.cell 1
          simp only [List.getElem?_cons_zero, List.getElem?_cons_succ] at t4 rb1
          obtain ⟨KQ, hKQ⟩ : ∃ KQ, KQ = (q2.map (nmOf r)).map fun n => (r.kz n).k := ⟨_, rfl⟩
          have KQL : Hid (KQ.length = q1.length) := Lib.hid (by rw [hKQ, List.length_map, List.length_map, L2.out])
          have hkn : (fun n => (r.kz n).k) = kn D := funext fun n => K2.out.kz n
          have RF : Hid (refFromD D = outD KQ q1.length) := Lib.hid (by
            rw [hKQ, hkn, L2.out, ← List.length_map (f := nmOf r)]
            refine ref_out HBAD.out HSA.out ?_ ?_
            · have := PN.out.1
              rw [K2.out.names] at this
              have e : (fun n => (r.kz n).k.decided) = fun n => (kn D n).decided := funext fun n => by rw [K2.out.kz]
              rw [e] at this
              exact this
            · have := SP.out
              rw [hkn] at this
              exact this)
          have HKQ := Lib.hid hKQ
          clear hKQ hkn
          go_upto_region 13 with fail
          clear t4 rb1
          go_loopw [7, 53] (fun o i wr => ∃ (j : Nat) (out : List StepZ) (ov : Option Addr) (oc : Nat), j ≤ q1.length ∧ i = .int .i64 j ∧ o = .slice ov out.length oc ∧ out.length ≤ j ∧ Hid (outD KQ j = some (out.map (·.d))) ∧ Hid (wr.ownsRow w.heap.size 51 6 o out.length (out.flatMap encStep)) ∧ Hid (∀ k, o.ownBlock = some k → w6.heap.size ≤ k) ∧ Hid (∀ z ∈ out, StepMine wr w.heap.size z) ∧ Hid (ApartS out) ∧ Hid (Ext w6 wr)) (fun _ i _ => q1.length - (intOf i).toNat)
          case atStart => exact ⟨0, [], none, 0, by omega, rfl, rfl, by simp, Lib.hid rfl, Lib.hid (World.ownsRow_nil _ _ _ _), Lib.hid (by simp [Value.ownBlock]), Lib.hid (fun z hz => by cases hz), Lib.hid (fun i j z y _ h => by simp at h), Lib.hid (Below.refl _ _)⟩
          case round =>
            obtain ⟨j, out, ov, oc, hj, rfl, rfl, hol, O1, OO, ON, OM, OA, XJ⟩ := hrel
            by_cases hlj : j < q1.length
            · obtain ⟨b, hb⟩ : ∃ b, q2[j]? = some b := ⟨_, List.getElem?_eq_getElem (by have := L2.out; omega)⟩
              obtain ⟨g, c, hv⟩ := own_pos OW6.out (by omega)
              simp only [Value.slice.injEq, true_and] at hv
              obtain ⟨rfl, rfl⟩ := hv
              have hbn : b ∈ q2 := List.mem_of_getElem? hb
              obtain ⟨n, hn⟩ : ∃ n, nmOf r b = n := ⟨_, rfl⟩
              have hnr : n ∈ r.names := PN.out.2.2 n (List.mem_map.2 ⟨b, hbn, hn⟩)
              have hpb : r.p n = b := by
                have h1 := PN.out.2.1
                have h2 : ((q2.map (nmOf r)).map r.p)[j]? = some (r.p n) := by rw [List.getElem?_map, List.getElem?_map, hb, Option.map_some, Option.map_some, hn]
                rw [h1, hb] at h2
                exact (Option.some.inj h2).symm
              obtain ⟨kz, hkz⟩ : ∃ kz, r.kz n = kz := ⟨_, rfl⟩
              have KJ : Hid (KQ[j]? = some kz.k) := Lib.hid (by rw [HKQ.out, List.getElem?_map, List.getElem?_map, hb, Option.map_some, Option.map_some, hn, hkz])
              have KB : Hid (Blk w6 b (encKn kz) 77) := Lib.hid (by rw [← hpb, ← hkz]; exact K6.out n hnr)
              have KA : Hid (kz.at w.heap.size w6) := Lib.hid (by rw [← hkz]; exact A6.out n hnr)
              have KR : Hid (kz.k.reads.length ≤ 1000) := Lib.hid (by rw [← hkz, K2.out.kz]; exact know_reads D HDR.out _ _)
              have KC : Hid (kz.k.acts.length ≤ 1000) := Lib.hid (by rw [← hkz, K2.out.kz]; exact know_acts D HDA.out _ _)
              have CB : Hid (w6.cell? ⟨g, j, none⟩ = some (.pointer (some ⟨b, 0, none⟩))) := Lib.hid ((OW6.out.cellAt j (by omega)).trans (by rw [List.getElem?_map, hb]; rfl))
              have OJ := Lib.hid (outD_next O1.out KJ.out)
              have hRN : Hid (∀ X, outD KQ (j + 1) = none → refFromD D = X → X = none) := Lib.hid (fun X h1 h2 => by rw [← h2, RF.out]; exact outD_stop KQ h1 _ (by omega))
              clear hb hbn hn hnr hpb hkz
              obtain ⟨⟨kcl, knm, kix, kdec, kcm, kreads, kacts, kcalled, kans⟩, kao, kac, kro, krc⟩ := kz
              have i0 : (0 : Int) ≤ (j : Int) := by omega
              have i1 : (j : Int) < (q1.length : Int) := by omega
              have cb : wr.cell? ⟨g, j, none⟩ = some (.pointer (some ⟨b, 0, none⟩)) := (XJ.out.cell (p := ⟨g, j, none⟩) ((OW6.out.lt g rfl).2)).trans CB.out
              have X7 : Hid (Ext w wr) := Lib.hid (Ext.trans X6.out XJ.out)
              obtain ⟨F, hF⟩ : ∃ F : Bool, F = decide ((0 < j ∧ (KQ[j - 1]?.map (·.index)) = some kix) ∨ (kcm = true ∧ kcalled = 0)) := ⟨_, rfl⟩
              have HF := Lib.hid hF
              clear hF
              go_upto_region 15 with fail
              go_cut [90] from 58 to 90 (fun f W => f = .bool F ∧ Hid (Ext wr W))
              case first =>
                have kb := KB.out.ext' XJ.out
                have kc2 := ExtBy.cell (show wr.cell? ⟨b, 2, none⟩ = some (.int .i64 kix) from kb.cell 2); have kc4 := ExtBy.cell (show wr.cell? ⟨b, 4, none⟩ = some (.bool kcm) from kb.cell 4); have kc7 := ExtBy.cell (show wr.cell? ⟨b, 7, none⟩ = some (.int .i64 kcalled) from kb.cell 7)
                clear kb cb
                by_cases hj0 : j = 0
                · have g1 : decide ((0 : Int) < (j : Int)) = false := by simp; omega
                  have g1n : decide (0 < j) = false := by simp; omega
                  have HJ0 := Lib.hid hj0
                  clear hj0 i0
                  cases kcm
                  · skip
                    have FV : Hid (F = false) := Lib.hid (by rw [HF.out]; simp [HJ0.out])
                    go_wp2_with fail
                    refine wp_region_ext (by kernel_rfl) (by kernel_rfl) ?_
                    repeat (go_big_quiet_step (fail))
                    refine wpQuiet_nil ?_
                    intro wd hw'
                    have XD : Hid (Ext wr wd) := Lib.hid (by obtain ⟨p, rfl⟩ := hw'; exact p.ext)
                    clear hw'
                    go_wp2_with fail
                    go_meet
                    exact ⟨by rw [FV.out], XD⟩
                  · by_cases hca : kcalled = 0
                    · have g3 : (kcalled == 0) = true := by simpa using hca
                      have HCA := Lib.hid hca
                      clear hca
                      have FV : Hid (F = true) := Lib.hid (by rw [HF.out]; simp [HCA.out])
                      go_wp2_with fail
                      refine wp_region_ext (by kernel_rfl) (by kernel_rfl) ?_
                      repeat (go_big_quiet_step (fail))
                      refine wpQuiet_nil ?_
                      intro wd hw'
                      have XD : Hid (Ext wr wd) := Lib.hid (by obtain ⟨p, rfl⟩ := hw'; exact p.ext)
                      clear hw'
                      go_wp2_with fail
                      go_meet
                      exact ⟨by rw [FV.out], XD⟩
                    · have g3 : (kcalled == 0) = false := by simpa using hca
                      have HCA := Lib.hid hca
                      clear hca
                      have FV : Hid (F = false) := Lib.hid (by rw [HF.out]; simp [HJ0.out, HCA.out])
                      go_wp2_with fail
                      refine wp_region_ext (by kernel_rfl) (by kernel_rfl) ?_
                      repeat (go_big_quiet_step (fail))
                      refine wpQuiet_nil ?_
                      intro wd hw'
                      have XD : Hid (Ext wr wd) := Lib.hid (by obtain ⟨p, rfl⟩ := hw'; exact p.ext)
                      clear hw'
                      go_wp2_with fail
                      go_meet
                      exact ⟨by rw [FV.out], XD⟩
                · obtain ⟨m, hm⟩ : ∃ m, m = j - 1 := ⟨_, rfl⟩
                  obtain ⟨b1, hb1⟩ : ∃ b1, q2[m]? = some b1 := ⟨_, List.getElem?_eq_getElem (by have := L2.out; omega)⟩
                  have hbn : b1 ∈ q2 := List.mem_of_getElem? hb1
                  obtain ⟨n1, hn1⟩ : ∃ n, nmOf r b1 = n := ⟨_, rfl⟩
                  have hnr : n1 ∈ r.names := PN.out.2.2 n1 (List.mem_map.2 ⟨b1, hbn, hn1⟩)
                  have hpb : r.p n1 = b1 := by
                    have h1 := PN.out.2.1
                    have h2 : ((q2.map (nmOf r)).map r.p)[m]? = some (r.p n1) := by rw [List.getElem?_map, List.getElem?_map, hb1, Option.map_some, Option.map_some, hn1]
                    rw [h1, hb1] at h2
                    exact (Option.some.inj h2).symm
                  obtain ⟨kix1, hkix1⟩ : ∃ kx, (r.kz n1).k.index = kx := ⟨_, rfl⟩
                  have KM : Hid ((KQ[j - 1]?.map (·.index)) = some kix1) := Lib.hid (by rw [← hm, HKQ.out, List.getElem?_map, List.getElem?_map, hb1, Option.map_some, Option.map_some, hn1, Option.map_some, hkix1])
                  have kp2 := ExtBy.cell (show wr.cell? ⟨b1, 2, none⟩ = some (.int .i64 kix1) from by rw [← hpb, ← hkix1]; exact ((K6.out n1 hnr).ext' XJ.out).cell 2)
                  have cm := ExtBy.cell (show wr.cell? ⟨g, m, none⟩ = some (.pointer (some ⟨b1, 0, none⟩)) from (XJ.out.cell (p := ⟨g, m, none⟩) ((OW6.out.lt g rfl).2)).trans ((OW6.out.cellAt m (by omega)).trans (by rw [List.getElem?_map, hb1]; rfl)))
                  have ct := ExtBy.cell (show wr.cell? ⟨w.heap.size + 2, 0, none⟩ = some (.pointer (some ⟨w.heap.size + 1, 0, none⟩)) from (T6.out.ext' XJ.out).cell 0)
                  have cr := ExtBy.cell (show wr.cell? ⟨w.heap.size + 1, 1, none⟩ = some (.slice (some ⟨g, 0, none⟩) q1.length c2) from (RB6.out.ext' XJ.out).cell 1)
                  have e1 : (j : Int) - 1 = (m : Int) := by omega
                  have e2 : IntKind.i64.wrap ((j : Int) - 1) = (m : Int) := by rw [e1]; exact wrapK (by omega) (by omega)
                  have m0 : (0 : Int) ≤ (m : Int) := by omega
                  have m1 : (m : Int) < (q1.length : Int) := by omega
                  have g1 : decide ((0 : Int) < (j : Int)) = true := by simp; omega
                  have g1n : decide (0 < j) = true := by simp; omega
                  have HJ0 := Lib.hid hj0
                  clear hj0 hm hb1 hbn hn1 hnr hpb hkix1
                  by_cases hix : kix1 = kix
                  · have g2 : (kix1 == kix) = true := by simpa using hix
                    have HIX := Lib.hid hix
                    clear hix
                    have FV : Hid (F = true) := Lib.hid (by rw [HF.out]; rw [KM.out, HIX.out]; have := HJ0.out; simp; omega)
                    go_wp2_with fail
                    refine wp_region_ext (by kernel_rfl) (by kernel_rfl) ?_
                    repeat (go_big_quiet_step (fail))
                    refine wpQuiet_nil ?_
                    intro wd hw'
                    have XD : Hid (Ext wr wd) := Lib.hid (by obtain ⟨p, rfl⟩ := hw'; exact p.ext)
                    clear hw'
                    go_wp2_with fail
                    go_meet
                    exact ⟨by rw [FV.out], XD⟩
                  · have g2 : (kix1 == kix) = false := by simpa using hix
                    have HIX := Lib.hid hix
                    clear hix
                    cases kcm
                    · skip
                      have FV : Hid (F = false) := Lib.hid (by rw [HF.out]; simp [KM.out, HIX.out])
                      go_wp2_with fail
                      refine wp_region_ext (by kernel_rfl) (by kernel_rfl) ?_
                      repeat (go_big_quiet_step (fail))
                      refine wpQuiet_nil ?_
                      intro wd hw'
                      have XD : Hid (Ext wr wd) := Lib.hid (by obtain ⟨p, rfl⟩ := hw'; exact p.ext)
                      clear hw'
                      go_wp2_with fail
                      go_meet
                      exact ⟨by rw [FV.out], XD⟩
                    · by_cases hca : kcalled = 0
                      · have g3 : (kcalled == 0) = true := by simpa using hca
                        have HCA := Lib.hid hca
                        clear hca
                        have FV : Hid (F = true) := Lib.hid (by rw [HF.out]; simp [HCA.out])
                        go_wp2_with fail
                        refine wp_region_ext (by kernel_rfl) (by kernel_rfl) ?_
                        repeat (go_big_quiet_step (fail))
                        refine wpQuiet_nil ?_
                        intro wd hw'
                        have XD : Hid (Ext wr wd) := Lib.hid (by obtain ⟨p, rfl⟩ := hw'; exact p.ext)
                        clear hw'
                        go_wp2_with fail
                        go_meet
                        exact ⟨by rw [FV.out], XD⟩
                      · have g3 : (kcalled == 0) = false := by simpa using hca
                        have HCA := Lib.hid hca
                        clear hca
                        have FV : Hid (F = false) := Lib.hid (by rw [HF.out]; simp [KM.out, HIX.out, HCA.out])
                        go_wp2_with fail
                        refine wp_region_ext (by kernel_rfl) (by kernel_rfl) ?_
                        repeat (go_big_quiet_step (fail))
                        refine wpQuiet_nil ?_
                        intro wd hw'
                        have XD : Hid (Ext wr wd) := Lib.hid (by obtain ⟨p, rfl⟩ := hw'; exact p.ext)
                        clear hw'
                        go_wp2_with fail
                        go_meet
                        exact ⟨by rw [FV.out], XD⟩
              case rest =>
                obtain ⟨rfl, XC⟩ := hcut
                have X8 := Lib.hid (Ext.trans X7.out XC.out)
                cases F
                · have HFF : Hid (¬ ((0 < j ∧ (KQ[j - 1]?.map (·.index)) = some kix) ∨ (kcm = true ∧ kcalled = 0))) := Lib.hid (of_decide_eq_false HF.out.symm)
                  have ON2 := Lib.hid (fun X (h : outD KQ (j + 1) = X) => by
                    rw [OJ.out, if_neg HFF.out] at h; exact h)
                  have kb := KB.out.ext' (Ext.trans XJ.out XC.out)
                  have kc4 := kb.cell 4
                  simp only [encKn, List.getElem?_cons_zero, List.getElem?_cons_succ] at kc4
                  clear kb cb
                  cases kcm
                  · have OO2 : Hid (outD KQ (j + 1) = some (out.map (·.d))) := Lib.hid (by rw [OJ.out, if_neg HFF.out]; rfl)
                    go_wp2_with fail
                    go_roundw
                    case rel => exact ⟨j + 1, out, ov, oc, by omega, by go_num, rfl, by omega, OO2, Lib.hid (own_ext OO.out XC.out), ON, Lib.hid (fun z hz => (OM.out z hz).ext XC.out), OA, Lib.hid (Ext.trans XJ.out XC.out)⟩
                    case measure => simp [intOf]; omega
                  · have OO2 : Hid (outD KQ (j + 1) = some (out.map (·.d) ++ [⟨kcl, knm, kacts, kreads, kcalled, kans⟩])) := Lib.hid (by rw [OJ.out, if_neg HFF.out]; rfl)
                    have kb := KB.out.ext' (Ext.trans XJ.out XC.out)
                    have hbl : ¬ w6.heap.size ≤ b := by have := KB.out.lt; omega
                    have x0 := ButBy.cell (S := (fun j => w6.heap.size ≤ j)) (show wc.cell? ⟨b, 0, none⟩ = some (.int .i64 kcl) from kb.cell 0) hbl
                    have x1 := ButBy.cell (S := (fun j => w6.heap.size ≤ j)) (show wc.cell? ⟨b, 1, none⟩ = some (.int .i64 knm) from kb.cell 1) hbl
                    have x5 := ButBy.cell (S := (fun j => w6.heap.size ≤ j)) (show wc.cell? ⟨b, 5, none⟩ = some (.slice kro kreads.length krc) from kb.cell 5) hbl
                    have x6 := ButBy.cell (S := (fun j => w6.heap.size ≤ j)) (show wc.cell? ⟨b, 6, none⟩ = some (.slice kao kacts.length kac) from kb.cell 6) hbl
                    have x7 := ButBy.cell (S := (fun j => w6.heap.size ≤ j)) (show wc.cell? ⟨b, 7, none⟩ = some (.int .i64 kcalled) from kb.cell 7) hbl
                    have x8 := ButBy.cell (S := (fun j => w6.heap.size ≤ j)) (show wc.cell? ⟨b, 8, none⟩ = some (.int .i64 kans) from kb.cell 8) hbl
                    have SZ := Lib.hid X6.out.size
                    have XDD : Hid (Ext wc wc.drew) := Lib.hid (Below.refl _ wc).drew
                    clear kb
                    go_wp2_with fail
                    clear kc4
                    refine wp_region_firstC (fun W => ∃ p : ButBy (fun j => w6.heap.size ≤ j) wc, W = p.W) [0, 1, 2, 3, 4, 5, 6, 7, 8, 9, 10, 11, 12, 13, 14, 15, 16, 17, 18, 19, 20, 21] 4 (by kernel_rfl) (by kernel_rfl) (fun _ _ _ _ h => h) ⟨⟨wc.drew, Ext.but XDD.out _⟩, rfl⟩ ?_
                    simp only [opsAt, List.getElem?_toArray, List.getElem?_cons_succ, List.getElem?_cons_zero]
                    repeat (go_big_quiet_step (fail))
                    refine wpQuiet_nil ?_
                    obtain ⟨wq, hwq⟩ : ∃ wq, wq = wc.drew := ⟨_, rfl⟩
                    rw [← hwq] at XDD ⊢
                    clear hwq x0 x1 x5 x6 x7 x8 hbl
                    have XQ := Lib.hid (Ext.trans XC.out XDD.out)
                    have XQ6 := Lib.hid (Ext.trans XJ.out XQ.out)
                    have CP := Lib.hid (copiedS_calls ⟨⟨kcl, knm, kacts, kreads, kcalled, kans⟩, kao, kac, kro, krc⟩ wq ⟨((KA.out.1.ext (XQ6.out.mono SZ.out)).mono (Nat.le_trans SZ.out XQ6.out.size)), ((KA.out.2.ext (XQ6.out.mono SZ.out)).mono (Nat.le_trans SZ.out XQ6.out.size))⟩ (by show kacts.length ≤ 1000000; exact Nat.le_trans KC.out (by omega)) (by show kreads.length ≤ 1000000; exact Nat.le_trans KR.out (by omega)))
                    unfold encStep at CP
                    simp only at CP
                    refine wpAnyH_ready (rs := [22]) (by kernel_rfl) (by simp) ?_
                    refine AllReadyH.cons rfl (fun K hK => ?_) AllReadyH.nil
                    go_simp
                    refine CP.out.mono ?_
                    rintro e wy ⟨z', rfl, hzd, hzm, hzx⟩
                    obtain ⟨zd, pa, qa, pb, qb⟩ := z'
                    simp only at hzd
                    subst hzd
                    have ZM := Lib.hid hzm; have ZX := Lib.hid hzx
                    have Y1 := Lib.hid (Ext.trans XDD.out hzx)
                    clear hzm hzx CP
                    unfold encStep
                    simp only
                    refine hK.out _ _ ⟨⟨_, Ext.but Y1.out _⟩, rfl⟩ (fun _ => ?_)
                    clear hK K
                    refine wpAnyH_ready (rs := [23]) (by kernel_rfl) (by simp) ?_
                    refine AllReadyH.cons rfl (fun K hK => ?_) AllReadyH.nil
                    go_simp
                    obtain ⟨wa, hN⟩ : ∃ wa, wa = wy.alloc (.cells #[.int .i64 kcl, .int .i64 knm, .slice pa kacts.length qa, .slice pb kreads.length qb, .int .i64 kcalled, .int .i64 kans] 51) := ⟨_, rfl⟩
                    have Ywa : Hid (Ext wy wa) := Lib.hid (by rw [hN]; exact (Below.refl _ wy).alloc (Nat.le_refl _) _)
                    have OB := Lib.hid (Blk.new wy (encStep ⟨⟨kcl, knm, kacts, kreads, kcalled, kans⟩, pa, qa, pb, qb⟩) 51)
                    unfold encStep at OB
                    simp only at OB
                    rw [← hN] at OB ⊢
                    have Y2 := Lib.hid (Ext.trans Y1.out Ywa.out)
                    have XA := Lib.hid (Ext.trans XC.out Y2.out)
                    refine hK.out _ _ ⟨⟨_, Ext.but Y2.out _⟩, rfl⟩ (fun _ => ?_)
                    clear hK K hN
                    refine wpAnyH_ready (rs := [24]) (by kernel_rfl) (by simp) ?_
                    refine AllReadyH.cons rfl (fun K hK => ?_) AllReadyH.nil
                    refine stepAddW rfl (.tmp 95) (.tmp 118) rfl (base := w6) (acc := out) (l := [⟨⟨kcl, knm, kacts, kreads, kcalled, kans⟩, pa, qa, pb, qb⟩]) rfl rfl (own_base (own_ext OO.out XA.out) (fun _ _ => Nat.zero_le _)) ON.out (Ext.trans XJ.out XA.out) (rowsOneS OB.out) (by simp; omega) _ rfl ?_
                    intro so c' w1 h1 h2 h3 h4 h5
                    have Z1 := Lib.hid h1; have Z2 := Lib.hid h2; have Z4 := Lib.hid h4; have Z5 := Lib.hid h5
                    have BW := Lib.hid ((Ext.but Y2.out (fun _ => False)).trans h5 (U := fun j => w6.heap.size ≤ j) (fun _ _ e => e.elim) (fun i _ e => ON.out i e))
                    go_simp
                    refine hK.out _ _ ⟨⟨_, BW.out⟩, rfl⟩ (fun _ => ?_)
                    clear hK K h1 h2 h3 h4 h5
                    refine wp_takesC (f := 0) [25] (by kernel_rfl) (fun _ _ _ _ h => h) ⟨⟨_, BW.out⟩, rfl⟩ ?_
                    simp only [opsAt, List.getElem?_toArray, List.getElem?_cons_succ, List.getElem?_cons_zero]
                    repeat (go_big_quiet_step (fail))
                    refine wpQuiet_nil ?_
                    refine wpAnyH_done (by kernel_rfl) ?_ _
                    go_wp2_with fail
                    go_roundw
                    case rel =>
                      have hla : (out ++ [(⟨⟨kcl, knm, kacts, kreads, kcalled, kans⟩, pa, qa, pb, qb⟩ : StepZ)]).length = out.length + 1 := by simp
                      refine ⟨j + 1, out ++ [⟨⟨kcl, knm, kacts, kreads, kcalled, kans⟩, pa, qa, pb, qb⟩], so, c', by omega, by go_num, by rw [hla], by rw [hla]; omega, ?_, ?_, Lib.hid (by have := Z2.out; rw [hla] at this; exact this), ?_, ?_, Z4⟩
                      · exact Lib.hid (by rw [OO2.out, List.map_append]; rfl)
                      · refine Lib.hid ?_
                        have h1 := own_base Z1.out (fun k e => Nat.le_trans SZ.out (Z2.out k e))
                        rw [hla] at h1 ⊢
                        exact h1
                      · refine Lib.hid (fun z hz => ?_)
                        rcases List.mem_append.1 hz with h | h
                        · exact ((OM.out z h).ext XA.out).row Z5.out (own_ext OO.out XA.out)
                        · rw [List.mem_singleton] at h
                          subst h
                          have hlow : ∀ {W : World}, StepMine W wq.heap.size ⟨⟨kcl, knm, kacts, kreads, kcalled, kans⟩, pa, qa, pb, qb⟩ → StepMine W w.heap.size ⟨⟨kcl, knm, kacts, kreads, kcalled, kans⟩, pa, qa, pb, qb⟩ := fun h =>
                            ⟨own_base h.acts (fun k e => Nat.le_trans (Nat.le_trans SZ.out XQ6.out.size) (own_ge h.acts k e)), own_base h.reads (fun k e => Nat.le_trans (Nat.le_trans SZ.out XQ6.out.size) (own_ge h.reads k e))⟩
                          exact hlow ((ZM.out.ext Ywa.out).row Z5.out (own_ext OO.out XA.out))
                      · refine Lib.hid (apart_more (N := wq.heap.size) OA.out (fun y hy => ?_) ⟨fun k e => own_ge ZM.out.acts k e, fun k e => own_ge ZM.out.reads k e⟩)
                        have h1 := (OM.out y hy).lts
                        have h2 := XQ.out.size
                        exact ⟨fun k e => by have := h1.1 k e; omega, fun k e => by have := h1.2 k e; omega⟩
                    case measure => simp [intOf]; omega
                · have HFF : Hid ((0 < j ∧ (KQ[j - 1]?.map (·.index)) = some kix) ∨ (kcm = true ∧ kcalled = 0)) := Lib.hid (of_decide_eq_true HF.out.symm)
                  have RN : Hid (refFromD D = none) := Lib.hid (hRN.out _ (by rw [OJ.out, if_pos HFF.out]) rfl)
                  go_wp2_with fail
                  go_ret2
                  exact from_none_post RN.out X8.out
            · obtain rfl : j = q1.length := by omega
              have RS : Hid (refFromD D = some (out.map (·.d))) := Lib.hid (by rw [RF.out]; exact O1.out)
              go_wp2_with fail
              go_ret2
              exact ⟨_, out, by rw [RS.out]; rfl, by rw [RS.out]; rfl, OO.out, OM.out, OA.out, Ext.trans X6.out XJ.out⟩
      · rw [hbad] at rb2
        have HBAD : Hid (badD D D.length = true) := Lib.hid (by rw [← K2.out.bad]; exact hbad)
        clear hbad
        go_wp2_with fail
        go_ret2
        exact from_none_post (ref_bad HBAD.out) X1.out
end Go.Proofs.YtbnclifpdmpjnaaGreatDoor
