/- The document's layer 16: hold: one that is read. -/
import Derived.Test.YtdmejbjpbjcfbaaGreatDoorRefHold
import Derived.Test.YtdmejbjpbjcfbaaGreatDoorRefOneH
import Derived.Test.YtdmejbjpbjcfbaaGreatDoorFirstN
import Derived.Deep.DeepMust
import Derived.Deep.CutRange
import Derived.Deep.DeepCutAuto
namespace Go.Proofs.YtdmejbjpbjcfbaaGreatDoor
open Go.RowKit

theorem nrows_app {w0 w9 : World} {N1 rb : Nat} {vo : Option Addr} {a : List ActD} {va v' : Value} (h : NRows 4 encAct (fun b => b ≤ N1 ∨ va.ownBlock = some b) w0 vo a) (hrb : rb ≤ N1) (h3 : But (fun j => j = rb ∨ va.ownBlock = some j) w0 w9) (h4 : ∀ j, v'.ownBlock = some j → va.ownBlock = some j ∨ w0.heap.size ≤ j) (x : Value) : NRows 4 encAct (fun b => b ≤ N1 ∨ v'.ownBlock = some b) (w9.setCell ⟨N1, 4, none⟩ x) vo a := by
  have h5 : NRows 4 encAct (fun b => (b ≤ N1 ∨ va.ownBlock = some b) ∨ v'.ownBlock = some b) w0 vo a := h.mono fun b hb e => e.elim id (fun e => (h4 b e).elim .inr (fun e => absurd hb (Nat.not_lt.2 e)))
  have h6 := h5.but h3 (fun b _ e => .inl (e.elim (fun e => .inl (by subst e; exact hrb)) .inr))
  have h7 : NRows 4 encAct (fun b => b ≤ N1 ∨ v'.ownBlock = some b) w9 vo a := h6.mono fun b _ e => e.elim (fun e => .inl (.inl e)) .inr
  exact h7.but (But.set1 w9 N1 4 x) (fun b _ e => .inl (Nat.le_of_eq e))
/-- What the document's hold tells. -/
def DHoldPost (B rb : Nat) (r : HoldD × Bool × RSt) (w : World) (e : Ending) (w' : World) : Prop :=
  (∃ x : HoldV, e = .returned (.tuple #[.agg (encHV x).toArray, .bool (r.2.1 && !r.2.2.fl)]) ∧ x.is w' (fun b => b < w.heap.size) r.1) ∧ RRPost B rb r.2.2 w w'
set_option maxRecDepth 100000 in
set_option maxHeartbeats 6400000 in
theorem refHold_read (rb cap : Nat) (B : Nat) (ao : Option Addr) (s : RSt) (w : World) (T : RRdr w B rb ao cap s) (hBw : B ≤ w.heap.size) :
    Calls Tryz.prog 78 #[.pointer (some ⟨rb, 0, none⟩)] w (DHoldPost B rb (holdS s) w) := by
  obtain ⟨i0, hi, hz0, hz1, hz2⟩ := info_parts infoRd
  obtain ⟨i1, hi', hz0', hz1', hz2'⟩ := info_parts infoAct
  have HT := Lib.hid T
  have hrb := T.blk.lt
  clear T
  have hb1 := numS_le 8 (rowS 20 s).2
  obtain ⟨kk, s1, e1⟩ : ∃ kk s1, rowS 20 s = (kk, s1) := ⟨_, _, rfl⟩
  rw [e1] at hb1; simp only at hb1
  obtain ⟨c, s2, e2⟩ : ∃ c s2, numS 8 s1 = (c, s2) := ⟨_, _, rfl⟩
  have hb2 := numS_le 1073741824 s2
  obtain ⟨n, s3, e3⟩ : ∃ n s3, numS 1073741824 s2 = (n, s3) := ⟨_, _, rfl⟩
  have hb3 := numS_le 6 s3
  obtain ⟨m, s4, e4⟩ : ∃ m s4, numS 6 s3 = (m, s4) := ⟨_, _, rfl⟩
  rw [e2] at hb1; rw [e3] at hb2; rw [e4] at hb3
  simp only at hb1 hb2 hb3
  have E1 := Lib.hid e1; have E2 := Lib.hid e2; have E3 := Lib.hid e3; have E4 := Lib.hid e4
  clear e1 e2 e3 e4
  have B0 := Lib.hid (Blk.new w [.string ⟨#[]⟩, .int .i64 0, .int .i64 0, .slice none 0 0, .slice none 0 0, .bool false, .string ⟨#[]⟩] 35)
  have X0 : Hid (Ext w (w.alloc (.cells #[.string ⟨#[]⟩, .int .i64 0, .int .i64 0, .slice none 0 0, .slice none 0 0, .bool false, .string ⟨#[]⟩] 35))) := Lib.hid ((Below.refl _ w).alloc (Nat.le_refl _) _)
  go_enter Tryz.func78, Tryz.ntmps78
  go_wp2_with fail
  refine (rtext_read B rb cap ao s 20 _ (HT.out.ext X0.out) (by omega)).mono ?_
  rw [E1.out]
  rintro e w1 ⟨⟨ro, rc, rfl, hcv⟩, ⟨ao1, cap1, h1⟩, h2⟩
  simp only at hcv
  have hst : HSt w (w1.alloc (.cells #[.string ⟨kk.toArray⟩, .int .i64 0, .int .i64 0, .slice none 0 0, .slice none 0 0, .bool false, .string ⟨#[]⟩] 35)) B rb w1.heap.size ao1 cap1 s1 [.string ⟨kk.toArray⟩, .int .i64 0, .int .i64 0, .slice none 0 0, .slice none 0 0, .bool false, .string ⟨#[]⟩] := by
    have hb := B0.out.but h2 (show ¬ w.heap.size = rb by omega)
    exact ⟨h1.ext ((Below.refl _ _).alloc (Nat.le_refl _) _), hb.alloc _, Blk.new w1 _ _, hb.lt, hBw, ((Ext.but X0.out (fun _ => False)).trans h2 (U := fun j => j = rb) (fun _ _ e => e.elim) (fun _ _ e => e)).alloc _⟩
  have HS := Lib.hid hst
  clear h1 h2 hst B0 X0
  go_wp2_with fail
  have hst := HS.out
  clear HS hcv
  generalize w1.alloc (.cells #[.string ⟨kk.toArray⟩, .int .i64 0, .int .i64 0, .slice none 0 0, .slice none 0 0, .bool false, .string ⟨#[]⟩] 35) = w2 at hst ⊢
  generalize w1.heap.size = N1 at hst ⊢
  refine (rnum_read B rb _ _ s1 8 w2 hst.rd (by omega)).mono ?_
  rw [E2.out]
  rintro e w3 ⟨rfl, hp⟩
  obtain ⟨ao3, cap3, hst3⟩ := hst.read hp
  have c1 := hst3.b1.cell 1; have f1 := hst3.b1.free 1
  simp only [List.getElem?_cons_zero, List.getElem?_cons_succ] at c1
  have HS := Lib.hid hst3
  clear hp hst hst3
  go_wp2_with fail
  have hst := HS.out.set 1 (.int .i64 (c : Int))
  simp only [List.set_cons_zero, List.set_cons_succ] at hst
  clear HS c1 f1
  refine (rnum_read B rb _ _ s2 1073741824 _ hst.rd (by omega)).mono ?_
  rw [E3.out]
  rintro e w4 ⟨rfl, hp⟩
  obtain ⟨ao4, cap4, hst3⟩ := hst.read hp
  have c1 := hst3.b1.cell 2; have f1 := hst3.b1.free 2
  simp only [List.getElem?_cons_zero, List.getElem?_cons_succ] at c1
  have HS := Lib.hid hst3
  clear hp hst hst3
  go_wp2_with fail
  have hst := HS.out.set 2 (.int .i64 (n : Int))
  simp only [List.set_cons_zero, List.set_cons_succ] at hst
  clear HS c1 f1
  refine (rnum_read B rb _ _ s3 6 _ hst.rd (by omega)).mono ?_
  rw [E4.out]
  rintro e w5 ⟨rfl, hp⟩
  obtain ⟨ao5, cap5, hst3⟩ := hst.read hp
  have HS := Lib.hid hst3
  clear hp hst hst3
  go_wp2_with fail
  go_loopw [6, 7] (fun vg vi wr => ∃ (k : Nat) (vo : Option Addr) (vc : Nat) (ao' : Option Addr) (cap' : Nat), vi = .int .i64 k ∧ k ≤ m ∧ vg = .bool (actsK ⟨kk.toArray⟩ s4 k).2.1 ∧ wr.ownsRow 0 98 4 (.slice vo (actsK ⟨kk.toArray⟩ s4 k).1.length vc) (actsK ⟨kk.toArray⟩ s4 k).1.length ((actsK ⟨kk.toArray⟩ s4 k).1.flatMap encAct) ∧ (∀ j, (Value.slice vo (actsK ⟨kk.toArray⟩ s4 k).1.length vc).ownBlock = some j → N1 < j) ∧ HSt w wr B rb N1 ao' cap' (actsK ⟨kk.toArray⟩ s4 k).2.2 [.string ⟨kk.toArray⟩, .int .i64 c, .int .i64 n, .slice vo (actsK ⟨kk.toArray⟩ s4 k).1.length vc, .slice none 0 0, .bool false, .string ⟨#[]⟩]) (fun _ vi _ => m - (intOf vi).toNat)
  case atStart => exact ⟨0, none, 0, ao5, cap5, rfl, by omega, rfl, World.ownsRow_nil _ _ _ _, by simp [Value.ownBlock], HS.out⟩
  case round =>
    obtain ⟨k, vo, vc, ao', cap', rfl, hk, rfl, hown, hnew, hst⟩ := hrel
    have hN1 := hst.b1.lt; have hrbN := hst.n0; have hN01 := hst.n1
    clear HS
    by_cases hlt : k < m
    · have hlen := actsK_len ⟨kk.toArray⟩ s4 k
      have hsucc : actsK ⟨kk.toArray⟩ s4 (k + 1) = ((actsK ⟨kk.toArray⟩ s4 k).1 ++ [(actS ⟨kk.toArray⟩ (actsK ⟨kk.toArray⟩ s4 k).2.2).1], (actsK ⟨kk.toArray⟩ s4 k).2.1 && (actS ⟨kk.toArray⟩ (actsK ⟨kk.toArray⟩ s4 k).2.2).2.1, (actS ⟨kk.toArray⟩ (actsK ⟨kk.toArray⟩ s4 k).2.2).2.2) := rfl
      generalize hak : actsK ⟨kk.toArray⟩ s4 k = ak at *
      obtain ⟨q, ok, s5⟩ := ak
      have hb5 := numS_le 3 s5
      obtain ⟨kd, s6, e1⟩ : ∃ kd s6, numS 3 s5 = (kd, s6) := ⟨_, _, rfl⟩
      obtain ⟨val, s7, e2⟩ : ∃ val s7, rowS 20 s6 = (val, s7) := ⟨_, _, rfl⟩
      obtain ⟨bl, s8, e3⟩ : ∃ bl s8, flagS s7 = (bl, s8) := ⟨_, _, rfl⟩
      have hb6 := numS_le 1073741824 s8
      obtain ⟨mm, s9, e4⟩ : ∃ mm s9, numS 1073741824 s8 = (mm, s9) := ⟨_, _, rfl⟩
      rw [e1] at hb5; rw [e4] at hb6
      have hact := actS_eq (key := ⟨kk.toArray⟩) e1 e2 e3 e4
      simp only at hsucc hlen hb5 hb6 hown hnew hst
      rw [hact] at hsucc
      have SU := Lib.hid hsucc; have F1 := Lib.hid e1; have F2 := Lib.hid e2; have F3 := Lib.hid e3; have F4 := Lib.hid e4; have HL := Lib.hid hlen
      have O1 := Lib.hid hown; have NW := Lib.hid hnew; have HS := Lib.hid hst
      clear hsucc e1 e2 e3 e4 hlen hact hak hown hnew hst
      have c0 := HS.out.b1.cell 0
      simp only [List.getElem?_cons_zero] at c0
      have hNrb : ¬ N1 = rb := by omega
      have c0' : ∀ W, But (fun j => j = rb) wr W → W.cell? ⟨N1, 0, none⟩ = some (.string ⟨kk.toArray⟩) := fun W hW => (hW.cell (p := ⟨N1, 0, none⟩) hN1 hNrb).trans c0
      have C0 := Lib.hid c0'; clear c0'
      have HWK : Hid (IntKind.u8.wrap (kd : Int) = (kd : Int)) := Lib.hid (by simp [IntKind.wrap, IntKind.bits, IntKind.signed]; omega)
      go_wp2_with fail
      go_cut [8] (fun p W => ∃ (M : Nat) (ao7 : Option Addr) (cap7 : Nat), p = .pointer (some ⟨M, 0, none⟩) ∧ MSt w wr W B rb N1 M ao7 cap7 s6 [.string ⟨kk.toArray⟩, .int .i64 c, .int .i64 n, .slice vo q.length vc, .slice none 0 0, .bool false, .string ⟨#[]⟩] 98 [.int .u8 kd, .string ⟨kk.toArray⟩, .string ⟨#[]⟩, .int .i64 0] 4 q.length (.slice vo q.length vc) (q.flatMap encAct))
      case first =>
        go_region_with (first
          | (go_at_call 77; refine (rnum_read B rb cap' ao' s5 3 wr.drew (HS.out.rd.ext (Below.refl _ _).drew) (by omega)).mono ?_; rw [F1.out]; rintro e w6 ⟨rfl, ⟨ao6, cap6, h1⟩, h2⟩; have h3 : But (fun j => j = rb) wr w6 := (But.refl (fun j => j = rb) wr).drew.trans h2 (fun _ _ e => e) (fun _ _ e => e); have c6 := C0.out w6 h3; have n6 := Nat.lt_of_lt_of_le hN1 h3.size; have X1 := Lib.hid h1; have X3 := Lib.hid h3; clear h1 h2 h3)
          | (go_at_call 77; go_must (refine (rnum_read B rb cap' ao' s5 3 (wr.alloc (.cells #[.int .u8 0, .string ⟨#[]⟩, .string ⟨#[]⟩, .int .i64 0] 98)).drew (HS.out.rd.ext ((Below.refl _ _).alloc (Nat.le_refl _) _).drew) (by omega)).mono ?_; rw [F1.out]; rintro e w6 ⟨rfl, ⟨ao6, cap6, h1⟩, h2⟩; have h3 : But (fun j => j = rb) wr w6 := ((But.refl (fun j => j = rb) wr).alloc _).drew.trans h2 (fun _ _ e => e) (fun _ _ e => e); have c6 := C0.out w6 h3; have n6 := Nat.lt_of_lt_of_le hN1 h3.size; have z := (Blk.new wr [.int .u8 0, .string ⟨#[]⟩, .string ⟨#[]⟩, .int .i64 0] 98).drew.but h2 (fun e => by have e2 : wr.heap.size = rb := e; omega); have z0 := z.cell 0; have z1 := z.cell 1; have z2 := z.cell 2; have z3 := z.cell 3; have y0 := z.free 0; have y1 := z.free 1; have y2 := z.free 2; have y3 := z.free 3; simp only [List.getElem?_cons_zero, List.getElem?_cons_succ] at z0 z1 z2 z3; have X1 := Lib.hid h1; have X3 := Lib.hid h3; have X4 := Lib.hid z; clear h1 h2 h3 z)))
        all_goals
          try simp only [HWK.out]
          have fA : Hid (∀ W, W = w6.alloc (.cells #[.int .u8 kd, .string ⟨kk.toArray⟩, .string ⟨#[]⟩, .int .i64 0] 98) → Blk W w6.heap.size [.int .u8 kd, .string ⟨kk.toArray⟩, .string ⟨#[]⟩, .int .i64 0] 98 ∧ RRdr W B rb ao6 cap6 s6 ∧ But (fun j => j = rb) wr W ∧ wr.heap.size ≤ w6.heap.size) :=
            Lib.hid fun W hW => by subst hW; exact ⟨Blk.new w6 [.int .u8 kd, .string ⟨kk.toArray⟩, .string ⟨#[]⟩, .int .i64 0] _, X1.out.ext ((Below.refl _ _).alloc (Nat.le_refl _) _), X3.out.alloc _, X3.out.size⟩
          have fB : Hid (Blk w6 wr.heap.size [.int .u8 0, .string ⟨#[]⟩, .string ⟨#[]⟩, .int .i64 0] 98 → ∀ W, W = (((w6.setCell ⟨wr.heap.size, 0, none⟩ (.int .u8 kd)).setCell ⟨wr.heap.size, 1, none⟩ (.string ⟨kk.toArray⟩)).setCell ⟨wr.heap.size, 2, none⟩ (.string ⟨#[]⟩)).setCell ⟨wr.heap.size, 3, none⟩ (.int .i64 0) → Blk W wr.heap.size [.int .u8 kd, .string ⟨kk.toArray⟩, .string ⟨#[]⟩, .int .i64 0] 98 ∧ RRdr W B rb ao6 cap6 s6 ∧ But (fun j => j = rb) wr W ∧ wr.heap.size ≤ wr.heap.size) :=
            Lib.hid fun hz W hW => by
              subst hW
              have hb3 : But (fun j => j = wr.heap.size) w6 ((((w6.setCell ⟨wr.heap.size, 0, none⟩ (.int .u8 kd)).setCell ⟨wr.heap.size, 1, none⟩ (.string ⟨kk.toArray⟩)).setCell ⟨wr.heap.size, 2, none⟩ (.string ⟨#[]⟩)).setCell ⟨wr.heap.size, 3, none⟩ (.int .i64 0)) := ((But.set2 w6 wr.heap.size 0 1 _ _).here rfl 2 _).here rfl 3 _
              exact ⟨(((hz.set 0 _).set 1 _).set 2 _).set 3 _, X1.out.but hb3 (fun b hb e => by omega), X3.out.trans hb3 (fun _ _ e => e) (fun i hi e => by omega), Nat.le_refl _⟩
          go_wp2_with fail
          go_meet
          first
          | (have z := X4.out
             generalize hW7 : (((w6.setCell ⟨wr.heap.size, 0, none⟩ (.int .u8 kd)).setCell ⟨wr.heap.size, 1, none⟩ (.string ⟨kk.toArray⟩)).setCell ⟨wr.heap.size, 2, none⟩ (.string ⟨#[]⟩)).setCell ⟨wr.heap.size, 3, none⟩ (.int .i64 0) = W7
             obtain ⟨hb7, hr7, hx7, hge⟩ := fB.out z W7 hW7.symm
             clear z
             obtain ⟨M, hM⟩ : ∃ M, M = wr.heap.size := ⟨_, rfl⟩
             rw [← hM] at hb7 ⊢
             replace hge : wr.heap.size ≤ M := by omega
             clear hM)
          | (generalize hW7 : w6.alloc (.cells #[.int .u8 kd, .string ⟨kk.toArray⟩, .string ⟨#[]⟩, .int .i64 0] 98) = W7
             obtain ⟨hb7, hr7, hx7, hge⟩ := fA.out W7 hW7.symm
             generalize w6.heap.size = M at hb7 hge ⊢)
          have ms7 : ∃ ao7 cap7, MSt w wr W7 B rb N1 M ao7 cap7 s6 [.string ⟨kk.toArray⟩, .int .i64 c, .int .i64 n, .slice vo q.length vc, .slice none 0 0, .bool false, .string ⟨#[]⟩] 98 [.int .u8 kd, .string ⟨kk.toArray⟩, .string ⟨#[]⟩, .int .i64 0] 4 q.length (.slice vo q.length vc) (q.flatMap encAct) := by
            obtain ⟨ao7, cap7, h7⟩ := HS.out.read ⟨⟨_, _, hr7⟩, hx7⟩
            exact ⟨ao7, cap7, h7, hb7, by omega, own_but O1.out hx7 (fun j hj e => by have := NW.out j hj; omega), fun j hj => ⟨NW.out j hj, by have := (O1.out.lt j hj).2; omega, (O1.out.lt j hj).2⟩, hge, hx7⟩
          obtain ⟨ao7, cap7, hm7⟩ := ms7
          exact ⟨_, ao7, cap7, rfl, hm7⟩
      case rest =>
        obtain ⟨M, ao7, cap7, hp8, hm7⟩ := hcut
        subst hp8
        have MS := Lib.hid hm7
        clear hm7 C0 c0 HS O1 NW
        go_wp2_with fail
        refine (rtext_read B rb _ _ s6 20 wc MS.out.hs.rd (by omega)).mono ?_
        rw [F2.out]
        rintro e w8 ⟨⟨ro8, rc8, rfl, hcv⟩, hp⟩
        simp only at hcv
        obtain ⟨ao8, cap8, hm8⟩ := MS.out.read hp
        have d2 := hm8.bm.cell 2; have g2 := hm8.bm.free 2
        simp only [List.getElem?_cons_zero, List.getElem?_cons_succ] at d2
        have MS2 := Lib.hid hm8
        clear hp hm8
        go_wp2_with fail
        have hm9 := MS2.out.set 2 (.string ⟨val.toArray⟩)
        simp only [List.set_cons_zero, List.set_cons_succ] at hm9
        clear hcv d2 g2
        refine (rflag_read B rb _ _ s7 _ hm9.hs.rd).mono ?_
        rw [F3.out]
        rintro e w10 ⟨rfl, hp⟩
        obtain ⟨ao10, cap10, hm10⟩ := hm9.read hp
        have MS3 := Lib.hid hm10
        clear hp hm9 hm10
        go_wp2_with fail
        refine (rnum_read B rb _ _ s8 1073741824 _ MS3.out.hs.rd (by omega)).mono ?_
        rw [F4.out]
        rintro e w11 ⟨rfl, hp⟩
        obtain ⟨ao11, cap11, hm11⟩ := MS3.out.read hp
        have d0 := hm11.bm.cell 0; have d1 := hm11.bm.cell 1; have d2 := hm11.bm.cell 2; have d3 := hm11.bm.cell 3; have g3 := hm11.bm.free 3
        have k3 := hm11.hs.b1.cell 3
        simp only [List.getElem?_cons_zero, List.getElem?_cons_succ] at d0 d1 d2 d3 k3
        have hNM : ¬ N1 = M := by have := hm11.nm; omega
        have hNM2 : N1 < w11.heap.size := hm11.hs.b1.lt
        have hMl : M < w11.heap.size := hm11.bm.lt
        have hO6 : ∀ W, But (fun j => j = M) w11 W → W.ownsRow 0 98 4 (.slice vo q.length vc) q.length (q.flatMap encAct) := fun W hW => own_but hm11.own hW (fun j hj e => (hm11.new j hj).2.1 e)
        have MS4 := Lib.hid hm11; have O6 := Lib.hid hO6
        clear hp hm11 hO6 MS MS2 MS3
        have hql : q.length ≤ 6 := by have := HL.out; omega
        have key : (bl = false ∧ ok = false) ∨ (bl = false ∧ ok = true) ∨ (bl = true ∧ ok = false) ∨ (bl = true ∧ ok = true ∧ 0 < mm) ∨ (bl = true ∧ ok = true ∧ mm = 0) := by cases bl <;> cases ok <;> simp; omega
        rcases key with ⟨rfl, rfl⟩ | ⟨rfl, rfl⟩ | ⟨rfl, rfl⟩ | ⟨rfl, rfl, hm0⟩ | ⟨rfl, rfl, hm0⟩
        case' inr.inr.inr.inl => have t2 : ((mm : Int) == 0) = false := by simp; omega
        case' inr.inr.inr.inr =>
          have t2 : ((mm : Int) == 0) = true := by simp; omega
          clear hm0
        all_goals
          go_wp2_with (at_builtin; go_must ((first
            | (refine wpList_append_at _ rfl _ _ 32 rfl 98 i1 _ 4 48 Tryz.underlying32 hi' hz0' hz1' hz2' rfl (by decide) (.slice vo q.length vc) q.length (q.flatMap encAct) rfl (own_ext (O6.out _ (But.set2 _ _ _ _ _ _)) ((Below.refl _ _).alloc (Nat.le_refl _) _)) ⟨_, 0, none⟩ 1 1 (encAct ⟨kd, ⟨kk.toArray⟩, ⟨val.toArray⟩, (-(mm : Int))⟩) rfl rfl (cells_new' ((w11.setCell ⟨M, 3, none⟩ (.int .i64 (mm : Int))).setCell ⟨M, 3, none⟩ (.int .i64 (-(mm : Int)))) (encAct ⟨kd, ⟨kk.toArray⟩, ⟨val.toArray⟩, (-(mm : Int))⟩) _ _ (by simp)) (one_act _) (by decide) (by unfold maxLen; omega) (by omega) ?_; intro g cap2 w12 hown' hbut hkept; have ha := MSt.app ((MS4.out.set 3 (.int .i64 (mm : Int))).set 3 (.int .i64 (-(mm : Int)))) ((Below.refl _ _).alloc (Nat.le_refl _) _) hbut hkept)
            | (refine wpList_append_at _ rfl _ _ 32 rfl 98 i1 _ 4 48 Tryz.underlying32 hi' hz0' hz1' hz2' rfl (by decide) (.slice vo q.length vc) q.length (q.flatMap encAct) rfl (own_ext (O6.out _ (But.set1 _ _ _ _)) ((Below.refl _ _).alloc (Nat.le_refl _) _)) ⟨_, 0, none⟩ 1 1 (encAct ⟨kd, ⟨kk.toArray⟩, ⟨val.toArray⟩, (mm : Int)⟩) rfl rfl (cells_new' (w11.setCell ⟨M, 3, none⟩ (.int .i64 (mm : Int))) (encAct ⟨kd, ⟨kk.toArray⟩, ⟨val.toArray⟩, (mm : Int)⟩) _ _ (by simp)) (one_act _) (by decide) (by unfold maxLen; omega) (by omega) ?_; intro g cap2 w12 hown' hbut hkept; have ha := MSt.app (MS4.out.set 3 (.int .i64 (mm : Int))) ((Below.refl _ _).alloc (Nat.le_refl _) _) hbut hkept)); have n3 := ha.1.b1.cell 3; have m3 := ha.1.b1.free 3; simp only [List.getElem?_cons_zero, List.getElem?_cons_succ] at n3; have HA := Lib.hid ha; have Y1 := Lib.hid hown'; clear hown' hbut hkept ha))
          go_roundw
          case rel =>
            have hst := HA.out.1.set 3 (.slice (some ⟨g, 0, none⟩) (q.length + 1) cap2)
            simp only [List.set_cons_zero, List.set_cons_succ] at hst
            have hl1 : (actsK ⟨kk.toArray⟩ s4 (k + 1)).1.length = q.length + 1 := by rw [SU.out]; simp
            refine ⟨k + 1, some ⟨g, 0, none⟩, cap2, ao11, cap11, by go_num, by omega, ?_, ?_, ?_, ?_⟩
            · rw [SU.out]; first | rfl | (simp; done) | (simp [hm0]; done) | (have hz0 := beq_iff_eq.1 t2; simp; omega)
            · rw [hl1, SU.out]
              have := own_setOther Y1.out (a := ⟨N1, 3, none⟩) (fun e => by have := HA.out.2.1 N1 e; omega) (.slice (some ⟨g, 0, none⟩) (q.length + 1) cap2)
              simp only [List.flatMap_append, List.flatMap_singleton]
              exact this
            · rw [hl1]; exact HA.out.2.1
            · rw [hl1, SU.out]; exact hst
          case measure => simp [intOf]; omega
    · have hkm : k = m := by omega
      subst hkm
      have has : actsS ⟨kk.toArray⟩ s3 = actsK ⟨kk.toArray⟩ s4 k := by simp [actsS, E4.out]
      generalize hak : actsK ⟨kk.toArray⟩ s4 k = ak at *
      obtain ⟨a, ok, s5⟩ := ak
      simp only at hown hnew hst
      have hb5 := numS_le 6 s5
      obtain ⟨m, s6, e5⟩ : ∃ m s6, numS 6 s5 = (m, s6) := ⟨_, _, rfl⟩
      rw [e5] at hb5; simp only at hb5
      have AS := Lib.hid has; have E5 := Lib.hid e5
      have AR := Lib.hid (nrows_of_own (enc := encAct) (sz := 4) (no := fun b => b ≤ N1 ∨ (Value.slice none 0 0).ownBlock = some b) (fun _ => rfl) hown (fun j hj e => e.elim (fun e => by have := hnew j hj; omega) (fun e => by simp [Value.ownBlock] at e)))
      have HS := Lib.hid hst
      clear has e5 hak hown hnew hst
      go_wp2_with fail
      refine (rnum_read B rb _ _ s5 6 _ HS.out.rd (by omega)).mono ?_
      rw [E5.out]
      rintro e w5 ⟨rfl, hp⟩
      obtain ⟨ao5, cap5, hst⟩ := HS.out.read hp
      have AR2 := Lib.hid (AR.out.but hp.2 (fun b _ e => .inl (by omega)))
      have HS2 := Lib.hid hst
      clear hp hst AR HS
      go_wp2_with fail
      go_loopw [10] (fun vi wr => ∃ (k : Nat) (yo : Option Addr) (yc : Nat) (ao' : Option Addr) (cap' : Nat), vi = .int .i64 k ∧ k ≤ m ∧ wr.ownsRow 0 100 3 (.slice yo (readsK ⟨kk.toArray⟩ s6 k).1.length yc) (readsK ⟨kk.toArray⟩ s6 k).1.length ((readsK ⟨kk.toArray⟩ s6 k).1.flatMap encRd) ∧ (∀ j, (Value.slice yo (readsK ⟨kk.toArray⟩ s6 k).1.length yc).ownBlock = some j → N1 < j) ∧ HSt w wr B rb N1 ao' cap' (readsK ⟨kk.toArray⟩ s6 k).2 [.string ⟨kk.toArray⟩, .int .i64 c, .int .i64 n, .slice vo a.length vc, .slice yo (readsK ⟨kk.toArray⟩ s6 k).1.length yc, .bool false, .string ⟨#[]⟩] ∧ NRows 4 encAct (fun b => b ≤ N1 ∨ (Value.slice yo (readsK ⟨kk.toArray⟩ s6 k).1.length yc).ownBlock = some b) wr vo a) (fun vi _ => m - (intOf vi).toNat)
      case atStart => exact ⟨0, none, 0, ao5, cap5, rfl, by omega, World.ownsRow_nil _ _ _ _, by simp [Value.ownBlock], HS2.out, AR2.out⟩
      case round =>
        obtain ⟨k, yo, yc, ao', cap', rfl, hk, hown, hnew, hst, har⟩ := hrel
        clear HS2 AR2
        have hN1 := hst.b1.lt; have hrbN := hst.n0; have hN01 := hst.n1
        by_cases hlt : k < m
        · have hlen := readsK_len ⟨kk.toArray⟩ s6 k
          have hsucc : readsK ⟨kk.toArray⟩ s6 (k + 1) = ((readsK ⟨kk.toArray⟩ s6 k).1 ++ [(readS ⟨kk.toArray⟩ (readsK ⟨kk.toArray⟩ s6 k).2).1], (readS ⟨kk.toArray⟩ (readsK ⟨kk.toArray⟩ s6 k).2).2) := rfl
          generalize hak : readsK ⟨kk.toArray⟩ s6 k = ak at *
          obtain ⟨q, s7⟩ := ak
          obtain ⟨bl, s8, e6⟩ : ∃ bl s8, flagS s7 = (bl, s8) := ⟨_, _, rfl⟩
          obtain ⟨val, s9, e7⟩ : ∃ val s9, rowS 20 s8 = (val, s9) := ⟨_, _, rfl⟩
          simp only [readS, e6, e7] at hsucc hlen hown hnew hst har
          have SU := Lib.hid hsucc; have F6 := Lib.hid e6; have F7 := Lib.hid e7; have HL := Lib.hid hlen
          have O1 := Lib.hid hown; have NW := Lib.hid hnew; have HS := Lib.hid hst; have AR := Lib.hid har
          clear hsucc e6 e7 hlen hak hown hnew hst har
          have c0 := HS.out.b1.cell 0
          simp only [List.getElem?_cons_zero] at c0
          have hNrb : ¬ N1 = rb := by omega
          have c0' : ∀ W, But (fun j => j = rb) wr W → W.cell? ⟨N1, 0, none⟩ = some (.string ⟨kk.toArray⟩) := fun W hW => (hW.cell (p := ⟨N1, 0, none⟩) hN1 hNrb).trans c0
          have C0 := Lib.hid c0'; clear c0'
          go_wp2_with fail
          go_cut [11] (fun p W => (∃ (M : Nat) (ao7 : Option Addr) (cap7 : Nat), p = .pointer (some ⟨M, 0, none⟩) ∧ MSt w wr W B rb N1 M ao7 cap7 s8 [.string ⟨kk.toArray⟩, .int .i64 c, .int .i64 n, .slice vo a.length vc, .slice yo q.length yc, .bool false, .string ⟨#[]⟩] 100 [.string ⟨kk.toArray⟩, .bool bl, .string ⟨#[]⟩] 3 q.length (.slice yo q.length yc) (q.flatMap encRd)))
          case first =>
            go_region_with (first
              | (go_at_call 141; refine (rflag_read B rb cap' ao' s7 wr.drew (HS.out.rd.ext (Below.refl _ _).drew)).mono ?_; rw [F6.out]; rintro e w6 ⟨rfl, ⟨ao6, cap6, h1⟩, h2⟩; have h3 : But (fun j => j = rb) wr w6 := (But.refl (fun j => j = rb) wr).drew.trans h2 (fun _ _ e => e) (fun _ _ e => e); have c6 := C0.out w6 h3; have n6 := Nat.lt_of_lt_of_le hN1 h3.size; have X1 := Lib.hid h1; have X3 := Lib.hid h3; clear h1 h2 h3)
              | (go_at_call 141; go_must (refine (rflag_read B rb cap' ao' s7 (wr.alloc (.cells #[.string ⟨#[]⟩, .bool false, .string ⟨#[]⟩] 100)).drew (HS.out.rd.ext ((Below.refl _ _).alloc (Nat.le_refl _) _).drew)).mono ?_; rw [F6.out]; rintro e w6 ⟨rfl, ⟨ao6, cap6, h1⟩, h2⟩; have h3 : But (fun j => j = rb) wr w6 := ((But.refl (fun j => j = rb) wr).alloc _).drew.trans h2 (fun _ _ e => e) (fun _ _ e => e); have c6 := C0.out w6 h3; have n6 := Nat.lt_of_lt_of_le hN1 h3.size; have z := (Blk.new wr [.string ⟨#[]⟩, .bool false, .string ⟨#[]⟩] 100).drew.but h2 (fun e => by have e2 : wr.heap.size = rb := e; omega); have z0 := z.cell 0; have z1 := z.cell 1; have z2 := z.cell 2; have y0 := z.free 0; have y1 := z.free 1; have y2 := z.free 2; simp only [List.getElem?_cons_zero, List.getElem?_cons_succ] at z0 z1 z2; have X1 := Lib.hid h1; have X3 := Lib.hid h3; have X4 := Lib.hid z; clear h1 h2 h3 z)))
            all_goals
              have fA : Hid (∀ W, W = w6.alloc (.cells #[.string ⟨kk.toArray⟩, .bool bl, .string ⟨#[]⟩] 100) → Blk W w6.heap.size [.string ⟨kk.toArray⟩, .bool bl, .string ⟨#[]⟩] 100 ∧ RRdr W B rb ao6 cap6 s8 ∧ But (fun j => j = rb) wr W ∧ wr.heap.size ≤ w6.heap.size) :=
                Lib.hid fun W hW => by subst hW; exact ⟨Blk.new w6 [.string ⟨kk.toArray⟩, .bool bl, .string ⟨#[]⟩] _, X1.out.ext ((Below.refl _ _).alloc (Nat.le_refl _) _), X3.out.alloc _, X3.out.size⟩
              have fB : Hid (Blk w6 wr.heap.size [.string ⟨#[]⟩, .bool false, .string ⟨#[]⟩] 100 → ∀ W, W = ((w6.setCell ⟨wr.heap.size, 0, none⟩ (.string ⟨kk.toArray⟩)).setCell ⟨wr.heap.size, 1, none⟩ (.bool bl)).setCell ⟨wr.heap.size, 2, none⟩ (.string ⟨#[]⟩) → Blk W wr.heap.size [.string ⟨kk.toArray⟩, .bool bl, .string ⟨#[]⟩] 100 ∧ RRdr W B rb ao6 cap6 s8 ∧ But (fun j => j = rb) wr W ∧ wr.heap.size ≤ wr.heap.size) :=
                Lib.hid fun hz W hW => by
                  subst hW
                  have hb3 : But (fun j => j = wr.heap.size) w6 (((w6.setCell ⟨wr.heap.size, 0, none⟩ (.string ⟨kk.toArray⟩)).setCell ⟨wr.heap.size, 1, none⟩ (.bool bl)).setCell ⟨wr.heap.size, 2, none⟩ (.string ⟨#[]⟩)) := (But.set2 w6 wr.heap.size 0 1 _ _).here rfl 2 _
                  exact ⟨((hz.set 0 _).set 1 _).set 2 _, X1.out.but hb3 (fun b hb e => by omega), X3.out.trans hb3 (fun _ _ e => e) (fun i hi e => by omega), Nat.le_refl _⟩
              go_wp2_with fail
              go_meet
              first
              | (have z := X4.out
                 generalize hW7 : ((w6.setCell ⟨wr.heap.size, 0, none⟩ (.string ⟨kk.toArray⟩)).setCell ⟨wr.heap.size, 1, none⟩ (.bool bl)).setCell ⟨wr.heap.size, 2, none⟩ (.string ⟨#[]⟩) = W7
                 obtain ⟨hb7, hr7, hx7, hge⟩ := fB.out z W7 hW7.symm
                 clear z
                 obtain ⟨M, hM⟩ : ∃ M, M = wr.heap.size := ⟨_, rfl⟩
                 rw [← hM] at hb7 ⊢
                 replace hge : wr.heap.size ≤ M := by omega
                 clear hM)
              | (generalize hW7 : w6.alloc (.cells #[.string ⟨kk.toArray⟩, .bool bl, .string ⟨#[]⟩] 100) = W7
                 obtain ⟨hb7, hr7, hx7, hge⟩ := fA.out W7 hW7.symm
                 generalize w6.heap.size = M at hb7 hge ⊢)
              have ms7 : ∃ ao7 cap7, MSt w wr W7 B rb N1 M ao7 cap7 s8 [.string ⟨kk.toArray⟩, .int .i64 c, .int .i64 n, .slice vo a.length vc, .slice yo q.length yc, .bool false, .string ⟨#[]⟩] 100 [.string ⟨kk.toArray⟩, .bool bl, .string ⟨#[]⟩] 3 q.length (.slice yo q.length yc) (q.flatMap encRd) := by
                obtain ⟨ao7, cap7, h7⟩ := HS.out.read ⟨⟨_, _, hr7⟩, hx7⟩
                exact ⟨ao7, cap7, h7, hb7, by omega, own_but O1.out hx7 (fun j hj e => by have := NW.out j hj; omega), fun j hj => ⟨NW.out j hj, by have := (O1.out.lt j hj).2; omega, (O1.out.lt j hj).2⟩, hge, hx7⟩
              obtain ⟨ao7, cap7, hm7⟩ := ms7
              exact ⟨_, ao7, cap7, rfl, hm7⟩
          case rest =>
            obtain ⟨M, ao7, cap7, hp8, hm7⟩ := hcut
            subst hp8
            have MS := Lib.hid hm7
            clear hm7 C0 c0 HS O1 NW
            go_wp2_with fail
            refine (rtext_read B rb _ _ s8 20 wc MS.out.hs.rd (by omega)).mono ?_
            rw [F7.out]
            rintro e w8 ⟨⟨ro8, rc8, rfl, hcv⟩, hp⟩
            simp only at hcv
            obtain ⟨ao8, cap8, hm8⟩ := MS.out.read hp
            have d0 := hm8.bm.cell 0; have d1 := hm8.bm.cell 1; have d2 := hm8.bm.cell 2; have g2 := hm8.bm.free 2
            have k4 := hm8.hs.b1.cell 4
            simp only [List.getElem?_cons_zero, List.getElem?_cons_succ] at d0 d1 d2 k4
            have hNM : ¬ N1 = M := by have := hm8.nm; omega
            have hNM2 : N1 < w8.heap.size := hm8.hs.b1.lt
            have hMl : M < w8.heap.size := hm8.bm.lt
            have hO6 : ∀ W, But (fun j => j = M) w8 W → W.ownsRow 0 100 3 (.slice yo q.length yc) q.length (q.flatMap encRd) := fun W hW => own_but hm8.own hW (fun j hj e => (hm8.new j hj).2.1 e)
            have MS2 := Lib.hid hm8; have O6 := Lib.hid hO6
            clear hp hm8 hO6 MS
            have hql : q.length ≤ 6 := by have := HL.out; omega
            go_wp2_with (at_builtin; go_must (refine wpList_append_at _ rfl _ _ 33 rfl 100 i0 _ 3 40 Tryz.underlying33 hi hz0 hz1 hz2 rfl (by decide) (.slice yo q.length yc) q.length (q.flatMap encRd) rfl (own_ext (O6.out _ (But.set1 _ _ _ _)) ((Below.refl _ _).alloc (Nat.le_refl _) _)) ⟨_, 0, none⟩ 1 1 (encRd ⟨⟨kk.toArray⟩, bl, ⟨val.toArray⟩⟩) rfl rfl (cells_new' (w8.setCell ⟨M, 2, none⟩ (.string ⟨val.toArray⟩)) (encRd ⟨⟨kk.toArray⟩, bl, ⟨val.toArray⟩⟩) _ _ (by simp)) (one_rd _) (by decide) (by unfold maxLen; omega) (by omega) ?_; intro g cap2 w12 hown' hbut hkept; have ha := MSt.app (MS2.out.set 2 (.string ⟨val.toArray⟩)) ((Below.refl _ _).alloc (Nat.le_refl _) _) hbut hkept; have n3 := ha.1.b1.cell 4; have m3 := ha.1.b1.free 4; simp only [List.getElem?_cons_zero, List.getElem?_cons_succ] at n3; have HA := Lib.hid ha; have Y1 := Lib.hid hown'; clear hown' hbut hkept ha))
            go_roundw
            case rel =>
              have hst := HA.out.1.set 4 (.slice (some ⟨g, 0, none⟩) (q.length + 1) cap2)
              simp only [List.set_cons_zero, List.set_cons_succ] at hst
              have hl1 : (readsK ⟨kk.toArray⟩ s6 (k + 1)).1.length = q.length + 1 := by rw [SU.out]; simp
              refine ⟨k + 1, some ⟨g, 0, none⟩, cap2, ao8, cap8, by go_num, by omega, ?_, ?_, ?_, ?_⟩
              · rw [hl1, SU.out]
                have := own_setOther Y1.out (a := ⟨N1, 4, none⟩) (fun e => by have := HA.out.2.1 N1 e; omega) (.slice (some ⟨g, 0, none⟩) (q.length + 1) cap2)
                simp only [List.flatMap_append, List.flatMap_singleton]
                exact this
              · rw [hl1]; exact HA.out.2.1
              · rw [hl1, SU.out]; exact hst
              · rw [hl1]; exact nrows_app AR.out (by omega) HA.out.2.2.1 HA.out.2.2.2 _
            case measure => simp [intOf]; omega
        · have hkm : k = m := by omega
          subst hkm
          have hrs : readsS ⟨kk.toArray⟩ s5 = readsK ⟨kk.toArray⟩ s6 k := by simp [readsS, E5.out]
          generalize hak : readsK ⟨kk.toArray⟩ s6 k = ak at *
          obtain ⟨q, s9⟩ := ak
          obtain ⟨p, s10, e8⟩ : ∃ p s10, flagS s9 = (p, s10) := ⟨_, _, rfl⟩
          obtain ⟨val, s11, e9⟩ : ∃ val s11, rowS 20 s10 = (val, s11) := ⟨_, _, rfl⟩
          have hhold := holdS_eq E1.out E2.out E3.out AS.out hrs e8 e9
          have hdok := holdS_ok s
          rw [hhold] at hdok
          simp only at hdok hown hnew hst har
          have HH := Lib.hid hhold; have HD := Lib.hid hdok; have F8 := Lib.hid e8; have F9 := Lib.hid e9
          have O1 := Lib.hid hown; have NW := Lib.hid hnew; have HS := Lib.hid hst; have AR := Lib.hid har
          clear hrs hak hhold hdok e8 e9 hown hnew hst har
          go_wp2_with fail
          refine (rflag_read B rb cap' ao' s9 wr HS.out.rd).mono ?_
          rw [F8.out]
          rintro e w6 ⟨rfl, hp⟩
          obtain ⟨ao6, cap6, hst⟩ := HS.out.read hp
          have hx6 := hp.2
          have k5 := hst.b1.cell 5; have g5 := hst.b1.free 5
          simp only [List.getElem?_cons_zero, List.getElem?_cons_succ] at k5
          have HS6 := Lib.hid hst; have X6 := Lib.hid hx6
          clear hp hst hx6 HS
          go_wp2_with fail
          have hst := HS6.out.set 5 (.bool p)
          simp only [List.set_cons_zero, List.set_cons_succ] at hst
          clear HS6 k5 g5
          refine (rtext_read B rb cap6 ao6 s10 20 _ hst.rd (by omega)).mono ?_
          rw [F9.out]
          rintro e w7 ⟨⟨ro7, rc7, rfl, hcv⟩, hp⟩
          simp only at hcv
          obtain ⟨ao7, cap7, hst7⟩ := hst.read hp
          have hx7 : But (fun j => j = rb ∨ j = N1) wr w7 := (X6.out.trans (But.set1 w6 N1 5 _) (fun _ _ e => .inl e) (fun _ _ e => .inr e)).trans hp.2 (fun _ _ e => e) (fun _ _ e => .inl e)
          have k6 := hst7.b1.cell 6; have g6 := hst7.b1.free 6
          simp only [List.getElem?_cons_zero, List.getElem?_cons_succ] at k6
          have HS7 := Lib.hid hst7; have X7 := Lib.hid hx7
          clear hp hst hst7 hx7 X6
          go_wp2_with fail
          have hst8 := HS7.out.set 6 (.string ⟨val.toArray⟩)
          simp only [List.set_cons_zero, List.set_cons_succ] at hst8
          have hx8 : But (fun j => j = rb ∨ j = N1) wr (w7.setCell ⟨N1, 6, none⟩ (.string ⟨val.toArray⟩)) := X7.out.trans (But.set1 w7 N1 6 _) (fun _ _ e => e) (fun _ _ e => .inr e)
          clear hcv k6 g6 HS7 X7
          generalize w7.setCell ⟨N1, 6, none⟩ (.string ⟨val.toArray⟩) = w8 at hst8 hx8 ⊢
          have hvr8 := own_but O1.out hx8 (fun j hj e => by have := NW.out j hj; omega)
          have hxis : (HoldV.mk ⟨kk.toArray⟩ c n vo a.length vc yo q.length yc p ⟨val.toArray⟩).is w8 (fun b => b ≤ N1) ⟨⟨kk.toArray⟩, c, n, a, q, p, ⟨val.toArray⟩⟩ := by
            refine ⟨rfl, rfl, rfl, rfl, rfl, rfl, rfl, ?_, ?_⟩
            · exact (AR.out.but hx8 (fun b _ e => .inl (by omega))).mono (fun b _ e => .inl e)
            · exact nrows_of_own (fun _ => rfl) hvr8 (fun j hj e => by have := NW.out j hj; omega)
          have c0 := hst8.b1.cell 0; have c1 := hst8.b1.cell 1; have c2 := hst8.b1.cell 2; have c3 := hst8.b1.cell 3; have c4 := hst8.b1.cell 4; have c5 := hst8.b1.cell 5; have c6 := hst8.b1.cell 6
          have f0 := hst8.b0.free 0; have f1 := hst8.b0.free 1; have f2 := hst8.b0.free 2; have f3 := hst8.b0.free 3; have f4 := hst8.b0.free 4; have f5 := hst8.b0.free 5; have f6 := hst8.b0.free 6
          have r1 := hst8.rd.blk.cell 1
          simp only [List.getElem?_cons_zero, List.getElem?_cons_succ] at c0 c1 c2 c3 c4 c5 c6 r1
          have hne : ¬ N1 = w.heap.size := by have := hst8.n1; omega
          have hnr : ¬ rb = w.heap.size := by have := hst8.n0; omega
          have k0 := ButBy.cell (S := fun j => j = w.heap.size) c0 hne
          have k1 := ButBy.cell (S := fun j => j = w.heap.size) c1 hne
          have k2 := ButBy.cell (S := fun j => j = w.heap.size) c2 hne
          have k3 := ButBy.cell (S := fun j => j = w.heap.size) c3 hne
          have k4 := ButBy.cell (S := fun j => j = w.heap.size) c4 hne
          have k5 := ButBy.cell (S := fun j => j = w.heap.size) c5 hne
          have k6 := ButBy.cell (S := fun j => j = w.heap.size) c6 hne
          have q1 := ButBy.cell (S := fun j => j = w.heap.size) r1 hnr
          have B0 := Lib.hid hst8.b0
          have HB8 := Lib.hid hst8; have XI := Lib.hid hxis
          have BW := Lib.hid ((But.refl (fun j => j = w.heap.size) w8).drew)
          clear hst8 hx8 hvr8 hxis O1 NW AR c0 c1 c2 c3 c4 c5 c6 r1 f0 f1 f2 f3 f4 f5 f6 hne hnr
          have key : ok = false ∨ (ok = true ∧ s11.fl = true) ∨ (ok = true ∧ s11.fl = false) := by cases ok <;> cases s11.fl <;> simp
          rcases key with rfl | ⟨rfl, hfl⟩ | ⟨rfl, hfl⟩
          · refine wp_region_firstC (fun W => ∃ p : ButBy (fun j => j = w.heap.size) w8, W = p.W) [0, 1, 2, 3, 4, 5, 6, 7, 8, 9, 10] 4 (by kernel_rfl) (by kernel_rfl) (fun _ _ _ _ h => h) ⟨⟨w8.drew, BW.out⟩, rfl⟩ ?_
            simp only [opsAt, List.getElem?_toArray, List.getElem?_cons_succ, List.getElem?_cons_zero]
            repeat (go_big_quiet_step (fail))
            refine wpQuiet_nil ?_
            clear k0 k1 k2 k3 k4 k5 k6 q1
            refine wpAnyH_ready (rs := [11]) (by kernel_rfl) (by simp) ?_
            refine AllReadyH.cons rfl (fun K hK => ?_) AllReadyH.nil
            go_simp
            obtain ⟨w9, hw9⟩ : ∃ w9, w9 = w8.drew := ⟨_, rfl⟩
            rw [← hw9]
            have X9 : Hid (But (fun j => j = w.heap.size) w8 w9) := Lib.hid (by rw [hw9]; exact BW.out)
            have B9 : Hid (Blk w9 w.heap.size [.string ⟨#[]⟩, .int .i64 0, .int .i64 0, .slice none 0 0, .slice none 0 0, .bool false, .string ⟨#[]⟩] 35) := Lib.hid (by rw [hw9]; exact B0.out.drew)
            clear hw9
            refine hK.out _ _ ⟨⟨w9, X9.out⟩, rfl⟩ (fun _ => ?_)
            clear hK K
            refine wp_takesC (f := 2) [12] (by kernel_rfl) (fun _ _ _ _ h => h) ⟨⟨w9, X9.out⟩, rfl⟩ ?_
            simp only [opsAt, List.getElem?_toArray, List.getElem?_cons_succ, List.getElem?_cons_zero]
            repeat (go_big_quiet_step (fail))
            refine wpQuiet_nil ?_
            have z0 := B9.out.cell 0; have z1 := B9.out.cell 1; have z2 := B9.out.cell 2; have z3 := B9.out.cell 3; have z4 := B9.out.cell 4; have z5 := B9.out.cell 5; have z6 := B9.out.cell 6
            have f0 := B9.out.free 0; have f1 := B9.out.free 1; have f2 := B9.out.free 2; have f3 := B9.out.free 3; have f4 := B9.out.free 4; have f5 := B9.out.free 5; have f6 := B9.out.free 6
            simp only [List.getElem?_cons_zero, List.getElem?_cons_succ] at z0 z1 z2 z3 z4 z5 z6
            refine wpAnyH_ready (rs := [13]) (by kernel_rfl) (by simp) ?_
            refine AllReadyH.cons rfl (fun K hK => ?_) AllReadyH.nil
            go_simp
            have hb9 : But (fun j => j = w.heap.size) w8 _ := X9.out.trans (but_set7 w9 w.heap.size (.string ⟨kk.toArray⟩) (.int .i64 c) (.int .i64 n) (.slice vo a.length vc) (.slice yo q.length yc) (.bool p) (.string ⟨val.toArray⟩)) (fun _ _ e => e) (fun _ _ e => e)
            have HB9 := Lib.hid hb9
            clear hb9
            refine hK.out _ _ ⟨⟨_, HB9.out⟩, rfl⟩ (fun _ => ?_)
            clear hK K z0 z1 z2 z3 z4 z5 z6 f0 f1 f2 f3 f4 f5 f6
            refine wp_takesC (f := 0) [14] (by kernel_rfl) (fun _ _ _ _ h => h) ⟨⟨_, HB9.out⟩, rfl⟩ ?_
            simp only [opsAt, List.getElem?_toArray, List.getElem?_cons_succ, List.getElem?_cons_zero]
            repeat (go_big_quiet_step (fail))
            refine wpQuiet_nil ?_
            refine wpAnyH_done (by kernel_rfl) ?_ _
            go_wp2_with fail
            refine bodyPost_ret (res_row_tmp rfl _ _ w.heap.size 35 (encHV ⟨⟨kk.toArray⟩, c, n, vo, a.length, vc, yo, q.length, yc, p, ⟨val.toArray⟩⟩) _ rfl (B9.out.set7 (.string ⟨kk.toArray⟩) (.int .i64 c) (.int .i64 n) (.slice vo a.length vc) (.slice yo q.length yc) (.bool p) (.string ⟨val.toArray⟩)) Tryz.underlying35 rfl (by kernel_rfl)) rfl ?_
            refine ⟨⟨_, by rw [HH.out]; rfl, ?_⟩, ⟨ao7, cap7, ?_⟩, ?_⟩
            · rw [HH.out]
              exact (XI.out.but HB9.out (fun b _ e => by subst e; exact Nat.le_of_lt HB8.out.n1)).mono (fun b _ e => by have e2 : b < w.heap.size := e; have := HB8.out.n1; show b ≤ N1; omega)
            · rw [HH.out]
              exact HB8.out.rd.but HB9.out (fun b hb e => by have := HB8.out.hB; omega)
            · exact HB8.out.bt.trans HB9.out (fun _ _ e => e) (fun i hi e => by omega)
          · rw [hfl] at q1
            have HFL := Lib.hid hfl
            clear hfl
            refine wp_region_firstC (fun W => ∃ p : ButBy (fun j => j = w.heap.size) w8, W = p.W) [0, 1, 2, 3, 4, 5, 6, 7, 8, 9, 10] 4 (by kernel_rfl) (by kernel_rfl) (fun _ _ _ _ h => h) ⟨⟨w8.drew, BW.out⟩, rfl⟩ ?_
            simp only [opsAt, List.getElem?_toArray, List.getElem?_cons_succ, List.getElem?_cons_zero]
            repeat (go_big_quiet_step (fail))
            refine wpQuiet_nil ?_
            clear k0 k1 k2 k3 k4 k5 k6 q1
            refine wpAnyH_ready (rs := [11]) (by kernel_rfl) (by simp) ?_
            refine AllReadyH.cons rfl (fun K hK => ?_) AllReadyH.nil
            go_simp
            obtain ⟨w9, hw9⟩ : ∃ w9, w9 = w8.drew := ⟨_, rfl⟩
            rw [← hw9]
            have X9 : Hid (But (fun j => j = w.heap.size) w8 w9) := Lib.hid (by rw [hw9]; exact BW.out)
            have B9 : Hid (Blk w9 w.heap.size [.string ⟨#[]⟩, .int .i64 0, .int .i64 0, .slice none 0 0, .slice none 0 0, .bool false, .string ⟨#[]⟩] 35) := Lib.hid (by rw [hw9]; exact B0.out.drew)
            clear hw9
            refine hK.out _ _ ⟨⟨w9, X9.out⟩, rfl⟩ (fun _ => ?_)
            clear hK K
            refine wp_takesC (f := 2) [12] (by kernel_rfl) (fun _ _ _ _ h => h) ⟨⟨w9, X9.out⟩, rfl⟩ ?_
            simp only [opsAt, List.getElem?_toArray, List.getElem?_cons_succ, List.getElem?_cons_zero]
            repeat (go_big_quiet_step (fail))
            refine wpQuiet_nil ?_
            have z0 := B9.out.cell 0; have z1 := B9.out.cell 1; have z2 := B9.out.cell 2; have z3 := B9.out.cell 3; have z4 := B9.out.cell 4; have z5 := B9.out.cell 5; have z6 := B9.out.cell 6
            have f0 := B9.out.free 0; have f1 := B9.out.free 1; have f2 := B9.out.free 2; have f3 := B9.out.free 3; have f4 := B9.out.free 4; have f5 := B9.out.free 5; have f6 := B9.out.free 6
            simp only [List.getElem?_cons_zero, List.getElem?_cons_succ] at z0 z1 z2 z3 z4 z5 z6
            refine wpAnyH_ready (rs := [13]) (by kernel_rfl) (by simp) ?_
            refine AllReadyH.cons rfl (fun K hK => ?_) AllReadyH.nil
            go_simp
            have hb9 : But (fun j => j = w.heap.size) w8 _ := X9.out.trans (but_set7 w9 w.heap.size (.string ⟨kk.toArray⟩) (.int .i64 c) (.int .i64 n) (.slice vo a.length vc) (.slice yo q.length yc) (.bool p) (.string ⟨val.toArray⟩)) (fun _ _ e => e) (fun _ _ e => e)
            have HB9 := Lib.hid hb9
            clear hb9
            refine hK.out _ _ ⟨⟨_, HB9.out⟩, rfl⟩ (fun _ => ?_)
            clear hK K z0 z1 z2 z3 z4 z5 z6 f0 f1 f2 f3 f4 f5 f6
            refine wp_takesC (f := 0) [14] (by kernel_rfl) (fun _ _ _ _ h => h) ⟨⟨_, HB9.out⟩, rfl⟩ ?_
            simp only [opsAt, List.getElem?_toArray, List.getElem?_cons_succ, List.getElem?_cons_zero]
            repeat (go_big_quiet_step (fail))
            refine wpQuiet_nil ?_
            refine wpAnyH_done (by kernel_rfl) ?_ _
            go_wp2_with fail
            refine bodyPost_ret (res_row_tmp rfl _ _ w.heap.size 35 (encHV ⟨⟨kk.toArray⟩, c, n, vo, a.length, vc, yo, q.length, yc, p, ⟨val.toArray⟩⟩) _ rfl (B9.out.set7 (.string ⟨kk.toArray⟩) (.int .i64 c) (.int .i64 n) (.slice vo a.length vc) (.slice yo q.length yc) (.bool p) (.string ⟨val.toArray⟩)) Tryz.underlying35 rfl (by kernel_rfl)) rfl ?_
            refine ⟨⟨_, by rw [HH.out]; simp only [HFL.out, Bool.not_true, Bool.and_false]; rfl, ?_⟩, ⟨ao7, cap7, ?_⟩, ?_⟩
            · rw [HH.out]
              exact (XI.out.but HB9.out (fun b _ e => by subst e; exact Nat.le_of_lt HB8.out.n1)).mono (fun b _ e => by have e2 : b < w.heap.size := e; have := HB8.out.n1; show b ≤ N1; omega)
            · rw [HH.out]
              exact HB8.out.rd.but HB9.out (fun b hb e => by have := HB8.out.hB; omega)
            · exact HB8.out.bt.trans HB9.out (fun _ _ e => e) (fun i hi e => by omega)
          · rw [hfl] at q1
            have HFL := Lib.hid hfl
            clear hfl
            refine wp_region_firstC (fun W => ∃ p : ButBy (fun j => j = w.heap.size) w8, W = p.W) [0, 1, 2, 3, 4, 5, 6, 7, 8, 9, 10] 4 (by kernel_rfl) (by kernel_rfl) (fun _ _ _ _ h => h) ⟨⟨w8.drew, BW.out⟩, rfl⟩ ?_
            simp only [opsAt, List.getElem?_toArray, List.getElem?_cons_succ, List.getElem?_cons_zero]
            repeat (go_big_quiet_step (fail))
            refine wpQuiet_nil ?_
            clear k0 k1 k2 k3 k4 k5 k6 q1
            refine wpAnyH_ready (rs := [11]) (by kernel_rfl) (by simp) ?_
            refine AllReadyH.cons rfl (fun K hK => ?_) AllReadyH.nil
            go_simp
            refine (refOneH_calls ⟨⟨kk.toArray⟩, c, n, vo, a.length, vc, yo, q.length, yc, p, ⟨val.toArray⟩⟩ _ _ w8.drew (XI.out.ext (Below.refl _ _).drew) HD.out).mono ?_
            rintro e w9 ⟨rfl, h1⟩
            have X9 : Hid (But (fun j => j = w.heap.size) w8 w9) := Lib.hid (BW.out.trans (Ext.but h1 (fun _ => False)) (fun _ _ e => e) (fun _ _ e => e.elim))
            have B9 := Lib.hid (B0.out.drew.ext' h1)
            clear h1
            refine hK.out _ _ ⟨⟨w9, X9.out⟩, rfl⟩ (fun _ => ?_)
            clear hK K
            refine wp_takesC (f := 2) [12] (by kernel_rfl) (fun _ _ _ _ h => h) ⟨⟨w9, X9.out⟩, rfl⟩ ?_
            simp only [opsAt, List.getElem?_toArray, List.getElem?_cons_succ, List.getElem?_cons_zero]
            repeat (go_big_quiet_step (fail))
            refine wpQuiet_nil ?_
            have z0 := B9.out.cell 0; have z1 := B9.out.cell 1; have z2 := B9.out.cell 2; have z3 := B9.out.cell 3; have z4 := B9.out.cell 4; have z5 := B9.out.cell 5; have z6 := B9.out.cell 6
            have f0 := B9.out.free 0; have f1 := B9.out.free 1; have f2 := B9.out.free 2; have f3 := B9.out.free 3; have f4 := B9.out.free 4; have f5 := B9.out.free 5; have f6 := B9.out.free 6
            simp only [List.getElem?_cons_zero, List.getElem?_cons_succ] at z0 z1 z2 z3 z4 z5 z6
            refine wpAnyH_ready (rs := [13]) (by kernel_rfl) (by simp) ?_
            refine AllReadyH.cons rfl (fun K hK => ?_) AllReadyH.nil
            go_simp
            have hb9 : But (fun j => j = w.heap.size) w8 _ := X9.out.trans (but_set7 w9 w.heap.size (.string ⟨kk.toArray⟩) (.int .i64 c) (.int .i64 n) (.slice vo a.length vc) (.slice yo q.length yc) (.bool p) (.string ⟨val.toArray⟩)) (fun _ _ e => e) (fun _ _ e => e)
            have HB9 := Lib.hid hb9
            clear hb9
            refine hK.out _ _ ⟨⟨_, HB9.out⟩, rfl⟩ (fun _ => ?_)
            clear hK K z0 z1 z2 z3 z4 z5 z6 f0 f1 f2 f3 f4 f5 f6
            refine wp_takesC (f := 0) [14] (by kernel_rfl) (fun _ _ _ _ h => h) ⟨⟨_, HB9.out⟩, rfl⟩ ?_
            simp only [opsAt, List.getElem?_toArray, List.getElem?_cons_succ, List.getElem?_cons_zero]
            repeat (go_big_quiet_step (fail))
            refine wpQuiet_nil ?_
            refine wpAnyH_done (by kernel_rfl) ?_ _
            go_wp2_with fail
            refine bodyPost_ret (res_row_tmp rfl _ _ w.heap.size 35 (encHV ⟨⟨kk.toArray⟩, c, n, vo, a.length, vc, yo, q.length, yc, p, ⟨val.toArray⟩⟩) _ rfl (B9.out.set7 (.string ⟨kk.toArray⟩) (.int .i64 c) (.int .i64 n) (.slice vo a.length vc) (.slice yo q.length yc) (.bool p) (.string ⟨val.toArray⟩)) Tryz.underlying35 rfl (by kernel_rfl)) rfl ?_
            refine ⟨⟨_, by rw [HH.out]; simp only [HFL.out, Bool.not_false, Bool.and_true, Bool.true_and]; rfl, ?_⟩, ⟨ao7, cap7, ?_⟩, ?_⟩
            · rw [HH.out]
              exact (XI.out.but HB9.out (fun b _ e => by subst e; exact Nat.le_of_lt HB8.out.n1)).mono (fun b _ e => by have e2 : b < w.heap.size := e; have := HB8.out.n1; show b ≤ N1; omega)
            · rw [HH.out]
              exact HB8.out.rd.but HB9.out (fun b hb e => by have := HB8.out.hB; omega)
            · exact HB8.out.bt.trans HB9.out (fun _ _ e => e) (fun i hi e => by omega)
end Go.Proofs.YtdmejbjpbjcfbaaGreatDoor
