/- watershedref02: the document's reader: Row. -/
import Derived.Test.YtdmejbjpbjcfbaaGreatDoorRefR3
import Derived.Deep.DeepMust
namespace Go.Proofs.YtdmejbjpbjcfbaaGreatDoor
open Go.RowKit

theorem slice_hd {P : Program} {t : TypeId} (ht : P.underlying t = some (.slice (P.elem t))) (hz : ∀ W, (sizeOf (P.elem t)).run P W = .ok 1 W) (ao : Option Addr) (len cap n : Nat) (h : n ≤ len) (hc : len ≤ cap) :
    ∃ ao', (∀ b off, ao = some ⟨b, off, none⟩ → ao' = some ⟨b, off, none⟩) ∧ (ao = none → ao' = none) ∧ ∀ W, (Instr.slice t (.slice ao len cap) none (some (.int .i64 n)) none).run P W = .ok (.slice ao' n cap) W := by
  refine ⟨if cap = 0 then ao else ao.map (·.add (0 * 1)), fun b off e => ?_, fun e => by rw [e]; simp, fun W => ?_⟩
  · rw [e, Option.map_some, WideShapes.add_plain]; simp
  · rw [run_slice_h W t _ _ _ ht .i64 n (by omega) (by omega), hz W]
    simp only [Result.andThen_ok, sliced, Int.toNat_natCast, Nat.sub_zero]
set_option maxRecDepth 100000 in
set_option maxHeartbeats 1600000 in
theorem rrow_read (B rb cap : Nat) (ao : Option Addr) (s : RSt) (most : Nat) (w : World) (T : RRdr w B rb ao cap s) (hm : most ≤ 1000000) : Calls Tryz.prog 140 #[.pointer (some ⟨rb, 0, none⟩), .int .i64 most] w fun e w' => (∃ u, e = .returned u ∧ w'.ownsRow 0 5 1 u (rowS most s).1.length ((rowS most s).1.flatMap encU8) ∧ (∀ j, u.ownBlock = some j → w.heap.size ≤ j)) ∧ RRPost B rb (rowS most s).2 w w' := by
  obtain ⟨i0, hi, hz0, hz1, hz2⟩ := info_parts infoU8
  have HT := Lib.hid T
  have hrbw := T.blk.lt
  clear T
  have hle := numS_le most s
  go_enter Tryz.func140, Tryz.ntmps140
  go_wp2_with fail
  refine (rnum_read B rb cap ao s most w HT.out (by omega)).mono ?_
  rintro e w1 ⟨rfl, ⟨ao1, cap1, h1⟩, h2⟩
  have c0 := h1.blk.cell 0; have c1 := h1.blk.cell 1
  simp only [List.getElem?_cons_zero, List.getElem?_cons_succ] at c0 c1
  have hrb1 := h1.blk.lt; have f0 := h1.blk.free 0
  have H1 := Lib.hid h1; have H2 := Lib.hid h2
  clear h1 h2
  generalize hns : numS most s = ns at *
  obtain ⟨n, fl, l⟩ := ns
  have HN := Lib.hid hns; clear hns
  simp only at hle c0 c1
  cases fl with
  | true =>
    go_wp2_with fail
    go_ret
    have : rowS most s = ([], ⟨true, l⟩) := by simp [rowS, HN.out]
    rw [this]
    exact ⟨⟨_, rfl, World.ownsRow_nil _ _ _ _, by simp [Value.ownBlock]⟩, ⟨_, _, H1.out⟩, H2.out⟩
  | false =>
    have hfit := H1.out.fit
    have hmx := H1.out.max
    simp only at hfit
    unfold maxLen at hmx
    by_cases hlen : n ≤ l.length
    · have t1 : decide ((l.length : Int) < (n : Int)) = false := by simp; omega
      obtain ⟨ho, hho, hhn, hs1⟩ := slice_hd elemU8 sizeU8 ao1 l.length cap1 n hlen hfit
      obtain ⟨lo, hlo, hs2⟩ := slice_left elemU8 sizeU8 ao1 l.length cap1 n hlen hfit
      have hlt : (l.take n).length = n := by rw [List.length_take]; omega
      have E1 : Hid (Ext w1 (w1.alloc (.cells #[] 5))) := Lib.hid ((Below.refl _ w1).alloc (Nat.le_refl _) _)
      have hro : Rows 1 encU8 (w1.alloc (.cells #[] 5)).heap.size (w1.alloc (.cells #[] 5)) ho (l.take n) := by
        refine Rows.mono (Rows.ext ?_ E1.out) E1.out.size
        intro hne
        have hne2 : l ≠ [] := fun e => hne (by rw [e]; simp)
        obtain ⟨b, off, rfl, hb, -, hc⟩ := H1.out.row hne2
        refine ⟨b, off, hho b off rfl, hb, fun i x hi => hc i x ?_⟩
        rw [List.getElem?_take] at hi
        split at hi
        · exact hi
        · cases hi
      have HRO := Lib.hid hro; have HLO := Lib.hid hlo; have HL := Lib.hid hlt
      clear hro hlo hho hhn hlt
      go_wp2_with (at_builtin; go_must (refine wpList_append_rows (enc := encU8) (size := 1) (fun _ => rfl) one_u8 rfl _ _ 46 rfl 5 i0 _ 1 Tryz.underlying46 hi hz0 hz1 hz2 rfl (by decide) (.slice (some ⟨w1.heap.size, 0, none⟩) 0 0) 0 [] rfl (World.ownsRow_made w1 #[] 0 (Nat.zero_le _) (Nat.zero_le _) rfl) ho (l.take n) cap1 (by rw [HL.out]; rfl) HRO.out (by unfold maxLen; rw [HL.out]; omega) (by rw [HL.out]; omega) ?_; intro v2 w2 hown2 hbut2 hkept2; have hx2 : Ext w1 w2 := ((Ext.but E1.out (fun _ => False)).trans hbut2 (U := fun j => j = w1.heap.size) (fun _ _ e => e.elim) (fun i _ e => by simp [Value.ownBlock] at e; exact e.symm)).ext (fun i hi e => by omega); have k2 := H1.out.blk.ext' hx2; have k0 := k2.cell 0; have g0 := k2.free 0; simp only [List.getElem?_cons_zero] at k0; have X2 := Lib.hid hx2; have KB := Lib.hid k2; have O2 := Lib.hid hown2; have K2 := Lib.hid hkept2; clear hown2 hbut2 hkept2 hx2 k2))
      go_ret
      have hrs : rowS most s = (l.take n, ⟨false, l.drop n⟩) := by simp [rowS, HN.out, hlen]
      rw [hrs]
      have T2 : RRdr w2 B rb ao1 cap1 ⟨false, l⟩ := ⟨KB.out, H1.out.old, H1.out.fit, H1.out.max, H1.out.row.ext X2.out⟩
      have hnew : ∀ j, v2.ownBlock = some j → w1.heap.size ≤ j := fun j hj => by
        rcases K2.out j hj with e | e
        · simp [Value.ownBlock] at e; omega
        · exact Nat.le_trans E1.out.size e
      refine ⟨⟨v2, rfl, ?_, fun j hj => Nat.le_trans H2.out.size (hnew j hj)⟩, ⟨lo, cap1 - n, T2.left n hlen HLO.out⟩, ?_⟩
      · have := O2.out
        rw [List.nil_append, Nat.zero_add] at this
        exact own_setOther this (a := ⟨rb, 0, none⟩) (fun e => by have := hnew rb e; omega) _
      · exact (H2.out.trans (Ext.but X2.out (fun _ => False)) (U := fun j => j = rb) (fun _ _ e => e) (fun _ _ e => e.elim)).here rfl _ _
    · have t1 : decide ((l.length : Int) < (n : Int)) = true := by simp; omega
      go_wp2_with fail
      refine (rfail_calls B rb cap1 ao1 _ w1 H1.out).mono ?_
      rintro e w3 ⟨rfl, h3, h4⟩
      have H3 := Lib.hid h3; have H4 := Lib.hid h4
      clear h3 h4
      go_wp2_with fail
      go_ret
      have : rowS most s = ([], RSt.dead) := by simp [rowS, HN.out, hlen]
      rw [this]
      exact ⟨⟨_, rfl, World.ownsRow_nil _ _ _ _, by simp [Value.ownBlock]⟩, H3.out, H2.out.trans H4.out (fun _ _ e => e) (fun _ _ e => e)⟩
end Go.Proofs.YtdmejbjpbjcfbaaGreatDoor
