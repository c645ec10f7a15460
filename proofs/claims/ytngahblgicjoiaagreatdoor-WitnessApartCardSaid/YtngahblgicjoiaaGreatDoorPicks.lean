/- The iterator over steps, each with the others. -/
import Derived.Test.YtngahblgicjoiaaGreatDoorSeqAt
import Derived.Test.YtngahblgicjoiaaGreatDoorDelS
namespace Go.Proofs.YtngahblgicjoiaaGreatDoor
open Go.RowKit Go.Shelf

attribute [local go_sem] Oper.semAt_some

/-- What a round is handed: a step, and the slice of the others. -/
structure PickX where
  step : StepZ
  ro : Option Addr
  rn : Nat
  rc : Nat
def encPick (x : PickX) : Array Value := #[.agg (encStep x.step).toArray, .slice x.ro x.rn x.rc]
def PickAt (l : List StepZ) (pre : List PickX) (x : PickX) (W : World) : Prop := l[pre.length]? = some x.step ∧ x.rn = l.length - 1 ∧ x.rn ≤ x.rc ∧ Rows 6 encStep W.heap.size W x.ro (l.eraseIdx pre.length)
theorem picks_calls (l : List StepZ) (ao : Option Addr) (cap : Nat) (w : World) : Calls Tryz.prog 86 #[.slice ao l.length cap] w fun e w' =>
    e = .returned (.func (.func 139) #[] #[.pointer (some ⟨w.heap.size, 0, none⟩)]) ∧ w' = w.alloc (.cells #[.slice ao l.length cap] 22) := by
  go_enter Tryz.func86, Tryz.ntmps86
  go_wp2
  go_ret
  exact ⟨rfl, rfl⟩
/-- What a round tells: whether it goes on. -/
def YAlt (J Jx : List PickX → World → Prop) (n₀ : Nat) (pre : List PickX) (x : PickX) (V : World) (c : Bool) (V' : World) : Prop := (c = true ∧ J (pre ++ [x]) V' ∧ Below n₀ V V') ∨ (c = false ∧ Jx (pre ++ [x]) V')
def YPost (J Jx : List PickX → World → Prop) (n₀ : Nat) (pre : List PickX) (x : PickX) (V : World) (e : Ending) (V' : World) : Prop := ∃ c, e = .returned (.bool c) ∧ YAlt J Jx n₀ pre x V c V'
theorem ypost_of {J Jx : List PickX → World → Prop} {n₀ : Nat} {pre : List PickX} {x : PickX} {V V' : World} {e : Ending} (h : (e = .returned (.bool true) ∧ J (pre ++ [x]) V' ∧ Below n₀ V V') ∨ (e = .returned (.bool false) ∧ Jx (pre ++ [x]) V')) : YPost J Jx n₀ pre x V e V' := by
  rcases h with ⟨rfl, h⟩ | ⟨rfl, h⟩
  · exact ⟨true, rfl, .inl ⟨rfl, h⟩⟩
  · exact ⟨false, rfl, .inr ⟨rfl, h⟩⟩
theorem rows_of_ownE {w : World} {g c i : Nat} {l : List StepZ} (h : w.ownsRow 0 38 6 (.slice (some ⟨g, 0, none⟩) (l.length - 1) c) (l.length - 1) ((l.eraseIdx i).flatMap encStep)) (hi : i < l.length) : Rows 6 encStep w.heap.size w (some ⟨g, 0, none⟩) (l.eraseIdx i) := by
  have e : (l.eraseIdx i).length = l.length - 1 := by rw [List.length_eraseIdx, if_pos hi]
  rw [← e] at h
  exact rows_of_own (fun _ => rfl) h
theorem Ext.grownN {w w' : World} (h : Ext w w') : w.grownBy w' none := ⟨h.os, h.tape, h.output, h.size, fun k hk _ => h.block k hk⟩
/-- A row of steps that fills a block of one's own. -/
structure OwnS (w : World) (g c : Nat) (cur : List Value) (l : List StepZ) : Prop where
  fit : l.length ≤ c
  max : c ≤ maxLen
  len : cur.length = c * 6
  tk : cur.take (l.length * 6) = l.flatMap encStep
  blk : Blk w g cur 38
theorem ownS_of {w : World} {v : Value} {l : List StepZ} (h : w.ownsRow 0 38 6 v l.length (l.flatMap encStep)) {i : Nat} (hi : i < l.length) : ∃ g c cur, v = .slice (some ⟨g, 0, none⟩) l.length c ∧ OwnS w g c cur l := by
  rcases h.2 with ⟨_, h0⟩ | ⟨g, c, cur, hv, _, hg, hn, hm, hcs, htk⟩
  · omega
  · exact ⟨g, c, cur.toList, hv, hn, hm, by simpa using hcs, htk, by unfold Blk; exact hg⟩
theorem OwnS.del {w : World} {g c : Nat} {cur : List Value} {l : List StepZ} (h : OwnS w g c cur l) (hl : l.length ≤ 1000000) {i : Nat} (hi : i < l.length) :
    Calls Tryz.prog 140 #[.slice (some ⟨g, 0, none⟩) l.length c, .int .i64 i, .int .i64 ((i : Int) + 1)] w fun e w' =>
      e = .returned (.slice (some ⟨g, 0, none⟩) (l.length - 1) c) ∧ w'.ownsRow 0 38 6 (.slice (some ⟨g, 0, none⟩) (l.length - 1) c) (l.length - 1) ((l.eraseIdx i).flatMap encStep) ∧ But (fun j => j = g) w w' :=
  delS_calls l i g c cur w hl hi h.fit h.max h.len h.tk h.blk
set_option maxRecDepth 100000 in
set_option maxHeartbeats 1600000 in
theorem picks1_seq (n : Nat) (l : List StepZ) (ao : Option Addr) (cap Bn : Nat) (w : World) (hl : l.length ≤ 1000) (hc : w.cell? ⟨Bn, 0, none⟩ = some (.slice ao l.length cap)) (hr : Rows 6 encStep w.heap.size w ao l) :
    SeqAt Fence.wide n Tryz.prog 139 #[.pointer (some ⟨Bn, 0, none⟩)] encPick (Below w.heap.size) (PickAt l) (fun xs => xs.length = l.length) w := by
  intro lp J Jx W hW hJ hY h0
  have HW := Lib.hid hW; have HJ := Lib.hid hJ; have HY := Lib.hid hY; have HR := Lib.hid hr; have HC := Lib.hid hc; have H0 := Lib.hid h0
  have hbn : Bn < w.heap.size := by
    rcases Nat.lt_or_ge Bn w.heap.size with h | h
    · exact h
    · simp [World.cell?, Array.getElem?_eq_none h] at hc
  have c0 := (hW.cell (p := ⟨Bn, 0, none⟩) hbn).trans hc
  clear hW hJ hY hr hc h0
  refine callsIn_of_wp Tryz.func139 rfl trivial ?_ rfl
  simp only [Tryz.ntmps139, List.size_toArray, List.length_cons, List.length_nil, Nat.reduceAdd, Nat.reduceSub, Array.replicate_succ, Array.replicate_zero, List.push_toArray, List.append_toArray, List.nil_append, List.cons_append]
  gi_wp2
  clear c0
  gi_loopw [7] (fun i wr => ∃ pre : List PickX, pre.length ≤ l.length ∧ i = .int .i64 pre.length ∧ J pre wr ∧ Below w.heap.size w wr) (fun i _ => l.length - (intOf i).toNat)
  case atStart => exact ⟨[], by simp, rfl, H0.out, HW.out⟩
  case round =>
    obtain ⟨pre, hk, rfl, hj, hx⟩ := hrel
    have K1 := Lib.hid hj; have K2 := Lib.hid hx
    clear hj hx
    by_cases hlt : pre.length < l.length
    · obtain ⟨z, hz⟩ : ∃ z, l[pre.length]? = some z := ⟨_, List.getElem?_eq_getElem hlt⟩
      obtain ⟨b, off, rfl, hb', hcell⟩ := HR.out (by intro e; rw [e] at hlt; simp at hlt)
      have hcx := hcell pre.length z hz
      have hmove : ∀ j, wr.cell? ⟨b, j, none⟩ = w.cell? ⟨b, j, none⟩ := fun j => K2.out.cell (p := ⟨b, j, none⟩) hb'
      have HZ := Lib.hid hz
      have XB := Lib.hid (show Ext wr (wr.alloc (.cells (encStep z).toArray 38)) from (Below.refl _ wr).alloc (Nat.le_refl _) _)
      obtain ⟨⟨cl, nm, acts, reads, ca, an⟩, ao2, ac2, ro2, rc2⟩ := z
      unfold encStep at hcx XB
      simp only at hcx XB
      have d0 := (hmove _).trans (hcx 0 _ rfl); have d1 := (hmove _).trans (hcx 1 _ rfl); have d2 := (hmove _).trans (hcx 2 _ rfl); have d3 := (hmove _).trans (hcx 3 _ rfl); have d4 := (hmove _).trans (hcx 4 _ rfl); have d5 := (hmove _).trans (hcx 5 _ rfl)
      simp only [Nat.add_zero] at d0
      have c0 := (K2.out.cell (p := ⟨Bn, 0, none⟩) hbn).trans HC.out
      have i0 : (0 : Int) ≤ (pre.length : Int) := by omega
      have i1 : (pre.length : Int) < (l.length : Int) := by omega
      clear hz hcell hcx hmove
      have mixed : Tryz.prog.follows .mixedOrders = true := by kernel_rfl
      obtain ⟨w0, hw0⟩ : ∃ w0, w0 = wr.alloc (.cells #[.int .i64 cl, .int .i64 nm, .slice ao2 acts.length ac2, .slice ro2 reads.length rc2, .int .i64 ca, .int .i64 an] 38) := ⟨_, rfl⟩
      have B0 : Hid (Blk w0 wr.heap.size [.int .i64 cl, .int .i64 nm, .slice ao2 acts.length ac2, .slice ro2 reads.length rc2, .int .i64 ca, .int .i64 an] 38) := Lib.hid (by rw [hw0]; exact Blk.new wr _ _)
      have W0 := Lib.hid hw0
      rw [← hw0] at XB
      clear hw0
      have K3 := Lib.hid (Below.trans K2.out (Below.mono XB.out K2.out.size))
      have X0 : Hid (Ext w0 w0.drew) := Lib.hid (Below.refl _ w0).drew
      have CLC := Lib.hid (clone_steps_calls l (some ⟨b, off, none⟩) cap w0.drew (by omega) ((HR.out.ext (Below.trans K3.out (Below.mono X0.out K3.out.size))).mono (Nat.le_trans K3.out.size X0.out.size)))
      have a0 := B0.out.drew.cell 0; have a1 := B0.out.drew.cell 1; have a2 := B0.out.drew.cell 2; have a3 := B0.out.drew.cell 3; have a4 := B0.out.drew.cell 4; have a5 := B0.out.drew.cell 5
      simp only [List.getElem?_cons_zero, List.getElem?_cons_succ] at a0 a1 a2 a3 a4 a5
      have e0 : w0.drew.cell? ⟨Bn, 0, none⟩ = some (.slice (some ⟨b, off, none⟩) l.length cap) := (Below.trans K3.out (Below.mono X0.out K3.out.size)).cell (p := ⟨Bn, 0, none⟩) hbn |>.trans HC.out
      gi_wp2
      rw [← W0.out]
      clear d0 d1 d2 d3 d4 d5 c0
      have hsum := IntWalk.i64_in ((pre.length : Int) + 1) (by omega)
      gi_region_with_o (first
        | (refine ⟨trivial, fun h => absurd h (by decide), ?_⟩; refine (callsIn_wide.2 CLC.out).mono ?_; rintro e w2 ⟨cv, rfl, hcv, hcn, hx2⟩; obtain ⟨g, c, cur, rfl, hgc⟩ := ownS_of hcv hlt; have OS := Lib.hid hgc; have X2 := Lib.hid (Ext.trans X0.out hx2); have GN := Lib.hid (hcn g rfl); have a0 := (B0.out.ext' X2.out).cell 0; have a1 := (B0.out.ext' X2.out).cell 1; have a2 := (B0.out.ext' X2.out).cell 2; have a3 := (B0.out.ext' X2.out).cell 3; have a4 := (B0.out.ext' X2.out).cell 4; have a5 := (B0.out.ext' X2.out).cell 5; simp only [List.getElem?_cons_zero, List.getElem?_cons_succ] at a0 a1 a2 a3 a4 a5; clear hcv hcn hx2 hgc)
        | (refine ⟨trivial, fun h => absurd h (by decide), ?_⟩; refine (callsIn_wide.2 (OS.out.del (by omega) hlt)).mono ?_; rintro e w3 ⟨rfl, hov, hbt⟩; have X3 := Lib.hid (show Ext w0 w3 from Below.trans X2.out (hbt.below X2.out.size (fun j hj => by rw [show j = g from hj]; exact GN.out))); have hj3 := HJ.out pre wr w3 none K1.out (Ext.trans XB.out X3.out).grownN (fun r e => by cases e); have hat : PickAt l pre ⟨⟨⟨cl, nm, acts, reads, ca, an⟩, ao2, ac2, ro2, rc2⟩, some ⟨g, 0, none⟩, l.length - 1, c⟩ w3 := ⟨HZ.out, rfl, Nat.le_trans (Nat.sub_le _ _) OS.out.fit, rows_of_ownE hov hlt⟩; obtain ⟨fn, tmps, assign, body, hy, hR⟩ := HY.out pre _ w3 hj3 hat; have RR := Lib.hid (hR.mono (R' := YPost J Jx w.heap.size pre ⟨⟨⟨cl, nm, acts, reads, ca, an⟩, ao2, ac2, ro2, rc2⟩, some ⟨g, 0, none⟩, l.length - 1, c⟩ w3) (fun e V' h => ypost_of h)); unfold encPick encStep at hy; simp only at hy; have a0 := (B0.out.ext' X3.out).cell 0; have a1 := (B0.out.ext' X3.out).cell 1; have a2 := (B0.out.ext' X3.out).cell 2; have a3 := (B0.out.ext' X3.out).cell 3; have a4 := (B0.out.ext' X3.out).cell 4; have a5 := (B0.out.ext' X3.out).cell 5; simp only [List.getElem?_cons_zero, List.getElem?_cons_succ] at a0 a1 a2 a3 a4 a5; clear hov hbt hj3 hat hR)
        | (refine ⟨fun h => absurd h (by decide), ?_⟩; refine RR.out.mono ?_; rintro e w4 ⟨cc, rfl, hcc⟩; have YA := Lib.hid hcc; clear hcc))
      all_goals
        clear a0 a1 a2 a3 a4 a5 e0 hsum hy
        cases cc
        · gi_wp2
          refine bodyPost_ret (results_none rfl _ _ _) rfl ?_
          rcases YA.out with ⟨e, _⟩ | ⟨_, h⟩
          · cases e
          · exact ⟨⟨_, rfl⟩, .inr ⟨_, h⟩⟩
        · gi_wp2
          go_roundw
          case rel =>
            rcases YA.out with ⟨_, h, hb4⟩ | ⟨e, _⟩
            · exact ⟨_, by simp; omega, by simp, h, Below.trans K3.out (Below.trans (Below.mono X3.out K3.out.size) hb4)⟩
            · cases e
          case measure => simp [intOf]; omega
    · obtain he : pre.length = l.length := by omega
      have HE := Lib.hid he; clear he
      gi_wp2
      go_end0
      exact ⟨⟨_, rfl⟩, .inl ⟨pre, HE.out, K1.out⟩⟩
end Go.Proofs.YtngahblgicjoiaaGreatDoor
