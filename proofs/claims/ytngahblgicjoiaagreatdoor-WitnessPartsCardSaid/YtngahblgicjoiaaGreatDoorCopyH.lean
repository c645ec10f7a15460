/- A history's copy: a range over its names' map. -/
import Derived.Test.YtngahblgicjoiaaGreatDoorFit
namespace Go.Proofs.YtngahblgicjoiaaGreatDoor
open Go.RowKit
open Go.Maps (Keyed)

def nameV (p : Int × Int) : Value := .agg #[.int .i64 p.1, .int .i64 p.2]
theorem i64B_of_wf {n : Int} (w : (Lit.int .i64 n).wf = true) : i64B n := by
  unfold i64B
  simpa [Lit.wf, IntKind.min, IntKind.max, IntKind.signed, IntKind.bits] using w
set_option maxRecDepth 100000 in
/-- What reads as a name's key is a name. -/
theorem name_inv (key : Value) (kl : Lit) (h : keyOf Tryz.prog 34 key = some kl) : ∃ p : Int × Int, key = nameV p ∧ i64B p.1 ∧ i64B p.2 ∧ kl = nameLit p := by
  have h0 := h
  unfold keyOf at h
  have hu := Tryz.underlying34
  have hk : Tryz.prog.keyType 34 = true := by kernel_rfl
  have hc2 : Tryz.prog.cellsOf 34 = 2 := by kernel_rfl
  have hci : Tryz.prog.cellsOf 3 = 1 := by kernel_rfl
  have hui := Tryz.underlying3
  have hn2 : ∃ n, Tryz.prog.types.size + 1 = n + 1 + 1 := ⟨Tryz.prog.types.size - 1, by have : 0 < Tryz.prog.types.size := (by decide +kernel); omega⟩
  obtain ⟨m, hm⟩ := hn2
  rw [hm] at h
  simp only [hu, hk, Bool.true_and] at h
  cases key with
  | agg cs =>
    simp only [Value.formed, hu, hc2] at h
    by_cases hs : cs.size = 2
    · obtain ⟨a, b, rfl⟩ : ∃ a b, cs = #[a, b] := by
        rcases cs with ⟨l⟩
        match l, hs with
        | [a, b], _ => exact ⟨a, b, rfl⟩
      simp [Program.keyLits, hu, hc2, hci, hui, Value.cells] at h
      cases a with
      | int q c =>
        by_cases hq : q = .i64 ∧ (Lit.int .i64 c).wf = true
        · cases b with
          | int q2 d =>
            by_cases hq2 : q2 = .i64 ∧ (Lit.int .i64 d).wf = true
            · obtain ⟨rfl, w1⟩ := hq
              obtain ⟨rfl, w2⟩ := hq2
              refine ⟨(c, d), rfl, i64B_of_wf w1, i64B_of_wf w2, ?_⟩
              have e := nameLit_key (i64B_of_wf w1) (i64B_of_wf w2)
              rw [h0] at e
              exact Option.some.inj e
            · simp [hq, hq2] at h
          | _ => simp [hq] at h
        · simp [hq] at h
      | _ => simp at h
    · simp [hs] at h
  | _ => simp [Value.formed, hu] at h
theorem RangeF.cnt_le {P : Program} {k : TypeId} {w : World} {b r n : Nat} {z : Value} {val : Lit → Value} {has left : Lit → Bool} {cnt : Nat} (h : RangeF P k w b r n z val has left cnt) : cnt ≤ n := by
  obtain ⟨D, ⟨es, c, s, sn, c0, _, _, h3, _, _, _, h7, _⟩, _⟩ := h.own
  rw [← h7]
  unfold leftOf
  exact Nat.le_trans (Array.size_filter_le) h3
/-- A history's copy, all of it new. -/
def CopyAt (w : World) (h : Hist) (n : Nat) (e : Ending) (w' : World) : Prop := ∃ hb mb v, e = .returned (.pointer (some ⟨hb, 0, none⟩)) ∧ HistAt w.heap.size w' hb h v mb n ∧ Ext w w'
/-- Amid the copy of names: those that have come stand there. -/
structure CopyMid (w w1 : World) (hb mb mb1 r n : Nat) (h : Hist) (v : Value) (wr : World) : Prop where
  out : ∃ (left : Lit → Bool) (cnt k : Nat), RangeF Tryz.prog 34 wr mb1 r n (.bool false) (fun kl => .bool (inNames h.2 kl)) (inNames h.2) left cnt ∧
    MapF Tryz.prog 34 wr mb k (.bool false) (fun x => .bool (inNames h.2 x && !left x)) (fun x => inNames h.2 x && !left x) ∧ k + cnt ≤ n ∧ But (fun j => j = mb ∨ j = r) w1 wr

set_option maxRecDepth 100000 in
set_option maxHeartbeats 1600000 in
theorem copiedH_calls {B : Nat} {w : World} {hb mb n : Nat} {h : Hist} {v : Value} (H : HistAt B w hb h v mb n) (hn : h.1.length ≤ 1000000) :
    Calls Tryz.prog 88 #[.pointer (some ⟨hb, 0, none⟩)] w (CopyAt w h n) := by
  have hmm := @run_makeMap Tryz.prog
  have HH := Lib.hid H
  have c0 := H.blk.cell 0
  simp only [List.getElem?_cons_zero] at c0
  obtain ⟨ao, cap, rfl, hrow⟩ := H.tab.slice
  have CL := Lib.hid (clone_rows_calls h.1 ao cap w hn hrow)
  clear H hrow hn
  go_enter Tryz.func88, Tryz.ntmps88
  go_wp2_with fail
  refine CL.out.mono ?_
  rintro e w1 ⟨v1, rfl, hv1, hn1, hx1⟩
  obtain ⟨ao1, cap1, rfl, -, -, -⟩ := Rows.own (enc := encRw) (sz := 2) (fun _ => rfl) hv1
  have V1 := Lib.hid hv1; have N1 := Lib.hid hn1; have X1 := Lib.hid hx1
  clear hv1 hn1 hx1
  have H1 := HH.out.ext X1.out
  have hm2 := MapF.made Tryz.prog 34 w1 (.bool false)
  have hxm : Ext w1 (w1.alloc (.map #[] 0)) := (Below.refl _ w1).alloc (Nat.le_refl _) _
  have hb2 := Blk.new (w1.alloc (.map #[] 0)) [.slice ao1 h.1.length cap1, .map (some w1.heap.size)] 111
  have hxb : Ext (w1.alloc (.map #[] 0)) ((w1.alloc (.map #[] 0)).alloc (.cells #[.slice ao1 h.1.length cap1, .map (some w1.heap.size)] 111)) := (Below.refl _ _).alloc (Nat.le_refl _) _
  rw [World.size_alloc] at hb2
  obtain ⟨w2, hw2⟩ : ∃ w2, w2 = (w1.alloc (.map #[] 0)).alloc (.cells #[.slice ao1 h.1.length cap1, .map (some w1.heap.size)] 111) := ⟨_, rfl⟩
  have X2 : Hid (Ext w1 w2) := Lib.hid (by rw [hw2]; exact Ext.trans hxm hxb)
  have M2 : Hid (MapF Tryz.prog 34 w2 w1.heap.size 0 (.bool false) (fun _ => .bool false) (fun _ => false)) := Lib.hid (by rw [hw2]; exact hm2.ext hxb)
  have K2 : Hid (Blk w2 (w1.heap.size + 1) [.slice ao1 h.1.length cap1, .map (some w1.heap.size)] 111) := Lib.hid (by rw [hw2]; exact hb2)
  have W2 := Lib.hid hw2
  have H2 := Lib.hid (H1.ext X2.out)
  have c1 : w2.cell? ⟨hb, 1, none⟩ = some (.map (some mb)) := H2.out.blk.cell 1
  rw [hw2] at c1
  clear hw2 hm2 hxm hb2 hxb H1 c0
  go_wp2_with (at_range; rw [← W2.out]; refine wpList_rangeF _ rfl _ 109 rfl 34 4 nameKeyed Tryz.underlying109 rfl H2.out.map ?_; intro w3 cnt hrg hg hsz)
  clear hmm
  have RG := Lib.hid hrg
  have X3 : Hid (Ext w2 w3) := Lib.hid ⟨hg.os, hg.tape, hg.output, hg.size, fun k hk => hg.block k hk (by simp)⟩
  clear hrg hg c1
  go_frame
  go_loopw [21] (fun _ wr => CopyMid w w3 (w1.heap.size + 1) w1.heap.size mb w2.heap.size n h (.slice ao1 h.1.length cap1) wr) (fun _ wr => wr.rangeLeft mb w2.heap.size)
  case atStart =>
    refine ⟨_, cnt, 0, RG.out, (M2.out.ext X3.out).congr (fun x => ?_) (fun x => ?_), by have := RG.out.cnt_le; omega, But.refl _ _⟩
    · simp
    · simp
  case round =>
    obtain ⟨left, cnt1, k, hrg, hmp, hkc, hbt⟩ := hrel.out
    have R1 := Lib.hid hrg; have M1 := Lib.hid hmp; have B1 := Lib.hid hbt
    have hcn := RG.out.cnt_le
    have hfew := HH.out.few
    clear hrel hrg hmp hbt
    go_wp2_with (at_next; refine wpList_nextF _ rfl _ rfl 34 nameKeyed nameV (fun key kl hk => by obtain ⟨p, hp, _⟩ := name_inv key kl hk; exact ⟨p, hp⟩) rfl R1.out ?_ ?_)
    · intro h0 hl
      go_wp2_with fail
      go_ret
      have hv1 := V1.out.lt
      have hs12 := X2.out.size; have hs23 := X3.out.size; have hs01 := X1.out.size
      have hn1 : ¬ (w1.heap.size + 1 = w1.heap.size ∨ w1.heap.size + 1 = w2.heap.size) := by have := K2.out.lt; omega
      have hn2 : ∀ j, (Value.slice ao1 h.1.length cap1).ownBlock = some j → ¬ (j = w1.heap.size ∨ j = w2.heap.size) := fun j e => by have := (hv1 j e).2; omega
      refine ⟨_, w1.heap.size, .slice ao1 h.1.length cap1, rfl, ⟨(K2.out.ext' X3.out).but B1.out hn1, by omega, ?_, ?_, by omega, HH.out.rise, HH.out.ok, HH.out.few, HH.out.names⟩, ?_⟩
      · exact own_base (own_but (own_ext (own_ext V1.out X2.out) X3.out) B1.out hn2) (fun k e => N1.out k e)
      · exact (M1.out.mono (by omega)).congr (fun x => by rw [hl x]; simp) (fun x => by rw [hl x]; simp)
      · exact Below.trans (Ext.trans X1.out (Ext.trans X2.out X3.out)) (B1.out.below (by omega) (fun i e => by rcases e with e | e <;> omega))
    · intro c d vv kl w4 cnt' hkey hlk hval hhas hrg' hlt hg4 hs4 hen
      unfold nameV at hkey hen ⊢
      simp only at hkey hen
      have hb4 : But (fun j => j = w2.heap.size) wr w4 := (But.of_grown hg4).mono fun i _ e => (Option.some.inj e).symm
      have hk4 : Blk w4 (w1.heap.size + 1) [.slice ao1 h.1.length cap1, .map (some w1.heap.size)] 111 :=
        ((K2.out.ext' X3.out).but B1.out (by have := K2.out.lt; omega)).but hb4 (by have := K2.out.lt; omega)
      have hm4 := M1.out.same (hb4.block _ M1.out.lt (by have := K2.out.lt; omega))
      have M4 := Lib.hid hm4; have K4 := Lib.hid hk4; have R4 := Lib.hid hrg'; have KEY := Lib.hid hkey; have B4 := Lib.hid (B1.out.trans hb4 (U := fun j => j = w1.heap.size ∨ j = w2.heap.size) (fun _ _ e => e) (fun _ _ e => .inr e))
      have HN := Lib.hid hhas
      clear hs4 hsz hb4 hk4 hm4 hrg' hkey hval hhas hlk
      have E5 : Hid (Ext w4 (w4.alloc (.cells #[.int .i64 c, .int .i64 d] 34))) := Lib.hid ((Below.refl _ w4).alloc (Nat.le_refl _) _)
      have K5 : Hid (Blk (w4.alloc (.cells #[.int .i64 c, .int .i64 d] 34)) w4.heap.size [.int .i64 c, .int .i64 d] 34) := Lib.hid (Blk.new w4 _ _)
      go_wp2_with fail
      have E5o := E5.out; have K5o := K5.out
      obtain ⟨w5, hw5⟩ : ∃ w5, w5 = w4.alloc (.cells #[.int .i64 c, .int .i64 d] 34) := ⟨_, rfl⟩
      rw [← hw5] at E5o K5o ⊢
      clear hw5 E5 K5
      have k1 := (K4.out.ext' E5o).cell 1; have n0 := K5o.cell 0; have n1 := K5o.cell 1
      simp only [List.getElem?_cons_zero, List.getElem?_cons_succ] at k1 n0 n1
      have hxd : Ext w5 w5.drew := (Below.refl _ w5).drew
      obtain ⟨w6, hrun, hmap, hg6⟩ := ((M4.out.ext E5o).ext hxd).update (e := 4) nameKeyed Tryz.underlying109 (by unfold maxLen; omega) (v := .bool true) KEY.out
      have hb6 : But (fun j => j = w1.heap.size) w5 w6 := ((But.refl (fun j => j = w1.heap.size) w5).drew).trans ((But.of_grown hg6).mono fun i _ e => (Option.some.inj e).symm) (fun _ _ e => e) (fun _ _ e => e)
      have M6 := Lib.hid hmap; have B6 := Lib.hid hb6; have E6 := Lib.hid E5o
      clear hmap hg6 hb6 hxd E5o K5o hen
      go_still_tail 5, (by kernel_rfl)
      change wpList _ _ _ _ _ w5.drew
      go_wp2_with fail
      have hR6 : RangeF Tryz.prog 34 w6 mb w2.heap.size n (.bool false) (fun kl => .bool (inNames h.2 kl)) (inNames h.2) (fun z => left z && !z.sameKey kl) cnt' := by
        have h5 := R4.out.ext E6.out
        have hmb := h5.map.lt
        have hml : mb < w1.heap.size := by have := HH.out.map.lt; have := X1.out.size; omega
        have := K2.out.lt
        exact h5.same (B6.out.block _ hmb (by omega)) (B6.out.block _ h5.lt (by omega))
      go_roundw
      case rel =>
        refine ⟨_, cnt', k + 1, hR6, M6.out.congr (fun x => ?_) (fun x => ?_), by omega, (B4.out.trans (Ext.but E6.out (fun _ => False)) (fun _ _ e => e) (fun _ _ e => e.elim)).trans B6.out (fun _ _ e => e) (fun _ _ e => .inl e)⟩
        · by_cases e : x = kl
          · subst e
            rw [if_pos rfl, HN.out, WideAt.sameKey_self (nameKeyed.key KEY.out)]; simp
          · rw [if_neg e, Maps.sameKey_ne e]; simp
        · by_cases e : x = kl
          · subst e
            rw [HN.out, WideAt.sameKey_self (nameKeyed.key KEY.out)]; simp
          · rw [Maps.sameKey_ne e]; simp [e]
      case measure => rw [hR6.left_eq, R1.out.left_eq]; exact hlt
end Go.Proofs.YtngahblgicjoiaaGreatDoor
