/- past.Merge of one past; tract.Open at a tract of nothing, with a cargo of rows. -/
import Derived.Test.YtmpmggejhnmakaaGreatDoorZ47
import Derived.Test.YtmpmggejhnmakaaGreatDoorZ25
namespace Go.Proofs.YtmpmggejhnmakaaGreatDoor
open Go.RowKit
def mergeK (ns : List Int) : Nat → List Int → List Int
 | 0, a => a
 | k + 1, a => raiseP ((k : Int) + 1, ns.getD k 0) (mergeK ns k a)
set_option maxRecDepth 100000 in
theorem ix8 (n0 n1 n2 n3 n4 n5 n6 n7 : Int) (W : World) : (Instr.index 213 (.agg #[.int .i64 n0, .int .i64 n1, .int .i64 n2, .int .i64 n3, .int .i64 n4, .int .i64 n5, .int .i64 n6, .int .i64 n7]) (.int .i64 0)).run Tryz.prog W = .ok (.int .i64 n0) W ∧ (Instr.index 213 (.agg #[.int .i64 n0, .int .i64 n1, .int .i64 n2, .int .i64 n3, .int .i64 n4, .int .i64 n5, .int .i64 n6, .int .i64 n7]) (.int .i64 1)).run Tryz.prog W = .ok (.int .i64 n1) W ∧ (Instr.index 213 (.agg #[.int .i64 n0, .int .i64 n1, .int .i64 n2, .int .i64 n3, .int .i64 n4, .int .i64 n5, .int .i64 n6, .int .i64 n7]) (.int .i64 2)).run Tryz.prog W = .ok (.int .i64 n2) W ∧ (Instr.index 213 (.agg #[.int .i64 n0, .int .i64 n1, .int .i64 n2, .int .i64 n3, .int .i64 n4, .int .i64 n5, .int .i64 n6, .int .i64 n7]) (.int .i64 3)).run Tryz.prog W = .ok (.int .i64 n3) W ∧ (Instr.index 213 (.agg #[.int .i64 n0, .int .i64 n1, .int .i64 n2, .int .i64 n3, .int .i64 n4, .int .i64 n5, .int .i64 n6, .int .i64 n7]) (.int .i64 4)).run Tryz.prog W = .ok (.int .i64 n4) W ∧ (Instr.index 213 (.agg #[.int .i64 n0, .int .i64 n1, .int .i64 n2, .int .i64 n3, .int .i64 n4, .int .i64 n5, .int .i64 n6, .int .i64 n7]) (.int .i64 5)).run Tryz.prog W = .ok (.int .i64 n5) W ∧ (Instr.index 213 (.agg #[.int .i64 n0, .int .i64 n1, .int .i64 n2, .int .i64 n3, .int .i64 n4, .int .i64 n5, .int .i64 n6, .int .i64 n7]) (.int .i64 6)).run Tryz.prog W = .ok (.int .i64 n6) W ∧ (Instr.index 213 (.agg #[.int .i64 n0, .int .i64 n1, .int .i64 n2, .int .i64 n3, .int .i64 n4, .int .i64 n5, .int .i64 n6, .int .i64 n7]) (.int .i64 7)).run Tryz.prog W = .ok (.int .i64 n7) W :=
 ⟨by kernel_rfl, by kernel_rfl, by kernel_rfl, by kernel_rfl, by kernel_rfl, by kernel_rfl, by kernel_rfl, by kernel_rfl⟩
set_option maxRecDepth 100000 in
set_option maxHeartbeats 6400000 in
theorem merge1_calls (pb qb sb cap : Nat) (ns qs : List Int) (w : World) (P : PTab w pb ns) (Q : PTab w qb qs) (hs : w.cell? ⟨sb, 0, none⟩ = some (.pointer (some ⟨qb, 0, none⟩))) :
 Calls Tryz.prog 62 #[.pointer (some ⟨pb, 0, none⟩), .slice (some ⟨sb, 0, none⟩) 1 cap] w fun e w' => e = .returned (.int .i64 0) ∧ PTab w' pb (mergeK qs 8 ns) ∧ But (fun j => j = pb) w w' := by
 have hok := Q.ok
 have hql := Q.blk
 have hlen := Q.len
 obtain ⟨n0, n1, n2, n3, n4, n5, n6, n7, rfl⟩ : ∃ n0 n1 n2 n3 n4 n5 n6 n7, qs = [n0, n1, n2, n3, n4, n5, n6, n7] := by
  match qs, hlen with
  | [n0, n1, n2, n3, n4, n5, n6, n7], _ => exact ⟨n0, n1, n2, n3, n4, n5, n6, n7, rfl⟩
 simp only [List.map_cons, List.map_nil, List.cons_append, List.nil_append] at hql
 obtain ⟨w1, hw1⟩ : ∃ w1, w1 = w.alloc (.cells #[.pointer (some ⟨pb, 0, none⟩)] 80) := ⟨_, rfl⟩
 have hx1 : Ext w w1 := by rw [hw1]; exact (Below.refl _ w).alloc (Nat.le_refl _) _
 have hb1 : Blk w1 w.heap.size [.pointer (some ⟨pb, 0, none⟩)] 80 := by rw [hw1]; exact Blk.new w _ _
 have hpl := P.blk.lt
 have hsl := block_lt_of_cell hs
 have HK := Lib.hid (fun W (hW : Ext w W) b cap (hb : W.cell? ⟨b, 0, none⟩ = some (.pointer (some ⟨pb, 0, none⟩))) => pknown_calls pb b cap W hb ((hW.cell (p := ⟨pb, 8, none⟩) hpl).trans P.made))
 have HQ := Lib.hid (fun W (hW : Ext w W) => pknown_calls qb sb cap W ((hW.cell (p := ⟨sb, 0, none⟩) hsl).trans hs) ((hW.cell (p := ⟨qb, 8, none⟩) Q.blk.lt).trans Q.made))
 have W1 := Lib.hid hw1; have X1 := Lib.hid hx1; have B1 := Lib.hid hb1
 have HP := Lib.hid P; have HB := Lib.hid hql; have HS := Lib.hid hs
 have R0 := Lib.hid (hok n0 (by simp)); have R1 := Lib.hid (hok n1 (by simp)); have R2 := Lib.hid (hok n2 (by simp)); have R3 := Lib.hid (hok n3 (by simp))
 have R4 := Lib.hid (hok n4 (by simp)); have R5 := Lib.hid (hok n5 (by simp)); have R6 := Lib.hid (hok n6 (by simp)); have R7 := Lib.hid (hok n7 (by simp))
 clear P Q hw1 hx1 hb1 hql hlen hok hs
 go_enter Tryz.func62, Tryz.ntmps62
 go_wp2_with fail
 refine (HK.out _ (by rw [← W1.out]; exact X1.out) _ _ (by rw [← W1.out]; exact B1.out.cell 0)).mono ?_
 rintro e w2 ⟨rfl, hx⟩
 have X2 := Lib.hid (Ext.trans X1.out (by rw [W1.out]; exact hx)); clear hx
 go_wp2_with fail
 refine (HQ.out _ X2.out).mono ?_
 rintro e w3 ⟨rfl, hx⟩
 have X3 := Lib.hid (Ext.trans X2.out hx); clear hx HK HQ X1 B1 W1 X2
 have s0 := (X3.out.cell (p := ⟨sb, 0, none⟩) hsl).trans HS.out
 have hq3 := HB.out.ext' X3.out
 have q0 := hq3.cell 0; have q1 := hq3.cell 1; have q2 := hq3.cell 2; have q3 := hq3.cell 3; have q4 := hq3.cell 4; have q5 := hq3.cell 5; have q6 := hq3.cell 6; have q7 := hq3.cell 7
 simp only [List.getElem?_cons_zero, List.getElem?_cons_succ] at q0 q1 q2 q3 q4 q5 q6 q7
 have P3 := Lib.hid (HP.out.ext X3.out)
 clear hq3
 go_wp2_with fail
 refine wp_unroll 2 (rounds_step (fun K hK => ?_))
 go_wp2_with fail
 have B3 := Lib.hid (Ext.but X3.out (fun j => j = pb))
 clear X3
 refine wp_unroll 9 (rounds_step (fun K1 hK1 => ?_))
 have ix := fun W => (ix8 n0 n1 n2 n3 n4 n5 n6 n7 W).1
 go_wp2_with fail
 clear ix
 refine (raise_calls pb _ 1 n0 w3 P3.out ⟨by decide, R0.out⟩).mono ?_
 rintro e w4 ⟨rfl, hp, hb⟩
 have P4 := Lib.hid hp; have B4 := Lib.hid (B3.out.trans hb (fun _ _ e => e) (fun _ _ e => e))
 clear hp hb P3 B3
 go_wp2_with fail
 refine rounds_step (fun K2 hK2 => ?_)
 have ix := fun W => (ix8 n0 n1 n2 n3 n4 n5 n6 n7 W).2.1
 go_wp2_with fail
 clear ix
 refine (raise_calls pb _ 2 n1 w4 P4.out ⟨by decide, R1.out⟩).mono ?_
 rintro e w5 ⟨rfl, hp, hb⟩
 have P5 := Lib.hid hp; have B5 := Lib.hid (B4.out.trans hb (fun _ _ e => e) (fun _ _ e => e))
 clear hp hb P4 B4
 go_wp2_with fail
 refine rounds_step (fun K3 hK3 => ?_)
 have ix := fun W => (ix8 n0 n1 n2 n3 n4 n5 n6 n7 W).2.2.1
 go_wp2_with fail
 clear ix
 refine (raise_calls pb _ 3 n2 w5 P5.out ⟨by decide, R2.out⟩).mono ?_
 rintro e w6 ⟨rfl, hp, hb⟩
 have P6 := Lib.hid hp; have B6 := Lib.hid (B5.out.trans hb (fun _ _ e => e) (fun _ _ e => e))
 clear hp hb P5 B5
 go_wp2_with fail
 refine rounds_step (fun K4 hK4 => ?_)
 have ix := fun W => (ix8 n0 n1 n2 n3 n4 n5 n6 n7 W).2.2.2.1
 go_wp2_with fail
 clear ix
 refine (raise_calls pb _ 4 n3 w6 P6.out ⟨by decide, R3.out⟩).mono ?_
 rintro e w7 ⟨rfl, hp, hb⟩
 have P7 := Lib.hid hp; have B7 := Lib.hid (B6.out.trans hb (fun _ _ e => e) (fun _ _ e => e))
 clear hp hb P6 B6
 go_wp2_with fail
 refine rounds_step (fun K5 hK5 => ?_)
 have ix := fun W => (ix8 n0 n1 n2 n3 n4 n5 n6 n7 W).2.2.2.2.1
 go_wp2_with fail
 clear ix
 refine (raise_calls pb _ 5 n4 w7 P7.out ⟨by decide, R4.out⟩).mono ?_
 rintro e w8 ⟨rfl, hp, hb⟩
 have P8 := Lib.hid hp; have B8 := Lib.hid (B7.out.trans hb (fun _ _ e => e) (fun _ _ e => e))
 clear hp hb P7 B7
 go_wp2_with fail
 refine rounds_step (fun K6 hK6 => ?_)
 have ix := fun W => (ix8 n0 n1 n2 n3 n4 n5 n6 n7 W).2.2.2.2.2.1
 go_wp2_with fail
 clear ix
 refine (raise_calls pb _ 6 n5 w8 P8.out ⟨by decide, R5.out⟩).mono ?_
 rintro e w9 ⟨rfl, hp, hb⟩
 have P9 := Lib.hid hp; have B9 := Lib.hid (B8.out.trans hb (fun _ _ e => e) (fun _ _ e => e))
 clear hp hb P8 B8
 go_wp2_with fail
 refine rounds_step (fun K7 hK7 => ?_)
 have ix := fun W => (ix8 n0 n1 n2 n3 n4 n5 n6 n7 W).2.2.2.2.2.2.1
 go_wp2_with fail
 clear ix
 refine (raise_calls pb _ 7 n6 w9 P9.out ⟨by decide, R6.out⟩).mono ?_
 rintro e w10 ⟨rfl, hp, hb⟩
 have P10 := Lib.hid hp; have B10 := Lib.hid (B9.out.trans hb (fun _ _ e => e) (fun _ _ e => e))
 clear hp hb P9 B9
 go_wp2_with fail
 refine rounds_step (fun K8 hK8 => ?_)
 have ix := fun W => (ix8 n0 n1 n2 n3 n4 n5 n6 n7 W).2.2.2.2.2.2.2
 go_wp2_with fail
 clear ix
 refine (raise_calls pb _ 8 n7 w10 P10.out ⟨by decide, R7.out⟩).mono ?_
 rintro e w11 ⟨rfl, hp, hb⟩
 have P11 := Lib.hid hp; have B11 := Lib.hid (B10.out.trans hb (fun _ _ e => e) (fun _ _ e => e))
 clear hp hb P10 B10
 go_wp2_with fail
 refine rounds_step (fun K9 hK9 => ?_)
 go_wp2_with fail
 refine rounds_step (fun KK hKK => ?_)
 go_wp2_with fail
 go_ret
 exact ⟨rfl, P11.out, B11.out⟩
set_option maxRecDepth 100000 in
theorem bs0_calls (k : ByteArray) (w : World) :
 Calls Tryz.prog 63 #[.slice none 0 0, .string k, .func (.func 64) #[] #[]] w fun e w' => e = .returned (.tuple #[.int .i64 0, .bool false]) ∧ Ext w w' := by
 go_enter Tryz.func63, Tryz.ntmps63
 go_wp2_with fail
 go_loopw [9, 10] (fun vi vj wr => vi = .int .i64 0 ∧ vj = .int .i64 0 ∧ wr = w) (fun _ _ _ => 0)
 case atStart => exact ⟨rfl, rfl, rfl⟩
 case round =>
  obtain ⟨rfl, rfl, rfl⟩ := hrel
  go_wp2_with fail
  go_ret2
  exact ⟨rfl, Below.refl _ _⟩
set_option maxRecDepth 100000 in
set_option maxHeartbeats 1600000 in
theorem insert0_calls (s : StrZ) (o : Option Addr) (c vb vc : Nat) (w : World) (ho : w.ownsRow 0 92 5 (.slice o 0 c) 0 []) (hv : Blk w vb (encSt s) 92) :
 Calls Tryz.prog 176 #[.slice o 0 c, .int .i64 0, .slice (some ⟨vb, 0, none⟩) 1 vc] w fun e w' => ∃ v, e = .returned v ∧ w'.ownsRow 0 92 5 v 1 (encSt s) ∧ But (fun j => (Value.slice o 0 c).ownBlock = some j) w w' ∧ Kept1 w (.slice o 0 c) v := by
 obtain ⟨i0, hi, hz0, hz1, hz2⟩ := info_parts infoSt
 have HR : Hid (Rows 5 encSt w.heap.size w (some ⟨vb, 0, none⟩) [s]) := Lib.hid (nrow_blk (enc := encSt) (sz := 5) (fun _ => rfl) [s] (by simpa using hv) (no := fun _ => False) id).rows
 have HO := Lib.hid ho
 clear ho hv
 go_enter Tryz.func176, Tryz.ntmps176
 go_wp2_with (at_builtin; refine wpList_append_rows (enc := encSt) (size := 5) (fun _ => rfl) one_st rfl (.tmp 23) (.tmp 24) 57 rfl 92 i0 _ 56 Tryz.underlying57 hi hz0 hz1 hz2 rfl (by decide) (.slice o 0 c) 0 _ rfl HO.out (some ⟨vb, 0, none⟩) [s] vc rfl HR.out (by show 0 + 1 ≤ maxLen; decide) (by show (0 + 1) * 56 ≤ _; decide) ?_; intro v1 w2 hown1 hbut1 hkept1; obtain ⟨vo, vcap, rfl⟩ := own_slice hown1; have O2 := Lib.hid hown1; have B2 := Lib.hid hbut1; have K2 := Lib.hid hkept1; clear hown1 hbut1 hkept1)
 go_ret
 have h := O2.out
 simp only [List.flatMap_cons, List.flatMap_nil, List.append_nil, List.nil_append, List.length_cons, List.length_nil, Nat.zero_add] at h
 exact ⟨_, rfl, h, B2.out, K2.out⟩
set_option maxRecDepth 100000 in
set_option maxHeartbeats 1600000 in
theorem replace0_calls (s : StrZ) (o : Option Addr) (c vb vc : Nat) (w : World) (ho : w.ownsRow 0 92 5 (.slice o 0 c) 0 []) (hv : Blk w vb (encSt s) 92) :
 Calls Tryz.prog 118 #[.slice o 0 c, .int .i64 0, .int .i64 0, .slice (some ⟨vb, 0, none⟩) 1 vc] w fun e w' => ∃ v, e = .returned v ∧ w'.ownsRow 0 92 5 v 1 (encSt s) ∧ But (fun j => (Value.slice o 0 c).ownBlock = some j) w w' ∧ Kept1 w (.slice o 0 c) v := by
 have HI := Lib.hid (insert0_calls s o c vb vc w ho hv)
 clear ho hv
 go_enter Tryz.func118, Tryz.ntmps118
 go_wp2_with fail
 refine HI.out.mono ?_
 rintro e w2 ⟨v, rfl, h1, h2, h3⟩
 have H1 := Lib.hid h1; have H2 := Lib.hid h2; have H3 := Lib.hid h3
 clear h1 h2 h3
 go_wp2_with fail
 go_ret
 exact ⟨_, rfl, H1.out, H2.out, H3.out⟩
set_option maxRecDepth 100000 in
set_option maxHeartbeats 1600000 in
theorem trReplace0_calls (s : StrZ) (tb vb vc : Nat) (u0 u1 u2 u4 u5 u6 : Value) (w : World) (hb : Blk w tb [u0, u1, u2, .slice none 0 0, u4, u5, u6] 86) (hv : Blk w vb (encSt s) 92) :
 Calls Tryz.prog 50 #[.pointer (some ⟨tb, 0, none⟩), .int .i64 0, .int .i64 0, .slice (some ⟨vb, 0, none⟩) 1 vc] w fun e w' => e = .returned (.tuple #[]) ∧ ∃ pv, Blk w' tb [u0, u1, u2, pv, u4, u5, u6] 86 ∧ w'.ownsRow 0 92 5 pv 1 (encSt s) ∧ (∀ j, pv.ownBlock = some j → w.heap.size ≤ j) ∧ But (fun j => j = tb) w w' := by
 have HC := Lib.hid (clone_st_calls [] none 0 w (by simp) (Rows.nil _ _ _ _ _))
 have HB := Lib.hid hb; have HV := Lib.hid hv
 have htl := hb.lt
 have c3 := hb.cell 3
 simp only [List.getElem?_cons_zero, List.getElem?_cons_succ] at c3
 clear hb hv
 go_enter Tryz.func50, Tryz.ntmps50
 go_wp2_with fail
 refine HC.out.mono ?_
 rintro e w1 ⟨v1, rfl, ho1, hj1, hx1⟩
 obtain ⟨o1, cp1, rfl⟩ := own_slice ho1
 have HR := Lib.hid (replace0_calls s o1 cp1 vb vc w1 ho1 (HV.out.ext' hx1))
 have X1 := Lib.hid hx1; have J1 := Lib.hid hj1
 clear hx1 hj1 ho1 c3
 simp only [List.length_nil]
 go_wp2_with fail
 refine HR.out.mono ?_
 rintro e w2 ⟨v2, rfl, ho2, hb2, hk2⟩
 obtain ⟨o2, cp2, rfl⟩ := own_slice ho2
 have hX2 : Ext w w2 := ((Ext.but X1.out (fun _ => False)).trans hb2 (U := fun b => w.heap.size ≤ b) (fun _ _ e => e.elim) (fun b _ e => J1.out b e)).ext (fun b hb e => by omega)
 have B2 := Lib.hid (HB.out.ext' hX2)
 have f3 := B2.out.free 3
 have c3 := B2.out.cell 3
 simp only [List.getElem?_cons_zero, List.getElem?_cons_succ] at c3
 have hfresh : ∀ b, (Value.slice o2 1 cp2).ownBlock = some b → w.heap.size ≤ b := fun b e => by
  rcases hk2 b e with e | e
  · exact J1.out b e
  · exact Nat.le_trans X1.out.size e
 have X2 := Lib.hid hX2; have O2 := Lib.hid ho2; have FR := Lib.hid hfresh
 clear hk2 hb2 hX2 ho2 hfresh
 go_wp2_with fail
 refine bodyPost_end (results_none rfl _ _ _) rfl ?_
 have hbut : But (fun b => b = tb) w2 (w2.setCell ⟨tb, 3, none⟩ (.slice o2 1 cp2)) := (But.refl (fun b => b = tb) w2).setCell (p := ⟨tb, 3, none⟩) (fun _ => rfl) _
 exact ⟨rfl, _, B2.out.set 3 _, own_but O2.out hbut (fun b hb e => by have := FR.out b hb; omega), FR.out, (Ext.but X2.out (fun _ => False)).trans hbut (fun _ _ e => e.elim) (fun _ _ e => e)⟩
set_option maxRecDepth 100000 in
set_option maxHeartbeats 6400000 in
theorem trOpen_calls (B tb rb hb pb cb crb chb cpb : Nat) (crv chv : Value) (rs : List RowD) (ns : List Int) (scheme ep : Int) (lo hi : ByteArray) (w : World) (T : TrO w tb rb hb pb (some cb)) (C : CgO B w cb crb chb cpb crv chv rs ns scheme lo hi) (h1 : tb < B ∧ rb < B ∧ hb < B ∧ pb < B) (hbd : beforeD scheme true 0 = (0, true)) (hep : badN ep = false) (hin : inR [] [] rs = rs) (hput : putRE rs [] = 0) (hsm : lo.size ≤ 1000 ∧ hi.size ≤ 1000) (hks : ∀ x ∈ rs, x.key.size ≤ 1000) :
 Calls Tryz.prog 21 #[.pointer (some ⟨tb, 0, none⟩), .int .i64 scheme, .int .i64 ep] w fun e w' => e = .returned (.int .i64 0) ∧ (∃ k : TrK, k.tb = tb ∧ TrIs w' k ⟨putAllR rs [], [], mergeK ns 8 (List.replicate 8 0), [⟨lo, hi, ep, 1, 0⟩], scheme⟩) ∧ But (fun j => j = tb ∨ j = rb ∨ j = hb ∨ j = pb) w w' := by
 have HBF := Lib.hid (fun W (hW : Ext w W) => by
  have b := T.bt.ext' hW
  have c4 := b.cell 4; have c6 := b.cell 6
  simp only [List.getElem?_cons_zero, List.getElem?_cons_succ] at c4 c6
  have := before_calls tb scheme 0 true W c4 c6
  rwa [hbd] at this)
 have hfew := C.ta.rt.few
 have HT := Lib.hid T; have HC := Lib.hid C; have H1 := Lib.hid h1; have HIN := Lib.hid hin; have HPE := Lib.hid hput; have HKS := Lib.hid hks; have HEP := Lib.hid hep
 clear T C h1 hbd hin hput hks hep
 go_enter Tryz.func21, Tryz.ntmps21
 go_wp2_with fail
 have HN1 := Lib.hid (number_calls1 ep w.heap.size 1 (w.alloc (.cells #[.int .i64 ep] 3)) ((Blk.new w [.int .i64 ep] 3).cell 0))
 rw [HEP.out] at HN1
 refine HN1.out.mono ?_
 rintro e w1 ⟨rfl, hx⟩
 have X1 := Lib.hid (Ext.trans ((Below.refl _ w).alloc (Nat.le_refl _) (.cells #[.int .i64 ep] 3)) hx); clear hx HN1
 go_wp2_with fail
 refine (HBF.out w1 X1.out).mono ?_
 rintro e w2 ⟨rfl, hx⟩
 have hx2 := Ext.trans X1.out hx
 have T2 := Lib.hid (HT.out.ext hx2); have C2 := Lib.hid (HC.out.ext hx2); have G2 := Lib.hid hx2
 clear hx hx2 X1 HBF HT HC
 have t0 := T2.out.bt.cell 0; have t5 := T2.out.bt.cell 5; have k0 := C2.out.bc.cell 0; have k3 := C2.out.bc.cell 3
 simp only [List.getElem?_cons_zero, List.getElem?_cons_succ, Option.map_some] at t0 t5 k0 k3
 have hcbr : ¬ cb = rb := by have := C2.out.cl; have := H1.out; omega
 have htbr : ¬ tb = rb := blk_ne T2.out.bt T2.out.rt.blk (by decide)
 go_upto_region 7 with fail
 have q0 := ButBy.cell (S := fun j => j = rb) t0 htbr; have q1 := ButBy.cell (S := fun j => j = rb) k0 hcbr
 refine wp_region_firstC (fun W => ∃ p : ButBy (fun j => j = rb) w2, W = p.W) [0, 1, 2, 3, 4, 5, 6, 7, 8, 9] 3 (by kernel_rfl) (by kernel_rfl) (fun _ _ _ _ h => h) ⟨⟨w2.drew, (But.refl _ w2).drew⟩, rfl⟩ ?_
 simp only [opsAt, List.getElem?_toArray, List.getElem?_cons_succ, List.getElem?_cons_zero]
 repeat (go_big_quiet_step (fail))
 refine wpQuiet_nil ?_
 clear q0 q1 t0 t5 k0 k3
 refine wpAnyH_ready (rs := [10]) (by kernel_rfl) (by simp) ?_
 refine AllReadyH.cons rfl (fun K hK => ?_) AllReadyH.nil
 go_simp
 refine (spanAll_calls _).mono ?_
 rintro e w3 ⟨rfl, hx⟩
 have X3 := Lib.hid (Ext.trans (Below.refl _ w2).drew hx); clear hx
 refine hK.out _ _ ⟨⟨_, Ext.but X3.out _⟩, rfl⟩ (fun _ => ?_)
 clear hK K
 refine wpAnyH_ready (rs := [11]) (by kernel_rfl) (by simp) ?_
 refine AllReadyH.cons rfl (fun K hK => ?_) AllReadyH.nil
 go_simp
 refine (inT_calls crb crv rs noBytes noBytes w3 (C2.out.ta.rt.ext X3.out) (by decide) (by decide)).mono ?_
 rw [show inR noBytes.data.toList noBytes.data.toList rs = rs from HIN.out]
 rintro e w4 ⟨r, rfl, ho, hj, hx⟩
 obtain ⟨ro, rc, rfl, _, _, hrw⟩ := Rows.own (enc := encRw) (sz := 2) (fun _ => rfl) ho
 have X4 := Lib.hid (Ext.trans X3.out hx)
 have HP := Lib.hid (rowsPut_calls rb _ [] rs ro rc w4 (T2.out.rt.ext X4.out) (by omega) hrw (fun x hx => Nat.le_trans (HKS.out x hx) (by omega)))
 rw [HPE.out] at HP
 clear ho hj hx hrw X3
 refine hK.out _ _ ⟨⟨_, Ext.but X4.out _⟩, rfl⟩ (fun _ => ?_)
 clear hK K
 refine wpAnyH_ready (rs := [12]) (by kernel_rfl) (by simp) ?_
 refine AllReadyH.cons rfl (fun K hK => ?_) AllReadyH.nil
 go_simp
 refine HP.out.mono ?_
 rintro e w5 ⟨rfl, ⟨rv, hrt, hrf⟩, hb5⟩
 rw [show putRT rs [] = putAllR rs [] from by unfold putRT; rw [if_pos HPE.out]] at hrt
 have hB5 := (Ext.but X4.out (fun _ => False)).trans hb5 (U := fun j => j = rb) (fun _ _ e => e.elim) (fun _ _ e => e)
 have RT := Lib.hid hrt
 have RF := Lib.hid (show ∀ j, rv.ownBlock = some j → w2.heap.size ≤ j from fun j hj => by
  rcases hrf with rfl | hrf
  · simp [Value.ownBlock] at hj
  · have := hrf j hj; have := X4.out.size; omega)
 have BT5 := Lib.hid (T2.out.bt.but hB5 htbr)
 have HT5 := Lib.hid (T2.out.ht.but' hB5 (blk_ne T2.out.ht.blk T2.out.rt.blk (by decide)) (by simp [Value.ownBlock]) (fun _ _ _ => trivial))
 have PT5 := Lib.hid (T2.out.pt.but hB5 (blk_ne T2.out.pt.blk T2.out.rt.blk (by decide)))
 have C5 := Lib.hid (C2.out.but hB5 (fun b e => by subst e; exact H1.out.2.1))
 have S5 := Lib.hid hB5.size
 have G5 := Lib.hid ((Ext.but G2.out (fun _ => False)).trans hB5 (U := fun j => j = tb ∨ j = rb ∨ j = hb ∨ j = pb) (fun _ _ e => e.elim) (fun _ _ e => .inr (.inl e)))
 refine hK.out _ _ ⟨⟨_, hB5⟩, rfl⟩ (fun _ => ?_)
 clear hK K hrt hrf hb5 hB5 HP X4 T2 C2 hcbr htbr
 refine wpAnyH_done (by kernel_rfl) ?_ _
 have t1 := BT5.out.cell 1; have k0 := C5.out.bc.cell 0; have k1 := C5.out.bc.cell 1; have k2 := C5.out.bc.cell 2
 simp only [List.getElem?_cons_zero, List.getElem?_cons_succ] at t1 k0 k1 k2
 have hcbh : ¬ cb = hb := by have := C5.out.cl; have := H1.out; omega
 have htbh : ¬ tb = hb := blk_ne BT5.out HT5.out.blk (by decide)
 have q0 := ButBy.cell (S := fun j => j = hb) t1 htbh; have q1 := ButBy.cell (S := fun j => j = hb) k0 hcbh; have q2 := ButBy.cell (S := fun j => j = hb) k1 hcbh; have q3 := ButBy.cell (S := fun j => j = hb) k2 hcbh
 go_upto_region 8 with fail
 refine wp_region_firstC (fun W => ∃ p : ButBy (fun j => j = hb) w5, W = p.W) [0, 1, 2, 3, 4, 5, 6, 7, 8] 2 (by kernel_rfl) (by kernel_rfl) (fun _ _ _ _ h => h) ⟨⟨w5.drew, (But.refl _ w5).drew⟩, rfl⟩ ?_
 simp only [opsAt, List.getElem?_toArray, List.getElem?_cons_succ, List.getElem?_cons_zero]
 repeat (go_big_quiet_step (fail))
 refine wpQuiet_nil ?_
 clear q0 q1 q2 q3 t1 k0 k1 k2
 refine wpAnyH_ready (rs := [9]) (by kernel_rfl) (by simp) ?_
 refine AllReadyH.cons rfl (fun K hK => ?_) AllReadyH.nil
 go_simp
 refine (all_calls crb chb cpb _ [] w5.drew (fun _ => True) (C5.out.ta.ht.ext (Below.refl _ w5).drew)).mono ?_
 rintro e w6 ⟨r, l', rfl, hn, ho, hj, _, _, hx⟩
 obtain rfl : l' = [] := List.eq_nil_of_length_eq_zero hn
 obtain ⟨ra, rc, rfl⟩ := own_slice ho
 have X6 := Lib.hid (Ext.trans (Below.refl _ w5).drew hx)
 have HP := Lib.hid (put_calls hb _ [] [] [] ra rc w6 (tab0 (no1 := fun _ => False) (HT5.out.ext X6.out)) (by simp) (fun h => absurd rfl h) trivial (by simp) (fun _ e => e.elim))
 clear hn ho hj hx
 refine hK.out _ _ ⟨⟨_, Ext.but X6.out _⟩, rfl⟩ (fun _ => ?_)
 clear hK K
 refine wpAnyH_ready (rs := [10]) (by kernel_rfl) (by simp) ?_
 refine AllReadyH.cons rfl (fun K hK => ?_) AllReadyH.nil
 go_simp
 refine HP.out.mono ?_
 rintro e w7 ⟨rfl, ⟨hv, hht, hhf⟩, hb7, _⟩
 rw [show putT [] [] = [] from by rfl] at hht
 have hB7 := (Ext.but X6.out (fun _ => False)).trans (hb7.mono (fun _ _ e => e.elim id (fun e => by simp [Value.ownBlock] at e))) (U := fun j => j = hb) (fun _ _ e => e.elim) (fun _ _ e => e)
 have HT7 := Lib.hid (tab0 (no1 := fun _ => True) hht)
 have HF := Lib.hid (show ∀ j, hv.ownBlock = some j → w2.heap.size ≤ j from fun j hj => by
  rcases hhf j hj with e | e
  · simp [Value.ownBlock] at e
  · have := X6.out.size; have := S5.out; omega)
 have BT7 := Lib.hid (BT5.out.but hB7 htbh)
 have RT7 := Lib.hid (RT.out.but hB7 (blk_ne RT.out.blk HT5.out.blk (by decide)) (fun j hj e => own_bk RT.out.row HT5.out.blk (by decide) (e ▸ hj)))
 have PT7 := Lib.hid (PT5.out.but hB7 (blk_ne PT5.out.blk HT5.out.blk (by decide)))
 have C7 := Lib.hid (C5.out.but hB7 (fun b e => by subst e; exact H1.out.2.2.1))
 have S7 := Lib.hid (Nat.le_trans S5.out hB7.size)
 have G7 := Lib.hid (G5.out.trans hB7 (U := fun j => j = tb ∨ j = rb ∨ j = hb ∨ j = pb) (fun _ _ e => e) (fun _ _ e => .inr (.inr (.inl e))))
 refine hK.out _ _ ⟨⟨_, hB7⟩, rfl⟩ (fun _ => ?_)
 clear hK K hht hhf hb7 hB7 HP X6 HT5 BT5 RT PT5 C5 S5 hcbh htbh
 refine wpAnyH_done (by kernel_rfl) ?_ _
 have t2 := BT7.out.cell 2; have k2 := C7.out.bc.cell 2
 simp only [List.getElem?_cons_zero, List.getElem?_cons_succ] at t2 k2
 have hcbp : ¬ cb = pb := by have := C7.out.cl; have := H1.out; omega
 have htbp : ¬ tb = pb := blk_ne BT7.out PT7.out.blk (by decide)
 have q0 := ButBy.cell (S := fun j => j = pb) t2 htbp; have q1 := ButBy.cell (S := fun j => j = pb) k2 hcbp
 go_upto_region 9 with fail
 refine wp_region_firstC (fun W => ∃ p : ButBy (fun j => j = pb) w7, W = p.W) [0, 1, 2, 3, 4, 5, 6, 7, 8, 9] 2 (by kernel_rfl) (by kernel_rfl) (fun _ _ _ _ h => h) ⟨⟨w7.drew, (But.refl _ w7).drew⟩, rfl⟩ ?_
 simp only [opsAt, List.getElem?_toArray, List.getElem?_cons_succ, List.getElem?_cons_zero]
 repeat (go_big_quiet_step (fail))
 refine wpQuiet_nil ?_
 clear q0 q1 t2 k2
 obtain ⟨w8, hw8⟩ : ∃ w8, w8 = w7.drew := ⟨_, rfl⟩
 have X8 : Ext w7 w8 := by rw [hw8]; exact (Below.refl _ w7).drew
 rw [← hw8]
 clear hw8
 refine wpAnyH_ready (rs := [10]) (by kernel_rfl) (by simp) ?_
 refine AllReadyH.cons rfl (fun K hK => ?_) AllReadyH.nil
 go_simp
 have hxa : Ext w7 (w8.alloc (.cells #[.pointer (some ⟨cpb, 0, none⟩)] 80)) := Ext.trans X8 ((Below.refl _ w8).alloc (Nat.le_refl _) _)
 have HM := Lib.hid (merge1_calls pb cpb w8.heap.size 1 _ ns (w8.alloc (.cells #[.pointer (some ⟨cpb, 0, none⟩)] 80)) (PT7.out.ext hxa) (C7.out.ta.pt.ext hxa) ((Blk.new w8 [.pointer (some ⟨cpb, 0, none⟩)] 80).cell 0))
 have XA := Lib.hid hxa
 clear hxa X8
 refine hK.out _ _ ⟨⟨_, Ext.but XA.out _⟩, rfl⟩ (fun _ => ?_)
 clear hK K
 refine wpAnyH_ready (rs := [11]) (by kernel_rfl) (by simp) ?_
 refine AllReadyH.cons rfl (fun K hK => ?_) AllReadyH.nil
 go_simp
 refine HM.out.mono ?_
 rintro e w9 ⟨rfl, hp9, hb9⟩
 have hB9 := (Ext.but XA.out (fun _ => False)).trans hb9 (U := fun j => j = pb) (fun _ _ e => e.elim) (fun _ _ e => e)
 have PT9 := Lib.hid hp9
 have BT9 := Lib.hid (BT7.out.but hB9 htbp)
 have RT9 := Lib.hid (RT7.out.but hB9 (blk_ne RT7.out.blk PT7.out.blk (by decide)) (fun j hj e => own_bk RT7.out.row PT7.out.blk (by decide) (e ▸ hj)))
 have HT9 := Lib.hid (HT7.out.but' hB9 (blk_ne HT7.out.blk PT7.out.blk (by decide)) (fun j hj e => by obtain ⟨_, _, h⟩ := HT7.out.own; exact own_bk h PT7.out.blk (by decide) (e ▸ hj)) (fun _ _ _ => trivial))
 have C9 := Lib.hid (C7.out.but hB9 (fun b e => by subst e; exact H1.out.2.2.2))
 have S9 := Lib.hid (Nat.le_trans S7.out hB9.size)
 have G9 := Lib.hid (G7.out.trans hB9 (U := fun j => j = tb ∨ j = rb ∨ j = hb ∨ j = pb) (fun _ _ e => e) (fun _ _ e => .inr (.inr (.inr e))))
 refine hK.out _ _ ⟨⟨_, hB9⟩, rfl⟩ (fun _ => ?_)
 clear hK K hp9 hb9 hB9 HM XA HT7 BT7 RT7 PT7 C7 S7 hcbp htbp
 refine wpAnyH_done (by kernel_rfl) ?_ _
 have t3 := BT9.out.cell 3; have k4 := C9.out.bc.cell 4
 simp only [List.getElem?_cons_zero, List.getElem?_cons_succ] at t3 k4
 have q0 := ExtBy.cell t3; have q1 := ExtBy.cell k4
 go_upto_region 10 with fail
 refine wp_region_firstC (fun W => ∃ p : ExtBy w9, W = p.W) [0, 1, 2, 3, 4, 5, 6, 7, 8] 6 (by kernel_rfl) (by kernel_rfl) (fun _ _ _ _ h => h) ⟨⟨w9.drew, (Below.refl _ w9).drew⟩, rfl⟩ ?_
 simp only [opsAt, List.getElem?_toArray, List.getElem?_cons_succ, List.getElem?_cons_zero]
 repeat (go_big_quiet_step (fail))
 refine wpQuiet_nil ?_
 clear q0 q1 t3 k4
 refine wpAnyH_ready (rs := [9]) (by kernel_rfl) (by simp) ?_
 refine AllReadyH.cons rfl (fun K hK => ?_) AllReadyH.nil
 go_simp
 refine (bs0_calls lo _).mono ?_
 rintro e wa ⟨rfl, hx⟩
 have XA := Lib.hid (Ext.trans (Below.refl _ w9).drew hx); clear hx
 refine hK.out _ _ ⟨⟨_, XA.out⟩, rfl⟩ (fun _ => ?_)
 clear hK K
 refine wp_takesC (f := 0) [10, 11, 12, 13, 14] (by kernel_rfl) (fun _ _ _ _ h => h) ⟨⟨_, XA.out⟩, rfl⟩ ?_
 simp only [opsAt, List.getElem?_toArray, List.getElem?_cons_succ, List.getElem?_cons_zero]
 repeat (go_big_quiet_step (fail))
 refine wpQuiet_nil ?_
 refine wpAnyH_done (by kernel_rfl) ?_ _
 have BTa := Lib.hid (BT9.out.ext' XA.out); have Ca := Lib.hid (C9.out.ext XA.out)
 have k4 := Ca.out.bc.cell 4; have k5 := Ca.out.bc.cell 5
 simp only [List.getElem?_cons_zero, List.getElem?_cons_succ] at k4 k5
 have hsb := Blk.new wa (encSt ⟨lo, hi, ep, 1, 0⟩) 92
 have hxb : Ext wa (wa.alloc (.cells (encSt ⟨lo, hi, ep, 1, 0⟩).toArray 92)) := (Below.refl _ wa).alloc (Nat.le_refl _) _
 have HR := trReplace0_calls ⟨lo, hi, ep, 1, 0⟩ tb wa.heap.size 1 _ _ _ _ _ _ _ (BTa.out.ext' hxb) hsb
 simp only [encSt] at HR hxb
 have HRR := Lib.hid HR; have XB := Lib.hid hxb
 clear HR hsb hxb
 go_wp2_with fail
 refine HRR.out.mono ?_
 rintro e wb ⟨rfl, pv, hb1, hb2, hb3, hb4⟩
 have hX : Ext w9 (wa.alloc (.cells #[.string lo, .string hi, .int .i64 ep, .int .u8 1, .int .i64 0] 92)) := Ext.trans XA.out XB.out
 have f5 := hb1.free 5; have f4 := hb1.free 4; have c5 := hb1.cell 5; have c4 := hb1.cell 4
 simp only [List.getElem?_cons_zero, List.getElem?_cons_succ] at c5 c4
 have BTb := Lib.hid hb1; have OB := Lib.hid hb2; have OF := Lib.hid hb3
 have XX := Lib.hid ((Ext.but hX (fun _ => False)).trans hb4 (U := fun j => j = tb) (fun _ _ e => e.elim) (fun _ _ e => e))
 clear hb1 hb2 hb3 hb4 hX k4 k5 HRR
 go_wp2_with fail
 go_ret
 have hset : But (fun j => j = tb) wb ((wb.setCell ⟨tb, 5, none⟩ (.pointer none)).setCell ⟨tb, 4, none⟩ (.int .i64 scheme)) := But.set2 wb tb 5 4 _ _
 have hall := XX.out.trans hset (U := fun j => j = tb) (fun _ _ e => e) (fun _ _ e => e)
 refine ⟨rfl, ⟨⟨tb, rb, hb, pb, rv, hv, pv⟩, rfl, (BTb.out.set 5 _).set 4 _, RT9.out.but hall (blk_ne RT9.out.blk BT9.out (by decide)) (fun j hj e => own_bk RT9.out.row BT9.out (by decide) (e ▸ hj)), tab0 (HT9.out.but' hall (blk_ne HT9.out.blk BT9.out (by decide)) (fun j hj e => by obtain ⟨_, _, h⟩ := HT9.out.own; exact own_bk h BT9.out (by decide) (e ▸ hj)) (fun _ _ _ => trivial)), PT9.out.but hall (blk_ne PT9.out.blk BT9.out (by decide)), ?_, ?_, by simp⟩, G9.out.trans hall (fun _ _ e => e) (fun _ _ e => .inl e)⟩
 · exact own_but OB.out hset (fun j hj e => by have := OF.out j hj; have := BTa.out.lt; have := XB.out.size; omega)
 · intro s hs
   rw [List.mem_singleton] at hs
   subst hs
   exact ⟨by show lo.size ≤ _; omega, by show hi.size ≤ _; omega⟩
end Go.Proofs.YtmpmggejhnmakaaGreatDoor
