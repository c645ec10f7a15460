/- tract: within at one span; room with a cargo, at a tract of nothing. -/
import Derived.Test.YtmpmggejhnmakaaGreatDoorZ46
import Derived.Test.YtmpmggejhnmakaaGreatDoorZ23
import Derived.Test.YtmpmggejhnmakaaGreatDoorZ25
import Derived.Test.YtmpmggejhnmakaaGreatDoorZ35
namespace Go.Proofs.YtmpmggejhnmakaaGreatDoor
open Go.RowKit
set_option maxRecDepth 100000 in
set_option maxHeartbeats 3200000 in
theorem within1_calls (B sb cap rb hb pb : Nat) (rv hv : Value) (rs : List RowD) (ns : List Int) (lo hi : ByteArray) (w : World) (T : TabsAt B w rb hb pb rv hv rs ns) (hs : Blk w sb [.string lo, .string hi] 30) (hin : (inR lo.data.toList hi.data.toList rs).length = rs.length) (hl : lo.size ≤ 140737488351232) (hh : hi.size ≤ 140737488351232) :
 Calls Tryz.prog 123 #[.agg #[.pointer (some ⟨rb, 0, none⟩), .pointer (some ⟨hb, 0, none⟩), .pointer (some ⟨pb, 0, none⟩)], .slice (some ⟨sb, 0, none⟩) 1 cap] w fun e w' => e = .returned (.bool true) ∧ Ext w w' := by
 obtain ⟨w0, hw0⟩ : ∃ w0, w0 = w.alloc (.cells #[.pointer (some ⟨rb, 0, none⟩), .pointer (some ⟨hb, 0, none⟩), .pointer (some ⟨pb, 0, none⟩)] 82) := ⟨_, rfl⟩
 have hx0 : Ext w w0 := by rw [hw0]; exact (Below.refl _ w).alloc (Nat.le_refl _) _
 have ha0 : Blk w0 w.heap.size [.pointer (some ⟨rb, 0, none⟩), .pointer (some ⟨hb, 0, none⟩), .pointer (some ⟨pb, 0, none⟩)] 82 := by rw [hw0]; exact Blk.new w _ _
 have hfew := T.rt.few
 have W0 := Lib.hid hw0; have X0 := Lib.hid hx0; have A0 := Lib.hid ha0; have S0 := Lib.hid (hs.ext' hx0); have T0 := Lib.hid (T.ext hx0)
 have HI := Lib.hid (fun W (hW : Ext w0 W) => inT_calls rb rv rs lo hi W (T0.out.rt.ext hW) hl hh)
 have HH := Lib.hid (fun W (hW : Ext w0 W) => in_calls hb hv [] lo hi W (T0.out.ht.ext hW) hl hh)
 have HM := Lib.hid (fun W (hW : Ext w0 W) => manyR_calls rb rv rs W (T0.out.rt.ext hW))
 have HN : Hid (∀ W, Ext w0 W → Calls Tryz.prog 129 #[.pointer (some ⟨hb, 0, none⟩)] W fun e w' => e = .returned (.int .i64 0) ∧ W = w') := Lib.hid (fun W hW => manyT_calls hb hv [] W (tab0 (T0.out.ht.ext hW)))
 rw [hin] at HI
 clear hw0 hx0 ha0 hs T
 generalize hL : rs.length = L at *
 clear hL hin
 go_enter Tryz.func123, Tryz.ntmps123
 go_upto_region 1 with fail
 rw [← W0.out]
 clear W0
 generalize w.heap.size = N at *
 go_wp2_with fail
 have a1 := A0.out.cell 0; have a2 := A0.out.cell 1; have s0 := S0.out.cell 0; have s1 := S0.out.cell 1
 simp only [List.getElem?_cons_zero, List.getElem?_cons_succ] at a1 a2 s0 s1
 obtain ⟨w1, hw1⟩ : ∃ w1, w1 = w0.alloc (.cells #[.string lo, .string hi] 30) := ⟨_, rfl⟩
 have Y1 : Hid (Ext w0 w1) := Lib.hid (by rw [hw1]; exact (Below.refl _ w0).alloc (Nat.le_refl _) _)
 have P1 : Hid (Blk w1 w0.heap.size [.string lo, .string hi] 30) := Lib.hid (by rw [hw1]; exact Blk.new w0 _ _)
 have W1 := Lib.hid hw1
 clear hw1
 refine wp_unroll 2 (rounds_step (fun K hK => ?_))
 go_upto_region 5 with fail
 rw [← W1.out]
 clear W1 a1 a2 s0 s1
 generalize w0.heap.size = M at *
 have a0 := (A0.out.ext' Y1.out).cell 0; have p0 := P1.out.cell 0; have p1 := P1.out.cell 1
 simp only [List.getElem?_cons_zero, List.getElem?_cons_succ] at a0 p0 p1
 go_wp2_with fail
 refine (HI.out w1 Y1.out).mono ?_
 rintro e w2 ⟨r, rfl, ho, _, hx⟩
 obtain ⟨ro, rc, rfl⟩ := own_slice ho
 have Y2 := Lib.hid (Ext.trans Y1.out hx)
 have a1 := (A0.out.ext' Y2.out).cell 1; have p0 := (P1.out.ext' hx).cell 0; have p1 := (P1.out.ext' hx).cell 1
 simp only [List.getElem?_cons_zero, List.getElem?_cons_succ] at a1 p0 p1
 clear ho hx a0 HI
 go_wp2_with fail
 refine (HH.out w2 Y2.out).mono ?_
 rintro e w3 ⟨r2, l2, rfl, hn2, ho2, _, _, _, hx⟩
 obtain rfl : l2 = [] := List.eq_nil_of_length_eq_zero hn2
 obtain ⟨ro2, rc2, rfl⟩ := own_slice ho2
 have Y3 := Lib.hid (Ext.trans Y2.out hx)
 have a0 := (A0.out.ext' Y3.out).cell 0; have a1 := (A0.out.ext' Y3.out).cell 1
 simp only [List.getElem?_cons_zero, List.getElem?_cons_succ] at a0 a1
 clear hn2 ho2 hx HH p0 p1
 simp only [List.length_nil]
 go_wp2_with fail
 refine rounds_step (fun K hK => ?_)
 go_wp2_with fail
 refine (HM.out w3 Y3.out).mono ?_
 rintro e w4 ⟨rfl, rfl⟩
 go_wp2_with fail
 refine (HN.out w3 Y3.out).mono ?_
 rintro e w4 ⟨rfl, rfl⟩
 go_wp2_with fail
 go_ret
 exact ⟨rfl, Ext.trans X0.out Y3.out⟩
structure TrO (w : World) (tb rb hb pb : Nat) (c : Option Nat) : Prop where
 bt : Blk w tb [.pointer (some ⟨rb, 0, none⟩), .pointer (some ⟨hb, 0, none⟩), .pointer (some ⟨pb, 0, none⟩), .slice none 0 0, .int .i64 0, .pointer (c.map fun b => ⟨b, 0, none⟩), .bool true] 86
 rt : RTab w rb (.slice none 0 0) []
 ht : TabN (fun _ => True) w hb (.slice none 0 0) []
 pt : PTab w pb (List.replicate 8 0)
theorem TrO.but {w w' : World} {tb rb hb pb : Nat} {c : Option Nat} {S : Nat → Prop} (h : TrO w tb rb hb pb c) (hx : But S w w') (h1 : ¬ S tb) (h2 : ¬ S rb) (h3 : ¬ S hb) (h4 : ¬ S pb) : TrO w' tb rb hb pb c :=
 ⟨h.bt.but hx h1, h.rt.but hx h2 (by simp [Value.ownBlock]), h.ht.but' hx h3 (by simp [Value.ownBlock]) (fun _ _ _ => trivial), h.pt.but hx h4⟩
theorem TrO.ext {w w' : World} {tb rb hb pb : Nat} {c : Option Nat} (h : TrO w tb rb hb pb c) (hx : Ext w w') : TrO w' tb rb hb pb c := h.but (Ext.but hx (fun _ => False)) id id id id
theorem TrO.is {w : World} {tb rb hb pb : Nat} (h : TrO w tb rb hb pb none) : TrIs w ⟨tb, rb, hb, pb, .slice none 0 0, .slice none 0 0, .slice none 0 0⟩ ⟨[], [], List.replicate 8 0, [], 0⟩ :=
 ⟨h.bt, h.rt, tab0 h.ht, h.pt, World.ownsRow_nil _ _ _ _, by simp, by simp⟩
structure CgO (B : Nat) (w : World) (cb rb hb pb : Nat) (rv hv : Value) (rs : List RowD) (ns : List Int) (scheme : Int) (lo hi : ByteArray) : Prop where
 bc : Blk w cb [.pointer (some ⟨rb, 0, none⟩), .pointer (some ⟨hb, 0, none⟩), .pointer (some ⟨pb, 0, none⟩), .int .i64 scheme, .string lo, .string hi] 116
 ta : TabsAt B w rb hb pb rv hv rs ns
 cl : B ≤ cb
theorem CgO.but {B : Nat} {w w' : World} {cb rb hb pb : Nat} {rv hv : Value} {rs : List RowD} {ns : List Int} {scheme : Int} {lo hi : ByteArray} {S : Nat → Prop} (h : CgO B w cb rb hb pb rv hv rs ns scheme lo hi) (hx : But S w w') (hS : ∀ b, S b → b < B) : CgO B w' cb rb hb pb rv hv rs ns scheme lo hi :=
 ⟨h.bc.but hx (fun e => absurd (hS _ e) (Nat.not_lt.2 h.cl)), h.ta.but hx hS, h.cl⟩
theorem CgO.base {B B' : Nat} {w : World} {cb rb hb pb : Nat} {rv hv : Value} {rs : List RowD} {ns : List Int} {scheme : Int} {lo hi : ByteArray} (h : CgO B' w cb rb hb pb rv hv rs ns scheme lo hi) (hB : B ≤ B') : CgO B w cb rb hb pb rv hv rs ns scheme lo hi := ⟨h.bc, h.ta.base hB, Nat.le_trans hB h.cl⟩
theorem CgO.ext {B : Nat} {w w' : World} {cb rb hb pb : Nat} {rv hv : Value} {rs : List RowD} {ns : List Int} {scheme : Int} {lo hi : ByteArray} (h : CgO B w cb rb hb pb rv hv rs ns scheme lo hi) (hx : Ext w w') : CgO B w' cb rb hb pb rv hv rs ns scheme lo hi := h.but (Ext.but hx (fun _ => False)) (fun _ e => e.elim)
set_option maxRecDepth 100000 in
set_option maxHeartbeats 3200000 in
theorem room1_calls (B tb rb hb pb cb crb chb cpb : Nat) (crv chv : Value) (rs : List RowD) (ns : List Int) (scheme : Int) (lo hi : ByteArray) (w : World) (T : TrO w tb rb hb pb none) (C : CgO B w cb crb chb cpb crv chv rs ns scheme lo hi) :
 Calls Tryz.prog 56 #[.pointer (some ⟨tb, 0, none⟩), .pointer (some ⟨cb, 0, none⟩), .slice none 0 0] w fun e w' => e = .returned (.bool true) ∧ Ext w w' := by
 obtain ⟨i0, hi, hz0, hz1, hz2⟩ := info_parts infoHold
 have HA := Lib.hid (fun W (hW : Ext w W) => all_calls rb hb pb _ [] W (fun _ => True) (T.ht.ext hW))
 have HC := Lib.hid (fun W (hW : Ext w W) => all_calls crb chb cpb _ [] W (fun _ => True) (C.ta.ht.ext hW))
 have HM := Lib.hid (fun W (hW : Ext w W) => manyR_calls rb _ [] W (T.rt.ext hW))
 have HMC := Lib.hid (fun W (hW : Ext w W) => manyR_calls crb _ rs W (C.ta.rt.ext hW))
 have HHC := Lib.hid (fun W (hW : Ext w W) => manyT_calls chb _ [] W (tab0 (C.ta.ht.ext hW)))
 have HNW := Lib.hid (fun W ao cap (hW : Ext w W) => news_calls rb hb pb _ [] [] ao cap W (T.rt.ext hW) (by simp) (Rows.nil _ _ _ _ _))
 have HNC := Lib.hid (fun W ao cap (hW : Ext w W) => news_calls crb chb cpb _ rs [] ao cap W (C.ta.rt.ext hW) (by simp) (Rows.nil _ _ _ _ _))
 have hfew := C.ta.rt.few
 have BT := Lib.hid T.bt; have BC := Lib.hid C.bc
 have hx : newsN [] ([] : List RowD) = 0 := rfl
 have hy : newsN [] rs = 0 := rfl
 rw [hx] at HNW; rw [hy] at HNC
 simp only [List.length_nil] at HM HHC HNW HNC
 generalize rs.length = L at *
 clear T C hx hy
 have t0 := BT.out.cell 0; have t1 := BT.out.cell 1; have t2 := BT.out.cell 2
 simp only [List.getElem?_cons_zero, List.getElem?_cons_succ] at t0 t1 t2
 go_enter Tryz.func56, Tryz.ntmps56
 go_wp2_with fail
 refine (HA.out w (Below.refl _ _)).mono ?_
 rintro e w1 ⟨r, l', rfl, hn, ho, hj, _, _, hx⟩
 obtain rfl : l' = [] := List.eq_nil_of_length_eq_zero hn
 obtain ⟨ra, rc, rfl⟩ := own_slice ho
 have X1 := Lib.hid hx; have O1 := Lib.hid ho; have J1 := Lib.hid hj
 clear hx ho hj hn t0 t1 t2
 simp only [List.length_nil]
 go_wp2_with (at_builtin; refine wpList_append_rows (enc := encHV) (size := 7) (fun _ => rfl) one_hold rfl (.tmp 14) (.tmp 15) 42 rfl 48 i0 _ _ Tryz.underlying42 hi hz0 hz1 hz2 rfl (by decide) (.slice ra 0 rc) 0 _ rfl O1.out none [] 0 rfl (Rows.nil _ _ _ _ _) (by decide) (by decide) ?_; intro v1 w2 hown1 hbut1 hkept1; obtain ⟨va, vc, rfl⟩ := own_slice hown1; have hx2 : Ext w w2 := ((Ext.but X1.out (fun _ => False)).trans hbut1 (U := fun j => w.heap.size ≤ j) (fun _ _ e => e.elim) (fun j _ e => J1.out j e)).ext (fun j hj e => by omega); have X2 := Lib.hid hx2; clear hown1 hbut1 hkept1 hx2; simp only [List.length_nil, Nat.add_zero])
 have t0 := (BT.out.ext' X2.out).cell 0; have t1 := (BT.out.ext' X2.out).cell 1; have t2 := (BT.out.ext' X2.out).cell 2
 simp only [List.getElem?_cons_zero, List.getElem?_cons_succ] at t0 t1 t2
 have q0 := ExtBy.cell t0; have q1 := ExtBy.cell t1; have q2 := ExtBy.cell t2
 have HC1 : Hid (∀ p : ExtBy w2, Calls Tryz.prog 127 #[.pointer (some ⟨rb, 0, none⟩)] p.W fun e w' => e = .returned (.int .i64 0) ∧ Ext p.W w') := Lib.hid fun p => (HM.out p.W (Ext.trans X2.out p.ext)).mono (by rintro e w' ⟨rfl, rfl⟩; exact ⟨rfl, Below.refl _ _⟩)
 have HC2 : Hid (∀ p : ExtBy w2, Calls Tryz.prog 128 #[.agg #[.pointer (some ⟨rb, 0, none⟩), .pointer (some ⟨hb, 0, none⟩), .pointer (some ⟨pb, 0, none⟩)], .slice va 0 vc] p.W fun e w' => e = .returned (.int .i64 0) ∧ Ext p.W w') := Lib.hid fun p => HNW.out p.W va vc (Ext.trans X2.out p.ext)
 refine wp_region_ext (by kernel_rfl) (by kernel_rfl) ?_
 repeat (go_big_quiet_step (first | (with_reducible exact Calls.ext_of _ (HC1.out _)) | (with_reducible exact Calls.ext_of _ (HC2.out _))))
 refine wpQuiet_nil ?_
 intro w3 hw'
 have hx3 : Ext w2 w3 := by obtain ⟨p, rfl⟩ := hw'; exact p.ext
 have X3 := Lib.hid (Ext.trans X2.out hx3)
 clear hx3 hw' q0 q1 q2 HC1 HC2 t0 t1 t2 HM HNW HA
 have k0 := (BC.out.ext' X3.out).cell 0; have k1 := (BC.out.ext' X3.out).cell 1; have k2 := (BC.out.ext' X3.out).cell 2
 simp only [List.getElem?_cons_zero, List.getElem?_cons_succ] at k0 k1 k2
 have hL : decide ((L : Int) ≤ 400) = true := by simp; omega
 have Z1 := Lib.hid (Ext.trans X3.out (Below.refl _ w3).drew)
 have CC : Hid (∀ W, Ext w W → W.cell? ⟨cb, 0, none⟩ = some (.pointer (some ⟨crb, 0, none⟩)) ∧ W.cell? ⟨cb, 1, none⟩ = some (.pointer (some ⟨chb, 0, none⟩)) ∧ W.cell? ⟨cb, 2, none⟩ = some (.pointer (some ⟨cpb, 0, none⟩))) := Lib.hid (fun W hW => by
  have b := BC.out.ext' hW
  exact ⟨b.cell 0, b.cell 1, b.cell 2⟩)
 go_upto_region 4 with fail
 have q0 := fun p : ExtBy w3 => (CC.out p.W (Ext.trans X3.out p.ext)).1
 have q1 := fun p : ExtBy w3 => (CC.out p.W (Ext.trans X3.out p.ext)).2.1
 have q2 := fun p : ExtBy w3 => (CC.out p.W (Ext.trans X3.out p.ext)).2.2
 refine wp_region_firstC (fun W => ∃ p : ExtBy w3, W = p.W) [0, 1, 2, 3, 4, 5, 7, 8, 9, 10, 11, 12, 13, 14] 6 (by kernel_rfl) (by kernel_rfl) (fun _ _ _ _ h => h) ⟨⟨w3.drew, (Below.refl _ w3).drew⟩, rfl⟩ ?_
 simp only [opsAt, List.getElem?_toArray, List.getElem?_cons_succ, List.getElem?_cons_zero]
 repeat (go_big_quiet_step (fail))
 refine wpQuiet_nil ?_
 clear q0 q1 q2
 have D3 := Lib.hid (Below.refl w3.heap.size w3).drew
 refine wpAnyH_ready (rs := [6]) (by kernel_rfl) (by simp) ?_
 refine AllReadyH.cons rfl (fun K hK => ?_) AllReadyH.nil
 go_simp
 refine (HMC.out _ Z1.out).mono ?_
 rintro e wm ⟨rfl, rfl⟩
 refine hK.out _ _ ⟨⟨_, D3.out⟩, rfl⟩ (fun _ => ?_)
 clear hK K
 refine wpAnyH_ready (rs := [15]) (by kernel_rfl) (by simp) ?_
 refine AllReadyH.cons rfl (fun K hK => ?_) AllReadyH.nil
 go_simp
 refine (HC.out _ Z1.out).mono ?_
 rintro e w4 ⟨r4, l4, rfl, hn4, ho4, _, _, _, hx4⟩
 obtain rfl : l4 = [] := List.eq_nil_of_length_eq_zero hn4
 obtain ⟨ra4, rc4, rfl⟩ := own_slice ho4
 have Z2 := Lib.hid (Ext.trans Z1.out hx4); have D4 := Lib.hid (Ext.trans D3.out hx4)
 clear hn4 ho4 hx4
 simp only [List.length_nil]
 refine hK.out _ _ ⟨⟨_, D4.out⟩, rfl⟩ (fun _ => ?_)
 clear hK K
 refine wpAnyH_ready (rs := [16]) (by kernel_rfl) (by simp) ?_
 refine AllReadyH.cons rfl (fun K hK => ?_) AllReadyH.nil
 go_simp
 refine (HNC.out _ ra4 rc4 Z2.out).mono ?_
 rintro e w5 ⟨rfl, hx5⟩
 have Z3 := Lib.hid (Ext.trans Z2.out hx5); have D5 := Lib.hid (Ext.trans D4.out hx5)
 have k1 := (CC.out _ Z3.out).2.1
 clear hx5
 refine hK.out _ _ ⟨⟨_, D5.out⟩, rfl⟩ (fun _ => ?_)
 clear hK K
 refine wp_takesC (f := 0) [17, 18, 19] (by kernel_rfl) (fun _ _ _ _ h => h) ⟨⟨_, D5.out⟩, rfl⟩ ?_
 simp only [opsAt, List.getElem?_toArray, List.getElem?_cons_succ, List.getElem?_cons_zero]
 repeat (go_big_quiet_step (fail))
 refine wpQuiet_nil ?_
 refine wpAnyH_done (by kernel_rfl) ?_ _
 go_wp2_with fail
 refine (HHC.out _ Z3.out).mono ?_
 rintro e w6 ⟨rfl, rfl⟩
 go_wp2_with fail
 go_ret
 exact ⟨rfl, Z3.out⟩
end Go.Proofs.YtmpmggejhnmakaaGreatDoor
/- meets, at a tract of no stretch. -/
namespace Go.Proofs.YtmpmggejhnmakaaGreatDoor
open Go.RowKit
set_option maxRecDepth 100000 in
theorem meets0_calls (k : TrK) (d : TrD) (lo hi : ByteArray) (w : World) (T : TrIs w k d) (hp : d.parts = []) :
 Calls Tryz.prog 55 #[.pointer (some ⟨k.tb, 0, none⟩), .agg #[.string lo, .string hi]] w fun e w' => e = .returned (.bool false) ∧ Ext w w' := by
 obtain ⟨w1, hw1⟩ : ∃ w1, w1 = w.alloc (.cells #[.string lo, .string hi] 30) := ⟨_, rfl⟩
 have hx1 : Ext w w1 := by rw [hw1]; exact (Below.refl _ w).alloc (Nat.le_refl _) _
 obtain ⟨ao, cap, _, _, c3⟩ := (T.ext hx1).slice
 rw [hp] at c3
 simp only [List.length_nil] at c3
 have HC := Lib.hid (containsStz_calls 125 #[.pointer (some ⟨w.heap.size, 0, none⟩)] (enters_of Tryz.func125 (by kernel_rfl) rfl) (fun _ => false) [] ao cap w1 (by simp) (Rows.nil _ _ _ _ _) (fun W _ x hx => by simp at hx))
 have W1 := Lib.hid hw1; have X1 := Lib.hid hx1
 clear T hx1 hw1
 go_enter Tryz.func55, Tryz.ntmps55
 go_upto_region 1 with fail
 rw [← W1.out]
 clear W1
 go_wp2_with fail
 refine HC.out.mono ?_
 rintro e w2 ⟨rfl, hx⟩
 have X2 := Lib.hid (Ext.trans X1.out hx); clear hx
 go_wp2_with fail
 go_ret
 exact ⟨rfl, X2.out⟩
end Go.Proofs.YtmpmggejhnmakaaGreatDoor
/- tract: load, Absorb at a tract of nothing. -/
namespace Go.Proofs.YtmpmggejhnmakaaGreatDoor
open Go.RowKit
set_option maxRecDepth 100000 in
set_option maxHeartbeats 3200000 in
theorem load1_calls (l : List UInt8) (ao : Option Addr) (cap : Nat) (rs : List RowD) (ns : List Int) (scheme : Int) (lo hi : ByteArray) (w : World) (hll : l.length ≤ 140000000000000) (hr : Rows 1 encU8 w.heap.size w ao l) (hg : GoodB ⟨false, l⟩ rs ns ⟨false, []⟩) (hin : (inR lo.data.toList hi.data.toList (putAllR rs [])).length = (putAllR rs []).length) (hl : lo.size ≤ 140737488351232) (hh : hi.size ≤ 140737488351232) :
 Calls Tryz.prog 54 #[.int .i64 scheme, .agg #[.string lo, .string hi], .slice ao l.length cap] w fun e w' => ∃ cb rb hb pb rv hv, e = .returned (.tuple #[.pointer (some ⟨cb, 0, none⟩), .bool true]) ∧ CgO w.heap.size w' cb rb hb pb rv hv (putAllR rs []) ns scheme lo hi ∧ Ext w w' := by
 obtain ⟨w0, hw0⟩ : ∃ w0, w0 = w.alloc (.cells #[.string lo, .string hi] 30) := ⟨_, rfl⟩
 have hx0 : Ext w w0 := by rw [hw0]; exact (Below.refl _ w).alloc (Nat.le_refl _) _
 have ha0 : Blk w0 w.heap.size [.string lo, .string hi] 30 := by rw [hw0]; exact Blk.new w _ _
 have NR := Lib.hid (newReader_calls l ao cap w0 hll ((hr.ext hx0).mono hx0.size))
 have W0 := Lib.hid hw0; have X0 := Lib.hid hx0; have A0 := Lib.hid ha0; have HG := Lib.hid hg; have HIN := Lib.hid hin
 clear hw0 hx0 ha0 hg hin hr
 go_enter Tryz.func54, Tryz.ntmps54
 go_upto_region 1 with fail
 rw [← W0.out]
 clear W0
 generalize hN : w.heap.size = N at *
 have HN := Lib.hid hN; clear hN
 go_wp2_with fail
 refine NR.out.mono ?_
 rintro e w1 ⟨qb, ro, rc, rfl, hql, hT, hx1⟩
 have TR := Lib.hid (tabRead_calls w1.heap.size qb rc ro ⟨false, l⟩ _ rs ns w1 hT (Nat.le_refl _) HG.out)
 have X1 := Lib.hid (Ext.trans X0.out hx1); have A1 := Lib.hid (A0.out.ext' hx1)
 clear hT hx1 NR
 go_wp2_with fail
 refine TR.out.mono ?_
 rintro e w2 ⟨⟨rb, hb, pb, rv, hv, rfl, hta⟩, ⟨ao2, cap2, h1⟩, h2⟩
 have hqN : N < qb := by have := X0.out.size; have := A0.out.lt; omega
 have hX2 : Ext w w2 := ((Ext.but X1.out (fun _ => False)).trans h2 (U := fun j => N ≤ j) (fun _ _ e => e.elim) (fun _ _ e => by omega)).ext (fun j hj e => by have := HN.out; omega)
 have hA2 := A1.out.but h2 (by omega)
 obtain ⟨w3, hw3⟩ : ∃ w3, w3 = w2.alloc (.cells #[.pointer (some ⟨rb, 0, none⟩), .pointer (some ⟨hb, 0, none⟩), .pointer (some ⟨pb, 0, none⟩)] 82) := ⟨_, rfl⟩
 have hx3 : Ext w2 w3 := by rw [hw3]; exact (Below.refl _ w2).alloc (Nat.le_refl _) _
 have hb3 : Blk w3 w2.heap.size [.pointer (some ⟨rb, 0, none⟩), .pointer (some ⟨hb, 0, none⟩), .pointer (some ⟨pb, 0, none⟩)] 82 := by rw [hw3]; exact Blk.new w2 _ _
 have W3 := Lib.hid hw3; have X3 := Lib.hid (Ext.trans hX2 hx3); have A3 := Lib.hid (hA2.ext' hx3); have B3 := Lib.hid hb3; have T3 := Lib.hid (h1.ext hx3); have TA3 := Lib.hid (hta.ext hx3)
 have HL1 := Lib.hid X1.out.size
 clear hw3 hx3 hb3 hX2 hA2 h1 h2 hta TR
 go_upto_region 3 with fail
 rw [← W3.out]
 clear W3
 generalize w2.heap.size = M at *
 have hE : endE ⟨false, []⟩ = 0 := by simp [endE]
 have a0 := A3.out.cell 0; have a1 := A3.out.cell 1; have b0 := B3.out.cell 0; have b1 := B3.out.cell 1; have b2 := B3.out.cell 2
 simp only [List.getElem?_cons_zero, List.getElem?_cons_succ] at a0 a1 b0 b1 b2
 go_wp2_with fail
 refine (end_read _ qb cap2 ao2 _ w3 T3.out).mono ?_
 rintro e w4 ⟨rfl, rfl⟩
 have hxa : Ext w3 (w3.alloc (.cells #[.string lo, .string hi] 30)) := (Below.refl _ w3).alloc (Nat.le_refl _) _
 have WI := Lib.hid (within1_calls _ w3.heap.size 1 rb hb pb rv hv _ ns lo hi (w3.alloc (.cells #[.string lo, .string hi] 30)) (TA3.out.ext hxa) (Blk.new w3 [.string lo, .string hi] 30) HIN.out hl hh)
 have XA := Lib.hid hxa
 clear hxa
 go_wp2_with fail
 refine WI.out.mono ?_
 rintro e w5 ⟨rfl, hx5⟩
 have hX5 := Ext.trans XA.out hx5
 have a0 := (A3.out.ext' hX5).cell 0; have a1 := (A3.out.ext' hX5).cell 1; have b0 := (B3.out.ext' hX5).cell 0; have b1 := (B3.out.ext' hX5).cell 1; have b2 := (B3.out.ext' hX5).cell 2
 simp only [List.getElem?_cons_zero, List.getElem?_cons_succ] at a0 a1 b0 b1 b2
 have X5 := Lib.hid (Ext.trans X3.out hX5); have TA5 := Lib.hid (TA3.out.ext hX5)
 clear hx5 hX5 WI
 go_wp2_with fail
 go_ret2
 have hx6 : Ext w5 (w5.alloc (.cells #[.pointer (some ⟨rb, 0, none⟩), .pointer (some ⟨hb, 0, none⟩), .pointer (some ⟨pb, 0, none⟩), .int .i64 scheme, .string lo, .string hi] 116)) := (Below.refl _ w5).alloc (Nat.le_refl _) _
 have h5 := TA5.out.ext hx6
 have hNL : N ≤ w1.heap.size := by have := HN.out; have := HL1.out; omega
 rw [HN.out]
 exact ⟨w5.heap.size, rb, hb, pb, rv, hv, rfl, ⟨Blk.new w5 [.pointer (some ⟨rb, 0, none⟩), .pointer (some ⟨hb, 0, none⟩), .pointer (some ⟨pb, 0, none⟩), .int .i64 scheme, .string lo, .string hi] 116, h5.base hNL, by have := X5.out.size; have := HN.out; omega⟩, Ext.trans X5.out hx6⟩
set_option maxRecDepth 100000 in
set_option maxHeartbeats 3200000 in
theorem absorb1_calls (tb rb hb pb : Nat) (l : List UInt8) (ao : Option Addr) (cap : Nat) (rs : List RowD) (ns : List Int) (scheme : Int) (lo hi : ByteArray) (w : World) (T : TrO w tb rb hb pb none) (hll : l.length ≤ 140000000000000) (hr : Rows 1 encU8 w.heap.size w ao l) (hg : GoodB ⟨false, l⟩ rs ns ⟨false, []⟩) (hin : (inR lo.data.toList hi.data.toList (putAllR rs [])).length = (putAllR rs []).length) (hl : lo.size ≤ 140737488351232) (hh : hi.size ≤ 140737488351232) (hsp : spanB lo.data.toList hi.data.toList = true) (hbd : beforeD scheme true 0 = (0, true)) :
 Calls Tryz.prog 19 #[.pointer (some ⟨tb, 0, none⟩), .int .i64 scheme, .agg #[.string lo, .string hi], .slice ao l.length cap] w fun e w' => ∃ cb crb chb cpb crv chv, e = .returned (.int .i64 0) ∧ TrO w' tb rb hb pb (some cb) ∧ CgO w.heap.size w' cb crb chb cpb crv chv (putAllR rs []) ns scheme lo hi ∧ But (fun j => j = tb) w w' := by
 obtain ⟨w0, hw0⟩ : ∃ w0, w0 = w.alloc (.cells #[.string lo, .string hi] 30) := ⟨_, rfl⟩
 have hx0 : Ext w w0 := by rw [hw0]; exact (Below.refl _ w).alloc (Nat.le_refl _) _
 have ha0 : Blk w0 w.heap.size [.string lo, .string hi] 30 := by rw [hw0]; exact Blk.new w _ _
 have HBF := Lib.hid (fun W (hW : Ext w W) => by
  have b := T.bt.ext' hW
  have c4 := b.cell 4; have c6 := b.cell 6
  simp only [List.getElem?_cons_zero, List.getElem?_cons_succ] at c4 c6
  have := before_calls tb scheme 0 true W c4 c6
  rwa [hbd] at this)
 have HSP := Lib.hid (fun W => spanRight_calls lo hi W hl hh)
 rw [hsp] at HSP
 have HLD := Lib.hid (fun W (hW : Ext w W) => load1_calls l ao cap rs ns scheme lo hi W hll ((hr.ext hW).mono hW.size) hg hin hl hh)
 have W0 := Lib.hid hw0; have X0 := Lib.hid hx0; have A0 := Lib.hid ha0; have HT := Lib.hid T
 clear hw0 hx0 ha0 hg hin hr T hsp hbd
 go_enter Tryz.func19, Tryz.ntmps19
 go_upto_region 1 with fail
 rw [← W0.out]
 clear W0
 generalize hN : w.heap.size = N at *
 have HN := Lib.hid hN; clear hN
 have a0 := A0.out.cell 0; have a1 := A0.out.cell 1
 simp only [List.getElem?_cons_zero, List.getElem?_cons_succ] at a0 a1
 go_wp2_with fail
 refine (HSP.out w0).mono ?_
 rintro e w1 ⟨rfl, hx⟩
 have Y1 := Lib.hid hx; clear hx
 go_wp2_with fail
 refine (HBF.out w1 (Ext.trans X0.out Y1.out)).mono ?_
 rintro e w2 ⟨rfl, hx⟩
 have Y2 := Lib.hid (Ext.trans Y1.out hx)
 have X2 := Lib.hid (Ext.trans X0.out Y2.out)
 have a0 := (A0.out.ext' Y2.out).cell 0; have a1 := (A0.out.ext' Y2.out).cell 1; have t5 := (HT.out.ext X2.out).bt.cell 5
 simp only [List.getElem?_cons_zero, List.getElem?_cons_succ, Option.map_none] at a0 a1 t5
 clear hx HSP HBF Y1
 go_wp2_with fail
 refine (HLD.out w2 X2.out).mono ?_
 rintro e w3 ⟨cb, crb, chb, cpb, crv, chv, rfl, hC, hx⟩
 have Y3 := Lib.hid (Ext.trans Y2.out hx)
 have T3 := Lib.hid (HT.out.ext (Ext.trans X2.out hx)); have Z3 := Lib.hid (Ext.trans X2.out hx)
 have C3 := Lib.hid (hC.base (show N ≤ w2.heap.size by have := X2.out.size; have := HN.out; omega))
 have a0 := (A0.out.ext' Y3.out).cell 0; have a1 := (A0.out.ext' Y3.out).cell 1
 simp only [List.getElem?_cons_zero, List.getElem?_cons_succ] at a0 a1
 clear hC hx t5 HLD
 go_wp2_with fail
 refine (meets0_calls _ _ lo hi w3 T3.out.is rfl).mono ?_
 rintro e w4 ⟨rfl, hx⟩
 have T4 := Lib.hid (T3.out.ext hx); have C4 := Lib.hid (C3.out.ext hx); have Z4 := Lib.hid (Ext.trans Z3.out hx)
 clear hx a0 a1
 go_wp2_with fail
 refine (room1_calls N tb rb hb pb cb crb chb cpb crv chv _ ns scheme lo hi w4 T4.out C4.out).mono ?_
 rintro e w5 ⟨rfl, hx⟩
 have T5 := Lib.hid (T4.out.ext hx); have C5 := Lib.hid (C4.out.ext hx); have Z5 := Lib.hid (Ext.trans Z4.out hx)
 have f5 := T5.out.bt.free 5; have t5 := T5.out.bt.cell 5
 simp only [List.getElem?_cons_zero, List.getElem?_cons_succ, Option.map_none] at t5
 have hlt := HT.out.bt.lt
 clear hx
 go_wp2_with fail
 go_ret
 rw [HN.out]
 have hset := But.set1 w5 tb 5 (.pointer (some ⟨cb, 0, none⟩))
 exact ⟨cb, crb, chb, cpb, crv, chv, rfl, ⟨T5.out.bt.set 5 _, T5.out.rt.but hset (blk_ne T5.out.rt.blk T5.out.bt (by decide)) (by simp [Value.ownBlock]), T5.out.ht.but' hset (blk_ne T5.out.ht.blk T5.out.bt (by decide)) (by simp [Value.ownBlock]) (fun _ _ _ => trivial), T5.out.pt.but hset (blk_ne T5.out.pt.blk T5.out.bt (by decide))⟩, C5.out.but hset (fun b e => by subst e; have := HN.out; omega), (Ext.but Z5.out (fun _ => False)).trans hset (fun _ _ e => e.elim) (fun _ _ e => e)⟩
end Go.Proofs.YtmpmggejhnmakaaGreatDoor
