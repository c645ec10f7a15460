/- The document's Bytes, walked. -/
import Derived.Test.YtdmejbjpbjcfbaaGreatDoorRefBytes0
import Derived.Deep.DeepMust
import Derived.Deep.CutRange
import Derived.Deep.DeepCutAuto
namespace Go.Proofs.YtdmejbjpbjcfbaaGreatDoor
open Go.RowKit

theorem piece_bothE (b : Bool) (t : ByteArray) (pb : List UInt8) (hpb : pb = flagB b ++ rowB t.data.toList) (g g' : Nat) (w : World) (hb : Blk w g [.bool b] 4) (hc : Blk w g' [.string t] 9) (ht : t.size ≤ 1000000000) :
    Calls Tryz.prog 68 #[.slice none 0 0, .slice (some ⟨g, 0, none⟩) 1 1, .slice (some ⟨g', 0, none⟩) 1 1, .slice none 0 0] w (Piece pb false w) := by
  rw [hpb]; exact piece_both b t g g' w hb hc ht
set_option maxRecDepth 100000 in
set_option maxHeartbeats 12800000 in
theorem refBytes_calls (ls : List HoldV) (ds : List HoldD) (no : Nat → Prop) (ao : Option Addr) (cap : Nat) (w : World) (hl : ls.length ≤ 10000) (hr : Rows 7 encHV w.heap.size w ao ls) (hd : HoldsAre w no ls ds) (hfit : ∀ d ∈ ds, d.wfit) :
    Calls Tryz.prog 23 #[.slice ao ls.length cap] w fun e w' => ∃ bo bc, e = .returned (.tuple #[.slice bo (writeR ds).length bc, .bool (!ds.any holdBad)]) ∧ NRows 1 encU8 (fun b => b < w.heap.size) w' bo (writeR ds) ∧ Ext w w' := by
  obtain ⟨i0, hi, hz0, hz1, hz2⟩ := info_parts infoU8
  have I0 := Lib.hid hi; have HR := Lib.hid hr; have HD := Lib.hid hd; have HF := Lib.hid hfit
  have HDL := Lib.hid hd.len
  clear hi hr hd hfit
  go_enter Tryz.func23, Tryz.ntmps23
  go_wp2_with fail
  have hp := rw_num1 (ls.length : Int) w.heap.size _ (Blk.new w [.int .i64 (ls.length : Int)] _)
  rw [okN_nat ls.length (by omega)] at hp
  refine hp.mono ?_
  rintro e w1 ⟨⟨v1, rfl, hown, hnew⟩, hx⟩
  have hx0 : Ext w (w.alloc (.cells #[.int .i64 (ls.length : Int)] 3)) := (Below.refl _ w).alloc (Nat.le_refl _) _
  have G1 : Hid (Grow w v1 (numZ (ls.length : Int)) w1) := Lib.hid ⟨hown, fun j hj => Nat.le_trans hx0.size (hnew j hj), hx0.trans hx⟩
  clear hp hown hnew hx hx0
  go_wp2_with fail
  try simp only [errZ_f]
  go_loopw [4, 6, 7] (fun v vg vi wr => ∃ k : Nat, vi = .int .i64 k ∧ k ≤ ls.length ∧ vg = .bool (!(ds.take k).any holdBad) ∧ Grow w v (numZ (ds.length : Int) ++ (ds.take k).flatMap holdR) wr) (fun _ _ vi _ => ls.length - (intOf vi).toNat)
  case atStart =>
    refine ⟨0, rfl, by omega, rfl, ?_⟩
    have := G1.out
    rw [HDL.out] at this
    simpa using this
  case round =>
    obtain ⟨k, rfl, hk, rfl, hG⟩ := hrel
    obtain ⟨v, hv⟩ : ∃ v, v = u4 := ⟨_, rfl⟩
    clear G1
    by_cases hlt : k < ls.length
    · obtain ⟨x, hx⟩ : ∃ x, ls[k]? = some x := ⟨_, List.getElem?_eq_getElem hlt⟩
      obtain ⟨d, hdk, hxd⟩ := HD.out.at k x hx
      have hfd := HF.out d (List.mem_of_getElem? hdk)
      obtain ⟨b, off, rfl, hb, hcell⟩ := (HR.out.ext hG.ext) (by intro e; rw [e] at hlt; simp at hlt)
      have hcx := hcell k x hx
      obtain ⟨kx, cl, nm, xo, xn, xc, yo, yn, yc, put, value⟩ := x
      have ean : xn = d.acts.length := hxd.an
      have ern : yn = d.reads.length := hxd.rn
      subst ean ern
      have d0 := hcx 0 _ rfl; have d1 := hcx 1 _ rfl; have d2 := hcx 2 _ rfl; have d3 := hcx 3 _ rfl; have d4 := hcx 4 _ rfl; have d5 := hcx 5 _ rfl; have d6 := hcx 6 _ rfl
      simp only [Nat.add_zero] at d0
      have ii0 : (0 : Int) ≤ (k : Int) := by omega
      have i1 : (k : Int) < (ls.length : Int) := by omega
      have hlk := flat_len holdR 2100000000 (ds.take k) (fun d hd => holdR_len d (HF.out d (List.mem_of_mem_take hd)))
      rw [List.length_take] at hlk
      have hn9 := numZ_len (ds.length : Int)
      obtain ⟨gd, hgd⟩ : ∃ gd, gd = !(ds.take k).any holdBad := ⟨_, rfl⟩
      obtain ⟨bk, hbk⟩ : ∃ bk, bk = numZ (ds.length : Int) ++ (ds.take k).flatMap holdR := ⟨_, rfl⟩
      have hbl : bk.length ≤ 30000000000000 := by
        have hdl := HDL.out
        rw [hbk]; simp only [List.length_append]; omega
      have hks : kx.size ≤ 100000 := by have e : kx = d.key := hxd.key; rw [e]; exact hfd.ks
      have hvs : value.size ≤ 100000 := by have e : value = d.value := hxd.value; rw [e]; exact hfd.vs
      have hkl := rowB_len kx.data.toList (by rw [size_data]; exact hks)
      rw [← hbk] at hG
      rw [← hgd]
      have hheadE : rowB kx.data.toList ++ refBytes [cl, nm, (d.acts.length : Int)] [] [] = headR d := by
        have e1 : kx = d.key := hxd.key
        have e2 : cl = d.cl := hxd.cl
        have e3 : nm = d.nm := hxd.nm
        rw [e1, e2, e3]; rfl
      have hhl := headR_len d hfd
      rw [← hheadE, List.length_append] at hhl
      have hbz : badsZ [cl, nm, (d.acts.length : Int)] = headBad d := by
        have e2 : cl = d.cl := hxd.cl
        have e3 : nm = d.nm := hxd.nm
        rw [e2, e3]; exact badsZ_head d hfd.an
      have hwS : Ext w wr := hG.ext
      have HGD := Lib.hid hgd; have HBK := Lib.hid hbk; have HHE := Lib.hid hheadE; have HBZ := Lib.hid hbz; have HHL := Lib.hid hhl
      have HXD := Lib.hid hxd; have HFD := Lib.hid hfd; have HDK := Lib.hid hdk; have G2 := Lib.hid hG; have HWS := Lib.hid hwS; have HKL := Lib.hid hkl
      have hi := I0.out
      clear hx hdk hxd hfd hcell hcx hG hgd hbk hlk hn9 hheadE hbz hhl hwS hkl
      go_wp2_with fail
      have hbox := Blk.new wr [.string kx, .int .i64 cl, .int .i64 nm, .slice xo d.acts.length xc, .slice yo d.reads.length yc, .bool put, .string value] 35
      have hxb : Ext wr (wr.alloc (.cells #[.string kx, .int .i64 cl, .int .i64 nm, .slice xo d.acts.length xc, .slice yo d.reads.length yc, .bool put, .string value] 35)) := (Below.refl _ wr).alloc (Nat.le_refl _) _
      have hsz : wr.heap.size + 1 = (wr.alloc (.cells #[.string kx, .int .i64 cl, .int .i64 nm, .slice xo d.acts.length xc, .slice yo d.reads.length yc, .bool put, .string value] 35)).heap.size := by simp
      generalize wr.alloc (.cells #[.string kx, .int .i64 cl, .int .i64 nm, .slice xo d.acts.length xc, .slice yo d.reads.length yc, .bool put, .string value] 35) = w2 at hbox hxb hsz ⊢
      try rw [hsz]
      generalize hNe : wr.heap.size = N at hbox ⊢
      clear hsz
      have HBX := Lib.hid hbox; have X2 := Lib.hid hxb
      clear hbox hxb hNe
      refine (piece_text kx w2.heap.size _ (Blk.new w2 [.string kx] _) (by omega)).mono ?_
      rintro e w3 ⟨ao1, ac1, rfl, hp, hx⟩
      have hx1 : Ext w2 (w2.alloc (.cells #[.string kx] 9)) := (Below.refl _ w2).alloc (Nat.le_refl _) _
      have G3 := Lib.hid (G2.out.ext2 (X2.out.trans (hx1.trans hx)))
      have P1 := Lib.hid (G2.out.waits (X2.out.trans hx1) hp)
      have hb3 := HBX.out.ext' (hx1.trans hx)
      have c1 := hb3.cell 1; have c2 := hb3.cell 2; have c3 := hb3.cell 3
      simp only [List.getElem?_cons_zero, List.getElem?_cons_succ] at c1 c2 c3
      have HB3 := Lib.hid hb3
      clear hp hx hx1 hb3 G2 HBX X2
      go_wp2_with fail
      refine (piece_nums [cl, nm, (d.acts.length : Int)] 3 rfl w3.heap.size _ (Blk.new w3 [.int .i64 cl, .int .i64 nm, .int .i64 (d.acts.length : Int)] _) (by simp)).mono ?_
      rw [HBZ.out]
      rintro e w4 ⟨ao2, ac2, rfl, hp, hx⟩
      have hx1 : Ext w3 (w3.alloc (.cells #[.int .i64 cl, .int .i64 nm, .int .i64 (d.acts.length : Int)] 3)) := (Below.refl _ w3).alloc (Nat.le_refl _) _
      have G4 := Lib.hid (G3.out.ext2 (hx1.trans hx))
      have P14 := Lib.hid (P1.out.ext (hx1.trans hx))
      have P24 := Lib.hid (G3.out.waits hx1 hp)
      have HB4 := Lib.hid (HB3.out.ext' (hx1.trans hx))
      clear hp hx hx1 c1 c2 c3 G3 P1 HB3
      have hhl := HHL.out; have hkl := HKL.out
      go_upto_region 10 with (first
        | (at_builtin; refine wpList_append_rows (enc := encU8) (size := 1) (fun _ => rfl) one_u8 rfl (.tmp 68) (.tmp 69) 46 rfl 5 i0 _ 1 Tryz.underlying46 hi hz0 hz1 hz2 rfl (by decide) u4 (bk).length ((bk).flatMap encU8) rfl G4.out.row ao1 (rowB kx.data.toList) ac1 rfl P14.out.rows (by unfold maxLen; omega) (by omega) ?_; intro v5 w5 hown hbut hkept; have G5 := Lib.hid (G4.out.more (Ext.refl _) hown hbut hkept); have HB5 := Lib.hid (HB4.out.but hbut (own_ne G4.out.row HB4.out (by decide))); have P25 := Lib.hid (P24.out.app hbut hkept); have hl5 : (bk ++ rowB kx.data.toList).length = (bk).length + (rowB kx.data.toList).length := List.length_append; clear hown hbut hkept)
        | (at_builtin; refine wpList_append_rows (enc := encU8) (size := 1) (fun _ => rfl) one_u8 rfl (.tmp 70) (.tmp 71) 46 rfl 5 i0 _ 1 Tryz.underlying46 hi hz0 hz1 hz2 rfl (by decide) v5 (bk ++ rowB kx.data.toList).length ((bk ++ rowB kx.data.toList).flatMap encU8) rfl G5.out.row ao2 (refBytes [cl, nm, (d.acts.length : Int)] [] []) ac2 rfl P25.out.rows (by unfold maxLen; omega) (by omega) ?_; intro v6 w6 hown hbut hkept; have G6 := Lib.hid (G5.out.more (Ext.refl _) hown hbut hkept); have HB6 := Lib.hid (HB5.out.but hbut (own_ne G5.out.row HB5.out (by decide))); have hl6 : (bk ++ rowB kx.data.toList ++ refBytes [cl, nm, (d.acts.length : Int)] [] []).length = (bk ++ rowB kx.data.toList).length + (refBytes [cl, nm, (d.acts.length : Int)] [] []).length := List.length_append; clear hown hbut hkept))
      clear G4 P14 P24 HB4 G5 P25 HB5 hhl hkl hl5 hl6
      have G6' : Hid (Grow w v6 (bk ++ headR d) w6) := Lib.hid (by
        have := G6.out
        rw [List.append_assoc, HHE.out] at this
        exact this)
      clear G6
      generalize hbad : headBad d = bad
      have HBAD := Lib.hid hbad
      clear hbad
      go_cut [6] (fun s wx => s = .bool (gd && !bad) ∧ w6 = wx)
      case first =>
        cases gd <;> cases bad <;> simp only [errZ_f, errZ_t]
        all_goals
          go_wp2_with fail
          go_meet
          exact ⟨rfl, rfl⟩
      case rest =>
        obtain ⟨hs6, rfl⟩ := hcut
        subst hs6
        obtain ⟨gs, hgs⟩ : ∃ gs, gs = (gd && !bad) := ⟨_, rfl⟩
        rw [← hgs]
        have HGS := Lib.hid hgs
        clear hgs
        have c2 := HB6.out.cell 3
        simp only [List.getElem?_cons_zero, List.getElem?_cons_succ] at c2
        go_wp2_with fail
        try simp only [errZ_f]
        go_loopw [4, 6, 13] (fun v vg vj wr => ∃ j : Nat, vj = .int .i64 j ∧ j ≤ d.acts.length ∧ vg = .bool (gs && !(d.acts.take j).any actBad) ∧ Grow w v (bk ++ headR d ++ (d.acts.take j).flatMap actW) wr ∧ Blk wr N [.string kx, .int .i64 cl, .int .i64 nm, .slice xo d.acts.length xc, .slice yo d.reads.length yc, .bool put, .string value] 35) (fun _ _ vj _ => d.acts.length - (intOf vj).toNat)
        case atStart => exact ⟨0, rfl, by omega, by simp, by simpa using G6'.out, HB6.out⟩
        case round =>
          obtain ⟨j, rfl, hj, rfl, hG, hbk⟩ := hrel
          clear G6' HB6 c2
          have hhl := headR_len d HFD.out
          have hfl := flat_len actW 100100 (d.acts.take j) (fun a ha => actW_len a (HFD.out.acts a (List.mem_of_mem_take ha)).1)
          rw [List.length_take] at hfl
          have han := HFD.out.an
          have c2 := hbk.cell 3
          simp only [List.getElem?_cons_zero, List.getElem?_cons_succ] at c2
          by_cases hjl : j < d.acts.length
          · obtain ⟨y, hy⟩ : ∃ y, d.acts[j]? = some y := ⟨_, List.getElem?_eq_getElem hjl⟩
            obtain ⟨ab, aoff, rfl, hab, hano, hacell⟩ := (HXD.out.acts.ext hG.ext) (by intro e; rw [e] at hjl; simp at hjl)
            have hac := hacell j y hy
            have hfa := HFD.out.acts y (List.mem_of_getElem? hy)
            have hty : d.acts.take (j + 1) = d.acts.take j ++ [y] := by rw [List.take_add_one, hy]; rfl
            obtain ⟨kd, key, val, num⟩ := y
            have e0 := hac 0 _ rfl; have e1 := hac 1 _ rfl; have e2 := hac 2 _ rfl; have e3 := hac 3 _ rfl
            simp only [Nat.add_zero] at e0
            obtain ⟨hva, hk0, hk255⟩ := hfa
            simp only at hva hk0 hk255
            have jj0 : (0 : Int) ≤ (j : Int) := by omega
            have jj1 : (j : Int) < (d.acts.length : Int) := by omega
            have hkw : IntKind.i64.wrap kd = kd := wrap64_id _ hk0 (by omega)
            have hko : okN kd = true := by simp [okN]; omega
            obtain ⟨gj, hgj⟩ : ∃ gj, gj = (gs && !(d.acts.take j).any actBad) := ⟨_, rfl⟩
            obtain ⟨b3, hb3⟩ : ∃ b3, b3 = bk ++ headR d ++ (d.acts.take j).flatMap actW := ⟨_, rfl⟩
            have hbl3 : b3.length ≤ 40000000000000 := by rw [hb3]; simp only [List.length_append]; omega
            have hgj2 : (gs && !(d.acts.take (j + 1)).any actBad) = (gj && okN (absZ num)) := by
              rw [hgj, hty, List.any_append, List.any_cons, List.any_nil, actBad]
              simp only [hko]
              cases gs <;> cases (List.take j d.acts).any actBad <;> cases okN (absZ num) <;> rfl
            have hb4 : bk ++ headR d ++ (d.acts.take (j + 1)).flatMap actW = b3 ++ numZ kd ++ rowB val.data.toList ++ flagB (decide (num < 0)) ++ numZ (absZ num) := by
              rw [hb3, hty, List.flatMap_append, List.flatMap_singleton, actW]
              simp only [List.append_assoc]
            rw [← hb3] at hG
            rw [← hgj]
            have n1 := numZ_len kd; have n2 := rowB_len val.data.toList (by rw [size_data]; exact hva); have n3 := flagB_len (decide (num < 0)); have n4 := numZ_len (absZ num)
            have HGJ2 := Lib.hid hgj2; have HB4E := Lib.hid hb4
            have G2 := Lib.hid hG; have HBX := Lib.hid hbk
            have M1 := Lib.hid n1; have M2 := Lib.hid n2; have M3 := Lib.hid n3; have M4 := Lib.hid n4
            clear hy hacell hac hty hfl hhl hgj hb3 hgj2 hb4 hG hbk hko n1 n2 n3 n4
            go_wp2_with fail
            have hbox := Blk.new wr [.int .u8 kd, .string key, .string val, .int .i64 num] 98
            have hxb : Ext wr (wr.alloc (.cells #[.int .u8 kd, .string key, .string val, .int .i64 num] 98)) := (Below.refl _ wr).alloc (Nat.le_refl _) _
            have hsz : wr.heap.size + 1 = (wr.alloc (.cells #[.int .u8 kd, .string key, .string val, .int .i64 num] 98)).heap.size := by simp
            have HBX2 := Lib.hid (HBX.out.ext' hxb)
            generalize wr.alloc (.cells #[.int .u8 kd, .string key, .string val, .int .i64 num] 98) = w2 at hbox hxb hsz HBX2 ⊢
            try rw [hsz]
            generalize hMe : wr.heap.size = M at hbox ⊢
            clear hsz
            have HMX := Lib.hid hbox; have X2 := Lib.hid hxb
            clear hbox hxb hMe HBX c2 e0 e1 e2 e3
            refine (piece_num1 kd w2.heap.size _ (Blk.new w2 [.int .i64 kd] _)).mono ?_
            rintro e w3 ⟨ao1, ac1, rfl, hp, hx⟩
            have hx1 : Ext w2 (w2.alloc (.cells #[.int .i64 kd] 3)) := (Below.refl _ w2).alloc (Nat.le_refl _) _
            have G3 := Lib.hid (G2.out.ext2 (X2.out.trans (hx1.trans hx)))
            have P13 := Lib.hid (G2.out.waits (X2.out.trans hx1) hp)
            have HB3 := Lib.hid (HBX2.out.ext' (hx1.trans hx))
            have hm3 := HMX.out.ext' (hx1.trans hx)
            have e2 := hm3.cell 2
            simp only [List.getElem?_cons_zero, List.getElem?_cons_succ] at e2
            have HM3 := Lib.hid hm3
            clear hp hx hx1 hm3 G2 HBX2 X2 HMX
            go_wp2_with fail
            refine (piece_text val w3.heap.size _ (Blk.new w3 [.string val] _) (by omega)).mono ?_
            rintro e w4 ⟨ao2, ac2, rfl, hp, hx⟩
            have hx1 : Ext w3 (w3.alloc (.cells #[.string val] 9)) := (Below.refl _ w3).alloc (Nat.le_refl _) _
            have G4 := Lib.hid (G3.out.ext2 (hx1.trans hx))
            have P14 := Lib.hid (P13.out.ext (hx1.trans hx)); have P24 := Lib.hid (G3.out.waits hx1 hp)
            have HB4 := Lib.hid (HB3.out.ext' (hx1.trans hx))
            have hm4 := HM3.out.ext' (hx1.trans hx)
            have e3 := hm4.cell 3
            simp only [List.getElem?_cons_zero, List.getElem?_cons_succ] at e3
            have HM4 := Lib.hid hm4
            clear hp hx hx1 hm4 G3 P13 HB3 HM3 e2
            go_wp2_with fail
            refine (piece_flag (decide (num < 0)) w4.heap.size _ (Blk.new w4 [.bool (decide (num < 0))] _)).mono ?_
            rintro e w5 ⟨ao3, ac3, rfl, hp, hx⟩
            have hx1 : Ext w4 (w4.alloc (.cells #[.bool (decide (num < 0))] 4)) := (Below.refl _ w4).alloc (Nat.le_refl _) _
            have G5 := Lib.hid (G4.out.ext2 (hx1.trans hx))
            have P15 := Lib.hid (P14.out.ext (hx1.trans hx)); have P25 := Lib.hid (P24.out.ext (hx1.trans hx)); have P35 := Lib.hid (G4.out.waits hx1 hp)
            have HB5 := Lib.hid (HB4.out.ext' (hx1.trans hx))
            have hm5 := HM4.out.ext' (hx1.trans hx)
            have f3 := hm5.cell 3
            simp only [List.getElem?_cons_zero, List.getElem?_cons_succ] at f3
            clear hp hx hx1 hm5 G4 P14 P24 HB4 HM4 e3
            go_wp2_with fail
            refine (piece_num1 (absZ num) w5.heap.size _ (Blk.new w5 [.int .i64 (absZ num)] _)).mono ?_
            rintro e w6 ⟨ao4, ac4, rfl, hp, hx⟩
            have hx1 : Ext w5 (w5.alloc (.cells #[.int .i64 (absZ num)] 3)) := (Below.refl _ w5).alloc (Nat.le_refl _) _
            have G6 := Lib.hid (G5.out.ext2 (hx1.trans hx))
            have P16 := Lib.hid (P15.out.ext (hx1.trans hx)); have P26 := Lib.hid (P25.out.ext (hx1.trans hx)); have P36 := Lib.hid (P35.out.ext (hx1.trans hx)); have P46 := Lib.hid (G5.out.waits hx1 hp)
            have HB6 := Lib.hid (HB5.out.ext' (hx1.trans hx))
            clear hp hx hx1 G5 P15 P25 P35 HB5 f3
            have n1 := M1.out; have n2 := M2.out; have n3 := M3.out; have n4 := M4.out
            go_upto_region 20 with (first
              | (at_builtin; refine wpList_append_rows (enc := encU8) (size := 1) (fun _ => rfl) one_u8 rfl (.tmp 124) (.tmp 125) 46 rfl 5 i0 _ 1 Tryz.underlying46 hi hz0 hz1 hz2 rfl (by decide) u4 (b3).length ((b3).flatMap encU8) rfl G6.out.row ao1 (numZ kd) ac1 rfl P16.out.rows (by unfold maxLen; omega) (by omega) ?_; intro v7 w7 hown hbut hkept; have G7 := Lib.hid (G6.out.more (Ext.refl _) hown hbut hkept); have HB7 := Lib.hid (HB6.out.but hbut (own_ne G6.out.row HB6.out (by decide))); have P27 := Lib.hid (P26.out.app hbut hkept); have P37 := Lib.hid (P36.out.app hbut hkept); have P47 := Lib.hid (P46.out.app hbut hkept); have hl7 : (b3 ++ numZ kd).length = (b3).length + (numZ kd).length := List.length_append; clear hown hbut hkept)
              | (at_builtin; refine wpList_append_rows (enc := encU8) (size := 1) (fun _ => rfl) one_u8 rfl (.tmp 126) (.tmp 127) 46 rfl 5 i0 _ 1 Tryz.underlying46 hi hz0 hz1 hz2 rfl (by decide) v7 (b3 ++ numZ kd).length ((b3 ++ numZ kd).flatMap encU8) rfl G7.out.row ao2 (rowB val.data.toList) ac2 rfl P27.out.rows (by unfold maxLen; omega) (by omega) ?_; intro v8 w8 hown hbut hkept; have G8 := Lib.hid (G7.out.more (Ext.refl _) hown hbut hkept); have HB8 := Lib.hid (HB7.out.but hbut (own_ne G7.out.row HB7.out (by decide))); have P38 := Lib.hid (P37.out.app hbut hkept); have P48 := Lib.hid (P47.out.app hbut hkept); have hl8 : (b3 ++ numZ kd ++ rowB val.data.toList).length = (b3 ++ numZ kd).length + (rowB val.data.toList).length := List.length_append; clear hown hbut hkept)
              | (at_builtin; refine wpList_append_rows (enc := encU8) (size := 1) (fun _ => rfl) one_u8 rfl (.tmp 128) (.tmp 129) 46 rfl 5 i0 _ 1 Tryz.underlying46 hi hz0 hz1 hz2 rfl (by decide) v8 (b3 ++ numZ kd ++ rowB val.data.toList).length ((b3 ++ numZ kd ++ rowB val.data.toList).flatMap encU8) rfl G8.out.row ao3 (flagB (decide (num < 0))) ac3 rfl P38.out.rows (by unfold maxLen; omega) (by omega) ?_; intro v9 w9 hown hbut hkept; have G9 := Lib.hid (G8.out.more (Ext.refl _) hown hbut hkept); have HB9 := Lib.hid (HB8.out.but hbut (own_ne G8.out.row HB8.out (by decide))); have P49 := Lib.hid (P48.out.app hbut hkept); have hl9 : (b3 ++ numZ kd ++ rowB val.data.toList ++ flagB (decide (num < 0))).length = (b3 ++ numZ kd ++ rowB val.data.toList).length + (flagB (decide (num < 0))).length := List.length_append; clear hown hbut hkept)
              | (at_builtin; refine wpList_append_rows (enc := encU8) (size := 1) (fun _ => rfl) one_u8 rfl (.tmp 130) (.tmp 131) 46 rfl 5 i0 _ 1 Tryz.underlying46 hi hz0 hz1 hz2 rfl (by decide) v9 (b3 ++ numZ kd ++ rowB val.data.toList ++ flagB (decide (num < 0))).length ((b3 ++ numZ kd ++ rowB val.data.toList ++ flagB (decide (num < 0))).flatMap encU8) rfl G9.out.row ao4 (numZ (absZ num)) ac4 rfl P49.out.rows (by unfold maxLen; omega) (by omega) ?_; intro vA wA hown hbut hkept; have GA := Lib.hid (G9.out.more (Ext.refl _) hown hbut hkept); have HBA := Lib.hid (HB9.out.but hbut (own_ne G9.out.row HB9.out (by decide))); have hlA : (b3 ++ numZ kd ++ rowB val.data.toList ++ flagB (decide (num < 0)) ++ numZ (absZ num)).length = (b3 ++ numZ kd ++ rowB val.data.toList ++ flagB (decide (num < 0))).length + (numZ (absZ num)).length := List.length_append; clear hown hbut hkept))
            clear G6 P16 P26 P36 P46 HB6 G7 P27 P37 P47 HB7 G8 P38 P48 HB8 G9 P49 HB9 hl7 hl8 hl9 hlA n1 n2 n3 n4 M1 M2 M3 M4
            generalize okN (absZ num) = oz at *
            have key : gj = false ∨ (gj = true ∧ oz = false) ∨ (gj = true ∧ oz = true) := by cases gj <;> cases oz <;> simp
            rcases key with rfl | ⟨rfl, rfl⟩ | ⟨rfl, rfl⟩
            all_goals
              simp only [Bool.not_true, Bool.not_false, errZ_f, errZ_t]
              go_wp2_with fail
              go_roundw
              case rel => exact ⟨j + 1, by go_num, by omega, by rw [HGJ2.out]; rfl, by rw [HB4E.out]; exact GA.out, HBA.out⟩
              case measure => simp [intOf]; omega
          · obtain rfl : j = d.acts.length := by omega
            rw [List.take_length] at hG hfl
            obtain ⟨gj, hgj⟩ : ∃ gj, gj = (gs && !d.acts.any actBad) := ⟨_, rfl⟩
            obtain ⟨b3, hb3⟩ : ∃ b3, b3 = bk ++ headR d ++ d.acts.flatMap actW := ⟨_, rfl⟩
            have hbl3 : b3.length ≤ 40000000000000 := by rw [hb3]; simp only [List.length_append]; omega
            have htl : d.acts.take d.acts.length = d.acts := List.take_length
            rw [← hb3] at hG
            rw [htl, ← hgj]
            have n1 := numZ_len (d.reads.length : Int)
            have hrn := HFD.out.rn
            have c4 := hbk.cell 4
            simp only [List.getElem?_cons_zero, List.getElem?_cons_succ] at c4
            have HGJ := Lib.hid hgj; have HB3E := Lib.hid hb3; have G2 := Lib.hid hG; have HBX := Lib.hid hbk; have M1 := Lib.hid n1
            clear hgj hb3 htl hG hbk hfl hhl n1
            go_wp2_with fail
            refine (piece_num1 (d.reads.length : Int) wr.heap.size _ (Blk.new wr [.int .i64 (d.reads.length : Int)] _)).mono ?_
            rintro e w3 ⟨ao1, ac1, rfl, hp, hx⟩
            have hx1 : Ext wr (wr.alloc (.cells #[.int .i64 (d.reads.length : Int)] 3)) := (Below.refl _ wr).alloc (Nat.le_refl _) _
            have G3 := Lib.hid (G2.out.ext2 (hx1.trans hx))
            have P13 := Lib.hid (G2.out.waits hx1 hp)
            have HB3 := Lib.hid (HBX.out.ext' (hx1.trans hx))
            clear hp hx hx1 G2 HBX c2 c4
            have n1 := M1.out
            go_wp2_with (at_builtin; refine wpList_append_rows (enc := encU8) (size := 1) (fun _ => rfl) one_u8 rfl (.tmp 146) (.tmp 147) 46 rfl 5 i0 _ 1 Tryz.underlying46 hi hz0 hz1 hz2 rfl (by decide) u4 (b3).length ((b3).flatMap encU8) rfl G3.out.row ao1 (numZ (d.reads.length : Int)) ac1 rfl P13.out.rows (by unfold maxLen; omega) (by omega) ?_; intro v4 w4 hown hbut hkept; have G4 := Lib.hid (G3.out.more (Ext.refl _) hown hbut hkept); have HB4 := Lib.hid (HB3.out.but hbut (own_ne G3.out.row HB3.out (by decide))); have hl4 : (b3 ++ numZ (d.reads.length : Int)).length = (b3).length + (numZ (d.reads.length : Int)).length := List.length_append; clear hown hbut hkept)
            clear G3 P13 HB3
            obtain ⟨b6, hb6⟩ : ∃ b6, b6 = b3 ++ numZ (d.reads.length : Int) := ⟨_, rfl⟩
            have hbl6 : b6.length ≤ 40000000001000 := by rw [hb6, List.length_append]; omega
            have G4' := Lib.hid (show Grow w v4 b6 w4 by rw [hb6]; exact G4.out)
            have HB6E := Lib.hid hb6
            clear hb6 G4 hl4 n1 M1
            try simp only [errZ_f]
            go_loopw [4, 25] (fun v vj wr => ∃ j : Nat, vj = .int .i64 j ∧ j ≤ d.reads.length ∧ Grow w v (b6 ++ (d.reads.take j).flatMap readW) wr ∧ Blk wr N [.string kx, .int .i64 cl, .int .i64 nm, .slice xo d.acts.length xc, .slice yo d.reads.length yc, .bool put, .string value] 35) (fun _ vj _ => d.reads.length - (intOf vj).toNat)
            case atStart => exact ⟨0, rfl, by omega, by simpa using G4'.out, HB4.out⟩
            case round =>
              obtain ⟨j, rfl, hj, hG, hbk⟩ := hrel
              clear G4' HB4
              have hfl := flat_len readW 100100 (d.reads.take j) (fun a ha => readW_len a (HFD.out.reads a (List.mem_of_mem_take ha)))
              rw [List.length_take] at hfl
              have c4 := hbk.cell 4
              simp only [List.getElem?_cons_zero, List.getElem?_cons_succ] at c4
              by_cases hjl : j < d.reads.length
              · obtain ⟨y, hy⟩ : ∃ y, d.reads[j]? = some y := ⟨_, List.getElem?_eq_getElem hjl⟩
                obtain ⟨ab, aoff, rfl, hab, hano, hacell⟩ := (HXD.out.reads.ext hG.ext) (by intro e; rw [e] at hjl; simp at hjl)
                have hac := hacell j y hy
                have hva := HFD.out.reads y (List.mem_of_getElem? hy)
                have hty : d.reads.take (j + 1) = d.reads.take j ++ [y] := by rw [List.take_add_one, hy]; rfl
                obtain ⟨key, is, val⟩ := y
                have e1 := hac 1 _ rfl; have e2 := hac 2 _ rfl
                simp only at hva
                have jj0 : (0 : Int) ≤ (j : Int) := by omega
                have jj1 : (j : Int) < (d.reads.length : Int) := by omega
                obtain ⟨b7, hb7⟩ : ∃ b7, b7 = b6 ++ (d.reads.take j).flatMap readW := ⟨_, rfl⟩
                have hbl7 : b7.length ≤ 50000000000000 := by rw [hb7]; simp only [List.length_append]; omega
                have hb8 : b6 ++ (d.reads.take (j + 1)).flatMap readW = b7 ++ (flagB is ++ rowB val.data.toList) := by
                  rw [hb7, hty, List.flatMap_append, List.flatMap_singleton, readW, ← List.append_assoc]
                rw [← hb7] at hG
                have n2 := rowB_len val.data.toList (by rw [size_data]; exact hva)
                have n3 : (flagB is ++ rowB val.data.toList).length ≤ 100010 := by rw [List.length_append, flagB_len]; omega
                obtain ⟨pb, hpb⟩ : ∃ pb, pb = flagB is ++ rowB val.data.toList := ⟨_, rfl⟩
                rw [← hpb] at hb8 n3
                have HPB := Lib.hid hpb
                clear hpb
                have HB8E := Lib.hid hb8; have G2 := Lib.hid hG; have HBX := Lib.hid hbk; have M3 := Lib.hid n3
                have q4 := ExtBy.cell c4; have k1 := ExtBy.cell e1; have k2 := ExtBy.cell e2
                clear hy hacell hac hty hfl hb7 hb8 hG hbk n2 n3 e1 e2
                go_wp2_with fail
                clear c4
                refine wp_region_first wr [0, 1, 2, 3, 4, 5, 7, 8, 9, 10, 11, 12] 8 (by kernel_rfl) (by kernel_rfl) (fun _ _ _ _ h => h) (Below.refl _ _) ?_
                simp only [opsAt, List.getElem?_toArray, List.getElem?_cons_succ, List.getElem?_cons_zero]
                repeat (go_big_quiet_step (fail))
                refine wpQuiet_nil ?_
                clear q4 k1 k2
                have hpost : ∀ (W w5 : World) (e : Ending), Ext wr W → Piece pb false W e w5 → ∃ ao5 ac5, e = .returned (.tuple #[.slice ao5 pb.length ac5, .int .i64 (errZ false)]) ∧ Waits w5 u4 ao5 pb ∧ Grow w u4 b7 w5 ∧ Blk w5 N [.string kx, .int .i64 cl, .int .i64 nm, .slice xo d.acts.length xc, .slice (some ⟨ab, aoff, none⟩) d.reads.length yc, .bool put, .string value] 35 ∧ Ext wr w5 := by
                  rintro W w5 e hX ⟨ao5, ac5, rfl, hp, hx⟩
                  exact ⟨ao5, ac5, rfl, G2.out.waits hX hp, G2.out.ext2 (hX.trans hx), HBX.out.ext' (hX.trans hx), hX.trans hx⟩
                have HPOST := Lib.hid hpost
                clear hpost
                refine wpAnyH_ready (rs := [6, 13]) (by kernel_rfl) (by simp) ?_
                refine AllReadyH.cons rfl (fun K hK => ?_) (AllReadyH.cons rfl (fun K hK => ?_) AllReadyH.nil)
                · go_simp
                  refine hK.out _ _ ⟨⟨_, (Below.refl _ wr).drew.alloc (Nat.le_refl _) _⟩, rfl⟩ (fun _ => ?_)
                  clear hK K
                  refine wpAnyH_ready (rs := [13]) (by kernel_rfl) (by simp) ?_
                  refine AllReadyH.cons rfl (fun K hK => ?_) AllReadyH.nil
                  go_simp
                  refine hK.out _ _ ⟨⟨_, ((Below.refl _ wr).drew.alloc (Nat.le_refl _) _).alloc (by simp) _⟩, rfl⟩ (fun _ => ?_)
                  clear hK K
                  refine wpAnyH_ready (rs := [14]) (by kernel_rfl) (by simp) ?_
                  refine AllReadyH.cons rfl (fun K hK => ?_) AllReadyH.nil
                  go_simp
                  refine (piece_bothE is val pb HPB.out _ _ _ ((Blk.new wr.drew [.bool is] 4).alloc _) (Blk.new' _ [.string val] 9 _ (by simp)) (by omega)).mono ?_
                  intro e w5 hp5
                  obtain ⟨ao5, ac5, rfl, hP, hG5, hB5, hX5⟩ := HPOST.out _ w5 e (((Below.refl _ wr).drew.alloc (Nat.le_refl _) _).alloc (by simp) _) hp5
                  have P15 := Lib.hid hP; have G5 := Lib.hid hG5; have HB5 := Lib.hid hB5
                  refine hK.out _ _ ⟨⟨_, hX5⟩, rfl⟩ (fun _ => ?_)
                  clear hK K
                  refine wp_takes (f := 0) [15, 16, 17, 18, 19] (by kernel_rfl) (fun _ _ _ _ h => h) ⟨⟨_, hX5⟩, rfl⟩ ?_
                  simp only [opsAt, List.getElem?_toArray, List.getElem?_cons_succ, List.getElem?_cons_zero]
                  repeat (go_big_quiet_step (fail))
                  refine wpQuiet_nil ?_
                  refine wpAnyH_done (by kernel_rfl) ?_ _
                  clear hP hG5 hB5 hX5 hp5 HPOST
                  have n3 := M3.out
                  go_wp2_with (at_builtin; refine wpList_append_rows (enc := encU8) (size := 1) (fun _ => rfl) one_u8 rfl (.tmp 174) (.tmp 175) 46 rfl 5 i0 _ 1 Tryz.underlying46 hi hz0 hz1 hz2 rfl (by decide) u4 (b7).length ((b7).flatMap encU8) rfl G5.out.row ao5 pb ac5 rfl P15.out.rows (by unfold maxLen; omega) (by omega) ?_; intro v6 w6 hown hbut hkept; have G6 := Lib.hid (G5.out.more (Ext.refl _) hown hbut hkept); have HB6 := Lib.hid (HB5.out.but hbut (own_ne G5.out.row HB5.out (by decide))); have hl6 : (b7 ++ pb).length = (b7).length + pb.length := List.length_append; clear hown hbut hkept)
                  go_roundw
                  case rel => exact ⟨j + 1, by go_num, by omega, by rw [HB8E.out]; exact G6.out, HB6.out⟩
                  case measure => simp [intOf]; omega
                · go_simp
                  refine hK.out _ _ ⟨⟨_, (Below.refl _ wr).drew.alloc (Nat.le_refl _) _⟩, rfl⟩ (fun _ => ?_)
                  clear hK K
                  refine wpAnyH_ready (rs := [6]) (by kernel_rfl) (by simp) ?_
                  refine AllReadyH.cons rfl (fun K hK => ?_) AllReadyH.nil
                  go_simp
                  refine hK.out _ _ ⟨⟨_, ((Below.refl _ wr).drew.alloc (Nat.le_refl _) _).alloc (by simp) _⟩, rfl⟩ (fun _ => ?_)
                  clear hK K
                  refine wpAnyH_ready (rs := [14]) (by kernel_rfl) (by simp) ?_
                  refine AllReadyH.cons rfl (fun K hK => ?_) AllReadyH.nil
                  go_simp
                  refine (piece_bothE is val pb HPB.out _ _ _ (Blk.new' _ [.bool is] 4 _ (by simp)) ((Blk.new wr.drew [.string val] 9).alloc _) (by omega)).mono ?_
                  intro e w5 hp5
                  obtain ⟨ao5, ac5, rfl, hP, hG5, hB5, hX5⟩ := HPOST.out _ w5 e (((Below.refl _ wr).drew.alloc (Nat.le_refl _) _).alloc (by simp) _) hp5
                  have P15 := Lib.hid hP; have G5 := Lib.hid hG5; have HB5 := Lib.hid hB5
                  refine hK.out _ _ ⟨⟨_, hX5⟩, rfl⟩ (fun _ => ?_)
                  clear hK K
                  refine wp_takes (f := 0) [15, 16, 17, 18, 19] (by kernel_rfl) (fun _ _ _ _ h => h) ⟨⟨_, hX5⟩, rfl⟩ ?_
                  simp only [opsAt, List.getElem?_toArray, List.getElem?_cons_succ, List.getElem?_cons_zero]
                  repeat (go_big_quiet_step (fail))
                  refine wpQuiet_nil ?_
                  refine wpAnyH_done (by kernel_rfl) ?_ _
                  clear hP hG5 hB5 hX5 hp5 HPOST
                  have n3 := M3.out
                  go_wp2_with (at_builtin; refine wpList_append_rows (enc := encU8) (size := 1) (fun _ => rfl) one_u8 rfl (.tmp 174) (.tmp 175) 46 rfl 5 i0 _ 1 Tryz.underlying46 hi hz0 hz1 hz2 rfl (by decide) u4 (b7).length ((b7).flatMap encU8) rfl G5.out.row ao5 pb ac5 rfl P15.out.rows (by unfold maxLen; omega) (by omega) ?_; intro v6 w6 hown hbut hkept; have G6 := Lib.hid (G5.out.more (Ext.refl _) hown hbut hkept); have HB6 := Lib.hid (HB5.out.but hbut (own_ne G5.out.row HB5.out (by decide))); have hl6 : (b7 ++ pb).length = (b7).length + pb.length := List.length_append; clear hown hbut hkept)
                  go_roundw
                  case rel => exact ⟨j + 1, by go_num, by omega, by rw [HB8E.out]; exact G6.out, HB6.out⟩
                  case measure => simp [intOf]; omega
              · obtain rfl : j = d.reads.length := by omega
                rw [List.take_length] at hG hfl
                obtain ⟨b7, hb7⟩ : ∃ b7, b7 = b6 ++ d.reads.flatMap readW := ⟨_, rfl⟩
                have hbl7 : b7.length ≤ 50000000000000 := by rw [hb7]; simp only [List.length_append]; omega
                rw [← hb7] at hG
                have htk : ds.take (k + 1) = ds.take k ++ [d] := by rw [List.take_add_one, HDK.out]; rfl
                have hgood : gj = !(ds.take (k + 1)).any holdBad := by
                  rw [HGJ.out, HGS.out, HGD.out, htk, List.any_append, List.any_cons, List.any_nil, ← HBAD.out, headBad, holdBad]
                  cases (List.take k ds).any holdBad <;> cases okN d.cl <;> cases okN d.nm <;> cases d.acts.any actBad <;> rfl
                have hb8 : numZ (ds.length : Int) ++ (ds.take (k + 1)).flatMap holdR = b7 ++ (flagB put ++ rowB value.data.toList) := by
                  have e1 : put = d.put := HXD.out.put
                  have e2 : value = d.value := HXD.out.value
                  rw [hb7, HB6E.out, HB3E.out, HBK.out, htk, List.flatMap_append, List.flatMap_singleton, holdR, e1, e2]
                  simp only [List.append_assoc]
                have n2 := rowB_len value.data.toList (by rw [size_data]; exact hvs)
                have n3 : (flagB put ++ rowB value.data.toList).length ≤ 100010 := by rw [List.length_append, flagB_len]; omega
                have hNl := hbk.lt
                have c5 := hbk.cell 5; have c6 := hbk.cell 6
                simp only [List.getElem?_cons_zero, List.getElem?_cons_succ] at c5 c6
                obtain ⟨pb, hpb⟩ : ∃ pb, pb = flagB put ++ rowB value.data.toList := ⟨_, rfl⟩
                rw [← hpb] at hb8 n3
                have HPB := Lib.hid hpb
                clear hpb
                have HB8E := Lib.hid hb8; have HGG := Lib.hid hgood; have G2 := Lib.hid hG; have HBX := Lib.hid hbk; have M3 := Lib.hid n3
                clear hb7 hb8 hgood htk hG hbk hfl n2 n3
                go_wp2_with fail
                refine (piece_bothE put value pb HPB.out wr.heap.size (wr.heap.size + 1) _ ((Blk.new wr [.bool put] 4).alloc _) (Blk.new' _ [.string value] 9 _ (by simp)) (by omega)).mono ?_
                rintro e w5 ⟨ao5, ac5, rfl, hp, hx⟩
                have hx1 : Ext wr ((wr.alloc (.cells #[.bool put] 4)).alloc (.cells #[.string value] 9)) := ((Below.refl _ wr).alloc (Nat.le_refl _) _).alloc (by simp) _
                have G5 := Lib.hid (G2.out.ext2 (hx1.trans hx))
                have P15 := Lib.hid (G2.out.waits hx1 hp)
                clear hp hx hx1 G2 HBX c4 c5 c6
                have n3 := M3.out
                go_wp2_with (at_builtin; refine wpList_append_rows (enc := encU8) (size := 1) (fun _ => rfl) one_u8 rfl (.tmp 187) (.tmp 188) 46 rfl 5 i0 _ 1 Tryz.underlying46 hi hz0 hz1 hz2 rfl (by decide) u4 (b7).length ((b7).flatMap encU8) rfl G5.out.row ao5 pb ac5 rfl P15.out.rows (by unfold maxLen; omega) (by omega) ?_; intro v6 w6 hown hbut hkept; have G6 := Lib.hid (G5.out.more (Ext.refl _) hown hbut hkept); have hl6 : (b7 ++ pb).length = (b7).length + pb.length := List.length_append; clear hown hbut hkept)
                go_roundw
                case rel => exact ⟨k + 1, by go_num, by omega, by rw [HGG.out], by rw [HB8E.out]; exact G6.out⟩
                case measure => simp [intOf]; omega
    · have hkl : k = ls.length := by omega
      have hkd : ds.take k = ds := List.take_of_length_le (by have := HDL.out; omega)
      rw [hkd] at hG
      rw [hkd]
      obtain ⟨bo, bc, rfl⟩ := own_slice hG.row
      have G2 := Lib.hid hG
      clear hG hkd
      go_wp2_with fail
      go_ret2
      exact ⟨bo, bc, rfl, nrows_of_own (fun _ => rfl) G2.out.row (fun j hj e => by have := G2.out.new j hj; omega), G2.out.ext⟩
end Go.Proofs.YtdmejbjpbjcfbaaGreatDoor
