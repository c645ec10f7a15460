/- The document's table of holds: Put. -/
import Derived.Test.YtdmejbjpbjcfbaaGreatDoorRefTabs
import Derived.Test.YtdmejbjpbjcfbaaGreatDoorRefOnes
import Derived.Deep.DeepMust
import Derived.Deep.CutRange
import Derived.Deep.DeepCutAuto
namespace Go.Proofs.YtdmejbjpbjcfbaaGreatDoor
open Go.RowKit
variable {no0 : Nat → Prop}
def RPutPost (no0 : Nat → Prop) (mb : Nat) (v : Value) (ds dl : List HoldD) (w : World) (e : Ending) (w' : World) : Prop :=
  e = .returned (.int .i64 (putE dl ds)) ∧ (∃ v', RTabN no0 w' mb v' (putT dl ds) ∧ (∀ j, v'.ownBlock = some j → v.ownBlock = some j ∨ w.heap.size ≤ j)) ∧ But (fun j => j = mb ∨ v.ownBlock = some j) w w'
theorem RPutPost.same {mb : Nat} {v : Value} {ds dl : List HoldD} {w w' : World} {n : Int} (T : RTabN no0 w mb v ds) (hn : putE dl ds = n) (h0 : n ≠ 0) (hx : Ext w w') : RPutPost no0 mb v ds dl w (.returned (.int .i64 n)) w' := by
  refine ⟨by rw [hn], ⟨v, ?_, fun j hj => .inl hj⟩, hx.but _⟩
  unfold putT
  rw [if_neg (by rw [hn]; exact h0)]
  exact T.ext hx
theorem dup_of {dl : List HoldD} {i k : Nat} {d y : HoldD} (hki : k < i) (hd : dl[i]? = some d) (hy : dl[k]? = some y) (he : dkey y = dkey d) : dupD dl = true := by
  cases h : dupD dl with
  | true => rfl
  | false =>
    have hn := (dupD_iff dl).1 h
    have h1 : (dl.map dkey)[k]? = some (dkey d) := by rw [List.getElem?_map, hy, Option.map_some, he]
    have h2 : (dl.map dkey)[i]? = some (dkey d) := by rw [List.getElem?_map, hd]; rfl
    obtain ⟨a1, b1⟩ := List.getElem?_eq_some_iff.1 h1
    obtain ⟨a2, b2⟩ := List.getElem?_eq_some_iff.1 h2
    have := List.pairwise_iff_getElem.1 hn k i a1 a2 hki
    rw [b1, b2] at this
    exact absurd rfl this
theorem nodup_succ {dl : List HoldD} {i : Nat} {d : HoldD} (hd : dl[i]? = some d) (h1 : ((dl.take i).map dkey).Nodup) (h2 : ∀ y ∈ dl.take i, dkey y ≠ dkey d) : ((dl.take (i + 1)).map dkey).Nodup := by
  rw [List.take_add_one, hd, Option.toList_some, List.map_append, List.nodup_append]
  refine ⟨h1, by simp, fun a ha b hb => ?_⟩
  obtain ⟨y, hy, rfl⟩ := List.mem_map.1 ha
  simp only [List.map_cons, List.map_nil, List.mem_singleton] at hb
  rw [hb]
  exact h2 y hy
theorem rlay_close {w wa wb : World} {hb P M : Nat} {v v' : Value} {ds : List HoldD} {d : HoldD} {l : List HoldV} {x' : HoldV} (T : RTabN no0 w hb v ds) (hare : HoldsAre w (fun b => (b = hb ∨ v.ownBlock = some b) ∨ no0 b) l ds) (hn0 : ∀ b, no0 b → b < w.heap.size) (hP : placeD (dkey d) ds = P)
    (hok : d.ok ∧ holdB d = true) (hnew : hasD (dkey d) ds = false) (hfew : ds.length < 60) (hno : v.ownBlock ≠ some hb) (xa : Ext w wa) (hM : w.heap.size ≤ M) (xi : x'.is wa (fun b => b < M) d)
    (hown : wb.ownsRow 0 35 7 v' (l.length + 1) ((l.take P ++ x' :: l.drop P).flatMap encHV)) (hk : Kept1 wa v v') (hbut : But (fun j => v.ownBlock = some j) wa wb) :
    (RTabN no0 (wb.setCell ⟨hb, 0, none⟩ v') hb v' (insD d ds) ∧ (∀ j, v'.ownBlock = some j → v.ownBlock = some j ∨ w.heap.size ≤ j)) ∧ But (fun j => j = hb ∨ v.ownBlock = some j) w (wb.setCell ⟨hb, 0, none⟩ v') := by
  have hbl := T.blk.lt
  have hsz := xa.size
  have hB : But (fun j => j = hb ∨ v.ownBlock = some j) wa (wb.setCell ⟨hb, 0, none⟩ v') := (hbut.mono fun _ _ e => .inr e).setCell (fun _ => .inl rfl) v'
  have hv' : v'.ownBlock ≠ some hb := by
    intro e
    rcases hk hb e with e | e
    · exact hno e
    · omega
  have hblk : Blk (wb.setCell ⟨hb, 0, none⟩ v') hb [v'] 81 := ((T.blk.ext' xa).but hbut hno).set 0 v'
  have hlen : (l.take P ++ x' :: l.drop P).length = l.length + 1 := by
    have := placeD_le (dkey d) ds
    rw [hP] at this
    have := hare.len
    rw [List.length_append, List.length_cons, List.length_take, List.length_drop]; omega
  have ha : HoldsAre wa (fun b => ((b = hb ∨ v.ownBlock = some b) ∨ no0 b) ∨ v'.ownBlock = some b) (l.take P ++ x' :: l.drop P) (insD d ds) := by
    have h1 : HoldsAre wa (fun b => ((b = hb ∨ v.ownBlock = some b) ∨ no0 b) ∨ v'.ownBlock = some b) l ds := (hare.mono (no' := fun b => ((b = hb ∨ v.ownBlock = some b) ∨ no0 b) ∨ v'.ownBlock = some b) fun b hb' e => by
      rcases e with e | e
      · exact e
      · rcases hk b e with e | e
        · exact .inl (.inr e)
        · omega).ext xa
    have h2 : x'.is wa (fun b => ((b = hb ∨ v.ownBlock = some b) ∨ no0 b) ∨ v'.ownBlock = some b) d := xi.mono fun b hb' e => by
      rcases e with ((e | e) | e) | e
      · omega
      · have := T.lt e; omega
      · have := hn0 b e; omega
      · rcases hk b e with e | e
        · have := T.lt e; omega
        · omega
    unfold insD
    rw [hP]
    exact HoldsAre.append (h1.take P) ⟨h2, h1.drop P⟩
  refine ⟨⟨⟨hblk, ⟨l.take P ++ x' :: l.drop P, by rw [hlen]; exact own_setOther hown (a := ⟨hb, 0, none⟩) hv' v', (ha.but hB (fun b _ e => .inl (.inl e))).mono fun b _ e => e.elim (fun e => e.elim (fun e => .inl (.inl (.inl e))) .inr) (fun e => .inl (.inr e))⟩, nrise_ins T.rise hnew, fun x hx => ?_, by rw [insD_len]; omega⟩, fun j hj => ?_⟩, ?_⟩
  · rcases insD_mem.1 hx with rfl | hx
    · exact hok
    · exact T.ok x hx
  · rcases hk j hj with e | e
    · exact .inl e
    · exact .inr (by omega)
  · exact (Ext.but xa (fun _ => False)).trans hB (fun _ _ e => e.elim) (fun _ _ e => e)
theorem Ext.butNew' {S : Nat → Prop} {w w1 w2 : World} (hx : Ext w w1) (hb : But S w1 w2) (hS : ∀ j, S j → w.heap.size ≤ j) : Ext w w2 :=
  ((Ext.but hx (fun _ => False)).trans hb (U := fun j => w.heap.size ≤ j) (fun _ _ e => e.elim) (fun i _ e => hS i e)).ext (fun _ hi e => absurd hi (Nat.not_lt.2 e))
set_option maxRecDepth 100000 in
set_option maxHeartbeats 6400000 in
theorem rput_calls (mb : Nat) (v : Value) (ds : List HoldD) (ls : List HoldV) (dl : List HoldD) (ao : Option Addr) (cap : Nat) (w : World) (T : RTabN no0 w mb v ds) (hl : ls.length ≤ 1000000)
    (hr : NRows 7 encHV (fun b => b = mb ∨ v.ownBlock = some b) w ao ls) (hd : HoldsAre w (fun b => b = mb ∨ v.ownBlock = some b) ls dl) (hok : ∀ d ∈ dl, d.ok) (hn0 : ∀ b, no0 b → b < w.heap.size) :
    Calls Tryz.prog 91 #[.pointer (some ⟨mb, 0, none⟩), .slice ao ls.length cap] w (RPutPost no0 mb v ds dl w) := by
  obtain ⟨i0, hi, hz0, hz1, hz2⟩ := info_parts infoHold
  have hbl := T.blk.lt
  have HT := Lib.hid T; have HR := Lib.hid hr; have HD := Lib.hid hd; have HOK := Lib.hid hok; have HN0 := Lib.hid hn0
  have HDL := Lib.hid hd.len
  clear T hr hd hok hn0
  go_enter Tryz.func91, Tryz.ntmps91
  go_wp2_with fail
  go_loopw [5] (fun vi wr => ∃ i : Nat, vi = .int .i64 i ∧ i ≤ ls.length ∧ ((dl.take i).map dkey).Nodup ∧ Ext w wr) (fun vi _ => ls.length - (intOf vi).toNat)
  case atStart => exact ⟨0, rfl, by omega, by simp, Below.refl _ _⟩
  case round =>
    obtain ⟨i, rfl, hi2, hnd, hx⟩ := hrel
    have ND := Lib.hid hnd; have X1 := Lib.hid hx
    clear hnd hx
    by_cases hlt : i < ls.length
    · obtain ⟨x, hx⟩ : ∃ x, ls[i]? = some x := ⟨_, List.getElem?_eq_getElem hlt⟩
      obtain ⟨d, hdi, hxd⟩ := HD.out.at i x hx
      obtain ⟨b, off, hao, hbb, hbno, hcell⟩ := HR.out (by intro e; rw [e] at hlt; simp at hlt)
      have hcx := hcell i x hx 0 _ rfl
      have hkx : x.key = d.key := hxd.key
      simp only [Nat.add_zero] at hcx
      have HCELL := Lib.hid hcell; have HDI := Lib.hid hdi; have HKX := Lib.hid hkx; have HCX := Lib.hid hcx
      subst hao
      generalize x.key = kx at *
      have ii0 : (0 : Int) ≤ (i : Int) := by omega
      have ii1 : (i : Int) < (ls.length : Int) := by omega
      have ob : decide ((i : Int) < (ls.length : Int)) = true := decide_eq_true ii1
      clear hx hdi hxd hcell hkx hcx
      go_wp2_with fail
      go_loopw [6] (fun vk wr => ∃ k : Nat, vk = .int .i64 k ∧ k ≤ i ∧ (∀ y ∈ dl.take k, dkey y ≠ dkey d) ∧ Ext w wr) (fun vk _ => i - (intOf vk).toNat)
      case atStart => exact ⟨0, rfl, by omega, by simp, X1.out⟩
      case round =>
        obtain ⟨k, rfl, hk, hne, hx⟩ := hrel
        have NE := Lib.hid hne; have X2 := Lib.hid hx
        clear hne hx
        by_cases hki : k < i
        · obtain ⟨z, hz⟩ : ∃ z, ls[k]? = some z := ⟨_, List.getElem?_eq_getElem (by omega)⟩
          obtain ⟨y, hyk, hzy⟩ := HD.out.at k z hz
          have hcz := HCELL.out k z hz 0 _ rfl
          have hkz : z.key = y.key := hzy.key
          simp only [Nat.add_zero] at hcz
          have c1 := cellX X2.out HCX.out; have c2 := cellX X2.out hcz
          have HYK := Lib.hid hyk; have HKZ := Lib.hid hkz
          generalize z.key = kz at *
          have jj0 : (0 : Int) ≤ (k : Int) := by omega
          have jj1 : (k : Int) < (ls.length : Int) := by omega
          have jj2 : (k : Int) < (i : Int) := by omega
          clear hz hyk hzy hcz hkz
          by_cases heq : dkey y = dkey d
          · have he : (kz.toList == kx.toList) = true := by rw [keyEq, HKZ.out, HKX.out]; exact decide_eq_true heq
            have hdup := dup_of hki HDI.out HYK.out heq
            have hz2 : putE dl ds = 2 := by unfold putE; rw [if_pos (.inl hdup)]
            have HZ := Lib.hid hz2
            clear heq hdup hz2
            go_wp2_with fail
            go_quiet (fail)
            go_wp2_with fail
            go_ret
            exact RPutPost.same HT.out HZ.out (by decide) (Ext.drewN X2.out _)
          · have he : (kz.toList == kx.toList) = false := by rw [keyEq, HKZ.out, HKX.out]; exact decide_eq_false heq
            have hnew : ∀ y' ∈ dl.take (k + 1), dkey y' ≠ dkey d := by
              rw [List.take_add_one, HYK.out]
              intro y' hy'
              rcases List.mem_append.1 hy' with h | h
              · exact NE.out y' h
              · simp at h; rw [h]; exact heq
            have HNEW := Lib.hid hnew
            clear heq hnew
            go_wp2_with fail
            go_quiet (fail)
            go_wp2_with fail
            go_roundw
            case rel => exact ⟨k + 1, by go_num, by omega, HNEW.out, Ext.drewN X2.out _⟩
            case measure => simp [intOf]; omega
        · obtain rfl : k = i := by omega
          have hns := nodup_succ HDI.out ND.out NE.out
          have HNS := Lib.hid hns
          clear hns
          go_wp2_with fail
          go_roundw
          case rel => exact ⟨k + 1, by go_num, by omega, HNS.out, X2.out⟩
          case measure => simp [intOf]; omega
    · have hall : dl.take i = dl := List.take_of_length_le (by have := HDL.out; omega)
      rw [hall] at ND
      have hdup : dupD dl = false := (dupD_iff dl).2 ND.out
      have HDUP := Lib.hid hdup
      clear hall hdup ND
      have HRI := Lib.hid (refRightH_calls ls dl _ ao cap wr hl ((HR.out.rows.ext X1.out).mono X1.out.size) (HD.out.ext X1.out) HOK.out)
      obtain ⟨hb, hhb⟩ : ∃ hb, hb = holdsB dl := ⟨_, rfl⟩
      rw [← hhb] at HRI
      have HHB := Lib.hid hhb
      clear hhb
      go_wp2_with fail
      refine HRI.out.mono ?_
      rintro e w2 ⟨rfl, hx2⟩
      have X2 := Lib.hid (Ext.trans X1.out hx2)
      clear hx2 HRI
      cases hb with
      | false =>
        have HZ : Hid (putE dl ds = 2) := Lib.hid (by unfold putE; rw [if_pos (.inr HHB.out.symm)])
        go_wp2_with fail
        go_ret
        exact RPutPost.same HT.out HZ.out (by decide) X2.out
      | true =>
        go_wp2_with fail
        go_loopw [7] (fun vi wr => ∃ i : Nat, vi = .int .i64 i ∧ i ≤ ls.length ∧ thereD (dl.take i) ds = false ∧ Ext w wr) (fun vi _ => ls.length - (intOf vi).toNat)
        case atStart => exact ⟨0, rfl, by omega, rfl, X2.out⟩
        case round =>
          obtain ⟨i3, rfl, hi3, hth, hx⟩ := hrel
          have TH := Lib.hid hth; have X3 := Lib.hid hx
          clear hth hx
          by_cases hlt3 : i3 < ls.length
          · obtain ⟨x, hx⟩ : ∃ x, ls[i3]? = some x := ⟨_, List.getElem?_eq_getElem hlt3⟩
            obtain ⟨d, hdi, hxd⟩ := HD.out.at i3 x hx
            obtain ⟨b, off, hao, hbb, hbno, hcell⟩ := HR.out (by intro e; rw [e] at hlt3; simp at hlt3)
            have c1 := cellX X3.out (hcell i3 x hx 0 _ rfl)
            simp only [Nat.add_zero] at c1
            have hkx : x.key = d.key := hxd.key
            have hts := thereD_succ dl ds i3 d hdi
            rw [TH.out, Bool.false_or] at hts
            have HOF := Lib.hid (rof_calls mb v ds x.key wr (HT.out.ext X3.out))
            have HTS := Lib.hid hts; have HDI := Lib.hid hdi
            have hkd : x.key.data.toList = dkey d := by rw [hkx]; rfl
            rw [hkd] at HOF
            generalize x.key = kx at *
            subst hao
            have ii0 : (0 : Int) ≤ (i3 : Int) := by omega
            have ii1 : (i3 : Int) < (ls.length : Int) := by omega
            clear hx hdi hxd hcell hkx hts hkd
            go_wp2_with fail
            refine HOF.out.mono ?_
            rintro e w4 ⟨y, rfl, -, hx4⟩
            have X4 := Lib.hid (Ext.trans X3.out hx4)
            clear hx4 HOF c1
            obtain ⟨key, cl, nm, xo, xn, xc, yo, yn, yc, put, value⟩ := y
            have E4 : Hid (Ext w4 (w4.alloc (.cells (encHV ⟨key, cl, nm, xo, xn, xc, yo, yn, yc, put, value⟩).toArray 35))) := Lib.hid ((Below.refl _ w4).alloc (Nat.le_refl _) _)
            obtain ⟨hh, hhh⟩ : ∃ hh, hh = hasD (dkey d) ds := ⟨_, rfl⟩
            rw [← hhh]
            have HHH := Lib.hid hhh
            clear hhh
            simp only [encHV]
            cases hh with
            | true =>
              have HZ : Hid (putE dl ds = 7) := Lib.hid (by
                unfold putE
                rw [if_neg (by rw [HDUP.out, ← HHB.out]; decide), if_pos]
                exact List.any_eq_true.2 ⟨d, List.mem_of_getElem? HDI.out, HHH.out.symm⟩)
              go_wp2_with fail
              go_ret
              exact RPutPost.same HT.out HZ.out (by decide) (Ext.trans X4.out E4.out)
            | false =>
              go_wp2_with fail
              go_roundw
              case rel => exact ⟨i3 + 1, by go_num, by omega, by rw [HTS.out, ← HHH.out], Ext.trans X4.out E4.out⟩
              case measure => simp [intOf]; omega
          · have hall : dl.take i3 = dl := List.take_of_length_le (by have := HDL.out; omega)
            rw [hall] at TH
            clear hall
            obtain ⟨l0, ao0, cap0, hv, hlc, hcm, hll, -, -, -⟩ := HT.out.rows
            have cm := cellX X3.out (HT.out.blk.cell 0)
            rw [hv] at cm
            have hfew := HT.out.few
            have hdl := HDL.out
            have HV := Lib.hid hv; have HLL := Lib.hid hll
            have hl060 : l0.length ≤ 60 := by omega
            by_cases hfull : 60 < ds.length + dl.length
            · have HZ : Hid (putE dl ds = 8) := Lib.hid (by
                unfold putE
                rw [if_neg (by rw [HDUP.out, ← HHB.out]; decide), if_neg (by rw [TH.out]; decide), if_pos hfull])
              have hq : decide ((60 : Int) < (l0.length : Int) + (ls.length : Int)) = true := by simp; omega
              clear hll hdl hfull hv
              go_wp2_with fail
              go_ret
              exact RPutPost.same HT.out HZ.out (by decide) X3.out
            · have HZ : Hid (putE dl ds = 0) := Lib.hid (by
                unfold putE
                rw [if_neg (by rw [HDUP.out, ← HHB.out]; decide), if_neg (by rw [TH.out]; decide), if_neg hfull])
              have hq : decide ((60 : Int) < (l0.length : Int) + (ls.length : Int)) = false := by simp; omega
              have HFU := Lib.hid (show ds.length + dl.length ≤ 60 by omega)
              clear hll hdl hfull hv
              go_wp2_with fail
              go_loopw [10] (fun vi wr => ∃ (k : Nat) (v1 : Value), k ≤ ls.length ∧ vi = .int .i64 k ∧ RTabN no0 wr mb v1 (insAll (dl.take k) ds) ∧ (∀ j, v1.ownBlock = some j → v.ownBlock = some j ∨ w.heap.size ≤ j) ∧ But (fun j => j = mb ∨ v.ownBlock = some j) w wr) (fun vi _ => ls.length - (intOf vi).toNat)
              case atStart => exact ⟨0, v, by omega, rfl, HT.out.ext X3.out, fun j h => .inl h, X3.out.but _⟩
              case round =>
                obtain ⟨k, v1, hk, rfl, htab, hv1, hbut⟩ := hrel
                have J1 := Lib.hid htab; have J2 := Lib.hid hv1; have J3 := Lib.hid hbut
                clear htab hv1 hbut cm
                by_cases hlt4 : k < ls.length
                · obtain ⟨x, hx⟩ : ∃ x, ls[k]? = some x := ⟨_, List.getElem?_eq_getElem hlt4⟩
                  obtain ⟨d, hdk, hxd⟩ := HD.out.at k x hx
                  have hdok := HOK.out d (List.mem_of_getElem? hdk)
                  have hrt : holdB d = true := List.all_eq_true.1 HHB.out.symm d (List.mem_of_getElem? hdk)
                  have hfr := fresh_at HDUP.out TH.out hdk
                  have hin := insAll_succ dl ds k d hdk
                  have hlen := insAll_len (dl.take k) ds
                  have hkd : k < dl.length := by have := HDL.out; omega
                  rw [List.length_take, Nat.min_eq_left (by omega)] at hlen
                  obtain ⟨b, off, hao, hbb, hbno, hcell⟩ := HR.out (by intro e; rw [e] at hlt4; simp at hlt4)
                  have hmove : ∀ j, wr.cell? ⟨b, j, none⟩ = w.cell? ⟨b, j, none⟩ := fun j => J3.out.cell (p := ⟨b, j, none⟩) hbb hbno
                  have hcx := hcell k x hx
                  have hxw : x.is wr (fun _ => False) d := (hxd.but J3.out (fun _ _ e => e)).mono (fun _ _ e => e.elim)
                  have hbr : b < wr.heap.size := Nat.lt_of_lt_of_le hbb J3.out.size
                  have hmr : mb < wr.heap.size := Nat.lt_of_lt_of_le hbl J3.out.size
                  have hkx : x.key = d.key := hxd.key
                  have HC := Lib.hid (fun W (hW : Ext wr W) => copyHold_calls x d W (hxw.ext hW) hdok.fits.1 hdok.fits.2)
                  subst hao
                  obtain ⟨key0, cl0, nm0, xo0, xn0, xc0, yo0, yn0, yc0, put0, value0⟩ := x
                  have d0 := (hmove _).trans (hcx 0 _ rfl); have d1 := (hmove _).trans (hcx 1 _ rfl); have d2 := (hmove _).trans (hcx 2 _ rfl); have d3 := (hmove _).trans (hcx 3 _ rfl); have d4 := (hmove _).trans (hcx 4 _ rfl); have d5 := (hmove _).trans (hcx 5 _ rfl); have d6 := (hmove _).trans (hcx 6 _ rfl)
                  simp only [Nat.add_zero] at d0
                  simp only at hkx
                  simp only [encHV] at HC
                  obtain ⟨l1, ao1, cap1, hv1e, hlc1, hcm1, hll1, hrows1, hown1, hare1⟩ := J1.out.rows
                  have hl160 : l1.length ≤ 60 := by have := HFU.out; omega
                  subst hv1e
                  have cm := J1.out.blk.cell 0; have fm := J1.out.blk.free 0
                  simp only [List.getElem?_cons_zero] at cm
                  obtain ⟨ds1, hds1⟩ : ∃ ds1, ds1 = insAll (dl.take k) ds := ⟨_, rfl⟩
                  rw [← hds1] at J1 hare1 hll1 hfr hin hlen
                  obtain ⟨P, hP⟩ : ∃ P, P = placeD (dkey d) ds1 := ⟨_, rfl⟩
                  have hPl : P ≤ l1.length := by rw [hll1, hP]; exact placeD_le _ _
                  have HP := Lib.hid hP; have HIN := Lib.hid hin; have HFR := Lib.hid hfr; have HDO := Lib.hid hdok; have HRT := Lib.hid hrt; have HLN := Lib.hid hlen; have HLL1 := Lib.hid hll1
                  have R1 := Lib.hid hrows1; have O1 := Lib.hid hown1; have A1 := Lib.hid hare1; have HKX := Lib.hid hkx
                  have ii0 : (0 : Int) ≤ (k : Int) := by omega
                  have ii1 : (k : Int) < (ls.length : Int) := by omega
                  have ob : decide ((k : Int) < (ls.length : Int)) = true := decide_eq_true ii1
                  have CC : Hid (∀ W, Ext wr W → W.cell? ⟨mb, 0, none⟩ = some (.slice ao1 l1.length cap1) ∧ W.cell? ⟨b, off + k * 7, none⟩ = some (.string key0) ∧ W.cell? ⟨b, off + k * 7 + 1, none⟩ = some (.int .i64 cl0) ∧ W.cell? ⟨b, off + k * 7 + 2, none⟩ = some (.int .i64 nm0) ∧ W.cell? ⟨b, off + k * 7 + 3, none⟩ = some (.slice xo0 xn0 xc0) ∧ W.cell? ⟨b, off + k * 7 + 4, none⟩ = some (.slice yo0 yn0 yc0) ∧ W.cell? ⟨b, off + k * 7 + 5, none⟩ = some (.bool put0) ∧ W.cell? ⟨b, off + k * 7 + 6, none⟩ = some (.string value0) ∧ W.frozen? ⟨mb, 0, none⟩ = false ∧ b < W.heap.size ∧ mb < W.heap.size) := Lib.hid fun W hW =>
                    ⟨cellX hW cm, cellX hW d0, cellX hW d1, cellX hW d2, cellX hW d3, cellX hW d4, cellX hW d5, cellX hW d6, (hW.frozen (p := ⟨mb, 0, none⟩) hmr).trans fm, Nat.lt_of_lt_of_le hbr hW.size, Nat.lt_of_lt_of_le hmr hW.size⟩
                  clear hx hdk hxd hdok hrt hfr hin hlen hkd hcell hmove hcx hxw hkx hds1 hP hll1 hrows1 hown1 hare1 d1 d2 d3 d4 d5 d6
                  go_wp2_with fail
                  obtain ⟨wo, hwo⟩ : ∃ wo, wo = wr := ⟨_, rfl⟩
                  rw [← hwo] at J1 J3 HC CC R1 O1 A1 hbr hmr cm fm d0
                  go_loopw [11] (fun va wr => ∃ j : Nat, va = .int .i64 j ∧ j ≤ P ∧ Ext wo wr) (fun va _ => P - (intOf va).toNat)
                  case atStart => exact ⟨0, rfl, by omega, by rw [hwo]; exact Below.refl _ _⟩
                  case round =>
                    obtain ⟨j, rfl, hj, hx⟩ := hrel
                    have XJ := Lib.hid hx
                    obtain ⟨cm, d0, -, -, -, -, -, -, -, -, -⟩ := CC.out wr hx
                    clear hx hwo
                    have key : (j < P ∧ j < l1.length) ∨ (j = P ∧ P < l1.length) ∨ (j = P ∧ P = l1.length) := by omega
                    by_cases hjl : j < l1.length
                    · obtain ⟨y, hy⟩ : ∃ y, l1[j]? = some y := ⟨_, List.getElem?_eq_getElem hjl⟩
                      obtain ⟨dy, hdy, hyd⟩ := A1.out.at j y hy
                      obtain ⟨g1, o1, rfl, hg1, hc1⟩ := R1.out (by intro e; rw [e] at hjl; simp at hjl)
                      have e0 := cellX XJ.out (hc1 j y hy 0 _ rfl)
                      simp only [Nat.add_zero] at e0
                      have hky : y.key = dy.key := hyd.key
                      have jj0 : (0 : Int) ≤ (j : Int) := by omega
                      have jj1 : (j : Int) < (l1.length : Int) := by omega
                      have t1 : decide ((j : Int) < (l1.length : Int)) = true := decide_eq_true jj1
                      by_cases hjP : j < P
                      · have hbl2 : Op.bytesLess y.key.toList key0.toList = true := by
                          rw [Lib.toList_data, Lib.toList_data, bytesLess_eq, hky, HKX.out]
                          have := tw_lt (fun z => decide (dkey z < dkey d)) ds1 j dy (by rw [HP.out] at hjP; exact hjP) hdy
                          exact this
                        clear hy hdy hyd hc1 hky
                        generalize y.key = ky at *
                        go_wp2_with fail
                        go_quiet (fail)
                        go_wp2_with fail
                        go_roundw
                        case rel => exact ⟨j + 1, by go_num, by omega, Ext.drewN XJ.out _⟩
                        case measure => simp [intOf]; omega
                      · obtain rfl : j = P := by omega
                        have hbl2 : Op.bytesLess y.key.toList key0.toList = false := by
                          rw [Lib.toList_data, Lib.toList_data, bytesLess_eq, hky, HKX.out]
                          have := tw_stop (fun z => decide (dkey z < dkey d)) ds1 dy (by have h := HP.out; unfold placeD at h; rw [← h]; exact hdy)
                          exact this
                        clear hy hdy hyd hc1 hky
                        generalize y.key = ky at *
                        go_wp2_with fail
                        go_quiet (fail)
                        generalize hwv : wr.drewN _ = wv
                        have hv2 : Ext wo wv := by rw [← hwv]; exact Ext.drewN XJ.out _
                        have V2 := Lib.hid hv2
                        obtain ⟨cm, -, -, -, -, -, -, -, fm, hbv, hmv⟩ := CC.out wv hv2
                        have j2 : (j : Int) ≤ (l1.length : Int) := by omega
                        have j3 : (j : Int) ≤ (cap1 : Int) := by omega
                        clear hwv hv2
                        go_upto_region 25 with fail
                        go_cut [12] (fun s W => ∃ (r1 : Option Addr) (c1 : Nat), s = .slice r1 (l1.drop j).length c1 ∧ W.ownsRow 0 35 7 (.slice r1 (l1.drop j).length c1) (l1.drop j).length ((l1.drop j).flatMap encHV) ∧ (∀ q, (Value.slice r1 (l1.drop j).length c1).ownBlock = some q → wv.heap.size ≤ q) ∧ Ext wv W)
                        case first =>
                          have rd : Rows 7 encHV wv.heap.size wv (some ⟨g1, o1 + j * 7, none⟩) (l1.drop j) := Rows.drop ((R1.out.ext V2.out).mono V2.out.size) j
                          have hdl : (l1.drop j).length = l1.length - j := List.length_drop
                          have hck : ¬ cap1 = j := by omega
                          have hck2 : ¬ j = cap1 := by omega
                          have RD := Lib.hid rd; have DL := Lib.hid hdl
                          have E2 : Hid (Ext wv (wv.alloc (.cells #[] 35))) := Lib.hid ((Below.refl _ wv).alloc (Nat.le_refl _) _)
                          clear rd hdl
                          go_wp2_with (at_builtin; go_must (refine wpList_append_rows (enc := encHV) (size := 7) (fun _ => rfl) one_hold rfl (.tmp 95) (.tmp 101) 22 rfl 35 i0 _ 104 Tryz.underlying22 hi hz0 hz1 hz2 rfl (by decide) (.slice (some ⟨wv.heap.size, 0, none⟩) 0 0) 0 [] rfl (World.ownsRow_made wv #[] 0 (Nat.zero_le _) (Nat.zero_le _) rfl) (some ⟨g1, o1 + j * 7, none⟩) (l1.drop j) (cap1 - j) (by rw [DL.out]; rfl) ((RD.out.ext E2.out).mono E2.out.size) (by unfold maxLen; have := DL.out; omega) (by have := DL.out; omega) ?_); intro v9 w9 hown9 hbut9 hkept9; have O9 := Lib.hid hown9; have B9 := Lib.hid hbut9; have K9 := Lib.hid hkept9; clear hown9 hbut9 hkept9)
                          go_meet
                          have ho9 := O9.out
                          rw [Nat.zero_add, List.nil_append] at ho9
                          obtain ⟨r1, c1, rfl⟩ := own_slice ho9
                          have hn9 : ∀ q, (Value.slice r1 (l1.drop j).length c1).ownBlock = some q → wv.heap.size ≤ q := fun q hq => by
                            rcases K9.out q hq with e | e
                            · simp [Value.ownBlock] at e; omega
                            · exact Nat.le_trans E2.out.size e
                          exact ⟨r1, c1, rfl, ho9, hn9, Ext.butNew' E2.out B9.out (fun q e => by simp [Value.ownBlock] at e; omega)⟩
                        case rest =>
                          obtain ⟨r1, c1, hs12, ho, hn, hx⟩ := hcut
                          subst hs12
                          have XC := Lib.hid (Ext.trans V2.out hx)
                          have RO := Lib.hid ho; have RN := Lib.hid hn; have XV2 := Lib.hid hx
                          obtain ⟨cm, d0, d1, d2, d3, d4, d5, d6, fm, hbc, hmc⟩ := CC.out wc XC.out
                          have HCUT : Hid (∀ W, Ext wc W → W.ownsRow 0 35 7 (.slice (some ⟨g1, o1, none⟩) j cap1) j ((l1.take j).flatMap encHV)) := Lib.hid fun W hW => by
                            have h := own_cut (own_ext O1.out (Ext.trans XC.out hW)) j (by omega)
                            rwa [flat_take (enc := encHV) (sz := 7) (fun _ => rfl)] at h
                          have HF : Hid (∀ (q n cc : Nat), (Value.slice (some ⟨g1, o1, none⟩) n cc).ownBlock = some q → q < wo.heap.size) := Lib.hid fun q n cc e => (O1.out.lt q (by rw [ownB] at e ⊢; exact e)).2
                          have HF2 : Hid (∀ (q n cc : Nat), (Value.slice (some ⟨g1, o1, none⟩) n cc).ownBlock = some q → (Value.slice (some ⟨g1, o1, none⟩) l1.length cap1).ownBlock = some q) := Lib.hid fun q n cc e => by rw [ownB] at e ⊢; exact e
                          have HNM := Lib.hid J1.out.apart; have HMC := Lib.hid hmc
                          clear ho hn hx
                          go_wp2_with fail
                          go_region_law (first
                            | (refine step_append_rows (enc := encHV) (size := 7) (fun _ => rfl) one_hold (by rfl) (.tmp 109) (.tmp 115) 22 (by rfl) 35 i0 _ 104 Tryz.underlying22 hi hz0 hz1 hz2 rfl (by decide) (.slice (some ⟨g1, o1, none⟩) j cap1) j ((l1.take j).flatMap encHV) (by rfl) (HCUT.out _ X5.out) (some ⟨w5.heap.size, 0, none⟩) [⟨key, cl, nm, xo, xn, xc, yo, yn, yc, put, value⟩] 1 (by rfl) (by exact HROW.out w5 35) (by simp only [List.length_singleton]; unfold maxLen; omega) (by simp only [List.length_singleton]; omega) ?_
                               intro v6 w6 hown6 hbut6 hkept6
                               have hov6 := own_but (own_ext RO.out X5.out) hbut6 (fun q hq e => by have h1 := RN.out q hq; have h2 := HF.out q _ _ e; have h3 := V2.out.size; omega)
                               have R6 := Lib.hid (rows_of_own (enc := encHV) (sz := 7) (fun _ => rfl) hov6)
                               have O6 := Lib.hid hown6; have B6 := Lib.hid hbut6; have K6 := Lib.hid hkept6
                               have BM6 := Lib.hid ((J1.out.blk.ext' (Ext.trans XC.out X5.out)).but hbut6 (fun e => HNM.out (HF2.out mb _ _ e)))
                               clear hown6 hbut6 hkept6 hov6)
                            | (refine step_append_rows (enc := encHV) (size := 7) (fun _ => rfl) one_hold (by rfl) (.tmp 116) (.tmp 117) 22 (by rfl) 35 i0 _ 104 Tryz.underlying22 hi hz0 hz1 hz2 rfl (by decide) v6 _ _ (by rfl) O6.out r1 (l1.drop j) c1 (by rw [List.length_drop]; rfl) R6.out (by rw [List.length_drop]; simp only [List.length_singleton]; unfold maxLen; omega) (by rw [List.length_drop]; simp only [List.length_singleton]; omega) ?_
                               intro v7 w7 hown7 hbut7 hkept7
                               have BM7 := BM6.out.but hbut7 (fun e => by
                                 rcases K6.out mb e with h | h
                                 · exact HNM.out (HF2.out mb _ _ h)
                                 · exact absurd (Nat.le_trans X5.out.size h) (Nat.not_le.2 HMC.out))
                               have cm7 := BM7.cell 0; have fm7 := BM7.free 0
                               simp only [List.getElem?_cons_zero] at cm7
                               rw [show j + [(⟨key, cl, nm, xo, xn, xc, yo, yn, yc, put, value⟩ : HoldV)].length + (l1.drop j).length = l1.length + 1 from by rw [List.length_singleton, List.length_drop]; omega] at hown7
                               obtain ⟨q7, c7, rfl⟩ := own_slice hown7
                               have O7 := Lib.hid hown7; have B7 := Lib.hid hbut7; have K7 := Lib.hid hkept7
                               clear hown7 hbut7 hkept7 BM7)
                            | (go_simp; refine (HC.out _ (by exact XC.out.drew)).mono ?_; rintro e w5 ⟨y, rfl, hyi, hx5⟩; obtain ⟨key, cl, nm, xo, xn, xc, yo, yn, yc, put, value⟩ := y; obtain ⟨cm, -, -, -, -, -, -, -, fm, -, hmc⟩ := CC.out w5 (Ext.trans XC.out.drew hx5); have YI := Lib.hid hyi; have X5 : Hid (Ext wc (w5.alloc (.cells (encHV ⟨key, cl, nm, xo, xn, xc, yo, yn, yc, put, value⟩).toArray 35))) := Lib.hid (Ext.trans (Ext.trans (Below.refl _ wc).drew hx5) ((Below.refl _ w5).alloc (Nat.le_refl _) _)); have HROW := Lib.hid (Rows.fresh' (enc := encHV) (sz := 7) (fun _ => rfl) [⟨key, cl, nm, xo, xn, xc, yo, yn, yc, put, value⟩]); clear hyi hx5))
                          all_goals
                            go_wp2_with fail
                            go_roundw
                            case rel =>
                              have ho7 := O7.out
                              have hfl : (l1.take j).flatMap encHV ++ [(⟨key, cl, nm, xo, xn, xc, yo, yn, yc, put, value⟩ : HoldV)].flatMap encHV ++ (l1.drop j).flatMap encHV = (l1.take j ++ ⟨key, cl, nm, xo, xn, xc, yo, yn, yc, put, value⟩ :: l1.drop j).flatMap encHV := by
                                simp only [List.flatMap_append, List.flatMap_cons, List.flatMap_nil, List.append_nil, List.append_assoc]
                              rw [hfl] at ho7
                              have hk7 : Kept1 (w5.alloc (.cells (encHV ⟨key, cl, nm, xo, xn, xc, yo, yn, yc, put, value⟩).toArray 35)) (.slice (some ⟨g1, o1, none⟩) l1.length cap1) (.slice q7 (l1.length + 1) c7) := fun q hq => by
                                rcases K7.out q hq with h | h
                                · rcases K6.out q h with h | h
                                  · exact .inl (HF2.out q _ _ h)
                                  · exact .inr h
                                · exact .inr (Nat.le_trans B6.out.size h)
                              have hb7 : But (fun q => (Value.slice (some ⟨g1, o1, none⟩) l1.length cap1).ownBlock = some q) (w5.alloc (.cells (encHV ⟨key, cl, nm, xo, xn, xc, yo, yn, yc, put, value⟩).toArray 35)) w7 := B6.out.trans B7.out (fun q _ e => HF2.out q _ _ e) (fun q hq e => by
                                rcases K6.out q e with h | h
                                · exact HF2.out q _ _ h
                                · exact absurd hq (Nat.not_lt.2 h))
                              have hfin := rlay_close J1.out A1.out (fun b e => Nat.lt_of_lt_of_le (HN0.out b e) J3.out.size) HP.out.symm ⟨HDO.out, HRT.out⟩ HFR.out (by have := HFU.out; have := HLN.out; have := HDL.out; omega) J1.out.apart (Ext.trans XC.out X5.out) (M := wc.heap.size) XC.out.size ((YI.out.mono (fun b _ e => e)).ext ((Below.refl _ w5).alloc (Nat.le_refl _) _)) ho7 hk7 hb7
                              obtain ⟨⟨hf1, hf2⟩, hf3⟩ := hfin
                              refine ⟨k + 1, _, by omega, by go_num, by rw [HIN.out]; exact hf1, fun q hq => ?_, J3.out.trans hf3 (fun _ _ e => e) (fun q hq e => ?_)⟩
                              · rcases hf2 q hq with e | e
                                · exact J2.out q e
                                · exact .inr (Nat.le_trans J3.out.size e)
                              · rcases e with e | e
                                · exact .inl e
                                · rcases J2.out q e with e | e
                                  · exact .inr e
                                  · exact absurd hq (Nat.not_lt.2 e)
                            case measure => simp [intOf]; omega
                    · obtain rfl : j = P := by omega
                      have t1 : decide ((j : Int) < (l1.length : Int)) = false := decide_eq_false (by omega)
                      go_wp2_with fail
                      go_quiet (fail)
                      generalize hwv : wr.drewN _ = wv
                      have hv2 : Ext wo wv := by rw [← hwv]; exact Ext.drewN XJ.out _
                      have V2 := Lib.hid hv2
                      obtain ⟨cm, -, -, -, -, -, -, -, fm, hbv, hmv⟩ := CC.out wv hv2
                      have j2 : (j : Int) ≤ (l1.length : Int) := by omega
                      have j3 : (j : Int) ≤ (cap1 : Int) := by omega
                      clear hwv hv2
                      go_upto_region 25 with fail
                      go_cut [12] (fun s W => ∃ (r1 : Option Addr) (c1 : Nat), s = .slice r1 (l1.drop j).length c1 ∧ W.ownsRow 0 35 7 (.slice r1 (l1.drop j).length c1) (l1.drop j).length ((l1.drop j).flatMap encHV) ∧ (∀ q, (Value.slice r1 (l1.drop j).length c1).ownBlock = some q → wv.heap.size ≤ q) ∧ Ext wv W)
                      case first =>
                        have hdn : l1.drop j = [] := List.drop_eq_nil_of_le (by omega)
                        have DN := Lib.hid hdn
                        have fin : ∀ W, W = wv.alloc (.cells #[] 35) → ∃ (r1 : Option Addr) (c1 : Nat), (Value.slice (some ⟨wv.heap.size, 0, none⟩) 0 0) = .slice r1 (l1.drop j).length c1 ∧ W.ownsRow 0 35 7 (.slice r1 (l1.drop j).length c1) (l1.drop j).length ((l1.drop j).flatMap encHV) ∧ (∀ q, (Value.slice r1 (l1.drop j).length c1).ownBlock = some q → wv.heap.size ≤ q) ∧ Ext wv W := fun W hW => by
                          subst hW
                          rw [DN.out]
                          exact ⟨_, _, rfl, World.ownsRow_made wv #[] 0 (Nat.zero_le _) (Nat.zero_le _) rfl, fun q e => by simp [Value.ownBlock] at e; omega, (Below.refl _ wv).alloc (Nat.le_refl _) _⟩
                        have FIN := Lib.hid fin
                        clear hdn fin
                        have hlz : j = l1.length := by omega
                        rcases own_form O1.out with ⟨hv0, h0⟩ | ⟨g1, cc, hv0⟩
                        · simp only [Value.slice.injEq] at hv0
                          obtain ⟨rfl, -, rfl⟩ := hv0
                          obtain rfl : j = 0 := by omega
                          clear hlz h0
                          have hl10 : l1.length = 0 := by omega
                          go_wp2_with fail
                          go_meet
                          exact FIN.out _ rfl
                        · simp only [Value.slice.injEq, true_and] at hv0
                          obtain ⟨rfl, rfl⟩ := hv0
                          by_cases hck : cap1 = j
                          case' pos => subst hck
                          all_goals
                            go_wp2_with fail
                            go_meet
                            exact FIN.out _ rfl
                      case rest =>
                        obtain ⟨r1, c1, hs12, ho, hn, hx⟩ := hcut
                        subst hs12
                        have XC := Lib.hid (Ext.trans V2.out hx)
                        have RO := Lib.hid ho; have RN := Lib.hid hn; have XV2 := Lib.hid hx
                        obtain ⟨cm, d0, d1, d2, d3, d4, d5, d6, fm, hbc, hmc⟩ := CC.out wc XC.out
                        have HCUT : Hid (∀ W, Ext wc W → W.ownsRow 0 35 7 (.slice ao1 j cap1) j ((l1.take j).flatMap encHV)) := Lib.hid fun W hW => by
                          have h := own_cut (own_ext O1.out (Ext.trans XC.out hW)) j (by omega)
                          rwa [flat_take (enc := encHV) (sz := 7) (fun _ => rfl)] at h
                        have HF : Hid (∀ (q n cc : Nat), (Value.slice ao1 n cc).ownBlock = some q → q < wo.heap.size) := Lib.hid fun q n cc e => (O1.out.lt q (by rw [ownB] at e ⊢; exact e)).2
                        have HF2 : Hid (∀ (q n cc : Nat), (Value.slice ao1 n cc).ownBlock = some q → (Value.slice ao1 l1.length cap1).ownBlock = some q) := Lib.hid fun q n cc e => by rw [ownB] at e ⊢; exact e
                        have HNM := Lib.hid J1.out.apart; have HMC := Lib.hid hmc
                        clear ho hn hx
                        go_wp2_with fail
                        go_region_law (first
                          | (refine step_append_rows (enc := encHV) (size := 7) (fun _ => rfl) one_hold (by rfl) (.tmp 109) (.tmp 115) 22 (by rfl) 35 i0 _ 104 Tryz.underlying22 hi hz0 hz1 hz2 rfl (by decide) (.slice ao1 j cap1) j ((l1.take j).flatMap encHV) (by rfl) (HCUT.out _ X5.out) (some ⟨w5.heap.size, 0, none⟩) [⟨key, cl, nm, xo, xn, xc, yo, yn, yc, put, value⟩] 1 (by rfl) (by exact HROW.out w5 35) (by simp only [List.length_singleton]; unfold maxLen; omega) (by simp only [List.length_singleton]; omega) ?_
                             intro v6 w6 hown6 hbut6 hkept6
                             have hov6 := own_but (own_ext RO.out X5.out) hbut6 (fun q hq e => by have h1 := RN.out q hq; have h2 := HF.out q _ _ e; have h3 := V2.out.size; omega)
                             have R6 := Lib.hid (rows_of_own (enc := encHV) (sz := 7) (fun _ => rfl) hov6)
                             have O6 := Lib.hid hown6; have B6 := Lib.hid hbut6; have K6 := Lib.hid hkept6
                             have BM6 := Lib.hid ((J1.out.blk.ext' (Ext.trans XC.out X5.out)).but hbut6 (fun e => HNM.out (HF2.out mb _ _ e)))
                             clear hown6 hbut6 hkept6 hov6)
                          | (refine step_append_rows (enc := encHV) (size := 7) (fun _ => rfl) one_hold (by rfl) (.tmp 116) (.tmp 117) 22 (by rfl) 35 i0 _ 104 Tryz.underlying22 hi hz0 hz1 hz2 rfl (by decide) v6 _ _ (by rfl) O6.out r1 (l1.drop j) c1 (by rw [List.length_drop]; rfl) R6.out (by rw [List.length_drop]; simp only [List.length_singleton]; unfold maxLen; omega) (by rw [List.length_drop]; simp only [List.length_singleton]; omega) ?_
                             intro v7 w7 hown7 hbut7 hkept7
                             have BM7 := BM6.out.but hbut7 (fun e => by
                               rcases K6.out mb e with h | h
                               · exact HNM.out (HF2.out mb _ _ h)
                               · exact absurd (Nat.le_trans X5.out.size h) (Nat.not_le.2 HMC.out))
                             have cm7 := BM7.cell 0; have fm7 := BM7.free 0
                             simp only [List.getElem?_cons_zero] at cm7
                             rw [show j + [(⟨key, cl, nm, xo, xn, xc, yo, yn, yc, put, value⟩ : HoldV)].length + (l1.drop j).length = l1.length + 1 from by rw [List.length_singleton, List.length_drop]; omega] at hown7
                             obtain ⟨q7, c7, rfl⟩ := own_slice hown7
                             have O7 := Lib.hid hown7; have B7 := Lib.hid hbut7; have K7 := Lib.hid hkept7
                             clear hown7 hbut7 hkept7 BM7)
                          | (go_simp; refine (HC.out _ (by exact XC.out.drew)).mono ?_; rintro e w5 ⟨y, rfl, hyi, hx5⟩; obtain ⟨key, cl, nm, xo, xn, xc, yo, yn, yc, put, value⟩ := y; obtain ⟨cm, -, -, -, -, -, -, -, fm, -, hmc⟩ := CC.out w5 (Ext.trans XC.out.drew hx5); have YI := Lib.hid hyi; have X5 : Hid (Ext wc (w5.alloc (.cells (encHV ⟨key, cl, nm, xo, xn, xc, yo, yn, yc, put, value⟩).toArray 35))) := Lib.hid (Ext.trans (Ext.trans (Below.refl _ wc).drew hx5) ((Below.refl _ w5).alloc (Nat.le_refl _) _)); have HROW := Lib.hid (Rows.fresh' (enc := encHV) (sz := 7) (fun _ => rfl) [⟨key, cl, nm, xo, xn, xc, yo, yn, yc, put, value⟩]); clear hyi hx5))
                        all_goals
                          go_wp2_with fail
                          go_roundw
                          case rel =>
                            have ho7 := O7.out
                            have hfl : (l1.take j).flatMap encHV ++ [(⟨key, cl, nm, xo, xn, xc, yo, yn, yc, put, value⟩ : HoldV)].flatMap encHV ++ (l1.drop j).flatMap encHV = (l1.take j ++ ⟨key, cl, nm, xo, xn, xc, yo, yn, yc, put, value⟩ :: l1.drop j).flatMap encHV := by
                              simp only [List.flatMap_append, List.flatMap_cons, List.flatMap_nil, List.append_nil, List.append_assoc]
                            rw [hfl] at ho7
                            have hk7 : Kept1 (w5.alloc (.cells (encHV ⟨key, cl, nm, xo, xn, xc, yo, yn, yc, put, value⟩).toArray 35)) (.slice ao1 l1.length cap1) (.slice q7 (l1.length + 1) c7) := fun q hq => by
                              rcases K7.out q hq with h | h
                              · rcases K6.out q h with h | h
                                · exact .inl (HF2.out q _ _ h)
                                · exact .inr h
                              · exact .inr (Nat.le_trans B6.out.size h)
                            have hb7 : But (fun q => (Value.slice ao1 l1.length cap1).ownBlock = some q) (w5.alloc (.cells (encHV ⟨key, cl, nm, xo, xn, xc, yo, yn, yc, put, value⟩).toArray 35)) w7 := B6.out.trans B7.out (fun q _ e => HF2.out q _ _ e) (fun q hq e => by
                              rcases K6.out q e with h | h
                              · exact HF2.out q _ _ h
                              · exact absurd hq (Nat.not_lt.2 h))
                            have hfin := rlay_close J1.out A1.out (fun b e => Nat.lt_of_lt_of_le (HN0.out b e) J3.out.size) HP.out.symm ⟨HDO.out, HRT.out⟩ HFR.out (by have := HFU.out; have := HLN.out; have := HDL.out; omega) J1.out.apart (Ext.trans XC.out X5.out) (M := wc.heap.size) XC.out.size ((YI.out.mono (fun b _ e => e)).ext ((Below.refl _ w5).alloc (Nat.le_refl _) _)) ho7 hk7 hb7
                            obtain ⟨⟨hf1, hf2⟩, hf3⟩ := hfin
                            refine ⟨k + 1, _, by omega, by go_num, by rw [HIN.out]; exact hf1, fun q hq => ?_, J3.out.trans hf3 (fun _ _ e => e) (fun q hq e => ?_)⟩
                            · rcases hf2 q hq with e | e
                              · exact J2.out q e
                              · exact .inr (Nat.le_trans J3.out.size e)
                            · rcases e with e | e
                              · exact .inl e
                              · rcases J2.out q e with e | e
                                · exact .inr e
                                · exact absurd hq (Nat.not_lt.2 e)
                          case measure => simp [intOf]; omega
                · obtain rfl : k = ls.length := by omega
                  have hall : dl.take ls.length = dl := List.take_of_length_le (by have := HDL.out; omega)
                  rw [hall] at J1
                  clear hall
                  go_wp2_with fail
                  go_ret
                  exact ⟨by rw [HZ.out]; rfl, ⟨v1, by unfold putT; rw [if_pos HZ.out]; exact J1.out, J2.out⟩, J3.out⟩
end Go.Proofs.YtdmejbjpbjcfbaaGreatDoor
