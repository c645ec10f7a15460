/- own: holds in memory of their own. -/
import Derived.Test.YtdmejbjpbjcfbaaGreatDoorCloneH
import Derived.Deep.RegionWith
namespace Go.Proofs.YtdmejbjpbjcfbaaGreatDoor
open Go.RowKit

theorem infoHold : (Tryz.prog.info? 35).map (fun i => (i.zero, i.size, i.bytes)) = some (some (.agg #[.string ⟨#[]⟩, .int .i64 0, .int .i64 0, .slice none 0 0, .slice none 0 0, .bool false, .string ⟨#[]⟩]), 7, 104) := by kernel_rfl
/-- Room for a hold's rows. -/
def HoldD.fits (d : HoldD) : Prop := d.acts.length ≤ 1000000 ∧ d.reads.length ≤ 1000000

set_option maxRecDepth 100000 in
set_option maxHeartbeats 3200000 in
theorem own_calls (l : List HoldV) (ds : List HoldD) (ao : Option Addr) (cap : Nat) (w : World) (hl : l.length ≤ 1000000) (hr : Rows 7 encHV w.heap.size w ao l) (hd : HoldsAre w (fun _ => False) l ds) (hfit : ∀ d ∈ ds, d.fits) :
    Calls Tryz.prog 53 #[.slice ao l.length cap] w fun e w' => ∃ (v : Value) (l' : List HoldV), e = .returned v ∧ l'.length = l.length ∧ w'.ownsRow 0 35 7 v l'.length (l'.flatMap encHV) ∧ (∀ j, v.ownBlock = some j → w.heap.size ≤ j) ∧ HoldsAre w' (fun b => v.ownBlock = some b ∨ b < w.heap.size) l' ds ∧ Ext w w' := by
  obtain ⟨i0, hi, hz0, hz1, hz2⟩ := info_parts infoHold
  have HR := Lib.hid hr; have HD := Lib.hid hd; have HF := Lib.hid hfit
  have HDL := Lib.hid hd.len
  clear hr hd hfit
  go_enter Tryz.func53, Tryz.ntmps53
  go_wp2_with fail
  go_loopw [3, 8] (fun v i wr => ∃ (k : Nat) (q : List HoldV), k ≤ l.length ∧ i = .int .i64 k ∧ q.length = k ∧ wr.ownsRow 0 35 7 v q.length (q.flatMap encHV) ∧ (∀ j, v.ownBlock = some j → w.heap.size ≤ j) ∧ HoldsAre wr (fun b => v.ownBlock = some b ∨ b < w.heap.size) q (ds.take k) ∧ Ext w wr) (fun _ i _ => l.length - (intOf i).toNat)
  case atStart => exact ⟨0, [], by omega, rfl, rfl, World.ownsRow_nil _ _ _ _, by simp [Value.ownBlock], trivial, Below.refl _ _⟩
  case round =>
    obtain ⟨k, q, hk, rfl, hq, hown, hnew, hare, hx⟩ := hrel
    have K1 := Lib.hid hown; have K2 := Lib.hid hnew; have K3 := Lib.hid hare; have K4 := Lib.hid hx
    clear hown hnew hare hx
    by_cases hlt : k < l.length
    · obtain ⟨x, hx⟩ : ∃ x, l[k]? = some x := ⟨_, List.getElem?_eq_getElem hlt⟩
      obtain ⟨d, hdk, hxd⟩ := HD.out.at k x hx
      have hfd := HF.out d (List.mem_of_getElem? hdk)
      obtain ⟨b, off, rfl, hb, hcell⟩ := HR.out (by intro e; rw [e] at hlt; simp at hlt)
      have hcx := hcell k x hx
      have hmove : ∀ j, wr.cell? ⟨b, j, none⟩ = w.cell? ⟨b, j, none⟩ := fun j => K4.out.cell (p := ⟨b, j, none⟩) hb
      have htk : ds.take (k + 1) = ds.take k ++ [d] := by rw [List.take_add_one, hdk]; rfl
      obtain ⟨key0, cl, nm, xo, xn, xc, yo, yn, yc, put, value⟩ := x
      have ean : xn = d.acts.length := hxd.an
      have ern : yn = d.reads.length := hxd.rn
      subst ean ern
      have d0 := (hmove _).trans (hcx 0 _ rfl); have d1 := (hmove _).trans (hcx 1 _ rfl); have d2 := (hmove _).trans (hcx 2 _ rfl); have d3 := (hmove _).trans (hcx 3 _ rfl); have d4 := (hmove _).trans (hcx 4 _ rfl); have d5 := (hmove _).trans (hcx 5 _ rfl); have d6 := (hmove _).trans (hcx 6 _ rfl)
      simp only [Nat.add_zero] at d0
      have TK := Lib.hid htk; have XD := Lib.hid hxd; have HQ := Lib.hid hq
      obtain ⟨hfa, hfr⟩ := hfd
      have hql : q.length ≤ 1000000 := by omega
      have ii0 : (0 : Int) ≤ (k : Int) := by omega
      have i1 : (k : Int) < (l.length : Int) := by omega
      have hbox := Blk.new wr [.string key0, .int .i64 cl, .int .i64 nm, .slice xo d.acts.length xc, .slice yo d.reads.length yc, .bool put, .string value] 35
      have hxb : Ext wr (wr.alloc (.cells #[.string key0, .int .i64 cl, .int .i64 nm, .slice xo d.acts.length xc, .slice yo d.reads.length yc, .bool put, .string value] 35)) := (Below.refl _ wr).alloc (Nat.le_refl _) _
      have HB := Lib.hid hbox; have XB := Lib.hid hxb
      clear hx hdk hcell hcx hmove htk hxd hq hbox hxb
      have hal : ∀ W, Ext wr W → Rows 4 encAct W.heap.size W xo d.acts := fun W hW => ((XD.out.acts.rows.ext (Ext.trans K4.out hW)).mono (Ext.trans K4.out hW).size)
      have hrl : ∀ W, Ext wr W → Rows 3 encRd W.heap.size W yo d.reads := fun W hW => ((XD.out.reads.rows.ext (Ext.trans K4.out hW)).mono (Ext.trans K4.out hW).size)
      have HAL := Lib.hid hal; have HRL := Lib.hid hrl; clear hal hrl
      go_wp2_with fail
      have hB := HB.out; have hXB := XB.out
      generalize wr.alloc _ = w1 at hB hXB ⊢
      have hNN : wr.heap.size ≤ wr.heap.size := Nat.le_refl _
      generalize hNw : wr.heap.size = N at hB ⊢
      have HN := Lib.hid (show wr.heap.size ≤ N by omega)
      clear hNN hNw
      have c3 := hB.cell 3; have c4 := hB.cell 4; have f3 := hB.free 3; have f4 := hB.free 4
      simp only [List.getElem?_cons_zero, List.getElem?_cons_succ] at c3 c4
      have hN := hB.lt
      have hW1 := Lib.hid (show wr.heap.size ≤ w1.heap.size from hXB.size)
      have HB1 := Lib.hid hB; have XB1 := Lib.hid hXB
      clear hB hXB
      have hcx : ∀ W, Ext w1 W → W.cell? ⟨N, 3, none⟩ = some (.slice xo d.acts.length xc) ∧ W.cell? ⟨N, 4, none⟩ = some (.slice yo d.reads.length yc) ∧ W.frozen? ⟨N, 3, none⟩ = false ∧ W.frozen? ⟨N, 4, none⟩ = false := fun W hW =>
        ⟨(hW.cell (p := ⟨N, 3, none⟩) hN).trans c3, (hW.cell (p := ⟨N, 4, none⟩) hN).trans c4, (hW.frozen (p := ⟨N, 3, none⟩) hN).trans f3, (hW.frozen (p := ⟨N, 4, none⟩) hN).trans f4⟩
      have HCX := Lib.hid hcx; clear hcx
      go_region_with (first
        | (go_at_call 108; refine (clone_acts_calls d.acts _ _ _ hfa (HAL.out _ (by first | exact (Ext.trans XB1.out (Below.refl _ _).drew) | exact (Ext.trans XB1.out xr)))).mono ?_; rintro e wa ⟨va, rfl, hva, hna, hxa⟩; obtain ⟨pa, qa, rfl, -⟩ := Rows.own (enc := encAct) (sz := 4) (fun _ => rfl) hva; have xa : Ext w1 wa := Ext.trans (by first | exact (Below.refl _ _).drew | exact xr) hxa; obtain ⟨a3, a4, af3, af4⟩ := HCX.out wa xa; have VA := Lib.hid hva; have NA := Lib.hid hna; have XA := Lib.hid hxa; clear hva hna hxa)
        | (go_at_call 109; refine (clone_reads_calls d.reads _ _ _ hfr (HRL.out _ (by first | exact (Ext.trans XB1.out (Below.refl _ _).drew) | exact (Ext.trans XB1.out xa)))).mono ?_; rintro e wb ⟨vb, rfl, hvb, hnb, hxb⟩; obtain ⟨pb, qb, rfl, -⟩ := Rows.own (enc := encRd) (sz := 3) (fun _ => rfl) hvb; have xr : Ext w1 wb := Ext.trans (by first | exact (Below.refl _ _).drew | exact xa) hxb; obtain ⟨b3, b4, bf3, bf4⟩ := HCX.out wb xr; have VB := Lib.hid hvb; have NB := Lib.hid hnb; have XB := Lib.hid hxb; clear hvb hnb hxb))
      all_goals
        have key : ∀ W, Ext w1 W → W.ownsRow 0 98 4 (.slice pa d.acts.length qa) d.acts.length (d.acts.flatMap encAct) → W.ownsRow 0 100 3 (.slice pb d.reads.length qb) d.reads.length (d.reads.flatMap encRd) →
            Blk ((W.setCell ⟨N, 3, none⟩ (.slice pa d.acts.length qa)).setCell ⟨N, 4, none⟩ (.slice pb d.reads.length qb)) N [.string key0, .int .i64 cl, .int .i64 nm, .slice pa d.acts.length qa, .slice pb d.reads.length qb, .bool put, .string value] 35 ∧
            Ext wr ((W.setCell ⟨N, 3, none⟩ (.slice pa d.acts.length qa)).setCell ⟨N, 4, none⟩ (.slice pb d.reads.length qb)) ∧
            (HoldV.mk key0 cl nm pa d.acts.length qa pb d.reads.length qb put value).is ((W.setCell ⟨N, 3, none⟩ (.slice pa d.acts.length qa)).setCell ⟨N, 4, none⟩ (.slice pb d.reads.length qb)) (fun b => b < w1.heap.size) d := by
          intro W hW ha hb
          have na : ∀ j, (Value.slice pa d.acts.length qa).ownBlock = some j → w1.heap.size ≤ j := fun j hj => by have := NA.out j hj; first | exact this | (have h := xr.size; omega)
          have nb : ∀ j, (Value.slice pb d.reads.length qb).ownBlock = some j → w1.heap.size ≤ j := fun j hj => by have := NB.out j hj; first | exact this | (have h := xa.size; omega)
          have ha2 := own_setOther (own_setOther ha (a := ⟨N, 3, none⟩) (fun e => by have := na N e; omega) (.slice pa d.acts.length qa)) (a := ⟨N, 4, none⟩) (fun e => by have := na N e; omega) (.slice pb d.reads.length qb)
          have hb2 := own_setOther (own_setOther hb (a := ⟨N, 3, none⟩) (fun e => by have := nb N e; omega) (.slice pa d.acts.length qa)) (a := ⟨N, 4, none⟩) (fun e => by have := nb N e; omega) (.slice pb d.reads.length qb)
          refine ⟨((HB1.out.ext' hW).set 3 _).set 4 _, ((Ext.trans XB1.out hW).setCell (p := ⟨N, 3, none⟩) HN.out _).setCell (p := ⟨N, 4, none⟩) HN.out _, ?_⟩
          exact ⟨XD.out.key, XD.out.cl, XD.out.nm, rfl, rfl, XD.out.put, XD.out.value, nrows_of_own (fun _ => rfl) ha2 (fun j hj e => by have := na j hj; omega), nrows_of_own (fun _ => rfl) hb2 (fun j hj e => by have := nb j hj; omega)⟩
      all_goals
        have hfin := (by first | exact key wb xr (own_ext VA.out XB.out) VB.out | exact key wa xa VA.out (own_ext VB.out XA.out))
        clear key
        obtain ⟨hb2, hx2, hv2⟩ := hfin
        generalize World.setCell _ ⟨N, 4, none⟩ _ = W2 at hb2 hx2 hv2 ⊢
        have c0 := hb2.cell 0; have c1 := hb2.cell 1; have c2 := hb2.cell 2; have c3' := hb2.cell 3; have c4' := hb2.cell 4; have c5 := hb2.cell 5; have c6 := hb2.cell 6
        simp only [List.getElem?_cons_zero, List.getElem?_cons_succ] at c0 c1 c2 c3' c4' c5 c6
        have HX2 := Lib.hid hx2; have HV2 := Lib.hid hv2
        have CN := Lib.hid (cells_new W2 (encHV ⟨key0, cl, nm, pa, d.acts.length, qa, pb, d.reads.length, qb, put, value⟩) 35)
        have E2 : Hid (Ext W2 (W2.alloc (.cells (encHV ⟨key0, cl, nm, pa, d.acts.length, qa, pb, d.reads.length, qb, put, value⟩).toArray 35))) := Lib.hid ((Below.refl _ W2).alloc (Nat.le_refl _) _)
        clear hb2 hx2 hv2 c3 c4 f3 f4 a3 a4 af3 af4 b3 b4 bf3 bf4 VA VB NA NB XA XB xa xr
        go_wp2_with (at_builtin; refine wpList_append_at _ rfl _ _ 22 rfl 35 i0 _ 7 104 Tryz.underlying22 hi hz0 hz1 hz2 rfl (by decide) _ q.length (q.flatMap encHV) rfl (own_ext (own_ext K1.out HX2.out) E2.out) ⟨W2.heap.size, 0, none⟩ 1 1 (encHV ⟨key0, cl, nm, pa, d.acts.length, qa, pb, d.reads.length, qb, put, value⟩) rfl rfl CN.out (one_hold _) (by decide) (by unfold maxLen; omega) (by omega) ?_; intro g cap2 w4 hown' hbut hkept; have Y1 := Lib.hid hown'; have Y2 := Lib.hid hbut; have Y3 := Lib.hid hkept; clear hown' hbut hkept)
        go_roundw
        case rel =>
          have hx3 := Ext.trans HX2.out E2.out
          have hsz2 := HX2.out.size
          have hszE := E2.out.size
          have hlt3 : ∀ j, u3.ownBlock = some j → j < wr.heap.size := fun j hj => (K1.out.lt j hj).2
          refine ⟨k + 1, q ++ [⟨key0, cl, nm, pa, d.acts.length, qa, pb, d.reads.length, qb, put, value⟩], by omega, by go_num, by rw [List.length_append, HQ.out]; rfl, ?_, ?_, ?_, ?_⟩
          · have := Y1.out
            rw [List.length_append, List.flatMap_append]
            simpa using this
          · intro j hj
            rcases Y3.out j hj with e | e
            · exact K2.out j e
            · have e' := Nat.le_trans E2.out.size e; have := K4.out.size; omega
          · rw [TK.out]
            have hq3 : HoldsAre (W2.alloc (.cells (encHV ⟨key0, cl, nm, pa, d.acts.length, qa, pb, d.reads.length, qb, put, value⟩).toArray 35)) (fun b => u3.ownBlock = some b ∨ b < w.heap.size) q (ds.take k) := K3.out.ext hx3
            have hv3 : HoldsAre (W2.alloc (.cells (encHV ⟨key0, cl, nm, pa, d.acts.length, qa, pb, d.reads.length, qb, put, value⟩).toArray 35)) (fun b => u3.ownBlock = some b ∨ b < w.heap.size) [⟨key0, cl, nm, pa, d.acts.length, qa, pb, d.reads.length, qb, put, value⟩] [d] :=
              ⟨(HV2.out.ext E2.out).mono (fun b _ e => by
                rcases e with e | e
                · have := hlt3 b e; have := hW1.out; omega
                · have := K4.out.size; have := hW1.out; omega), trivial⟩
            have hall := HoldsAre.append hq3 hv3
            have h2 := HoldsAre.mono (no' := fun b => (u3.ownBlock = some b ∨ b < w.heap.size) ∨ ((Value.slice (some ⟨g, 0, none⟩) (q.length + 1) cap2).ownBlock = some b ∨ b < w.heap.size)) (fun b hb e => by
              rcases e with e | e
              · exact e
              · rcases e with e | e
                · rcases Y3.out b e with e | e
                  · exact .inl e
                  · exact absurd e (Nat.not_le.2 hb)
                · exact .inr e) hall
            have h3 := HoldsAre.but Y2.out (fun b _ e => .inl (.inl e)) h2
            exact h3.mono (fun b _ e => .inr e)
          · exact Below.trans K4.out (((Ext.but hx3 (fun _ => False)).trans Y2.out (U := fun j => w.heap.size ≤ j) (fun _ _ e => e.elim) (fun i _ e => K2.out i e)).below K4.out.size (fun _ h => h))
        case measure => simp [intOf]; omega
    · have hall : ds.take k = ds := List.take_of_length_le (by have := HDL.out; omega)
      rw [hall] at K3
      have HQ := Lib.hid hq
      clear hall hq
      go_wp2_with fail
      go_ret
      exact ⟨_, q, rfl, by have := HQ.out; omega, K1.out, K2.out, K3.out, K4.out⟩
end Go.Proofs.YtdmejbjpbjcfbaaGreatDoor
