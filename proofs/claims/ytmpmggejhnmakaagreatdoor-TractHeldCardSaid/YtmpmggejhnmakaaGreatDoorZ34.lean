/- tract.replace. -/
import Derived.Test.YtmpmggejhnmakaaGreatDoorZ32
import Derived.Test.YtmpmggejhnmakaaGreatDoorZ33
namespace Go.Proofs.YtmpmggejhnmakaaGreatDoor
open Go.RowKit
theorem TrIs.turn {w w' : World} {k : TrK} {d : TrD} (h : TrIs w k d) {pv' : Value} {ps' : List StrZ} {en : Int} (hb : Blk w' k.tb [.pointer (some ⟨k.rb, 0, none⟩), .pointer (some ⟨k.hb, 0, none⟩), .pointer (some ⟨k.pb, 0, none⟩), pv', .int .i64 en, .pointer none, .bool true] 86)
 (hx : But (fun j => j = k.tb) w w') (hpo : w'.ownsRow 0 92 5 pv' ps'.length (ps'.flatMap encSt)) (hf : pv' = k.pv ∨ ∀ j, pv'.ownBlock = some j → w.heap.size ≤ j) (hs : ∀ s ∈ ps', s.small) (hn : ps'.length ≤ 1000) :
 TrIs w' { k with pv := pv' } { d with parts := ps', ended := en } := by
 obtain ⟨n, xs, ho⟩ := h.ht.own
 have h1 : TabN (fun b => k.noH b ∨ w.heap.size ≤ b) w k.hb k.hv d.holds := h.ht.mono' fun b hb e => e.elim id (fun e => by omega)
 have h2 := h1.but' hx (Ne.symm h.tb_hb) (fun j hj e => own_bk ho h.blk (by decide) (e ▸ hj)) (fun b _ e => .inl (.inl e))
 refine ⟨hb, h.rt.but hx (Ne.symm h.tb_rb) (fun j hj e => own_bk h.rt.row h.blk (by decide) (e ▸ hj)), h2.mono' fun b _ e => ?_, h.pt.but hx (Ne.symm h.tb_pb), hpo, hs, hn⟩
 unfold TrK.noH at e ⊢
 rcases e with e | e | e | e | e
 · exact .inl (.inl e)
 · exact .inl (.inr (.inl e))
 · exact .inl (.inr (.inr (.inl e)))
 · exact .inl (.inr (.inr (.inr (.inl e))))
 · rcases hf with rfl | hf
   · exact .inl (.inr (.inr (.inr (.inr e))))
   · exact .inr (hf b e)
theorem TrTo.turn {w w' : World} {k : TrK} {d' : TrD} {pv' : Value} (hi : TrIs w' { k with pv := pv' } d') (hf : pv' = k.pv ∨ ∀ j, pv'.ownBlock = some j → w.heap.size ≤ j) (hx : But (fun j => j = k.tb) w w') : TrTo k d' w w' := by
 refine ⟨_, hi, rfl, rfl, rfl, rfl, fun b hb => ?_, hx.mono fun b _ e => .inl e⟩
 unfold TrK.owns at hb ⊢
 rcases hb with e | e | e | e | e | e | e
 · exact .inl (.inl e)
 · exact .inl (.inr (.inl e))
 · exact .inl (.inr (.inr (.inl e)))
 · exact .inl (.inr (.inr (.inr (.inl e))))
 · exact .inl (.inr (.inr (.inr (.inr (.inl e)))))
 · exact .inl (.inr (.inr (.inr (.inr (.inr (.inl e))))))
 · rcases hf with rfl | hf
   · exact .inl (.inr (.inr (.inr (.inr (.inr (.inr e))))))
   · exact .inr (hf b e)
theorem TrIs.slice {w : World} {k : TrK} {d : TrD} (h : TrIs w k d) : ∃ ao cap, k.pv = .slice ao d.parts.length cap ∧ Rows 5 encSt w.heap.size w ao d.parts ∧ w.cell? ⟨k.tb, 3, none⟩ = some (.slice ao d.parts.length cap) := by
 obtain ⟨ao, cap, hv, _, _, hr⟩ := Rows.own (enc := encSt) (sz := 5) (fun _ => rfl) h.po
 refine ⟨ao, cap, hv, hr, ?_⟩
 have := h.blk.cell 3
 simp only [List.getElem?_cons_zero, List.getElem?_cons_succ] at this
 rw [this, hv]
theorem repD_mem {l new : List StrZ} {i j : Nat} {s : StrZ} (h : s ∈ repD l new i j) : s ∈ l ∨ s ∈ new := by
 unfold repD at h
 rcases List.mem_append.1 h with h | h
 · rcases List.mem_append.1 h with h | h
   · exact .inl (List.mem_of_mem_take h)
   · exact .inr h
 · exact .inl (List.mem_of_mem_drop h)
set_option maxRecDepth 100000 in
set_option maxHeartbeats 1600000 in
theorem trReplace_calls (k : TrK) (d : TrD) (new : List StrZ) (i j vb vc : Nat) (cv : List Value) (w : World) (T : TrIs w k d) (hm : new.length ≤ 100) (hij : i < j) (hj : j ≤ d.parts.length) (hfew : (repD d.parts new i j).length ≤ 1000) (hsm : ∀ s ∈ new, s.small)
 (hv : Blk w vb cv 92) (hvt : cv.take (new.length * 5) = new.flatMap encSt) :
 Calls Tryz.prog 50 #[.pointer (some ⟨k.tb, 0, none⟩), .int .i64 i, .int .i64 j, .slice (some ⟨vb, 0, none⟩) new.length vc] w fun e w' => e = .returned (.tuple #[]) ∧ TrTo k { d with parts := repD d.parts new i j } w w' := by
 obtain ⟨ao, cap, hpv, hrow, c3⟩ := T.slice
 have HC := Lib.hid (clone_st_calls d.parts ao cap w (Nat.le_trans T.pn (by omega)) hrow)
 have HT := Lib.hid T; have HV := Lib.hid hv; have HVT := Lib.hid hvt; have HS := Lib.hid hsm
 have htl := T.blk.lt
 have hpn := T.pn
 clear T hrow hv hvt hsm hpv
 go_enter Tryz.func50, Tryz.ntmps50
 go_wp2_with fail
 refine HC.out.mono ?_
 rintro e w1 ⟨v1, rfl, ho1, hj1, hx1⟩
 obtain ⟨o1, cp1, rfl⟩ := own_slice ho1
 have hb1 := HV.out.ext' hx1
 have HR := Lib.hid (replace_calls d.parts new i j _ vb vc cv w1 hpn (by omega) hij hj ho1 hb1 HVT.out (fun e => by have := hj1 vb e; have := HV.out.lt; omega))
 have X1 := Lib.hid hx1; have J1 := Lib.hid hj1; have T1 := Lib.hid (HT.out.ext hx1)
 clear hx1 hj1 ho1 hb1 c3
 go_wp2_with fail
 refine HR.out.mono ?_
 rintro e w2 ⟨v2, rfl, ho2, hk2, hb2⟩
 obtain ⟨o2, cp2, rfl⟩ := own_slice ho2
 have hS : ∀ b, b < w.heap.size → ¬ (Value.slice o1 d.parts.length cp1).ownBlock = some b := fun b hb e => by have := J1.out b e; omega
 have hX2 : Ext w w2 := ((Ext.but X1.out (fun _ => False)).trans hb2 (U := fun b => w.heap.size ≤ b) (fun _ _ e => e.elim) (fun b _ e => J1.out b e)).ext (fun b hb e => by omega)
 have T2 := Lib.hid (HT.out.ext hX2)
 have f3 := T2.out.blk.free 3
 have c3 := T2.out.blk.cell 3
 simp only [List.getElem?_cons_zero, List.getElem?_cons_succ] at c3
 have hfresh : ∀ b, (Value.slice o2 (repD d.parts new i j).length cp2).ownBlock = some b → w.heap.size ≤ b := fun b e => by
  rcases hk2 b e with e | e
  · exact J1.out b e
  · exact Nat.le_trans X1.out.size e
 have X2 := Lib.hid hX2; have O2 := Lib.hid ho2; have FR := Lib.hid hfresh
 clear hk2 hb2 hX2 ho2 hfresh hS
 go_wp2_with fail
 refine bodyPost_end (results_none rfl _ _ _) rfl ?_
 have hbut : But (fun b => b = k.tb) w2 (w2.setCell ⟨k.tb, 3, none⟩ (.slice o2 (repD d.parts new i j).length cp2)) := (But.refl (fun b => b = k.tb) w2).setCell (p := ⟨k.tb, 3, none⟩) (fun _ => rfl) _
 have hb0 : But (fun b => b = k.tb) w (w2.setCell ⟨k.tb, 3, none⟩ (.slice o2 (repD d.parts new i j).length cp2)) := (Ext.but X2.out (fun _ => False)).trans hbut (fun _ _ e => e.elim) (fun _ _ e => e)
 refine ⟨rfl, ?_⟩
 have hmem : ∀ s ∈ repD d.parts new i j, s.small := fun s hs => (repD_mem hs).elim (HT.out.ps s) (HS.out s)
 exact TrTo.turn (HT.out.turn (en := d.ended) (T2.out.blk.set 3 _) hb0 (own_but O2.out hbut (fun b hb e => by have := FR.out b hb; omega)) (.inr FR.out) hmem hfew) (.inr FR.out) hb0
end Go.Proofs.YtmpmggejhnmakaaGreatDoor
