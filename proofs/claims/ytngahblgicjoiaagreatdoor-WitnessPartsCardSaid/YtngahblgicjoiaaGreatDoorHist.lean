/- A history: its table's rows put; what acts tell; a step done. -/
import Derived.Test.YtngahblgicjoiaaGreatDoorTabR
import Derived.Test.YtngahblgicjoiaaGreatDoorInsR
import Derived.Test.YtngahblgicjoiaaGreatDoorStepDefs
import Derived.Test.YtngahblgicjoiaaGreatDoorFirstN
import Derived.Test.YtngahblgicjoiaaGreatDoorKeys
import Derived.Test.YtngahblgicjoiaaGreatDoorOf

namespace Go.Proofs.YtngahblgicjoiaaGreatDoor
open Go.RowKit
open Go.Maps (Keyed)

theorem own_set2 {w : World} {B : Nat} {e : TypeId} {size n cap g : Nat} {xs : List Value} (h : w.ownsRow B e size (.slice (some ⟨g, 0, none⟩) n cap) n xs) (j : Nat) (u : Value) : (w.setCell ⟨g, j, none⟩ u).ownsRow B e size (.slice (some ⟨g, 0, none⟩) n cap) n (xs.set j u) := by
  obtain ⟨h1, h2⟩ := h
  refine ⟨by simpa using h1, .inr ?_⟩
  rcases h2 with ⟨h2, _⟩ | ⟨g', cap', cur, hv, hB, hg, hn, hm, hc, ht⟩
  · cases h2
  · simp only [Value.slice.injEq, Option.some.injEq, Addr.mk.injEq, and_true, true_and] at hv
    obtain ⟨rfl, rfl⟩ := hv
    have hb : Blk w g cur.toList e := by unfold Blk; rw [hg]
    have hs := hb.set j u
    unfold Blk at hs
    refine ⟨g, cap, (cur.toList.set j u).toArray, rfl, hB, hs, hn, hm, by simpa using hc, ?_⟩
    rw [List.toList_toArray, ← ht, List.take_set]
theorem flat_set (x : RowD) : ∀ (l : List RowD) (p : Nat), p < l.length → ((l.flatMap encRw).set (p * 2) (.string x.key)).set (p * 2 + 1) (.string x.value) = (l.set p x).flatMap encRw
  | d :: l, 0, _ => by simp [encRw]
  | d :: l, p + 1, h => by
    have ih := flat_set x l p (by simpa using h)
    have e : (p + 1) * 2 = p * 2 + 1 + 1 := by omega
    simp only [List.flatMap_cons, List.set_cons_succ]
    rw [← ih, e]
    simp [encRw]
theorem putR_there {x : RowD} {l : List RowD} (h : thereR (rkey x) l = true) : putR x l = l.set (placeR (rkey x) l) x := by
  unfold putR
  rw [h, if_pos rfl]
  have hp : placeR (rkey x) l < l.length := by
    unfold thereR at h
    cases hd : l[placeR (rkey x) l]? with
    | none => rw [hd] at h; cases h
    | some d => exact (List.getElem?_eq_some_iff.1 hd).1
  rw [List.set_eq_take_append_cons_drop, if_pos hp]
theorem putR_new {x : RowD} {l : List RowD} (h : thereR (rkey x) l = false) : putR x l = l.take (placeR (rkey x) l) ++ x :: l.drop (placeR (rkey x) l) := by
  unfold putR
  rw [h]; simp
theorem placeR_le (k : List UInt8) (l : List RowD) : placeR k l ≤ l.length := by unfold placeR; exact List.Sublist.length_le (List.takeWhile_sublist _)
theorem thereR_lt {k : List UInt8} {l : List RowD} (h : thereR k l = true) : placeR k l < l.length := by
  unfold thereR at h
  cases hd : l[placeR k l]? with
  | none => rw [hd] at h; cases h
  | some d => exact (List.getElem?_eq_some_iff.1 hd).1

theorem own_cases' {w : World} {B : Nat} {e : TypeId} {size n : Nat} {v : Value} {xs : List Value} (h : w.ownsRow B e size v (n + 1) xs) : ∃ g cap, v = .slice (some ⟨g, 0, none⟩) (n + 1) cap := by
  rcases own_cases h with ⟨_, h0⟩ | ⟨g, cap, hv, _, _⟩
  · omega
  · exact ⟨g, cap, hv⟩
/-- What a put leaves. -/
def PutR (B hb : Nat) (v m : Value) (l : List RowD) (w : World) (e : Ending) (w' : World) : Prop :=
  e = .returned (.tuple #[]) ∧ ∃ v', Blk w' hb [v', m] 111 ∧ w'.ownsRow B 73 2 v' l.length (l.flatMap encRw) ∧ (∀ j, v'.ownBlock = some j → v.ownBlock = some j ∨ w.heap.size ≤ j) ∧ But (fun j => j = hb ∨ v.ownBlock = some j) w w'

set_option maxRecDepth 100000 in
set_option maxHeartbeats 800000 in
theorem putT_calls {B : Nat} (x : RowD) (l : List RowD) (hb : Nat) (v m : Value) (w : World) (hl : l.length ≤ 999999) (hblk : Blk w hb [v, m] 111) (hown : w.ownsRow B 73 2 v l.length (l.flatMap encRw)) (hB : B ≤ w.heap.size) (hrise : RiseR l) :
    Calls Tryz.prog 99 #[.pointer (some ⟨hb, 0, none⟩), .agg (encRw x).toArray] w (PutR B hb v m (putR x l) w) := by
  obtain ⟨ao, cap, rfl, hlc, hcm, hrow⟩ := Rows.own (enc := encRw) (sz := 2) (fun _ => rfl) hown
  obtain ⟨W, hW⟩ : ∃ W, W = w.alloc (.cells (encRw x).toArray 73) := ⟨_, rfl⟩
  have hx : Ext w W := by rw [hW]; exact (Below.refl _ w).alloc (Nat.le_refl _) _
  have hbx : Blk W w.heap.size (encRw x) 73 := by rw [hW]; exact Blk.new w _ _
  have hne : (Value.slice ao l.length cap).ownBlock ≠ some hb := own_ne hown hblk (by decide)
  have hnx : (Value.slice ao l.length cap).ownBlock ≠ some w.heap.size := fun e => by have := hown.lt _ e; omega
  have hhx : hb ≠ w.heap.size := by have := hblk.lt; omega
  have hf : ∀ p : ExtBy W, Calls Tryz.prog 147 #[.agg #[.slice ao l.length cap], .string x.key] p.W fun e w' => e = .returned (.tuple #[.int .i64 (placeR (rkey x) l), .bool (thereR (rkey x) l)]) ∧ Ext p.W w' := fun p =>
    find_calls l ao cap x.key p.W (by omega) ((hrow.ext (Ext.trans hx p.ext)).mono (Ext.trans hx p.ext).size) hrise
  have HF := Lib.hid hf; have HX := Lib.hid hx; have HBX := Lib.hid hbx; have HW := Lib.hid hW
  have HBK := Lib.hid (hblk.ext' hx); have HOW := Lib.hid (own_ext hown hx)
  have NE := Lib.hid hne; have NX := Lib.hid hnx; have HB := Lib.hid hB
  have HRW := Lib.hid ((hrow.ext hx).mono hx.size)
  have c0 := ExtBy.cell (hbx.cell 0)
  have c1 := ExtBy.cell (hbx.cell 1)
  have b0 := ExtBy.cell ((hblk.ext' hx).cell 0)
  clear hf hx hbx hblk hown hne hnx hB hrow
  unfold maxLen at hcm
  cases hth : thereR (rkey x) l
  all_goals
    have TH := Lib.hid hth
    have HP := Lib.hid (placeR_le (rkey x) l)
    have hpl := HP.out
    simp only [encRw] at hW ⊢
    clear hth
    go_enter Tryz.func99, Tryz.ntmps99
    go_wp2_with fail
    rw [← hW]
    clear hW
    have hf := HF.out
    rw [TH.out] at hf
    have HFN := Lib.hid hf; clear hf
    refine wp_region_ext (by kernel_rfl) (by kernel_rfl) ?_
    repeat (go_big_quiet_step ((with_reducible exact Calls.ext_of _ (HFN.out _))))
    refine wpQuiet_nil ?_
    intro wc hw'
    have hxc : Ext W wc := by obtain ⟨p, rfl⟩ := hw'; exact p.ext
    clear hw' c0 c1 b0
    have XC := Lib.hid hxc
    have hbk := HBK.out.ext' hxc; have hbx := HBX.out.ext' hxc
    have hsz := hxc.size
    have hwsz := HBX.out.lt
    have c0 := hbx.cell 0; have c1 := hbx.cell 1; have b0 := hbk.cell 0; have bf := hbk.free 0
    simp only [encRw, List.getElem?_cons_zero, List.getElem?_cons_succ] at c0 c1 b0
    have BK := Lib.hid hbk; have BX := Lib.hid hbx
    have OW := Lib.hid (own_ext HOW.out hxc)
    clear hbk hbx hxc
    generalize hP : placeR (rkey x) l = P at hpl ⊢
    have EP := Lib.hid hP
    clear hP
  · -- a new row
    have i0 : (0 : Int) ≤ (P : Int) := by omega
    have nS : ¬ (w.heap.size = hb ∨ (Value.slice ao l.length cap).ownBlock = some w.heap.size) := fun e => e.elim (fun e => hhx e.symm) NX.out
    have k0 := ButBy.cell (S := fun j => j = hb ∨ (Value.slice ao l.length cap).ownBlock = some j) c0 nS
    have k1 := ButBy.cell (S := fun j => j = hb ∨ (Value.slice ao l.length cap).ownBlock = some j) c1 nS
    have BD : Hid (But (fun j => j = hb ∨ (Value.slice ao l.length cap).ownBlock = some j) wc wc.drew) := Lib.hid (But.refl _ wc).drew
    clear c0 c1 nS b0
    go_wp2_with fail
    refine wp_region_firstC (fun W => ∃ p : ButBy (fun j => j = hb ∨ (Value.slice ao l.length cap).ownBlock = some j) wc, W = p.W) [0, 1, 2, 3, 5, 6] 6 (by kernel_rfl) (by kernel_rfl) (fun _ _ _ _ h => h) ⟨⟨wc.drew, BD.out⟩, rfl⟩ ?_
    simp only [opsAt, List.getElem?_toArray, List.getElem?_cons_succ, List.getElem?_cons_zero]
    repeat (go_big_quiet_step (fail))
    refine wpQuiet_nil ?_
    obtain ⟨w9, hw9⟩ : ∃ w9, w9 = wc.drew := ⟨_, rfl⟩
    rw [← hw9]
    have X9 : Hid (But (fun j => j = hb ∨ (Value.slice ao l.length cap).ownBlock = some j) wc w9) := Lib.hid (by rw [hw9]; exact BD.out)
    have Y9 : Hid (Ext W w9) := Lib.hid (by rw [hw9]; exact Ext.trans XC.out (Below.refl _ wc).drew)
    clear hw9 k0 k1 BD
    have b0 := (HBK.out.ext' Y9.out).cell 0
    simp only [List.getElem?_cons_zero] at b0
    have hxa : Ext w9 (w9.alloc (.cells (encRw x).toArray 73)) := (Below.refl _ w9).alloc (Nat.le_refl _) _
    have hi := insert_callsR l x P (.slice ao l.length cap) w9.heap.size 1 (encRw x) _ (by omega) hpl (own_base (own_ext (own_ext HOW.out Y9.out) hxa) (fun _ _ => Nat.zero_le _)) (Blk.new w9 (encRw x) 73) rfl (fun e => by have := (own_ext HOW.out Y9.out).lt _ e; omega)
    have XA := Lib.hid (X9.out.trans (Ext.but hxa (fun j => j = hb ∨ (Value.slice ao l.length cap).ownBlock = some j)) (fun _ _ e => e) (fun _ _ e => e))
    have YA := Lib.hid (Ext.trans Y9.out hxa)
    simp only [encRw] at hi
    have HI := Lib.hid hi
    clear hi hxa
    refine wpAnyH_ready (rs := [4, 7]) (by kernel_rfl) (by simp) ?_
    refine AllReadyH.cons rfl (fun K hK => ?_) (AllReadyH.cons rfl (fun K hK => ?_) AllReadyH.nil)
    · go_simp
      refine hK.out _ _ ⟨⟨_, X9.out⟩, rfl⟩ (fun _ => ?_)
      clear hK K
      refine wpAnyH_ready (rs := [7]) (by kernel_rfl) (by simp) ?_
      refine AllReadyH.cons rfl (fun K hK => ?_) AllReadyH.nil
      go_simp
      refine hK.out _ _ ⟨⟨_, XA.out⟩, rfl⟩ (fun _ => ?_)
      clear hK K
      refine wpAnyH_ready (rs := [8]) (by kernel_rfl) (by simp) ?_
      refine AllReadyH.cons rfl (fun K hK => ?_) AllReadyH.nil
      go_simp
      refine HI.out.mono ?_
      rintro e wb ⟨v', rfl, hown', hkept, hbut⟩
      obtain ⟨g2, cp2, rfl⟩ := own_cases' hown'
      have YO := Lib.hid hown'; have YK := Lib.hid hkept
      have hbb := (HBK.out.ext' YA.out).but hbut NE.out
      have XB := Lib.hid (XA.out.trans hbut (fun _ _ e => e) (fun _ _ e => .inr e))
      have YB := Lib.hid hbut; have BB := Lib.hid hbb
      have b0 := hbb.cell 0; have bf := hbb.free 0
      simp only [List.getElem?_cons_zero] at b0
      clear hown' hkept hbut hbb
      refine hK.out _ _ ⟨⟨_, XB.out⟩, rfl⟩ (fun _ => ?_)
      clear hK K
      refine wp_takesC (f := 1) [9, 10] (by kernel_rfl) (fun _ _ _ _ h => h) ⟨⟨_, XB.out⟩, rfl⟩ ?_
      simp only [opsAt, List.getElem?_toArray, List.getElem?_cons_succ, List.getElem?_cons_zero]
      repeat (go_big_quiet_step (fail))
      refine wpQuiet_nil ?_
      refine wpAnyH_ready (rs := [11]) (by kernel_rfl) (by simp) ?_
      refine AllReadyH.cons rfl (fun K hK => ?_) AllReadyH.nil
      go_simp
      have XC2 := Lib.hid (XB.out.setCell (p := ⟨hb, 0, none⟩) (fun _ => .inl rfl) (.slice (some ⟨g2, 0, none⟩) (l.length + 1) cp2))
      refine hK.out _ _ ⟨⟨_, XC2.out⟩, rfl⟩ (fun _ => ?_)
      clear hK K
      refine wpAnyH_done (by kernel_rfl) ?_ _
      go_wp2_with fail
      go_end0
      have hlen : (l.take P ++ x :: l.drop P).length = l.length + 1 := by simp; omega
      refine ⟨rfl, _, BB.out.set 0 _, ?_, ?_, ?_⟩
      · rw [putR_new TH.out, EP.out, hlen]
        refine own_setOther (a := ⟨hb, 0, none⟩) (own_base YO.out fun k hk => ?_) (fun e => ?_) _
        · rcases YK.out k hk with e | e
          · exact (HOW.out.lt k e).1
          · have h1 := HX.out.size; have h2 := YA.out.size; have h3 := HB.out; simp only [World.size_alloc] at e h2; omega
        · rcases YK.out _ e with e | e
          · exact NE.out e
          · have h1 := HBK.out.lt; have h2 := YA.out.size; simp only [World.size_alloc] at e h2; omega
      · intro j hj
        rcases YK.out j hj with e | e
        · exact .inl e
        · have h1 := HX.out.size; have h2 := YA.out.size; simp only [World.size_alloc] at e h2; exact .inr (by omega)
      · exact (Ext.but (Ext.trans HX.out XC.out) (fun j => j = hb ∨ (Value.slice ao l.length cap).ownBlock = some j)).trans XC2.out (fun _ _ e => e) (fun _ _ e => e)
    · go_simp
      refine hK.out _ _ ⟨⟨_, XA.out⟩, rfl⟩ (fun _ => ?_)
      clear hK K
      have b0 := (HBK.out.ext' YA.out).cell 0
      simp only [encRw, List.getElem?_cons_zero] at b0
      refine wpAnyH_ready (rs := [4]) (by kernel_rfl) (by simp) ?_
      refine AllReadyH.cons rfl (fun K hK => ?_) AllReadyH.nil
      go_simp
      refine hK.out _ _ ⟨⟨_, XA.out⟩, rfl⟩ (fun _ => ?_)
      clear hK K b0
      refine wpAnyH_ready (rs := [8]) (by kernel_rfl) (by simp) ?_
      refine AllReadyH.cons rfl (fun K hK => ?_) AllReadyH.nil
      go_simp
      refine HI.out.mono ?_
      rintro e wb ⟨v', rfl, hown', hkept, hbut⟩
      obtain ⟨g2, cp2, rfl⟩ := own_cases' hown'
      have YO := Lib.hid hown'; have YK := Lib.hid hkept
      have hbb := (HBK.out.ext' YA.out).but hbut NE.out
      have XB := Lib.hid (XA.out.trans hbut (fun _ _ e => e) (fun _ _ e => .inr e))
      have YB := Lib.hid hbut; have BB := Lib.hid hbb
      have b0 := hbb.cell 0; have bf := hbb.free 0
      simp only [List.getElem?_cons_zero] at b0
      clear hown' hkept hbut hbb
      refine hK.out _ _ ⟨⟨_, XB.out⟩, rfl⟩ (fun _ => ?_)
      clear hK K
      refine wp_takesC (f := 1) [9, 10] (by kernel_rfl) (fun _ _ _ _ h => h) ⟨⟨_, XB.out⟩, rfl⟩ ?_
      simp only [opsAt, List.getElem?_toArray, List.getElem?_cons_succ, List.getElem?_cons_zero]
      repeat (go_big_quiet_step (fail))
      refine wpQuiet_nil ?_
      refine wpAnyH_ready (rs := [11]) (by kernel_rfl) (by simp) ?_
      refine AllReadyH.cons rfl (fun K hK => ?_) AllReadyH.nil
      go_simp
      have XC2 := Lib.hid (XB.out.setCell (p := ⟨hb, 0, none⟩) (fun _ => .inl rfl) (.slice (some ⟨g2, 0, none⟩) (l.length + 1) cp2))
      refine hK.out _ _ ⟨⟨_, XC2.out⟩, rfl⟩ (fun _ => ?_)
      clear hK K
      refine wpAnyH_done (by kernel_rfl) ?_ _
      go_wp2_with fail
      go_end0
      have hlen : (l.take P ++ x :: l.drop P).length = l.length + 1 := by simp; omega
      refine ⟨rfl, _, BB.out.set 0 _, ?_, ?_, ?_⟩
      · rw [putR_new TH.out, EP.out, hlen]
        refine own_setOther (a := ⟨hb, 0, none⟩) (own_base YO.out fun k hk => ?_) (fun e => ?_) _
        · rcases YK.out k hk with e | e
          · exact (HOW.out.lt k e).1
          · have h1 := HX.out.size; have h2 := YA.out.size; have h3 := HB.out; simp only [World.size_alloc] at e h2; omega
        · rcases YK.out _ e with e | e
          · exact NE.out e
          · have h1 := HBK.out.lt; have h2 := YA.out.size; simp only [World.size_alloc] at e h2; omega
      · intro j hj
        rcases YK.out j hj with e | e
        · exact .inl e
        · have h1 := HX.out.size; have h2 := YA.out.size; simp only [World.size_alloc] at e h2; exact .inr (by omega)
      · exact (Ext.but (Ext.trans HX.out XC.out) (fun j => j = hb ∨ (Value.slice ao l.length cap).ownBlock = some j)).trans XC2.out (fun _ _ e => e) (fun _ _ e => e)
  · -- a row in place of another
    have hpt : P < l.length := by rw [← EP.out]; exact thereR_lt TH.out
    rcases own_cases OW.out with ⟨_, h0⟩ | ⟨g, cap', hv, hg, hle⟩
    · omega
    simp only [Value.slice.injEq, true_and] at hv
    obtain ⟨rfl, rfl⟩ := hv
    obtain ⟨d, hd⟩ : ∃ d, l[P]? = some d := ⟨_, List.getElem?_eq_getElem hpt⟩
    have r0 := (OW.out.cellAt (P * 2) (by omega)).trans (flat_at (enc := encRw) (sz := 2) (fun _ => rfl) l P d hd 0 _ rfl)
    have r1 := (OW.out.cellAt (P * 2 + 1) (by omega)).trans (flat_at (enc := encRw) (sz := 2) (fun _ => rfl) l P d hd 1 _ rfl)
    have q0 := OW.out.frozenAt (P * 2); have q1 := OW.out.frozenAt (P * 2 + 1)
    have i0 : (0 : Int) ≤ (P : Int) := by omega
    have i1 : (P : Int) < (l.length : Int) := by omega
    clear hd
    go_wp2_with fail
    go_still_tail 7, (by kernel_rfl)
    go_wp2_with fail
    go_end0
    have hs := (own_set2 (own_set2 OW.out (P * 2) (.string x.key)) (P * 2 + 1) (.string x.value))
    rw [flat_set x l P hpt] at hs
    have hne : hb ≠ g := fun e => by subst e; exact NE.out rfl
    have hlen : (l.set P x).length = l.length := by simp
    refine ⟨rfl, _, (((BK.out.other (a := ⟨g, _, none⟩) hne _).other (a := ⟨g, _, none⟩) hne _).drew), ?_, fun j hj => .inl hj, ?_⟩
    · rw [putR_there TH.out, EP.out, hlen]
      exact own_ext hs (Below.refl _ _).drew
    · have hxw := Ext.trans HX.out XC.out
      exact ((((Ext.but hxw _).setCell (p := ⟨g, P * 2, none⟩) (fun _ => .inr rfl) _).setCell (p := ⟨g, P * 2 + 1, none⟩) (fun _ => .inr rfl) _)).drew
end Go.Proofs.YtngahblgicjoiaaGreatDoor
