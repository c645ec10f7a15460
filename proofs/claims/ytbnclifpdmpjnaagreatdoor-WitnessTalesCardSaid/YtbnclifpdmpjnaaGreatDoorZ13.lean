/- A history: its table's rows put; what acts tell; a step done. -/
import Derived.Test.YtbnclifpdmpjnaaGreatDoorZ09
import Derived.Test.YtbnclifpdmpjnaaGreatDoorZ11
import Derived.Test.YtbnclifpdmpjnaaGreatDoorZ07
import Derived.Test.YtbnclifpdmpjnaaGreatDoorZ03
import Derived.Test.YtbnclifpdmpjnaaGreatDoorZ12
import Derived.Test.YtbnclifpdmpjnaaGreatDoorZ10
namespace Go.Proofs.YtbnclifpdmpjnaaGreatDoor
open Go.RowKit
open Go.Maps (Keyed)
theorem own_set2 {w : World} {B : Nat} {e : TypeId} {size n cap g : Nat} {xs : List Value} (h : w.ownsRow B e size (.slice (some ⟨g, 0, none⟩) n cap) n xs) (j : Nat) (u : Value) : (w.setCell ⟨g, j, none⟩ u).ownsRow B e size (.slice (some ⟨g, 0, none⟩) n cap) n (xs.set j u) := by
  obtain ⟨h1, h2⟩ := h
  refine ⟨by simpa using h1, .inr ?_⟩
  rcases h2 with ⟨h2, _⟩ | ⟨g', cap', cur, hv, hB, hg, hn, hm, hc, ht⟩
  · cases h2
  · simp only [Value.slice.injEq, Option.some.injEq, Addr.mk.injEq, and_true, true_and] at hv
    obtain ⟨rfl, rfl⟩ := hv
    have hb : Blk w g cur.toList e := by unfold Blk; rw [hg]
    have hs := hb.set j u
    unfold Blk at hs
    refine ⟨g, cap, (cur.toList.set j u).toArray, rfl, hB, hs, hn, hm, by simpa using hc, ?_⟩
    rw [List.toList_toArray, ← ht, List.take_set]
theorem flat_set (x : RowD) : ∀ (l : List RowD) (p : Nat), p < l.length → ((l.flatMap encRw).set (p * 2) (.string x.key)).set (p * 2 + 1) (.string x.value) = (l.set p x).flatMap encRw
  | d :: l, 0, _ => by simp [encRw]
  | d :: l, p + 1, h => by
    have ih := flat_set x l p (by simpa using h)
    have e : (p + 1) * 2 = p * 2 + 1 + 1 := by omega
    simp only [List.flatMap_cons, List.set_cons_succ]
    rw [← ih, e]
    simp [encRw]
theorem putR_there {x : RowD} {l : List RowD} (h : thereR (rkey x) l = true) : putR x l = l.set (placeR (rkey x) l) x := by
  unfold putR
  rw [h, if_pos rfl]
  have hp : placeR (rkey x) l < l.length := by
    unfold thereR at h
    cases hd : l[placeR (rkey x) l]? with
    | none => rw [hd] at h; cases h
    | some d => exact (List.getElem?_eq_some_iff.1 hd).1
  rw [List.set_eq_take_append_cons_drop, if_pos hp]
theorem putR_new {x : RowD} {l : List RowD} (h : thereR (rkey x) l = false) : putR x l = l.take (placeR (rkey x) l) ++ x :: l.drop (placeR (rkey x) l) := by
  unfold putR
  rw [h]; simp
theorem placeR_le (k : List UInt8) (l : List RowD) : placeR k l ≤ l.length := by unfold placeR; exact List.Sublist.length_le (List.takeWhile_sublist _)
theorem thereR_lt {k : List UInt8} {l : List RowD} (h : thereR k l = true) : placeR k l < l.length := by
  unfold thereR at h
  cases hd : l[placeR k l]? with
  | none => rw [hd] at h; cases h
  | some d => exact (List.getElem?_eq_some_iff.1 hd).1
theorem own_cases' {w : World} {B : Nat} {e : TypeId} {size n : Nat} {v : Value} {xs : List Value} (h : w.ownsRow B e size v (n + 1) xs) : ∃ g cap, v = .slice (some ⟨g, 0, none⟩) (n + 1) cap := by
  rcases own_cases h with ⟨_, h0⟩ | ⟨g, cap, hv, _, _⟩
  · omega
  · exact ⟨g, cap, hv⟩
def PutR (B hb : Nat) (v m : Value) (l : List RowD) (w : World) (e : Ending) (w' : World) : Prop :=
  e = .returned (.tuple #[]) ∧ ∃ v', Blk w' hb [v', m] 155 ∧ w'.ownsRow B 184 2 v' l.length (l.flatMap encRw) ∧ (∀ j, v'.ownBlock = some j → v.ownBlock = some j ∨ w.heap.size ≤ j) ∧ But (fun j => j = hb ∨ v.ownBlock = some j) w w'
set_option maxRecDepth 100000 in
set_option maxHeartbeats 800000 in
theorem putT_calls {B : Nat} (x : RowD) (l : List RowD) (hb : Nat) (v m : Value) (w : World) (hl : l.length ≤ 999999) (hblk : Blk w hb [v, m] 155) (hown : w.ownsRow B 184 2 v l.length (l.flatMap encRw)) (hB : B ≤ w.heap.size) (hrise : RiseR l) :
    Calls Tryz.prog 114 #[.pointer (some ⟨hb, 0, none⟩), .agg (encRw x).toArray] w (PutR B hb v m (putR x l) w) := by
  obtain ⟨ao, cap, rfl, hlc, hcm, hrow⟩ := Rows.own (enc := encRw) (sz := 2) (fun _ => rfl) hown
  obtain ⟨W, hW⟩ : ∃ W, W = w.alloc (.cells (encRw x).toArray 184) := ⟨_, rfl⟩
  have hx : Ext w W := by rw [hW]; exact (Below.refl _ w).alloc (Nat.le_refl _) _
  have hbx : Blk W w.heap.size (encRw x) 184 := by rw [hW]; exact Blk.new w _ _
  have hne : (Value.slice ao l.length cap).ownBlock ≠ some hb := own_ne hown hblk (by decide)
  have hnx : (Value.slice ao l.length cap).ownBlock ≠ some w.heap.size := fun e => by have := hown.lt _ e; omega
  have hhx : hb ≠ w.heap.size := by have := hblk.lt; omega
  have hf : ∀ p : ExtBy W, Calls Tryz.prog 131 #[.agg #[.slice ao l.length cap], .string x.key] p.W fun e w' => e = .returned (.tuple #[.int .i64 (placeR (rkey x) l), .bool (thereR (rkey x) l)]) ∧ Ext p.W w' := fun p =>
    find_calls l ao cap x.key p.W (by omega) ((hrow.ext (Ext.trans hx p.ext)).mono (Ext.trans hx p.ext).size) hrise
  have HF := Lib.hid hf; have HX := Lib.hid hx; have HBX := Lib.hid hbx; have HW := Lib.hid hW
  have HBK := Lib.hid (hblk.ext' hx); have HOW := Lib.hid (own_ext hown hx)
  have NE := Lib.hid hne; have NX := Lib.hid hnx; have HB := Lib.hid hB
  have HRW := Lib.hid ((hrow.ext hx).mono hx.size)
  have c0 := ExtBy.cell (hbx.cell 0)
  have c1 := ExtBy.cell (hbx.cell 1)
  have b0 := ExtBy.cell ((hblk.ext' hx).cell 0)
  clear hf hx hbx hblk hown hne hnx hB hrow
  unfold maxLen at hcm
  cases hth : thereR (rkey x) l
  all_goals
    have TH := Lib.hid hth
    have HP := Lib.hid (placeR_le (rkey x) l)
    have hpl := HP.out
    simp only [encRw] at hW ⊢
    clear hth
    go_enter Tryz.func114, Tryz.ntmps114
    go_wp2_with fail
    rw [← hW]
    clear hW
    have hf := HF.out
    rw [TH.out] at hf
    have HFN := Lib.hid hf; clear hf
    refine wp_region_ext (by kernel_rfl) (by kernel_rfl) ?_
    repeat (go_big_quiet_step ((with_reducible exact Calls.ext_of _ (HFN.out _))))
    refine wpQuiet_nil ?_
    intro wc hw'
    have hxc : Ext W wc := by obtain ⟨p, rfl⟩ := hw'; exact p.ext
    clear hw' c0 c1 b0
    have XC := Lib.hid hxc
    have hbk := HBK.out.ext' hxc; have hbx := HBX.out.ext' hxc
    have hsz := hxc.size
    have hwsz := HBX.out.lt
    have c0 := hbx.cell 0; have c1 := hbx.cell 1; have b0 := hbk.cell 0; have bf := hbk.free 0
    simp only [encRw, List.getElem?_cons_zero, List.getElem?_cons_succ] at c0 c1 b0
    have BK := Lib.hid hbk; have BX := Lib.hid hbx
    have OW := Lib.hid (own_ext HOW.out hxc)
    clear hbk hbx hxc
    generalize hP : placeR (rkey x) l = P at hpl ⊢
    have EP := Lib.hid hP
    clear hP
  · -- a new row
    have i0 : (0 : Int) ≤ (P : Int) := by omega
    have nS : ¬ (w.heap.size = hb ∨ (Value.slice ao l.length cap).ownBlock = some w.heap.size) := fun e => e.elim (fun e => hhx e.symm) NX.out
    have k0 := ButBy.cell (S := fun j => j = hb ∨ (Value.slice ao l.length cap).ownBlock = some j) c0 nS
    have k1 := ButBy.cell (S := fun j => j = hb ∨ (Value.slice ao l.length cap).ownBlock = some j) c1 nS
    have BD : Hid (But (fun j => j = hb ∨ (Value.slice ao l.length cap).ownBlock = some j) wc wc.drew) := Lib.hid (But.refl _ wc).drew
    clear c0 c1 nS b0
    go_wp2_with fail
    refine wp_region_firstC (fun W => ∃ p : ButBy (fun j => j = hb ∨ (Value.slice ao l.length cap).ownBlock = some j) wc, W = p.W) [0, 1, 2, 3, 5, 6] 6 (by kernel_rfl) (by kernel_rfl) (fun _ _ _ _ h => h) ⟨⟨wc.drew, BD.out⟩, rfl⟩ ?_
    simp only [opsAt, List.getElem?_toArray, List.getElem?_cons_succ, List.getElem?_cons_zero]
    repeat (go_big_quiet_step (fail))
    refine wpQuiet_nil ?_
    obtain ⟨w9, hw9⟩ : ∃ w9, w9 = wc.drew := ⟨_, rfl⟩
    rw [← hw9]
    have X9 : Hid (But (fun j => j = hb ∨ (Value.slice ao l.length cap).ownBlock = some j) wc w9) := Lib.hid (by rw [hw9]; exact BD.out)
    have Y9 : Hid (Ext W w9) := Lib.hid (by rw [hw9]; exact Ext.trans XC.out (Below.refl _ wc).drew)
    clear hw9 k0 k1 BD
    have b0 := (HBK.out.ext' Y9.out).cell 0
    simp only [List.getElem?_cons_zero] at b0
    have hxa : Ext w9 (w9.alloc (.cells (encRw x).toArray 184)) := (Below.refl _ w9).alloc (Nat.le_refl _) _
    have hi := insert_callsR l x P (.slice ao l.length cap) w9.heap.size 1 (encRw x) _ (by omega) hpl (own_base (own_ext (own_ext HOW.out Y9.out) hxa) (fun _ _ => Nat.zero_le _)) (Blk.new w9 (encRw x) 184) rfl (fun e => by have := (own_ext HOW.out Y9.out).lt _ e; omega)
    have XA := Lib.hid (X9.out.trans (Ext.but hxa (fun j => j = hb ∨ (Value.slice ao l.length cap).ownBlock = some j)) (fun _ _ e => e) (fun _ _ e => e))
    have YA := Lib.hid (Ext.trans Y9.out hxa)
    simp only [encRw] at hi
    have HI := Lib.hid hi
    clear hi hxa
    refine wpAnyH_ready (rs := [4, 7]) (by kernel_rfl) (by simp) ?_
    refine AllReadyH.cons rfl (fun K hK => ?_) (AllReadyH.cons rfl (fun K hK => ?_) AllReadyH.nil)
    · go_simp
      refine hK.out _ _ ⟨⟨_, X9.out⟩, rfl⟩ (fun _ => ?_)
      clear hK K
      refine wpAnyH_ready (rs := [7]) (by kernel_rfl) (by simp) ?_
      refine AllReadyH.cons rfl (fun K hK => ?_) AllReadyH.nil
      go_simp
      refine hK.out _ _ ⟨⟨_, XA.out⟩, rfl⟩ (fun _ => ?_)
      clear hK K
      refine wpAnyH_ready (rs := [8]) (by kernel_rfl) (by simp) ?_
      refine AllReadyH.cons rfl (fun K hK => ?_) AllReadyH.nil
      go_simp
      refine HI.out.mono ?_
      rintro e wb ⟨v', rfl, hown', hkept, hbut⟩
      obtain ⟨g2, cp2, rfl⟩ := own_cases' hown'
      have YO := Lib.hid hown'; have YK := Lib.hid hkept
      have hbb := (HBK.out.ext' YA.out).but hbut NE.out
      have XB := Lib.hid (XA.out.trans hbut (fun _ _ e => e) (fun _ _ e => .inr e))
      have YB := Lib.hid hbut; have BB := Lib.hid hbb
      have b0 := hbb.cell 0; have bf := hbb.free 0
      simp only [List.getElem?_cons_zero] at b0
      clear hown' hkept hbut hbb
      refine hK.out _ _ ⟨⟨_, XB.out⟩, rfl⟩ (fun _ => ?_)
      clear hK K
      refine wp_takesC (f := 1) [9, 10] (by kernel_rfl) (fun _ _ _ _ h => h) ⟨⟨_, XB.out⟩, rfl⟩ ?_
      simp only [opsAt, List.getElem?_toArray, List.getElem?_cons_succ, List.getElem?_cons_zero]
      repeat (go_big_quiet_step (fail))
      refine wpQuiet_nil ?_
      refine wpAnyH_ready (rs := [11]) (by kernel_rfl) (by simp) ?_
      refine AllReadyH.cons rfl (fun K hK => ?_) AllReadyH.nil
      go_simp
      have XC2 := Lib.hid (XB.out.setCell (p := ⟨hb, 0, none⟩) (fun _ => .inl rfl) (.slice (some ⟨g2, 0, none⟩) (l.length + 1) cp2))
      refine hK.out _ _ ⟨⟨_, XC2.out⟩, rfl⟩ (fun _ => ?_)
      clear hK K
      refine wpAnyH_done (by kernel_rfl) ?_ _
      go_wp2_with fail
      go_end0
      have hlen : (l.take P ++ x :: l.drop P).length = l.length + 1 := by simp; omega
      refine ⟨rfl, _, BB.out.set 0 _, ?_, ?_, ?_⟩
      · rw [putR_new TH.out, EP.out, hlen]
        refine own_setOther (a := ⟨hb, 0, none⟩) (own_base YO.out fun k hk => ?_) (fun e => ?_) _
        · rcases YK.out k hk with e | e
          · exact (HOW.out.lt k e).1
          · have h1 := HX.out.size; have h2 := YA.out.size; have h3 := HB.out; simp only [World.size_alloc] at e h2; omega
        · rcases YK.out _ e with e | e
          · exact NE.out e
          · have h1 := HBK.out.lt; have h2 := YA.out.size; simp only [World.size_alloc] at e h2; omega
      · intro j hj
        rcases YK.out j hj with e | e
        · exact .inl e
        · have h1 := HX.out.size; have h2 := YA.out.size; simp only [World.size_alloc] at e h2; exact .inr (by omega)
      · exact (Ext.but (Ext.trans HX.out XC.out) (fun j => j = hb ∨ (Value.slice ao l.length cap).ownBlock = some j)).trans XC2.out (fun _ _ e => e) (fun _ _ e => e)
    · go_simp
      refine hK.out _ _ ⟨⟨_, XA.out⟩, rfl⟩ (fun _ => ?_)
      clear hK K
      have b0 := (HBK.out.ext' YA.out).cell 0
      simp only [encRw, List.getElem?_cons_zero] at b0
      refine wpAnyH_ready (rs := [4]) (by kernel_rfl) (by simp) ?_
      refine AllReadyH.cons rfl (fun K hK => ?_) AllReadyH.nil
      go_simp
      refine hK.out _ _ ⟨⟨_, XA.out⟩, rfl⟩ (fun _ => ?_)
      clear hK K b0
      refine wpAnyH_ready (rs := [8]) (by kernel_rfl) (by simp) ?_
      refine AllReadyH.cons rfl (fun K hK => ?_) AllReadyH.nil
      go_simp
      refine HI.out.mono ?_
      rintro e wb ⟨v', rfl, hown', hkept, hbut⟩
      obtain ⟨g2, cp2, rfl⟩ := own_cases' hown'
      have YO := Lib.hid hown'; have YK := Lib.hid hkept
      have hbb := (HBK.out.ext' YA.out).but hbut NE.out
      have XB := Lib.hid (XA.out.trans hbut (fun _ _ e => e) (fun _ _ e => .inr e))
      have YB := Lib.hid hbut; have BB := Lib.hid hbb
      have b0 := hbb.cell 0; have bf := hbb.free 0
      simp only [List.getElem?_cons_zero] at b0
      clear hown' hkept hbut hbb
      refine hK.out _ _ ⟨⟨_, XB.out⟩, rfl⟩ (fun _ => ?_)
      clear hK K
      refine wp_takesC (f := 1) [9, 10] (by kernel_rfl) (fun _ _ _ _ h => h) ⟨⟨_, XB.out⟩, rfl⟩ ?_
      simp only [opsAt, List.getElem?_toArray, List.getElem?_cons_succ, List.getElem?_cons_zero]
      repeat (go_big_quiet_step (fail))
      refine wpQuiet_nil ?_
      refine wpAnyH_ready (rs := [11]) (by kernel_rfl) (by simp) ?_
      refine AllReadyH.cons rfl (fun K hK => ?_) AllReadyH.nil
      go_simp
      have XC2 := Lib.hid (XB.out.setCell (p := ⟨hb, 0, none⟩) (fun _ => .inl rfl) (.slice (some ⟨g2, 0, none⟩) (l.length + 1) cp2))
      refine hK.out _ _ ⟨⟨_, XC2.out⟩, rfl⟩ (fun _ => ?_)
      clear hK K
      refine wpAnyH_done (by kernel_rfl) ?_ _
      go_wp2_with fail
      go_end0
      have hlen : (l.take P ++ x :: l.drop P).length = l.length + 1 := by simp; omega
      refine ⟨rfl, _, BB.out.set 0 _, ?_, ?_, ?_⟩
      · rw [putR_new TH.out, EP.out, hlen]
        refine own_setOther (a := ⟨hb, 0, none⟩) (own_base YO.out fun k hk => ?_) (fun e => ?_) _
        · rcases YK.out k hk with e | e
          · exact (HOW.out.lt k e).1
          · have h1 := HX.out.size; have h2 := YA.out.size; have h3 := HB.out; simp only [World.size_alloc] at e h2; omega
        · rcases YK.out _ e with e | e
          · exact NE.out e
          · have h1 := HBK.out.lt; have h2 := YA.out.size; simp only [World.size_alloc] at e h2; omega
      · intro j hj
        rcases YK.out j hj with e | e
        · exact .inl e
        · have h1 := HX.out.size; have h2 := YA.out.size; simp only [World.size_alloc] at e h2; exact .inr (by omega)
      · exact (Ext.but (Ext.trans HX.out XC.out) (fun j => j = hb ∨ (Value.slice ao l.length cap).ownBlock = some j)).trans XC2.out (fun _ _ e => e) (fun _ _ e => e)
  · -- a row in place of another
    have hpt : P < l.length := by rw [← EP.out]; exact thereR_lt TH.out
    rcases own_cases OW.out with ⟨_, h0⟩ | ⟨g, cap', hv, hg, hle⟩
    · omega
    simp only [Value.slice.injEq, true_and] at hv
    obtain ⟨rfl, rfl⟩ := hv
    obtain ⟨d, hd⟩ : ∃ d, l[P]? = some d := ⟨_, List.getElem?_eq_getElem hpt⟩
    have r0 := (OW.out.cellAt (P * 2) (by omega)).trans (flat_at (enc := encRw) (sz := 2) (fun _ => rfl) l P d hd 0 _ rfl)
    have r1 := (OW.out.cellAt (P * 2 + 1) (by omega)).trans (flat_at (enc := encRw) (sz := 2) (fun _ => rfl) l P d hd 1 _ rfl)
    have q0 := OW.out.frozenAt (P * 2); have q1 := OW.out.frozenAt (P * 2 + 1)
    have i0 : (0 : Int) ≤ (P : Int) := by omega
    have i1 : (P : Int) < (l.length : Int) := by omega
    clear hd
    go_wp2_with fail
    go_still_tail 7, (by kernel_rfl)
    go_wp2_with fail
    go_end0
    have hs := (own_set2 (own_set2 OW.out (P * 2) (.string x.key)) (P * 2 + 1) (.string x.value))
    rw [flat_set x l P hpt] at hs
    have hne : hb ≠ g := fun e => by subst e; exact NE.out rfl
    have hlen : (l.set P x).length = l.length := by simp
    refine ⟨rfl, _, (((BK.out.other (a := ⟨g, _, none⟩) hne _).other (a := ⟨g, _, none⟩) hne _).drew), ?_, fun j hj => .inl hj, ?_⟩
    · rw [putR_there TH.out, EP.out, hlen]
      exact own_ext hs (Below.refl _ _).drew
    · have hxw := Ext.trans HX.out XC.out
      exact ((((Ext.but hxw _).setCell (p := ⟨g, P * 2, none⟩) (fun _ => .inr rfl) _).setCell (p := ⟨g, P * 2 + 1, none⟩) (fun _ => .inr rfl) _)).drew
end Go.Proofs.YtbnclifpdmpjnaaGreatDoor
/- What acts tell, taken out of a map of rows: witness.told. -/
namespace Go.Proofs.YtbnclifpdmpjnaaGreatDoor
open Go.RowKit
open Go.Maps (Keyed)
def NoCells (w : World) (b : Nat) : Prop := ∀ cs t x, w.heap[b]? ≠ some (.cells cs t x)
theorem NoCells.ne {w : World} {b g : Nat} (h : NoCells w b) {i : Nat} {v : Value} (hc : w.cell? ⟨g, i, none⟩ = some v) : g ≠ b := by
  intro e; subst e
  unfold World.cell? at hc
  split at hc
  · rename_i c t x hg; exact h _ _ _ hg
  · cases hc
theorem NRows.step {α : Type} {sz : Nat} {enc : α → List Value} {no no' S : Nat → Prop} {w w' : World} {ao : Option Addr} {l : List α} (h : NRows sz enc no w ao l) (hx : But S w w') (hS : ∀ b, b < w.heap.size → S b → no b ∨ NoCells w b)
    (hn : ∀ b, b < w.heap.size → no' b → no b) : NRows sz enc no' w' ao l := by
  intro hl
  obtain ⟨g, off, rfl, hg, hno, hc⟩ := h hl
  refine ⟨g, off, rfl, by have := hx.size; omega, fun e => hno (hn g hg e), fun i x hi j v hj => (hx.cell (p := ⟨g, _, none⟩) hg fun hs => ?_).trans (hc i x hi j v hj)⟩
  rcases hS g hg hs with e | e
  · exact hno e
  · exact e.ne (hc i x hi j v hj) rfl
theorem MapF.noCells {P : Program} {k : TypeId} {w : World} {b n : Nat} {z : Value} {val : Lit → Value} {has : Lit → Bool} (h : MapF P k w b n z val has) : NoCells w b := fun _ _ _ e => h.ne e rfl
theorem NRows.drop3 {no : Nat → Prop} {w : World} {ao ao' : Option Addr} {r : Rd} {rs : List Rd} (h : NRows 3 encRd no w ao (r :: rs)) (ha : rs ≠ [] → ∀ b off, ao = some ⟨b, off, none⟩ → ao' = some ⟨b, off + 3, none⟩) : NRows 3 encRd no w ao' rs := by
  intro hl
  obtain ⟨g, off, rfl, hg, hno, hc⟩ := h (by simp)
  refine ⟨g, off + 3, ha hl g off rfl, hg, hno, fun i x hi j v hj => ?_⟩
  have := hc (i + 1) x (by simpa using hi) j v hj
  rw [show off + (i + 1) * 3 + j = off + 3 + i * 3 + j from by omega] at this
  exact this
structure ToldAt (no : Nat → Prop) (w : World) (mb n : Nat) (m : Told) : Prop where
  own : ∃ val has, MapF Tryz.prog 9 w mb n (.slice none 0 0) val has ∧ ∀ x : Txt, ∃ ao cap, val (.string x) = .slice ao (m x).length cap ∧ (m x).length ≤ cap ∧ NRows 3 encRd no w ao (m x)
variable {no no' S : Nat → Prop} {w w' : World} {mb n : Nat} {m : Told}
theorem ToldAt.lt (T : ToldAt no w mb n m) : mb < w.heap.size := by obtain ⟨_, _, h, _⟩ := T.own; exact h.lt
theorem ToldAt.noCells (T : ToldAt no w mb n m) : NoCells w mb := by obtain ⟨_, _, h, _⟩ := T.own; exact h.noCells
theorem ToldAt.step (T : ToldAt no w mb n m) (hx : But S w w') (hm : ¬ S mb) (hS : ∀ b, b < w.heap.size → S b → no b) (hn : ∀ b, b < w.heap.size → no' b → no b) : ToldAt no' w' mb n m := by
  obtain ⟨val, has, h1, h2⟩ := T.own
  refine ⟨val, has, h1.same (hx.block _ h1.lt hm), fun x => ?_⟩
  obtain ⟨ao, cap, e1, e2, e3⟩ := h2 x
  exact ⟨ao, cap, e1, e2, e3.step hx (fun b hb e => .inl (hS b hb e)) hn⟩
theorem ToldAt.ext (T : ToldAt no w mb n m) (hx : Ext w w') : ToldAt no w' mb n m := T.step (Ext.but hx fun _ => False) id (fun _ _ e => e.elim) (fun _ _ e => e)
theorem ToldAt.moreN (T : ToldAt no w mb n m) {n' : Nat} (hn : n ≤ n') : ToldAt no w mb n' m := by
  obtain ⟨val, has, h1, h2⟩ := T.own
  exact ⟨val, has, h1.mono hn, h2⟩
theorem ToldAt.congr (T : ToldAt no w mb n m) {m' : Told} (h : ∀ x, m x = m' x) : ToldAt no w mb n m' := by
  have : m = m' := funext h
  subst this; exact T
theorem ToldAt.made (no : Nat → Prop) (w : World) : ToldAt no (w.alloc (.map #[] 0)) w.heap.size 0 (fun _ => []) :=
  ⟨_, _, MapF.made _ _ _ _, fun _ => ⟨none, 0, rfl, Nat.le_refl _, fun h => absurd rfl h⟩⟩
theorem ToldAt.look (T : ToldAt no w mb n m) (k : ByteArray) (hk : k.size ≤ 140737488351232) : ∃ ao cap, (m k.data.toList).length ≤ cap ∧ NRows 3 encRd no w ao (m k.data.toList) ∧
    ∀ W, Ext w W → (Instr.lookup 228 (.map (some mb)) (.string k) false).run Tryz.prog W = .ok (.slice ao (m k.data.toList).length cap) W := by
  obtain ⟨val, has, h1, h2⟩ := T.own
  obtain ⟨ao, cap, e1, e2, e3⟩ := h2 k.data.toList
  refine ⟨ao, cap, e2, e3, fun W hW => ?_⟩
  rw [← e1]
  exact (h1.ext hW).lookup strKeyed Tryz.underlying228 (by kernel_rfl) (WideMaps.keyOf_string_mk Tryz.underlying9 (by unfold maxLen; omega))
theorem ToldAt.put (T : ToldAt no w mb n m) (hn : n < 1000000) (k : ByteArray) (hk : k.size ≤ 140737488351232) (rs : List Rd) (ao : Option Addr) (cap : Nat) (hc : rs.length ≤ cap) (hr : NRows 3 encRd no w ao rs) :
    ∃ w', (Instr.mapUpdate 228 (.map (some mb)) (.string k) (.slice ao rs.length cap)).run Tryz.prog w = .ok () w' ∧ ToldAt no w' mb (n + 1) (fun x => if x = k.data.toList then rs else m x) ∧ But (fun j => j = mb) w w' := by
  obtain ⟨val, has, h1, h2⟩ := T.own
  obtain ⟨w', hrun, hmap, hg⟩ := h1.update strKeyed Tryz.underlying228 (by unfold maxLen; omega) (key := .string k) (v := .slice ao rs.length cap) (WideMaps.keyOf_string_mk Tryz.underlying9 (by unfold maxLen; omega))
  have hb : But (fun j => j = mb) w w' := (But.of_grown hg).mono fun i _ e => (Option.some.inj e).symm
  have hrow : ∀ {ao : Option Addr} {l : List Rd}, NRows 3 encRd no w ao l → NRows 3 encRd no w' ao l := fun h =>
    h.step hb (fun b _ e => by subst e; exact .inr h1.noCells) (fun _ _ e => e)
  refine ⟨w', hrun, ⟨_, _, hmap, fun x => ?_⟩, hb⟩
  by_cases e : x = k.data.toList
  · subst e
    exact ⟨ao, cap, by simp, by simpa using hc, by simpa using hrow hr⟩
  · obtain ⟨bo, c2, e1, e2, e3⟩ := h2 x
    refine ⟨bo, c2, ?_, ?_, ?_⟩
    · simp only [Lit.string.injEq, e, if_false]; exact e1
    · simpa [e] using e2
    · simpa [e] using hrow e3
theorem slice_one3 {t : TypeId} (ht : Tryz.prog.underlying t = some (.slice (Tryz.prog.elem t))) (hz : ∀ W, (sizeOf (Tryz.prog.elem t)).run Tryz.prog W = .ok 3 W) (ao : Option Addr) (len cap : Nat) (h : 1 ≤ len) (hc : len ≤ cap) :
    ∃ ao', (2 ≤ len → ∀ b off, ao = some ⟨b, off, none⟩ → ao' = some ⟨b, off + 3, none⟩) ∧ ∀ W, (Instr.slice t (.slice ao len cap) (some (.int .i64 1)) none none).run Tryz.prog W = .ok (.slice ao' (len - 1) (cap - 1)) W := by
  refine ⟨if cap = 1 then ao else ao.map (·.add (1 * 3)), fun hl b off e => ?_, fun W => ?_⟩
  · rw [if_neg (by omega), e, Option.map_some, WideShapes.add_plain]
  · rw [run_slice_l W t _ _ _ ht .i64 1 (by omega) (by omega), hz W]
    simp only [Result.andThen_ok, sliced, show (1 : Int).toNat = 1 from rfl]
theorem elemRds : Tryz.prog.underlying 28 = some (.slice (Tryz.prog.elem 28)) := by kernel_rfl
theorem sizeRds : ∀ W, (sizeOf (Tryz.prog.elem 28)).run Tryz.prog W = .ok 3 W := fun W => by kernel_rfl
theorem tellAct_skip {p : List Rd × Told} {a : ActD} (h : a.kind = 2) : tellAct p a = p := by unfold tellAct; rw [if_pos h]
theorem tellAct_take {p : List Rd × Told} {a : ActD} {r : Rd} {rs : List Rd} (h : a.kind ≠ 2) (hp : p.2 (keyT a) = r :: rs) : tellAct p a = (p.1 ++ [r], fun x => if x = keyT a then rs else p.2 x) := by
  unfold tellAct
  rw [if_neg h, hp]
  simp only [List.head?_cons, Option.toList_some]
  congr 1
  funext x
  split
  · rename_i e; rw [e, hp]; rfl
  · rfl
def ToldPost (w : World) (mb : Nat) (l : List Rd) (e : Ending) (w' : World) : Prop :=
  ∃ rv, e = .returned rv ∧ w'.ownsRow 0 117 3 rv l.length (l.flatMap encRd) ∧ (∀ j, rv.ownBlock = some j → w.heap.size ≤ j) ∧ But (fun j => j = mb) w w'
set_option maxRecDepth 100000 in
set_option maxHeartbeats 1600000 in
theorem told_calls (acts : List ActD) (ao : Option Addr) (cap : Nat) (w : World) (mb n : Nat) (m : Told) (hl : acts.length ≤ 1000) (hok : ∀ a ∈ acts, a.ok) (hr : Rows 4 encAct w.heap.size w ao acts)
    (T : ToldAt (fun b => w.heap.size ≤ b) w mb n m) (hn : n ≤ 1000) (hm : ∀ x, (m x).length = cntK x acts) :
    Calls Tryz.prog 115 #[.slice ao acts.length cap, .map (some mb)] w (ToldPost w mb (tellAt m acts).1) := by
  obtain ⟨i0, hi, hz0, hz1, hz2⟩ := info_parts infoRd
  have HR := Lib.hid hr; have HT := Lib.hid T; have HM := Lib.hid hm; have HOK := Lib.hid hok
  have hmb := T.lt
  clear hr T hm hok
  go_enter Tryz.func115, Tryz.ntmps115
  go_wp2_with fail
  go_loopw [5, 10] (fun v i wr => ∃ (k : Nat), k ≤ acts.length ∧ i = .int .i64 k ∧ wr.ownsRow 0 117 3 v (tellAt m (acts.take k)).1.length ((tellAt m (acts.take k)).1.flatMap encRd) ∧ (∀ j, v.ownBlock = some j → w.heap.size ≤ j) ∧ ToldAt (fun b => w.heap.size ≤ b) wr mb (n + k) (tellAt m (acts.take k)).2 ∧ But (fun j => j = mb) w wr) (fun _ i _ => acts.length - (intOf i).toNat)
  case atStart => exact ⟨0, by omega, rfl, World.ownsRow_nil _ _ _ _, by simp [Value.ownBlock], HT.out, But.refl _ _⟩
  case round =>
    obtain ⟨k, hk, rfl, hown, hnew, htold, hx⟩ := hrel
    have K1 := Lib.hid hown; have K2 := Lib.hid hnew; have K3 := Lib.hid htold; have K4 := Lib.hid hx
    clear hown hnew htold hx
    by_cases hlt : k < acts.length
    · obtain ⟨x, hx⟩ : ∃ x, acts[k]? = some x := ⟨_, List.getElem?_eq_getElem hlt⟩
      obtain ⟨b, off, rfl, hb, _, hcell⟩ := (NRows.step (no := fun _ => False) (no' := fun _ => False) (HR.out.nrows (Nat.le_refl _) (fun _ _ e => e)) K4.out (fun b _ e => by subst e; exact .inr HT.out.noCells) (fun _ _ e => e)) (by intro e; rw [e] at hlt; simp at hlt)
      have hcx := hcell k x hx
      have hsucc : tellAt m (acts.take (k + 1)) = tellAct (tellAt m (acts.take k)) x := by rw [List.take_add_one, hx, Option.toList_some, tellAt_snoc]
      have hbd : (tellAt m (acts.take k)).1.length ≤ 1000 := Nat.le_trans (tell_len _ _) (by simp; omega)
      have hsome := fun h => tell_some HM.out hx h
      have hkz := (HOK.out x (List.mem_of_getElem? hx)).2.2.1
      obtain ⟨q, hq⟩ : ∃ q, tellAt m (acts.take k) = q := ⟨_, rfl⟩
      rw [hq] at K1 K3 hsucc hbd hsome
      have SU := Lib.hid hsucc
      obtain ⟨kd, ky, val, num⟩ := x
      have d0 := hcx 0 _ rfl; have d1 := hcx 1 _ rfl; have d2 := hcx 2 _ rfl; have d3 := hcx 3 _ rfl
      simp only [Nat.add_zero] at d0
      have hi0 : (0 : Int) ≤ (k : Int) := by omega
      have hi1 : (k : Int) < (acts.length : Int) := by omega
      have SO := Lib.hid hsome
      clear hsucc hx hcell hcx hq hsome
      have E1 : Hid (Ext wr (wr.alloc (.cells #[.int .u8 kd, .string ky, .string val, .int .i64 num] 114))) := Lib.hid ((Below.refl _ wr).alloc (Nat.le_refl _) _)
      by_cases hkd : kd = 2
      · have g1 : (kd != 2) = false := by simp [hkd]
        have HK := Lib.hid hkd; clear hkd
        go_wp2_with fail
        go_roundw
        case rel => exact ⟨k + 1, by omega, by go_num, by rw [SU.out, tellAct_skip HK.out]; exact own_ext K1.out E1.out, K2.out, by rw [SU.out, tellAct_skip HK.out]; exact ((K3.out.ext E1.out).moreN (by omega)), K4.out.trans (Ext.but E1.out (fun _ => False)) (fun _ _ e => e) (fun _ _ e => e.elim)⟩
        case measure => simp [intOf]; omega
      · have g1 : (kd != 2) = true := by simp [hkd]
        obtain ⟨r, rs, hrs⟩ := SO.out hkd
        have HK := Lib.hid hkd; clear hkd
        obtain ⟨ao2, cap2, hc2, hr2, hlk⟩ := K3.out.look ky hkz
        have hrs2 : q.2 ky.data.toList = r :: rs := hrs
        rw [hrs2] at hc2 hr2 hlk
        obtain ⟨b2, off2, rfl, hb2, hno2, hcell2⟩ := hr2 (by simp)
        have hcr := hcell2 0 r rfl
        have hlk0 := hlk _ E1.out
        simp only [List.length_cons] at hlk0 hc2
        have RS := Lib.hid hrs2
        obtain ⟨rk, ri, rv⟩ := r
        have e0 := (E1.out.cell (p := ⟨b2, _, none⟩) hb2).trans (hcr 0 _ rfl); have e1 := (E1.out.cell (p := ⟨b2, _, none⟩) hb2).trans (hcr 1 _ rfl); have e2 := (E1.out.cell (p := ⟨b2, _, none⟩) hb2).trans (hcr 2 _ rfl)
        simp only [Nat.zero_mul, Nat.add_zero] at e0 e1 e2
        have j0 : (0 : Int) < ((rs.length + 1 : Nat) : Int) := by omega
        have j1 : 0 < rs.length + 1 := by omega
        have CN := Lib.hid (cells_new (wr.alloc (.cells #[.int .u8 kd, .string ky, .string val, .int .i64 num] 114)) [.string rk, .bool ri, .string rv] 117)
        rw [show (wr.alloc (.cells #[.int .u8 kd, .string ky, .string val, .int .i64 num] 114)).heap.size = wr.heap.size + 1 from by simp] at CN
        have E2 : Hid (Ext wr ((wr.alloc (.cells #[.int .u8 kd, .string ky, .string val, .int .i64 num] 114)).alloc (.cells #[.string rk, .bool ri, .string rv] 117))) := Lib.hid (((Below.refl _ wr).alloc (Nat.le_refl _) _).alloc (by simp) _)
        have BX : Hid (Blk ((wr.alloc (.cells #[.int .u8 kd, .string ky, .string val, .int .i64 num] 114)).alloc (.cells #[.string rk, .bool ri, .string rv] 117)) wr.heap.size [.int .u8 kd, .string ky, .string val, .int .i64 num] 114) := Lib.hid ((Blk.new wr _ _).alloc _)
        clear hc2 hr2 hlk hb2 hno2 hcell2 hcr hrs2 hrs
        go_wp2_with (at_builtin; refine wpList_append_at _ rfl _ _ 28 rfl 117 i0 _ 3 40 Tryz.underlying28 hi hz0 hz1 hz2 rfl (by decide) _ q.1.length (q.1.flatMap encRd) rfl (own_ext K1.out E2.out) ⟨wr.heap.size + 1, 0, none⟩ 1 1 (encRd ⟨rk, ri, rv⟩) rfl rfl CN.out (by simp [encRd, Value.oneCell']) (by decide) (by unfold maxLen; omega) (by omega) ?_; intro g cap3 w1 hown' hbut hkept; have X1 := Lib.hid hown'; have X2 := Lib.hid hbut; have X3 := Lib.hid hkept; clear hown' hbut hkept)
        have hlt0 := K1.out.lt
        have hbx : Blk w1 wr.heap.size [.int .u8 kd, .string ky, .string val, .int .i64 num] 114 := BX.out.but X2.out (fun e => by have := (hlt0 _ e).2; omega)
        have b1 := hbx.cell 1
        simp only [List.getElem?_cons_zero, List.getElem?_cons_succ] at b1
        have T1 : ToldAt (fun b => w.heap.size ≤ b) w1 mb (n + k) q.2 := (K3.out.ext E2.out).step X2.out (fun e => by have := K2.out _ e; omega) (fun b _ e => K2.out b e) (fun _ _ e => e)
        obtain ⟨ao3, cap4, hc3, hr3, hlk3⟩ := T1.look ky hkz
        rw [RS.out] at hc3 hr3 hlk3
        simp only [List.length_cons] at hc3 hlk3
        obtain ⟨ao4, h4, hsl⟩ := slice_one3 elemRds sizeRds ao3 (rs.length + 1) cap4 (by omega) hc3
        have hxd : Ext w1 w1.drew := (Below.refl _ w1).drew
        have hl1 := hlk3 w1 (Below.refl _ _); have hl2 := hlk3 _ hxd
        obtain ⟨w4, hrun, T4, B4⟩ := (T1.ext hxd).put (by omega) ky hkz rs ao4 (cap4 - 1) (by omega) ((hr3.ext hxd).drop3 (fun hne b off e => h4 (by have := List.length_pos_iff.2 hne; omega) b off e))
        have hs1 := hsl w1; have hs2 := hsl w1.drew
        simp only [Nat.add_sub_cancel] at hs1 hs2
        have TT := Lib.hid T4; have BB := Lib.hid (But.trans ((But.refl (fun j => j = mb) w1).drew) B4 (U := fun j => j = mb) (fun _ _ e => e) (fun _ _ e => e))
        clear hbx T1 hc3 hr3 hlk3 h4 hsl hxd T4 B4 e0 e1 e2 hlk0 hlt0
        go_still_tail 8, (by kernel_rfl)
        change wpList _ _ _ _ _ w1.drew
        go_wp2_with fail
        go_roundw
        case rel =>
          refine ⟨k + 1, by omega, by go_num, ?_, ?_, ?_, ?_⟩
          · rw [SU.out, tellAct_take HK.out RS.out]
            have := own_but X1.out BB.out (fun j hj e => by
              have hj2 := X3.out j hj
              have e' : j = mb := e
              subst e'
              rcases hj2 with e | e
              · have := K2.out _ e; omega
              · have := K3.out.lt; have := E2.out.size; omega)
            rw [List.length_append, List.flatMap_append]
            simpa using this
          · intro j hj
            rcases X3.out j hj with e | e
            · exact K2.out j e
            · have := K4.out.size; have := E2.out.size; omega
          · rw [SU.out, tellAct_take HK.out RS.out, show n + (k + 1) = n + k + 1 from by omega]
            exact TT.out
          · exact ((K4.out.trans (Ext.but E2.out (fun _ => False)) (fun _ _ e => e) (fun _ _ e => e.elim)).trans X2.out (fun _ _ e => e) (fun i hi e => by have := K2.out i e; omega)).trans BB.out (fun _ _ e => e) (fun _ _ e => e)
        case measure => simp [intOf]; omega
    · have hall : acts.take k = acts := List.take_of_length_le (by omega)
      have HA := Lib.hid hall; clear hall
      go_wp2_with fail
      go_ret
      exact ⟨_, rfl, by have := K1.out; rwa [HA.out] at this, K2.out, K4.out⟩
end Go.Proofs.YtbnclifpdmpjnaaGreatDoor
