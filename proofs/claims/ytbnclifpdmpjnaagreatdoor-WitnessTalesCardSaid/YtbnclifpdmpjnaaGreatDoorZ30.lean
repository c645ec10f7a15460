/- The end of a round of the document's From: the place is looked for, the step and its key are put there. -/
import Derived.Test.YtbnclifpdmpjnaaGreatDoorZ28
import Derived.Test.YtbnclifpdmpjnaaGreatDoorZ20
namespace Go.Proofs.YtbnclifpdmpjnaaGreatDoor
open Go.RowKit
def regOf (n : Nat) : Code → Option Code
  | .region i o m => if i = n then some (.region i o m) else none
  | .seq a b => match regOf n a with
    | some c => some c
    | none => regOf n b
  | .block _ c => regOf n c
  | .scope c => regOf n c
  | .loop c => regOf n c
  | _ => none
def behindOf (n : Nat) : Code → Option Code
  | .seq (.region i _ _) b => if i = n then some b else behindOf n b
  | .seq a b => match behindOf n a with
    | some c => some c
    | none => behindOf n b
  | .block _ c => behindOf n c
  | .scope c => behindOf n c
  | .loop c => behindOf n c
  | _ => none
noncomputable def reg20 : Code := (regOf 20 fromBody).getD .skip
noncomputable def reg25 : Code := (regOf 25 fromBody).getD .skip
noncomputable def reg28 : Code := (regOf 28 fromBody).getD .skip
noncomputable def reg29 : Code := (regOf 29 fromBody).getD .skip
noncomputable def behind20 : Code := (behindOf 20 fromBody).getD .skip
noncomputable def behind25 : Code := (behindOf 25 fromBody).getD .skip
theorem infoI : (Tryz.prog.info? 3).map (fun i => (i.zero, i.size, i.bytes)) = some (some (.int .i64 0), 1, 8) := by kernel_rfl
theorem elemI : Tryz.prog.underlying 59 = some (.slice (Tryz.prog.elem 59)) := by kernel_rfl
theorem sizeI : ∀ W, (sizeOf (Tryz.prog.elem 59)).run Tryz.prog W = .ok 1 W := fun W => by kernel_rfl
theorem rowsOneI {w : World} {p : Nat} {z : Int} {t : TypeId} (h : Blk w p [.int .i64 z] t) : Rows 1 encI w.heap.size w (some ⟨p, 0, none⟩) [z] := rows_blk (enc := encI) (sz := 1) (fun _ => rfl) (l := [z]) (by simpa [encI] using h) (by simp)
theorem stepAddI {ops : Array Oper} {o : Oper} {a : Act} {K : Act → World → Prop} {Q : Exit → Act → World → Prop} {E : Prop} (hgd : o.guard = none) (s x : Operand)
    (ho : o.op = .call { callee := .builtin .append, args := #[s, x], argTypes := #[59, 59] })
    {base W : World} {acc l : List Int} {v : Value} {xo : Option Addr} {c : Nat} (hs : a.eval s = v) (hx : a.eval x = .slice xo l.length c)
    (hown : W.ownsRow 0 3 1 v acc.length (acc.flatMap encI)) (hnew : ∀ j, v.ownBlock = some j → base.heap.size ≤ j) (hext : Ext base W) (hr : Rows 1 encI W.heap.size W xo l) (hlen : acc.length + l.length ≤ 1000) (m : List Int) (hm : acc ++ l = m)
    (h : ∀ so c' w', w'.ownsRow 0 3 1 (.slice so m.length c') m.length (m.flatMap encI) → (∀ j, (Value.slice so m.length c').ownBlock = some j → base.heap.size ≤ j) → m.length ≤ c' → Ext base w' → But (fun k => v.ownBlock = some k) W w' → K (a.put o.dst (.slice so m.length c')) w') :
    if Region.wanted o (yielded ops a.tmps) = true then Oper.wp Tryz.prog o a W K Q else E := by
  obtain ⟨i0, hi, hz0, hz1, hz2⟩ := info_parts infoI
  refine step_append_rows (enc := encI) (size := 1) (fun _ => rfl) one_int hgd s x 59 ho 3 i0 _ 8 Tryz.underlying59 hi hz0 hz1 hz2 rfl (by decide) v acc.length (acc.flatMap encI) hs hown xo l c hx hr (by unfold maxLen; omega) (by omega) ?_
  intro v' w' h1 h2 h3
  have h4 : w'.ownsRow 0 3 1 v' m.length (m.flatMap encI) := by
    rw [← hm, List.length_append, List.flatMap_append]; exact h1
  obtain ⟨so, c', rfl, hc, -, -⟩ := Rows.own (enc := encI) (sz := 1) (fun _ => rfl) h4
  refine h so c' w' h4 (fun j e => ?_) hc ?_ h2
  · rcases h3 j e with e | e
    · exact hnew j e
    · exact Nat.le_trans hext.size e
  · exact Below.trans hext (h2.below hext.size (fun i e => hnew i e))
set_option maxRecDepth 1000000 in
set_option maxHeartbeats 6400000 in
theorem keys_wp {Q0 : Exit → Act → World → Prop} (hpn : ∀ ch (a : Act) tmps w, Q0 (Exit.panic ch) ⟨tmps, a.defers⟩ w → Q0 (Exit.panic ch) a w) {ks m : List Int} {k : Int} {t ac : Nat} {aa : Option Addr} {w : World} (hl : ks.length ≤ 60) (ht : t ≤ ks.length) (hc : ks.length ≤ ac) (hm : ks.take t ++ [k] ++ ks.drop t = m) (hr : Rows 1 encI w.heap.size w aa ks) {c0 c1 c2 c3 c4 c6 c7 c9 c10 c11 c12 c13 c14 c15 c16 c18 c19 c20 c21 c22 c23 c24 c25 c26 c27 c28 c29 c30 c31 c32 c33 c34 c35 c36 c37 c38 c39 c40 c41 c42 c43 c44 c45 c46 c47 c48 c49 c50 c51 c52 c53 c54 c55 c56 c57 c58 c59 c60 c61 c62 c63 c64 c65 c66 c67 c68 c69 c70 c71 c72 c73 c74 c75 c76 c77 c78 c79 c80 c81 c82 c83 c84 c85 c86 c87 c88 c89 c90 c91 c92 c93 c94 c95 c96 c97 c98 c99 c100 c101 c102 c103 c104 c105 c106 c107 c108 c109 c110 c111 c112 c113 c114 c115 c116 c117 c118 c119 c120 c121 c122 c123 c124 c125 c126 c127 c128 c129 c130 c131 c132 c133 c134 c135 c136 c137 c138 c139 c140 c141 c142 c143 c144 c145 c146 c147 c148 c149 c150 c151 c152 c153 c154 c155 c156 c157 c158 c159 : Value}
    (hput : ∀ (g147 g148 g149 g150 g151 g152 g153 g154 g155 g156 g157 g158 : Value) (so : Option Addr) (c' : Nat) (w' : World), m.length ≤ c' → Rows 1 encI w'.heap.size w' so m → Ext w w' → Q0 .normal ⟨List.toArray (c0 :: c1 :: c2 :: c3 :: c4 :: .slice so m.length c' :: c6 :: c7 :: .int .i64 k :: c9 :: c10 :: c11 :: c12 :: c13 :: c14 :: c15 :: c16 :: .int .i64 (t : Int) :: c18 :: c19 :: c20 :: c21 :: c22 :: c23 :: c24 :: c25 :: c26 :: c27 :: c28 :: c29 :: c30 :: c31 :: c32 :: c33 :: c34 :: c35 :: c36 :: c37 :: c38 :: c39 :: c40 :: c41 :: c42 :: c43 :: c44 :: c45 :: c46 :: c47 :: c48 :: c49 :: c50 :: c51 :: c52 :: c53 :: c54 :: c55 :: c56 :: c57 :: c58 :: c59 :: c60 :: c61 :: c62 :: c63 :: c64 :: c65 :: c66 :: c67 :: c68 :: c69 :: c70 :: c71 :: c72 :: c73 :: c74 :: c75 :: c76 :: c77 :: c78 :: c79 :: c80 :: c81 :: c82 :: c83 :: c84 :: c85 :: c86 :: c87 :: c88 :: c89 :: c90 :: c91 :: c92 :: c93 :: c94 :: c95 :: c96 :: c97 :: c98 :: c99 :: c100 :: c101 :: c102 :: c103 :: c104 :: c105 :: c106 :: c107 :: c108 :: c109 :: c110 :: c111 :: c112 :: c113 :: c114 :: c115 :: c116 :: c117 :: c118 :: c119 :: c120 :: c121 :: c122 :: c123 :: c124 :: c125 :: c126 :: c127 :: c128 :: c129 :: c130 :: c131 :: c132 :: c133 :: c134 :: c135 :: c136 :: c137 :: c138 :: c139 :: c140 :: c141 :: c142 :: c143 :: c144 :: c145 :: c146 :: g147 :: g148 :: g149 :: g150 :: g151 :: g152 :: g153 :: g154 :: g155 :: g156 :: g157 :: g158 :: c159 :: []), []⟩ w') :
    Code.wp Tryz.prog reg29 Q0 ⟨List.toArray (c0 :: c1 :: c2 :: c3 :: c4 :: .slice aa ks.length ac :: c6 :: c7 :: .int .i64 k :: c9 :: c10 :: c11 :: c12 :: c13 :: c14 :: c15 :: c16 :: .int .i64 (t : Int) :: c18 :: c19 :: c20 :: c21 :: c22 :: c23 :: c24 :: c25 :: c26 :: c27 :: c28 :: c29 :: c30 :: c31 :: c32 :: c33 :: c34 :: c35 :: c36 :: c37 :: c38 :: c39 :: c40 :: c41 :: c42 :: c43 :: c44 :: c45 :: c46 :: c47 :: c48 :: c49 :: c50 :: c51 :: c52 :: c53 :: c54 :: c55 :: c56 :: c57 :: c58 :: c59 :: c60 :: c61 :: c62 :: c63 :: c64 :: c65 :: c66 :: c67 :: c68 :: c69 :: c70 :: c71 :: c72 :: c73 :: c74 :: c75 :: c76 :: c77 :: c78 :: c79 :: c80 :: c81 :: c82 :: c83 :: c84 :: c85 :: c86 :: c87 :: c88 :: c89 :: c90 :: c91 :: c92 :: c93 :: c94 :: c95 :: c96 :: c97 :: c98 :: c99 :: c100 :: c101 :: c102 :: c103 :: c104 :: c105 :: c106 :: c107 :: c108 :: c109 :: c110 :: c111 :: c112 :: c113 :: c114 :: c115 :: c116 :: c117 :: c118 :: c119 :: c120 :: c121 :: c122 :: c123 :: c124 :: c125 :: c126 :: c127 :: c128 :: c129 :: c130 :: c131 :: c132 :: c133 :: c134 :: c135 :: c136 :: c137 :: c138 :: c139 :: c140 :: c141 :: c142 :: c143 :: c144 :: c145 :: c146 :: c147 :: c148 :: c149 :: c150 :: c151 :: c152 :: c153 :: c154 :: c155 :: c156 :: c157 :: c158 :: c159 :: []), []⟩ w := by
  have HP := Lib.hid hput; have HR := Lib.hid hr
  clear hput hr
  obtain ⟨r1, hr1, hsl1⟩ := slice_uptoT elemI sizeI aa ks.length ac t (by omega)
  obtain ⟨r2, hr2, hsl2⟩ := slice_from elemI sizeI aa ks.length ac t ht hc
  have RT1 := Lib.hid (rows_toT HR.out hr1 t)
  have RT2 := Lib.hid (rows_fromT (k := t) HR.out hr2)
  obtain ⟨tk, htk⟩ : ∃ tk, tk = ks.take t := ⟨_, rfl⟩
  obtain ⟨dk, hdk⟩ : ∃ dk, dk = ks.drop t := ⟨_, rfl⟩
  rw [← htk, ← hdk] at hm
  obtain ⟨tk1, htk1⟩ : ∃ x, tk ++ [k] = x := ⟨_, rfl⟩
  rw [htk1] at hm
  have ER := Lib.hid hm
  have LT : Hid (tk.length = t) := Lib.hid (by rw [htk, List.length_take]; omega)
  have LT1 : Hid (tk1.length = t + 1) := Lib.hid (by rw [← htk1, List.length_append, LT.out]; rfl)
  have TK1 := Lib.hid htk1
  have LD : Hid (dk.length = ks.length - t) := Lib.hid (by rw [hdk]; exact List.length_drop ..)
  rw [← htk] at RT1
  rw [← hdk] at RT2
  have XD : Hid (Ext w w.drew) := Lib.hid (Below.refl _ w).drew
  clear htk hdk hm hr1 hr2 htk1
  conv => arg 2; whnf
  go_wp2_with fail
  refine wp_region_firstC (fun W => ∃ p : ExtBy w, W = p.W) [1, 2, 3, 5, 8, 9, 10] 6 (by kernel_rfl) (by kernel_rfl) hpn ⟨⟨w.drew, XD.out⟩, rfl⟩ ?_
  simp only [opsAt, List.getElem?_toArray, List.getElem?_cons_succ, List.getElem?_cons_zero]
  repeat (go_big_quiet_step (fail))
  refine wpQuiet_nil ?_
  obtain ⟨wq, hwq⟩ : ∃ wq, wq = w.drew := ⟨_, rfl⟩
  rw [← hwq] at XD ⊢
  clear hwq hsl1 hsl2
  refine wpAnyH_ready (rs := [0, 6]) (by kernel_rfl) (by simp) ?_
  refine AllReadyH.cons rfl (fun K hK => ?_) (AllReadyH.cons rfl (fun K hK => ?_) AllReadyH.nil)
  · go_simp
    obtain ⟨wa, hN⟩ : ∃ wa, wa = wq.alloc (.cells #[] 3) := ⟨_, rfl⟩
    have Ywa : Hid (Ext wq wa) := Lib.hid (by rw [hN]; exact (Below.refl _ wq).alloc (Nat.le_refl _) _)
    have Xwa := Lib.hid (Ext.trans XD.out Ywa.out)
    have OZ : Hid (wa.ownsRow 0 3 1 (.slice (some ⟨wq.heap.size, 0, none⟩) 0 0) 0 []) := Lib.hid (by rw [hN]; exact World.ownsRow_made wq #[] 0 (Nat.zero_le _) (Nat.zero_le _) rfl)
    obtain ⟨p0, hp0⟩ : ∃ p0, p0 = wq.heap.size := ⟨_, rfl⟩
    have hp0w : w.heap.size ≤ p0 ∧ p0 < wa.heap.size ∧ wq.heap.size ≤ p0 := by rw [hp0, hN]; have := XD.out.size; simp; omega
    rw [← hp0] at OZ
    rw [← hN, ← hp0]
    refine hK.out _ _ ⟨⟨_, Xwa.out⟩, rfl⟩ (fun _ => ?_)
    clear hK K hN hp0
    refine wpAnyH_ready (rs := [4, 6]) (by kernel_rfl) (by simp) ?_
    refine AllReadyH.cons rfl (fun K hK => ?_) (AllReadyH.cons rfl (fun K hK => ?_) AllReadyH.nil)
    · refine stepAddI rfl (.tmp 147) (.tmp 150) rfl (base := w) (acc := []) (l := tk) (v := .slice (some ⟨p0, 0, none⟩) 0 0) (c := ac) rfl (by rw [LT.out]; rfl) OZ.out (fun j e => by cases e; exact hp0w.1) Xwa.out ((RT1.out.ext Xwa.out).mono Xwa.out.size) (by rw [LT.out]; simp; omega) tk (rfl) ?_
      intro so4 cc4 wb h1 h2 h3 h4 h5
      have O4 := Lib.hid h1; have N4 := Lib.hid h2; have L4 := Lib.hid h3; have Xwb := Lib.hid h4; have B4 := Lib.hid h5
      go_simp
      refine hK.out _ _ ⟨⟨_, Xwb.out⟩, rfl⟩ (fun _ => ?_)
      clear hK K h1 h2 h3 h4 h5
      refine wpAnyH_ready (rs := [6]) (by kernel_rfl) (by simp) ?_
      refine AllReadyH.cons rfl (fun K hK => ?_) AllReadyH.nil
      go_simp
      obtain ⟨wc, hN⟩ : ∃ wc, wc = wb.alloc (.cells #[.int .i64 k] 3) := ⟨_, rfl⟩
      have Ywc : Hid (Ext wb wc) := Lib.hid (by rw [hN]; exact (Below.refl _ wb).alloc (Nat.le_refl _) _)
      have Xwc := Lib.hid (Ext.trans Xwb.out Ywc.out)
      have OB := Lib.hid (Blk.new wb [.int .i64 k] 3)
      obtain ⟨p1, hp1⟩ : ∃ p1, p1 = wb.heap.size := ⟨_, rfl⟩
      have hp1w : wb.heap.size ≤ p1 ∧ p1 < wc.heap.size := by rw [hp1, hN]; simp
      rw [← hN, ← hp1] at OB ⊢
      refine hK.out _ _ ⟨⟨_, Xwc.out⟩, rfl⟩ (fun _ => ?_)
      clear hK K hN hp1
      have O4 := Lib.hid (own_ext O4.out Ywc.out)
      refine wpAnyH_ready (rs := [7]) (by kernel_rfl) (by simp) ?_
      refine AllReadyH.cons rfl (fun K hK => ?_) AllReadyH.nil
      refine stepAddI rfl (.tmp 151) (.tmp 153) rfl (base := w) (acc := tk) (l := [k]) rfl (rfl) O4.out (N4.out) Xwc.out (rowsOneI OB.out) (by rw [LT.out]; simp; omega) tk1 (TK1.out) ?_
      intro so7 cc7 wm h1 h2 h3 h4 h5
      have O7 := Lib.hid h1; have N7 := Lib.hid h2; have L7 := Lib.hid h3; have Xwm := Lib.hid h4; have B7 := Lib.hid h5
      go_simp
      refine hK.out _ _ ⟨⟨_, Xwm.out⟩, rfl⟩ (fun _ => ?_)
      clear hK K h1 h2 h3 h4 h5
      refine wpAnyH_ready (rs := [11]) (by kernel_rfl) (by simp) ?_
      refine AllReadyH.cons rfl (fun K hK => ?_) AllReadyH.nil
      refine stepAddI rfl (.tmp 154) (.tmp 157) rfl (base := w) (acc := tk1) (l := dk) (c := ac - t) rfl (by rw [LD.out]; rfl) O7.out (N7.out) Xwm.out ((RT2.out.ext Xwm.out).mono Xwm.out.size) (by rw [LD.out, LT1.out]; omega) m (ER.out) ?_
      intro so11 cc11 we h1 h2 h3 h4 h5
      have O11 := Lib.hid h1; have N11 := Lib.hid h2; have L11 := Lib.hid h3; have Xwe := Lib.hid h4; have B11 := Lib.hid h5
      go_simp
      refine hK.out _ _ ⟨⟨_, Xwe.out⟩, rfl⟩ (fun _ => ?_)
      clear hK K h1 h2 h3 h4 h5
      refine wp_takesC (f := 0) [12] (by kernel_rfl) hpn ⟨⟨_, Xwe.out⟩, rfl⟩ ?_
      simp only [opsAt, List.getElem?_toArray, List.getElem?_cons_succ, List.getElem?_cons_zero]
      repeat (go_big_quiet_step (fail))
      refine wpQuiet_nil ?_
      refine wpAnyH_done (by kernel_rfl) ?_ _
      exact HP.out _ _ _ _ _ _ _ _ _ _ _ _ _ _ _ L11.out (rows_of_own (enc := encI) (sz := 1) (fun _ => rfl) O11.out) Xwe.out
    · go_simp
      obtain ⟨wc, hN⟩ : ∃ wc, wc = wa.alloc (.cells #[.int .i64 k] 3) := ⟨_, rfl⟩
      have Ywc : Hid (Ext wa wc) := Lib.hid (by rw [hN]; exact (Below.refl _ wa).alloc (Nat.le_refl _) _)
      have Xwc := Lib.hid (Ext.trans Xwa.out Ywc.out)
      have OB := Lib.hid (Blk.new wa [.int .i64 k] 3)
      obtain ⟨p1, hp1⟩ : ∃ p1, p1 = wa.heap.size := ⟨_, rfl⟩
      have hp1w : wa.heap.size ≤ p1 ∧ p1 < wc.heap.size := by rw [hp1, hN]; simp
      rw [← hN, ← hp1] at OB ⊢
      refine hK.out _ _ ⟨⟨_, Xwc.out⟩, rfl⟩ (fun _ => ?_)
      clear hK K hN hp1
      have OZ := Lib.hid (own_ext OZ.out Ywc.out)
      have hpp : p0 ≠ p1 := by omega
      refine wpAnyH_ready (rs := [4]) (by kernel_rfl) (by simp) ?_
      refine AllReadyH.cons rfl (fun K hK => ?_) AllReadyH.nil
      refine stepAddI rfl (.tmp 147) (.tmp 150) rfl (base := w) (acc := []) (l := tk) (v := .slice (some ⟨p0, 0, none⟩) 0 0) (c := ac) rfl (by rw [LT.out]; rfl) OZ.out (fun j e => by cases e; exact hp0w.1) Xwc.out ((RT1.out.ext Xwc.out).mono Xwc.out.size) (by rw [LT.out]; simp; omega) tk (rfl) ?_
      intro so4 cc4 wb h1 h2 h3 h4 h5
      have O4 := Lib.hid h1; have N4 := Lib.hid h2; have L4 := Lib.hid h3; have Xwb := Lib.hid h4; have B4 := Lib.hid h5
      go_simp
      refine hK.out _ _ ⟨⟨_, Xwb.out⟩, rfl⟩ (fun _ => ?_)
      clear hK K h1 h2 h3 h4 h5
      have OB := Lib.hid (OB.out.but B4.out (fun e => absurd (show p0 = p1 by simpa [Value.ownBlock] using e) hpp))
      refine wpAnyH_ready (rs := [7]) (by kernel_rfl) (by simp) ?_
      refine AllReadyH.cons rfl (fun K hK => ?_) AllReadyH.nil
      refine stepAddI rfl (.tmp 151) (.tmp 153) rfl (base := w) (acc := tk) (l := [k]) rfl (rfl) O4.out (N4.out) Xwb.out (rowsOneI OB.out) (by rw [LT.out]; simp; omega) tk1 (TK1.out) ?_
      intro so7 cc7 wm h1 h2 h3 h4 h5
      have O7 := Lib.hid h1; have N7 := Lib.hid h2; have L7 := Lib.hid h3; have Xwm := Lib.hid h4; have B7 := Lib.hid h5
      go_simp
      refine hK.out _ _ ⟨⟨_, Xwm.out⟩, rfl⟩ (fun _ => ?_)
      clear hK K h1 h2 h3 h4 h5
      refine wpAnyH_ready (rs := [11]) (by kernel_rfl) (by simp) ?_
      refine AllReadyH.cons rfl (fun K hK => ?_) AllReadyH.nil
      refine stepAddI rfl (.tmp 154) (.tmp 157) rfl (base := w) (acc := tk1) (l := dk) (c := ac - t) rfl (by rw [LD.out]; rfl) O7.out (N7.out) Xwm.out ((RT2.out.ext Xwm.out).mono Xwm.out.size) (by rw [LD.out, LT1.out]; omega) m (ER.out) ?_
      intro so11 cc11 we h1 h2 h3 h4 h5
      have O11 := Lib.hid h1; have N11 := Lib.hid h2; have L11 := Lib.hid h3; have Xwe := Lib.hid h4; have B11 := Lib.hid h5
      go_simp
      refine hK.out _ _ ⟨⟨_, Xwe.out⟩, rfl⟩ (fun _ => ?_)
      clear hK K h1 h2 h3 h4 h5
      refine wp_takesC (f := 0) [12] (by kernel_rfl) hpn ⟨⟨_, Xwe.out⟩, rfl⟩ ?_
      simp only [opsAt, List.getElem?_toArray, List.getElem?_cons_succ, List.getElem?_cons_zero]
      repeat (go_big_quiet_step (fail))
      refine wpQuiet_nil ?_
      refine wpAnyH_done (by kernel_rfl) ?_ _
      exact HP.out _ _ _ _ _ _ _ _ _ _ _ _ _ _ _ L11.out (rows_of_own (enc := encI) (sz := 1) (fun _ => rfl) O11.out) Xwe.out
  · go_simp
    obtain ⟨wc, hN⟩ : ∃ wc, wc = wq.alloc (.cells #[.int .i64 k] 3) := ⟨_, rfl⟩
    have Ywc : Hid (Ext wq wc) := Lib.hid (by rw [hN]; exact (Below.refl _ wq).alloc (Nat.le_refl _) _)
    have Xwc := Lib.hid (Ext.trans XD.out Ywc.out)
    have OB := Lib.hid (Blk.new wq [.int .i64 k] 3)
    obtain ⟨p1, hp1⟩ : ∃ p1, p1 = wq.heap.size := ⟨_, rfl⟩
    have hp1w : wq.heap.size ≤ p1 ∧ p1 < wc.heap.size := by rw [hp1, hN]; simp
    rw [← hN, ← hp1] at OB ⊢
    refine hK.out _ _ ⟨⟨_, Xwc.out⟩, rfl⟩ (fun _ => ?_)
    clear hK K hN hp1
    refine wpAnyH_ready (rs := [0]) (by kernel_rfl) (by simp) ?_
    refine AllReadyH.cons rfl (fun K hK => ?_) AllReadyH.nil
    go_simp
    obtain ⟨wa, hN⟩ : ∃ wa, wa = wc.alloc (.cells #[] 3) := ⟨_, rfl⟩
    have Ywa : Hid (Ext wc wa) := Lib.hid (by rw [hN]; exact (Below.refl _ wc).alloc (Nat.le_refl _) _)
    have Xwa := Lib.hid (Ext.trans Xwc.out Ywa.out)
    have OZ : Hid (wa.ownsRow 0 3 1 (.slice (some ⟨wc.heap.size, 0, none⟩) 0 0) 0 []) := Lib.hid (by rw [hN]; exact World.ownsRow_made wc #[] 0 (Nat.zero_le _) (Nat.zero_le _) rfl)
    obtain ⟨p0, hp0⟩ : ∃ p0, p0 = wc.heap.size := ⟨_, rfl⟩
    have hp0w : w.heap.size ≤ p0 ∧ p0 < wa.heap.size ∧ wc.heap.size ≤ p0 := by rw [hp0, hN]; have := Xwc.out.size; simp; omega
    rw [← hp0] at OZ
    rw [← hN, ← hp0]
    refine hK.out _ _ ⟨⟨_, Xwa.out⟩, rfl⟩ (fun _ => ?_)
    clear hK K hN hp0
    have OB := Lib.hid (OB.out.ext' Ywa.out)
    have hpp : p0 ≠ p1 := by omega
    refine wpAnyH_ready (rs := [4]) (by kernel_rfl) (by simp) ?_
    refine AllReadyH.cons rfl (fun K hK => ?_) AllReadyH.nil
    refine stepAddI rfl (.tmp 147) (.tmp 150) rfl (base := w) (acc := []) (l := tk) (v := .slice (some ⟨p0, 0, none⟩) 0 0) (c := ac) rfl (by rw [LT.out]; rfl) OZ.out (fun j e => by cases e; exact hp0w.1) Xwa.out ((RT1.out.ext Xwa.out).mono Xwa.out.size) (by rw [LT.out]; simp; omega) tk (rfl) ?_
    intro so4 cc4 wb h1 h2 h3 h4 h5
    have O4 := Lib.hid h1; have N4 := Lib.hid h2; have L4 := Lib.hid h3; have Xwb := Lib.hid h4; have B4 := Lib.hid h5
    go_simp
    refine hK.out _ _ ⟨⟨_, Xwb.out⟩, rfl⟩ (fun _ => ?_)
    clear hK K h1 h2 h3 h4 h5
    have OB := Lib.hid (OB.out.but B4.out (fun e => absurd (show p0 = p1 by simpa [Value.ownBlock] using e) hpp))
    refine wpAnyH_ready (rs := [7]) (by kernel_rfl) (by simp) ?_
    refine AllReadyH.cons rfl (fun K hK => ?_) AllReadyH.nil
    refine stepAddI rfl (.tmp 151) (.tmp 153) rfl (base := w) (acc := tk) (l := [k]) rfl (rfl) O4.out (N4.out) Xwb.out (rowsOneI OB.out) (by rw [LT.out]; simp; omega) tk1 (TK1.out) ?_
    intro so7 cc7 wm h1 h2 h3 h4 h5
    have O7 := Lib.hid h1; have N7 := Lib.hid h2; have L7 := Lib.hid h3; have Xwm := Lib.hid h4; have B7 := Lib.hid h5
    go_simp
    refine hK.out _ _ ⟨⟨_, Xwm.out⟩, rfl⟩ (fun _ => ?_)
    clear hK K h1 h2 h3 h4 h5
    refine wpAnyH_ready (rs := [11]) (by kernel_rfl) (by simp) ?_
    refine AllReadyH.cons rfl (fun K hK => ?_) AllReadyH.nil
    refine stepAddI rfl (.tmp 154) (.tmp 157) rfl (base := w) (acc := tk1) (l := dk) (c := ac - t) rfl (by rw [LD.out]; rfl) O7.out (N7.out) Xwm.out ((RT2.out.ext Xwm.out).mono Xwm.out.size) (by rw [LD.out, LT1.out]; omega) m (ER.out) ?_
    intro so11 cc11 we h1 h2 h3 h4 h5
    have O11 := Lib.hid h1; have N11 := Lib.hid h2; have L11 := Lib.hid h3; have Xwe := Lib.hid h4; have B11 := Lib.hid h5
    go_simp
    refine hK.out _ _ ⟨⟨_, Xwe.out⟩, rfl⟩ (fun _ => ?_)
    clear hK K h1 h2 h3 h4 h5
    refine wp_takesC (f := 0) [12] (by kernel_rfl) hpn ⟨⟨_, Xwe.out⟩, rfl⟩ ?_
    simp only [opsAt, List.getElem?_toArray, List.getElem?_cons_succ, List.getElem?_cons_zero]
    repeat (go_big_quiet_step (fail))
    refine wpQuiet_nil ?_
    refine wpAnyH_done (by kernel_rfl) ?_ _
    exact HP.out _ _ _ _ _ _ _ _ _ _ _ _ _ _ _ L11.out (rows_of_own (enc := encI) (sz := 1) (fun _ => rfl) O11.out) Xwe.out
set_option maxRecDepth 1000000 in
set_option maxHeartbeats 6400000 in
theorem out_wp {Q0 : Exit → Act → World → Prop} (hpn : ∀ ch (a : Act) tmps w, Q0 (Exit.panic ch) ⟨tmps, a.defers⟩ w → Q0 (Exit.panic ch) a w) {K0 : Act → World → Prop} (KK : ∀ a w, Code.wp Tryz.prog reg29 Q0 a w → K0 a w) {ss ms : List StepZ} {z : StepZ} {ks m : List Int} {k : Int} {t ac oc sb : Nat} {aa oa : Option Addr} {w : World} (hl : ss.length ≤ 60) (ht : t ≤ ss.length) (hc : ss.length ≤ oc) (hm : ss.take t ++ [z] ++ ss.drop t = ms) (hr : Rows 6 encStep w.heap.size w oa ss) (hb : Blk w sb (encStep z) 86)
    (hlk : ks.length ≤ 60) (htk' : t ≤ ks.length) (hck : ks.length ≤ ac) (hmk : ks.take t ++ [k] ++ ks.drop t = m) (hrk : Rows 1 encI w.heap.size w aa ks) {c0 c1 c2 c3 c6 c7 c9 c10 c11 c12 c13 c14 c15 c18 c19 c20 c21 c22 c23 c24 c25 c26 c27 c28 c29 c30 c31 c32 c33 c34 c35 c36 c37 c38 c39 c40 c41 c42 c43 c44 c45 c46 c47 c48 c49 c50 c51 c52 c53 c54 c55 c56 c57 c58 c59 c60 c61 c62 c63 c64 c65 c66 c67 c68 c69 c70 c71 c72 c73 c74 c75 c76 c77 c78 c79 c80 c81 c82 c83 c84 c85 c86 c87 c88 c89 c90 c91 c92 c93 c94 c95 c96 c97 c98 c99 c100 c101 c102 c103 c104 c105 c106 c107 c108 c109 c110 c111 c112 c113 c114 c115 c116 c117 c118 c119 c120 c121 c122 c123 c124 c125 c126 c127 c128 c129 c130 c131 c132 c133 c134 c135 c136 c137 c138 c139 c140 c141 c142 c143 c144 c145 c146 c147 c148 c149 c150 c151 c152 c153 c154 c155 c156 c157 c158 c159 : Value}
    (hput : ∀ (g135 g136 g137 g138 g139 g140 g141 g142 g143 g144 g145 g146 g147 g148 g149 g150 g151 g152 g153 g154 g155 g156 g157 g158 : Value) (so so' : Option Addr) (c' c'' : Nat) (w' : World), ms.length ≤ c' → m.length ≤ c'' → Rows 6 encStep w'.heap.size w' so ms → Rows 1 encI w'.heap.size w' so' m → Ext w w' → Q0 .normal ⟨List.toArray (c0 :: c1 :: c2 :: c3 :: .slice so ms.length c' :: .slice so' m.length c'' :: c6 :: c7 :: .int .i64 k :: c9 :: c10 :: c11 :: c12 :: c13 :: c14 :: c15 :: .pointer (some ⟨sb, 0, none⟩) :: .int .i64 (t : Int) :: c18 :: c19 :: c20 :: c21 :: c22 :: c23 :: c24 :: c25 :: c26 :: c27 :: c28 :: c29 :: c30 :: c31 :: c32 :: c33 :: c34 :: c35 :: c36 :: c37 :: c38 :: c39 :: c40 :: c41 :: c42 :: c43 :: c44 :: c45 :: c46 :: c47 :: c48 :: c49 :: c50 :: c51 :: c52 :: c53 :: c54 :: c55 :: c56 :: c57 :: c58 :: c59 :: c60 :: c61 :: c62 :: c63 :: c64 :: c65 :: c66 :: c67 :: c68 :: c69 :: c70 :: c71 :: c72 :: c73 :: c74 :: c75 :: c76 :: c77 :: c78 :: c79 :: c80 :: c81 :: c82 :: c83 :: c84 :: c85 :: c86 :: c87 :: c88 :: c89 :: c90 :: c91 :: c92 :: c93 :: c94 :: c95 :: c96 :: c97 :: c98 :: c99 :: c100 :: c101 :: c102 :: c103 :: c104 :: c105 :: c106 :: c107 :: c108 :: c109 :: c110 :: c111 :: c112 :: c113 :: c114 :: c115 :: c116 :: c117 :: c118 :: c119 :: c120 :: c121 :: c122 :: c123 :: c124 :: c125 :: c126 :: c127 :: c128 :: c129 :: c130 :: c131 :: c132 :: c133 :: c134 :: g135 :: g136 :: g137 :: g138 :: g139 :: g140 :: g141 :: g142 :: g143 :: g144 :: g145 :: g146 :: g147 :: g148 :: g149 :: g150 :: g151 :: g152 :: g153 :: g154 :: g155 :: g156 :: g157 :: g158 :: c159 :: []), []⟩ w') :
    Code.wp Tryz.prog reg28 (Exit.then K0 Q0) ⟨List.toArray (c0 :: c1 :: c2 :: c3 :: .slice oa ss.length oc :: .slice aa ks.length ac :: c6 :: c7 :: .int .i64 k :: c9 :: c10 :: c11 :: c12 :: c13 :: c14 :: c15 :: .pointer (some ⟨sb, 0, none⟩) :: .int .i64 (t : Int) :: c18 :: c19 :: c20 :: c21 :: c22 :: c23 :: c24 :: c25 :: c26 :: c27 :: c28 :: c29 :: c30 :: c31 :: c32 :: c33 :: c34 :: c35 :: c36 :: c37 :: c38 :: c39 :: c40 :: c41 :: c42 :: c43 :: c44 :: c45 :: c46 :: c47 :: c48 :: c49 :: c50 :: c51 :: c52 :: c53 :: c54 :: c55 :: c56 :: c57 :: c58 :: c59 :: c60 :: c61 :: c62 :: c63 :: c64 :: c65 :: c66 :: c67 :: c68 :: c69 :: c70 :: c71 :: c72 :: c73 :: c74 :: c75 :: c76 :: c77 :: c78 :: c79 :: c80 :: c81 :: c82 :: c83 :: c84 :: c85 :: c86 :: c87 :: c88 :: c89 :: c90 :: c91 :: c92 :: c93 :: c94 :: c95 :: c96 :: c97 :: c98 :: c99 :: c100 :: c101 :: c102 :: c103 :: c104 :: c105 :: c106 :: c107 :: c108 :: c109 :: c110 :: c111 :: c112 :: c113 :: c114 :: c115 :: c116 :: c117 :: c118 :: c119 :: c120 :: c121 :: c122 :: c123 :: c124 :: c125 :: c126 :: c127 :: c128 :: c129 :: c130 :: c131 :: c132 :: c133 :: c134 :: c135 :: c136 :: c137 :: c138 :: c139 :: c140 :: c141 :: c142 :: c143 :: c144 :: c145 :: c146 :: c147 :: c148 :: c149 :: c150 :: c151 :: c152 :: c153 :: c154 :: c155 :: c156 :: c157 :: c158 :: c159 :: []), []⟩ w := by
  have HP := Lib.hid hput; have HR := Lib.hid hr; have HK2 := Lib.hid hrk
  have k0 := ExtBy.cell (show w.cell? ⟨sb, 0, none⟩ = some (.int .i64 z.d.cl) from hb.cell 0); have k1 := ExtBy.cell (show w.cell? ⟨sb, 1, none⟩ = some (.int .i64 z.d.nm) from hb.cell 1); have k2 := ExtBy.cell (show w.cell? ⟨sb, 2, none⟩ = some (.slice z.ao z.d.acts.length z.ac) from hb.cell 2); have k3 := ExtBy.cell (show w.cell? ⟨sb, 3, none⟩ = some (.slice z.ro z.d.reads.length z.rc) from hb.cell 3); have k4 := ExtBy.cell (show w.cell? ⟨sb, 4, none⟩ = some (.int .i64 z.d.ca) from hb.cell 4); have k5 := ExtBy.cell (show w.cell? ⟨sb, 5, none⟩ = some (.int .i64 z.d.an) from hb.cell 5)
  clear hput hr hrk hb
  obtain ⟨r1, hr1, hsl1⟩ := slice_uptoT elemSR sizeSR oa ss.length oc t (by omega)
  obtain ⟨r2, hr2, hsl2⟩ := slice_from elemSR sizeSR oa ss.length oc t ht hc
  have RT1 := Lib.hid (rows_toT HR.out hr1 t)
  have RT2 := Lib.hid (rows_fromT (k := t) HR.out hr2)
  obtain ⟨tk, htk⟩ : ∃ tk, tk = ss.take t := ⟨_, rfl⟩
  obtain ⟨dk, hdk⟩ : ∃ dk, dk = ss.drop t := ⟨_, rfl⟩
  rw [← htk, ← hdk] at hm
  obtain ⟨tk1, htk1⟩ : ∃ x, tk ++ [z] = x := ⟨_, rfl⟩
  rw [htk1] at hm
  have ER := Lib.hid hm
  have LT : Hid (tk.length = t) := Lib.hid (by rw [htk, List.length_take]; omega)
  have LT1 : Hid (tk1.length = t + 1) := Lib.hid (by rw [← htk1, List.length_append, LT.out]; rfl)
  have TK1 := Lib.hid htk1
  have LD : Hid (dk.length = ss.length - t) := Lib.hid (by rw [hdk]; exact List.length_drop ..)
  rw [← htk] at RT1
  rw [← hdk] at RT2
  have XD : Hid (Ext w w.drew) := Lib.hid (Below.refl _ w).drew
  clear htk hdk hm hr1 hr2 htk1
  conv => arg 2; whnf
  go_wp2_with fail
  refine wp_region_firstC (fun W => ∃ p : ExtBy w, W = p.W) [1, 2, 3, 5, 8, 9, 10] 6 (by kernel_rfl) (by kernel_rfl) hpn ⟨⟨w.drew, XD.out⟩, rfl⟩ ?_
  simp only [opsAt, List.getElem?_toArray, List.getElem?_cons_succ, List.getElem?_cons_zero]
  repeat (go_big_quiet_step (fail))
  refine wpQuiet_nil ?_
  obtain ⟨wq, hwq⟩ : ∃ wq, wq = w.drew := ⟨_, rfl⟩
  rw [← hwq] at XD ⊢
  clear hwq k0 k1 k2 k3 k4 k5 hsl1 hsl2
  refine wpAnyH_ready (rs := [0, 6]) (by kernel_rfl) (by simp) ?_
  refine AllReadyH.cons rfl (fun K hK => ?_) (AllReadyH.cons rfl (fun K hK => ?_) AllReadyH.nil)
  · go_simp
    obtain ⟨wa, hN⟩ : ∃ wa, wa = wq.alloc (.cells #[] 86) := ⟨_, rfl⟩
    have Ywa : Hid (Ext wq wa) := Lib.hid (by rw [hN]; exact (Below.refl _ wq).alloc (Nat.le_refl _) _)
    have Xwa := Lib.hid (Ext.trans XD.out Ywa.out)
    have OZ : Hid (wa.ownsRow 0 86 6 (.slice (some ⟨wq.heap.size, 0, none⟩) 0 0) 0 []) := Lib.hid (by rw [hN]; exact World.ownsRow_made wq #[] 0 (Nat.zero_le _) (Nat.zero_le _) rfl)
    obtain ⟨p0, hp0⟩ : ∃ p0, p0 = wq.heap.size := ⟨_, rfl⟩
    have hp0w : w.heap.size ≤ p0 ∧ p0 < wa.heap.size ∧ wq.heap.size ≤ p0 := by rw [hp0, hN]; have := XD.out.size; simp; omega
    rw [← hp0] at OZ
    rw [← hN, ← hp0]
    refine hK.out _ _ ⟨⟨_, Xwa.out⟩, rfl⟩ (fun _ => ?_)
    clear hK K hN hp0
    refine wpAnyH_ready (rs := [4, 6]) (by kernel_rfl) (by simp) ?_
    refine AllReadyH.cons rfl (fun K hK => ?_) (AllReadyH.cons rfl (fun K hK => ?_) AllReadyH.nil)
    · refine stepAddR rfl (.tmp 135) (.tmp 138) rfl (base := w) (acc := []) (l := tk) (v := .slice (some ⟨p0, 0, none⟩) 0 0) (c := oc) rfl (by rw [LT.out]; rfl) OZ.out (fun j e => by cases e; exact hp0w.1) Xwa.out ((RT1.out.ext Xwa.out).mono Xwa.out.size) (by rw [LT.out]; simp; omega) tk (rfl) ?_
      intro so4 cc4 wb h1 h2 h3 h4 h5
      have O4 := Lib.hid h1; have N4 := Lib.hid h2; have L4 := Lib.hid h3; have Xwb := Lib.hid h4; have B4 := Lib.hid h5
      go_simp
      refine hK.out _ _ ⟨⟨_, Xwb.out⟩, rfl⟩ (fun _ => ?_)
      clear hK K h1 h2 h3 h4 h5
      refine wpAnyH_ready (rs := [6]) (by kernel_rfl) (by simp) ?_
      refine AllReadyH.cons rfl (fun K hK => ?_) AllReadyH.nil
      go_simp
      obtain ⟨wc, hN⟩ : ∃ wc, wc = wb.alloc (.cells #[.int .i64 z.d.cl, .int .i64 z.d.nm, .slice z.ao z.d.acts.length z.ac, .slice z.ro z.d.reads.length z.rc, .int .i64 z.d.ca, .int .i64 z.d.an] 86) := ⟨_, rfl⟩
      have Ywc : Hid (Ext wb wc) := Lib.hid (by rw [hN]; exact (Below.refl _ wb).alloc (Nat.le_refl _) _)
      have Xwc := Lib.hid (Ext.trans Xwb.out Ywc.out)
      have OB := Lib.hid (Blk.new wb [.int .i64 z.d.cl, .int .i64 z.d.nm, .slice z.ao z.d.acts.length z.ac, .slice z.ro z.d.reads.length z.rc, .int .i64 z.d.ca, .int .i64 z.d.an] 86)
      obtain ⟨p1, hp1⟩ : ∃ p1, p1 = wb.heap.size := ⟨_, rfl⟩
      have hp1w : wb.heap.size ≤ p1 ∧ p1 < wc.heap.size := by rw [hp1, hN]; simp
      rw [← hN, ← hp1] at OB ⊢
      refine hK.out _ _ ⟨⟨_, Xwc.out⟩, rfl⟩ (fun _ => ?_)
      clear hK K hN hp1
      have O4 := Lib.hid (own_ext O4.out Ywc.out)
      refine wpAnyH_ready (rs := [7]) (by kernel_rfl) (by simp) ?_
      refine AllReadyH.cons rfl (fun K hK => ?_) AllReadyH.nil
      refine stepAddR rfl (.tmp 139) (.tmp 141) rfl (base := w) (acc := tk) (l := [z]) rfl (rfl) O4.out (N4.out) Xwc.out (rowsOneS (z := z) OB.out) (by rw [LT.out]; simp; omega) tk1 (TK1.out) ?_
      intro so7 cc7 wm h1 h2 h3 h4 h5
      have O7 := Lib.hid h1; have N7 := Lib.hid h2; have L7 := Lib.hid h3; have Xwm := Lib.hid h4; have B7 := Lib.hid h5
      go_simp
      refine hK.out _ _ ⟨⟨_, Xwm.out⟩, rfl⟩ (fun _ => ?_)
      clear hK K h1 h2 h3 h4 h5
      refine wpAnyH_ready (rs := [11]) (by kernel_rfl) (by simp) ?_
      refine AllReadyH.cons rfl (fun K hK => ?_) AllReadyH.nil
      refine stepAddR rfl (.tmp 142) (.tmp 145) rfl (base := w) (acc := tk1) (l := dk) (c := oc - t) rfl (by rw [LD.out]; rfl) O7.out (N7.out) Xwm.out ((RT2.out.ext Xwm.out).mono Xwm.out.size) (by rw [LD.out, LT1.out]; omega) ms (ER.out) ?_
      intro so11 cc11 we h1 h2 h3 h4 h5
      have O11 := Lib.hid h1; have N11 := Lib.hid h2; have L11 := Lib.hid h3; have Xwe := Lib.hid h4; have B11 := Lib.hid h5
      go_simp
      refine hK.out _ _ ⟨⟨_, Xwe.out⟩, rfl⟩ (fun _ => ?_)
      clear hK K h1 h2 h3 h4 h5
      refine wp_takesC (f := 0) [12] (by kernel_rfl) hpn ⟨⟨_, Xwe.out⟩, rfl⟩ ?_
      simp only [opsAt, List.getElem?_toArray, List.getElem?_cons_succ, List.getElem?_cons_zero]
      repeat (go_big_quiet_step (fail))
      refine wpQuiet_nil ?_
      refine wpAnyH_done (by kernel_rfl) ?_ _
      refine KK _ _ (keys_wp hpn hlk htk' hck hmk ((HK2.out.ext Xwe.out).mono Xwe.out.size) (fun g147 g148 g149 g150 g151 g152 g153 g154 g155 g156 g157 g158 so' c'' w' h1 h2 h3 => ?_))
      exact HP.out _ _ _ _ _ _ _ _ _ _ _ _ _ _ _ _ _ _ _ _ _ _ _ _ _ _ _ _ _ L11.out h1 (((rows_of_own (enc := encStep) (sz := 6) (fun _ => rfl) O11.out).ext h3).mono h3.size) h2 (Ext.trans Xwe.out h3)
    · go_simp
      obtain ⟨wc, hN⟩ : ∃ wc, wc = wa.alloc (.cells #[.int .i64 z.d.cl, .int .i64 z.d.nm, .slice z.ao z.d.acts.length z.ac, .slice z.ro z.d.reads.length z.rc, .int .i64 z.d.ca, .int .i64 z.d.an] 86) := ⟨_, rfl⟩
      have Ywc : Hid (Ext wa wc) := Lib.hid (by rw [hN]; exact (Below.refl _ wa).alloc (Nat.le_refl _) _)
      have Xwc := Lib.hid (Ext.trans Xwa.out Ywc.out)
      have OB := Lib.hid (Blk.new wa [.int .i64 z.d.cl, .int .i64 z.d.nm, .slice z.ao z.d.acts.length z.ac, .slice z.ro z.d.reads.length z.rc, .int .i64 z.d.ca, .int .i64 z.d.an] 86)
      obtain ⟨p1, hp1⟩ : ∃ p1, p1 = wa.heap.size := ⟨_, rfl⟩
      have hp1w : wa.heap.size ≤ p1 ∧ p1 < wc.heap.size := by rw [hp1, hN]; simp
      rw [← hN, ← hp1] at OB ⊢
      refine hK.out _ _ ⟨⟨_, Xwc.out⟩, rfl⟩ (fun _ => ?_)
      clear hK K hN hp1
      have OZ := Lib.hid (own_ext OZ.out Ywc.out)
      have hpp : p0 ≠ p1 := by omega
      refine wpAnyH_ready (rs := [4]) (by kernel_rfl) (by simp) ?_
      refine AllReadyH.cons rfl (fun K hK => ?_) AllReadyH.nil
      refine stepAddR rfl (.tmp 135) (.tmp 138) rfl (base := w) (acc := []) (l := tk) (v := .slice (some ⟨p0, 0, none⟩) 0 0) (c := oc) rfl (by rw [LT.out]; rfl) OZ.out (fun j e => by cases e; exact hp0w.1) Xwc.out ((RT1.out.ext Xwc.out).mono Xwc.out.size) (by rw [LT.out]; simp; omega) tk (rfl) ?_
      intro so4 cc4 wb h1 h2 h3 h4 h5
      have O4 := Lib.hid h1; have N4 := Lib.hid h2; have L4 := Lib.hid h3; have Xwb := Lib.hid h4; have B4 := Lib.hid h5
      go_simp
      refine hK.out _ _ ⟨⟨_, Xwb.out⟩, rfl⟩ (fun _ => ?_)
      clear hK K h1 h2 h3 h4 h5
      have OB := Lib.hid (OB.out.but B4.out (fun e => absurd (show p0 = p1 by simpa [Value.ownBlock] using e) hpp))
      refine wpAnyH_ready (rs := [7]) (by kernel_rfl) (by simp) ?_
      refine AllReadyH.cons rfl (fun K hK => ?_) AllReadyH.nil
      refine stepAddR rfl (.tmp 139) (.tmp 141) rfl (base := w) (acc := tk) (l := [z]) rfl (rfl) O4.out (N4.out) Xwb.out (rowsOneS (z := z) OB.out) (by rw [LT.out]; simp; omega) tk1 (TK1.out) ?_
      intro so7 cc7 wm h1 h2 h3 h4 h5
      have O7 := Lib.hid h1; have N7 := Lib.hid h2; have L7 := Lib.hid h3; have Xwm := Lib.hid h4; have B7 := Lib.hid h5
      go_simp
      refine hK.out _ _ ⟨⟨_, Xwm.out⟩, rfl⟩ (fun _ => ?_)
      clear hK K h1 h2 h3 h4 h5
      refine wpAnyH_ready (rs := [11]) (by kernel_rfl) (by simp) ?_
      refine AllReadyH.cons rfl (fun K hK => ?_) AllReadyH.nil
      refine stepAddR rfl (.tmp 142) (.tmp 145) rfl (base := w) (acc := tk1) (l := dk) (c := oc - t) rfl (by rw [LD.out]; rfl) O7.out (N7.out) Xwm.out ((RT2.out.ext Xwm.out).mono Xwm.out.size) (by rw [LD.out, LT1.out]; omega) ms (ER.out) ?_
      intro so11 cc11 we h1 h2 h3 h4 h5
      have O11 := Lib.hid h1; have N11 := Lib.hid h2; have L11 := Lib.hid h3; have Xwe := Lib.hid h4; have B11 := Lib.hid h5
      go_simp
      refine hK.out _ _ ⟨⟨_, Xwe.out⟩, rfl⟩ (fun _ => ?_)
      clear hK K h1 h2 h3 h4 h5
      refine wp_takesC (f := 0) [12] (by kernel_rfl) hpn ⟨⟨_, Xwe.out⟩, rfl⟩ ?_
      simp only [opsAt, List.getElem?_toArray, List.getElem?_cons_succ, List.getElem?_cons_zero]
      repeat (go_big_quiet_step (fail))
      refine wpQuiet_nil ?_
      refine wpAnyH_done (by kernel_rfl) ?_ _
      refine KK _ _ (keys_wp hpn hlk htk' hck hmk ((HK2.out.ext Xwe.out).mono Xwe.out.size) (fun g147 g148 g149 g150 g151 g152 g153 g154 g155 g156 g157 g158 so' c'' w' h1 h2 h3 => ?_))
      exact HP.out _ _ _ _ _ _ _ _ _ _ _ _ _ _ _ _ _ _ _ _ _ _ _ _ _ _ _ _ _ L11.out h1 (((rows_of_own (enc := encStep) (sz := 6) (fun _ => rfl) O11.out).ext h3).mono h3.size) h2 (Ext.trans Xwe.out h3)
  · go_simp
    obtain ⟨wc, hN⟩ : ∃ wc, wc = wq.alloc (.cells #[.int .i64 z.d.cl, .int .i64 z.d.nm, .slice z.ao z.d.acts.length z.ac, .slice z.ro z.d.reads.length z.rc, .int .i64 z.d.ca, .int .i64 z.d.an] 86) := ⟨_, rfl⟩
    have Ywc : Hid (Ext wq wc) := Lib.hid (by rw [hN]; exact (Below.refl _ wq).alloc (Nat.le_refl _) _)
    have Xwc := Lib.hid (Ext.trans XD.out Ywc.out)
    have OB := Lib.hid (Blk.new wq [.int .i64 z.d.cl, .int .i64 z.d.nm, .slice z.ao z.d.acts.length z.ac, .slice z.ro z.d.reads.length z.rc, .int .i64 z.d.ca, .int .i64 z.d.an] 86)
    obtain ⟨p1, hp1⟩ : ∃ p1, p1 = wq.heap.size := ⟨_, rfl⟩
    have hp1w : wq.heap.size ≤ p1 ∧ p1 < wc.heap.size := by rw [hp1, hN]; simp
    rw [← hN, ← hp1] at OB ⊢
    refine hK.out _ _ ⟨⟨_, Xwc.out⟩, rfl⟩ (fun _ => ?_)
    clear hK K hN hp1
    refine wpAnyH_ready (rs := [0]) (by kernel_rfl) (by simp) ?_
    refine AllReadyH.cons rfl (fun K hK => ?_) AllReadyH.nil
    go_simp
    obtain ⟨wa, hN⟩ : ∃ wa, wa = wc.alloc (.cells #[] 86) := ⟨_, rfl⟩
    have Ywa : Hid (Ext wc wa) := Lib.hid (by rw [hN]; exact (Below.refl _ wc).alloc (Nat.le_refl _) _)
    have Xwa := Lib.hid (Ext.trans Xwc.out Ywa.out)
    have OZ : Hid (wa.ownsRow 0 86 6 (.slice (some ⟨wc.heap.size, 0, none⟩) 0 0) 0 []) := Lib.hid (by rw [hN]; exact World.ownsRow_made wc #[] 0 (Nat.zero_le _) (Nat.zero_le _) rfl)
    obtain ⟨p0, hp0⟩ : ∃ p0, p0 = wc.heap.size := ⟨_, rfl⟩
    have hp0w : w.heap.size ≤ p0 ∧ p0 < wa.heap.size ∧ wc.heap.size ≤ p0 := by rw [hp0, hN]; have := Xwc.out.size; simp; omega
    rw [← hp0] at OZ
    rw [← hN, ← hp0]
    refine hK.out _ _ ⟨⟨_, Xwa.out⟩, rfl⟩ (fun _ => ?_)
    clear hK K hN hp0
    have OB := Lib.hid (OB.out.ext' Ywa.out)
    have hpp : p0 ≠ p1 := by omega
    refine wpAnyH_ready (rs := [4]) (by kernel_rfl) (by simp) ?_
    refine AllReadyH.cons rfl (fun K hK => ?_) AllReadyH.nil
    refine stepAddR rfl (.tmp 135) (.tmp 138) rfl (base := w) (acc := []) (l := tk) (v := .slice (some ⟨p0, 0, none⟩) 0 0) (c := oc) rfl (by rw [LT.out]; rfl) OZ.out (fun j e => by cases e; exact hp0w.1) Xwa.out ((RT1.out.ext Xwa.out).mono Xwa.out.size) (by rw [LT.out]; simp; omega) tk (rfl) ?_
    intro so4 cc4 wb h1 h2 h3 h4 h5
    have O4 := Lib.hid h1; have N4 := Lib.hid h2; have L4 := Lib.hid h3; have Xwb := Lib.hid h4; have B4 := Lib.hid h5
    go_simp
    refine hK.out _ _ ⟨⟨_, Xwb.out⟩, rfl⟩ (fun _ => ?_)
    clear hK K h1 h2 h3 h4 h5
    have OB := Lib.hid (OB.out.but B4.out (fun e => absurd (show p0 = p1 by simpa [Value.ownBlock] using e) hpp))
    refine wpAnyH_ready (rs := [7]) (by kernel_rfl) (by simp) ?_
    refine AllReadyH.cons rfl (fun K hK => ?_) AllReadyH.nil
    refine stepAddR rfl (.tmp 139) (.tmp 141) rfl (base := w) (acc := tk) (l := [z]) rfl (rfl) O4.out (N4.out) Xwb.out (rowsOneS (z := z) OB.out) (by rw [LT.out]; simp; omega) tk1 (TK1.out) ?_
    intro so7 cc7 wm h1 h2 h3 h4 h5
    have O7 := Lib.hid h1; have N7 := Lib.hid h2; have L7 := Lib.hid h3; have Xwm := Lib.hid h4; have B7 := Lib.hid h5
    go_simp
    refine hK.out _ _ ⟨⟨_, Xwm.out⟩, rfl⟩ (fun _ => ?_)
    clear hK K h1 h2 h3 h4 h5
    refine wpAnyH_ready (rs := [11]) (by kernel_rfl) (by simp) ?_
    refine AllReadyH.cons rfl (fun K hK => ?_) AllReadyH.nil
    refine stepAddR rfl (.tmp 142) (.tmp 145) rfl (base := w) (acc := tk1) (l := dk) (c := oc - t) rfl (by rw [LD.out]; rfl) O7.out (N7.out) Xwm.out ((RT2.out.ext Xwm.out).mono Xwm.out.size) (by rw [LD.out, LT1.out]; omega) ms (ER.out) ?_
    intro so11 cc11 we h1 h2 h3 h4 h5
    have O11 := Lib.hid h1; have N11 := Lib.hid h2; have L11 := Lib.hid h3; have Xwe := Lib.hid h4; have B11 := Lib.hid h5
    go_simp
    refine hK.out _ _ ⟨⟨_, Xwe.out⟩, rfl⟩ (fun _ => ?_)
    clear hK K h1 h2 h3 h4 h5
    refine wp_takesC (f := 0) [12] (by kernel_rfl) hpn ⟨⟨_, Xwe.out⟩, rfl⟩ ?_
    simp only [opsAt, List.getElem?_toArray, List.getElem?_cons_succ, List.getElem?_cons_zero]
    repeat (go_big_quiet_step (fail))
    refine wpQuiet_nil ?_
    refine wpAnyH_done (by kernel_rfl) ?_ _
    refine KK _ _ (keys_wp hpn hlk htk' hck hmk ((HK2.out.ext Xwe.out).mono Xwe.out.size) (fun g147 g148 g149 g150 g151 g152 g153 g154 g155 g156 g157 g158 so' c'' w' h1 h2 h3 => ?_))
    exact HP.out _ _ _ _ _ _ _ _ _ _ _ _ _ _ _ _ _ _ _ _ _ _ _ _ _ _ _ _ _ L11.out h1 (((rows_of_own (enc := encStep) (sz := 6) (fun _ => rfl) O11.out).ext h3).mono h3.size) h2 (Ext.trans Xwe.out h3)
end Go.Proofs.YtbnclifpdmpjnaaGreatDoor
