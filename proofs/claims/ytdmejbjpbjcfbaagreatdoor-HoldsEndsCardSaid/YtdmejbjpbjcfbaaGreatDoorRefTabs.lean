/- The document's spans: Right and Has. -/
import Derived.Test.YtdmejbjpbjcfbaaGreatDoorRefOnes
import Derived.Test.YtdmejbjpbjcfbaaGreatDoorSpanH
import Derived.Test.YtdmejbjpbjcfbaaGreatDoorRight
import Derived.Test.YtdmejbjpbjcfbaaGreatDoorLentHs
import Derived.Test.YtdmejbjpbjcfbaaGreatDoorLentRd
namespace Go.Proofs.YtdmejbjpbjcfbaaGreatDoor
open Go.RowKit
theorem not_lt_or (x y : List UInt8) : decide (¬ y < x) = (decide (x < y) || x == y) := by
  by_cases h1 : x < y
  · have : ¬ y < x := fun h => List.lt_irrefl _ (List.lt_trans h h1)
    simp [h1, this]
  · by_cases h2 : x = y
    · subst h2; simp [h1]
    · have : y < x := by
        by_cases h : y < x
        · exact h
        · exact absurd (List.le_antisymm (List.not_lt.1 h) (List.not_lt.1 h1)) h2
      simp [h1, h2, this]
set_option maxRecDepth 100000 in
set_option maxHeartbeats 1600000 in
theorem refSpanRight_calls (lo hi : ByteArray) (w : World) (hl : lo.size ≤ 140737488351232) (hh : hi.size ≤ 140737488351232) : Calls Tryz.prog 193 #[.agg #[.string lo, .string hi]] w fun e w' => e = .returned (.bool (spanB lo.data.toList hi.data.toList)) ∧ Ext w w' := by
  obtain ⟨A, hA⟩ : ∃ A, A = lo.toList.isEmpty := ⟨_, rfl⟩
  obtain ⟨B, hB⟩ : ∃ B, B = keyL lo.data.toList := ⟨_, rfl⟩
  obtain ⟨C, hC⟩ : ∃ C, C = hi.toList.isEmpty := ⟨_, rfl⟩
  obtain ⟨D, hD⟩ : ∃ D, D = keyL hi.data.toList := ⟨_, rfl⟩
  obtain ⟨E, hE⟩ : ∃ E, E = Op.bytesLess lo.toList hi.toList := ⟨_, rfl⟩
  have HR : Hid (spanB lo.data.toList hi.data.toList = ((A || B) && (C || D) && (C || E))) := Lib.hid (by
    rw [hA, hB, hC, hD, hE, Lib.toList_data, Lib.toList_data, bytesLess_eq]; rfl)
  have HK1 : Hid (∀ W, Calls Tryz.prog 191 #[.string lo] W fun e w' => e = .returned (.bool B) ∧ W = w') := Lib.hid (fun W => by rw [hB]; exact refKey_calls lo W hl)
  have HK2 : Hid (∀ W, Calls Tryz.prog 191 #[.string hi] W fun e w' => e = .returned (.bool D) ∧ W = w') := Lib.hid (fun W => by rw [hD]; exact refKey_calls hi W hh)
  generalize spanB lo.data.toList hi.data.toList = res at HR ⊢
  have HX1 : Hid (Ext w (w.alloc (.cells #[.string lo, .string hi] 31))) := Lib.hid ((Below.refl _ w).alloc (Nat.le_refl _) _)
  have a0 := hA.symm; have c0 := hC.symm; have e0 := hE.symm
  clear hA hB hC hD hE
  cases A
  · cases C
    · go_enter Tryz.func193, Tryz.ntmps193
      go_wp2_with fail
      refine (HK1.out _).mono ?_
      rintro e w' ⟨rfl, rfl⟩
      cases B
      · go_wp2_with fail
        go_ret
        exact ⟨ret_bool (by rw [HR.out]; rfl), HX1.out⟩
      · go_wp2_with fail
        refine (HK2.out _).mono ?_
        rintro e w' ⟨rfl, rfl⟩
        cases D
        · go_wp2_with fail
          go_ret
          exact ⟨ret_bool (by rw [HR.out]; rfl), HX1.out⟩
        · cases E
          all_goals
            go_wp2_with fail
            go_ret
            exact ⟨ret_bool (by rw [HR.out]; rfl), HX1.out⟩
    · go_enter Tryz.func193, Tryz.ntmps193
      go_wp2_with fail
      refine (HK1.out _).mono ?_
      rintro e w' ⟨rfl, rfl⟩
      cases B
      all_goals
        go_wp2_with fail
        go_ret
        exact ⟨ret_bool (by rw [HR.out]; cases D <;> cases E <;> rfl), HX1.out⟩
  · cases C
    · go_enter Tryz.func193, Tryz.ntmps193
      go_wp2_with fail
      refine (HK2.out _).mono ?_
      rintro e w' ⟨rfl, rfl⟩
      cases D
      · go_wp2_with fail
        go_ret
        exact ⟨ret_bool (by rw [HR.out]; cases B <;> rfl), HX1.out⟩
      · cases E
        all_goals
          go_wp2_with fail
          go_ret
          exact ⟨ret_bool (by rw [HR.out]; cases B <;> rfl), HX1.out⟩
    · go_enter Tryz.func193, Tryz.ntmps193
      go_wp2_with fail
      go_ret
      exact ⟨ret_bool (by rw [HR.out]; cases B <;> cases D <;> cases E <;> rfl), HX1.out⟩
set_option maxRecDepth 100000 in
set_option maxHeartbeats 1600000 in
theorem refHas_calls (lo hi k : ByteArray) (w : World) (hl : lo.size ≤ 140737488351232) (hh : hi.size ≤ 140737488351232) (hk : k.size ≤ 140737488351232) : Calls Tryz.prog 165 #[.agg #[.string lo, .string hi], .string k] w fun e w' => e = .returned (.bool (hasB lo.data.toList hi.data.toList k.data.toList)) ∧ Ext w w' := by
  obtain ⟨S, hS⟩ : ∃ S, S = spanB lo.data.toList hi.data.toList := ⟨_, rfl⟩
  obtain ⟨B, hB⟩ : ∃ B, B = keyL k.data.toList := ⟨_, rfl⟩
  obtain ⟨L, hL⟩ : ∃ L, L = Op.bytesLess lo.toList k.toList := ⟨_, rfl⟩
  obtain ⟨Q, hQ⟩ : ∃ Q, Q = (lo.toList == k.toList) := ⟨_, rfl⟩
  obtain ⟨C, hC⟩ : ∃ C, C = hi.toList.isEmpty := ⟨_, rfl⟩
  obtain ⟨E, hE⟩ : ∃ E, E = Op.bytesLess k.toList hi.toList := ⟨_, rfl⟩
  have HR : Hid (hasB lo.data.toList hi.data.toList k.data.toList = (S && B && (L || Q) && (C || E))) := Lib.hid (by
    rw [hS, hB, hL, hQ, hC, hE, Lib.toList_data, Lib.toList_data, Lib.toList_data, bytesLess_eq, bytesLess_eq, ← not_lt_or]; rfl)
  have HRI : Hid (∀ W, Calls Tryz.prog 193 #[.agg #[.string lo, .string hi]] W fun e w' => e = .returned (.bool S) ∧ Ext W w') := Lib.hid (fun W => by rw [hS]; exact refSpanRight_calls lo hi W hl hh)
  have HK : Hid (∀ W, Calls Tryz.prog 191 #[.string k] W fun e w' => e = .returned (.bool B) ∧ W = w') := Lib.hid (fun W => by rw [hB]; exact refKey_calls k W hk)
  generalize hasB lo.data.toList hi.data.toList k.data.toList = res at HR ⊢
  have HX1 : Hid (Ext w (w.alloc (.cells #[.string lo, .string hi] 31))) := Lib.hid ((Below.refl _ w).alloc (Nat.le_refl _) _)
  have HB1 : Hid (Blk (w.alloc (.cells #[.string lo, .string hi] 31)) w.heap.size [.string lo, .string hi] 31) := Lib.hid (Blk.new w _ _)
  have l0 := hL.symm; have q9 := hQ.symm; have c0 := hC.symm; have e0 := hE.symm
  clear hS hB hL hQ hC hE
  go_enter Tryz.func165, Tryz.ntmps165
  go_wp2_with fail
  refine (HRI.out _).mono ?_
  rintro e w2 ⟨rfl, hx2⟩
  have b2 := HB1.out.ext' hx2
  have q0 := b2.cell 0; have q1 := b2.cell 1
  simp only [List.getElem?_cons_zero, List.getElem?_cons_succ] at q0 q1
  have X2 := Lib.hid (Ext.trans HX1.out hx2)
  clear hx2 b2 HX1 HB1
  cases S
  · go_wp2_with fail
    go_ret
    exact ⟨ret_bool (by rw [HR.out]; rfl), X2.out⟩
  · go_wp2_with fail
    refine (HK.out _).mono ?_
    rintro e w' ⟨rfl, rfl⟩
    cases B
    · go_wp2_with fail
      go_ret
      exact ⟨ret_bool (by rw [HR.out]; rfl), X2.out⟩
    · cases L
      all_goals
        cases Q
        all_goals
          cases C
          all_goals
            cases E
            all_goals
              go_wp2_with fail
              go_ret
              exact ⟨ret_bool (by rw [HR.out]; rfl), X2.out⟩
end Go.Proofs.YtdmejbjpbjcfbaaGreatDoor
/- The document's table of holds: what its calls read. -/
namespace Go.Proofs.YtdmejbjpbjcfbaaGreatDoor
open Go.RowKit
variable {no0 : Nat → Prop}
structure RTabN (no0 : Nat → Prop) (w : World) (mb : Nat) (v : Value) (ds : List HoldD) : Prop where
  blk : Blk w mb [v] 81
  row : ∃ l : List HoldV, w.ownsRow 0 35 7 v l.length (l.flatMap encHV) ∧ HoldsAre w (fun b => (b = mb ∨ v.ownBlock = some b) ∨ no0 b) l ds
  rise : RiseD ds
  ok : ∀ d ∈ ds, d.ok ∧ holdB d = true
  few : ds.length ≤ 60
theorem RTabN.ext {w w' : World} {mb : Nat} {v : Value} {ds : List HoldD} (h : RTabN no0 w mb v ds) (hx : Ext w w') : RTabN no0 w' mb v ds := by
  obtain ⟨l, h1, h2⟩ := h.row
  exact ⟨h.blk.ext' hx, ⟨l, own_ext h1 hx, h2.ext hx⟩, h.rise, h.ok, h.few⟩
theorem RTabN.apart {w : World} {mb : Nat} {v : Value} {ds : List HoldD} (h : RTabN no0 w mb v ds) : v.ownBlock ≠ some mb := by
  obtain ⟨l, r1, _⟩ := h.row
  exact own_ne r1 h.blk (by decide)
theorem RTabN.lt {w : World} {mb : Nat} {v : Value} {ds : List HoldD} (h : RTabN no0 w mb v ds) {b : Nat} (hv : v.ownBlock = some b) : b < w.heap.size := by
  obtain ⟨l, r1, _⟩ := h.row
  exact (r1.lt b hv).2
theorem RTabN.fits {w : World} {mb : Nat} {v : Value} {ds : List HoldD} (h : RTabN no0 w mb v ds) : ∀ d ∈ ds, d.fits := fun d hd => (h.ok d hd).1.fits
theorem RTabN.rows {w : World} {mb : Nat} {v : Value} {ds : List HoldD} (h : RTabN no0 w mb v ds) : ∃ (l : List HoldV) (ao : Option Addr) (cap : Nat), v = .slice ao l.length cap ∧ l.length ≤ cap ∧ cap ≤ maxLen ∧ l.length = ds.length ∧ Rows 7 encHV w.heap.size w ao l ∧ w.ownsRow 0 35 7 v l.length (l.flatMap encHV) ∧ HoldsAre w (fun b => (b = mb ∨ v.ownBlock = some b) ∨ no0 b) l ds := by
  obtain ⟨l, r1, r2⟩ := h.row
  obtain ⟨ao, c, hv, hlc, hcm, hr⟩ := Rows.own (enc := encHV) (sz := 7) (fun _ => rfl) r1
  exact ⟨l, ao, c, hv, hlc, hcm, r2.len, hr, r1, r2⟩
def ROfPost (k : List UInt8) (ds : List HoldD) (w : World) (e : Ending) (w' : World) : Prop :=
  ∃ x : HoldV, e = .returned (.tuple #[.agg (encHV x).toArray, .bool (hasD k ds)]) ∧ (match ofD k ds with | some d => x.is w' (fun _ => False) d | none => x = HoldV.zero) ∧ Ext w w'
theorem find_first {ds : List HoldD} {k : List UInt8} {i : Nat} {d : HoldD} (hd : ds[i]? = some d) (hk : dkey d = k) (hno : ∀ (j : Nat) (y : HoldD), j < i → ds[j]? = some y → dkey y ≠ k) : ofD k ds = some d ∧ hasD k ds = true := by
  have h1 : ofD k ds = some d := by
    unfold ofD
    rw [List.find?_eq_some_iff_getElem]
    obtain ⟨hi, he⟩ := List.getElem?_eq_some_iff.1 hd
    refine ⟨by simpa using hk, i, hi, he, fun j hj => ?_⟩
    simpa using hno j ds[j] hj (List.getElem?_eq_getElem (by omega))
  exact ⟨h1, by rw [← ofD_has, h1]; rfl⟩
theorem find_none {ds : List HoldD} {k : List UInt8} {i : Nat} (hi : ds.length ≤ i) (hno : ∀ (j : Nat) (y : HoldD), j < i → ds[j]? = some y → dkey y ≠ k) : ofD k ds = none ∧ hasD k ds = false := by
  have h1 : ofD k ds = none := by
    unfold ofD
    rw [List.find?_eq_none]
    intro x hx
    obtain ⟨j, hj⟩ := List.mem_iff_getElem?.1 hx
    have := hno j x (by have := (List.getElem?_eq_some_iff.1 hj).1; omega) hj
    simpa using this
  exact ⟨h1, by rw [← ofD_has, h1]; rfl⟩
theorem keyEq (a b : ByteArray) : (a.toList == b.toList) = decide (a.data.toList = b.data.toList) := by rw [Lib.toList_data, Lib.toList_data, Bool.eq_iff_iff, beq_iff_eq, decide_eq_true_eq]
set_option maxRecDepth 100000 in
set_option maxHeartbeats 1600000 in
theorem rof_calls (mb : Nat) (v : Value) (ds : List HoldD) (k : ByteArray) (w : World) (T : RTabN no0 w mb v ds) :
    Calls Tryz.prog 97 #[.pointer (some ⟨mb, 0, none⟩), .string k] w (ROfPost k.data.toList ds w) := by
  obtain ⟨l, ao, cap, rfl, hlc, hcm, hll, hrows, hown, hare⟩ := T.rows
  have hfew := T.few
  have hc0 := T.blk.cell 0
  simp only [List.getElem?_cons_zero] at hc0
  have hbl := T.blk.lt
  have hl60 : l.length ≤ 60 := by omega
  have HC0 := Lib.hid hc0; have HRO := Lib.hid hrows; have HAR := Lib.hid hare; have HLL := Lib.hid hll
  clear T hrows hown hare hc0 hll
  go_enter Tryz.func97, Tryz.ntmps97
  go_wp2_with fail
  have hb1 := Blk.new w [.string ⟨#[]⟩, .int .i64 0, .int .i64 0, .slice none 0 0, .slice none 0 0, .bool false, .string ⟨#[]⟩] 35
  have hx1 : Ext w (w.alloc (.cells #[.string ⟨#[]⟩, .int .i64 0, .int .i64 0, .slice none 0 0, .slice none 0 0, .bool false, .string ⟨#[]⟩] 35)) := (Below.refl _ w).alloc (Nat.le_refl _) _
  generalize w.alloc (.cells #[.string ⟨#[]⟩, .int .i64 0, .int .i64 0, .slice none 0 0, .slice none 0 0, .bool false, .string ⟨#[]⟩] 35) = w1 at hb1 hx1 ⊢
  have c1 := (hx1.cell (p := ⟨mb, 0, none⟩) hbl).trans HC0.out
  have B1 := Lib.hid hb1; have X1 := Lib.hid hx1
  clear hb1 hx1
  go_loopw [6] (fun vi wr => ∃ i : Nat, vi = .int .i64 i ∧ i ≤ l.length ∧ (∀ (j : Nat) (y : HoldD), j < i → ds[j]? = some y → dkey y ≠ k.data.toList) ∧ wr = w1) (fun vi _ => l.length - (intOf vi).toNat)
  case atStart => exact ⟨0, rfl, by omega, fun j y h => by omega, rfl⟩
  case round =>
    obtain ⟨i, rfl, hi, hno, hw⟩ := hrel
    subst hw
    have NO := Lib.hid hno
    clear hno
    have f0 := B1.out.free 0; have f1 := B1.out.free 1; have f2 := B1.out.free 2; have f3 := B1.out.free 3; have f4 := B1.out.free 4; have f5 := B1.out.free 5; have f6 := B1.out.free 6
    have z0 := B1.out.cell 0; have z1 := B1.out.cell 1; have z2 := B1.out.cell 2; have z3 := B1.out.cell 3; have z4 := B1.out.cell 4; have z5 := B1.out.cell 5; have z6 := B1.out.cell 6
    simp only [List.getElem?_cons_zero, List.getElem?_cons_succ] at z0 z1 z2 z3 z4 z5 z6
    by_cases hlt : i < l.length
    · obtain ⟨x, hx⟩ : ∃ x, l[i]? = some x := ⟨_, List.getElem?_eq_getElem hlt⟩
      obtain ⟨d, hdk, hxd⟩ := HAR.out.at i x hx
      obtain ⟨b, off, rfl, hbb, hcell⟩ := HRO.out (by intro e; rw [e] at hlt; simp at hlt)
      have hcx := hcell i x hx
      have hmove : ∀ j, wr.cell? ⟨b, j, none⟩ = w.cell? ⟨b, j, none⟩ := fun j => X1.out.cell (p := ⟨b, j, none⟩) hbb
      have hkk : x.key = d.key := hxd.key
      obtain ⟨key, cl, nm, xo, xn, xc, yo, yn, yc, put, value⟩ := x
      have d0 := (hmove _).trans (hcx 0 _ rfl); have d1 := (hmove _).trans (hcx 1 _ rfl); have d2 := (hmove _).trans (hcx 2 _ rfl); have d3 := (hmove _).trans (hcx 3 _ rfl); have d4 := (hmove _).trans (hcx 4 _ rfl); have d5 := (hmove _).trans (hcx 5 _ rfl); have d6 := (hmove _).trans (hcx 6 _ rfl)
      simp only [Nat.add_zero] at d0
      have i0 : (0 : Int) ≤ (i : Int) := by omega
      have i1 : (i : Int) < (l.length : Int) := by omega
      simp only at hkk
      have HXD := Lib.hid hxd; have HDK := Lib.hid hdk
      by_cases heq : dkey d = k.data.toList
      · have he : (key.toList == k.toList) = true := by rw [keyEq, hkk]; exact decide_eq_true heq
        obtain ⟨hf, hh⟩ := find_first hdk heq NO.out
        have HF := Lib.hid hf; have HH := Lib.hid hh
        clear hx hdk hxd hcell hcx hmove hkk heq hf hh
        go_wp2_with fail
        refine bodyPost_ret (res_row_tmp rfl _ _ w.heap.size 35 (encHV ⟨key, cl, nm, xo, xn, xc, yo, yn, yc, put, value⟩) _ rfl (B1.out.set7 (.string key) (.int .i64 cl) (.int .i64 nm) (.slice xo xn xc) (.slice yo yn yc) (.bool put) (.string value)) Tryz.underlying35 rfl (by kernel_rfl)) rfl ?_
        have hb9 := but_set7 wr w.heap.size (.string key) (.int .i64 cl) (.int .i64 nm) (.slice xo xn xc) (.slice yo yn yc) (.bool put) (.string value)
        have hx9 : Ext w _ := ((Ext.but X1.out (fun _ => False)).trans hb9 (U := fun j => j = w.heap.size) (fun _ _ e => e.elim) (fun _ _ e => e)).ext (fun j hj e => by omega)
        refine ⟨⟨key, cl, nm, xo, xn, xc, yo, yn, yc, put, value⟩, by rw [HH.out]; rfl, ?_, hx9⟩
        rw [HF.out]
        exact (HXD.out.mono (no' := fun _ => False) (fun _ _ e => e.elim)).ext hx9
      · have he : (key.toList == k.toList) = false := by rw [keyEq, hkk]; exact decide_eq_false heq
        have hn2 : ∀ (j : Nat) (y : HoldD), j < i + 1 → ds[j]? = some y → dkey y ≠ k.data.toList := fun j y hj hy => by
          by_cases e : j = i
          · subst e
            have := HDK.out
            rw [hy] at this
            rw [Option.some.inj this]; exact heq
          · exact NO.out j y (by omega) hy
        have N2 := Lib.hid hn2
        clear hx hdk hxd hcell hcx hmove hkk heq hn2
        go_wp2_with fail
        go_roundw
        case rel => exact ⟨i + 1, by go_num, by omega, N2.out, by first | rfl | trivial⟩
        case measure => simp [intOf]; omega
    · obtain ⟨hf, hh⟩ := find_none (i := i) (by have := HLL.out; omega) NO.out
      have HF := Lib.hid hf; have HH := Lib.hid hh
      clear hf hh
      go_wp2_with fail
      refine bodyPost_ret (res_row_tmp rfl _ _ w.heap.size 35 (encHV HoldV.zero) _ rfl (B1.out.set7 (.string ⟨#[]⟩) (.int .i64 0) (.int .i64 0) (.slice none 0 0) (.slice none 0 0) (.bool false) (.string ⟨#[]⟩)) Tryz.underlying35 rfl (by kernel_rfl)) rfl ?_
      have hb9 := but_set7 wr w.heap.size (.string ⟨#[]⟩) (.int .i64 0) (.int .i64 0) (.slice none 0 0) (.slice none 0 0) (.bool false) (.string ⟨#[]⟩)
      have hx9 : Ext w _ := ((Ext.but X1.out (fun _ => False)).trans hb9 (U := fun j => j = w.heap.size) (fun _ _ e => e.elim) (fun _ _ e => e)).ext (fun j hj e => by omega)
      exact ⟨HoldV.zero, by rw [HH.out]; rfl, by rw [HF.out], hx9⟩
set_option maxRecDepth 100000 in
theorem rhas_calls (ls : List ByteArray) (ao : Option Addr) (cap : Nat) (k : ByteArray) (w : World) (hl : ls.length ≤ 1000000) (hr : Rows 1 encStr w.heap.size w ao ls) :
    Calls Tryz.prog 143 #[.slice ao ls.length cap, .string k] w fun e w' => e = .returned (.bool (amongB ls k)) ∧ w = w' := by
  have HR := Lib.hid hr
  clear hr
  go_enter Tryz.func143, Tryz.ntmps143
  go_wp2_with fail
  go_loopw [5] (fun vi wr => ∃ i : Nat, vi = .int .i64 i ∧ i ≤ ls.length ∧ amongB (ls.take i) k = false ∧ wr = w) (fun vi _ => ls.length - (intOf vi).toNat)
  case atStart => exact ⟨0, rfl, by omega, rfl, rfl⟩
  case round =>
    obtain ⟨i, rfl, hi, hno, hw⟩ := hrel
    subst hw
    have NO := Lib.hid hno
    clear hno
    by_cases hlt : i < ls.length
    · obtain ⟨x, hx⟩ : ∃ x, ls[i]? = some x := ⟨_, List.getElem?_eq_getElem hlt⟩
      obtain ⟨b, off, rfl, hbb, hcell⟩ := HR.out (by intro e; rw [e] at hlt; simp at hlt)
      have d0 := hcell i x hx 0 _ rfl
      simp only [Nat.add_zero, Nat.mul_one] at d0
      have i0 : (0 : Int) ≤ (i : Int) := by omega
      have i1 : (i : Int) < (ls.length : Int) := by omega
      have hsu : amongB (ls.take (i + 1)) k = (amongB (ls.take i) k || decide (x.data.toList = k.data.toList)) := by
        unfold amongB; rw [List.take_add_one, hx, List.any_append]; simp
      rw [NO.out, Bool.false_or] at hsu
      have hmem := List.mem_of_getElem? hx
      by_cases heq : x.data.toList = k.data.toList
      · have he : (x.toList == k.toList) = true := by rw [keyEq]; exact decide_eq_true heq
        have hA : amongB ls k = true := List.any_eq_true.2 ⟨x, hmem, decide_eq_true heq⟩
        have HA := Lib.hid hA
        clear hx hcell hsu hmem heq hA
        go_wp2_with fail
        go_ret
        exact ⟨ret_bool (by rw [HA.out]), rfl⟩
      · have he : (x.toList == k.toList) = false := by rw [keyEq]; exact decide_eq_false heq
        rw [decide_eq_false heq] at hsu
        have HS := Lib.hid hsu
        clear hx hcell hsu hmem heq
        go_wp2_with fail
        go_roundw
        case rel => exact ⟨i + 1, by go_num, by omega, HS.out, by first | rfl | trivial⟩
        case measure => simp [intOf]; omega
    · have hall : ls.take i = ls := List.take_of_length_le (by omega)
      rw [hall] at NO
      clear hall
      go_wp2_with fail
      go_ret
      exact ⟨ret_bool (by rw [NO.out]), rfl⟩
end Go.Proofs.YtdmejbjpbjcfbaaGreatDoor
/- The document's table of holds: In, By and Free. -/
namespace Go.Proofs.YtdmejbjpbjcfbaaGreatDoor
open Go.RowKit
variable {no0 : Nat → Prop}
def RRowPost (no1 : Nat → Prop) (yes : List HoldD) (w : World) (e : Ending) (w' : World) : Prop :=
  ∃ (r : Value) (l' : List HoldV), e = .returned r ∧ w'.ownsRow 0 35 7 r l'.length (l'.flatMap encHV) ∧ (∀ j, r.ownBlock = some j → w.heap.size ≤ j) ∧ HoldsAre w' (fun b => r.ownBlock = some b ∨ no1 b) l' yes ∧ Ext w w'
theorem are_keys {w : World} {no : Nat → Prop} {l : List HoldV} {ds : List HoldD} (h : HoldsAre w no l ds) (hok : ∀ d ∈ ds, d.ok ∧ holdB d = true) : ∀ x ∈ l, x.key.size ≤ 140737488351232 := by
  intro x hx
  obtain ⟨i, hi⟩ := List.mem_iff_getElem?.1 hx
  obtain ⟨d, hd, he⟩ := h.at i x hi
  rw [he.key]
  exact (hok d (List.mem_of_getElem? hd)).1.ks
theorem are_told {w w' : World} {no1 : Nat → Prop} {l : List HoldV} {ds : List HoldD} {r : Value} (p : ByteArray → Int → Int → Bool) (h : HoldsAre w no1 l ds) (hn : ∀ j, r.ownBlock = some j → w.heap.size ≤ j) (hx : Ext w w') : HoldsAre w' (fun b => r.ownBlock = some b ∨ no1 b) (l.filter (·.tells p)) (ds.filter (·.tells p)) :=
  ((HoldsAre.filter p h).mono (fun b hb e => e.elim (fun e => absurd hb (Nat.not_lt.2 (hn b e))) id)).ext hx
theorem cellX {w W : World} {b i : Nat} {v : Value} (hx : Ext w W) (h : w.cell? ⟨b, i, none⟩ = some v) : W.cell? ⟨b, i, none⟩ = some v := (hx.cell (p := ⟨b, i, none⟩) (block_lt_of_cell h)).trans h
theorem eql_Nm (c1 n1 c2 n2 : Int) (w : World) :
    (binOp .eql 24 (.agg #[.int .i64 c1, .int .i64 n1]) (.agg #[.int .i64 c2, .int .i64 n2])).run Tryz.prog w = .ok (.bool (c1 == c2 && n1 == n2)) w := by
  have hS : Tryz.prog.underlying 24 = some (.struct (Tryz.prog.fieldsOf 24)) := by kernel_rfl
  have hp : Tryz.prog.stoodInHeld 24 = false := by kernel_rfl
  have u9 := Tryz.underlying3
  rw [run_eql_struct, show (10000 : Nat) = 9999 + 1 from rfl, run_equalIn_agg w 9999 24 _ _ hS hp]
  simp only [Program.fieldsOf, Tryz.underlying24]
  go_simp
  by_cases h1 : c1 = c2 <;> by_cases h2 : n1 = n2 <;> simp [h1, h2]
def byD (c n : Int) (ds : List HoldD) : List HoldD := ds.filter (·.tells fun _ cl nm => (cl == c && nm == n))
set_option maxRecDepth 100000 in
set_option maxHeartbeats 3200000 in
theorem rin_calls (mb : Nat) (v : Value) (ds : List HoldD) (lo hj : ByteArray) (w : World) (T : RTabN no0 w mb v ds) (hl : lo.size ≤ 140737488351232) (hh : hj.size ≤ 140737488351232) :
    Calls Tryz.prog 144 #[.pointer (some ⟨mb, 0, none⟩), .agg #[.string lo, .string hj]] w (RRowPost (fun b => (b = mb ∨ v.ownBlock = some b) ∨ no0 b) (inD lo hj ds) w) := by
  obtain ⟨i0, hi, hz0, hz1, hz2⟩ := info_parts infoHold
  obtain ⟨l, ao, cap, rfl, hlc, hcm, hll, hrows, hown, hare⟩ := T.rows
  have hfew := T.few
  have hc0 := T.blk.cell 0
  simp only [List.getElem?_cons_zero] at hc0
  have hbl := T.blk.lt
  have hl60 : l.length ≤ 60 := by omega
  have HKS := Lib.hid (are_keys hare T.ok)
  have HC0 := Lib.hid hc0; have HRO := Lib.hid hrows; have HAR := Lib.hid hare; have HT := Lib.hid T
  clear T hrows hown hare hc0 hll
  go_enter Tryz.func144, Tryz.ntmps144
  go_wp2_with fail
  have hb1 := Blk.new w [.string lo, .string hj] 31
  have hx1 : Ext w (w.alloc (.cells #[.string lo, .string hj] 31)) := (Below.refl _ w).alloc (Nat.le_refl _) _
  generalize w.alloc (.cells #[.string lo, .string hj] 31) = w1 at hb1 hx1 ⊢
  generalize w.heap.size = bx at hb1 ⊢
  have B1 := Lib.hid hb1; have X1 := Lib.hid hx1
  clear hb1 hx1
  go_loopw [5, 6] (fun vo vi wr => ∃ k : Nat, vi = .int .i64 k ∧ k ≤ l.length ∧ wr.ownsRow 0 35 7 vo ((l.take k).filter (·.tells (fun k _ _ => hasB lo.data.toList hj.data.toList k.data.toList))).length (((l.take k).filter (·.tells (fun k _ _ => hasB lo.data.toList hj.data.toList k.data.toList))).flatMap encHV) ∧ (∀ j, vo.ownBlock = some j → w1.heap.size ≤ j) ∧ Ext w1 wr) (fun _ vi _ => l.length - (intOf vi).toNat)
  case atStart => exact ⟨0, rfl, by omega, World.ownsRow_nil _ _ _ _, by simp [Value.ownBlock], Below.refl _ _⟩
  case round =>
    obtain ⟨k, rfl, hk, hown, hnew, hx⟩ := hrel
    have K1 := Lib.hid hown; have K2 := Lib.hid hnew; have K4 := Lib.hid hx
    clear hown hnew hx
    have XW := Lib.hid (Ext.trans X1.out K4.out)
    have cm := (XW.out.cell (p := ⟨mb, 0, none⟩) hbl).trans HC0.out
    by_cases hlt : k < l.length
    · skip
      obtain ⟨x, hx⟩ : ∃ x, l[k]? = some x := ⟨_, List.getElem?_eq_getElem hlt⟩
      obtain ⟨b, off, rfl, hbb, hcell⟩ := HRO.out (by intro e; rw [e] at hlt; simp at hlt)
      have hcx := hcell k x hx
      have hmove : ∀ j, wr.cell? ⟨b, j, none⟩ = w.cell? ⟨b, j, none⟩ := fun j => XW.out.cell (p := ⟨b, j, none⟩) hbb
      have hfs := filter_succ (·.tells (fun k _ _ => hasB lo.data.toList hj.data.toList k.data.toList)) l k x hx
      have hfl : ((l.take k).filter (·.tells (fun k _ _ => hasB lo.data.toList hj.data.toList k.data.toList))).length ≤ k := Nat.le_trans (List.length_filter_le ..) (List.length_take_le ..)
      have hks := HKS.out x (List.mem_of_getElem? hx)
      obtain ⟨key, cl, nm, xo, xn, xc, yo, yn, yc, put, value⟩ := x
      have d0 := (hmove _).trans (hcx 0 _ rfl); have d1 := (hmove _).trans (hcx 1 _ rfl); have d2 := (hmove _).trans (hcx 2 _ rfl); have d3 := (hmove _).trans (hcx 3 _ rfl); have d4 := (hmove _).trans (hcx 4 _ rfl); have d5 := (hmove _).trans (hcx 5 _ rfl); have d6 := (hmove _).trans (hcx 6 _ rfl)
      simp only [Nat.add_zero] at d0
      simp only at hks
      have ii0 : (0 : Int) ≤ (k : Int) := by omega
      have i1 : (k : Int) < (l.length : Int) := by omega
      have hbr : b < wr.heap.size := Nat.lt_of_lt_of_le hbb XW.out.size
      have hmr : mb < wr.heap.size := Nat.lt_of_lt_of_le hbl XW.out.size
      have HFS := Lib.hid hfs
      have s0 := (B1.out.ext' K4.out).cell 0; have s1 := (B1.out.ext' K4.out).cell 1
      simp only [List.getElem?_cons_zero, List.getElem?_cons_succ] at s0 s1
      have hc := fun q : ExtBy wr => refHas_calls lo hj key q.W hl hh hks
      obtain ⟨g, hg⟩ : ∃ g, g = hasB lo.data.toList hj.data.toList key.data.toList := ⟨_, rfl⟩
      rw [← hg] at hc
      have HC := Lib.hid hc
      have HG : Hid (HoldV.tells (fun k _ _ => hasB lo.data.toList hj.data.toList k.data.toList) ⟨key, cl, nm, xo, xn, xc, yo, yn, yc, put, value⟩ = g) := Lib.hid hg.symm
      clear hc hg
      have e0 := ExtBy.cell d0; have e1 := ExtBy.cell d1; have e2 := ExtBy.cell d2; have em := ExtBy.cell cm; have t0 := ExtBy.cell s0; have t1 := ExtBy.cell s1
      have DD : Hid (∀ W, Ext wr W → W.cell? ⟨mb, 0, none⟩ = some (.slice (some ⟨b, off, none⟩) l.length cap) ∧ W.cell? ⟨b, off + k * 7, none⟩ = some (.string key) ∧ W.cell? ⟨b, off + k * 7 + 1, none⟩ = some (.int .i64 cl) ∧ W.cell? ⟨b, off + k * 7 + 2, none⟩ = some (.int .i64 nm) ∧ W.cell? ⟨b, off + k * 7 + 3, none⟩ = some (.slice xo xn xc) ∧ W.cell? ⟨b, off + k * 7 + 4, none⟩ = some (.slice yo yn yc) ∧ W.cell? ⟨b, off + k * 7 + 5, none⟩ = some (.bool put) ∧ W.cell? ⟨b, off + k * 7 + 6, none⟩ = some (.string value)) := Lib.hid fun W hW =>
        ⟨cellX hW cm, cellX hW d0, cellX hW d1, cellX hW d2, cellX hW d3, cellX hW d4, cellX hW d5, cellX hW d6⟩
      clear d0 d1 d2 d3 d4 d5 d6 s0 s1 hx hcell hcx hmove hfs
      go_wp2_with fail
      clear cm
      refine wp_region_ext (by kernel_rfl) (by kernel_rfl) ?_
      repeat (go_big_quiet_step (with_reducible exact Calls.ext_of _ (HC.out _)))
      refine wpQuiet_nil ?_
      intro wc hw'
      have hxc : Ext wr wc := by obtain ⟨q, rfl⟩ := hw'; exact q.ext
      obtain ⟨cm, d0, d1, d2, d3, d4, d5, d6⟩ := DD.out wc hxc
      have XC := Lib.hid hxc
      have hbc : b < wc.heap.size := Nat.lt_of_lt_of_le hbr hxc.size
      have hmc : mb < wc.heap.size := Nat.lt_of_lt_of_le hmr hxc.size
      clear hw' hxc e0 e1 e2 em t0 t1 DD
      cases g with
      | false =>
        go_wp2_with fail
        go_roundw
        case rel =>
          refine ⟨k + 1, by go_num, by omega, ?_, K2.out, Ext.trans K4.out XC.out⟩
          rw [HFS.out, HG.out]
          simpa using own_ext K1.out XC.out
        case measure => simp [intOf]; omega
      | true =>
        generalize ((l.take k).filter (·.tells (fun k _ _ => hasB lo.data.toList hj.data.toList k.data.toList))) = F at *
        have E2 : Hid (Ext wc (wc.alloc (.cells (encHV ⟨key, cl, nm, xo, xn, xc, yo, yn, yc, put, value⟩).toArray 35))) := Lib.hid ((Below.refl _ wc).alloc (Nat.le_refl _) _)
        have CN := Lib.hid (cells_new wc (encHV ⟨key, cl, nm, xo, xn, xc, yo, yn, yc, put, value⟩) 35)
        go_wp2_with (at_builtin; go_must (refine wpList_append_at _ rfl (.tmp 26) (.tmp 34) 22 rfl 35 i0 _ 7 104 Tryz.underlying22 hi hz0 hz1 hz2 rfl (by decide) _ F.length (F.flatMap encHV) rfl (own_ext (own_ext K1.out XC.out) E2.out) ⟨wc.heap.size, 0, none⟩ 1 1 (encHV ⟨key, cl, nm, xo, xn, xc, yo, yn, yc, put, value⟩) rfl rfl CN.out (one_hold _) (by decide) (by unfold maxLen; omega) (by omega) ?_); intro g9 cap2 w4 hown' hbut hkept; have Y1 := Lib.hid hown'; have Y2 := Lib.hid hbut; have Y3 := Lib.hid hkept; clear hown' hbut hkept)
        go_roundw
        case rel =>
          obtain ⟨st1, st2⟩ := own_step K2.out K4.out (Ext.trans XC.out E2.out) Y2.out Y3.out
          refine ⟨k + 1, by go_num, by omega, ?_, st1, st2⟩
          rw [HFS.out, HG.out]
          simpa using Y1.out
        case measure => simp [intOf]; omega
    · have hall : l.take k = l := List.take_of_length_le (by omega)
      rw [hall] at K1
      clear hall
      go_wp2_with fail
      go_ret
      have hsz := X1.out.size
      exact ⟨_, _, rfl, K1.out, fun j hj => Nat.le_trans hsz (K2.out j hj), are_told (fun k _ _ => hasB lo.data.toList hj.data.toList k.data.toList) HAR.out (fun j hj => Nat.le_trans hsz (K2.out j hj)) XW.out, XW.out⟩
set_option maxRecDepth 100000 in
set_option maxHeartbeats 3200000 in
theorem rby_calls (mb : Nat) (v : Value) (ds : List HoldD) (c n : Int) (w : World) (T : RTabN no0 w mb v ds) :
    Calls Tryz.prog 95 #[.pointer (some ⟨mb, 0, none⟩), .agg #[.int .i64 c, .int .i64 n]] w (RRowPost (fun b => (b = mb ∨ v.ownBlock = some b) ∨ no0 b) (byD c n ds) w) := by
  obtain ⟨i0, hi, hz0, hz1, hz2⟩ := info_parts infoHold
  obtain ⟨l, ao, cap, rfl, hlc, hcm, hll, hrows, hown, hare⟩ := T.rows
  have hfew := T.few
  have hc0 := T.blk.cell 0
  simp only [List.getElem?_cons_zero] at hc0
  have hbl := T.blk.lt
  have hl60 : l.length ≤ 60 := by omega
  have HKS := Lib.hid (are_keys hare T.ok)
  have HC0 := Lib.hid hc0; have HRO := Lib.hid hrows; have HAR := Lib.hid hare; have HT := Lib.hid T
  clear T hrows hown hare hc0 hll
  go_enter Tryz.func95, Tryz.ntmps95
  go_wp2_with fail
  have hb1 := Blk.new w [.int .i64 c, .int .i64 n] 24
  have hx1 : Ext w (w.alloc (.cells #[.int .i64 c, .int .i64 n] 24)) := (Below.refl _ w).alloc (Nat.le_refl _) _
  generalize w.alloc (.cells #[.int .i64 c, .int .i64 n] 24) = w1 at hb1 hx1 ⊢
  generalize w.heap.size = bx at hb1 ⊢
  have B1 := Lib.hid hb1; have X1 := Lib.hid hx1
  clear hb1 hx1
  go_loopw [5, 6] (fun vo vi wr => ∃ k : Nat, vi = .int .i64 k ∧ k ≤ l.length ∧ wr.ownsRow 0 35 7 vo ((l.take k).filter (·.tells (fun _ cl nm => (cl == c && nm == n)))).length (((l.take k).filter (·.tells (fun _ cl nm => (cl == c && nm == n)))).flatMap encHV) ∧ (∀ j, vo.ownBlock = some j → w1.heap.size ≤ j) ∧ Ext w1 wr) (fun _ vi _ => l.length - (intOf vi).toNat)
  case atStart => exact ⟨0, rfl, by omega, World.ownsRow_nil _ _ _ _, by simp [Value.ownBlock], Below.refl _ _⟩
  case round =>
    obtain ⟨k, rfl, hk, hown, hnew, hx⟩ := hrel
    have K1 := Lib.hid hown; have K2 := Lib.hid hnew; have K4 := Lib.hid hx
    clear hown hnew hx
    have XW := Lib.hid (Ext.trans X1.out K4.out)
    have cm := (XW.out.cell (p := ⟨mb, 0, none⟩) hbl).trans HC0.out
    by_cases hlt : k < l.length
    · skip
      obtain ⟨x, hx⟩ : ∃ x, l[k]? = some x := ⟨_, List.getElem?_eq_getElem hlt⟩
      obtain ⟨b, off, rfl, hbb, hcell⟩ := HRO.out (by intro e; rw [e] at hlt; simp at hlt)
      have hcx := hcell k x hx
      have hmove : ∀ j, wr.cell? ⟨b, j, none⟩ = w.cell? ⟨b, j, none⟩ := fun j => XW.out.cell (p := ⟨b, j, none⟩) hbb
      have hfs := filter_succ (·.tells (fun _ cl nm => (cl == c && nm == n))) l k x hx
      have hfl : ((l.take k).filter (·.tells (fun _ cl nm => (cl == c && nm == n)))).length ≤ k := Nat.le_trans (List.length_filter_le ..) (List.length_take_le ..)
      have hks := HKS.out x (List.mem_of_getElem? hx)
      obtain ⟨key, cl, nm, xo, xn, xc, yo, yn, yc, put, value⟩ := x
      have d0 := (hmove _).trans (hcx 0 _ rfl); have d1 := (hmove _).trans (hcx 1 _ rfl); have d2 := (hmove _).trans (hcx 2 _ rfl); have d3 := (hmove _).trans (hcx 3 _ rfl); have d4 := (hmove _).trans (hcx 4 _ rfl); have d5 := (hmove _).trans (hcx 5 _ rfl); have d6 := (hmove _).trans (hcx 6 _ rfl)
      simp only [Nat.add_zero] at d0
      simp only at hks
      have ii0 : (0 : Int) ≤ (k : Int) := by omega
      have i1 : (k : Int) < (l.length : Int) := by omega
      have hbr : b < wr.heap.size := Nat.lt_of_lt_of_le hbb XW.out.size
      have hmr : mb < wr.heap.size := Nat.lt_of_lt_of_le hbl XW.out.size
      have HFS := Lib.hid hfs
      have s0 := (B1.out.ext' K4.out).cell 0; have s1 := (B1.out.ext' K4.out).cell 1
      simp only [List.getElem?_cons_zero, List.getElem?_cons_succ] at s0 s1
      obtain ⟨g, hg⟩ : ∃ g, g = (cl == c && nm == n) := ⟨_, rfl⟩
      have HG : Hid (HoldV.tells (fun _ cl nm => (cl == c && nm == n)) ⟨key, cl, nm, xo, xn, xc, yo, yn, yc, put, value⟩ = g) := Lib.hid hg.symm
      have hg2 := hg.symm
      have heq := eql_Nm
      clear hg
      have e0 := ExtBy.cell d0; have e1 := ExtBy.cell d1; have e2 := ExtBy.cell d2; have em := ExtBy.cell cm; have t0 := ExtBy.cell s0; have t1 := ExtBy.cell s1
      have DD : Hid (∀ W, Ext wr W → W.cell? ⟨mb, 0, none⟩ = some (.slice (some ⟨b, off, none⟩) l.length cap) ∧ W.cell? ⟨b, off + k * 7, none⟩ = some (.string key) ∧ W.cell? ⟨b, off + k * 7 + 1, none⟩ = some (.int .i64 cl) ∧ W.cell? ⟨b, off + k * 7 + 2, none⟩ = some (.int .i64 nm) ∧ W.cell? ⟨b, off + k * 7 + 3, none⟩ = some (.slice xo xn xc) ∧ W.cell? ⟨b, off + k * 7 + 4, none⟩ = some (.slice yo yn yc) ∧ W.cell? ⟨b, off + k * 7 + 5, none⟩ = some (.bool put) ∧ W.cell? ⟨b, off + k * 7 + 6, none⟩ = some (.string value)) := Lib.hid fun W hW =>
        ⟨cellX hW cm, cellX hW d0, cellX hW d1, cellX hW d2, cellX hW d3, cellX hW d4, cellX hW d5, cellX hW d6⟩
      clear d0 d1 d2 d3 d4 d5 d6 s0 s1 hx hcell hcx hmove hfs
      go_wp2_with fail
      clear cm
      refine wp_region_ext (by kernel_rfl) (by kernel_rfl) ?_
      repeat (go_big_quiet_step (fail))
      refine wpQuiet_nil ?_
      intro wc hw'
      have hxc : Ext wr wc := by obtain ⟨q, rfl⟩ := hw'; exact q.ext
      obtain ⟨cm, d0, d1, d2, d3, d4, d5, d6⟩ := DD.out wc hxc
      have XC := Lib.hid hxc
      have hbc : b < wc.heap.size := Nat.lt_of_lt_of_le hbr hxc.size
      have hmc : mb < wc.heap.size := Nat.lt_of_lt_of_le hmr hxc.size
      clear hw' hxc e0 e1 e2 em t0 t1 DD
      cases g with
      | false =>
        go_wp2_with fail
        go_roundw
        case rel =>
          refine ⟨k + 1, by go_num, by omega, ?_, K2.out, Ext.trans K4.out XC.out⟩
          rw [HFS.out, HG.out]
          simpa using own_ext K1.out XC.out
        case measure => simp [intOf]; omega
      | true =>
        generalize ((l.take k).filter (·.tells (fun _ cl nm => (cl == c && nm == n)))) = F at *
        have E2 : Hid (Ext wc (wc.alloc (.cells (encHV ⟨key, cl, nm, xo, xn, xc, yo, yn, yc, put, value⟩).toArray 35))) := Lib.hid ((Below.refl _ wc).alloc (Nat.le_refl _) _)
        have CN := Lib.hid (cells_new wc (encHV ⟨key, cl, nm, xo, xn, xc, yo, yn, yc, put, value⟩) 35)
        go_wp2_with (at_builtin; go_must (refine wpList_append_at _ rfl (.tmp 26) (.tmp 34) 22 rfl 35 i0 _ 7 104 Tryz.underlying22 hi hz0 hz1 hz2 rfl (by decide) _ F.length (F.flatMap encHV) rfl (own_ext (own_ext K1.out XC.out) E2.out) ⟨wc.heap.size, 0, none⟩ 1 1 (encHV ⟨key, cl, nm, xo, xn, xc, yo, yn, yc, put, value⟩) rfl rfl CN.out (one_hold _) (by decide) (by unfold maxLen; omega) (by omega) ?_); intro g9 cap2 w4 hown' hbut hkept; have Y1 := Lib.hid hown'; have Y2 := Lib.hid hbut; have Y3 := Lib.hid hkept; clear hown' hbut hkept)
        go_roundw
        case rel =>
          obtain ⟨st1, st2⟩ := own_step K2.out K4.out (Ext.trans XC.out E2.out) Y2.out Y3.out
          refine ⟨k + 1, by go_num, by omega, ?_, st1, st2⟩
          rw [HFS.out, HG.out]
          simpa using Y1.out
        case measure => simp [intOf]; omega
    · have hall : l.take k = l := List.take_of_length_le (by omega)
      rw [hall] at K1
      clear hall
      go_wp2_with fail
      go_ret
      have hsz := X1.out.size
      exact ⟨_, _, rfl, K1.out, fun j hj => Nat.le_trans hsz (K2.out j hj), are_told (fun _ cl nm => (cl == c && nm == n)) HAR.out (fun j hj => Nat.le_trans hsz (K2.out j hj)) XW.out, XW.out⟩
end Go.Proofs.YtdmejbjpbjcfbaaGreatDoor
/- CopyActs, CopyReads, CopyHold, CopyHolds; the document's table copied. -/
namespace Go.Proofs.YtdmejbjpbjcfbaaGreatDoor
open Go.RowKit
variable {no0 : Nat → Prop}
set_option maxRecDepth 100000 in
theorem copyActs_calls (l : List ActD) (ao : Option Addr) (cap : Nat) (w : World) (hl : l.length ≤ 1000000) (hr : Rows 4 encAct w.heap.size w ao l) :
    Calls Tryz.prog 163 #[.slice ao l.length cap] w fun e w' => ∃ v, e = .returned v ∧ w'.ownsRow 0 98 4 v l.length (l.flatMap encAct) ∧ (∀ j, v.ownBlock = some j → w.heap.size ≤ j) ∧ Ext w w' := by
  obtain ⟨i0, hi, hz0, hz1, hz2⟩ := info_parts infoAct
  have HR := Lib.hid hr
  clear hr
  go_enter Tryz.func163, Tryz.ntmps163
  go_wp2_with (at_builtin; go_must (refine wpList_append_rows (enc := encAct) (size := 4) (fun _ => rfl) one_act rfl _ _ 32 rfl 98 i0 _ 48 Tryz.underlying32 hi hz0 hz1 hz2 rfl (by decide) (.slice none 0 0) 0 [] rfl (World.ownsRow_nil _ _ _ _) ao l cap rfl HR.out (by unfold maxLen; omega) (by omega) ?_); intro v2 w2 hown2 hbut2 hkept2; have O2 := Lib.hid hown2; have B2 := Lib.hid hbut2; have K2 := Lib.hid hkept2; clear hown2 hbut2 hkept2)
  go_ret
  refine ⟨_, rfl, by simpa using O2.out, fun j hj => (K2.out j hj).elim (fun e => by simp [Value.ownBlock] at e) id, B2.out.ext (fun i hi e => by simp [Value.ownBlock] at e)⟩
set_option maxRecDepth 100000 in
theorem copyReads_calls (l : List Rd) (ao : Option Addr) (cap : Nat) (w : World) (hl : l.length ≤ 1000000) (hr : Rows 3 encRd w.heap.size w ao l) :
    Calls Tryz.prog 164 #[.slice ao l.length cap] w fun e w' => ∃ v, e = .returned v ∧ w'.ownsRow 0 100 3 v l.length (l.flatMap encRd) ∧ (∀ j, v.ownBlock = some j → w.heap.size ≤ j) ∧ Ext w w' := by
  obtain ⟨i0, hi, hz0, hz1, hz2⟩ := info_parts infoRd
  have HR := Lib.hid hr
  clear hr
  go_enter Tryz.func164, Tryz.ntmps164
  go_wp2_with (at_builtin; go_must (refine wpList_append_rows (enc := encRd) (size := 3) (fun _ => rfl) one_rd rfl _ _ 33 rfl 100 i0 _ 40 Tryz.underlying33 hi hz0 hz1 hz2 rfl (by decide) (.slice none 0 0) 0 [] rfl (World.ownsRow_nil _ _ _ _) ao l cap rfl HR.out (by unfold maxLen; omega) (by omega) ?_); intro v2 w2 hown2 hbut2 hkept2; have O2 := Lib.hid hown2; have B2 := Lib.hid hbut2; have K2 := Lib.hid hkept2; clear hown2 hbut2 hkept2)
  go_ret
  refine ⟨_, rfl, by simpa using O2.out, fun j hj => (K2.out j hj).elim (fun e => by simp [Value.ownBlock] at e) id, B2.out.ext (fun i hi e => by simp [Value.ownBlock] at e)⟩
set_option maxRecDepth 100000 in
set_option maxHeartbeats 1600000 in
theorem copyHold_calls (x : HoldV) (d : HoldD) (w : World) (hx : x.is w (fun _ => False) d) (ha : d.acts.length ≤ 1000000) (hr : d.reads.length ≤ 1000000) :
    Calls Tryz.prog 142 #[.agg (encHV x).toArray] w fun e w' => ∃ y : HoldV, e = .returned (.agg (encHV y).toArray) ∧ y.is w' (fun b => b < w.heap.size) d ∧ Ext w w' := by
  obtain ⟨key, cl, nm, xo, xn, xc, yo, yn, yc, put, value⟩ := x
  obtain ⟨key', cl', nm', acts, reads, put', value'⟩ := d
  obtain ⟨e1, e2, e3, e4, e5, e6, e7, a1, r1⟩ := hx
  simp only at e1 e2 e3 e4 e5 e6 e7 a1 r1 ha hr
  subst e1 e2 e3 e4 e5 e6 e7
  have hw : ∃ w2, w2 = (w.alloc (.cells #[.string key, .int .i64 cl, .int .i64 nm, .slice xo acts.length xc, .slice yo reads.length yc, .bool put, .string value] 35)).alloc (.cells #[.string ⟨#[]⟩, .int .i64 0, .int .i64 0, .slice none 0 0, .slice none 0 0, .bool false, .string ⟨#[]⟩] 35) ∧ Ext w w2 ∧ Blk w2 w.heap.size [.string key, .int .i64 cl, .int .i64 nm, .slice xo acts.length xc, .slice yo reads.length yc, .bool put, .string value] 35 ∧ Blk w2 (w.heap.size + 1) [.string ⟨#[]⟩, .int .i64 0, .int .i64 0, .slice none 0 0, .slice none 0 0, .bool false, .string ⟨#[]⟩] 35 := by
    refine ⟨_, rfl, ((Below.refl _ w).alloc (Nat.le_refl _) _).alloc (by simp) _, (Blk.new w _ _).alloc _, ?_⟩
    have := Blk.new (w.alloc (.cells #[.string key, .int .i64 cl, .int .i64 nm, .slice xo acts.length xc, .slice yo reads.length yc, .bool put, .string value] 35)) [.string ⟨#[]⟩, .int .i64 0, .int .i64 0, .slice none 0 0, .slice none 0 0, .bool false, .string ⟨#[]⟩] 35
    rwa [World.size_alloc] at this
  obtain ⟨w2, e2, x2, b1, b2⟩ := hw
  have E2 := Lib.hid e2; have X2 := Lib.hid x2; have B1 := Lib.hid b1; have B2 := Lib.hid b2
  have A1 := Lib.hid a1.rows; have R1 := Lib.hid r1.rows
  clear e2 x2 b1 b2 a1 r1
  simp only [encHV]
  go_enter Tryz.func142, Tryz.ntmps142
  go_wp2_with fail
  rw [← E2.out]
  refine (copyActs_calls acts xo xc w2 ha ((A1.out.ext X2.out).mono X2.out.size)).mono ?_
  rintro e w3 ⟨v3, rfl, hown3, hnew3, hx3⟩
  obtain ⟨q3, c3, rfl⟩ := own_slice hown3
  have b3 := B1.out.ext' hx3; have b4 := B2.out.ext' hx3
  have k3 := b3.cell 3; have g3 := b3.free 3; have k4 := b3.cell 4
  simp only [List.getElem?_cons_zero, List.getElem?_cons_succ] at k3 k4
  have hN2 : w.heap.size + 1 < w2.heap.size := B2.out.lt
  have hX4 : Ext w (w3.setCell ⟨w.heap.size, 3, none⟩ (.slice q3 acts.length c3)) := Below.setCell (p := ⟨w.heap.size, 3, none⟩) (Ext.trans X2.out hx3) (Nat.le_refl _) _
  have hq4 : NRows 4 encAct (fun b => b ≤ w.heap.size + 1) w3 q3 acts := nrows_of_own (fun _ => rfl) hown3 (fun j hj e => by have := hnew3 j hj; omega)
  have X4 := Lib.hid hX4; have B3 := Lib.hid b3; have B4 := Lib.hid b4; have Q4 := Lib.hid hq4
  clear hown3 hnew3 hx3 hX4 b3 b4 hq4
  go_wp2_with fail
  refine (copyReads_calls reads yo yc _ hr ((R1.out.ext X4.out).mono X4.out.size)).mono ?_
  rintro e w5 ⟨v5, rfl, hown5, hnew5, hx5⟩
  obtain ⟨q5, c5, rfl⟩ := own_slice hown5
  have b5 := (B3.out.set 3 (.slice q3 acts.length c3)).ext' hx5
  have b6 := (B4.out.other (a := ⟨w.heap.size, 3, none⟩) (by simp) (.slice q3 acts.length c3)).ext' hx5
  have hq5 : NRows 4 encAct (fun b => b ≤ w.heap.size + 1) w5 q3 acts := (Q4.out.but (But.set1 w3 w.heap.size 3 (.slice q3 acts.length c3)) (fun b _ e => by show b ≤ _; omega)).ext hx5
  have hN3 : w.heap.size + 1 < w3.heap.size := B4.out.lt
  have hq6 : NRows 3 encRd (fun b => b ≤ w.heap.size + 1) w5 q5 reads := nrows_of_own (fun _ => rfl) hown5 (fun j hj e => by have := hnew5 j hj; simp at this; omega)
  simp only [List.set_cons_zero, List.set_cons_succ] at b5
  have b7 := b5.set 4 (.slice q5 reads.length c5)
  simp only [List.set_cons_zero, List.set_cons_succ] at b7
  have k4 := b5.cell 4; have g4 := b5.free 4
  simp only [List.getElem?_cons_zero, List.getElem?_cons_succ] at k4
  have b8 := b6.other (a := ⟨w.heap.size, 4, none⟩) (by simp) (.slice q5 reads.length c5)
  have hX5 : Ext w (w5.setCell ⟨w.heap.size, 4, none⟩ (.slice q5 reads.length c5)) := Below.setCell (p := ⟨w.heap.size, 4, none⟩) (Ext.trans X4.out hx5) (Nat.le_refl _) _
  have X5 := Lib.hid hX5; have B5 := Lib.hid b7; have B6 := Lib.hid b8; have Q5 := Lib.hid hq5; have Q6 := Lib.hid hq6
  clear hown5 hnew5 hx5 hX5 b5 b6 b7 b8 hq5 hq6 k3 g3 B3 B4 X4 Q4
  have j0 := B5.out.cell 0; have j1 := B5.out.cell 1; have j2 := B5.out.cell 2; have j3 := B5.out.cell 3; have j4 := B5.out.cell 4; have j5 := B5.out.cell 5; have j6 := B5.out.cell 6
  have f0 := B6.out.free 0; have f1 := B6.out.free 1; have f2 := B6.out.free 2; have f3 := B6.out.free 3; have f4 := B6.out.free 4; have f5 := B6.out.free 5; have f6 := B6.out.free 6
  have i0 := B6.out.cell 0; have i1 := B6.out.cell 1; have i2 := B6.out.cell 2; have i3 := B6.out.cell 3; have i4 := B6.out.cell 4; have i5 := B6.out.cell 5; have i6 := B6.out.cell 6
  simp only [List.getElem?_cons_zero, List.getElem?_cons_succ] at j0 j1 j2 j3 j4 j5 j6 i0 i1 i2 i3 i4 i5 i6
  go_wp2_with fail
  have hb9 := B6.out.set7 (.string key) (.int .i64 cl) (.int .i64 nm) (.slice q3 acts.length c3) (.slice q5 reads.length c5) (.bool put) (.string value)
  have hx9 := but_set7 (w5.setCell ⟨w.heap.size, 4, none⟩ (.slice q5 reads.length c5)) (w.heap.size + 1) (.string key) (.int .i64 cl) (.int .i64 nm) (.slice q3 acts.length c3) (.slice q5 reads.length c5) (.bool put) (.string value)
  have Q7 := Lib.hid ((Q5.out.but (But.set1 w5 w.heap.size 4 (.slice q5 reads.length c5)) (fun b _ e => by show b ≤ _; omega)).but hx9 (fun b _ e => by show b ≤ _; omega))
  have Q8 := Lib.hid ((Q6.out.but (But.set1 w5 w.heap.size 4 (.slice q5 reads.length c5)) (fun b _ e => by show b ≤ _; omega)).but hx9 (fun b _ e => by show b ≤ _; omega))
  have X9 : Ext w _ := ((Ext.but X5.out (fun _ => False)).trans hx9 (U := fun j => j = w.heap.size + 1) (fun _ _ e => e.elim) (fun _ _ e => e)).ext (fun i hi e => by omega)
  refine bodyPost_ret (results_cell_row rfl _ _ (w.heap.size + 1) 35 (encHV ⟨key, cl, nm, q3, acts.length, c3, q5, reads.length, c5, put, value⟩).toArray (0, 0) _ rfl hb9 Tryz.underlying35 rfl (by kernel_rfl)) rfl ?_
  have hno : ∀ b, b < w.heap.size → b ≤ w.heap.size + 1 := fun b h => by omega
  exact ⟨⟨key, cl, nm, q3, acts.length, c3, q5, reads.length, c5, put, value⟩, rfl, ⟨rfl, rfl, rfl, rfl, rfl, rfl, rfl, Q7.out.mono (fun b _ e => hno b e), Q8.out.mono (fun b _ e => hno b e)⟩, X9⟩
set_option maxRecDepth 100000 in
set_option maxHeartbeats 1600000 in
theorem copyHolds_calls (l : List HoldV) (ds : List HoldD) (ao : Option Addr) (cap : Nat) (w : World) (hl : l.length ≤ 1000000) (hr : Rows 7 encHV w.heap.size w ao l) (hd : HoldsAre w (fun _ => False) l ds) (hfit : ∀ d ∈ ds, d.fits) :
    Calls Tryz.prog 86 #[.slice ao l.length cap] w fun e w' => ∃ (v : Value) (l' : List HoldV), e = .returned v ∧ w'.ownsRow 0 35 7 v l'.length (l'.flatMap encHV) ∧ (∀ j, v.ownBlock = some j → w.heap.size ≤ j) ∧ HoldsAre w' (fun b => v.ownBlock = some b ∨ b < w.heap.size) l' ds ∧ Ext w w' := by
  obtain ⟨i0, hi, hz0, hz1, hz2⟩ := info_parts infoHold
  have HR := Lib.hid hr; have HD := Lib.hid hd; have HF := Lib.hid hfit
  have HDL := Lib.hid hd.len
  clear hr hd hfit
  go_enter Tryz.func86, Tryz.ntmps86
  go_wp2_with fail
  go_loopw [3, 4] (fun v i wr => ∃ (k : Nat) (q : List HoldV), k ≤ l.length ∧ i = .int .i64 k ∧ q.length = k ∧ wr.ownsRow 0 35 7 v q.length (q.flatMap encHV) ∧ (∀ j, v.ownBlock = some j → w.heap.size ≤ j) ∧ HoldsAre wr (fun b => v.ownBlock = some b ∨ b < w.heap.size) q (ds.take k) ∧ Ext w wr) (fun _ i _ => l.length - (intOf i).toNat)
  case atStart => exact ⟨0, [], by omega, rfl, rfl, World.ownsRow_nil _ _ _ _, by simp [Value.ownBlock], trivial, Below.refl _ _⟩
  case round =>
    obtain ⟨k, q, hk, rfl, hq, hown, hnew, hare, hx⟩ := hrel
    have K1 := Lib.hid hown; have K2 := Lib.hid hnew; have K3 := Lib.hid hare; have K4 := Lib.hid hx
    clear hown hnew hare hx
    by_cases hlt : k < l.length
    · obtain ⟨x, hx⟩ : ∃ x, l[k]? = some x := ⟨_, List.getElem?_eq_getElem hlt⟩
      obtain ⟨d, hdk, hxd⟩ := HD.out.at k x hx
      obtain ⟨hfa, hfr⟩ := HF.out d (List.mem_of_getElem? hdk)
      obtain ⟨b, off, rfl, hb, hcell⟩ := HR.out (by intro e; rw [e] at hlt; simp at hlt)
      have hcx := hcell k x hx
      have hmove : ∀ j, wr.cell? ⟨b, j, none⟩ = w.cell? ⟨b, j, none⟩ := fun j => K4.out.cell (p := ⟨b, j, none⟩) hb
      have htk : ds.take (k + 1) = ds.take k ++ [d] := by rw [List.take_add_one, hdk]; rfl
      have HC := Lib.hid (copyHold_calls x d wr (hxd.ext K4.out) hfa hfr)
      obtain ⟨key, cl, nm, xo, xn, xc, yo, yn, yc, put, value⟩ := x
      simp only [encHV] at HC
      have d0 := (hmove _).trans (hcx 0 _ rfl); have d1 := (hmove _).trans (hcx 1 _ rfl); have d2 := (hmove _).trans (hcx 2 _ rfl); have d3 := (hmove _).trans (hcx 3 _ rfl); have d4 := (hmove _).trans (hcx 4 _ rfl); have d5 := (hmove _).trans (hcx 5 _ rfl); have d6 := (hmove _).trans (hcx 6 _ rfl)
      simp only [Nat.add_zero] at d0
      have TK := Lib.hid htk; have HQ := Lib.hid hq
      have hql : q.length ≤ 1000000 := by omega
      have ii0 : (0 : Int) ≤ (k : Int) := by omega
      have i1 : (k : Int) < (l.length : Int) := by omega
      clear hx hdk hxd hcell hcx hmove htk hq
      go_wp2_with fail
      refine HC.out.mono ?_
      rintro e w2 ⟨y, rfl, hyi, hx2⟩
      have XY := Lib.hid hyi; have X2 := Lib.hid hx2
      clear hyi hx2 HC d0 d1 d2 d3 d4 d5 d6
      obtain ⟨key, cl, nm, xo, xn, xc, yo, yn, yc, put, value⟩ := y
      have hbox := Blk.new w2 [.string key, .int .i64 cl, .int .i64 nm, .slice xo xn xc, .slice yo yn yc, .bool put, .string value] 35
      have hxb : Ext w2 (w2.alloc (.cells #[.string key, .int .i64 cl, .int .i64 nm, .slice xo xn xc, .slice yo yn yc, .bool put, .string value] 35)) := (Below.refl _ w2).alloc (Nat.le_refl _) _
      have HB := Lib.hid hbox; have XB := Lib.hid hxb
      clear hbox hxb
      have hl0 : w2.heap.size < w2.heap.size + 1 := by omega
      go_upto_region 6 with fail
      have hB := HB.out; have hXB := XB.out
      generalize hwc : w2.alloc (.cells #[.string key, .int .i64 cl, .int .i64 nm, .slice xo xn xc, .slice yo yn yc, .bool put, .string value] 35) = wc at hB hXB ⊢
      clear hwc HB XB
      generalize w2.heap.size = N at hB ⊢
      have c0 := hB.cell 0; have c1 := hB.cell 1; have c2 := hB.cell 2; have c3 := hB.cell 3; have c4 := hB.cell 4; have c5 := hB.cell 5; have c6 := hB.cell 6
      simp only [List.getElem?_cons_zero, List.getElem?_cons_succ] at c0 c1 c2 c3 c4 c5 c6
      have XC := Lib.hid (Ext.trans X2.out hXB); have XB := Lib.hid hXB
      have CN := Lib.hid (cells_new wc (encHV ⟨key, cl, nm, xo, xn, xc, yo, yn, yc, put, value⟩) 35)
      have E2 : Hid (Ext wc (wc.alloc (.cells (encHV ⟨key, cl, nm, xo, xn, xc, yo, yn, yc, put, value⟩).toArray 35))) := Lib.hid ((Below.refl _ wc).alloc (Nat.le_refl _) _)
      clear hB hXB hl0
      go_wp2_with (at_builtin; go_must (refine wpList_append_at _ rfl (.tmp 17) (.tmp 19) 22 rfl 35 i0 _ 7 104 Tryz.underlying22 hi hz0 hz1 hz2 rfl (by decide) _ q.length (q.flatMap encHV) rfl (own_ext (own_ext K1.out XC.out) E2.out) ⟨wc.heap.size, 0, none⟩ 1 1 (encHV ⟨key, cl, nm, xo, xn, xc, yo, yn, yc, put, value⟩) rfl rfl CN.out (one_hold _) (by decide) (by unfold maxLen; omega) (by omega) ?_); intro g9 cap2 w4 hown' hbut hkept; have Y1 := Lib.hid hown'; have Y2 := Lib.hid hbut; have Y3 := Lib.hid hkept; clear hown' hbut hkept)
      go_roundw
      case rel =>
        obtain ⟨st1, st2⟩ := own_step K2.out K4.out (Ext.trans XC.out E2.out) Y2.out Y3.out
        refine ⟨k + 1, q ++ [⟨key, cl, nm, xo, xn, xc, yo, yn, yc, put, value⟩], by omega, by go_num, by rw [List.length_append, HQ.out]; rfl, ?_, st1, ?_, st2⟩
        · have := Y1.out
          rw [List.length_append, List.flatMap_append]
          simpa using this
        · rw [TK.out]
          have hx3 := Ext.trans XC.out E2.out
          have hwr := K4.out.size; have hsz3 := hx3.size
          have hlt3 : ∀ j, u3.ownBlock = some j → j < wr.heap.size := fun j hj => (K1.out.lt j hj).2
          have hq3 : HoldsAre (wc.alloc (.cells (encHV ⟨key, cl, nm, xo, xn, xc, yo, yn, yc, put, value⟩).toArray 35)) (fun b => u3.ownBlock = some b ∨ b < w.heap.size) q (ds.take k) := K3.out.ext hx3
          have hv3 : HoldsAre (wc.alloc (.cells (encHV ⟨key, cl, nm, xo, xn, xc, yo, yn, yc, put, value⟩).toArray 35)) (fun b => u3.ownBlock = some b ∨ b < w.heap.size) [⟨key, cl, nm, xo, xn, xc, yo, yn, yc, put, value⟩] [d] :=
            ⟨((XY.out.ext XB.out).ext E2.out).mono (fun b _ e => by
              rcases e with e | e
              · exact hlt3 b e
              · omega), trivial⟩
          have h2 := HoldsAre.mono (no' := fun b => (u3.ownBlock = some b ∨ b < w.heap.size) ∨ ((Value.slice (some ⟨g9, 0, none⟩) (q.length + 1) cap2).ownBlock = some b ∨ b < w.heap.size)) (fun b hb e => by
            rcases e with e | e
            · exact e
            · rcases e with e | e
              · rcases Y3.out b e with e | e
                · exact .inl e
                · exact absurd e (Nat.not_le.2 hb)
              · exact .inr e) (HoldsAre.append hq3 hv3)
          have h3 := HoldsAre.but Y2.out (fun b _ e => .inl (.inl e)) h2
          exact h3.mono (fun b _ e => .inr e)
      case measure => simp [intOf]; omega
    · have hall : ds.take k = ds := List.take_of_length_le (by have := HDL.out; omega)
      rw [hall] at K3
      clear hall
      go_wp2_with fail
      go_ret
      exact ⟨_, q, rfl, K1.out, K2.out, K3.out, K4.out⟩
def RCopyPost (no1 : Nat → Prop) (ds : List HoldD) (w : World) (e : Ending) (w' : World) : Prop :=
  ∃ (g : Nat) (v : Value), e = .returned (.pointer (some ⟨g, 0, none⟩)) ∧ w.heap.size ≤ g ∧ RTabN no1 w' g v ds ∧ (∀ j, v.ownBlock = some j → w.heap.size ≤ j) ∧ Ext w w'
set_option maxRecDepth 100000 in
theorem rcopy_calls (no1 : Nat → Prop) (mb : Nat) (v : Value) (ds : List HoldD) (w : World) (T : RTabN no0 w mb v ds) (hn1 : ∀ b, no1 b → b < w.heap.size) :
    Calls Tryz.prog 41 #[.pointer (some ⟨mb, 0, none⟩)] w (RCopyPost no1 ds w) := by
  obtain ⟨l, ao, cap, rfl, hlc, hcm, hll, hrows, hown, hare⟩ := T.rows
  have hfew := T.few
  have hc0 := T.blk.cell 0
  simp only [List.getElem?_cons_zero] at hc0
  have HC := Lib.hid (copyHolds_calls l ds ao cap w (by omega) hrows (hare.mono (fun _ _ e => e.elim)) T.fits)
  have HT := Lib.hid T; have HN := Lib.hid hn1
  clear T hrows hown hare hll hn1
  go_enter Tryz.func41, Tryz.ntmps41
  go_wp2_with fail
  refine HC.out.mono ?_
  rintro e w1 ⟨v1, l', rfl, ho, hn, ha, hx⟩
  obtain ⟨q1, c1, rfl⟩ := own_slice ho
  have HO := Lib.hid ho; have HNW := Lib.hid hn; have HA := Lib.hid ha; have HX := Lib.hid hx
  clear ho hn ha hx HC hc0
  go_wp2_with fail
  go_ret
  have hxa : Ext w1 (w1.alloc (.cells #[.slice q1 l'.length c1] 81)) := (Below.refl _ w1).alloc (Nat.le_refl _) _
  have hlt : ∀ j, (Value.slice q1 l'.length c1).ownBlock = some j → j < w1.heap.size := fun j hj => (HO.out.lt j hj).2
  refine ⟨_, .slice q1 l'.length c1, rfl, HX.out.size, ⟨Blk.new w1 [.slice q1 l'.length c1] _, ⟨l', own_ext HO.out hxa, ?_⟩, HT.out.rise, HT.out.ok, HT.out.few⟩, HNW.out, Ext.trans HX.out hxa⟩
  refine (HA.out.mono (no' := fun b => (b = w1.heap.size ∨ (Value.slice q1 l'.length c1).ownBlock = some b) ∨ no1 b) (fun b hb e => ?_)).ext hxa
  rcases e with (e | e) | e
  · omega
  · exact .inl e
  · exact .inr (HN.out b e)
end Go.Proofs.YtdmejbjpbjcfbaaGreatDoor
/- The document's table of holds: Free and Take. -/
namespace Go.Proofs.YtdmejbjpbjcfbaaGreatDoor
open Go.RowKit
variable {no0 : Nat → Prop}
def RFreePost (no0 : Nat → Prop) (mb : Nat) (yes no : List HoldD) (w : World) (e : Ending) (w' : World) : Prop :=
  ∃ (r : Value) (l' : List HoldV) (v' : Value), e = .returned r ∧ w'.ownsRow 0 35 7 r l'.length (l'.flatMap encHV) ∧ (∀ j, r.ownBlock = some j → w.heap.size ≤ j) ∧ HoldsAre w' (fun b => r.ownBlock = some b) l' yes ∧
    RTabN no0 w' mb v' no ∧ (∀ j, v'.ownBlock = some j → w.heap.size ≤ j) ∧ But (fun j => j = mb) w w'
theorem HoldsAre.not {w : World} {no : Nat → Prop} (p : ByteArray → Int → Int → Bool) {vs : List HoldV} {ds : List HoldD} (h : HoldsAre w no vs ds) : HoldsAre w no (vs.filter fun x => !x.tells p) (ds.filter fun d => !d.tells p) := by
  have h2 := HoldsAre.filter (fun a b c => !p a b c) h
  exact h2
theorem rtab_filter {w : World} {mb : Nat} {v : Value} {ds : List HoldD} (T : RTabN no0 w mb v ds) (q : HoldD → Bool) : RiseD (ds.filter q) ∧ (∀ d ∈ ds.filter q, d.ok ∧ holdB d = true) ∧ (ds.filter q).length ≤ 60 :=
  ⟨T.rise.sublist List.filter_sublist, fun d hd => T.ok d (List.mem_filter.1 hd).1, Nat.le_trans (List.length_filter_le ..) T.few⟩
set_option maxRecDepth 100000 in
set_option maxHeartbeats 3200000 in
theorem rfree_calls (mb : Nat) (v : Value) (ds : List HoldD) (ls : List ByteArray) (ao2 : Option Addr) (cap2 : Nat) (w : World) (T : RTabN no0 w mb v ds) (hl : ls.length ≤ 1000000) (hr : Rows 1 encStr w.heap.size w ao2 ls) :
    Calls Tryz.prog 88 #[.pointer (some ⟨mb, 0, none⟩), .slice ao2 ls.length cap2] w (RFreePost no0 mb (ofKeys ls ds) (notKeys ls ds) w) := by
  obtain ⟨i0, hi, hz0, hz1, hz2⟩ := info_parts infoHold
  obtain ⟨l, ao, cap, rfl, hlc, hcm, hll, hrows, hown, hare⟩ := T.rows
  have hfew := T.few
  have hc0 := T.blk.cell 0
  simp only [List.getElem?_cons_zero] at hc0
  have hbl := T.blk.lt
  have hl60 : l.length ≤ 60 := by omega
  have HC0 := Lib.hid hc0; have HRO := Lib.hid hrows; have HAR := Lib.hid hare; have HT := Lib.hid T; have HLS := Lib.hid hr
  clear T hrows hown hare hc0 hll hr
  go_enter Tryz.func88, Tryz.ntmps88
  go_wp2_with fail
  go_loopw [5, 6, 7] (fun vo vq vi wr => ∃ k : Nat, vi = .int .i64 k ∧ k ≤ l.length ∧ wr.ownsRow 0 35 7 vo ((l.take k).filter (·.tells (fun k _ _ => amongB ls k))).length (((l.take k).filter (·.tells (fun k _ _ => amongB ls k))).flatMap encHV) ∧ (∀ j, vo.ownBlock = some j → w.heap.size ≤ j) ∧ wr.ownsRow 0 35 7 vq ((l.take k).filter fun x => !x.tells (fun k _ _ => amongB ls k)).length (((l.take k).filter fun x => !x.tells (fun k _ _ => amongB ls k)).flatMap encHV) ∧ (∀ j, vq.ownBlock = some j → w.heap.size ≤ j) ∧ (∀ j, vo.ownBlock = some j → vq.ownBlock ≠ some j) ∧ Ext w wr) (fun _ _ vi _ => l.length - (intOf vi).toNat)
  case atStart => exact ⟨0, rfl, by omega, World.ownsRow_nil _ _ _ _, by simp [Value.ownBlock], World.ownsRow_nil _ _ _ _, by simp [Value.ownBlock], by simp [Value.ownBlock], Below.refl _ _⟩
  case round =>
    obtain ⟨k, rfl, hk, hown, hnew, hownq, hnewq, hap, hx⟩ := hrel
    have K1 := Lib.hid hown; have K2 := Lib.hid hnew; have Q1 := Lib.hid hownq; have Q2 := Lib.hid hnewq; have AP := Lib.hid hap; have K4 := Lib.hid hx
    clear hown hnew hownq hnewq hap hx
    have cm := (K4.out.cell (p := ⟨mb, 0, none⟩) hbl).trans HC0.out
    by_cases hlt : k < l.length
    · obtain ⟨x, hx⟩ : ∃ x, l[k]? = some x := ⟨_, List.getElem?_eq_getElem hlt⟩
      obtain ⟨b, off, rfl, hbb, hcell⟩ := HRO.out (by intro e; rw [e] at hlt; simp at hlt)
      have hcx := hcell k x hx
      have hmove : ∀ j, wr.cell? ⟨b, j, none⟩ = w.cell? ⟨b, j, none⟩ := fun j => K4.out.cell (p := ⟨b, j, none⟩) hbb
      have hfs := filter_succ (·.tells (fun k _ _ => amongB ls k)) l k x hx
      have hfq := filter_succ (fun x => !x.tells (fun k _ _ => amongB ls k)) l k x hx
      have hfl : ((l.take k).filter (·.tells (fun k _ _ => amongB ls k))).length ≤ k := Nat.le_trans (List.length_filter_le ..) (List.length_take_le ..)
      have hflq : ((l.take k).filter fun x => !x.tells (fun k _ _ => amongB ls k)).length ≤ k := Nat.le_trans (List.length_filter_le ..) (List.length_take_le ..)
      obtain ⟨key, cl, nm, xo, xn, xc, yo, yn, yc, put, value⟩ := x
      have d0 := (hmove _).trans (hcx 0 _ rfl); have d1 := (hmove _).trans (hcx 1 _ rfl); have d2 := (hmove _).trans (hcx 2 _ rfl); have d3 := (hmove _).trans (hcx 3 _ rfl); have d4 := (hmove _).trans (hcx 4 _ rfl); have d5 := (hmove _).trans (hcx 5 _ rfl); have d6 := (hmove _).trans (hcx 6 _ rfl)
      simp only [Nat.add_zero] at d0
      have ii0 : (0 : Int) ≤ (k : Int) := by omega
      have i1 : (k : Int) < (l.length : Int) := by omega
      have hbr : b < wr.heap.size := Nat.lt_of_lt_of_le hbb K4.out.size
      have hmr : mb < wr.heap.size := Nat.lt_of_lt_of_le hbl K4.out.size
      have hc := rhas_calls ls ao2 cap2 key wr hl ((HLS.out.ext K4.out).mono K4.out.size)
      obtain ⟨g, hg⟩ : ∃ g, g = amongB ls key := ⟨_, rfl⟩
      rw [← hg] at hc
      have HC := Lib.hid hc
      have HG : Hid (HoldV.tells (fun k _ _ => amongB ls k) ⟨key, cl, nm, xo, xn, xc, yo, yn, yc, put, value⟩ = g) := Lib.hid hg.symm
      have HFS := Lib.hid hfs; have HFQ := Lib.hid hfq
      have E2 : Hid (Ext wr (wr.alloc (.cells (encHV ⟨key, cl, nm, xo, xn, xc, yo, yn, yc, put, value⟩).toArray 35))) := Lib.hid ((Below.refl _ wr).alloc (Nat.le_refl _) _)
      have CN := Lib.hid (cells_new wr (encHV ⟨key, cl, nm, xo, xn, xc, yo, yn, yc, put, value⟩) 35)
      clear hx hcell hcx hmove hfs hfq hc hg
      generalize ((l.take k).filter (·.tells (fun k _ _ => amongB ls k))) = F at *
      generalize ((l.take k).filter fun x => !x.tells (fun k _ _ => amongB ls k)) = G at *
      go_wp2_with fail
      refine HC.out.mono ?_
      rintro e w' ⟨rfl, rfl⟩
      clear HC
      cases g with
      | true =>
        go_wp2_with (at_builtin; go_must (refine wpList_append_at _ rfl (.tmp 27) (.tmp 35) 22 rfl 35 i0 _ 7 104 Tryz.underlying22 hi hz0 hz1 hz2 rfl (by decide) _ F.length (F.flatMap encHV) rfl (own_ext K1.out E2.out) ⟨wr.heap.size, 0, none⟩ 1 1 (encHV ⟨key, cl, nm, xo, xn, xc, yo, yn, yc, put, value⟩) rfl rfl CN.out (one_hold _) (by decide) (by unfold maxLen; omega) (by omega) ?_); intro g9 cap9 w4 hown' hbut hkept; have Y1 := Lib.hid hown'; have Y2 := Lib.hid hbut; have Y3 := Lib.hid hkept; clear hown' hbut hkept)
        go_roundw
        case rel =>
          obtain ⟨st1, st2⟩ := own_step K2.out K4.out E2.out Y2.out Y3.out
          have hlq : ∀ j, u6.ownBlock = some j → j < wr.heap.size := fun j hj => (Q1.out.lt j hj).2
          refine ⟨k + 1, by go_num, by omega, ?_, st1, ?_, Q2.out, ?_, st2⟩
          · rw [HFS.out, HG.out]
            simpa using Y1.out
          · rw [HFQ.out, HG.out]
            simpa using own_but (own_ext Q1.out E2.out) Y2.out (fun j hj e => AP.out j e hj)
          · intro j hj e
            have h1 := hlq j e
            rcases Y3.out j hj with h | h
            · exact AP.out j h e
            · exact absurd (Nat.le_trans E2.out.size h) (Nat.not_le.2 h1)
        case measure => simp [intOf]; omega
      | false =>
        go_wp2_with (at_builtin; go_must (refine wpList_append_at _ rfl (.tmp 37) (.tmp 45) 22 rfl 35 i0 _ 7 104 Tryz.underlying22 hi hz0 hz1 hz2 rfl (by decide) _ G.length (G.flatMap encHV) rfl (own_ext Q1.out E2.out) ⟨wr.heap.size, 0, none⟩ 1 1 (encHV ⟨key, cl, nm, xo, xn, xc, yo, yn, yc, put, value⟩) rfl rfl CN.out (one_hold _) (by decide) (by unfold maxLen; omega) (by omega) ?_); intro g9 cap9 w4 hown' hbut hkept; have Y1 := Lib.hid hown'; have Y2 := Lib.hid hbut; have Y3 := Lib.hid hkept; clear hown' hbut hkept)
        go_roundw
        case rel =>
          obtain ⟨st1, st2⟩ := own_step Q2.out K4.out E2.out Y2.out Y3.out
          have hlq : ∀ j, u5.ownBlock = some j → j < wr.heap.size := fun j hj => (K1.out.lt j hj).2
          refine ⟨k + 1, by go_num, by omega, ?_, K2.out, ?_, st1, ?_, st2⟩
          · rw [HFS.out, HG.out]
            simpa using own_but (own_ext K1.out E2.out) Y2.out (fun j hj e => AP.out j hj e)
          · rw [HFQ.out, HG.out]
            simpa using Y1.out
          · intro j hj e
            have h1 := hlq j hj
            rcases Y3.out j e with h | h
            · exact AP.out j hj h
            · exact absurd (Nat.le_trans E2.out.size h) (Nat.not_le.2 h1)
        case measure => simp [intOf]; omega
    · have hall : l.take k = l := List.take_of_length_le (by omega)
      rw [hall] at K1 Q1
      have hcf := (HT.out.blk.ext' K4.out).free 0
      obtain ⟨qo, qc, hq⟩ := own_slice Q1.out
      clear hall
      subst hq
      go_wp2_with fail
      go_ret
      obtain ⟨t1, t2, t3⟩ := rtab_filter HT.out (fun d => !d.tells (fun k _ _ => amongB ls k))
      have hmq : ∀ j, u5.ownBlock = some j → j ≠ mb := fun j hj e => by have := K2.out j hj; omega
      have hmv : ∀ j, (Value.slice qo (l.filter fun x => !x.tells (fun k _ _ => amongB ls k)).length qc).ownBlock = some j → j ≠ mb := fun j hj e => by have := Q2.out j hj; omega
      have hS : But (fun j => j = mb) wr (wr.setCell ⟨mb, 0, none⟩ (.slice qo (l.filter fun x => !x.tells (fun k _ _ => amongB ls k)).length qc)) := But.set1 wr mb 0 _
      refine ⟨u5, l.filter (·.tells (fun k _ _ => amongB ls k)), _, rfl, own_but K1.out hS (fun j hj e => hmq j hj e), K2.out, ?_, ⟨(HT.out.blk.ext' K4.out).set 0 _, ⟨_, own_but Q1.out hS (fun j hj e => hmv j hj e), ?_⟩, t1, t2, t3⟩, Q2.out, (Ext.but K4.out (fun _ => False)).trans hS (fun _ _ e => e.elim) (fun _ _ e => e)⟩
      · refine ((((HoldsAre.filter (fun k _ _ => amongB ls k) HAR.out).mono (no' := fun b => b = mb ∨ u5.ownBlock = some b) (fun b hb e => ?_)).ext K4.out).but hS (fun b _ e => .inl e)).mono (fun b _ e => .inr e)
        rcases e with e | e
        · exact .inl (.inl e)
        · have := K2.out b e; omega
      · refine ((((HoldsAre.not (fun k _ _ => amongB ls k) HAR.out).mono (no' := fun b => (b = mb ∨ (Value.slice qo (l.filter fun x => !x.tells (fun k _ _ => amongB ls k)).length qc).ownBlock = some b) ∨ no0 b) (fun b hb e => ?_)).ext K4.out).but hS (fun b _ e => .inl (.inl e)))
        rcases e with (e | e) | e
        · exact .inl (.inl e)
        · have := Q2.out b e; omega
        · exact .inr e
end Go.Proofs.YtdmejbjpbjcfbaaGreatDoor
/- The document's table of holds: Take. -/
namespace Go.Proofs.YtdmejbjpbjcfbaaGreatDoor
open Go.RowKit
variable {no0 : Nat → Prop}
theorem among_in (lo hi : ByteArray) (ds : List HoldD) (d : HoldD) (hd : d ∈ ds) : amongB ((inD lo hi ds).map (·.key)) d.key = hasB lo.data.toList hi.data.toList d.key.data.toList := by
  unfold amongB
  rw [Bool.eq_iff_iff, List.any_eq_true]
  constructor
  · rintro ⟨s, hs, he⟩
    obtain ⟨x, hx, rfl⟩ := List.mem_map.1 hs
    have h2 := (List.mem_filter.1 hx).2
    have e2 : x.key.data.toList = d.key.data.toList := of_decide_eq_true he
    unfold HoldD.tells at h2
    rw [← e2]; exact h2
  · intro h
    exact ⟨d.key, List.mem_map.2 ⟨d, List.mem_filter.2 ⟨hd, h⟩, rfl⟩, decide_eq_true rfl⟩
theorem take_keys (lo hi : ByteArray) (ds : List HoldD) : ofKeys ((inD lo hi ds).map (·.key)) ds = inD lo hi ds ∧ notKeys ((inD lo hi ds).map (·.key)) ds = outD lo hi ds := by
  constructor
  · exact List.filter_congr fun d hd => among_in lo hi ds d hd
  · exact List.filter_congr fun d hd => by
      show (!_) = (!_)
      rw [show HoldD.tells (fun k _ _ => amongB ((inD lo hi ds).map (·.key)) k) d = HoldD.tells (fun k _ _ => hasB lo.data.toList hi.data.toList k.data.toList) d from among_in lo hi ds d hd]
set_option maxRecDepth 100000 in
set_option maxHeartbeats 3200000 in
theorem rtake_calls (mb : Nat) (v : Value) (ds : List HoldD) (lo hj : ByteArray) (w : World) (T : RTabN no0 w mb v ds) (hl : lo.size ≤ 140737488351232) (hh : hj.size ≤ 140737488351232) (hn0 : ∀ b, no0 b → b < w.heap.size) :
    Calls Tryz.prog 89 #[.pointer (some ⟨mb, 0, none⟩), .agg #[.string lo, .string hj]] w (RFreePost no0 mb (inD lo hj ds) (outD lo hj ds) w) := by
  obtain ⟨i0, hi, hz0, hz1, hz2⟩ := info_parts infoLentTexts
  have hbl := T.blk.lt
  have hfew := T.few
  have hx1 : Ext w (w.alloc (.cells #[.string lo, .string hj] 31)) := (Below.refl _ w).alloc (Nat.le_refl _) _
  have HI := Lib.hid (rin_calls mb v ds lo hj _ (T.ext hx1) hl hh)
  have HT := Lib.hid T; have X1 := Lib.hid hx1; have HN0 := Lib.hid hn0
  obtain ⟨he1, he2⟩ := take_keys lo hj ds
  have E1 := Lib.hid he1; have E2 := Lib.hid he2
  have hil : (inD lo hj ds).length ≤ 60 := Nat.le_trans (List.length_filter_le ..) hfew
  clear T hx1 he1 he2 hn0
  go_enter Tryz.func89, Tryz.ntmps89
  go_wp2_with fail
  refine HI.out.mono ?_
  rintro e w2 ⟨r, l', rfl, hro, hrn, hra, hx⟩
  obtain ⟨qo, qc, rfl⟩ := own_slice hro
  have hlen := hra.len
  have hll : l'.length ≤ 60 := by omega
  have R1 := Lib.hid hro; have R2 := Lib.hid (fun j hj => Nat.le_trans X1.out.size (hrn j hj)); have R3 := Lib.hid hra; have X2 := Lib.hid (Ext.trans X1.out hx); have RR := Lib.hid (rows_of_own (enc := encHV) (sz := 7) (fun _ => rfl) hro)
  have LL := Lib.hid hlen
  clear hro hrn hra hx HI hlen
  go_wp2_with fail
  go_loopw [6, 7] (fun vk vi wr => ∃ k : Nat, vi = .int .i64 k ∧ k ≤ l'.length ∧ wr.ownsRow 0 9 1 vk ((l'.take k).map (·.key)).length (((l'.take k).map (·.key)).flatMap encStr) ∧ (∀ j, vk.ownBlock = some j → w2.heap.size ≤ j) ∧ Ext w2 wr) (fun _ vi _ => l'.length - (intOf vi).toNat)
  case atStart => exact ⟨0, rfl, by omega, World.ownsRow_nil _ _ _ _, by simp [Value.ownBlock], Below.refl _ _⟩
  case round =>
    obtain ⟨k, rfl, hk, hown, hnew, hx⟩ := hrel
    have K1 := Lib.hid hown; have K2 := Lib.hid hnew; have K4 := Lib.hid hx
    clear hown hnew hx
    by_cases hlt : k < l'.length
    · obtain ⟨x, hx⟩ : ∃ x, l'[k]? = some x := ⟨_, List.getElem?_eq_getElem hlt⟩
      obtain ⟨b, off, rfl, hbb, hcell⟩ := RR.out (by intro e; rw [e] at hlt; simp at hlt)
      have d0 := cellX K4.out (hcell k x hx 0 _ rfl)
      simp only [Nat.add_zero] at d0
      have hsu : (l'.take (k + 1)).map (·.key) = (l'.take k).map (·.key) ++ [x.key] := by rw [List.take_add_one, hx, List.map_append]; rfl
      have hml : ((l'.take k).map (·.key)).length ≤ 60 := by rw [List.length_map, List.length_take]; omega
      have ii0 : (0 : Int) ≤ (k : Int) := by omega
      have i1 : (k : Int) < (l'.length : Int) := by omega
      have SU := Lib.hid hsu
      generalize x.key = xk at *
      have CN := Lib.hid (cells_new wr [.string xk] 9)
      have E3 : Hid (Ext wr (wr.alloc (.cells [.string xk].toArray 9))) := Lib.hid ((Below.refl _ wr).alloc (Nat.le_refl _) _)
      clear hx hcell hsu
      generalize (l'.take k).map (·.key) = q at *
      go_wp2_with (at_builtin; go_must (refine wpList_append_at _ rfl _ _ 74 rfl 9 i0 _ 1 16 Tryz.underlying74 hi hz0 hz1 hz2 rfl (by decide) _ q.length (q.flatMap encStr) rfl (own_ext K1.out E3.out) ⟨wr.heap.size, 0, none⟩ 1 1 [.string xk] rfl rfl CN.out (oneLentTexts xk) (by decide) (by unfold maxLen; omega) (by omega) ?_); intro g cap2 w4 hown' hbut hkept; have Y1 := Lib.hid hown'; have Y2 := Lib.hid hbut; have Y3 := Lib.hid hkept; clear hown' hbut hkept)
      go_roundw
      case rel =>
        obtain ⟨st1, st2⟩ := own_step K2.out K4.out E3.out Y2.out Y3.out
        refine ⟨k + 1, by go_num, by omega, ?_, st1, st2⟩
        rw [SU.out]
        have := Y1.out
        rw [List.length_append, List.flatMap_append]
        simpa [encStr] using this
      case measure => simp [intOf]; omega
    · have hall : l'.take k = l' := List.take_of_length_le (by omega)
      rw [hall] at K1
      have hkm : l'.map (·.key) = (inD lo hj ds).map (·.key) := R3.out.keys
      rw [hkm] at K1
      obtain ⟨ko, kc, hq⟩ := own_slice K1.out
      subst hq
      have hkl : ((inD lo hj ds).map (·.key)).length ≤ 1000000 := by rw [List.length_map]; omega
      have XW := Lib.hid (Ext.trans X2.out K4.out)
      have HF := Lib.hid (rfree_calls mb v ds ((inD lo hj ds).map (·.key)) ko kc wr (HT.out.ext XW.out) hkl (rows_of_own (fun _ => rfl) K1.out))
      rw [E1.out, E2.out] at HF
      clear hall hkm
      generalize (inD lo hj ds).map (·.key) = ks at *
      go_wp2_with fail
      refine HF.out.mono ?_
      rintro e w5 ⟨r2, l2, v2, rfl, -, -, -, ht, hv, hb⟩
      have HT5 := Lib.hid ht; have HV5 := Lib.hid hv; have HB5 := Lib.hid hb
      clear ht hv hb HF
      go_wp2_with fail
      go_ret
      have hrm : ∀ j, (Value.slice qo l'.length qc).ownBlock = some j → ¬ j = mb := fun j hj e => by have := R2.out j hj; omega
      refine ⟨_, l', v2, rfl, own_but (own_ext R1.out K4.out) HB5.out (fun j hj e => hrm j hj e), R2.out, ?_, HT5.out, fun j hj => Nat.le_trans XW.out.size (HV5.out j hj), (Ext.but XW.out (fun _ => False)).trans HB5.out (fun _ _ e => e.elim) (fun _ _ e => e)⟩
      exact ((R3.out.ext K4.out).but HB5.out (fun b _ e => .inr (.inl (.inl e)))).mono (fun b _ e => .inl e)
end Go.Proofs.YtdmejbjpbjcfbaaGreatDoor
