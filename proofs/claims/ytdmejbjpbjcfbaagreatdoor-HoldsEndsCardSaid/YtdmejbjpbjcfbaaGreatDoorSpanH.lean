/- cmp.Compare at texts. -/
import Derived.Test.YtdmejbjpbjcfbaaGreatDoorBase
import Derived.Sort.Walk0
import Derived.Test.YtdmejbjpbjcfbaaGreatDoorKey
import Derived.Test.YtdmejbjpbjcfbaaGreatDoorMem
import Derived.RegionTactic
import Derived.ChangeAlike
namespace Go.Proofs.YtdmejbjpbjcfbaaGreatDoor
open Go.RowKit
def cmpT (x y : List UInt8) : Int := if x < y then -1 else if y < x then 1 else 0
theorem cmpT_neg (x y : List UInt8) : cmpT x y < 0 ↔ x < y := by
  unfold cmpT
  split
  · simp_all
  · split <;> simp_all
theorem cmpT_zero (x y : List UInt8) : cmpT x y = 0 ↔ x = y := by
  unfold cmpT
  split
  · rename_i h
    constructor
    · intro e; omega
    · rintro rfl; exact absurd h (List.lt_irrefl _)
  · rename_i h
    split
    · rename_i h2
      constructor
      · intro e; omega
      · rintro rfl; exact absurd h2 (List.lt_irrefl _)
    · rename_i h2
      exact ⟨fun _ => List.le_antisymm (List.not_lt.1 h2) (List.not_lt.1 h), fun _ => rfl⟩
theorem isNaNS_calls (x : ByteArray) (w : World) : Calls Tryz.prog 150 #[.string x] w fun e w' => e = .returned (.bool false) ∧ w = w' := by
  have h1 : (x.toList == x.toList) = true := by simp
  go_enter Tryz.func150, Tryz.ntmps150
  go_wp2
  go_ret
  exact ⟨rfl, rfl⟩
theorem compareS_calls (x y : ByteArray) (w : World) : Calls Tryz.prog 106 #[.string x, .string y] w fun e w' => e = .returned (.int .i64 (cmpT x.data.toList y.data.toList)) ∧ w = w' := by
  have hx : x.toList = x.data.toList := Lib.toList_data x
  have hy : y.toList = y.data.toList := Lib.toList_data y
  have HX := Lib.hid hx; have HY := Lib.hid hy; clear hx hy
  by_cases h1 : x.data.toList < y.data.toList
  · have E : Hid (cmpT x.data.toList y.data.toList = -1) := Lib.hid (by unfold cmpT; rw [if_pos h1])
    have b1 : Op.bytesLess x.toList y.toList = true := by rw [HX.out, HY.out, bytesLess_eq]; simpa using h1
    clear h1
    go_enter Tryz.func106, Tryz.ntmps106
    go_wp2_with (go_at_call 150; refine (isNaNS_calls _ _).mono ?_; rintro e w' ⟨rfl, rfl⟩)
    go_ret
    exact ⟨ret_int (by rw [E.out]), rfl⟩
  · have b1 : Op.bytesLess x.toList y.toList = false := by rw [HX.out, HY.out, bytesLess_eq]; simpa using h1
    by_cases h2 : y.data.toList < x.data.toList
    · have E : Hid (cmpT x.data.toList y.data.toList = 1) := Lib.hid (by unfold cmpT; rw [if_neg h1, if_pos h2])
      have e1 : (x.toList == y.toList) = false := by
        rw [HX.out, HY.out, beq_eq_false_iff_ne]
        intro e; rw [e] at h2; exact absurd h2 (List.lt_irrefl _)
      clear h1 h2
      go_enter Tryz.func106, Tryz.ntmps106
      go_wp2_with (go_at_call 150; refine (isNaNS_calls _ _).mono ?_; rintro e w' ⟨rfl, rfl⟩)
      go_ret
      exact ⟨ret_int (by rw [E.out]), rfl⟩
    · have E : Hid (cmpT x.data.toList y.data.toList = 0) := Lib.hid (by unfold cmpT; rw [if_neg h1, if_neg h2])
      have e1 : (x.toList == y.toList) = true := by
        rw [HX.out, HY.out, beq_iff_eq]
        exact List.le_antisymm (List.not_lt.1 h2) (List.not_lt.1 h1)
      clear h1 h2
      go_enter Tryz.func106, Tryz.ntmps106
      go_wp2_with (go_at_call 150; refine (isNaNS_calls _ _).mono ?_; rintro e w' ⟨rfl, rfl⟩)
      go_ret
      exact ⟨ret_int (by rw [E.out]), rfl⟩
def aboveB (h t : List UInt8) : Bool := h.isEmpty || decide (t < h)
def spanB (lo hi : List UInt8) : Bool := (lo.isEmpty || keyL lo) && (hi.isEmpty || keyL hi) && aboveB hi lo
def hasB (lo hi k : List UInt8) : Bool := spanB lo hi && keyL k && decide (¬ k < lo) && aboveB hi k
set_option maxRecDepth 100000 in
theorem none_calls (s : ByteArray) (w : World) : Calls Tryz.prog 81 #[.agg #[.string s]] w fun e w' => e = .returned (.bool s.data.toList.isEmpty) ∧ Ext w w' := by
  have HX := Lib.hid (show Ext w (w.alloc (.cells #[.string s] 140)) from (Below.refl _ w).alloc (Nat.le_refl _) _)
  have hs : s.toList = s.data.toList := Lib.toList_data s
  have HS := Lib.hid hs; clear hs
  go_enter Tryz.func81, Tryz.ntmps81
  go_wp2_with fail
  go_ret
  exact ⟨ret_bool (by rw [← HS.out]), HX.out⟩
set_option maxRecDepth 100000 in
theorem compareT_calls (x y : ByteArray) (w : World) : Calls Tryz.prog 84 #[.agg #[.string x], .agg #[.string y]] w fun e w' => e = .returned (.int .i64 (cmpT x.data.toList y.data.toList)) ∧ Ext w w' := by
  have HX : Hid (Ext w ((w.alloc (.cells #[.string x] 140)).alloc (.cells #[.string y] 140))) := Lib.hid (((Below.refl _ w).alloc (Nat.le_refl _) _).alloc (by simp) _)
  go_enter Tryz.func84, Tryz.ntmps84
  go_wp2_with fail
  refine (compareS_calls x y _).mono ?_
  rintro e w' ⟨rfl, rfl⟩
  go_wp2_with fail
  go_ret
  exact ⟨rfl, HX.out⟩
theorem cmpT_pos (x y : List UInt8) : decide (0 < cmpT x y) = decide (y < x) := by
  unfold cmpT
  split
  · rename_i h
    have : ¬ y < x := fun e => List.lt_irrefl _ (List.lt_trans h e)
    simp [this]
  · split <;> simp_all
theorem cmpT_le (x y : List UInt8) : decide (cmpT x y ≤ 0) = decide (¬ y < x) := by
  unfold cmpT
  split
  · rename_i h
    have : ¬ y < x := fun e => List.lt_irrefl _ (List.lt_trans h e)
    simp [this]
  · split <;> simp_all
set_option maxRecDepth 100000 in
theorem above_calls (h t : ByteArray) (w : World) : Calls Tryz.prog 83 #[.agg #[.string h], .agg #[.string t]] w fun e w' => e = .returned (.bool (aboveB h.data.toList t.data.toList)) ∧ Ext w w' := by
  have hw : ∃ w2, w2 = (w.alloc (.cells #[.string h] 143)).alloc (.cells #[.string t] 140) ∧ Ext w w2 ∧ Blk w2 w.heap.size [.string h] 143 ∧ Blk w2 (w.heap.size + 1) [.string t] 140 := by
    refine ⟨_, rfl, ((Below.refl _ w).alloc (Nat.le_refl _) _).alloc (by simp) _, (Blk.new w _ _).alloc _, ?_⟩
    have := Blk.new (w.alloc (.cells #[.string h] 143)) [.string t] 140
    rwa [World.size_alloc] at this
  obtain ⟨w2, e2, x2, b1, b2⟩ := hw
  obtain ⟨A, hA⟩ : ∃ A, A = h.data.toList.isEmpty := ⟨_, rfl⟩
  have hn : ∀ W, Calls Tryz.prog 81 #[.agg #[.string h]] W fun e w' => e = .returned (.bool A) ∧ Ext W w' := fun W => by rw [hA]; exact none_calls h W
  have HN := Lib.hid hn; have X2 := Lib.hid x2; have B1 := Lib.hid b1; have B2 := Lib.hid b2
  have HR : Hid (aboveB h.data.toList t.data.toList = (A || decide (0 < cmpT h.data.toList t.data.toList))) := Lib.hid (by rw [hA, cmpT_pos]; rfl)
  have HC := Lib.hid (compareT_calls h t)
  clear hn x2 b1 b2 hA
  generalize aboveB h.data.toList t.data.toList = res at HR ⊢
  generalize cmpT h.data.toList t.data.toList = c at HR HC
  go_enter Tryz.func83, Tryz.ntmps83
  go_wp2_with fail
  rw [← e2]
  clear e2
  refine (HN.out _).mono ?_
  rintro e w3 ⟨rfl, hx3⟩
  have c1 := (B1.out.ext' hx3).cell 0; have c2 := (B2.out.ext' hx3).cell 0
  simp only [List.getElem?_cons_zero] at c1 c2
  have X3 := Lib.hid (Ext.trans X2.out hx3)
  clear hx3
  cases A
  · go_wp2_with fail
    refine (HC.out _).mono ?_
    rintro e w4 ⟨rfl, hx4⟩
    have X4 := Lib.hid (Ext.trans X3.out hx4); clear hx4
    go_wp2_with fail
    go_ret
    exact ⟨ret_bool (by rw [HR.out]; rfl), X4.out⟩
  · go_wp2_with fail
    go_ret
    exact ⟨ret_bool (by rw [HR.out]; rfl), X3.out⟩
set_option maxRecDepth 100000 in
theorem ends_calls (lo hi : ByteArray) (w : World) : Calls Tryz.prog 80 #[.agg #[.string lo, .string hi]] w fun e w' => e = .returned (.tuple #[.agg #[.string lo], .agg #[.string hi]]) ∧ Ext w w' := by
  go_enter Tryz.func80, Tryz.ntmps80
  go_wp2_with fail
  go_region
  go_wp2_with fail
  refine bodyPost_ret (v := .tuple #[.agg #[.string lo], .agg #[.string hi]]) (by simp [results, Tryz.results80, go_sem]) rfl ⟨rfl, ?_⟩
  exact ((((Below.refl _ w).alloc (Nat.le_refl _) _).alloc (by simp) _).alloc (by simp; omega) _).drew
set_option maxRecDepth 100000 in
set_option maxHeartbeats 1600000 in
theorem spanRight_calls (lo hi : ByteArray) (w : World) (hl : lo.size ≤ 140737488351232) (hh : hi.size ≤ 140737488351232) : Calls Tryz.prog 33 #[.agg #[.string lo, .string hi]] w fun e w' => e = .returned (.bool (spanB lo.data.toList hi.data.toList)) ∧ Ext w w' := by
  obtain ⟨A, hA⟩ : ∃ A, A = lo.data.toList.isEmpty := ⟨_, rfl⟩
  obtain ⟨B, hB⟩ : ∃ B, B = keyL lo.data.toList := ⟨_, rfl⟩
  obtain ⟨C, hC⟩ : ∃ C, C = hi.data.toList.isEmpty := ⟨_, rfl⟩
  obtain ⟨D, hD⟩ : ∃ D, D = keyL hi.data.toList := ⟨_, rfl⟩
  obtain ⟨E, hE⟩ : ∃ E, E = aboveB hi.data.toList lo.data.toList := ⟨_, rfl⟩
  have HR : Hid (spanB lo.data.toList hi.data.toList = ((A || B) && (C || D) && E)) := Lib.hid (by rw [hA, hB, hC, hD, hE]; rfl)
  have HN1 : Hid (∀ W, Calls Tryz.prog 81 #[.agg #[.string lo]] W fun e w' => e = .returned (.bool A) ∧ Ext W w') := Lib.hid (fun W => by rw [hA]; exact none_calls lo W)
  have HN2 : Hid (∀ W, Calls Tryz.prog 81 #[.agg #[.string hi]] W fun e w' => e = .returned (.bool C) ∧ Ext W w') := Lib.hid (fun W => by rw [hC]; exact none_calls hi W)
  have HK1 : Hid (∀ W, Calls Tryz.prog 82 #[.string lo] W fun e w' => e = .returned (.bool B) ∧ W = w') := Lib.hid (fun W => by rw [hB]; exact key_calls lo W hl)
  have HK2 : Hid (∀ W, Calls Tryz.prog 82 #[.string hi] W fun e w' => e = .returned (.bool D) ∧ W = w') := Lib.hid (fun W => by rw [hD]; exact key_calls hi W hh)
  have HA : Hid (∀ W, Calls Tryz.prog 83 #[.agg #[.string hi], .agg #[.string lo]] W fun e w' => e = .returned (.bool E) ∧ Ext W w') := Lib.hid (fun W => by rw [hE]; exact above_calls hi lo W)
  have HEN := Lib.hid (ends_calls lo hi)
  generalize spanB lo.data.toList hi.data.toList = res at HR ⊢
  clear hA hB hC hD hE
  have HB1 : Hid (Blk (w.alloc (.cells #[.string lo, .string hi] 31)) w.heap.size [.string lo, .string hi] 31) := Lib.hid (Blk.new w _ _)
  have HX1 : Hid (Ext w (w.alloc (.cells #[.string lo, .string hi] 31))) := Lib.hid ((Below.refl _ w).alloc (Nat.le_refl _) _)
  go_enter Tryz.func33, Tryz.ntmps33
  go_wp2_with fail
  refine (HEN.out _).mono ?_
  rintro e w2 ⟨rfl, hx2⟩
  have hw : ∃ w3, w3 = (w2.alloc (.cells #[.string lo] 142)).alloc (.cells #[.string hi] 143) ∧ Ext w2 w3 ∧ Blk w3 w2.heap.size [.string lo] 142 ∧ Blk w3 (w2.heap.size + 1) [.string hi] 143 := by
    refine ⟨_, rfl, ((Below.refl _ w2).alloc (Nat.le_refl _) _).alloc (by simp) _, (Blk.new w2 _ _).alloc _, ?_⟩
    have := Blk.new (w2.alloc (.cells #[.string lo] 142)) [.string hi] 143
    rwa [World.size_alloc] at this
  obtain ⟨w3, e3, x3, b1, b2⟩ := hw
  have b0 := (HB1.out.ext' hx2)
  have c0 := b0.cell 0; have c1 := b0.cell 1
  simp only [List.getElem?_cons_zero, List.getElem?_cons_succ] at c0 c1
  have X2 := Lib.hid (Ext.trans HX1.out (Ext.trans hx2 x3))
  have B0 := Lib.hid (b0.ext' x3); have B1 := Lib.hid b1; have B2 := Lib.hid b2
  clear b0 x3 b1 b2 hx2 c0 c1
  have hall : ∀ W, Ext w3 W → W.cell? ⟨w.heap.size, 0, none⟩ = some (.string lo) ∧ W.cell? ⟨w.heap.size, 1, none⟩ = some (.string hi) ∧ W.cell? ⟨w2.heap.size, 0, none⟩ = some (.string lo) ∧ W.cell? ⟨w2.heap.size + 1, 0, none⟩ = some (.string hi) := fun W hW =>
    ⟨(B0.out.ext' hW).cell 0, (B0.out.ext' hW).cell 1, (B1.out.ext' hW).cell 0, (B2.out.ext' hW).cell 0⟩
  have HALL := Lib.hid hall; clear hall
  obtain ⟨q0, q1, q2, q3⟩ := HALL.out w3 (Below.refl _ _)
  go_wp2_with fail
  rw [← e3]
  clear e3
  refine (HN1.out _).mono ?_
  rintro e w4 ⟨rfl, hx4⟩
  have Y4 := Lib.hid hx4
  obtain ⟨r0, r1, r2, r3⟩ := HALL.out w4 hx4
  clear hx4 q0 q1 q2 q3
  cases A
  case' false =>
    go_wp2_with fail
    refine (HK1.out _).mono ?_
    rintro e w' ⟨rfl, rfl⟩
    cases B
    case false =>
      go_wp2_with fail
      go_ret
      exact ⟨ret_bool (by rw [HR.out]; rfl), Ext.trans X2.out Y4.out⟩
  all_goals
    go_wp2_with fail
    refine (HN2.out _).mono ?_
    rintro e w5 ⟨rfl, hx5⟩
    have Y5 := Lib.hid (Ext.trans Y4.out hx5)
    obtain ⟨s0, s1, s2, s3⟩ := HALL.out w5 (Ext.trans Y4.out hx5)
    clear hx5 r0 r1 r2 r3
    cases C
    case' false =>
      go_wp2_with fail
      refine (HK2.out _).mono ?_
      rintro e w' ⟨rfl, rfl⟩
      cases D
      case false =>
        go_wp2_with fail
        go_ret
        exact ⟨ret_bool (by rw [HR.out]; first | rfl | simp), Ext.trans X2.out Y5.out⟩
    all_goals
      go_wp2_with fail
      refine (HA.out _).mono ?_
      rintro e w6 ⟨rfl, hx6⟩
      have Y6 := Lib.hid (Ext.trans Y5.out hx6); clear hx6
      go_wp2_with fail
      go_ret
      exact ⟨ret_bool (by rw [HR.out]; first | rfl | simp), Ext.trans X2.out Y6.out⟩
set_option maxRecDepth 100000 in
set_option maxHeartbeats 1600000 in
theorem has_calls (lo hi k : ByteArray) (w : World) (hl : lo.size ≤ 140737488351232) (hh : hi.size ≤ 140737488351232) (hk : k.size ≤ 140737488351232) : Calls Tryz.prog 34 #[.agg #[.string lo, .string hi], .string k] w fun e w' => e = .returned (.bool (hasB lo.data.toList hi.data.toList k.data.toList)) ∧ Ext w w' := by
  obtain ⟨A, hA⟩ : ∃ A, A = spanB lo.data.toList hi.data.toList := ⟨_, rfl⟩
  obtain ⟨B, hB⟩ : ∃ B, B = keyL k.data.toList := ⟨_, rfl⟩
  obtain ⟨c, hc⟩ : ∃ c, c = cmpT lo.data.toList k.data.toList := ⟨_, rfl⟩
  obtain ⟨D, hD⟩ : ∃ D, D = aboveB hi.data.toList k.data.toList := ⟨_, rfl⟩
  have HR : Hid (hasB lo.data.toList hi.data.toList k.data.toList = (A && B && decide (c ≤ 0) && D)) := Lib.hid (by rw [hA, hB, hc, hD, cmpT_le]; rfl)
  have HN1 : Hid (∀ W, Calls Tryz.prog 33 #[.agg #[.string lo, .string hi]] W fun e w' => e = .returned (.bool A) ∧ Ext W w') := Lib.hid (fun W => by rw [hA]; exact spanRight_calls lo hi W hl hh)
  have HK1 : Hid (∀ W, Calls Tryz.prog 82 #[.string k] W fun e w' => e = .returned (.bool B) ∧ W = w') := Lib.hid (fun W => by rw [hB]; exact key_calls k W hk)
  have HC1 : Hid (∀ W, Calls Tryz.prog 84 #[.agg #[.string lo], .agg #[.string k]] W fun e w' => e = .returned (.int .i64 c) ∧ Ext W w') := Lib.hid (fun W => by rw [hc]; exact compareT_calls lo k W)
  have HA : Hid (∀ W, Calls Tryz.prog 83 #[.agg #[.string hi], .agg #[.string k]] W fun e w' => e = .returned (.bool D) ∧ Ext W w') := Lib.hid (fun W => by rw [hD]; exact above_calls hi k W)
  have HEN := Lib.hid (ends_calls lo hi)
  generalize hasB lo.data.toList hi.data.toList k.data.toList = res at HR ⊢
  clear hA hB hc hD
  have HB1 : Hid (Blk (w.alloc (.cells #[.string lo, .string hi] 31)) w.heap.size [.string lo, .string hi] 31) := Lib.hid (Blk.new w _ _)
  have HX1 : Hid (Ext w (w.alloc (.cells #[.string lo, .string hi] 31))) := Lib.hid ((Below.refl _ w).alloc (Nat.le_refl _) _)
  go_enter Tryz.func34, Tryz.ntmps34
  go_wp2_with fail
  refine (HEN.out _).mono ?_
  rintro e w2 ⟨rfl, hx2⟩
  have hw : ∃ w3, w3 = (w2.alloc (.cells #[.string lo] 142)).alloc (.cells #[.string hi] 143) ∧ Ext w2 w3 ∧ Blk w3 w2.heap.size [.string lo] 142 ∧ Blk w3 (w2.heap.size + 1) [.string hi] 143 := by
    refine ⟨_, rfl, ((Below.refl _ w2).alloc (Nat.le_refl _) _).alloc (by simp) _, (Blk.new w2 _ _).alloc _, ?_⟩
    have := Blk.new (w2.alloc (.cells #[.string lo] 142)) [.string hi] 143
    rwa [World.size_alloc] at this
  obtain ⟨w3, e3, x3, b1, b2⟩ := hw
  have b0 := (HB1.out.ext' hx2)
  have c0 := b0.cell 0; have c1 := b0.cell 1
  simp only [List.getElem?_cons_zero, List.getElem?_cons_succ] at c0 c1
  have hN2 : w.heap.size < w2.heap.size := b0.lt
  have hN3 : w.heap.size ≠ w2.heap.size := by omega
  have hN4 : w.heap.size ≠ w2.heap.size + 1 := by omega
  have X2 := Lib.hid (Ext.trans HX1.out (Ext.trans hx2 x3))
  have B0 := Lib.hid (b0.ext' x3); have B1 := Lib.hid b1; have B2 := Lib.hid b2
  clear b0 x3 b1 b2 hx2
  have hall : ∀ W, Ext w3 W → W.cell? ⟨w.heap.size, 0, none⟩ = some (.string lo) ∧ W.cell? ⟨w.heap.size, 1, none⟩ = some (.string hi) ∧ W.cell? ⟨w2.heap.size, 0, none⟩ = some (.string lo) ∧ W.cell? ⟨w2.heap.size + 1, 0, none⟩ = some (.string hi) := fun W hW =>
    ⟨(B0.out.ext' hW).cell 0, (B0.out.ext' hW).cell 1, (B1.out.ext' hW).cell 0, (B2.out.ext' hW).cell 0⟩
  have HALL := Lib.hid hall; clear hall
  go_wp2_with fail
  rw [← e3]
  clear e3 c0 c1
  refine (HN1.out _).mono ?_
  rintro e w4 ⟨rfl, hx4⟩
  have Y4 := Lib.hid hx4
  obtain ⟨r0, r1, r2, r3⟩ := HALL.out w4 hx4
  clear hx4
  cases A
  · go_wp2_with fail
    go_ret
    exact ⟨ret_bool (by rw [HR.out]; first | rfl | simp), Ext.trans X2.out Y4.out⟩
  · go_wp2_with fail
    refine (HK1.out _).mono ?_
    rintro e w' ⟨rfl, rfl⟩
    cases B
    · go_wp2_with fail
      go_ret
      exact ⟨ret_bool (by rw [HR.out]; first | rfl | simp), Ext.trans X2.out Y4.out⟩
    · go_wp2_with fail
      refine (HC1.out _).mono ?_
      rintro e w5 ⟨rfl, hx5⟩
      have Y5 := Lib.hid (Ext.trans Y4.out hx5)
      obtain ⟨s0, s1, s2, s3⟩ := HALL.out w5 (Ext.trans Y4.out hx5)
      clear hx5 r0 r1 r2 r3
      cases hcz : decide (c ≤ 0)
      · rw [hcz] at HR
        go_wp2_with fail
        go_ret
        exact ⟨ret_bool (by rw [HR.out]; first | rfl | simp), Ext.trans X2.out Y5.out⟩
      · rw [hcz] at HR
        go_wp2_with fail
        refine (HA.out _).mono ?_
        rintro e w6 ⟨rfl, hx6⟩
        have Y6 := Lib.hid (Ext.trans Y5.out hx6); clear hx6
        go_wp2_with fail
        go_ret
        exact ⟨ret_bool (by rw [HR.out]; first | rfl | simp), Ext.trans X2.out Y6.out⟩
end Go.Proofs.YtdmejbjpbjcfbaaGreatDoor
