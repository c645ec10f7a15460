/- span: is a span within another one? -/
import Derived.Test.YtmpmggejhnmakaaGreatDoorZ10
import Derived.Deep.CutRange
import Derived.Deep.DeepCutAuto
namespace Go.Proofs.YtmpmggejhnmakaaGreatDoor
open Go.RowKit
def overB (h g : List UInt8) : Bool := h.isEmpty || (!g.isEmpty && decide (0 ≤ cmpT h g))
def withinB (alo ahi lo hi : List UInt8) : Bool := spanB alo ahi && spanB lo hi && decide (cmpT lo alo ≤ 0) && overB hi ahi
set_option maxRecDepth 100000 in
theorem over_calls (h g : ByteArray) (w : World) : Calls Tryz.prog 114 #[.agg #[.string h], .agg #[.string g]] w fun e w' => e = .returned (.bool (overB h.data.toList g.data.toList)) ∧ Ext w w' := by
 have hw : ∃ w2, w2 = (w.alloc (.cells #[.string h] 98)).alloc (.cells #[.string g] 98) ∧ Ext w w2 ∧ Blk w2 w.heap.size [.string h] 98 ∧ Blk w2 (w.heap.size + 1) [.string g] 98 := by
  refine ⟨_, rfl, ((Below.refl _ w).alloc (Nat.le_refl _) _).alloc (by simp) _, (Blk.new w _ _).alloc _, ?_⟩
  have := Blk.new (w.alloc (.cells #[.string h] 98)) [.string g] 98
  rwa [World.size_alloc] at this
 obtain ⟨w2, e2, x2, b1, b2⟩ := hw
 obtain ⟨A, hA⟩ : ∃ A, A = h.data.toList.isEmpty := ⟨_, rfl⟩
 obtain ⟨B, hB⟩ : ∃ B, B = g.data.toList.isEmpty := ⟨_, rfl⟩
 have HN : Hid (∀ W, Calls Tryz.prog 36 #[.agg #[.string h]] W fun e w' => e = .returned (.bool A) ∧ Ext W w') := Lib.hid (fun W => by rw [hA]; exact none_calls h W)
 have HM : Hid (∀ W, Calls Tryz.prog 36 #[.agg #[.string g]] W fun e w' => e = .returned (.bool B) ∧ Ext W w') := Lib.hid (fun W => by rw [hB]; exact none_calls g W)
 have X2 := Lib.hid x2; have B1 := Lib.hid b1; have B2 := Lib.hid b2
 have HR : Hid (overB h.data.toList g.data.toList = (A || (!B && decide (0 ≤ cmpT h.data.toList g.data.toList)))) := Lib.hid (by rw [hA, hB]; rfl)
 have HC := Lib.hid (compareT_calls h g)
 clear x2 b1 b2 hA hB
 generalize overB h.data.toList g.data.toList = res at HR ⊢
 generalize cmpT h.data.toList g.data.toList = c at HR HC
 go_enter Tryz.func114, Tryz.ntmps114
 go_wp2_with fail
 rw [← e2]
 clear e2
 refine (HN.out _).mono ?_
 rintro e w3 ⟨rfl, hx3⟩
 have c1 := (B1.out.ext' hx3).cell 0; have c2 := (B2.out.ext' hx3).cell 0
 simp only [List.getElem?_cons_zero] at c1 c2
 have X3 := Lib.hid (Ext.trans X2.out hx3); have Y3 := Lib.hid hx3
 clear hx3
 cases A
 · go_wp2_with fail
   refine (HM.out _).mono ?_
   rintro e w4 ⟨rfl, hx4⟩
   have d1 := (B1.out.ext' (Ext.trans Y3.out hx4)).cell 0; have d2 := (B2.out.ext' (Ext.trans Y3.out hx4)).cell 0
   simp only [List.getElem?_cons_zero] at d1 d2
   have X4 := Lib.hid (Ext.trans X3.out hx4); clear hx4 c1 c2
   cases B
   · go_wp2_with fail
     refine (HC.out _).mono ?_
     rintro e w5 ⟨rfl, hx5⟩
     have X5 := Lib.hid (Ext.trans X4.out hx5); clear hx5
     go_wp2_with fail
     go_ret
     exact ⟨ret_bool (by rw [HR.out]; rfl), X5.out⟩
   · go_wp2_with fail
     go_ret
     exact ⟨ret_bool (by rw [HR.out]; rfl), X4.out⟩
 · go_wp2_with fail
   go_ret
   exact ⟨ret_bool (by rw [HR.out]; rfl), X3.out⟩
set_option maxRecDepth 100000 in
set_option maxHeartbeats 3200000 in
theorem within_calls (al ah lo hi : ByteArray) (w : World) (h1 : al.size ≤ 140737488351232) (h2 : ah.size ≤ 140737488351232) (h3 : lo.size ≤ 140737488351232) (h4 : hi.size ≤ 140737488351232) :
 Calls Tryz.prog 48 #[.agg #[.string al, .string ah], .agg #[.string lo, .string hi]] w fun e w' => e = .returned (.bool (withinB al.data.toList ah.data.toList lo.data.toList hi.data.toList)) ∧ Ext w w' := by
 obtain ⟨A, hA⟩ : ∃ A, A = spanB al.data.toList ah.data.toList := ⟨_, rfl⟩
 obtain ⟨B, hB⟩ : ∃ B, B = spanB lo.data.toList hi.data.toList := ⟨_, rfl⟩
 obtain ⟨c, hc⟩ : ∃ c, c = cmpT lo.data.toList al.data.toList := ⟨_, rfl⟩
 obtain ⟨D, hD⟩ : ∃ D, D = overB hi.data.toList ah.data.toList := ⟨_, rfl⟩
 have HR : Hid (withinB al.data.toList ah.data.toList lo.data.toList hi.data.toList = (A && B && decide (c ≤ 0) && D)) := Lib.hid (by rw [hA, hB, hc, hD]; rfl)
 have HN1 : Hid (∀ W, Calls Tryz.prog 11 #[.agg #[.string al, .string ah]] W fun e w' => e = .returned (.bool A) ∧ Ext W w') := Lib.hid (fun W => by rw [hA]; exact spanRight_calls al ah W h1 h2)
 have HN2 : Hid (∀ W, Calls Tryz.prog 11 #[.agg #[.string lo, .string hi]] W fun e w' => e = .returned (.bool B) ∧ Ext W w') := Lib.hid (fun W => by rw [hB]; exact spanRight_calls lo hi W h3 h4)
 have HC1 : Hid (∀ W, Calls Tryz.prog 102 #[.agg #[.string lo], .agg #[.string al]] W fun e w' => e = .returned (.int .i64 c) ∧ Ext W w') := Lib.hid (fun W => by rw [hc]; exact compareT_calls lo al W)
 have HA : Hid (∀ W, Calls Tryz.prog 114 #[.agg #[.string hi], .agg #[.string ah]] W fun e w' => e = .returned (.bool D) ∧ Ext W w') := Lib.hid (fun W => by rw [hD]; exact over_calls hi ah W)
 have HE1 := Lib.hid (ends_calls al ah); have HE2 := Lib.hid (ends_calls lo hi)
 generalize withinB al.data.toList ah.data.toList lo.data.toList hi.data.toList = res at HR ⊢
 clear hA hB hc hD
 have hw : ∃ w2, w2 = (w.alloc (.cells #[.string al, .string ah] 30)).alloc (.cells #[.string lo, .string hi] 30) ∧ Ext w w2 ∧ Blk w2 w.heap.size [.string al, .string ah] 30 ∧ Blk w2 (w.heap.size + 1) [.string lo, .string hi] 30 := by
  refine ⟨_, rfl, ((Below.refl _ w).alloc (Nat.le_refl _) _).alloc (by simp) _, (Blk.new w _ _).alloc _, ?_⟩
  have := Blk.new (w.alloc (.cells #[.string al, .string ah] 30)) [.string lo, .string hi] 30
  rwa [World.size_alloc] at this
 obtain ⟨w2, e2, x2, b1, b2⟩ := hw
 have X2' := Lib.hid x2; have B1 := Lib.hid b1; have B2 := Lib.hid b2
 have c0 := b1.cell 0; have c1 := b1.cell 1; have c2 := b2.cell 0; have c3 := b2.cell 1
 simp only [List.getElem?_cons_zero, List.getElem?_cons_succ] at c0 c1 c2 c3
 clear x2 b1 b2
 go_enter Tryz.func48, Tryz.ntmps48
 go_wp2_with fail
 rw [← e2]
 clear e2
 go_wp2_with fail
 refine (HE1.out _).mono ?_
 rintro e w3 ⟨rfl, hx3⟩
 have d2 := (B2.out.ext' hx3).cell 0; have d3 := (B2.out.ext' hx3).cell 1
 simp only [List.getElem?_cons_zero, List.getElem?_cons_succ] at d2 d3
 have X3 := Lib.hid hx3
 clear hx3 c0 c1 c2 c3
 have hw : ∃ w4, w4 = (w3.alloc (.cells #[.string al] 97)).alloc (.cells #[.string ah] 98) ∧ Ext w3 w4 ∧ Blk w4 w3.heap.size [.string al] 97 ∧ Blk w4 (w3.heap.size + 1) [.string ah] 98 := by
  refine ⟨_, rfl, ((Below.refl _ w3).alloc (Nat.le_refl _) _).alloc (by simp) _, (Blk.new w3 _ _).alloc _, ?_⟩
  have := Blk.new (w3.alloc (.cells #[.string al] 97)) [.string ah] 98
  rwa [World.size_alloc] at this
 obtain ⟨w4, e4, x4, b3, b4⟩ := hw
 have hk1 := B1.out.lt; have hk2 := B2.out.lt; have hk3 := X3.out.size
 have k1 : w.heap.size ≠ w3.heap.size := by omega
 have k2 : w.heap.size + 1 ≠ w3.heap.size := by omega
 have k3 : w.heap.size ≠ w3.heap.size + 1 := by omega
 have X4 := Lib.hid (Ext.trans X3.out x4); have B3 := Lib.hid b3; have B4 := Lib.hid b4
 have k4 : w.heap.size + 1 ≠ w3.heap.size + 1 := by omega
 have r2 := (B2.out.ext' X4.out).cell 0; have r3 := (B2.out.ext' X4.out).cell 1
 simp only [List.getElem?_cons_zero, List.getElem?_cons_succ] at r2 r3
 clear x4 b3 b4
 go_upto_region 2 with fail
 rw [← e4]
 clear e4 d2 d3
 go_wp2_with fail
 refine (HE2.out _).mono ?_
 rintro e w5 ⟨rfl, hx5⟩
 have hw : ∃ w6, w6 = (w5.alloc (.cells #[.string lo] 97)).alloc (.cells #[.string hi] 98) ∧ Ext w5 w6 ∧ Blk w6 w5.heap.size [.string lo] 97 ∧ Blk w6 (w5.heap.size + 1) [.string hi] 98 := by
  refine ⟨_, rfl, ((Below.refl _ w5).alloc (Nat.le_refl _) _).alloc (by simp) _, (Blk.new w5 _ _).alloc _, ?_⟩
  have := Blk.new (w5.alloc (.cells #[.string lo] 97)) [.string hi] 98
  rwa [World.size_alloc] at this
 obtain ⟨w6, e6, x6, b5, b6⟩ := hw
 have hk5 := hx5.size; have hk6 := B4.out.lt
 have X6 := Lib.hid (Ext.trans X4.out (Ext.trans hx5 x6))
 have Y6 := Lib.hid (Ext.trans hx5 x6)
 have B5 := Lib.hid b5; have B6 := Lib.hid b6
 have hall : ∀ W, Ext w6 W → W.cell? ⟨w.heap.size, 0, none⟩ = some (.string al) ∧ W.cell? ⟨w.heap.size, 1, none⟩ = some (.string ah) ∧ W.cell? ⟨w.heap.size + 1, 0, none⟩ = some (.string lo) ∧ W.cell? ⟨w.heap.size + 1, 1, none⟩ = some (.string hi) ∧ W.cell? ⟨w3.heap.size, 0, none⟩ = some (.string al) ∧ W.cell? ⟨w3.heap.size + 1, 0, none⟩ = some (.string ah) ∧ W.cell? ⟨w5.heap.size, 0, none⟩ = some (.string lo) ∧ W.cell? ⟨w5.heap.size + 1, 0, none⟩ = some (.string hi) := fun W hW =>
  ⟨(B1.out.ext' (Ext.trans X6.out hW)).cell 0, (B1.out.ext' (Ext.trans X6.out hW)).cell 1, (B2.out.ext' (Ext.trans X6.out hW)).cell 0, (B2.out.ext' (Ext.trans X6.out hW)).cell 1, (B3.out.ext' (Ext.trans Y6.out hW)).cell 0, (B4.out.ext' (Ext.trans Y6.out hW)).cell 0, (B5.out.ext' hW).cell 0, (B6.out.ext' hW).cell 0⟩
 have HALL := Lib.hid hall
 have XW : Hid (∀ W, Ext w6 W → Ext w W) := Lib.hid (fun W hW => by have h0 := X2'.out; exact Ext.trans h0 (Ext.trans X6.out hW))
 clear hx5 x6 b5 b6 hall r2 r3
 go_upto_region 3 with fail
 rw [← e6]
 clear e6
 obtain ⟨q0, q1, q2, q3, q4, q5, q6, q7⟩ := HALL.out w6 (Below.refl _ _)
 go_wp2_with fail
 refine (HN1.out _).mono ?_
 rintro e w7 ⟨rfl, hx7⟩
 have Y7 := Lib.hid hx7
 clear q0 q1 q2 q3 q4 q5 q6 q7
 obtain ⟨q0, q1, q2, q3, q4, q5, q6, q7⟩ := HALL.out w7 hx7
 clear hx7
 cases A
 · go_wp2_with fail
   go_ret
   exact ⟨ret_bool (by rw [HR.out]; first | rfl | simp), XW.out _ Y7.out⟩
 · go_wp2_with fail
   refine (HN2.out _).mono ?_
   rintro e w8 ⟨rfl, hx8⟩
   have Y8 := Lib.hid (Ext.trans Y7.out hx8)
   clear q0 q1 q2 q3 q4 q5 q6 q7 hx8
   obtain ⟨q0, q1, q2, q3, q4, q5, q6, q7⟩ := HALL.out w8 Y8.out
   cases B
   · go_wp2_with fail
     go_ret
     exact ⟨ret_bool (by rw [HR.out]; first | rfl | simp), XW.out _ Y8.out⟩
   · go_wp2_with fail
     refine (HC1.out _).mono ?_
     rintro e w9 ⟨rfl, hx9⟩
     have Y9 := Lib.hid (Ext.trans Y8.out hx9)
     clear q0 q1 q2 q3 q4 q5 q6 q7 hx9
     obtain ⟨q0, q1, q2, q3, q4, q5, q6, q7⟩ := HALL.out w9 Y9.out
     cases hcz : decide (c ≤ 0)
     · rw [hcz] at HR
       go_wp2_with fail
       go_ret
       exact ⟨ret_bool (by rw [HR.out]; first | rfl | simp), XW.out _ Y9.out⟩
     · rw [hcz] at HR
       go_wp2_with fail
       refine (HA.out _).mono ?_
       rintro e w10 ⟨rfl, hx10⟩
       have Y10 := Lib.hid (Ext.trans Y9.out hx10)
       clear hx10
       go_wp2_with fail
       go_ret
       exact ⟨ret_bool (by rw [HR.out]; first | rfl | simp), XW.out _ Y10.out⟩
end Go.Proofs.YtmpmggejhnmakaaGreatDoor
