/- HoldsEnds: holds with each part turned, as many as may be (a closed statement). -/
import Derived.Test.YtdmejbjpbjcfbaaGreatDoorEnds1
import Derived.Test.YtdmejbjpbjcfbaaGreatDoorFirstN
namespace Go.Proofs.YtdmejbjpbjcfbaaGreatDoor
open Go.RowKit
set_option maxRecDepth 100000 in
set_option maxHeartbeats 51200000 in
theorem holdsEnds_calls (w : World) : Calls Tryz.prog 8 #[] w fun e w' => e = .returned (.bool true) ∧ Ext w w' := by
  obtain ⟨i0, hi, hz0, hz1, hz2⟩ := info_parts infoU8
  obtain ⟨j0, hj, hy0, hy1, hy2⟩ := info_parts infoHold
  have I0 := Lib.hid hi; have J0 := Lib.hid hj
  clear hi hj
  go_enter Tryz.func8, Tryz.ntmps8
  go_wp2_with fail
  refine (awake_calls _).mono ?_
  rintro e w1 ⟨rfl, hx1⟩
  have X1 := Lib.hid hx1
  clear hx1
  go_upto_region 4 with fail
  obtain ⟨hA, hR, hG, hx⟩ := alloc3 w1 [.int .u8 3, .string ⟨#[107]⟩, .string ⟨#[]⟩, .int .i64 (-4), .int .u8 2, .string ⟨#[107]⟩, .string ⟨#[97]⟩, .int .i64 0, .int .u8 1, .string ⟨#[107]⟩, .string ⟨#[]⟩, .int .i64 0] [.string ⟨#[107]⟩, .bool true, .string ⟨#[53]⟩, .string ⟨#[107]⟩, .bool true, .string ⟨#[97]⟩] [.string ⟨#[107]⟩, .int .i64 2, .int .i64 3, .slice (some ⟨w1.heap.size, 0, none⟩) 3 3, .slice (some ⟨w1.heap.size + 1, 0, none⟩) 2 2, .bool true, .string ⟨#[97]⟩] 98 100 35
  generalize ((w1.alloc (.cells #[.int .u8 3, .string ⟨#[107]⟩, .string ⟨#[]⟩, .int .i64 (-4), .int .u8 2, .string ⟨#[107]⟩, .string ⟨#[97]⟩, .int .i64 0, .int .u8 1, .string ⟨#[107]⟩, .string ⟨#[]⟩, .int .i64 0] 98)).alloc (.cells #[.string ⟨#[107]⟩, .bool true, .string ⟨#[53]⟩, .string ⟨#[107]⟩, .bool true, .string ⟨#[97]⟩] 100)).alloc (.cells #[.string ⟨#[107]⟩, .int .i64 2, .int .i64 3, .slice (some ⟨w1.heap.size, 0, none⟩) 3 3, .slice (some ⟨w1.heap.size + 1, 0, none⟩) 2 2, .bool true, .string ⟨#[97]⟩] 35) = wA at hA hR hG hx ⊢
  generalize w1.heap.size = A at hA hR hG ⊢
  generalize hRe : A + 1 = R at hR hG ⊢
  generalize hGe : R + 1 = G at hG ⊢
  have XA := Lib.hid (Ext.trans X1.out hx)
  have HA := Lib.hid hA; have HR := Lib.hid hR; have HG := Lib.hid hG
  have g0 := HG.out.cell 0; have g1 := HG.out.cell 1; have g2 := HG.out.cell 2; have g3 := HG.out.cell 3; have g4 := HG.out.cell 4; have g5 := HG.out.cell 5; have g6 := HG.out.cell 6
  simp only [List.getElem?_cons_zero, List.getElem?_cons_succ] at g0 g1 g2 g3 g4 g5 g6
  clear hA hR hG hx hRe hGe X1
  go_upto_region 5 with fail
  clear g0 g1 g2 g3 g4 g5 g6
  obtain ⟨wB, hwB⟩ : ∃ wB, wB = wA.alloc (.cells (tenL A R).toArray 35) := ⟨_, rfl⟩
  refine wpW (w' := wB) hwB ?_
  have hL := Blk.new wA (tenL A R) 35
  have hK : But (fun b => b = wA.heap.size) wA (wA.alloc (.cells (tenL A R).toArray 35)) := Ext.but ((Below.refl _ wA).alloc (Nat.le_refl _) _) _
  have hA0 := HA.out.alloc (.cells (tenL A R).toArray 35); have hR0 := HR.out.alloc (.cells (tenL A R).toArray 35); have hG0 := HG.out.alloc (.cells (tenL A R).toArray 35)
  have hAl := HA.out.lt; have hRl := HR.out.lt; have hGl := HG.out.lt
  rw [← hwB] at hL hK hA0 hR0 hG0
  clear hwB
  obtain ⟨L, hLe⟩ : ∃ L, L = wA.heap.size := ⟨_, rfl⟩
  rw [← hLe] at hL hK hAl hRl hGl ⊢
  have nA : A ≠ L := by omega
  have nR : R ≠ L := by omega
  have nG : G ≠ L := by omega
  have NA := Lib.hid nA; have NR := Lib.hid nR; have NG := Lib.hid nG; have HLE := Lib.hid hLe
  have HL := Lib.hid hL; have HK := Lib.hid hK; have HA := Lib.hid hA0; have HR := Lib.hid hR0; have HG := Lib.hid hG0
  clear hL hK hA0 hR0 hG0 hAl hRl hGl nA nR nG hLe
  have f0 := HL.out.free 7
  have q0 : wB.cell? ⟨L, 7, none⟩ = some (.string ⟨#[107]⟩) := HL.out.cell 7
  go_upto_region 6 with fail
  clear f0 q0
  have hL2 := ((HL.out).set 7 (.string ⟨#[109]⟩)); have hK2 := ((HK.out).setCell (p := ⟨L, 7, none⟩) (fun _ => rfl) (.string ⟨#[109]⟩))
  have hA2 := ((HA.out).other (a := ⟨L, 7, none⟩) NA.out (.string ⟨#[109]⟩))
  have hR2 := ((HR.out).other (a := ⟨L, 7, none⟩) NR.out (.string ⟨#[109]⟩))
  have hG2 := ((HG.out).other (a := ⟨L, 7, none⟩) NG.out (.string ⟨#[109]⟩))
  generalize (wB.setCell ⟨L, 7, none⟩ (.string ⟨#[109]⟩)) = w5 at hL2 hK2 hA2 hR2 hG2 ⊢
  clear HL HK HA HR HG
  have HL := Lib.hid hL2; have HK := Lib.hid hK2; have HA := Lib.hid hA2; have HR := Lib.hid hR2; have HG := Lib.hid hG2
  clear hL2 hK2 hA2 hR2 hG2
  have f0 := HL.out.free 15
  have q0 : w5.cell? ⟨L, 15, none⟩ = some (.int .i64 2) := HL.out.cell 15
  have f1 := HL.out.free 16
  have q1 : w5.cell? ⟨L, 16, none⟩ = some (.int .i64 3) := HL.out.cell 16
  go_upto_region 7 with fail
  clear f0 f1 q0 q1
  have hL2 := ((((HL.out).set 15 (.int .i64 9))).set 16 (.int .i64 1)); have hK2 := ((((HK.out).setCell (p := ⟨L, 15, none⟩) (fun _ => rfl) (.int .i64 9))).setCell (p := ⟨L, 16, none⟩) (fun _ => rfl) (.int .i64 1))
  have hA2 := ((((HA.out).other (a := ⟨L, 15, none⟩) NA.out (.int .i64 9))).other (a := ⟨L, 16, none⟩) NA.out (.int .i64 1))
  have hR2 := ((((HR.out).other (a := ⟨L, 15, none⟩) NR.out (.int .i64 9))).other (a := ⟨L, 16, none⟩) NR.out (.int .i64 1))
  have hG2 := ((((HG.out).other (a := ⟨L, 15, none⟩) NG.out (.int .i64 9))).other (a := ⟨L, 16, none⟩) NG.out (.int .i64 1))
  generalize ((w5.setCell ⟨L, 15, none⟩ (.int .i64 9)).setCell ⟨L, 16, none⟩ (.int .i64 1)) = w6 at hL2 hK2 hA2 hR2 hG2 ⊢
  clear HL HK HA HR HG
  have HL := Lib.hid hL2; have HK := Lib.hid hK2; have HA := Lib.hid hA2; have HR := Lib.hid hR2; have HG := Lib.hid hG2
  clear hL2 hK2 hA2 hR2 hG2
  have g0 := HG.out.cell 3
  simp only [List.getElem?_cons_zero, List.getElem?_cons_succ] at g0
  have f0 := HL.out.free 24
  have q0 : w6.cell? ⟨L, 24, none⟩ = some (.slice (some ⟨A, 0, none⟩) 3 3) := HL.out.cell 24
  go_upto_region 8 with fail
  clear g0 f0 q0
  have hL2 := ((HL.out).set 24 (.slice (some ⟨A, 0, none⟩) 2 3)); have hK2 := ((HK.out).setCell (p := ⟨L, 24, none⟩) (fun _ => rfl) (.slice (some ⟨A, 0, none⟩) 2 3))
  have hA2 := ((HA.out).other (a := ⟨L, 24, none⟩) NA.out (.slice (some ⟨A, 0, none⟩) 2 3))
  have hR2 := ((HR.out).other (a := ⟨L, 24, none⟩) NR.out (.slice (some ⟨A, 0, none⟩) 2 3))
  have hG2 := ((HG.out).other (a := ⟨L, 24, none⟩) NG.out (.slice (some ⟨A, 0, none⟩) 2 3))
  generalize (w6.setCell ⟨L, 24, none⟩ (.slice (some ⟨A, 0, none⟩) 2 3)) = w7 at hL2 hK2 hA2 hR2 hG2 ⊢
  clear HL HK HA HR HG
  have HL := Lib.hid hL2; have HK := Lib.hid hK2; have HA := Lib.hid hA2; have HR := Lib.hid hR2; have HG := Lib.hid hG2
  clear hL2 hK2 hA2 hR2 hG2
  have g0 := HG.out.cell 4
  simp only [List.getElem?_cons_zero, List.getElem?_cons_succ] at g0
  have f0 := HL.out.free 32
  have q0 : w7.cell? ⟨L, 32, none⟩ = some (.slice (some ⟨R, 0, none⟩) 2 2) := HL.out.cell 32
  go_upto_region 9 with fail
  clear g0 f0 q0
  have hL2 := ((HL.out).set 32 (.slice (some ⟨R, 0, none⟩) 1 2)); have hK2 := ((HK.out).setCell (p := ⟨L, 32, none⟩) (fun _ => rfl) (.slice (some ⟨R, 0, none⟩) 1 2))
  have hA2 := ((HA.out).other (a := ⟨L, 32, none⟩) NA.out (.slice (some ⟨R, 0, none⟩) 1 2))
  have hR2 := ((HR.out).other (a := ⟨L, 32, none⟩) NR.out (.slice (some ⟨R, 0, none⟩) 1 2))
  have hG2 := ((HG.out).other (a := ⟨L, 32, none⟩) NG.out (.slice (some ⟨R, 0, none⟩) 1 2))
  generalize (w7.setCell ⟨L, 32, none⟩ (.slice (some ⟨R, 0, none⟩) 1 2)) = w8 at hL2 hK2 hA2 hR2 hG2 ⊢
  clear HL HK HA HR HG
  have HL := Lib.hid hL2; have HK := Lib.hid hK2; have HA := Lib.hid hA2; have HR := Lib.hid hR2; have HG := Lib.hid hG2
  clear hL2 hK2 hA2 hR2 hG2
  have f0 := HL.out.free 40
  have q0 : w8.cell? ⟨L, 40, none⟩ = some (.bool true) := HL.out.cell 40
  go_upto_region 10 with fail
  clear f0 q0
  have hL2 := ((HL.out).set 40 (.bool false)); have hK2 := ((HK.out).setCell (p := ⟨L, 40, none⟩) (fun _ => rfl) (.bool false))
  have hA2 := ((HA.out).other (a := ⟨L, 40, none⟩) NA.out (.bool false))
  have hR2 := ((HR.out).other (a := ⟨L, 40, none⟩) NR.out (.bool false))
  have hG2 := ((HG.out).other (a := ⟨L, 40, none⟩) NG.out (.bool false))
  generalize (w8.setCell ⟨L, 40, none⟩ (.bool false)) = w9 at hL2 hK2 hA2 hR2 hG2 ⊢
  clear HL HK HA HR HG
  have HL := Lib.hid hL2; have HK := Lib.hid hK2; have HA := Lib.hid hA2; have HR := Lib.hid hR2; have HG := Lib.hid hG2
  clear hL2 hK2 hA2 hR2 hG2
  have f0 := HL.out.free 48
  have q0 : w9.cell? ⟨L, 48, none⟩ = some (.string ⟨#[97]⟩) := HL.out.cell 48
  go_upto_region 11 with fail
  clear f0 q0
  have hL2 := ((HL.out).set 48 (.string ⟨#[97, 97, 97, 97, 97, 97, 97, 97, 97, 97, 97, 97, 97, 97, 97, 97, 97, 97, 97, 97, 97]⟩)); have hK2 := ((HK.out).setCell (p := ⟨L, 48, none⟩) (fun _ => rfl) (.string ⟨#[97, 97, 97, 97, 97, 97, 97, 97, 97, 97, 97, 97, 97, 97, 97, 97, 97, 97, 97, 97, 97]⟩))
  have hA2 := ((HA.out).other (a := ⟨L, 48, none⟩) NA.out (.string ⟨#[97, 97, 97, 97, 97, 97, 97, 97, 97, 97, 97, 97, 97, 97, 97, 97, 97, 97, 97, 97, 97]⟩))
  have hR2 := ((HR.out).other (a := ⟨L, 48, none⟩) NR.out (.string ⟨#[97, 97, 97, 97, 97, 97, 97, 97, 97, 97, 97, 97, 97, 97, 97, 97, 97, 97, 97, 97, 97]⟩))
  have hG2 := ((HG.out).other (a := ⟨L, 48, none⟩) NG.out (.string ⟨#[97, 97, 97, 97, 97, 97, 97, 97, 97, 97, 97, 97, 97, 97, 97, 97, 97, 97, 97, 97, 97]⟩))
  generalize (w9.setCell ⟨L, 48, none⟩ (.string ⟨#[97, 97, 97, 97, 97, 97, 97, 97, 97, 97, 97, 97, 97, 97, 97, 97, 97, 97, 97, 97, 97]⟩)) = w10 at hL2 hK2 hA2 hR2 hG2 ⊢
  clear HL HK HA HR HG
  have HL := Lib.hid hL2; have HK := Lib.hid hK2; have HA := Lib.hid hA2; have HR := Lib.hid hR2; have HG := Lib.hid hG2
  clear hL2 hK2 hA2 hR2 hG2
  have f0 := HL.out.free 53
  have q0 : w10.cell? ⟨L, 53, none⟩ = some (.slice (some ⟨R, 0, none⟩) 2 2) := HL.out.cell 53
  have f0 := (HL.out.alloc (.cells #[.string ⟨#[107]⟩, .bool false, .string ⟨#[53]⟩, .string ⟨#[107]⟩, .bool true, .string ⟨#[]⟩] 100)).free 53
  have q0 : (w10.alloc (.cells #[.string ⟨#[107]⟩, .bool false, .string ⟨#[53]⟩, .string ⟨#[107]⟩, .bool true, .string ⟨#[]⟩] 100)).cell? ⟨L, 53, none⟩ = some (.slice (some ⟨R, 0, none⟩) 2 2) := (HL.out.alloc (.cells #[.string ⟨#[107]⟩, .bool false, .string ⟨#[53]⟩, .string ⟨#[107]⟩, .bool true, .string ⟨#[]⟩] 100)).cell 53
  go_upto_region 12 with fail
  clear f0 q0
  have hN := Blk.new w10 [.string ⟨#[107]⟩, .bool false, .string ⟨#[53]⟩, .string ⟨#[107]⟩, .bool true, .string ⟨#[]⟩] 100
  have hNl : w10.heap.size ≠ L := by have := HL.out.lt; omega
  have hL := HL.out.alloc (.cells #[.string ⟨#[107]⟩, .bool false, .string ⟨#[53]⟩, .string ⟨#[107]⟩, .bool true, .string ⟨#[]⟩] 100); have hK := HK.out.alloc (.cells #[.string ⟨#[107]⟩, .bool false, .string ⟨#[53]⟩, .string ⟨#[107]⟩, .bool true, .string ⟨#[]⟩] 100)
  have hA := HA.out.alloc (.cells #[.string ⟨#[107]⟩, .bool false, .string ⟨#[53]⟩, .string ⟨#[107]⟩, .bool true, .string ⟨#[]⟩] 100)
  have hR := HR.out.alloc (.cells #[.string ⟨#[107]⟩, .bool false, .string ⟨#[53]⟩, .string ⟨#[107]⟩, .bool true, .string ⟨#[]⟩] 100)
  have hG := HG.out.alloc (.cells #[.string ⟨#[107]⟩, .bool false, .string ⟨#[53]⟩, .string ⟨#[107]⟩, .bool true, .string ⟨#[]⟩] 100)
  have hL2 := ((hL).set 53 (.slice (some ⟨w10.heap.size, 0, none⟩) 2 2)); have hK2 := ((hK).setCell (p := ⟨L, 53, none⟩) (fun _ => rfl) (.slice (some ⟨w10.heap.size, 0, none⟩) 2 2))
  have hA2 := ((hA).other (a := ⟨L, 53, none⟩) NA.out (.slice (some ⟨w10.heap.size, 0, none⟩) 2 2))
  have hR2 := ((hR).other (a := ⟨L, 53, none⟩) NR.out (.slice (some ⟨w10.heap.size, 0, none⟩) 2 2))
  have hG2 := ((hG).other (a := ⟨L, 53, none⟩) NG.out (.slice (some ⟨w10.heap.size, 0, none⟩) 2 2))
  have hN2 := ((hN).other (a := ⟨L, 53, none⟩) hNl (.slice (some ⟨w10.heap.size, 0, none⟩) 2 2))
  generalize ((w10.alloc (.cells #[.string ⟨#[107]⟩, .bool false, .string ⟨#[53]⟩, .string ⟨#[107]⟩, .bool true, .string ⟨#[]⟩] 100)).setCell ⟨L, 53, none⟩ (.slice (some ⟨w10.heap.size, 0, none⟩) 2 2)) = w11 at hL2 hK2 hA2 hR2 hG2 hN2 ⊢
  generalize w10.heap.size = R7 at hNl hN2 hL2 ⊢
  have NR7 := Lib.hid hNl; have HR7 := Lib.hid hN2
  clear hN hNl hL hK hA hR hG hN2
  clear HL HK HA HR HG
  have HL := Lib.hid hL2; have HK := Lib.hid hK2; have HA := Lib.hid hA2; have HR := Lib.hid hR2; have HG := Lib.hid hG2
  clear hL2 hK2 hA2 hR2 hG2
  have f0 := HL.out.free 59
  have q0 : w11.cell? ⟨L, 59, none⟩ = some (.slice (some ⟨A, 0, none⟩) 3 3) := HL.out.cell 59
  have f0 := (HL.out.alloc (.cells #[.int .u8 1, .string ⟨#[107]⟩, .string ⟨#[]⟩, .int .i64 0, .int .u8 1, .string ⟨#[107]⟩, .string ⟨#[]⟩, .int .i64 0] 98)).free 59
  have q0 : (w11.alloc (.cells #[.int .u8 1, .string ⟨#[107]⟩, .string ⟨#[]⟩, .int .i64 0, .int .u8 1, .string ⟨#[107]⟩, .string ⟨#[]⟩, .int .i64 0] 98)).cell? ⟨L, 59, none⟩ = some (.slice (some ⟨A, 0, none⟩) 3 3) := (HL.out.alloc (.cells #[.int .u8 1, .string ⟨#[107]⟩, .string ⟨#[]⟩, .int .i64 0, .int .u8 1, .string ⟨#[107]⟩, .string ⟨#[]⟩, .int .i64 0] 98)).cell 59
  go_upto_region 13 with fail
  clear f0 q0
  have hN := Blk.new w11 [.int .u8 1, .string ⟨#[107]⟩, .string ⟨#[]⟩, .int .i64 0, .int .u8 1, .string ⟨#[107]⟩, .string ⟨#[]⟩, .int .i64 0] 98
  have hNl : w11.heap.size ≠ L := by have := HL.out.lt; omega
  have hL := HL.out.alloc (.cells #[.int .u8 1, .string ⟨#[107]⟩, .string ⟨#[]⟩, .int .i64 0, .int .u8 1, .string ⟨#[107]⟩, .string ⟨#[]⟩, .int .i64 0] 98); have hK := HK.out.alloc (.cells #[.int .u8 1, .string ⟨#[107]⟩, .string ⟨#[]⟩, .int .i64 0, .int .u8 1, .string ⟨#[107]⟩, .string ⟨#[]⟩, .int .i64 0] 98)
  have hA := HA.out.alloc (.cells #[.int .u8 1, .string ⟨#[107]⟩, .string ⟨#[]⟩, .int .i64 0, .int .u8 1, .string ⟨#[107]⟩, .string ⟨#[]⟩, .int .i64 0] 98)
  have hR := HR.out.alloc (.cells #[.int .u8 1, .string ⟨#[107]⟩, .string ⟨#[]⟩, .int .i64 0, .int .u8 1, .string ⟨#[107]⟩, .string ⟨#[]⟩, .int .i64 0] 98)
  have hG := HG.out.alloc (.cells #[.int .u8 1, .string ⟨#[107]⟩, .string ⟨#[]⟩, .int .i64 0, .int .u8 1, .string ⟨#[107]⟩, .string ⟨#[]⟩, .int .i64 0] 98)
  have hR7 := HR7.out.alloc (.cells #[.int .u8 1, .string ⟨#[107]⟩, .string ⟨#[]⟩, .int .i64 0, .int .u8 1, .string ⟨#[107]⟩, .string ⟨#[]⟩, .int .i64 0] 98)
  have hL2 := ((hL).set 59 (.slice (some ⟨w11.heap.size, 0, none⟩) 2 2)); have hK2 := ((hK).setCell (p := ⟨L, 59, none⟩) (fun _ => rfl) (.slice (some ⟨w11.heap.size, 0, none⟩) 2 2))
  have hA2 := ((hA).other (a := ⟨L, 59, none⟩) NA.out (.slice (some ⟨w11.heap.size, 0, none⟩) 2 2))
  have hR2 := ((hR).other (a := ⟨L, 59, none⟩) NR.out (.slice (some ⟨w11.heap.size, 0, none⟩) 2 2))
  have hG2 := ((hG).other (a := ⟨L, 59, none⟩) NG.out (.slice (some ⟨w11.heap.size, 0, none⟩) 2 2))
  have hR72 := ((hR7).other (a := ⟨L, 59, none⟩) NR7.out (.slice (some ⟨w11.heap.size, 0, none⟩) 2 2))
  have hN2 := ((hN).other (a := ⟨L, 59, none⟩) hNl (.slice (some ⟨w11.heap.size, 0, none⟩) 2 2))
  generalize ((w11.alloc (.cells #[.int .u8 1, .string ⟨#[107]⟩, .string ⟨#[]⟩, .int .i64 0, .int .u8 1, .string ⟨#[107]⟩, .string ⟨#[]⟩, .int .i64 0] 98)).setCell ⟨L, 59, none⟩ (.slice (some ⟨w11.heap.size, 0, none⟩) 2 2)) = w12 at hL2 hK2 hA2 hR2 hG2 hR72 hN2 ⊢
  generalize w11.heap.size = A8 at hNl hN2 hL2 ⊢
  have NA8 := Lib.hid hNl; have HA8 := Lib.hid hN2
  clear hN hNl hL hK hA hR hG hR7 hN2
  clear HL HK HA HR HG HR7
  have HL := Lib.hid hL2; have HK := Lib.hid hK2; have HA := Lib.hid hA2; have HR := Lib.hid hR2; have HG := Lib.hid hG2; have HR7 := Lib.hid hR72
  clear hL2 hK2 hA2 hR2 hG2 hR72
  have f0 := HL.out.free 67
  have q0 : w12.cell? ⟨L, 67, none⟩ = some (.slice (some ⟨R, 0, none⟩) 2 2) := HL.out.cell 67
  have f0 := (HL.out.alloc (.cells #[.string ⟨#[109]⟩, .bool true, .string ⟨#[]⟩, .string ⟨#[107]⟩, .bool true, .string ⟨#[]⟩] 100)).free 67
  have q0 : (w12.alloc (.cells #[.string ⟨#[109]⟩, .bool true, .string ⟨#[]⟩, .string ⟨#[107]⟩, .bool true, .string ⟨#[]⟩] 100)).cell? ⟨L, 67, none⟩ = some (.slice (some ⟨R, 0, none⟩) 2 2) := (HL.out.alloc (.cells #[.string ⟨#[109]⟩, .bool true, .string ⟨#[]⟩, .string ⟨#[107]⟩, .bool true, .string ⟨#[]⟩] 100)).cell 67
  go_upto_region 14 with fail
  clear f0 q0
  have hN := Blk.new w12 [.string ⟨#[109]⟩, .bool true, .string ⟨#[]⟩, .string ⟨#[107]⟩, .bool true, .string ⟨#[]⟩] 100
  have hNl : w12.heap.size ≠ L := by have := HL.out.lt; omega
  have hL := HL.out.alloc (.cells #[.string ⟨#[109]⟩, .bool true, .string ⟨#[]⟩, .string ⟨#[107]⟩, .bool true, .string ⟨#[]⟩] 100); have hK := HK.out.alloc (.cells #[.string ⟨#[109]⟩, .bool true, .string ⟨#[]⟩, .string ⟨#[107]⟩, .bool true, .string ⟨#[]⟩] 100)
  have hA := HA.out.alloc (.cells #[.string ⟨#[109]⟩, .bool true, .string ⟨#[]⟩, .string ⟨#[107]⟩, .bool true, .string ⟨#[]⟩] 100)
  have hR := HR.out.alloc (.cells #[.string ⟨#[109]⟩, .bool true, .string ⟨#[]⟩, .string ⟨#[107]⟩, .bool true, .string ⟨#[]⟩] 100)
  have hG := HG.out.alloc (.cells #[.string ⟨#[109]⟩, .bool true, .string ⟨#[]⟩, .string ⟨#[107]⟩, .bool true, .string ⟨#[]⟩] 100)
  have hR7 := HR7.out.alloc (.cells #[.string ⟨#[109]⟩, .bool true, .string ⟨#[]⟩, .string ⟨#[107]⟩, .bool true, .string ⟨#[]⟩] 100)
  have hA8 := HA8.out.alloc (.cells #[.string ⟨#[109]⟩, .bool true, .string ⟨#[]⟩, .string ⟨#[107]⟩, .bool true, .string ⟨#[]⟩] 100)
  have hL2 := ((hL).set 67 (.slice (some ⟨w12.heap.size, 0, none⟩) 2 2)); have hK2 := ((hK).setCell (p := ⟨L, 67, none⟩) (fun _ => rfl) (.slice (some ⟨w12.heap.size, 0, none⟩) 2 2))
  have hA2 := ((hA).other (a := ⟨L, 67, none⟩) NA.out (.slice (some ⟨w12.heap.size, 0, none⟩) 2 2))
  have hR2 := ((hR).other (a := ⟨L, 67, none⟩) NR.out (.slice (some ⟨w12.heap.size, 0, none⟩) 2 2))
  have hG2 := ((hG).other (a := ⟨L, 67, none⟩) NG.out (.slice (some ⟨w12.heap.size, 0, none⟩) 2 2))
  have hR72 := ((hR7).other (a := ⟨L, 67, none⟩) NR7.out (.slice (some ⟨w12.heap.size, 0, none⟩) 2 2))
  have hA82 := ((hA8).other (a := ⟨L, 67, none⟩) NA8.out (.slice (some ⟨w12.heap.size, 0, none⟩) 2 2))
  have hN2 := ((hN).other (a := ⟨L, 67, none⟩) hNl (.slice (some ⟨w12.heap.size, 0, none⟩) 2 2))
  generalize ((w12.alloc (.cells #[.string ⟨#[109]⟩, .bool true, .string ⟨#[]⟩, .string ⟨#[107]⟩, .bool true, .string ⟨#[]⟩] 100)).setCell ⟨L, 67, none⟩ (.slice (some ⟨w12.heap.size, 0, none⟩) 2 2)) = w13 at hL2 hK2 hA2 hR2 hG2 hR72 hA82 hN2 ⊢
  generalize w12.heap.size = R9 at hNl hN2 hL2 ⊢
  have NR9 := Lib.hid hNl; have HR9 := Lib.hid hN2
  clear hN hNl hL hK hA hR hG hR7 hA8 hN2
  clear HL HK HA HR HG HR7 HA8
  have HL := Lib.hid hL2; have HK := Lib.hid hK2; have HA := Lib.hid hA2; have HR := Lib.hid hR2; have HG := Lib.hid hG2; have HR7 := Lib.hid hR72; have HA8 := Lib.hid hA82
  clear hL2 hK2 hA2 hR2 hG2 hR72 hA82
  go_wp2_with fail
  have HRW : Hid (Rows 7 encHV w13.heap.size w13 (some ⟨L, 0, none⟩) (vs10 A R R7 A8 R9)) := Lib.hid (rows_fresh (enc := encHV) (sz := 7) (fun _ => rfl) (vs10 A R R7 A8 R9) (HL.out.conv (by kernel_rfl)) (fun _ => False) (fun e => e)).rows
  have HAW : Hid (HoldsAre w13 (fun _ => False) (vs10 A R R7 A8 R9) ds10) := Lib.hid (are10 (HA.out.conv (by kernel_rfl)) (HR.out.conv (by kernel_rfl)) (HR7.out.conv (by kernel_rfl)) (HA8.out.conv (by kernel_rfl)) (HR9.out.conv (by kernel_rfl)))
  have XW : Hid (Ext w w13) := Lib.hid (Ext.trans XA.out (HK.out.ext (fun i hi e => by have := HLE.out; omega)))
  have GW : Hid (∀ W, Ext w13 W → W.cell? ⟨G, 1, none⟩ = some (.int .i64 2) ∧ W.cell? ⟨G, 2, none⟩ = some (.int .i64 3)) := Lib.hid fun W hW => ⟨(HG.out.ext' hW).cell 1, (HG.out.ext' hW).cell 2⟩
  clear HL HA HR HG HR7 HA8 HR9 XA HK HLE NA NR NG NR7 NA8 NR9
  have hlen : (vs10 A R R7 A8 R9).length = 10 := rfl
  have HDN := Lib.hid ds10_nice
  generalize vs10 A R R7 A8 R9 = vs at HRW HAW hlen
  generalize ds10 = ds at HAW HDN
  have HVL := Lib.hid hlen
  clear hlen
  go_loopw [3] (fun vi wr => ∃ i : Nat, i ≤ 10 ∧ vi = .int .i64 i ∧ Ext w13 wr) (fun vi _ => 10 - (intOf vi).toNat)
  case atStart => exact ⟨0, by omega, rfl, Below.refl _ _⟩
  case round =>
    obtain ⟨i, hi, rfl, hx⟩ := hrel
    have K1 := Lib.hid hx
    clear hx
    by_cases hlt : i < 10
    · obtain ⟨x, hx⟩ : ∃ x, vs[i]? = some x := ⟨_, List.getElem?_eq_getElem (by rw [HVL.out]; exact hlt)⟩
      obtain ⟨d, hdm, hone⟩ := are_one HAW.out hx
      have hn := HDN.out d hdm
      have RX : Hid (∀ W, Ext w13 W → Rows 7 encHV W.heap.size W (some ⟨L, i * 7, none⟩) [x]) := Lib.hid fun W hW => rows_at ((HRW.out.ext hW).mono hW.size) hx
      have AX : Hid (∀ W, Ext w13 W → HoldsAre W (fun _ => False) [x] [d]) := Lib.hid fun W hW => hone.ext hW
      have NX := Lib.hid hn
      have ii0 : (0 : Int) ≤ (i : Int) := by omega
      have ii1 : (i : Int) < 10 := by omega
      clear hx hdm hone hn
      go_wp2_with fail
      refine (refBytes_calls [x] [d] (fun _ => False) (some ⟨L, i * 7, none⟩) (10 - i) wr (by simp) (RX.out _ K1.out) (AX.out _ K1.out) (fun y hy => by rw [List.mem_singleton] at hy; rw [hy]; exact NX.out.wfit)).mono ?_
      rintro e w3 ⟨bo, bc, rfl, hs, hx3, hsl, hsm⟩
      have hsl9 : (writeR [d]).length ≤ 9000000000 := by
        have h1 := flat_len holdR 2100000000 [d] (fun y hy => holdR_len y (by rw [List.mem_singleton] at hy; rw [hy]; exact NX.out.wfit))
        have h2 := numZ_len (([d] : List HoldD).length : Int)
        rw [writeR, List.length_append]
        simp only [List.length_singleton] at h1
        omega
      generalize writeR [d] = s at hs hsl hsm hsl9 ⊢
      generalize (!([d] : List HoldD).any holdBad) = fl
      have K3 := Lib.hid (Ext.trans K1.out hx3)
      have SR : Hid (∀ W, Ext w3 W → Rows 1 encU8 W.heap.size W bo s) := Lib.hid fun W hW => (hs.rows.ext hW).mono hW.size
      have HSL := Lib.hid hsl; have HSM := Lib.hid hsm
      clear hs hx3 hsl hsm
      go_upto_region 18 with fail
      obtain ⟨n1, n2⟩ := GW.out w3 K3.out
      obtain ⟨key, cl, nm, xo, xn, xc, yo, yn, yc, put, value⟩ := x
      have CX : Hid (∀ W, Ext w13 W → ∀ (j : Nat) (v : Value), (encHV ⟨key, cl, nm, xo, xn, xc, yo, yn, yc, put, value⟩)[j]? = some v → W.cell? ⟨L, i * 7 + j, none⟩ = some v) := Lib.hid fun W hW j v hj => by
        obtain ⟨b, off, e, hb, hc⟩ := RX.out W hW (by simp)
        simp only [Option.some.injEq, Addr.mk.injEq, and_true] at e
        obtain ⟨rfl, rfl⟩ := e
        have := hc 0 _ rfl j v hj
        simpa using this
      have x0 := CX.out w3 K3.out 0 _ rfl; have x1 := CX.out w3 K3.out 1 _ rfl; have x2 := CX.out w3 K3.out 2 _ rfl; have x3 := CX.out w3 K3.out 3 _ rfl; have x4 := CX.out w3 K3.out 4 _ rfl; have x5 := CX.out w3 K3.out 5 _ rfl; have x6 := CX.out w3 K3.out 6 _ rfl
      simp only [Nat.add_zero] at x0
      have e1 := ExtBy.cell n1; have e2 := ExtBy.cell n2
      have d0 := ExtBy.cell x0; have d1 := ExtBy.cell x1; have d2 := ExtBy.cell x2; have d3 := ExtBy.cell x3; have d4 := ExtBy.cell x4; have d5 := ExtBy.cell x5; have d6 := ExtBy.cell x6
      have XX : Hid (Ext w3 w3.drew) := Lib.hid (Below.refl _ w3).drew
      clear n1 n2 x0 x1 x2 x3 x4 x5 x6
      refine wp_region_firstC (fun W => ∃ p : ExtBy w3, W = p.W) [0, 1, 2, 3, 4, 5] 27 (by kernel_rfl) (by kernel_rfl) (fun _ _ _ _ h => h) ⟨⟨w3.drew, XX.out⟩, rfl⟩ ?_
      simp only [opsAt, List.getElem?_toArray, List.getElem?_cons_succ, List.getElem?_cons_zero]
      repeat (go_big_quiet_step (fail))
      refine wpQuiet_nil ?_
      refine wpAnyH_ready (rs := [6]) (by kernel_rfl) (by simp) ?_
      refine AllReadyH.cons rfl (fun K hK => ?_) AllReadyH.nil
      go_simp
      refine (hb_calls [⟨key, cl, nm, xo, xn, xc, yo, yn, yc, put, value⟩] [d] (some ⟨L, i * 7, none⟩) (10 - i) s bo bc _ (by simp) (RX.out _ (Ext.trans K3.out XX.out)) (AX.out _ (Ext.trans K3.out XX.out)) (fun y hy => by rw [List.mem_singleton] at hy; rw [hy]; exact NX.out) HSL.out HSM.out (SR.out _ XX.out)).mono ?_
      rintro e w4 ⟨rfl, hx4⟩
      have XX := Lib.hid (Ext.trans XX.out hx4)
      clear hx4
      refine hK.out _ _ ⟨⟨_, XX.out⟩, rfl⟩ (fun _ => ?_)
      clear hK K
      refine wp_takesC (f := 12) [7, 8, 9, 10, 11, 12, 13, 14, 16, 17, 18, 19, 28, 29] (by kernel_rfl) (fun _ _ _ _ h => h) ⟨⟨_, XX.out⟩, rfl⟩ ?_
      simp only [opsAt, List.getElem?_toArray, List.getElem?_cons_succ, List.getElem?_cons_zero]
      repeat (go_big_quiet_step (fail))
      refine wpQuiet_nil ?_
      clear e1 e2 d0 d1 d2 d3 d4 d5 d6
      have N2 : Hid (∀ y ∈ [plainD aB 1, d], NiceD y) := Lib.hid (fun y hy => by
        rcases List.mem_cons.1 hy with rfl | hy
        · exact plain_nice aB 1 (by decide)
        · rw [List.mem_singleton] at hy; rw [hy]; exact NX.out)
      have N3 : Hid (∀ y ∈ [plainD aB 1, plainD aB 2], NiceD y) := Lib.hid (fun y hy => by
        rcases List.mem_cons.1 hy with rfl | hy
        · exact plain_nice aB 1 (by decide)
        · rw [List.mem_singleton] at hy; rw [hy]; exact plain_nice aB 2 (by decide))
      have KS : Hid (∀ k ∈ [kB, aB], k.size ≤ 1000) := Lib.hid (by decide)
      refine wp_relA [⟨15, 105⟩, ⟨20, 110⟩, ⟨21, 111⟩, ⟨22, 112⟩, ⟨23, 113⟩, ⟨24, 114⟩, ⟨25, 115⟩, ⟨26, 116⟩, ⟨27, 117⟩, ⟨30, 120⟩, ⟨31, 121⟩, ⟨32, 122⟩] Ext
        (fun k v W => match k with | 0 => PlainAt aB 1 v W | 1 => HoldsAt 2 [plainD aB 1, d] v W | 2 => DeedAt v W | 3 => PlainAt aB 1 v W | 4 => PlainAt aB 2 v W | 5 => HoldsAt 2 [plainD aB 1, plainD aB 2] v W | 6 => DeedAt v W | 7 => DeedsAt 3 v W | 8 => TextsAt 2 [kB, aB] v W | 9 => v = .bool true | 10 => v = .bool false | _ => v = .bool false)
        (by kernel_rfl) (by simp) (fun W hW => ⟨⟨W, Ext.trans XX.out hW⟩, rfl⟩) (Below.refl _ _) (fun W W' h h' => Ext.trans h h') ?_ ?_ ?_
      · intro k v W W' h hx
        match k with
        | 0 => exact PlainAt.ext h hx
        | 1 => exact HoldsAt.ext h hx
        | 2 => exact DeedAt.ext h hx
        | 3 => exact PlainAt.ext h hx
        | 4 => exact PlainAt.ext h hx
        | 5 => exact HoldsAt.ext h hx
        | 6 => exact DeedAt.ext h hx
        | 7 => exact DeedsAt.ext h hx
        | 8 => exact TextsAt.ext h hx
        | 9 => exact h
        | 10 => exact h
        | n + 11 => exact h
      · intro j y hx0
        rcases j with _ | _ | _ | _ | _ | _ | _ | _ | _ | _ | _ | _ | j
        · have hy0 : (⟨15, 105⟩ : RItem) = y := Option.some.inj (show some (⟨15, 105⟩ : RItem) = some y from hx0)
          subst hy0
          clear hx0
          intro a W hW hg hdep K hK
          have g98 : a.tmps.getD 98 undef = .bool false := (hg.out 98 (by kernel_rfl)).trans (by kernel_rfl)
          have q98 := slot_bool g98
          clear hdep hg
          go_simp
          refine (plain_calls aB 1 W).mono ?_
          rintro e w5 ⟨z, rfl, hz, hx⟩
          exact hK.out _ _ hx ⟨z, rfl, hz.mono (fun _ _ e => e.elim)⟩
        · have hy0 : (⟨20, 110⟩ : RItem) = y := Option.some.inj (show some (⟨20, 110⟩ : RItem) = some y from hx0)
          subst hy0
          clear hx0
          intro a W hW hg hdep K hK
          have g98 : a.tmps.getD 98 undef = .bool false := (hg.out 98 (by kernel_rfl)).trans (by kernel_rfl)
          have g109 : a.tmps.getD 109 undef = .agg #[.string key, .int .i64 cl, .int .i64 nm, .slice xo xn xc, .slice yo yn yc, .bool put, .string value] := (hg.out 109 (by kernel_rfl)).trans (by kernel_rfl)
          have h0 : PlainAt aB 1 (a.tmps.getD 105 undef) W := hdep 0 _ rfl (by kernel_rfl)
          obtain ⟨⟨keyp, clp, nmp, xop, xnp, xcp, yop, ynp, ycp, putp, valuep⟩, hv0, hz⟩ := h0
          have q98 := slot_bool g98
          clear hdep hg
          simp only [encHV] at hv0
          have r109 := slot_get g109; have s0 := slot_get hv0
          go_simp
          exact hK.out _ _ (ext_alloc _ _) (holds_made [⟨keyp, clp, nmp, xop, xnp, xcp, yop, ynp, ycp, putp, valuep⟩, ⟨key, cl, nm, xo, xn, xc, yo, yn, yc, put, value⟩] [plainD aB 1, d] W _ ⟨hz, (AX.out W (Ext.trans K3.out (Ext.trans XX.out hW))).1, trivial⟩)
        · have hy0 : (⟨21, 111⟩ : RItem) = y := Option.some.inj (show some (⟨21, 111⟩ : RItem) = some y from hx0)
          subst hy0
          clear hx0
          intro a W hW hg hdep K hK
          have g98 : a.tmps.getD 98 undef = .bool false := (hg.out 98 (by kernel_rfl)).trans (by kernel_rfl)
          have h1 : HoldsAt 2 [plainD aB 1, d] (a.tmps.getD 110 undef) W := hdep 1 _ rfl (by kernel_rfl)
          obtain ⟨b, hs, hlen, hv1, hr, ha⟩ := h1
          have q98 := slot_bool g98
          clear hdep hg
          have h1 := deed_holds (hc := 2) hr ha N2.out (by omega)
          rw [hlen] at h1
          have s1 := slot_get hv1
          go_simp
          exact hK.out _ _ (Below.refl _ _) ⟨⟨0, some ⟨b, 0, none⟩, 2, 2, none, 0, 0, ⟨#[]⟩, ⟨#[]⟩⟩, _, rfl, h1⟩
        · have hy0 : (⟨22, 112⟩ : RItem) = y := Option.some.inj (show some (⟨22, 112⟩ : RItem) = some y from hx0)
          subst hy0
          clear hx0
          intro a W hW hg hdep K hK
          have g98 : a.tmps.getD 98 undef = .bool false := (hg.out 98 (by kernel_rfl)).trans (by kernel_rfl)
          have q98 := slot_bool g98
          clear hdep hg
          go_simp
          refine (plain_calls aB 1 W).mono ?_
          rintro e w5 ⟨z, rfl, hz, hx⟩
          exact hK.out _ _ hx ⟨z, rfl, hz.mono (fun _ _ e => e.elim)⟩
        · have hy0 : (⟨23, 113⟩ : RItem) = y := Option.some.inj (show some (⟨23, 113⟩ : RItem) = some y from hx0)
          subst hy0
          clear hx0
          intro a W hW hg hdep K hK
          have g98 : a.tmps.getD 98 undef = .bool false := (hg.out 98 (by kernel_rfl)).trans (by kernel_rfl)
          have q98 := slot_bool g98
          clear hdep hg
          go_simp
          refine (plain_calls aB 2 W).mono ?_
          rintro e w5 ⟨z, rfl, hz, hx⟩
          exact hK.out _ _ hx ⟨z, rfl, hz.mono (fun _ _ e => e.elim)⟩
        · have hy0 : (⟨24, 114⟩ : RItem) = y := Option.some.inj (show some (⟨24, 114⟩ : RItem) = some y from hx0)
          subst hy0
          clear hx0
          intro a W hW hg hdep K hK
          have g98 : a.tmps.getD 98 undef = .bool false := (hg.out 98 (by kernel_rfl)).trans (by kernel_rfl)
          have h3 : PlainAt aB 1 (a.tmps.getD 112 undef) W := hdep 3 _ rfl (by kernel_rfl)
          obtain ⟨⟨keyp, clp, nmp, xop, xnp, xcp, yop, ynp, ycp, putp, valuep⟩, hv3, hz⟩ := h3
          have h4 : PlainAt aB 2 (a.tmps.getD 113 undef) W := hdep 4 _ rfl (by kernel_rfl)
          obtain ⟨⟨keyq, clq, nmq, xoq, xnq, xcq, yoq, ynq, ycq, putq, valueq⟩, hv4, hy⟩ := h4
          have q98 := slot_bool g98
          clear hdep hg
          simp only [encHV] at hv3 hv4
          have s3 := slot_get hv3; have s4 := slot_get hv4
          go_simp
          exact hK.out _ _ (ext_alloc _ _) (holds_made [⟨keyp, clp, nmp, xop, xnp, xcp, yop, ynp, ycp, putp, valuep⟩, ⟨keyq, clq, nmq, xoq, xnq, xcq, yoq, ynq, ycq, putq, valueq⟩] [plainD aB 1, plainD aB 2] W _ ⟨hz, hy, trivial⟩)
        · have hy0 : (⟨25, 115⟩ : RItem) = y := Option.some.inj (show some (⟨25, 115⟩ : RItem) = some y from hx0)
          subst hy0
          clear hx0
          intro a W hW hg hdep K hK
          have g98 : a.tmps.getD 98 undef = .bool false := (hg.out 98 (by kernel_rfl)).trans (by kernel_rfl)
          have h5 : HoldsAt 2 [plainD aB 1, plainD aB 2] (a.tmps.getD 114 undef) W := hdep 5 _ rfl (by kernel_rfl)
          obtain ⟨b, hs, hlen, hv5, hr, ha⟩ := h5
          have q98 := slot_bool g98
          clear hdep hg
          have h1 := deed_holds (hc := 2) hr ha N3.out (by omega)
          rw [hlen] at h1
          have s5 := slot_get hv5
          go_simp
          exact hK.out _ _ (Below.refl _ _) ⟨⟨0, some ⟨b, 0, none⟩, 2, 2, none, 0, 0, ⟨#[]⟩, ⟨#[]⟩⟩, _, rfl, h1⟩
        · have hy0 : (⟨26, 116⟩ : RItem) = y := Option.some.inj (show some (⟨26, 116⟩ : RItem) = some y from hx0)
          subst hy0
          clear hx0
          intro a W hW hg hdep K hK
          have g98 : a.tmps.getD 98 undef = .bool false := (hg.out 98 (by kernel_rfl)).trans (by kernel_rfl)
          have g104 : a.tmps.getD 104 undef = .agg #[.int .i64 0, .slice (some ⟨L, i * 7, none⟩) 1 (10 - i), .slice none 0 0, .string ⟨#[]⟩, .string ⟨#[]⟩] := (hg.out 104 (by kernel_rfl)).trans (by kernel_rfl)
          have h2 : DeedAt (a.tmps.getD 111 undef) W := hdep 2 _ rfl (by kernel_rfl)
          obtain ⟨⟨kd, ho, hn, hc, ko, kn, kc, lo, hi⟩, dd, hv2, hz⟩ := h2
          have h6 : DeedAt (a.tmps.getD 115 undef) W := hdep 6 _ rfl (by kernel_rfl)
          obtain ⟨⟨kd2, ho2, hn2, hc2, ko2, kn2, kc2, lo2, hi2⟩, dd2, hv6, hy⟩ := h6
          have q98 := slot_bool g98
          clear hdep hg
          have hw := Ext.trans K3.out (Ext.trans XX.out hW)
          have h1 := deed_holds (hc := 10 - i) (RX.out W hw) (AX.out W hw) (fun y hy => by rw [List.mem_singleton] at hy; rw [hy]; exact NX.out) (by simp)
          simp only [encDV] at hv2 hv6
          have r104 := slot_get g104; have s2 := slot_get hv2; have s6 := slot_get hv6
          go_simp
          exact hK.out _ _ (ext_alloc _ _) (deeds_made [_, ⟨kd, ho, hn, hc, ko, kn, kc, lo, hi⟩, ⟨kd2, ho2, hn2, hc2, ko2, kn2, kc2, lo2, hi2⟩] _ W _ (DeedsAre.cons h1 (DeedsAre.cons hz (DeedsAre.cons hy DeedsAre.nil))))
        · have hy0 : (⟨27, 117⟩ : RItem) = y := Option.some.inj (show some (⟨27, 117⟩ : RItem) = some y from hx0)
          subst hy0
          clear hx0
          intro a W hW hg hdep K hK
          have g98 : a.tmps.getD 98 undef = .bool false := (hg.out 98 (by kernel_rfl)).trans (by kernel_rfl)
          have q98 := slot_bool g98
          clear hdep hg
          go_simp
          exact hK.out _ _ (ext_alloc _ _) (texts_made [kB, aB] W _)
        · have hy0 : (⟨30, 120⟩ : RItem) = y := Option.some.inj (show some (⟨30, 120⟩ : RItem) = some y from hx0)
          subst hy0
          clear hx0
          intro a W hW hg hdep K hK
          have g98 : a.tmps.getD 98 undef = .bool false := (hg.out 98 (by kernel_rfl)).trans (by kernel_rfl)
          have g119 : a.tmps.getD 119 undef = .agg #[.int .i64 2, .int .i64 3] := (hg.out 119 (by kernel_rfl)).trans (by kernel_rfl)
          have h7 : DeedsAt 3 (a.tmps.getD 116 undef) W := hdep 7 _ rfl (by kernel_rfl)
          obtain ⟨b, vs, ds, hlen, hv7, hr, ha⟩ := h7
          have h8 : TextsAt 2 [kB, aB] (a.tmps.getD 117 undef) W := hdep 8 _ rfl (by kernel_rfl)
          obtain ⟨b2, _, hv8, hr2⟩ := h8
          have q98 := slot_bool g98
          clear hdep hg
          have hc := hr_calls vs ds (some ⟨b, 0, none⟩) 3 1 [kB, aB] (some ⟨b2, 0, none⟩) 2 2 3 W (by omega) hr ha (by simp) hr2 KS.out
          rw [hlen] at hc
          go_simp
          refine hc.mono ?_
          rintro e w5 ⟨rfl, hx⟩
          exact hK.out _ _ hx rfl
        · have hy0 : (⟨31, 121⟩ : RItem) = y := Option.some.inj (show some (⟨31, 121⟩ : RItem) = some y from hx0)
          subst hy0
          clear hx0
          intro a W hW hg hdep K hK
          have g98 : a.tmps.getD 98 undef = .bool false := (hg.out 98 (by kernel_rfl)).trans (by kernel_rfl)
          have hv9 : a.tmps.getD 120 undef = .bool true := hdep 9 _ rfl (by kernel_rfl)
          have q98 := slot_bool g98
          clear hdep hg
          go_simp
          exact hK.out _ _ (Below.refl _ _) rfl
        · have hy0 : (⟨32, 122⟩ : RItem) = y := Option.some.inj (show some (⟨32, 122⟩ : RItem) = some y from hx0)
          subst hy0
          clear hx0
          intro a W hW hg hdep K hK
          have g98 : a.tmps.getD 98 undef = .bool false := (hg.out 98 (by kernel_rfl)).trans (by kernel_rfl)
          have hv10 : a.tmps.getD 121 undef = .bool false := hdep 10 _ rfl (by kernel_rfl)
          have q98 := slot_bool g98
          clear hdep hg
          go_simp
          exact hK.out _ _ (Below.refl _ _) rfl
        · simp at hx0
      · intro us W hT hR
        have h11 : us 11 = .bool false := hR 11 _ rfl
        have XX := Lib.hid (Ext.trans XX.out hT)
        clear hT hR
        simp only [putsR]
        generalize us 0 = u0'; generalize us 1 = u1'; generalize us 2 = u2'; generalize us 3 = u3'; generalize us 4 = u4'; generalize us 5 = u5'; generalize us 6 = u6'; generalize us 7 = u7'; generalize us 8 = u8'; generalize us 9 = u9'; generalize us 10 = u10'
        rw [h11]
        clear h11
        simp only [Act.put, List.setIfInBounds_toArray, List.set_cons_succ, List.set_cons_zero]
        go_wp2_with fail
        obtain ⟨wq, rfl⟩ : ∃ wq : World, wq = wr := ⟨_, rfl⟩
        go_loopw [6] (fun vi wr => ∃ n : Nat, n ≤ s.length ∧ vi = .int .i64 n ∧ Ext w3 wr) (fun vi _ => s.length - (intOf vi).toNat)
        case atStart => exact ⟨0, by omega, rfl, XX.out⟩
        case round =>
          obtain ⟨n, hn, rfl, hx⟩ := hrel
          have J1 := Lib.hid hx
          clear hx XX
          by_cases hnl : n < s.length
          · obtain ⟨y, hy⟩ : ∃ y, s[n]? = some y := ⟨_, List.getElem?_eq_getElem hnl⟩
            obtain ⟨sb, so, rfl, hsb, hsc⟩ := SR.out w3 (Below.refl _ _) (by intro e; rw [e] at hnl; simp at hnl)
            have hb1 := xor1 y
            have E1 : Hid (Ext wr (wr.alloc (.cells #[] 5))) := Lib.hid (ext_alloc _ _)
            have hi' := I0.out
            have hnn0 : (0 : Int) ≤ (n : Int) := by omega
            have hnn1 : (n : Int) < (s.length : Int) := by omega
            have HY := Lib.hid hy
            clear hsb hsc hy
            go_upto_region 24 with (at_builtin; refine wpList_append_rows (enc := encU8) (size := 1) (fun _ => rfl) one_u8 rfl (.tmp 129) (.tmp 130) 46 rfl 5 i0 _ 1 Tryz.underlying46 hi' hz0 hz1 hz2 rfl (by decide) (.slice (some ⟨wr.heap.size, 0, none⟩) 0 0) 0 [] rfl (World.ownsRow_made wr #[] 0 (Nat.zero_le _) (Nat.zero_le _) rfl) (some ⟨sb, so, none⟩) s bc rfl (SR.out _ (Ext.trans J1.out E1.out)) (by unfold maxLen; omega) (by omega) ?_; intro v6 w6 hown hbut hkept; have O6 := Lib.hid hown; have B6 := Lib.hid hbut; have K6 := Lib.hid hkept; clear hown hbut hkept)
            have o6 := O6.out
            rw [Nat.zero_add, List.nil_append] at o6
            obtain ⟨g, c6, cs, rfl, hbk, hc1, hc2, _⟩ := own_ptr o6 (by omega)
            have hgw : wr.heap.size ≤ g := by
              rcases K6.out g rfl with e | e
              · simp only [Value.ownBlock, Option.some.injEq] at e; omega
              · rw [World.size_alloc] at e; omega
            have hcx := (rows_of_own (enc := encU8) (sz := 1) (fun _ => rfl) o6)
            obtain ⟨g', o', e', _, hcell⟩ := hcx (by intro e; rw [e] at hnl; simp at hnl)
            simp only [Option.some.injEq, Addr.mk.injEq, and_true] at e'
            obtain ⟨rfl, rfl⟩ := e'
            have c0 := hcell n y HY.out 0 _ rfl
            simp only [Nat.zero_add, Nat.mul_one, Nat.add_zero] at c0
            have f0 := hbk.free n
            have hx6 : But (fun k => wr.heap.size ≤ k) wr w6 := (E1.out.but (fun _ => False)).trans B6.out (fun _ _ e => e.elim) (fun b hb e => by
              simp only [Value.ownBlock, Option.some.injEq] at e; omega)
            have hx7 := hx6.setCell (p := ⟨g, n, none⟩) (fun _ => hgw) (.int .u8 (((y ^^^ 1).toNat : Nat) : Int))
            have o7 := own_set o6 n (.int .u8 (((y ^^^ 1).toNat : Nat) : Int))
            rw [← set_u8] at o7
            have O7 := Lib.hid o7; have C1 := Lib.hid hc1; have C2 := Lib.hid hc2
            have J7 : Hid (Ext w3 (w6.setCell ⟨g, n, none⟩ (.int .u8 (((y ^^^ 1).toNat : Nat) : Int)))) := Lib.hid (Ext.trans J1.out (hx7.ext (fun i hi e => by omega)))
            clear o6 hbk hc1 hc2 hgw hcx hcell hx6 hx7 o7 O6 B6 K6
            go_upto_region 25 with fail
            clear c0 f0 hb1
            have hlt : (s.take n).length = n := by rw [List.length_take]; omega
            have HB1 := hb_calls [] [] none 0 (s.set n (y ^^^ 1)) (some ⟨g, 0, none⟩) c6 _ (by simp) (Rows.nil _ _ _ _ _) trivial (fun d hd => by simp at hd) (by rw [List.length_set]; exact C1.out) C2.out (rows_of_own (enc := encU8) (sz := 1) (cap := c6) (fun _ => rfl) (by rw [List.length_set]; exact O7.out))
            rw [List.length_set] at HB1
            have HB1 := Lib.hid HB1
            have HB2 : Hid (∀ W, Ext w3 W → Calls Tryz.prog 4 #[.slice none 0 0, .slice (some ⟨sb, so, none⟩) n bc] W fun e w' => e = .returned (.bool true) ∧ Ext W w') := Lib.hid fun W hW => by
              have h := hb_calls [] [] none 0 (s.take n) (some ⟨sb, so, none⟩) bc W (by simp) (Rows.nil _ _ _ _ _) trivial (fun d hd => by simp at hd) (by rw [hlt]; have := HSL.out; omega) HSM.out ((SR.out W hW).take n)
              rw [hlt] at h
              exact h
            have hnb : n ≤ bc := by have := HSL.out; omega
            clear hlt O7 C1 C2
            go_wp2_with fail
            refine HB1.out.mono ?_
            rintro e w8 ⟨rfl, hx8⟩
            have J8 := Lib.hid (Ext.trans J7.out hx8)
            clear HB1 hx8
            go_wp2_with fail
            refine (HB2.out _ J8.out).mono ?_
            rintro e w9 ⟨rfl, hx9⟩
            have J9 := Lib.hid (Ext.trans J8.out hx9)
            clear hx9
            go_wp2_with fail
            go_roundw
            case rel => exact ⟨n + 1, by omega, by go_num, J9.out⟩
            case measure => simp [intOf]; omega
          · obtain rfl : n = s.length := by omega
            go_wp2_with fail
            go_roundw
            case rel => exact ⟨i + 1, by omega, by go_num, Ext.trans K3.out J1.out⟩
            case measure => simp [intOf]; omega
    · have hi10 : decide ((i : Int) < 10) = false := decide_eq_false (by omega)
      go_wp2_with fail
      clear hi10
      obtain ⟨wp, rfl⟩ : ∃ wp : World, wp = wr := ⟨_, rfl⟩
      go_loopw [8, 9] (fun v vi wr => ∃ (i : Nat) (hs : List HoldV) (dl : List HoldD), i ≤ 61 ∧ vi = .int .i64 i ∧ hs.length = i ∧ wr.ownsRow 0 35 7 v hs.length (hs.flatMap encHV) ∧ (∀ j, v.ownBlock = some j → w13.heap.size ≤ j) ∧ HoldsAre wr (fun b => v.ownBlock = some b) hs dl ∧ (∀ d ∈ dl, NiceD d) ∧ Ext w13 wr) (fun _ vi _ => 61 - (intOf vi).toNat)
      case atStart => exact ⟨0, [], [], by omega, rfl, rfl, World.ownsRow_nil _ _ _ _, by simp [Value.ownBlock], trivial, fun d hd => by simp at hd, K1.out⟩
      case round =>
        obtain ⟨i, hs, dl, hi, rfl, hlen, hown, hnew, hare, hnice, hx⟩ := hrel
        have M1 := Lib.hid hown; have M2 := Lib.hid hnew; have M3 := Lib.hid hare; have M4 := Lib.hid hnice; have M5 := Lib.hid hx; have M6 := Lib.hid hlen
        clear hown hnew hare hnice hx hlen K1
        by_cases hlt : i < 61
        · obtain ⟨tx, htx, hcv⟩ := conv2 i hlt wr
          go_wp2_with fail
          refine (plain_calls ({ data := #[107] } ++ tx) (1 + (i : Int) % 8) _).mono ?_
          rintro e w5 ⟨x, rfl, hxi, hx5⟩
          have hks : (({ data := #[107] } : ByteArray) ++ tx).size ≤ 100 := by rw [ByteArray.size_append, htx]; decide
          have hnx := plain_nice _ (1 + (i : Int) % 8) hks
          obtain ⟨dx, hdx⟩ : ∃ dx, dx = plainD ({ data := #[107] } ++ tx) (1 + (i : Int) % 8) := ⟨_, rfl⟩
          rw [← hdx] at hxi hnx
          clear hdx
          have hvl := M1.out.lt
          have hxi := hxi.mono (no' := fun b => u8.ownBlock = some b) (fun b _ e => by
            have h1 := (hvl b e).2
            rw [World.size_alloc]; omega)
          have E5 : Ext wr (w5.alloc (.cells (encHV x).toArray 35)) := Ext.trans (ext_alloc _ _) (Ext.trans hx5 (ext_alloc _ _))
          have RX : Rows 7 encHV (w5.alloc (.cells (encHV x).toArray 35)).heap.size (w5.alloc (.cells (encHV x).toArray 35)) (some ⟨w5.heap.size, 0, none⟩) [x] := by
            have h := Rows.fresh' (enc := encHV) (sz := 7) (fun _ => rfl) [x] w5 35
            simpa using h
          have HXI := Lib.hid (hxi.ext (ext_alloc w5 (.cells (encHV x).toArray 35))); have HNX := Lib.hid hnx
          have hj' := J0.out
          have E5 := Lib.hid E5; have RX := Lib.hid RX
          have hmb : hs.length ≤ 61 := by have := M6.out; omega
          clear hxi hnx hks hx5 hvl htx hcv
          obtain ⟨key, cl, nm, xo, xn, xc, yo, yn, yc, put, value⟩ := x
          simp only [encHV] at E5 HXI RX ⊢
          go_wp2_with (at_builtin; refine wpList_append_rows (enc := encHV) (size := 7) (fun _ => rfl) one_hold rfl (.tmp 154) (.tmp 170) 22 rfl 35 j0 _ 104 Tryz.underlying22 hj' hy0 hy1 hy2 rfl (by decide) u8 hs.length (hs.flatMap encHV) rfl (own_ext M1.out E5.out) (some ⟨w5.heap.size, 0, none⟩) [⟨key, cl, nm, xo, xn, xc, yo, yn, yc, put, value⟩] 1 rfl RX.out (by unfold maxLen; simp only [List.length_singleton]; omega) (by simp only [List.length_singleton]; omega) ?_; intro v6 w6 hown hbut hkept; have O6 := Lib.hid hown; have B6 := Lib.hid hbut; have K6 := Lib.hid hkept; clear hown hbut hkept)
          go_roundw
          case rel =>
            have hos := own_step M2.out M5.out E5.out B6.out K6.out
            refine ⟨i + 1, hs ++ [⟨key, cl, nm, xo, xn, xc, yo, yn, yc, put, value⟩], dl ++ [dx], by omega, by go_num, by rw [List.length_append, M6.out]; rfl, ?_, hos.1, ?_, ?_, hos.2⟩
            · rw [List.length_append, List.flatMap_append]; exact O6.out
            · have h3 := HoldsAre.append (M3.out.ext E5.out) (show HoldsAre _ (fun b => u8.ownBlock = some b) [⟨key, cl, nm, xo, xn, xc, yo, yn, yc, put, value⟩] [dx] from ⟨HXI.out, trivial⟩)
              have h4 := h3.mono (no' := fun b => u8.ownBlock = some b ∨ v6.ownBlock = some b) (fun b hb e => by
                rcases e with e | e
                · exact e
                · rcases K6.out b e with e | e
                  · exact e
                  · exact absurd hb (Nat.not_lt.2 e))
              exact (HoldsAre.but B6.out (fun b _ e => .inl e) h4).mono (fun b _ e => .inr e)
            · intro d hd
              rcases List.mem_append.1 hd with hd | hd
              · exact M4.out d hd
              · rw [List.mem_singleton] at hd; rw [hd]; exact HNX.out
          case measure => simp [intOf]; omega
        · obtain rfl : i = 61 := by omega
          have hl61 := M6.out
          obtain ⟨g, c8, cs, rfl, hbk, hc1, hc2, _⟩ := own_ptr M1.out (by omega)
          have hrw := rows_of_own (enc := encHV) (sz := 7) (fun _ => rfl) M1.out
          have R61 : Hid (∀ W, Ext wr W → Rows 7 encHV W.heap.size W (some ⟨g, 0, none⟩) hs) := Lib.hid fun W hW => (hrw.ext hW).mono hW.size
          have A61 : Hid (∀ W, Ext wr W → HoldsAre W (fun _ => False) hs dl) := Lib.hid fun W hW => (M3.out.mono (fun _ _ e => e.elim)).ext hW
          have hc61 : 61 ≤ c8 := by omega
          rw [hl61]
          have HB61 : Hid (∀ W, Ext wr W → Calls Tryz.prog 4 #[.slice (some ⟨g, 0, none⟩) 61 c8, .slice none 0 0] W fun e w' => e = .returned (.bool true) ∧ Ext W w') := Lib.hid fun W hW => by
            have h := hb_calls hs dl (some ⟨g, 0, none⟩) c8 [] none 0 W (by omega) (R61.out W hW) (A61.out W hW) M4.out (by simp) (by unfold maxLen; omega) (Rows.nil _ _ _ _ _)
            rw [hl61] at h
            exact h
          have h60 : (hs.take 60).length = 60 := by rw [List.length_take]; omega
          have h1 : (hs.drop 60).length = 1 := by rw [List.length_drop]; omega
          have HB60 : Hid (∀ W, Ext wr W → Calls Tryz.prog 4 #[.slice (some ⟨g, 0, none⟩) 60 c8, .slice none 0 0] W fun e w' => e = .returned (.bool true) ∧ Ext W w') := Lib.hid fun W hW => by
            have h := hb_calls (hs.take 60) (dl.take 60) (some ⟨g, 0, none⟩) c8 [] none 0 W (by omega) ((R61.out W hW).take 60) ((A61.out W hW).take 60) (fun d hd => M4.out d (List.mem_of_mem_take hd)) (by simp) (by unfold maxLen; omega) (Rows.nil _ _ _ _ _)
            rw [h60] at h
            exact h
          have D61 : Hid (∀ W, Ext wr W → (⟨0, some ⟨g, 0, none⟩, 61, c8, none, 0, 0, ⟨#[]⟩, ⟨#[]⟩⟩ : DeedV).is W (fun _ => False) ⟨hs, dl, []⟩) := Lib.hid fun W hW => by
            have h := deed_holds (hc := c8) (R61.out W hW) (A61.out W hW) M4.out (by omega)
            rw [hl61] at h
            exact h
          have D60 : Hid (∀ W, Ext wr W → (⟨0, some ⟨g, 0, none⟩, 60, c8, none, 0, 0, ⟨#[]⟩, ⟨#[]⟩⟩ : DeedV).is W (fun _ => False) ⟨hs.take 60, dl.take 60, []⟩) := Lib.hid fun W hW => by
            have h := deed_holds (hc := c8) ((R61.out W hW).take 60) ((A61.out W hW).take 60) (fun d hd => M4.out d (List.mem_of_mem_take hd)) (by omega)
            rw [h60] at h
            exact h
          have D1 : Hid (∀ W, Ext wr W → (⟨0, some ⟨g, 420, none⟩, 1, c8 - 60, none, 0, 0, ⟨#[]⟩, ⟨#[]⟩⟩ : DeedV).is W (fun _ => False) ⟨hs.drop 60, dl.drop 60, []⟩) := Lib.hid fun W hW => by
            have h := deed_holds (hc := c8 - 60) (show Rows 7 encHV W.heap.size W (some ⟨g, 420, none⟩) (hs.drop 60) from (R61.out W hW).drop 60) ((A61.out W hW).drop 60) (fun d hd => M4.out d (List.mem_of_mem_drop hd)) (by omega)
            rw [h1] at h
            exact h
          have KS1 : Hid (∀ k ∈ [ka3B], k.size ≤ 1000) := Lib.hid (by decide)
          have KS2 : Hid (∀ k ∈ [kg0B], k.size ≤ 1000) := Lib.hid (by decide)
          have hci : (61 : Int) ≤ (c8 : Int) := by omega
          clear hbk hc1 hc2 hrw M1 M2 M3 M4 M6 hl61 h60 h1
          go_upto_region 32 with fail
          have XX : Hid (Ext wr wr.drew) := Lib.hid (Below.refl _ wr).drew
          refine wp_region_firstC (fun W => ∃ p : ExtBy wr, W = p.W) [0, 1, 2, 3, 4, 5, 6, 7, 10, 11, 12, 15] 15 (by kernel_rfl) (by kernel_rfl) (fun _ _ _ _ h => h) ⟨⟨wr.drew, XX.out⟩, rfl⟩ ?_
          simp only [opsAt, List.getElem?_toArray, List.getElem?_cons_succ, List.getElem?_cons_zero]
          repeat (go_big_quiet_step (fail))
          refine wpQuiet_nil ?_
          refine wp_relA [⟨8, 180⟩, ⟨9, 181⟩, ⟨13, 185⟩, ⟨14, 186⟩, ⟨16, 188⟩, ⟨17, 189⟩, ⟨18, 190⟩, ⟨19, 191⟩, ⟨20, 192⟩, ⟨21, 193⟩, ⟨22, 194⟩, ⟨23, 195⟩, ⟨24, 196⟩, ⟨25, 197⟩, ⟨26, 0⟩] (fun W W' => Ext W W')
            (fun k v W => match k with | 0 => TextsAt 1 [ka3B] v W | 1 => DeedAt v W | 2 => DeedsAt 5 v W | 3 => TextsAt 1 [kg0B] v W | 6 => v = .slice (some ⟨g, 0, none⟩) 61 c8 | 10 => v = .slice (some ⟨g, 0, none⟩) 61 c8 | 11 => v = .slice (some ⟨g, 0, none⟩) 60 c8 | _ => v = .bool true)
            (by kernel_rfl) (by simp) (fun W hW => ⟨⟨W, Ext.trans XX.out hW⟩, rfl⟩) (Below.refl _ _) (fun W W' h h' => Ext.trans h h') ?_ ?_ ?_
          · intro k v W W' h hx
            match k with
            | 0 => exact TextsAt.ext h hx
            | 1 => exact DeedAt.ext h hx
            | 2 => exact DeedsAt.ext h hx
            | 3 => exact TextsAt.ext h hx
            | 4 => exact h
            | 5 => exact h
            | 6 => exact h
            | 7 => exact h
            | 8 => exact h
            | 9 => exact h
            | 10 => exact h
            | 11 => exact h
            | n + 12 => exact h
          · intro j y hx0
            rcases j with _ | _ | _ | _ | _ | _ | _ | _ | _ | _ | _ | _ | _ | _ | _ | j
            · have hy0 : (⟨8, 180⟩ : RItem) = y := Option.some.inj (show some (⟨8, 180⟩ : RItem) = some y from hx0)
              subst hy0
              clear hx0
              intro a W hW hg hdep K hK
              clear hdep hg
              go_simp
              exact hK.out _ _ (ext_alloc _ _) (texts_made [ka3B] W _)
            · have hy0 : (⟨9, 181⟩ : RItem) = y := Option.some.inj (show some (⟨9, 181⟩ : RItem) = some y from hx0)
              subst hy0
              clear hx0
              intro a W hW hg hdep K hK
              have h0 : TextsAt 1 [ka3B] (a.tmps.getD 180 undef) W := hdep 0 _ rfl (by kernel_rfl)
              obtain ⟨b, _, hv0, hr⟩ := h0
              clear hdep hg
              have s0 := slot_get hv0
              have h1 := deed_keys (kc := 1) 2 hr (by simp) KS1.out
              go_simp
              exact hK.out _ _ (Below.refl _ _) ⟨⟨2, none, 0, 0, some ⟨b, 0, none⟩, 1, 1, ⟨#[]⟩, ⟨#[]⟩⟩, _, rfl, h1⟩
            · have hy0 : (⟨13, 185⟩ : RItem) = y := Option.some.inj (show some (⟨13, 185⟩ : RItem) = some y from hx0)
              subst hy0
              clear hx0
              intro a W hW hg hdep K hK
              have g173 : a.tmps.getD 173 undef = .agg #[.int .i64 0, .slice (some ⟨g, 0, none⟩) 61 c8, .slice none 0 0, .string ⟨#[]⟩, .string ⟨#[]⟩] := (hg.out 173 (by kernel_rfl)).trans (by kernel_rfl)
              have g176 : a.tmps.getD 176 undef = .agg #[.int .i64 0, .slice (some ⟨g, 0, none⟩) 60 c8, .slice none 0 0, .string ⟨#[]⟩, .string ⟨#[]⟩] := (hg.out 176 (by kernel_rfl)).trans (by kernel_rfl)
              have g179 : a.tmps.getD 179 undef = .agg #[.int .i64 0, .slice (some ⟨g, 420, none⟩) 1 (c8 - 60), .slice none 0 0, .string ⟨#[]⟩, .string ⟨#[]⟩] := (hg.out 179 (by kernel_rfl)).trans (by kernel_rfl)
              have g184 : a.tmps.getD 184 undef = .agg #[.int .i64 0, .slice (some ⟨g, 420, none⟩) 1 (c8 - 60), .slice none 0 0, .string ⟨#[]⟩, .string ⟨#[]⟩] := (hg.out 184 (by kernel_rfl)).trans (by kernel_rfl)
              have h1 : DeedAt (a.tmps.getD 181 undef) W := hdep 1 _ rfl (by kernel_rfl)
              obtain ⟨⟨kd, ho, hn, hc, ko, kn, kc, lo, hi⟩, dd, hv1, hz⟩ := h1
              clear hdep hg
              have r173 := slot_get g173; have r176 := slot_get g176; have r179 := slot_get g179; have r184 := slot_get g184; have s1 := slot_get hv1
              have hw := Ext.trans XX.out hW
              simp only [encDV] at hv1 s1
              go_simp
              exact hK.out _ _ (ext_alloc _ _) (deeds_made [_, _, _, ⟨kd, ho, hn, hc, ko, kn, kc, lo, hi⟩, _] _ W _ (DeedsAre.cons (D61.out W hw) (DeedsAre.cons (D60.out W hw) (DeedsAre.cons (D1.out W hw) (DeedsAre.cons hz (DeedsAre.cons (D1.out W hw) DeedsAre.nil))))))
            · have hy0 : (⟨14, 186⟩ : RItem) = y := Option.some.inj (show some (⟨14, 186⟩ : RItem) = some y from hx0)
              subst hy0
              clear hx0
              intro a W hW hg hdep K hK
              clear hdep hg
              go_simp
              exact hK.out _ _ (ext_alloc _ _) (texts_made [kg0B] W _)
            · have hy0 : (⟨16, 188⟩ : RItem) = y := Option.some.inj (show some (⟨16, 188⟩ : RItem) = some y from hx0)
              subst hy0
              clear hx0
              intro a W hW hg hdep K hK
              have g187 : a.tmps.getD 187 undef = .agg #[.int .i64 1, .int .i64 1] := (hg.out 187 (by kernel_rfl)).trans (by kernel_rfl)
              have h2 : DeedsAt 5 (a.tmps.getD 185 undef) W := hdep 2 _ rfl (by kernel_rfl)
              obtain ⟨b, vs2, ds2, hlen, hv2, hr, ha⟩ := h2
              have h3 : TextsAt 1 [kg0B] (a.tmps.getD 186 undef) W := hdep 3 _ rfl (by kernel_rfl)
              obtain ⟨b2, _, hv3, hr2⟩ := h3
              clear hdep hg
              have hc := hr_calls vs2 ds2 (some ⟨b, 0, none⟩) 5 2 [kg0B] (some ⟨b2, 0, none⟩) 1 1 1 W (by omega) hr ha (by simp) hr2 KS2.out
              rw [hlen] at hc
              go_simp
              refine hc.mono ?_
              rintro e w5 ⟨rfl, hx⟩
              exact hK.out _ _ hx rfl
            · have hy0 : (⟨17, 189⟩ : RItem) = y := Option.some.inj (show some (⟨17, 189⟩ : RItem) = some y from hx0)
              subst hy0
              clear hx0
              intro a W hW hg hdep K hK
              have hv4 : a.tmps.getD 188 undef = .bool true := hdep 4 _ rfl (by kernel_rfl)
              clear hdep hg
              go_simp
              exact hK.out _ _ (Below.refl _ _) rfl
            · have hy0 : (⟨18, 190⟩ : RItem) = y := Option.some.inj (show some (⟨18, 190⟩ : RItem) = some y from hx0)
              subst hy0
              clear hx0
              intro a W hW hg hdep K hK
              have g8 : a.tmps.getD 8 undef = .slice (some ⟨g, 0, none⟩) 61 c8 := (hg.out 8 (by kernel_rfl)).trans (by kernel_rfl)
              have hv5 : a.tmps.getD 189 undef = .bool true := hdep 5 _ rfl (by kernel_rfl)
              have q := slot_bool hv5
              clear hdep hg
              go_simp
              exact hK.out _ _ (Below.refl _ _) rfl
            · have hy0 : (⟨19, 191⟩ : RItem) = y := Option.some.inj (show some (⟨19, 191⟩ : RItem) = some y from hx0)
              subst hy0
              clear hx0
              intro a W hW hg hdep K hK
              have hv5 : a.tmps.getD 189 undef = .bool true := hdep 5 _ rfl (by kernel_rfl)
              have hv6 : a.tmps.getD 190 undef = .slice (some ⟨g, 0, none⟩) 61 c8 := hdep 6 _ rfl (by kernel_rfl)
              have q := slot_bool hv5
              clear hdep hg
              have hc := HB61.out W (Ext.trans XX.out hW)
              go_simp
              refine hc.mono ?_
              rintro e w7 ⟨rfl, hx⟩
              exact hK.out _ _ hx rfl
            · have hy0 : (⟨20, 192⟩ : RItem) = y := Option.some.inj (show some (⟨20, 192⟩ : RItem) = some y from hx0)
              subst hy0
              clear hx0
              intro a W hW hg hdep K hK
              have hv5 : a.tmps.getD 189 undef = .bool true := hdep 5 _ rfl (by kernel_rfl)
              have hv7 : a.tmps.getD 191 undef = .bool true := hdep 7 _ rfl (by kernel_rfl)
              clear hdep hg
              go_simp
              exact hK.out _ _ (Below.refl _ _) rfl
            · have hy0 : (⟨21, 193⟩ : RItem) = y := Option.some.inj (show some (⟨21, 193⟩ : RItem) = some y from hx0)
              subst hy0
              clear hx0
              intro a W hW hg hdep K hK
              have hv8 : a.tmps.getD 192 undef = .bool true := hdep 8 _ rfl (by kernel_rfl)
              clear hdep hg
              go_simp
              exact hK.out _ _ (Below.refl _ _) rfl
            · have hy0 : (⟨22, 194⟩ : RItem) = y := Option.some.inj (show some (⟨22, 194⟩ : RItem) = some y from hx0)
              subst hy0
              clear hx0
              intro a W hW hg hdep K hK
              have g8 : a.tmps.getD 8 undef = .slice (some ⟨g, 0, none⟩) 61 c8 := (hg.out 8 (by kernel_rfl)).trans (by kernel_rfl)
              have hv9 : a.tmps.getD 193 undef = .bool true := hdep 9 _ rfl (by kernel_rfl)
              have q := slot_bool hv9
              clear hdep hg
              go_simp
              exact hK.out _ _ (Below.refl _ _) rfl
            · have hy0 : (⟨23, 195⟩ : RItem) = y := Option.some.inj (show some (⟨23, 195⟩ : RItem) = some y from hx0)
              subst hy0
              clear hx0
              intro a W hW hg hdep K hK
              have hv9 : a.tmps.getD 193 undef = .bool true := hdep 9 _ rfl (by kernel_rfl)
              have hv10 : a.tmps.getD 194 undef = .slice (some ⟨g, 0, none⟩) 61 c8 := hdep 10 _ rfl (by kernel_rfl)
              have q := slot_bool hv9
              clear hdep hg
              have hq60 : (60 : Int) ≤ (c8 : Int) := by omega
              go_simp
              exact hK.out _ _ (Below.refl _ _) rfl
            · have hy0 : (⟨24, 196⟩ : RItem) = y := Option.some.inj (show some (⟨24, 196⟩ : RItem) = some y from hx0)
              subst hy0
              clear hx0
              intro a W hW hg hdep K hK
              have hv9 : a.tmps.getD 193 undef = .bool true := hdep 9 _ rfl (by kernel_rfl)
              have hv11 : a.tmps.getD 195 undef = .slice (some ⟨g, 0, none⟩) 60 c8 := hdep 11 _ rfl (by kernel_rfl)
              have q := slot_bool hv9
              clear hdep hg
              have hc := HB60.out W (Ext.trans XX.out hW)
              go_simp
              refine hc.mono ?_
              rintro e w7 ⟨rfl, hx⟩
              exact hK.out _ _ hx rfl
            · have hy0 : (⟨25, 197⟩ : RItem) = y := Option.some.inj (show some (⟨25, 197⟩ : RItem) = some y from hx0)
              subst hy0
              clear hx0
              intro a W hW hg hdep K hK
              have hv9 : a.tmps.getD 193 undef = .bool true := hdep 9 _ rfl (by kernel_rfl)
              have hv12 : a.tmps.getD 196 undef = .bool true := hdep 12 _ rfl (by kernel_rfl)
              clear hdep hg
              go_simp
              exact hK.out _ _ (Below.refl _ _) rfl
            · have hy0 : (⟨26, 0⟩ : RItem) = y := Option.some.inj (show some (⟨26, 0⟩ : RItem) = some y from hx0)
              subst hy0
              clear hx0
              intro a W hW hg hdep K hK
              have hv13 : a.tmps.getD 197 undef = .bool true := hdep 13 _ rfl (by kernel_rfl)
              clear hdep hg
              go_simp
              exact hK.out _ _ (Below.refl _ _) rfl
            · simp at hx0
          · intro us W hT hR
            have h14 : us 14 = .bool true := hR 14 _ rfl
            have XX := Lib.hid (Ext.trans XX.out hT)
            clear hT hR
            simp only [putsR]
            generalize us 0 = u0'; generalize us 1 = u1'; generalize us 2 = u2'; generalize us 3 = u3'; generalize us 4 = u4'; generalize us 5 = u5'; generalize us 6 = u6'; generalize us 7 = u7'; generalize us 8 = u8'; generalize us 9 = u9'; generalize us 10 = u10'; generalize us 11 = u11'; generalize us 12 = u12'; generalize us 13 = u13'
            rw [h14]
            clear h14
            simp only [Act.put, List.setIfInBounds_toArray, List.set_cons_succ, List.set_cons_zero]
            go_wp2_with fail
            go_ret
            exact ⟨rfl, Ext.trans XW.out (Ext.trans M5.out XX.out)⟩
end Go.Proofs.YtdmejbjpbjcfbaaGreatDoor
