/- The document's From. -/
import Derived.Test.YtbnclifpdmpjnaaGreatDoorZ29
import Derived.Test.YtbnclifpdmpjnaaGreatDoorZ39
namespace Go.Proofs.YtbnclifpdmpjnaaGreatDoor
open Go.RowKit
set_option maxRecDepth 1000000 in
set_option maxHeartbeats 6400000 in
theorem refFrom_calls (l : List TaleZ) (ao : Option Addr) (cap : Nat) (w : World) (hl : l.length ≤ 60) (hs : TalesAt w ao l) (hok : ∀ z ∈ l, z.d.ok) :
    Calls Tryz.prog 8 #[.slice ao l.length cap] w (RefFromR w (refFromD (l.map (·.d)))) := by
  have HS := Lib.hid hs; have HOK := Lib.hid hok
  have RP := Lib.hid (refReplied_calls l ao cap w (by omega) hs hok)
  obtain ⟨D, hD⟩ : ∃ D, D = l.map (·.d) := ⟨_, rfl⟩
  rw [← hD] at RP ⊢
  have HD := Lib.hid hD
  obtain ⟨RA, hRA⟩ : ∃ RA, D.all (repliedT D) = RA := ⟨_, rfl⟩
  rw [hRA] at RP
  have HRA := Lib.hid hRA
  clear hs hok hD hRA
  go_enter Tryz.func8, Tryz.ntmps8
  go_wp2_with fail
  refine RP.out.mono ?_
  rintro e w1 ⟨rfl, hx1⟩
  have X1 := Lib.hid hx1
  clear hx1 RP
  cases RA
  · have RN : Hid (refFromD D = none) := Lib.hid (by unfold refFromD; rw [HRA.out]; simp)
    go_wp2_with fail
    go_ret2
    exact refFrom_none RN.out X1.out
  · have RS : Hid (refFromD D = (fromAt D D.length).map (·.map (·.2))) := Lib.hid (by unfold refFromD; rw [HRA.out]; simp)
    have DL : Hid (D.length = l.length) := Lib.hid (by rw [HD.out, List.length_map])
    go_wp2_with fail
    go_loopw [4, 5, 6] (fun o a i wr => ∃ (j : Nat) (P : List (Int × StepZ)) (oa : Option Addr) (oc : Nat) (aa : Option Addr) (ac : Nat), j ≤ l.length ∧ i = .int .i64 j ∧ P.length ≤ j ∧ o = .slice oa (stepsOf P).length oc ∧ a = .slice aa (keysOf P).length ac ∧ (stepsOf P).length ≤ oc ∧ (keysOf P).length ≤ ac ∧ Hid (fromAt D j = some (plainP P)) ∧ Hid (StepsAt wr oa (stepsOf P)) ∧ Hid (Rows 1 encI wr.heap.size wr aa (keysOf P)) ∧ Hid (Ext w wr)) (fun _ _ i _ => l.length - (intOf i).toNat)
    case atStart => exact ⟨0, [], none, 0, none, 0, by omega, rfl, by simp, rfl, rfl, by simp [stepsOf], by simp [keysOf], Lib.hid rfl, Lib.hid ⟨fun h => absurd rfl h, (fun z hz => by cases hz)⟩, Lib.hid (fun h => absurd rfl h), X1⟩
    case round =>
      clear X1
      obtain ⟨j, P, oa, oc, aa, ac, hj, rfl, hPj, rfl, rfl, hoc, hac, F1, S1, K1, X1⟩ := hrel
      by_cases hlt : j < l.length
      · obtain ⟨z, hz⟩ : ∃ z, l[j]? = some z := ⟨_, List.getElem?_eq_getElem hlt⟩
        have hzm := List.mem_of_getElem? hz
        obtain ⟨b, off, rfl, hb, hcell⟩ := HS.out.1 (by intro e; rw [e] at hlt; simp at hlt)
        have HROW := Lib.hid (fun (u : Nat) (y : TaleZ) (hu : l[u]? = some y) (W : World) (hW : Ext w W) (t : Nat) (v : Value) (ht : (encTale y)[t]? = some v) => (hW.cell (p := ⟨b, _, none⟩) hb).trans (hcell u y hu t v ht))
        have HZ := Lib.hid hz
        have DZ : Hid (D[j]? = some z.d) := Lib.hid (by rw [HD.out, List.getElem?_map, hz]; rfl)
        have FN := Lib.hid (fromAt_next F1.out DZ.out)
        obtain ⟨cl, hcl⟩ : ∃ c, z.d.cl = c := ⟨_, rfl⟩
        obtain ⟨nm, hnm⟩ : ∃ c, z.d.nm = c := ⟨_, rfl⟩
        have NMZ : Hid (z.d.name = (cl, nm)) := Lib.hid (by rw [← hcl, ← hnm]; rfl)
        have d0 : wr.cell? ⟨b, off + j * 18, none⟩ = some (.int .u8 z.d.kind) := HROW.out j z hz _ X1.out 0 _ rfl
        have d5 : wr.cell? ⟨b, off + j * 18 + 5, none⟩ = some (.int .i64 cl) := by rw [← hcl]; exact HROW.out j z hz _ X1.out 5 _ rfl
        have d6 : wr.cell? ⟨b, off + j * 18 + 6, none⟩ = some (.int .i64 nm) := by rw [← hnm]; exact HROW.out j z hz _ X1.out 6 _ rfl
        obtain ⟨wn, hwn⟩ : ∃ wn, wn = wr.alloc (.cells #[.int .i64 cl, .int .i64 nm] 26) := ⟨_, rfl⟩
        have XN : Hid (Ext wr wn) := Lib.hid (by rw [hwn]; exact (Below.refl _ wr).alloc (Nat.le_refl _) _)
        have BN : Hid (Blk wn wr.heap.size [.int .i64 cl, .int .i64 nm] 26) := Lib.hid (by rw [hwn]; exact Blk.new wr _ _)
        have XWN := Lib.hid (Ext.trans X1.out XN.out)
        have HWN := Lib.hid hwn
        have i0 : (0 : Int) ≤ (j : Int) := by omega
        have i1 : (j : Int) < (l.length : Int) := by omega
        have ROWS := Lib.hid (fun W (hW : Ext w W) => (HS.out.ext hW))
        clear hz hzm hcell hwn hcl hnm
        -- what one more round keeps, when nothing is put
        have SAME := Lib.hid (fun (W : World) (hW : Ext wr W) (hf : fromOne D j z.d (plainP P) = some (plainP P)) => (⟨by rw [FN.out]; exact hf, S1.out.ext hW, (K1.out.ext hW).mono hW.size, Ext.trans X1.out hW⟩ : fromAt D (j + 1) = some (plainP P) ∧ StepsAt W oa (stepsOf P) ∧ Rows 1 encI W.heap.size W aa (keysOf P) ∧ Ext w W))
        have NONE := Lib.hid (fun (h : fromOne D j z.d (plainP P) = none) => (show refFromD D = none from by
          rw [RS.out, fromAt_stop D (by rw [FN.out]; exact h) D.length (by rw [DL.out]; omega)]; rfl))
        go_upto_region 9 with fail
        rw [← HWN.out]
        clear d5 d6
        have d0 : wn.cell? ⟨b, off + j * 18, none⟩ = some (.int .u8 z.d.kind) := HROW.out j z HZ.out _ XWN.out 0 _ rfl
        have n0 := BN.out.cell 0; have n1 := BN.out.cell 1
        simp only [List.getElem?_cons_zero, List.getElem?_cons_succ] at n0 n1
        by_cases hk : z.d.kind = 6
        · have g1 : (z.d.kind != 6) = false := by simpa using hk
          have HK := Lib.hid hk
          have FC := Lib.hid (refFirst_calls l (some ⟨b, off, none⟩) cap 6 cl nm wn (by omega) (ROWS.out _ XWN.out).1)
          rw [← HD.out] at FC
          obtain ⟨FT, hFT⟩ : ∃ FT, firstT D 6 (cl, nm) = FT := ⟨_, rfl⟩
          rw [hFT] at FC
          have HFT := Lib.hid hFT
          clear hk hFT
          go_wp2_with fail
          refine FC.out.mono ?_
          rintro e w2 ⟨rfl, hx2⟩
          have X2 := Lib.hid (Ext.trans XWN.out hx2); have Y2 := Lib.hid (Ext.trans XN.out hx2)
          have BN2 := Lib.hid (BN.out.ext' hx2)
          clear hx2 FC d0 n0 n1 g1
          by_cases hft : FT = some j
          · subst hft
            have g2 : (posT (some j) != (j : Int)) = false := by simp [posT]
            have GO : Hid (z.d.kind = 6 ∧ firstT D 6 z.d.name = some j) := Lib.hid ⟨HK.out, by rw [NMZ.out]; exact HFT.out⟩
            have IC := Lib.hid (refIndex_calls l (some ⟨b, off, none⟩) cap cl nm w2 (by omega) (ROWS.out _ X2.out) HOK.out)
            have n0 := BN2.out.cell 0; have n1 := BN2.out.cell 1
            simp only [List.getElem?_cons_zero, List.getElem?_cons_succ] at n0 n1
            go_wp2_with fail
            refine IC.out.mono ?_
            rintro e w3 ⟨zx, rfl, hzx, hx3⟩
            have X3 := Lib.hid (Ext.trans X2.out hx3); have Y3 := Lib.hid (Ext.trans Y2.out hx3)
            have BN3 := Lib.hid (BN2.out.ext' hx3); have ZX := Lib.hid hzx
            obtain ⟨wt, hwt⟩ : ∃ wt, wt = (w3.alloc (.cells #[.int .u8 0, .int .i64 0, .int .i64 0, .int .i64 0, .int .i64 0, .int .i64 0, .int .i64 0, .slice none 0 0, .bool false, .slice none 0 0, .string ⟨#[]⟩, .string ⟨#[]⟩, .int .i64 0, .int .u8 0, .int .i64 0, .int .i64 0, .slice none 0 0, .slice none 0 0] 39)).setCells w3.heap.size 0 (encTale zx) := ⟨_, rfl⟩
            have XT : Hid (Ext w3 wt) := Lib.hid (by rw [hwt]; exact (put_tale w3 zx).2)
            have BT : Hid (Blk wt w3.heap.size (encTale zx) 39) := Lib.hid (by rw [hwt]; exact (put_tale w3 zx).1)
            have X4 := Lib.hid (Ext.trans X3.out XT.out); have Y4 := Lib.hid (Ext.trans Y3.out XT.out)
            have BN4 := Lib.hid (BN3.out.ext' XT.out)
            have PR : Sem.run Tryz.prog (storeCells ⟨w3.heap.size, 0, none⟩ (encTale zx)) (w3.alloc (.cells #[.int .u8 0, .int .i64 0, .int .i64 0, .int .i64 0, .int .i64 0, .int .i64 0, .int .i64 0, .slice none 0 0, .bool false, .slice none 0 0, .string ⟨#[]⟩, .string ⟨#[]⟩, .int .i64 0, .int .u8 0, .int .i64 0, .int .i64 0, .slice none 0 0, .slice none 0 0] 39)) = .ok () wt := by rw [hwt]; exact put_run w3 zx
            clear hzx hx3 IC hwt n0 n1 g2
            rw [← HD.out] at ZX ⊢
            obtain ⟨IX, hIX⟩ : ∃ IX, indexT D (cl, nm) = IX := ⟨_, rfl⟩
            rw [hIX] at ZX ⊢
            have HIX := Lib.hid hIX
            clear hIX
            cases IX with
            | none =>
              have RN : Hid (refFromD D = none) := Lib.hid (NONE.out (by
                unfold fromOne; rw [if_neg (fun h => h GO.out), NMZ.out, HIX.out]))
              simp only [Option.map_none, Option.getD_none, Option.isSome_none]
              go_wp2_with fail
              go_ret2
              exact refFrom_none RN.out X4.out
            | some pd =>
              obtain ⟨kx, dx⟩ := pd
              obtain rfl : zx.d = dx := (ZX.out _ rfl).2
              have ZXL := Lib.hid (ZX.out _ rfl).1
              obtain ⟨CL, hCL⟩ : ∃ CL, D.any (clashT D (cl, nm) kx) = CL := ⟨_, rfl⟩
              have HCL := Lib.hid hCL
              have FO : Hid (CL = true → refFromD D = none) := Lib.hid (fun h => NONE.out (by
                unfold fromOne; rw [if_neg (fun hh => hh GO.out), NMZ.out, HIX.out]; simp only; rw [hCL, if_pos h]))
              clear hCL ZX
              simp only [Option.map_some, Option.getD_some, Option.isSome_some]
              go_wp2_with fail
              clear PR
              refine inner_wp HD.out (by omega) (ROWS.out _ X4.out) HOK.out BN4.out ?_ ?_
              · intro g2 g3 g11 g12 g13 g14 g54 g55 g56 g57 g58 g59 g60 g61 g62 g63 g64 g65 g66 g67 g68 g69 g70 g71 g72 g73 g74 g75 g76 g77 g78 g79 g80 g81 g82 g83 g84 g85 g86 g87 g88 g89 g90 g91 w5 hnc hx5
                have X5 := Lib.hid (Ext.trans X4.out hx5); have Y5 := Lib.hid (Ext.trans Y4.out hx5); have Z5 := Lib.hid (Ext.trans XT.out hx5)
                have NC := Lib.hid hnc
                have PC : Hid (fromOne D j z.d (plainP P) = if zx.d.commit = false then some (plainP P) else match firstT D 1 (cl, nm) with | none => none | some c => some (putT (kx, stepT D (cl, nm) zx.d c) (plainP P))) := Lib.hid (by
                  unfold fromOne; rw [if_neg (fun hh => hh GO.out), NMZ.out, HIX.out]; simp only; rw [NC.out]; exact if_neg (by simp))
                clear hnc
                go_upto_region 20 with fail
                refine rest_wp (fun _ _ _ _ h => h) (by assumption) HD.out (by omega) (ROWS.out _ X5.out) HOK.out (BN4.out.ext' hx5) (BT.out.ext' hx5) (((ROWS.out _ X5.out).2 zx ZXL.out)) (HOK.out zx ZXL.out) (by omega) hoc hac (S1.out.ext Y5.out) ((K1.out.ext Y5.out).mono Y5.out.size) ?_ ?_ ?_
                · intro hcm g15 g92 g93 g94 g95 g96 g97 g98 g99 g100 g101 g102 g103 w6 hx6
                  have SM := Lib.hid (SAME.out _ (Ext.trans Y5.out hx6) (by rw [PC.out, if_pos hcm]))
                  go_wp2_with fail
                  go_roundw
                  case rel => exact ⟨j + 1, P, oa, oc, aa, ac, by omega, by go_num, by omega, rfl, rfl, hoc, hac, Lib.hid SM.out.1, Lib.hid SM.out.2.1, Lib.hid SM.out.2.2.1, Lib.hid SM.out.2.2.2⟩
                  case measure => simp [intOf]; omega
                · intro hcm hf g15 g92 g93 g94 g95 g96 g97 g98 g99 g100 w6 hx6
                  have RN : Hid (refFromD D = none) := Lib.hid (NONE.out (by rw [PC.out, if_neg (by rw [hcm]; simp), hf]))
                  go_wp2_with fail
                  go_ret2
                  exact refFrom_none RN.out (Ext.trans X5.out hx6)
                · intro hcm c zs hf hzs g15 g16 g17 g92 g93 g94 g95 g96 g97 g98 g99 g100 g101 g102 g103 g104 g105 g106 g107 g108 g109 g110 g111 g112 g113 g114 g115 g116 g117 g118 g119 g120 g121 g122 g123 g124 g125 g126 g127 g128 g129 g130 g131 g132 g133 g134 g135 g136 g137 g138 g139 g140 g141 g142 g143 g144 g145 g146 g147 g148 g149 g150 g151 g152 g153 g154 g155 g156 g157 g158 t so so' c1 c2 w6 ht hpl h1 h2 hst hks hx6
                  have FN2 : Hid (fromAt D (j + 1) = some (plainP (putP t (kx, zs) P))) := Lib.hid (by rw [FN.out, PC.out, if_neg (by rw [hcm]; simp), hf, ← hpl, hzs])
                  have LN := len_put (p := (kx, zs)) ht
                  have HS6 := Lib.hid hst; have HK6 := Lib.hid hks; have H1 := Lib.hid h1; have H2 := Lib.hid h2; have X6 := Lib.hid (Ext.trans X5.out hx6)
                  obtain ⟨PP, hPP⟩ : ∃ PP, PP = putP t (kx, zs) P := ⟨_, rfl⟩
                  rw [← hPP] at FN2 LN HS6 HK6 H1 H2 ⊢
                  clear hst hks h1 h2 hpl hPP hzs hf hcm hx6
                  go_wp2_with fail
                  go_roundw
                  case rel => exact ⟨j + 1, PP, so, c1, so', c2, by omega, by go_num, by omega, rfl, rfl, H1.out, H2.out, FN2, HS6, HK6, X6⟩
                  case measure => simp [intOf]; omega
              · intro g11 g12 g13 g14 g54 g55 g56 g57 g58 g59 g60 g61 g62 g63 g64 g65 g66 g67 g68 g69 g70 g71 g72 g73 g74 g75 g76 g77 g78 g79 g80 g81 g82 g83 g84 g85 g86 g87 g88 g89 g90 g91 w5 hany hx5
                have RN : Hid (refFromD D = none) := Lib.hid (FO.out (by rw [← HCL.out]; exact hany))
                go_wp2_with fail
                go_ret2
                exact refFrom_none RN.out (Ext.trans X4.out hx5)
          · have g2 : (posT FT != (j : Int)) = true := by
              cases FT with
              | none => simp [posT] <;> omega
              | some i => simp only [Option.some.injEq] at hft; simp [posT] <;> omega
            have SM := Lib.hid (SAME.out _ Y2.out (by unfold fromOne; rw [if_pos (fun h => hft (by rw [← HFT.out, ← NMZ.out]; exact h.2))]))
            clear hft
            go_wp2_with fail
            go_roundw
            case rel => exact ⟨j + 1, P, oa, oc, aa, ac, by omega, by go_num, by omega, rfl, rfl, hoc, hac, Lib.hid SM.out.1, Lib.hid SM.out.2.1, Lib.hid SM.out.2.2.1, Lib.hid SM.out.2.2.2⟩
            case measure => simp [intOf]; omega
        · have g1 : (z.d.kind != 6) = true := by simpa using hk
          have SM := Lib.hid (SAME.out _ XN.out (by unfold fromOne; rw [if_pos (fun h => hk h.1)]))
          clear hk
          go_wp2_with fail
          go_roundw
          case rel => exact ⟨j + 1, P, oa, oc, aa, ac, by omega, by go_num, by omega, rfl, rfl, hoc, hac, Lib.hid SM.out.1, Lib.hid SM.out.2.1, Lib.hid SM.out.2.2.1, Lib.hid SM.out.2.2.2⟩
          case measure => simp [intOf]; omega
      · obtain rfl : j = l.length := by omega
        have RR : Hid (refFromD D = some ((stepsOf P).map (·.d))) := Lib.hid (by
          rw [RS.out, DL.out, F1.out]
          simp [plainP, stepsOf, List.map_map, Function.comp])
        go_wp2_with fail
        go_ret2
        exact ⟨oa, oc, stepsOf P, by rw [RR.out]; rfl, by rw [RR.out]; rfl, S1.out, X1.out⟩
end Go.Proofs.YtbnclifpdmpjnaaGreatDoor
