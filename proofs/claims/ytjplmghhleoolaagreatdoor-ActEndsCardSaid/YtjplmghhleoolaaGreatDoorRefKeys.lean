/- The reference's Keys: the acts' keys, each once, rising, by insertion. -/
import Derived.Test.YtjplmghhleoolaaGreatDoorKeys
import Derived.Test.YtjplmghhleoolaaGreatDoorRefKeysLaw
import Derived.Test.YtjplmghhleoolaaGreatDoorAppendStep
namespace Go.Proofs.YtjplmghhleoolaaGreatDoor
open Go.RowKit

theorem one_txt : ∀ (x : Txt), ∀ u ∈ encT x, u.oneCell' = true := by
  intro x u hu
  simp only [encT, List.mem_cons, List.not_mem_nil, or_false] at hu
  subst hu; rfl

set_option maxRecDepth 100000 in
set_option maxHeartbeats 1600000 in
theorem refKeys_calls (l : List ActD) (ao : Option Addr) (cap : Nat) (w : World) (hl : l.length ≤ 1000000) (hr : Rows 4 encAct w.heap.size w ao l) :
    Calls Tryz.prog 20 #[.slice ao l.length cap] w fun e w' => ∃ ko kcap, e = .returned (.slice ko (keysL l).length kcap) ∧ Rows 1 encT w'.heap.size w' ko (keysL l) ∧ Ext w w' := by
  obtain ⟨i0, hi, hz0, hz1, hz2⟩ := info_parts infoStr
  have HR := Lib.hid hr
  clear hr
  go_enter Tryz.func20, Tryz.ntmps20
  go_wp2_with fail
  go_loopw [3, 4] (fun v i wr => ∃ (k : Nat) (q : List Txt), k ≤ l.length ∧ i = .int .i64 k ∧ q = insAll ((l.map keyT).take k) ∧ wr.ownsRow 0 9 1 v q.length (q.flatMap encT) ∧ (∀ j, v.ownBlock = some j → w.heap.size ≤ j) ∧ Ext w wr) (fun _ i _ => l.length - (intOf i).toNat)
  case atStart => exact ⟨0, [], by omega, rfl, rfl, World.ownsRow_nil _ _ _ _, by simp [Value.ownBlock], Below.refl _ _⟩
  case round =>
    obtain ⟨k, q, hk, rfl, hq, hown, hnew, hx⟩ := hrel
    have K1 := Lib.hid hown; have K2 := Lib.hid hnew; have K3 := Lib.hid hx
    clear hown hnew hx
    by_cases hlt : k < l.length
    · obtain ⟨x, hx⟩ : ∃ x, l[k]? = some x := ⟨_, List.getElem?_eq_getElem hlt⟩
      obtain ⟨b, off, rfl, hb, hcell⟩ := HR.out (by intro e; rw [e] at hlt; simp at hlt)
      have hcx := hcell k x hx
      have hmove : ∀ j, wr.cell? ⟨b, j, none⟩ = w.cell? ⟨b, j, none⟩ := fun j => K3.out.cell (p := ⟨b, j, none⟩) hb
      have hql : q.length ≤ k := by
        have := insAll_len ((l.map keyT).take k)
        rw [← hq, List.length_take] at this; omega
      have hnx : insAll ((l.map keyT).take (k + 1)) = insT (keyT x) q := by
        rw [insAll_succ _ k (keyT x) (by rw [List.getElem?_map, hx]; rfl), ← hq]
      obtain ⟨kd, ky, val, num⟩ := x
      have d1 := (hmove _).trans (hcx 1 _ rfl)
      have hkt : keyT ⟨kd, ky, val, num⟩ = ky.data.toList := rfl
      rw [hkt] at hnx
      have HN := Lib.hid hnx
      have hi0 : (0 : Int) ≤ (k : Int) := by omega
      have hi1 : (k : Int) < (l.length : Int) := by omega
      clear hx hcell hcx hmove hq hnx hkt
      obtain ⟨ro, rcap, rfl, hle, hmax, hrr⟩ := Rows.own (enc := encT) (sz := 1) (fun _ => rfl) K1.out
      have R1 := Lib.hid hrr; clear hrr
      unfold maxLen at hmax
      obtain ⟨wo, rfl⟩ : ∃ wo : World, wo = wr := ⟨_, rfl⟩
      go_wp2_with fail
      go_loopw [5] (fun i wr => ∃ (j : Nat), j ≤ q.length ∧ i = .int .i64 j ∧ (∀ (i : Nat) (x : Txt), i < j → q[i]? = some x → x < ky.data.toList) ∧ Ext wo wr) (fun i _ => q.length - (intOf i).toNat)
      case atStart => exact ⟨0, by omega, rfl, fun i x hi => by omega, Below.refl _ _⟩
      case round =>
        obtain ⟨j, hj, rfl, hlow, hx⟩ := hrel
        have J1 := Lib.hid hlow; have J2 := Lib.hid hx
        clear hlow hx
        have d1' := (J2.out.cell (p := ⟨b, off + k * 4 + 1, none⟩) (by have := K3.out.size; simp; omega)).trans d1
        by_cases hjl : j < q.length
        · obtain ⟨y, hy⟩ : ∃ y, q[j]? = some y := ⟨_, List.getElem?_eq_getElem hjl⟩
          obtain ⟨g, goff, hro, hg, hc⟩ := R1.out (by intro e; rw [e] at hjl; simp at hjl)
          have hcy := hc j y hy 0 _ rfl
          rw [show goff + j * 1 + 0 = goff + j from by omega] at hcy
          have d2 : wr.cell? ⟨g, goff + j, none⟩ = some (.string ⟨y.toArray⟩) := (J2.out.cell (p := ⟨g, goff + j, none⟩) hg).trans hcy
          have HRO := Lib.hid hro
          have j0 : (0 : Int) ≤ (j : Int) := by omega
          have j1 : (j : Int) < (q.length : Int) := by omega
          have g1 : decide ((j : Int) < (q.length : Int)) = true := decide_eq_true j1
          have HY := Lib.hid hy
          subst hro
          clear hc hcy hy
          by_cases hyk : y < ky.data.toList
          · have hb1 : Op.bytesLess y ky.toList = true := by rw [Lib.toList_data, bytesLess_eq]; simpa using hyk
            have HYK := Lib.hid hyk; clear hyk
            go_wp2_with fail
            go_quiet (fail)
            go_wp2_with fail
            go_roundw
            case rel =>
              refine ⟨j + 1, by omega, by go_num, fun i x hi hx => ?_, (Ext.drewN J2.out _)⟩
              rcases Nat.lt_or_ge i j with h | h
              · exact J1.out i x h hx
              · obtain rfl : i = j := by omega
                rw [HY.out] at hx
                rw [← Option.some.inj hx]; exact HYK.out
            case measure => simp [intOf]; omega
          · have hb1 : Op.bytesLess y ky.toList = false := by rw [Lib.toList_data, bytesLess_eq]; simpa using hyk
            have hpl : placeT ky.data.toList q = j := place_at _ _ _ hj J1.out (fun x hx => by rw [HY.out] at hx; rw [← Option.some.inj hx]; exact hyk)
            have HPL := Lib.hid hpl; clear hpl hyk
            by_cases hek : y = ky.data.toList
            · have he : (y == ky.toList) = true := by rw [Lib.toList_data]; simp [hek]
              have hins : insT ky.data.toList q = q := by unfold insT; rw [HPL.out, HY.out, hek, if_pos rfl]
              have HI := Lib.hid hins; clear hek hins
              go_wp2_with fail
              go_quiet (fail)
              go_wp2_with fail
              go_quiet (fail)
              go_wp2_with fail
              go_roundw
              case rel => exact ⟨k + 1, q, by omega, by go_num, by rw [HN.out, HI.out], own_ext K1.out (Ext.drewN J2.out _), K2.out, Ext.trans K3.out (Ext.drewN J2.out _)⟩
              case measure => simp [intOf]; omega
            · have he : (y == ky.toList) = false := by rw [Lib.toList_data]; simp [hek]
              have hins : insT ky.data.toList q = q.take j ++ [ky.data.toList] ++ q.drop j := by
                unfold insT; rw [HPL.out, HY.out, if_neg (fun e => hek (Option.some.inj e))]
              have HI := Lib.hid hins; clear hek hins
              go_wp2_with fail
              go_quiet (fail)
              go_wp2_with fail
              go_quiet (fail)
              have rd : Rows 1 encT wo.heap.size wo (some ⟨g, goff + j, none⟩) (q.drop j) := by
                have h := Rows.drop R1.out j
                rwa [Nat.mul_one] at h
              generalize hwv : (wr.drewN _).drewN _ = wv
              have hv2 : Ext wo wv := by rw [← hwv]; exact Ext.drewN (Ext.drewN J2.out _) _
              have V2 := Lib.hid hv2
              have e2 : Ext wv (wv.alloc (.cells #[] 9)) := (Below.refl _ wv).alloc (Nat.le_refl _) _
              have V3 := Lib.hid (Ext.trans hv2 e2); have E2 := Lib.hid e2
              clear hwv hv2 e2
              have j0 : (0 : Int) ≤ (j : Int) := by omega
              have j1 : (j : Int) ≤ (q.length : Int) := by omega
              have j2 : (j : Int) ≤ (rcap : Int) := by omega
              have rn : rcap = j → q.drop j = [] := fun e => List.drop_eq_nil_of_le (by omega)
              have hdl : (q.drop j).length = q.length - j := List.length_drop
              have RD := Lib.hid rd; have RN := Lib.hid rn; have DL := Lib.hid hdl
              clear rd rn hdl
              by_cases hck : rcap = j
              · subst hck
                have DN := Lib.hid (RN.out rfl); clear RN
                go_wp2_with fail
                have hov : (wv.alloc (.cells #[] 9)).ownsRow 0 9 1 (.slice (some ⟨wv.heap.size, 0, none⟩) 0 0) (q.drop rcap).length ((q.drop rcap).flatMap encT) := by
                  rw [DN.out]; exact World.ownsRow_made wv #[] 0 (Nat.zero_le _) (Nat.zero_le _) rfl
                have hnv : ∀ i, (Value.slice (some ⟨wv.heap.size, 0, none⟩) 0 0).ownBlock = some i → wv.heap.size ≤ i := fun i e => by simp [Value.ownBlock] at e; omega
                have DX : Hid ((q.drop rcap).length = 0) := Lib.hid (by rw [DN.out]; rfl)
                have V4 := V3
                generalize wv.alloc (.cells #[] 9) = w1 at *
                generalize Value.slice (some ⟨wv.heap.size, 0, none⟩) 0 0 = v1 at *
                have hsz1 : wo.heap.size ≤ wv.heap.size := V2.out.size
                obtain ⟨r1, c1, rfl, hle1, hmax1, -⟩ := Rows.own (enc := encT) (sz := 1) (fun _ => rfl) hov
                have OV1 := Lib.hid hov; have NV1 := Lib.hid hnv; have LE1 := Lib.hid hle1
                have hcut : ∀ W, Ext w1 W → W.ownsRow 0 9 1 (.slice (some ⟨g, goff, none⟩) rcap rcap) rcap ((q.take rcap).flatMap encT) := fun W hW => by
                  have h := own_cut (own_ext K1.out (Ext.trans V4.out hW)) rcap (by omega)
                  rwa [flat_take (enc := encT) (sz := 1) (fun _ => rfl)] at h
                have hfresh : ∀ (i : Nat) (cc : Nat), (Value.slice (some ⟨g, goff, none⟩) rcap cc).ownBlock = some i → w.heap.size ≤ i ∧ i < wo.heap.size := fun i cc e => by
                  have e' : (Value.slice (some ⟨g, goff, none⟩) q.length rcap).ownBlock = some i := by
                    revert e; unfold Value.ownBlock; cases hr0 : ((some ⟨g, goff, none⟩) : Option Addr) <;> simp
                  exact ⟨K2.out i e', (K1.out.lt i e').2⟩
                have hkey : ∀ W, Ext w1 W → W.cell? ⟨b, off + k * 4 + 1, none⟩ = some (.string ky) := fun W hW =>
                  ((Ext.trans V4.out hW).cell (p := ⟨b, off + k * 4 + 1, none⟩) (by have := K3.out.size; simp; omega)).trans d1
                have hbw : b < w.heap.size := hb
                have HCUT := Lib.hid hcut; have HF := Lib.hid hfresh; have HKY := Lib.hid hkey
                have hcell1 := HKY.out w1 (Below.refl _ _)
                have hrow := Rows.fresh' (enc := encT) (sz := 1) (fun _ => rfl) [ky.data.toList]
                have HROW := Lib.hid hrow
                clear hov hnv hle1 hcut hfresh hkey hmax1 hrow
                have hbw1 : b < w1.heap.size := by have := K3.out.size; have := V4.out.size; simp at *; omega
                have hqt : (q.take rcap).length = rcap := by rw [List.length_take]; omega
                have HQT := Lib.hid hqt; clear hqt
                have hlast : ∀ W, Ext w1 W → w1.heap.size ≤ W.heap.size := fun W hW => hW.size
                have HLA := Lib.hid hlast; clear hlast
                go_region_held3 (fun W => W.cell? ⟨b, off + k * 4 + 1, none⟩ = some (.string ky)) (first | exact hcell1 | exact hc2 | exact hc3 | exact HKY.out _ (Below.refl _ _).drew | exact HKY.out _ (((Below.refl _ w1).alloc (Nat.le_refl _) _).drew))
                  (first
                  | ((refine step_append_rows (enc := encT) (size := 1) (fun _ => rfl) one_txt (by rfl) (.tmp 54) (.tmp 60) 39 (by rfl) 9 i0 _ 16 Tryz.underlying39 hi hz0 hz1 hz2 rfl (by decide) (.slice (some ⟨g, goff, none⟩) rcap rcap) rcap ((q.take rcap).flatMap encT) (by rfl) (HCUT.out _ (((Below.refl _ w1).alloc (Nat.le_refl _) _).drew)) (some ⟨w1.heap.size, 0, none⟩) [ky.data.toList] 1 (by rfl) (by exact HROW.out w1 9) (by simp only [List.length_singleton]; unfold maxLen; omega) (by simp only [List.length_singleton]; omega) ?_
                      intro v2 w2 hown2 hbut2 hkept2
                      have hc2 : w2.cell? ⟨b, off + k * 4 + 1, none⟩ = some (.string ky) := (hbut2.cell (p := ⟨b, off + k * 4 + 1, none⟩) (by simp; omega) (fun e => by have := (HF.out b rcap e).1; omega)).trans (HKY.out _ (((Below.refl _ w1).alloc (Nat.le_refl _) _).drew))
                      have hov2 := own_but (own_ext OV1.out (((Below.refl _ w1).alloc (Nat.le_refl _) (.cells #[.string ky] 9)).drew)) hbut2 (fun i hi e => by have := NV1.out i hi; have := (HF.out i rcap e).2; omega)
                      have hrw2 := rows_of_own (enc := encT) (fun _ => rfl) hov2
                      have O2 := Lib.hid hown2; have B2 := Lib.hid hbut2; have P2 := Lib.hid hkept2; have R2 := Lib.hid hrw2
                      clear hown2 hbut2 hkept2 hov2 hrw2))
                  | ((refine step_append_rows (enc := encT) (size := 1) (fun _ => rfl) one_txt (by rfl) (.tmp 61) (.tmp 62) 39 (by rfl) 9 i0 _ 16 Tryz.underlying39 hi hz0 hz1 hz2 rfl (by decide) v2 _ _ (by rfl) O2.out r1 (q.drop rcap) c1 (by rw [DX.out]; rfl) R2.out (by rw [DL.out, List.length_singleton]; unfold maxLen; omega) (by rw [DL.out, List.length_singleton]; omega) ?_
                      intro v3 w3 hown3 hbut3 hkept3
                      have hc3 : w3.cell? ⟨b, off + k * 4 + 1, none⟩ = some (.string ky) := (hbut3.cell (p := ⟨b, off + k * 4 + 1, none⟩) (block_lt_of_cell hc2) (fun e => by
                        rcases P2.out b e with e | e
                        · have := (HF.out b rcap e).1; omega
                        · simp at e; omega)).trans hc2
                      have O3 := Lib.hid hown3; have B3 := Lib.hid hbut3; have P3 := Lib.hid hkept3
                      clear hown3 hbut3 hkept3)))
                rename_i hHeld
                clear hHeld
                go_wp2_with fail
                go_roundw
                case rel =>
                  have hW := ((Below.refl _ w1).alloc (Nat.le_refl _) (.cells #[.string ky] 9)).drew
                  refine ⟨k + 1, insT ky.data.toList q, by omega, by go_num, HN.out.symm, ?_, ?_, ?_⟩
                  · rw [HI.out]
                    have h := O3.out
                    have e1 : (q.take rcap ++ [ky.data.toList] ++ q.drop rcap).length = rcap + [ky.data.toList].length + (q.drop rcap).length := by rw [List.length_append, List.length_append, HQT.out]
                    rw [e1, List.flatMap_append, List.flatMap_append]
                    exact h
                  · intro i hi
                    rcases P3.out i hi with e | e
                    · rcases P2.out i e with e | e
                      · exact (HF.out i rcap e).1
                      · have := V4.out.size; have := K3.out.size; simp at e; omega
                    · have := B2.out.size; have := V4.out.size; have := K3.out.size; simp at *; omega
                  · refine Below.trans K3.out (Below.trans (Below.mono V4.out K3.out.size) ?_)
                    have h12 : But (fun i => w.heap.size ≤ i) w1 w3 := ((Ext.but hW (fun _ => False)).trans B2.out (U := fun i => w.heap.size ≤ i) (fun _ _ e => e.elim) (fun i _ e => (HF.out i rcap e).1)).trans B3.out (U := fun i => w.heap.size ≤ i) (fun _ _ e => e) (fun i _ e => by
                      rcases P2.out i e with e | e
                      · exact (HF.out i rcap e).1
                      · have := V4.out.size; have := K3.out.size; simp at e; omega)
                    exact h12.below (by have := V4.out.size; have := K3.out.size; omega) (fun _ h => h)
                case measure => simp [intOf]; omega
              · go_wp2_with (at_builtin; refine wpList_append_rows (enc := encT) (size := 1) (fun _ => rfl) one_txt rfl (.tmp 47) (.tmp 50) 39 rfl 9 i0 _ 16 Tryz.underlying39 hi hz0 hz1 hz2 rfl (by decide) (.slice (some ⟨wv.heap.size, 0, none⟩) 0 0) 0 [] rfl (World.ownsRow_made wv #[] 0 (Nat.zero_le _) (Nat.zero_le _) rfl) _ (q.drop j) _ (by rw [DL.out]; rfl) ((RD.out.ext V3.out).mono V3.out.size) (by rw [DL.out]; unfold maxLen; omega) (by rw [DL.out]; omega) ?_; intro v1 w1 hown1 hbut1 hkept1; have O1 := Lib.hid hown1; have B1 := Lib.hid hbut1; have P1 := Lib.hid hkept1; clear hown1 hbut1 hkept1)
                have hov : w1.ownsRow 0 9 1 v1 (q.drop j).length ((q.drop j).flatMap encT) := by
                  have := O1.out
                  rwa [Nat.zero_add, List.nil_append] at this
                have hnv : ∀ i, v1.ownBlock = some i → wv.heap.size ≤ i := fun i e => by
                  rcases P1.out i e with e | e
                  · simp [Value.ownBlock] at e; omega
                  · have := E2.out.size; omega
                have DX : Hid ((q.drop j).length = q.length - j) := DL
                have V4 : Hid (Ext wo w1) := Lib.hid (Ext.trans V2.out ((((Ext.but E2.out (fun _ => False)).trans B1.out (U := fun i => i = wv.heap.size) (fun _ _ e => e.elim) (fun i _ e => by simp [Value.ownBlock] at e; exact e.symm))).ext (fun i hi e => by omega)))
                clear O1 B1 P1
                have hsz1 : wo.heap.size ≤ wv.heap.size := V2.out.size
                obtain ⟨r1, c1, rfl, hle1, hmax1, -⟩ := Rows.own (enc := encT) (sz := 1) (fun _ => rfl) hov
                have OV1 := Lib.hid hov; have NV1 := Lib.hid hnv; have LE1 := Lib.hid hle1
                have hcut : ∀ W, Ext w1 W → W.ownsRow 0 9 1 (.slice (some ⟨g, goff, none⟩) j rcap) j ((q.take j).flatMap encT) := fun W hW => by
                  have h := own_cut (own_ext K1.out (Ext.trans V4.out hW)) j (by omega)
                  rwa [flat_take (enc := encT) (sz := 1) (fun _ => rfl)] at h
                have hfresh : ∀ (i : Nat) (cc : Nat), (Value.slice (some ⟨g, goff, none⟩) j cc).ownBlock = some i → w.heap.size ≤ i ∧ i < wo.heap.size := fun i cc e => by
                  have e' : (Value.slice (some ⟨g, goff, none⟩) q.length rcap).ownBlock = some i := by
                    revert e; unfold Value.ownBlock; cases hr0 : ((some ⟨g, goff, none⟩) : Option Addr) <;> simp
                  exact ⟨K2.out i e', (K1.out.lt i e').2⟩
                have hkey : ∀ W, Ext w1 W → W.cell? ⟨b, off + k * 4 + 1, none⟩ = some (.string ky) := fun W hW =>
                  ((Ext.trans V4.out hW).cell (p := ⟨b, off + k * 4 + 1, none⟩) (by have := K3.out.size; simp; omega)).trans d1
                have hbw : b < w.heap.size := hb
                have HCUT := Lib.hid hcut; have HF := Lib.hid hfresh; have HKY := Lib.hid hkey
                have hcell1 := HKY.out w1 (Below.refl _ _)
                have hrow := Rows.fresh' (enc := encT) (sz := 1) (fun _ => rfl) [ky.data.toList]
                have HROW := Lib.hid hrow
                clear hov hnv hle1 hcut hfresh hkey hmax1 hrow
                have hbw1 : b < w1.heap.size := by have := K3.out.size; have := V4.out.size; simp at *; omega
                have hqt : (q.take j).length = j := by rw [List.length_take]; omega
                have HQT := Lib.hid hqt; clear hqt
                have hlast : ∀ W, Ext w1 W → w1.heap.size ≤ W.heap.size := fun W hW => hW.size
                have HLA := Lib.hid hlast; clear hlast
                go_region_held3 (fun W => W.cell? ⟨b, off + k * 4 + 1, none⟩ = some (.string ky)) (first | exact hcell1 | exact hc2 | exact hc3 | exact HKY.out _ (Below.refl _ _).drew | exact HKY.out _ (((Below.refl _ w1).alloc (Nat.le_refl _) _).drew))
                  (first
                  | ((refine step_append_rows (enc := encT) (size := 1) (fun _ => rfl) one_txt (by rfl) (.tmp 54) (.tmp 60) 39 (by rfl) 9 i0 _ 16 Tryz.underlying39 hi hz0 hz1 hz2 rfl (by decide) (.slice (some ⟨g, goff, none⟩) j rcap) j ((q.take j).flatMap encT) (by rfl) (HCUT.out _ (((Below.refl _ w1).alloc (Nat.le_refl _) _).drew)) (some ⟨w1.heap.size, 0, none⟩) [ky.data.toList] 1 (by rfl) (by exact HROW.out w1 9) (by simp only [List.length_singleton]; unfold maxLen; omega) (by simp only [List.length_singleton]; omega) ?_
                      intro v2 w2 hown2 hbut2 hkept2
                      have hc2 : w2.cell? ⟨b, off + k * 4 + 1, none⟩ = some (.string ky) := (hbut2.cell (p := ⟨b, off + k * 4 + 1, none⟩) (by simp; omega) (fun e => by have := (HF.out b rcap e).1; omega)).trans (HKY.out _ (((Below.refl _ w1).alloc (Nat.le_refl _) _).drew))
                      have hov2 := own_but (own_ext OV1.out (((Below.refl _ w1).alloc (Nat.le_refl _) (.cells #[.string ky] 9)).drew)) hbut2 (fun i hi e => by have := NV1.out i hi; have := (HF.out i rcap e).2; omega)
                      have hrw2 := rows_of_own (enc := encT) (fun _ => rfl) hov2
                      have O2 := Lib.hid hown2; have B2 := Lib.hid hbut2; have P2 := Lib.hid hkept2; have R2 := Lib.hid hrw2
                      clear hown2 hbut2 hkept2 hov2 hrw2))
                  | ((refine step_append_rows (enc := encT) (size := 1) (fun _ => rfl) one_txt (by rfl) (.tmp 61) (.tmp 62) 39 (by rfl) 9 i0 _ 16 Tryz.underlying39 hi hz0 hz1 hz2 rfl (by decide) v2 _ _ (by rfl) O2.out r1 (q.drop j) c1 (by rw [DX.out]; rfl) R2.out (by rw [DL.out, List.length_singleton]; unfold maxLen; omega) (by rw [DL.out, List.length_singleton]; omega) ?_
                      intro v3 w3 hown3 hbut3 hkept3
                      have hc3 : w3.cell? ⟨b, off + k * 4 + 1, none⟩ = some (.string ky) := (hbut3.cell (p := ⟨b, off + k * 4 + 1, none⟩) (block_lt_of_cell hc2) (fun e => by
                        rcases P2.out b e with e | e
                        · have := (HF.out b rcap e).1; omega
                        · simp at e; omega)).trans hc2
                      have O3 := Lib.hid hown3; have B3 := Lib.hid hbut3; have P3 := Lib.hid hkept3
                      clear hown3 hbut3 hkept3)))
                rename_i hHeld
                clear hHeld
                go_wp2_with fail
                go_roundw
                case rel =>
                  have hW := ((Below.refl _ w1).alloc (Nat.le_refl _) (.cells #[.string ky] 9)).drew
                  refine ⟨k + 1, insT ky.data.toList q, by omega, by go_num, HN.out.symm, ?_, ?_, ?_⟩
                  · rw [HI.out]
                    have h := O3.out
                    have e1 : (q.take j ++ [ky.data.toList] ++ q.drop j).length = j + [ky.data.toList].length + (q.drop j).length := by rw [List.length_append, List.length_append, HQT.out]
                    rw [e1, List.flatMap_append, List.flatMap_append]
                    exact h
                  · intro i hi
                    rcases P3.out i hi with e | e
                    · rcases P2.out i e with e | e
                      · exact (HF.out i rcap e).1
                      · have := V4.out.size; have := K3.out.size; simp at e; omega
                    · have := B2.out.size; have := V4.out.size; have := K3.out.size; simp at *; omega
                  · refine Below.trans K3.out (Below.trans (Below.mono V4.out K3.out.size) ?_)
                    have h12 : But (fun i => w.heap.size ≤ i) w1 w3 := ((Ext.but hW (fun _ => False)).trans B2.out (U := fun i => w.heap.size ≤ i) (fun _ _ e => e.elim) (fun i _ e => (HF.out i rcap e).1)).trans B3.out (U := fun i => w.heap.size ≤ i) (fun _ _ e => e) (fun i _ e => by
                      rcases P2.out i e with e | e
                      · exact (HF.out i rcap e).1
                      · have := V4.out.size; have := K3.out.size; simp at e; omega)
                    exact h12.below (by have := V4.out.size; have := K3.out.size; omega) (fun _ h => h)
                case measure => simp [intOf]; omega
        · have hjq : j = q.length := by omega
          have hpl : placeT ky.data.toList q = j := place_at _ _ _ hj J1.out (fun x hx => by rw [hjq] at hx; simp at hx)
          have hins : insT ky.data.toList q = q.take j ++ [ky.data.toList] ++ q.drop j := by
            unfold insT; rw [hpl, if_neg (by rw [hjq]; simp)]
          have HI := Lib.hid hins
          have g1 : decide ((j : Int) < (q.length : Int)) = false := decide_eq_false (by omega)
          have g2 : decide (j < q.length) = false := decide_eq_false (by omega)
          clear hjq hpl hins
          go_wp2_with fail
          go_quiet (fail)
          go_wp2_with fail
          go_quiet (fail)
          rcases own_cases K1.out with ⟨hv, h0⟩ | ⟨g, cap3, hv, -, -⟩
          · simp only [Value.slice.injEq] at hv
            obtain ⟨rfl, -, hc0⟩ := hv
            have hrj : rcap = j := by omega
            clear hc0
            have HRJ := Lib.hid hrj; clear hrj
            have rd : Rows 1 encT wo.heap.size wo none (q.drop j) := by
              rw [List.drop_eq_nil_of_le (by omega)]; exact Rows.nil _ _ _ _ _
            generalize hwv : (wr.drewN _).drewN _ = wv
            have hv2 : Ext wo wv := by rw [← hwv]; exact Ext.drewN (Ext.drewN J2.out _) _
            have V2 := Lib.hid hv2
            have e2 : Ext wv (wv.alloc (.cells #[] 9)) := (Below.refl _ wv).alloc (Nat.le_refl _) _
            have V3 := Lib.hid (Ext.trans hv2 e2); have E2 := Lib.hid e2
            clear hwv hv2 e2
            have j0 : (0 : Int) ≤ (j : Int) := by omega
            have j1 : (j : Int) ≤ (q.length : Int) := by omega
            have j2 : (j : Int) ≤ (rcap : Int) := by omega
            have rn : rcap = j → q.drop j = [] := fun e => List.drop_eq_nil_of_le (by omega)
            have hdl : (q.drop j).length = q.length - j := List.length_drop
            have RD := Lib.hid rd; have RN := Lib.hid rn; have DL := Lib.hid hdl
            clear rd rn hdl
            have hck := HRJ.out
            subst hck
            have DN := Lib.hid (RN.out rfl); clear RN
            go_wp2_with fail
            have hov : (wv.alloc (.cells #[] 9)).ownsRow 0 9 1 (.slice (some ⟨wv.heap.size, 0, none⟩) 0 0) (q.drop rcap).length ((q.drop rcap).flatMap encT) := by
              rw [DN.out]; exact World.ownsRow_made wv #[] 0 (Nat.zero_le _) (Nat.zero_le _) rfl
            have hnv : ∀ i, (Value.slice (some ⟨wv.heap.size, 0, none⟩) 0 0).ownBlock = some i → wv.heap.size ≤ i := fun i e => by simp [Value.ownBlock] at e; omega
            have DX : Hid ((q.drop rcap).length = 0) := Lib.hid (by rw [DN.out]; rfl)
            have V4 := V3
            generalize wv.alloc (.cells #[] 9) = w1 at *
            generalize Value.slice (some ⟨wv.heap.size, 0, none⟩) 0 0 = v1 at *
            have hsz1 : wo.heap.size ≤ wv.heap.size := V2.out.size
            obtain ⟨r1, c1, rfl, hle1, hmax1, -⟩ := Rows.own (enc := encT) (sz := 1) (fun _ => rfl) hov
            have OV1 := Lib.hid hov; have NV1 := Lib.hid hnv; have LE1 := Lib.hid hle1
            have hcut : ∀ W, Ext w1 W → W.ownsRow 0 9 1 (.slice none rcap rcap) rcap ((q.take rcap).flatMap encT) := fun W hW => by
              have h := own_cut (own_ext K1.out (Ext.trans V4.out hW)) rcap (by omega)
              rwa [flat_take (enc := encT) (sz := 1) (fun _ => rfl)] at h
            have hfresh : ∀ (i : Nat) (cc : Nat), (Value.slice none rcap cc).ownBlock = some i → w.heap.size ≤ i ∧ i < wo.heap.size := fun i cc e => by
              have e' : (Value.slice none q.length rcap).ownBlock = some i := by
                revert e; unfold Value.ownBlock; cases hr0 : (none : Option Addr) <;> simp
              exact ⟨K2.out i e', (K1.out.lt i e').2⟩
            have hkey : ∀ W, Ext w1 W → W.cell? ⟨b, off + k * 4 + 1, none⟩ = some (.string ky) := fun W hW =>
              ((Ext.trans V4.out hW).cell (p := ⟨b, off + k * 4 + 1, none⟩) (by have := K3.out.size; simp; omega)).trans d1
            have hbw : b < w.heap.size := hb
            have HCUT := Lib.hid hcut; have HF := Lib.hid hfresh; have HKY := Lib.hid hkey
            have hcell1 := HKY.out w1 (Below.refl _ _)
            have hrow := Rows.fresh' (enc := encT) (sz := 1) (fun _ => rfl) [ky.data.toList]
            have HROW := Lib.hid hrow
            clear hov hnv hle1 hcut hfresh hkey hmax1 hrow
            have hbw1 : b < w1.heap.size := by have := K3.out.size; have := V4.out.size; simp at *; omega
            have hqt : (q.take rcap).length = rcap := by rw [List.length_take]; omega
            have HQT := Lib.hid hqt; clear hqt
            have hlast : ∀ W, Ext w1 W → w1.heap.size ≤ W.heap.size := fun W hW => hW.size
            have HLA := Lib.hid hlast; clear hlast
            go_region_held3 (fun W => W.cell? ⟨b, off + k * 4 + 1, none⟩ = some (.string ky)) (first | exact hcell1 | exact hc2 | exact hc3 | exact HKY.out _ (Below.refl _ _).drew | exact HKY.out _ (((Below.refl _ w1).alloc (Nat.le_refl _) _).drew))
              (first
              | ((refine step_append_rows (enc := encT) (size := 1) (fun _ => rfl) one_txt (by rfl) (.tmp 54) (.tmp 60) 39 (by rfl) 9 i0 _ 16 Tryz.underlying39 hi hz0 hz1 hz2 rfl (by decide) (.slice none rcap rcap) rcap ((q.take rcap).flatMap encT) (by rfl) (HCUT.out _ (((Below.refl _ w1).alloc (Nat.le_refl _) _).drew)) (some ⟨w1.heap.size, 0, none⟩) [ky.data.toList] 1 (by rfl) (by exact HROW.out w1 9) (by simp only [List.length_singleton]; unfold maxLen; omega) (by simp only [List.length_singleton]; omega) ?_
                  intro v2 w2 hown2 hbut2 hkept2
                  have hc2 : w2.cell? ⟨b, off + k * 4 + 1, none⟩ = some (.string ky) := (hbut2.cell (p := ⟨b, off + k * 4 + 1, none⟩) (by simp; omega) (fun e => by have := (HF.out b rcap e).1; omega)).trans (HKY.out _ (((Below.refl _ w1).alloc (Nat.le_refl _) _).drew))
                  have hov2 := own_but (own_ext OV1.out (((Below.refl _ w1).alloc (Nat.le_refl _) (.cells #[.string ky] 9)).drew)) hbut2 (fun i hi e => by have := NV1.out i hi; have := (HF.out i rcap e).2; omega)
                  have hrw2 := rows_of_own (enc := encT) (fun _ => rfl) hov2
                  have O2 := Lib.hid hown2; have B2 := Lib.hid hbut2; have P2 := Lib.hid hkept2; have R2 := Lib.hid hrw2
                  clear hown2 hbut2 hkept2 hov2 hrw2))
              | ((refine step_append_rows (enc := encT) (size := 1) (fun _ => rfl) one_txt (by rfl) (.tmp 61) (.tmp 62) 39 (by rfl) 9 i0 _ 16 Tryz.underlying39 hi hz0 hz1 hz2 rfl (by decide) v2 _ _ (by rfl) O2.out r1 (q.drop rcap) c1 (by rw [DX.out]; rfl) R2.out (by rw [DL.out, List.length_singleton]; unfold maxLen; omega) (by rw [DL.out, List.length_singleton]; omega) ?_
                  intro v3 w3 hown3 hbut3 hkept3
                  have hc3 : w3.cell? ⟨b, off + k * 4 + 1, none⟩ = some (.string ky) := (hbut3.cell (p := ⟨b, off + k * 4 + 1, none⟩) (block_lt_of_cell hc2) (fun e => by
                    rcases P2.out b e with e | e
                    · have := (HF.out b rcap e).1; omega
                    · simp at e; omega)).trans hc2
                  have O3 := Lib.hid hown3; have B3 := Lib.hid hbut3; have P3 := Lib.hid hkept3
                  clear hown3 hbut3 hkept3)))
            rename_i hHeld
            clear hHeld
            go_wp2_with fail
            go_roundw
            case rel =>
              have hW := ((Below.refl _ w1).alloc (Nat.le_refl _) (.cells #[.string ky] 9)).drew
              refine ⟨k + 1, insT ky.data.toList q, by omega, by go_num, HN.out.symm, ?_, ?_, ?_⟩
              · rw [HI.out]
                have h := O3.out
                have e1 : (q.take rcap ++ [ky.data.toList] ++ q.drop rcap).length = rcap + [ky.data.toList].length + (q.drop rcap).length := by rw [List.length_append, List.length_append, HQT.out]
                rw [e1, List.flatMap_append, List.flatMap_append]
                exact h
              · intro i hi
                rcases P3.out i hi with e | e
                · rcases P2.out i e with e | e
                  · exact (HF.out i rcap e).1
                  · have := V4.out.size; have := K3.out.size; simp at e; omega
                · have := B2.out.size; have := V4.out.size; have := K3.out.size; simp at *; omega
              · refine Below.trans K3.out (Below.trans (Below.mono V4.out K3.out.size) ?_)
                have h12 : But (fun i => w.heap.size ≤ i) w1 w3 := ((Ext.but hW (fun _ => False)).trans B2.out (U := fun i => w.heap.size ≤ i) (fun _ _ e => e.elim) (fun i _ e => (HF.out i rcap e).1)).trans B3.out (U := fun i => w.heap.size ≤ i) (fun _ _ e => e) (fun i _ e => by
                  rcases P2.out i e with e | e
                  · exact (HF.out i rcap e).1
                  · have := V4.out.size; have := K3.out.size; simp at e; omega)
                exact h12.below (by have := V4.out.size; have := K3.out.size; omega) (fun _ h => h)
            case measure => simp [intOf]; omega
          · simp only [Value.slice.injEq, true_and] at hv
            obtain ⟨rfl, rfl⟩ := hv
            have rd : Rows 1 encT wo.heap.size wo (some ⟨g, 0 + j, none⟩) (q.drop j) := by
              have h := Rows.drop R1.out j
              rwa [Nat.mul_one] at h
            rw [Nat.zero_add] at rd
            generalize hwv : (wr.drewN _).drewN _ = wv
            have hv2 : Ext wo wv := by rw [← hwv]; exact Ext.drewN (Ext.drewN J2.out _) _
            have V2 := Lib.hid hv2
            have e2 : Ext wv (wv.alloc (.cells #[] 9)) := (Below.refl _ wv).alloc (Nat.le_refl _) _
            have V3 := Lib.hid (Ext.trans hv2 e2); have E2 := Lib.hid e2
            clear hwv hv2 e2
            have j0 : (0 : Int) ≤ (j : Int) := by omega
            have j1 : (j : Int) ≤ (q.length : Int) := by omega
            have j2 : (j : Int) ≤ (rcap : Int) := by omega
            have rn : rcap = j → q.drop j = [] := fun e => List.drop_eq_nil_of_le (by omega)
            have hdl : (q.drop j).length = q.length - j := List.length_drop
            have RD := Lib.hid rd; have RN := Lib.hid rn; have DL := Lib.hid hdl
            clear rd rn hdl
            by_cases hck : rcap = j
            · subst hck
              have DN := Lib.hid (RN.out rfl); clear RN
              go_wp2_with fail
              have hov : (wv.alloc (.cells #[] 9)).ownsRow 0 9 1 (.slice (some ⟨wv.heap.size, 0, none⟩) 0 0) (q.drop rcap).length ((q.drop rcap).flatMap encT) := by
                rw [DN.out]; exact World.ownsRow_made wv #[] 0 (Nat.zero_le _) (Nat.zero_le _) rfl
              have hnv : ∀ i, (Value.slice (some ⟨wv.heap.size, 0, none⟩) 0 0).ownBlock = some i → wv.heap.size ≤ i := fun i e => by simp [Value.ownBlock] at e; omega
              have DX : Hid ((q.drop rcap).length = 0) := Lib.hid (by rw [DN.out]; rfl)
              have V4 := V3
              generalize wv.alloc (.cells #[] 9) = w1 at *
              generalize Value.slice (some ⟨wv.heap.size, 0, none⟩) 0 0 = v1 at *
              have hsz1 : wo.heap.size ≤ wv.heap.size := V2.out.size
              obtain ⟨r1, c1, rfl, hle1, hmax1, -⟩ := Rows.own (enc := encT) (sz := 1) (fun _ => rfl) hov
              have OV1 := Lib.hid hov; have NV1 := Lib.hid hnv; have LE1 := Lib.hid hle1
              have hcut : ∀ W, Ext w1 W → W.ownsRow 0 9 1 (.slice (some ⟨g, 0, none⟩) rcap rcap) rcap ((q.take rcap).flatMap encT) := fun W hW => by
                have h := own_cut (own_ext K1.out (Ext.trans V4.out hW)) rcap (by omega)
                rwa [flat_take (enc := encT) (sz := 1) (fun _ => rfl)] at h
              have hfresh : ∀ (i : Nat) (cc : Nat), (Value.slice (some ⟨g, 0, none⟩) rcap cc).ownBlock = some i → w.heap.size ≤ i ∧ i < wo.heap.size := fun i cc e => by
                have e' : (Value.slice (some ⟨g, 0, none⟩) q.length rcap).ownBlock = some i := by
                  revert e; unfold Value.ownBlock; cases hr0 : ((some ⟨g, 0, none⟩) : Option Addr) <;> simp
                exact ⟨K2.out i e', (K1.out.lt i e').2⟩
              have hkey : ∀ W, Ext w1 W → W.cell? ⟨b, off + k * 4 + 1, none⟩ = some (.string ky) := fun W hW =>
                ((Ext.trans V4.out hW).cell (p := ⟨b, off + k * 4 + 1, none⟩) (by have := K3.out.size; simp; omega)).trans d1
              have hbw : b < w.heap.size := hb
              have HCUT := Lib.hid hcut; have HF := Lib.hid hfresh; have HKY := Lib.hid hkey
              have hcell1 := HKY.out w1 (Below.refl _ _)
              have hrow := Rows.fresh' (enc := encT) (sz := 1) (fun _ => rfl) [ky.data.toList]
              have HROW := Lib.hid hrow
              clear hov hnv hle1 hcut hfresh hkey hmax1 hrow
              have hbw1 : b < w1.heap.size := by have := K3.out.size; have := V4.out.size; simp at *; omega
              have hqt : (q.take rcap).length = rcap := by rw [List.length_take]; omega
              have HQT := Lib.hid hqt; clear hqt
              have hlast : ∀ W, Ext w1 W → w1.heap.size ≤ W.heap.size := fun W hW => hW.size
              have HLA := Lib.hid hlast; clear hlast
              go_region_held3 (fun W => W.cell? ⟨b, off + k * 4 + 1, none⟩ = some (.string ky)) (first | exact hcell1 | exact hc2 | exact hc3 | exact HKY.out _ (Below.refl _ _).drew | exact HKY.out _ (((Below.refl _ w1).alloc (Nat.le_refl _) _).drew))
                (first
                | ((refine step_append_rows (enc := encT) (size := 1) (fun _ => rfl) one_txt (by rfl) (.tmp 54) (.tmp 60) 39 (by rfl) 9 i0 _ 16 Tryz.underlying39 hi hz0 hz1 hz2 rfl (by decide) (.slice (some ⟨g, 0, none⟩) rcap rcap) rcap ((q.take rcap).flatMap encT) (by rfl) (HCUT.out _ (((Below.refl _ w1).alloc (Nat.le_refl _) _).drew)) (some ⟨w1.heap.size, 0, none⟩) [ky.data.toList] 1 (by rfl) (by exact HROW.out w1 9) (by simp only [List.length_singleton]; unfold maxLen; omega) (by simp only [List.length_singleton]; omega) ?_
                    intro v2 w2 hown2 hbut2 hkept2
                    have hc2 : w2.cell? ⟨b, off + k * 4 + 1, none⟩ = some (.string ky) := (hbut2.cell (p := ⟨b, off + k * 4 + 1, none⟩) (by simp; omega) (fun e => by have := (HF.out b rcap e).1; omega)).trans (HKY.out _ (((Below.refl _ w1).alloc (Nat.le_refl _) _).drew))
                    have hov2 := own_but (own_ext OV1.out (((Below.refl _ w1).alloc (Nat.le_refl _) (.cells #[.string ky] 9)).drew)) hbut2 (fun i hi e => by have := NV1.out i hi; have := (HF.out i rcap e).2; omega)
                    have hrw2 := rows_of_own (enc := encT) (fun _ => rfl) hov2
                    have O2 := Lib.hid hown2; have B2 := Lib.hid hbut2; have P2 := Lib.hid hkept2; have R2 := Lib.hid hrw2
                    clear hown2 hbut2 hkept2 hov2 hrw2))
                | ((refine step_append_rows (enc := encT) (size := 1) (fun _ => rfl) one_txt (by rfl) (.tmp 61) (.tmp 62) 39 (by rfl) 9 i0 _ 16 Tryz.underlying39 hi hz0 hz1 hz2 rfl (by decide) v2 _ _ (by rfl) O2.out r1 (q.drop rcap) c1 (by rw [DX.out]; rfl) R2.out (by rw [DL.out, List.length_singleton]; unfold maxLen; omega) (by rw [DL.out, List.length_singleton]; omega) ?_
                    intro v3 w3 hown3 hbut3 hkept3
                    have hc3 : w3.cell? ⟨b, off + k * 4 + 1, none⟩ = some (.string ky) := (hbut3.cell (p := ⟨b, off + k * 4 + 1, none⟩) (block_lt_of_cell hc2) (fun e => by
                      rcases P2.out b e with e | e
                      · have := (HF.out b rcap e).1; omega
                      · simp at e; omega)).trans hc2
                    have O3 := Lib.hid hown3; have B3 := Lib.hid hbut3; have P3 := Lib.hid hkept3
                    clear hown3 hbut3 hkept3)))
              rename_i hHeld
              clear hHeld
              go_wp2_with fail
              go_roundw
              case rel =>
                have hW := ((Below.refl _ w1).alloc (Nat.le_refl _) (.cells #[.string ky] 9)).drew
                refine ⟨k + 1, insT ky.data.toList q, by omega, by go_num, HN.out.symm, ?_, ?_, ?_⟩
                · rw [HI.out]
                  have h := O3.out
                  have e1 : (q.take rcap ++ [ky.data.toList] ++ q.drop rcap).length = rcap + [ky.data.toList].length + (q.drop rcap).length := by rw [List.length_append, List.length_append, HQT.out]
                  rw [e1, List.flatMap_append, List.flatMap_append]
                  exact h
                · intro i hi
                  rcases P3.out i hi with e | e
                  · rcases P2.out i e with e | e
                    · exact (HF.out i rcap e).1
                    · have := V4.out.size; have := K3.out.size; simp at e; omega
                  · have := B2.out.size; have := V4.out.size; have := K3.out.size; simp at *; omega
                · refine Below.trans K3.out (Below.trans (Below.mono V4.out K3.out.size) ?_)
                  have h12 : But (fun i => w.heap.size ≤ i) w1 w3 := ((Ext.but hW (fun _ => False)).trans B2.out (U := fun i => w.heap.size ≤ i) (fun _ _ e => e.elim) (fun i _ e => (HF.out i rcap e).1)).trans B3.out (U := fun i => w.heap.size ≤ i) (fun _ _ e => e) (fun i _ e => by
                    rcases P2.out i e with e | e
                    · exact (HF.out i rcap e).1
                    · have := V4.out.size; have := K3.out.size; simp at e; omega)
                  exact h12.below (by have := V4.out.size; have := K3.out.size; omega) (fun _ h => h)
              case measure => simp [intOf]; omega
            · go_wp2_with (at_builtin; refine wpList_append_rows (enc := encT) (size := 1) (fun _ => rfl) one_txt rfl (.tmp 47) (.tmp 50) 39 rfl 9 i0 _ 16 Tryz.underlying39 hi hz0 hz1 hz2 rfl (by decide) (.slice (some ⟨wv.heap.size, 0, none⟩) 0 0) 0 [] rfl (World.ownsRow_made wv #[] 0 (Nat.zero_le _) (Nat.zero_le _) rfl) _ (q.drop j) _ (by rw [DL.out]; rfl) ((RD.out.ext V3.out).mono V3.out.size) (by rw [DL.out]; unfold maxLen; omega) (by rw [DL.out]; omega) ?_; intro v1 w1 hown1 hbut1 hkept1; have O1 := Lib.hid hown1; have B1 := Lib.hid hbut1; have P1 := Lib.hid hkept1; clear hown1 hbut1 hkept1)
              have hov : w1.ownsRow 0 9 1 v1 (q.drop j).length ((q.drop j).flatMap encT) := by
                have := O1.out
                rwa [Nat.zero_add, List.nil_append] at this
              have hnv : ∀ i, v1.ownBlock = some i → wv.heap.size ≤ i := fun i e => by
                rcases P1.out i e with e | e
                · simp [Value.ownBlock] at e; omega
                · have := E2.out.size; omega
              have DX : Hid ((q.drop j).length = q.length - j) := DL
              have V4 : Hid (Ext wo w1) := Lib.hid (Ext.trans V2.out ((((Ext.but E2.out (fun _ => False)).trans B1.out (U := fun i => i = wv.heap.size) (fun _ _ e => e.elim) (fun i _ e => by simp [Value.ownBlock] at e; exact e.symm))).ext (fun i hi e => by omega)))
              clear O1 B1 P1
              have hsz1 : wo.heap.size ≤ wv.heap.size := V2.out.size
              obtain ⟨r1, c1, rfl, hle1, hmax1, -⟩ := Rows.own (enc := encT) (sz := 1) (fun _ => rfl) hov
              have OV1 := Lib.hid hov; have NV1 := Lib.hid hnv; have LE1 := Lib.hid hle1
              have hcut : ∀ W, Ext w1 W → W.ownsRow 0 9 1 (.slice (some ⟨g, 0, none⟩) j rcap) j ((q.take j).flatMap encT) := fun W hW => by
                have h := own_cut (own_ext K1.out (Ext.trans V4.out hW)) j (by omega)
                rwa [flat_take (enc := encT) (sz := 1) (fun _ => rfl)] at h
              have hfresh : ∀ (i : Nat) (cc : Nat), (Value.slice (some ⟨g, 0, none⟩) j cc).ownBlock = some i → w.heap.size ≤ i ∧ i < wo.heap.size := fun i cc e => by
                have e' : (Value.slice (some ⟨g, 0, none⟩) q.length rcap).ownBlock = some i := by
                  revert e; unfold Value.ownBlock; cases hr0 : ((some ⟨g, 0, none⟩) : Option Addr) <;> simp
                exact ⟨K2.out i e', (K1.out.lt i e').2⟩
              have hkey : ∀ W, Ext w1 W → W.cell? ⟨b, off + k * 4 + 1, none⟩ = some (.string ky) := fun W hW =>
                ((Ext.trans V4.out hW).cell (p := ⟨b, off + k * 4 + 1, none⟩) (by have := K3.out.size; simp; omega)).trans d1
              have hbw : b < w.heap.size := hb
              have HCUT := Lib.hid hcut; have HF := Lib.hid hfresh; have HKY := Lib.hid hkey
              have hcell1 := HKY.out w1 (Below.refl _ _)
              have hrow := Rows.fresh' (enc := encT) (sz := 1) (fun _ => rfl) [ky.data.toList]
              have HROW := Lib.hid hrow
              clear hov hnv hle1 hcut hfresh hkey hmax1 hrow
              have hbw1 : b < w1.heap.size := by have := K3.out.size; have := V4.out.size; simp at *; omega
              have hqt : (q.take j).length = j := by rw [List.length_take]; omega
              have HQT := Lib.hid hqt; clear hqt
              have hlast : ∀ W, Ext w1 W → w1.heap.size ≤ W.heap.size := fun W hW => hW.size
              have HLA := Lib.hid hlast; clear hlast
              go_region_held3 (fun W => W.cell? ⟨b, off + k * 4 + 1, none⟩ = some (.string ky)) (first | exact hcell1 | exact hc2 | exact hc3 | exact HKY.out _ (Below.refl _ _).drew | exact HKY.out _ (((Below.refl _ w1).alloc (Nat.le_refl _) _).drew))
                (first
                | ((refine step_append_rows (enc := encT) (size := 1) (fun _ => rfl) one_txt (by rfl) (.tmp 54) (.tmp 60) 39 (by rfl) 9 i0 _ 16 Tryz.underlying39 hi hz0 hz1 hz2 rfl (by decide) (.slice (some ⟨g, 0, none⟩) j rcap) j ((q.take j).flatMap encT) (by rfl) (HCUT.out _ (((Below.refl _ w1).alloc (Nat.le_refl _) _).drew)) (some ⟨w1.heap.size, 0, none⟩) [ky.data.toList] 1 (by rfl) (by exact HROW.out w1 9) (by simp only [List.length_singleton]; unfold maxLen; omega) (by simp only [List.length_singleton]; omega) ?_
                    intro v2 w2 hown2 hbut2 hkept2
                    have hc2 : w2.cell? ⟨b, off + k * 4 + 1, none⟩ = some (.string ky) := (hbut2.cell (p := ⟨b, off + k * 4 + 1, none⟩) (by simp; omega) (fun e => by have := (HF.out b rcap e).1; omega)).trans (HKY.out _ (((Below.refl _ w1).alloc (Nat.le_refl _) _).drew))
                    have hov2 := own_but (own_ext OV1.out (((Below.refl _ w1).alloc (Nat.le_refl _) (.cells #[.string ky] 9)).drew)) hbut2 (fun i hi e => by have := NV1.out i hi; have := (HF.out i rcap e).2; omega)
                    have hrw2 := rows_of_own (enc := encT) (fun _ => rfl) hov2
                    have O2 := Lib.hid hown2; have B2 := Lib.hid hbut2; have P2 := Lib.hid hkept2; have R2 := Lib.hid hrw2
                    clear hown2 hbut2 hkept2 hov2 hrw2))
                | ((refine step_append_rows (enc := encT) (size := 1) (fun _ => rfl) one_txt (by rfl) (.tmp 61) (.tmp 62) 39 (by rfl) 9 i0 _ 16 Tryz.underlying39 hi hz0 hz1 hz2 rfl (by decide) v2 _ _ (by rfl) O2.out r1 (q.drop j) c1 (by rw [DX.out]; rfl) R2.out (by rw [DL.out, List.length_singleton]; unfold maxLen; omega) (by rw [DL.out, List.length_singleton]; omega) ?_
                    intro v3 w3 hown3 hbut3 hkept3
                    have hc3 : w3.cell? ⟨b, off + k * 4 + 1, none⟩ = some (.string ky) := (hbut3.cell (p := ⟨b, off + k * 4 + 1, none⟩) (block_lt_of_cell hc2) (fun e => by
                      rcases P2.out b e with e | e
                      · have := (HF.out b rcap e).1; omega
                      · simp at e; omega)).trans hc2
                    have O3 := Lib.hid hown3; have B3 := Lib.hid hbut3; have P3 := Lib.hid hkept3
                    clear hown3 hbut3 hkept3)))
              rename_i hHeld
              clear hHeld
              go_wp2_with fail
              go_roundw
              case rel =>
                have hW := ((Below.refl _ w1).alloc (Nat.le_refl _) (.cells #[.string ky] 9)).drew
                refine ⟨k + 1, insT ky.data.toList q, by omega, by go_num, HN.out.symm, ?_, ?_, ?_⟩
                · rw [HI.out]
                  have h := O3.out
                  have e1 : (q.take j ++ [ky.data.toList] ++ q.drop j).length = j + [ky.data.toList].length + (q.drop j).length := by rw [List.length_append, List.length_append, HQT.out]
                  rw [e1, List.flatMap_append, List.flatMap_append]
                  exact h
                · intro i hi
                  rcases P3.out i hi with e | e
                  · rcases P2.out i e with e | e
                    · exact (HF.out i rcap e).1
                    · have := V4.out.size; have := K3.out.size; simp at e; omega
                  · have := B2.out.size; have := V4.out.size; have := K3.out.size; simp at *; omega
                · refine Below.trans K3.out (Below.trans (Below.mono V4.out K3.out.size) ?_)
                  have h12 : But (fun i => w.heap.size ≤ i) w1 w3 := ((Ext.but hW (fun _ => False)).trans B2.out (U := fun i => w.heap.size ≤ i) (fun _ _ e => e.elim) (fun i _ e => (HF.out i rcap e).1)).trans B3.out (U := fun i => w.heap.size ≤ i) (fun _ _ e => e) (fun i _ e => by
                    rcases P2.out i e with e | e
                    · exact (HF.out i rcap e).1
                    · have := V4.out.size; have := K3.out.size; simp at e; omega)
                  exact h12.below (by have := V4.out.size; have := K3.out.size; omega) (fun _ h => h)
              case measure => simp [intOf]; omega
    · have hall : (l.map keyT).take k = l.map keyT := List.take_of_length_le (by simp; omega)
      have hq2 : q = keysL l := by rw [hq, hall, refKeys_eq]
      have HQ := Lib.hid hq2
      clear hall hq hq2
      obtain ⟨ro, rcap, rfl, hle, hmax, hrr⟩ := Rows.own (enc := encT) (sz := 1) (fun _ => rfl) K1.out
      have R1 := Lib.hid hrr; clear hrr
      go_wp2_with fail
      go_ret
      exact ⟨ro, rcap, by rw [← HQ.out]; rfl, by rw [← HQ.out]; exact R1.out, K3.out⟩
end Go.Proofs.YtjplmghhleoolaaGreatDoor
