/- WitnessOrder: what Fit lets through stands, what Order finds fits. -/
import Derived.Test.YtngahblgicjoiaaGreatDoorOrderLaw
import Derived.Test.YtngahblgicjoiaaGreatDoorOrdered
import Derived.Test.YtngahblgicjoiaaGreatDoorSameLn
import Derived.Test.YtngahblgicjoiaaGreatDoorPick
import Derived.Deep.DeepMust
import Derived.Deep.CutRange
import Derived.Deep.DeepCutAuto
namespace Go.Proofs.YtngahblgicjoiaaGreatDoor
open Go.RowKit

theorem slice_toX (ao : Option Addr) (len cap n : Nat) (h : n ≤ cap) : ∃ ao', (∀ b off, ao = some ⟨b, off, none⟩ → ao' = ao) ∧ ∀ W, (Instr.slice 22 (.slice ao len cap) none (some (.int .i64 n)) none).run Tryz.prog W = .ok (.slice ao' n cap) W := by
  refine ⟨if cap = 0 then ao else ao.map (·.add (0 * 6)), fun b off e => ?_, fun W => ?_⟩
  · rw [e]; by_cases hc : cap = 0 <;> simp [hc, WideShapes.add_plain]
  · rw [run_slice_h W _ _ _ _ elemSteps .i64 n (by omega) (by omega), sizeSteps W]
    simp only [Result.andThen_ok, sliced, Int.toNat_natCast, Nat.sub_zero]
theorem StepsAt.toX {w : World} {ao ao' : Option Addr} {l : List StepZ} (h : StepsAt w ao l) (ha : ∀ b off, ao = some ⟨b, off, none⟩ → ao' = ao) (k : Nat) : StepsAt w ao' (l.take k) := by
  refine ⟨fun hne => ?_, fun z hz => h.2 z (List.mem_of_mem_take hz)⟩
  have hne' : l ≠ [] := fun e => hne (by rw [e]; simp)
  obtain ⟨b, off, e, -⟩ := h.1 hne'
  rw [ha b off e]
  exact (h.1.take k) hne
theorem afterR_few {rows : List RowD} {x : StepD} (hx : x.ok) (h : ∀ r ∈ rows, r.ok) : (∀ r ∈ afterR rows x, r.ok) ∧ (afterR rows x).length ≤ rows.length + 6 := by
  unfold afterR
  split
  · rename_i hr
    have h1 := doneK_ok hx.acts h
    have h2 := (rightS_kinds hr).2.1
    exact ⟨h1.1, Nat.le_trans h1.2 (by omega)⟩
  · exact ⟨h, by omega⟩
theorem foldR_few : ∀ (l : List StepD) (rows : List RowD), (∀ x ∈ l, x.ok) → (∀ r ∈ rows, r.ok) → (∀ r ∈ l.foldl afterR rows, r.ok) ∧ (l.foldl afterR rows).length ≤ rows.length + 6 * l.length
  | [], rows, _, h => ⟨h, by simp⟩
  | x :: l, rows, hx, h => by
    have h1 := afterR_few (hx x (by simp)) h
    have h2 := foldR_few l (afterR rows x) (fun y hy => hx y (by simp [hy])) h1.1
    simp only [List.foldl_cons, List.length_cons]
    exact ⟨h2.1, by have := h2.2; have := h1.2; omega⟩
theorem after_few {l : List StepD} (h : ∀ x ∈ l, x.ok) : (∀ r ∈ afterD l, r.ok) ∧ (afterD l).length ≤ 6 * l.length := by
  have := foldR_few l [] h (by simp)
  simpa [afterD] using this
theorem order_res {ds a : List StepD} (h : orderD ds = some a) : a.Perm ds ∧ fitD a = (ds.length, 0) ∧ timeD a = (-1, -1) := by
  unfold orderD at h
  split at h
  · cases h
  · exact order_fits h
theorem order_gives {l l1 : List StepZ} {ds a : List StepD} (ha : orderD ds = some a) (hp : ds.Perm (l.map (·.d))) (h1 : l1.map (·.d) = a) :
    l1.length = l.length ∧ fitD (l1.map (·.d)) = (l.length, 0) ∧ timeD (l1.map (·.d)) = (-1, -1) ∧ (∀ z ∈ l1, ∃ y ∈ l, y.d = z.d) ∧ (∀ x ∈ l, ∃ y ∈ l1, y.d = x.d) := by
  obtain ⟨p1, p2, p3⟩ := order_res ha
  have hpp : (l1.map (·.d)).Perm (l.map (·.d)) := by rw [h1]; exact p1.trans hp
  have hlen : ds.length = l.length := by have := hp.length_eq; rwa [List.length_map] at this
  refine ⟨by have := hpp.length_eq; simpa using this, by rw [h1, p2, hlen], by rw [h1, p3], fun z hz => ?_, fun x hx => ?_⟩
  · obtain ⟨y, hy, e⟩ := List.mem_map.1 (hpp.mem_iff.1 (List.mem_map.2 ⟨z, hz, rfl⟩))
    exact ⟨y, hy, e⟩
  · obtain ⟨y, hy, e⟩ := List.mem_map.1 (hpp.mem_iff.2 (List.mem_map.2 ⟨x, hx, rfl⟩))
    exact ⟨y, hy, e⟩
theorem order_same {l l' : List StepD} (hp : l.Perm l') : (orderD l).isSome = (orderD l').isSome := by
  unfold orderD
  rw [hp.length_eq]
  split
  · rfl
  · exact ordP_perm hp.length_eq hp
theorem StepsAt.fromX {w : World} {ao ao' : Option Addr} {l : List StepZ} {k : Nat} (h : StepsAt w ao l) (ha : k < l.length → ∀ b off, ao = some ⟨b, off, none⟩ → ao' = some ⟨b, off + k * 6, none⟩) : StepsAt w ao' (l.drop k) := by
  refine ⟨fun hne => ?_, fun z hz => h.2 z (List.mem_of_mem_drop hz)⟩
  have hk : k < l.length := by
    rcases Nat.lt_or_ge k l.length with h1 | h1
    · exact h1
    · exact absurd (List.drop_eq_nil_of_le h1) hne
  obtain ⟨b, off, e, hb, hc⟩ := h.1 (by intro e; rw [e] at hk; simp at hk)
  refine ⟨b, off + k * 6, ha hk b off e, hb, fun i x hi => ?_⟩
  rw [List.getElem?_drop] at hi
  intro j u hj
  have := hc (k + i) x hi j u hj
  rw [show off + k * 6 + i * 6 + j = off + (k + i) * 6 + j from by omega]
  exact this
set_option maxRecDepth 100000 in
set_option maxHeartbeats 3200000 in
theorem orderW_calls (l : List StepZ) (ao : Option Addr) (cap : Nat) (x : Int) (w : World) (hl : l.length ≤ 9223372036854775807) (hcap : l.length ≤ cap) (hs : StepsAt w ao l) (hsm : ∀ z ∈ l, z.d.small) (hlv : LV w.heap.size w) :
    Calls Tryz.prog 7 #[.slice ao l.length cap, .int .i64 x] w fun e w' => e = .returned (.bool true) ∧ Ext w w' := by
  have HS := Lib.hid hs; have HM := Lib.hid hsm; have HLV := Lib.hid hlv
  clear hs hsm hlv
  go_enter Tryz.func7, Tryz.ntmps7
  go_wp2_with fail
  refine (awake_calls w HLV.out).mono ?_
  rintro e w1 ⟨rfl, hx1⟩
  have X1 := Lib.hid hx1
  clear hx1
  go_wp2_with fail
  refine (great_calls l ao cap w1 hl (HS.out.ext X1.out) HM.out).mono ?_
  rintro e w2 ⟨rfl, hx2⟩
  have X2 := Lib.hid (Ext.trans X1.out hx2)
  clear hx2 X1
  cases hgr : greatD (l.map (·.d))
  case true =>
    clear hgr
    go_wp2_with fail
    go_ret
    exact ⟨rfl, X2.out⟩
  case false =>
    have hfew := great_few hgr
    have hlen : l.length ≤ 120 := by have := hfew.1; simpa using this
    have OK : Hid (∀ z ∈ l, z.d.ok) := Lib.hid (fun z hz => (HM.out z hz).ok (by have := (hfew.2 z.d (List.mem_map.2 ⟨z, hz, rfl⟩)).1; omega) (by have := (hfew.2 z.d (List.mem_map.2 ⟨z, hz, rfl⟩)).2; omega))
    clear hgr hfew
    go_wp2_with fail
    refine (fit_calls l ao cap w2 (by omega) (HS.out.ext X2.out) OK.out ((HLV.out.below X2.out).up X2.out.size)).mono ?_
    rintro e w3 ⟨rfl, hx3⟩
    have X3 := Lib.hid (Ext.trans X2.out hx3)
    clear hx3 X2
    obtain ⟨hn1, hn2, hn3⟩ := fit_zero (l.map (·.d))
    have hag := fit_again (l.map (·.d))
    have hla := fun k x => fit_last (l.map (·.d)) (k := k) (x := x)
    have hod : (fitD (l.map (·.d))).2 = 0 → fitD (l.map (·.d)) = (l.length, 0) := fun e => by
      have h1 : (((fitD (l.map (·.d))).1 : Nat) : Int) = (((l.map (·.d)).length : Nat) : Int) := by simpa [e] using hn2.symm
      have h2 : (fitD (l.map (·.d))).1 = l.length := by simpa using (Int.ofNat.inj h1)
      rw [← h2, ← e]
    obtain ⟨N, hN⟩ : ∃ N, N = (fitD (l.map (·.d))).1 := ⟨_, rfl⟩
    obtain ⟨E, hE⟩ : ∃ E, E = (fitD (l.map (·.d))).2 := ⟨_, rfl⟩
    rw [← hN] at hn1 hn2 hag hla ⊢
    rw [← hE] at hn2 hod ⊢
    rw [List.length_map] at hn1 hn2
    have AG := Lib.hid hag; have LA := Lib.hid hla; have OD := Lib.hid hod
    clear hn3 hag hla hod hN hE
    have g1 : decide (((N : Nat) : Int) < 0) = false := by simp
    have g2 : decide (((l.length : Nat) : Int) < ((N : Nat) : Int)) = false := by simp; omega
    obtain ⟨ao1, hao, hsl⟩ := slice_toX ao l.length cap N (by omega)
    have HO := Lib.hid hao
    clear hao
    go_wp2_with fail
    clear g1 g2 hsl
    have hlt : (l.take N).length = N := by rw [List.length_take]; omega
    have hmt : (l.take N).map (·.d) = (l.map (·.d)).take N := List.map_take ..
    have hS1 : StepsAt w3 ao1 (l.take N) := (HS.out.ext X3.out).toX HO.out N
    have hFC := fit_calls (l.take N) ao1 cap w3 (by omega) hS1 (fun z hz => OK.out z (List.mem_of_mem_take hz)) ((HLV.out.below X3.out).up X3.out.size)
    rw [hlt, hmt, AG.out] at hFC
    refine hFC.mono ?_
    rintro e w4 ⟨rfl, hx4⟩
    have X4 := Lib.hid (Ext.trans X3.out hx4)
    clear hFC hS1 hmt hlt hx4 X3
    have g3 : ((((N : Nat) : Int) != ((N : Nat) : Int)) = false) := by simp
    go_upto_if 60 with fail
    go_cut [5] (fun n wx => n = .int .i64 N ∧ Ext w wx)
    case first =>
      rcases Nat.eq_zero_or_pos N with hN0 | hN0
      · have q0 : decide (0 < N) = false := by simp; omega
        go_wp2_with fail
        go_meet
        exact ⟨rfl, X4.out⟩
      · have q0 : decide (0 < N) = true := by simp; omega
        obtain ⟨k, hk⟩ : ∃ k, N = k + 1 := ⟨N - 1, by omega⟩
        have hkl : k < l.length := by omega
        obtain ⟨z, hz⟩ : ∃ z, l[k]? = some z := ⟨_, List.getElem?_eq_getElem hkl⟩
        have hla := LA.out k z.d hk (by rw [List.getElem?_map, hz]; rfl)
        have OKz := Lib.hid (OK.out z (List.mem_of_getElem? hz))
        have ZAT := Lib.hid (HS.out.2 z (List.mem_of_getElem? hz))
        obtain ⟨b, off, rfl, hb, hcell⟩ := HS.out.1 (by intro e; rw [e] at hkl; simp at hkl)
        have hcz := hcell k z hz
        have hmv : ∀ j, w4.cell? ⟨b, j, none⟩ = w.cell? ⟨b, j, none⟩ := fun j => X4.out.cell (p := ⟨b, j, none⟩) hb
        have hw1 : IntKind.i64.wrap (((N : Nat) : Int) - 1) = (k : Int) := by rw [IntWalk.i64_in _ (by omega)]; omega
        obtain ⟨ao4, hao4, hsl4⟩ := slice_toX (some ⟨b, off, none⟩) l.length cap k (by omega)
        have hS4 : ∀ W, Ext w W → StepsAt W ao4 (l.take k) := fun W hW => (HS.out.ext hW).toX hao4 k
        have S4 := Lib.hid hS4
        have i0 : (0 : Int) ≤ (k : Int) := by omega
        have i1 : (k : Int) < (l.length : Int) := by omega
        have LAK := Lib.hid hla; have HK := Lib.hid hk; have HZ := Lib.hid hz
        have HCZ := Lib.hid hcz; have HMV := Lib.hid hmv; have HBB := Lib.hid hb
        obtain ⟨⟨cl, nm, acts, reads, ca, an⟩, pa, qa, ra, sa⟩ := z
        unfold encStep at hcz
        simp only at hcz
        have d0 := (hmv _).trans (hcz 0 _ rfl); have d1 := (hmv _).trans (hcz 1 _ rfl); have d2 := (hmv _).trans (hcz 2 _ rfl); have d3 := (hmv _).trans (hcz 3 _ rfl); have d4 := (hmv _).trans (hcz 4 _ rfl); have d5 := (hmv _).trans (hcz 5 _ rfl)
        simp only [Nat.add_zero] at d0
        have e0 := ExtBy.cell d0; have e1 := ExtBy.cell d1; have e2 := ExtBy.cell d2; have e3 := ExtBy.cell d3; have e4 := ExtBy.cell d4; have e5 := ExtBy.cell d5
        clear hla hk hkl hz hcell hcz hmv hao4 hS4 hb LA d0 d1 d2 d3 d4 d5 g3 hN0 hn2
        go_wp2_with fail
        have BD : Hid (Ext w4 w4.drew) := Lib.hid (Below.refl _ w4).drew
        refine wp_region_firstC (fun W => ∃ p : ExtBy w4, W = p.W) [0, 1, 2, 3, 5, 6, 7, 8, 9] 7 (by kernel_rfl) (by kernel_rfl) (fun _ _ _ _ h => h) ⟨⟨w4.drew, BD.out⟩, rfl⟩ ?_
        simp only [opsAt, List.getElem?_toArray, List.getElem?_cons_succ, List.getElem?_cons_zero]
        repeat (go_big_quiet_step (fail))
        refine wpQuiet_nil ?_
        clear e0 e1 e2 e3 e4 e5
        refine wpAnyH_ready (rs := [4]) (by kernel_rfl) (by simp) ?_
        refine AllReadyH.cons rfl (fun K hK => ?_) AllReadyH.nil
        go_simp
        have hlt4 : (l.take k).length = k := by rw [List.length_take]; have := HK.out; omega
        have hAF := after_calls (l.take k) ao4 cap w4.drew (by have := HK.out; omega) (S4.out _ (Ext.trans X4.out BD.out)) (fun z hz => OK.out z (List.mem_of_mem_take hz)) ((HLV.out.below (Ext.trans X4.out BD.out)).up (Ext.trans X4.out BD.out).size)
        rw [hlt4, List.map_take] at hAF
        refine hAF.mono ?_
        rintro e w5 ⟨v5, rfl, hown5, hx5⟩
        obtain ⟨r5, s5, rfl, -, -, hrr5⟩ := Rows.own (enc := encRw) (sz := 2) (fun _ => rfl) hown5
        have BB5 := Lib.hid (Ext.trans BD.out hx5)
        have AF := Lib.hid (after_few (l := (l.map (·.d)).take k) (fun x hx => by obtain ⟨z, hz, e⟩ := List.mem_map.1 (List.mem_of_mem_take hx); rw [← e]; exact OK.out z hz))
        have RR5 := Lib.hid hrr5
        clear hAF hown5 hx5 hrr5 hlt4
        refine hK.out _ _ ⟨⟨_, BB5.out⟩, rfl⟩ (fun _ => ?_)
        clear hK K
        refine wpAnyH_ready (rs := [10]) (by kernel_rfl) (by simp) ?_
        refine AllReadyH.cons rfl (fun K hK => ?_) AllReadyH.nil
        go_simp
        have hX5 := Ext.trans X4.out BB5.out
        have hDP := doP_calls (afterD ((l.map (·.d)).take k)) r5 s5 ⟨⟨cl, nm, acts, reads, ca, an⟩, pa, qa, ra, sa⟩ w5 (by have h1 := AF.out.2; have h2 := HK.out; rw [List.length_take] at h1; omega) RR5.out AF.out.1 ((ZAT.out.ext hX5).mono hX5.size) OKz.out ((HLV.out.below hX5).up hX5.size)
        rw [LAK.out] at hDP
        refine hDP.mono ?_
        rintro e w6 ⟨v6, rv6, rfl, ho6, hr6, hx6⟩
        obtain ⟨r6, s6, rfl, -, -, hrr6⟩ := Rows.own (enc := encRw) (sz := 2) (fun _ => rfl) ho6
        obtain ⟨r7, s7, rfl, -, -, hrr7⟩ := Rows.own (enc := encRd) (sz := 3) (fun _ => rfl) hr6
        have BB6 := Lib.hid (Ext.trans BB5.out hx6); have RR6 := Lib.hid hrr6; have RR7 := Lib.hid hrr7
        clear hDP ho6 hr6 hrr6 hrr7 hx6 hX5 RR5
        refine hK.out _ _ ⟨⟨_, BB6.out⟩, rfl⟩ (fun _ => ?_)
        clear hK K
        refine wp_takesC (f := 0) [11, 12, 13, 14, 15] (by kernel_rfl) (fun _ _ _ _ h => h) ⟨⟨_, BB6.out⟩, rfl⟩ ?_
        simp only [opsAt, List.getElem?_toArray, List.getElem?_cons_succ, List.getElem?_cons_zero]
        repeat (go_big_quiet_step (fail))
        refine wpQuiet_nil ?_
        refine wpAnyH_done (by kernel_rfl) ?_ _
        have X6 := Lib.hid (Ext.trans X4.out BB6.out)
        have hX6 := X6.out
        have fx : ∀ (j : Nat) (u : Value), (encStep ⟨⟨cl, nm, acts, reads, ca, an⟩, pa, qa, ra, sa⟩)[j]? = some u → w6.cell? ⟨b, off + k * 6 + j, none⟩ = some u := fun j u hj => (hX6.cell (p := ⟨b, _, none⟩) HBB.out).trans (HCZ.out j u hj)
        have d3 := fx 3 _ rfl
        have hlt6 : (l.take N).length = N := by rw [List.length_take]; have := HK.out; omega
        have hSR := sameReads_calls reads reads r7 ra s7 sa w6 OKz.out.rn RR7.out ((ZAT.out.2.ext hX6).mono hX6.size)
        rw [decide_eq_true rfl] at hSR
        have HSR := Lib.hid hSR
        obtain ⟨ao5, hao5, hsl5⟩ := slice_toX (some ⟨b, off, none⟩) l.length cap N (by omega)
        have hAF := fun W (hW : Ext w W) => after_calls (l.take N) ao5 cap W (by omega) ((HS.out.ext hW).toX hao5 N) (fun z hz => OK.out z (List.mem_of_mem_take hz)) ((HLV.out.below hW).up hW.size)
        rw [hlt6, List.map_take] at hAF
        have HAF := Lib.hid hAF
        clear hX6 fx hSR hAF hao5 hlt6 hsl4
        go_wp2_with fail
        refine HSR.out.mono ?_
        rintro e w7 ⟨rfl, hx7⟩
        have X7 := Lib.hid (Ext.trans X6.out hx7); have RR8 := Lib.hid ((RR6.out.ext hx7).mono hx7.size)
        clear hx7 d3 HSR RR6 RR7
        go_wp2_with fail
        refine (HAF.out w7 X7.out).mono ?_
        rintro e w8 ⟨v8, rfl, hown8, hx8⟩
        obtain ⟨r8, s8, rfl, -, -, hrr8⟩ := Rows.own (enc := encRw) (sz := 2) (fun _ => rfl) hown8
        have X8 := Lib.hid (Ext.trans X7.out hx8); have RR9 := Lib.hid ((RR8.out.ext hx8).mono hx8.size); have RR10 := Lib.hid hrr8
        have AF2 := Lib.hid (after_few (l := (l.map (·.d)).take (k + 1)) (fun x hx => by obtain ⟨z, hz, e⟩ := List.mem_map.1 (List.mem_of_mem_take hx); rw [← e]; exact OK.out z hz))
        clear hown8 hrr8 hx8
        go_wp2_with fail
        have hSL := sameLines_calls (afterD ((l.map (·.d)).take (k + 1))) (afterD ((l.map (·.d)).take N)) r6 r8 s6 s8 w8 (by have h1 := AF2.out.2; rw [List.length_take] at h1; have := HK.out; omega) RR9.out RR10.out
        rw [decide_eq_true (by rw [HK.out])] at hSL
        refine hSL.mono ?_
        rintro e w9 ⟨rfl, hx9⟩
        have X9 := Lib.hid (Ext.trans X8.out hx9)
        clear hx9 hSL
        go_wp2_with fail
        · go_meet
          exact ⟨rfl, X9.out⟩
        · exfalso
          have := HK.out
          omega
    case rest =>
      obtain ⟨-, hx5⟩ := hcut
      have X5 := Lib.hid hx5
      clear hx5 X4 AG LA g3 hn2
      by_cases h5 : 5 < l.length
      · have g5 : decide ((5 : Int) < ((l.length : Nat) : Int)) = true := by simp; omega
        go_wp2_with fail
        go_ret
        exact ⟨rfl, X5.out⟩
      · have g5 : decide ((5 : Int) < ((l.length : Nat) : Int)) = false := by simp; omega
        go_wp2_with fail
        refine (inTime_calls l ao cap wc (by omega) hcap (HS.out.ext X5.out)).mono ?_
        rintro e w6 ⟨rfl, hx6⟩
        have X6 := Lib.hid (Ext.trans X5.out hx6)
        have OT : Hid (E = 0 → (timeD (l.map (·.d))).1 < 0 → (ordP nextD lateD (l.map (·.d)).length ([], []) (l.map (·.d))).isSome = true) := Lib.hid (fun e t => order_there (by rw [List.length_map]; exact OD.out e) t)
        obtain ⟨T1, hT1⟩ : ∃ T, T = (timeD (l.map (·.d))).1 := ⟨_, rfl⟩
        obtain ⟨T2, hT2⟩ : ∃ T, T = (timeD (l.map (·.d))).2 := ⟨_, rfl⟩
        rw [← hT1] at OT ⊢
        rw [← hT2]
        clear hT1 hT2 hx6 X5
        go_wp2_with fail
        refine (pick_calls x ((l.length : Int) + 1) w6 (by omega) (by omega)).mono ?_
        rintro e w7 ⟨k, rfl, hk, rfl⟩
        have hk1 : k ≤ l.length := by omega
        clear hk
        obtain ⟨i0, hi, hz0, hz1, hz2⟩ := info_parts infoStep
        obtain ⟨ao2, hao2, hsl2⟩ := slice_from elemSteps sizeSteps ao l.length cap k hk1 hcap
        obtain ⟨ao3, hao3, hsl3⟩ := slice_toX ao l.length cap k (by omega)
        have R3 := Lib.hid ((HS.out.ext X6.out).toX hao3 k)
        have R2 := Lib.hid (StepsAt.fromX (HS.out.ext X6.out) hao2)
        have ED : Hid (∀ o, Ext w6 ((w6.alloc o).drew)) := Lib.hid fun o => ((Below.refl _ w6).alloc (Nat.le_refl _) o).drew
        have LD : Hid ((l.drop k).length = l.length - k) := Lib.hid (List.length_drop ..)
        have LT : Hid ((l.take k).length = k) := Lib.hid (by rw [List.length_take]; omega)
        clear hao2 hao3
        go_wp2_with fail
        go_region_held3 (fun _ => True) (exact trivial)
          (first
          | (refine step_append_rows (enc := encStep) (size := 6) (fun _ => rfl) one_step (by rfl) (.tmp 106) (.tmp 109) 22 (by rfl) 38 i0 _ 80 Tryz.underlying22 hi hz0 hz1 hz2 rfl (by decide) (.slice (some ⟨w6.heap.size, 0, none⟩) 0 0) 0 [] (by rfl) (World.ownsRow_made w6 #[] 0 (Nat.zero_le _) (Nat.zero_le _) rfl) ao2 (l.drop k) (cap - k) (by rw [LD.out]; rfl) ((R2.out.1.ext (ED.out _)).mono (ED.out _).size) (by rw [LD.out]; unfold maxLen; omega) (by rw [LD.out]; omega) ?_
             intro v2 w8 hown2 hbut2 hkept2
             have hx8 : Ext w6 w8 := ((Ext.but (ED.out _) (fun _ => False)).trans hbut2 (U := fun j => j = w6.heap.size) (fun _ _ e => e.elim) (fun i _ e => by simp [Value.ownBlock] at e; exact e.symm)).ext (fun i hi e => by omega)
             have X8 := Lib.hid hx8
             have hv2 : ∀ i, v2.ownBlock = some i → w6.heap.size ≤ i := fun i e => by
               rcases hkept2 i e with e | e
               · simp [Value.ownBlock] at e; omega
               · exact Nat.le_trans (ED.out _).size e
             have V2 := Lib.hid hv2
             clear hx8 hv2
             have O2 := Lib.hid hown2; have B2 := Lib.hid hbut2; have P2 := Lib.hid hkept2
             clear hown2 hbut2 hkept2)
          | (refine step_append_rows (enc := encStep) (size := 6) (fun _ => rfl) one_step (by rfl) (.tmp 110) (.tmp 113) 22 (by rfl) 38 i0 _ 80 Tryz.underlying22 hi hz0 hz1 hz2 rfl (by decide) v2 _ _ (by rfl) O2.out ao3 (l.take k) cap (by rw [LT.out]; rfl) ((R3.out.1.ext X8.out).mono X8.out.size) (by rw [LD.out, LT.out]; unfold maxLen; omega) (by rw [LD.out, LT.out]; omega) ?_
             intro v3 w9 hown3 hbut3 hkept3
             have O3 := Lib.hid hown3; have B3 := Lib.hid hbut3; have P3 := Lib.hid hkept3
             clear hown3 hbut3 hkept3))
        rename_i hHeld
        clear hHeld
        have hx9 : Ext w6 w9 := ((Ext.but X8.out (fun _ => False)).trans B3.out (U := fun j => w6.heap.size ≤ j) (fun _ _ e => e.elim) (fun i _ e => V2.out i e)).ext (fun i hi e => by omega)
        have X9 := Lib.hid (Ext.trans X6.out hx9)
        obtain ⟨tl, htl⟩ : ∃ tl, tl = l.drop k ++ l.take k := ⟨_, rfl⟩
        have ho : w9.ownsRow 0 38 6 v3 tl.length (tl.flatMap encStep) := by
          have e1 : tl.flatMap encStep = [] ++ (l.drop k).flatMap encStep ++ (l.take k).flatMap encStep := by rw [htl, List.flatMap_append]; rfl
          have e2 : tl.length = 0 + (l.drop k).length + (l.take k).length := by rw [htl, List.length_append]; omega
          rw [e1, e2]; exact O3.out
        obtain ⟨ta, tc, rfl, -, -, hrT⟩ := Rows.own (enc := encStep) (sz := 6) (fun _ => rfl) ho
        have hp : tl.Perm l := by rw [htl]; exact List.perm_append_comm.trans (by rw [List.take_append_drop])
        have PM := Lib.hid hp
        have TS : Hid (StepsAt w9 ta tl) := Lib.hid ⟨hrT, fun z hz => ((HS.out.ext X9.out).2 z (hp.mem_iff.1 hz))⟩
        have htn : tl.length = l.length := hp.length_eq
        have TN := Lib.hid htn
        clear htl ho hrT hp htn hx9 O2 B2 P2 X8 V2 O3 B3 P3 LD LT ED R2 R3 hsl2 hsl3 X6
        go_wp2_with fail
        refine (orderP_calls l ao cap w9 (by omega) (HS.out.ext X9.out) OK.out ((HLV.out.below X9.out).up X9.out.size)).mono ?_
        rintro e w10 ⟨v1, l1, rfl, hl1, hown1, -, hmine1, hx10⟩
        obtain ⟨o1, c1, rfl, hc1, -, hrr1⟩ := Rows.own (enc := encStep) (sz := 6) (fun _ => rfl) hown1
        have M1 := Lib.hid hl1; have R1 := Lib.hid hrr1; have N1 := Lib.hid hmine1; have X10 := Lib.hid (Ext.trans X9.out hx10)
        have TS1 := Lib.hid (TS.out.ext hx10)
        clear hl1 hown1 hmine1 hrr1 hx10 TS X9
        go_wp2_with fail
        have hoT := orderP_calls tl ta tc w10 (by have := TN.out; omega) TS1.out (fun z hz => OK.out z (PM.out.mem_iff.1 hz)) ((HLV.out.below X10.out).up X10.out.size)
        refine hoT.mono ?_
        rintro e w11 ⟨v2, l2, rfl, hl2, hown2, -, hmine2, hx11⟩
        obtain ⟨o2, c2, rfl, hc2, -, hrr2⟩ := Rows.own (enc := encStep) (sz := 6) (fun _ => rfl) hown2
        have M2 := Lib.hid hl2; have R2 := Lib.hid hrr2; have N2 := Lib.hid hmine2; have X11 := Lib.hid (Ext.trans X10.out hx11)
        have SA1 : Hid (StepsAt w11 o1 l1) := Lib.hid (StepsAt.ext ⟨R1.out, fun z hz => (N1.out z hz).at⟩ hx11)
        have SA2 : Hid (StepsAt w11 o2 l2) := Lib.hid ⟨R2.out, fun z hz => (N2.out z hz).at⟩
        have SM : Hid ((orderD (tl.map (·.d))).isSome = (orderD (l.map (·.d))).isSome) := Lib.hid (order_same (PM.out.map _))
        rw [SM.out]
        clear hoT hl2 hown2 hmine2 hrr2 hx11 X10 TS1 R1 R2 N1 N2
        cases hok : (orderD (l.map (·.d))).isSome
        · have hn : orderD (l.map (·.d)) = none := by
            cases h : orderD (l.map (·.d)) with
            | none => rfl
            | some a => rw [h] at hok; cases hok
          have hl0 : l1 = [] := by
            have := M1.out
            rw [hn] at this
            exact List.map_eq_nil_iff.1 this
          subst hl0
          have hnb : E = 0 → T1 < 0 → False := fun a b => by
            have h1 := OT.out a b
            have h2 : (orderD (l.map (·.d))).isSome = true := by unfold orderD; rw [if_neg (by rw [List.length_map]; omega)]; exact h1
            rw [hok] at h2; cases h2
          have NB := Lib.hid hnb
          clear hok hn hnb
          by_cases hE : E = 0
          · have q1 : (E == 0) = true := by rw [hE]; rfl
            have q2 : decide (T1 < 0) = false := decide_eq_false (NB.out hE)
            clear hE
            go_wp2_with fail
            go_ret
            exact ⟨rfl, X11.out⟩
          · have q1 : (E == 0) = false := by simpa using hE
            clear hE
            go_wp2_with fail
            go_ret
            exact ⟨rfl, X11.out⟩
        · obtain ⟨a1, ha1⟩ := Option.isSome_iff_exists.1 hok
          obtain ⟨a2, ha2⟩ := Option.isSome_iff_exists.1 (SM.out.trans hok)
          have g1 := order_gives (l := l) ha1 (List.Perm.refl _) (M1.out.trans (by rw [ha1]; rfl))
          have g2 := order_gives (l := l) ha2 (PM.out.map _) (M2.out.trans (by rw [ha2]; rfl))
          have G1 := Lib.hid g1; have G2 := Lib.hid g2
          clear g1 g2 ha1 ha2 hok
          go_wp2_with fail
          all_goals
            have hc3 := ordered_calls l1 l o1 ao c1 cap w11 (by have := G1.out.1; omega) G1.out.1 hc1 SA1.out (HS.out.ext X11.out) (fun z hz => by obtain ⟨y, hy, e⟩ := G1.out.2.2.2.1 z hz; rw [← e]; exact OK.out y hy) G1.out.2.1 G1.out.2.2.1 G1.out.2.2.2.2 ((HLV.out.below X11.out).up X11.out.size)
            refine hc3.mono ?_
            rintro e w12 ⟨rfl, hx12⟩
            have X12 := Lib.hid (Ext.trans X11.out hx12)
            have SA3 := Lib.hid (SA2.out.ext hx12)
            clear hx12 hc3 SA1 SA2
            go_wp2_with fail
            have hc4 := ordered_calls l2 l o2 ao c2 cap w12 (by have := G2.out.1; omega) G2.out.1 hc2 SA3.out (HS.out.ext X12.out) (fun z hz => by obtain ⟨y, hy, e⟩ := G2.out.2.2.2.1 z hz; rw [← e]; exact OK.out y hy) G2.out.2.1 G2.out.2.2.1 G2.out.2.2.2.2 ((HLV.out.below X12.out).up X12.out.size)
            refine hc4.mono ?_
            rintro e w13 ⟨rfl, hx13⟩
            have X13 := Lib.hid (Ext.trans X12.out hx13)
            clear hx13 hc4
            go_wp2_with fail
            go_ret
            exact ⟨rfl, X13.out⟩
end Go.Proofs.YtngahblgicjoiaaGreatDoor
