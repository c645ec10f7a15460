/- For every row of deeds, every number, every further row of deeds, every row of texts and every name: watershedlaw16.HoldsRuns answers true, without a panic, and leaves what it was given as it was. The condition: the listed package-level variables of the library hold what their initialisers lay (the card ties this to the program's text). -/
import Derived.Test.YtdmejbjpbjcfbaaGreatDoorLiftH
import Derived.Test.YtdmejbjpbjcfbaaGreatDoorOpenD
import Derived.Test.YtdmejbjpbjcfbaaGreatDoorRuns
namespace Go.Proofs.YtdmejbjpbjcfbaaGreatDoor
open Go.ChangeShapes Go.WideShapes Go.ChangeAt Go.RowKit Go.ChangeMaps Go.Joins

set_option maxRecDepth 100000 in
theorem holdsRuns_lifted (os : Os) (started : os.Started) (H : Type) (enc : TypeId × Value → H) :
    ReturnsInHanded {} Tryz.checked os 6 .any (fun w args => (Rows.holdsRunsSpec.pre enc Tryz.prog Tryz.f6 [] false w args ∧ laidMetH Tryz.prog laidAllD w) ∧ sizedMet enc Tryz.prog Tryz.f6 (OpenSpec.ofChange Rows.holdsRunsSpec) false w args)
      (Rows.holdsRunsSpec.post enc Tryz.prog Tryz.f6 false true false false) := by
  refine returnsInHanded_of_change_and (C := Tryz.checked) (X := fun w _ => laidMetH Tryz.prog laidAllD w) (fun _ _ _ hh h => h.of_heap hh) own started (by kernel_rfl) Tryz.func6
    (ChangeSpec.witness_shaped (enc := enc) (C := Tryz.checked) (os := os) (X := fun w _ => laidMetH Tryz.prog laidAllD w) false (World.laidAll Tryz.prog os laidAllD) #[.slice none 0 0, .int .i64 0, .slice none 0 0, .slice none 0 0, .agg #[.int .i64 0, .int .i64 0]] 8 (World.laidAll_os _ _ _)
      (World.shaped_of_ZipB (by kernel_rfl) (by kernel_rfl)) (by kernel_rfl) (by kernel_rfl) (by kernel_rfl) (door_met os _)) ?_
  intro W base args ds gs before hval0 hW _ hsz hL _
  have hval : ∀ (j : Nat) t v, Tryz.f6.params[j]? = some t → args[j]? = some v → Value.okWide Tryz.prog W .any base t v := hval0
  have hW' := hW
  obtain ⟨p, q, hA0, hV, rfl, _, _⟩ := hW
  have hA : DataW.TrodAll enc Tryz.prog W 0 (fun _ => true) true Tryz.f6.params.toList args.toList ds p := hA0
  rw [Tryz.params6] at hA hval
  have hA' := hA
  obtain ⟨v0, v1, v2, v3, v4, d0, d1, d2, d3, d4, p0, p1, p2, p3, p4, rfl, rfl, rfl, h0, h1, h2, h3, h4⟩ := trodAll_five hA
  obtain ⟨rfl, rfl⟩ := trodVars_none hV
  have hz0 : (DataW.weights Tryz.prog 73 d0).all (· ≤ reachBytes) = true := by
    rw [List.all_eq_true] at hsz ⊢
    exact fun z hz => hsz z (DataW.weights_mem_each (j := 0) (t := 73) (by kernel_rfl) rfl z hz)
  obtain ⟨fuel0, hf0⟩ := h0
  obtain ⟨ao0, cap0, x0, e0, hcs0, hl0, hc0, hr0, ha0⟩ := open_deeds hf0 hz0
  obtain ⟨aq0, nq0, cq0, rfl⟩ := okWide_slice Tryz.underlying73 (hval 0 73 v0 rfl rfl)
  simp only [Value.cells, List.cons.injEq, and_true] at hcs0
  rw [hcs0] at hW' hval hA'
  rw [hcs0]
  obtain ⟨x1, rfl, rfl, rfl, w1⟩ := open_int Tryz.underlying3 (hval 1 3 v1 rfl rfl) h1
  have hz2 : (DataW.weights Tryz.prog 73 d2).all (· ≤ reachBytes) = true := by
    rw [List.all_eq_true] at hsz ⊢
    exact fun z hz => hsz z (DataW.weights_mem_each (j := 2) (t := 73) (by kernel_rfl) rfl z hz)
  obtain ⟨fuel2, hf2⟩ := h2
  obtain ⟨ao2, cap2, x2, e2, hcs2, hl2, hc2, hr2, ha2⟩ := open_deeds hf2 hz2
  obtain ⟨aq2, nq2, cq2, rfl⟩ := okWide_slice Tryz.underlying73 (hval 2 73 v2 rfl rfl)
  simp only [Value.cells, List.cons.injEq, and_true] at hcs2
  rw [hcs2] at hW' hval hA'
  rw [hcs2]
  have hz3 : (DataW.weights Tryz.prog 74 d3).all (· ≤ reachBytes) = true := by
    rw [List.all_eq_true] at hsz ⊢
    exact fun z hz => hsz z (DataW.weights_mem_each (j := 3) (t := 74) (by kernel_rfl) rfl z hz)
  obtain ⟨fuel3, hf3⟩ := h3
  obtain ⟨ao3, cap3, x3, hcs3, hl3, hc3, hr3, ha3⟩ := open_texts hf3
  obtain ⟨aq3, nq3, cq3, rfl⟩ := okWide_slice Tryz.underlying74 (hval 3 74 v3 rfl rfl)
  simp only [Value.cells, List.cons.injEq, and_true] at hcs3
  rw [hcs3] at hW' hval hA'
  rw [hcs3]
  have hn3 : x3.length ≤ 140737488351232 := by
    have h := hf3
    simp only [Value.cells] at h
    rw [hcs3] at h
    exact slice_len Tryz.underlying74 (by decide) h hz3
  obtain ⟨c4, n4, rfl, bc4, bn4⟩ := open_name (hval 4 24 v4 rfl rfl) h4
  clear hA0 hval0
  simp only [List.append_nil] at hW'
  refine (holdsRuns_calls x0 e0 ao0 cap0 x1 x2 e2 ao2 cap2 x3 ao3 cap3 c4 n4 W (by unfold maxLen at hc0; omega) hr0 ha0 (by unfold maxLen at hc2; omega) hr2 ha2 (by omega) hr3 (fun k hk => of_decide_eq_true (List.all_eq_true.1 hz3 _ (ha3 k hk)))).mono fun e W' ⟨he, hb⟩ => ?_
  subst he
  exact ⟨_, rfl, _, _, _, [], _, [], hW', trodAll_mk1 (shut_bool Tryz.underlying4 _), below_trodAll laidOut hb (by kernel_rfl) hA' (fun x hx => hW'.lt x (by first | exact hx | simpa using hx)), rfl, hb.frame _, fun h => by cases h⟩

theorem holdsRuns_holds : Rows.HoldsRunsSaid :=
  OpenClaim.holds_of_wide 6 Tryz.f6 rfl rfl rfl rfl rfl rfl rfl ⟨rfl, rfl, rfl, rfl, rfl⟩ rfl rfl rfl rfl rfl (by kernel_rfl) Tryz.func6 (by kernel_rfl)
    (of_decide_eq_true (by kernel_rfl)) (by unfold Func.isWrapper; first | (rw [if_pos (by decide +kernel)]; kernel_rfl) | (rw [if_neg (by decide +kernel)]; exact ⟨rfl, rfl⟩))
    (fun os started H enc _ => holdsRuns_lifted os started H enc)

theorem holdsRuns_card : Rows.HoldsRunsCardSaid :=
  Claim7.holds_tied_plain_at .later [] [.data, .pinned] true (true, "88496b8fca19cd93dd7b797507beea7ef6d8dad5271beb446c7c02a51ffc4a49") false
    holdsRuns_holds (fun _ h => by cases h) (by kernel_rfl) (fun _ h => by cases h) holdsRuns_row_tie rfl ⟨rfl, rfl⟩ (by kernel_rfl) rfl
    (fun f fn hf hfn => by
      obtain rfl : f = 6 := Option.some.inj ((show Tryz.prog.funcNamed "watershed/watershedlaw16.HoldsRuns" = some 6 by kernel_rfl).symm.trans hf) |>.symm
      obtain rfl : fn = Tryz.f6 := (Option.some.inj (Tryz.func6.symm.trans hfn)).symm
      exact ⟨by kernel_rfl, fun j t ht => by
        rw [Tryz.params6] at ht
        have hm : t ∈ [73, 3, 73, 74, 24] := by simpa using Array.mem_of_getElem? ht
        have hall : ([73, 3, 73, 74, 24].all fun u => !Tryz.prog.wantsStandIn u) = true := by kernel_rfl
        exact (show Tryz.prog.wantsStandIn t = false by simpa using List.all_eq_true.1 hall t hm)⟩)
    (by kernel_rfl)
#print axioms holdsRuns_card
end Go.Proofs.YtdmejbjpbjcfbaaGreatDoor
