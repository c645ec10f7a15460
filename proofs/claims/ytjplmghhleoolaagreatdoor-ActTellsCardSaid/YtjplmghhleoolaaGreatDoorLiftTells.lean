/- For every row of acts, every Bool, every two texts and every two names: watershedlaw14.ActTells answers true, without a panic, and leaves what it was given as it was. The condition: the listed package-level variables of the library hold what their initialisers lay (the card ties this to the program's text). -/
import Derived.Test.YtjplmghhleoolaaGreatDoorLift
import Derived.Test.YtjplmghhleoolaaGreatDoorTells
import Derived.Test.YtjplmghhleoolaaGreatDoorRight
namespace Go.Proofs.YtjplmghhleoolaaGreatDoor
open Go.ChangeShapes Go.WideShapes Go.ChangeAt Go.RowKit Go.ChangeMaps Go.Joins

set_option maxRecDepth 100000 in
theorem tells_lifted (os : Os) (started : os.Started) (H : Type) (enc : TypeId × Value → H) :
    ReturnsInHanded {} Tryz.checked os 3 .any (fun w args => (Rows.actTellsSpec.pre enc Tryz.prog Tryz.f3 [] false w args ∧ laidMetH Tryz.prog laidAllD w) ∧ sizedMet enc Tryz.prog Tryz.f3 (OpenSpec.ofChange Rows.actTellsSpec) false w args)
      (Rows.actTellsSpec.post enc Tryz.prog Tryz.f3 false true false false) := by
  refine returnsInHanded_of_change_and (C := Tryz.checked) (X := fun w _ => laidMetH Tryz.prog laidAllD w) (fun _ _ _ hh h => h.of_heap hh) own started (by kernel_rfl) Tryz.func3
    (ChangeSpec.witness_shaped (enc := enc) (C := Tryz.checked) (os := os) (X := fun w _ => laidMetH Tryz.prog laidAllD w) false (World.laidAll Tryz.prog os laidAllD) #[.slice none 0 0, .bool false, .string ⟨#[]⟩, .string ⟨#[]⟩, .agg #[.int .i64 0, .int .i64 0], .agg #[.int .i64 0, .int .i64 0]] 8 (World.laidAll_os _ _ _)
      (World.shaped_of_ZipB (by kernel_rfl) (by kernel_rfl)) (by kernel_rfl) (by kernel_rfl) (by kernel_rfl) (door_met os _)) ?_
  intro W base args ds gs before hval0 hW _ hsz hL _
  have hval : ∀ (j : Nat) t v, Tryz.f3.params[j]? = some t → args[j]? = some v → Value.okWide Tryz.prog W .any base t v := hval0
  have hW' := hW
  obtain ⟨p, q, hA0, hV, rfl, _, _⟩ := hW
  have hA : DataW.TrodAll enc Tryz.prog W 0 (fun _ => true) true Tryz.f3.params.toList args.toList ds p := hA0
  rw [Tryz.params3] at hA hval
  have hA' := hA
  obtain ⟨v0, v1, v2, v3, v4, v5, d0, d1, d2, d3, d4, d5, p0, p1, p2, p3, p4, p5, rfl, rfl, rfl, h0, h1, h2, h3, h4, h5⟩ := trodAll_six hA
  obtain ⟨rfl, rfl⟩ := trodVars_none hV
  obtain ⟨fuel0, hf0⟩ := h0
  obtain ⟨ao0, cap0, x0, hcs0, hl0, hc0, hr0, hfit0⟩ := open_acts hf0
  obtain ⟨aq0, nq0, cq0, rfl⟩ := okWide_slice Tryz.underlying22 (hval 0 22 v0 rfl rfl)
  simp only [Value.cells, List.cons.injEq, and_true] at hcs0
  rw [hcs0] at hW' hval hA'
  rw [hcs0]
  have hz0 : (DataW.weights Tryz.prog 22 d0).all (· ≤ reachBytes) = true := by
    rw [List.all_eq_true] at hsz ⊢
    exact fun z hz => hsz z (DataW.weights_mem_each (j := 0) (t := 22) (by kernel_rfl) rfl z hz)
  have hk0 : ∀ a ∈ x0, a.ok := fun a ha => (hfit0 a ha).ok hz0
  obtain ⟨x1, rfl, rfl, rfl⟩ := open_bool Tryz.underlying4 (hval 1 4 v1 rfl rfl) h1
  obtain ⟨x2, rfl, rfl, rfl, w2⟩ := open_string Tryz.underlying9 (hval 2 9 v2 rfl rfl) h2
  obtain ⟨x3, rfl, rfl, rfl, w3⟩ := open_string Tryz.underlying9 (hval 3 9 v3 rfl rfl) h3
  obtain ⟨c4, n4, rfl, bc4, bn4⟩ := open_name (hval 4 24 v4 rfl rfl) h4
  obtain ⟨c5, n5, rfl, bc5, bn5⟩ := open_name (hval 5 24 v5 rfl rfl) h5
  clear hA0 hval0
  simp only [List.append_nil] at hW'
  have hlv := lv_of_laid hL
  have s2 : x2.size ≤ 140737488351232 := by
    have h := sized_string hsz (j := 2) (t := 9) (by kernel_rfl) rfl
    rw [← Lib.size_eq] at h
    exact h
  have s3 : x3.size ≤ 140737488351232 := by
    have h := sized_string hsz (j := 3) (t := 9) (by kernel_rfl) rfl
    rw [← Lib.size_eq] at h
    exact h
  refine (tells_calls right_calls x0 ao0 cap0 x1 x2 x3 c4 n4 c5 n5 W hk0 hl0 (by simpa [maxLen] using hc0) hr0 s2 hlv (Nat.le_refl _)).mono fun e W' ⟨he, hb⟩ => ?_
  subst he
  exact ⟨_, rfl, _, _, _, [], _, [], hW', trodAll_mk1 (shut_bool Tryz.underlying4 _), below_trodAll laidOut hb (by kernel_rfl) hA' (fun x hx => hW'.lt x (by first | exact hx | simpa using hx)), rfl, hb.frame _, fun h => by cases h⟩

theorem tells_holds : Rows.ActTellsSaid :=
  OpenClaim.holds_of_wide 3 Tryz.f3 rfl rfl rfl rfl rfl rfl rfl ⟨rfl, rfl, rfl, rfl, rfl⟩ rfl rfl rfl rfl rfl (by kernel_rfl) Tryz.func3 (by kernel_rfl)
    (of_decide_eq_true (by kernel_rfl)) (by unfold Func.isWrapper; first | (rw [if_pos (by decide +kernel)]; kernel_rfl) | (rw [if_neg (by decide +kernel)]; exact ⟨rfl, rfl⟩))
    (fun os started H enc _ => tells_lifted os started H enc)

theorem tells_card : Rows.ActTellsCardSaid :=
  Claim7.holds_tied_plain_at .later [] [.data, .data, .data, .data, .sentinel, .sentinel, .pinned] true (true, "87518e20a729521789b62bea05ff0c7f555260dc6efcf922a577076e79a2807b") true
    tells_holds (fun _ h => by cases h) (by kernel_rfl) (fun _ h => by cases h) actTells_row_tie rfl ⟨rfl, rfl⟩ (by kernel_rfl) rfl
    (fun f fn hf hfn => by
      obtain rfl : f = 3 := Option.some.inj ((show Tryz.prog.funcNamed "watershed/watershedlaw14.ActTells" = some 3 by kernel_rfl).symm.trans hf) |>.symm
      obtain rfl : fn = Tryz.f3 := (Option.some.inj (Tryz.func3.symm.trans hfn)).symm
      exact ⟨by kernel_rfl, fun j t ht => by
        rw [Tryz.params3] at ht
        have hm : t ∈ [22, 4, 9, 9, 24, 24] := by simpa using Array.mem_of_getElem? ht
        have hall : ([22, 4, 9, 9, 24, 24].all fun u => !Tryz.prog.wantsStandIn u) = true := by kernel_rfl
        exact (show Tryz.prog.wantsStandIn t = false by simpa using List.all_eq_true.1 hall t hm)⟩)
    (by kernel_rfl)
#print axioms tells_card
end Go.Proofs.YtjplmghhleoolaaGreatDoor
