/- For every row of lines and every step: watershedlaw30.WitnessDoes answers true, without a panic, and leaves what it was given as it was. The condition: the listed package-level variables of the library hold what their initialisers lay (the card ties this to the program's text). -/
import Derived.Test.YtngahblgicjoiaaGreatDoorLaidW
import Derived.Test.YtngahblgicjoiaaGreatDoorDoesAll
namespace Go.Proofs.YtngahblgicjoiaaGreatDoor
open Go.ChangeShapes Go.WideShapes Go.ChangeAt Go.RowKit Go.ChangeMaps Go.Joins

set_option maxRecDepth 100000 in
theorem doesW_lifted (os : Os) (started : os.Started) (H : Type) (enc : TypeId × Value → H) :
    ReturnsInHanded {} Tryz.checked os 4 .any (fun w args => (Rows.witnessDoesSpec.pre enc Tryz.prog Tryz.f4 [] false w args ∧ laidMetH Tryz.prog laidAllW w) ∧ sizedMet enc Tryz.prog Tryz.f4 (OpenSpec.ofChange Rows.witnessDoesSpec) false w args)
      (Rows.witnessDoesSpec.post enc Tryz.prog Tryz.f4 false true false false) := by
  refine returnsInHanded_of_change_and (C := Tryz.checked) (X := fun w _ => laidMetH Tryz.prog laidAllW w) (fun _ _ _ hh h => h.of_heap hh) own started (by kernel_rfl) Tryz.func4
    (ChangeSpec.witness_shaped (enc := enc) (C := Tryz.checked) (os := os) (X := fun w _ => laidMetH Tryz.prog laidAllW w) false (World.laidAll Tryz.prog os laidAllW) #[.slice none 0 0, .agg #[.int .i64 0, .int .i64 0, .slice none 0 0, .slice none 0 0, .int .i64 0, .int .i64 0]] 8 (World.laidAll_os _ _ _)
      (World.shaped_of_ZipB (by kernel_rfl) (by kernel_rfl)) (by kernel_rfl) (by kernel_rfl) (by kernel_rfl) (door_metW os _)) ?_
  intro W base args ds gs before hval0 hW _ hsz hL _
  have hval : ∀ (j : Nat) t v, Tryz.f4.params[j]? = some t → args[j]? = some v → Value.okWide Tryz.prog W .any base t v := hval0
  have hW' := hW
  obtain ⟨p, q, hA0, hV, rfl, _, _⟩ := hW
  have hA : DataW.TrodAll enc Tryz.prog W 0 (fun _ => true) true Tryz.f4.params.toList args.toList ds p := hA0
  rw [Tryz.params4] at hA hval
  have hA' := hA
  obtain ⟨v0, v1, d0, d1, p0, p1, rfl, rfl, rfl, h0, h1⟩ := trodAll_two hA
  obtain ⟨rfl, rfl⟩ := trodVars_none hV
  obtain ⟨fuel0, hf0⟩ := h0
  obtain ⟨ao0, cap0, x0, hcs0, hl0, hc0, hr0, hfit0⟩ := open_lines hf0
  obtain ⟨aq0, nq0, cq0, rfl⟩ := okWide_slice Tryz.underlying32 (hval 0 32 v0 rfl rfl)
  simp only [Value.cells, List.cons.injEq, and_true] at hcs0
  rw [hcs0] at hW' hval hA'
  rw [hcs0]
  have hz0 : (DataW.weights Tryz.prog 32 d0).all (· ≤ reachBytes) = true := by
    rw [List.all_eq_true] at hsz ⊢
    exact fun z hz => hsz z (DataW.weights_mem_each (j := 0) (t := 32) (by kernel_rfl) rfl z hz)
  have hk0 : ∀ a ∈ x0, a.ok := fun a ha => (hfit0 a ha).ok hz0
  have hz1 : (DataW.weights Tryz.prog 38 d1).all (· ≤ reachBytes) = true := by
    rw [List.all_eq_true] at hsz ⊢
    exact fun z hz => hsz z (DataW.weights_mem_each (j := 1) (t := 38) (by kernel_rfl) rfl z hz)
  obtain ⟨z1, rfl, sg1⟩ := open_stepV (hval 1 38 v1 rfl rfl) h1
  have sm1 : z1.d.small := sg1.small hz1
  clear hA0 hval0
  simp only [List.append_nil] at hW'
  have hlv := lv_of_laid hL
  refine (doesW_calls x0 ao0 cap0 z1 W (by unfold maxLen at hc0; omega) hr0 hk0 sg1.here sm1 hlv).mono fun e W' ⟨he, hb⟩ => ?_
  subst he
  exact ⟨_, rfl, _, _, _, [], _, [], hW', trodAll_mk1 (shut_bool Tryz.underlying4 _), below_trodAll laidOut hb (by kernel_rfl) hA' (fun x hx => hW'.lt x (by first | exact hx | simpa using hx)), rfl, hb.frame _, fun h => by cases h⟩

theorem doesW_mayEnter : Tryz.prog.mayEnter = true := by kernel_rfl
theorem doesW_lifts : (Rows.witnessDoesRow.lifted == Tryz.prog.liftsFinal) = true := by kernel_rfl
theorem doesW_make : (Tryz.prog.make == some Rows.witnessDoesRow.make) = true := by kernel_rfl
theorem doesW_heard : Tryz.prog.stopsHeard = true := by kernel_rfl
theorem doesW_inPlace : (Rows.witnessDoesRow.inPlace == Tryz.prog.inPlace 4) = true := by kernel_rfl
theorem doesW_unf : (Rows.witnessDoesRow.unfollowed == Tryz.prog.unfollowed 4) = true := by kernel_rfl
theorem doesW_rec : (Rows.witnessDoesRow.recurses == Tryz.prog.recurses 4) = true := by kernel_rfl
theorem doesW_named : (Rows.witnessDoesRow.named == Tryz.prog.varsNamed 4) = true := by kernel_rfl
theorem doesW_plain : (Rows.witnessDoesRow.plainKeys == Tryz.prog.plainKeys) = true := by kernel_rfl
theorem doesW_closed : joinedFacts Tryz.prog 4 Tryz.f4 Rows.witnessDoesSpec Rows.witnessDoesRow = true := by
  unfold joinedFacts
  simp only [doesW_mayEnter, doesW_lifts, doesW_make, doesW_heard, doesW_inPlace, doesW_unf, doesW_rec, doesW_named, doesW_plain]
  kernel_rfl
theorem doesW_holds : Rows.WitnessDoesSaid :=
  OpenClaim.holds_of_wide 4 Tryz.f4 rfl rfl rfl rfl rfl rfl rfl ⟨rfl, rfl, rfl, rfl, rfl⟩ rfl rfl rfl rfl rfl (by kernel_rfl) Tryz.func4 doesW_closed
    (of_decide_eq_true (by kernel_rfl)) (by unfold Func.isWrapper; first | (rw [if_pos (by decide +kernel)]; kernel_rfl) | (rw [if_neg (by decide +kernel)]; exact ⟨rfl, rfl⟩))
    (fun os started H enc _ => doesW_lifted os started H enc)

theorem doesW_main : Tryz.prog.mainIs = some (true, "e8fe6081278a208c57961a9f088a18b8996f30f61be1b9d3a8b2a9040d29e60a".toList) := by kernel_rfl
theorem doesW_looks : true = Tryz.prog.looks [] := by kernel_rfl
theorem doesW_goes : false = Rows.witnessDoesRow.goesBy Tryz.prog := by kernel_rfl
theorem doesW_id : Tryz.prog.funcNamed "watershed/watershedlaw30.WitnessDoes" = some 4 := by kernel_rfl

theorem doesW_card : Rows.WitnessDoesCardSaid :=
  Claim7.holds_tied_plain_at .later [] [.data, .data, .data, .data, .sentinel, .sentinel, .pinned] true (true, "e8fe6081278a208c57961a9f088a18b8996f30f61be1b9d3a8b2a9040d29e60a") true
    doesW_holds (fun _ h => by cases h) (by kernel_rfl) (fun _ h => by cases h) witnessDoes_row_tie rfl ⟨rfl, rfl⟩ doesW_main rfl
    (fun f fn hf hfn => by
      obtain rfl : f = 4 := Option.some.inj (doesW_id.symm.trans hf) |>.symm
      obtain rfl : fn = Tryz.f4 := (Option.some.inj (Tryz.func4.symm.trans hfn)).symm
      exact ⟨doesW_looks, fun j t ht => by
        rw [Tryz.params4] at ht
        have hm : t ∈ [32, 38] := by simpa using Array.mem_of_getElem? ht
        have hall : ([32, 38].all fun u => !Tryz.prog.wantsStandIn u) = true := by kernel_rfl
        exact (show Tryz.prog.wantsStandIn t = false by simpa using List.all_eq_true.1 hall t hm)⟩)
    doesW_goes
#print axioms doesW_card
end Go.Proofs.YtngahblgicjoiaaGreatDoor
