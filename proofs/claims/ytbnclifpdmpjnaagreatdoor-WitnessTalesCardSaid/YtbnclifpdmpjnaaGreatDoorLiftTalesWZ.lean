/- The closed statement watershedlaw30.WitnessTales answers true, without a panic. The condition: the listed package-level variables of the library hold what their initialisers lay (the card ties this to the program's text). -/
import Derived.Test.YtbnclifpdmpjnaaGreatDoorZ07
import Derived.Test.YtbnclifpdmpjnaaGreatDoorZ52
namespace Go.Proofs.YtbnclifpdmpjnaaGreatDoor
open Go.ChangeShapes Go.WideShapes Go.ChangeAt Go.RowKit Go.ChangeMaps Go.Joins

set_option maxRecDepth 100000 in
theorem talesW_lifted (os : Os) (started : os.Started) (H : Type) (enc : TypeId × Value → H) :
    ReturnsInHanded {} Tryz.checked os 4 .any (fun w args => (Rows.witnessTalesSpec.pre enc Tryz.prog Tryz.f4 [] false w args ∧ laidMetH Tryz.prog laidAllW w) ∧ sizedMet enc Tryz.prog Tryz.f4 (OpenSpec.ofChange Rows.witnessTalesSpec) false w args)
      (Rows.witnessTalesSpec.post enc Tryz.prog Tryz.f4 false true false false) := by
  refine returnsInHanded_of_change_and (C := Tryz.checked) (X := fun w _ => laidMetH Tryz.prog laidAllW w) (fun _ _ _ hh h => h.of_heap hh) own started (by kernel_rfl) Tryz.func4
    (ChangeSpec.witness_shaped (enc := enc) (C := Tryz.checked) (os := os) (X := fun w _ => laidMetH Tryz.prog laidAllW w) false (World.laidAll Tryz.prog os laidAllW) #[] 8 (World.laidAll_os _ _ _)
      (World.shaped_of_ZipB (by kernel_rfl) (by kernel_rfl)) (by kernel_rfl) (by kernel_rfl) (by kernel_rfl) (door_metW os _)) ?_
  intro W base args ds gs before hval0 hW _ hsz hL _
  have hval : ∀ (j : Nat) t v, Tryz.f4.params[j]? = some t → args[j]? = some v → Value.okWide Tryz.prog W .any base t v := hval0
  have hW' := hW
  obtain ⟨p, q, hA0, hV, rfl, _, _⟩ := hW
  have hA : DataW.TrodAll enc Tryz.prog W 0 (fun _ => true) true Tryz.f4.params.toList args.toList ds p := hA0
  rw [Tryz.params4] at hA hval
  have hA' := hA
  obtain ⟨rfl, rfl, rfl⟩ := trodAll_none hA
  obtain ⟨rfl, rfl⟩ := trodVars_none hV
  clear hA0 hval0
  simp only [List.append_nil] at hW'
  have hlv := lv_of_laid hL
  refine (talesW_calls W hlv).mono fun e W' ⟨he, hb⟩ => ?_
  subst he
  exact ⟨_, rfl, _, _, _, [], _, [], hW', trodAll_mk1 (shut_bool Tryz.underlying4 _), below_trodAll laidOut hb (by kernel_rfl) hA' (fun x hx => hW'.lt x (by first | exact hx | simpa using hx)), rfl, hb.frame _, fun h => by cases h⟩

theorem talesW_mayEnter : Tryz.prog.mayEnter = true := by kernel_rfl
theorem talesW_lifts : (Rows.witnessTalesRow.lifted == Tryz.prog.liftsFinal) = true := by kernel_rfl
theorem talesW_make : (Tryz.prog.make == some Rows.witnessTalesRow.make) = true := by kernel_rfl
theorem talesW_heard : Tryz.prog.stopsHeard = true := by kernel_rfl
theorem talesW_inPlace : (Rows.witnessTalesRow.inPlace == Tryz.prog.inPlace 4) = true := by kernel_rfl
theorem talesW_unf : (Rows.witnessTalesRow.unfollowed == Tryz.prog.unfollowed 4) = true := by kernel_rfl
theorem talesW_rec : (Rows.witnessTalesRow.recurses == Tryz.prog.recurses 4) = true := by kernel_rfl
theorem talesW_named : (Rows.witnessTalesRow.named == Tryz.prog.varsNamed 4) = true := by kernel_rfl
theorem talesW_plain : (Rows.witnessTalesRow.plainKeys == Tryz.prog.plainKeys) = true := by kernel_rfl
theorem talesW_closed : joinedFacts Tryz.prog 4 Tryz.f4 Rows.witnessTalesSpec Rows.witnessTalesRow = true := by
  unfold joinedFacts
  simp only [talesW_mayEnter, talesW_lifts, talesW_make, talesW_heard, talesW_inPlace, talesW_unf, talesW_rec, talesW_named, talesW_plain]
  kernel_rfl
theorem talesW_holds : Rows.WitnessTalesSaid :=
  OpenClaim.holds_of_wide 4 Tryz.f4 rfl rfl rfl rfl rfl rfl rfl ⟨rfl, rfl, rfl, rfl, rfl⟩ rfl rfl rfl rfl rfl (by kernel_rfl) Tryz.func4 talesW_closed
    (of_decide_eq_true (by kernel_rfl)) (by unfold Func.isWrapper; first | (rw [if_pos (by decide +kernel)]; kernel_rfl) | (rw [if_neg (by decide +kernel)]; exact ⟨rfl, rfl⟩))
    (fun os started H enc _ => talesW_lifted os started H enc)

theorem talesW_main : Tryz.prog.mainIs = some (true, "7db8736b304226196bbcc17cb2f0daae23890883ec8e9bac90b3dcf2e53b1151".toList) := by kernel_rfl
theorem talesW_looks : true = Tryz.prog.looks [] := by kernel_rfl
theorem talesW_goes : false = Rows.witnessTalesRow.goesBy Tryz.prog := by kernel_rfl
theorem talesW_id : Tryz.prog.funcNamed "watershed/watershedlaw30.WitnessTales" = some 4 := by kernel_rfl

theorem talesW_card : Rows.WitnessTalesCardSaid :=
  Claim7.holds_tied_plain_at .later [] [.data, .data, .data, .data, .sentinel, .sentinel, .pinned] true (true, "7db8736b304226196bbcc17cb2f0daae23890883ec8e9bac90b3dcf2e53b1151") true
    talesW_holds (fun _ h => by cases h) (by kernel_rfl) (fun _ h => by cases h) witnessTales_row_tie rfl ⟨rfl, rfl⟩ talesW_main rfl
    (fun f fn hf hfn => by
      obtain rfl : f = 4 := Option.some.inj (talesW_id.symm.trans hf) |>.symm
      obtain rfl : fn = Tryz.f4 := (Option.some.inj (Tryz.func4.symm.trans hfn)).symm
      exact ⟨talesW_looks, fun j t ht => by
        rw [Tryz.params4] at ht
        simp at ht⟩)
    talesW_goes
#print axioms talesW_card
end Go.Proofs.YtbnclifpdmpjnaaGreatDoor
