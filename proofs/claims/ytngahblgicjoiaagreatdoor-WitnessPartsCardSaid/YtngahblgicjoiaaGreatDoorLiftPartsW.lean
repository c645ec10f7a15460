/- The closed statement watershedlaw30.WitnessParts answers true, without a panic. The condition: the listed package-level variables of the library hold what their initialisers lay (the card ties this to the program's text). -/
import Derived.Test.YtngahblgicjoiaaGreatDoorLaidW
import Derived.Test.YtngahblgicjoiaaGreatDoorPartsW
namespace Go.Proofs.YtngahblgicjoiaaGreatDoor
open Go.ChangeShapes Go.WideShapes Go.ChangeAt Go.RowKit Go.ChangeMaps Go.Joins

set_option maxRecDepth 100000 in
theorem partsW_lifted (os : Os) (started : os.Started) (H : Type) (enc : TypeId × Value → H) :
    ReturnsInHanded {} Tryz.checked os 8 .any (fun w args => (Rows.witnessPartsSpec.pre enc Tryz.prog Tryz.f8 [] false w args ∧ laidMetH Tryz.prog laidAllW w) ∧ sizedMet enc Tryz.prog Tryz.f8 (OpenSpec.ofChange Rows.witnessPartsSpec) false w args)
      (Rows.witnessPartsSpec.post enc Tryz.prog Tryz.f8 false true false false) := by
  refine returnsInHanded_of_change_and (C := Tryz.checked) (X := fun w _ => laidMetH Tryz.prog laidAllW w) (fun _ _ _ hh h => h.of_heap hh) own started (by kernel_rfl) Tryz.func8
    (ChangeSpec.witness_shaped (enc := enc) (C := Tryz.checked) (os := os) (X := fun w _ => laidMetH Tryz.prog laidAllW w) false (World.laidAll Tryz.prog os laidAllW) #[] 8 (World.laidAll_os _ _ _)
      (World.shaped_of_ZipB (by kernel_rfl) (by kernel_rfl)) (by kernel_rfl) (by kernel_rfl) (by kernel_rfl) (door_metW os _)) ?_
  intro W base args ds gs before hval0 hW _ hsz hL _
  have hval : ∀ (j : Nat) t v, Tryz.f8.params[j]? = some t → args[j]? = some v → Value.okWide Tryz.prog W .any base t v := hval0
  have hW' := hW
  obtain ⟨p, q, hA0, hV, rfl, _, _⟩ := hW
  have hA : DataW.TrodAll enc Tryz.prog W 0 (fun _ => true) true Tryz.f8.params.toList args.toList ds p := hA0
  rw [Tryz.params8] at hA hval
  have hA' := hA
  obtain ⟨rfl, rfl, rfl⟩ := trodAll_none hA
  obtain ⟨rfl, rfl⟩ := trodVars_none hV
  clear hA0 hval0
  simp only [List.append_nil] at hW'
  have hlv := lv_of_laid hL
  refine (partsW_calls W hlv).mono fun e W' ⟨he, hb⟩ => ?_
  subst he
  exact ⟨_, rfl, _, _, _, [], _, [], hW', trodAll_mk1 (shut_bool Tryz.underlying4 _), below_trodAll laidOut hb (by kernel_rfl) hA' (fun x hx => hW'.lt x (by first | exact hx | simpa using hx)), rfl, hb.frame _, fun h => by cases h⟩

theorem partsW_mayEnter : Tryz.prog.mayEnter = true := by kernel_rfl
theorem partsW_lifts : (Rows.witnessPartsRow.lifted == Tryz.prog.liftsFinal) = true := by kernel_rfl
theorem partsW_make : (Tryz.prog.make == some Rows.witnessPartsRow.make) = true := by kernel_rfl
theorem partsW_heard : Tryz.prog.stopsHeard = true := by kernel_rfl
theorem partsW_inPlace : (Rows.witnessPartsRow.inPlace == Tryz.prog.inPlace 8) = true := by kernel_rfl
theorem partsW_unf : (Rows.witnessPartsRow.unfollowed == Tryz.prog.unfollowed 8) = true := by kernel_rfl
theorem partsW_rec : (Rows.witnessPartsRow.recurses == Tryz.prog.recurses 8) = true := by kernel_rfl
theorem partsW_named : (Rows.witnessPartsRow.named == Tryz.prog.varsNamed 8) = true := by kernel_rfl
theorem partsW_plain : (Rows.witnessPartsRow.plainKeys == Tryz.prog.plainKeys) = true := by kernel_rfl
theorem partsW_closed : joinedFacts Tryz.prog 8 Tryz.f8 Rows.witnessPartsSpec Rows.witnessPartsRow = true := by
  unfold joinedFacts
  simp only [partsW_mayEnter, partsW_lifts, partsW_make, partsW_heard, partsW_inPlace, partsW_unf, partsW_rec, partsW_named, partsW_plain]
  kernel_rfl
theorem partsW_holds : Rows.WitnessPartsSaid :=
  OpenClaim.holds_of_wide 8 Tryz.f8 rfl rfl rfl rfl rfl rfl rfl ⟨rfl, rfl, rfl, rfl, rfl⟩ rfl rfl rfl rfl rfl (by kernel_rfl) Tryz.func8 partsW_closed
    (of_decide_eq_true (by kernel_rfl)) (by unfold Func.isWrapper; first | (rw [if_pos (by decide +kernel)]; kernel_rfl) | (rw [if_neg (by decide +kernel)]; exact ⟨rfl, rfl⟩))
    (fun os started H enc _ => partsW_lifted os started H enc)

theorem partsW_main : Tryz.prog.mainIs = some (true, "e8fe6081278a208c57961a9f088a18b8996f30f61be1b9d3a8b2a9040d29e60a".toList) := by kernel_rfl
theorem partsW_looks : true = Tryz.prog.looks [] := by kernel_rfl
theorem partsW_goes : false = Rows.witnessPartsRow.goesBy Tryz.prog := by kernel_rfl
theorem partsW_id : Tryz.prog.funcNamed "watershed/watershedlaw30.WitnessParts" = some 8 := by kernel_rfl

theorem partsW_card : Rows.WitnessPartsCardSaid :=
  Claim7.holds_tied_plain_at .later [] [.data, .data, .data, .data, .sentinel, .sentinel, .pinned] true (true, "e8fe6081278a208c57961a9f088a18b8996f30f61be1b9d3a8b2a9040d29e60a") true
    partsW_holds (fun _ h => by cases h) (by kernel_rfl) (fun _ h => by cases h) witnessParts_row_tie rfl ⟨rfl, rfl⟩ partsW_main rfl
    (fun f fn hf hfn => by
      obtain rfl : f = 8 := Option.some.inj (partsW_id.symm.trans hf) |>.symm
      obtain rfl : fn = Tryz.f8 := (Option.some.inj (Tryz.func8.symm.trans hfn)).symm
      exact ⟨partsW_looks, fun j t ht => by
        rw [Tryz.params8] at ht
        simp at ht⟩)
    partsW_goes
#print axioms partsW_card
end Go.Proofs.YtngahblgicjoiaaGreatDoor
