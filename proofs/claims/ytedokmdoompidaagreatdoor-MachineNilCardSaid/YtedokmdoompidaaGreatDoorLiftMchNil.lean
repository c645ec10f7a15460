/- For every row of bytes: watershedlaw23.MachineNil answers true, without a panic, and leaves what it was given as it was. The condition: the listed package-level variables of the library hold what their initialisers lay (the card ties this to the program's text). -/
import Derived.Test.YtedokmdoompidaaGreatDoorLift
import Derived.Test.YtedokmdoompidaaGreatDoorMchNil
namespace Go.Proofs.YtedokmdoompidaaGreatDoor
open Go.ChangeShapes Go.WideShapes Go.ChangeAt Go.RowKit Go.ChangeMaps Go.Joins

set_option maxRecDepth 100000 in
theorem machineNil_lifted (os : Os) (started : os.Started) (H : Type) (enc : TypeId × Value → H) :
    ReturnsInHanded {} Tryz.checked os 3 .any (fun w args => (Rows.machineNilSpec.pre enc Tryz.prog Tryz.f3 [] false w args ∧ laidMetH Tryz.prog laidAllD w) ∧ sizedMet enc Tryz.prog Tryz.f3 (OpenSpec.ofChange Rows.machineNilSpec) false w args)
      (Rows.machineNilSpec.post enc Tryz.prog Tryz.f3 false true false false) := by
  refine returnsInHanded_of_change_and (C := Tryz.checked) (X := fun w _ => laidMetH Tryz.prog laidAllD w) (fun _ _ _ hh h => h.of_heap hh) own started (by kernel_rfl) Tryz.func3
    (ChangeSpec.witness_shaped (enc := enc) (C := Tryz.checked) (os := os) (X := fun w _ => laidMetH Tryz.prog laidAllD w) false (World.laidAll Tryz.prog os laidAllD) #[.slice none 0 0] 8 (World.laidAll_os _ _ _)
      (World.shaped_of_ZipB (by kernel_rfl) (by kernel_rfl)) (by kernel_rfl) (by kernel_rfl) (by kernel_rfl) (door_met os _)) ?_
  intro W base args ds gs before hval0 hW _ hsz hL _
  have hval : ∀ (j : Nat) t v, Tryz.f3.params[j]? = some t → args[j]? = some v → Value.okWide Tryz.prog W .any base t v := hval0
  have hW' := hW
  obtain ⟨p, q, hA0, hV, rfl, _, _⟩ := hW
  have hA : DataW.TrodAll enc Tryz.prog W 0 (fun _ => true) true Tryz.f3.params.toList args.toList ds p := hA0
  rw [Tryz.params3] at hA hval
  have hA' := hA
  obtain ⟨v0, d0, rfl, rfl, h0⟩ := trodAll_one hA
  obtain ⟨rfl, rfl⟩ := trodVars_none hV
  obtain ⟨aq0, nq0, cq0, rfl⟩ := okWide_slice Tryz.underlying22 (hval 0 22 v0 rfl rfl)
  clear hA0 hval0
  simp only [List.append_nil] at hW'
  refine (machineNil_calls aq0 nq0 cq0 W).mono fun e W' ⟨he, hb⟩ => ?_
  subst he
  exact ⟨_, rfl, _, _, _, [], _, [], hW', trodAll_mk1 (shut_bool Tryz.underlying4 _), below_trodAll laidOut hb (by kernel_rfl) hA' (fun x hx => hW'.lt x (by first | exact hx | simpa using hx)), rfl, hb.frame _, fun h => by cases h⟩

theorem machineNil_mayEnter : Tryz.prog.mayEnter = true := by kernel_rfl
theorem machineNil_lifts : (Rows.machineNilRow.lifted == Tryz.prog.liftsFinal) = true := by kernel_rfl
theorem machineNil_make : (Tryz.prog.make == some Rows.machineNilRow.make) = true := by kernel_rfl
theorem machineNil_heard : Tryz.prog.stopsHeard = true := by kernel_rfl
theorem machineNil_inPlace : (Rows.machineNilRow.inPlace == Tryz.prog.inPlace 3) = true := by kernel_rfl
theorem machineNil_unf : (Rows.machineNilRow.unfollowed == Tryz.prog.unfollowed 3) = true := by kernel_rfl
theorem machineNil_rec : (Rows.machineNilRow.recurses == Tryz.prog.recurses 3) = true := by kernel_rfl
theorem machineNil_named : (Rows.machineNilRow.named == Tryz.prog.varsNamed 3) = true := by kernel_rfl
theorem machineNil_plain : (Rows.machineNilRow.plainKeys == Tryz.prog.plainKeys) = true := by kernel_rfl
theorem machineNil_closed : joinedFacts Tryz.prog 3 Tryz.f3 Rows.machineNilSpec Rows.machineNilRow = true := by
  unfold joinedFacts
  simp only [machineNil_mayEnter, machineNil_lifts, machineNil_make, machineNil_heard, machineNil_inPlace, machineNil_unf, machineNil_rec, machineNil_named, machineNil_plain]
  kernel_rfl
theorem machineNil_holds : Rows.MachineNilSaid :=
  OpenClaim.holds_of_wide 3 Tryz.f3 rfl rfl rfl rfl rfl rfl rfl ⟨rfl, rfl, rfl, rfl, rfl⟩ rfl rfl rfl rfl rfl (by kernel_rfl) Tryz.func3 machineNil_closed
    (of_decide_eq_true (by kernel_rfl)) (by unfold Func.isWrapper; first | (rw [if_pos (by decide +kernel)]; kernel_rfl) | (rw [if_neg (by decide +kernel)]; exact ⟨rfl, rfl⟩))
    (fun os started H enc _ => machineNil_lifted os started H enc)

theorem machineNil_main : Tryz.prog.mainIs = some (true, "805cc5b188078b355a6c0c620a6901b8da9a04ff23ca64961aac079afa916372".toList) := by kernel_rfl
theorem machineNil_looks : true = Tryz.prog.looks [] := by kernel_rfl
theorem machineNil_goes : false = Rows.machineNilRow.goesBy Tryz.prog := by kernel_rfl
theorem machineNil_id : Tryz.prog.funcNamed "watershed/watershedlaw23.MachineNil" = some 3 := by kernel_rfl

theorem machineNil_card : Rows.MachineNilCardSaid :=
  Claim7.holds_tied_plain_at .later [] [.data, .data, .data, .data, .sentinel, .sentinel, .pinned] true (true, "805cc5b188078b355a6c0c620a6901b8da9a04ff23ca64961aac079afa916372") true
    machineNil_holds (fun _ h => by cases h) (by kernel_rfl) (fun _ h => by cases h) machineNil_row_tie rfl ⟨rfl, rfl⟩ machineNil_main rfl
    (fun f fn hf hfn => by
      obtain rfl : f = 3 := Option.some.inj (machineNil_id.symm.trans hf) |>.symm
      obtain rfl : fn = Tryz.f3 := (Option.some.inj (Tryz.func3.symm.trans hfn)).symm
      exact ⟨machineNil_looks, fun j t ht => by
        rw [Tryz.params3] at ht
        have hm : t ∈ [22] := by simpa using Array.mem_of_getElem? ht
        have hall : ([22].all fun u => !Tryz.prog.wantsStandIn u) = true := by kernel_rfl
        exact (show Tryz.prog.wantsStandIn t = false by simpa using List.all_eq_true.1 hall t hm)⟩)
    machineNil_goes
#print axioms machineNil_card
end Go.Proofs.YtedokmdoompidaaGreatDoor
