/- For every row of tales: watershedlaw30.WitnessFrom answers true, without a panic, and leaves what it was given as it was. The condition: the listed package-level variables of the library hold what their initialisers lay (the card ties this to the program's text). -/
import Derived.Test.YtbnclifpdmpjnaaGreatDoorZ07
import Derived.Test.YtbnclifpdmpjnaaGreatDoorZ48
import Derived.Test.YtbnclifpdmpjnaaGreatDoorZ47
namespace Go.Proofs.YtbnclifpdmpjnaaGreatDoor
open Go.ChangeShapes Go.WideShapes Go.ChangeAt Go.RowKit Go.ChangeMaps Go.Joins

set_option maxRecDepth 100000 in
theorem fromW_lifted (os : Os) (started : os.Started) (H : Type) (enc : TypeId × Value → H) :
    ReturnsInHanded {} Tryz.checked os 3 .any (fun w args => (Rows.witnessFromSpec.pre enc Tryz.prog Tryz.f3 [] false w args ∧ laidMetH Tryz.prog laidAllW w) ∧ sizedMet enc Tryz.prog Tryz.f3 (OpenSpec.ofChange Rows.witnessFromSpec) false w args)
      (Rows.witnessFromSpec.post enc Tryz.prog Tryz.f3 false true false false) := by
  refine returnsInHanded_of_change_and (C := Tryz.checked) (X := fun w _ => laidMetH Tryz.prog laidAllW w) (fun _ _ _ hh h => h.of_heap hh) own started (by kernel_rfl) Tryz.func3
    (ChangeSpec.witness_shaped (enc := enc) (C := Tryz.checked) (os := os) (X := fun w _ => laidMetH Tryz.prog laidAllW w) false (World.laidAll Tryz.prog os laidAllW) #[.slice none 0 0] 8 (World.laidAll_os _ _ _)
      (World.shaped_of_ZipB (by kernel_rfl) (by kernel_rfl)) (by kernel_rfl) (by kernel_rfl) (by kernel_rfl) (door_metW os _)) ?_
  intro W base args ds gs before hval0 hW _ hsz hL _
  have hval : ∀ (j : Nat) t v, Tryz.f3.params[j]? = some t → args[j]? = some v → Value.okWide Tryz.prog W .any base t v := hval0
  have hW' := hW
  obtain ⟨p, q, hA0, hV, rfl, _, _⟩ := hW
  have hA : DataW.TrodAll enc Tryz.prog W 0 (fun _ => true) true Tryz.f3.params.toList args.toList ds p := hA0
  rw [Tryz.params3] at hA hval
  have hA' := hA
  obtain ⟨v0, d0, rfl, rfl, h0⟩ := trodAll_one hA
  obtain ⟨rfl, rfl⟩ := trodVars_none hV
  obtain ⟨fuel0, hf0⟩ := h0
  obtain ⟨ao0, cap0, x0, hcs0, hl0, hc0, hr0, hfit0⟩ := open_tales hf0
  obtain ⟨aq0, nq0, cq0, rfl⟩ := okWide_slice Tryz.underlying22 (hval 0 22 v0 rfl rfl)
  simp only [Value.cells, List.cons.injEq, and_true] at hcs0
  rw [hcs0] at hW' hval hA'
  rw [hcs0]
  have hz0 : (DataW.weights Tryz.prog 22 d0).all (· ≤ reachBytes) = true := by
    rw [List.all_eq_true] at hsz ⊢
    exact fun z hz => hsz z (DataW.weights_mem_each (j := 0) (t := 22) (by kernel_rfl) rfl z hz)
  have hk0 : ∀ a ∈ x0, a.d.small := fun a ha => (hfit0 a ha).small hz0
  clear hA0 hval0
  simp only [List.append_nil] at hW'
  have hlv := lv_of_laid hL
  refine (fromW_calls x0 ao0 cap0 W (by unfold maxLen at hc0; omega) ⟨hr0, fun z hz => (hfit0 z hz).here⟩ hk0 hlv).mono fun e W' ⟨he, hb⟩ => ?_
  subst he
  exact ⟨_, rfl, _, _, _, [], _, [], hW', trodAll_mk1 (shut_bool Tryz.underlying4 _), below_trodAll laidOut hb (by kernel_rfl) hA' (fun x hx => hW'.lt x (by first | exact hx | simpa using hx)), rfl, hb.frame _, fun h => by cases h⟩

theorem fromW_mayEnter : Tryz.prog.mayEnter = true := by kernel_rfl
theorem fromW_lifts : (Rows.witnessFromRow.lifted == Tryz.prog.liftsFinal) = true := by kernel_rfl
theorem fromW_make : (Tryz.prog.make == some Rows.witnessFromRow.make) = true := by kernel_rfl
theorem fromW_heard : Tryz.prog.stopsHeard = true := by kernel_rfl
theorem fromW_inPlace : (Rows.witnessFromRow.inPlace == Tryz.prog.inPlace 3) = true := by kernel_rfl
theorem fromW_unf : (Rows.witnessFromRow.unfollowed == Tryz.prog.unfollowed 3) = true := by kernel_rfl
theorem fromW_rec : (Rows.witnessFromRow.recurses == Tryz.prog.recurses 3) = true := by kernel_rfl
theorem fromW_named : (Rows.witnessFromRow.named == Tryz.prog.varsNamed 3) = true := by kernel_rfl
theorem fromW_plain : (Rows.witnessFromRow.plainKeys == Tryz.prog.plainKeys) = true := by kernel_rfl
theorem fromW_closed : joinedFacts Tryz.prog 3 Tryz.f3 Rows.witnessFromSpec Rows.witnessFromRow = true := by
  unfold joinedFacts
  simp only [fromW_mayEnter, fromW_lifts, fromW_make, fromW_heard, fromW_inPlace, fromW_unf, fromW_rec, fromW_named, fromW_plain]
  kernel_rfl
theorem fromW_holds : Rows.WitnessFromSaid :=
  OpenClaim.holds_of_wide 3 Tryz.f3 rfl rfl rfl rfl rfl rfl rfl ⟨rfl, rfl, rfl, rfl, rfl⟩ rfl rfl rfl rfl rfl (by kernel_rfl) Tryz.func3 fromW_closed
    (of_decide_eq_true (by kernel_rfl)) (by unfold Func.isWrapper; first | (rw [if_pos (by decide +kernel)]; kernel_rfl) | (rw [if_neg (by decide +kernel)]; exact ⟨rfl, rfl⟩))
    (fun os started H enc _ => fromW_lifted os started H enc)

theorem fromW_main : Tryz.prog.mainIs = some (true, "7db8736b304226196bbcc17cb2f0daae23890883ec8e9bac90b3dcf2e53b1151".toList) := by kernel_rfl
theorem fromW_looks : true = Tryz.prog.looks [] := by kernel_rfl
theorem fromW_goes : false = Rows.witnessFromRow.goesBy Tryz.prog := by kernel_rfl
theorem fromW_id : Tryz.prog.funcNamed "watershed/watershedlaw30.WitnessFrom" = some 3 := by kernel_rfl

theorem fromW_card : Rows.WitnessFromCardSaid :=
  Claim7.holds_tied_plain_at .later [] [.data, .data, .data, .data, .sentinel, .sentinel, .pinned] true (true, "7db8736b304226196bbcc17cb2f0daae23890883ec8e9bac90b3dcf2e53b1151") true
    fromW_holds (fun _ h => by cases h) (by kernel_rfl) (fun _ h => by cases h) witnessFrom_row_tie rfl ⟨rfl, rfl⟩ fromW_main rfl
    (fun f fn hf hfn => by
      obtain rfl : f = 3 := Option.some.inj (fromW_id.symm.trans hf) |>.symm
      obtain rfl : fn = Tryz.f3 := (Option.some.inj (Tryz.func3.symm.trans hfn)).symm
      exact ⟨fromW_looks, fun j t ht => by
        rw [Tryz.params3] at ht
        have hm : t ∈ [22] := by simpa using Array.mem_of_getElem? ht
        have hall : ([22].all fun u => !Tryz.prog.wantsStandIn u) = true := by kernel_rfl
        exact (show Tryz.prog.wantsStandIn t = false by simpa using List.all_eq_true.1 hall t hm)⟩)
    fromW_goes
#print axioms fromW_card
end Go.Proofs.YtbnclifpdmpjnaaGreatDoor
