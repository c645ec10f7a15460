/- For every row of steps and every number: watershedlaw30.WitnessOrder answers true, without a panic, and leaves what it was given as it was. The condition: the listed package-level variables of the library hold what their initialisers lay (the card ties this to the program's text). -/
import Derived.Test.YtngahblgicjoiaaGreatDoorLaidW
import Derived.Test.YtngahblgicjoiaaGreatDoorOrderW
namespace Go.Proofs.YtngahblgicjoiaaGreatDoor
open Go.ChangeShapes Go.WideShapes Go.ChangeAt Go.RowKit Go.ChangeMaps Go.Joins

set_option maxRecDepth 100000 in
theorem orderW_lifted (os : Os) (started : os.Started) (H : Type) (enc : TypeId × Value → H) :
    ReturnsInHanded {} Tryz.checked os 7 .any (fun w args => (Rows.witnessOrderSpec.pre enc Tryz.prog Tryz.f7 [] false w args ∧ laidMetH Tryz.prog laidAllW w) ∧ sizedMet enc Tryz.prog Tryz.f7 (OpenSpec.ofChange Rows.witnessOrderSpec) false w args)
      (Rows.witnessOrderSpec.post enc Tryz.prog Tryz.f7 false true false false) := by
  refine returnsInHanded_of_change_and (C := Tryz.checked) (X := fun w _ => laidMetH Tryz.prog laidAllW w) (fun _ _ _ hh h => h.of_heap hh) own started (by kernel_rfl) Tryz.func7
    (ChangeSpec.witness_shaped (enc := enc) (C := Tryz.checked) (os := os) (X := fun w _ => laidMetH Tryz.prog laidAllW w) false (World.laidAll Tryz.prog os laidAllW) #[.slice none 0 0, .int .i64 0] 8 (World.laidAll_os _ _ _)
      (World.shaped_of_ZipB (by kernel_rfl) (by kernel_rfl)) (by kernel_rfl) (by kernel_rfl) (by kernel_rfl) (door_metW os _)) ?_
  intro W base args ds gs before hval0 hW _ hsz hL _
  have hval : ∀ (j : Nat) t v, Tryz.f7.params[j]? = some t → args[j]? = some v → Value.okWide Tryz.prog W .any base t v := hval0
  have hW' := hW
  obtain ⟨p, q, hA0, hV, rfl, _, _⟩ := hW
  have hA : DataW.TrodAll enc Tryz.prog W 0 (fun _ => true) true Tryz.f7.params.toList args.toList ds p := hA0
  rw [Tryz.params7] at hA hval
  have hA' := hA
  obtain ⟨v0, v1, d0, d1, p0, p1, rfl, rfl, rfl, h0, h1⟩ := trodAll_two hA
  obtain ⟨rfl, rfl⟩ := trodVars_none hV
  obtain ⟨fuel0, hf0⟩ := h0
  obtain ⟨ao0, cap0, x0, hcs0, hl0, hc0, hr0, hfit0⟩ := open_steps hf0
  obtain ⟨aq0, nq0, cq0, rfl⟩ := okWide_slice Tryz.underlying22 (hval 0 22 v0 rfl rfl)
  simp only [Value.cells, List.cons.injEq, and_true] at hcs0
  rw [hcs0] at hW' hval hA'
  rw [hcs0]
  have hz0 : (DataW.weights Tryz.prog 22 d0).all (· ≤ reachBytes) = true := by
    rw [List.all_eq_true] at hsz ⊢
    exact fun z hz => hsz z (DataW.weights_mem_each (j := 0) (t := 22) (by kernel_rfl) rfl z hz)
  have hk0 : ∀ a ∈ x0, a.d.small := fun a ha => (hfit0 a ha).small hz0
  obtain ⟨x1, rfl, rfl, rfl, w1⟩ := open_int Tryz.underlying3 (hval 1 3 v1 rfl rfl) h1
  clear hA0 hval0
  simp only [List.append_nil] at hW'
  have hlv := lv_of_laid hL
  refine (orderW_calls x0 ao0 cap0 x1 W (by unfold maxLen at hc0; omega) hl0 ⟨hr0, fun z hz => (hfit0 z hz).here⟩ hk0 hlv).mono fun e W' ⟨he, hb⟩ => ?_
  subst he
  exact ⟨_, rfl, _, _, _, [], _, [], hW', trodAll_mk1 (shut_bool Tryz.underlying4 _), below_trodAll laidOut hb (by kernel_rfl) hA' (fun x hx => hW'.lt x (by first | exact hx | simpa using hx)), rfl, hb.frame _, fun h => by cases h⟩

theorem orderW_mayEnter : Tryz.prog.mayEnter = true := by kernel_rfl
theorem orderW_lifts : (Rows.witnessOrderRow.lifted == Tryz.prog.liftsFinal) = true := by kernel_rfl
theorem orderW_make : (Tryz.prog.make == some Rows.witnessOrderRow.make) = true := by kernel_rfl
theorem orderW_heard : Tryz.prog.stopsHeard = true := by kernel_rfl
theorem orderW_inPlace : (Rows.witnessOrderRow.inPlace == Tryz.prog.inPlace 7) = true := by kernel_rfl
theorem orderW_unf : (Rows.witnessOrderRow.unfollowed == Tryz.prog.unfollowed 7) = true := by kernel_rfl
theorem orderW_rec : (Rows.witnessOrderRow.recurses == Tryz.prog.recurses 7) = true := by kernel_rfl
theorem orderW_named : (Rows.witnessOrderRow.named == Tryz.prog.varsNamed 7) = true := by kernel_rfl
theorem orderW_plain : (Rows.witnessOrderRow.plainKeys == Tryz.prog.plainKeys) = true := by kernel_rfl
theorem orderW_closed : joinedFacts Tryz.prog 7 Tryz.f7 Rows.witnessOrderSpec Rows.witnessOrderRow = true := by
  unfold joinedFacts
  simp only [orderW_mayEnter, orderW_lifts, orderW_make, orderW_heard, orderW_inPlace, orderW_unf, orderW_rec, orderW_named, orderW_plain]
  kernel_rfl
theorem orderW_holds : Rows.WitnessOrderSaid :=
  OpenClaim.holds_of_wide 7 Tryz.f7 rfl rfl rfl rfl rfl rfl rfl ⟨rfl, rfl, rfl, rfl, rfl⟩ rfl rfl rfl rfl rfl (by kernel_rfl) Tryz.func7 orderW_closed
    (of_decide_eq_true (by kernel_rfl)) (by unfold Func.isWrapper; first | (rw [if_pos (by decide +kernel)]; kernel_rfl) | (rw [if_neg (by decide +kernel)]; exact ⟨rfl, rfl⟩))
    (fun os started H enc _ => orderW_lifted os started H enc)

theorem orderW_card : Rows.WitnessOrderCardSaid :=
  Claim7.holds_tied_plain_at .later [] [.data, .data, .data, .data, .sentinel, .sentinel, .pinned] true (true, "e8fe6081278a208c57961a9f088a18b8996f30f61be1b9d3a8b2a9040d29e60a") true
    orderW_holds (fun _ h => by cases h) (by kernel_rfl) (fun _ h => by cases h) witnessOrder_row_tie rfl ⟨rfl, rfl⟩ (by kernel_rfl) rfl
    (fun f fn hf hfn => by
      obtain rfl : f = 7 := Option.some.inj ((show Tryz.prog.funcNamed "watershed/watershedlaw30.WitnessOrder" = some 7 by kernel_rfl).symm.trans hf) |>.symm
      obtain rfl : fn = Tryz.f7 := (Option.some.inj (Tryz.func7.symm.trans hfn)).symm
      exact ⟨by kernel_rfl, fun j t ht => by
        rw [Tryz.params7] at ht
        have hm : t ∈ [22, 3] := by simpa using Array.mem_of_getElem? ht
        have hall : ([22, 3].all fun u => !Tryz.prog.wantsStandIn u) = true := by kernel_rfl
        exact (show Tryz.prog.wantsStandIn t = false by simpa using List.all_eq_true.1 hall t hm)⟩)
    (by kernel_rfl)
#print axioms orderW_card
end Go.Proofs.YtngahblgicjoiaaGreatDoor
