/- For every row of deeds and every key: watershedlaw18.TractHeld answers true, without a panic, and leaves what it was given as it was. The condition: the listed package-level variables of the library hold what their initialisers lay (the card ties this to the program's text). -/
import Derived.Test.YtmpmggejhnmakaaGreatDoorZ52
namespace Go.Proofs.YtmpmggejhnmakaaGreatDoor
open Go.ChangeShapes Go.WideShapes Go.ChangeAt Go.RowKit Go.ChangeMaps Go.Joins
set_option maxRecDepth 100000 in
theorem tractHeld_lifted (os : Os) (started : os.Started) (H : Type) (enc : TypeId × Value → H) :
 ReturnsInHanded {} Tryz.checked os 3 .any (fun w args => (Rows.tractHeldSpec.pre enc Tryz.prog Tryz.f3 [] false w args ∧ laidMetH Tryz.prog laidAllW w) ∧ sizedMet enc Tryz.prog Tryz.f3 (OpenSpec.ofChange Rows.tractHeldSpec) false w args)
  (Rows.tractHeldSpec.post enc Tryz.prog Tryz.f3 false true false false) := by
 refine returnsInHanded_of_change_and (C := Tryz.checked) (X := fun w _ => laidMetH Tryz.prog laidAllW w) (fun _ _ _ hh h => h.of_heap hh) own started (by kernel_rfl) Tryz.func3
  (ChangeSpec.witness_shaped (enc := enc) (C := Tryz.checked) (os := os) (X := fun w _ => laidMetH Tryz.prog laidAllW w) false (World.laidAll Tryz.prog os laidAllW) #[.slice none 0 0, .string ⟨#[]⟩] 8 (World.laidAll_os _ _ _)
    (World.shaped_of_ZipB (by kernel_rfl) (by kernel_rfl)) (by kernel_rfl) (by kernel_rfl) (by kernel_rfl) (door_metW os _)) ?_
 intro W base args ds gs before hval0 hW _ hsz hL _
 have hval : ∀ (j : Nat) t v, Tryz.f3.params[j]? = some t → args[j]? = some v → Value.okWide Tryz.prog W .any base t v := hval0
 have hW' := hW
 obtain ⟨p, q, hA0, hV, rfl, _, _⟩ := hW
 have hA : DataW.TrodAll enc Tryz.prog W 0 (fun _ => true) true Tryz.f3.params.toList args.toList ds p := hA0
 rw [Tryz.params3] at hA hval
 have hA' := hA
 obtain ⟨v0, v1, d0, d1, p0, p1, rfl, rfl, rfl, h0, h1⟩ := trodAll_two hA
 obtain ⟨rfl, rfl⟩ := trodVars_none hV
 have hz0 : (DataW.weights Tryz.prog 22 d0).all (· ≤ reachBytes) = true := by
  rw [List.all_eq_true] at hsz ⊢
  exact fun z hz => hsz z (DataW.weights_mem_each (j := 0) (t := 22) (by kernel_rfl) rfl z hz)
 obtain ⟨fuel0, hf0⟩ := h0
 obtain ⟨ao0, cap0, x0, hcs0, hl0, hc0, hr0, ha0⟩ := open_deedZ hf0
 obtain ⟨aq0, nq0, cq0, rfl⟩ := okWide_slice Tryz.underlying22 (hval 0 22 v0 rfl rfl)
 simp only [Value.cells, List.cons.injEq, and_true] at hcs0
 rw [hcs0] at hW' hval hA'
 rw [hcs0]
 obtain ⟨x1, rfl, rfl, rfl, w1⟩ := open_string Tryz.underlying9 (hval 1 9 v1 rfl rfl) h1
 clear hA0 hval0
 simp only [List.append_nil] at hW'
 have hlv := lv_of_laid hL
 have s1 : x1.size ≤ 140737488351232 := by
  have h := sized_string hsz (j := 1) (t := 9) (by kernel_rfl) rfl
  rw [← Lib.size_eq] at h
  exact h
 refine (tractHeld_calls x0 ao0 cap0 x1 W hlv (Nat.le_refl _) (by unfold maxLen at hc0; omega) hr0 (fun z hz => (ha0 z hz).1) (fun z hz => (ha0 z hz).2 hz0) s1).mono fun e W' ⟨he, hb⟩ => ?_
 subst he
 exact ⟨_, rfl, _, _, _, [], _, [], hW', trodAll_mk1 (shut_bool Tryz.underlying4 _), below_trodAll laidOut hb (by kernel_rfl) hA' (fun x hx => hW'.lt x (by first | exact hx | simpa using hx)), rfl, hb.frame _, fun h => by cases h⟩
theorem tractHeld_mayEnter : Tryz.prog.mayEnter = true := by kernel_rfl
theorem tractHeld_lifts : (Rows.tractHeldRow.lifted == Tryz.prog.liftsFinal) = true := by kernel_rfl
theorem tractHeld_make : (Tryz.prog.make == some Rows.tractHeldRow.make) = true := by kernel_rfl
theorem tractHeld_heard : Tryz.prog.stopsHeard = true := by kernel_rfl
theorem tractHeld_inPlace : (Rows.tractHeldRow.inPlace == Tryz.prog.inPlace 3) = true := by kernel_rfl
theorem tractHeld_unf : (Rows.tractHeldRow.unfollowed == Tryz.prog.unfollowed 3) = true := by kernel_rfl
theorem tractHeld_rec : (Rows.tractHeldRow.recurses == Tryz.prog.recurses 3) = true := by kernel_rfl
theorem tractHeld_named : (Rows.tractHeldRow.named == Tryz.prog.varsNamed 3) = true := by kernel_rfl
theorem tractHeld_plain : (Rows.tractHeldRow.plainKeys == Tryz.prog.plainKeys) = true := by kernel_rfl
theorem tractHeld_closed : joinedFacts Tryz.prog 3 Tryz.f3 Rows.tractHeldSpec Rows.tractHeldRow = true := by
 unfold joinedFacts
 simp only [tractHeld_mayEnter, tractHeld_lifts, tractHeld_make, tractHeld_heard, tractHeld_inPlace, tractHeld_unf, tractHeld_rec, tractHeld_named, tractHeld_plain]
 kernel_rfl
theorem tractHeld_holds : Rows.TractHeldSaid :=
 OpenClaim.holds_of_wide 3 Tryz.f3 rfl rfl rfl rfl rfl rfl rfl ⟨rfl, rfl, rfl, rfl, rfl⟩ rfl rfl rfl rfl rfl (by kernel_rfl) Tryz.func3 tractHeld_closed
  (of_decide_eq_true (by kernel_rfl)) (by unfold Func.isWrapper; first | (rw [if_pos (by decide +kernel)]; kernel_rfl) | (rw [if_neg (by decide +kernel)]; exact ⟨rfl, rfl⟩))
  (fun os started H enc _ => tractHeld_lifted os started H enc)
theorem tractHeld_main : Tryz.prog.mainIs = some (true, "715d638f859c5fab88b55bdbbcd8c5bc518480dfcc2a6b1699ac170f154e4eae".toList) := by kernel_rfl
theorem tractHeld_looks : true = Tryz.prog.looks [] := by kernel_rfl
theorem tractHeld_goes : false = Rows.tractHeldRow.goesBy Tryz.prog := by kernel_rfl
theorem tractHeld_id : Tryz.prog.funcNamed "watershed/watershedlaw18.TractHeld" = some 3 := by kernel_rfl
theorem tractHeld_card : Rows.TractHeldCardSaid :=
 Claim7.holds_tied_plain_at .later [] [.data, .data, .data, .data, .sentinel, .sentinel, .pinned] true (true, "715d638f859c5fab88b55bdbbcd8c5bc518480dfcc2a6b1699ac170f154e4eae") true
  tractHeld_holds (fun _ h => by cases h) (by kernel_rfl) (fun _ h => by cases h) tractHeld_row_tie rfl ⟨rfl, rfl⟩ tractHeld_main rfl
  (fun f fn hf hfn => by
    obtain rfl : f = 3 := Option.some.inj (tractHeld_id.symm.trans hf) |>.symm
    obtain rfl : fn = Tryz.f3 := (Option.some.inj (Tryz.func3.symm.trans hfn)).symm
    exact ⟨tractHeld_looks, fun j t ht => by
     rw [Tryz.params3] at ht
     have hm : t ∈ [22, 9] := by simpa using Array.mem_of_getElem? ht
     have hall : ([22, 9].all fun u => !Tryz.prog.wantsStandIn u) = true := by kernel_rfl
     exact (show Tryz.prog.wantsStandIn t = false by simpa using List.all_eq_true.1 hall t hm)⟩)
  tractHeld_goes
#print axioms tractHeld_card
end Go.Proofs.YtmpmggejhnmakaaGreatDoor
