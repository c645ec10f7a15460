/- Right steps: witness.right, Right; late. -/
import Derived.Test.YtngahblgicjoiaaGreatDoorCloneS
import Derived.Test.YtngahblgicjoiaaGreatDoorRight
namespace Go.Proofs.YtngahblgicjoiaaGreatDoor
open Go.RowKit

theorem stepName_calls (c n : Int) (w : World) : Calls Tryz.prog 92 #[.agg #[.int .i64 c, .int .i64 n]] w fun e w' => e = .returned (.bool (nameS c n)) ∧ Ext w w' := by
  have HX := Lib.hid (show Ext w (w.alloc (.cells #[.int .i64 c, .int .i64 n] 34)) from (Below.refl _ w).alloc (Nat.le_refl _) _)
  have e0 : nameS c n = (decide (1 ≤ c) && decide (c ≤ 8) && decide (1 ≤ n) && decide (n ≤ 1073741824)) := rfl
  cases h1 : decide (1 ≤ c) <;> cases h2 : decide (c ≤ 8) <;> cases h3 : decide (1 ≤ n) <;> cases h4 : decide (n ≤ 1073741824) <;> rw [h1, h2, h3, h4] at e0
  all_goals
    have E0 := Lib.hid e0; clear e0
    go_enter Tryz.func92, Tryz.ntmps92
    go_wp2
    go_ret
    exact ⟨ret_bool (by rw [E0.out]; rfl), HX.out⟩
theorem chain4 : ∀ a b c d : Bool, (a = true ∧ b = true ∧ c = true ∧ d = true) ∨ a = false ∨ (a = true ∧ b = false) ∨ (a = true ∧ b = true ∧ c = false) ∨ (a = true ∧ b = true ∧ c = true ∧ d = false) := by decide
theorem chain2 : ∀ a b : Bool, (a = false ∧ b = false) ∨ (a = false ∧ b = true) ∨ a = true := by decide

set_option maxRecDepth 100000 in
theorem stepRight_calls (z : StepZ) (w : World) (hz : z.at w.heap.size w) (hd : z.d.ok) :
    Calls Tryz.prog 54 #[.agg (encStep z).toArray] w fun e w' => e = .returned (.bool (rightS z.d)) ∧ Ext w w' := by
  obtain ⟨⟨cl, nm, acts, reads, ca, an⟩, ao, ac, ro, rc⟩ := z
  have hok := hd.acts; have han := hd.an
  obtain ⟨hza, -⟩ := hz
  simp only at hok han hza ⊢
  have HX := Lib.hid (show Ext w (w.alloc (.cells #[.int .i64 cl, .int .i64 nm, .slice ao acts.length ac, .slice ro reads.length rc, .int .i64 ca, .int .i64 an] 38)) from (Below.refl _ w).alloc (Nat.le_refl _) _)
  have HB := Lib.hid (Blk.new w [.int .i64 cl, .int .i64 nm, .slice ao acts.length ac, .slice ro reads.length rc, .int .i64 ca, .int .i64 an] 38)
  have HR := Lib.hid (fun W (hW : Ext w W) => rights_calls right_calls acts ao ac W han hok ((hza.ext hW).mono hW.size))
  have e0 : rightS ⟨cl, nm, acts, reads, ca, an⟩ = ((decide (0 ≤ ca) && decide (ca ≤ 1073741824) && decide (0 ≤ an) && decide (an ≤ 1073741824)) && nameS cl nm && rightsB acts && ((an == 0) || decide (ca < an))) := by
    unfold rightS timeB
    rfl
  generalize rightS _ = res at e0 ⊢
  obtain ⟨b1, h1⟩ : ∃ b, decide (0 ≤ ca) = b := ⟨_, rfl⟩
  obtain ⟨b2, h2⟩ : ∃ b, decide (ca ≤ 1073741824) = b := ⟨_, rfl⟩
  obtain ⟨b3, h3⟩ : ∃ b, decide (0 ≤ an) = b := ⟨_, rfl⟩
  obtain ⟨b4, h4⟩ : ∃ b, decide (an ≤ 1073741824) = b := ⟨_, rfl⟩
  obtain ⟨b5, h5⟩ : ∃ b, (an == 0) = b := ⟨_, rfl⟩
  obtain ⟨b6, h6⟩ : ∃ b, decide (ca < an) = b := ⟨_, rfl⟩
  rw [h1, h2, h3, h4, h5, h6] at e0
  have E0 := Lib.hid e0
  unfold encStep
  clear e0 hza hok hd
  rcases chain4 b1 b2 b3 b4 with ⟨rfl, rfl, rfl, rfl⟩ | h
  · go_enter Tryz.func54, Tryz.ntmps54
    go_wp2_with fail
    refine (stepName_calls cl nm _).mono ?_
    rintro e w2 ⟨rfl, hx⟩
    have X2 := Lib.hid (Ext.trans HX.out hx)
    have hb := HB.out.ext' hx
    have c2 := hb.cell 2; have c4 := hb.cell 4; have c5 := hb.cell 5
    simp only [List.getElem?_cons_zero, List.getElem?_cons_succ] at c2 c4 c5
    have B2 := Lib.hid hb; clear hx hb
    cases hn : nameS cl nm
    · have HN := Lib.hid hn; clear hn
      go_wp2_with fail
      go_ret
      exact ⟨ret_bool (by rw [E0.out, HN.out]; simp), X2.out⟩
    · have HN := Lib.hid hn; clear hn
      go_wp2_with fail
      refine (HR.out _ X2.out).mono ?_
      rintro e w3 ⟨rfl, hx⟩
      have X3 := Lib.hid (Ext.trans X2.out hx)
      have hb := B2.out.ext' hx
      have c4 := hb.cell 4; have c5 := hb.cell 5
      simp only [List.getElem?_cons_zero, List.getElem?_cons_succ] at c4 c5
      clear hx hb
      cases hr : rightsB acts
      · have HR2 := Lib.hid hr; clear hr
        go_wp2_with fail
        go_ret
        exact ⟨ret_bool (by rw [E0.out, HN.out, HR2.out]; simp), X3.out⟩
      · have HR2 := Lib.hid hr; clear hr
        rcases chain2 b5 b6 with ⟨rfl, rfl⟩ | ⟨rfl, rfl⟩ | rfl
        all_goals
          go_wp2_with fail
          go_ret
          exact ⟨ret_bool (by rw [E0.out, HN.out, HR2.out]; simp), X3.out⟩
  · rcases h with rfl | ⟨rfl, rfl⟩ | ⟨rfl, rfl, rfl⟩ | ⟨rfl, rfl, rfl, rfl⟩
    all_goals
      go_enter Tryz.func54, Tryz.ntmps54
      go_wp2_with fail
      go_ret
      exact ⟨ret_bool (by rw [E0.out]; simp), HX.out⟩

theorem stepRight1_calls (z : StepZ) (w : World) (hz : z.at w.heap.size w) (hd : z.d.ok) :
    Calls Tryz.prog 64 #[.agg (encStep z).toArray] w fun e w' => e = .returned (.bool (!rightS z.d)) ∧ Ext w w' := by
  obtain ⟨d, ao, ac, ro, rc⟩ := z
  have HX := Lib.hid (show Ext w (w.alloc (.cells (encStep ⟨d, ao, ac, ro, rc⟩).toArray 38)) from (Below.refl _ w).alloc (Nat.le_refl _) _)
  have HR := Lib.hid (fun W (hW : Ext w W) => stepRight_calls ⟨d, ao, ac, ro, rc⟩ W ((hz.ext hW).mono hW.size) hd)
  clear hz
  unfold encStep at HX HR ⊢
  go_enter Tryz.func64, Tryz.ntmps64
  go_wp2_with fail
  refine (HR.out _ HX.out).mono ?_
  rintro e w2 ⟨rfl, hx⟩
  have X2 := Lib.hid (Ext.trans HX.out hx); clear hx
  go_wp2_with fail
  go_ret
  exact ⟨ret_bool rfl, X2.out⟩
/-- Steps in a row, each with its rows. -/
def StepsAt (w : World) (ao : Option Addr) (l : List StepZ) : Prop := Rows 6 encStep w.heap.size w ao l ∧ ∀ z ∈ l, z.at w.heap.size w
theorem StepsAt.ext {w w' : World} {ao : Option Addr} {l : List StepZ} (h : StepsAt w ao l) (hx : Ext w w') : StepsAt w' ao l :=
  ⟨(h.1.ext hx).mono hx.size, fun z hz => ((h.2 z hz).ext hx).mono hx.size⟩
theorem any_not {α : Type} (p : α → Bool) (l : List α) : (!l.any fun x => !p x) = l.all p := by
  induction l with
  | nil => rfl
  | cons a l ih => simp only [List.any_cons, List.all_cons, ← ih, Bool.not_or, Bool.not_not]
theorem rightAll_calls (l : List StepZ) (ao : Option Addr) (cap : Nat) (w : World) (hl : l.length ≤ 1000000) (hr : StepsAt w ao l) (hd : ∀ z ∈ l, z.d.ok) :
    Calls Tryz.prog 25 #[.slice ao l.length cap] w fun e w' => e = .returned (.bool (l.all fun z => rightS z.d)) ∧ Ext w w' := by
  have HC := Lib.hid (containsS_calls 64 #[] (enters_of Tryz.func64 (by kernel_rfl) rfl) (fun z => !rightS z.d) l ao cap w hl hr.1 (fun W hW z hz => stepRight1_calls z W ((hr.2 z hz).ext hW |>.mono hW.size) (hd z hz)))
  clear hr hd
  go_enter Tryz.func25, Tryz.ntmps25
  go_wp2_with fail
  refine HC.out.mono ?_
  rintro e w2 ⟨rfl, hx⟩
  have X2 := Lib.hid hx; clear hx
  go_wp2_with fail
  go_ret
  exact ⟨ret_bool (any_not _ _), X2.out⟩
theorem late_calls (a b : StepZ) (w : World) : Calls Tryz.prog 68 #[.agg (encStep a).toArray, .agg (encStep b).toArray] w fun e w' => e = .returned (.bool (lateD a.d b.d)) ∧ Ext w w' := by
  obtain ⟨⟨cl, nm, acts, reads, ca, an⟩, ao, ac, ro, rc⟩ := a
  obtain ⟨⟨cl', nm', acts', reads', ca', an'⟩, ao', ac', ro', rc'⟩ := b
  have e0 : lateD ⟨cl, nm, acts, reads, ca, an⟩ ⟨cl', nm', acts', reads', ca', an'⟩ = ((an != 0) && decide (an ≤ ca')) := rfl
  generalize lateD _ _ = res at e0 ⊢
  have hX : Ext w ((w.alloc (.cells (encStep ⟨⟨cl, nm, acts, reads, ca, an⟩, ao, ac, ro, rc⟩).toArray 38)).alloc (.cells (encStep ⟨⟨cl', nm', acts', reads', ca', an'⟩, ao', ac', ro', rc'⟩).toArray 38)) := ((Below.refl _ w).alloc (Nat.le_refl _) _).alloc (by simp) _
  have HX := Lib.hid hX; clear hX
  unfold encStep at HX ⊢
  cases h1 : (an != 0) <;> cases h2 : decide (an ≤ ca')
  all_goals
    rw [h1, h2] at e0
    have E0 := Lib.hid e0; clear e0
    go_enter Tryz.func68, Tryz.ntmps68
    go_wp2_with fail
    go_ret
    exact ⟨ret_bool (by rw [E0.out]; rfl), HX.out⟩
end Go.Proofs.YtngahblgicjoiaaGreatDoor
