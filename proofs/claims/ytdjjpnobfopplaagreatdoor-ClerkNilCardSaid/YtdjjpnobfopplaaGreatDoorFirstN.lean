/- Operations that yield a value, the check of a pointer among them, may be taken first in a region that draws its order. -/
import Derived.Test.YtdjjpnobfopplaaGreatDoorMem
namespace Go.Proofs.YtdjjpnobfopplaaGreatDoor
open Go.RowKit

def valN2 : Op → Bool
  | .nilCheck _ => true
  | o => valB o
theorem nilDeref_not_ok {P : Program} {α : Type} {w w' : World} {n : α} (h : (runtimePanic .nilDeref : Sem α).run P w = .ok n w') : False := by
  unfold runtimePanic at h
  simp [Sem.run_bind, Result.andThen, goPanic] at h
theorem valN2_value {P : Program} {ρ : Operand → Value} {o : Oper} (ho : valN2 o.op = true) {w w' : World} {n : Next} (h : (execOp ρ o).run P w = .ok n w') : ∃ v, n = .value v := by
  by_cases hb : valB o.op = true
  · exact valB_value hb h
  · have hx : ∃ x, o.op = .nilCheck x := by
      cases hop : o.op <;> rw [hop] at ho hb <;> first | exact ⟨_, rfl⟩ | exact absurd ho hb
    obtain ⟨x, hx⟩ := hx
    unfold execOp at h
    simp only [hx] at h
    split at h
    all_goals first
      | exact (nilDeref_not_ok h).elim
      | skip
    · split at h
      · exact (nilDeref_not_ok h).elim
      · rename_i ty wv _
        simp only [Sem.run_bind, run_program, Result.andThen_ok] at h
        generalize (nilAhead _ _ _ _).run P w = r at h
        cases r with
        | halt _ _ => simp [Result.andThen] at h
        | ok a w1 =>
          simp only [Result.andThen_ok] at h
          split at h
          · simp [unsupported] at h
          · simp at h; exact ⟨_, h.1.symm⟩
      · simp at h; exact ⟨_, h.1.symm⟩
    · simp at h; exact ⟨_, h.1.symm⟩
/-- May these be taken first, one behind the other? -/
def takesC (ops : Array Oper) : List Nat → Array Bool → Bool
  | [], _ => true
  | i :: is, listed => (Region.ready .any ops listed).contains i && Region.free .any ops listed i && ((ops[i]?).map fun o => valN2 o.op).getD false && takesC ops is (listed.setIfInBounds i true)
theorem wpAnyH_takesC {P : Program} {ops : Array Oper} {Q : Exit → Go.Act → World → Prop} {S : World → Prop} {w : World} (hS : S w) (hsel : Region.noSelect ops = true) (hQ : ∀ (c : _) (a : Go.Act) (t : Array Value) (w : World), Q (.panic c) { a with tmps := t } w → Q (.panic c) a w) (f : Nat) :
    ∀ (is : List Nat) (listed : Array Bool) (a : Go.Act), takesC ops is listed = true → wpQuiet P ops S (fun a' => wpAnyH P .any ops Q S f (listedBy is listed) a' w) (opsAt ops is) a → wpAnyH P .any ops Q S (f + is.length) listed a w
  | [], _, _, _, h => h
  | i :: is, listed, a, hB, h => by
    unfold takesC at hB
    simp only [Bool.and_eq_true] at hB
    obtain ⟨⟨⟨h1, h2⟩, h3⟩, h4⟩ := hB
    cases ho : ops[i]? with
    | none => rw [ho] at h3; cases h3
    | some o =>
      rw [ho] at h3
      have hv : valN2 o.op = true := h3
      unfold opsAt at h
      rw [ho] at h
      simp only at h
      unfold wpQuiet at h
      rw [show f + (i :: is).length = (f + is.length) + 1 from by rw [List.length_cons]; omega]
      split at h
      · rename_i hw
        obtain ⟨v, hq, hK⟩ := h
        refine wpAnyH_take (v := v) ho hsel h2 h1 (fun c a w h => by obtain ⟨t, ht⟩ := put_tmps a o.dst _; rw [ht] at h; exact hQ c a t w h) (.inl ⟨hw, fun w' hw' => ?_⟩) hS (wpAnyH_takesC hS hsel hQ f is _ _ h4 hK)
        exact quietUpon_value (hq w' hw') (fun n w'' h => valN2_value hv h)
      · rename_i hw
        exact wpAnyH_take (v := undef) ho hsel h2 h1 (fun c a w h => by obtain ⟨t, ht⟩ := put_tmps a o.dst _; rw [ht] at h; exact hQ c a t w h) (.inr ⟨by simpa using hw, rfl⟩) hS (wpAnyH_takesC hS hsel hQ f is _ _ h4 h)
/-- The region: some of its operations first, the others behind them. -/
theorem wp_region_firstC {P : Program} {id : Nat} {Q : Exit → Go.Act → World → Prop} {a : Go.Act} {w : World} {l : List Oper} (S : World → Prop) (is : List Nat) (f : Nat) (hm : P.follows .mixedOrders = true) (hB : (Region.noSelect l.toArray && takesC l.toArray is (Array.replicate l.toArray.size false) && decide (l.toArray.size = f + is.length)) = true)
    (hQ : ∀ (c : _) (a : Go.Act) (t : Array Value) (w : World), Q (.panic c) { a with tmps := t } w → Q (.panic c) a w) (hS : S w.drew)
    (h : wpQuiet P l.toArray S (fun a' => wpAnyH P .any l.toArray Q S f (listedBy is (Array.replicate l.toArray.size false)) a' w.drew) (opsAt l.toArray is) a) : (Code.region id l.toArray true).wp P Q a w := by
  simp only [Bool.and_eq_true, decide_eq_true_eq] at hB
  obtain ⟨⟨h1, h2⟩, h3⟩ := hB
  refine wp_region_held_drew (S := S) hm hS (fun hS => ?_)
  have h5 := wpAnyH_takesC hS h1 hQ f is _ a h2 h
  rw [← h3] at h5
  exact h5
/-- In the midst of a region: some more of its operations first. -/
theorem wp_takesC {P : Program} {ops : Array Oper} {Q : Exit → Go.Act → World → Prop} {S : World → Prop} {listed : Array Bool} {a : Go.Act} {w : World} (is : List Nat) (f : Nat) (hB : (Region.noSelect ops && takesC ops is listed) = true)
    (hQ : ∀ (c : _) (a : Go.Act) (t : Array Value) (w : World), Q (.panic c) { a with tmps := t } w → Q (.panic c) a w) (hS : S w)
    (h : wpQuiet P ops S (fun a' => wpAnyH P .any ops Q S f (listedBy is listed) a' w) (opsAt ops is) a) : wpAnyH P .any ops Q S (f + is.length) listed a w := by
  simp only [Bool.and_eq_true] at hB
  exact wpAnyH_takesC hS hB.1 hQ f is listed a hB.2 h
end Go.Proofs.YtdjjpnobfopplaaGreatDoor
