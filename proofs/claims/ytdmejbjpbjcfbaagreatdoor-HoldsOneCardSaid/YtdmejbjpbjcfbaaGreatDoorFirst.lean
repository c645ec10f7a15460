/- A region that draws its order: operations that only yield a value may be taken first, in an order of one's own, walked by the quick steps of the quiet walk; what is left comes up one behind the other. -/
import Derived.Test.YtdmejbjpbjcfbaaGreatDoorStillQ
import Derived.Test.YtdmejbjpbjcfbaaGreatDoorExtRegion
import Derived.Test.YtdmejbjpbjcfbaaGreatDoorMem
import Derived.Deep.RegionHeld3
namespace Go.Proofs.YtdmejbjpbjcfbaaGreatDoor
open Go.RowKit

/-- Operations that yield a value, or do not come to an end. -/
def valB : Op → Bool
  | .move _ | .assign _ | .pick _ _ _ | .build _ _ | .load _ _ | .binOp _ _ _ _ _ | .unOp _ _ _ | .fieldAddr _ _ _ | .field _ _ _ | .indexAddr _ _ _ | .index _ _ _ | .extract _ _ | .slice _ _ _ _ _ | .convert _ _ _ => true
  | .call c => match c.callee with | .builtin .len => true | _ => false
  | _ => false
theorem val_of_bind {P : Program} {s : Sem Value} {w w' : World} {n : Next} (h : (do pure (Next.value (← s)) : Sem Next).run P w = .ok n w') : ∃ v, n = .value v := by
  simp only [Sem.run_bind] at h
  cases hs : s.run P w <;> simp [hs, Result.andThen] at h
  exact ⟨_, h.1.symm⟩
theorem valB_value {P : Program} {ρ : Operand → Value} {o : Oper} (ho : valB o.op = true) {w w' : World} {n : Next} (h : (execOp ρ o).run P w = .ok n w') : ∃ v, n = .value v := by
  unfold execOp at h
  cases hop : o.op <;> simp only [hop, valB] at ho h <;> try contradiction
  case call c =>
    cases hc : c.callee with
    | builtin b =>
      rw [hc] at ho
      cases b <;> simp at ho
      unfold resolve at h
      simp only [hc, Sem.run_bind, Sem.run_pure, Result.andThen_ok, invoke] at h
      exact val_of_bind h
    | invoke r nm => rw [hc] at ho; cases ho
    | value f => rw [hc] at ho; cases ho
  case pick c x y =>
    simp only [Sem.run_bind] at h
    cases hs : (asBool (ρ c)).run P w <;> simp [hs, Result.andThen] at h
    exact ⟨_, h.1.symm⟩
  all_goals first
    | exact val_of_bind h
    | (simp at h; exact ⟨_, h.1.symm⟩)

/-- May these be taken first, one behind the other? -/
def takesB (ops : Array Oper) : List Nat → Array Bool → Bool
  | [], _ => true
  | i :: is, listed => (Region.ready .any ops listed).contains i && Region.free .any ops listed i && ((ops[i]?).map fun o => valB o.op).getD false && takesB ops is (listed.setIfInBounds i true)
def listedBy : List Nat → Array Bool → Array Bool
  | [], l => l
  | i :: is, l => listedBy is (l.setIfInBounds i true)
def opsAt (ops : Array Oper) : List Nat → List Oper
  | [] => []
  | i :: is => match ops[i]? with | some o => o :: opsAt ops is | none => opsAt ops is
theorem put_tmps (a : Go.Act) (d : Option Tmp) (v : Value) : ∃ t, a.put d v = { a with tmps := t } := by
  cases d with
  | none => exact ⟨a.tmps, rfl⟩
  | some i => exact ⟨_, rfl⟩
theorem quietUpon_value {P : Program} {C : World → Prop} {w : World} {v : Value} {r : Result Next} (h : Oper.quietUpon P C w v r) (hval : ∀ n w'', r = .ok n w'' → ∃ u, n = .value u) : r = .ok (.value v) w := by
  cases r with
  | ok n w'' =>
    obtain ⟨u, rfl⟩ := hval _ _ rfl
    obtain ⟨rfl, rfl⟩ := h
    rfl
  | _ => exact h.elim
theorem wpAnyH_takes {P : Program} {ops : Array Oper} {Q : Exit → Go.Act → World → Prop} {S : World → Prop} {w : World} (hS : S w) (hsel : Region.noSelect ops = true) (hQ : ∀ (c : _) (a : Go.Act) (t : Array Value) (w : World), Q (.panic c) { a with tmps := t } w → Q (.panic c) a w) (f : Nat) :
    ∀ (is : List Nat) (listed : Array Bool) (a : Go.Act), takesB ops is listed = true → wpQuiet P ops S (fun a' => wpAnyH P .any ops Q S f (listedBy is listed) a' w) (opsAt ops is) a → wpAnyH P .any ops Q S (f + is.length) listed a w
  | [], _, _, _, h => h
  | i :: is, listed, a, hB, h => by
    unfold takesB at hB
    simp only [Bool.and_eq_true] at hB
    obtain ⟨⟨⟨h1, h2⟩, h3⟩, h4⟩ := hB
    cases ho : ops[i]? with
    | none => rw [ho] at h3; cases h3
    | some o =>
      rw [ho] at h3
      have hv : valB o.op = true := h3
      unfold opsAt at h
      rw [ho] at h
      simp only at h
      unfold wpQuiet at h
      rw [show f + (i :: is).length = (f + is.length) + 1 from by rw [List.length_cons]; omega]
      split at h
      · rename_i hw
        obtain ⟨v, hq, hK⟩ := h
        refine wpAnyH_take (v := v) ho hsel h2 h1 (fun c a w h => by obtain ⟨t, ht⟩ := put_tmps a o.dst _; rw [ht] at h; exact hQ c a t w h) (.inl ⟨hw, fun w' hw' => ?_⟩) hS (wpAnyH_takes hS hsel hQ f is _ _ h4 hK)
        exact quietUpon_value (hq w' hw') (fun n w'' h => valB_value hv h)
      · rename_i hw
        exact wpAnyH_take (v := undef) ho hsel h2 h1 (fun c a w h => by obtain ⟨t, ht⟩ := put_tmps a o.dst _; rw [ht] at h; exact hQ c a t w h) (.inr ⟨by simpa using hw, rfl⟩) hS (wpAnyH_takes hS hsel hQ f is _ _ h4 h)
/-- The region: some of its operations first, the others behind them. -/
theorem wp_region_firstS {P : Program} {id : Nat} {Q : Exit → Go.Act → World → Prop} {a : Go.Act} {w : World} {l : List Oper} (S : World → Prop) (is : List Nat) (f : Nat) (hm : P.follows .mixedOrders = true) (hB : (Region.noSelect l.toArray && takesB l.toArray is (Array.replicate l.toArray.size false) && decide (l.toArray.size = f + is.length)) = true)
    (hQ : ∀ (c : _) (a : Go.Act) (t : Array Value) (w : World), Q (.panic c) { a with tmps := t } w → Q (.panic c) a w) (hS : S w.drew)
    (h : wpQuiet P l.toArray S (fun a' => wpAnyH P .any l.toArray Q S f (listedBy is (Array.replicate l.toArray.size false)) a' w.drew) (opsAt l.toArray is) a) : (Code.region id l.toArray true).wp P Q a w := by
  simp only [Bool.and_eq_true, decide_eq_true_eq] at hB
  obtain ⟨⟨h1, h2⟩, h3⟩ := hB
  refine wp_region_held_drew (S := S) hm hS (fun hS => ?_)
  have h5 := wpAnyH_takes hS h1 hQ f is _ a h2 h
  rw [← h3] at h5
  exact h5
theorem wp_region_first {P : Program} {id : Nat} {Q : Exit → Go.Act → World → Prop} {a : Go.Act} {w : World} {l : List Oper} (w0 : World) (is : List Nat) (f : Nat) (hm : P.follows .mixedOrders = true) (hB : (Region.noSelect l.toArray && takesB l.toArray is (Array.replicate l.toArray.size false) && decide (l.toArray.size = f + is.length)) = true)
    (hQ : ∀ (c : _) (a : Go.Act) (t : Array Value) (w : World), Q (.panic c) { a with tmps := t } w → Q (.panic c) a w) (hx : Ext w0 w)
    (h : wpQuiet P l.toArray (fun w' => ∃ p : ExtBy w0, w' = p.W) (fun a' => wpAnyH P .any l.toArray Q (fun w' => ∃ p : ExtBy w0, w' = p.W) f (listedBy is (Array.replicate l.toArray.size false)) a' w.drew) (opsAt l.toArray is) a) : (Code.region id l.toArray true).wp P Q a w :=
  wp_region_firstS _ is f hm hB hQ ⟨⟨w.drew, hx.drew⟩, rfl⟩ h
/-- In the midst of a region: some more of its operations first. -/
theorem wp_takes {P : Program} {ops : Array Oper} {Q : Exit → Go.Act → World → Prop} {S : World → Prop} {listed : Array Bool} {a : Go.Act} {w : World} (is : List Nat) (f : Nat) (hB : (Region.noSelect ops && takesB ops is listed) = true)
    (hQ : ∀ (c : _) (a : Go.Act) (t : Array Value) (w : World), Q (.panic c) { a with tmps := t } w → Q (.panic c) a w) (hS : S w)
    (h : wpQuiet P ops S (fun a' => wpAnyH P .any ops Q S f (listedBy is listed) a' w) (opsAt ops is) a) : wpAnyH P .any ops Q S (f + is.length) listed a w := by
  simp only [Bool.and_eq_true] at hB
  exact wpAnyH_takes hS hB.1 hQ f is listed a hB.2 h
/-- A world in which of all that lay in w only blocks of S have turned. -/
structure ButBy (S : Nat → Prop) (w : World) where
  W : World
  but : But S w W
instance (S : Nat → Prop) (w : World) : Inhabited (ButBy S w) := ⟨⟨w, But.refl _ _⟩⟩
theorem ButBy.cell {S : Nat → Prop} {w : World} {b i : Nat} {v : Value} (h : w.cell? ⟨b, i, none⟩ = some v) (hS : ¬ S b) : ∀ p : ButBy S w, p.W.cell? ⟨b, i, none⟩ = some v :=
  fun p => (p.but.cell (p := ⟨b, i, none⟩) (block_lt_of_cell h) hS).trans h
end Go.Proofs.YtdmejbjpbjcfbaaGreatDoor
