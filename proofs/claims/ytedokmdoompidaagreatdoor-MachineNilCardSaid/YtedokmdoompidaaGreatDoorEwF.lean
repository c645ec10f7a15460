/- The quick evaluator: what it answers is so of the program. -/
import Derived.Test.YtedokmdoompidaaGreatDoorEwE
namespace Go.Proofs.YtedokmdoompidaaGreatDoor.Ev

def isT (r : Option (AV × St)) : Bool := match r with
  | some (.bool true, _) => true
  | _ => false
def noPhi : Phi := fun _ => none
def S0 : St := ⟨.leaf, 0⟩
def noG : Nat → Option Nat := fun _ => none
section
variable (σ : Nat → Value) {ds : List Deferred}
theorem W_none (w : World) : W σ noPhi S0 w where
  at_ := fun b blk r n h _ => by cases h
  inj := fun b b' blk blk' r n n' h => by cases h
  lt := fun b r n h => by cases h
  dom := fun b blk h => by cases h
theorem Glob_none (φ : Phi) : Glob noG φ := fun g n h => by cases h
/-- What a run from a heap of blocks that are not written has left: all that was there. -/
theorem Post.below {φ : Phi} {S : St} {w : World} {φ' : Phi} {S' : St} {w' : World} (h : Post σ φ S w φ' S' w') (hro : ∀ b blk, S.h.get b = some blk → blk.ro = true) : RowKit.Below w.heap.size w w' :=
  ⟨h.rest.1, h.rest.2.1, h.rest.2.2, h.sz, fun i hi => h.frame i hi (fun b blk _ _ hb => hro b blk hb)⟩
theorem call_calls {P : Program} (hσ : Okσ σ) (hmix : P.follows .mixedOrders = true) {hk : Hk} {GS : Nat → Option Nat} (hhk : HkSnd σ P GS hk) {n : Nat} {f : FuncId} {args : List AV} {S S' : St} {v : AV} (h : evCallF hk P GS n f args S = some (v, S'))
    {φ : Phi} {w : World} {vs : List Value} (hW : W σ φ S w) (hg : Glob GS φ) (hv : VL σ φ args vs) (hro : ∀ b blk, S.h.get b = some blk → blk.ro = true) :
    Calls P f vs.toArray w (fun e w' => ∃ u φ', e = .returned u ∧ V σ φ' v u ∧ W σ φ' S' w' ∧ φ.le φ' ∧ RowKit.Below w.heap.size w w') := by
  rw [evCallF_eq] at h
  refine (evCall_snd σ hσ hmix hhk n f args S v S' h φ w vs hW hg hv).mono ?_
  rintro e w' ⟨u, φ', rfl, hp, hu⟩
  exact ⟨u, φ', rfl, hu, hp.wr, hp.le, Post.below σ hp hro⟩
/-- A part of a function's body. -/
theorem code_wp {P : Program} (hσ : Okσ σ) (hmix : P.follows .mixedOrders = true) {hk : Hk} {GS : Nat → Option Nat} (hhk : HkSnd σ P GS hk) {n nt : Nat} {c : Code} {T T' : Tr AV} {S S' : St} {x : AE} (h : evF hk P GS n nt (.code c) T S = some (.mk x T' S'))
    {φ : Phi} {w : World} {a : Act} (hW : W σ φ S w) (hg : Glob GS φ) (ht : TR σ φ T a) (hn : nt ≤ a.tmps.size) (hd : a.defers = ds) (hro : ∀ b blk, S.h.get b = some blk → blk.ro = true) {Q : Exit → Act → World → Prop}
    (hQ : ∀ φ' a' w', W σ φ' S' w' → φ.le φ' → RowKit.Below w.heap.size w w' → TR σ φ' T' a' → nt ≤ a'.tmps.size → a'.defers = ds → Q (exOf x) a' w') : c.wp P Q a w := by
  rw [evF_eq] at h
  exact ev_snd σ hσ hmix hhk n nt (.code c) T S x T' S' h φ w a hW hg ht hn hd Q (fun φ' a' w' hp => hQ φ' a' w' hp.wr hp.le (Post.below σ hp hro))
end
theorem okσ_true : Okσ (fun _ => .bool true) := ⟨fun _ => rfl, fun _ => by simp⟩
/-- A closed call that answers true. -/
theorem closed_calls {P : Program} (hmix : P.follows .mixedOrders = true) {hk : Hk} (hhk : HkSnd (fun _ => .bool true) P noG hk) {n : Nat} {f : FuncId} (h : isT (evCallF hk P noG n f [] S0) = true) (w : World) :
    Calls P f #[] w (fun e w' => e = .returned (.bool true) ∧ RowKit.Below w.heap.size w w') := by
  cases he : evCallF hk P noG n f [] S0 with
  | none => rw [he] at h; cases h
  | some r =>
    obtain ⟨v, S'⟩ := r
    rw [he] at h
    have hv : v = .bool true := by
      unfold isT at h
      split at h
      · rename_i h1; injection h1 with h1; injection h1 with h1 _
      · cases h
    subst hv
    refine (call_calls (fun _ => .bool true) okσ_true hmix hhk he (W_none _ w) (Glob_none noPhi) (vs := []) (by simp only [VL]) (fun b blk hb => by cases hb)).mono ?_
    rintro e w' ⟨u, φ', rfl, hu, _, _, hb⟩
    simp only [V] at hu
    exact ⟨by rw [hu], hb⟩
end Go.Proofs.YtedokmdoompidaaGreatDoor.Ev
