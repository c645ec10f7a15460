/- The quick evaluator: the rest of a function's body, over one row of the caller's values. -/
import Derived.Test.YtedokmdoompidaaGreatDoorEwF
namespace Go.Proofs.YtedokmdoompidaaGreatDoor.Ev

/-- The code returns, a slot being true. -/
def okR (r : Nat) (o : Option Out) : Bool := match o with
  | some (.mk .ret T _) => (match T.get r with
    | some (.bool true) => true
    | _ => false)
  | _ => false
section
variable (σ : Nat → Value) {ds : List Deferred}
theorem code_ret {P : Program} (hσ : Okσ σ) (hmix : P.follows .mixedOrders = true) {hk : Hk} (hhk : HkSnd σ P noG hk) {n nt r : Nat} {c : Code} {T : Tr AV} {S : St} (h : okR r (evF hk P noG n nt (.code c) T S) = true)
    {φ : Phi} {w : World} {a : Act} (hW : W σ φ S w) (ht : TR σ φ T a) (hn : nt ≤ a.tmps.size) (hd : a.defers = ds) (hro : ∀ b blk, S.h.get b = some blk → blk.ro = true) {Q : Exit → Act → World → Prop}
    (hQ : ∀ a' w', RowKit.Below w.heap.size w w' → a'.tmps.getD r undef = .bool true → nt ≤ a'.tmps.size → a'.defers = ds → Q .ret a' w') : c.wp P Q a w := by
  cases he : evF hk P noG n nt (.code c) T S with
  | none => rw [he] at h; cases h
  | some o =>
    obtain ⟨x, T', S'⟩ := o
    rw [he] at h
    unfold okR at h
    split at h
    · rename_i T1 S1 h1
      injection h1 with h1
      injection h1 with h1 h2 h3
      subst h1 h2 h3
      split at h
      · rename_i hg
        refine code_wp σ hσ hmix hhk he hW (Glob_none φ) ht hn hd hro fun φ' a' w' _ _ hb ht' hn' hd' => hQ a' w' hb ?_ hn' hd'
        have := ht' r _ hg
        simpa only [V] using this
      · cases h
    · cases h
/-- One row, whose cells are the caller's values. -/
theorem W_row {e : TypeId} {r n : Nat} {vs : List Value} {w : World} (hb : w.heap[r]? = some (.cells vs.toArray e (0, 0))) (hl : vs.length = n) (hv : ∀ i, i < n → vs[i]? = some (σ i)) {cs : Tr AV} {h : Tr Blk}
    (hcs : Tr.putAll ((List.range n).map AV.sym) .leaf 0 = some cs) (hh : Tr.put (some (.cells e n false true false cs)) 24 .leaf 0 = some h) : W σ (fun b => if b = 0 then some (r, n) else none) ⟨h, 1⟩ w := by
  have hg : ∀ b blk, h.get b = some blk → b = 0 ∧ blk = .cells e n false true false cs := fun b blk hb => by
    rw [Tr.get_put _ _ _ _ _ hh] at hb
    split at hb
    · rename_i h0; injection hb with hb; exact ⟨h0, hb.symm⟩
    · cases hb
  constructor
  · intro b blk r' n' h1 h2
    obtain ⟨rfl, rfl⟩ := hg b blk h1
    rw [if_pos rfl] at h2
    injection h2 with h2; injection h2 with h2 h3
    subst h2 h3
    refine ⟨_, hb, vs.toArray, (0, 0), rfl, by simpa using hl, Nat.le_refl _, fun _ => rfl, fun i hi => ?_, .inl (Nat.le_refl _), fun _ => rfl⟩
    refine ⟨.sym i, σ i, ?_, by simpa using hv i hi, by simp only [V]⟩
    rw [Tr.get_putAll _ _ _ _ hcs, if_pos (by simpa using hi)]
    simp [hi]
  · intro b b' blk blk' r' n' n'' h1 h2 _ _
    rw [(hg b blk h1).1, (hg b' blk' h2).1]
  · intro b r' n' h2
    by_cases h0 : b = 0
    · rw [if_pos h0] at h2
      injection h2 with h2; injection h2 with h2 h3
      subst h2 h0
      exact ⟨(Array.getElem?_eq_some_iff.1 hb).1, Nat.lt_succ_self 0⟩
    · rw [if_neg h0] at h2; cases h2
  · intro b blk h1
    rw [(hg b blk h1).1]; exact Nat.lt_succ_self 0
/-- One slot that is known. -/
theorem TR_one {φ : Phi} {a : Act} {t : Nat} {x : AV} {T : Tr AV} (h : Tr.put (some x) 24 .leaf t = some T) (hx : V σ φ x (a.tmps.getD t undef)) : TR σ φ T a := fun s y hs => by
  rw [Tr.get_put _ _ _ _ _ h] at hs
  split at hs
  · rename_i h0; injection hs with hs; subst hs h0; exact hx
  · cases hs
end
end Go.Proofs.YtedokmdoompidaaGreatDoor.Ev
