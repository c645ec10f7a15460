/- The evaluator's heap and what it stands for in a world; how both change together. -/
import Derived.Test.YtedokmdoompidaaGreatDoorEvA
import Derived.Laws.Cells
import Derived.Below
namespace Go.Proofs.YtedokmdoompidaaGreatDoor.Ev

/-- A block: a row of cells (known ones; 'sp': there may be more; 'ro': not written; 'sh': bytes made of a text), a map, a walk over a text. -/
inductive Blk where
  | cells (e : TypeId) (n : Nat) (sp ro sh : Bool) (cs : Tr AV)
  | map (es : List (AV × AV))
  | siter (s : List Nat) (pos : Nat)
def Blk.ro : Blk → Bool
  | .cells _ _ _ ro _ _ => ro
  | _ => false
structure St where
  h : Tr Blk
  nx : Nat

section
variable (σ : Nat → Value)
def ML (φ : Phi) : List (AV × AV) → List MapEntry → Prop
  | [], l => l = []
  | x :: xs, l => ∃ e es, l = e :: es ∧ V σ φ x.1 e.key ∧ V σ φ x.2 e.val ∧ ML φ xs es
theorem ML.mono {φ ψ : Phi} (h : φ.le ψ) : ∀ (xs : List (AV × AV)) (l : List MapEntry), ML σ φ xs l → ML σ ψ xs l
  | [], _, hm => hm
  | x :: xs, l, hm => by
    obtain ⟨e, es, h1, h2, h3, h4⟩ := hm
    exact ⟨e, es, h1, V.mono σ h _ _ h2, V.mono σ h _ _ h3, ML.mono h xs es h4⟩
/-- What a block stands for: an object, n the size of its row. -/
def BR (φ : Phi) (blk : Blk) (n : Nat) (o : Obj) : Prop :=
  match blk with
  | .cells e n0 sp _ sh cs => ∃ c fz, o = .cells c e fz ∧ c.size = n ∧ n0 ≤ n ∧ (sp = false → n = n0) ∧
      (∀ i, i < n0 → ∃ x v, cs.get i = some x ∧ c[i]? = some v ∧ V σ φ x v) ∧ (fz.2 ≤ fz.1 ∨ n ≤ fz.1) ∧ (sh = false → fz = (0, 0))
  | .map es => ∃ ents clock, o = .map ents clock ∧ ∃ l, l.Perm ents.toList ∧ ML σ φ es l
  | .siter s pos => ∃ bs : ByteArray, o = .stringIter bs pos ∧ bs.data.toList.map (·.toNat) = s
theorem BR.mono {φ ψ : Phi} (h : φ.le ψ) {blk : Blk} {n : Nat} {o : Obj} (hb : BR σ φ blk n o) : BR σ ψ blk n o := by
  cases blk with
  | cells e n0 sp ro sh cs =>
    obtain ⟨c, fz, h1, h2, h3, h4, h5, h6⟩ := hb
    exact ⟨c, fz, h1, h2, h3, h4, fun i hi => let ⟨x, v, a, b, d⟩ := h5 i hi; ⟨x, v, a, b, V.mono σ h _ _ d⟩, h6⟩
  | map es => obtain ⟨a, b, h1, l, h2, h3⟩ := hb; exact ⟨a, b, h1, l, h2, ML.mono σ h _ _ h3⟩
  | siter s p => exact hb

/-- The heap stands in the world. -/
structure W (φ : Phi) (S : St) (w : World) : Prop where
  at_ : ∀ b blk r n, S.h.get b = some blk → φ b = some (r, n) → ∃ o, w.heap[r]? = some o ∧ BR σ φ blk n o
  inj : ∀ b b' blk blk' r n n', S.h.get b = some blk → S.h.get b' = some blk' → φ b = some (r, n) → φ b' = some (r, n') → b = b'
  lt : ∀ b r n, φ b = some (r, n) → r < w.heap.size ∧ b < S.nx
  dom : ∀ b blk, S.h.get b = some blk → b < S.nx

/-- What a part of the run has done. -/
structure Post (φ : Phi) (S : St) (w : World) (φ' : Phi) (S' : St) (w' : World) : Prop where
  wr : W σ φ' S' w'
  le : φ.le φ'
  new : ∀ b x, φ' b = some x → φ b = some x ∨ (φ b = none ∧ S.nx ≤ b)
  nx : S.nx ≤ S'.nx
  sz : w.heap.size ≤ w'.heap.size
  real : ∀ b r n, φ' b = some (r, n) → φ b = none → w.heap.size ≤ r ∨ ∃ b0 blk n0, φ b0 = some (r, n0) ∧ S.h.get b0 = some blk ∧ blk.ro = false
  live : ∀ b blk', b < S.nx → S'.h.get b = some blk' → ∃ blk, S.h.get b = some blk ∧ blk.ro = blk'.ro
  away : ∀ b, b < S.nx → φ b = none → S'.h.get b = S.h.get b
  frame : ∀ r, r < w.heap.size → (∀ b blk n, φ b = some (r, n) → S.h.get b = some blk → blk.ro = true) → w'.heap[r]? = w.heap[r]?
  rest : w'.os = w.os ∧ w'.tape = w.tape ∧ w'.output = w.output

theorem Post.refl {φ : Phi} {S : St} {w : World} (h : W σ φ S w) : Post σ φ S w φ S w where
  wr := h
  le := Phi.le_refl φ
  new := fun _ _ hx => .inl hx
  nx := Nat.le_refl _
  sz := Nat.le_refl _
  real := fun b r n h1 h2 => by rw [h1] at h2; cases h2
  live := fun b blk _ h => ⟨blk, h, rfl⟩
  away := fun _ _ _ => rfl
  frame := fun _ _ _ => rfl
  rest := ⟨rfl, rfl, rfl⟩

theorem Post.trans {φ φ1 φ2 : Phi} {S S1 S2 : St} {w w1 w2 : World} (h : Post σ φ S w φ1 S1 w1) (k : Post σ φ1 S1 w1 φ2 S2 w2) (hW : W σ φ S w) : Post σ φ S w φ2 S2 w2 where
  wr := k.wr
  le := Phi.le_trans h.le k.le
  new := fun b x hx => by
    rcases k.new b x hx with h1 | ⟨h1, h2⟩
    · exact h.new b x h1
    · cases hb : φ b with
      | none => exact .inr ⟨rfl, Nat.le_trans h.nx h2⟩
      | some y => rw [h.le b y hb] at h1; cases h1
  nx := Nat.le_trans h.nx k.nx
  sz := Nat.le_trans h.sz k.sz
  real := fun b r n h1 h2 => by
    cases hb : φ1 b with
    | some y =>
      have := k.le b y hb
      rw [h1] at this
      injection this with this
      subst this
      exact h.real b r n hb h2
    | none =>
      rcases k.real b r n h1 hb with h3 | ⟨b0, blk, n0, h3, h4, h5⟩
      · exact .inl (Nat.le_trans h.sz h3)
      · cases hb0 : φ b0 with
        | some y =>
          have := h.le b0 y hb0
          rw [h3] at this
          injection this with this
          subst this
          obtain ⟨blk', h6, h7⟩ := h.live b0 blk (hW.lt b0 _ _ hb0).2 h4
          exact .inr ⟨b0, blk', n0, hb0, h6, by rw [h7, h5]⟩
        | none => exact h.real b0 r n0 h3 hb0
  live := fun b blk' hb h' => by
    obtain ⟨blk1, h1, h2⟩ := k.live b blk' (Nat.lt_of_lt_of_le hb h.nx) h'
    obtain ⟨blk, h3, h4⟩ := h.live b blk1 hb h1
    exact ⟨blk, h3, by rw [h4, h2]⟩
  away := fun b hb h0 => by
    have h1 : φ1 b = none := by
      cases hb1 : φ1 b with
      | none => rfl
      | some y =>
        rcases h.new b y hb1 with h2 | ⟨_, h2⟩
        · rw [h0] at h2; cases h2
        · omega
    rw [k.away b (Nat.lt_of_lt_of_le hb h.nx) h1, h.away b hb h0]
  frame := fun r hr hno => by
    rw [k.frame r (Nat.lt_of_lt_of_le hr h.sz) ?_, h.frame r hr hno]
    intro b blk n h1 h2
    cases hb : φ b with
    | some y =>
      have := h.le b y hb
      rw [h1] at this
      injection this with this
      subst this
      obtain ⟨blk0, h3, h4⟩ := h.live b blk (hW.lt b _ _ hb).2 h2
      rw [← h4]
      exact hno b blk0 n hb h3
    | none =>
      rcases h.real b r n h1 hb with h3 | ⟨b0, blk0, n0, h3, h4, h5⟩
      · omega
      · rw [hno b0 blk0 n0 h3 h4] at h5; cases h5
  rest := by
    obtain ⟨a1, a2, a3⟩ := h.rest
    obtain ⟨b1, b2, b3⟩ := k.rest
    exact ⟨b1.trans a1, b2.trans a2, b3.trans a3⟩

/-- Only questions were drawn. -/
theorem W.heap {φ : Phi} {S : St} {w w' : World} (h : W σ φ S w) (hw : w'.heap = w.heap) : W σ φ S w' where
  at_ := fun b blk r n h1 h2 => by rw [hw]; exact h.at_ b blk r n h1 h2
  inj := h.inj
  lt := fun b r n h1 => by rw [hw]; exact h.lt b r n h1
  dom := h.dom
theorem Post.drew {φ : Phi} {S : St} {w w' : World} (h : W σ φ S w) (hw : w'.heap = w.heap) (hr : w'.os = w.os ∧ w'.tape = w.tape ∧ w'.output = w.output) : Post σ φ S w φ S w' where
  wr := h.heap σ hw
  le := Phi.le_refl φ
  new := fun _ _ hx => .inl hx
  nx := Nat.le_refl _
  sz := by rw [hw]; exact Nat.le_refl _
  real := fun b r n h1 h2 => by rw [h1] at h2; cases h2
  live := fun b blk _ h => ⟨blk, h, rfl⟩
  away := fun _ _ _ => rfl
  frame := fun _ _ _ => by rw [hw]
  rest := hr

def Phi.set (φ : Phi) (b : Nat) (x : Nat × Nat) : Phi := fun c => if c = b then some x else φ c

/-- A block is written. -/
theorem Post.update {φ : Phi} {S S' : St} {w w' : World} {b r n : Nat} {blk blk' : Blk} {o' : Obj} (hW : W σ φ S w) (hb : S.h.get b = some blk) (hφ : φ b = some (r, n)) (hro : blk.ro = false) (hro' : blk'.ro = false)
    (hput : ∀ m, S'.h.get m = if m = b then some blk' else S.h.get m) (hnx : S'.nx = S.nx) (hw : w'.heap = w.heap.setIfInBounds r o') (hr : w'.os = w.os ∧ w'.tape = w.tape ∧ w'.output = w.output) (hBR : BR σ φ blk' n o') : Post σ φ S w φ S' w' where
  wr := {
    at_ := fun b1 blk1 r1 n1 h1 h2 => by
      rw [hput] at h1
      by_cases he : b1 = b
      · rw [if_pos he] at h1
        subst he
        rw [hφ] at h2
        injection h2 with h2; injection h2 with h2 h3; subst h2; subst h3
        injection h1 with h1; subst h1
        exact ⟨o', by rw [hw, Array.getElem?_setIfInBounds_self_of_lt (hW.lt _ _ _ hφ).1], hBR⟩
      · rw [if_neg he] at h1
        obtain ⟨o, h3, h4⟩ := hW.at_ b1 blk1 r1 n1 h1 h2
        have hne : r ≠ r1 := fun e => he (hW.inj b1 b blk1 blk r n1 n h1 hb (by rw [e]; exact h2) hφ)
        exact ⟨o, by rw [hw, Array.getElem?_setIfInBounds_ne hne]; exact h3, h4⟩
    inj := fun b1 b2 blk1 blk2 r1 n1 n2 h1 h2 h3 h4 => by
      have key : ∀ b3 blk3, S'.h.get b3 = some blk3 → ∃ blk4, S.h.get b3 = some blk4 := fun b3 blk3 h => by
        rw [hput] at h
        by_cases he : b3 = b
        · exact ⟨blk, he ▸ hb⟩
        · rw [if_neg he] at h; exact ⟨blk3, h⟩
      obtain ⟨x1, g1⟩ := key _ _ h1
      obtain ⟨x2, g2⟩ := key _ _ h2
      exact hW.inj b1 b2 x1 x2 r1 n1 n2 g1 g2 h3 h4
    lt := fun b1 r1 n1 h => by rw [hnx, hw, Array.size_setIfInBounds]; exact hW.lt b1 r1 n1 h
    dom := fun b1 blk1 h => by
      rw [hnx]
      rw [hput] at h
      by_cases he : b1 = b
      · subst he; exact hW.dom _ _ hb
      · rw [if_neg he] at h; exact hW.dom _ _ h }
  le := Phi.le_refl φ
  new := fun _ _ hx => .inl hx
  nx := Nat.le_of_eq hnx.symm
  sz := by rw [hw, Array.size_setIfInBounds]; exact Nat.le_refl _
  real := fun b r n h1 h2 => by rw [h1] at h2; cases h2
  live := fun b1 blk1 _ h => by
    rw [hput] at h
    by_cases he : b1 = b
    · subst he
      rw [if_pos rfl] at h
      injection h with h; subst h
      exact ⟨blk, hb, by rw [hro, hro']⟩
    · rw [if_neg he] at h; exact ⟨blk1, h, rfl⟩
  away := fun b1 _ h => by
    rw [hput, if_neg]
    intro e; subst e; rw [hφ] at h; cases h
  frame := fun r1 _ hno => by
    rw [hw, Array.getElem?_setIfInBounds_ne]
    intro e; subst e
    rw [hno b blk n hφ hb] at hro; cases hro
  rest := hr

/-- A new block. -/
theorem Post.alloc {φ : Phi} {S S' : St} {w w' : World} {n : Nat} {blk : Blk} {o : Obj} (hW : W σ φ S w)
    (hput : ∀ m, S'.h.get m = if m = S.nx then some blk else S.h.get m) (hnx : S'.nx = S.nx + 1) (hw : w'.heap = w.heap.push o) (hr : w'.os = w.os ∧ w'.tape = w.tape ∧ w'.output = w.output)
    (hBR : BR σ (φ.set S.nx (w.heap.size, n)) blk n o) : Post σ φ S w (φ.set S.nx (w.heap.size, n)) S' w' := by
  have hnone : φ S.nx = none := by
    cases h : φ S.nx with
    | none => rfl
    | some y => exact absurd (hW.lt S.nx y.1 y.2 h).2 (Nat.lt_irrefl _)
  have hle : φ.le (φ.set S.nx (w.heap.size, n)) := fun b x h => by
    unfold Phi.set
    split
    · rename_i e; rw [e, hnone] at h; cases h
    · exact h
  exact {
  wr := {
    at_ := fun b1 blk1 r1 n1 h1 h2 => by
      rw [hput] at h1
      unfold Phi.set at h2
      by_cases he : b1 = S.nx
      · rw [if_pos he] at h1 h2
        injection h2 with h2; injection h2 with h2 h3; subst h2; subst h3
        injection h1 with h1; subst h1
        exact ⟨o, by rw [hw]; simp, hBR⟩
      · rw [if_neg he] at h1 h2
        obtain ⟨o', h3, h4⟩ := hW.at_ b1 blk1 r1 n1 h1 h2
        refine ⟨o', ?_, h4.mono σ hle⟩
        rw [hw, Array.getElem?_push, if_neg (Nat.ne_of_lt (hW.lt _ _ _ h2).1)]
        exact h3
    inj := fun b1 b2 blk1 blk2 r1 n1 n2 h1 h2 h3 h4 => by
      rw [hput] at h1 h2
      unfold Phi.set at h3 h4
      by_cases e1 : b1 = S.nx <;> by_cases e2 : b2 = S.nx
      · rw [e1, e2]
      · rw [if_pos e1] at h3; rw [if_neg e2] at h4
        injection h3 with h3; injection h3 with h3 _
        exact absurd (hW.lt _ _ _ h4).1 (by omega)
      · rw [if_neg e1] at h3; rw [if_pos e2] at h4
        injection h4 with h4; injection h4 with h4 _
        exact absurd (hW.lt _ _ _ h3).1 (by omega)
      · rw [if_neg e1] at h1 h3; rw [if_neg e2] at h2 h4
        exact hW.inj b1 b2 blk1 blk2 r1 n1 n2 h1 h2 h3 h4
    lt := fun b1 r1 n1 h => by
      rw [hnx, hw, Array.size_push]
      unfold Phi.set at h
      split at h
      · injection h with h; injection h with h _; omega
      · have := hW.lt b1 r1 n1 h; omega
    dom := fun b1 blk1 h => by
      rw [hnx]
      rw [hput] at h
      by_cases he : b1 = S.nx
      · omega
      · rw [if_neg he] at h; have := hW.dom _ _ h; omega }
  le := hle
  new := fun b x hx => by
    unfold Phi.set at hx
    split at hx
    · rename_i e; subst e; exact .inr ⟨hnone, Nat.le_refl _⟩
    · exact .inl hx
  nx := by omega
  sz := by rw [hw, Array.size_push]; omega
  real := fun b r n h1 h2 => by
    unfold Phi.set at h1
    split at h1
    · injection h1 with h1; injection h1 with h1 _; exact .inl (by omega)
    · rw [h1] at h2; cases h2
  live := fun b blk' hb h => by
    rw [hput, if_neg (by omega)] at h
    exact ⟨blk', h, rfl⟩
  away := fun b hb _ => by rw [hput, if_neg (by omega)]
  frame := fun r hr _ => by rw [hw, Array.getElem?_push, if_neg (by omega)]
  rest := hr }

/-- A block goes out of sight. -/
theorem Post.forget {φ : Phi} {S S' : St} {w : World} {b : Nat} (hW : W σ φ S w) (hput : ∀ m, S'.h.get m = if m = b then none else S.h.get m) (hnx : S'.nx = S.nx) (hk : ∃ x, φ b = some x) : Post σ φ S w φ S' w := by
  have key : ∀ c blk, S'.h.get c = some blk → S.h.get c = some blk := fun c blk h => by
    rw [hput] at h
    split at h
    · cases h
    · exact h
  exact {
  wr := {
    at_ := fun b1 blk1 r1 n1 h1 h2 => hW.at_ b1 blk1 r1 n1 (key _ _ h1) h2
    inj := fun b1 b2 blk1 blk2 r1 n1 n2 h1 h2 h3 h4 => hW.inj b1 b2 blk1 blk2 r1 n1 n2 (key _ _ h1) (key _ _ h2) h3 h4
    lt := fun b1 r1 n1 h => by rw [hnx]; exact hW.lt b1 r1 n1 h
    dom := fun b1 blk1 h => by rw [hnx]; exact hW.dom _ _ (key _ _ h) }
  le := Phi.le_refl φ
  new := fun _ _ hx => .inl hx
  nx := Nat.le_of_eq hnx.symm
  sz := Nat.le_refl _
  real := fun b r n h1 h2 => by rw [h1] at h2; cases h2
  live := fun b1 blk1 _ h => ⟨blk1, key _ _ h, rfl⟩
  away := fun b1 _ h => by
    rw [hput, if_neg]
    intro e; subst e; obtain ⟨x, hx⟩ := hk; rw [hx] at h; cases h
  frame := fun _ _ _ => rfl
  rest := ⟨rfl, rfl, rfl⟩ }

/-- A block gets a new name, and is written: what an append in place does. -/
theorem Post.renew {φ : Phi} {S S' : St} {w w' : World} {b r n : Nat} {blk blk' : Blk} {o' : Obj} (hW : W σ φ S w) (hb : S.h.get b = some blk) (hφ : φ b = some (r, n)) (hro : blk.ro = false)
    (hput : ∀ m, S'.h.get m = if m = S.nx then some blk' else if m = b then none else S.h.get m) (hnx : S'.nx = S.nx + 1) (hw : w'.heap = w.heap.setIfInBounds r o') (hr : w'.os = w.os ∧ w'.tape = w.tape ∧ w'.output = w.output)
    (hBR : BR σ (φ.set S.nx (r, n)) blk' n o') : Post σ φ S w (φ.set S.nx (r, n)) S' w' := by
  have hnone : φ S.nx = none := by
    cases h : φ S.nx with
    | none => rfl
    | some y => exact absurd (hW.lt S.nx y.1 y.2 h).2 (Nat.lt_irrefl _)
  have hle : φ.le (φ.set S.nx (r, n)) := fun b x h => by
    unfold Phi.set
    split
    · rename_i e; rw [e, hnone] at h; cases h
    · exact h
  have hbn := hW.dom _ _ hb
  exact {
  wr := {
    at_ := fun b1 blk1 r1 n1 h1 h2 => by
      rw [hput] at h1
      unfold Phi.set at h2
      by_cases he : b1 = S.nx
      · rw [if_pos he] at h1 h2
        injection h2 with h2; injection h2 with h2 h3; subst h2; subst h3
        injection h1 with h1; subst h1
        exact ⟨o', by rw [hw, Array.getElem?_setIfInBounds_self_of_lt (hW.lt _ _ _ hφ).1], hBR⟩
      · rw [if_neg he] at h1 h2
        by_cases he2 : b1 = b
        · rw [if_pos he2] at h1; cases h1
        · rw [if_neg he2] at h1
          obtain ⟨o, h3, h4⟩ := hW.at_ b1 blk1 r1 n1 h1 h2
          have hne : r ≠ r1 := fun e => he2 (hW.inj b1 b blk1 blk r n1 n h1 hb (by rw [e]; exact h2) hφ)
          exact ⟨o, by rw [hw, Array.getElem?_setIfInBounds_ne hne]; exact h3, h4.mono σ hle⟩
    inj := fun b1 b2 blk1 blk2 r1 n1 n2 h1 h2 h3 h4 => by
      rw [hput] at h1 h2
      unfold Phi.set at h3 h4
      by_cases e1 : b1 = S.nx <;> by_cases e2 : b2 = S.nx
      · rw [e1, e2]
      · rw [if_pos e1] at h3; rw [if_neg e2] at h4 h2
        injection h3 with h3; injection h3 with h3 _
        subst h3
        by_cases e3 : b2 = b
        · rw [if_pos e3] at h2; cases h2
        · rw [if_neg e3] at h2; exact absurd (hW.inj b2 b blk2 blk r n2 n h2 hb h4 hφ) e3
      · rw [if_neg e1] at h3 h1; rw [if_pos e2] at h4
        injection h4 with h4; injection h4 with h4 _
        subst h4
        by_cases e3 : b1 = b
        · rw [if_pos e3] at h1; cases h1
        · rw [if_neg e3] at h1; exact absurd (hW.inj b1 b blk1 blk r n1 n h1 hb h3 hφ) e3
      · rw [if_neg e1] at h1 h3; rw [if_neg e2] at h2 h4
        split at h1
        · cases h1
        · split at h2
          · cases h2
          · exact hW.inj b1 b2 blk1 blk2 r1 n1 n2 h1 h2 h3 h4
    lt := fun b1 r1 n1 h => by
      rw [hnx, hw, Array.size_setIfInBounds]
      unfold Phi.set at h
      split at h
      · injection h with h; injection h with h _; have := (hW.lt b r n hφ).1; omega
      · have := hW.lt b1 r1 n1 h; omega
    dom := fun b1 blk1 h => by
      rw [hnx]
      rw [hput] at h
      by_cases he : b1 = S.nx
      · omega
      · rw [if_neg he] at h
        split at h
        · cases h
        · have := hW.dom _ _ h; omega }
  le := hle
  new := fun b x hx => by
    unfold Phi.set at hx
    split at hx
    · rename_i e; subst e; exact .inr ⟨hnone, Nat.le_refl _⟩
    · exact .inl hx
  nx := by omega
  sz := by rw [hw, Array.size_setIfInBounds]; exact Nat.le_refl _
  real := fun b1 r1 n1 h1 h2 => by
    unfold Phi.set at h1
    split at h1
    · injection h1 with h1; injection h1 with h1 _
      subst h1
      exact .inr ⟨b, blk, n, hφ, hb, hro⟩
    · rw [h1] at h2; cases h2
  live := fun b1 blk1 hb1 h => by
    rw [hput, if_neg (by omega)] at h
    split at h
    · cases h
    · exact ⟨blk1, h, rfl⟩
  away := fun b1 hb1 h => by
    rw [hput, if_neg (by omega), if_neg]
    intro e; subst e; rw [hφ] at h; cases h
  frame := fun r1 _ hno => by
    rw [hw, Array.getElem?_setIfInBounds_ne]
    intro e; subst e
    rw [hno b blk n hφ hb] at hro; cases hro
  rest := hr }
end
end Go.Proofs.YtedokmdoompidaaGreatDoor.Ev
