/- Cells that are read and written: the evaluator's, and the model's. -/
import Derived.Test.YtedokmdoompidaaGreatDoorEvB
import Derived.Laws.Tables
namespace Go.Proofs.YtedokmdoompidaaGreatDoor.Ev

def AV.scalar : AV → Bool
  | .agg _ => false
  | .tup _ => false
  | _ => true
def AV.cells : AV → List AV
  | .agg cs => cs
  | v => [v]
def allScalar : List AV → Bool
  | [] => true
  | x :: xs => bif x.scalar then allScalar xs else false

def loadC (S : St) (b o n : Nat) : Option (List AV) :=
  match S.h.get b with
  | some (.cells _ n0 _ _ _ cs) => bif Nat.ble (o + n) n0 then cs.getAll n o else none
  | _ => none
def storeC (S : St) (b o : Nat) (xs : List AV) : Option St :=
  match S.h.get b with
  | some (.cells e n0 sp ro sh cs) => bif Nat.ble (o + xs.length) n0 && !ro && allScalar xs then
      (match cs.putAll xs o with
       | some cs' => (match S.h.put (some (.cells e n0 sp ro sh cs')) 24 b with
         | some h => some ⟨h, S.nx⟩
         | none => none)
       | none => none) else none
  | _ => none

theorem setRow_heap_eq {w : World} {r : Nat} {c c' : Array Value} {e : TypeId} {fz : Nat × Nat} (h : w.heap[r]? = some (.cells c e fz)) : w.setRow r c' = { w with heap := w.heap.setIfInBounds r (.cells c' e fz) } := by
  have hlt : r < w.heap.size := (Array.getElem?_eq_some_iff.1 h).1
  have hv : w.heap[r] = .cells c e fz := (Array.getElem?_eq_some_iff.1 h).2
  unfold World.setRow
  congr 1
  apply Array.ext
  · simp
  · intro i h1 h2
    rw [Array.getElem_modify]
    by_cases he : r = i
    · subst he; simp [hv]
    · rw [if_neg he]; exact (Array.getElem_setIfInBounds_ne (by simpa using h1) he).symm

theorem run_cells_put {P : Program} (r o : Nat) (e : TypeId) (fz : Nat × Nat) : ∀ (vs : List Value) (i : Nat) (c : Array Value) (w : World), w.heap[r]? = some (.cells c e fz) → (fz.2 ≤ fz.1 ∨ c.size ≤ fz.1) → o + i + vs.length ≤ c.size → (∀ v ∈ vs, v.oneCell' = true) →
    ∃ c' : Array Value, (storeCells ⟨r, o, none⟩ vs i).run P w = .ok () { w with heap := w.heap.setIfInBounds r (.cells c' e fz) } ∧ c'.size = c.size ∧ ∀ j, c'[j]? = if o + i ≤ j ∧ j < o + i + vs.length then vs[j - (o + i)]? else c[j]?
  | [], i, c, w, h, _, _, _ => ⟨c, by
      simp only [storeCells, Sem.run_pure]
      congr 1
      rw [show w.heap.setIfInBounds r (.cells c e fz) = w.heap by
        apply Array.ext'
        obtain ⟨hlt, hv⟩ := Array.getElem?_eq_some_iff.1 h
        rw [Array.toList_setIfInBounds, ← hv]
        exact List.set_getElem_self _], rfl, fun j => by rw [if_neg]; simp only [List.length_nil]; omega⟩
  | v :: vs, i, c, w, h, hf, hl, h1 => by
    simp only [List.length_cons] at hl
    have hi : o + i < c.size := by omega
    have hadd : (⟨r, o, none⟩ : Addr).add i = ⟨r, o + i, none⟩ := by unfold Addr.add; split <;> simp_all
    have hcell : w.cell? ⟨r, o + i, none⟩ = some c[o + i] := by simp [World.cell?, h, hi]
    have hfro : w.frozen? ⟨r, o + i, none⟩ = false := by
      obtain ⟨lo, hh⟩ := fz
      simp only at hf
      simp only [World.frozen?, h, Bool.and_eq_false_iff, decide_eq_false_iff_not]
      omega
    have hst : (store ((⟨r, o, none⟩ : Addr).add i) v).run P w = .ok () { w with heap := w.heap.setIfInBounds r (.cells (c.setIfInBounds (o + i) v) e fz) } := by
      rw [hadd, run_store P w _ v _ (h1 v (by simp)), hcell]
      simp [hfro, setCell_eq_setRow w r (o + i) c e fz v h, setRow_heap_eq h]
    have hlt : r < w.heap.size := (Array.getElem?_eq_some_iff.1 h).1
    obtain ⟨c', g1, g2, g3⟩ := run_cells_put (P := P) r o e fz vs (i + 1) (c.setIfInBounds (o + i) v) { w with heap := w.heap.setIfInBounds r (.cells (c.setIfInBounds (o + i) v) e fz) }
      (by simp [hlt]) (by simpa using hf) (by simp; omega) (fun x hx => h1 x (by simp [hx]))
    refine ⟨c', ?_, by simpa using g2, fun j => ?_⟩
    · simp only [storeCells, Sem.run_bind, hst, Result.andThen_ok, g1]
      congr 2
      simp [Array.setIfInBounds_setIfInBounds]
    · rw [g3 j]
      simp only [List.length_cons]
      by_cases he : j = o + i
      · subst he
        rw [if_neg (by omega), if_pos (by omega)]
        simp [hi]
      · rw [Array.getElem?_setIfInBounds_ne (Ne.symm he)]
        by_cases hc : o + i ≤ j ∧ j < o + i + (vs.length + 1)
        · rw [if_pos (by omega), if_pos hc, show j - (o + i) = (j - (o + (i + 1))) + 1 by omega]
          simp
        · rw [if_neg (by omega), if_neg hc]

section
variable (σ : Nat → Value)
theorem VL.len {φ : Phi} : ∀ {xs : List AV} {vs : List Value}, VL σ φ xs vs → vs.length = xs.length
  | [], vs, h => by simp only [VL] at h; subst h; rfl
  | x :: xs, vs, h => by
    simp only [VL] at h
    obtain ⟨v, l, rfl, _, h2⟩ := h
    simp [VL.len h2]
theorem VL.at {φ : Phi} : ∀ {xs : List AV} {vs : List Value}, VL σ φ xs vs → ∀ (j : Nat) (x : AV), xs[j]? = some x → ∃ v, vs[j]? = some v ∧ V σ φ x v
  | [], vs, h, j, x, hx => by simp at hx
  | y :: xs, vs, h, j, x, hx => by
    simp only [VL] at h
    obtain ⟨v, l, rfl, h1, h2⟩ := h
    cases j with
    | zero => simp at hx; subst hx; exact ⟨v, by simp, h1⟩
    | succ j => simp at hx ⊢; exact VL.at h2 j x hx
theorem VL.of {φ : Phi} : ∀ {xs : List AV} {vs : List Value}, vs.length = xs.length → (∀ (j : Nat) (x : AV), xs[j]? = some x → ∃ v, vs[j]? = some v ∧ V σ φ x v) → VL σ φ xs vs
  | [], vs, h, _ => by simp only [VL]; exact List.length_eq_zero_iff.1 h
  | x :: xs, [], h, _ => by simp at h
  | x :: xs, v :: vs, h, k => by
    simp only [VL]
    refine ⟨v, vs, rfl, ?_, VL.of (by simpa using h) (fun j y hy => ?_)⟩
    · obtain ⟨u, h1, h2⟩ := k 0 x (by simp)
      simp at h1; subst h1; exact h2
    · obtain ⟨u, h1, h2⟩ := k (j + 1) y (by simpa using hy)
      exact ⟨u, by simpa using h1, h2⟩
theorem VL.append {φ : Phi} : ∀ {xs ys : List AV} {vs us : List Value}, VL σ φ xs vs → VL σ φ ys us → VL σ φ (xs ++ ys) (vs ++ us)
  | [], ys, vs, us, h, k => by simp only [VL] at h; subst h; exact k
  | x :: xs, ys, vs, us, h, k => by
    simp only [VL] at h
    obtain ⟨v, l, rfl, h1, h2⟩ := h
    simp only [List.cons_append, VL]
    exact ⟨v, l ++ us, rfl, h1, VL.append h2 k⟩

/-- The caller's values lie in one cell each. -/
def Small : Prop := ∀ k, (σ k).oneCell' = true
theorem V.scalar (hσ : Small σ) {φ : Phi} {x : AV} {v : Value} (h : V σ φ x v) (hs : x.scalar = true) : v.oneCell' = true := by
  cases x <;> simp only [V] at h <;> first
    | (subst h; first | rfl | exact hσ _)
    | (obtain ⟨_, h, _⟩ := h; subst h; rfl)
    | (obtain ⟨_, _, h⟩ := h; subst h; rfl)
    | (obtain ⟨_, _, _, h⟩ := h; subst h; rfl)
    | (obtain ⟨_, _, _, _, h, _⟩ := h; subst h; rfl)
    | (obtain ⟨_, _, h, _⟩ := h; subst h; rfl)
    | (simp [AV.scalar] at hs)
theorem VL.scalar (hσ : Small σ) {φ : Phi} : ∀ {xs : List AV} {vs : List Value}, VL σ φ xs vs → allScalar xs = true → ∀ v ∈ vs, v.oneCell' = true
  | [], vs, h, _ => by simp only [VL] at h; subst h; simp
  | x :: xs, vs, h, hs => by
    simp only [VL] at h
    obtain ⟨v, l, rfl, h1, h2⟩ := h
    simp only [allScalar] at hs
    cases hx : x.scalar with
    | false => simp [hx] at hs
    | true =>
      simp only [hx, cond_true] at hs
      intro u hu
      rcases List.mem_cons.1 hu with rfl | hu
      · exact V.scalar σ hσ h1 hx
      · exact VL.scalar hσ h2 hs u hu
/-- The cells of a value. -/
theorem V.cells (hσ : Small σ) {φ : Phi} {x : AV} {v : Value} (h : V σ φ x v) (hx : allScalar x.cells = true) : VL σ φ x.cells v.cells.toList := by
  cases x with
  | agg cs => simp only [V] at h; obtain ⟨vs, rfl, h2⟩ := h; simpa [AV.cells, Value.cells] using h2
  | tup cs => simp [AV.cells, allScalar, AV.scalar] at hx
  | _ =>
    have h1 := V.scalar σ hσ h rfl
    have : v.cells.toList = [v] := by cases v <;> first | rfl | (simp [Value.oneCell'] at h1)
    rw [this]
    simp only [AV.cells, VL]
    exact ⟨v, [], rfl, h, rfl⟩

theorem loadC_spec {φ : Phi} {S : St} {w : World} (hW : W σ φ S w) {b o n r m : Nat} {l : List AV} (hφ : φ b = some (r, m)) (h : loadC S b o n = some l) :
    ∃ vs, VL σ φ l vs ∧ vs.length = n ∧ (∀ (j : Nat) (v : Value), vs[j]? = some v → w.cell? ⟨r, o + j, none⟩ = some v) := by
  unfold loadC at h
  split at h
  · rename_i e n0 sp ro sh cs hb
    cases hle : Nat.ble (o + n) n0 with
    | false => simp [hle] at h
    | true =>
      simp only [hle, cond_true] at h
      have hle := Nat.le_of_ble_eq_true hle
      obtain ⟨ob, ho, c, fz, rfl, h2, h3, _, h5, _⟩ := hW.at_ _ _ _ _ hb hφ
      obtain ⟨hlen, hget⟩ := Tr.getAll_spec cs n o l h
      have hcell : ∀ j, j < n → ∃ x v, l[j]? = some x ∧ c[o + j]? = some v ∧ V σ φ x v := fun j hj => by
        obtain ⟨x, v, a, b, d⟩ := h5 (o + j) (by omega)
        exact ⟨x, v, by rw [← hget j hj]; exact a, b, d⟩
      refine ⟨(c.toList.drop o).take n, VL.of σ ?_ (fun j x hx => ?_), ?_, fun j v hv => ?_⟩
      · rw [hlen, List.length_take, List.length_drop, Array.length_toList]; omega
      · have hj : j < n := by rw [← hlen]; exact (List.getElem?_eq_some_iff.1 hx).1
        obtain ⟨x', v, a, b, d⟩ := hcell j hj
        rw [hx] at a; injection a with a; subst a
        refine ⟨v, ?_, d⟩
        rw [List.getElem?_take, if_pos hj, List.getElem?_drop, Array.getElem?_toList]
        exact b
      · rw [List.length_take, List.length_drop, Array.length_toList]; omega
      · rw [List.getElem?_take] at hv
        split at hv
        · rw [List.getElem?_drop, Array.getElem?_toList] at hv
          simp [World.cell?, ho, hv]
        · cases hv
  · cases h

theorem loadC_run {P : Program} {φ : Phi} {S : St} {w : World} (hW : W σ φ S w) {b o n r m : Nat} {l : List AV} (hφ : φ b = some (r, m)) (h : loadC S b o n = some l) :
    ∃ vs, VL σ φ l vs ∧ vs.length = n ∧ (loadCells ⟨r, o, none⟩ n).run P w = .ok vs.toArray w := by
  obtain ⟨vs, h1, h2, h3⟩ := loadC_spec σ hW hφ h
  refine ⟨vs, h1, h2, ?_⟩
  rw [← h2]
  exact run_loadCells_list w _ vs (fun j v hv => by
    have hadd : (⟨r, o, none⟩ : Addr).add j = ⟨r, o + j, none⟩ := by unfold Addr.add; split <;> simp_all
    rw [hadd]; exact h3 j v hv)

theorem storeC_run {P : Program} (hσ : Small σ) {φ : Phi} {S S' : St} {w : World} (hW : W σ φ S w) {b o r m : Nat} {xs : List AV} {vs : List Value} (hφ : φ b = some (r, m)) (hv : VL σ φ xs vs) (h : storeC S b o xs = some S') :
    ∃ w', (storeCells ⟨r, o, none⟩ vs).run P w = .ok () w' ∧ Post σ φ S w φ S' w' := by
  unfold storeC at h
  split at h
  · rename_i e n0 sp ro sh cs hb
    cases hc : (Nat.ble (o + xs.length) n0 && !ro && allScalar xs) with
    | false => simp [hc] at h
    | true =>
      simp only [hc, cond_true] at h
      simp only [Bool.and_eq_true, Bool.not_eq_true'] at hc
      obtain ⟨⟨hle, hro⟩, hsc⟩ := hc
      have hle := Nat.le_of_ble_eq_true hle
      split at h
      · rename_i cs' hcs
        split at h
        · rename_i h' hh
          injection h with h; subst h
          obtain ⟨ob, ho, c, fz, rfl, h2, h3, h4, h5, h6, h7⟩ := hW.at_ _ _ _ _ hb hφ
          have hlen := VL.len σ hv
          obtain ⟨c', g1, g2, g3⟩ := run_cells_put (P := P) r o e fz vs 0 c w ho (by rw [h2]; exact h6) (by rw [hlen, h2]; omega) (VL.scalar σ hσ hv hsc)
          refine ⟨_, g1, Post.update σ hW hb hφ (blk' := .cells e n0 sp ro sh cs') hro hro (Tr.get_put _ _ _ _ _ hh) rfl rfl ⟨rfl, rfl, rfl⟩ ?_⟩
          refine ⟨c', fz, rfl, by rw [g2, h2], h3, h4, fun i hi => ?_, h6, h7⟩
          have hget := Tr.get_putAll xs cs o cs' hcs i
          have hg := g3 i
          simp only [Nat.add_zero, hlen] at hg
          by_cases hr : o ≤ i ∧ i < o + xs.length
          · rw [if_pos hr] at hget hg
            have hx : xs[i - o]? = some (xs[i - o]'(by omega)) := List.getElem?_eq_getElem _
            obtain ⟨v, k1, k2⟩ := VL.at σ hv (i - o) _ hx
            exact ⟨_, v, by rw [hget, hx], by rw [hg, k1], k2⟩
          · rw [if_neg hr] at hget hg
            obtain ⟨x, v, a, b, d⟩ := h5 i hi
            exact ⟨x, v, by rw [hget, a], by rw [hg, b], d⟩
        · cases h
      · cases h
  · cases h
/-- A new row. -/
def newC (S : St) (e : TypeId) (sp sh : Bool) (xs : List AV) : Option St :=
  match Tr.putAll xs .leaf 0 with
  | some cs => (match S.h.put (some (.cells e xs.length sp false sh cs)) 24 S.nx with
    | some h => some ⟨h, S.nx + 1⟩
    | none => none)
  | none => none
theorem newC_post {φ : Phi} {S S' : St} {w w' : World} (hW : W σ φ S w) {e : TypeId} {sp sh : Bool} {xs : List AV} {c : Array Value} {fz : Nat × Nat} (hw : w'.heap = w.heap.push (.cells c e fz)) (hr : w'.os = w.os ∧ w'.tape = w.tape ∧ w'.output = w.output)
    (hl : xs.length ≤ c.size) (hsp : sp = false → c.size = xs.length) (hv : ∀ (j : Nat) (x : AV), xs[j]? = some x → ∃ v, c[j]? = some v ∧ V σ φ x v) (hfz : fz.2 ≤ fz.1 ∨ c.size ≤ fz.1) (hsh : sh = false → fz = (0, 0)) (h : newC S e sp sh xs = some S') :
    Post σ φ S w (φ.set S.nx (w.heap.size, c.size)) S' w' := by
  unfold newC at h
  split at h
  · rename_i cs hcs
    split at h
    · rename_i h' hh
      injection h with h; subst h
      refine Post.alloc σ hW (Tr.get_put _ _ _ _ _ hh) rfl hw hr ?_
      have hnone : φ S.nx = none := by
        cases h : φ S.nx with
        | none => rfl
        | some y => exact absurd (hW.lt S.nx y.1 y.2 h).2 (Nat.lt_irrefl _)
      have hle : φ.le (φ.set S.nx (w.heap.size, c.size)) := fun b x h => by
        unfold Phi.set
        split
        · rename_i e; rw [e, hnone] at h; cases h
        · exact h
      refine ⟨c, fz, rfl, rfl, hl, hsp, fun i hi => ?_, hfz, hsh⟩
      have hx : xs[i]? = some xs[i] := List.getElem?_eq_getElem hi
      obtain ⟨v, k1, k2⟩ := hv i _ hx
      refine ⟨xs[i], v, ?_, k1, V.mono σ hle _ _ k2⟩
      rw [Tr.get_putAll xs .leaf 0 cs hcs i, if_pos (by omega), Nat.sub_zero, hx]
    · cases h
  · cases h
end
end Go.Proofs.YtedokmdoompidaaGreatDoor.Ev
