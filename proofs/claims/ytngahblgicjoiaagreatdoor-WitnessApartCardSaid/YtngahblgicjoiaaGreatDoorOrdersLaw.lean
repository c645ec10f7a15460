/- Orders of steps: the program's search (which leaves a step that another one must come ahead of) and the document's (which tries each order and looks at its beginning) find the same. -/
import Derived.Test.YtngahblgicjoiaaGreatDoorBase
namespace Go.Proofs.YtngahblgicjoiaaGreatDoor
section
variable {α σ : Type} (next : σ → α → Option σ) (late : α → α → Bool)

/-- The program's. -/
def ordP : Nat → σ → List α → Option (List α)
  | 0, _, _ => some []
  | n + 1, h, l => (List.range l.length).findSome? fun i => match l[i]? with
    | none => none
    | some x => if (l.eraseIdx i).any (fun y => late y x) = true then none else match next h x with
      | none => none
      | some g => (ordP n g (l.eraseIdx i)).map (x :: ·)
def fitL : σ → List α → Option σ
  | h, [] => some h
  | h, x :: l => match next h x with | none => none | some g => fitL g l
/-- Is each answered behind those ahead? -/
def inTimeL (l : List α) : Prop := l.Pairwise fun a c => late c a = false
open Classical in
/-- The document's. -/
noncomputable def ordD (h0 : σ) : Nat → List α → List α → Option (List α)
  | 0, b, _ => if (fitL next h0 b).isSome = true ∧ inTimeL late b then some b else none
  | n + 1, b, r => if (fitL next h0 b).isSome = true ∧ inTimeL late b then (List.range r.length).findSome? fun i => match r[i]? with
    | none => none
    | some x => ordD h0 n (b ++ [x]) (r.eraseIdx i) else none
variable {next late}
theorem fitL_snoc : ∀ (b : List α) (h : σ) (x : α), fitL next h (b ++ [x]) = (fitL next h b).bind fun g => next g x
  | [], h, x => by
    simp only [List.nil_append, fitL, Option.bind_some]
    cases next h x <;> rfl
  | y :: b, h, x => by
    simp only [List.cons_append, fitL]
    cases next h y with
    | none => rfl
    | some g => exact fitL_snoc b g x
theorem inTimeL_snoc {b : List α} {x : α} : inTimeL late (b ++ [x]) ↔ inTimeL late b ∧ ∀ a ∈ b, late x a = false := by
  simp [inTimeL, List.pairwise_append]
theorem findSome_none {β : Type} {l : List Nat} {f : Nat → Option β} (h : ∀ i ∈ l, f i = none) : l.findSome? f = none := by
  rw [List.findSome?_eq_none_iff]; exact h
theorem findSome_congr {β : Type} : ∀ {l : List Nat} {f g : Nat → Option β}, (∀ i ∈ l, f i = g i) → l.findSome? f = l.findSome? g
  | [], _, _, _ => rfl
  | x :: l, f, g, h => by
    simp only [List.findSome?_cons, h x (by simp)]
    cases g x with
    | some y => rfl
    | none => exact findSome_congr (fun i hi => h i (by simp [hi]))
theorem findSome_map {β γ : Type} (u : β → γ) : ∀ (l : List Nat) (f : Nat → Option β), (l.findSome? f).map u = l.findSome? fun i => (f i).map u
  | [], _ => rfl
  | x :: l, f => by
    simp only [List.findSome?_cons]
    cases f x with
    | some y => rfl
    | none => exact findSome_map u l f
theorem len_erase {l : List α} {i n : Nat} (hi : i < l.length) (h : l.length = n + 1) : (l.eraseIdx i).length = n := by
  rw [List.length_eraseIdx, if_pos hi]; omega
/-- One that must come ahead of one that is placed: no order. -/
theorem ordD_none (h0 : σ) : ∀ (n : Nat) (b r : List α), r.length = n → (∃ a ∈ b, ∃ y ∈ r, late y a = true) → ordD next late h0 n b r = none
  | 0, b, r, hl, ⟨a, _, y, hy, _⟩ => by
    rw [List.length_eq_zero_iff] at hl
    subst hl; simp at hy
  | n + 1, b, r, hl, ⟨a, ha, y, hy, hlate⟩ => by
    rw [ordD]
    split
    · refine findSome_none (fun i hi => ?_)
      have hi := List.mem_range.1 hi
      rw [List.getElem?_eq_getElem hi]
      simp only
      by_cases e : late r[i] a = true
      · -- it is placed now: not in time
        have hbad : ¬ inTimeL late (b ++ [r[i]]) := fun h => by
          have := (inTimeL_snoc.1 h).2 a ha
          rw [e] at this; cases this
        cases n with
        | zero => rw [ordD, if_neg (fun h => hbad h.2)]
        | succ n => rw [ordD, if_neg (fun h => hbad h.2)]
      · refine ordD_none h0 n (b ++ [r[i]]) (r.eraseIdx i) (len_erase hi hl) ⟨a, by simp [ha], y, ?_, hlate⟩
        obtain ⟨k, hk, rfl⟩ := List.mem_iff_getElem.1 hy
        have hki : k ≠ i := fun e' => e (by subst e'; exact hlate)
        exact List.mem_eraseIdx_iff_getElem.2 ⟨k, hk, hki, rfl⟩
    · rfl
theorem orders_same (h0 : σ) : ∀ (n : Nat) (b r : List α) (h : σ), r.length = n → fitL next h0 b = some h → inTimeL late b → (∀ a ∈ b, ∀ y ∈ r, late y a = false) → ordD next late h0 n b r = (ordP next late n h r).map (b ++ ·)
  | 0, b, r, h, _, hf, ht, _ => by
    rw [ordD, if_pos ⟨by rw [hf]; rfl, ht⟩, ordP]
    simp
  | n + 1, b, r, h, hl, hf, ht, hn => by
    rw [ordD, if_pos ⟨by rw [hf]; rfl, ht⟩, ordP, findSome_map]
    refine findSome_congr (fun i hi => ?_)
    have hi := List.mem_range.1 hi
    rw [List.getElem?_eq_getElem hi]
    simp only
    by_cases e : (r.eraseIdx i).any (fun y => late y r[i]) = true
    · rw [if_pos e]
      obtain ⟨y, hy, hly⟩ := List.any_eq_true.1 e
      rw [ordD_none h0 n (b ++ [r[i]]) (r.eraseIdx i) (len_erase hi hl) ⟨r[i], by simp, y, hy, hly⟩]
      rfl
    · rw [if_neg e]
      have ht2 : inTimeL late (b ++ [r[i]]) := inTimeL_snoc.2 ⟨ht, fun a ha => hn a ha r[i] (List.getElem_mem hi)⟩
      have hf2 := fitL_snoc (next := next) b h0 r[i]
      rw [hf, Option.bind_some] at hf2
      cases hx : next h r[i] with
      | none =>
        rw [hx] at hf2
        have hbad : ¬ ((fitL next h0 (b ++ [r[i]])).isSome = true ∧ inTimeL late (b ++ [r[i]])) := fun h => by rw [hf2] at h; exact absurd h.1 (by simp)
        cases n with
        | zero => rw [ordD, if_neg hbad]; rfl
        | succ n => rw [ordD, if_neg hbad]; rfl
      | some g =>
        rw [hx] at hf2
        rw [orders_same h0 n (b ++ [r[i]]) (r.eraseIdx i) g (len_erase hi hl) hf2 ht2 (fun a ha y hy => ?_)]
        · simp only [Option.map_map]
          congr 1
          funext z
          simp
        · rcases List.mem_append.1 ha with ha | ha
          · exact hn a ha y (List.mem_of_mem_eraseIdx hy)
          · rw [List.mem_singleton] at ha
            subst ha
            cases hc : late y r[i] with
            | false => rfl
            | true => exact absurd (List.any_eq_true.2 ⟨y, hy, hc⟩) e
end
section
variable {α σ : Type} {next : σ → α → Option σ} {late : α → α → Bool}
theorem perm_erase {l : List α} {i : Nat} (h : i < l.length) : (l[i] :: l.eraseIdx i).Perm l := by
  rw [List.eraseIdx_eq_take_drop_succ]
  conv => rhs; rw [← List.take_append_drop i l, List.drop_eq_getElem_cons h]
  exact List.perm_middle.symm
/-- What is found is an order of them, fits, and is in time. -/
theorem ordP_spec : ∀ (n : Nat) (h : σ) (l out : List α), l.length = n → ordP next late n h l = some out → out.Perm l ∧ (fitL next h out).isSome = true ∧ inTimeL late out
  | 0, h, l, out, hl, ho => by
    rw [ordP] at ho
    rw [List.length_eq_zero_iff] at hl
    subst hl
    cases ho
    exact ⟨List.Perm.refl _, rfl, List.Pairwise.nil⟩
  | n + 1, h, l, out, hl, ho => by
    rw [ordP] at ho
    obtain ⟨i, hi, hx⟩ := List.exists_of_findSome?_eq_some ho
    have hi := List.mem_range.1 hi
    rw [List.getElem?_eq_getElem hi] at hx
    simp only at hx
    split at hx
    · cases hx
    · rename_i hlate
      cases hn : next h l[i] with
      | none => rw [hn] at hx; cases hx
      | some g =>
        rw [hn] at hx
        simp only [Option.map_eq_some_iff] at hx
        obtain ⟨o2, h2, rfl⟩ := hx
        obtain ⟨p1, p2, p3⟩ := ordP_spec n g (l.eraseIdx i) o2 (len_erase hi hl) h2
        refine ⟨(p1.cons _).trans (perm_erase hi), by rw [fitL, hn]; exact p2, List.pairwise_cons.2 ⟨fun y hy => ?_, p3⟩⟩
        cases hc : late y l[i] with
        | false => rfl
        | true => exact absurd (List.any_eq_true.2 ⟨y, p1.mem_iff.1 hy, hc⟩) hlate
/-- Where there is one, one is found. -/
theorem ordP_some : ∀ (n : Nat) (h : σ) (l out : List α), l.length = n → out.Perm l → (fitL next h out).isSome = true → inTimeL late out → (ordP next late n h l).isSome = true
  | 0, h, l, out, _, _, _, _ => by rw [ordP]; rfl
  | n + 1, h, l, [], hl, hp, _, _ => by have := hp.length_eq; rw [hl] at this; simp at this
  | n + 1, h, l, x :: out, hl, hp, hf, ht => by
    rw [ordP, List.findSome?_isSome_iff]
    obtain ⟨i, hi, rfl⟩ := List.mem_iff_getElem.1 (hp.mem_iff.1 (List.mem_cons_self ..))
    refine ⟨i, List.mem_range.2 hi, ?_⟩
    rw [List.getElem?_eq_getElem hi]
    simp only
    have hp2 : out.Perm (l.eraseIdx i) := (hp.trans (perm_erase hi).symm).cons_inv
    have ht2 := List.pairwise_cons.1 ht
    rw [fitL] at hf
    cases hn : next h l[i] with
    | none => rw [hn] at hf; cases hf
    | some g =>
      rw [hn] at hf
      rw [if_neg (fun e => by
        obtain ⟨y, hy, hly⟩ := List.any_eq_true.1 e
        rw [ht2.1 y (hp2.mem_iff.2 hy)] at hly; cases hly)]
      simp only [Option.isSome_map]
      exact ordP_some n g _ out (len_erase hi hl) hp2 hf ht2.2
/-- Turned in any way, there is one or there is none. -/
theorem ordP_perm {n : Nat} {h : σ} {l l' : List α} (hl : l.length = n) (hp : l.Perm l') : (ordP next late n h l).isSome = (ordP next late n h l').isSome := by
  have hl' : l'.length = n := by rw [← hp.length_eq]; exact hl
  have key : ∀ {a b : List α}, a.length = n → b.length = n → a.Perm b → (ordP next late n h a).isSome = true → (ordP next late n h b).isSome = true := fun ha hb hab e => by
    obtain ⟨o, ho⟩ := Option.isSome_iff_exists.1 e
    obtain ⟨p1, p2, p3⟩ := ordP_spec n h _ o ha ho
    exact ordP_some n h _ o hb (p1.trans hab) p2 p3
  rw [Bool.eq_iff_iff]
  exact ⟨key hl hl' hp, key hl' hl hp.symm⟩
end
end Go.Proofs.YtngahblgicjoiaaGreatDoor
