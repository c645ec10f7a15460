/- Rows that rise by key: a row put where it belongs, and the document's way of it. -/
import Derived.Test.YtngahblgicjoiaaGreatDoorBase
namespace Go.Proofs.YtngahblgicjoiaaGreatDoor

structure RowD where
  key : ByteArray
  value : ByteArray
def encRw (r : RowD) : List Value := [.string r.key, .string r.value]
def rkey (r : RowD) : List UInt8 := r.key.data.toList
def RiseR (l : List RowD) : Prop := l.Pairwise fun a b => rkey a < rkey b
def placeR (k : List UInt8) (l : List RowD) : Nat := (l.takeWhile fun d => decide (rkey d < k)).length
def thereR (k : List UInt8) (l : List RowD) : Bool := match l[placeR k l]? with | some d => decide (rkey d = k) | none => false
def getR (k : List UInt8) (l : List RowD) : Option ByteArray := match l[placeR k l]? with | some d => if rkey d = k then some d.value else none | none => none
def putR (x : RowD) (l : List RowD) : List RowD := l.take (placeR (rkey x) l) ++ x :: l.drop (placeR (rkey x) l + if thereR (rkey x) l = true then 1 else 0)
/-- The document's: the rows behind, and whether the row is put. -/
def withGo (x : RowD) : Bool → List RowD → List RowD
  | true, [] => []
  | false, [] => [x]
  | true, d :: l => (if rkey d = rkey x then [] else [d]) ++ withGo x true l
  | false, d :: l => if rkey d < rkey x then d :: withGo x false l else x :: ((if rkey d = rkey x then [] else [d]) ++ withGo x true l)
theorem lt_irr (a : List UInt8) : ¬ a < a := List.lt_irrefl a
theorem lt_tr {a b c : List UInt8} (h : a < b) (k : b < c) : a < c := List.lt_trans h k
theorem withGo_true {x : RowD} : ∀ {l : List RowD}, (∀ d ∈ l, rkey d ≠ rkey x) → withGo x true l = l
  | [], _ => rfl
  | d :: l, h => by
    rw [withGo, if_neg (h d (by simp)), withGo_true (fun e he => h e (by simp [he]))]
    rfl
theorem lt_tri (a b : List UInt8) : a < b ∨ a = b ∨ b < a := by
  by_cases h1 : a < b
  · exact .inl h1
  · by_cases h2 : b < a
    · exact .inr (.inr h2)
    · exact .inr (.inl (List.le_antisymm (List.not_lt.1 h2) (List.not_lt.1 h1)))
theorem lt_of_not_lt {a b c : List UInt8} (h : ¬ a < b) (k : a < c) : b < c := by
  rcases lt_tri a b with e | e | e
  · exact absurd e h
  · rw [← e]; exact k
  · exact lt_tr e k
theorem with_put {x : RowD} : ∀ {l : List RowD}, RiseR l → withGo x false l = putR x l
  | [], _ => by simp [withGo, putR, placeR]
  | d :: l, h => by
    have hp := List.pairwise_cons.1 h
    by_cases hlt : rkey d < rkey x
    · have hpl : placeR (rkey x) (d :: l) = placeR (rkey x) l + 1 := by
        unfold placeR; rw [List.takeWhile_cons_of_pos (by simpa using hlt)]; rfl
      have hth : thereR (rkey x) (d :: l) = thereR (rkey x) l := by
        unfold thereR; rw [hpl, List.getElem?_cons_succ]
      rw [withGo, if_pos hlt, with_put hp.2]
      unfold putR
      rw [hpl, hth, List.take_succ_cons, show placeR (rkey x) l + 1 + (if thereR (rkey x) l = true then 1 else 0) = (placeR (rkey x) l + (if thereR (rkey x) l = true then 1 else 0)) + 1 from by omega, List.drop_succ_cons]
      rfl
    · have hpl : placeR (rkey x) (d :: l) = 0 := by
        unfold placeR; rw [List.takeWhile_cons_of_neg (by simpa using hlt)]; rfl
      have hne : ∀ e ∈ l, rkey e ≠ rkey x := fun e he hk => by
        have h1 := lt_of_not_lt hlt (hp.1 e he)
        rw [hk] at h1
        exact lt_irr _ h1
      rw [withGo, if_neg hlt, withGo_true hne]
      unfold putR thereR
      rw [hpl, List.getElem?_cons_zero]
      by_cases hk : rkey d = rkey x
      · simp [hk]
      · simp [hk]
theorem putR_rise {x : RowD} : ∀ {l : List RowD}, RiseR l → RiseR (putR x l)
  | l, h => by
    rw [← with_put h]
    have key : ∀ (l : List RowD), RiseR l → RiseR (withGo x false l) ∧ ∀ e ∈ withGo x false l, e = x ∨ e ∈ l := by
      intro l
      induction l with
      | nil => intro _; exact ⟨List.pairwise_singleton _ _, fun e he => .inl (by simpa [withGo] using he)⟩
      | cons d l ih =>
        intro h
        have hp := List.pairwise_cons.1 h
        by_cases hlt : rkey d < rkey x
        · rw [withGo, if_pos hlt]
          obtain ⟨i1, i2⟩ := ih hp.2
          refine ⟨List.pairwise_cons.2 ⟨fun e he => ?_, i1⟩, fun e he => ?_⟩
          · rcases i2 e he with rfl | he
            · exact hlt
            · exact hp.1 e he
          · rcases List.mem_cons.1 he with rfl | he
            · exact .inr (by simp)
            · exact (i2 e he).elim .inl (fun h => .inr (by simp [h]))
        · have hne : ∀ e ∈ l, rkey e ≠ rkey x := fun e he hk => by
            have h1 := lt_of_not_lt hlt (hp.1 e he)
            rw [hk] at h1
            exact lt_irr _ h1
          rw [withGo, if_neg hlt, withGo_true hne]
          by_cases hk : rkey d = rkey x
          · rw [if_pos hk]
            exact ⟨List.pairwise_cons.2 ⟨fun e he => by rw [← hk]; exact hp.1 e he, hp.2⟩, fun e he => (List.mem_cons.1 he).elim .inl (fun h => .inr (by simp [show e ∈ l by simpa using h]))⟩
          · rw [if_neg hk]
            have hxd : rkey x < rkey d := by
              rcases lt_tri (rkey d) (rkey x) with e | e | e
              · exact absurd e hlt
              · exact absurd e hk
              · exact e
            refine ⟨List.pairwise_cons.2 ⟨fun e he => ?_, h⟩, fun e he => (List.mem_cons.1 he).elim .inl (fun h => .inr h)⟩
            rcases List.mem_cons.1 (show e ∈ d :: l from he) with rfl | he
            · exact hxd
            · exact lt_tr hxd (hp.1 e he)
    exact (key l h).1
end Go.Proofs.YtngahblgicjoiaaGreatDoor
/- Orders of steps: the program's search (which leaves a step that another one must come ahead of) and the document's (which tries each order and looks at its beginning) find the same. -/
namespace Go.Proofs.YtngahblgicjoiaaGreatDoor
section
variable {α σ : Type} (next : σ → α → Option σ) (late : α → α → Bool)

/-- The program's. -/
def ordP : Nat → σ → List α → Option (List α)
  | 0, _, _ => some []
  | n + 1, h, l => (List.range l.length).findSome? fun i => match l[i]? with
    | none => none
    | some x => if (l.eraseIdx i).any (fun y => late y x) = true then none else match next h x with
      | none => none
      | some g => (ordP n g (l.eraseIdx i)).map (x :: ·)
def fitL : σ → List α → Option σ
  | h, [] => some h
  | h, x :: l => match next h x with | none => none | some g => fitL g l
/-- Is each answered behind those ahead? -/
def inTimeL (l : List α) : Prop := l.Pairwise fun a c => late c a = false
open Classical in
/-- The document's. -/
noncomputable def ordD (h0 : σ) : Nat → List α → List α → Option (List α)
  | 0, b, _ => if (fitL next h0 b).isSome = true ∧ inTimeL late b then some b else none
  | n + 1, b, r => if (fitL next h0 b).isSome = true ∧ inTimeL late b then (List.range r.length).findSome? fun i => match r[i]? with
    | none => none
    | some x => ordD h0 n (b ++ [x]) (r.eraseIdx i) else none
variable {next late}
theorem fitL_snoc : ∀ (b : List α) (h : σ) (x : α), fitL next h (b ++ [x]) = (fitL next h b).bind fun g => next g x
  | [], h, x => by
    simp only [List.nil_append, fitL, Option.bind_some]
    cases next h x <;> rfl
  | y :: b, h, x => by
    simp only [List.cons_append, fitL]
    cases next h y with
    | none => rfl
    | some g => exact fitL_snoc b g x
theorem inTimeL_snoc {b : List α} {x : α} : inTimeL late (b ++ [x]) ↔ inTimeL late b ∧ ∀ a ∈ b, late x a = false := by
  simp [inTimeL, List.pairwise_append]
theorem findSome_none {β : Type} {l : List Nat} {f : Nat → Option β} (h : ∀ i ∈ l, f i = none) : l.findSome? f = none := by
  rw [List.findSome?_eq_none_iff]; exact h
theorem findSome_congr {β : Type} : ∀ {l : List Nat} {f g : Nat → Option β}, (∀ i ∈ l, f i = g i) → l.findSome? f = l.findSome? g
  | [], _, _, _ => rfl
  | x :: l, f, g, h => by
    simp only [List.findSome?_cons, h x (by simp)]
    cases g x with
    | some y => rfl
    | none => exact findSome_congr (fun i hi => h i (by simp [hi]))
theorem findSome_map {β γ : Type} (u : β → γ) : ∀ (l : List Nat) (f : Nat → Option β), (l.findSome? f).map u = l.findSome? fun i => (f i).map u
  | [], _ => rfl
  | x :: l, f => by
    simp only [List.findSome?_cons]
    cases f x with
    | some y => rfl
    | none => exact findSome_map u l f
theorem len_erase {l : List α} {i n : Nat} (hi : i < l.length) (h : l.length = n + 1) : (l.eraseIdx i).length = n := by
  rw [List.length_eraseIdx, if_pos hi]; omega
/-- One that must come ahead of one that is placed: no order. -/
theorem ordD_none (h0 : σ) : ∀ (n : Nat) (b r : List α), r.length = n → (∃ a ∈ b, ∃ y ∈ r, late y a = true) → ordD next late h0 n b r = none
  | 0, b, r, hl, ⟨a, _, y, hy, _⟩ => by
    rw [List.length_eq_zero_iff] at hl
    subst hl; simp at hy
  | n + 1, b, r, hl, ⟨a, ha, y, hy, hlate⟩ => by
    rw [ordD]
    split
    · refine findSome_none (fun i hi => ?_)
      have hi := List.mem_range.1 hi
      rw [List.getElem?_eq_getElem hi]
      simp only
      by_cases e : late r[i] a = true
      · -- it is placed now: not in time
        have hbad : ¬ inTimeL late (b ++ [r[i]]) := fun h => by
          have := (inTimeL_snoc.1 h).2 a ha
          rw [e] at this; cases this
        cases n with
        | zero => rw [ordD, if_neg (fun h => hbad h.2)]
        | succ n => rw [ordD, if_neg (fun h => hbad h.2)]
      · refine ordD_none h0 n (b ++ [r[i]]) (r.eraseIdx i) (len_erase hi hl) ⟨a, by simp [ha], y, ?_, hlate⟩
        obtain ⟨k, hk, rfl⟩ := List.mem_iff_getElem.1 hy
        have hki : k ≠ i := fun e' => e (by subst e'; exact hlate)
        exact List.mem_eraseIdx_iff_getElem.2 ⟨k, hk, hki, rfl⟩
    · rfl
theorem orders_same (h0 : σ) : ∀ (n : Nat) (b r : List α) (h : σ), r.length = n → fitL next h0 b = some h → inTimeL late b → (∀ a ∈ b, ∀ y ∈ r, late y a = false) → ordD next late h0 n b r = (ordP next late n h r).map (b ++ ·)
  | 0, b, r, h, _, hf, ht, _ => by
    rw [ordD, if_pos ⟨by rw [hf]; rfl, ht⟩, ordP]
    simp
  | n + 1, b, r, h, hl, hf, ht, hn => by
    rw [ordD, if_pos ⟨by rw [hf]; rfl, ht⟩, ordP, findSome_map]
    refine findSome_congr (fun i hi => ?_)
    have hi := List.mem_range.1 hi
    rw [List.getElem?_eq_getElem hi]
    simp only
    by_cases e : (r.eraseIdx i).any (fun y => late y r[i]) = true
    · rw [if_pos e]
      obtain ⟨y, hy, hly⟩ := List.any_eq_true.1 e
      rw [ordD_none h0 n (b ++ [r[i]]) (r.eraseIdx i) (len_erase hi hl) ⟨r[i], by simp, y, hy, hly⟩]
      rfl
    · rw [if_neg e]
      have ht2 : inTimeL late (b ++ [r[i]]) := inTimeL_snoc.2 ⟨ht, fun a ha => hn a ha r[i] (List.getElem_mem hi)⟩
      have hf2 := fitL_snoc (next := next) b h0 r[i]
      rw [hf, Option.bind_some] at hf2
      cases hx : next h r[i] with
      | none =>
        rw [hx] at hf2
        have hbad : ¬ ((fitL next h0 (b ++ [r[i]])).isSome = true ∧ inTimeL late (b ++ [r[i]])) := fun h => by rw [hf2] at h; exact absurd h.1 (by simp)
        cases n with
        | zero => rw [ordD, if_neg hbad]; rfl
        | succ n => rw [ordD, if_neg hbad]; rfl
      | some g =>
        rw [hx] at hf2
        rw [orders_same h0 n (b ++ [r[i]]) (r.eraseIdx i) g (len_erase hi hl) hf2 ht2 (fun a ha y hy => ?_)]
        · simp only [Option.map_map]
          congr 1
          funext z
          simp
        · rcases List.mem_append.1 ha with ha | ha
          · exact hn a ha y (List.mem_of_mem_eraseIdx hy)
          · rw [List.mem_singleton] at ha
            subst ha
            cases hc : late y r[i] with
            | false => rfl
            | true => exact absurd (List.any_eq_true.2 ⟨y, hy, hc⟩) e
end
section
variable {α σ : Type} {next : σ → α → Option σ} {late : α → α → Bool}
theorem perm_erase {l : List α} {i : Nat} (h : i < l.length) : (l[i] :: l.eraseIdx i).Perm l := by
  rw [List.eraseIdx_eq_take_drop_succ]
  conv => rhs; rw [← List.take_append_drop i l, List.drop_eq_getElem_cons h]
  exact List.perm_middle.symm
/-- What is found is an order of them, fits, and is in time. -/
theorem ordP_spec : ∀ (n : Nat) (h : σ) (l out : List α), l.length = n → ordP next late n h l = some out → out.Perm l ∧ (fitL next h out).isSome = true ∧ inTimeL late out
  | 0, h, l, out, hl, ho => by
    rw [ordP] at ho
    rw [List.length_eq_zero_iff] at hl
    subst hl
    cases ho
    exact ⟨List.Perm.refl _, rfl, List.Pairwise.nil⟩
  | n + 1, h, l, out, hl, ho => by
    rw [ordP] at ho
    obtain ⟨i, hi, hx⟩ := List.exists_of_findSome?_eq_some ho
    have hi := List.mem_range.1 hi
    rw [List.getElem?_eq_getElem hi] at hx
    simp only at hx
    split at hx
    · cases hx
    · rename_i hlate
      cases hn : next h l[i] with
      | none => rw [hn] at hx; cases hx
      | some g =>
        rw [hn] at hx
        simp only [Option.map_eq_some_iff] at hx
        obtain ⟨o2, h2, rfl⟩ := hx
        obtain ⟨p1, p2, p3⟩ := ordP_spec n g (l.eraseIdx i) o2 (len_erase hi hl) h2
        refine ⟨(p1.cons _).trans (perm_erase hi), by rw [fitL, hn]; exact p2, List.pairwise_cons.2 ⟨fun y hy => ?_, p3⟩⟩
        cases hc : late y l[i] with
        | false => rfl
        | true => exact absurd (List.any_eq_true.2 ⟨y, p1.mem_iff.1 hy, hc⟩) hlate
/-- Where there is one, one is found. -/
theorem ordP_some : ∀ (n : Nat) (h : σ) (l out : List α), l.length = n → out.Perm l → (fitL next h out).isSome = true → inTimeL late out → (ordP next late n h l).isSome = true
  | 0, h, l, out, _, _, _, _ => by rw [ordP]; rfl
  | n + 1, h, l, [], hl, hp, _, _ => by have := hp.length_eq; rw [hl] at this; simp at this
  | n + 1, h, l, x :: out, hl, hp, hf, ht => by
    rw [ordP, List.findSome?_isSome_iff]
    obtain ⟨i, hi, rfl⟩ := List.mem_iff_getElem.1 (hp.mem_iff.1 (List.mem_cons_self ..))
    refine ⟨i, List.mem_range.2 hi, ?_⟩
    rw [List.getElem?_eq_getElem hi]
    simp only
    have hp2 : out.Perm (l.eraseIdx i) := (hp.trans (perm_erase hi).symm).cons_inv
    have ht2 := List.pairwise_cons.1 ht
    rw [fitL] at hf
    cases hn : next h l[i] with
    | none => rw [hn] at hf; cases hf
    | some g =>
      rw [hn] at hf
      rw [if_neg (fun e => by
        obtain ⟨y, hy, hly⟩ := List.any_eq_true.1 e
        rw [ht2.1 y (hp2.mem_iff.2 hy)] at hly; cases hly)]
      simp only [Option.isSome_map]
      exact ordP_some n g _ out (len_erase hi hl) hp2 hf ht2.2
/-- Turned in any way, there is one or there is none. -/
theorem ordP_perm {n : Nat} {h : σ} {l l' : List α} (hl : l.length = n) (hp : l.Perm l') : (ordP next late n h l).isSome = (ordP next late n h l').isSome := by
  have hl' : l'.length = n := by rw [← hp.length_eq]; exact hl
  have key : ∀ {a b : List α}, a.length = n → b.length = n → a.Perm b → (ordP next late n h a).isSome = true → (ordP next late n h b).isSome = true := fun ha hb hab e => by
    obtain ⟨o, ho⟩ := Option.isSome_iff_exists.1 e
    obtain ⟨p1, p2, p3⟩ := ordP_spec n h _ o ha ho
    exact ordP_some n h _ o hb (p1.trans hab) p2 p3
  rw [Bool.eq_iff_iff]
  exact ⟨key hl hl' hp, key hl' hl hp.symm⟩
end
end Go.Proofs.YtngahblgicjoiaaGreatDoor
