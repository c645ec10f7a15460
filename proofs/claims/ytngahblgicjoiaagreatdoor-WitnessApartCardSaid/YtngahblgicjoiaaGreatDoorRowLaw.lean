/- Rows that rise by key: a row put where it belongs, and the document's way of it. -/
import Derived.Test.YtngahblgicjoiaaGreatDoorBase
namespace Go.Proofs.YtngahblgicjoiaaGreatDoor

structure RowD where
  key : ByteArray
  value : ByteArray
def encRw (r : RowD) : List Value := [.string r.key, .string r.value]
def rkey (r : RowD) : List UInt8 := r.key.data.toList
def RiseR (l : List RowD) : Prop := l.Pairwise fun a b => rkey a < rkey b
def placeR (k : List UInt8) (l : List RowD) : Nat := (l.takeWhile fun d => decide (rkey d < k)).length
def thereR (k : List UInt8) (l : List RowD) : Bool := match l[placeR k l]? with | some d => decide (rkey d = k) | none => false
def getR (k : List UInt8) (l : List RowD) : Option ByteArray := match l[placeR k l]? with | some d => if rkey d = k then some d.value else none | none => none
def putR (x : RowD) (l : List RowD) : List RowD := l.take (placeR (rkey x) l) ++ x :: l.drop (placeR (rkey x) l + if thereR (rkey x) l = true then 1 else 0)
/-- The document's: the rows behind, and whether the row is put. -/
def withGo (x : RowD) : Bool → List RowD → List RowD
  | true, [] => []
  | false, [] => [x]
  | true, d :: l => (if rkey d = rkey x then [] else [d]) ++ withGo x true l
  | false, d :: l => if rkey d < rkey x then d :: withGo x false l else x :: ((if rkey d = rkey x then [] else [d]) ++ withGo x true l)
theorem lt_irr (a : List UInt8) : ¬ a < a := List.lt_irrefl a
theorem lt_tr {a b c : List UInt8} (h : a < b) (k : b < c) : a < c := List.lt_trans h k
theorem withGo_true {x : RowD} : ∀ {l : List RowD}, (∀ d ∈ l, rkey d ≠ rkey x) → withGo x true l = l
  | [], _ => rfl
  | d :: l, h => by
    rw [withGo, if_neg (h d (by simp)), withGo_true (fun e he => h e (by simp [he]))]
    rfl
theorem lt_tri (a b : List UInt8) : a < b ∨ a = b ∨ b < a := by
  by_cases h1 : a < b
  · exact .inl h1
  · by_cases h2 : b < a
    · exact .inr (.inr h2)
    · exact .inr (.inl (List.le_antisymm (List.not_lt.1 h2) (List.not_lt.1 h1)))
theorem lt_of_not_lt {a b c : List UInt8} (h : ¬ a < b) (k : a < c) : b < c := by
  rcases lt_tri a b with e | e | e
  · exact absurd e h
  · rw [← e]; exact k
  · exact lt_tr e k
theorem with_put {x : RowD} : ∀ {l : List RowD}, RiseR l → withGo x false l = putR x l
  | [], _ => by simp [withGo, putR, placeR]
  | d :: l, h => by
    have hp := List.pairwise_cons.1 h
    by_cases hlt : rkey d < rkey x
    · have hpl : placeR (rkey x) (d :: l) = placeR (rkey x) l + 1 := by
        unfold placeR; rw [List.takeWhile_cons_of_pos (by simpa using hlt)]; rfl
      have hth : thereR (rkey x) (d :: l) = thereR (rkey x) l := by
        unfold thereR; rw [hpl, List.getElem?_cons_succ]
      rw [withGo, if_pos hlt, with_put hp.2]
      unfold putR
      rw [hpl, hth, List.take_succ_cons, show placeR (rkey x) l + 1 + (if thereR (rkey x) l = true then 1 else 0) = (placeR (rkey x) l + (if thereR (rkey x) l = true then 1 else 0)) + 1 from by omega, List.drop_succ_cons]
      rfl
    · have hpl : placeR (rkey x) (d :: l) = 0 := by
        unfold placeR; rw [List.takeWhile_cons_of_neg (by simpa using hlt)]; rfl
      have hne : ∀ e ∈ l, rkey e ≠ rkey x := fun e he hk => by
        have h1 := lt_of_not_lt hlt (hp.1 e he)
        rw [hk] at h1
        exact lt_irr _ h1
      rw [withGo, if_neg hlt, withGo_true hne]
      unfold putR thereR
      rw [hpl, List.getElem?_cons_zero]
      by_cases hk : rkey d = rkey x
      · simp [hk]
      · simp [hk]
theorem putR_rise {x : RowD} : ∀ {l : List RowD}, RiseR l → RiseR (putR x l)
  | l, h => by
    rw [← with_put h]
    have key : ∀ (l : List RowD), RiseR l → RiseR (withGo x false l) ∧ ∀ e ∈ withGo x false l, e = x ∨ e ∈ l := by
      intro l
      induction l with
      | nil => intro _; exact ⟨List.pairwise_singleton _ _, fun e he => .inl (by simpa [withGo] using he)⟩
      | cons d l ih =>
        intro h
        have hp := List.pairwise_cons.1 h
        by_cases hlt : rkey d < rkey x
        · rw [withGo, if_pos hlt]
          obtain ⟨i1, i2⟩ := ih hp.2
          refine ⟨List.pairwise_cons.2 ⟨fun e he => ?_, i1⟩, fun e he => ?_⟩
          · rcases i2 e he with rfl | he
            · exact hlt
            · exact hp.1 e he
          · rcases List.mem_cons.1 he with rfl | he
            · exact .inr (by simp)
            · exact (i2 e he).elim .inl (fun h => .inr (by simp [h]))
        · have hne : ∀ e ∈ l, rkey e ≠ rkey x := fun e he hk => by
            have h1 := lt_of_not_lt hlt (hp.1 e he)
            rw [hk] at h1
            exact lt_irr _ h1
          rw [withGo, if_neg hlt, withGo_true hne]
          by_cases hk : rkey d = rkey x
          · rw [if_pos hk]
            exact ⟨List.pairwise_cons.2 ⟨fun e he => by rw [← hk]; exact hp.1 e he, hp.2⟩, fun e he => (List.mem_cons.1 he).elim .inl (fun h => .inr (by simp [show e ∈ l by simpa using h]))⟩
          · rw [if_neg hk]
            have hxd : rkey x < rkey d := by
              rcases lt_tri (rkey d) (rkey x) with e | e | e
              · exact absurd e hlt
              · exact absurd e hk
              · exact e
            refine ⟨List.pairwise_cons.2 ⟨fun e he => ?_, h⟩, fun e he => (List.mem_cons.1 he).elim .inl (fun h => .inr h)⟩
            rcases List.mem_cons.1 (show e ∈ d :: l from he) with rfl | he
            · exact hxd
            · exact lt_tr hxd (hp.1 e he)
    exact (key l h).1
end Go.Proofs.YtngahblgicjoiaaGreatDoor
