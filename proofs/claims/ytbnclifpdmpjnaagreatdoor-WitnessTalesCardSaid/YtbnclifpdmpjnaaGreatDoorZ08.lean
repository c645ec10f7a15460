/- What a history tells of its names: the reading of the program and that of the document, in plain words, are one (from_eq). -/
import Derived.Test.YtbnclifpdmpjnaaGreatDoorZ06
namespace Go.Proofs.YtbnclifpdmpjnaaGreatDoor
structure TaleD where
  kind : Int
  index : Int
  cl : Int
  nm : Int
  acts : List ActD
  commit : Bool
  reads : List Rd
def TaleD.name (x : TaleD) : Int × Int := (x.cl, x.nm)
def isT (k : Int) (n : Int × Int) (x : TaleD) : Bool := decide (x.kind = k) && decide (x.name = n)
theorem isT_iff {k : Int} {n : Int × Int} {x : TaleD} : isT k n x = true ↔ x.kind = k ∧ x.name = n := by simp [isT]
-- the document
def firstT (l : List TaleD) (k : Int) (n : Int × Int) : Option Nat := l.findIdx? (isT k n)
def sameT (d x : TaleD) : Bool := decide (x.commit = d.commit) && decide (x.reads = d.reads)
def leastT (n : Int × Int) (m : Int) (l : List TaleD) : Int := l.foldl (fun m x => if isT 6 n x then min m x.index else m) m
def indexT (l : List TaleD) (n : Int × Int) : Option (Int × TaleD) :=
  match l.find? (isT 6 n) with
  | none => none
  | some d => if l.all (fun x => !isT 6 n x || sameT d x) then some (leastT n d.index l, d) else none
def repliedT (l : List TaleD) (x : TaleD) : Bool :=
  decide (x.kind ≠ 2) || match indexT l x.name with
    | none => false
    | some (_, d) => decide (d.commit = x.commit) && (!d.commit || decide (d.reads = x.reads))
def sooner (k : Int) (p : Int × StepD) : Bool := decide (p.1 < k)
def putT (p : Int × StepD) (l : List (Int × StepD)) : List (Int × StepD) := l.take (l.takeWhile (sooner p.1)).length ++ p :: l.drop (l.takeWhile (sooner p.1)).length
def clashT (l : List TaleD) (n : Int × Int) (k : Int) (y : TaleD) : Bool :=
  decide (y.kind = 6) && decide (y.name ≠ n) && match indexT l y.name with
    | none => false
    | some (o, _) => decide (o = k)
def actsAt (l : List TaleD) (i : Nat) : List ActD := match l[i]? with
  | none => []
  | some x => x.acts
def timeT (l : List TaleD) (k : Int) (n : Int × Int) : Int := match firstT l k n with
  | none => 0
  | some i => (i : Int) + 1
def stepT (l : List TaleD) (n : Int × Int) (d : TaleD) (c : Nat) : StepD := ⟨n.1, n.2, actsAt l c, d.reads, (c : Int) + 1, timeT l 2 n⟩
def fromOne (l : List TaleD) (i : Nat) (x : TaleD) (out : List (Int × StepD)) : Option (List (Int × StepD)) :=
  if ¬ (x.kind = 6 ∧ firstT l 6 x.name = some i) then some out else
  match indexT l x.name with
  | none => none
  | some (k, d) =>
    if l.any (clashT l x.name k) then none else
    if d.commit = false then some out else
    match firstT l 1 x.name with
    | none => none
    | some c => some (putT (k, stepT l x.name d c) out)
def fromAt (l : List TaleD) : Nat → Option (List (Int × StepD))
  | 0 => some []
  | i + 1 => match fromAt l i with
    | none => none
    | some out => match l[i]? with
      | none => none
      | some x => fromOne l i x out
def refFromD (l : List TaleD) : Option (List StepD) := if l.all (repliedT l) then (fromAt l l.length).map (·.map (·.2)) else none
-- the program
structure KnD where
  cl : Int
  nm : Int
  index : Int
  decided : Bool
  commit : Bool
  reads : List Rd
  acts : List ActD
  called : Int
  answered : Int
def KnD.new (n : Int × Int) : KnD := ⟨n.1, n.2, 0, false, false, [], [], 0, 0⟩
def KnD.agrees (k : KnD) (x : TaleD) : Bool := !k.decided || (decide (k.commit = x.commit) && decide (k.reads = x.reads))
def KnD.tell (k : KnD) (i : Nat) (x : TaleD) : KnD :=
  if x.kind = 1 then (if k.called = 0 then { k with called := (i : Int) + 1, acts := x.acts } else k)
  else if x.kind = 2 then (if k.answered = 0 then { k with answered := (i : Int) + 1 } else k)
  else if x.kind = 6 then { k with index := if k.decided = false ∨ x.index < k.index then x.index else k.index, decided := true, commit := x.commit, reads := x.reads }
  else k
def counts (x : TaleD) : Bool := decide (x.kind = 1) || decide (x.kind = 2) || decide (x.kind = 6)
def knowD (l : List TaleD) (n : Int × Int) : Nat → KnD
  | 0 => KnD.new n
  | k + 1 => match l[k]? with
    | none => knowD l n k
    | some x => if x.name = n then (knowD l n k).tell k x else knowD l n k
def namesD (l : List TaleD) : Nat → List (Int × Int)
  | 0 => []
  | k + 1 => match l[k]? with
    | none => namesD l k
    | some x => if counts x = true ∧ x.name ∉ namesD l k then namesD l k ++ [x.name] else namesD l k
def badD (l : List TaleD) : Nat → Bool
  | 0 => false
  | k + 1 => match l[k]? with
    | none => badD l k
    | some x => badD l k || (decide (x.kind = 6) && !(knowD l x.name k).agrees x)
def saidD (k : KnD) (x : TaleD) : Bool := decide (x.kind ≠ 2) || (k.decided && (decide (k.commit = x.commit) && (!k.commit || decide (k.reads = x.reads))))
def KnD.step (k : KnD) : StepD := ⟨k.cl, k.nm, k.acts, k.reads, k.called, k.answered⟩
def outD (q : List KnD) : Nat → Option (List StepD)
  | 0 => some []
  | i + 1 => match outD q i with
    | none => none
    | some out => match q[i]? with
      | none => none
      | some k =>
        if (0 < i ∧ (q[i - 1]?.map (·.index)) = some k.index) ∨ (k.commit = true ∧ k.called = 0) then none
        else if k.commit = true then some (out ++ [k.step]) else some out
-- what is known, told at once
theorem first_snoc (l : List TaleD) (x : TaleD) (k : Int) (n : Int × Int) : firstT (l ++ [x]) k n = (firstT l k n).or (if isT k n x = true then some l.length else none) := by
  unfold firstT
  rw [List.findIdx?_append]
  congr 1
  by_cases h : isT k n x = true
  · simp [List.findIdx?_cons, h]
  · simp [List.findIdx?_cons, h]
theorem first_lt {l : List TaleD} {k : Int} {n : Int × Int} {c : Nat} (h : firstT l k n = some c) : ∃ x, l[c]? = some x ∧ isT k n x = true := by
  unfold firstT at h
  obtain ⟨hl, hp, _⟩ := List.findIdx?_eq_some_iff_getElem.1 h
  exact ⟨_, List.getElem?_eq_getElem hl, hp⟩
theorem first_some {l : List TaleD} {k : Int} {n : Int × Int} {x : TaleD} (hx : x ∈ l) (h : isT k n x = true) : ∃ c, firstT l k n = some c := by
  unfold firstT
  cases he : l.findIdx? (isT k n) with
  | some c => exact ⟨c, rfl⟩
  | none => have := List.findIdx?_eq_none_iff.1 he x hx; rw [h] at this; cases this
theorem take_snoc {α : Type} {l : List α} {k : Nat} {x : α} (h : l[k]? = some x) : l.take (k + 1) = l.take k ++ [x] := by rw [List.take_add_one, h]; rfl
theorem time_nn (l : List TaleD) (k : Int) (n : Int × Int) : 0 ≤ timeT l k n ∧ (timeT l k n = 0 ↔ firstT l k n = none) := by
  unfold timeT
  cases firstT l k n with
  | none => simp
  | some c => simp; omega
theorem time_snoc {l : List TaleD} {x : TaleD} {i : Nat} (hi : l.length = i) (k : Int) (n : Int × Int) : timeT (l ++ [x]) k n = if timeT l k n = 0 ∧ isT k n x = true then (i : Int) + 1 else timeT l k n := by
  have h := time_nn l k n
  unfold timeT at h ⊢
  rw [first_snoc]
  cases hf : firstT l k n with
  | some c => rw [hf] at h; simp only at h ⊢; simp; omega
  | none => by_cases hx : isT k n x = true <;> simp [hx, hi]
structure KnAt (l : List TaleD) (n : Int × Int) (i : Nat) (k : KnD) : Prop where
  cl : k.cl = n.1
  nm : k.nm = n.2
  called : k.called = timeT (l.take i) 1 n
  answered : k.answered = timeT (l.take i) 2 n
  acts : k.acts = match firstT (l.take i) 1 n with
    | none => []
    | some c => actsAt l c
  decided : k.decided = (l.take i).any (isT 6 n)
  least : k.decided = true → (∃ x ∈ l.take i, isT 6 n x = true ∧ x.index = k.index) ∧ ∀ x ∈ l.take i, isT 6 n x = true → k.index ≤ x.index
  last : k.decided = true → ∃ x ∈ l.take i, isT 6 n x = true ∧ x.commit = k.commit ∧ x.reads = k.reads
theorem tell_else {k : KnD} {i : Nat} {x : TaleD} (h1 : x.kind ≠ 1) (h2 : x.kind ≠ 2) (h6 : x.kind ≠ 6) : k.tell i x = k := by
  unfold KnD.tell; rw [if_neg h1, if_neg h2, if_neg h6]
theorem KnAt.next {l : List TaleD} {n : Int × Int} {i : Nat} {k : KnD} {x : TaleD} (h : KnAt l n i k) (hx : l[i]? = some x) : KnAt l n (i + 1) (if x.name = n then k.tell i x else k) := by
  obtain ⟨c1, c2, c3, c4, c5, c6, c7, c8⟩ := h
  have hi : (l.take i).length = i := by have := (List.getElem?_eq_some_iff.1 hx).1; rw [List.length_take]; omega
  have nn1 := time_nn (l.take i) 1 n
  have nn2 := time_nn (l.take i) 2 n
  have hmem : ∀ y, y ∈ l.take (i + 1) ↔ y ∈ l.take i ∨ y = x := fun y => by rw [take_snoc hx]; simp
  have mono1 : ∀ {P : TaleD → Prop}, (∃ y ∈ l.take i, P y) → ∃ y ∈ l.take (i + 1), P y := fun ⟨y, h1, h2⟩ => ⟨y, (hmem y).2 (.inl h1), h2⟩
  have at6 : x.kind ≠ 6 ∨ x.name ≠ n → ((l.take (i + 1)).any (isT 6 n) = (l.take i).any (isT 6 n)) ∧ (k.decided = true → (∃ y ∈ l.take (i + 1), isT 6 n y = true ∧ y.index = k.index) ∧ ∀ y ∈ l.take (i + 1), isT 6 n y = true → k.index ≤ y.index) ∧ (k.decided = true → ∃ y ∈ l.take (i + 1), isT 6 n y = true ∧ y.commit = k.commit ∧ y.reads = k.reads) := by
    intro h
    have hnx : ¬ isT 6 n x = true := by rw [isT_iff]; rcases h with h | h <;> simp [h]
    refine ⟨by rw [take_snoc hx, List.any_append]; simp [hnx], fun hd => ⟨mono1 (c7 hd).1, fun y hy hyt => ?_⟩, fun hd => mono1 (c8 hd)⟩
    rcases (hmem y).1 hy with h | rfl
    · exact (c7 hd).2 y h hyt
    · exact absurd hyt hnx
  have tm : ∀ q, x.kind ≠ q ∨ x.name ≠ n → timeT (l.take (i + 1)) q n = timeT (l.take i) q n ∧ firstT (l.take (i + 1)) q n = firstT (l.take i) q n := by
    intro q h
    have hnx : ¬ isT q n x = true := by rw [isT_iff]; rcases h with h | h <;> simp [h]
    have : firstT (l.take (i + 1)) q n = firstT (l.take i) q n := by rw [take_snoc hx, first_snoc, if_neg hnx]; simp
    exact ⟨by unfold timeT; rw [this], this⟩
  by_cases hn : x.name = n
  · rw [if_pos hn]
    by_cases h1 : x.kind = 1
    · have A6 := at6 (.inl (by omega))
      have T2 := tm 2 (.inl (by omega))
      have hT : isT 1 n x = true := isT_iff.2 ⟨h1, hn⟩
      have T1 : timeT (l.take (i + 1)) 1 n = if k.called = 0 then (i : Int) + 1 else timeT (l.take i) 1 n := by
        rw [take_snoc hx, time_snoc hi, c3]; simp [hT]
      unfold KnD.tell
      rw [if_pos h1]
      by_cases hc : k.called = 0
      · rw [if_pos hc]
        refine ⟨c1, c2, ?_, c4.trans T2.1.symm, ?_, c6.trans A6.1.symm, A6.2.1, A6.2.2⟩
        · rw [T1, if_pos hc]
        · have hf : firstT (l.take i) 1 n = none := nn1.2.1 (c3 ▸ hc)
          rw [take_snoc hx, first_snoc, hf, if_pos hT, hi]
          simp [actsAt, hx]
      · rw [if_neg hc]
        refine ⟨c1, c2, ?_, c4.trans T2.1.symm, ?_, c6.trans A6.1.symm, A6.2.1, A6.2.2⟩
        · rw [T1, if_neg hc, c3]
        · have hf : firstT (l.take i) 1 n ≠ none := fun e => hc (c3.trans (nn1.2.2 e))
          rw [c5, take_snoc hx, first_snoc]
          cases hf2 : firstT (l.take i) 1 n with
          | none => exact absurd hf2 hf
          | some c => simp
    · have T1 := tm 1 (.inl h1)
      have ha : k.acts = match firstT (l.take (i + 1)) 1 n with
        | none => []
        | some c => actsAt l c := by rw [T1.2]; exact c5
      by_cases h2 : x.kind = 2
      · have A6 := at6 (.inl (by omega))
        have hT : isT 2 n x = true := isT_iff.2 ⟨h2, hn⟩
        have T2 : timeT (l.take (i + 1)) 2 n = if k.answered = 0 then (i : Int) + 1 else timeT (l.take i) 2 n := by
          rw [take_snoc hx, time_snoc hi, c4]; simp [hT]
        unfold KnD.tell
        rw [if_neg h1, if_pos h2]
        by_cases hc : k.answered = 0
        · rw [if_pos hc]
          exact ⟨c1, c2, c3.trans T1.1.symm, by rw [T2, if_pos hc], ha, c6.trans A6.1.symm, A6.2.1, A6.2.2⟩
        · rw [if_neg hc]
          exact ⟨c1, c2, c3.trans T1.1.symm, by rw [T2, if_neg hc, c4], ha, c6.trans A6.1.symm, A6.2.1, A6.2.2⟩
      · have T2 := tm 2 (.inl h2)
        by_cases h6 : x.kind = 6
        · have hT : isT 6 n x = true := isT_iff.2 ⟨h6, hn⟩
          unfold KnD.tell
          rw [if_neg h1, if_neg h2, if_pos h6]
          refine ⟨c1, c2, c3.trans T1.1.symm, c4.trans T2.1.symm, ha, ?_, fun _ => ?_, fun _ => ⟨x, (hmem x).2 (.inr rfl), hT, rfl, rfl⟩⟩
          · rw [take_snoc hx, List.any_append]; simp [hT]
          · by_cases hd : k.decided = false ∨ x.index < k.index
            · simp only [hd, if_true]
              refine ⟨⟨x, (hmem x).2 (.inr rfl), hT, rfl⟩, fun y hy hyt => ?_⟩
              rcases (hmem y).1 hy with h | rfl
              · rcases hd with hd | hd
                · rw [hd] at c6
                  have := List.any_eq_false.1 c6.symm y h
                  exact absurd hyt this
                · have hdt : k.decided = true := by rw [c6]; exact List.any_eq_true.2 ⟨y, h, hyt⟩
                  have := (c7 hdt).2 y h hyt
                  omega
              · exact Int.le_refl _
            · simp only [hd, if_false]
              have hdt : k.decided = true := by
                cases hk : k.decided with
                | true => rfl
                | false => exact absurd (.inl hk) hd
              refine ⟨mono1 (c7 hdt).1, fun y hy hyt => ?_⟩
              rcases (hmem y).1 hy with h | rfl
              · exact (c7 hdt).2 y h hyt
              · have : ¬ y.index < k.index := fun e => hd (.inr e)
                omega
        · rw [tell_else h1 h2 h6]
          have A6 := at6 (.inl h6)
          exact ⟨c1, c2, c3.trans T1.1.symm, c4.trans T2.1.symm, ha, c6.trans A6.1.symm, A6.2.1, A6.2.2⟩
  · rw [if_neg hn]
    have A6 := at6 (.inr hn)
    exact ⟨c1, c2, c3.trans (tm 1 (.inr hn)).1.symm, c4.trans (tm 2 (.inr hn)).1.symm, by rw [(tm 1 (.inr hn)).2]; exact c5, c6.trans A6.1.symm, A6.2.1, A6.2.2⟩
theorem know_at (l : List TaleD) (n : Int × Int) : ∀ i, i ≤ l.length → KnAt l n i (knowD l n i)
  | 0, _ => ⟨rfl, rfl, by simp [knowD, KnD.new, timeT, firstT], by simp [knowD, KnD.new, timeT, firstT], by simp [knowD, KnD.new, firstT], by simp [knowD, KnD.new], fun h => by simp [knowD, KnD.new] at h, fun h => by simp [knowD, KnD.new] at h⟩
  | i + 1, h => by
    have hx : l[i]? = some l[i] := List.getElem?_eq_getElem (by omega)
    have := (know_at l n i (by omega)).next hx
    unfold knowD
    rw [hx]
    exact this
theorem names_at (l : List TaleD) : ∀ i, i ≤ l.length → (namesD l i).Nodup ∧ ∀ n, n ∈ namesD l i ↔ ∃ x ∈ l.take i, counts x = true ∧ x.name = n
  | 0, _ => ⟨by simp [namesD], fun n => by simp [namesD]⟩
  | i + 1, h => by
    have hx : l[i]? = some l[i] := List.getElem?_eq_getElem (by omega)
    obtain ⟨h1, h2⟩ := names_at l i (by omega)
    obtain ⟨x, hxe⟩ : ∃ x, l[i]? = some x := ⟨_, hx⟩
    unfold namesD
    rw [hxe, take_snoc hxe]
    simp only
    split
    · rename_i hc
      refine ⟨?_, fun n => ?_⟩
      · rw [List.nodup_append]
        exact ⟨h1, by simp, fun a ha b hb => by rw [List.mem_singleton] at hb; subst hb; intro e; subst e; exact hc.2 ha⟩
      · rw [List.mem_append, h2]
        constructor
        · rintro (⟨y, hy, hyc⟩ | hn)
          · exact ⟨y, by simp [hy], hyc⟩
          · rw [List.mem_singleton] at hn; exact ⟨x, by simp, hc.1, hn.symm⟩
        · rintro ⟨y, hy, hyc, hyn⟩
          rcases List.mem_append.1 hy with h | h
          · exact .inl ⟨y, h, hyc, hyn⟩
          · rw [List.mem_singleton] at h; subst h; exact .inr (by simp [hyn])
    · rename_i hc
      refine ⟨h1, fun n => ?_⟩
      rw [h2]
      constructor
      · rintro ⟨y, hy, hyc⟩; exact ⟨y, by simp [hy], hyc⟩
      · rintro ⟨y, hy, hyc, hyn⟩
        rcases List.mem_append.1 hy with h | h
        · exact ⟨y, h, hyc, hyn⟩
        · rw [List.mem_singleton] at h; subst h
          have : y.name ∈ namesD l i := Classical.byContradiction fun hh => hc ⟨hyc, hh⟩
          rw [hyn, h2] at this
          exact this
def OneT (l : List TaleD) : Prop := ∀ n x y, x ∈ l → y ∈ l → isT 6 n x = true → isT 6 n y = true → x.commit = y.commit ∧ x.reads = y.reads
theorem bad_at (l : List TaleD) : ∀ i, i ≤ l.length → (badD l i = false ↔ OneT (l.take i))
  | 0, _ => by simp [badD, OneT]
  | i + 1, h => by
    have hx : l[i]? = some l[i] := List.getElem?_eq_getElem (by omega)
    obtain ⟨x, hxe⟩ : ∃ x, l[i]? = some x := ⟨_, hx⟩
    have ih := bad_at l i (by omega)
    have K := know_at l x.name i (by omega)
    unfold badD
    rw [hxe, take_snoc hxe]
    simp only [Bool.or_eq_false_iff, ih]
    constructor
    · rintro ⟨h1, h2⟩
      have key : ∀ y, y ∈ l.take i → isT 6 x.name y = true → x.kind = 6 → y.commit = x.commit ∧ y.reads = x.reads := by
        intro y hy hyt hk
        have hd : (knowD l x.name i).decided = true := by rw [K.decided]; exact List.any_eq_true.2 ⟨y, hy, hyt⟩
        obtain ⟨z, hz, hzt, hz1, hz2⟩ := K.last hd
        have e := h1 _ y z hy hz hyt hzt
        simp only [hk, decide_true, Bool.true_and, Bool.not_eq_false', KnD.agrees, hd, Bool.not_true, Bool.false_or, Bool.and_eq_true, decide_eq_true_eq] at h2
        exact ⟨e.1.trans (hz1.trans h2.1), e.2.trans (hz2.trans h2.2)⟩
      intro n y z hy hz hyt hzt
      rcases List.mem_append.1 hy with a | a <;> rcases List.mem_append.1 hz with b | b
      · exact h1 n y z a b hyt hzt
      · rw [List.mem_singleton] at b; subst b
        have e := isT_iff.1 hzt
        rw [← e.2] at hyt
        exact key y a hyt e.1
      · rw [List.mem_singleton] at a; subst a
        have e := isT_iff.1 hyt
        rw [← e.2] at hzt
        have := key z b hzt e.1
        exact ⟨this.1.symm, this.2.symm⟩
      · rw [List.mem_singleton] at a b; subst a; subst b; exact ⟨rfl, rfl⟩
    · intro hO
      refine ⟨fun n y z hy hz => hO n y z (by simp [hy]) (by simp [hz]), ?_⟩
      by_cases hk : x.kind = 6
      · simp only [hk, decide_true, Bool.true_and, Bool.not_eq_false']
        unfold KnD.agrees
        cases hd : (knowD l x.name i).decided with
        | false => rfl
        | true =>
          obtain ⟨z, hz, hzt, hz1, hz2⟩ := K.last hd
          have := hO x.name z x (by simp [hz]) (by simp) hzt (isT_iff.2 ⟨hk, rfl⟩)
          simp [← hz1, ← hz2, this]
      · simp [hk]
-- the document's index
theorem least_at (n : Int × Int) : ∀ (l : List TaleD) (m : Int), (leastT n m l = m ∨ ∃ x ∈ l, isT 6 n x = true ∧ x.index = leastT n m l) ∧ leastT n m l ≤ m ∧ ∀ x ∈ l, isT 6 n x = true → leastT n m l ≤ x.index
  | [], m => ⟨.inl rfl, Int.le_refl _, fun x hx => by cases hx⟩
  | y :: l, m => by
    have e : leastT n m (y :: l) = leastT n (if isT 6 n y then min m y.index else m) l := rfl
    obtain ⟨h1, h2, h3⟩ := least_at n l (if isT 6 n y then min m y.index else m)
    rw [e]
    by_cases hy : isT 6 n y = true
    · rw [if_pos hy] at h1 h2 h3 ⊢
      refine ⟨?_, by omega, fun x hx hxt => ?_⟩
      · rcases h1 with h | ⟨x, hx, hxt, hxi⟩
        · by_cases hm : m ≤ y.index
          · left; omega
          · right; exact ⟨y, by simp, hy, by omega⟩
        · exact .inr ⟨x, by simp [hx], hxt, hxi⟩
      · rcases List.mem_cons.1 hx with rfl | hx
        · omega
        · exact h3 x hx hxt
    · rw [if_neg hy] at h1 h2 h3 ⊢
      refine ⟨?_, h2, fun x hx hxt => ?_⟩
      · rcases h1 with h | ⟨x, hx, hxt, hxi⟩
        · exact .inl h
        · exact .inr ⟨x, by simp [hx], hxt, hxi⟩
      · rcases List.mem_cons.1 hx with rfl | hx
        · exact absurd hxt hy
        · exact h3 x hx hxt
abbrev kn (l : List TaleD) (n : Int × Int) : KnD := knowD l n l.length
theorem kn_at (l : List TaleD) (n : Int × Int) : KnAt l n l.length (kn l n) := know_at l n _ (Nat.le_refl _)
theorem kn_dec (l : List TaleD) (n : Int × Int) : (kn l n).decided = l.any (isT 6 n) := by have := (kn_at l n).decided; rwa [List.take_length] at this
theorem index_none {l : List TaleD} {n : Int × Int} (h : (kn l n).decided = false) : indexT l n = none := by
  rw [kn_dec] at h
  unfold indexT
  rw [List.find?_eq_none.2 (fun x hx => by have := List.any_eq_false.1 h x hx; simpa using this)]
theorem index_one {l : List TaleD} (hO : OneT l) {n : Int × Int} (h : (kn l n).decided = true) : ∃ d, indexT l n = some ((kn l n).index, d) ∧ d.commit = (kn l n).commit ∧ d.reads = (kn l n).reads := by
  have K := kn_at l n
  have hL := K.least h
  obtain ⟨z, hz, hzt, hz1, hz2⟩ := K.last h
  rw [List.take_length] at hL hz
  rw [kn_dec] at h
  cases hf : l.find? (isT 6 n) with
  | none =>
    obtain ⟨y, hy, hyt⟩ := List.any_eq_true.1 h
    exact absurd hyt (List.find?_eq_none.1 hf y hy)
  | some d =>
    have hdm := List.mem_of_find?_eq_some hf
    have hdt := List.find?_some hf
    have hal : l.all (fun x => !isT 6 n x || sameT d x) = true := by
      rw [List.all_eq_true]
      intro x hx
      by_cases hxt : isT 6 n x = true
      · have := hO n x d hx hdm hxt hdt
        simp [hxt, sameT, this.1, this.2]
      · simp [hxt]
    have e := hO n d z hdm hz hdt hzt
    refine ⟨d, ?_, e.1.trans hz1, e.2.trans hz2⟩
    unfold indexT
    simp only [hf, hal, if_true]
    obtain ⟨l1, l2, l3⟩ := least_at n l d.index
    obtain ⟨⟨x, hx, hxt, hxi⟩, hall⟩ := hL
    have a1 := l3 x hx hxt
    have a2 : (kn l n).index ≤ leastT n d.index l := by
      rcases l1 with h1 | ⟨y, hy, hyt, hyi⟩
      · rw [h1]; exact hall d hdm hdt
      · rw [← hyi]; exact hall y hy hyt
    have : leastT n d.index l = (kn l n).index := by omega
    rw [this]
theorem replied_one {l : List TaleD} (hO : OneT l) (x : TaleD) : repliedT l x = saidD (kn l x.name) x := by
  unfold repliedT saidD
  cases hd : (kn l x.name).decided with
  | false => rw [index_none hd]; simp
  | true =>
    obtain ⟨d, he, h1, h2⟩ := index_one hO hd
    rw [he]; simp [h1, h2]
def failN (l : List TaleD) (n : Int × Int) : Prop :=
  match indexT l n with
  | none => True
  | some (k, d) => l.any (clashT l n k) = true ∨ (d.commit = true ∧ firstT l 1 n = none)
def goesN (l : List TaleD) (i : Nat) (x : TaleD) : Prop := x.kind = 6 ∧ firstT l 6 x.name = some i
theorem one_none {l : List TaleD} {i : Nat} {x : TaleD} {out : List (Int × StepD)} : fromOne l i x out = none ↔ goesN l i x ∧ failN l x.name := by
  unfold fromOne goesN failN
  by_cases h : x.kind = 6 ∧ firstT l 6 x.name = some i
  · rw [if_neg (fun hh => hh h)]
    cases hi : indexT l x.name with
    | none => simp [h]
    | some p =>
      obtain ⟨k, d⟩ := p
      simp only [h, true_and]
      by_cases hc : l.any (clashT l x.name k) = true
      · simp [hc]
      · rw [if_neg hc]
        cases hd : d.commit with
        | false => simp [hc]
        | true =>
          cases hf : firstT l 1 x.name with
          | none => simp
          | some c => simp [hc]
  · rw [if_pos h]; simp [h]
theorem from_none (l : List TaleD) : ∀ k, k ≤ l.length → (fromAt l k = none ↔ ∃ i x, i < k ∧ l[i]? = some x ∧ goesN l i x ∧ failN l x.name)
  | 0, _ => by simp [fromAt]
  | k + 1, h => by
    have hx : l[k]? = some l[k] := List.getElem?_eq_getElem (by omega)
    obtain ⟨x, hxe⟩ : ∃ x, l[k]? = some x := ⟨_, hx⟩
    have ih := from_none l k (by omega)
    unfold fromAt
    cases hf : fromAt l k with
    | none =>
      obtain ⟨i, y, hi, hy, hg⟩ := ih.1 hf
      exact ⟨fun _ => ⟨i, y, by omega, hy, hg⟩, fun _ => rfl⟩
    | some out =>
      rw [hxe]
      simp only
      rw [one_none]
      constructor
      · rintro ⟨h1, h2⟩; exact ⟨k, x, by omega, hxe, h1, h2⟩
      · rintro ⟨i, y, hi, hy, hg⟩
        by_cases e : i = k
        · subst e; rw [hxe] at hy; cases hy; exact hg
        · have := ih.2 ⟨i, y, by omega, hy, hg⟩
          rw [hf] at this; cases this
theorem from_none' (l : List TaleD) : fromAt l l.length = none ↔ ∃ n, (kn l n).decided = true ∧ failN l n := by
  rw [from_none l _ (Nat.le_refl _)]
  constructor
  · rintro ⟨i, x, hi, hx, hg, hf⟩
    refine ⟨x.name, ?_, hf⟩
    rw [kn_dec]
    exact List.any_eq_true.2 ⟨x, List.mem_of_getElem? hx, isT_iff.2 ⟨hg.1, rfl⟩⟩
  · rintro ⟨n, hd, hf⟩
    rw [kn_dec] at hd
    obtain ⟨y, hy, hyt⟩ := List.any_eq_true.1 hd
    obtain ⟨c, hc⟩ := first_some hy hyt
    obtain ⟨x, hx, hxt⟩ := first_lt hc
    have e := isT_iff.1 hxt
    exact ⟨c, x, (List.getElem?_eq_some_iff.1 hx).1, hx, ⟨e.1, by rw [e.2]; exact hc⟩, by rw [e.2]; exact hf⟩
theorem from_bad {l : List TaleD} (h : ¬ OneT l) : fromAt l l.length = none := by
  unfold OneT at h
  simp only [Classical.not_forall] at h
  obtain ⟨n, x, y, hx, hy, hxt, hyt, hne⟩ := h
  refine (from_none' l).2 ⟨n, by rw [kn_dec]; exact List.any_eq_true.2 ⟨x, hx, hxt⟩, ?_⟩
  have : indexT l n = none := by
    unfold indexT
    cases hf : l.find? (isT 6 n) with
    | none => rfl
    | some d =>
      simp only
      rw [if_neg]
      intro hal
      have hal := List.all_eq_true.1 hal
      have a := hal x hx; have b := hal y hy
      simp only [hxt, hyt, Bool.not_true, Bool.false_or, sameT, Bool.and_eq_true, decide_eq_true_eq] at a b
      exact hne ⟨a.1.trans b.1.symm, a.2.trans b.2.symm⟩
  unfold failN
  rw [this]; trivial
theorem clash_one {l : List TaleD} (hO : OneT l) (n : Int × Int) (k : Int) : l.any (clashT l n k) = true ↔ ∃ m, m ≠ n ∧ (kn l m).decided = true ∧ (kn l m).index = k := by
  rw [List.any_eq_true]
  constructor
  · rintro ⟨y, hy, hc⟩
    unfold clashT at hc
    simp only [Bool.and_eq_true, decide_eq_true_eq] at hc
    obtain ⟨⟨h1, h2⟩, h3⟩ := hc
    have hd : (kn l y.name).decided = true := by rw [kn_dec]; exact List.any_eq_true.2 ⟨y, hy, isT_iff.2 ⟨h1, rfl⟩⟩
    obtain ⟨d, he, _⟩ := index_one hO hd
    rw [he] at h3
    exact ⟨y.name, h2, hd, by simpa using h3⟩
  · rintro ⟨m, hm, hd, hk⟩
    have hd2 := hd
    rw [kn_dec] at hd2
    obtain ⟨y, hy, hyt⟩ := List.any_eq_true.1 hd2
    have e := isT_iff.1 hyt
    obtain ⟨d, he, _⟩ := index_one hO hd
    refine ⟨y, hy, ?_⟩
    unfold clashT
    rw [e.2, he]
    simp [e.1, hm, hk]
theorem called_none (l : List TaleD) (n : Int × Int) : (kn l n).called = 0 ↔ firstT l 1 n = none := by
  have := (kn_at l n).called
  rw [List.take_length] at this
  rw [this]; exact (time_nn l 1 n).2
theorem fail_one {l : List TaleD} (hO : OneT l) {n : Int × Int} (hd : (kn l n).decided = true) : failN l n ↔ (∃ m, m ≠ n ∧ (kn l m).decided = true ∧ (kn l m).index = (kn l n).index) ∨ ((kn l n).commit = true ∧ (kn l n).called = 0) := by
  obtain ⟨d, he, h1, _⟩ := index_one hO hd
  unfold failN
  rw [he]
  simp only
  rw [clash_one hO, h1, called_none]
def decN (l : List TaleD) : Nat → List (Int × Int)
  | 0 => []
  | k + 1 => match l[k]? with
    | none => decN l k
    | some x => if x.kind = 6 ∧ firstT l 6 x.name = some k then decN l k ++ [x.name] else decN l k
theorem dec_at (l : List TaleD) : ∀ k, k ≤ l.length → (decN l k).Nodup ∧ ∀ n, n ∈ decN l k ↔ ∃ c, c < k ∧ firstT l 6 n = some c
  | 0, _ => ⟨by simp [decN], fun n => by simp [decN]⟩
  | k + 1, h => by
    have hx : l[k]? = some l[k] := List.getElem?_eq_getElem (by omega)
    obtain ⟨x, hxe⟩ : ∃ x, l[k]? = some x := ⟨_, hx⟩
    obtain ⟨h1, h2⟩ := dec_at l k (by omega)
    unfold decN
    rw [hxe]
    simp only
    split
    · rename_i hc
      refine ⟨?_, fun n => ?_⟩
      · rw [List.nodup_append]
        refine ⟨h1, by simp, fun a ha b hb => ?_⟩
        rw [List.mem_singleton] at hb; subst hb
        intro e; subst e
        obtain ⟨c, hck, hcf⟩ := (h2 _).1 ha
        rw [hc.2] at hcf; cases hcf; omega
      · rw [List.mem_append, h2, List.mem_singleton]
        constructor
        · rintro (⟨c, hck, hcf⟩ | rfl)
          · exact ⟨c, by omega, hcf⟩
          · exact ⟨k, by omega, hc.2⟩
        · rintro ⟨c, hck, hcf⟩
          by_cases e : c = k
          · subst e
            obtain ⟨y, hy, hyt⟩ := first_lt hcf
            rw [hxe] at hy; cases hy
            exact .inr (isT_iff.1 hyt).2.symm
          · exact .inl ⟨c, by omega, hcf⟩
    · rename_i hc
      refine ⟨h1, fun n => ?_⟩
      rw [h2]
      constructor
      · rintro ⟨c, hck, hcf⟩; exact ⟨c, by omega, hcf⟩
      · rintro ⟨c, hck, hcf⟩
        by_cases e : c = k
        · subst e
          obtain ⟨y, hy, hyt⟩ := first_lt hcf
          rw [hxe] at hy; cases hy
          have e2 := isT_iff.1 hyt
          exact absurd ⟨e2.1, by rw [e2.2]; exact hcf⟩ hc
        · exact ⟨c, by omega, hcf⟩
theorem putT_perm (p : Int × StepD) (l : List (Int × StepD)) : (putT p l).Perm (p :: l) := by
  unfold putT
  refine List.perm_middle.trans ?_
  rw [List.take_append_drop]
theorem putT_sorted {p : Int × StepD} {l : List (Int × StepD)} (h : l.Pairwise (fun a b => a.1 ≤ b.1)) : (putT p l).Pairwise (fun a b => a.1 ≤ b.1) := by
  unfold putT
  obtain ⟨j, hj⟩ : ∃ j, j = (l.takeWhile (sooner p.1)).length := ⟨_, rfl⟩
  have hta : l = l.takeWhile (sooner p.1) ++ l.dropWhile (sooner p.1) := List.takeWhile_append_dropWhile.symm
  have ht : l.take j = l.takeWhile (sooner p.1) := by rw [hj]; exact (congrArg (List.take _) hta).trans (List.take_left' rfl)
  have hd : l.drop j = l.dropWhile (sooner p.1) := by rw [hj]; exact (congrArg (List.drop _) hta).trans (List.drop_left' rfl)
  rw [← hj]
  have hs := h
  rw [← List.take_append_drop j l, List.pairwise_append] at hs
  obtain ⟨s1, s2, s3⟩ := hs
  have a1 : ∀ a ∈ l.take j, a.1 < p.1 := fun a ha => by
    rw [ht] at ha
    have := List.all_eq_true.1 (List.all_takeWhile (p := sooner p.1) (l := l)) a ha
    simpa [sooner] using this
  have a2 : ∀ b ∈ l.drop j, p.1 ≤ b.1 := fun b hb => by
    cases hdd : l.drop j with
    | nil => rw [hdd] at hb; cases hb
    | cons c r =>
      have hc : ¬ sooner p.1 c = true := by
        have := List.head?_dropWhile_not (sooner p.1) l
        rw [← hd, hdd] at this
        simpa using this
      have hcp : p.1 ≤ c.1 := by simp only [sooner, decide_eq_true_eq] at hc; omega
      rw [hdd] at hb s2
      rcases List.mem_cons.1 hb with rfl | hb
      · exact hcp
      · have := (List.pairwise_cons.1 s2).1 b hb; omega
  rw [List.pairwise_append]
  refine ⟨s1, List.pairwise_cons.2 ⟨a2, s2⟩, fun a ha b hb => ?_⟩
  rcases List.mem_cons.1 hb with rfl | hb
  · have := a1 a ha; omega
  · exact s3 a ha b hb
def pairN (l : List TaleD) (n : Int × Int) : Int × StepD := ((kn l n).index, (kn l n).step)
theorem from_some {l : List TaleD} (hO : OneT l) : ∀ k, k ≤ l.length → ∀ out, fromAt l k = some out → out.Pairwise (fun a b => a.1 ≤ b.1) ∧ out.Perm (((decN l k).filter fun n => (kn l n).commit).map (pairN l))
  | 0, _, out, h => by simp only [fromAt, Option.some.injEq] at h; subst h; simp [decN]
  | k + 1, hk, out, h => by
    have hx : l[k]? = some l[k] := List.getElem?_eq_getElem (by omega)
    obtain ⟨x, hxe⟩ : ∃ x, l[k]? = some x := ⟨_, hx⟩
    unfold fromAt at h
    cases hf : fromAt l k with
    | none => rw [hf] at h; cases h
    | some o =>
      rw [hf, hxe] at h
      simp only at h
      obtain ⟨s, p⟩ := from_some hO k (by omega) o hf
      unfold decN
      rw [hxe]
      simp only
      unfold fromOne at h
      by_cases hc : x.kind = 6 ∧ firstT l 6 x.name = some k
      · rw [if_neg (fun hh => hh hc)] at h
        rw [if_pos hc, List.filter_append, List.map_append]
        have hd : (kn l x.name).decided = true := by rw [kn_dec]; exact List.any_eq_true.2 ⟨x, List.mem_of_getElem? hxe, isT_iff.2 ⟨hc.1, rfl⟩⟩
        obtain ⟨d, he, h1, h2⟩ := index_one hO hd
        rw [he] at h
        simp only at h
        split at h
        · cases h
        · split at h
          · rename_i hcm
            simp only [Option.some.injEq] at h; subst h
            rw [h1] at hcm
            refine ⟨s, ?_⟩
            rw [List.filter_cons, if_neg (by simp [hcm])]
            simpa using p
          · rename_i hcm
            have hcm : (kn l x.name).commit = true := by rw [← h1]; simpa using hcm
            split at h
            · cases h
            · rename_i c hcf
              simp only [Option.some.injEq] at h; subst h
              have K := kn_at l x.name
              have hst : ((kn l x.name).index, stepT l x.name d c) = pairN l x.name := by
                unfold pairN stepT KnD.step
                have e3 := K.called; have e4 := K.answered; have e5 := K.acts
                rw [List.take_length] at e3 e4 e5
                rw [hcf] at e5
                have e6 : timeT l 1 x.name = (c : Int) + 1 := by unfold timeT; rw [hcf]
                rw [K.cl, K.nm, e3, e4, e5, h2, e6]
              rw [hst]
              refine ⟨putT_sorted s, (putT_perm _ _).trans ?_⟩
              rw [List.filter_cons, if_pos hcm]
              simp only [List.filter_nil, List.map_cons, List.map_nil]
              exact (List.perm_append_singleton _ _).symm.trans (List.Perm.append_right _ p)
      · rw [if_pos hc] at h
        rw [if_neg hc]
        simp only [Option.some.injEq] at h; subst h
        exact ⟨s, p⟩
-- the program's end
theorem outD_at (q : List KnD) : ∀ i, i ≤ q.length → (outD q i = none ↔ ∃ j, j < i ∧ ((0 < j ∧ (q[j - 1]?.map (·.index)) = (q[j]?.map (·.index))) ∨ ∃ k, q[j]? = some k ∧ k.commit = true ∧ k.called = 0)) ∧ ∀ out, outD q i = some out → out = (((q.take i).filter (·.commit)).map (·.step))
  | 0, _ => ⟨by simp [outD], fun out h => by simp only [outD, Option.some.injEq] at h; subst h; simp⟩
  | i + 1, h => by
    have hx : q[i]? = some q[i] := List.getElem?_eq_getElem (by omega)
    obtain ⟨x, hxe⟩ : ∃ x, q[i]? = some x := ⟨_, hx⟩
    obtain ⟨h1, h2⟩ := outD_at q i (by omega)
    unfold outD
    cases hf : outD q i with
    | none =>
      obtain ⟨j, hj, hr⟩ := h1.1 hf
      exact ⟨⟨fun _ => ⟨j, by omega, hr⟩, fun _ => rfl⟩, fun out h => by cases h⟩
    | some o =>
      rw [hxe]
      simp only
      have hn : ¬ ∃ j, j < i ∧ ((0 < j ∧ (q[j - 1]?.map (·.index)) = (q[j]?.map (·.index))) ∨ ∃ k, q[j]? = some k ∧ k.commit = true ∧ k.called = 0) := fun e => by rw [h1.2 e] at hf; cases hf
      by_cases hc : (0 < i ∧ (q[i - 1]?.map (·.index)) = some x.index) ∨ (x.commit = true ∧ x.called = 0)
      · rw [if_pos hc]
        refine ⟨⟨fun _ => ⟨i, by omega, ?_⟩, fun _ => rfl⟩, fun out h => by cases h⟩
        rcases hc with hc | hc
        · exact .inl ⟨hc.1, by rw [hxe]; exact hc.2⟩
        · exact .inr ⟨x, hxe, hc⟩
      · rw [if_neg hc]
        have e := h2 o hf
        refine ⟨⟨fun h => (by split at h <;> cases h), fun ⟨j, hj, hr⟩ => ?_⟩, fun out ho => ?_⟩
        · by_cases ej : j = i
          · subst ej
            rcases hr with hr | ⟨k, hk, hr⟩
            · exact absurd (.inl ⟨hr.1, by rw [hr.2, hxe]; rfl⟩) hc
            · rw [hxe] at hk; cases hk; exact absurd (.inr hr) hc
          · exact absurd ⟨j, by omega, hr⟩ hn
        · rw [take_snoc hxe, List.filter_append, List.map_append, ← e]
          split at ho
          · rename_i hcm; simp only [Option.some.injEq] at ho; subst ho; simp [hcm]
          · rename_i hcm; simp only [Option.some.injEq] at ho; subst ho; simp [hcm]
def progFromD (l : List TaleD) (q : List (Int × Int)) : Option (List StepD) :=
  if badD l l.length = true ∨ l.all (fun x => saidD (kn l x.name) x) = false then none else outD (q.map (kn l)) q.length
theorem from_eq {l : List TaleD} {q : List (Int × Int)} (hp : q.Perm ((namesD l l.length).filter fun n => (kn l n).decided)) (hs : (q.map (kn l)).Pairwise (fun a b => a.index ≤ b.index)) : progFromD l q = refFromD l := by
  unfold progFromD refFromD
  have hbad := bad_at l l.length (Nat.le_refl _)
  rw [List.take_length] at hbad
  by_cases hO : OneT l
  · have hb : badD l l.length = false := hbad.2 hO
    have hr : l.all (repliedT l) = l.all (fun x => saidD (kn l x.name) x) := by congr 1; funext x; exact replied_one hO x
    rw [hr, hb]
    cases ha : l.all (fun x => saidD (kn l x.name) x) with
    | false => simp
    | true =>
      simp only [Bool.false_eq_true, Bool.true_eq_false, or_self, if_false, if_true]
      obtain ⟨nd, nm⟩ := names_at l l.length (Nat.le_refl _)
      rw [List.take_length] at nm
      have hqn : q.Nodup := hp.symm.nodup (nd.filter _)
      have hqm : ∀ n, n ∈ q ↔ (kn l n).decided = true := fun n => by
        rw [hp.mem_iff, List.mem_filter, nm]
        refine ⟨fun h => h.2, fun h => ⟨?_, h⟩⟩
        rw [kn_dec] at h
        obtain ⟨y, hy, hyt⟩ := List.any_eq_true.1 h
        have e := isT_iff.1 hyt
        exact ⟨y, hy, by simp [counts, e.1], e.2⟩
      have hO2 := outD_at (q.map (kn l)) q.length (by simp)
      rw [List.pairwise_map] at hs
      -- the program ends as the document does
      have hfail : outD (q.map (kn l)) q.length = none ↔ fromAt l l.length = none := by
        rw [hO2.1, from_none']
        constructor
        · rintro ⟨j, hj, h⟩
          have hqj : q[j]? = some q[j] := List.getElem?_eq_getElem hj
          obtain ⟨n, hne⟩ : ∃ n, q[j]? = some n := ⟨_, hqj⟩
          have hdn := (hqm n).1 (List.mem_of_getElem? hne)
          refine ⟨n, hdn, (fail_one hO hdn).2 ?_⟩
          rcases h with ⟨h0, h⟩ | ⟨k, hk, h⟩
          · obtain ⟨m, hme⟩ : ∃ m, q[j - 1]? = some m := ⟨_, List.getElem?_eq_getElem (by omega)⟩
            have hdm := (hqm m).1 (List.mem_of_getElem? hme)
            simp only [List.getElem?_map, hne, hme, Option.map_some, Option.some.injEq] at h
            refine .inl ⟨m, fun e => ?_, hdm, h⟩
            subst e
            have := (List.getElem?_inj (by omega : j - 1 < q.length) hqn).1 (hme.trans hne.symm)
            omega
          · simp only [List.getElem?_map, hne, Option.map_some, Option.some.injEq] at hk
            subst hk
            exact .inr h
        · rintro ⟨n, hdn, hf⟩
          obtain ⟨j, hj, hne⟩ := List.mem_iff_getElem.1 ((hqm n).2 hdn)
          have hje : q[j]? = some n := by rw [List.getElem?_eq_getElem hj, hne]
          rcases (fail_one hO hdn).1 hf with ⟨m, hmn, hdm, hidx⟩ | hc
          · obtain ⟨i, hi, hmi⟩ := List.mem_iff_getElem.1 ((hqm m).2 hdm)
            have hie : q[i]? = some m := by rw [List.getElem?_eq_getElem hi, hmi]
            have hij : i ≠ j := fun e => by subst e; rw [hje] at hie; cases hie; exact hmn rfl
            have le : ∀ a b (ha : a < q.length) (hb : b < q.length), a < b → (kn l q[a]).index ≤ (kn l q[b]).index := fun a b ha hb hab => List.pairwise_iff_getElem.1 hs a b ha hb hab
            -- two neighbours between them are of one index
            have key : ∀ a b (ha : a < q.length) (hb : b < q.length), a < b → (kn l q[a]).index = (kn l q[b]).index → ∃ j, j < q.length ∧ ((0 < j ∧ ((q.map (kn l))[j - 1]?.map (·.index)) = ((q.map (kn l))[j]?.map (·.index))) ∨ ∃ k, (q.map (kn l))[j]? = some k ∧ k.commit = true ∧ k.called = 0) := by
              intro a b ha hb hab he
              refine ⟨a + 1, by omega, .inl ⟨by omega, ?_⟩⟩
              have h1 := le a (a + 1) ha (by omega) (by omega)
              have h2 : (kn l q[a + 1]).index ≤ (kn l q[b]).index := by
                by_cases e : a + 1 = b
                · subst e; exact Int.le_refl _
                · exact le (a + 1) b (by omega) hb (by omega)
              simp only [Nat.add_sub_cancel, List.getElem?_map, List.getElem?_eq_getElem ha, List.getElem?_eq_getElem (by omega : a + 1 < q.length), Option.map_some, Option.some.injEq]
              show (kn l q[a]).index = (kn l q[a + 1]).index
              omega
            rcases Nat.lt_or_gt_of_ne hij with h | h
            · exact key i j hi hj h (by rw [hmi, hne]; exact hidx)
            · exact key j i hj hi h (by rw [hmi, hne]; exact hidx.symm)
          · exact ⟨j, hj, .inr ⟨kn l n, by rw [List.getElem?_map, hje]; rfl, hc⟩⟩
      cases hf : fromAt l l.length with
      | none => rw [hfail.2 hf]; rfl
      | some out =>
        cases ho : outD (q.map (kn l)) q.length with
        | none => rw [hfail.1 ho] at hf; cases hf
        | some o =>
          have e := hO2.2 o ho
          obtain ⟨s, p⟩ := from_some hO _ (Nat.le_refl _) out hf
          obtain ⟨dnd, dnm⟩ := dec_at l l.length (Nat.le_refl _)
          have hqd : q.Perm (decN l l.length) := (List.perm_ext_iff_of_nodup hqn dnd).2 fun n => by
            rw [hqm, dnm, kn_dec, List.any_eq_true]
            constructor
            · rintro ⟨y, hy, hyt⟩
              obtain ⟨c, hc⟩ := first_some hy hyt
              exact ⟨c, by obtain ⟨z, hz, _⟩ := first_lt hc; exact (List.getElem?_eq_some_iff.1 hz).1, hc⟩
            · rintro ⟨c, _, hc⟩
              obtain ⟨z, hz, hzt⟩ := first_lt hc
              exact ⟨z, List.mem_of_getElem? hz, hzt⟩
          have hnf : ∀ n, (kn l n).decided = true → ¬ failN l n := fun n hd hh => by rw [(from_none' l).2 ⟨n, hd, hh⟩] at hf; cases hf
          have hpq : out.Perm ((q.filter fun n => (kn l n).commit).map (pairN l)) := p.trans (((hqd.filter _).map _).symm)
          have hsq : ((q.filter fun n => (kn l n).commit).map (pairN l)).Pairwise (fun a b => a.1 ≤ b.1) := by
            rw [List.pairwise_map]
            exact hs.filter _
          have heq : out = (q.filter fun n => (kn l n).commit).map (pairN l) := by
            refine List.Perm.eq_of_pairwise (fun a b ha hb hab hba => ?_) s hsq hpq
            have ha := hpq.mem_iff.1 ha
            obtain ⟨n, hn, rfl⟩ := List.mem_map.1 ha
            obtain ⟨m, hm, rfl⟩ := List.mem_map.1 hb
            have dn := (hqm n).1 (List.mem_filter.1 hn).1
            have dm := (hqm m).1 (List.mem_filter.1 hm).1
            by_cases e : m = n
            · subst e; rfl
            · exfalso
              refine hnf n dn ((fail_one hO dn).2 (.inl ⟨m, e, dm, ?_⟩))
              simp only [pairN] at hab hba
              omega
          rw [e, heq]
          simp only [Option.map_some, Option.some.injEq, List.map_map]
          rw [List.take_of_length_le (by simp), List.filter_map, List.map_map]
          rfl
  · have hb : badD l l.length = true := by
      cases hb : badD l l.length with
      | true => rfl
      | false => exact absurd (hbad.1 hb) hO
    rw [hb, from_bad hO]
    simp
end Go.Proofs.YtbnclifpdmpjnaaGreatDoor
