/- The evaluator: what a planned order of a drawn region is. -/
import Derived.Test.YtedokmdoompidaaGreatDoorEvV
namespace Go.Proofs.YtedokmdoompidaaGreatDoor.Ev

theorem litRec_S {P : Program} {GS : Nat → Option Nat} {l : List Oper} {B : List Nat} {R : Tr (Nat × AV)} {T0 : Tr AV} {D : List Nat} {q : Nat} {tm : TypeId} {m p : Nat} {ins : List Nat} {S : St} {r : Rec} (h : litRec P GS l B R T0 D q tm m p ins S = some r) :
    r.S = S ∧ r.sl = some m ∧ r.v = .map S.nx ∧ ∃ kt vt qs, P.underlying tm = some (.map kt vt) ∧ keyT P kt = true ∧ memN q ins = true ∧ entsOf GS l B R T0 D q p m tm ins = some qs ∧ keysOk P kt qs = true ∧ r.role = .lit p qs ∧
      (∀ c, r.S'.h.get c = if c = S.nx then some (.map (qs.map fun e => (e.2.2.1, e.2.2.2))) else S.h.get c) ∧ r.S'.nx = S.nx + 1 := by
  unfold litRec at h
  split at h
  · rename_i kt vt hu
    cases hc : (keyT P kt && memN q ins) with
    | false => simp [hc] at h
    | true =>
      simp only [hc, cond_true] at h
      simp only [Bool.and_eq_true] at hc
      split at h
      · rename_i qs hq
        cases hk : keysOk P kt qs with
        | false => simp [hk] at h
        | true =>
          simp only [hk, cond_true] at h
          split at h
          · rename_i h' hh
            injection h with h; subst h
            exact ⟨rfl, rfl, rfl, kt, vt, qs, hu, hc.1, hc.2, hq, hk, rfl, Tr.get_put _ _ _ _ _ hh, rfl⟩
          · cases h
      · cases h
  · cases h
theorem litRec_Tl {P : Program} {GS : Nat → Option Nat} {l : List Oper} {B : List Nat} {R : Tr (Nat × AV)} {T0 : Tr AV} {D : List Nat} {q : Nat} {tm : TypeId} {m p : Nat} {ins : List Nat} {S : St} {r : Rec} (h : litRec P GS l B R T0 D q tm m p ins S = some r) : r.Tl = .leaf := by
  unfold litRec at h
  split at h
  · rename_i kt vt hu
    cases hc : (keyT P kt && memN q ins) with
    | false => simp [hc] at h
    | true =>
      simp only [hc, cond_true] at h
      split at h
      · rename_i qs hq
        cases hk : keysOk P kt qs with
        | false => simp [hk] at h
        | true =>
          simp only [hk, cond_true] at h
          split at h
          · injection h with h; subst h; rfl
          · cases h
      · cases h
  · cases h
/-- The three ways of a record. -/
theorem partRec_cases {P : Program} {GS : Nat → Option Nat} {l : List Oper} {B : List Nat} {R : Tr (Nat × AV)} {T0 : Tr AV} {D : List Nat} {i : Nat} {o : Oper} {m p : Nat} {ins : List Nat} {S : St} {r : Rec} (h : partRec P GS l B R T0 D i o m p ins S = some r) :
    o.guard = none ∧ ((r = ⟨.pc, .leaf, S, .tup [], S, none⟩ ∧ (((∃ t, o.op = .makeMap t none) ∧ i = p) ∨ ((∃ tm t k x, o.op = .insert tm (.tmp t) k x) ∧ i ≠ lastN ins ∧ memN i ins = true))) ∨
      (∃ tm t k x, o.op = .insert tm (.tmp t) k x ∧ i = lastN ins ∧ litRec P GS l B R T0 D i tm m p ins S = some r)) := by
  unfold partRec at h
  cases hg : noGuard o with
  | false => simp [hg] at h
  | true =>
    simp only [hg, cond_true] at h
    have hgn : o.guard = none := by
      unfold noGuard at hg
      split at hg
      · assumption
      · cases hg
    refine ⟨hgn, ?_⟩
    split at h
    · rename_i t ho
      cases hp : Nat.beq i p with
      | false => simp [hp] at h
      | true =>
        simp only [hp, cond_true, Option.some.injEq] at h
        exact .inl ⟨h.symm, .inl ⟨⟨t, ho⟩, Nat.eq_of_beq_eq_true hp⟩⟩
    · rename_i tm t k x ho
      cases hl : Nat.beq i (lastN ins) with
      | true =>
        simp only [hl, cond_true] at h
        exact .inr ⟨tm, t, k, x, ho, Nat.eq_of_beq_eq_true hl, h⟩
      | false =>
        simp only [hl, cond_false] at h
        cases hm : memN i ins with
        | false => simp [hm] at h
        | true =>
          simp only [hm, cond_true, Option.some.injEq] at h
          exact .inl ⟨h.symm, .inr ⟨⟨tm, t, k, x, ho⟩, Nat.ne_of_beq_eq_false hl, rfl⟩⟩
    · cases h
theorem genRec_cases {P : Program} {call : FuncId → List AV → St → Option (AV × St)} {GS : Nat → Option Nat} {ops : Array Oper} {Tl : Tr AV} {o : Oper} {S : St} {r : Rec} (h : genRec P call GS ops Tl o S = some r) :
    r.Tl = Tl ∧ r.S = S ∧ r.sl = o.dst ∧
    ((r.role = .skp ∧ gd ops Tl o = some false ∧ r.v = .tup [] ∧ r.S' = S) ∨
     (r.role = .rdr ∧ gd ops Tl o = some true ∧ rd P GS Tl S o.op = some r.v ∧ lowA S.nx r.v = true ∧ r.S' = S) ∨
     (∃ blk mk, r.role = .alc blk mk ∧ gd ops Tl o = some true ∧ alA P GS Tl o.op = some (blk, mk) ∧ r.v = mk S.nx ∧ (∀ c, r.S'.h.get c = if c = S.nx then some blk else S.h.get c) ∧ r.S'.nx = S.nx + 1) ∨
     (r.role = .wrt ∧ gd ops Tl o = some true ∧ S.nx ≤ r.S'.nx ∧ (wr P GS Tl S o.op = some (r.v, r.S') ∨ callA P call GS Tl S o.op = some (r.v, r.S')))) := by
  unfold genRec at h
  split at h
  · rename_i hg
    injection h with h; subst h
    exact ⟨rfl, rfl, rfl, .inl ⟨rfl, hg, rfl, rfl⟩⟩
  · rename_i hg
    split at h
    · rename_i v hv
      cases hl : lowA S.nx v with
      | false => simp [hl] at h
      | true =>
        simp only [hl, cond_true, Option.some.injEq] at h; subst h
        exact ⟨rfl, rfl, rfl, .inr (.inl ⟨rfl, hg, hv, hl, rfl⟩)⟩
    · split at h
      · rename_i blk mk ha
        split at h
        · rename_i h' hh
          injection h with h; subst h
          exact ⟨rfl, rfl, rfl, .inr (.inr (.inl ⟨blk, mk, rfl, hg, ha, rfl, Tr.get_put _ _ _ _ _ hh, rfl⟩))⟩
        · cases h
      · split at h
        · rename_i v S' hw
          cases hl : Nat.ble S.nx S'.nx with
          | false => simp [hl] at h
          | true =>
            simp only [hl, cond_true, Option.some.injEq] at h; subst h
            exact ⟨rfl, rfl, rfl, .inr (.inr (.inr ⟨rfl, hg, Nat.le_of_ble_eq_true hl, .inl hw⟩))⟩
        · split at h
          · rename_i v S' hw
            cases hl : Nat.ble S.nx S'.nx with
            | false => simp [hl] at h
            | true =>
              simp only [hl, cond_true, Option.some.injEq] at h; subst h
              exact ⟨rfl, rfl, rfl, .inr (.inr (.inr ⟨rfl, hg, Nat.le_of_ble_eq_true hl, .inr hw⟩))⟩
          · cases h
  · cases h
theorem oneRec_S {P : Program} {call : FuncId → List AV → St → Option (AV × St)} {GS : Nat → Option Nat} {ops : Array Oper} {l : List Oper} {B D : List Nat} {T0 : Tr AV} {R : Tr (Nat × AV)} {i : Nat} {o : Oper} {S : St} {r : Rec} (h : oneRec P call GS ops l B D T0 R i o S = some r) : r.S = S := by
  unfold oneRec at h
  split at h
  · rcases (partRec_cases h).2 with ⟨rfl, _⟩ | ⟨_, _, _, _, _, _, hl⟩
    · rfl
    · exact (litRec_S hl).1
  · split at h
    · exact (genRec_cases h).2.1
    · cases h

/-- What the table of slots says of the records so far. -/
structure Track (all : List Rec) (i : Nat) (R : Tr (Nat × AV)) : Prop where
  of : ∀ t req x, R.get t = some (req, x) → ∃ k r, k < i ∧ all[k]? = some r ∧ r.sl = some t ∧ x = r.v ∧ req = bitsOf (memOf r.role k)
  has : ∀ k r t, k < i → all[k]? = some r → r.sl = some t → R.get t ≠ none
def TTrack (all : List Rec) (i : Nat) (T0 T : Tr AV) : Prop := ∀ t x, T.get t = some x → (∃ k r, k < i ∧ all[k]? = some r ∧ r.sl = some t ∧ x = r.v) ∨ (T0.get t = some x ∧ ∀ k r, k < i → all[k]? = some r → r.sl ≠ some t)

theorem evT_facts {P : Program} {call : FuncId → List AV → St → Option (AV × St)} {GS : Nat → Option Nat} {nt : Nat} {ops : Array Oper} {l : List Oper} {B D : List Nat} {T0 : Tr AV} : ∀ (l' : List Oper) (pre : List Rec) (R : Tr (Nat × AV)) (T : Tr AV) (S : St) (recs : List Rec) (Tn : Tr AV) (Sn : St),
    Track pre pre.length R → TTrack pre pre.length T0 T → evT P call GS nt ops l B D T0 l' pre.length R T S = some (recs, Tn, Sn) →
    recs.length = l'.length ∧ (recs[0]?.elim Sn (·.S)) = S ∧
    (∀ (j : Nat) (o : Oper), l'[j]? = some o → ∃ r R', recs[j]? = some r ∧ oneRec P call GS ops l B D T0 R' (pre.length + j) o r.S = some r ∧ Track (pre ++ recs) (pre.length + j) R' ∧ r.S' = (recs[j + 1]?.elim Sn (·.S)) ∧
      (∀ t, r.sl = some t → t < nt ∧ memN t D = true ∧ ∀ k r', k < pre.length + j → (pre ++ recs)[k]? = some r' → r'.sl ≠ some t)) ∧
    TTrack (pre ++ recs) (pre ++ recs).length T0 Tn
  | [], pre, R, T, S, recs, Tn, Sn, hR, hT, h => by
    simp only [evT, Option.some.injEq, Prod.mk.injEq] at h
    obtain ⟨rfl, rfl, rfl⟩ := h
    exact ⟨rfl, rfl, fun j o ho => by simp at ho, by simpa using hT⟩
  | o :: r, pre, R, T, S, recs, Tn, Sn, hR, hT, h => by
    simp only [evT] at h
    split at h
    · rename_i rec hrec
      have hS := oneRec_S hrec
      have key : ∀ (R' : Tr (Nat × AV)) (T' : Tr AV) (recs' : List Rec) (Tn' : Tr AV) (Sn' : St), (∀ t, rec.sl = some t → t < nt ∧ memN t D = true ∧ R.get t = none) → Track (pre ++ [rec]) (pre ++ [rec]).length R' → TTrack (pre ++ [rec]) (pre ++ [rec]).length T0 T' → evT P call GS nt ops l B D T0 r (pre.length + 1) R' T' rec.S' = some (recs', Tn', Sn') →
          (rec :: recs').length = (o :: r).length ∧ ((rec :: recs')[0]?.elim Sn' (·.S)) = S ∧
          (∀ (j : Nat) (o' : Oper), (o :: r)[j]? = some o' → ∃ r' R', (rec :: recs')[j]? = some r' ∧ oneRec P call GS ops l B D T0 R' (pre.length + j) o' r'.S = some r' ∧ Track (pre ++ (rec :: recs')) (pre.length + j) R' ∧ r'.S' = ((rec :: recs')[j + 1]?.elim Sn' (·.S)) ∧
            (∀ t, r'.sl = some t → t < nt ∧ memN t D = true ∧ ∀ k r'', k < pre.length + j → (pre ++ (rec :: recs'))[k]? = some r'' → r''.sl ≠ some t)) ∧
          TTrack (pre ++ (rec :: recs')) (pre ++ (rec :: recs')).length T0 Tn' := fun R' T' recs' Tn' Sn' hsl hR' hT' h' => by
        have hlen : (pre ++ [rec]).length = pre.length + 1 := by simp
        rw [← hlen] at h'
        obtain ⟨g1, g2, g3, g4⟩ := evT_facts r (pre ++ [rec]) R' T' rec.S' recs' Tn' Sn' hR' hT' h'
        have happ : pre ++ [rec] ++ recs' = pre ++ (rec :: recs') := by simp
        rw [happ] at g3 g4
        refine ⟨by simp [g1], by simpa using hS, fun j o' ho => ?_, g4⟩
        cases j with
        | zero =>
          simp only [List.getElem?_cons_zero, Option.some.injEq] at ho
          subst ho
          refine ⟨rec, R, by simp, by rw [hS]; exact hrec, ⟨fun t req x hx => ?_, fun k r'' t hk hr'' ht => ?_⟩, ?_, fun t ht => ?_⟩
          · obtain ⟨k, r'', k1, k2, k3⟩ := hR.of t req x hx
            exact ⟨k, r'', by simpa using k1, by rw [List.getElem?_append_left k1]; exact k2, k3⟩
          · rw [List.getElem?_append_left (by simpa using hk)] at hr''
            exact hR.has k r'' t (by simpa using hk) hr'' ht
          · simpa using g2.symm
          · obtain ⟨k1, k2, k3⟩ := hsl t ht
            refine ⟨k1, k2, fun k r'' hk hr'' hs => ?_⟩
            rw [List.getElem?_append_left (by simpa using hk)] at hr''
            exact hR.has k r'' t (by simpa using hk) hr'' hs k3
        | succ j =>
          rw [List.getElem?_cons_succ] at ho
          obtain ⟨r', R'', k1, k2, k3, k4, k5⟩ := g3 j o' ho
          rw [hlen, show pre.length + 1 + j = pre.length + (j + 1) by omega] at k2 k3 k5
          exact ⟨r', R'', by simpa using k1, k2, k3, by simpa using k4, k5⟩
      split at h
      · rename_i t ht
        cases hc : (Nat.blt t nt && memN t D) with
        | false => simp [hc] at h
        | true =>
          simp only [hc, cond_true] at h
          simp only [Bool.and_eq_true] at hc
          split at h
          · cases h
          · rename_i hnone
            split at h
            · rename_i R' T' hR' hT'
              split at h
              · rename_i recs' Tn' Sn' hev
                simp only [Option.some.injEq, Prod.mk.injEq] at h
                obtain ⟨rfl, rfl, rfl⟩ := h
                refine key R' T' recs' Tn' Sn' (fun t' ht' => by rw [ht] at ht'; injection ht' with ht'; subst ht'; exact ⟨Nat.le_of_ble_eq_true hc.1, hc.2, hnone⟩) ⟨fun t' req x hx => ?_, fun k r'' t' hk hr'' ht' => ?_⟩ (fun t' x hx => ?_) hev
                · rw [Tr.get_put _ _ _ _ _ hR'] at hx
                  split at hx
                  · rename_i he
                    injection hx with hx; injection hx with hx1 hx2
                    subst he; subst hx1; subst hx2
                    exact ⟨pre.length, rec, by simp, by simp, ht, rfl, rfl⟩
                  · obtain ⟨k, r'', k1, k2, k3⟩ := hR.of t' req x hx
                    exact ⟨k, r'', by simp; omega, by rw [List.getElem?_append_left k1]; exact k2, k3⟩
                · rw [Tr.get_put _ _ _ _ _ hR']
                  split
                  · simp
                  · rename_i hne
                    rcases Nat.lt_or_ge k pre.length with hlt | hge
                    · rw [List.getElem?_append_left hlt] at hr''
                      exact hR.has k r'' t' hlt hr'' ht'
                    · have : k = pre.length := by simp at hk; omega
                      subst this
                      simp at hr''
                      subst hr''
                      rw [ht] at ht'; injection ht' with ht'; exact absurd ht'.symm hne
                · rw [Tr.get_put _ _ _ _ _ hT'] at hx
                  split at hx
                  · rename_i he
                    injection hx with hx
                    subst he; subst hx
                    exact .inl ⟨pre.length, rec, by simp, by simp, ht, rfl⟩
                  · rename_i hne
                    rcases hT t' x hx with ⟨k, r'', k1, k2, k3⟩ | ⟨k1, k2⟩
                    · exact .inl ⟨k, r'', by simp; omega, by rw [List.getElem?_append_left k1]; exact k2, k3⟩
                    · refine .inr ⟨k1, fun k r'' hk hr'' => ?_⟩
                      rcases Nat.lt_or_ge k pre.length with hlt | hge
                      · rw [List.getElem?_append_left hlt] at hr''
                        exact k2 k r'' hlt hr''
                      · have : k = pre.length := by simp at hk; omega
                        subst this
                        simp at hr''
                        subst hr''
                        rw [ht]; intro e; injection e with e; exact hne e.symm
              · cases h
            · cases h
      · rename_i hnone
        split at h
        · rename_i recs' Tn' Sn' hev
          simp only [Option.some.injEq, Prod.mk.injEq] at h
          obtain ⟨rfl, rfl, rfl⟩ := h
          refine key R T recs' Tn' Sn' (fun t' ht' => by rw [hnone] at ht'; cases ht') ⟨fun t' req x hx => ?_, fun k r'' t' hk hr'' ht' => ?_⟩ (fun t' x hx => ?_) hev
          · obtain ⟨k, r'', k1, k2, k3⟩ := hR.of t' req x hx
            exact ⟨k, r'', by simp; omega, by rw [List.getElem?_append_left k1]; exact k2, k3⟩
          · rcases Nat.lt_or_ge k pre.length with hlt | hge
            · rw [List.getElem?_append_left hlt] at hr''
              exact hR.has k r'' t' hlt hr'' ht'
            · have : k = pre.length := by simp at hk; omega
              subst this
              simp at hr''
              subst hr''
              rw [hnone] at ht'; cases ht'
          · rcases hT t' x hx with ⟨k, r'', k1, k2, k3⟩ | ⟨k1, k2⟩
            · exact .inl ⟨k, r'', by simp; omega, by rw [List.getElem?_append_left k1]; exact k2, k3⟩
            · refine .inr ⟨k1, fun k r'' hk hr'' => ?_⟩
              rcases Nat.lt_or_ge k pre.length with hlt | hge
              · rw [List.getElem?_append_left hlt] at hr''
                exact k2 k r'' hlt hr''
              · have : k = pre.length := by simp at hk; omega
                subst this
                simp at hr''
                subst hr''
                rw [hnone]; simp
        · cases h
    · cases h
end Go.Proofs.YtedokmdoompidaaGreatDoor.Ev
