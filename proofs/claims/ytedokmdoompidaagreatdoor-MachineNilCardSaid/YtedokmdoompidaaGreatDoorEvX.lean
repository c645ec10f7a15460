/- The evaluator: a planned order is a plan. -/
import Derived.Test.YtedokmdoompidaaGreatDoorEvW
namespace Go.Proofs.YtedokmdoompidaaGreatDoor.Ev

theorem memN_eq {x : Nat} : ∀ {l : List Nat}, memN x l = true ↔ x ∈ l
  | [] => by simp [memN]
  | y :: l => by
    simp only [memN]
    cases h : Nat.beq x y with
    | true => simp [Nat.eq_of_beq_eq_true h]
    | false => simp [Nat.ne_of_beq_eq_false h, memN_eq (l := l)]
theorem bitsOf_mem {b : Nat} : ∀ {l : List Nat}, b ∈ l → Nat.testBit (bitsOf l) b = true
  | [], h => by cases h
  | k :: l, h => by
    simp only [bitsOf, Nat.testBit_or, Bool.or_eq_true]
    rcases List.mem_cons.1 h with rfl | h
    · exact .inl (by rw [Nat.testBit_two_pow]; simp)
    · exact .inr (bitsOf_mem h)
theorem req_bit {req mask b : Nat} (h : req &&& mask = req) (hb : Nat.testBit req b = true) : Nat.testBit mask b = true := by
  rw [← h, Nat.testBit_and, Bool.and_eq_true] at hb
  exact hb.2
theorem mkOf_spec {m : Nat} : ∀ {l : List Oper} {i p : Nat}, mkOf m l i = some p → i ≤ p ∧ ∃ o t, l[p - i]? = some o ∧ o.op = .makeMap t none ∧ o.dst = some m
  | [], i, p, h => by simp [mkOf] at h
  | o :: l, i, p, h => by
    have rest : mkOf m l (i + 1) = some p → i ≤ p ∧ ∃ o' t, (o :: l)[p - i]? = some o' ∧ o'.op = .makeMap t none ∧ o'.dst = some m := fun h => by
      obtain ⟨h1, o', t, h2, h3⟩ := mkOf_spec h
      exact ⟨by omega, o', t, by rw [show p - i = (p - (i + 1)) + 1 by omega]; simpa using h2, h3⟩
    simp only [mkOf] at h
    split at h
    · rename_i t d ho hd
      cases hb : Nat.beq d m with
      | true =>
        simp only [hb, cond_true, Option.some.injEq] at h
        subst h
        exact ⟨Nat.le_refl _, o, t, by simp, ho, by rw [hd, Nat.eq_of_beq_eq_true hb]⟩
      | false => simp only [hb, cond_false] at h; exact rest h
    · exact rest h
theorem insOf_spec {m : Nat} : ∀ {l : List Oper} {i e : Nat}, e ∈ insOf m l i → i ≤ e ∧ ∃ o tm k x, l[e - i]? = some o ∧ o.op = .insert tm (.tmp m) k x
  | [], i, e, h => by simp [insOf] at h
  | o :: l, i, e, h => by
    have rest : e ∈ insOf m l (i + 1) → i ≤ e ∧ ∃ o' tm k x, (o :: l)[e - i]? = some o' ∧ o'.op = .insert tm (.tmp m) k x := fun h => by
      obtain ⟨h1, o', tm, k, x, h2, h3⟩ := insOf_spec h
      exact ⟨by omega, o', tm, k, x, by rw [show e - i = (e - (i + 1)) + 1 by omega]; simpa using h2, h3⟩
    simp only [insOf] at h
    split at h
    · rename_i tm t k x ho
      cases hb : Nat.beq t m with
      | true =>
        simp only [hb, cond_true, List.mem_cons] at h
        rcases h with rfl | h
        · exact ⟨Nat.le_refl _, o, tm, k, x, by simp, by rw [ho, Nat.eq_of_beq_eq_true hb]⟩
        · exact rest h
      | false => simp only [hb, cond_false] at h; exact rest h
    · exact rest h
theorem ins_mem {m : Nat} {o : Oper} {tm : TypeId} {k x : Operand} (hop : o.op = .insert tm (.tmp m) k x) : ∀ (l : List Oper) (j s : Nat), l[j]? = some o → s + j ∈ insOf m l s
  | [], j, s, hj => by simp at hj
  | y :: l, 0, s, hj => by
    simp only [List.getElem?_cons_zero, Option.some.injEq] at hj
    subst hj
    simp [insOf, hop]
  | y :: l, j + 1, s, hj => by
    rw [List.getElem?_cons_succ] at hj
    have := ins_mem hop l j (s + 1) hj
    rw [show s + (j + 1) = s + 1 + j by omega]
    simp only [insOf]
    split
    · cases hb : Nat.beq _ m with
      | true => simp only [cond_true]; exact List.mem_cons_of_mem _ this
      | false => simp only [cond_false]; exact this
    · exact this
theorem lastN_mem : ∀ {l : List Nat}, l ≠ [] → lastN l ∈ l
  | [], h => absurd rfl h
  | [q], _ => by simp [lastN]
  | a :: b :: l, _ => by
    have := lastN_mem (l := b :: l) (by simp)
    simp only [lastN]
    exact List.mem_cons_of_mem _ this
theorem behind_spec {l : List Oper} {B : List Nat} {i t : Nat} : ∀ {js : List Nat}, behind l B i t js = true → ∀ j ∈ js, ∀ o, l[j]? = some o → o.dst = some t → bitOf B i j = true
  | [], _, j, hj, _, _, _ => by cases hj
  | k :: js, h, j, hj, o, ho, hd => by
    simp only [behind, Bool.and_eq_true] at h
    rcases List.mem_cons.1 hj with rfl | hj
    · have := h.1
      rw [ho] at this
      simp only [hd] at this
      rw [Nat.beq_refl, cond_true] at this
      exact this
    · exact behind_spec h.2 j hj o ho hd
theorem looks_spec {l : List Oper} {B : List Nat} {i : Nat} {R : Tr (Nat × AV)} {T0 : Tr AV} {D : List Nat} : ∀ {ts : List Nat} {A Tl : Tr AV}, looks l B i R T0 D ts A = some Tl → ∀ t x, Tl.get t = some x →
    A.get t = some x ∨ (∃ req, R.get t = some (req, x) ∧ req &&& B.getD i 0 = req) ∨ ((memN t D = false ∨ ∀ j o, l[j]? = some o → o.dst = some t → bitOf B i j = true) ∧ T0.get t = some x)
  | [], A, Tl, h, t, x, hx => by simp only [looks, Option.some.injEq] at h; subst h; exact .inl hx
  | t0 :: ts, A, Tl, h, t, x, hx => by
    simp only [looks] at h
    split at h
    · rename_i req x0 hR
      cases hb : Nat.beq (req &&& B.getD i 0) req with
      | false => rw [hb, cond_false] at h; cases h
      | true =>
        simp only [hb, cond_true] at h
        split at h
        · rename_i A' hA
          rcases looks_spec h t x hx with h1 | h1
          · rw [Tr.get_put _ _ _ _ _ hA] at h1
            split at h1
            · rename_i he; subst he
              injection h1 with h1; subst h1
              exact .inr (.inl ⟨req, hR, Nat.eq_of_beq_eq_true hb⟩)
            · exact .inl h1
          · exact .inr h1
        · cases h
    · cases hD : (memN t0 D && !behind l B i t0 (List.range l.length)) with
      | true => simp [hD] at h
      | false =>
        simp only [hD, cond_false] at h
        have hD' : memN t0 D = false ∨ ∀ j o, l[j]? = some o → o.dst = some t0 → bitOf B i j = true := by
          rw [Bool.and_eq_false_iff] at hD
          rcases hD with hD | hD
          · exact .inl hD
          · refine .inr (fun j o ho hd => behind_spec (by simpa using hD) j (List.mem_range.2 (List.getElem?_eq_some_iff.1 ho).1) o ho hd)
        split at h
        · rename_i x0 hT
          split at h
          · rename_i A' hA
            rcases looks_spec h t x hx with h1 | h1
            · rw [Tr.get_put _ _ _ _ _ hA] at h1
              split at h1
              · rename_i he; subst he
                injection h1 with h1; subst h1
                exact .inr (.inr ⟨hD', hT⟩)
              · exact .inl h1
            · exact .inr h1
          · cases h
        · exact looks_spec h t x hx
theorem entsOf_spec {GS : Nat → Option Nat} {l : List Oper} {B : List Nat} {R : Tr (Nat × AV)} {T0 : Tr AV} {D : List Nat} {q p m : Nat} {tm : TypeId} : ∀ {ins : List Nat} {qs : List Piece}, entsOf GS l B R T0 D q p m tm ins = some qs →
    qs.map (·.1) = ins ∧ ∀ e ∈ qs, ∃ oe kx vx, l[e.1]? = some oe ∧ oe.op = .insert tm (.tmp m) kx vx ∧ oe.guard = none ∧ oe.dst = none ∧ e.1 ≤ q ∧ bitOf B p e.1 = true ∧ looks l B e.1 R T0 D (tmpsOf [kx, vx]) .leaf = some e.2.1 ∧ opd GS e.2.1 kx = some e.2.2.1 ∧ opd GS e.2.1 vx = some e.2.2.2
  | [], qs, h => by simp only [entsOf, Option.some.injEq] at h; subst h; exact ⟨rfl, fun e he => by cases he⟩
  | e0 :: ins, qs, h => by
    simp only [entsOf] at h
    split at h
    · rename_i oe hoe
      split at h
      · rename_i t m' kx vx ho hg hd
        cases hb : (Nat.beq t tm && Nat.beq m' m && Nat.ble e0 q && bitOf B p e0) with
        | false => simp [hb] at h
        | true =>
          simp only [hb, cond_true] at h
          simp only [Bool.and_eq_true] at hb
          obtain ⟨⟨⟨b1, b2⟩, b3⟩, b4⟩ := hb
          have b1 := Nat.eq_of_beq_eq_true b1
          have b2 := Nat.eq_of_beq_eq_true b2
          subst b1; subst b2
          split at h
          · rename_i T hT
            split at h
            · rename_i k v r hk hv hr
              injection h with h; subst h
              obtain ⟨g1, g2⟩ := entsOf_spec hr
              refine ⟨by simp [g1], fun e he => ?_⟩
              rcases List.mem_cons.1 he with rfl | he
              · exact ⟨oe, kx, vx, hoe, ho, hg, hd, Nat.le_of_ble_eq_true b3, b4, hT, hk, hv⟩
              · exact g2 e he
            · cases h
          · cases h
      · cases h
    · cases h
theorem apartKeys_spec {P : Program} {kt : TypeId} {e : Piece} : ∀ {l : List Piece}, apartKeys P kt e l = true → ∀ e' ∈ l, e.1 ≠ e'.1 ∧ eqv P ⟨.leaf, 0⟩ 20 kt e.2.2.1 e'.2.2.1 = some false ∧ eqv P ⟨.leaf, 0⟩ 20 kt e'.2.2.1 e.2.2.1 = some false
  | [], _, e', he => by cases he
  | x :: l, h, e', he => by
    simp only [apartKeys] at h
    split at h
    · rename_i h1 h2
      simp only [Bool.and_eq_true, Bool.not_eq_true'] at h
      rcases List.mem_cons.1 he with rfl | he
      · exact ⟨Nat.ne_of_beq_eq_false h.1, h1, h2⟩
      · exact apartKeys_spec h.2 e' he
    · cases h
theorem keysOk_spec {P : Program} {kt : TypeId} : ∀ {l : List Piece}, keysOk P kt l = true → (l.map (·.1)).Nodup ∧ ∀ e ∈ l, ∀ e' ∈ l, e.1 ≠ e'.1 → eqv P ⟨.leaf, 0⟩ 20 kt e.2.2.1 e'.2.2.1 = some false
  | [], _ => ⟨by simp, fun e he => by cases he⟩
  | x :: l, h => by
    simp only [keysOk, Bool.and_eq_true] at h
    obtain ⟨g1, g2⟩ := keysOk_spec h.2
    have ha := apartKeys_spec h.1
    refine ⟨?_, fun e he e' he' hne => ?_⟩
    · rw [List.map_cons, List.nodup_cons]
      refine ⟨fun hm => ?_, g1⟩
      obtain ⟨y, hy, hxy⟩ := List.mem_map.1 hm
      exact (ha y hy).1 hxy.symm
    · rcases List.mem_cons.1 he with h1 | h1 <;> rcases List.mem_cons.1 he' with h2 | h2
      · exact absurd (by rw [h1, h2]) hne
      · rw [h1]; exact (ha e' h2).2.1
      · rw [h2]; exact (ha e h1).2.2
      · exact g2 e h1 e' h2 hne
theorem isWrt_eq {r : Role} : isWrt r = true ↔ r = .wrt := by cases r <;> simp [isWrt]
theorem wrts_spec : ∀ {l : List Rec} {i k : Nat} {S : St}, (k, S) ∈ wrts l i ↔ i ≤ k ∧ ∃ r, l[k - i]? = some r ∧ r.role = .wrt ∧ S = r.S
  | [], i, k, S => by simp [wrts]
  | r :: l, i, k, S => by
    have hstep : (i + 1 ≤ k ∧ ∃ r', l[k - (i + 1)]? = some r' ∧ r'.role = .wrt ∧ S = r'.S) ↔ (i < k ∧ ∃ r', (r :: l)[k - i]? = some r' ∧ r'.role = .wrt ∧ S = r'.S) := by
      constructor
      · rintro ⟨h1, r', h2, h3⟩
        exact ⟨by omega, r', by rw [show k - i = (k - (i + 1)) + 1 by omega]; simpa using h2, h3⟩
      · rintro ⟨h1, r', h2, h3⟩
        rw [show k - i = (k - (i + 1)) + 1 by omega] at h2
        exact ⟨by omega, r', by simpa using h2, h3⟩
    simp only [wrts]
    cases hw : isWrt r.role with
    | true =>
      simp only [cond_true, List.mem_cons, Prod.mk.injEq]
      rw [wrts_spec (l := l), hstep]
      constructor
      · rintro (⟨rfl, rfl⟩ | ⟨h1, h2⟩)
        · exact ⟨Nat.le_refl _, r, by simp, isWrt_eq.1 hw, rfl⟩
        · exact ⟨by omega, h2⟩
      · rintro ⟨h1, r', h2, h3, h4⟩
        rcases Nat.lt_or_ge i k with hlt | hge
        · exact .inr ⟨hlt, r', h2, h3, h4⟩
        · have : k = i := by omega
          subst this
          simp at h2
          subst h2
          exact .inl ⟨rfl, h4⟩
    | false =>
      simp only [cond_false]
      rw [wrts_spec (l := l), hstep]
      constructor
      · rintro ⟨h1, h2⟩; exact ⟨by omega, h2⟩
      · rintro ⟨h1, r', h2, h3, h4⟩
        rcases Nat.lt_or_ge i k with hlt | hge
        · exact ⟨hlt, r', h2, h3, h4⟩
        · have : k = i := by omega
          subst this
          simp at h2
          subst h2
          rw [isWrt_eq.2 h3] at hw; cases hw
theorem pairsOk_spec {B : List Nat} : ∀ {l : List Rec} {i : Nat}, pairsOk B (wrts l i) = true → ∀ k k' r r', i ≤ k → k < k' → l[k - i]? = some r → r.role = .wrt → l[k' - i]? = some r' → r'.role = .wrt → bitOf B k k' = true
  | [], i, _, k, k', r, r', _, _, h1, _, _, _ => by simp at h1
  | x :: l, i, h, k, k', r, r', hik, hkk, h1, h2, h3, h4 => by
    simp only [wrts] at h
    have htail : pairsOk B (wrts l (i + 1)) = true := by
      cases hw : isWrt x.role with
      | true => rw [hw, cond_true] at h; simp only [pairsOk, Bool.and_eq_true] at h; exact h.2
      | false => rw [hw, cond_false] at h; exact h
    rcases Nat.lt_or_ge i k with hlt | hge
    · rw [show k - i = (k - (i + 1)) + 1 by omega, List.getElem?_cons_succ] at h1
      rw [show k' - i = (k' - (i + 1)) + 1 by omega, List.getElem?_cons_succ] at h3
      exact pairsOk_spec htail k k' r r' (by omega) hkk h1 h2 h3 h4
    · have : k = i := by omega
      subst this
      simp at h1
      subst h1
      rw [isWrt_eq.2 h2, cond_true] at h
      simp only [pairsOk, Bool.and_eq_true] at h
      rw [show k' - k = (k' - (k + 1)) + 1 by omega, List.getElem?_cons_succ] at h3
      exact List.all_eq_true.1 h.1 (k', r'.S) (wrts_spec.2 ⟨by omega, r', h3, h4, rfl⟩)
theorem readsOk_spec {P : Program} {GS : Nat → Option Nat} {B : List Nat} {ws : List (Nat × St)} {n : Nat} {Sn : St} : ∀ {l : List Rec} {os : List Oper} {i : Nat}, readsOk P GS B ws n Sn l os i = true → ∀ j r o, l[j]? = some r → os[j]? = some o → r.role = .rdr →
    sameAt P GS B ws (i + j) r o.op (n, Sn) = true ∧ ∀ M ∈ ws, sameAt P GS B ws (i + j) r o.op M = true
  | [], os, i, _, j, r, o, h1, _, _ => by simp at h1
  | x :: l, [], i, _, j, r, o, _, h2, _ => by simp at h2
  | x :: l, y :: os, i, h, j, r, o, h1, h2, h3 => by
    simp only [readsOk, Bool.and_eq_true] at h
    cases j with
    | zero =>
      simp only [List.getElem?_cons_zero, Option.some.injEq] at h1 h2
      subst h1; subst h2
      rw [h3] at h
      simp only [Bool.and_eq_true] at h
      exact ⟨h.1.1, fun M hM => List.all_eq_true.1 h.1.2 M hM⟩
    | succ j =>
      rw [List.getElem?_cons_succ] at h1 h2
      have := readsOk_spec h.2 j r o h1 h2 h3
      rw [show i + 1 + j = i + (j + 1) by omega] at this
      exact this
theorem sameAt_spec {P : Program} {GS : Nat → Option Nat} {B : List Nat} {ws : List (Nat × St)} {i : Nat} {r : Rec} {op : Op} {M : Nat × St} (h : sameAt P GS B ws i r op M = true) (hbet : ∃ c ∈ ws, (i ≤ c.1 ∧ c.1 < M.1) ∨ (M.1 ≤ c.1 ∧ c.1 < i)) (hp : ∀ c ∈ ws, (bitOf B c.1 i = true → c.1 < M.1) ∧ (bitOf B i c.1 = true → M.1 ≤ c.1)) : rd P GS r.Tl M.2 op = some r.v := by
  unfold sameAt at h
  have ha : again B ws i M.1 = true := by
    unfold again
    rw [Bool.and_eq_true]
    refine ⟨?_, ?_⟩
    · obtain ⟨c, hc, h1⟩ := hbet
      refine List.any_eq_true.2 ⟨c, hc, ?_⟩
      simp only [Bool.or_eq_true, Bool.and_eq_true]
      rcases h1 with ⟨a, b⟩ | ⟨a, b⟩
      · exact .inl ⟨Nat.ble_eq_true_of_le a, Nat.ble_eq_true_of_le b⟩
      · exact .inr ⟨Nat.ble_eq_true_of_le a, Nat.ble_eq_true_of_le b⟩
    · refine List.all_eq_true.2 (fun c hc => ?_)
      obtain ⟨h1, h2⟩ := hp c hc
      simp only [Bool.and_eq_true, Bool.or_eq_true, Bool.not_eq_true']
      constructor
      · cases hb : bitOf B c.1 i with
        | false => exact .inl rfl
        | true => exact .inr (Nat.ble_eq_true_of_le (h1 hb))
      · cases hb : bitOf B i c.1 with
        | false => exact .inl rfl
        | true => exact .inr (Nat.ble_eq_true_of_le (h2 hb))
  rw [ha, cond_true] at h
  split at h
  · rename_i v hv
    rw [hv, eqA_eq v r.v h]
  · cases h
end Go.Proofs.YtedokmdoompidaaGreatDoor.Ev
