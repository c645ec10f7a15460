/- Regions whose order is drawn: any order does what the planned one does. -/
import Derived.Test.YtedokmdoompidaaGreatDoorEvQ
namespace Go.Proofs.YtedokmdoompidaaGreatDoor.Ev

section
variable (σ : Nat → Value)
variable {P : Program} {GS : Nat → Option Nat} {nt : Nat} {ops : Array Oper} {ds : List Deferred} {T0 : Tr AV} {role : Nat → Role} {Tl : Nat → Tr AV} {Sf : Nat → St} {vf : Nat → AV} {sl : Nat → Option Nat} {bit : Nat → Nat → Bool}
variable {φ0 φ : Phi} {w0 w w' : World} {M : Nat} {a : Act} {Q : Exit → Act → World → Prop}

abbrev Piece := Nat × Tr AV × AV × AV
def Piece.ent (e : Piece) : AV × AV := (e.2.2.1, e.2.2.2)
/-- An operation is done: a map's literal, when all its parts are. -/
def Cm (role : Nat → Role) (X : Nat → Prop) (i : Nat) : Prop := role i ≠ .pc ∧ X i ∧ ∀ p qs, role i = .lit p qs → X p ∧ ∀ e ∈ qs, X e.1

/-- The slots that were written. -/
def Us (n : Nat) (role : Nat → Role) (sl : Nat → Option Nat) (X : Nat → Prop) (t : Nat) : Prop := ∃ k, k < n ∧ sl k = some t ∧ (X k ∨ ∃ p qs, role k = .lit p qs ∧ X p)
structure Big (P : Program) (GS : Nat → Option Nat) (nt : Nat) (ops : Array Oper) (ds : List Deferred) (T0 : Tr AV) (role : Nat → Role) (Sf : Nat → St) (vf : Nat → AV) (sl : Nat → Option Nat) (φ0 : Phi) (w0 : World) (X : Nat → Prop) (φ : Phi) (a : Act) (w : World) : Prop where
  closed : ∀ j o, ops[j]? = some o → X j → ∀ e ∈ o.after, Region.binds .any e = true → X e.on
  inv : ∃ M, Inv σ P GS nt ops ds T0 role Sf vf sl φ0 w0 (Cm role X) (Us ops.size role sl X) M φ a w
  lits : ∀ q p qs, q < ops.size → role q = .lit p qs → X p → ¬ Cm role X q → ∃ m r ents clock, sl q = some m ∧ a.tmps.getD m undef = .map (some r) ∧ w.heap[r]? = some (.map ents clock) ∧ (∀ b k, φ b ≠ some (r, k)) ∧ w0.heap.size ≤ r ∧
    ∃ l : List Piece, l.Nodup ∧ (∀ e, e ∈ l ↔ e ∈ qs ∧ X e.1) ∧ ML σ (φ.below (Sf (q + 1)).nx) (l.map Piece.ent) ents.toList
  apart : ∀ q q' p p' qs qs' m m' r, q < ops.size → q' < ops.size → role q = .lit p qs → role q' = .lit p' qs' → X p → X p' → ¬ Cm role X q → ¬ Cm role X q' → sl q = some m → sl q' = some m' → a.tmps.getD m undef = .map (some r) → a.tmps.getD m' undef = .map (some r) → q = q'

theorem gd_run {φ : Phi} {T : Tr AV} {o : Oper} (ht : TR σ φ T a) {b : Bool} (h : gd ops T o = some b) : Region.wanted o (yielded ops a.tmps) = b := by
  unfold gd at h
  unfold Region.wanted
  cases hg : o.guard with
  | none => rw [hg] at h; simp only [Option.some.injEq] at h; exact h
  | some gw =>
    obtain ⟨j, want⟩ := gw
    rw [hg] at h
    simp only at h ⊢
    unfold yielded
    split at h
    · rename_i t hd
      rw [hd]
      simp only [Option.bind_some]
      split at h
      · rename_i c hc
        have := ht t _ hc
        simp only [V] at this
        have hlt : t < a.tmps.size := by
          rcases Nat.lt_or_ge t a.tmps.size with h | h
          · exact h
          · rw [Array.getD_eq_getD_getElem?, Array.getElem?_eq_none h] at this; cases this
        rw [Array.getD_eq_getD_getElem?, Array.getElem?_eq_getElem hlt, Option.getD_some] at this
        rw [Array.getElem?_eq_getElem hlt, this]
        simp only [Option.some.injEq] at h
        rw [← h]
        cases c <;> cases want <;> rfl
      · rename_i hc
        have := ht t _ hc
        simp only [V, VL] at this
        obtain ⟨vs, hv, rfl⟩ := this
        simp only [Option.some.injEq] at h
        subst h
        cases hx : a.tmps[t]? with
        | none => rfl
        | some y =>
          rw [Array.getD_eq_getD_getElem?, hx, Option.getD_some] at hv
          subst hv; rfl
      · cases h
    · rename_i hd
      rw [hd]
      simp only [Option.some.injEq] at h
      subst h; rfl
theorem ML_perm {φ : Phi} {xs ys : List (AV × AV)} (h : xs.Perm ys) : ∀ {l : List MapEntry}, ML σ φ xs l → ∃ l', l'.Perm l ∧ ML σ φ ys l' := by
  induction h with
  | nil => intro l hl; exact ⟨l, .refl _, hl⟩
  | cons x _ ih =>
    rintro l ⟨e, es, rfl, h1, h2, h3⟩
    obtain ⟨l', g1, g2⟩ := ih h3
    exact ⟨e :: l', g1.cons e, e, l', rfl, h1, h2, g2⟩
  | swap x y r =>
    rintro l ⟨e, es, rfl, h1, h2, e', es', rfl, h3, h4, h5⟩
    exact ⟨e' :: e :: es', .swap _ _ _, e', _, rfl, h3, h4, e, _, rfl, h1, h2, h5⟩
  | trans _ _ ih1 ih2 =>
    intro l hl
    obtain ⟨l1, g1, g2⟩ := ih1 hl
    obtain ⟨l2, g3, g4⟩ := ih2 g2
    exact ⟨l2, g3.trans g1, g4⟩
theorem ML_append {φ : Phi} : ∀ {xs ys : List (AV × AV)} {l r : List MapEntry}, ML σ φ xs l → ML σ φ ys r → ML σ φ (xs ++ ys) (l ++ r)
  | [], ys, l, r, h, k => by simp only [ML] at h; subst h; exact k
  | x :: xs, ys, l, r, h, k => by
    obtain ⟨e, es, rfl, h1, h2, h3⟩ := h
    exact ⟨e, es ++ r, rfl, h1, h2, ML_append h3 k⟩
theorem ML_mem {φ : Phi} : ∀ {xs : List (AV × AV)} {l : List MapEntry}, ML σ φ xs l → ∀ e ∈ l, ∃ x ∈ xs, V σ φ x.1 e.key
  | [], l, h, e, he => by simp only [ML] at h; subst h; cases he
  | x :: xs, l, h, e, he => by
    obtain ⟨e', es, rfl, h1, h2, h3⟩ := h
    rcases List.mem_cons.1 he with rfl | he
    · exact ⟨x, by simp, h1⟩
    · obtain ⟨y, g1, g2⟩ := ML_mem h3 e he
      exact ⟨y, by simp [g1], g2⟩

/-- Slots of what comes before. -/
theorem Big.slots (hp : Plan σ P GS nt ops T0 role Tl Sf vf sl bit) {X : Nat → Prop} (h : Big σ P GS nt ops ds T0 role Sf vf sl φ0 w0 X φ a w) {T : Tr AV} {i : Nat} (hi : i < ops.size) (hXi : ¬ X i) (hbits : ∀ k, bit k i = true → X k)
    (hl : ∀ t x, T.get t = some x → (∃ k, k < ops.size ∧ sl k = some t ∧ x = vf k ∧ k < i ∧ (∀ p qs, role k = .lit p qs → bit p i = true ∧ ∀ e ∈ qs, bit e.1 i = true) ∧ bit k i = true) ∨ (T0.get t = some x ∧ ∀ k, k < ops.size → sl k = some t → ((∀ p qs, role k ≠ .lit p qs) ∧ bit i k = true) ∨ ∃ p qs, role k = .lit p qs ∧ bit i p = true)) :
    TR σ (φ.below (Sf i).nx) T a := by
  obtain ⟨M, inv⟩ := h.inv
  intro t x hx
  rcases hl t x hx with ⟨k, hk, hs, rfl, hki, hlit, hbk⟩ | ⟨h0, hno⟩
  · have ho : ops[k]? = some ops[k] := Array.getElem?_eq_getElem hk
    have hC : Cm role X k := by
      refine ⟨fun hpc => ?_, hbits k hbk, fun p qs hr => ?_⟩
      · rw [(hp.pc k _ ho hpc).2.1] at hs; cases hs
      · obtain ⟨g1, g2⟩ := hlit p qs hr
        exact ⟨hbits p g1, fun e he => hbits _ (g2 e he)⟩
    exact V.mono σ (Phi.below_mono (hp.nxLe σ (show k + 1 ≤ i by omega) (by omega))) _ _ (inv.slots k hk hC t hs)
  · refine V.mono σ (fun b y hy => Phi.below_some.2 ⟨?_, inv.le0 _ _ hy⟩) _ _ (inv.keep t x (fun hU => ?_) h0)
    rotate_left
    · obtain ⟨k, hk, hs, hx⟩ := hU
      have back : ∀ j, j < ops.size → X j → bit i j = true → False := fun j hj hXj hb => by
        have hoj : ops[j]? = some ops[j] := Array.getElem?_eq_getElem hj
        exact hXi (hp.bits X h.closed j _ hoj (fun e he hbd => h.closed j _ hoj hXj e he hbd) i hb)
      have ofLit : ∀ p qs, role k = .lit p qs → X k → X p := fun p qs hr hXk => by
        have hok : ops[k]? = some ops[k] := Array.getElem?_eq_getElem hk
        obtain ⟨_, _, _, ⟨e, he, hek⟩, _, hbp, _⟩ := hp.lit k _ p qs hok hr
        exact hp.bits X h.closed k _ hok (fun e' he' hbd => h.closed k _ hok hXk e' he' hbd) p (by rw [← hek]; exact (hbp e he).2)
      have pLt : ∀ p qs, role k = .lit p qs → p < ops.size := fun p qs hr => by
        obtain ⟨_, _, _, _, _, _, m, op, t, _, hop, _⟩ := hp.lit k _ p qs (Array.getElem?_eq_getElem hk) hr
        exact (Array.getElem?_eq_some_iff.1 hop).1
      rcases hno k hk hs with ⟨hnl, hb⟩ | ⟨p, qs, hr, hb⟩
      · rcases hx with hx | ⟨p, qs, hr, hx⟩
        · exact back k hk hx hb
        · exact hnl p qs hr
      · rcases hx with hx | ⟨p', qs', hr', hx⟩
        · exact back p (pLt p qs hr) (ofLit p qs hr hx) hb
        · rw [hr] at hr'; injection hr' with e1 e2; subst e1
          exact back p (pLt p qs hr) hx hb
    have := inv.dom0 b y hy
    have := hp.nxLe σ (Nat.zero_le i) (by omega)
    omega
/-- A done set with one more, that is no part of a literal. -/
theorem Cm_add {X : Nat → Prop} (hp : Plan σ P GS nt ops T0 role Tl Sf vf sl bit) {i : Nat} (hi : i < ops.size) (h1 : role i ≠ .pc) (h2 : ∀ p qs, role i ≠ .lit p qs) (hdom : ∀ j p qs, role j = .lit p qs → j < ops.size) : Cm role (fun j => X j ∨ j = i) = fun j => Cm role X j ∨ j = i := by
  funext j
  apply propext
  constructor
  · rintro ⟨g1, g2, g3⟩
    by_cases hji : j = i
    · exact .inr hji
    · refine .inl ⟨g1, g2.resolve_right hji, fun p qs hr => ?_⟩
      have hj := hdom j p qs hr
      have ho : ops[j]? = some ops[j] := Array.getElem?_eq_getElem hj
      obtain ⟨_, _, _, _, _, _, m, op, t, _, hop, hrp, _, _, _, kt, vt, ⟨tm, _, _, hins⟩, _⟩ := hp.lit j _ p qs ho hr
      obtain ⟨g4, g5⟩ := g3 p qs hr
      refine ⟨g4.resolve_right (fun e => h1 (e ▸ hrp)), fun e he => (g5 e he).resolve_right (fun e' => ?_)⟩
      obtain ⟨_, _, _, _, hr', _⟩ := hins e he
      rcases hr' with hr' | hr'
      · exact h1 (e' ▸ hr')
      · exact h2 p qs (by rw [← e', hr']; exact hr)
  · rintro (⟨g1, g2, g3⟩ | rfl)
    · exact ⟨g1, .inl g2, fun p qs hr => ⟨.inl (g3 p qs hr).1, fun e he => .inl ((g3 p qs hr).2 e he)⟩⟩
    · exact ⟨h1, .inr rfl, fun p qs hr => absurd hr (h2 p qs)⟩

/-- One operation more that is no part of a literal: what remains to be shown of the rest. -/
theorem Big.next (hp : Plan σ P GS nt ops T0 role Tl Sf vf sl bit) (hdom : ∀ j p qs, role j = .lit p qs → j < ops.size) {X : Nat → Prop} (h : Big σ P GS nt ops ds T0 role Sf vf sl φ0 w0 X φ a w) {i : Nat} {o : Oper} (ho : ops[i]? = some o) (hX : ¬ X i) (hed : ∀ e ∈ o.after, Region.binds .any e = true → X e.on) (h1 : role i ≠ .pc) (h2 : ∀ p qs, role i ≠ .lit p qs)
    {φ1 : Phi} {w1 : World} {u : Value} {M1 : Nat} (hsl : sl i = o.dst) (hinv : Inv σ P GS nt ops ds T0 role Sf vf sl φ0 w0 (fun j => Cm role X j ∨ j = i) (fun t => Us ops.size role sl X t ∨ o.dst = some t) M1 φ1 (a.put o.dst u) w1)
    (hle : φ.le φ1) (hnew : ∀ b r k, φ1 b = some (r, k) → φ b = none → w.heap.size ≤ r ∨ ∃ b0 k0, φ b0 = some (r, k0)) (hheap : ∀ r, r < w.heap.size → (∀ b k, φ b ≠ some (r, k)) → w1.heap[r]? = w.heap[r]?) :
    Big σ P GS nt ops ds T0 role Sf vf sl φ0 w0 (fun j => X j ∨ j = i) φ1 (a.put o.dst u) w1 := by
  have hi : i < ops.size := (Array.getElem?_eq_some_iff.1 ho).1
  have hC := Cm_add σ (X := X) hp hi h1 h2 hdom
  have hpX : ∀ q p qs, role q = .lit p qs → q < ops.size → (X p ∨ p = i) → X p := fun q p qs hr hq hx => hx.resolve_right (fun e => by
    obtain ⟨_, _, _, _, _, _, m, op, t, _, hop, hrp, _⟩ := hp.lit q _ p qs (Array.getElem?_eq_getElem hq) hr
    exact h1 (e ▸ hrp))
  have hslot : ∀ q p qs m, role q = .lit p qs → q < ops.size → sl q = some m → (a.put o.dst u).tmps.getD m undef = a.tmps.getD m undef := fun q p qs m hr hq hm => by
    cases hd : o.dst with
    | none => rfl
    | some t =>
      refine Act.put_getD_ne u (fun e => ?_)
      have := hp.sli i q m hi hq (by rw [hsl, hd, e]) hm
      exact h2 p qs (this ▸ hr)
  exact {
    closed := fun j o' ho' hj e he hb => by
      rcases hj with hj | rfl
      · exact .inl (h.closed j o' ho' hj e he hb)
      · rw [ho] at ho'; injection ho' with ho'; subst ho'; exact .inl (hed e he hb)
    inv := ⟨M1, by
      rw [hC]
      refine hinv.wider σ (fun t ht => ?_)
      rcases ht with ⟨k, hk, hs, hx⟩ | ht
      · exact ⟨k, hk, hs, hx.imp .inl (fun ⟨p, qs, hr, hx⟩ => ⟨p, qs, hr, .inl hx⟩)⟩
      · exact ⟨i, hi, by rw [hsl, ht], .inl (.inr rfl)⟩⟩
    lits := fun q p qs hq hr hx hnc => by
      rw [hC] at hnc
      obtain ⟨m, r, ents, clock, g1, g2, g3, g4, g5, l, g6, g7, g8⟩ := h.lits q p qs hq hr (hpX q p qs hr hq hx) (fun hc => hnc (.inl hc))
      have hrlt : r < w.heap.size := (Array.getElem?_eq_some_iff.1 g3).1
      refine ⟨m, r, ents, clock, g1, by rw [hslot q p qs m hr hq g1]; exact g2, by rw [hheap r hrlt g4]; exact g3, fun b k hb => ?_, g5, l, g6, fun e => ?_, ML.mono σ (Phi.below_le2 hle _) _ _ g8⟩
      · cases hx : φ b with
        | some y =>
          have := hle b y hx
          rw [hb] at this; injection this with this; subst this
          exact g4 b k hx
        | none =>
          rcases hnew b r k hb hx with h3 | ⟨b0, k0, h3⟩
          · omega
          · exact g4 b0 k0 h3
      · rw [g7 e]
        constructor
        · rintro ⟨a1, a2⟩; exact ⟨a1, .inl a2⟩
        · rintro ⟨a1, a2⟩
          refine ⟨a1, a2.resolve_right (fun e' => ?_)⟩
          obtain ⟨_, _, _, _, _, _, m', op, t, _, _, _, _, _, _, kt, vt, ⟨tm, _, _, hins⟩, _⟩ := hp.lit q _ p qs (Array.getElem?_eq_getElem hq) hr
          obtain ⟨_, _, _, _, hr', _⟩ := hins e a1
          rcases hr' with hr' | hr'
          · exact h1 (e' ▸ hr')
          · exact h2 p qs (by rw [← e', hr']; exact hr)
    apart := fun q q' p p' qs qs' m m' r hq hq' hr hr' hx hx' hc hc' hm hm' e1 e2 => by
      rw [hC] at hc hc'
      rw [hslot q p qs m hr hq hm] at e1
      rw [hslot q' p' qs' m' hr' hq' hm'] at e2
      exact h.apart q q' p p' qs qs' m m' r hq hq' hr hr' (hpX q p qs hr hq hx) (hpX q' p' qs' hr' hq' hx') (fun hc1 => hc (.inl hc1)) (fun hc1 => hc' (.inl hc1)) hm hm' e1 e2 }
theorem next_writer (role : Nat → Role) (n : Nat) : ∀ (d m : Nat), m + d = n → ∃ M', m ≤ M' ∧ M' ≤ n ∧ (M' = n ∨ role M' = .wrt) ∧ ∀ c, m ≤ c → c < M' → role c ≠ .wrt
  | 0, m, h => ⟨m, Nat.le_refl _, by omega, .inl (by omega), fun c h1 h2 => by omega⟩
  | d + 1, m, h => by
    by_cases hw : role m = .wrt
    · exact ⟨m, Nat.le_refl _, by omega, .inr hw, fun c h1 h2 => by omega⟩
    · obtain ⟨M', g1, g2, g3, g4⟩ := next_writer role n d (m + 1) (by omega)
      refine ⟨M', by omega, g2, g3, fun c h1 h2 => ?_⟩
      by_cases hc : c = m
      · rw [hc]; exact hw
      · exact g4 c (by omega) h2

/-- An operation that is no part of a literal. -/
theorem Big.step (hσ : Okσ σ) (hp : Plan σ P GS nt ops T0 role Tl Sf vf sl bit) (hdom : ∀ j p qs, role j = .lit p qs → j < ops.size) {X : Nat → Prop} (h : Big σ P GS nt ops ds T0 role Sf vf sl φ0 w0 X φ a w) {i : Nat} {o : Oper} (ho : ops[i]? = some o) (hX : ¬ X i) (hed : ∀ e ∈ o.after, Region.binds .any e = true → X e.on) (h1 : role i ≠ .pc) (h2 : ∀ p qs, role i ≠ .lit p qs)
    {K : Act → World → Prop} (hK : ∀ φ' a' w', Big σ P GS nt ops ds T0 role Sf vf sl φ0 w0 (fun j => X j ∨ j = i) φ' a' w' → K a' w') : wpOp P ops Q i K a w := by
  have hi : i < ops.size := (Array.getElem?_eq_some_iff.1 ho).1
  have hbits : ∀ k, bit k i = true → X k := hp.bits X h.closed i o ho hed
  have hCi : ¬ Cm role X i := fun hc => hX hc.2.1
  have htr := h.slots σ hp hi hX hbits (fun t x hx => hp.lk i t x hi hx)
  obtain ⟨M, inv⟩ := h.inv
  have hglob : ∀ n, (Sf 0).nx ≤ n → Glob GS (φ.below n) := fun n hn g m hg => Phi.below_some.2 ⟨by have := inv.dom0 g _ (inv.glob g m hg); omega, inv.le0 _ _ (inv.glob g m hg)⟩
  have h0i := hp.nxLe σ (Nat.zero_le i) (by omega)
  have hputd : sl i = o.dst → ∀ t, o.dst = some t → ∃ q, q < ops.size ∧ sl q = some t ∧ ¬ Cm role X q := fun hsl t ht => ⟨i, hi, by rw [hsl, ht], hCi⟩
  have hput : ∀ {u : Value} t, sl i = o.dst → sl i = some t → (a.put o.dst u).tmps.getD t undef = u := fun {u} t hsl ht => by
    rw [← hsl, ht]; exact Act.put_getD_same u (Nat.lt_of_lt_of_le (hp.slt i t hi ht) inv.size)
  unfold wpOp
  rw [ho]
  simp only
  cases hr : role i with
  | pc => exact absurd hr h1
  | lit p qs => exact absurd hr (h2 p qs)
  | skp =>
    obtain ⟨g1, g2, g3, g4⟩ := hp.skp i o ho hr
    rw [gd_run σ htr g1]
    simp only [Bool.false_eq_true, if_false]
    refine hK φ _ _ (h.next σ hp hdom ho hX hed h1 h2 g4 (M1 := M) ((inv.put σ hp undef (hputd g4)).add σ (by rw [hr]; simp) (by rw [g3]) (fun t ht => ?_)) (Phi.le_refl φ) (fun b r k hb hn => by rw [hb] at hn; cases hn) (fun r _ _ => rfl))
    rw [hput t g4 ht, g2]
    simp only [V]; exact ⟨[], rfl, by simp only [VL]⟩
  | rdr =>
    obtain ⟨g1, g2, g3, g4, g5⟩ := hp.rdr i o ho hr
    rw [gd_run σ htr g1]
    simp only [if_true]
    refine .inl ?_
    have hv : ∃ u, (execOp a.eval o).run P w = .ok (.value u) w ∧ V σ (φ.below (Sf i).nx) (vf i) u := by
      by_cases hw : ∃ c, role c = .wrt ∧ c < ops.size ∧ ((i ≤ c ∧ c < M) ∨ (M ≤ c ∧ c < i))
      · have k1 := hp.rck i o M ho hr inv.cutM.1 inv.cutM.2 hw
          (fun c hc hrc hb => (inv.cut c hc hrc).1 ⟨by rw [hrc]; simp, hbits c hb, fun p qs hl => by rw [hrc] at hl; cases hl⟩)
          (fun c hc hrc hb => by
            rcases Nat.lt_or_ge c M with hlt | hge
            · have hXc : X c := ((inv.cut c hc hrc).2 hlt).2.1
              have hoc : ops[c]? = some ops[c] := Array.getElem?_eq_getElem hc
              exact absurd (hp.bits X h.closed c _ hoc (fun e he hbd => h.closed c _ hoc hXc e he hbd) i hb) hX
            · exact hge)
        have hW : W σ (φ.below (max (Sf M).nx (Sf i).nx)) ⟨(Sf M).h, max (Sf M).nx (Sf i).nx⟩ w := {
          at_ := fun b blk r n q1 q2 => by
            have hb := inv.w_.dom b blk q1
            obtain ⟨o', e1, e2⟩ := inv.w_.at_ b blk r n q1 (Phi.below_some.2 ⟨hb, (Phi.below_some.1 q2).2⟩)
            exact ⟨o', e1, e2.mono σ (Phi.below_mono (Nat.le_max_left _ _))⟩
          inj := fun b b' blk blk' r n n' q1 q2 q3 q4 => inv.w_.inj b b' blk blk' r n n' q1 q2 (Phi.below_some.2 ⟨inv.w_.dom _ _ q1, (Phi.below_some.1 q3).2⟩) (Phi.below_some.2 ⟨inv.w_.dom _ _ q2, (Phi.below_some.1 q4).2⟩)
          lt := fun b r n q1 => ⟨inv.lt b r n (Phi.below_some.1 q1).2, (Phi.below_some.1 q1).1⟩
          dom := fun b blk q1 => Nat.lt_of_lt_of_le (inv.w_.dom b blk q1) (Nat.le_max_left _ _) }
        obtain ⟨u, e1, e2⟩ := rd_run σ hσ hW (TR.mono σ (Phi.below_mono (Nat.le_max_right _ _)) htr) (hglob _ (Nat.le_trans h0i (Nat.le_max_right _ _))) o (k1 _)
        exact ⟨u, e1, V.mono σ (Phi.below_le2 (Phi.below_le φ _) _) _ _ (g5 _ _ e2)⟩
      · have hiM : i ≤ M := by
          rcases Nat.lt_or_ge M i with hlt | hge
          · rcases inv.cutM.2 with hM | hM
            · omega
            · exact absurd ⟨M, hM, by omega, .inr ⟨Nat.le_refl _, hlt⟩⟩ hw
          · exact hge
        have hst : ∀ b, b < (Sf i).nx → (Sf M).h.get b = (Sf i).h.get b := fun b hb => hp.stableLe σ hiM inv.cutM.1 (fun c c1 c2 hc => hw ⟨c, hc, by have := inv.cutM.1; omega, .inl ⟨c1, c2⟩⟩) hb
        have hnx := hp.nxLe σ hiM inv.cutM.1
        have hW : W σ (φ.below (Sf M).nx) ⟨(Sf i).h, (Sf M).nx⟩ w := {
          at_ := fun b blk r n q1 q2 => by
            have hb := inv.dm i hiM b blk q1
            have q1' : (Sf M).h.get b = some blk := by rw [hst b hb]; exact q1
            exact inv.w_.at_ b blk r n q1' q2
          inj := fun b b' blk blk' r n n' q1 q2 q3 q4 => by
            have q1' : (Sf M).h.get b = some blk := by rw [hst b (inv.dm i hiM b blk q1)]; exact q1
            have q2' : (Sf M).h.get b' = some blk' := by rw [hst b' (inv.dm i hiM b' blk' q2)]; exact q2
            exact inv.w_.inj b b' blk blk' r n n' q1' q2' q3 q4
          lt := fun b r n q1 => inv.w_.lt b r n q1
          dom := fun b blk q1 => Nat.lt_of_lt_of_le (inv.dm i hiM b blk q1) hnx }
        obtain ⟨u, e1, e2⟩ := rd_run σ hσ hW (TR.mono σ (Phi.below_mono hnx) htr) (hglob _ (Nat.le_trans h0i hnx)) o (g2 _)
        exact ⟨u, e1, V.mono σ (Phi.below_le2 (Phi.below_le φ _) _) _ _ (g5 _ _ e2)⟩
    obtain ⟨u, e1, e2⟩ := hv
    unfold Oper.wp
    rw [e1]
    simp only [Oper.upon]
    refine hK φ _ _ (h.next σ hp hdom ho hX hed h1 h2 g4 (M1 := M) ((inv.put σ hp u (hputd g4)).add σ (by rw [hr]; simp) (by rw [g3]) (fun t ht => ?_)) (Phi.le_refl φ) (fun b r k hb hn => by rw [hb] at hn; cases hn) (fun r _ _ => rfl))
    rw [hput t g4 ht, g3]
    exact e2
  | alc blk mk =>
    obtain ⟨g1, g2, g3, g4, g5, g6⟩ := hp.alc i o blk mk ho hr
    rw [gd_run σ htr g1]
    simp only [if_true]
    refine .inl ?_
    obtain ⟨u, w', ob, n, e1, e2, e3, e4, e5⟩ := alA_run σ hσ w htr (hglob _ h0i) o g2
    unfold Oper.wp
    rw [e1]
    simp only [Oper.upon]
    have hsz : w'.heap.size = w.heap.size + 1 := by rw [e2, Array.size_push]
    have hold : ∀ r, r < w.heap.size → w'.heap[r]? = w.heap[r]? := fun r hr => by rw [e2, Array.getElem?_push, if_neg (by omega)]
    have inv1 := (inv.world σ (w' := w') (by omega) (fun r hr _ => hold r hr) e3).put σ hp u (hputd g6)
    have hnone : φ (Sf i).nx = none := inv.fresh σ hp hi hCi (Nat.le_refl _) (by omega)
    have hle : φ.le (φ.set (Sf i).nx (w.heap.size, n)) := fun b x hx => by
      rw [Phi.set_some]; exact .inr ⟨fun e => (by rw [e, hnone] at hx; cases hx), hx⟩
    have inv2 := inv1.birth σ hp hi hCi (by rw [hr]; simp) g5 (blk := blk) (by rw [g4, if_pos rfl]) (r := w.heap.size) (k := n) (o := ob) (by omega) (by rw [e2]; simp)
      (fun b k' hb => by have := inv.lt b _ _ hb; omega) inv.sz
      (e4.mono σ (fun b x hx => Phi.below_some.2 ⟨by have := (Phi.below_some.1 hx).1; omega, hle _ _ (Phi.below_some.1 hx).2⟩))
      (fun t ht => by
        rw [hput t g6 ht, g3]
        exact e5 _ _ (Phi.below_some.2 ⟨by omega, Phi.set_some.2 (.inl ⟨rfl, rfl⟩)⟩))
    refine hK _ _ _ (h.next σ hp hdom ho hX hed h1 h2 g6 inv2 hle (fun b r k hb hn => ?_) (fun r hr _ => hold r hr))
    rw [Phi.set_some] at hb
    rcases hb with ⟨_, hb⟩ | ⟨_, hb⟩
    · injection hb with hb _; exact .inl (by omega)
    · rw [hb] at hn; cases hn
  | wrt =>
    obtain ⟨g1, g2, g3⟩ := hp.wrt i o ho hr
    rw [gd_run σ htr g1]
    simp only [if_true]
    refine .inl ?_
    have hiM : i = M := by
      have h3 : ¬ i < M := fun hlt => hCi ((inv.cut i hi hr).2 hlt)
      rcases inv.cutM.2 with hM | hM
      · omega
      · rcases Nat.lt_or_ge M i with hlt | hge
        · have hMn : M < ops.size := by omega
          have := hbits M (hp.word M i hMn hi hM hr hlt)
          have := (inv.cut M hMn hM).1 ⟨by rw [hM]; simp, this, fun p qs hl => by rw [hM] at hl; cases hl⟩
          omega
        · omega
    subst hiM
    refine g2 (φ.below (Sf i).nx) w a inv.w_ (hglob _ h0i) htr K Q (fun u w' φ1 hpost hv => ?_)
    obtain ⟨M', m1, m2, m3, m4⟩ := next_writer role ops.size (ops.size - (i + 1)) (i + 1) (by omega)
    have inv1 := (inv.put σ hp u (hputd g3)).wrt σ hp hi hr m1 ⟨m2, m3⟩ m4 hpost (fun t ht => by rw [hput t g3 ht]; exact hv)
    refine hK _ _ _ (h.next σ hp hdom ho hX hed h1 h2 g3 inv1 (inv.wrt_le σ hp hi hr hpost) (fun b r k hb hn => ?_) (fun r hr hno => ?_))
    · have hbn : (φ.below (Sf i).nx) b = none := by
        cases hx : (φ.below (Sf i).nx) b with
        | none => rfl
        | some y => rw [(Phi.below_some.1 hx).2] at hn; cases hn
      by_cases hb' : b < (Sf (i + 1)).nx
      · have hb : φ1 b = some (r, k) := by rw [if_pos hb'] at hb; exact hb
        rcases hpost.real b r k hb hbn with h3 | ⟨b0, _, k0, h3, _⟩
        · exact .inl h3
        · exact .inr ⟨b0, k0, (Phi.below_some.1 h3).2⟩
      · have hb : φ b = some (r, k) := by rw [if_neg hb'] at hb; exact hb
        rw [hb] at hn; cases hn
    · exact hpost.frame r hr (fun b blk n hb _ => absurd (Phi.below_some.1 hb).2 (hno b n))
end
end Go.Proofs.YtedokmdoompidaaGreatDoor.Ev
