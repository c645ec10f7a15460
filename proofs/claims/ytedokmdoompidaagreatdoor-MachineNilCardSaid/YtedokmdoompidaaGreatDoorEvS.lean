/- Regions whose order is drawn: the parts of a map's literal; all orders. -/
import Derived.Test.YtedokmdoompidaaGreatDoorEvR
namespace Go.Proofs.YtedokmdoompidaaGreatDoor.Ev

section
variable (σ : Nat → Value)
variable {P : Program} {GS : Nat → Option Nat} {nt : Nat} {ops : Array Oper} {ds : List Deferred} {T0 : Tr AV} {role : Nat → Role} {Tl : Nat → Tr AV} {Sf : Nat → St} {vf : Nat → AV} {sl : Nat → Option Nat} {bit : Nat → Nat → Bool}
variable {φ0 φ : Phi} {w0 w w' : World} {M : Nat} {a : Act} {Q : Exit → Act → World → Prop}

def PieceOf (i p : Nat) (qs : List Piece) : Prop := i = p ∨ ∃ e ∈ qs, e.1 = i
theorem Cm_piece (hp : Plan σ P GS nt ops T0 role Tl Sf vf sl bit) (hdom : ∀ j p qs, role j = .lit p qs → j < ops.size) {X : Nat → Prop} {i q p : Nat} {qs : List Piece} (hq : role q = .lit p qs) (hi : PieceOf i p qs) (hr : role i = .pc ∨ i = q) {j : Nat} (hj : j ≠ q) : Cm role (fun j => X j ∨ j = i) j ↔ Cm role X j := by
  have hne : ∀ p' qs', role j = .lit p' qs' → p' ≠ i ∧ ∀ e ∈ qs', e.1 ≠ i := fun p' qs' hl =>
    ⟨fun e => hj (hp.one j q p' qs' p qs i (hdom _ _ _ hl) (hdom _ _ _ hq) hl hq (.inl e.symm) hi), fun e he h' => hj (hp.one j q p' qs' p qs i (hdom _ _ _ hl) (hdom _ _ _ hq) hl hq (.inr ⟨e, he, h'⟩) hi)⟩
  constructor
  · rintro ⟨g1, g2, g3⟩
    refine ⟨g1, g2.resolve_right (fun e => ?_), fun p' qs' hl => ?_⟩
    · rcases hr with hr | hr
      · exact g1 (e ▸ hr)
      · exact hj (e.trans hr)
    · obtain ⟨n1, n2⟩ := hne p' qs' hl
      obtain ⟨k1, k2⟩ := g3 p' qs' hl
      exact ⟨k1.resolve_right n1, fun e he => (k2 e he).resolve_right (n2 e he)⟩
  · rintro ⟨g1, g2, g3⟩
    exact ⟨g1, .inl g2, fun p' qs' hl => ⟨.inl (g3 p' qs' hl).1, fun e he => .inl ((g3 p' qs' hl).2 e he)⟩⟩

/-- A part of a literal is done: what remains to be shown. -/
theorem Big.piece (hp : Plan σ P GS nt ops T0 role Tl Sf vf sl bit) (hdom : ∀ j p qs, role j = .lit p qs → j < ops.size) {X : Nat → Prop} (h : Big σ P GS nt ops ds T0 role Sf vf sl φ0 w0 X φ a w) {i q p m r : Nat} {qs : List Piece} {o : Oper} (ho : ops[i]? = some o) (hed : ∀ e ∈ o.after, Region.binds .any e = true → X e.on)
    (hq : role q = .lit p qs) (hi : PieceOf i p qs) (hr : role i = .pc ∨ i = q) (hm : sl q = some m) {φ1 : Phi} {a1 : Act} {w1 : World} {M1 : Nat} (hinv : Inv σ P GS nt ops ds T0 role Sf vf sl φ0 w0 (Cm role (fun j => X j ∨ j = i)) (Us ops.size role sl (fun j => X j ∨ j = i)) M1 φ1 a1 w1)
    (hle : φ.le φ1) (hnew : ∀ b r' k, φ1 b = some (r', k) → φ b = none → r' = r) (hslot : ∀ m', m' ≠ m → a1.tmps.getD m' undef = a.tmps.getD m' undef) (hr1 : a1.tmps.getD m undef = .map (some r))
    (hother : ∀ q' p' qs' m' r', q' < ops.size → role q' = .lit p' qs' → q' ≠ q → X p' → ¬ Cm role X q' → sl q' = some m' → a.tmps.getD m' undef = .map (some r') → r' < w.heap.size → r' ≠ r) (hheap : ∀ r', r' < w.heap.size → r' ≠ r → w1.heap[r']? = w.heap[r']?)
    (hmine : ¬ Cm role (fun j => X j ∨ j = i) q → ∃ ents clock, w1.heap[r]? = some (.map ents clock) ∧ (∀ b k, φ1 b ≠ some (r, k)) ∧ w0.heap.size ≤ r ∧ ∃ l : List Piece, l.Nodup ∧ (∀ e, e ∈ l ↔ e ∈ qs ∧ (X e.1 ∨ e.1 = i)) ∧ ML σ (φ1.below (Sf (q + 1)).nx) (l.map Piece.ent) ents.toList) :
    Big σ P GS nt ops ds T0 role Sf vf sl φ0 w0 (fun j => X j ∨ j = i) φ1 a1 w1 := by
  have hq' := hdom _ _ _ hq
  have hne : ∀ j p' qs', role j = .lit p' qs' → j ≠ q → p' ≠ i ∧ ∀ e ∈ qs', e.1 ≠ i := fun j p' qs' hl hj =>
    ⟨fun e => hj (hp.one j q p' qs' p qs i (hdom _ _ _ hl) (hdom _ _ _ hq) hl hq (.inl e.symm) hi), fun e he h' => hj (hp.one j q p' qs' p qs i (hdom _ _ _ hl) (hdom _ _ _ hq) hl hq (.inr ⟨e, he, h'⟩) hi)⟩
  have hmm : ∀ j m', j < ops.size → j ≠ q → sl j = some m' → m' ≠ m := fun j m' hj hjq hs e => hjq (hp.sli j q m' hj hq' hs (e ▸ hm))
  exact {
    closed := fun j o' ho' hj e he hb => by
      rcases hj with hj | rfl
      · exact .inl (h.closed j o' ho' hj e he hb)
      · rw [ho] at ho'; injection ho' with ho'; subst ho'; exact .inl (hed e he hb)
    inv := ⟨M1, hinv⟩
    lits := fun j p' qs' hj hl hx hnc => by
      by_cases hjq : j = q
      · subst hjq
        rw [hq] at hl; injection hl with hl1 hl2; subst hl1; subst hl2
        obtain ⟨ents, clock, g1, g2, g3, l, g4, g5, g6⟩ := hmine hnc
        exact ⟨m, r, ents, clock, hm, hr1, g1, g2, g3, l, g4, g5, g6⟩
      · obtain ⟨n1, n2⟩ := hne j p' qs' hl hjq
        have hx' : X p' := hx.resolve_right n1
        have hnc' : ¬ Cm role X j := fun hc => hnc ((Cm_piece σ hp hdom hq hi hr hjq).2 hc)
        obtain ⟨m', r', ents, clock, g1, g2, g3, g4, g5, l, g6, g7, g8⟩ := h.lits j p' qs' hj hl hx' hnc'
        have hrl : r' < w.heap.size := (Array.getElem?_eq_some_iff.1 g3).1
        have hrr := hother j p' qs' m' r' hj hl hjq hx' hnc' g1 g2 hrl
        refine ⟨m', r', ents, clock, g1, by rw [hslot m' (hmm j m' hj hjq g1)]; exact g2, by rw [hheap r' hrl hrr]; exact g3, fun b k hb => ?_, g5, l, g6, fun e => ?_, ML.mono σ (Phi.below_le2 hle _) _ _ g8⟩
        · cases hy : φ b with
          | some y =>
            have := hle b y hy
            rw [hb] at this; injection this with this; subst this
            exact g4 b k hy
          | none => exact hrr (hnew b r' k hb hy)
        · rw [g7 e]
          exact ⟨fun ⟨a1, a2⟩ => ⟨a1, .inl a2⟩, fun ⟨a1, a2⟩ => ⟨a1, a2.resolve_right (n2 e a1)⟩⟩
    apart := fun j j' p1 p2 qs1 qs2 m1 m2 r' hj hj' hl hl' hx hx' hc hc' hm1 hm2 e1 e2 => by
      have other : ∀ j p' qs' m' r', j < ops.size → role j = .lit p' qs' → j ≠ q → (X p' ∨ p' = i) → ¬ Cm role (fun j => X j ∨ j = i) j → sl j = some m' → a1.tmps.getD m' undef = .map (some r') → r' ≠ r := fun j p' qs' m' r' hj hl hjq hx hnc hs e => by
        obtain ⟨n1, n2⟩ := hne j p' qs' hl hjq
        have hx' : X p' := hx.resolve_right n1
        have hnc' : ¬ Cm role X j := fun hc => hnc ((Cm_piece σ hp hdom hq hi hr hjq).2 hc)
        rw [hslot m' (hmm j m' hj hjq hs)] at e
        obtain ⟨m3, r3, ents, clock, g1, g2, g3, _⟩ := h.lits j p' qs' hj hl hx' hnc'
        rw [hs] at g1; injection g1 with g1; subst g1
        rw [e] at g2; injection g2 with g2; injection g2 with g2; subst g2
        exact hother j p' qs' m' r' hj hl hjq hx' hnc' hs e (Array.getElem?_eq_some_iff.1 g3).1
      by_cases hjq : j = q <;> by_cases hjq' : j' = q
      · rw [hjq, hjq']
      · subst hjq
        rw [hm] at hm1; injection hm1 with hm1; subst hm1
        rw [hr1] at e1; injection e1 with e1; injection e1 with e1; subst e1
        exact absurd rfl (other j' p2 qs2 m2 r hj' hl' hjq' hx' hc' hm2 e2)
      · subst hjq'
        rw [hm] at hm2; injection hm2 with hm2; subst hm2
        rw [hr1] at e2; injection e2 with e2; injection e2 with e2; subst e2
        exact absurd rfl (other j p1 qs1 m1 r hj hl hjq hx hc hm1 e1)
      · obtain ⟨n1, _⟩ := hne j p1 qs1 hl hjq
        obtain ⟨n1', _⟩ := hne j' p2 qs2 hl' hjq'
        rw [hslot m1 (hmm j m1 hj hjq hm1)] at e1
        rw [hslot m2 (hmm j' m2 hj' hjq' hm2)] at e2
        exact h.apart j j' p1 p2 qs1 qs2 m1 m2 r' hj hj' hl hl' (hx.resolve_right n1) (hx'.resolve_right n1') (fun hc1 => hc ((Cm_piece σ hp hdom hq hi hr hjq).2 hc1)) (fun hc1 => hc' ((Cm_piece σ hp hdom hq hi hr hjq').2 hc1)) hm1 hm2 e1 e2 }

theorem nodup_fst {α β : Type} (f : α → β) : ∀ (l : List α), (l.map f).Nodup → ∀ x ∈ l, ∀ y ∈ l, f x = f y → x = y
  | [], _, x, hx, _, _, _ => by cases hx
  | a :: l, h, x, hx, y, hy, hxy => by
    rw [List.map_cons, List.nodup_cons] at h
    rcases List.mem_cons.1 hx with h1 | h1 <;> rcases List.mem_cons.1 hy with h2 | h2
    · rw [h1, h2]
    · exact absurd (List.mem_map.2 ⟨y, h2, by rw [← hxy, h1]⟩) h.1
    · exact absurd (List.mem_map.2 ⟨x, h1, by rw [hxy, h2]⟩) h.1
    · exact nodup_fst f l h.2 x h1 y h2 hxy
theorem eqv_leaf {P : Program} (n : Nat) (S : St) : ∀ (d : Nat) (t : TypeId) (x y : AV), eqv P ⟨S.h, n⟩ d t x y = eqv P S d t x y
  | 0, t, x, y => rfl
  | d + 1, t, x, y => by
    have hpl : ∀ b, plainBlk ⟨S.h, n⟩ b = plainBlk S b := fun b => rfl
    have : eqv P ⟨S.h, n⟩ d = eqv P S d := by funext t x y; exact eqv_leaf n S d t x y
    simp only [eqv, hpl, this]

/-- A map is made, to be filled. -/
theorem Big.stepMk (hp : Plan σ P GS nt ops T0 role Tl Sf vf sl bit) (hdom : ∀ j p qs, role j = .lit p qs → j < ops.size) {X : Nat → Prop} (h : Big σ P GS nt ops ds T0 role Sf vf sl φ0 w0 X φ a w) {q p : Nat} {qs : List Piece} {o : Oper} (ho : ops[p]? = some o) (hX : ¬ X p) (hed : ∀ e ∈ o.after, Region.binds .any e = true → X e.on) (hq : role q = .lit p qs)
    {K : Act → World → Prop} (hK : ∀ φ' a' w', Big σ P GS nt ops ds T0 role Sf vf sl φ0 w0 (fun j => X j ∨ j = p) φ' a' w' → K a' w') : wpOp P ops Q p K a w := by
  have hqn := hdom _ _ _ hq
  obtain ⟨_, _, _, ⟨e0, he0, he0q⟩, _, hbp, m, op, t, hm, hop, hrp, hopk, hog, hod, _⟩ := hp.lit q _ p qs (Array.getElem?_eq_getElem hqn) hq
  rw [ho] at hop; injection hop with hop; subst hop
  have hpn : p < ops.size := (Array.getElem?_eq_some_iff.1 ho).1
  have hXe : ∀ e ∈ qs, ¬ X e.1 := fun e he hx => by
    obtain ⟨h1, h2⟩ := hbp e he
    have hoe : ops[e.1]? = some (ops[e.1]'(by omega)) := Array.getElem?_eq_getElem _
    exact hX (hp.bits X h.closed e.1 _ hoe (fun e' he' hb => h.closed e.1 _ hoe hx e' he' hb) p h2)
  have hCq : ¬ Cm role X q := fun hc => hXe e0 he0 ((hc.2.2 p qs hq).2 e0 he0)
  have hne : ∀ e ∈ qs, e.1 ≠ p := fun e he h' => by have := hp.bitlt p e.1 (hbp e he).2; omega
  have hCq' : ¬ Cm role (fun j => X j ∨ j = p) q := fun hc => by
    rcases (hc.2.2 p qs hq).2 e0 he0 with h1 | h1
    · exact hXe e0 he0 h1
    · exact hne e0 he0 h1
  have hC : Cm role (fun j => X j ∨ j = p) = Cm role X := by
    funext j; apply propext
    by_cases hj : j = q
    · subst hj; exact ⟨fun hc => absurd hc hCq', fun hc => absurd hc hCq⟩
    · exact Cm_piece σ hp hdom hq (.inl rfl) (.inl hrp) hj
  obtain ⟨M, inv⟩ := h.inv
  unfold wpOp
  rw [ho]
  have hw : Region.wanted o (yielded ops a.tmps) = true := by unfold Region.wanted; rw [hog]
  simp only [hw, if_true]
  refine .inl ?_
  have hrun : (execOp a.eval o).run P w = .ok (.value (.map (some w.heap.size))) { w with heap := w.heap.push (.map #[] 0) } := by
    unfold execOp
    rw [hopk]
    rfl
  unfold Oper.wp
  rw [hrun]
  simp only [Oper.upon]
  have hmlt : m < a.tmps.size := Nat.lt_of_lt_of_le (hp.slt q m hqn hm) inv.size
  refine hK φ _ _ (h.piece σ hp hdom (m := m) (r := w.heap.size) ho hed hq (.inl rfl) (.inl hrp) hm (M1 := M) ?_ (Phi.le_refl φ) (fun b r' k hb hn => by rw [hb] at hn; cases hn) ?_ ?_ ?_ ?_ ?_)
  · rw [hC]
    refine (Inv.put σ hp (inv.world σ (w' := { w with heap := w.heap.push (.map #[] 0) }) (by simp) (fun r hr _ => by rw [Array.getElem?_push, if_neg (by omega)]) ⟨rfl, rfl, rfl⟩) _ (fun t ht => ?_)).wider σ (fun t ht => ?_)
    · rw [hod] at ht; injection ht with ht; subst ht
      exact ⟨q, hqn, hm, hCq⟩
    · rcases ht with ⟨k, hk, hs, hx⟩ | ht
      · exact ⟨k, hk, hs, hx.imp .inl (fun ⟨p, qs, hr, hx⟩ => ⟨p, qs, hr, .inl hx⟩)⟩
      · rw [hod] at ht; injection ht with ht; subst ht
        exact ⟨q, hqn, hm, .inr ⟨p, qs, hq, .inr rfl⟩⟩
  · intro m' hm'
    rw [hod]; exact Act.put_getD_ne _ (Ne.symm hm')
  · rw [hod]; exact Act.put_getD_same _ hmlt
  · intro _ _ _ _ r' _ _ _ _ _ _ _ hlt; omega
  · intro r' hr' _; rw [Array.getElem?_push, if_neg (by omega)]
  · intro _
    refine ⟨#[], 0, by simp, fun b k hb => ?_, inv.sz, [], List.nodup_nil, fun e => ?_, by simp [ML]⟩
    · have := inv.lt b _ _ hb; omega
    · constructor
      · intro he; cases he
      · rintro ⟨g1, g2 | g2⟩
        · exact absurd g2 (hXe e g1)
        · exact absurd g2 (hne e g1)
/-- An entry is put into a map that is being made. -/
theorem Big.stepIns (hp : Plan σ P GS nt ops T0 role Tl Sf vf sl bit) (hdom : ∀ j p qs, role j = .lit p qs → j < ops.size) {X : Nat → Prop} (h : Big σ P GS nt ops ds T0 role Sf vf sl φ0 w0 X φ a w) {q p i : Nat} {qs : List Piece} {o : Oper} (ho : ops[i]? = some o) (hX : ¬ X i) (hed : ∀ e ∈ o.after, Region.binds .any e = true → X e.on) (hq : role q = .lit p qs) {e : Piece} (he : e ∈ qs) (hei : e.1 = i)
    {K : Act → World → Prop} (hK : ∀ φ' a' w', Big σ P GS nt ops ds T0 role Sf vf sl φ0 w0 (fun j => X j ∨ j = i) φ' a' w' → K a' w') : wpOp P ops Q i K a w := by
  subst hei
  have hqn := hdom _ _ _ hq
  obtain ⟨hvq, hput, hnx, ⟨e0, he0, he0q⟩, hnd, hbp, m, op, t, hm, hop, hrp, _, _, _, kt, vt, ⟨tm, hu, hkt, hins⟩, hkeys⟩ := hp.lit q _ p qs (Array.getElem?_eq_getElem hqn) hq
  obtain ⟨oi, kx, vx, hoi, hri, hopi, hgi, hdi, hk1, hv1⟩ := hins e he
  rw [ho] at hoi; injection hoi with hoi; subst hoi
  have hin : e.1 < ops.size := (Array.getElem?_eq_some_iff.1 ho).1
  have hbits : ∀ k, bit k e.1 = true → X k := hp.bits X h.closed e.1 o ho hed
  have hXp : X p := hbits p (hbp e he).2
  have hCq : ¬ Cm role X q := fun hc => hX ((hc.2.2 p qs hq).2 e he)
  have htr := h.slots σ hp hin hX hbits (fun t x hx => hp.lkl q p qs hqn hq e he t x hx)
  obtain ⟨m', r, ents, clock, l1, l2, l3, l4, l5, l, l6, l7, l8⟩ := h.lits q p qs hqn hq hXp hCq
  rw [hm] at l1; injection l1 with l1; subst l1
  obtain ⟨M, inv⟩ := h.inv
  have hrlt : r < w.heap.size := (Array.getElem?_eq_some_iff.1 l3).1
  have h0e := hp.nxLe σ (Nat.zero_le e.1) (by omega)
  have hglob : Glob GS (φ.below (Sf e.1).nx) := fun g n hg => Phi.below_some.2 ⟨by have := inv.dom0 g _ (inv.glob g n hg); omega, inv.le0 _ _ (inv.glob g n hg)⟩
  have hkv := opd_V σ htr hglob hk1
  have hvv := opd_V σ htr hglob hv1
  have hkv' := V.mono σ (Phi.below_le φ _) _ _ hkv
  have hvv' := V.mono σ (Phi.below_le φ _) _ _ hvv
  -- the key is a new one
  have hWl : W σ φ ⟨.leaf, (Sf ops.size).nx⟩ w := {
    at_ := fun b blk r n q1 _ => by simp [Tr.get] at q1
    inj := fun b b' blk blk' r n n' q1 _ _ _ => by simp [Tr.get] at q1
    lt := fun b r n q1 => ⟨inv.lt b r n q1, by
      rcases inv.dom b _ q1 with hh | ⟨_, j, hj, _, _, hh⟩
      · exact Nat.lt_of_lt_of_le (inv.dom0 b _ hh) (hp.nxLe σ (Nat.zero_le _) (Nat.le_refl _))
      · exact Nat.lt_of_lt_of_le hh (hp.nxLe σ (show j + 1 ≤ ops.size by omega) (Nat.le_refl _))⟩
    dom := fun b blk q1 => by simp [Tr.get] at q1 }
  obtain ⟨d, hd⟩ := keyT_und hkt
  have hfind : (Instr.findKey kt (a.eval kx) ents.toList).run P w = .ok none w := by
    refine findKey_asking hd (asking_none ents.toList 0 (fun en hen => ?_))
    obtain ⟨x, hx, hxv⟩ := ML_mem σ l8 en hen
    obtain ⟨e', he', rfl⟩ := List.mem_map.1 hx
    have := (l7 e').1 he'
    have hne : e.1 ≠ e'.1 := fun hh => hX (hh ▸ this.2)
    have hq1 := hkeys e he e' this.1 hne
    rw [← eqv_leaf (Sf ops.size).nx ⟨.leaf, 0⟩] at hq1
    exact eqv_run σ hWl 20 kt _ _ false hq1 _ _ hkv' (V.mono σ (Phi.below_le φ _) _ _ hxv) Op.maxDepth (by decide)
  have hgo : (getObj r).run P w = .ok (.map ents clock) w := by simp [getObj, Sem.run, l3]
  have hso : ∀ o', (setObj r o').run P w = .ok () { w with heap := w.heap.setIfInBounds r o' } := fun o' => by simp [setObj, Sem.run, l3]
  have hev : a.eval (.tmp m) = .map (some r) := l2
  unfold wpOp
  rw [ho]
  have hw : Region.wanted o (yielded ops a.tmps) = true := by unfold Region.wanted; rw [hgi]
  simp only [hw, if_true]
  refine .inl ?_
  have hrun : (execOp a.eval o).run P w = .ok .skip { w with heap := w.heap.setIfInBounds r (.map (ents.push { key := a.eval kx, val := a.eval vx, born := clock }) (clock + 1)) } := by
    unfold execOp
    rw [hopi]
    simp only [hev, Instr.mapUpdate, Sem.run_bind, run_underlying hu, Result.andThen_ok, hgo, keyT_check hkt, hfind, hso, Sem.run_pure]
  unfold Oper.wp
  rw [hrun]
  simp only [Oper.upon, hdi, Act.put]
  generalize hw1 : ({ w with heap := w.heap.setIfInBounds r (.map (ents.push { key := a.eval kx, val := a.eval vx, born := clock }) (clock + 1)) } : World) = w1
  have hw1h : w1.heap = w.heap.setIfInBounds r (.map (ents.push { key := a.eval kx, val := a.eval vx, born := clock }) (clock + 1)) := by rw [← hw1]
  have hw1r : w1.os = w.os ∧ w1.tape = w.tape ∧ w1.output = w.output := by rw [← hw1]; exact ⟨rfl, rfl, rfl⟩
  have hw1at : w1.heap[r]? = some (.map (ents.push { key := a.eval kx, val := a.eval vx, born := clock }) (clock + 1)) := by rw [hw1h, Array.getElem?_setIfInBounds_self_of_lt hrlt]
  have hw1ne : ∀ r', r' ≠ r → w1.heap[r']? = w.heap[r']? := fun r' hr' => by rw [hw1h, Array.getElem?_setIfInBounds_ne (Ne.symm hr')]
  have hw1sz : w1.heap.size = w.heap.size := by rw [hw1h, Array.size_setIfInBounds]
  have inv1 := inv.world σ (w' := w1) (by omega) (fun r' hr' hh => hw1ne r' (fun hh' => by
    subst hh'
    rcases hh with ⟨b, k, hb⟩ | hh
    · exact l4 b k hb
    · omega)) hw1r
  have hentl : (ents.push { key := a.eval kx, val := a.eval vx, born := clock }).toList = ents.toList ++ [{ key := a.eval kx, val := a.eval vx, born := clock }] := by simp
  have hnxe := hp.nxLe σ (show e.1 ≤ q + 1 by have := (hbp e he).1; omega) (by omega)
  have hml : ∀ (ψ : Phi), φ.le ψ → ML σ (ψ.below (Sf (q + 1)).nx) ((l ++ [e]).map Piece.ent) (ents.push { key := a.eval kx, val := a.eval vx, born := clock }).toList := fun ψ hψ => by
    rw [hentl, List.map_append]
    exact ML_append σ (ML.mono σ (Phi.below_le2 hψ _) _ _ l8) ⟨_, [], rfl, V.mono σ (Phi.le_trans (Phi.below_le2 hψ _) (Phi.below_mono hnxe)) _ _ hkv, V.mono σ (Phi.le_trans (Phi.below_le2 hψ _) (Phi.below_mono hnxe)) _ _ hvv, rfl⟩
  have hel : e ∉ l := fun hh => hX ((l7 e).1 hh).2
  have hnodup : (l ++ [e]).Nodup := List.nodup_append.2 ⟨l6, by simp, fun x hx y hy => by
    simp only [List.mem_singleton] at hy; subst hy; intro hh; subst hh; exact hel hx⟩
  have honly : ∀ e' ∈ qs, e'.1 = e.1 → e' = e := fun e' he' hh => by
    exact nodup_fst (·.1) qs hnd e' he' e he hh
  have hmem : ∀ x, x ∈ l ++ [e] ↔ x ∈ qs ∧ (X x.1 ∨ x.1 = e.1) := fun x => by
    rw [List.mem_append, List.mem_singleton, l7 x]
    constructor
    · rintro (⟨h1, h2⟩ | rfl)
      · exact ⟨h1, .inl h2⟩
      · exact ⟨he, .inr rfl⟩
    · rintro ⟨h1, h2 | h2⟩
      · exact .inl ⟨h1, h2⟩
      · exact .inr (honly x h1 h2)
  have hother : ∀ q' p' qs' m' r', q' < ops.size → role q' = .lit p' qs' → q' ≠ q → X p' → ¬ Cm role X q' → sl q' = some m' → a.tmps.getD m' undef = .map (some r') → r' < w.heap.size → r' ≠ r := fun q' p' qs' m' r' h1 h2 h3 h4 h5 h6 h7 _ hh => by
    subst hh
    exact h3 (h.apart q' q p' p qs' qs m' m r' h1 hqn h2 hq h4 hXp h5 hCq h6 hm h7 l2)
  have hwide : ∀ t, Us ops.size role sl X t → Us ops.size role sl (fun j => X j ∨ j = e.1) t := fun t ⟨k, hk, hs, hx⟩ => ⟨k, hk, hs, hx.imp .inl (fun ⟨p, qs, hr, hx⟩ => ⟨p, qs, hr, .inl hx⟩)⟩
  by_cases hfull : Cm role (fun j => X j ∨ j = e.1) q
  · -- the last one
    have hCeq : Cm role (fun j => X j ∨ j = e.1) = fun j => Cm role X j ∨ j = q := by
      funext j; apply propext
      by_cases hj : j = q
      · subst hj; exact ⟨fun _ => .inr rfl, fun _ => hfull⟩
      · rw [Cm_piece σ hp hdom hq (.inr ⟨e, he, rfl⟩) hri hj]
        exact ⟨.inl, fun hh => hh.resolve_right hj⟩
    have hnone : φ (Sf q).nx = none := inv.fresh σ hp hqn hCq (Nat.le_refl _) (by omega)
    have hle : φ.le (φ.set (Sf q).nx (r, 0)) := fun b x hx => by
      rw [Phi.set_some]; exact .inr ⟨fun ee => (by rw [ee, hnone] at hx; cases hx), hx⟩
    have hperm : (l ++ [e]).Perm qs := (List.perm_ext_iff_of_nodup hnodup (List.Pairwise.of_map (·.1) (fun x y hxy hh => hxy (by rw [hh])) hnd)).2 (fun x => by
      rw [hmem x]
      exact ⟨fun hh => hh.1, fun hh => ⟨hh, (hfull.2.2 p qs hq).2 x hh⟩⟩)
    obtain ⟨l', p1, p2⟩ := ML_perm σ (hperm.map Piece.ent) (hml _ hle)
    have inv2 := inv1.birth σ hp hqn hCq (by rw [hq]; simp) hnx (blk := .map (qs.map Piece.ent)) (by rw [hput, if_pos rfl]; rfl) (r := r) (k := 0) (by omega) hw1at l4 l5 ⟨_, _, rfl, l', p1, p2⟩ (fun t ht => by
      rw [hm] at ht; injection ht with ht; subst ht
      rw [l2, hvq]
      simp only [V]
      exact ⟨r, 0, Phi.below_some.2 ⟨by omega, Phi.set_some.2 (.inl ⟨rfl, rfl⟩)⟩, rfl⟩)
    refine hK _ a w1 (h.piece σ hp hdom (m := m) (r := r) ho hed hq (.inr ⟨e, he, rfl⟩) hri hm (M1 := M) (by rw [hCeq]; exact inv2.wider σ hwide) hle (fun b r' k hb hn => ?_) (fun _ _ => rfl) l2 hother (fun r' _ hr' => hw1ne r' hr') (fun hc => absurd hfull hc))
    rw [Phi.set_some] at hb
    rcases hb with ⟨_, hb⟩ | ⟨_, hb⟩
    · injection hb
    · rw [hb] at hn; cases hn
  · have hCeq : Cm role (fun j => X j ∨ j = e.1) = Cm role X := by
      funext j; apply propext
      by_cases hj : j = q
      · subst hj; exact ⟨fun hc => absurd hc hfull, fun hc => absurd hc hCq⟩
      · exact Cm_piece σ hp hdom hq (.inr ⟨e, he, rfl⟩) hri hj
    refine hK φ a w1 (h.piece σ hp hdom (m := m) (r := r) ho hed hq (.inr ⟨e, he, rfl⟩) hri hm (M1 := M) (by rw [hCeq]; exact inv1.wider σ hwide) (Phi.le_refl φ) (fun b r' k hb hn => by rw [hb] at hn; cases hn) (fun _ _ => rfl) l2 hother (fun r' _ hr' => hw1ne r' hr') (fun _ => ⟨_, _, hw1at, l4, l5, l ++ [e], hnodup, hmem, hml φ (Phi.le_refl φ)⟩))
end
end Go.Proofs.YtedokmdoompidaaGreatDoor.Ev
