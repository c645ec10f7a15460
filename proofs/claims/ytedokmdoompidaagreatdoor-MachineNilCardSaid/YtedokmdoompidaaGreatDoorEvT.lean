/- Regions whose order is drawn: the whole. -/
import Derived.Test.YtedokmdoompidaaGreatDoorEvS
namespace Go.Proofs.YtedokmdoompidaaGreatDoor.Ev

section
variable (σ : Nat → Value)
variable {P : Program} {GS : Nat → Option Nat} {nt : Nat} {ops : Array Oper} {ds : List Deferred} {T0 : Tr AV} {role : Nat → Role} {Tl : Nat → Tr AV} {Sf : Nat → St} {vf : Nat → AV} {sl : Nat → Option Nat} {bit : Nat → Nat → Bool}
variable {φ0 φ : Phi} {w0 w w' : World} {M : Nat} {a : Act} {Q : Exit → Act → World → Prop}

theorem countP_ne (p : Nat → Bool) (i : Nat) : ∀ (l : List Nat), l.Nodup → i ∈ l → p i = true → l.countP p = l.countP (fun x => p x && x != i) + 1
  | [], _, hi, _ => by cases hi
  | x :: l, hn, hi, hp => by
    rw [List.nodup_cons] at hn
    rw [List.countP_cons, List.countP_cons]
    rcases List.mem_cons.1 hi with rfl | hi
    · have : l.countP (fun x => p x && x != i) = l.countP p := by
        apply List.countP_congr
        intro x hx
        have : x ≠ i := fun e => hn.1 (e ▸ hx)
        simp [this]
      simp [hp, this]
    · have hne : x ≠ i := fun e => hn.1 (e ▸ hi)
      rw [countP_ne p i l hn.2 hi hp]
      simp [hne]
      omega
def un (n : Nat) (listed : Array Bool) : Nat := (List.range n).countP (fun i => !listed.getD i true)

theorem any_run (hσ : Okσ σ) (hp : Plan σ P GS nt ops T0 role Tl Sf vf sl bit) (hdom : ∀ j p qs, role j = .lit p qs → j < ops.size) (hedge : ∀ j o, ops[j]? = some o → ∀ e ∈ o.after, Region.binds .any e = true → e.on < j) (hrole : ∀ i, i < ops.size → role i = .pc ∨ (∃ p qs, role i = .lit p qs) ∨ (role i ≠ .pc ∧ ∀ p qs, role i ≠ .lit p qs))
    (hQ : ∀ X φ a w, Big σ P GS nt ops ds T0 role Sf vf sl φ0 w0 X φ a w → (∀ i, i < ops.size → X i) → Q .normal a w) : ∀ (fuel : Nat) (listed : Array Bool) (φ : Phi) (a : Act) (w : World), listed.size = ops.size → un ops.size listed ≤ fuel →
    Big σ P GS nt ops ds T0 role Sf vf sl φ0 w0 (fun j => listed.getD j false = true) φ a w → wpAny P .any ops Q fuel listed a w := by
  have hall : ∀ listed : Array Bool, listed.size = ops.size → Region.ready .any ops listed = [] → ∀ i, i < ops.size → listed.getD i false = true := fun listed hsz hr i => by
    induction i using Nat.strongRecOn with
    | _ i ih =>
      intro hi
      cases hc : listed.getD i false with
      | true => rfl
      | false =>
        have ho : ops[i]? = some ops[i] := Array.getElem?_eq_getElem hi
        have hm : i ∈ Region.ready .any ops listed := mem_ready.2 ⟨by
          have hlt : i < listed.size := by omega
          rw [Array.getD_eq_getD_getElem?, Array.getElem?_eq_getElem hlt] at hc ⊢
          exact hc, _, ho, fun e he hb => ih e.on (hedge i _ ho e he hb) (by have := hedge i _ ho e he hb; omega)⟩
        rw [hr] at hm; cases hm
  intro fuel
  induction fuel with
  | zero =>
    intro listed φ a w hsz hun h
    have hr : Region.ready .any ops listed = [] := by
      cases hc : Region.ready .any ops listed with
      | nil => rfl
      | cons i l =>
        exfalso
        have hm : i ∈ Region.ready .any ops listed := by rw [hc]; simp
        obtain ⟨h1, o, ho, _⟩ := mem_ready.1 hm
        have hi : i < ops.size := (Array.getElem?_eq_some_iff.1 ho).1
        have : 0 < un ops.size listed := List.countP_pos_iff.2 ⟨i, List.mem_range.2 hi, by rw [h1]; rfl⟩
        omega
    exact ⟨hr, hQ _ φ a w h (hall listed hsz hr)⟩
  | succ fuel ih =>
    intro listed φ a w hsz hun h
    refine ⟨fun hr => hQ _ φ a w h (hall listed hsz hr), fun i hi => ?_⟩
    obtain ⟨h1, o, ho, hed⟩ := mem_ready.1 hi
    have hin : i < ops.size := (Array.getElem?_eq_some_iff.1 ho).1
    have hX : ¬ (listed.getD i false = true) := fun hh => by
      have hlt : i < listed.size := by omega
      rw [Array.getD_eq_getD_getElem?, Array.getElem?_eq_getElem hlt] at h1 hh
      simp only [Option.getD_some] at h1 hh
      rw [h1] at hh; cases hh
    have hX' : (fun j => (listed.setIfInBounds i true).getD j false = true) = fun j => (listed.getD j false = true) ∨ j = i := by
      funext j; apply propext
      by_cases hj : i = j
      · subst hj
        have hlt : i < listed.size := by omega
        simp [hlt]
      · rw [getD_set_ne false hj]
        exact ⟨.inl, fun hh => hh.resolve_right (fun e => hj e.symm)⟩
    have hun' : un ops.size (listed.setIfInBounds i true) ≤ fuel := by
      have h2 := countP_ne (fun j => !listed.getD j true) i (List.range ops.size) List.nodup_range (List.mem_range.2 hin) (by rw [h1]; rfl)
      have h3 : un ops.size (listed.setIfInBounds i true) = (List.range ops.size).countP (fun x => (!listed.getD x true) && x != i) := by
        unfold un
        apply List.countP_congr
        intro x hx
        have hx := List.mem_range.1 hx
        by_cases hxi : i = x
        · subst hxi
          have hlt : i < listed.size := by omega
          simp [hlt]
        · rw [getD_set_ne true hxi]
          simp [Ne.symm hxi]
      unfold un at hun
      rw [h3]
      omega
    have hK : ∀ φ' a' w', Big σ P GS nt ops ds T0 role Sf vf sl φ0 w0 (fun j => (listed.getD j false = true) ∨ j = i) φ' a' w' → wpAny P .any ops Q fuel (listed.setIfInBounds i true) a' w' := fun φ' a' w' hb =>
      ih _ φ' a' w' (by rw [Array.size_setIfInBounds]; exact hsz) hun' (by rw [hX']; exact hb)
    rcases hrole i hin with hr | ⟨p, qs, hr⟩ | ⟨hr1, hr2⟩
    · obtain ⟨_, _, q, p, qs, hq, hrq, hpi⟩ := hp.pc i o ho hr
      rcases hpi with rfl | ⟨e, he, rfl⟩
      · exact h.stepMk σ hp hdom ho hX hed hrq hK
      · exact h.stepIns σ hp hdom ho hX hed hrq he rfl hK
    · obtain ⟨_, _, _, ⟨e, he, hei⟩, _⟩ := hp.lit i o p qs ho hr
      exact h.stepIns σ hp hdom ho hX hed hr he hei hK
    · exact h.step σ hσ hp hdom ho hX hed hr1 hr2 hK

theorem Plan.domLe (hp : Plan σ P GS nt ops T0 role Tl Sf vf sl bit) {m : Nat} (hm : ∀ b blk, (Sf m).h.get b = some blk → b < (Sf m).nx) : ∀ (d : Nat), m + d ≤ ops.size → (∀ c, m ≤ c → c < m + d → role c ≠ .wrt) → ∀ b blk, (Sf (m + d)).h.get b = some blk → b < (Sf (m + d)).nx
  | 0, _, _, b, blk, hb => hm b blk hb
  | d + 1, hd, hw, b, blk, hb => by
    have hi : m + d < ops.size := by omega
    have ho : ops[m + d]? = some ops[m + d] := Array.getElem?_eq_getElem hi
    have hih := hp.domLe hm d (by omega) (fun c h1 h2 => hw c h1 (by omega))
    have hnw := hw (m + d) (by omega) (by omega)
    rw [show m + (d + 1) = (m + d) + 1 by omega] at hb ⊢
    cases hr : role (m + d) with
    | skp => rw [(hp.skp _ _ ho hr).2.2.1] at hb ⊢; exact hih b blk hb
    | rdr => rw [(hp.rdr _ _ ho hr).2.2.1] at hb ⊢; exact hih b blk hb
    | alc blk0 mk =>
      obtain ⟨_, _, _, g1, g2, _⟩ := hp.alc _ _ blk0 mk ho hr
      rw [g1] at hb; rw [g2]
      split at hb
      · omega
      · have := hih b blk hb; omega
    | wrt => exact absurd hr hnw
    | pc => rw [(hp.pc _ _ ho hr).1] at hb ⊢; exact hih b blk hb
    | lit p qs =>
      obtain ⟨_, g1, g2, _⟩ := hp.lit _ _ p qs ho hr
      rw [g1] at hb; rw [g2]
      split at hb
      · omega
      · have := hih b blk hb; omega

/-- A region whose order is drawn does what the planned order does. -/
theorem draw_run (hσ : Okσ σ) (hp : Plan σ P GS nt ops T0 role Tl Sf vf sl bit) (hdom : ∀ j p qs, role j = .lit p qs → j < ops.size) (hedge : ∀ j o, ops[j]? = some o → ∀ e ∈ o.after, Region.binds .any e = true → e.on < j) {Tn : Tr AV} (hfin : ∀ t x, Tn.get t = some x → (∃ k, k < ops.size ∧ sl k = some t ∧ x = vf k) ∨ (T0.get t = some x ∧ ∀ k, k < ops.size → sl k ≠ some t))
    (hW : W σ φ0 (Sf 0) w0) (hg : Glob GS φ0) (ht : TR σ φ0 T0 a) (hsz : nt ≤ a.tmps.size) (hdf : a.defers = ds)
    (hQ : ∀ φ a w, Post σ φ0 (Sf 0) w0 φ (Sf ops.size) w → TR σ φ Tn a → nt ≤ a.tmps.size → a.defers = ds → Q .normal a w) : wpAny P .any ops Q ops.size (Array.replicate ops.size false) a w0 := by
  have hrole : ∀ i, i < ops.size → role i = .pc ∨ (∃ p qs, role i = .lit p qs) ∨ (role i ≠ .pc ∧ ∀ p qs, role i ≠ .lit p qs) := fun i _ => by
    cases role i <;> simp
  have hempty : (fun j => (Array.replicate ops.size false).getD j false = true) = fun _ => False := by
    funext j
    simp [Array.getElem?_replicate]
    split <;> rfl
  obtain ⟨M, _, m2, m3, m4⟩ := next_writer role ops.size ops.size 0 (by omega)
  have hd0 : ∀ b x, φ0 b = some x → b < (Sf 0).nx := fun b x hb => (hW.lt b x.1 x.2 hb).2
  have hnc : ∀ i, ¬ Cm role (fun _ => False) i := fun i hc => hc.2.1
  have n0 := hp.nxLe σ (Nat.zero_le M) m2
  have hle : φ0.le (φ0.below (Sf M).nx) := fun b x hb => Phi.below_some.2 ⟨by have := hd0 b x hb; omega, hb⟩
  have hst : ∀ b, b < (Sf 0).nx → (Sf M).h.get b = (Sf 0).h.get b := fun b hb => hp.stableLe σ (Nat.zero_le M) m2 (fun c _ hc => m4 c (Nat.zero_le c) hc) hb
  have hdM := hp.domLe σ (m := 0) hW.dom
  have inv0 : Inv σ P GS nt ops ds T0 role Sf vf sl φ0 w0 (Cm role (fun _ => False)) (Us ops.size role sl (fun _ => False)) M φ0 a w0 := {
    cut := fun c hc hr => ⟨fun hh => absurd hh (hnc c), fun hh => absurd hr (m4 c (Nat.zero_le c) hh)⟩
    cutM := ⟨m2, m3⟩
    dm := fun i hi b blk hb => by
      have := hdM i (by omega) (fun c _ hc => m4 c (Nat.zero_le c) (by omega)) b blk
      rw [Nat.zero_add] at this
      exact this hb
    w_ := {
      at_ := fun b blk r n h1 h2 => by
        have h2' := (Phi.below_some.1 h2).2
        rw [hst b (hd0 b _ h2')] at h1
        obtain ⟨o, g1, g2⟩ := hW.at_ b blk r n h1 h2'
        exact ⟨o, g1, g2.mono σ hle⟩
      inj := fun b b' blk blk' r n n' h1 h2 h3 h4 => by
        have h3' := (Phi.below_some.1 h3).2
        have h4' := (Phi.below_some.1 h4).2
        rw [hst b (hd0 b _ h3')] at h1
        rw [hst b' (hd0 b' _ h4')] at h2
        exact hW.inj b b' blk blk' r n n' h1 h2 h3' h4'
      lt := fun b r n h1 => ⟨(hW.lt b r n (Phi.below_some.1 h1).2).1, (Phi.below_some.1 h1).1⟩
      dom := fun b blk hb => by
        have := hdM M (by omega) (fun c _ hc => m4 c (Nat.zero_le c) (by omega)) b blk
        rw [Nat.zero_add] at this
        exact this hb }
    le0 := Phi.le_refl φ0
    dom := fun b x hb => .inl hb
    late := fun i _ _ hc => absurd hc (hnc i)
    early := fun i hi _ hgt => hp.stableLe σ (show i + 1 ≤ M by omega) m2 (fun c _ hc => m4 c (Nat.zero_le c) hc) (by omega)
    inj := fun b b' r k k' hb h1 _ => by have := hd0 b _ h1; omega
    lt := fun b r k hb => (hW.lt b r k hb).1
    slots := fun i _ hc => absurd hc (hnc i)
    keep := fun t x _ hx => ht t x hx
    size := hsz
    defers := hdf
    real := fun b r k h1 h2 => by rw [h1] at h2; cases h2
    sz := Nat.le_refl _
    frame := fun _ _ _ => rfl
    live := fun b blk' hb h => by rw [hst b hb] at h; exact ⟨blk', h, rfl⟩
    away := fun b hb _ => hst b hb
    rest := ⟨rfl, rfl, rfl⟩
    dom0 := hd0
    glob := hg }
  refine any_run σ (ds := ds) hσ hp hdom hedge hrole (φ0 := φ0) (w0 := w0) (fun X φ a w hb hX => ?_) ops.size _ φ0 a w0 (by simp) ?_ ?_
  · obtain ⟨M', inv⟩ := hb.inv
    have hC : ∀ i, i < ops.size → role i ≠ .pc → Cm role X i := fun i hi hr => ⟨hr, hX i hi, fun p qs hl => by
      have ho : ops[i]? = some ops[i] := Array.getElem?_eq_getElem hi
      obtain ⟨_, _, _, _, _, hbp, m, op, t, _, hop, _⟩ := hp.lit i _ p qs ho hl
      exact ⟨hX p (Array.getElem?_eq_some_iff.1 hop).1, fun e he => hX e.1 (by have := (hbp e he).1; omega)⟩⟩
    have hM' : M' = ops.size := by
      rcases inv.cutM.2 with hh | hh
      · exact hh
      · rcases Nat.lt_or_ge M' ops.size with hlt | hge
        · have := (inv.cut M' hlt hh).1 (hC M' hlt (by rw [hh]; simp)); omega
        · have := inv.cutM.1; omega
    subst hM'
    have hdn : ∀ b x, φ b = some x → b < (Sf ops.size).nx := fun b x hx => by
      rcases inv.dom b x hx with h1 | ⟨_, j, hj, _, _, h2⟩
      · exact Nat.lt_of_lt_of_le (hd0 b x h1) (hp.nxLe σ (Nat.zero_le _) (Nat.le_refl _))
      · exact Nat.lt_of_lt_of_le h2 (hp.nxLe σ (show j + 1 ≤ ops.size by omega) (Nat.le_refl _))
    have hbel : φ.below (Sf ops.size).nx = φ := by
      funext b
      cases hx : φ b with
      | none => unfold Phi.below; split <;> simp [hx]
      | some x => exact Phi.below_some.2 ⟨hdn b x hx, hx⟩
    refine hQ φ a w {
      wr := by have := inv.w_; rw [hbel] at this; exact this
      le := inv.le0
      new := fun b x hx => by
        rcases inv.dom b x hx with h1 | ⟨h1, _⟩
        · exact .inl h1
        · refine .inr ⟨?_, h1⟩
          cases hy : φ0 b with
          | none => rfl
          | some y => have := hd0 b y hy; omega
      nx := hp.nxLe σ (Nat.zero_le _) (Nat.le_refl _)
      sz := inv.sz
      real := inv.real
      live := inv.live
      away := inv.away
      frame := inv.frame
      rest := inv.rest } (fun t x hx => ?_) inv.size inv.defers
    rcases hfin t x hx with ⟨k, hk, hs, rfl⟩ | ⟨h1, h2⟩
    · have ho : ops[k]? = some ops[k] := Array.getElem?_eq_getElem hk
      have hr : role k ≠ .pc := fun hr => by rw [(hp.pc k _ ho hr).2.1] at hs; cases hs
      exact V.mono σ (Phi.below_le φ _) _ _ (inv.slots k hk (hC k hk hr) t hs)
    · exact V.mono σ inv.le0 _ _ (inv.keep t x (fun ⟨k, hk, hs, _⟩ => h2 k hk hs) h1)
  · unfold un
    refine Nat.le_trans List.countP_le_length ?_
    simp
  · rw [hempty]
    exact {
      closed := fun _ _ _ hx => hx.elim
      inv := ⟨M, inv0⟩
      lits := fun _ _ _ _ _ hx => hx.elim
      apart := fun _ _ _ _ _ _ _ _ _ _ _ _ _ hx => hx.elim }
end
end Go.Proofs.YtedokmdoompidaaGreatDoor.Ev
