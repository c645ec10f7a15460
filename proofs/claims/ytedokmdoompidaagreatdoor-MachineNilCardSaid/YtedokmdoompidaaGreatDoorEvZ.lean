/- The evaluator: code and calls, and that they are as it says. -/
import Derived.Test.YtedokmdoompidaaGreatDoorEvDt
namespace Go.Proofs.YtedokmdoompidaaGreatDoor.Ev

def evStep (hk : Hk) (P : Program) (GS : Nat → Option Nat) (ih : Nat → Job → Tr AV → St → Option Out) (nt : Nat) (j : Job) (T : Tr AV) (S : St) : Option Out :=
  match j with
  | .lp b => (match ih nt (.code b) T S with
    | some (.mk .nrm T' S') => ih nt (.lp b) T' S'
    | r => r)
  | .inn b rest => (match ih nt (.code rest) T S with
    | some (.mk (.go l) T' S') => (match findLabel b l with
      | some r => ih nt (.inn b r) T' S'
      | none => none)
    | r => r)
  | .code c => (match c with
    | .skip => some (.mk .nrm T S)
    | .label _ => some (.mk .nrm T S)
    | .ret => some (.mk .ret T S)
    | .exit id => some (.mk (.ex id) T S)
    | .goto l => some (.mk (.go l) T S)
    | .seq a b => (match ih nt (.code a) T S with
      | some (.mk .nrm T' S') => ih nt (.code b) T' S'
      | r => r)
    | .cond c a b => (match opd GS T c with
      | some (.bool t) => ih nt (.code (bif t then a else b)) T S
      | _ => none)
    | .block id b => (match ih nt (.code b) T S with
      | some (.mk (.ex id') T' S') => bif Nat.beq id' id then some (.mk .nrm T' S') else some (.mk (.ex id') T' S')
      | r => r)
    | .loop b => ih nt (.lp b) T S
    | .scope b => ih nt (.inn b b) T S
    | .region _ ops draw => (match (bif draw then evDraw P (evCallH hk P GS (fun nt c => ih nt (.code c))) GS nt ops T S else evSeq P (evCallH hk P GS (fun nt c => ih nt (.code c))) GS nt ops ops.toList T S) with
      | some (T', S') => some (.mk .nrm T' S')
      | none => none)
    | _ => none)
/-- The evaluator, with fuel. -/
def ev (hk : Hk) (P : Program) (GS : Nat → Option Nat) (n : Nat) : Nat → Job → Tr AV → St → Option Out :=
  Nat.rec (fun _ _ _ _ => none) (fun _ ih => evStep hk P GS ih) n
def evCall (hk : Hk) (P : Program) (GS : Nat → Option Nat) (n : Nat) : FuncId → List AV → St → Option (AV × St) := evCallH hk P GS (fun nt c => ev hk P GS n nt (.code c))

section
variable (σ : Nat → Value)
theorem step_snd {hk : Hk} {P : Program} (hσ : Okσ σ) (hmix : P.follows .mixedOrders = true) {GS : Nat → Option Nat} (hhk : HkSnd σ P GS hk) {n : Nat} {ih : Nat → Job → Tr AV → St → Option Out} (hih : JobSnd σ P GS n ih) : JobSnd σ P GS (n + 1) (evStep hk P GS ih) := by
  intro nt j T S x T' S' h ds φ w a hW hg ht hsz hd Q hQ
  have hcall := callH_snd σ hσ hhk hih
  -- a part that is run first
  have first : ∀ c x1 T1 S1, ih nt (.code c) T S = some (.mk x1 T1 S1) → ∀ (Q' : Exit → Act → World → Prop), (∀ φ' a' w', Post σ φ S w φ' S1 w' → TR σ φ' T1 a' → nt ≤ a'.tmps.size → a'.defers = ds → Q' (exOf x1) a' w') → c.wp P Q' a w := fun c x1 T1 S1 h1 Q' hQ' =>
    hih nt (.code c) T S x1 T1 S1 h1 φ w a hW hg ht hsz hd Q' hQ'
  have later : ∀ j' T1 S1, ih nt j' T1 S1 = some (.mk x T' S') → ∀ φ' a' w', Post σ φ S w φ' S1 w' → TR σ φ' T1 a' → nt ≤ a'.tmps.size → a'.defers = ds → jobWp P Q n j' a' w' := fun j' T1 S1 h1 φ' a' w' p1 p2 p3 p4 =>
    hih nt j' T1 S1 x T' S' h1 φ' w' a' p1.wr (hg.mono p1.le) p2 p3 p4 Q (fun φ'' a'' w'' q1 q2 q3 q4 => hQ φ'' a'' w'' (p1.trans σ q1 hW) q2 q3 q4)
  unfold evStep at h
  split at h
  · -- rounds
    rename_i b
    show b.wp P (Exit.then (Rds P b Q n) Q) a w
    cases h1 : ih nt (.code b) T S with
    | none => rw [h1] at h; cases h
    | some out =>
      obtain ⟨x1, T1, S1⟩ := out
      rw [h1] at h
      refine first b x1 T1 S1 h1 _ (fun φ' a' w' p1 p2 p3 p4 => ?_)
      cases x1 with
      | nrm => exact later (.lp b) T1 S1 h φ' a' w' p1 p2 p3 p4
      | ex id => simp only [Option.some.injEq, Out.mk.injEq] at h; obtain ⟨rfl, rfl, rfl⟩ := h; exact hQ φ' a' w' p1 p2 p3 p4
      | go l => simp only [Option.some.injEq, Out.mk.injEq] at h; obtain ⟨rfl, rfl, rfl⟩ := h; exact hQ φ' a' w' p1 p2 p3 p4
      | ret => simp only [Option.some.injEq, Out.mk.injEq] at h; obtain ⟨rfl, rfl, rfl⟩ := h; exact hQ φ' a' w' p1 p2 p3 p4
  · rename_i b rest
    show rest.wp P _ a w
    cases h1 : ih nt (.code rest) T S with
    | none => rw [h1] at h; cases h
    | some out =>
      obtain ⟨x1, T1, S1⟩ := out
      rw [h1] at h
      refine first rest x1 T1 S1 h1 _ (fun φ' a' w' p1 p2 p3 p4 => ?_)
      cases x1 with
      | go l =>
        simp only at h
        split at h
        · rename_i r hr
          exact ⟨r, hr, later (.inn b r) T1 S1 h φ' a' w' p1 p2 p3 p4⟩
        · cases h
      | nrm => simp only [Option.some.injEq, Out.mk.injEq] at h; obtain ⟨rfl, rfl, rfl⟩ := h; exact hQ φ' a' w' p1 p2 p3 p4
      | ex id => simp only [Option.some.injEq, Out.mk.injEq] at h; obtain ⟨rfl, rfl, rfl⟩ := h; exact hQ φ' a' w' p1 p2 p3 p4
      | ret => simp only [Option.some.injEq, Out.mk.injEq] at h; obtain ⟨rfl, rfl, rfl⟩ := h; exact hQ φ' a' w' p1 p2 p3 p4
  · split at h
    · injection h with h; injection h with h1 h2 h3; subst h1; subst h2; subst h3
      exact wp_skip (hQ φ a w (Post.refl σ hW) ht hsz hd)
    · injection h with h; injection h with h1 h2 h3; subst h1; subst h2; subst h3
      exact wp_label (hQ φ a w (Post.refl σ hW) ht hsz hd)
    · injection h with h; injection h with h1 h2 h3; subst h1; subst h2; subst h3
      exact wp_ret (hQ φ a w (Post.refl σ hW) ht hsz hd)
    · injection h with h; injection h with h1 h2 h3; subst h1; subst h2; subst h3
      exact wp_exit (hQ φ a w (Post.refl σ hW) ht hsz hd)
    · injection h with h; injection h with h1 h2 h3; subst h1; subst h2; subst h3
      exact wp_goto (hQ φ a w (Post.refl σ hW) ht hsz hd)
    · rename_i c1 c2
      refine wp_seq ?_
      cases h1 : ih nt (.code c1) T S with
      | none => rw [h1] at h; cases h
      | some out =>
        obtain ⟨x1, T1, S1⟩ := out
        rw [h1] at h
        refine first c1 x1 T1 S1 h1 _ (fun φ' a' w' p1 p2 p3 p4 => ?_)
        cases x1 with
        | nrm => exact later (.code c2) T1 S1 h φ' a' w' p1 p2 p3 p4
        | ex id => simp only [Option.some.injEq, Out.mk.injEq] at h; obtain ⟨rfl, rfl, rfl⟩ := h; exact hQ φ' a' w' p1 p2 p3 p4
        | go l => simp only [Option.some.injEq, Out.mk.injEq] at h; obtain ⟨rfl, rfl, rfl⟩ := h; exact hQ φ' a' w' p1 p2 p3 p4
        | ret => simp only [Option.some.injEq, Out.mk.injEq] at h; obtain ⟨rfl, rfl, rfl⟩ := h; exact hQ φ' a' w' p1 p2 p3 p4
    · rename_i c c1 c2
      split at h
      · rename_i t hc
        have hcv := opd_V σ ht hg hc
        simp only [V] at hcv
        refine wp_cond hcv ?_
        have := later (.code (bif t then c1 else c2)) T S h φ a w (Post.refl σ hW) ht hsz hd
        cases t
        · exact this
        · exact this
      · cases h
    · rename_i id c1
      refine wp_block ?_
      cases h1 : ih nt (.code c1) T S with
      | none => rw [h1] at h; cases h
      | some out =>
        obtain ⟨x1, T1, S1⟩ := out
        rw [h1] at h
        refine first c1 x1 T1 S1 h1 _ (fun φ' a' w' p1 p2 p3 p4 => ?_)
        cases x1 with
        | ex id' =>
          simp only at h
          cases hb : Nat.beq id' id with
          | true =>
            rw [hb, cond_true] at h
            simp only [Option.some.injEq, Out.mk.injEq] at h
            obtain ⟨rfl, rfl, rfl⟩ := h
            have := Nat.eq_of_beq_eq_true hb
            subst this
            show (if id' = id' then Q .normal a' w' else _)
            rw [if_pos rfl]; exact hQ φ' a' w' p1 p2 p3 p4
          | false =>
            rw [hb, cond_false] at h
            simp only [Option.some.injEq, Out.mk.injEq] at h
            obtain ⟨rfl, rfl, rfl⟩ := h
            show (if id' = id then _ else Q (.exit id') a' w')
            rw [if_neg (Nat.ne_of_beq_eq_false hb)]; exact hQ φ' a' w' p1 p2 p3 p4
        | nrm => simp only [Option.some.injEq, Out.mk.injEq] at h; obtain ⟨rfl, rfl, rfl⟩ := h; exact hQ φ' a' w' p1 p2 p3 p4
        | go l => simp only [Option.some.injEq, Out.mk.injEq] at h; obtain ⟨rfl, rfl, rfl⟩ := h; exact hQ φ' a' w' p1 p2 p3 p4
        | ret => simp only [Option.some.injEq, Out.mk.injEq] at h; obtain ⟨rfl, rfl, rfl⟩ := h; exact hQ φ' a' w' p1 p2 p3 p4
    · rename_i c1
      exact wp_rds n (later (.lp c1) T S h φ a w (Post.refl σ hW) ht hsz hd)
    · rename_i c1
      exact wp_jps n (later (.inn c1 c1) T S h φ a w (Post.refl σ hW) ht hsz hd)
    · rename_i id ops draw
      cases draw with
      | true =>
        simp only [cond_true] at h
        split at h
        · rename_i T1 S1 h1
          injection h with h; injection h with e1 e2 e3; subst e1; subst e2; subst e3
          have hWd : W σ φ S { w with drawn := w.drawn + 1 } := hW.heap σ rfl
          refine wp_region_any hmix (evDraw_run σ hσ hcall h1 hWd hg ht hsz hd (fun φ' a' w' p1 p2 p3 p4 => ?_))
          exact hQ φ' a' w' ((Post.drew σ (w' := { w with drawn := w.drawn + 1 }) hW rfl ⟨rfl, rfl, rfl⟩).trans σ p1 hW) p2 p3 p4
        · cases h
      | false =>
        simp only [cond_false] at h
        split at h
        · rename_i T1 S1 h1
          injection h with h; injection h with e1 e2 e3; subst e1; subst e2; subst e3
          have := evSeq_run σ hσ hcall (Q := Q) ops.toList 0 T T1 S S1 (fun j => by rw [Nat.zero_add, Array.getElem?_toList]) h1 φ w a hW hg ht hsz hd hQ
          rw [Array.length_toList, ← List.range_eq_range'] at this
          exact wp_region this
        · cases h
    · cases h
theorem ev_snd {hk : Hk} {P : Program} (hσ : Okσ σ) (hmix : P.follows .mixedOrders = true) {GS : Nat → Option Nat} (hhk : HkSnd σ P GS hk) : ∀ n, JobSnd σ P GS n (ev hk P GS n)
  | 0 => fun nt j T S x T' S' h => by cases h
  | n + 1 => step_snd σ hσ hmix hhk (ev_snd hσ hmix hhk n)
/-- A call is as the evaluator says. -/
theorem evCall_snd {hk : Hk} {P : Program} (hσ : Okσ σ) (hmix : P.follows .mixedOrders = true) {GS : Nat → Option Nat} (hhk : HkSnd σ P GS hk) (n : Nat) : CallSnd σ P GS (evCall hk P GS n) := callH_snd σ hσ hhk (ev_snd σ hσ hmix hhk n)
end
end Go.Proofs.YtedokmdoompidaaGreatDoor.Ev
