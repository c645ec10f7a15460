/- The evaluator: code and calls, and that they are as it says. -/
import Derived.Test.YtdjjpnobfopplaaGreatDoorEvY
namespace Go.Proofs.YtdjjpnobfopplaaGreatDoor.Ev

/-- What is run: code; the rounds of a loop; the rest of a scope. -/
inductive Job where
  | code (c : Code)
  | lp (b : Code)
  | inn (b rest : Code)
def evStep (P : Program) (GS : Nat → Option Nat) (ih : Nat → Job → Tr AV → St → Option Out) (nt : Nat) (j : Job) (T : Tr AV) (S : St) : Option Out :=
  match j with
  | .lp b => (match ih nt (.code b) T S with
    | some (.mk .nrm T' S') => ih nt (.lp b) T' S'
    | r => r)
  | .inn b rest => (match ih nt (.code rest) T S with
    | some (.mk (.go l) T' S') => (match findLabel b l with
      | some r => ih nt (.inn b r) T' S'
      | none => none)
    | r => r)
  | .code c => (match c with
    | .skip => some (.mk .nrm T S)
    | .label _ => some (.mk .nrm T S)
    | .ret => some (.mk .ret T S)
    | .exit id => some (.mk (.ex id) T S)
    | .goto l => some (.mk (.go l) T S)
    | .seq a b => (match ih nt (.code a) T S with
      | some (.mk .nrm T' S') => ih nt (.code b) T' S'
      | r => r)
    | .cond c a b => (match opd GS T c with
      | some (.bool t) => ih nt (.code (bif t then a else b)) T S
      | _ => none)
    | .block id b => (match ih nt (.code b) T S with
      | some (.mk (.ex id') T' S') => bif Nat.beq id' id then some (.mk .nrm T' S') else some (.mk (.ex id') T' S')
      | r => r)
    | .loop b => ih nt (.lp b) T S
    | .scope b => ih nt (.inn b b) T S
    | .region _ ops draw => (match (bif draw then evDraw P (evCallBy P (fun nt c => ih nt (.code c))) GS nt ops T S else evSeq P (evCallBy P (fun nt c => ih nt (.code c))) GS nt ops ops.toList T S) with
      | some (T', S') => some (.mk .nrm T' S')
      | none => none)
    | _ => none)
/-- The evaluator, with fuel. -/
def ev (P : Program) (GS : Nat → Option Nat) (n : Nat) : Nat → Job → Tr AV → St → Option Out :=
  Nat.rec (fun _ _ _ _ => none) (fun _ ih => evStep P GS ih) n
def evCall (P : Program) (GS : Nat → Option Nat) (n : Nat) : FuncId → List AV → St → Option (AV × St) := evCallBy P (fun nt c => ev P GS n nt (.code c))

section
variable (σ : Nat → Value)
def exOf : AE → Exit
  | .nrm => .normal
  | .ex id => .exit id
  | .go l => .goto l
  | .ret => .ret
def Rds (P : Program) (c : Code) (Q : Exit → Act → World → Prop) : Nat → Act → World → Prop
  | 0, _, _ => False
  | n + 1, a, w => c.wp P (Exit.then (Rds P c Q n) Q) a w
def Jps (P : Program) (b : Code) (Q : Exit → Act → World → Prop) : Nat → Code → Act → World → Prop
  | 0, _, _, _ => False
  | n + 1, r, a, w => r.wp P (fun e a' w' => match e with
    | .goto l => ∃ r', findLabel b l = some r' ∧ Jps P b Q n r' a' w'
    | e => Q e a' w') a w
def jobWp (P : Program) (Q : Exit → Act → World → Prop) (n : Nat) : Job → Act → World → Prop
  | .code c => c.wp P Q
  | .lp b => Rds P b Q n
  | .inn b r => Jps P b Q n r

theorem wp_rds {P : Program} {c : Code} {Q : Exit → Act → World → Prop} {a : Act} {w : World} (n : Nat) (h : Rds P c Q n a w) : (Code.loop c).wp P Q a w := by
  intro b k cs
  have key : ∀ n a w, Rds P c Q n a w → ∃ e a' w', Q e a' w' ∧ Arrives P (lone (b.at a (.code c :: .inLoop c :: k)) cs w) b k cs e a' w' := by
    intro n
    induction n with
    | zero => intro a w h; exact h.elim
    | succ n ih =>
      intro a w h
      obtain ⟨e, a₁, w₁, hq, harr⟩ := h b (.inLoop c :: k) cs
      cases e with
      | normal =>
        obtain ⟨e₂, a₂, w₂, hq₂, harr₂⟩ := ih a₁ w₁ hq
        exact ⟨e₂, a₂, w₂, hq₂, .of_steps (Steps.trans harr (.one step_inLoop)) harr₂⟩
      | exit id => exact ⟨_, a₁, w₁, hq, .pass (x := .inLoop c) rfl (fun _ _ => .inl (by simp)) harr⟩
      | goto l => exact ⟨_, a₁, w₁, hq, .pass (x := .inLoop c) rfl (fun _ _ => .inl (by simp)) harr⟩
      | ret => exact ⟨_, a₁, w₁, hq, .pass (x := .inLoop c) rfl (fun _ _ => .inl (by simp)) harr⟩
      | panic ch => exact ⟨_, a₁, w₁, hq, .pass (x := .inLoop c) rfl (fun _ _ => .inl (by simp)) harr⟩
      | outgrown => exact ⟨_, a₁, w₁, hq, .pass (x := .inLoop c) rfl (fun _ _ => .inl (by simp)) harr⟩
  obtain ⟨e, a', w', hq, harr⟩ := key n a w h
  exact ⟨e, a', w', hq, .of_steps (.one step_loop) harr⟩
theorem wp_jps {P : Program} {c : Code} {Q : Exit → Act → World → Prop} {a : Act} {w : World} (n : Nat) (h : Jps P c Q n c a w) : (Code.scope c).wp P Q a w := by
  intro b k cs
  have key : ∀ n r a w, Jps P c Q n r a w → ∃ e a' w', Q e a' w' ∧ Arrives P (lone (b.at a (.code r :: .inScope c :: k)) cs w) b k cs e a' w' := by
    intro n
    induction n with
    | zero => intro r a w h; exact h.elim
    | succ n ih =>
      intro r a w h
      obtain ⟨e, a₁, w₁, hq, harr⟩ := h b (.inScope c :: k) cs
      cases e with
      | normal => exact ⟨.normal, a₁, w₁, hq, Steps.trans harr (.one step_inScope)⟩
      | exit id => exact ⟨.exit id, a₁, w₁, hq, fun k' hk => harr k' (by simp [exitTo, hk])⟩
      | goto l =>
        obtain ⟨r', hf, hq⟩ := hq
        have hg : gotoIn l (.inScope c :: k) = some (.code r' :: .inScope c :: k) := by simp [gotoIn, hf]
        obtain ⟨e₂, a₂, w₂, hq₂, harr₂⟩ := ih r' a₁ w₁ hq
        exact ⟨e₂, a₂, w₂, hq₂, .of_steps (harr _ hg) harr₂⟩
      | ret => exact ⟨_, a₁, w₁, hq, harr⟩
      | panic ch => exact ⟨_, a₁, w₁, hq, harr⟩
      | outgrown => exact ⟨_, a₁, w₁, hq, harr⟩
  obtain ⟨e, a', w', hq, harr⟩ := key n c a w h
  exact ⟨e, a', w', hq, .of_steps (.one step_scope) harr⟩

/-- A slot is written. -/
theorem putD_TR {φ : Phi} {nt : Nat} {T T' : Tr AV} {a : Act} (ht : TR σ φ T a) (hsz : nt ≤ a.tmps.size) {d : Option Tmp} {v : AV} {u : Value} (hv : V σ φ v u) (h : putD nt T d v = some T') : TR σ φ T' (a.put d u) ∧ nt ≤ (a.put d u).tmps.size := by
  refine ⟨?_, by rw [Act.put_size]; exact hsz⟩
  unfold putD at h
  split at h
  · injection h with h; subst h; exact ht
  · rename_i t
    cases hb : Nat.blt t nt with
    | false => simp [hb] at h
    | true =>
      simp only [hb, cond_true] at h
      have hlt : t < nt := Nat.le_of_ble_eq_true hb
      intro t' x hx
      rw [Tr.get_put _ _ _ _ _ h] at hx
      split at hx
      · rename_i he
        subst he
        injection hx with hx; subst hx
        rw [Act.put_getD_same u (Nat.lt_of_lt_of_le hlt hsz)]; exact hv
      · rename_i hne
        rw [Act.put_getD_ne u (Ne.symm hne)]; exact ht t' x hx
theorem evOp_snd {P : Program} (hσ : Okσ σ) {GS : Nat → Option Nat} {call : FuncId → List AV → St → Option (AV × St)} (hcall : CallSnd σ P GS call) {T : Tr AV} {S S' : St} {o : Oper} {v : AV} (h : evOp P call GS T S o.op = some (v, S')) : OpSnd σ P GS T S o v S' := by
  unfold evOp at h
  split at h
  · rename_i v' hv
    injection h with h; injection h with h1 h2; subst h1; subst h2
    intro φ w a hW hg ht K Q hK
    obtain ⟨u, g1, g2⟩ := rd_run σ hσ hW ht hg o hv
    unfold Oper.wp
    rw [g1]
    simp only [Oper.upon]
    exact hK u w φ (Post.refl σ hW) g2
  · split at h
    · rename_i r hr
      obtain ⟨blk, mk⟩ := r
      unfold alloc1 at h
      split at h
      · rename_i h' hh
        injection h with h; injection h with h1 h2; subst h1; subst h2
        intro φ w a hW hg ht K Q hK
        obtain ⟨u, w', ob, n, e1, e2, e3, e4, e5⟩ := alA_run σ hσ w ht hg o hr
        unfold Oper.wp
        rw [e1]
        simp only [Oper.upon]
        have hnone : φ S.nx = none := by
          cases h : φ S.nx with
          | none => rfl
          | some y => exact absurd (hW.lt S.nx y.1 y.2 h).2 (Nat.lt_irrefl _)
        have hle : φ.le (φ.set S.nx (w.heap.size, n)) := fun b x h => by
          unfold Phi.set
          split
          · rename_i e; rw [e, hnone] at h; cases h
          · exact h
        exact hK u w' _ (Post.alloc σ hW (Tr.get_put _ _ _ _ _ hh) rfl e2 e3 (e4.mono σ hle)) (e5 _ _ (by simp [Phi.set]))
      · cases h
    · split at h
      · rename_i r hr
        injection h with h; subst h
        exact wr_snd σ hσ hr
      · exact call_snd σ hcall h
theorem evSeq_run {P : Program} (hσ : Okσ σ) {GS : Nat → Option Nat} {call : FuncId → List AV → St → Option (AV × St)} (hcall : CallSnd σ P GS call) {nt : Nat} {ops : Array Oper} {Q : Exit → Act → World → Prop} : ∀ (l : List Oper) (i : Nat) (T T' : Tr AV) (S S' : St), (∀ j, l[j]? = ops[i + j]?) → evSeq P call GS nt ops l T S = some (T', S') →
    ∀ (φ : Phi) (w : World) (a : Act), W σ φ S w → Glob GS φ → TR σ φ T a → nt ≤ a.tmps.size → a.defers = [] →
    (∀ φ' a' w', Post σ φ S w φ' S' w' → TR σ φ' T' a' → nt ≤ a'.tmps.size → a'.defers = [] → Q .normal a' w') → wpOps P ops Q (List.range' i l.length) a w
  | [], i, T, T', S, S', hl, h, φ, w, a, hW, hg, ht, hsz, hd, hQ => by
    simp only [evSeq, Option.some.injEq, Prod.mk.injEq] at h
    obtain ⟨rfl, rfl⟩ := h
    exact hQ φ a w (Post.refl σ hW) ht hsz hd
  | o :: l, i, T, T', S, S', hl, h, φ, w, a, hW, hg, ht, hsz, hd, hQ => by
    have ho : ops[i]? = some o := by have := hl 0; simpa using this.symm
    have hl' : ∀ j, l[j]? = ops[i + 1 + j]? := fun j => by
      have := hl (j + 1)
      rw [List.getElem?_cons_succ] at this
      rw [this]; congr 1; omega
    rw [List.length_cons, List.range'_succ]
    simp only [wpOps, ho]
    simp only [evSeq] at h
    split at h
    · rename_i hgd
      rw [gd_run σ ht hgd]
      simp only [if_true]
      split at h
      · rename_i v S1 hop
        split at h
        · rename_i T1 hp
          refine .inl (evOp_snd σ hσ hcall hop φ w a hW hg ht _ _ (fun u w' φ' hpost hv => ?_))
          obtain ⟨g1, g2⟩ := putD_TR σ (TR.mono σ hpost.le ht) hsz hv hp
          refine evSeq_run hσ hcall l (i + 1) T1 T' S1 S' hl' h φ' w' _ hpost.wr (hg.mono hpost.le) g1 g2 (by rw [Act.put_defers']; exact hd) (fun φ'' a'' w'' hp'' => hQ φ'' a'' w'' (hpost.trans σ hp'' hW))
        · cases h
      · cases h
    · rename_i hgd
      rw [gd_run σ ht hgd]
      simp only [Bool.false_eq_true, if_false]
      split at h
      · rename_i T1 hp
        obtain ⟨g1, g2⟩ := putD_TR σ (u := undef) ht hsz (by simp only [V]; exact ⟨[], rfl, by simp only [VL]⟩) hp
        exact evSeq_run hσ hcall l (i + 1) T1 T' S S' hl' h φ w _ hW hg g1 g2 (by rw [Act.put_defers']; exact hd) hQ
      · cases h
    · cases h
theorem resA_run {P : Program} {φ : Phi} {S : St} {T : Tr AV} {a : Act} {w : World} (hW : W σ φ S w) (ht : TR σ φ T a) {g : ResultVar → Sem Value} (hg1 : ∀ t, g (.tmp t) = pure (a.tmps.getD t undef)) (hg2 : ∀ x t, g (.cell x t) = (do loadVar t (← asAddr (a.tmps.getD x undef)))) : ∀ (l : List ResultVar) (vs : List AV), resA P T S l = some vs → ∃ us : List Value, VL σ φ vs us ∧ (l.mapM g).run P w = .ok us w
  | [], vs, h => by simp only [resA, Option.some.injEq] at h; subst h; exact ⟨[], by simp only [VL], rfl⟩
  | .tmp t :: l, vs, h => by
    simp only [resA] at h
    split at h
    · rename_i v us hv hu
      injection h with h; subst h
      obtain ⟨ws, g1, g2⟩ := resA_run hW ht hg1 hg2 l us hu
      refine ⟨a.tmps.getD t undef :: ws, by simp only [VL]; exact ⟨_, _, rfl, ht t v hv, g1⟩, ?_⟩
      simp only [List.mapM_cons, Sem.run_bind, hg1, Sem.run_pure, Result.andThen_ok, g2]
    · cases h
  | .cell x t :: l, vs, h => by
    simp only [resA] at h
    split at h
    · rename_i p hp
      split at h
      · rename_i v us hv hu
        injection h with h; subst h
        obtain ⟨ws, g1, g2⟩ := resA_run hW ht hg1 hg2 l us hu
        have hpv := ht x p hp
        obtain ⟨u, k1, k2⟩ := loadA_run σ (P := P) hW hpv hv
        refine ⟨u :: ws, by simp only [VL]; exact ⟨_, _, rfl, k2, g1⟩, ?_⟩
        have : ((do loadVar t (← asAddr (a.tmps.getD x undef)) : Sem Value)).run P w = .ok u w := by
          cases p <;> simp only [loadA] at hv <;> try cases hv
          simp only [V] at hpv
          obtain ⟨r, n, _, he⟩ := hpv
          rw [he] at k1 ⊢
          simp only [Instr.loadAt, Instr.sureAddr, Sem.run_bind, Sem.run_pure, Result.andThen_ok] at k1
          simp only [asAddr, Sem.run_bind, Sem.run_pure, Result.andThen_ok]
          exact k1
        simp only [Sem.run_bind] at this
        simp only [List.mapM_cons, hg2, Sem.run_bind, this, Sem.run_pure, Result.andThen_ok, g2]
      · cases h
    · cases h
theorem results_run {P : Program} {φ : Phi} {S : St} {T : Tr AV} {a : Act} {w : World} (hW : W σ φ S w) (ht : TR σ φ T a) (fn : Func) {vs : List AV} (h : resA P T S fn.results.toList = some vs) : ∃ u, (results fn a.tmps).run P w = .ok u w ∧ V σ φ (oneA vs) u := by
  obtain ⟨g, hg1, hg2, hres⟩ : ∃ g : ResultVar → Sem Value, (∀ t, g (.tmp t) = pure (a.tmps.getD t undef)) ∧ (∀ x t, g (.cell x t) = (do loadVar t (← asAddr (a.tmps.getD x undef)))) ∧ results fn a.tmps = (do
      let vs ← fn.results.mapM g
      pure (if h : vs.size = 1 then vs[0] else .tuple vs)) := ⟨_, fun _ => rfl, fun _ _ => rfl, rfl⟩
  obtain ⟨us, h1, h2⟩ := resA_run σ hW ht hg1 hg2 fn.results.toList vs h
  have hm : (fn.results.mapM g).run P w = .ok us.toArray w := by
    rw [Array.mapM_eq_mapM_toList]
    simp only [Sem.run_map]
    rw [h2]; rfl
  rw [hres]
  simp only [Sem.run_bind]
  rw [hm]
  simp only [Result.andThen_ok, Sem.run_pure]
  refine ⟨_, rfl, ?_⟩
  cases us with
  | nil => cases vs with
    | nil => simp only [oneA, V, VL]; exact ⟨[], by simp, rfl⟩
    | cons x xs => simp only [VL] at h1; obtain ⟨_, _, h1, _⟩ := h1; cases h1
  | cons u us => cases vs with
    | nil => simp only [VL] at h1; cases h1
    | cons x xs => cases us with
      | nil => cases xs with
        | nil => simp only [VL] at h1; obtain ⟨v, l, h1, h2, h3⟩ := h1; injection h1 with h1 h4; subst h1; simpa [oneA] using h2
        | cons y ys => simp only [VL] at h1; obtain ⟨v, l, h1, h2, v', l', h3, _⟩ := h1; injection h1 with h1 h4; rw [← h4] at h3; cases h3
      | cons u' us => cases xs with
        | nil => simp only [VL] at h1; obtain ⟨v, l, h1, h2, h3⟩ := h1; injection h1 with h1 h4; rw [← h4] at h3; cases h3
        | cons y ys => simp only [oneA, V]; exact ⟨u :: u' :: us, by simp, h1⟩

/-- Code is as the evaluator says. -/
def JobSnd (P : Program) (GS : Nat → Option Nat) (n : Nat) (e : Nat → Job → Tr AV → St → Option Out) : Prop :=
  ∀ nt j T S x T' S', e nt j T S = some (.mk x T' S') → ∀ (φ : Phi) (w : World) (a : Act), W σ φ S w → Glob GS φ → TR σ φ T a → nt ≤ a.tmps.size → a.defers = [] → ∀ (Q : Exit → Act → World → Prop),
    (∀ φ' a' w', Post σ φ S w φ' S' w' → TR σ φ' T' a' → nt ≤ a'.tmps.size → a'.defers = [] → Q (exOf x) a' w') → jobWp P Q n j a w
theorem callBy_snd {P : Program} {GS : Nat → Option Nat} {n : Nat} {e : Nat → Job → Tr AV → St → Option Out} (he : JobSnd σ P GS n e) : CallSnd σ P GS (evCallBy P (fun nt c => e nt (.code c))) := by
  intro f args S v S' h φ w vs hW hg hv
  unfold evCallBy at h
  split at h
  · rename_i fn hfn
    split at h
    · rename_i c hc
      split at h
      · rename_i T hT
        have htr : TR σ φ T { tmps := vs.toArray ++ Array.replicate (fn.ntmps - vs.toArray.size) undef, defers := [] } := fun t x hx => by
          rw [Tr.get_putAll args .leaf 0 T hT] at hx
          split at hx
          · rename_i hlt
            rw [Nat.sub_zero] at hx
            obtain ⟨u, h1, h2⟩ := VL.at σ hv t x hx
            have hl : t < vs.toArray.size := by simpa using (List.getElem?_eq_some_iff.1 h1).1
            show V σ φ x ((vs.toArray ++ Array.replicate (fn.ntmps - vs.toArray.size) undef).getD t undef)
            rw [Array.getD_eq_getD_getElem?, Array.getElem?_append_left hl]
            simpa [h1] using h2
          · simp [Tr.get] at hx
        have hsz : fn.ntmps ≤ (vs.toArray ++ Array.replicate (fn.ntmps - vs.toArray.size) undef).size := by simp; omega
        have fin : ∀ x T' S1, e fn.ntmps (.code c) T S = some (.mk x T' S1) → (x = .nrm ∨ x = .ret) → (match resA P T' S1 fn.results.toList with | some vs => some (oneA vs, S1) | none => none) = some (v, S') → Calls P f vs.toArray w (fun e w' => ∃ u φ', e = .returned u ∧ Post σ φ S w φ' S' w' ∧ V σ φ' v u) := fun x T' S1 h1 hx h2 => by
          split at h2
          · rename_i us hus
            injection h2 with h2; injection h2 with h2 h3; subst h2; subst h3
            refine calls_of_wp hfn hc (he fn.ntmps (.code c) T S x T' S1 h1 φ w _ hW hg htr hsz rfl _ (fun φ' a' w' hpost htr' _ hd => ?_))
            obtain ⟨u, k1, k2⟩ := results_run σ hpost.wr htr' fn hus
            rcases hx with rfl | rfl
            · exact ⟨hd, u, k1, u, φ', rfl, hpost, k2⟩
            · exact ⟨hd, u, k1, u, φ', rfl, hpost, k2⟩
          · cases h2
        split at h
        · rename_i T' S1 h1; exact fin _ T' S1 h1 (.inl rfl) h
        · rename_i T' S1 h1; exact fin _ T' S1 h1 (.inr rfl) h
        · cases h
      · cases h
    · cases h
  · cases h
theorem step_snd {P : Program} (hσ : Okσ σ) (hmix : P.follows .mixedOrders = true) {GS : Nat → Option Nat} {n : Nat} {ih : Nat → Job → Tr AV → St → Option Out} (hih : JobSnd σ P GS n ih) : JobSnd σ P GS (n + 1) (evStep P GS ih) := by
  intro nt j T S x T' S' h φ w a hW hg ht hsz hd Q hQ
  have hcall := callBy_snd σ hih
  -- a part that is run first
  have first : ∀ c x1 T1 S1, ih nt (.code c) T S = some (.mk x1 T1 S1) → ∀ (Q' : Exit → Act → World → Prop), (∀ φ' a' w', Post σ φ S w φ' S1 w' → TR σ φ' T1 a' → nt ≤ a'.tmps.size → a'.defers = [] → Q' (exOf x1) a' w') → c.wp P Q' a w := fun c x1 T1 S1 h1 Q' hQ' =>
    hih nt (.code c) T S x1 T1 S1 h1 φ w a hW hg ht hsz hd Q' hQ'
  have later : ∀ j' T1 S1, ih nt j' T1 S1 = some (.mk x T' S') → ∀ φ' a' w', Post σ φ S w φ' S1 w' → TR σ φ' T1 a' → nt ≤ a'.tmps.size → a'.defers = [] → jobWp P Q n j' a' w' := fun j' T1 S1 h1 φ' a' w' p1 p2 p3 p4 =>
    hih nt j' T1 S1 x T' S' h1 φ' w' a' p1.wr (hg.mono p1.le) p2 p3 p4 Q (fun φ'' a'' w'' q1 q2 q3 q4 => hQ φ'' a'' w'' (p1.trans σ q1 hW) q2 q3 q4)
  unfold evStep at h
  split at h
  · -- rounds
    rename_i b
    show b.wp P (Exit.then (Rds P b Q n) Q) a w
    cases h1 : ih nt (.code b) T S with
    | none => rw [h1] at h; cases h
    | some out =>
      obtain ⟨x1, T1, S1⟩ := out
      rw [h1] at h
      refine first b x1 T1 S1 h1 _ (fun φ' a' w' p1 p2 p3 p4 => ?_)
      cases x1 with
      | nrm => exact later (.lp b) T1 S1 h φ' a' w' p1 p2 p3 p4
      | ex id => simp only [Option.some.injEq, Out.mk.injEq] at h; obtain ⟨rfl, rfl, rfl⟩ := h; exact hQ φ' a' w' p1 p2 p3 p4
      | go l => simp only [Option.some.injEq, Out.mk.injEq] at h; obtain ⟨rfl, rfl, rfl⟩ := h; exact hQ φ' a' w' p1 p2 p3 p4
      | ret => simp only [Option.some.injEq, Out.mk.injEq] at h; obtain ⟨rfl, rfl, rfl⟩ := h; exact hQ φ' a' w' p1 p2 p3 p4
  · rename_i b rest
    show rest.wp P _ a w
    cases h1 : ih nt (.code rest) T S with
    | none => rw [h1] at h; cases h
    | some out =>
      obtain ⟨x1, T1, S1⟩ := out
      rw [h1] at h
      refine first rest x1 T1 S1 h1 _ (fun φ' a' w' p1 p2 p3 p4 => ?_)
      cases x1 with
      | go l =>
        simp only at h
        split at h
        · rename_i r hr
          exact ⟨r, hr, later (.inn b r) T1 S1 h φ' a' w' p1 p2 p3 p4⟩
        · cases h
      | nrm => simp only [Option.some.injEq, Out.mk.injEq] at h; obtain ⟨rfl, rfl, rfl⟩ := h; exact hQ φ' a' w' p1 p2 p3 p4
      | ex id => simp only [Option.some.injEq, Out.mk.injEq] at h; obtain ⟨rfl, rfl, rfl⟩ := h; exact hQ φ' a' w' p1 p2 p3 p4
      | ret => simp only [Option.some.injEq, Out.mk.injEq] at h; obtain ⟨rfl, rfl, rfl⟩ := h; exact hQ φ' a' w' p1 p2 p3 p4
  · split at h
    · injection h with h; injection h with h1 h2 h3; subst h1; subst h2; subst h3
      exact wp_skip (hQ φ a w (Post.refl σ hW) ht hsz hd)
    · injection h with h; injection h with h1 h2 h3; subst h1; subst h2; subst h3
      exact wp_label (hQ φ a w (Post.refl σ hW) ht hsz hd)
    · injection h with h; injection h with h1 h2 h3; subst h1; subst h2; subst h3
      exact wp_ret (hQ φ a w (Post.refl σ hW) ht hsz hd)
    · injection h with h; injection h with h1 h2 h3; subst h1; subst h2; subst h3
      exact wp_exit (hQ φ a w (Post.refl σ hW) ht hsz hd)
    · injection h with h; injection h with h1 h2 h3; subst h1; subst h2; subst h3
      exact wp_goto (hQ φ a w (Post.refl σ hW) ht hsz hd)
    · rename_i c1 c2
      refine wp_seq ?_
      cases h1 : ih nt (.code c1) T S with
      | none => rw [h1] at h; cases h
      | some out =>
        obtain ⟨x1, T1, S1⟩ := out
        rw [h1] at h
        refine first c1 x1 T1 S1 h1 _ (fun φ' a' w' p1 p2 p3 p4 => ?_)
        cases x1 with
        | nrm => exact later (.code c2) T1 S1 h φ' a' w' p1 p2 p3 p4
        | ex id => simp only [Option.some.injEq, Out.mk.injEq] at h; obtain ⟨rfl, rfl, rfl⟩ := h; exact hQ φ' a' w' p1 p2 p3 p4
        | go l => simp only [Option.some.injEq, Out.mk.injEq] at h; obtain ⟨rfl, rfl, rfl⟩ := h; exact hQ φ' a' w' p1 p2 p3 p4
        | ret => simp only [Option.some.injEq, Out.mk.injEq] at h; obtain ⟨rfl, rfl, rfl⟩ := h; exact hQ φ' a' w' p1 p2 p3 p4
    · rename_i c c1 c2
      split at h
      · rename_i t hc
        have hcv := opd_V σ ht hg hc
        simp only [V] at hcv
        refine wp_cond hcv ?_
        have := later (.code (bif t then c1 else c2)) T S h φ a w (Post.refl σ hW) ht hsz hd
        cases t
        · exact this
        · exact this
      · cases h
    · rename_i id c1
      refine wp_block ?_
      cases h1 : ih nt (.code c1) T S with
      | none => rw [h1] at h; cases h
      | some out =>
        obtain ⟨x1, T1, S1⟩ := out
        rw [h1] at h
        refine first c1 x1 T1 S1 h1 _ (fun φ' a' w' p1 p2 p3 p4 => ?_)
        cases x1 with
        | ex id' =>
          simp only at h
          cases hb : Nat.beq id' id with
          | true =>
            rw [hb, cond_true] at h
            simp only [Option.some.injEq, Out.mk.injEq] at h
            obtain ⟨rfl, rfl, rfl⟩ := h
            have := Nat.eq_of_beq_eq_true hb
            subst this
            show (if id' = id' then Q .normal a' w' else _)
            rw [if_pos rfl]; exact hQ φ' a' w' p1 p2 p3 p4
          | false =>
            rw [hb, cond_false] at h
            simp only [Option.some.injEq, Out.mk.injEq] at h
            obtain ⟨rfl, rfl, rfl⟩ := h
            show (if id' = id then _ else Q (.exit id') a' w')
            rw [if_neg (Nat.ne_of_beq_eq_false hb)]; exact hQ φ' a' w' p1 p2 p3 p4
        | nrm => simp only [Option.some.injEq, Out.mk.injEq] at h; obtain ⟨rfl, rfl, rfl⟩ := h; exact hQ φ' a' w' p1 p2 p3 p4
        | go l => simp only [Option.some.injEq, Out.mk.injEq] at h; obtain ⟨rfl, rfl, rfl⟩ := h; exact hQ φ' a' w' p1 p2 p3 p4
        | ret => simp only [Option.some.injEq, Out.mk.injEq] at h; obtain ⟨rfl, rfl, rfl⟩ := h; exact hQ φ' a' w' p1 p2 p3 p4
    · rename_i c1
      exact wp_rds n (later (.lp c1) T S h φ a w (Post.refl σ hW) ht hsz hd)
    · rename_i c1
      exact wp_jps n (later (.inn c1 c1) T S h φ a w (Post.refl σ hW) ht hsz hd)
    · rename_i id ops draw
      cases draw with
      | true =>
        simp only [cond_true] at h
        split at h
        · rename_i T1 S1 h1
          injection h with h; injection h with e1 e2 e3; subst e1; subst e2; subst e3
          have hWd : W σ φ S { w with drawn := w.drawn + 1 } := hW.heap σ rfl
          refine wp_region_any hmix (evDraw_run σ hσ hcall h1 hWd hg ht hsz hd (fun φ' a' w' p1 p2 p3 p4 => ?_))
          exact hQ φ' a' w' ((Post.drew σ (w' := { w with drawn := w.drawn + 1 }) hW rfl ⟨rfl, rfl, rfl⟩).trans σ p1 hW) p2 p3 p4
        · cases h
      | false =>
        simp only [cond_false] at h
        split at h
        · rename_i T1 S1 h1
          injection h with h; injection h with e1 e2 e3; subst e1; subst e2; subst e3
          have := evSeq_run σ hσ hcall (Q := Q) ops.toList 0 T T1 S S1 (fun j => by rw [Nat.zero_add, Array.getElem?_toList]) h1 φ w a hW hg ht hsz hd hQ
          rw [Array.length_toList, ← List.range_eq_range'] at this
          exact wp_region this
        · cases h
    · cases h
theorem ev_snd {P : Program} (hσ : Okσ σ) (hmix : P.follows .mixedOrders = true) {GS : Nat → Option Nat} : ∀ n, JobSnd σ P GS n (ev P GS n)
  | 0 => fun nt j T S x T' S' h => by cases h
  | n + 1 => step_snd σ hσ hmix (ev_snd hσ hmix n)
/-- A call is as the evaluator says. -/
theorem evCall_snd {P : Program} (hσ : Okσ σ) (hmix : P.follows .mixedOrders = true) {GS : Nat → Option Nat} (n : Nat) : CallSnd σ P GS (evCall P GS n) := callBy_snd σ (ev_snd σ hσ hmix n)
end
end Go.Proofs.YtdjjpnobfopplaaGreatDoor.Ev
