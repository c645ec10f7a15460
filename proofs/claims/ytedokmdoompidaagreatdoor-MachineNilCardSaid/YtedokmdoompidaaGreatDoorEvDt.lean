/- The evaluator: operations in the text's order, results, calls (of functions that defer, too): that they are as it says. -/
import Derived.Test.YtedokmdoompidaaGreatDoorEvY
import Derived.Test.YtedokmdoompidaaGreatDoorEvDs
namespace Go.Proofs.YtedokmdoompidaaGreatDoor.Ev

/-- What is run: code; the rounds of a loop; the rest of a scope. -/
inductive Job where
  | code (c : Code)
  | lp (b : Code)
  | inn (b rest : Code)
section
variable (σ : Nat → Value)
def exOf : AE → Exit
  | .nrm => .normal
  | .ex id => .exit id
  | .go l => .goto l
  | .ret => .ret
def Rds (P : Program) (c : Code) (Q : Exit → Act → World → Prop) : Nat → Act → World → Prop
  | 0, _, _ => False
  | n + 1, a, w => c.wp P (Exit.then (Rds P c Q n) Q) a w
def Jps (P : Program) (b : Code) (Q : Exit → Act → World → Prop) : Nat → Code → Act → World → Prop
  | 0, _, _, _ => False
  | n + 1, r, a, w => r.wp P (fun e a' w' => match e with
    | .goto l => ∃ r', findLabel b l = some r' ∧ Jps P b Q n r' a' w'
    | e => Q e a' w') a w
def jobWp (P : Program) (Q : Exit → Act → World → Prop) (n : Nat) : Job → Act → World → Prop
  | .code c => c.wp P Q
  | .lp b => Rds P b Q n
  | .inn b r => Jps P b Q n r

theorem wp_rds {P : Program} {c : Code} {Q : Exit → Act → World → Prop} {a : Act} {w : World} (n : Nat) (h : Rds P c Q n a w) : (Code.loop c).wp P Q a w := by
  intro b k cs
  have key : ∀ n a w, Rds P c Q n a w → ∃ e a' w', Q e a' w' ∧ Arrives P (lone (b.at a (.code c :: .inLoop c :: k)) cs w) b k cs e a' w' := by
    intro n
    induction n with
    | zero => intro a w h; exact h.elim
    | succ n ih =>
      intro a w h
      obtain ⟨e, a₁, w₁, hq, harr⟩ := h b (.inLoop c :: k) cs
      cases e with
      | normal =>
        obtain ⟨e₂, a₂, w₂, hq₂, harr₂⟩ := ih a₁ w₁ hq
        exact ⟨e₂, a₂, w₂, hq₂, .of_steps (Steps.trans harr (.one step_inLoop)) harr₂⟩
      | exit id => exact ⟨_, a₁, w₁, hq, .pass (x := .inLoop c) rfl (fun _ _ => .inl (by simp)) harr⟩
      | goto l => exact ⟨_, a₁, w₁, hq, .pass (x := .inLoop c) rfl (fun _ _ => .inl (by simp)) harr⟩
      | ret => exact ⟨_, a₁, w₁, hq, .pass (x := .inLoop c) rfl (fun _ _ => .inl (by simp)) harr⟩
      | panic ch => exact ⟨_, a₁, w₁, hq, .pass (x := .inLoop c) rfl (fun _ _ => .inl (by simp)) harr⟩
      | outgrown => exact ⟨_, a₁, w₁, hq, .pass (x := .inLoop c) rfl (fun _ _ => .inl (by simp)) harr⟩
  obtain ⟨e, a', w', hq, harr⟩ := key n a w h
  exact ⟨e, a', w', hq, .of_steps (.one step_loop) harr⟩
theorem wp_jps {P : Program} {c : Code} {Q : Exit → Act → World → Prop} {a : Act} {w : World} (n : Nat) (h : Jps P c Q n c a w) : (Code.scope c).wp P Q a w := by
  intro b k cs
  have key : ∀ n r a w, Jps P c Q n r a w → ∃ e a' w', Q e a' w' ∧ Arrives P (lone (b.at a (.code r :: .inScope c :: k)) cs w) b k cs e a' w' := by
    intro n
    induction n with
    | zero => intro r a w h; exact h.elim
    | succ n ih =>
      intro r a w h
      obtain ⟨e, a₁, w₁, hq, harr⟩ := h b (.inScope c :: k) cs
      cases e with
      | normal => exact ⟨.normal, a₁, w₁, hq, Steps.trans harr (.one step_inScope)⟩
      | exit id => exact ⟨.exit id, a₁, w₁, hq, fun k' hk => harr k' (by simp [exitTo, hk])⟩
      | goto l =>
        obtain ⟨r', hf, hq⟩ := hq
        have hg : gotoIn l (.inScope c :: k) = some (.code r' :: .inScope c :: k) := by simp [gotoIn, hf]
        obtain ⟨e₂, a₂, w₂, hq₂, harr₂⟩ := ih r' a₁ w₁ hq
        exact ⟨e₂, a₂, w₂, hq₂, .of_steps (harr _ hg) harr₂⟩
      | ret => exact ⟨_, a₁, w₁, hq, harr⟩
      | panic ch => exact ⟨_, a₁, w₁, hq, harr⟩
      | outgrown => exact ⟨_, a₁, w₁, hq, harr⟩
  obtain ⟨e, a', w', hq, harr⟩ := key n c a w h
  exact ⟨e, a', w', hq, .of_steps (.one step_scope) harr⟩

/-- A slot is written. -/
theorem putD_TR {φ : Phi} {nt : Nat} {T T' : Tr AV} {a : Act} (ht : TR σ φ T a) (hsz : nt ≤ a.tmps.size) {d : Option Tmp} {v : AV} {u : Value} (hv : V σ φ v u) (h : putD nt T d v = some T') : TR σ φ T' (a.put d u) ∧ nt ≤ (a.put d u).tmps.size := by
  refine ⟨?_, by rw [Act.put_size]; exact hsz⟩
  unfold putD at h
  split at h
  · injection h with h; subst h; exact ht
  · rename_i t
    cases hb : Nat.blt t nt with
    | false => simp [hb] at h
    | true =>
      simp only [hb, cond_true] at h
      have hlt : t < nt := Nat.le_of_ble_eq_true hb
      intro t' x hx
      rw [Tr.get_put _ _ _ _ _ h] at hx
      split at hx
      · rename_i he
        subst he
        injection hx with hx; subst hx
        rw [Act.put_getD_same u (Nat.lt_of_lt_of_le hlt hsz)]; exact hv
      · rename_i hne
        rw [Act.put_getD_ne u (Ne.symm hne)]; exact ht t' x hx
theorem evOp_snd {P : Program} (hσ : Okσ σ) {GS : Nat → Option Nat} {call : FuncId → List AV → St → Option (AV × St)} (hcall : CallSnd σ P GS call) {T : Tr AV} {S S' : St} {o : Oper} {v : AV} (h : evOp P call GS T S o.op = some (v, S')) : OpSnd σ P GS T S o v S' := by
  unfold evOp at h
  split at h
  · rename_i v' hv
    injection h with h; injection h with h1 h2; subst h1; subst h2
    intro φ w a hW hg ht K Q hK
    obtain ⟨u, g1, g2⟩ := rd_run σ hσ hW ht hg o hv
    unfold Oper.wp
    rw [g1]
    simp only [Oper.upon]
    exact hK u w φ (Post.refl σ hW) g2
  · split at h
    · rename_i r hr
      obtain ⟨blk, mk⟩ := r
      unfold alloc1 at h
      split at h
      · rename_i h' hh
        injection h with h; injection h with h1 h2; subst h1; subst h2
        intro φ w a hW hg ht K Q hK
        obtain ⟨u, w', ob, n, e1, e2, e3, e4, e5⟩ := alA_run σ hσ w ht hg o hr
        unfold Oper.wp
        rw [e1]
        simp only [Oper.upon]
        have hnone : φ S.nx = none := by
          cases h : φ S.nx with
          | none => rfl
          | some y => exact absurd (hW.lt S.nx y.1 y.2 h).2 (Nat.lt_irrefl _)
        have hle : φ.le (φ.set S.nx (w.heap.size, n)) := fun b x h => by
          unfold Phi.set
          split
          · rename_i e; rw [e, hnone] at h; cases h
          · exact h
        exact hK u w' _ (Post.alloc σ hW (Tr.get_put _ _ _ _ _ hh) rfl e2 e3 (e4.mono σ hle)) (e5 _ _ (by simp [Phi.set]))
      · cases h
    · split at h
      · rename_i r hr
        injection h with h; subst h
        exact wr_snd σ hσ hr
      · exact call_snd σ hcall h
theorem evSeq_runK {P : Program} (hσ : Okσ σ) {GS : Nat → Option Nat} {call : FuncId → List AV → St → Option (AV × St)} (hcall : CallSnd σ P GS call) {nt : Nat} {ops : Array Oper} {ds : List Deferred} {Q : Exit → Act → World → Prop} : ∀ (l : List Oper) (i : Nat) (T T' : Tr AV) (S S' : St), ∀ (rest : List Nat), (∀ j, j < l.length → l[j]? = ops[i + j]?) → evSeq P call GS nt ops l T S = some (T', S') →
    ∀ (φ : Phi) (w : World) (a : Act), W σ φ S w → Glob GS φ → TR σ φ T a → nt ≤ a.tmps.size → a.defers = ds →
    (∀ φ' a' w', Post σ φ S w φ' S' w' → TR σ φ' T' a' → nt ≤ a'.tmps.size → a'.defers = ds → wpOps P ops Q rest a' w') → wpOps P ops Q (List.range' i l.length ++ rest) a w
  | [], i, T, T', S, S', rest, hl, h, φ, w, a, hW, hg, ht, hsz, hd, hQ => by
    simp only [evSeq, Option.some.injEq, Prod.mk.injEq] at h
    obtain ⟨rfl, rfl⟩ := h
    exact hQ φ a w (Post.refl σ hW) ht hsz hd
  | o :: l, i, T, T', S, S', rest, hl, h, φ, w, a, hW, hg, ht, hsz, hd, hQ => by
    have ho : ops[i]? = some o := by have := hl 0 (by simp); simpa using this.symm
    have hl' : ∀ j, j < l.length → l[j]? = ops[i + 1 + j]? := fun j hj => by
      have := hl (j + 1) (by simp; omega)
      rw [List.getElem?_cons_succ] at this
      rw [this]; congr 1; omega
    rw [List.length_cons, List.range'_succ, List.cons_append]
    simp only [wpOps, ho]
    simp only [evSeq] at h
    split at h
    · rename_i hgd
      rw [gd_run σ ht hgd]
      simp only [if_true]
      split at h
      · rename_i v S1 hop
        split at h
        · rename_i T1 hp
          refine .inl (evOp_snd σ hσ hcall hop φ w a hW hg ht _ _ (fun u w' φ' hpost hv => ?_))
          obtain ⟨g1, g2⟩ := putD_TR σ (TR.mono σ hpost.le ht) hsz hv hp
          refine evSeq_runK hσ hcall l (i + 1) T1 T' S1 S' rest hl' h φ' w' _ hpost.wr (hg.mono hpost.le) g1 g2 (by rw [Act.put_defers']; exact hd) (fun φ'' a'' w'' hp'' => hQ φ'' a'' w'' (hpost.trans σ hp'' hW))
        · cases h
      · cases h
    · rename_i hgd
      rw [gd_run σ ht hgd]
      simp only [Bool.false_eq_true, if_false]
      split at h
      · rename_i T1 hp
        obtain ⟨g1, g2⟩ := putD_TR σ (u := undef) ht hsz (by simp only [V]; exact ⟨[], rfl, by simp only [VL]⟩) hp
        exact evSeq_runK hσ hcall l (i + 1) T1 T' S S' rest hl' h φ w _ hW hg g1 g2 (by rw [Act.put_defers']; exact hd) hQ
      · cases h
    · cases h
theorem evSeq_run {P : Program} (hσ : Okσ σ) {GS : Nat → Option Nat} {call : FuncId → List AV → St → Option (AV × St)} (hcall : CallSnd σ P GS call) {nt : Nat} {ops : Array Oper} {ds : List Deferred} {Q : Exit → Act → World → Prop} (l : List Oper) (i : Nat) (T T' : Tr AV) (S S' : St) (hl : ∀ j, l[j]? = ops[i + j]?) (h : evSeq P call GS nt ops l T S = some (T', S'))
    (φ : Phi) (w : World) (a : Act) (hW : W σ φ S w) (hg : Glob GS φ) (ht : TR σ φ T a) (hsz : nt ≤ a.tmps.size) (hd : a.defers = ds)
    (hQ : ∀ φ' a' w', Post σ φ S w φ' S' w' → TR σ φ' T' a' → nt ≤ a'.tmps.size → a'.defers = ds → Q .normal a' w') : wpOps P ops Q (List.range' i l.length) a w := by
  have := evSeq_runK σ hσ hcall (Q := Q) l i T T' S S' [] (fun j _ => hl j) h φ w a hW hg ht hsz hd hQ
  rwa [List.append_nil] at this
theorem resA_run {P : Program} {φ : Phi} {S : St} {T : Tr AV} {a : Act} {w : World} (hW : W σ φ S w) (ht : TR σ φ T a) {g : ResultVar → Sem Value} (hg1 : ∀ t, g (.tmp t) = pure (a.tmps.getD t undef)) (hg2 : ∀ x t, g (.cell x t) = (do loadVar t (← asAddr (a.tmps.getD x undef)))) : ∀ (l : List ResultVar) (vs : List AV), resA P T S l = some vs → ∃ us : List Value, VL σ φ vs us ∧ (l.mapM g).run P w = .ok us w
  | [], vs, h => by simp only [resA, Option.some.injEq] at h; subst h; exact ⟨[], by simp only [VL], rfl⟩
  | .tmp t :: l, vs, h => by
    simp only [resA] at h
    split at h
    · rename_i v us hv hu
      injection h with h; subst h
      obtain ⟨ws, g1, g2⟩ := resA_run hW ht hg1 hg2 l us hu
      refine ⟨a.tmps.getD t undef :: ws, by simp only [VL]; exact ⟨_, _, rfl, ht t v hv, g1⟩, ?_⟩
      simp only [List.mapM_cons, Sem.run_bind, hg1, Sem.run_pure, Result.andThen_ok, g2]
    · cases h
  | .cell x t :: l, vs, h => by
    simp only [resA] at h
    split at h
    · rename_i p hp
      split at h
      · rename_i v us hv hu
        injection h with h; subst h
        obtain ⟨ws, g1, g2⟩ := resA_run hW ht hg1 hg2 l us hu
        have hpv := ht x p hp
        obtain ⟨u, k1, k2⟩ := loadA_run σ (P := P) hW hpv hv
        refine ⟨u :: ws, by simp only [VL]; exact ⟨_, _, rfl, k2, g1⟩, ?_⟩
        have : ((do loadVar t (← asAddr (a.tmps.getD x undef)) : Sem Value)).run P w = .ok u w := by
          cases p <;> simp only [loadA] at hv <;> try cases hv
          simp only [V] at hpv
          obtain ⟨r, n, _, he⟩ := hpv
          rw [he] at k1 ⊢
          simp only [Instr.loadAt, Instr.sureAddr, Sem.run_bind, Sem.run_pure, Result.andThen_ok] at k1
          simp only [asAddr, Sem.run_bind, Sem.run_pure, Result.andThen_ok]
          exact k1
        simp only [Sem.run_bind] at this
        simp only [List.mapM_cons, hg2, Sem.run_bind, this, Sem.run_pure, Result.andThen_ok, g2]
      · cases h
    · cases h
theorem results_run {P : Program} {φ : Phi} {S : St} {T : Tr AV} {a : Act} {w : World} (hW : W σ φ S w) (ht : TR σ φ T a) (fn : Func) {vs : List AV} (h : resA P T S fn.results.toList = some vs) : ∃ u, (results fn a.tmps).run P w = .ok u w ∧ V σ φ (oneA vs) u := by
  obtain ⟨g, hg1, hg2, hres⟩ : ∃ g : ResultVar → Sem Value, (∀ t, g (.tmp t) = pure (a.tmps.getD t undef)) ∧ (∀ x t, g (.cell x t) = (do loadVar t (← asAddr (a.tmps.getD x undef)))) ∧ results fn a.tmps = (do
      let vs ← fn.results.mapM g
      pure (if h : vs.size = 1 then vs[0] else .tuple vs)) := ⟨_, fun _ => rfl, fun _ _ => rfl, rfl⟩
  obtain ⟨us, h1, h2⟩ := resA_run σ hW ht hg1 hg2 fn.results.toList vs h
  have hm : (fn.results.mapM g).run P w = .ok us.toArray w := by
    rw [Array.mapM_eq_mapM_toList]
    simp only [Sem.run_map]
    rw [h2]; rfl
  rw [hres]
  simp only [Sem.run_bind]
  rw [hm]
  simp only [Result.andThen_ok, Sem.run_pure]
  refine ⟨_, rfl, ?_⟩
  cases us with
  | nil => cases vs with
    | nil => simp only [oneA, V, VL]; exact ⟨[], by simp, rfl⟩
    | cons x xs => simp only [VL] at h1; obtain ⟨_, _, h1, _⟩ := h1; cases h1
  | cons u us => cases vs with
    | nil => simp only [VL] at h1; cases h1
    | cons x xs => cases us with
      | nil => cases xs with
        | nil => simp only [VL] at h1; obtain ⟨v, l, h1, h2, h3⟩ := h1; injection h1 with h1 h4; subst h1; simpa [oneA] using h2
        | cons y ys => simp only [VL] at h1; obtain ⟨v, l, h1, h2, v', l', h3, _⟩ := h1; injection h1 with h1 h4; rw [← h4] at h3; cases h3
      | cons u' us => cases xs with
        | nil => simp only [VL] at h1; obtain ⟨v, l, h1, h2, h3⟩ := h1; injection h1 with h1 h4; rw [← h4] at h3; cases h3
        | cons y ys => simp only [oneA, V]; exact ⟨u :: u' :: us, by simp, h1⟩

/-- Code is as the evaluator says. -/
def JobSnd (P : Program) (GS : Nat → Option Nat) (n : Nat) (e : Nat → Job → Tr AV → St → Option Out) : Prop :=
  ∀ nt j T S x T' S', e nt j T S = some (.mk x T' S') → ∀ ⦃ds : List Deferred⦄ (φ : Phi) (w : World) (a : Act), W σ φ S w → Glob GS φ → TR σ φ T a → nt ≤ a.tmps.size → a.defers = ds → ∀ (Q : Exit → Act → World → Prop),
    (∀ φ' a' w', Post σ φ S w φ' S' w' → TR σ φ' T' a' → nt ≤ a'.tmps.size → a'.defers = ds → Q (exOf x) a' w') → jobWp P Q n j a w
theorem callBy_snd {P : Program} {GS : Nat → Option Nat} {n : Nat} {e : Nat → Job → Tr AV → St → Option Out} (he : JobSnd σ P GS n e) : CallSnd σ P GS (evCallBy P (fun nt c => e nt (.code c))) := by
  intro f args S v S' h φ w vs hW hg hv
  unfold evCallBy at h
  split at h
  · rename_i fn hfn
    split at h
    · rename_i c hc
      split at h
      · rename_i T hT
        have htr : TR σ φ T { tmps := vs.toArray ++ Array.replicate (fn.ntmps - vs.toArray.size) undef, defers := [] } := fun t x hx => by
          rw [Tr.get_putAll args .leaf 0 T hT] at hx
          split at hx
          · rename_i hlt
            rw [Nat.sub_zero] at hx
            obtain ⟨u, h1, h2⟩ := VL.at σ hv t x hx
            have hl : t < vs.toArray.size := by simpa using (List.getElem?_eq_some_iff.1 h1).1
            show V σ φ x ((vs.toArray ++ Array.replicate (fn.ntmps - vs.toArray.size) undef).getD t undef)
            rw [Array.getD_eq_getD_getElem?, Array.getElem?_append_left hl]
            simpa [h1] using h2
          · simp [Tr.get] at hx
        have hsz : fn.ntmps ≤ (vs.toArray ++ Array.replicate (fn.ntmps - vs.toArray.size) undef).size := by simp; omega
        have fin : ∀ x T' S1, e fn.ntmps (.code c) T S = some (.mk x T' S1) → (x = .nrm ∨ x = .ret) → (match resA P T' S1 fn.results.toList with | some vs => some (oneA vs, S1) | none => none) = some (v, S') → Calls P f vs.toArray w (fun e w' => ∃ u φ', e = .returned u ∧ Post σ φ S w φ' S' w' ∧ V σ φ' v u) := fun x T' S1 h1 hx h2 => by
          split at h2
          · rename_i us hus
            injection h2 with h2; injection h2 with h2 h3; subst h2; subst h3
            refine calls_of_wp hfn hc (he fn.ntmps (.code c) T S x T' S1 h1 φ w _ hW hg htr hsz rfl _ (fun φ' a' w' hpost htr' _ hd => ?_))
            obtain ⟨u, k1, k2⟩ := results_run σ hpost.wr htr' fn hus
            rcases hx with rfl | rfl
            · exact ⟨hd, u, k1, u, φ', rfl, hpost, k2⟩
            · exact ⟨hd, u, k1, u, φ', rfl, hpost, k2⟩
          · cases h2
        split at h
        · rename_i T' S1 h1; exact fin _ T' S1 h1 (.inl rfl) h
        · rename_i T' S1 h1; exact fin _ T' S1 h1 (.inr rfl) h
        · cases h
      · cases h
    · cases h
  · cases h
theorem noCall_snd {P : Program} {GS : Nat → Option Nat} : CallSnd σ P GS noCall := fun f args S v S' h => by cases h
/-- A function that defers one quiet closure. -/
theorem callDef_snd {P : Program} (hσ : Okσ σ) {GS : Nat → Option Nat} {n : Nat} {e : Nat → Job → Tr AV → St → Option Out} (he : JobSnd σ P GS n e) {f : FuncId} {fn : Func} {c : Code} {s : DefShape} (hf : P.funcs[f]? = some fn) (hb : fn.body = some c) (hs : defShape c = some s)
    {args : List AV} {S S' : St} {v : AV} (h : callDef P GS (fun nt c => e nt (.code c)) fn s args S = some (v, S')) (φ : Phi) (w : World) (vs : List Value) (hW : W σ φ S w) (hg : Glob GS φ) (hv : VL σ φ args vs) :
    Calls P f vs.toArray w (fun e w' => ∃ u φ', e = .returned u ∧ Post σ φ S w φ' S' w' ∧ V σ φ' v u) := by
  obtain ⟨rfl, hops, hdef⟩ := defShape_eq hs
  unfold callDef at h
  split at h
  · rename_i T hT
    have htr : TR σ φ T { tmps := vs.toArray ++ Array.replicate (fn.ntmps - vs.toArray.size) undef, defers := [] } := fun t x hx => by
      rw [Tr.get_putAll args .leaf 0 T hT] at hx
      split at hx
      · rename_i hlt
        rw [Nat.sub_zero] at hx
        obtain ⟨u, h1, h2⟩ := VL.at σ hv t x hx
        have hl : t < vs.toArray.size := by simpa using (List.getElem?_eq_some_iff.1 h1).1
        show V σ φ x ((vs.toArray ++ Array.replicate (fn.ntmps - vs.toArray.size) undef).getD t undef)
        rw [Array.getD_eq_getD_getElem?, Array.getElem?_append_left hl]
        simpa [h1] using h2
      · simp [Tr.get] at hx
    have hsz : fn.ntmps ≤ (vs.toArray ++ Array.replicate (fn.ntmps - vs.toArray.size) undef).size := by simp; omega
    split at h
    · rename_i T1 S1 h1
      split at h
      · rename_i T2 S2 h2
        split at h
        · rename_i g cap ht2
          cases hq : (quietF P g && okFn P g) with
          | false => simp [hq] at h
          | true =>
            simp only [hq, cond_true] at h
            simp only [Bool.and_eq_true] at hq
            obtain ⟨hq, hok⟩ := hq
            have fin : ∀ x T3 S3, e fn.ntmps (.code s.rest) T2 S2 = some (.mk x T3 S3) → (x = .nrm ∨ x = .ret) → (match resA P T3 S3 fn.results.toList with | some vs => some (oneA vs, S3) | none => none) = some (v, S') → Calls P f vs.toArray w (fun e w' => ∃ u φ', e = .returned u ∧ Post σ φ S w φ' S' w' ∧ V σ φ' v u) := fun x T3 S3 h3 hx h4 => by
              split at h4
              · rename_i us hus
                injection h4 with h4; injection h4 with h4 h5; subst h4; subst h5
                refine calls_of_wp_defers hf hb (wp_seq ?_)
                refine he fn.ntmps (.code s.c0) T S .nrm T1 S1 h1 φ w _ hW hg htr hsz rfl _ (fun φ1 a1 w1 p1 t1 z1 d1 => ?_)
                refine wp_seq (wp_region ?_)
                have hsize : s.ops.size = s.pre.length + 1 := by
                  have := congrArg List.length hops
                  simpa using this
                have hpl : ∀ j, j < s.pre.length → s.pre[j]? = s.ops[0 + j]? := fun j hj => by
                  rw [Nat.zero_add, ← Array.getElem?_toList, hops, List.getElem?_append_left hj]
                have hlast : s.ops[s.pre.length]? = some s.o := by
                  rw [← Array.getElem?_toList, hops]; simp
                have hr : List.range s.ops.size = List.range' 0 s.pre.length ++ [s.pre.length] := by
                  rw [hsize, List.range_succ, List.range_eq_range']
                rw [hr]
                refine evSeq_runK σ hσ (noCall_snd σ) s.pre 0 T1 T2 S1 S2 [s.pre.length] hpl h2 φ1 w1 a1 p1.wr (hg.mono p1.le) t1 z1 d1 (fun φ2 a2 w2 p2 t2 z2 d2 => ?_)
                have hfv := t2 _ _ ht2
                simp only [V, VL] at hfv
                obtain ⟨xs, cs, hfv, rfl, hc⟩ := hfv
                obtain ⟨k1, k2, d, k3, k4, k5⟩ := isDef_run (P := P) hdef a2 w2 hfv
                unfold wpOps
                simp only [hlast]
                rw [if_pos (by simp [Region.wanted, k1])]
                refine .inl ?_
                unfold Oper.wp
                rw [k3]
                simp only [Oper.upon, k2]
                obtain ⟨tg, da⟩ := d
                simp only at k4 k5
                subst k4 k5
                have q2 := p1.trans σ p2 hW
                refine he fn.ntmps (.code s.rest) T2 S2 x T3 S3 h3 φ2 w2 { a2 with defers := ⟨.fn (.func g) cs.toArray, #[]⟩ :: a2.defers } p2.wr (hg.mono q2.le) (ds := [⟨.fn (.func g) cs.toArray, #[]⟩]) t2 z2 (by simp only [d2]) _ (fun φ3 a4 w3 p3 t3 z3 d4 => ?_)
                have q3 := q2.trans σ p3 hW
                obtain ⟨u, r1, r2⟩ := results_run σ p3.wr t3 fn hus
                have hL : Leaves P fn a4.tmps (fun e w' => ∃ u φ', e = .returned u ∧ Post σ φ S w φ' S3 w' ∧ V σ φ' (oneA us) u) a4.defers .returning w3 := by
                  rw [d4]
                  unfold okFn at hok
                  split at hok
                  · rename_i gn hgn
                    simp only [Bool.and_eq_true, Bool.not_eq_true'] at hok
                    refine leaves_cons (by simp) (f := g) (args := cs.toArray) ?_ ((quiet_callsD hq _ w3).mono ?_)
                    · simp only [invoke, callFunc, Sem.run_bind, run_program, Sem.run_pure, Result.andThen_ok, hgn, hok.1, hok.2, Bool.false_eq_true, if_false]
                      simp
                    · rintro e u' w' ⟨⟨v, rfl⟩, rfl, rfl⟩
                      exact ⟨u, r1, u, φ3, rfl, q3, r2⟩
                  · cases hok
                rcases hx with rfl | rfl
                · exact hL
                · exact hL
              · cases h4
            unfold resD at h
            split at h
            · rename_i T3 S3 h3; exact fin _ T3 S3 h3 (.inl rfl) h
            · rename_i T3 S3 h3; exact fin _ T3 S3 h3 (.inr rfl) h
            · cases h
        · cases h
      · cases h
    · cases h
  · cases h
theorem callD_snd {P : Program} (hσ : Okσ σ) {GS : Nat → Option Nat} {n : Nat} {e : Nat → Job → Tr AV → St → Option Out} (he : JobSnd σ P GS n e) : CallSnd σ P GS (evCallD P GS (fun nt c => e nt (.code c))) := by
  intro f args S v S' h
  unfold evCallD at h
  cases hf : P.funcs[f]? with
  | none => rw [hf] at h; exact callBy_snd σ he f args S v S' h
  | some fn =>
    rw [hf] at h
    simp only [Option.bind_some] at h
    cases hb : fn.body with
    | none => rw [hb] at h; exact callBy_snd σ he f args S v S' h
    | some c =>
      rw [hb] at h
      simp only [Option.bind_some] at h
      cases hs : defShape c with
      | none => rw [hs] at h; exact callBy_snd σ he f args S v S' h
      | some s =>
        rw [hs] at h
        simp only [Option.map_some] at h
        exact fun φ w vs hW hg hv => callDef_snd σ hσ he hf hb hs h φ w vs hW hg hv
/-- Functions whose calls are told by contracts of their own. -/
abbrev Hk := FuncId → Option (List AV → St → Option (AV × St))
def hkNone : Hk := fun _ => none
def HkSnd (P : Program) (GS : Nat → Option Nat) (hk : Hk) : Prop := ∀ f g, hk f = some g → ∀ args S v S', g args S = some (v, S') → ∀ (φ : Phi) (w : World) (vs : List Value), W σ φ S w → Glob GS φ → VL σ φ args vs →
    Calls P f vs.toArray w (fun e w' => ∃ u φ', e = .returned u ∧ Post σ φ S w φ' S' w' ∧ V σ φ' v u)
theorem hkNone_snd (P : Program) (GS : Nat → Option Nat) : HkSnd σ P GS hkNone := fun f g h => by cases h
def evCallH (hk : Hk) (P : Program) (GS : Nat → Option Nat) (ev : Nat → Code → Tr AV → St → Option Out) (f : FuncId) (args : List AV) (S : St) : Option (AV × St) :=
  match hk f with
  | some g => g args S
  | none => evCallD P GS ev f args S
theorem callH_snd {hk : Hk} {P : Program} (hσ : Okσ σ) {GS : Nat → Option Nat} (hhk : HkSnd σ P GS hk) {n : Nat} {e : Nat → Job → Tr AV → St → Option Out} (he : JobSnd σ P GS n e) : CallSnd σ P GS (evCallH hk P GS (fun nt c => e nt (.code c))) := by
  intro f args S v S' h
  unfold evCallH at h
  cases hf : hk f with
  | none => rw [hf] at h; exact callD_snd σ hσ he f args S v S' h
  | some g => rw [hf] at h; exact hhk f g hf args S v S' h
end
end Go.Proofs.YtedokmdoompidaaGreatDoor.Ev
