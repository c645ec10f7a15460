/- The evaluator: drawn regions are as it says. -/
import Derived.Test.YtedokmdoompidaaGreatDoorEvX
namespace Go.Proofs.YtedokmdoompidaaGreatDoor.Ev

section
variable (σ : Nat → Value) {ds : List Deferred}
/-- The calls are as they are said to be. -/
def CallSnd (P : Program) (GS : Nat → Option Nat) (call : FuncId → List AV → St → Option (AV × St)) : Prop :=
  ∀ f args S v S', call f args S = some (v, S') → ∀ (φ : Phi) (w : World) (vs : List Value), W σ φ S w → Glob GS φ → VL σ φ args vs →
    Calls P f vs.toArray w (fun e w' => ∃ u φ', e = .returned u ∧ Post σ φ S w φ' S' w' ∧ V σ φ' v u)

theorem callA_run {P : Program} {GS : Nat → Option Nat} {call : FuncId → List AV → St → Option (AV × St)} {φ : Phi} {T : Tr AV} {S S' : St} {a : Act} {w : World} {v : AV} (ht : TR σ φ T a) (hg : Glob GS φ) (o : Oper) (h : callA P call GS T S o.op = some (v, S')) :
    ∃ g vs args, (execOp a.eval o).run P w = .ok (.enter g vs.toArray) w ∧ call g args S = some (v, S') ∧ VL σ φ args vs := by
  obtain ⟨dst, op, type, pos, after, guard⟩ := o
  simp only at h
  unfold callA at h
  split at h
  · rename_i f args argTypes
    split at h
    · rename_i g first cap vs hf hv
      cases hok : okFn P g with
      | false => simp [hok] at h
      | true =>
        simp only [hok, cond_true] at h
        have hfv := opd_V σ ht hg hf
        simp only [V] at hfv
        obtain ⟨xs, cs, he, hx, hc⟩ := hfv
        have hvs := opds_VL σ ht hg hv
        refine ⟨g, xs ++ args.toList.map a.eval ++ cs, first ++ vs ++ cap, ?_, h, VL.append σ (VL.append σ hx hvs) hc⟩
        unfold okFn at hok
        split at hok
        · rename_i fn hfn
          simp only [Bool.and_eq_true, Bool.not_eq_true'] at hok
          have harr : (xs.toArray ++ args.map a.eval ++ cs.toArray) = (xs ++ args.toList.map a.eval ++ cs).toArray := by
            apply Array.ext'
            simp
          simp only [execOp, resolve, he, Deferred.ofValue, Sem.run_bind, Sem.run_pure, Result.andThen_ok, invoke, callFunc, run_program, hfn, hok.1, hok.2, Bool.false_eq_true, if_false, harr]
        · cases hok
    · cases h
  · cases h

theorem wr_snd {P : Program} (hσ : Okσ σ) {GS : Nat → Option Nat} {T : Tr AV} {S S' : St} {o : Oper} {v : AV} (h : wr P GS T S o.op = some (v, S')) : OpSnd σ P GS T S o v S' := by
  intro φ w a hW hg ht K Q hK
  obtain ⟨u, w', φ', h1, h2, h3⟩ := wr_run σ hσ hW ht hg o h
  unfold Oper.wp
  rcases h1 with h1 | ⟨h1, rfl⟩
  · rw [h1]; simp only [Oper.upon]; exact hK u w' φ' h2 h3
  · rw [h1]; simp only [Oper.upon]; exact hK undef w' φ' h2 h3
theorem call_snd {P : Program} {GS : Nat → Option Nat} {call : FuncId → List AV → St → Option (AV × St)} (hcall : CallSnd σ P GS call) {T : Tr AV} {S S' : St} {o : Oper} {v : AV} (h : callA P call GS T S o.op = some (v, S')) : OpSnd σ P GS T S o v S' := by
  intro φ w a hW hg ht K Q hK
  obtain ⟨g, vs, args, h1, h2, h3⟩ := callA_run σ (w := w) ht hg o h
  unfold Oper.wp
  rw [h1]
  simp only [Oper.upon]
  refine Calls.mono (hcall g args S v S' h2 φ w vs hW hg h3) ?_
  rintro e w' ⟨u, φ', rfl, h4, h5⟩
  exact hK u w' φ' h4 h5

theorem evDraw_run {P : Program} (hσ : Okσ σ) {GS : Nat → Option Nat} {call : FuncId → List AV → St → Option (AV × St)} (hcall : CallSnd σ P GS call) {nt : Nat} {ops : Array Oper} {T T' : Tr AV} {S S' : St} (h : evDraw P call GS nt ops T S = some (T', S'))
    {φ : Phi} {w : World} {a : Act} (hW : W σ φ S w) (hg : Glob GS φ) (ht : TR σ φ T a) (hsz : nt ≤ a.tmps.size) (hdf : a.defers = ds) {Q : Exit → Act → World → Prop}
    (hQ : ∀ φ' a w', Post σ φ S w φ' S' w' → TR σ φ' T' a → nt ≤ a.tmps.size → a.defers = ds → Q .normal a w') : wpAny P .any ops Q ops.size (Array.replicate ops.size false) a w := by
  unfold evDraw at h
  simp only at h
  cases he : edgesOk ops.toList 0 with
  | false => simp [he] at h
  | true =>
  simp only [he, cond_true] at h
  split at h
  · rename_i recs Tn Sn hev
    cases hck : (pairsOk (masks ops.toList []) (wrts recs 0) && readsOk P GS (masks ops.toList []) (wrts recs 0) ops.toList.length Sn recs ops.toList 0) with
    | false => rw [hck, cond_false] at h; cases h
    | true =>
    simp only [hck, cond_true, Option.some.injEq, Prod.mk.injEq] at h
    obtain ⟨rfl, rfl⟩ := h
    simp only [Bool.and_eq_true] at hck
    obtain ⟨hpairs, hreads⟩ := hck
    obtain ⟨hlen, hfirst, F, hTT⟩ := evT_facts (P := P) (l := ops.toList) (B := masks ops.toList []) (D := dstsOf ops.toList) (T0 := T) ops.toList [] .leaf T S recs Tn Sn
      ⟨fun t req x hx => by simp [Tr.get] at hx, fun k r t hk => by simp at hk⟩ (fun t x hx => .inr ⟨hx, fun k r hk => by simp at hk⟩) hev
    simp only [List.nil_append, List.length_nil, Nat.zero_add] at F hTT
    have hn : recs.length = ops.size := by rw [hlen, Array.length_toList]
    generalize hB : masks ops.toList [] = B at *
    -- the plan's parts
    let role : Nat → Role := fun i => recs[i]?.elim .skp (·.role)
    let Tl : Nat → Tr AV := fun i => recs[i]?.elim .leaf (·.Tl)
    let Sf : Nat → St := fun i => recs[i]?.elim Sn (·.S)
    let vf : Nat → AV := fun i => recs[i]?.elim .nilp (·.v)
    let sl : Nat → Option Nat := fun i => recs[i]?.elim none (·.sl)
    have at_ : ∀ i o, ops[i]? = some o → ∃ r R', recs[i]? = some r ∧ role i = r.role ∧ Tl i = r.Tl ∧ Sf i = r.S ∧ vf i = r.v ∧ sl i = r.sl ∧ Sf (i + 1) = r.S' ∧ oneRec P call GS ops ops.toList B (dstsOf ops.toList) T R' i o r.S = some r ∧ Track recs i R' ∧
        (∀ t, r.sl = some t → t < nt ∧ memN t (dstsOf ops.toList) = true ∧ ∀ k r', k < i → recs[k]? = some r' → r'.sl ≠ some t) := fun i o ho => by
      obtain ⟨r, R', h1, h2, h3, h4, h5⟩ := F i o (by rw [Array.getElem?_toList]; exact ho)
      exact ⟨r, R', h1, by simp [role, h1], by simp [Tl, h1], by simp [Sf, h1], by simp [vf, h1], by simp [sl, h1], by simp [Sf, h4], h2, h3, h5⟩
    have opAt : ∀ i, i < ops.size → ∃ o, ops[i]? = some o := fun i hi => ⟨ops[i], Array.getElem?_eq_getElem hi⟩
    have recAt : ∀ i r, recs[i]? = some r → i < ops.size := fun i r hr => by rw [← hn]; exact (List.getElem?_eq_some_iff.1 hr).1
    have slAt : ∀ k t, k < ops.size → sl k = some t → ∃ r, recs[k]? = some r ∧ r.sl = some t ∧ vf k = r.v ∧ role k = r.role := fun k t hk hs => by
      obtain ⟨o, ho⟩ := opAt k hk
      obtain ⟨r, _, h1, h2, _, _, h5, h6, _⟩ := at_ k o ho
      exact ⟨r, h1, by rw [← h6]; exact hs, h5, h2⟩
    have sliNe : ∀ i j t, j < ops.size → i < j → sl i = some t → sl j = some t → False := fun i j t hj hij hi' hj' => by
      obtain ⟨o, ho⟩ := opAt j hj
      obtain ⟨r, _, h1, _, _, _, _, h6, _, _, _, h7⟩ := at_ j o ho
      obtain ⟨r', g1, g2, _⟩ := slAt i t (by omega) hi'
      exact (h7 t (by rw [← h6]; exact hj')).2.2 i r' hij g1 g2
    have inD : ∀ k t, k < ops.size → sl k = some t → memN t (dstsOf ops.toList) = true := fun k t hk hs => by
      obtain ⟨o, ho⟩ := opAt k hk
      obtain ⟨r, _, h1, _, _, _, _, h6, _, _, _, h7⟩ := at_ k o ho
      exact (h7 t (by rw [← h6]; exact hs)).2.1
    -- literals
    have litInfo : ∀ i o m p ins, ops[i]? = some o → litAt ops.toList o = some (m, p, ins) → mkOf m ops.toList 0 = some p ∧ ins = insOf m ops.toList 0 ∧ ins ≠ [] ∧ ((∃ t, o.op = .makeMap t none ∧ o.dst = some m) ∨ (∃ tm k x, o.op = .insert tm (.tmp m) k x)) := fun i o m p ins ho hl => by
      unfold litAt at hl
      split at hl
      · rename_i t hop
        split at hl
        · rename_i m' hd
          split at hl
          · cases hl
          · rename_i q qs hq
            split at hl
            · rename_i p' hp
              simp only [Option.some.injEq, Prod.mk.injEq] at hl
              obtain ⟨rfl, rfl, rfl⟩ := hl
              exact ⟨hp, hq.symm, by simp, .inl ⟨t, hop, hd⟩⟩
            · cases hl
        · cases hl
      · rename_i tm m' k x hop
        split at hl
        · rename_i p' hp
          simp only [Option.some.injEq, Prod.mk.injEq] at hl
          obtain ⟨rfl, rfl, rfl⟩ := hl
          refine ⟨hp, rfl, fun hnil => ?_, .inr ⟨tm, k, x, hop⟩⟩
          have := ins_mem hop ops.toList i 0 (by rw [Array.getElem?_toList]; exact ho)
          rw [hnil] at this; cases this
        · cases hl
      · cases hl
    have litMk : ∀ p m, mkOf m ops.toList 0 = some p → insOf m ops.toList 0 ≠ [] → ∃ o t, ops[p]? = some o ∧ o.op = .makeMap t none ∧ o.dst = some m ∧ litAt ops.toList o = some (m, p, insOf m ops.toList 0) := fun p m hp hne => by
      obtain ⟨_, o, t, h1, h2, h3⟩ := mkOf_spec hp
      rw [Nat.sub_zero, Array.getElem?_toList] at h1
      refine ⟨o, t, h1, h2, h3, ?_⟩
      unfold litAt
      rw [h2]
      simp only [h3]
      split
      · rename_i hh; exact absurd hh hne
      · rename_i hh; rw [hp, hh]
    have litIns : ∀ e m p, mkOf m ops.toList 0 = some p → e ∈ insOf m ops.toList 0 → ∃ o tm k x, ops[e]? = some o ∧ o.op = .insert tm (.tmp m) k x ∧ litAt ops.toList o = some (m, p, insOf m ops.toList 0) := fun e m p hp hm => by
      obtain ⟨_, o, tm, k, x, h1, h2⟩ := insOf_spec hm
      rw [Nat.sub_zero, Array.getElem?_toList] at h1
      refine ⟨o, tm, k, x, h1, h2, ?_⟩
      unfold litAt
      rw [h2]
      simp only [hp]
    -- the records of parts
    have partAt : ∀ i o m p ins, ops[i]? = some o → litAt ops.toList o = some (m, p, ins) → o.guard = none ∧
        ((role i = .pc ∧ Sf (i + 1) = Sf i ∧ sl i = none ∧ (((∃ t, o.op = .makeMap t none) ∧ i = p) ∨ ((∃ tm k x, o.op = .insert tm (.tmp m) k x) ∧ i ≠ lastN ins ∧ i ∈ ins))) ∨
         (i = lastN ins ∧ ∃ tm k x R' r, o.op = .insert tm (.tmp m) k x ∧ Track recs i R' ∧ recs[i]? = some r ∧ litRec P GS ops.toList B R' T (dstsOf ops.toList) i tm m p ins r.S = some r)) := fun i o m p ins ho hl => by
      obtain ⟨r, R', h1, h2, h3, h4, h5, h6, h7, h8, h9, _⟩ := at_ i o ho
      unfold oneRec at h8
      rw [hl] at h8
      simp only at h8
      obtain ⟨_, _, _, hop⟩ := litInfo i o m p ins ho hl
      obtain ⟨g1, g2⟩ := partRec_cases h8
      refine ⟨g1, ?_⟩
      rcases g2 with ⟨g3, g4⟩ | ⟨tm, t, k, x, g3, g4, g5⟩
      · have e1 : r.role = .pc := by rw [g3]
        have e2 : r.S' = r.S := by rw [g3]
        have e3 : r.sl = none := by rw [g3]
        refine .inl ⟨by rw [h2, e1], by rw [h7, h4, e2], by rw [h6, e3], ?_⟩
        rcases g4 with g4 | ⟨⟨tm, t, k, x, g5⟩, g6, g7⟩
        · exact .inl g4
        · rcases hop with ⟨t', hop, _⟩ | ⟨tm', k', x', hop⟩
          · rw [hop] at g5; cases g5
          · exact .inr ⟨⟨tm', k', x', hop⟩, g6, memN_eq.1 g7⟩
      · rcases hop with ⟨t', hop, _⟩ | ⟨tm', k', x', hop⟩
        · rw [hop] at g3; cases g3
        · rw [hop] at g3; injection g3 with e1 e2 e3 e4
          subst e1
          exact .inr ⟨g4, tm', k', x', R', r, hop, h9, h1, g5⟩
    have genAt : ∀ i o, ops[i]? = some o → litAt ops.toList o = none → ∃ R' ts, Track recs i R' ∧ looks ops.toList B i R' T (dstsOf ops.toList) ts .leaf = some (Tl i) ∧ sl i = o.dst ∧
        ((role i = .skp ∧ gd ops (Tl i) o = some false ∧ vf i = .tup [] ∧ Sf (i + 1) = Sf i) ∨
         (role i = .rdr ∧ gd ops (Tl i) o = some true ∧ rd P GS (Tl i) (Sf i) o.op = some (vf i) ∧ lowA (Sf i).nx (vf i) = true ∧ Sf (i + 1) = Sf i) ∨
         (∃ blk mk, role i = .alc blk mk ∧ gd ops (Tl i) o = some true ∧ alA P GS (Tl i) o.op = some (blk, mk) ∧ vf i = mk (Sf i).nx ∧ (∀ c, (Sf (i + 1)).h.get c = if c = (Sf i).nx then some blk else (Sf i).h.get c) ∧ (Sf (i + 1)).nx = (Sf i).nx + 1) ∨
         (role i = .wrt ∧ gd ops (Tl i) o = some true ∧ (Sf i).nx ≤ (Sf (i + 1)).nx ∧ (wr P GS (Tl i) (Sf i) o.op = some (vf i, Sf (i + 1)) ∨ callA P call GS (Tl i) (Sf i) o.op = some (vf i, Sf (i + 1))))) := fun i o ho hl => by
      obtain ⟨r, R', h1, h2, h3, h4, h5, h6, h7, h8, h9, _⟩ := at_ i o ho
      unfold oneRec at h8
      rw [hl] at h8
      simp only at h8
      split at h8
      · rename_i Tl' hlk
        obtain ⟨g1, g2, g3, g4⟩ := genRec_cases h8
        rw [h2, h3, h4, h5, h6, h7, g1]
        exact ⟨R', _, h9, hlk, g3, g4⟩
      · cases h8
    have litQ : ∀ q p qs, role q = .lit p qs → q < ops.size ∧ ∃ m, mkOf m ops.toList 0 = some p ∧ insOf m ops.toList 0 ≠ [] ∧ q = lastN (insOf m ops.toList 0) ∧ qs.map (·.1) = insOf m ops.toList 0 ∧ sl q = some m ∧ ∃ tm kt vt R', Track recs q R' ∧ P.underlying tm = some (.map kt vt) ∧ keyT P kt = true ∧
        entsOf GS ops.toList B R' T (dstsOf ops.toList) q p m tm (insOf m ops.toList 0) = some qs ∧ keysOk P kt qs = true ∧ vf q = .map (Sf q).nx ∧ (∀ c, (Sf (q + 1)).h.get c = if c = (Sf q).nx then some (.map (qs.map fun e => (e.2.2.1, e.2.2.2))) else (Sf q).h.get c) ∧ (Sf (q + 1)).nx = (Sf q).nx + 1 := fun q p qs hr => by
      have hq : q < ops.size := by
        rcases Nat.lt_or_ge q recs.length with hlt | hge
        · omega
        · simp only [role, List.getElem?_eq_none hge, Option.elim] at hr; cases hr
      obtain ⟨o, ho⟩ := opAt q hq
      refine ⟨hq, ?_⟩
      cases hl : litAt ops.toList o with
      | none =>
        obtain ⟨_, _, _, _, _, g⟩ := genAt q o ho hl
        rcases g with ⟨g, _⟩ | ⟨g, _⟩ | ⟨_, _, g, _⟩ | ⟨g, _⟩ <;> (rw [hr] at g; cases g)
      | some x =>
        obtain ⟨m, p', ins⟩ := x
        obtain ⟨i1, i2, i3, _⟩ := litInfo q o m p' ins ho hl
        obtain ⟨_, g⟩ := partAt q o m p' ins ho hl
        rcases g with ⟨g, _⟩ | ⟨g1, tm, k, x, R', r, g2, g3, g4, g5⟩
        · rw [hr] at g; cases g
        · obtain ⟨e1, e2, e3, kt, vt, qs', e4, e5, e6, e7, e8, e9, e10, e11⟩ := litRec_S g5
          obtain ⟨r2, _, a1, a2, _, a4, a5, a6, a7, _⟩ := at_ q o ho
          rw [g4] at a1; injection a1 with a1; subst a1
          rw [a2, e9] at hr
          injection hr with hr1 hr2
          subst hr1; subst hr2; subst i2
          refine ⟨m, i1, i3, g1, (entsOf_spec e7).1, by rw [a6, e2], tm, kt, vt, R', g3, e4, e5, e7, e8, by rw [a5, e3, a4], by rw [a7, a4]; exact e10, by rw [a7, a4]; exact e11⟩
    have hdom : ∀ j p qs, role j = .lit p qs → j < ops.size := fun j p qs hr => (litQ j p qs hr).1
    have notGen : ∀ i o, ops[i]? = some o → ∀ x, litAt ops.toList o = some x → role i = .pc ∨ ∃ p qs, role i = .lit p qs := fun i o ho x hl => by
      obtain ⟨m, p, ins⟩ := x
      obtain ⟨_, g⟩ := partAt i o m p ins ho hl
      rcases g with ⟨g, _⟩ | ⟨_, tm, k, x, R', r, _, _, g4, g5⟩
      · exact .inl g
      · obtain ⟨_, _, _, _, _, qs', _, _, _, _, _, e9, _⟩ := litRec_S g5
        exact .inr ⟨p, qs', by simp [role, g4, e9]⟩
    have isGen : ∀ i o, ops[i]? = some o → role i ≠ .pc → (∀ p qs, role i ≠ .lit p qs) → litAt ops.toList o = none := fun i o ho h1 h2 => by
      cases hl : litAt ops.toList o with
      | none => rfl
      | some x =>
        rcases notGen i o ho x hl with h3 | ⟨p, qs, h3⟩
        · exact absurd h3 h1
        · exact absurd h3 (h2 p qs)
    have wsMem : ∀ k S, (k, S) ∈ wrts recs 0 ↔ k < ops.size ∧ role k = .wrt ∧ S = Sf k := fun k S => by
      rw [wrts_spec]
      constructor
      · rintro ⟨_, r, h1, h2, h3⟩
        rw [Nat.sub_zero] at h1
        exact ⟨recAt k r h1, by simp [role, h1, h2], by simp [Sf, h1, h3]⟩
      · rintro ⟨h1, h2, h3⟩
        obtain ⟨o, ho⟩ := opAt k h1
        obtain ⟨r, _, a1, a2, _, a4, _⟩ := at_ k o ho
        exact ⟨Nat.zero_le _, r, by rw [Nat.sub_zero]; exact a1, by rw [← a2]; exact h2, by rw [h3, a4]⟩
    have partTl : ∀ i o x, ops[i]? = some o → litAt ops.toList o = some x → Tl i = .leaf := fun i o x ho hl => by
      obtain ⟨m, p, ins⟩ := x
      obtain ⟨r, R', h1, h2, h3, h4, h5, h6, h7, h8, h9, _⟩ := at_ i o ho
      unfold oneRec at h8
      rw [hl] at h8
      simp only at h8
      rw [h3]
      rcases (partRec_cases h8).2 with ⟨g3, _⟩ | ⟨_, _, _, _, _, _, g5⟩
      · rw [g3]
      · exact litRec_Tl g5
    have pcLit : ∀ i o, ops[i]? = some o → role i = .pc → ∃ m p, litAt ops.toList o = some (m, p, insOf m ops.toList 0) ∧ mkOf m ops.toList 0 = some p ∧ insOf m ops.toList 0 ≠ [] := fun i o ho hr => by
      cases hl : litAt ops.toList o with
      | none =>
        obtain ⟨_, _, _, _, _, g⟩ := genAt i o ho hl
        rcases g with ⟨g, _⟩ | ⟨g, _⟩ | ⟨_, _, g, _⟩ | ⟨g, _⟩ <;> (rw [hr] at g; cases g)
      | some x =>
        obtain ⟨m, p, ins⟩ := x
        obtain ⟨i1, i2, i3, _⟩ := litInfo i o m p ins ho hl
        subst i2
        exact ⟨m, p, rfl, i1, i3⟩
    have lastLit : ∀ m p, mkOf m ops.toList 0 = some p → insOf m ops.toList 0 ≠ [] → lastN (insOf m ops.toList 0) < ops.size ∧ ∃ qs, role (lastN (insOf m ops.toList 0)) = .lit p qs ∧ qs.map (·.1) = insOf m ops.toList 0 := fun m p hp hne => by
      obtain ⟨o, tm, k, x, ho, hop, hl⟩ := litIns (lastN (insOf m ops.toList 0)) m p hp (lastN_mem hne)
      obtain ⟨_, g⟩ := partAt _ o m p _ ho hl
      refine ⟨(Array.getElem?_eq_some_iff.1 ho).1, ?_⟩
      rcases g with ⟨_, _, _, ⟨⟨t, g⟩, _⟩ | ⟨_, g, _⟩⟩ | ⟨_, tm', k', x', R', r, _, _, g4, g5⟩
      · rw [hop] at g; cases g
      · exact absurd rfl g
      · obtain ⟨_, _, _, _, _, qs', _, _, _, e7, _, e9, _⟩ := litRec_S g5
        exact ⟨qs', by simp [role, g4, e9], (entsOf_spec e7).1⟩
    have pieceOp : ∀ q p qs i, role q = .lit p qs → (i = p ∨ ∃ e ∈ qs, e.1 = i) → ∃ m o, mkOf m ops.toList 0 = some p ∧ q = lastN (insOf m ops.toList 0) ∧ ops[i]? = some o ∧ ((∃ t, o.op = .makeMap t none ∧ o.dst = some m) ∨ (∃ tm k x, o.op = .insert tm (.tmp m) k x)) := fun q p qs i hr hi => by
      obtain ⟨_, m, l1, l2, l3, l4, _⟩ := litQ q p qs hr
      rcases hi with rfl | ⟨e, he', rfl⟩
      · obtain ⟨o, t, h1, h2, h3, _⟩ := litMk i m l1 l2
        exact ⟨m, o, l1, l3, h1, .inl ⟨t, h2, h3⟩⟩
      · obtain ⟨o, tm, k, x, h1, h2, _⟩ := litIns e.1 m p l1 (by rw [← l4]; exact List.mem_map.2 ⟨e, he', rfl⟩)
        exact ⟨m, o, l1, l3, h1, .inr ⟨tm, k, x, h2⟩⟩
    -- slots
    have lookOk : ∀ (R' : Tr (Nat × AV)) (i mj : Nat) (ts : List Nat) (Tl' : Tr AV), Track recs i R' → looks ops.toList B mj R' T (dstsOf ops.toList) ts .leaf = some Tl' → ∀ t x, Tl'.get t = some x →
        (∃ k, k < ops.size ∧ sl k = some t ∧ x = vf k ∧ k < mj ∧ (∀ p qs, role k = .lit p qs → bitOf B p mj = true ∧ ∀ e ∈ qs, bitOf B e.1 mj = true) ∧ bitOf B k mj = true) ∨ (T.get t = some x ∧ ∀ k, k < ops.size → sl k = some t → ((∀ p qs, role k ≠ .lit p qs) ∧ bitOf B mj k = true) ∨ ∃ p qs, role k = .lit p qs ∧ bitOf B mj p = true) := fun R' i mj ts Tl' hTr hl t x hx => by
      rcases looks_spec hl t x hx with h1 | ⟨req, h1, h2⟩ | ⟨h1, h2⟩
      · simp [Tr.get] at h1
      · obtain ⟨k, r, k1, k2, k3, k4, k5⟩ := hTr.of t req x h1
        have hk := recAt k r k2
        have hbit : ∀ b ∈ memOf r.role k, bitOf B b mj = true := fun b hb => req_bit h2 (by rw [k5]; exact bitsOf_mem hb)
        have hkm : k ∈ memOf r.role k := by unfold memOf; split <;> simp
        refine .inl ⟨k, hk, by simp [sl, k2, k3], by simp [vf, k2, k4], bit_lt he k mj (by rw [hB]; exact hbit k hkm), fun p qs hr => ?_, hbit k hkm⟩
        have hr' : r.role = .lit p qs := by simpa [role, k2] using hr
        rw [hr'] at hbit
        exact ⟨hbit p (by simp [memOf]), fun e he' => hbit e.1 (by simp only [memOf, List.mem_cons, List.mem_map]; exact .inr (.inr ⟨e, he', rfl⟩))⟩
      · refine .inr ⟨h2, fun k hk hs => ?_⟩
        rcases h1 with h1 | h1
        · rw [inD k t hk hs] at h1; cases h1
        · obtain ⟨o, ho⟩ := opAt k hk
          by_cases hlit : ∃ p qs, role k = .lit p qs
          · obtain ⟨p, qs, hr⟩ := hlit
            obtain ⟨_, m, l1, l2, _, _, l5, _⟩ := litQ k p qs hr
            rw [hs] at l5; injection l5 with l5; subst l5
            obtain ⟨op, t', p1, _, p3, _⟩ := litMk p t l1 l2
            exact .inr ⟨p, qs, hr, h1 p op (by rw [Array.getElem?_toList]; exact p1) p3⟩
          · have hnl : ∀ p qs, role k ≠ .lit p qs := fun p qs hr => hlit ⟨p, qs, hr⟩
            have hnp : role k ≠ .pc := fun hr => by
              obtain ⟨m, p, hl', _⟩ := pcLit k o ho hr
              rcases (partAt k o m p _ ho hl').2 with ⟨_, _, g, _⟩ | ⟨_, _, _, _, _, r, _, _, g4, g5⟩
              · rw [g] at hs; cases hs
              · obtain ⟨_, _, _, _, _, _, _, _, _, _, _, e9, _⟩ := litRec_S g5
                simp [role, g4, e9] at hr
            obtain ⟨_, _, _, _, g, _⟩ := genAt k o ho (isGen k o ho hnp hnl)
            exact .inl ⟨hnl, h1 k o (by rw [Array.getElem?_toList]; exact ho) (by rw [← g]; exact hs)⟩
    have hplan : Plan σ P GS nt ops T role Tl Sf vf sl (bitOf B) := {
      bitlt := fun i j h => bit_lt he i j (by rw [hB]; exact h)
      bits := fun X hc j o ho hX i h => bit_in he X (fun j o ho => hc j o (by rw [← Array.getElem?_toList]; exact ho)) i j o (by rw [Array.getElem?_toList]; exact ho) hX (by rw [hB]; exact h)
      mono := fun i hi => by
        obtain ⟨o, ho⟩ := opAt i hi
        cases hl : litAt ops.toList o with
        | none =>
          obtain ⟨_, _, _, _, _, g⟩ := genAt i o ho hl
          rcases g with ⟨_, _, _, g⟩ | ⟨_, _, _, _, g⟩ | ⟨_, _, _, _, _, _, _, g⟩ | ⟨_, _, g, _⟩
          · rw [g]; exact Nat.le_refl _
          · rw [g]; exact Nat.le_refl _
          · omega
          · exact g
        | some x =>
          rcases notGen i o ho x hl with h3 | ⟨p, qs, h3⟩
          · obtain ⟨m, p, ins⟩ := x
            obtain ⟨_, g⟩ := partAt i o m p ins ho hl
            rcases g with ⟨_, g, _⟩ | ⟨_, tm, k, x, R', r, _, _, g4, g5⟩
            · rw [g]; exact Nat.le_refl _
            · obtain ⟨_, _, _, _, _, qs', _, _, _, _, _, e9, _⟩ := litRec_S g5
              simp [role, g4, e9] at h3
          · obtain ⟨_, m, _, _, _, _, _, tm, kt, vt, R', _, _, _, _, _, _, _, g⟩ := litQ i p qs h3
            omega
      slt := fun i t hi hs => by
        obtain ⟨o, ho⟩ := opAt i hi
        obtain ⟨r, _, h1, _, _, _, _, h6, _, _, _, h7⟩ := at_ i o ho
        exact (h7 t (by rw [← h6]; exact hs)).1
      sli := fun i j t hi hj h1 h2 => by
        rcases Nat.lt_trichotomy i j with hlt | heq | hlt
        · exact (sliNe i j t hj hlt h1 h2).elim
        · exact heq
        · exact (sliNe j i t hi hlt h2 h1).elim
      skp := fun i o ho hr => by
        obtain ⟨_, _, _, _, hs, g⟩ := genAt i o ho (isGen i o ho (by rw [hr]; simp) (by rw [hr]; simp))
        rcases g with ⟨_, g1, g2, g3⟩ | ⟨g, _⟩ | ⟨_, _, g, _⟩ | ⟨g, _⟩
        · exact ⟨g1, g2, g3, hs⟩
        all_goals (rw [hr] at g; cases g)
      rdr := fun i o ho hr => by
        obtain ⟨_, _, _, _, hs, g⟩ := genAt i o ho (isGen i o ho (by rw [hr]; simp) (by rw [hr]; simp))
        rcases g with ⟨g, _⟩ | ⟨_, g1, g2, g3, g4⟩ | ⟨_, _, g, _⟩ | ⟨g, _⟩
        · rw [hr] at g; cases g
        · exact ⟨g1, fun n => by rw [rd_nx P GS (Tl i) (Sf i).h n (Sf i).nx]; exact g2, g4, hs, fun φ u hv => lowA_V σ _ _ g3 hv⟩
        all_goals (rw [hr] at g; cases g)
      alc := fun i o blk mk ho hr => by
        obtain ⟨_, _, _, _, hs, g⟩ := genAt i o ho (isGen i o ho (by rw [hr]; simp) (by rw [hr]; simp))
        rcases g with ⟨g, _⟩ | ⟨g, _⟩ | ⟨blk', mk', g, g1, g2, g3, g4, g5⟩ | ⟨g, _⟩
        · rw [hr] at g; cases g
        · rw [hr] at g; cases g
        · rw [hr] at g; injection g with e1 e2; subst e1; subst e2
          exact ⟨g1, g2, g3, g4, g5, hs⟩
        · rw [hr] at g; cases g
      wrt := fun i o ho hr => by
        obtain ⟨_, _, _, _, hs, g⟩ := genAt i o ho (isGen i o ho (by rw [hr]; simp) (by rw [hr]; simp))
        rcases g with ⟨g, _⟩ | ⟨g, _⟩ | ⟨_, _, g, _⟩ | ⟨_, g1, _, g3⟩
        · rw [hr] at g; cases g
        · rw [hr] at g; cases g
        · rw [hr] at g; cases g
        · refine ⟨g1, ?_, hs⟩
          rcases g3 with g3 | g3
          · exact wr_snd σ hσ g3
          · exact call_snd σ hcall g3
      pc := fun i o ho hr => by
        obtain ⟨m, p, hl, hp, hne⟩ := pcLit i o ho hr
        obtain ⟨_, g⟩ := partAt i o m p _ ho hl
        obtain ⟨hq, qs, hrq, hqs⟩ := lastLit m p hp hne
        rcases g with ⟨_, g1, g2, g3⟩ | ⟨g, _⟩
        · refine ⟨g1, g2, lastN (insOf m ops.toList 0), p, qs, hq, hrq, ?_⟩
          rcases g3 with ⟨_, g3⟩ | ⟨_, _, g3⟩
          · exact .inl g3
          · rw [← hqs] at g3
            obtain ⟨e, he1, he2⟩ := List.mem_map.1 g3
            exact .inr ⟨e, he1, he2⟩
        · rw [g, hrq] at hr; cases hr
      lit := fun q o p qs ho hr => by
        obtain ⟨hq, m, l1, l2, l3, l4, l5, tm, kt, vt, R', l6, l7, l8, l9, l10, l11, l12, l13⟩ := litQ q p qs hr
        obtain ⟨k1, k2⟩ := keysOk_spec l10
        obtain ⟨_, e2⟩ := entsOf_spec l9
        obtain ⟨op, t, p1, p2, p3, p4⟩ := litMk p m l1 l2
        obtain ⟨p5, p6⟩ := partAt p op m p _ p1 p4
        refine ⟨l11, l12, l13, ?_, k1, fun e he' => ?_, m, op, t, l5, p1, ?_, p2, p5, p3, kt, vt, ⟨tm, l7, l8, fun e he' => ?_⟩, k2⟩
        · have : q ∈ qs.map (·.1) := by rw [l4]; rw [l3]; exact lastN_mem l2
          obtain ⟨e, h1, h2⟩ := List.mem_map.1 this
          exact ⟨e, h1, h2⟩
        · obtain ⟨_, _, _, _, _, _, _, a5, a6, _⟩ := e2 e he'
          exact ⟨a5, a6⟩
        · rcases p6 with ⟨h, _⟩ | ⟨_, tm', k, x, R'', r, h, _⟩
          · exact h
          · rw [p2] at h; cases h
        · obtain ⟨oe, kx, vx, a1, a2, a3, a4, _, _, a7, a8, a9⟩ := e2 e he'
          rw [Array.getElem?_toList] at a1
          refine ⟨oe, kx, vx, a1, ?_, a2, a3, a4, a8, a9⟩
          obtain ⟨o', tm', k', x', b1, b2, b3⟩ := litIns e.1 m p l1 (by rw [← l4]; exact List.mem_map.2 ⟨e, he', rfl⟩)
          rcases (partAt e.1 o' m p _ b1 b3).2 with ⟨h, _⟩ | ⟨h, _⟩
          · exact .inl h
          · exact .inr (by rw [l3]; exact h)
      one := fun q q' p qs p' qs' i hq hq' hr hr' hi hi' => by
        obtain ⟨m, o, a1, a2, a3, a4⟩ := pieceOp q p qs i hr hi
        obtain ⟨m', o', b1, b2, b3, b4⟩ := pieceOp q' p' qs' i hr' hi'
        rw [a3] at b3; injection b3 with b3; subst b3
        have : m = m' := by
          rcases a4 with ⟨t, c1, c2⟩ | ⟨tm, k, x, c1⟩ <;> rcases b4 with ⟨t', d1, d2⟩ | ⟨tm', k', x', d1⟩
          · rw [c2] at d2; injection d2
          · rw [c1] at d1; cases d1
          · rw [c1] at d1; cases d1
          · rw [c1] at d1; injection d1 with e1 e2 e3 e4; injection e2
        subst this
        rw [a2, b2]
      lk := fun i t x hi hx => by
        obtain ⟨o, ho⟩ := opAt i hi
        cases hl : litAt ops.toList o with
        | none =>
          obtain ⟨R', ts, g1, g2, _⟩ := genAt i o ho hl
          exact lookOk R' i i ts (Tl i) g1 g2 t x hx
        | some y =>
          rw [partTl i o y ho hl] at hx
          simp [Tr.get] at hx
      lkl := fun q p qs hq hr e he' t x hx => by
        obtain ⟨_, m, _, _, _, _, _, tm, kt, vt, R', l6, _, _, l9, _⟩ := litQ q p qs hr
        obtain ⟨_, e2⟩ := entsOf_spec l9
        obtain ⟨_, _, _, _, _, _, _, _, _, a7, _⟩ := e2 e he'
        exact lookOk R' q e.1 _ e.2.1 l6 a7 t x hx
      word := fun k k' hk hk' hr hr' hlt => by
        obtain ⟨o, ho⟩ := opAt k hk
        obtain ⟨o', ho'⟩ := opAt k' hk'
        obtain ⟨r, _, a1, a2, _⟩ := at_ k o ho
        obtain ⟨r', _, b1, b2, _⟩ := at_ k' o' ho'
        exact pairsOk_spec hpairs k k' r r' (Nat.zero_le _) hlt (by rw [Nat.sub_zero]; exact a1) (by rw [← a2]; exact hr) (by rw [Nat.sub_zero]; exact b1) (by rw [← b2]; exact hr')
      rck := fun i o M ho hr hM hMw hbet h1 h2 n => by
        obtain ⟨r, _, a1, a2, a3, a4, a5, _⟩ := at_ i o ho
        have hrr : r.role = .rdr := by rw [← a2]; exact hr
        obtain ⟨b1, b2⟩ := readsOk_spec hreads i r o a1 (by rw [Array.getElem?_toList]; exact ho) hrr
        rw [Nat.zero_add] at b1 b2
        have hs : sameAt P GS B (wrts recs 0) i r o.op (M, Sf M) = true := by
          rcases hMw with rfl | hMw
          · have hSn : Sf ops.size = Sn := by simp only [Sf]; rw [List.getElem?_eq_none (by omega)]; rfl
            rw [hSn, ← Array.length_toList]; exact b1
          · rcases Nat.lt_or_ge M ops.size with hlt | hge
            · exact b2 (M, Sf M) ((wsMem M (Sf M)).2 ⟨hlt, hMw, rfl⟩)
            · have : M = ops.size := by omega
              subst this
              have hSn : Sf ops.size = Sn := by simp only [Sf]; rw [List.getElem?_eq_none (by omega)]; rfl
              rw [hSn, ← Array.length_toList]; exact b1
        obtain ⟨c, c1, c2, c3⟩ := hbet
        have := sameAt_spec hs ⟨(c, Sf c), (wsMem c (Sf c)).2 ⟨c2, c1, rfl⟩, c3⟩ (fun x hx => by
          obtain ⟨x1, x2⟩ := x
          obtain ⟨d1, d2, _⟩ := (wsMem x1 x2).1 hx
          exact ⟨h1 x1 d1 d2, h2 x1 d1 d2⟩)
        rw [a3, a5, rd_nx P GS r.Tl (Sf M).h n (Sf M).nx]
        exact this }
    have h0 : Sf 0 = S := by
      simp only [Sf]; exact hfirst
    have hn' : Sf ops.size = Sn := by
      simp only [Sf]; rw [List.getElem?_eq_none (by omega)]; rfl
    refine draw_run σ hσ hplan hdom (fun j o ho e hm hb => by have := edges_at ops.toList 0 he j o (by rw [Array.getElem?_toList]; exact ho) e hm hb; omega) (Tn := Tn) (fun t x hx => ?_) (by rw [h0]; exact hW) hg ht hsz hdf (by rw [h0, hn']; exact hQ)
    rcases hTT t x hx with ⟨k, r, h1, h2, h3, h4⟩ | ⟨h1, h2⟩
    · exact .inl ⟨k, by omega, by simp [sl, h2, h3], by simp [vf, h2, h4]⟩
    · refine .inr ⟨h1, fun k hk hs => ?_⟩
      obtain ⟨r, g1, g2, _⟩ := slAt k t hk hs
      exact h2 k r (by omega) g1 g2
  · cases h
end
end Go.Proofs.YtedokmdoompidaaGreatDoor.Ev
