/- The evaluator's reading operations: all of them. -/
import Derived.Test.YtedokmdoompidaaGreatDoorEvI
namespace Go.Proofs.YtedokmdoompidaaGreatDoor.Ev

section
variable (σ : Nat → Value)
theorem capA_run {P : Program} {φ : Phi} {w : World} {t ty : TypeId} {ts : Array TypeId} (ht : ts[0]? = some t) {x y : AV} {v : Value} {vs : Array Value} (hvs : vs[0]? = some v) (hv : V σ φ x v) (h : capA P t x = some y) : ∃ u, (Builtin.cap_ ts ty vs).run P w = .ok u w ∧ V σ φ y u := by
  unfold capA at h
  split at h
  · rename_i h1
    simp only [V] at hv; subst hv
    injection h with h; subst h
    exact ⟨goInt 0, by simp [Builtin.cap_, ht, hvs, run_underlying h1], by simp only [V, goInt]⟩
  · rename_i c h1
    simp only [V] at hv; obtain ⟨r, m, _, rfl⟩ := hv
    injection h with h; subst h
    exact ⟨goInt c, by simp [Builtin.cap_, ht, hvs, run_underlying h1], by simp only [V, goInt]⟩
  · cases h
theorem maxA_run {P : Program} {φ : Phi} {w : World} {x y z : AV} {v u : Value} (hv : V σ φ x v) (hu : V σ φ y u) (h : maxA x y = some z) : ∃ r, (Builtin.max2 v u).run P w = .ok r w ∧ V σ φ z r := by
  unfold maxA at h
  split at h
  · simp only [V] at hv hu; subst hv; subst hu
    injection h with h; subst h
    exact ⟨.int _ _, rfl, by simp only [V]⟩
  · cases h
theorem minA_run {P : Program} {φ : Phi} {w : World} {x y z : AV} {v u : Value} (hv : V σ φ x v) (hu : V σ φ y u) (h : minA x y = some z) : ∃ r, (Builtin.min2 v u).run P w = .ok r w ∧ V σ φ z r := by
  unfold minA at h
  split at h
  · simp only [V] at hv hu; subst hv; subst hu
    injection h with h; subst h
    exact ⟨.int _ _, rfl, by simp only [V]⟩
  · cases h
theorem foldA_run {P : Program} {φ : Phi} {w : World} {f : AV → AV → Option AV} {g : Value → Value → Sem Value} (hf : ∀ x y z v u, V σ φ x v → V σ φ y u → f x y = some z → ∃ r, (g v u).run P w = .ok r w ∧ V σ φ z r) :
    ∀ (l : List AV) (vs : List Value) (x z : AV) (v : Value), V σ φ x v → VL σ φ l vs → foldA f x l = some z → ∃ r, (vs.foldlM g v).run P w = .ok r w ∧ V σ φ z r
  | [], vs, x, z, v, hv, hl, h => by
    simp only [VL] at hl; subst hl
    simp only [foldA, Option.some.injEq] at h; subst h
    exact ⟨v, rfl, hv⟩
  | y :: l, vs, x, z, v, hv, hl, h => by
    simp only [VL] at hl
    obtain ⟨u, r, rfl, h1, h2⟩ := hl
    simp only [foldA] at h
    split at h
    · rename_i q hq
      obtain ⟨p, g1, g2⟩ := hf x y q v u hv h1 hq
      obtain ⟨p', k1, k2⟩ := foldA_run hf l r q z p g2 h2 h
      exact ⟨p', by simp only [List.foldlM_cons, Sem.run_bind, g1, Result.andThen_ok, k1], k2⟩
    · cases h

theorem sameNow_eq {P : Program} {w : World} {t : TypeId} {d : TypeDesc} (hd : P.underlying t = some d) {a b : Value} {c : Bool} (h : Instr.sameNow d a b = some c) : (Op.equal t a b).run P w = .ok c w := by
  unfold Instr.sameNow at h
  split at h
  · split at h
    · rename_i hk; subst hk
      injection h with h; subst h
      exact run_equalIn_int w 9999 t _ _ _ _ hd
    · cases h
  · injection h with h; subst h
    rw [beq_toListBytes]; exact run_equalIn_string w 9999 t _ _ hd
  · injection h with h; subst h
    exact run_equalIn_bool' w 9999 t _ _ hd
  · cases h
theorem findNow_asking {P : Program} {w : World} {t : TypeId} {d : TypeDesc} (hd : P.underlying t = some d) {k : Value} : ∀ (es : List MapEntry) (i : Nat) (r : Option (Nat × Value)), Instr.findNow d k es i = some r → (Instr.findAsking t k es i).run P w = .ok r w
  | [], i, r, h => by simp only [Instr.findNow, Option.some.injEq] at h; subst h; rfl
  | e :: es, i, r, h => by
    simp only [Instr.findNow] at h
    split at h
    · rename_i hs
      injection h with h; subst h
      simp [Instr.findAsking, sameNow_eq hd hs]
    · rename_i hs
      simp [Instr.findAsking, sameNow_eq hd hs, findNow_asking hd es (i + 1) r h]
    · cases h
theorem findKey_asking {P : Program} {w : World} {t : TypeId} {d : TypeDesc} (hd : P.underlying t = some d) {k : Value} {es : List MapEntry} {r : Option (Nat × Value)} (h : (Instr.findAsking t k es 0).run P w = .ok r w) : (Instr.findKey t k es).run P w = .ok r w := by
  simp only [Instr.findKey, Sem.run_bind, run_underlying hd, Result.andThen_ok]
  cases hn : Instr.findNow d k es 0 with
  | none => exact h
  | some r' =>
    have := findNow_asking (w := w) hd es 0 r' hn
    rw [this] at h
    injection h with h
    subst h; rfl
/-- None of the entries is the key's. -/
theorem asking_none {P : Program} {w : World} {t : TypeId} {k : Value} : ∀ (es : List MapEntry) (i : Nat), (∀ e ∈ es, (Op.equal t k e.key).run P w = .ok false w) → (Instr.findAsking t k es i).run P w = .ok none w
  | [], i, _ => rfl
  | e :: es, i, h => by simp [Instr.findAsking, h e (by simp), asking_none es (i + 1) (fun x hx => h x (by simp [hx]))]
/-- One is. -/
theorem asking_some {P : Program} {w : World} {t : TypeId} {k : Value} {R : MapEntry → Prop} : ∀ (es : List MapEntry) (i : Nat), (∀ e ∈ es, (Op.equal t k e.key).run P w = .ok false w ∨ ((Op.equal t k e.key).run P w = .ok true w ∧ R e)) → (∃ e ∈ es, (Op.equal t k e.key).run P w = .ok true w) →
    ∃ j e, i ≤ j ∧ es[j - i]? = some e ∧ R e ∧ (Op.equal t k e.key).run P w = .ok true w ∧ (Instr.findAsking t k es i).run P w = .ok (some (j, e.val)) w
  | [], i, _, h => by obtain ⟨e, he, _⟩ := h; cases he
  | e :: es, i, h, h2 => by
    rcases h e (by simp) with h1 | ⟨h1, hR⟩
    · have h3 : ∃ e ∈ es, (Op.equal t k e.key).run P w = .ok true w := by
        obtain ⟨x, hx, hx2⟩ := h2
        rcases List.mem_cons.1 hx with rfl | hx
        · rw [h1] at hx2; injection hx2 with hx2; cases hx2
        · exact ⟨x, hx, hx2⟩
      obtain ⟨j, x, g1, g2, g3, g4, g5⟩ := asking_some es (i + 1) (fun x hx => h x (by simp [hx])) h3
      refine ⟨j, x, by omega, ?_, g3, g4, by simp [Instr.findAsking, h1, g5]⟩
      rw [show j - i = (j - (i + 1)) + 1 by omega]; simpa using g2
    · exact ⟨i, e, Nat.le_refl _, by simp, hR, h1, by simp [Instr.findAsking, h1]⟩
theorem findA_spec {P : Program} {φ : Phi} {S : St} {w : World} (hW : W σ φ S w) {t : TypeId} {k : AV} {kv : Value} (hk : V σ φ k kv) : ∀ (es : List (AV × AV)) (l : List MapEntry) (r : Option AV), ML σ φ es l → findA P S t k es = some r →
    (r = none → ∀ e ∈ l, (Op.equal t kv e.key).run P w = .ok false w) ∧
    (∀ v, r = some v → (∀ e ∈ l, (Op.equal t kv e.key).run P w = .ok false w ∨ ((Op.equal t kv e.key).run P w = .ok true w ∧ V σ φ v e.val)) ∧ ∃ e ∈ l, (Op.equal t kv e.key).run P w = .ok true w)
  | [], l, r, hm, h => by
    simp only [ML] at hm; subst hm
    simp only [findA, Option.some.injEq] at h; subst h
    exact ⟨fun _ e he => (by cases he), fun v hv => (by cases hv)⟩
  | (k', v') :: es, l, r, hm, h => by
    obtain ⟨e, r', rfl, h1, h2, h3⟩ := hm
    simp only [findA] at h
    split at h
    · rename_i he hf
      injection h with h; subst h
      obtain ⟨g1, _⟩ := findA_spec hW hk es r' none h3 hf
      have he' := eqv_run σ hW 20 t k k' true he kv e.key hk h1 Op.maxDepth (by decide)
      refine ⟨fun hr => (by cases hr), fun v hv => ?_⟩
      injection hv with hv; subst hv
      refine ⟨fun x hx => ?_, e, by simp, he'⟩
      rcases List.mem_cons.1 hx with rfl | hx
      · exact .inr ⟨he', h2⟩
      · exact .inl (g1 rfl x hx)
    · rename_i r0 he hf
      injection h with h; subst h
      obtain ⟨g1, g2⟩ := findA_spec hW hk es r' _ h3 hf
      have he' := eqv_run σ hW 20 t k k' false he kv e.key hk h1 Op.maxDepth (by decide)
      refine ⟨fun hr x hx => ?_, fun v hv => ⟨fun x hx => ?_, ?_⟩⟩
      · rcases List.mem_cons.1 hx with rfl | hx
        · exact he'
        · exact g1 hr x hx
      · rcases List.mem_cons.1 hx with rfl | hx
        · exact .inl he'
        · exact (g2 v hv).1 x hx
      · obtain ⟨x, hx, hx2⟩ := (g2 v hv).2
        exact ⟨x, by simp [hx], hx2⟩
    · cases h
theorem keyT_check' {P : Program} {w : World} {t : TypeId} (h : keyT P t = true) (b : Bool) (v : Value) (n : Nat) : (Instr.checkKey b (n + 1) t v).run P w = .ok () w := by
  unfold keyT at h
  split at h
  · rename_i hu; simp [Instr.checkKey, run_underlying hu]
  · rename_i hu; simp [Instr.checkKey, run_underlying hu]
  · rename_i hu; simp [Instr.checkKey, run_underlying hu]
  · rename_i hu; simp [Instr.checkKey, run_underlying hu]
  · cases h
theorem keyT_check {P : Program} {w : World} {t : TypeId} (h : keyT P t = true) (b : Bool) (v : Value) : (Instr.checkKey b 10000 t v).run P w = .ok () w := keyT_check' h b v 9999
theorem keyT_und {P : Program} {t : TypeId} (h : keyT P t = true) : ∃ d, P.underlying t = some d := by
  unfold keyT at h
  split at h
  · exact ⟨_, by assumption⟩
  · exact ⟨_, by assumption⟩
  · exact ⟨_, by assumption⟩
  · exact ⟨_, by assumption⟩
  · cases h
theorem lookupA_run {P : Program} {φ : Phi} {S : St} {w : World} (hW : W σ φ S w) {t : TypeId} {m k y : AV} {c : Bool} {mv kv : Value} (hm : V σ φ m mv) (hk : V σ φ k kv) (h : lookupA P S t m k c = some y) : ∃ u, (Instr.lookup t mv kv c).run P w = .ok u w ∧ V σ φ y u := by
  unfold lookupA at h
  split at h
  · rename_i kt e hu
    cases hkt : keyT P kt with
    | false => simp [hkt] at h
    | true =>
      simp only [hkt, cond_true] at h
      obtain ⟨d, hd⟩ := keyT_und hkt
      have fin : ∀ (es : Array MapEntry) (r : Option AV), (∃ q, (Instr.findKey kt kv es.toList).run P w = .ok q w ∧ (r = none → q = none) ∧ (∀ v, r = some v → ∃ j u, q = some (j, u) ∧ V σ φ v u)) →
          (match (some r : Option (Option AV)) with
            | some (some v) => some (if c then AV.tup [v, .bool true] else v)
            | some none => (match zeroA P e with | some z => some (if c then .tup [z, .bool false] else z) | none => none)
            | none => none) = some y →
          ∃ v ok, (match (Instr.findKey kt kv es.toList).run P w with
            | .ok (some (_, v)) w' => (.ok (v, true) w' : Result (Value × Bool))
            | .ok none w' => ((zeroValue e).run P w').andThen fun v w' => .ok (v, false) w'
            | .halt h w' => .halt h w') = .ok (v, ok) w ∧ V σ φ y (if c then .tuple #[v, .bool ok] else v) := fun es r hq hy => by
        obtain ⟨q, q1, q2, q3⟩ := hq
        cases r with
        | none =>
          simp only at hy
          split at hy
          · rename_i z hz
            injection hy with hy
            obtain ⟨zv, z1, z2⟩ := zeroA_run σ hz w (φ := φ)
            rw [q2 rfl] at q1
            refine ⟨zv, false, by simp only [q1, z1, Result.andThen_ok], ?_⟩
            subst hy
            cases c
            · exact z2
            · simp only [if_true, V, VL]; exact ⟨[zv, .bool false], rfl, zv, [.bool false], rfl, z2, .bool false, [], rfl, rfl, rfl⟩
          · cases hy
        | some v =>
          simp only [Option.some.injEq] at hy
          obtain ⟨j, u, q4, q5⟩ := q3 v rfl
          rw [q4] at q1
          refine ⟨u, true, by simp only [q1], ?_⟩
          subst hy
          cases c
          · exact q5
          · simp only [if_true, V, VL]; exact ⟨[u, .bool true], rfl, u, [.bool true], rfl, q5, .bool true, [], rfl, rfl, rfl⟩
      cases hr : findM P S kt k m with
      | none => rw [hr] at h; cases h
      | some r =>
        rw [hr] at h
        unfold findM at hr
        split at hr
        · simp only [V] at hm; subst hm
          injection hr with hr; subst hr
          obtain ⟨v, ok, f1, f2⟩ := fin #[] none ⟨none, findKey_asking hd (asking_none [] 0 (fun e he => by cases he)), fun _ => rfl, fun v hv => by cases hv⟩ h
          refine ⟨_, ?_, f2⟩
          have hfk := findKey_asking (w := w) (k := kv) hd (asking_none (P := P) (w := w) (t := kt) (k := kv) [] 0 (fun e he => by cases he))
          simp only [hfk] at f1
          simp only [Instr.lookup, Sem.run_bind, run_underlying hu, Result.andThen_ok, Sem.run_pure, keyT_check hkt, hfk]
          cases hz : (zeroValue e).run P w with
          | halt h' w' => rw [hz] at f1; cases f1
          | ok z w' =>
            rw [hz] at f1
            simp only [Result.andThen_ok] at f1 ⊢
            injection f1 with f1 f3
            injection f1 with f1 f4
            subst f1; subst f3; subst f4
            rfl
        · rename_i b
          simp only [V] at hm
          obtain ⟨q, n, hφ, rfl⟩ := hm
          split at hr
          · rename_i es hb
            obtain ⟨o, ho, ents, clock, rfl, l, hl, hml⟩ := hW.at_ _ _ _ _ hb hφ
            obtain ⟨s1, s2⟩ := findA_spec σ hW hk es l r hml hr
            have hq : ∃ q, (Instr.findKey kt kv ents.toList).run P w = .ok q w ∧ (r = none → q = none) ∧ (∀ v, r = some v → ∃ j u, q = some (j, u) ∧ V σ φ v u) := by
              cases r with
              | none => exact ⟨none, findKey_asking hd (asking_none _ 0 (fun e he => s1 rfl e (hl.mem_iff.2 he))), fun _ => rfl, fun v hv => by cases hv⟩
              | some v =>
                obtain ⟨t1, x, t2, t3⟩ := s2 v rfl
                obtain ⟨j, e, _, _, g3, _, g5⟩ := asking_some (P := P) (w := w) (t := kt) (k := kv) (R := fun e => V σ φ v e.val) ents.toList 0 (fun e he => t1 e (hl.mem_iff.2 he)) ⟨x, hl.mem_iff.1 t2, t3⟩
                exact ⟨some (j, e.val), findKey_asking hd g5, fun h => (by cases h), fun v' hv => by injection hv with hv; subst hv; exact ⟨j, e.val, rfl, g3⟩⟩
            obtain ⟨v, ok, f1, f2⟩ := fin ents r hq h
            refine ⟨_, ?_, f2⟩
            obtain ⟨fk, hfk, _⟩ := hq
            simp only [hfk] at f1
            have hgo : (getObj q).run P w = .ok (.map ents clock) w := by simp [getObj, Sem.run, ho]
            simp only [Instr.lookup, Sem.run_bind, run_underlying hu, Result.andThen_ok, Sem.run_pure, keyT_check hkt, hfk, hgo]
            cases fk with
            | some jv =>
              obtain ⟨j, v'⟩ := jv
              simp only at f1
              injection f1 with f1 f3
              injection f1 with f1 f4
              subst f1; subst f4
              rfl
            | none =>
              simp only at f1
              cases hz : (zeroValue e).run P w with
              | halt h' w' => rw [hz] at f1; cases f1
              | ok z w' =>
                rw [hz] at f1
                simp only [Result.andThen_ok] at f1
                injection f1 with f1 f3
                injection f1 with f1 f4
                subst f1; subst f3; subst f4
                simp only [Sem.run_bind, hz, Result.andThen_ok, Sem.run_pure]
          · cases hr
        · cases hr
  · cases h
end
end Go.Proofs.YtedokmdoompidaaGreatDoor.Ev
