/- The evaluator's copies, maps, walks over texts; all operations that write, one function. -/
import Derived.Test.YtedokmdoompidaaGreatDoorEvN
namespace Go.Proofs.YtedokmdoompidaaGreatDoor.Ev

/-- The entry of a key gets another value (the entry is there). -/
def replA (P : Program) (S : St) (kt : TypeId) (k v : AV) : List (AV × AV) → Option (List (AV × AV))
  | [] => none
  | (k', v') :: es => match eqv P S 20 kt k k' with
    | some true => some ((k', v) :: es)
    | some false => (match replA P S kt k v es with | some r => some ((k', v') :: r) | none => none)
    | none => none
def mapPutA (P : Program) (S : St) (t : TypeId) (m k v : AV) : Option St :=
  match P.underlying t, m with
  | some (.map kt _), .map b => bif keyT P kt then (match S.h.get b with
    | some (.map es) => (match findA P S kt k es with
      | some none => (match S.h.put (some (.map ((k, v) :: es))) 24 b with
        | some h => some ⟨h, S.nx⟩
        | none => none)
      | some (some _) => (match replA P S kt k v es with
        | some es' => (match S.h.put (some (.map es')) 24 b with
          | some h => some ⟨h, S.nx⟩
          | none => none)
        | none => none)
      | none => none)
    | _ => none) else none
  | _, _ => none
/-- A row's cells, so many times. -/
def repA (z : List AV) : Nat → List AV
  | 0 => []
  | n + 1 => z ++ repA z n
/-- A slice's members get to be zero. -/
def clearA (P : Program) (S : St) (t : TypeId) (x : AV) : Option St :=
  match P.underlying t with
  | some (.slice e) => (match x with
    | .nils => some S
    | .emp => some S
    | .sl b o n _ => (match n with
      | 0 => some S
      | m + 1 => (match zeroA P e with
        | some z => bif allScalar z.cells then storeC S b o (repA z.cells (m + 1)) else none
        | none => none))
    | .slu b o n _ => (match n with
      | 0 => some S
      | m + 1 => (match zeroA P e with
        | some z => bif allScalar z.cells then storeC S b o (repA z.cells (m + 1)) else none
        | none => none))
    | _ => none)
  | _ => none
/-- What an operation that writes yields, and leaves. -/
def wr (P : Program) (GS : Nat → Option Nat) (T : Tr AV) (S : St) (op : Op) : Option (AV × St) :=
  match op with
  | .store t a x => (match opd GS T a, opd GS T x with
    | some p, some v => (match storeA P S t p v with | some S' => some (.tup [], S') | none => none)
    | _, _ => none)
  | .mapUpdate t m k x => (match opd GS T m, opd GS T k, opd GS T x with
    | some a, some b, some v => (match mapPutA P S t a b v with | some S' => some (.tup [], S') | none => none)
    | _, _, _ => none)
  | .insert t m k x => (match opd GS T m, opd GS T k, opd GS T x with
    | some a, some b, some v => (match mapPutA P S t a b v with | some S' => some (.tup [], S') | none => none)
    | _, _, _ => none)
  | .call { callee := .builtin .append, args, argTypes } => (match args.toList, argTypes.toList with
    | [s, x], [t, xt] => (match opd GS T s, opd GS T x with
      | some a, some b => appendA P S t xt a b
      | _, _ => none)
    | _, _ => none)
  | .call { callee := .builtin .copy, args, argTypes } => (match args.toList, argTypes.toList with
    | [s, x], [t, xt] => (match opd GS T s, opd GS T x with
      | some a, some b => copyA P S t xt a b
      | _, _ => none)
    | _, _ => none)
  | .call { callee := .builtin .clear, args, argTypes } => (match args.toList, argTypes.toList with
    | [s], [t] => (match opd GS T s with
      | some a => (match clearA P S t a with | some S' => some (.tup [], S') | none => none)
      | none => none)
    | _, _ => none)
  | _ => none

section
variable (σ : Nat → Value)
theorem copyA_run {P : Program} (hσ : Okσ σ) {φ : Phi} {S S' : St} {w : World} (hW : W σ φ S w) {t xt ty : TypeId} {d x v : AV} {dv xv : Value} (hd : V σ φ d dv) (hx : V σ φ x xv) (h : copyA P S t xt d x = some (v, S')) :
    ∃ u w', (Builtin.copy_ #[t, xt] ty #[dv, xv]).run P w = .ok u w' ∧ Post σ φ S w φ S' w' ∧ V σ φ v u := by
  unfold copyA at h
  split at h
  · rename_i e ht
    split at h
    · rename_i size hs
      have fin : ∀ (base : Option Addr) (len c n : Nat) (new : List AV), srcA P S xt size x (some len) = some (n, new) → ∃ vs : List Value, VL σ φ new vs ∧ vs.length = n * size ∧ (n ≤ len) ∧
          (Builtin.copy_ #[t, xt] ty #[.slice base len c, xv]).run P w = (match base with
            | some a => ((storeCells a vs).run P w).andThen fun _ w' => .ok (goInt n) w'
            | none => .ok (goInt n) w) := fun base len c n new hsrc => by
        obtain ⟨hnl, ⟨m, hl1, _, hl2⟩, ⟨vs, hv1, hv2⟩, _⟩ := srcA_run σ (P := P) hW hx hsrc
        have hn := hl2 len rfl
        refine ⟨vs, hv1, by rw [VL.len σ hv1, hnl], by omega, ?_⟩
        have hm : Nat.min m len = n := hn.symm
        cases base <;> simp [Builtin.copy_, run_underlying ht, run_szOf P hs, hl1, hm, hv2 w rfl]
      split at h
      · simp only [V] at hd; subst hd
        split at h
        · rename_i n l hsrc
          injection h with h; injection h with h1 h2; subst h1; subst h2
          obtain ⟨vs, _, _, hn, hr⟩ := fin none 0 0 n l hsrc
          have : n = 0 := by omega
          subst this
          exact ⟨_, _, hr, Post.refl σ hW, by simp only [V, goInt]; rfl⟩
        · cases h
      · simp only [V] at hd; obtain ⟨a, c, rfl⟩ := hd
        split at h
        · rename_i n l hsrc
          injection h with h; injection h with h1 h2; subst h1; subst h2
          obtain ⟨vs, _, hvl, hn, hr⟩ := fin (some a) 0 c n l hsrc
          have : n = 0 := by omega
          subst this
          have : vs = [] := List.length_eq_zero_iff.1 (by rw [hvl]; simp)
          subst this
          simp only [storeCells_nil, Result.andThen_ok] at hr
          exact ⟨_, _, hr, Post.refl σ hW, by simp only [V, goInt]; rfl⟩
        · cases h
      · rename_i b o len c
        simp only [V] at hd; obtain ⟨r, q, hφ, rfl⟩ := hd
        split at h
        · rename_i n l hsrc
          split at h
          · rename_i S1 hst
            injection h with h; injection h with h1 h2; subst h1; subst h2
            obtain ⟨vs, hv1, hvl, hn, hr⟩ := fin (some ⟨r, o, none⟩) len c n l hsrc
            obtain ⟨w', g1, g2⟩ := storeC_run σ (P := P) hσ.small hW hφ hv1 hst
            simp only [g1, Result.andThen_ok] at hr
            exact ⟨_, _, hr, g2, by simp only [V, goInt]⟩
          · cases h
        · cases h
      · rename_i b o len z
        simp only [V] at hd; obtain ⟨r, q, c, hφ, rfl, _⟩ := hd
        split at h
        · rename_i n l hsrc
          split at h
          · rename_i S1 hst
            injection h with h; injection h with h1 h2; subst h1; subst h2
            obtain ⟨vs, hv1, hvl, hn, hr⟩ := fin (some ⟨r, o, none⟩) len c n l hsrc
            obtain ⟨w', g1, g2⟩ := storeC_run σ (P := P) hσ.small hW hφ hv1 hst
            simp only [g1, Result.andThen_ok] at hr
            exact ⟨_, _, hr, g2, by simp only [V, goInt]⟩
          · cases h
        · cases h
      · cases h
    · cases h
  · cases h

/-- Keys that are the same are one value. -/
theorem eqv_same {P : Program} {S : St} {t : TypeId} (hk : keyT P t = true) {d : Nat} {a b : AV} (h : eqv P S d t a b = some true) {φ : Phi} {v u : Value} (hv : V σ φ a v) (hu : V σ φ b u) : v = u ∧ ∀ n, Instr.sameBits n v u = true := by
  cases d with
  | zero => simp [eqv] at h
  | succ d =>
  unfold keyT at hk
  simp only [eqv] at h
  split at hk
  · rename_i hu'
    rw [hu'] at h
    simp only at h
    split at h
    · split at h
      · rename_i hkk; subst hkk
        simp only [Option.some.injEq, beq_iff_eq] at h; subst h
        simp only [V] at hv hu; subst hv; subst hu
        exact ⟨rfl, fun n => by cases n <;> simp [Instr.sameBits]⟩
      · cases h
    · cases h
  · rename_i hu'
    rw [hu'] at h
    simp only at h
    split at h
    · simp only [Option.some.injEq, beqL_eq, decide_eq_true_eq] at h; subst h
      simp only [V] at hv hu
      obtain ⟨x, rfl, h1⟩ := hv
      obtain ⟨y, rfl, h2⟩ := hu
      have : x = y := bytesOf_inj (by rw [bytesOf, bytesOf, h1, h2])
      subst this
      exact ⟨rfl, fun n => by cases n <;> simp [Instr.sameBits, beq_bytes]⟩
    · cases h
  · rename_i hu'
    rw [hu'] at h
    simp only at h
    split at h
    · simp only [Option.some.injEq, beq_iff_eq] at h; subst h
      simp only [V] at hv hu; subst hv; subst hu
      exact ⟨rfl, fun n => by cases n <;> simp [Instr.sameBits]⟩
    · cases h
  · rename_i e hu'
    rw [hu'] at h
    simp only at h
    split at h
    · simp only [V] at hv hu; subst hv; subst hu
      exact ⟨rfl, fun n => by cases n <;> simp [Instr.sameBits]⟩
    · cases h
    · cases h
    · split at h
      · split at h
        · rename_i hb
          subst hb
          simp only [Option.some.injEq, beq_iff_eq] at h; subst h
          simp only [V] at hv hu
          obtain ⟨r, n, h1, rfl⟩ := hv
          obtain ⟨r', n', h2, rfl⟩ := hu
          rw [h1] at h2; injection h2 with h2; injection h2 with h2 _; subst h2
          exact ⟨rfl, fun n => by cases n <;> simp [Instr.sameBits]⟩
        · split at h
          · cases h
          · cases h
      · cases h
    · cases h
  · cases hk
/-- The abstract entry that is found, in the list that it stands for. -/
theorem replA_spec {P : Program} {φ : Phi} {S : St} {w : World} (hW : W σ φ S w) {t : TypeId} {k v : AV} {kv vv : Value} (hk : V σ φ k kv) (hv : V σ φ v vv) : ∀ (es es' : List (AV × AV)) (l : List MapEntry), ML σ φ es l → replA P S t k v es = some es' →
    ∃ l1 e l2, l = l1 ++ e :: l2 ∧ (Op.equal t kv e.key).run P w = .ok true w ∧ (∃ k', eqv P S 20 t k k' = some true ∧ V σ φ k' e.key) ∧ ∀ kk bb, V σ φ k kk → (∃ k', V σ φ k' e.key ∧ e.key = kk) → ML σ φ es' (l1 ++ { key := kk, val := vv, born := bb } :: l2)
  | [], es', l, hm, h => by simp [replA] at h
  | (k', v') :: es, es', l, hm, h => by
    obtain ⟨e, r, rfl, h1, h2, h3⟩ := hm
    simp only [replA] at h
    split at h
    · rename_i he
      injection h with h; subst h
      have he' := eqv_run σ hW 20 t k k' true he kv e.key hk h1 Op.maxDepth (by decide)
      refine ⟨[], e, r, rfl, he', ⟨k', he, h1⟩, fun kk bb hkk hke => ?_⟩
      obtain ⟨_, _, hke⟩ := hke
      exact ⟨_, r, rfl, by rw [← hke]; exact h1, hv, h3⟩
    · rename_i he
      split at h
      · rename_i r' hr
        injection h with h; subst h
        obtain ⟨l1, e1, l2, rfl, g1, g2, g3⟩ := replA_spec hW hk hv es r' r h3 hr
        exact ⟨e :: l1, e1, l2, rfl, g1, g2, fun kk bb hkk hke => ⟨e, _, rfl, h1, h2, g3 kk bb hkk hke⟩⟩
      · cases h
    · cases h
/-- The entry that is found is one alone. -/
theorem findA_one {P : Program} {φ : Phi} {S : St} {w : World} (hW : W σ φ S w) {t : TypeId} {k : AV} {kv : Value} (hk : V σ φ k kv) : ∀ (es : List (AV × AV)) (l : List MapEntry) (v : AV), ML σ φ es l → findA P S t k es = some (some v) →
    ∃ l1 e l2, l = l1 ++ e :: l2 ∧ ∀ x ∈ l1 ++ l2, (Op.equal t kv x.key).run P w = .ok false w
  | [], l, v, hm, h => by simp [findA] at h
  | (k', v') :: es, l, v, hm, h => by
    have hm' := hm
    obtain ⟨e, r', rfl, h1, h2, h3⟩ := hm
    simp only [findA] at h
    split at h
    · rename_i he hf
      obtain ⟨g1, _⟩ := findA_spec σ hW hk es r' none h3 hf
      exact ⟨[], e, r', rfl, fun x hx => g1 rfl x (by simpa using hx)⟩
    · rename_i r0 he hf
      injection h with h; subst h
      have he' := eqv_run σ hW 20 t k k' false he kv e.key hk h1 Op.maxDepth (by decide)
      obtain ⟨l1, e1, l2, rfl, g⟩ := findA_one hW hk es r' v h3 hf
      refine ⟨e :: l1, e1, l2, rfl, fun x hx => ?_⟩
      rcases List.mem_cons.1 hx with rfl | hx
      · exact he'
      · exact g x hx
    · cases h
theorem modify_split {α : Type} (a : Array α) (j : Nat) (f : α → α) (x : α) (h : a.toList[j]? = some x) : ∃ m1 m2, a.toList = m1 ++ x :: m2 ∧ (a.modify j f).toList = m1 ++ f x :: m2 := by
  have hj : j < a.size := by have := (List.getElem?_eq_some_iff.1 h).1; simpa using this
  have hx : a[j] = x := by rw [Array.getElem?_toList, Array.getElem?_eq_getElem hj] at h; injection h
  have hm : a.modify j f = a.setIfInBounds j (f x) := by
    apply Array.ext
    · simp
    · intro i h1 h2
      rw [Array.getElem_modify]
      by_cases he : j = i
      · subst he; simp [hx]
      · rw [if_neg he]; exact (Array.getElem_setIfInBounds_ne (by simpa using h1) he).symm
  refine ⟨a.toList.take j, a.toList.drop (j + 1), ?_, ?_⟩
  · have h1 := List.drop_eq_getElem_cons (l := a.toList) (i := j) (by simpa using hj)
    rw [Array.getElem_toList, hx] at h1
    rw [← h1, List.take_append_drop]
  · rw [hm, Array.toList_setIfInBounds, List.set_eq_take_append_cons_drop, if_pos (by simpa using hj)]
theorem mapPutA_run {P : Program} {φ : Phi} {S S' : St} {w : World} (hW : W σ φ S w) {t : TypeId} {m k v : AV} {mv kv vv : Value} (hm : V σ φ m mv) (hk : V σ φ k kv) (hv : V σ φ v vv) (h : mapPutA P S t m k v = some S') :
    ∃ w', (Instr.mapUpdate t mv kv vv).run P w = .ok () w' ∧ Post σ φ S w φ S' w' := by
  unfold mapPutA at h
  split at h
  · rename_i kt vt b hu
    cases hkt : keyT P kt with
    | false => simp [hkt] at h
    | true =>
      simp only [hkt, cond_true] at h
      obtain ⟨d, hd⟩ := keyT_und hkt
      simp only [V] at hm
      obtain ⟨r, q, hφ, rfl⟩ := hm
      split at h
      · rename_i es hb
        obtain ⟨o, ho, ents, clock, rfl, l, hl, hml⟩ := hW.at_ _ _ _ _ hb hφ
        have hgo : (getObj r).run P w = .ok (.map ents clock) w := by simp [getObj, Sem.run, ho]
        have hso : ∀ o', (setObj r o').run P w = .ok () { w with heap := w.heap.setIfInBounds r o' } := fun o' => by simp [setObj, Sem.run, ho]
        split at h
        · rename_i hf
          split at h
          · rename_i h' hh
            injection h with h; subst h
            obtain ⟨s1, _⟩ := findA_spec σ hW hk es l none hml hf
            have hfk := findKey_asking (w := w) hd (asking_none (P := P) ents.toList 0 (fun e he => s1 rfl e (hl.mem_iff.2 he)))
            refine ⟨{ w with heap := w.heap.setIfInBounds r (.map (ents.push { key := kv, val := vv, born := clock }) (clock + 1)) }, ?_, Post.update σ hW hb hφ rfl rfl (Tr.get_put _ _ _ _ _ hh) rfl rfl ⟨rfl, rfl, rfl⟩ ?_⟩
            · simp only [Instr.mapUpdate, Sem.run_bind, run_underlying hu, Result.andThen_ok, hgo, keyT_check hkt, hfk, hso]
            · refine ⟨_, _, rfl, { key := kv, val := vv, born := clock } :: l, ?_, ⟨_, l, rfl, hk, hv, hml⟩⟩
              rw [Array.toList_push]
              exact (List.Perm.cons _ hl).trans (List.perm_append_singleton _ _).symm
          · cases h
        · rename_i v0 hf
          split at h
          · rename_i es' hr
            split at h
            · rename_i h' hh
              injection h with h; subst h
              obtain ⟨_, s2⟩ := findA_spec σ hW hk es l (some v0) hml hf
              obtain ⟨t1, x, t2, t3⟩ := s2 v0 rfl
              obtain ⟨j, e, _, g2, _, g4, g5⟩ := asking_some (P := P) (w := w) (t := kt) (k := kv) (R := fun e => V σ φ v0 e.val) ents.toList 0 (fun e he => t1 e (hl.mem_iff.2 he)) ⟨x, hl.mem_iff.1 t2, t3⟩
              have hfk := findKey_asking (w := w) hd g5
              simp only [Nat.sub_zero] at g2
              obtain ⟨a1, eu, a2, hlu, hun⟩ := findA_one σ hW hk es l v0 hml hf
              obtain ⟨l1, e1, l2, hl1, hq1, ⟨k', hk1, hk2⟩, hrel⟩ := replA_spec σ hW hk hv es es' l hml hr
              have uniq : ∀ x ∈ l, (Op.equal kt kv x.key).run P w = .ok true w → x = eu := fun x hx hxe => by
                rw [hlu] at hx
                have : x ∈ a1 ++ a2 → False := fun hx => by have := hun x hx; rw [hxe] at this; injection this with this; cases this
                rcases List.mem_append.1 hx with hx | hx
                · exact (this (List.mem_append_left _ hx)).elim
                · rcases List.mem_cons.1 hx with hx | hx
                  · exact hx
                  · exact (this (List.mem_append_right _ hx)).elim
              have he1 : e1 = e := by
                rw [uniq e1 (by rw [hl1]; simp) hq1, uniq e (hl.mem_iff.2 (List.mem_of_getElem? g2)) g4]
              subst he1
              obtain ⟨hsame, hbits⟩ := eqv_same σ hkt hk1 hk hk2
              obtain ⟨m1, m2, hs1, hs2⟩ := modify_split ents j (fun e => { e with key := kv, val := vv }) e1 g2
              refine ⟨{ w with heap := w.heap.setIfInBounds r (.map (ents.modify j fun e => { e with key := kv, val := vv }) clock) }, ?_, Post.update σ hW hb hφ rfl rfl (Tr.get_put _ _ _ _ _ hh) rfl rfl ⟨rfl, rfl, rfl⟩ ?_⟩
              · have hkey : (((ents[j]?).map (·.key)).getD kv) = kv := by
                  rw [← Array.getElem?_toList, g2]; simp [hsame]
                have hstay : (Instr.keyThatStays kv kv).run P w = .ok kv w := by
                  unfold Instr.keyThatStays
                  have := hbits 10000
                  rw [← hsame] at this
                  rw [if_pos this]; rfl
                simp only [Instr.mapUpdate, Sem.run_bind, run_underlying hu, Result.andThen_ok, hgo, keyT_check hkt, hfk, hkey, hstay, hso]
              · refine ⟨_, _, rfl, l1 ++ { e1 with key := kv, val := vv } :: l2, ?_, hrel kv e1.born hk ⟨k', hk2, hsame.symm⟩⟩
                rw [hs2]
                rw [hl1, hs1] at hl
                have h1 := (List.perm_middle.symm.trans hl).trans List.perm_middle
                have h2 := h1.cons_inv
                exact (List.perm_middle.trans (h2.cons _)).trans List.perm_middle.symm
            · cases h
          · cases h
        · cases h
      · cases h
  · cases h
/-- What an operation that writes does. -/
theorem repA_len (z : List AV) : ∀ n, (repA z n).length = n * z.length
  | 0 => by simp [repA]
  | n + 1 => by rw [repA, List.length_append, repA_len z n, Nat.succ_mul]; omega
theorem repA_get (z : List AV) : ∀ n i, i < n * z.length → (repA z n)[i]? = z[i % z.length]?
  | 0, i, h => by omega
  | n + 1, i, h => by
    rw [repA]
    by_cases hi : i < z.length
    · rw [List.getElem?_append_left hi, Nat.mod_eq_of_lt hi]
    · have hle : z.length ≤ i := by omega
      rw [List.getElem?_append_right hle, repA_get z n (i - z.length) (by rw [Nat.succ_mul] at h; omega)]
      congr 1
      exact (Nat.mod_eq_sub_mod hle).symm
theorem repA_VL {φ : Phi} {z : List AV} {c : Array Value} (h : VL σ φ z c.toList) (n : Nat) : VL σ φ (repA z n) (Builtin.zeroCells c n).toList := by
  have hlen : c.size = z.length := by have := VL.len σ h; simpa using this
  refine VL.of σ ?_ (fun j x hx => ?_)
  · rw [repA_len]; simp [Builtin.zeroCells, hlen]
  · have hj : j < n * z.length := by
      have := (List.getElem?_eq_some_iff.1 hx).1
      rwa [repA_len] at this
    rw [repA_get z n j hj] at hx
    obtain ⟨v, h1, h2⟩ := VL.at σ h _ _ hx
    refine ⟨v, ?_, h2⟩
    have hz : j % c.size < c.size := by
      have h3 : j % z.length < c.toList.length := (List.getElem?_eq_some_iff.1 h1).1
      have h4 : c.toList.length = c.size := Array.length_toList
      rw [h4, hlen] at h3
      rw [hlen]; exact h3
    rw [Array.getElem?_toList] at h1 ⊢
    rw [← hlen] at h1 hj
    have hc : c[j % c.size]! = v := by
      rw [getElem!_pos c _ hz]
      rw [Array.getElem?_eq_getElem hz] at h1
      exact Option.some.inj h1
    simp only [Builtin.zeroCells, Array.getElem?_map, Array.getElem?_range, hj, if_true, Option.map_some, hc]
theorem clearA_run {P : Program} (hσ : Okσ σ) {φ : Phi} {S S' : St} {w : World} (hW : W σ φ S w) {t ty : TypeId} {x : AV} {xv : Value} (hx : V σ φ x xv) (h : clearA P S t x = some S') :
    ∃ w', (Builtin.clear_ #[t] ty #[xv]).run P w = .ok (.tuple #[]) w' ∧ Post σ φ S w φ S' w' := by
  unfold clearA at h
  split at h
  · rename_i e ht
    have fin : ∀ (b o r m n c : Nat), φ b = some (r, m) → (match zeroA P e with
        | some z => bif allScalar z.cells then storeC S b o (repA z.cells (n + 1)) else none
        | none => none) = some S' → ∃ w', (Builtin.clear_ #[t] ty #[.slice (some ⟨r, o, none⟩) (n + 1) c]).run P w = .ok (.tuple #[]) w' ∧ Post σ φ S w φ S' w' := fun b o r m n c hb h => by
      split at h
      · rename_i z hz
        cases hs : allScalar z.cells with
        | false => rw [hs] at h; cases h
        | true =>
          rw [hs, cond_true] at h
          obtain ⟨zv, hz1, hz2⟩ := zeroA_run σ (φ := φ) hz w
          obtain ⟨w', g1, g2⟩ := storeC_run (P := P) σ hσ.1 hW hb (repA_VL σ (V.cells σ hσ.1 hz2 hs) (n + 1)) h
          exact ⟨w', by simp [Builtin.clear_, run_underlying ht, hz1, g1], g2⟩
      · cases h
    split at h
    · injection h with h; subst h
      simp only [V] at hx; subst hx
      exact ⟨w, by simp [Builtin.clear_, run_underlying ht], Post.refl σ hW⟩
    · injection h with h; subst h
      simp only [V] at hx; obtain ⟨a, c, rfl⟩ := hx
      exact ⟨w, by simp [Builtin.clear_, run_underlying ht], Post.refl σ hW⟩
    · simp only [V] at hx; obtain ⟨r, m, hb, rfl⟩ := hx
      split at h
      · injection h with h; subst h
        exact ⟨w, by simp [Builtin.clear_, run_underlying ht], Post.refl σ hW⟩
      · exact fin _ _ _ _ _ _ hb h
    · simp only [V] at hx; obtain ⟨r, m, c, hb, rfl, _⟩ := hx
      split at h
      · injection h with h; subst h
        exact ⟨w, by simp [Builtin.clear_, run_underlying ht], Post.refl σ hW⟩
      · exact fin _ _ _ _ _ _ hb h
    · cases h
  · cases h
theorem wr_run {P : Program} (hσ : Okσ σ) {GS : Nat → Option Nat} {φ : Phi} {T : Tr AV} {S S' : St} {a : Act} {w : World} (hW : W σ φ S w) (ht : TR σ φ T a) (hg : Glob GS φ) (o : Oper) {y : AV} (h : wr P GS T S o.op = some (y, S')) :
    ∃ u w' φ', ((execOp a.eval o).run P w = .ok (.value u) w' ∨ ((execOp a.eval o).run P w = .ok .skip w' ∧ u = undef)) ∧ Post σ φ S w φ' S' w' ∧ V σ φ' y u := by
  obtain ⟨dst, op, type, pos, after, guard⟩ := o
  simp only at h
  unfold wr at h
  split at h
  · split at h
    · rename_i hp hv
      split at h
      · rename_i S1 hs
        injection h with h; injection h with h1 h2; subst h1; subst h2
        obtain ⟨w', g1, g2⟩ := storeA_run σ (P := P) hσ hW (opd_V σ ht hg hp) (opd_V σ ht hg hv) hs
        exact ⟨undef, w', φ, .inr ⟨by simp only [execOp, Sem.run_bind, g1, Result.andThen_ok, Sem.run_pure], rfl⟩, g2, by simp only [V]; exact ⟨[], rfl, by simp only [VL]⟩⟩
      · cases h
    · cases h
  · split at h
    · rename_i hp hk hv
      split at h
      · rename_i S1 hs
        injection h with h; injection h with h1 h2; subst h1; subst h2
        obtain ⟨w', g1, g2⟩ := mapPutA_run σ (P := P) hW (opd_V σ ht hg hp) (opd_V σ ht hg hk) (opd_V σ ht hg hv) hs
        exact ⟨undef, w', φ, .inr ⟨by simp only [execOp, Sem.run_bind, g1, Result.andThen_ok, Sem.run_pure], rfl⟩, g2, by simp only [V]; exact ⟨[], rfl, by simp only [VL]⟩⟩
      · cases h
    · cases h
  · split at h
    · rename_i hp hk hv
      split at h
      · rename_i S1 hs
        injection h with h; injection h with h1 h2; subst h1; subst h2
        obtain ⟨w', g1, g2⟩ := mapPutA_run σ (P := P) hW (opd_V σ ht hg hp) (opd_V σ ht hg hk) (opd_V σ ht hg hv) hs
        exact ⟨undef, w', φ, .inr ⟨by simp only [execOp, Sem.run_bind, g1, Result.andThen_ok, Sem.run_pure], rfl⟩, g2, by simp only [V]; exact ⟨[], rfl, by simp only [VL]⟩⟩
      · cases h
    · cases h
  · rename_i args argTypes
    split at h
    · rename_i s x t xt hargs hty
      split at h
      · rename_i hs hx
        have he : args = #[s, x] := by rw [← Array.toList_inj, hargs]
        have he2 : argTypes = #[t, xt] := by rw [← Array.toList_inj, hty]
        subst he; subst he2
        obtain ⟨u, w', φ', g1, g2, g3⟩ := appendA_run σ (P := P) (ty := type) hσ hW (opd_V σ ht hg hs) (opd_V σ ht hg hx) h
        exact ⟨u, w', φ', .inl (by simp [execOp, resolve, invoke, builtin, g1]), g2, g3⟩
      · cases h
    · cases h
  · rename_i args argTypes
    split at h
    · rename_i s x t xt hargs hty
      split at h
      · rename_i hs hx
        have he : args = #[s, x] := by rw [← Array.toList_inj, hargs]
        have he2 : argTypes = #[t, xt] := by rw [← Array.toList_inj, hty]
        subst he; subst he2
        obtain ⟨u, w', g1, g2, g3⟩ := copyA_run σ (P := P) (ty := type) hσ hW (opd_V σ ht hg hs) (opd_V σ ht hg hx) h
        exact ⟨u, w', φ, .inl (by simp [execOp, resolve, invoke, builtin, g1]), g2, g3⟩
      · cases h
    · cases h
  · rename_i args argTypes
    split at h
    · rename_i s t hargs hty
      split at h
      · rename_i hs
        split at h
        · rename_i S1 hc
          injection h with h; injection h with h1 h2; subst h1; subst h2
          have he : args = #[s] := by rw [← Array.toList_inj, hargs]
          have he2 : argTypes = #[t] := by rw [← Array.toList_inj, hty]
          subst he; subst he2
          obtain ⟨w', g1, g2⟩ := clearA_run σ (P := P) (ty := type) hσ hW (opd_V σ ht hg hs) hc
          exact ⟨.tuple #[], w', φ, .inl (by simp [execOp, resolve, invoke, builtin, g1]), g2, by simp only [V]; exact ⟨[], rfl, by simp only [VL]⟩⟩
        · cases h
      · cases h
    · cases h
  · cases h
end
end Go.Proofs.YtedokmdoompidaaGreatDoor.Ev
