/- The evaluator's equality of two values, and the model's. -/
import Derived.Test.YtedokmdoompidaaGreatDoorEvD
import Derived.Laws.StructEq
namespace Go.Proofs.YtedokmdoompidaaGreatDoor.Ev

def beqL : List Nat → List Nat → Bool
  | [], [] => true
  | a :: x, b :: y => bif Nat.beq a b then beqL x y else false
  | _, _ => false
theorem beqL_eq : ∀ {x y : List Nat}, beqL x y = decide (x = y)
  | [], [] => by simp [beqL]
  | [], _ :: _ => by simp [beqL]
  | _ :: _, [] => by simp [beqL]
  | a :: x, b :: y => by
    simp only [beqL]
    cases h : Nat.beq a b with
    | true => have := Nat.eq_of_beq_eq_true h; subst this; simp [beqL_eq]
    | false => have := Nat.ne_of_beq_eq_false h; simp [this]
theorem bytesOf_inj {a b : ByteArray} (h : bytesOf a = bytesOf b) : a = b := by
  unfold bytesOf at h
  have h1 : a.data.toList = b.data.toList := by
    have hinj : Function.Injective (fun x : UInt8 => x.toNat) := fun x y hxy => UInt8.toNat_inj.1 hxy
    exact (List.map_inj_right (fun x y hxy => hinj hxy)).1 h
  cases a; cases b
  simp only [ByteArray.mk.injEq]
  exact Array.toList_inj.1 h1

theorem beq_bytes (a b : ByteArray) : (a == b) = decide (bytesOf a = bytesOf b) := by
  rw [beq_toListBytes]
  by_cases h : a = b
  · subst h; simp
  · have h1 : ¬ bytesOf a = bytesOf b := fun e => h (bytesOf_inj e)
    have h2 : a.toList ≠ b.toList := fun e => h (by
      rw [ByteArray.toList_eq, ByteArray.toList_eq] at e
      cases a; cases b
      simp only [ByteArray.mk.injEq]
      exact Array.toList_inj.1 e)
    rw [beq_eq_false_iff_ne.2 h2]; simp [h1]
/-- Field by field, but for those named "_". -/
def eqFs (eq : TypeId → AV → AV → Option Bool) (P : Program) (xs ys : List AV) : List Field → Option Bool
  | [] => some true
  | f :: fs => if f.name = "_" then eqFs eq P xs ys fs else
    match partA P f.type xs f.offset, partA P f.type ys f.offset with
    | some x, some y => (match eq f.type x y with
      | some true => eqFs eq P xs ys fs
      | some false => some false
      | none => none)
    | _, _ => none
def plainBlk (S : St) (b : Nat) : Bool := match S.h.get b with
  | some (.cells _ _ _ _ sh _) => !sh
  | _ => false
def eqv (P : Program) (S : St) : Nat → TypeId → AV → AV → Option Bool
  | 0, _, _, _ => none
  | d + 1, t, x, y => match P.underlying t with
    | some .bool => (match x, y with | .bool a, .bool b => some (a == b) | _, _ => none)
    | some (.int _) => (match x, y with | .int k a, .int k' b => if k = k' then some (a == b) else none | _, _ => none)
    | some .string => (match x, y with | .str a, .str b => some (beqL a b) | _, _ => none)
    | some (.pointer e) => (match x, y with
      | .nilp, .nilp => some true
      | .nilp, .ptr _ _ => some false
      | .ptr _ _, .nilp => some false
      | .ptr b o, .ptr b' o' => (match szOf P e with
        | some (_ + 1) => if b = b' then some (o == o') else if plainBlk S b && plainBlk S b' then some false else none
        | _ => none)
      | _, _ => none)
    | some (.slice _) => (match x, y with
      | .nils, .nils => some true
      | .nils, .sl .. => some false
      | .nils, .slu .. => some false
      | .nils, .emp => some false
      | .emp, .nils => some false
      | .sl .., .nils => some false
      | .slu .., .nils => some false
      | _, _ => none)
    | some (.map _ _) => (match x, y with
      | .nilm, .nilm => some true
      | .nilm, .map _ => some false
      | .map _, .nilm => some false
      | _, _ => none)
    | some (.func _ _ _) => (match x, y with
      | .nilf, .nilf => some true
      | .nilf, .fn .. => some false
      | .fn .., .nilf => some false
      | _, _ => none)
    | some (.struct fs) => (match x, y with
      | .agg xs, .agg ys => if P.stoodInHeld t then none else eqFs (eqv P S d) P xs ys fs.toList
      | _, _ => none)
    | _ => none

section
variable (σ : Nat → Value)
theorem run_same {P : Program} {φ : Phi} {S : St} {w : World} (hW : W σ φ S w) {b b' o o' r r' n n' : Nat} (hφ : φ b = some (r, n)) (hφ' : φ b' = some (r', n')) {c : Bool}
    (h : (if b = b' then some (o == o') else if plainBlk S b && plainBlk S b' then some false else none) = some c) :
    (sameAddr ⟨r, o, none⟩ ⟨r', o', none⟩).run P w = .ok c w := by
  split at h
  · rename_i he
    subst he
    rw [hφ] at hφ'
    injection hφ' with hφ'; injection hφ' with h1 h2; subst h1
    injection h with h; subst h
    simp only [sameAddr, beq_self_eq_true, if_true]
    congr 1
    by_cases ho : o = o'
    · simp [ho]
    · have : (⟨r, o, none⟩ : Addr) ≠ ⟨r, o', none⟩ := fun h => ho (by injection h)
      rw [beq_eq_false_iff_ne.2 this, beq_eq_false_iff_ne.2 ho]; rfl
  · rename_i he
    split at h
    · rename_i hp
      injection h with h; subst h
      simp only [Bool.and_eq_true] at hp
      have key : ∀ c, plainBlk S c = true → ∀ q m, φ c = some (q, m) → ∃ cs e, w.heap[q]? = some (.cells cs e (0, 0)) ∧ ∃ blk, S.h.get c = some blk := fun c hc q m hq => by
        unfold plainBlk at hc
        split at hc
        · rename_i e n0 sp ro sh cs hb
          obtain ⟨ob, ho, c, fz, rfl, _, _, _, _, _, h7⟩ := hW.at_ _ _ _ _ hb hq
          exact ⟨c, e, by rw [ho, h7 (by simpa using hc)], _, hb⟩
        · cases hc
      obtain ⟨c1, e1, g1, k1, l1⟩ := key b hp.1 r n hφ
      obtain ⟨c2, e2, g2, k2, l2⟩ := key b' hp.2 r' n' hφ'
      have hne : r ≠ r' := fun e => he (hW.inj b b' k1 k2 r n n' l1 l2 hφ (by rw [e]; exact hφ'))
      have hneb : (r == r') = false := by simpa using hne
      simp [sameAddr, hneb, World.frozen?, World.shape?, g1, g2, noView, viewAt, mayBeOne, stringish]
    · cases h

theorem eqFs_run {P : Program} {eq : TypeId → AV → AV → Option Bool} {eqR : TypeId → Value → Value → Sem Bool} {φ : Phi} {w : World} {xs ys : List AV} {vs us : List Value} (hx : VL σ φ xs vs) (hy : VL σ φ ys us)
    (heq : ∀ t x y c, eq t x y = some c → ∀ v u, V σ φ x v → V σ φ y u → (eqR t v u).run P w = .ok c w) : ∀ (fs : List Field) (c : Bool), eqFs eq P xs ys fs = some c →
    (forIn fs ((none, ()) : Option Bool × Unit) (fun f _ => (do
      if f.name ≠ "_" then do
        let x ← part f.type vs.toArray f.offset
        let y ← part f.type us.toArray f.offset
        let c ← eqR f.type x y
        if (!c) = true then
          pure (ForInStep.done ((some false, ()) : Option Bool × Unit))
        else pure (ForInStep.yield (none, ()))
      else pure (ForInStep.yield (none, ())) : Sem (ForInStep (Option Bool × Unit)))) : Sem (Option Bool × Unit)).run P w = .ok (if c then (none, ()) else (some false, ())) w
  | [], c, h => by
    simp only [eqFs, Option.some.injEq] at h; subst h
    simp
  | f :: fs, c, h => by
    simp only [eqFs] at h
    rw [List.forIn_cons]
    split at h
    · rename_i hn
      have ih := eqFs_run hx hy heq fs c h
      simp only [hn, ne_eq, not_true_eq_false, if_false, pure_bind]
      exact ih
    · rename_i hn
      split at h
      · rename_i x y hpx hpy
        obtain ⟨v, g1, g2⟩ := partA_run σ hx hpx w
        obtain ⟨u, k1, k2⟩ := partA_run σ hy hpy w
        split at h
        · rename_i he
          have ih := eqFs_run hx hy heq fs c h
          have hr := heq _ _ _ _ he v u g2 k2
          simp only [ne_eq, hn, not_false_eq_true, if_true, Sem.run_bind, g1, k1, hr, Result.andThen_ok, Bool.not_true, Bool.false_eq_true, if_false, Sem.run_pure]
          simp only [ne_eq] at ih
          exact ih
        · rename_i he
          injection h with h; subst h
          have hr := heq _ _ _ _ he v u g2 k2
          simp [hn, g1, k1, hr]
        · cases h
      · cases h

theorem eq_nil_l {P : Program} {t e : TypeId} (ht : P.underlying t = some (.slice e)) (d l c l' c' : Nat) (b : Option Addr) (w : World) : (Op.equalIn (d + 1) t (.slice none l c) (.slice b l' c')).run P w = .ok b.isNone w := by
  simp [Op.equalIn, run_underlying ht]
theorem eq_nil_r {P : Program} {t e : TypeId} (ht : P.underlying t = some (.slice e)) (d l c l' c' : Nat) (a : Addr) (w : World) : (Op.equalIn (d + 1) t (.slice (some a) l c) (.slice none l' c')).run P w = .ok false w := by
  simp [Op.equalIn, run_underlying ht]
theorem eqv_run {P : Program} {φ : Phi} {S : St} {w : World} (hW : W σ φ S w) : ∀ (d : Nat) (t : TypeId) (x y : AV) (c : Bool), eqv P S d t x y = some c → ∀ v u, V σ φ x v → V σ φ y u → ∀ d', d ≤ d' → (Op.equalIn d' t v u).run P w = .ok c w := by
  intro d
  induction d with
  | zero => intro t x y c h; simp [eqv] at h
  | succ d ih =>
    intro t x y c h v u hv hu d' hd
    obtain ⟨e, rfl⟩ : ∃ e, d' = e + 1 := ⟨d' - 1, by omega⟩
    simp only [eqv] at h
    split at h
    · rename_i ht
      split at h <;> try cases h
      simp only [V] at hv hu; subst hv; subst hu
      simp [Op.equalIn, run_underlying ht]
    · rename_i ht
      split at h <;> try cases h
      split at h <;> try cases h
      rename_i hk; subst hk
      simp only [V] at hv hu; subst hv; subst hu
      simp [Op.equalIn, run_underlying ht]
    · rename_i ht
      split at h <;> try cases h
      simp only [V] at hv hu
      obtain ⟨bs, rfl, h1⟩ := hv
      obtain ⟨bs', rfl, h2⟩ := hu
      simp only [Op.equalIn, Sem.run_bind, run_underlying ht, Result.andThen_ok, Sem.run_pure, beqL_eq, ← h1, ← h2]
      congr 1
      exact beq_bytes bs bs'
    · rename_i el ht
      split at h
      · injection h with h; subst h
        simp only [V] at hv hu; subst hv; subst hu
        simp [Op.equalIn, run_underlying ht]
      · injection h with h; subst h
        simp only [V] at hv hu; subst hv; obtain ⟨r, n, _, rfl⟩ := hu
        simp [Op.equalIn, run_underlying ht]
      · injection h with h; subst h
        simp only [V] at hv hu; subst hu; obtain ⟨r, n, _, rfl⟩ := hv
        simp [Op.equalIn, run_underlying ht]
      · split at h
        · rename_i m hs
          simp only [V] at hv hu
          obtain ⟨r, n, h1, rfl⟩ := hv
          obtain ⟨r', n', h2, rfl⟩ := hu
          simp only [Op.equalIn, Sem.run_bind, run_underlying ht, Result.andThen_ok, run_szOf P hs, ne_eq]
          rw [if_pos (by omega)]
          exact run_same σ hW h1 h2 h
        · cases h
      · cases h
    · rename_i ht
      split at h <;> first
        | (cases h; done)
        | (injection h with h; subst h
           simp only [V] at hv hu
           first
             | (subst hv; subst hu; exact eq_nil_l ht _ _ _ _ _ _ _)
             | (subst hv; obtain ⟨r, n, _, rfl⟩ := hu; exact eq_nil_l ht _ _ _ _ _ _ _)
             | (subst hu; obtain ⟨r, n, _, rfl⟩ := hv; exact eq_nil_r ht _ _ _ _ _ _ _)
             | (subst hv; obtain ⟨r, n, c, _, rfl, _⟩ := hu; exact eq_nil_l ht _ _ _ _ _ _ _)
             | (subst hu; obtain ⟨r, n, c, _, rfl, _⟩ := hv; exact eq_nil_r ht _ _ _ _ _ _ _)
             | (subst hv; obtain ⟨r, n, rfl⟩ := hu; exact eq_nil_l ht _ _ _ _ _ _ _)
             | (subst hu; obtain ⟨r, n, rfl⟩ := hv; exact eq_nil_r ht _ _ _ _ _ _ _))
    · rename_i ht
      split at h <;> first
        | (cases h; done)
        | (injection h with h; subst h
           simp only [V] at hv hu
           first
             | (subst hv; subst hu; simp [Op.equalIn, run_underlying ht])
             | (subst hv; obtain ⟨r, n, _, rfl⟩ := hu; simp [Op.equalIn, run_underlying ht])
             | (subst hu; obtain ⟨r, n, _, rfl⟩ := hv; simp [Op.equalIn, run_underlying ht]))
    · rename_i ht
      split at h <;> first
        | (cases h; done)
        | (injection h with h; subst h
           simp only [V] at hv hu
           first
             | (subst hv; subst hu; simp [Op.equalIn, run_underlying ht])
             | (subst hv; obtain ⟨r, n, rfl, _⟩ := hu; simp [Op.equalIn, run_underlying ht])
             | (subst hu; obtain ⟨r, n, rfl, _⟩ := hv; simp [Op.equalIn, run_underlying ht]))
    · rename_i fs ht
      split at h
      · split at h
        · cases h
        · rename_i xs ys hst
          simp only [V] at hv hu
          obtain ⟨vs, rfl, hvs⟩ := hv
          obtain ⟨us, rfl, hus⟩ := hu
          have key := eqFs_run σ (P := P) (eqR := Op.equalIn e) hvs hus (fun t x y c hc v u hv hu => ih t x y c hc v u hv hu e (by omega)) fs.toList c h
          simp only [Op.equalIn, Sem.run_bind, run_underlying ht, Result.andThen_ok, run_program, hst, Bool.false_eq_true, if_false, Sem.run_ite]
          rw [← Array.forIn_toList]
          refine (congrArg (fun r => Result.andThen r _) key).trans ?_
          cases c <;> rfl
      · cases h
    · cases h
end
end Go.Proofs.YtedokmdoompidaaGreatDoor.Ev
