/- The evaluator's reading operations, one function. -/
import Derived.Test.YtedokmdoompidaaGreatDoorEvJ
namespace Go.Proofs.YtedokmdoompidaaGreatDoor.Ev

def opdO (GS : Nat → Option Nat) (T : Tr AV) : Option Operand → Option (Option AV)
  | none => some none
  | some x => match opd GS T x with
    | some v => some (some v)
    | none => none
/-- What an operation that changes nothing yields. -/
def rd (P : Program) (GS : Nat → Option Nat) (T : Tr AV) (S : St) (op : Op) : Option AV :=
  match op with
  | .move x => opd GS T x
  | .assign x => opd GS T x
  | .pick c a b => (match opd GS T c with
    | some (.bool t) => opd GS T (bif t then a else b)
    | _ => none)
  | .load t a => (match opd GS T a with
    | some x => loadA P S t x
    | none => none)
  | .nilCheck x => (match opd GS T x with
    | some (.ptr b o) => some (.ptr b o)
    | some (.fn f a c) => some (.fn f a c)
    | _ => none)
  | .binOp op t x y _ => (match opd GS T x, opd GS T y with
    | some a, some b => binA P S op t a b
    | _, _ => none)
  | .unOp op _ x => (match opd GS T x with
    | some a => unA op a
    | none => none)
  | .convert s d x => (match opd GS T x with
    | some a => convA P S s d a
    | none => none)
  | .makeFunc (.func f) first cap => (match opds GS T first.toList, opds GS T cap.toList with
    | some a, some b => some (.fn f a b)
    | _, _ => none)
  | .build t ps => (match parts GS T ps.toList with
    | some l => buildA P t l
    | none => none)
  | .fieldAddr s x f => (match opd GS T x with
    | some a => fieldAddrA P s a f
    | none => none)
  | .field s x f => (match opd GS T x with
    | some a => fieldA P s a f
    | none => none)
  | .indexAddr t x i => (match opd GS T x, opd GS T i with
    | some a, some b => indexAddrA P t a b
    | _, _ => none)
  | .index t x i => (match opd GS T x, opd GS T i with
    | some a, some b => indexA P t a b
    | _, _ => none)
  | .slice t x lo hi mx => (match opd GS T x, opdO GS T lo, opdO GS T hi, opdO GS T mx with
    | some a, some l, some h, some m => sliceA P t a l h m
    | _, _, _, _ => none)
  | .extract x i => (match opd GS T x with
    | some a => extractA a i
    | none => none)
  | .lookup t m k ok => (match opd GS T m, opd GS T k with
    | some a, some b => lookupA P S t a b ok
    | _, _ => none)
  | .call { callee := .builtin .len, args, argTypes } => (match args.toList, argTypes[0]? with
    | [x], some t => (match opd GS T x with
      | some a => lenA P S t a
      | none => none)
    | _, _ => none)
  | .call { callee := .builtin .cap, args, argTypes } => (match args.toList, argTypes[0]? with
    | [x], some t => (match opd GS T x with
      | some a => capA P t a
      | none => none)
    | _, _ => none)
  | .call { callee := .builtin .max, args, .. } => (match opds GS T args.toList with
    | some (x :: l) => foldA maxA x l
    | _ => none)
  | .call { callee := .builtin .min, args, .. } => (match opds GS T args.toList with
    | some (x :: l) => foldA minA x l
    | _ => none)
  | _ => none

section
variable (σ : Nat → Value)
theorem opdO_V {GS : Nat → Option Nat} {φ : Phi} {T : Tr AV} {a : Act} (ht : TR σ φ T a) (hg : Glob GS φ) {x : Option Operand} {v : Option AV} (h : opdO GS T x = some v) : VO σ φ v (x.map a.eval) := by
  cases x with
  | none => simp only [opdO, Option.some.injEq] at h; subst h; rfl
  | some x =>
    simp only [opdO] at h
    split at h
    · rename_i u hu
      injection h with h; subst h
      exact ⟨_, rfl, opd_V σ ht hg hu⟩
    · cases h
/-- What an operation yields. -/
theorem rd_run {P : Program} (hσ : Okσ σ) {GS : Nat → Option Nat} {φ : Phi} {T : Tr AV} {S : St} {a : Act} {w : World} (hW : W σ φ S w) (ht : TR σ φ T a) (hg : Glob GS φ) (o : Oper) {y : AV} (h : rd P GS T S o.op = some y) :
    ∃ u, (execOp a.eval o).run P w = .ok (.value u) w ∧ V σ φ y u := by
  obtain ⟨dst, op, type, pos, after, guard⟩ := o
  simp only at h
  have fin : ∀ {s : Sem Value}, (∃ u, s.run P w = .ok u w ∧ V σ φ y u) → ∃ u, (do pure (Next.value (← s)) : Sem Next).run P w = .ok (.value u) w ∧ V σ φ y u := fun {s} hs => by
    obtain ⟨u, h1, h2⟩ := hs
    exact ⟨u, by simp only [Sem.run_bind, h1, Result.andThen_ok, Sem.run_pure], h2⟩
  unfold rd at h
  split at h
  · exact ⟨_, rfl, opd_V σ ht hg h⟩
  · exact ⟨_, rfl, opd_V σ ht hg h⟩
  · split at h
    · rename_i c x z t hc
      have := opd_V σ ht hg hc
      simp only [V] at this
      refine ⟨_, ?_, opd_V σ ht hg h⟩
      simp only [execOp, this, asBool, Sem.run_bind, Sem.run_pure, Result.andThen_ok]
      cases t <;> rfl
    · cases h
  · split at h
    · rename_i hx; exact fin (loadA_run σ hW (opd_V σ ht hg hx) h)
    · cases h
  · split at h
    · rename_i hx
      injection h with h; subst h
      have hv := opd_V σ ht hg hx
      have hv' := hv
      simp only [V] at hv'
      obtain ⟨r, n, _, he⟩ := hv'
      rw [he] at hv
      exact ⟨_, by simp only [execOp, he, Sem.run_pure], hv⟩
    · rename_i hx
      injection h with h; subst h
      have hv := opd_V σ ht hg hx
      have hv' := hv
      simp only [V] at hv'
      obtain ⟨r, n, he, _⟩ := hv'
      rw [he] at hv
      exact ⟨_, by simp only [execOp, he, Sem.run_pure], hv⟩
    · cases h
  · split at h
    · rename_i hx hy; exact fin (binA_run σ hσ hW (opd_V σ ht hg hx) (opd_V σ ht hg hy) h)
    · cases h
  · split at h
    · rename_i hx; exact fin (unA_run σ (opd_V σ ht hg hx) h)
    · cases h
  · split at h
    · rename_i hx; exact fin (convA_run σ hW (opd_V σ ht hg hx) h)
    · cases h
  · rename_i f first cap
    split at h
    · rename_i x z hx hz
      injection h with h; subst h
      refine fin ⟨.func (.func f) (first.map a.eval) (cap.map a.eval), rfl, ?_⟩
      simp only [V]
      exact ⟨first.toList.map a.eval, cap.toList.map a.eval, by rw [← Array.toList_map, ← Array.toList_map], opds_VL σ ht hg hx, opds_VL σ ht hg hz⟩
    · cases h
  · rename_i t ps
    split at h
    · rename_i l hl
      refine fin (buildA_run σ hσ.small (vs := ps.map fun (i, x) => (i, a.eval x)) ?_ h w)
      rw [Array.toList_map]
      exact parts_PL σ ht hg hl
    · cases h
  · split at h
    · rename_i hx; exact fin (fieldAddrA_run σ (opd_V σ ht hg hx) h)
    · cases h
  · split at h
    · rename_i hx; exact fin (fieldA_run σ (opd_V σ ht hg hx) h)
    · cases h
  · split at h
    · rename_i hx hy; exact fin (indexAddrA_run σ (opd_V σ ht hg hx) (opd_V σ ht hg hy) h)
    · cases h
  · split at h
    · rename_i hx hy; exact fin (indexA_run σ (opd_V σ ht hg hx) (opd_V σ ht hg hy) h)
    · cases h
  · split at h
    · rename_i hx h1 h2 h3; exact fin (sliceA_run σ (opd_V σ ht hg hx) (opdO_V σ ht hg h1) (opdO_V σ ht hg h2) (opdO_V σ ht hg h3) h)
    · cases h
  · split at h
    · rename_i hx; exact fin (extractA_run σ (opd_V σ ht hg hx) h)
    · cases h
  · split at h
    · rename_i hx hy; exact fin (lookupA_run σ hW (opd_V σ ht hg hx) (opd_V σ ht hg hy) h)
    · cases h
  · rename_i args argTypes
    split at h
    · rename_i x t hargs hty
      split at h
      · rename_i hx
        have he : args = #[x] := by rw [← Array.toList_inj, hargs]
        subst he
        have := fin (lenA_run σ (ty := type) (vs := #[a.eval x]) hW hty rfl (opd_V σ ht hg hx) h)
        simpa [execOp, resolve, invoke, builtin] using this
      · cases h
    · cases h
  · rename_i args argTypes
    split at h
    · rename_i x t hargs hty
      split at h
      · rename_i hx
        have he : args = #[x] := by rw [← Array.toList_inj, hargs]
        subst he
        have := fin (capA_run σ (ty := type) (vs := #[a.eval x]) hty rfl (opd_V σ ht hg hx) h)
        simpa [execOp, resolve, invoke, builtin] using this
      · cases h
    · cases h
  · rename_i args ats
    split at h
    · rename_i x l hx
      have hvl := opds_VL σ ht hg hx
      simp only [VL] at hvl
      obtain ⟨v, vs, h1, h2, h3⟩ := hvl
      have := fin (foldA_run σ (fun x y z v u hv hu hz => maxA_run σ (P := P) (w := w) hv hu hz) l vs x y v h2 h3 h)
      simpa [execOp, resolve, invoke, builtin, Builtin.max_, h1] using this
    · cases h
  · rename_i args ats
    split at h
    · rename_i x l hx
      have hvl := opds_VL σ ht hg hx
      simp only [VL] at hvl
      obtain ⟨v, vs, h1, h2, h3⟩ := hvl
      have := fin (foldA_run σ (fun x y z v u hv hu hz => minA_run σ (P := P) (w := w) hv hu hz) l vs x y v h2 h3 h)
      simpa [execOp, resolve, invoke, builtin, Builtin.min_, h1] using this
    · cases h
  · cases h
end
end Go.Proofs.YtedokmdoompidaaGreatDoor.Ev
