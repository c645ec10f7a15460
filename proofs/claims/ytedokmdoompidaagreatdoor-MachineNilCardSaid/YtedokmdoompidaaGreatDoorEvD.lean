/- The evaluator's operations that read: what they yield, and that the model's yield the same. -/
import Derived.Test.YtedokmdoompidaaGreatDoorEvC
import Derived.Laws.Entries
namespace Go.Proofs.YtedokmdoompidaaGreatDoor.Ev

section
variable (P : Program)
def szOf (t : TypeId) : Option Nat := match P.info? t with
  | some i => some i.size
  | none => none
def aggT (t : TypeId) : Option Bool := match P.underlying t with
  | some (.struct _) => some true
  | some (.array _ _) => some true
  | some _ => some false
  | none => none
theorem run_szOf {t : TypeId} {n : Nat} (h : szOf P t = some n) (w : World) : (sizeOf t).run P w = .ok n w := by
  unfold szOf at h
  split at h
  · rename_i i hi
    injection h with h; subst h
    simp [sizeOf, typeInfo, hi]
  · cases h
theorem run_aggT {t : TypeId} {b : Bool} (h : aggT P t = some b) (w : World) : (isAgg t).run P w = .ok b w := by
  unfold aggT at h
  split at h
  · rename_i hi; injection h with h; subst h; simp [isAgg, run_underlying hi]
  · rename_i hi; injection h with h; subst h; simp [isAgg, run_underlying hi]
  · rename_i d h1 h2 hi
    injection h with h; subst h
    cases d <;> first | (simp [isAgg, run_underlying hi]; done) | (exact (h1 _ rfl).elim) | (exact (h2 _ _ rfl).elim)
  · cases h
end

def bytesOf (bs : ByteArray) : List Nat := bs.data.toList.map (·.toNat)
/-- A constant. -/
def ofSc : Value → Option AV
  | .bool b => some (.bool b)
  | .int k n => some (.int k n)
  | .string s => some (.str (bytesOf s))
  | .pointer none => some .nilp
  | .slice none 0 0 => some .nils
  | .map none => some .nilm
  | .nilFunc => some .nilf
  | _ => none
def ofScs : List Value → Option (List AV)
  | [] => some []
  | v :: l => match ofSc v with
    | some x => (match ofScs l with | some xs => some (x :: xs) | none => none)
    | none => none
def ofVal : Value → Option AV
  | .agg cs => (match ofScs cs.toList with | some l => some (.agg l) | none => none)
  | .tuple vs => (match ofScs vs.toList with | some l => some (.tup l) | none => none)
  | v => ofSc v

section
variable (σ : Nat → Value)
theorem ofSc_V {φ : Phi} {v : Value} {x : AV} (h : ofSc v = some x) : V σ φ x v := by
  unfold ofSc at h
  split at h <;> first
    | (injection h with h; subst h; simp only [V]; done)
    | (injection h with h; subst h; simp only [V]; exact ⟨_, rfl, rfl⟩)
    | cases h
theorem ofScs_VL {φ : Phi} : ∀ {l : List Value} {xs : List AV}, ofScs l = some xs → VL σ φ xs l
  | [], xs, h => by simp only [ofScs, Option.some.injEq] at h; subst h; simp only [VL]
  | v :: l, xs, h => by
    simp only [ofScs] at h
    split at h
    · rename_i x hx
      split at h
      · rename_i ys hy
        injection h with h; subst h
        simp only [VL]
        exact ⟨v, l, rfl, ofSc_V σ hx, ofScs_VL hy⟩
      · cases h
    · cases h
theorem ofVal_V {φ : Phi} {v : Value} {x : AV} (h : ofVal v = some x) : V σ φ x v := by
  unfold ofVal at h
  split at h
  · split at h
    · rename_i l hl; injection h with h; subst h; simp only [V]; exact ⟨_, by simp, ofScs_VL σ hl⟩
    · cases h
  · split at h
    · rename_i l hl; injection h with h; subst h; simp only [V]; exact ⟨_, by simp, ofScs_VL σ hl⟩
    · cases h
  · exact ofSc_V σ h
theorem VL.drop {φ : Phi} : ∀ (n : Nat) {xs : List AV} {vs : List Value}, VL σ φ xs vs → VL σ φ (xs.drop n) (vs.drop n)
  | 0, _, _, h => by simpa using h
  | n + 1, [], vs, h => by simp only [VL] at h; subst h; simp [VL]
  | n + 1, x :: xs, vs, h => by
    simp only [VL] at h
    obtain ⟨v, l, rfl, _, h2⟩ := h
    simpa using VL.drop n h2
theorem VL.take {φ : Phi} : ∀ (n : Nat) {xs : List AV} {vs : List Value}, VL σ φ xs vs → VL σ φ (xs.take n) (vs.take n)
  | 0, _, _, h => by simp [VL]
  | n + 1, [], vs, h => by simp only [VL] at h; subst h; simp [VL]
  | n + 1, x :: xs, vs, h => by
    simp only [VL] at h
    obtain ⟨v, l, rfl, h1, h2⟩ := h
    simp only [List.take_succ_cons, VL]
    exact ⟨v, _, rfl, h1, VL.take n h2⟩

/-- A part of a struct, of an array. -/
def partA (P : Program) (t : TypeId) (cs : List AV) (off : Nat) : Option AV :=
  match aggT P t with
  | some true => (match szOf P t with
    | some n => some (.agg ((cs.drop off).take n))
    | none => none)
  | some false => cs[off]?
  | none => none
theorem partA_run {P : Program} {φ : Phi} {t : TypeId} {cs : List AV} {vs : List Value} {off : Nat} {x : AV} (hv : VL σ φ cs vs) (h : partA P t cs off = some x) (w : World) :
    ∃ u, (part t vs.toArray off).run P w = .ok u w ∧ V σ φ x u := by
  unfold partA at h
  split at h
  · rename_i ha
    split at h
    · rename_i n hn
      injection h with h; subst h
      refine ⟨.agg ((vs.drop off).take n).toArray, ?_, ?_⟩
      · simp [part, run_aggT P ha, run_szOf P hn, List.take_drop]
      · simp only [V]; exact ⟨_, rfl, VL.take σ n (VL.drop σ off hv)⟩
    · cases h
  · rename_i ha
    obtain ⟨v, h1, h2⟩ := VL.at σ hv off x h
    exact ⟨v, by simp [part, run_aggT P ha, h1], h2⟩
  · cases h

/-- The variables that are known: their blocks bear their own numbers. -/
def Glob (GS : Nat → Option Nat) (φ : Phi) : Prop := ∀ g n, GS g = some n → φ g = some (g, n)
theorem Glob.mono {GS : Nat → Option Nat} {φ ψ : Phi} (h : Glob GS φ) (hle : φ.le ψ) : Glob GS ψ := fun g n hg => hle _ _ (h g n hg)
def opd (GS : Nat → Option Nat) (T : Tr AV) : Operand → Option AV
  | .tmp t => T.get t
  | .const v => ofVal v
  | .global g => (match GS g with | some _ => some (.ptr g 0) | none => none)
  | .func f => some (.fn f [] [])
/-- The slots. -/
def TR (φ : Phi) (T : Tr AV) (a : Act) : Prop := ∀ t x, T.get t = some x → V σ φ x (a.tmps.getD t undef)
theorem TR.mono {φ ψ : Phi} (h : φ.le ψ) {T : Tr AV} {a : Act} (ht : TR σ φ T a) : TR σ ψ T a := fun t x hx => V.mono σ h _ _ (ht t x hx)
theorem opd_V {GS : Nat → Option Nat} {φ : Phi} {T : Tr AV} {a : Act} (ht : TR σ φ T a) (hg : Glob GS φ) {x : Operand} {v : AV} (h : opd GS T x = some v) : V σ φ v (a.eval x) := by
  cases x with
  | tmp t => exact ht t v h
  | const c => exact ofVal_V σ h
  | global g =>
    simp only [opd] at h
    split at h
    · rename_i n hn
      injection h with h; subst h
      simp only [V]; exact ⟨g, n, hg g n hn, rfl⟩
    · cases h
  | func f =>
    simp only [opd] at h
    injection h with h; subst h
    simp only [V]; exact ⟨[], [], rfl, by simp only [VL], by simp only [VL]⟩
def opds (GS : Nat → Option Nat) (T : Tr AV) : List Operand → Option (List AV)
  | [] => some []
  | x :: l => match opd GS T x with
    | some v => (match opds GS T l with | some vs => some (v :: vs) | none => none)
    | none => none
theorem opds_VL {GS : Nat → Option Nat} {φ : Phi} {T : Tr AV} {a : Act} (ht : TR σ φ T a) (hg : Glob GS φ) : ∀ {l : List Operand} {vs : List AV}, opds GS T l = some vs → VL σ φ vs (l.map a.eval)
  | [], vs, h => by simp only [opds, Option.some.injEq] at h; subst h; simp only [VL]; rfl
  | x :: l, vs, h => by
    simp only [opds] at h
    split at h
    · rename_i v hv
      split at h
      · rename_i us hu
        injection h with h; subst h
        simp only [VL]
        exact ⟨_, _, rfl, opd_V σ ht hg hv, opds_VL ht hg hu⟩
      · cases h
    · cases h
end
end Go.Proofs.YtedokmdoompidaaGreatDoor.Ev
