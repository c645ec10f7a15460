/- The evaluator's reading operations: addresses, parts, slices, lengths. -/
import Derived.Test.YtedokmdoompidaaGreatDoorEvG
namespace Go.Proofs.YtedokmdoompidaaGreatDoor.Ev

def loadA (P : Program) (S : St) (t : TypeId) : AV → Option AV
  | .ptr b o => match aggT P t with
    | some true => (match szOf P t with
      | some n => (match loadC S b o n with | some l => some (.agg l) | none => none)
      | none => none)
    | some false => (match loadC S b o 1 with | some [x] => some x | _ => none)
    | none => none
  | _ => none
def fieldA (P : Program) (t : TypeId) (x : AV) (f : Nat) : Option AV :=
  match P.underlying t, x with
  | some (.struct fs), .agg cs => (match fs[f]? with
    | some fd => partA P fd.type cs fd.offset
    | none => none)
  | _, _ => none
def fieldAddrA (P : Program) (t : TypeId) (x : AV) (f : Nat) : Option AV :=
  match P.underlying t, x with
  | some (.struct fs), .ptr b o => (match fs[f]? with
    | some fd => (match szOf P fd.type with
      | some (_ + 1) => some (.ptr b (o + fd.offset))
      | _ => none)
    | none => none)
  | _, _ => none
/-- An index below a length. -/
def natBelow (i : Int) (n : Nat) : Option Nat := match i with
  | .ofNat k => bif Nat.blt k n then some k else none
  | _ => none
def natUpto (i : Int) (n : Nat) : Option Nat := match i with
  | .ofNat k => bif Nat.ble k n then some k else none
  | _ => none
def indexAddrA (P : Program) (t : TypeId) (x i : AV) : Option AV :=
  match i with
  | .int _ i => (match P.underlying t, x with
    | some (.array n e), .ptr b o => (match natBelow i n, szOf P e with
      | some k, some s => some (.ptr b (o + k * s))
      | _, _ => none)
    | some (.slice e), .sl b o n _ => (match natBelow i n, szOf P e with
      | some k, some s => some (.ptr b (o + k * s))
      | _, _ => none)
    | some (.slice e), .slu b o n _ => (match natBelow i n, szOf P e with
      | some k, some s => some (.ptr b (o + k * s))
      | _, _ => none)
    | _, _ => none)
  | _ => none
def indexA (P : Program) (t : TypeId) (x i : AV) : Option AV :=
  match i with
  | .int _ i => (match P.underlying t, x with
    | some (.array n e), .agg cs => (match natBelow i n, szOf P e with
      | some k, some s => partA P e cs (k * s)
      | _, _ => none)
    | some .string, .str s => (match natBelow i s.length with
      | some k => (match s[k]? with | some c => some (.int .u8 c) | none => none)
      | none => none)
    | _, _ => none)
  | _ => none
def extractA (x : AV) (i : Nat) : Option AV := match x with
  | .tup vs => vs[i]?
  | _ => none
def boundA (x : AV) (n : Nat) : Option Nat := match x with
  | .int _ i => natUpto i n
  | _ => none
/-- low, high, max of a slice of a length and a capacity. -/
def boundsA (len cap : Nat) (lo hi mx : Option AV) : Option (Nat × Nat × Nat) :=
  match (match mx with | some v => boundA v cap | none => some cap) with
  | some m => (match (match hi, mx with | some v, _ => boundA v m | none, none => some len | none, some _ => none) with
    | some h => (match (match lo with | some v => boundA v h | none => some 0) with
      | some l => some (l, h, m)
      | none => none)
    | none => none)
  | none => none
def sliceA (P : Program) (t : TypeId) (x : AV) (lo hi mx : Option AV) : Option AV :=
  match P.underlying t, x with
  | some .string, .str s => (match mx with
    | some _ => none
    | none => (match boundsA s.length s.length lo hi none with
      | some (l, h, _) => some (.str ((s.drop l).take (h - l)))
      | none => none))
  | some (.slice e), .nils => (match boundsA 0 0 lo hi mx, szOf P e with
    | some (_, _, _), some _ => some .nils
    | _, _ => none)
  | some (.slice e), .sl b o len cap => (match boundsA len cap lo hi mx, szOf P e with
    | some (l, h, m), some s => some (.sl b (if m = l then o else o + l * s) (h - l) (m - l))
    | _, _ => none)
  | some (.slice e), .slu b o len z => (match szOf P e with
    | some s => if s = z then (match mx with
      | some _ => (match boundsA len len lo hi mx with
        | some (l, h, m) => some (.sl b (if m = l then o else o + l * s) (h - l) (m - l))
        | none => none)
      | none => (match boundsA len len lo hi none with
        | some (l, h, _) => if l = len then some .emp else some (.slu b (o + l * s) (h - l) z)
        | none => none)) else none
    | none => none)
  | some (.slice e), .emp => (match mx with
    | some x => (match boundsA 0 0 lo hi (some x), szOf P e with
      | some (_, _, _), some _ => some .emp
      | _, _ => none)
    | none => (match boundsA 0 0 lo hi none, szOf P e with
      | some (_, _, _), some _ => some .emp
      | _, _ => none))
  | some (.array n e), .ptr b o => (match boundsA n n lo hi mx, szOf P e with
    | some (l, h, m), some s => some (.sl b (if m = l then o else o + l * s) (h - l) (m - l))
    | _, _ => none)
  | _, _ => none

section
variable (σ : Nat → Value)
theorem addr_add (r o n : Nat) : (⟨r, o, none⟩ : Addr).add n = ⟨r, o + n, none⟩ := by unfold Addr.add; split <;> simp_all
theorem natBelow_spec {i : Int} {n k : Nat} (h : natBelow i n = some k) : i = (k : Int) ∧ k < n := by
  unfold natBelow at h
  split at h
  · rename_i j
    cases hb : Nat.blt j n with
    | false => simp [hb] at h
    | true =>
      simp only [hb, cond_true, Option.some.injEq] at h
      subst h
      exact ⟨rfl, Nat.le_of_ble_eq_true hb⟩
  · cases h
theorem natUpto_spec {i : Int} {n k : Nat} (h : natUpto i n = some k) : i = (k : Int) ∧ k ≤ n := by
  unfold natUpto at h
  split at h
  · rename_i j
    cases hb : Nat.ble j n with
    | false => simp [hb] at h
    | true =>
      simp only [hb, cond_true, Option.some.injEq] at h
      subst h
      exact ⟨rfl, Nat.le_of_ble_eq_true hb⟩
  · cases h
theorem loadA_run {P : Program} {φ : Phi} {S : St} {w : World} (hW : W σ φ S w) {t : TypeId} {x y : AV} {v : Value} (hv : V σ φ x v) (h : loadA P S t x = some y) : ∃ u, (Instr.loadAt t v).run P w = .ok u w ∧ V σ φ y u := by
  cases x <;> simp only [loadA] at h <;> try cases h
  simp only [V] at hv
  obtain ⟨r, m, h1, rfl⟩ := hv
  split at h
  · rename_i ha
    split at h
    · rename_i n hn
      split at h
      · rename_i l hl
        injection h with h; subst h
        obtain ⟨vs, g1, g2, g3⟩ := loadC_run σ (P := P) hW h1 hl
        exact ⟨.agg vs.toArray, by simp [Instr.loadAt, Instr.sureAddr, loadVar, run_aggT P ha, run_szOf P hn, g3], by simp only [V]; exact ⟨vs, rfl, g1⟩⟩
      · cases h
    · cases h
  · rename_i ha
    split at h
    · rename_i x hl
      injection h with h; subst h
      obtain ⟨vs, g1, g2, g3⟩ := loadC_spec σ hW h1 hl
      simp only [VL] at g1
      obtain ⟨u, _, rfl, k1, rfl⟩ := g1
      refine ⟨u, ?_, k1⟩
      have hc := g3 0 u (by simp)
      simp only [Nat.add_zero] at hc
      simp [Instr.loadAt, Instr.sureAddr, loadVar, run_aggT P ha, hc]
    · cases h
  · cases h
theorem fieldA_run {P : Program} {φ : Phi} {w : World} {t : TypeId} {x y : AV} {f : Nat} {v : Value} (hv : V σ φ x v) (h : fieldA P t x f = some y) : ∃ u, (Instr.field t v f).run P w = .ok u w ∧ V σ φ y u := by
  unfold fieldA at h
  split at h
  · rename_i fs cs hu
    simp only [V] at hv
    obtain ⟨vs, rfl, hvs⟩ := hv
    split at h
    · rename_i fd hf
      obtain ⟨u, g1, g2⟩ := partA_run σ hvs h w
      exact ⟨u, by simp [Instr.field, run_underlying hu, hf, asAgg, g1], g2⟩
    · cases h
  · cases h
theorem fieldAddrA_run {P : Program} {φ : Phi} {w : World} {t : TypeId} {x y : AV} {f : Nat} {v : Value} (hv : V σ φ x v) (h : fieldAddrA P t x f = some y) : ∃ u, (Instr.fieldAt t v f).run P w = .ok u w ∧ V σ φ y u := by
  unfold fieldAddrA at h
  split at h
  · rename_i fs b o hu
    simp only [V] at hv
    obtain ⟨r, m, h1, rfl⟩ := hv
    split at h
    · rename_i fd hf
      split at h
      · rename_i n hs
        injection h with h; subst h
        exact ⟨.pointer (some ⟨r, o + fd.offset, none⟩), by simp [Instr.fieldAt, run_underlying hu, hf, Instr.sureAddr, fieldPlace, run_szOf P hs, addr_add], by simp only [V]; exact ⟨r, m, h1, rfl⟩⟩
      · cases h
    · cases h
  · cases h
theorem indexAddrA_run {P : Program} {φ : Phi} {w : World} {t : TypeId} {x i y : AV} {v j : Value} (hv : V σ φ x v) (hj : V σ φ i j) (h : indexAddrA P t x i = some y) : ∃ u, (Instr.indexAt t v j).run P w = .ok u w ∧ V σ φ y u := by
  unfold indexAddrA at h
  split at h
  · rename_i kd i
    simp only [V] at hj; subst hj
    split at h
    · rename_i n e b o hu
      simp only [V] at hv
      obtain ⟨r, m, h1, rfl⟩ := hv
      split at h
      · rename_i k s hk hs
        injection h with h; subst h
        obtain ⟨rfl, hlt⟩ := natBelow_spec hk
        refine ⟨.pointer (some ⟨r, o + k * s, none⟩), ?_, by simp only [V]; exact ⟨r, m, h1, rfl⟩⟩
        simp [Instr.indexAt, asIntOf, run_underlying hu, Instr.sureAddr, run_szOf P hs, addr_add, hlt]
      · cases h
    · rename_i e b o n c hu
      simp only [V] at hv
      obtain ⟨r, m, h1, rfl⟩ := hv
      split at h
      · rename_i k s hk hs
        injection h with h; subst h
        obtain ⟨rfl, hlt⟩ := natBelow_spec hk
        refine ⟨.pointer (some ⟨r, o + k * s, none⟩), ?_, by simp only [V]; exact ⟨r, m, h1, rfl⟩⟩
        simp [Instr.indexAt, asIntOf, run_underlying hu, run_szOf P hs, addr_add, hlt]
      · cases h
    · rename_i e b o n c hu
      simp only [V] at hv
      obtain ⟨r, m, c', h1, rfl, _⟩ := hv
      split at h
      · rename_i k s hk hs
        injection h with h; subst h
        obtain ⟨rfl, hlt⟩ := natBelow_spec hk
        refine ⟨.pointer (some ⟨r, o + k * s, none⟩), ?_, by simp only [V]; exact ⟨r, m, h1, rfl⟩⟩
        simp [Instr.indexAt, asIntOf, run_underlying hu, run_szOf P hs, addr_add, hlt]
      · cases h
    · cases h
  · cases h
theorem indexA_run {P : Program} {φ : Phi} {w : World} {t : TypeId} {x i y : AV} {v j : Value} (hv : V σ φ x v) (hj : V σ φ i j) (h : indexA P t x i = some y) : ∃ u, (Instr.index t v j).run P w = .ok u w ∧ V σ φ y u := by
  unfold indexA at h
  split at h
  · rename_i kd i
    simp only [V] at hj; subst hj
    split at h
    · rename_i n e cs hu
      simp only [V] at hv
      obtain ⟨vs, rfl, hvs⟩ := hv
      split at h
      · rename_i k s hk hs
        obtain ⟨rfl, hlt⟩ := natBelow_spec hk
        obtain ⟨u, g1, g2⟩ := partA_run σ hvs h w
        exact ⟨u, by simp [Instr.index, asIntOf, run_underlying hu, run_szOf P hs, hlt, g1], g2⟩
      · cases h
    · rename_i s hu
      simp only [V] at hv
      obtain ⟨bs, rfl, hbs⟩ := hv
      split at h
      · rename_i k hk
        obtain ⟨rfl, hlt⟩ := natBelow_spec hk
        split at h
        · rename_i c hc
          injection h with h; subst h
          subst hbs
          have hlt' : k < bs.size := by simpa using hlt
          have hb : bs[k]? = some bs[k] := by simp [hlt']
          refine ⟨.int .u8 (bs[k]).toNat, ?_, ?_⟩
          · simp [Instr.index, asIntOf, run_underlying hu, hlt']
          · simp only [V]
            simp only [List.getElem?_map, Array.getElem?_toList, Option.map_eq_some_iff] at hc
            obtain ⟨c', g1, g2⟩ := hc
            have : c' = bs[k] := by
              have h3 : bs.data[k]? = some bs[k] := by
                rw [Array.getElem?_eq_getElem (by simpa using hlt')]; rfl
              rw [h3] at g1; injection g1 with g1; exact g1.symm
            rw [← this, ← g2]
        · cases h
      · cases h
    · cases h
  · cases h
theorem extractA_run {P : Program} {φ : Phi} {w : World} {x y : AV} {i : Nat} {v : Value} (hv : V σ φ x v) (h : extractA x i = some y) : ∃ u, (Instr.extract v i).run P w = .ok u w ∧ V σ φ y u := by
  unfold extractA at h
  split at h
  · rename_i vs
    simp only [V] at hv
    obtain ⟨us, rfl, hus⟩ := hv
    obtain ⟨u, g1, g2⟩ := VL.at σ hus i y h
    exact ⟨u, by simp [Instr.extract, g1], g2⟩
  · cases h

/-- An optional operand. -/
def VO (φ : Phi) : Option AV → Option Value → Prop
  | none, v => v = none
  | some x, v => ∃ u, v = some u ∧ V σ φ x u
theorem boundA_run {P : Program} {φ : Phi} {w : World} {x : AV} {v : Value} {n k : Nat} (hv : V σ φ x v) (h : boundA x n = some k) (c : BoundsCode) (n' : Nat) (hn : n ≤ n') : (Instr.sliceBound v n' c).run P w = .ok k w ∧ k ≤ n := by
  unfold boundA at h
  split at h
  · simp only [V] at hv; subst hv
    obtain ⟨rfl, hle⟩ := natUpto_spec h
    refine ⟨?_, hle⟩
    simp [Instr.sliceBound, asIntOf, Nat.le_trans hle hn]
  · cases h
theorem boundsA_run {P : Program} {φ : Phi} {w : World} {len cap : Nat} {lo hi mx : Option AV} {lo' hi' mx' : Option Value} (h1 : VO σ φ lo lo') (h2 : VO σ φ hi hi') (h3 : VO σ φ mx mx') {l h m : Nat} (hb : boundsA len cap lo hi mx = some (l, h, m)) (sl : Bool) (c' : Nat) (hc : cap ≤ c') :
    (Instr.sliceBounds sl len c' lo' hi' mx').run P w = .ok (l, h, if mx.isSome then m else c') w ∧ l ≤ h ∧ (hi.isSome = true → h ≤ m) ∧ m ≤ cap ∧ (mx = none → m = cap) ∧ (hi = none → h = len) := by
  unfold boundsA at hb
  split at hb
  · rename_i m0 hm
    split at hb
    · rename_i h0 hh
      split at hb
      · rename_i l0 hl
        simp only [Option.some.injEq, Prod.mk.injEq] at hb
        obtain ⟨rfl, rfl, rfl⟩ := hb
        cases mx with
        | none =>
          simp only [VO] at h3; subst h3
          simp only [Option.some.injEq] at hm; subst hm
          cases hi with
          | none =>
            simp only [VO] at h2; subst h2
            simp only [Option.some.injEq] at hh; subst hh
            cases lo with
            | none =>
              simp only [VO] at h1; subst h1
              simp only [Option.some.injEq] at hl; subst hl
              simp [Instr.sliceBounds]
            | some a =>
              obtain ⟨u, rfl, hu⟩ := h1
              obtain ⟨g1, g2⟩ := boundA_run σ (P := P) (w := w) hu hl .sliceB _ (Nat.le_refl _)
              simp [Instr.sliceBounds, g1, g2]
          | some b =>
            obtain ⟨u2, rfl, hu2⟩ := h2
            cases sl with
            | true =>
              obtain ⟨k1, k2⟩ := boundA_run σ (P := P) (w := w) hu2 hh .sliceAcap c' hc
              cases lo with
              | none =>
                simp only [VO] at h1; subst h1
                simp only [Option.some.injEq] at hl; subst hl
                simp [Instr.sliceBounds, k1, k2]
              | some a =>
                obtain ⟨u, rfl, hu⟩ := h1
                obtain ⟨g1, g2⟩ := boundA_run σ (P := P) (w := w) hu hl .sliceB _ (Nat.le_refl _)
                simp [Instr.sliceBounds, k1, k2, g1, g2]
            | false =>
              obtain ⟨k1, k2⟩ := boundA_run σ (P := P) (w := w) hu2 hh .sliceAlen c' hc
              cases lo with
              | none =>
                simp only [VO] at h1; subst h1
                simp only [Option.some.injEq] at hl; subst hl
                simp [Instr.sliceBounds, k1, k2]
              | some a =>
                obtain ⟨u, rfl, hu⟩ := h1
                obtain ⟨g1, g2⟩ := boundA_run σ (P := P) (w := w) hu hl .sliceB _ (Nat.le_refl _)
                simp [Instr.sliceBounds, k1, k2, g1, g2]
        | some c =>
          obtain ⟨u3, rfl, hu3⟩ := h3
          cases hi with
          | none => cases hh
          | some b =>
            obtain ⟨u2, rfl, hu2⟩ := h2
            cases sl with
            | true =>
              obtain ⟨n1, n2⟩ := boundA_run σ (P := P) (w := w) hu3 hm .slice3Acap c' hc
              obtain ⟨k1, k2⟩ := boundA_run σ (P := P) (w := w) hu2 hh .slice3B _ (Nat.le_refl _)
              cases lo with
              | none =>
                simp only [VO] at h1; subst h1
                simp only [Option.some.injEq] at hl; subst hl
                simp [Instr.sliceBounds, k1, k2, n1, n2]
              | some a =>
                obtain ⟨u, rfl, hu⟩ := h1
                obtain ⟨g1, g2⟩ := boundA_run σ (P := P) (w := w) hu hl .slice3C _ (Nat.le_refl _)
                simp [Instr.sliceBounds, k1, k2, g1, g2, n1, n2]
            | false =>
              obtain ⟨n1, n2⟩ := boundA_run σ (P := P) (w := w) hu3 hm .slice3Alen c' hc
              obtain ⟨k1, k2⟩ := boundA_run σ (P := P) (w := w) hu2 hh .slice3B _ (Nat.le_refl _)
              cases lo with
              | none =>
                simp only [VO] at h1; subst h1
                simp only [Option.some.injEq] at hl; subst hl
                simp [Instr.sliceBounds, k1, k2, n1, n2]
              | some a =>
                obtain ⟨u, rfl, hu⟩ := h1
                obtain ⟨g1, g2⟩ := boundA_run σ (P := P) (w := w) hu hl .slice3C _ (Nat.le_refl _)
                simp [Instr.sliceBounds, k1, k2, g1, g2, n1, n2]
      · cases hb
    · cases hb
  · cases hb
end
end Go.Proofs.YtedokmdoompidaaGreatDoor.Ev
