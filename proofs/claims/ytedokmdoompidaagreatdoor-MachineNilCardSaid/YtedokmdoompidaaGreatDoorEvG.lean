/- The evaluator's reading operations. -/
import Derived.Test.YtedokmdoompidaaGreatDoorEvF
namespace Go.Proofs.YtedokmdoompidaaGreatDoor.Ev

def zeroA (P : Program) (t : TypeId) : Option AV := match P.info? t with
  | some i => (match i.zero with | some z => ofVal z | none => none)
  | none => none
/-- Some cells are put over others. -/
def over : List AV → List AV → List AV
  | cs, [] => cs
  | [], _ :: _ => []
  | _ :: cs, x :: xs => x :: over cs xs
def putL : List AV → Nat → List AV → List AV
  | cs, 0, xs => over cs xs
  | [], _ + 1, _ => []
  | c :: cs, n + 1, xs => c :: putL cs n xs
def fillA (place : Nat → Option (Nat × Nat)) (cells : List AV) : List (Nat × AV) → Option (List AV)
  | [] => some cells
  | (i, x) :: rest => match place i with
    | none => none
    | some (off, size) => bif Nat.beq x.cells.length size && Nat.ble (off + size) cells.length && allScalar x.cells then fillA place (putL cells off x.cells) rest else none
def parts (GS : Nat → Option Nat) (T : Tr AV) : List (Nat × Operand) → Option (List (Nat × AV))
  | [] => some []
  | (i, x) :: l => match opd GS T x with
    | some v => (match parts GS T l with | some r => some ((i, v) :: r) | none => none)
    | none => none
def places (P : Program) : List Field → Option (List (Nat × Nat))
  | [] => some []
  | f :: fs => match szOf P f.type with
    | some n => (match places P fs with | some l => some ((f.offset, n) :: l) | none => none)
    | none => none
def buildA (P : Program) (t : TypeId) (ps : List (Nat × AV)) : Option AV :=
  match zeroA P t with
  | some z => (match P.underlying t with
    | some (.struct fs) => (match places P fs.toList with
      | some pl => (match fillA (fun i => pl[i]?) z.cells ps with | some cs => some (.agg cs) | none => none)
      | none => none)
    | some (.array _ e) => (match szOf P e with
      | some n => (match fillA (fun i => some (i * n, n)) z.cells ps with | some cs => some (.agg cs) | none => none)
      | none => none)
    | _ => none)
  | none => none

section
variable (σ : Nat → Value)
theorem zeroA_run {P : Program} {t : TypeId} {z : AV} (h : zeroA P t = some z) (w : World) {φ : Phi} : ∃ v, (zeroValue t).run P w = .ok v w ∧ V σ φ z v := by
  unfold zeroA at h
  split at h
  · rename_i i hi
    split at h
    · rename_i z' hz
      exact ⟨z', by simp [zeroValue, typeInfo, hi, hz], ofVal_V σ h⟩
    · cases h
  · cases h
theorem over_len : ∀ (cs xs : List AV), (over cs xs).length = cs.length
  | cs, [] => by cases cs <;> rfl
  | [], _ :: _ => rfl
  | _ :: cs, x :: xs => by simp [over, over_len cs xs]
theorem over_get : ∀ (cs xs : List AV) (j : Nat), xs.length ≤ cs.length → (over cs xs)[j]? = if j < xs.length then xs[j]? else cs[j]?
  | cs, [], j, _ => by cases cs <;> simp [over]
  | [], _ :: _, _, h => by simp at h
  | c :: cs, x :: xs, 0, _ => by simp [over]
  | c :: cs, x :: xs, j + 1, h => by
    simp only [over, List.getElem?_cons_succ, List.length_cons, Nat.add_lt_add_iff_right]
    exact over_get cs xs j (by simpa using h)
theorem putL_len : ∀ (cs : List AV) (n : Nat) (xs : List AV), (putL cs n xs).length = cs.length
  | cs, 0, xs => by cases cs <;> simp [putL, over_len]
  | [], _ + 1, _ => rfl
  | c :: cs, n + 1, xs => by simp [putL, putL_len cs n xs]
theorem putL_get : ∀ (cs : List AV) (n : Nat) (xs : List AV) (j : Nat), n + xs.length ≤ cs.length → (putL cs n xs)[j]? = if n ≤ j ∧ j < n + xs.length then xs[j - n]? else cs[j]?
  | cs, 0, xs, j, h => by
    have : putL cs 0 xs = over cs xs := by cases cs <;> rfl
    rw [this, over_get cs xs j (by omega)]
    simp
  | [], n + 1, xs, j, h => by simp at h
  | c :: cs, n + 1, xs, 0, h => by simp [putL]
  | c :: cs, n + 1, xs, j + 1, h => by
    simp only [putL, List.getElem?_cons_succ]
    rw [putL_get cs n xs j (by simp at h; omega)]
    by_cases hc : n ≤ j ∧ j < n + xs.length
    · rw [if_pos hc, if_pos (by omega), Nat.add_sub_add_right]
    · rw [if_neg hc, if_neg (by omega)]
theorem foldl_set (off : Nat) : ∀ (l : List Value) (k : Nat) (arr : Array Value), off + k + l.length ≤ arr.size →
    ((l.zipIdx k).foldl (fun cs (x : Value × Nat) => cs.setIfInBounds (off + x.2) x.1) arr).size = arr.size ∧
    ∀ j, ((l.zipIdx k).foldl (fun cs (x : Value × Nat) => cs.setIfInBounds (off + x.2) x.1) arr)[j]? = if off + k ≤ j ∧ j < off + k + l.length then l[j - (off + k)]? else arr[j]?
  | [], k, arr, _ => ⟨rfl, fun j => by rw [if_neg]; rfl; simp only [List.length_nil]; omega⟩
  | v :: l, k, arr, h => by
    simp only [List.length_cons] at h
    obtain ⟨h1, h2⟩ := foldl_set off l (k + 1) (arr.setIfInBounds (off + k) v) (by simp; omega)
    simp only [List.zipIdx_cons, List.foldl_cons]
    refine ⟨by rw [h1]; simp, fun j => ?_⟩
    rw [h2 j]
    simp only [List.length_cons]
    by_cases he : j = off + k
    · subst he
      rw [if_neg (by omega), if_pos (by omega), Array.getElem?_setIfInBounds_self_of_lt (by omega)]
      simp
    · rw [Array.getElem?_setIfInBounds_ne (Ne.symm he)]
      by_cases hc : off + k ≤ j ∧ j < off + k + (l.length + 1)
      · rw [if_pos (by omega), if_pos hc, show j - (off + k) = (j - (off + (k + 1))) + 1 by omega]
        simp
      · rw [if_neg (by omega), if_neg hc]
def PL (φ : Phi) : List (Nat × AV) → List (Nat × Value) → Prop
  | [], l => l = []
  | (i, x) :: ps, l => ∃ v r, l = (i, v) :: r ∧ V σ φ x v ∧ PL φ ps r
theorem parts_PL {GS : Nat → Option Nat} {φ : Phi} {T : Tr AV} {a : Act} (ht : TR σ φ T a) (hg : Glob GS φ) : ∀ {l : List (Nat × Operand)} {ps : List (Nat × AV)}, parts GS T l = some ps → PL σ φ ps (l.map fun (i, x) => (i, a.eval x))
  | [], ps, h => by simp only [parts, Option.some.injEq] at h; subst h; rfl
  | (i, x) :: l, ps, h => by
    simp only [parts] at h
    split at h
    · rename_i v hv
      split at h
      · rename_i r hr
        injection h with h; subst h
        exact ⟨_, _, rfl, opd_V σ ht hg hv, parts_PL ht hg hr⟩
      · cases h
    · cases h
theorem fillA_run (hσ : Small σ) {φ : Phi} (place : Nat → Option (Nat × Nat)) : ∀ (ps : List (Nat × AV)) (vs : List (Nat × Value)) (cs out : List AV) (arr : Array Value), PL σ φ ps vs → VL σ φ cs arr.toList → fillA place cs ps = some out →
    ∃ arr', Instr.fill place arr vs = some arr' ∧ VL σ φ out arr'.toList
  | [], vs, cs, out, arr, hp, hc, h => by
    simp only [PL] at hp; subst hp
    simp only [fillA, Option.some.injEq] at h; subst h
    exact ⟨arr, rfl, hc⟩
  | (i, x) :: ps, vs, cs, out, arr, hp, hc, h => by
    obtain ⟨v, r, rfl, hv, hr⟩ := hp
    simp only [fillA] at h
    cases hpl : place i with
    | none => simp [hpl] at h
    | some os =>
      obtain ⟨off, size⟩ := os
      simp only [hpl] at h
      cases hb : (Nat.beq x.cells.length size && Nat.ble (off + size) cs.length && allScalar x.cells) with
      | false => simp [hb] at h
      | true =>
        simp only [hb, cond_true] at h
        simp only [Bool.and_eq_true] at hb
        obtain ⟨⟨h1, h2⟩, h3⟩ := hb
        have h1 := Nat.eq_of_beq_eq_true h1
        have h2 := Nat.le_of_ble_eq_true h2
        have hcell := V.cells σ hσ hv h3
        have hvl : v.cells.size = size := by rw [← h1, ← VL.len σ hcell, Array.length_toList]
        have hcl : arr.size = cs.length := by rw [← VL.len σ hc, Array.length_toList]
        obtain ⟨g1, g2⟩ := foldl_set off v.cells.toList 0 arr (by rw [Array.length_toList, hvl, hcl]; omega)
        have hnew : VL σ φ (putL cs off x.cells) ((v.cells.zipIdx.foldl (fun cs (x : Value × Nat) => cs.setIfInBounds (off + x.2) x.1) arr)).toList := by
          rw [← Array.foldl_toList, Array.toList_zipIdx]
          refine VL.of σ ?_ (fun j y hy => ?_)
          · rw [Array.length_toList, g1, putL_len, hcl]
          · rw [putL_get cs off x.cells j (by omega)] at hy
            rw [Array.getElem?_toList, g2 j]
            simp only [Nat.add_zero, Array.length_toList, hvl]
            rw [h1] at hy
            split at hy
            · rename_i hcc
              rw [if_pos hcc]
              obtain ⟨u, k1, k2⟩ := VL.at σ hcell (j - off) y hy
              exact ⟨u, k1, k2⟩
            · rename_i hcc
              rw [if_neg hcc]
              obtain ⟨u, k1, k2⟩ := VL.at σ hc j y hy
              exact ⟨u, by rw [← Array.getElem?_toList]; exact k1, k2⟩
        obtain ⟨arr', k1, k2⟩ := fillA_run hσ place ps r _ out _ hr hnew h
        refine ⟨arr', ?_, k2⟩
        have hno : (v.cells.size ≠ size || off + v.cells.size > arr.size) = false := by
          simp [hvl, hcl]; omega
        simp only [Instr.fill, hpl]
        have hno' : ¬ ((decide (v.cells.size ≠ size) || decide (off + v.cells.size > arr.size)) = true) := by
          simp [hvl, hcl]; omega
        rw [if_neg hno']
        exact k1
theorem places_run {P : Program} : ∀ (fs : List Field) (pl : List (Nat × Nat)), places P fs = some pl → ∀ w, ((fs.mapM fun f => do pure (f.offset, ← sizeOf f.type) : Sem (List (Nat × Nat)))).run P w = .ok pl w
  | [], pl, h, w => by simp only [places, Option.some.injEq] at h; subst h; rfl
  | f :: fs, pl, h, w => by
    simp only [places] at h
    split at h
    · rename_i n hn
      split at h
      · rename_i l hl
        injection h with h; subst h
        simp only [List.mapM_cons, Sem.run_bind, run_szOf P hn, Result.andThen_ok, Sem.run_pure, places_run fs l hl w]
      · cases h
    · cases h
theorem buildA_run {P : Program} (hσ : Small σ) {t : TypeId} {ps : List (Nat × AV)} {vs : Array (Nat × Value)} {x : AV} {φ : Phi} (hp : PL σ φ ps vs.toList) (h : buildA P t ps = some x) (w : World) :
    ∃ u, (Instr.build t vs).run P w = .ok u w ∧ V σ φ x u := by
  unfold buildA at h
  split at h
  · rename_i z hz
    obtain ⟨zv, hz1, hz2⟩ := zeroA_run σ hz w (φ := φ)
    have hzc : ∀ {place cs}, fillA place z.cells ps = some cs → VL σ φ z.cells zv.cells.toList := fun _ => by
      cases z with
      | agg l => simp only [V] at hz2; obtain ⟨l', rfl, h2⟩ := hz2; simpa [AV.cells, Value.cells] using h2
      | tup l => simp only [V] at hz2; obtain ⟨l', rfl, h2⟩ := hz2; simp only [AV.cells, Value.cells, VL]; exact ⟨_, _, rfl, by simp only [V]; exact ⟨l', rfl, h2⟩, rfl⟩
      | _ => exact V.cells σ hσ hz2 rfl
    split at h
    · rename_i fs hu
      split at h
      · rename_i pl hpl
        split at h
        · rename_i cs hf
          injection h with h; subst h
          obtain ⟨arr, g1, g2⟩ := fillA_run σ hσ (fun i => pl[i]?) ps vs.toList z.cells cs zv.cells hp (hzc hf) hf
          refine ⟨.agg arr, ?_, by simp only [V]; exact ⟨arr.toList, by simp, g2⟩⟩
          have hm : ((fs.mapM fun f => do pure (f.offset, ← sizeOf f.type) : Sem (Array (Nat × Nat)))).run P w = .ok pl.toArray w := by
            rw [Array.mapM_eq_mapM_toList]
            simp only [Sem.run_map, places_run fs.toList pl hpl w, Result.andThen_ok]
          simp only [Instr.build, Sem.run_bind, hz1, run_underlying hu, Result.andThen_ok, hm]
          have : (fun i : Nat => pl.toArray[i]?) = (fun i : Nat => pl[i]?) := by funext i; simp
          simp only [this, g1, Sem.run_pure]
        · cases h
      · cases h
    · rename_i n e hu
      split at h
      · rename_i k hk
        split at h
        · rename_i cs hf
          injection h with h; subst h
          obtain ⟨arr, g1, g2⟩ := fillA_run σ hσ (fun i => some (i * k, k)) ps vs.toList z.cells cs zv.cells hp (hzc hf) hf
          refine ⟨.agg arr, ?_, by simp only [V]; exact ⟨arr.toList, by simp, g2⟩⟩
          simp only [Instr.build, Sem.run_bind, hz1, run_underlying hu, run_szOf P hk, Result.andThen_ok, g1, Sem.run_pure]
        · cases h
      · cases h
    · cases h
  · cases h
end
end Go.Proofs.YtedokmdoompidaaGreatDoor.Ev
