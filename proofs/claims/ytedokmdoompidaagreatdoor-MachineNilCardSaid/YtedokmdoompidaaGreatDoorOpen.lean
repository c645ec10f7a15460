/- A slice of acts, opened: from the data that a row reads to the cells that a walk reads. -/
import Derived.Test.YtedokmdoompidaaGreatDoorMem
import Derived.ProofKit
import Derived.Deep.Slices
import Derived.Deep.Strs
import Derived.Lib.SmallJoins
import Derived.SizedLaws
namespace Go.Proofs.YtedokmdoompidaaGreatDoor
open Go.ChangeShapes Go.WideShapes Go.ChangeAt Go.RowKit Go.Deep Go.Joins

theorem weightsAll_mem {H : Type} {P : Program} {e : TypeId} : ∀ {l : List (DataW H)} {d : DataW H}, d ∈ l → ∀ n ∈ d.weights P e, n ∈ DataW.weightsAll P e l
  | x :: r, d, hd, n, hn => by
    unfold DataW.weightsAll
    rcases List.mem_cons.1 hd with rfl | h
    · exact List.mem_append_left _ hn
    · exact List.mem_append_right _ (weightsAll_mem h n hn)

/-- What a row's reading tells of an act, but for the sizes of its texts. -/
def ActD.fits (a : ActD) (ws : List Nat) : Prop := (0 ≤ a.kind ∧ a.kind ≤ 255) ∧ (-9223372036854775808 ≤ a.num ∧ a.num ≤ 9223372036854775807) ∧ a.key.size ∈ ws ∧ a.value.size ∈ ws
theorem ActD.fits.ok {a : ActD} {ws : List Nat} (h : a.fits ws) (hw : ws.all (· ≤ reachBytes) = true) : a.ok := by
  obtain ⟨⟨k0, k1⟩, ⟨n0, n1⟩, h1, h2⟩ := h
  have b1 := List.all_eq_true.1 hw _ h1
  have b2 := List.all_eq_true.1 hw _ h2
  simp only [decide_eq_true_eq] at b1 b2
  exact ⟨k0, k1, b1, b2, n0, n1⟩

set_option maxRecDepth 10000 in
theorem open_acts {H : Type} {enc : TypeId × Value → H} {W : World} {sp : Nat → Bool} {held : Bool} {fuel : Nat} {cs : List Value} {x : DataW H × List MemPlace} (h : DataW.trod enc Tryz.prog W 0 sp held fuel 55 cs = some x) :
    ∃ (ao : Option Addr) (cap : Nat) (l : List ActD), cs = [.slice ao l.length cap] ∧ l.length ≤ cap ∧ cap ≤ maxLen ∧ Rows 4 encAct W.heap.size W ao l ∧ ∀ a ∈ l, a.fits (x.1.weights Tryz.prog 55) := by
  rcases open_slice Tryz.underlying55 h with ⟨rfl, rfl⟩ | ⟨a, len, cap, m, n, D, Pl, rfl, hb, hl, hm, hmm, rfl, hx⟩
  · exact ⟨none, 0, [], rfl, Nat.le_refl _, by simp [maxLen], Rows.nil _ _ _ _ _, fun _ h => by cases h⟩
  have hlm : len ≤ m := by rw [hmm]; split <;> omega
  have each : ∀ i, i < len → ∃ q : ActD, (∀ (j : Nat) (v : Value), (encAct q)[j]? = some v → W.cell? (a.add (i * 4 + j)) = some v) ∧ q.fits ((D i).weights Tryz.prog 54) := by
    intro i hi
    obtain ⟨cs', h1, h2⟩ := hx i (by omega)
    have ce : Tryz.prog.cellsOf 54 = 4 := by kernel_rfl
    have c0 : Tryz.prog.cellsOf 52 = 1 := by kernel_rfl
    have c1 : Tryz.prog.cellsOf 9 = 1 := by kernel_rfl
    have c3 : Tryz.prog.cellsOf 3 = 1 := by kernel_rfl
    rw [ce] at h1
    obtain ⟨_, hlen, hcell⟩ := World.cells?_some h1
    obtain ⟨y0, y1, y2, y3, k, hxy, _, g0, g1, g2, g3⟩ := trod_struct4 Tryz.underlying54 h2
    match cs', hlen with
    | [v0, v1, v2, v3], _ =>
      simp [c0, c1, c3] at g0 g1 g2 g3
      obtain ⟨kd, e0, rfl, w0⟩ := DataW.trod_int Tryz.underlying52 g0
      obtain ⟨key, e1, rfl, _⟩ := DataW.trod_string Tryz.underlying9 g1
      obtain ⟨val, e2, rfl, _⟩ := DataW.trod_string Tryz.underlying9 g2
      obtain ⟨num, e3, rfl, w3⟩ := DataW.trod_int Tryz.underlying3 g3
      simp only [List.cons.injEq, and_true] at e0 e1 e2 e3
      subst e0 e1 e2 e3
      refine ⟨⟨kd, key, val, num⟩, fun j v hj => ?_, ?_, ?_, ?_, ?_⟩
      · have hj4 : j < 4 := (List.getElem?_eq_some_iff.1 hj).1
        have := hcell j hj4
        rw [add_add] at this
        rw [this]; exact hj
      · simpa [Lit.wf, IntKind.min, IntKind.max, IntKind.signed, IntKind.bits] using w0
      · simpa [Lit.wf, IntKind.min, IntKind.max, IntKind.signed, IntKind.bits] using w3
      · rw [show D i = _ from (Prod.mk.inj hxy).1, Lib.size_eq]
        simp [DataW.weights, Tryz.underlying54, DataW.weightsEach]
      · rw [show D i = _ from (Prod.mk.inj hxy).1, Lib.size_eq]
        simp [DataW.weights, Tryz.underlying54, DataW.weightsEach]
  obtain ⟨q, hq⟩ := choose_lt each
  refine ⟨some a, cap, (List.range len).map q, by simp, by simpa using hl, hm, ?_, ?_⟩
  · intro hne
    have hpos : 0 < len := by
      rcases Nat.eq_zero_or_pos len with h0 | h0
      · subst h0; exact absurd rfl hne
      · exact h0
    obtain ⟨b, off, spot⟩ := a
    have h00 := (hq 0 hpos).1 0 _ rfl
    have hs : spot = none ∧ b < W.heap.size := by
      unfold Addr.add at h00
      simp only [Nat.zero_mul, Nat.add_zero, if_true] at h00
      unfold World.cell? at h00
      cases hb : W.heap[b]? with
      | none => simp [hb] at h00
      | some o =>
        refine ⟨?_, lt_of_block hb⟩
        cases spot with
        | none => rfl
        | some s => cases o <;> simp [hb] at h00
    obtain ⟨rfl, hbl⟩ := hs
    refine ⟨b, off, rfl, hbl, fun i x hi j v hj => ?_⟩
    obtain ⟨hil, hix⟩ : i < len ∧ q i = x := by
      rw [List.getElem?_map] at hi
      by_cases hil : i < len
      · simp [hil] at hi; exact ⟨hil, hi⟩
      · rw [List.getElem?_eq_none (by simpa using hil)] at hi; cases hi
    subst hix
    have := (hq i hil).1 j v hj
    rw [add_plain] at this
    rw [Nat.add_assoc]
    exact this
  · intro y hy
    obtain ⟨i, hi, rfl⟩ := List.mem_map.1 hy
    have hi' := List.mem_range.1 hi
    obtain ⟨r1, r2, r3, r4⟩ := (hq i hi').2
    have up : ∀ z ∈ (D i).weights Tryz.prog 54, z ∈ DataW.weights Tryz.prog 55 (.slice ((List.range len).map D) ((List.range (m - len)).map fun j => D (len + j))) := fun z hz => by
      simp only [DataW.weights, Tryz.underlying55]
      exact List.mem_cons_of_mem _ (List.mem_append_left _ (weightsAll_mem (List.mem_map.2 ⟨i, hi, rfl⟩) z hz))
    exact ⟨r1, r2, up _ r3, up _ r4⟩
end Go.Proofs.YtedokmdoompidaaGreatDoor
