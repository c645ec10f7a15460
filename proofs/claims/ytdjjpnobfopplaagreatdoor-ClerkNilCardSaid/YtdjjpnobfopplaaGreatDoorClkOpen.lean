/- clerk: a call of the law's, opened. -/
import Derived.Test.YtdjjpnobfopplaaGreatDoorLiftH
import Derived.Test.YtdjjpnobfopplaaGreatDoorClkGreat
namespace Go.Proofs.YtdjjpnobfopplaaGreatDoor
open Go.ChangeShapes Go.WideShapes Go.ChangeAt Go.RowKit Go.Deep Go.Joins

section
variable {H : Type} {P : Program} {enc : TypeId × Value → H} {w : World} {base : Nat} {spare : Nat → Bool} {held : Bool}
theorem trod_struct7 {t : TypeId} {f0 f1 f2 f3 f4 f5 f6 : Field} {fuel : Nat} {cs : List Value} {x : DataW H × List MemPlace} (ht : P.underlying t = some (.struct #[f0, f1, f2, f3, f4, f5, f6])) (h : DataW.trod enc P w base spare held fuel t cs = some x) :
    ∃ y0 y1 y2 y3 y4 y5 y6 n, x.1 = .agg [y0.1, y1.1, y2.1, y3.1, y4.1, y5.1, y6.1] ∧ DataW.trod enc P w base spare held n f0.type ((cs.drop f0.offset).take (P.cellsOf f0.type)) = some y0 ∧
      DataW.trod enc P w base spare held n f1.type ((cs.drop f1.offset).take (P.cellsOf f1.type)) = some y1 ∧
      DataW.trod enc P w base spare held n f2.type ((cs.drop f2.offset).take (P.cellsOf f2.type)) = some y2 ∧
      DataW.trod enc P w base spare held n f3.type ((cs.drop f3.offset).take (P.cellsOf f3.type)) = some y3 ∧
      DataW.trod enc P w base spare held n f4.type ((cs.drop f4.offset).take (P.cellsOf f4.type)) = some y4 ∧
      DataW.trod enc P w base spare held n f5.type ((cs.drop f5.offset).take (P.cellsOf f5.type)) = some y5 ∧
      DataW.trod enc P w base spare held n f6.type ((cs.drop f6.offset).take (P.cellsOf f6.type)) = some y6 := by
  obtain ⟨xs, n, _, rfl, hl, hlen, hf⟩ := DataW.trod_struct ht h
  match xs, hlen with
  | [y0, y1, y2, y3, y4, y5, y6], _ => exact ⟨y0, y1, y2, y3, y4, y5, y6, n, by simp, by simpa using hf 0 f0 rfl, by simpa using hf 1 f1 rfl, by simpa using hf 2 f2 rfl, by simpa using hf 3 f3 rfl, by simpa using hf 4 f4 rfl, by simpa using hf 5 f5 rfl, by simpa using hf 6 f6 rfl⟩
theorem trod_struct8 {t : TypeId} {f0 f1 f2 f3 f4 f5 f6 f7 : Field} {fuel : Nat} {cs : List Value} {x : DataW H × List MemPlace} (ht : P.underlying t = some (.struct #[f0, f1, f2, f3, f4, f5, f6, f7])) (h : DataW.trod enc P w base spare held fuel t cs = some x) :
    ∃ y0 y1 y2 y3 y4 y5 y6 y7 n, x.1 = .agg [y0.1, y1.1, y2.1, y3.1, y4.1, y5.1, y6.1, y7.1] ∧ DataW.trod enc P w base spare held n f0.type ((cs.drop f0.offset).take (P.cellsOf f0.type)) = some y0 ∧
      DataW.trod enc P w base spare held n f1.type ((cs.drop f1.offset).take (P.cellsOf f1.type)) = some y1 ∧
      DataW.trod enc P w base spare held n f2.type ((cs.drop f2.offset).take (P.cellsOf f2.type)) = some y2 ∧
      DataW.trod enc P w base spare held n f3.type ((cs.drop f3.offset).take (P.cellsOf f3.type)) = some y3 ∧
      DataW.trod enc P w base spare held n f4.type ((cs.drop f4.offset).take (P.cellsOf f4.type)) = some y4 ∧
      DataW.trod enc P w base spare held n f5.type ((cs.drop f5.offset).take (P.cellsOf f5.type)) = some y5 ∧
      DataW.trod enc P w base spare held n f6.type ((cs.drop f6.offset).take (P.cellsOf f6.type)) = some y6 ∧
      DataW.trod enc P w base spare held n f7.type ((cs.drop f7.offset).take (P.cellsOf f7.type)) = some y7 := by
  obtain ⟨xs, n, _, rfl, hl, hlen, hf⟩ := DataW.trod_struct ht h
  match xs, hlen with
  | [y0, y1, y2, y3, y4, y5, y6, y7], _ => exact ⟨y0, y1, y2, y3, y4, y5, y6, y7, n, by simp, by simpa using hf 0 f0 rfl, by simpa using hf 1 f1 rfl, by simpa using hf 2 f2 rfl, by simpa using hf 3 f3 rfl, by simpa using hf 4 f4 rfl, by simpa using hf 5 f5 rfl, by simpa using hf 6 f6 rfl, by simpa using hf 7 f7 rfl⟩
/-- A slice, whatever it holds. -/
theorem open_any {t e : TypeId} {fuel : Nat} {cs : List Value} {x : DataW H × List MemPlace} (ht : P.underlying t = some (.slice e)) (h : DataW.trod enc P w base spare held fuel t cs = some x) :
    ∃ (ao : Option Addr) (n cap : Nat), cs = [.slice ao n cap] ∧ n ≤ 9223372036854775807 := by
  rcases open_slice ht h with ⟨rfl, rfl⟩ | ⟨a, len, cap, m, n, D, Pl, rfl, hb, hl, hm, hmm, rfl, hx⟩
  · exact ⟨none, 0, 0, rfl, by omega⟩
  · unfold maxLen at hm
    exact ⟨some a, len, cap, rfl, by omega⟩
end
theorem okWide_structC {P : Program} {w : World} {r : Reach} {b : Nat} {t : TypeId} {v : Value} {fs : Array Field} (ht : P.underlying t = some (.struct fs)) (h : Value.okWide P w r b t v) : ∃ cs, v = .agg cs ∧ cs.size = P.cellsOf t := by
  simp only [Value.okWide, ht] at h
  obtain ⟨cs, e, hs, -⟩ := h
  exact ⟨cs, e, hs⟩
set_option maxRecDepth 10000 in
theorem open_call {H : Type} {enc : TypeId × Value → H} {W : World} {sp : Nat → Bool} {held : Bool} {n : Nat} {cs' : List Value} {y : DataW H × List MemPlace} (hlen : cs'.length = 16)
    (h2 : DataW.trod enc Tryz.prog W 0 sp held n 32 cs' = some y) (hw : (y.1.weights Tryz.prog 32).all (· ≤ reachBytes) = true) :
    ∃ z : CallZ, encCall z = cs' ∧ Rows 4 encAct W.heap.size W z.ao z.acts ∧ Rows 3 encRd W.heap.size W z.ro z.reads ∧ z.small := by
  have c0 : Tryz.prog.cellsOf 24 = 1 := by kernel_rfl
  have c1 : Tryz.prog.cellsOf 25 = 1 := by kernel_rfl
  have c2 : Tryz.prog.cellsOf 27 = 1 := by kernel_rfl
  have c3 : Tryz.prog.cellsOf 28 = 1 := by kernel_rfl
  have c4 : Tryz.prog.cellsOf 4 = 1 := by kernel_rfl
  have c5 : Tryz.prog.cellsOf 3 = 1 := by kernel_rfl
  have c6 : Tryz.prog.cellsOf 26 = 1 := by kernel_rfl
  have c7 : Tryz.prog.cellsOf 23 = 2 := by kernel_rfl
  have c8 : Tryz.prog.cellsOf 30 = 9 := by kernel_rfl
  obtain ⟨y0, y1, y2, y3, y4, y5, y6, k, hxy, g0, g1, g2, g3, g4, g5, g6⟩ := trod_struct7 Tryz.underlying32 h2
  match cs', hlen with
  | [v0, v1, v2, v3, v4, v5, v6, v7, v8, v9, v10, v11, v12, v13, v14, v15], _ =>
    simp [c0, c1, c5, c7, c8] at g0 g1 g2 g3 g4 g5 g6
    obtain ⟨q0, q1, k1, hq, _, m0, m1⟩ := trod_struct2 Tryz.underlying23 g1
    simp [c5] at m0 m1
    obtain ⟨kind, e0, _, _⟩ := DataW.trod_int Tryz.underlying3 g0
    obtain ⟨c, e1, _, _⟩ := DataW.trod_int Tryz.underlying3 m0
    obtain ⟨nm, e2, _, _⟩ := DataW.trod_int Tryz.underlying3 m1
    obtain ⟨ao, ac, acts, e3, a1, a2, ha, hfa⟩ := open_acts g2
    obtain ⟨no, nn, nc, e4, hnl⟩ := open_any Tryz.underlying25 g3
    obtain ⟨group, e5, _, _⟩ := DataW.trod_int Tryz.underlying3 g4
    obtain ⟨back, e6, _, _⟩ := DataW.trod_int Tryz.underlying3 g5
    obtain ⟨z0, z1, z2, z3, z4, z5, z6, z7, k2, hz, r0, r1, r2, r3, r4, r5, r6, r7⟩ := trod_struct8 Tryz.underlying30 g6
    simp [c2, c3, c4, c5, c6, c7] at r0 r1 r2 r3 r4 r5 r6 r7
    obtain ⟨u0, u1, k3, hu, _, m2, m3⟩ := trod_struct2 Tryz.underlying23 r1
    simp [c5] at m2 m3
    obtain ⟨err, e7, _, _⟩ := DataW.trod_int Tryz.underlying26 r0
    obtain ⟨cc, e8, _, _⟩ := DataW.trod_int Tryz.underlying3 m2
    obtain ⟨nn2, e9, _, _⟩ := DataW.trod_int Tryz.underlying3 m3
    obtain ⟨is, e10, _⟩ := DataW.trod_bool Tryz.underlying4 r2
    obtain ⟨cm, e11, _⟩ := DataW.trod_bool Tryz.underlying4 r3
    obtain ⟨ro, rc, reads, e12, b1, b2, hb, hfb⟩ := open_reads r4
    obtain ⟨sc, e13, _, _⟩ := DataW.trod_int Tryz.underlying3 r5
    obtain ⟨st, e14, _, _⟩ := DataW.trod_int Tryz.underlying3 r6
    obtain ⟨bo, bn, bc, e15, hbl⟩ := open_any Tryz.underlying28 r7
    simp only [List.cons.injEq, and_true] at e0 e1 e2 e3 e4 e5 e6 e7 e8 e9 e10 e11 e12 e13 e14 e15
    subst e0 e1 e2 e3 e4 e5 e6 e7 e8 e9 e10 e11 e12 e13 e14 e15
    have hb8 : ∀ q ∈ y.1.weights Tryz.prog 32, q ≤ 140737488351232 := fun q hq => of_decide_eq_true (List.all_eq_true.1 hw q hq)
    have hwt : y.1.weights Tryz.prog 32 = DataW.weightsEach Tryz.prog [3, 23, 24, 25, 3, 3, 30] [y0.1, y1.1, y2.1, y3.1, y4.1, y5.1, y6.1] := by
      rw [hxy]; simp only [DataW.weights, Tryz.underlying32]; rfl
    have hwa : y6.1.weights Tryz.prog 30 = DataW.weightsEach Tryz.prog [26, 23, 4, 4, 27, 3, 3, 28] [z0.1, z1.1, z2.1, z3.1, z4.1, z5.1, z6.1, z7.1] := by
      rw [hz]; simp only [DataW.weights, Tryz.underlying30]; rfl
    have hup : ∀ (j : Nat) (t : TypeId) (d : DataW H), [3, 23, 24, 25, 3, 3, 30][j]? = some t → [y0.1, y1.1, y2.1, y3.1, y4.1, y5.1, y6.1][j]? = some d → ∀ q ∈ d.weights Tryz.prog t, q ≤ 140737488351232 := fun j t d ht hd q hq =>
      hb8 q (by rw [hwt]; exact DataW.weights_mem_each ht hd q hq)
    have hup2 : ∀ q ∈ z4.1.weights Tryz.prog 27, q ≤ 140737488351232 := fun q hq =>
      hup 6 _ _ rfl rfl q (by rw [hwa]; exact DataW.weights_mem_each (j := 4) (t := 27) rfl rfl q hq)
    refine ⟨⟨kind, c, nm, acts, ao, ac, no, nn, nc, group, back, err, cc, nn2, is, cm, reads, ro, rc, sc, st, bo, bn, bc⟩, rfl, ha, hb, ?_, ?_, ?_, ?_, hnl, hbl⟩
    · intro a ha'
      obtain ⟨_, _, f3, f4⟩ := hfa a ha'
      exact ⟨hup 2 _ _ rfl rfl _ f3, hup 2 _ _ rfl rfl _ f4⟩
    · intro r hr'
      obtain ⟨f1, f2⟩ := hfb r hr'
      exact ⟨hup2 _ f1, hup2 _ f2⟩
    · show acts.length ≤ _
      unfold maxLen at a2; omega
    · show reads.length ≤ _
      unfold maxLen at b2; omega
set_option maxRecDepth 10000 in
/-- A call that the law is given, opened. -/
theorem open_callV {H : Type} {enc : TypeId × Value → H} {W : World} {b0 : Nat} {spare : Nat → Bool} {held : Bool} {r : Reach} {v : Value} {d : DataW H} {p : List MemPlace} (hv : Value.okWide Tryz.prog W r b0 32 v)
    (h : DataW.Trod enc Tryz.prog W 0 spare held 32 v d p) (hw : (DataW.weights Tryz.prog 32 d).all (· ≤ reachBytes) = true) :
    ∃ z : CallZ, v = .agg (encCall z).toArray ∧ Rows 4 encAct W.heap.size W z.ao z.acts ∧ Rows 3 encRd W.heap.size W z.ro z.reads ∧ z.small := by
  obtain ⟨cs, rfl, hsz⟩ := okWide_structC Tryz.underlying32 hv
  have hc : Tryz.prog.cellsOf 32 = 16 := by kernel_rfl
  rw [hc] at hsz
  obtain ⟨fuel, hf⟩ := h
  obtain ⟨z, hz, hg⟩ := open_call (cs' := (Value.agg cs).cells.toList) (by simpa [Value.cells] using hsz) hf hw
  exact ⟨z, by rw [hz]; simp [Value.cells], hg⟩
end Go.Proofs.YtdjjpnobfopplaaGreatDoor
