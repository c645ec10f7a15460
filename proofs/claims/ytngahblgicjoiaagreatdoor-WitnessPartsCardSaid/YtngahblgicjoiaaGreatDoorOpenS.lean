/- Rows of steps, and of lines, opened: from the data that a row reads to the cells that a walk reads. -/
import Derived.Test.YtngahblgicjoiaaGreatDoorLiftH
import Derived.Test.YtngahblgicjoiaaGreatDoorStepDefs
namespace Go.Proofs.YtngahblgicjoiaaGreatDoor
open Go.ChangeShapes Go.WideShapes Go.ChangeAt Go.RowKit Go.Deep Go.Joins

section
variable {H : Type} {P : Program} {enc : TypeId × Value → H} {w : World} {base : Nat} {spare : Nat → Bool} {held : Bool}
theorem trod_struct5 {t : TypeId} {f0 f1 f2 f3 f4 : Field} {fuel : Nat} {cs : List Value} {x : DataW H × List MemPlace} (ht : P.underlying t = some (.struct #[f0, f1, f2, f3, f4])) (h : DataW.trod enc P w base spare held fuel t cs = some x) :
    ∃ y0 y1 y2 y3 y4 n, x.1 = .agg [y0.1, y1.1, y2.1, y3.1, y4.1] ∧ DataW.trod enc P w base spare held n f0.type ((cs.drop f0.offset).take (P.cellsOf f0.type)) = some y0 ∧
      DataW.trod enc P w base spare held n f1.type ((cs.drop f1.offset).take (P.cellsOf f1.type)) = some y1 ∧ DataW.trod enc P w base spare held n f2.type ((cs.drop f2.offset).take (P.cellsOf f2.type)) = some y2 ∧
      DataW.trod enc P w base spare held n f3.type ((cs.drop f3.offset).take (P.cellsOf f3.type)) = some y3 ∧ DataW.trod enc P w base spare held n f4.type ((cs.drop f4.offset).take (P.cellsOf f4.type)) = some y4 := by
  obtain ⟨xs, n, _, rfl, hl, hlen, hf⟩ := DataW.trod_struct ht h
  match xs, hlen with
  | [y0, y1, y2, y3, y4], _ => exact ⟨y0, y1, y2, y3, y4, n, by simp, by simpa using hf 0 f0 rfl, by simpa using hf 1 f1 rfl, by simpa using hf 2 f2 rfl, by simpa using hf 3 f3 rfl, by simpa using hf 4 f4 rfl⟩
end
/-- What a row's reading tells of a step. -/
structure SGood (W : World) (z : StepZ) (ws : List Nat) : Prop where
  here : z.at W.heap.size W
  acts : ∀ a ∈ z.d.acts, a.fits ws
  reads : ∀ r ∈ z.d.reads, r.fits ws
  cl : i64B z.d.cl
  nm : i64B z.d.nm
  ca : i64B z.d.ca
  aw : i64B z.d.an
  al : z.d.acts.length ≤ 9223372036854775807
  rl : z.d.reads.length ≤ 9223372036854775807
/-- What is known of a step ahead of any count. -/
structure StepD.small (d : StepD) : Prop where
  acts : ∀ a ∈ d.acts, a.ok
  reads : ∀ r ∈ d.reads, r.key.size ≤ 140737488351232 ∧ r.value.size ≤ 140737488351232
  cl : i64B d.cl
  nm : i64B d.nm
  ca : i64B d.ca
  aw : i64B d.an
  al : d.acts.length ≤ 9223372036854775807
  rl : d.reads.length ≤ 9223372036854775807
theorem SGood.small {W : World} {z : StepZ} {ws : List Nat} (h : SGood W z ws) (hw : ws.all (· ≤ reachBytes) = true) : z.d.small := by
  have hb : ∀ k ∈ ws, k ≤ 140737488351232 := fun k hk => of_decide_eq_true (List.all_eq_true.1 hw k hk)
  exact ⟨fun a ha => (h.acts a ha).ok hw, fun r hr => ⟨hb _ (h.reads r hr).1, hb _ (h.reads r hr).2⟩, h.cl, h.nm, h.ca, h.aw, h.al, h.rl⟩
theorem StepD.small.ok {d : StepD} (h : d.small) (ha : d.acts.length ≤ 1000000) (hr : d.reads.length ≤ 1000000) : d.ok := ⟨h.acts, ha, hr, h.cl, h.nm, h.ca, h.aw⟩
set_option maxRecDepth 10000 in
theorem open_step {H : Type} {enc : TypeId × Value → H} {W : World} {sp : Nat → Bool} {held : Bool} {n : Nat} {cs' : List Value} {y : DataW H × List MemPlace} (hlen : cs'.length = 6) (h2 : DataW.trod enc Tryz.prog W 0 sp held n 38 cs' = some y) :
    ∃ z : StepZ, encStep z = cs' ∧ SGood W z (y.1.weights Tryz.prog 38) := by
  have c2 : Tryz.prog.cellsOf 34 = 2 := by kernel_rfl
  have c3 : Tryz.prog.cellsOf 35 = 1 := by kernel_rfl
  have c4 : Tryz.prog.cellsOf 36 = 1 := by kernel_rfl
  have c5 : Tryz.prog.cellsOf 3 = 1 := by kernel_rfl
  obtain ⟨y0, y1, y2, y3, y4, k, hxy, g0, g1, g2, g3, g4⟩ := trod_struct5 Tryz.underlying38 h2
  match cs', hlen with
  | [v0, v1, v2, v3, v4, v5], _ =>
    simp [c2, c3, c4, c5] at g0 g1 g2 g3 g4
    obtain ⟨z0, z1, k2, hz, _, m0, m1⟩ := trod_struct2 Tryz.underlying34 g0
    simp [c5] at m0 m1
    obtain ⟨cl, e1, hz0, w1⟩ := DataW.trod_int Tryz.underlying3 m0
    obtain ⟨nm, e2, hz1, w2⟩ := DataW.trod_int Tryz.underlying3 m1
    obtain ⟨xo, xc, acts, e3, a1, a2, ha, hfa⟩ := open_acts g1
    obtain ⟨yo, yc, reads, e4, b1, b2, hb, hfb⟩ := open_reads g2
    obtain ⟨ca, e5, hy3, w3⟩ := DataW.trod_int Tryz.underlying3 g3
    obtain ⟨an, e6, hy4, w4⟩ := DataW.trod_int Tryz.underlying3 g4
    simp only [List.cons.injEq, and_true] at e1 e2 e3 e4 e5 e6
    subst e1 e2 e3 e4 e5 e6
    have hwt : y.1.weights Tryz.prog 38 = DataW.weightsEach Tryz.prog [34, 35, 36, 3, 3] [y0.1, y1.1, y2.1, y3.1, y4.1] := by
      rw [hxy]; simp only [DataW.weights, Tryz.underlying38]; rfl
    have hup : ∀ (j : Nat) (t : TypeId) (d : DataW H), [34, 35, 36, 3, 3][j]? = some t → [y0.1, y1.1, y2.1, y3.1, y4.1][j]? = some d → ∀ z ∈ d.weights Tryz.prog t, z ∈ y.1.weights Tryz.prog 38 := fun j t d ht hd z hz => by
      rw [hwt]; exact DataW.weights_mem_each ht hd z hz
    have wi : ∀ {n : Int}, (Lit.int .i64 n).wf = true → i64B n := fun {n} w => by
      unfold i64B
      simpa [Lit.wf, IntKind.min, IntKind.max, IntKind.signed, IntKind.bits] using w
    refine ⟨⟨⟨cl, nm, acts, reads, ca, an⟩, xo, xc, yo, yc⟩, rfl, ⟨ha, hb⟩, ?_, ?_, wi w1, wi w2, wi w3, wi w4, ?_, ?_⟩
    · intro a ha'
      obtain ⟨f1, f2, f3, f4⟩ := hfa a ha'
      exact ⟨f1, f2, hup 1 _ _ rfl rfl _ f3, hup 1 _ _ rfl rfl _ f4⟩
    · intro r hr'
      obtain ⟨f1, f2⟩ := hfb r hr'
      exact ⟨hup 2 _ _ rfl rfl _ f1, hup 2 _ _ rfl rfl _ f2⟩
    · show acts.length ≤ _
      unfold maxLen at a2; omega
    · show reads.length ≤ _
      unfold maxLen at b2; omega
theorem SGood.mono {W : World} {q : StepZ} {ws ws' : List Nat} (hw : ∀ z ∈ ws, z ∈ ws') (hq : SGood W q ws) : SGood W q ws' :=
  ⟨hq.here, fun a ha => ⟨(hq.acts a ha).1, (hq.acts a ha).2.1, hw _ (hq.acts a ha).2.2.1, hw _ (hq.acts a ha).2.2.2⟩, fun r hr => ⟨hw _ (hq.reads r hr).1, hw _ (hq.reads r hr).2⟩, hq.cl, hq.nm, hq.ca, hq.aw, hq.al, hq.rl⟩
theorem open_steps {H : Type} {enc : TypeId × Value → H} {W : World} {sp : Nat → Bool} {held : Bool} {fuel : Nat} {cs : List Value} {x : DataW H × List MemPlace} (h : DataW.trod enc Tryz.prog W 0 sp held fuel 22 cs = some x) :
    ∃ (ao : Option Addr) (cap : Nat) (l : List StepZ), cs = [.slice ao l.length cap] ∧ l.length ≤ cap ∧ cap ≤ maxLen ∧ Rows 6 encStep W.heap.size W ao l ∧ ∀ a ∈ l, SGood W a (x.1.weights Tryz.prog 22) :=
  open_rows encStep (SGood W) ⟨⟨0, 0, [], [], 0, 0⟩, none, 0, none, 0⟩ Tryz.underlying22 (E := 38) (by kernel_rfl) (fun q => ⟨_, rfl⟩) (fun _ => rfl) (fun n cs' y hlen h2 => open_step hlen h2) (fun q ws ws' hw hq => hq.mono hw) h
def RowD.fits (r : RowD) (ws : List Nat) : Prop := r.key.size ∈ ws ∧ r.value.size ∈ ws
theorem RowD.fits.ok {r : RowD} {ws : List Nat} (h : r.fits ws) (hw : ws.all (· ≤ reachBytes) = true) : r.ok := by
  have hb : ∀ k ∈ ws, k ≤ 140737488351232 := fun k hk => of_decide_eq_true (List.all_eq_true.1 hw k hk)
  exact ⟨hb _ h.1, hb _ h.2⟩
set_option maxRecDepth 10000 in
theorem open_lines {H : Type} {enc : TypeId × Value → H} {W : World} {sp : Nat → Bool} {held : Bool} {fuel : Nat} {cs : List Value} {x : DataW H × List MemPlace} (h : DataW.trod enc Tryz.prog W 0 sp held fuel 32 cs = some x) :
    ∃ (ao : Option Addr) (cap : Nat) (l : List RowD), cs = [.slice ao l.length cap] ∧ l.length ≤ cap ∧ cap ≤ maxLen ∧ Rows 2 encRw W.heap.size W ao l ∧ ∀ a ∈ l, a.fits (x.1.weights Tryz.prog 32) := by
  refine open_rows encRw RowD.fits ⟨⟨#[]⟩, ⟨#[]⟩⟩ Tryz.underlying32 (E := 73) (by kernel_rfl) (fun q => ⟨_, rfl⟩) (fun _ => rfl) (fun n cs' y hlen h2 => ?_) (fun q ws ws' hw hq => ⟨hw _ hq.1, hw _ hq.2⟩) h
  have c0 : Tryz.prog.cellsOf 9 = 1 := by kernel_rfl
  obtain ⟨y0, y1, k, hxy, _, g0, g1⟩ := trod_struct2 Tryz.underlying73 h2
  match cs', hlen with
  | [v0, v1], _ =>
    simp [c0] at g0 g1
    obtain ⟨key, e0, rfl, _⟩ := DataW.trod_string Tryz.underlying9 g0
    obtain ⟨val, e1, rfl, _⟩ := DataW.trod_string Tryz.underlying9 g1
    simp only [List.cons.injEq, and_true] at e0 e1
    subst e0 e1
    refine ⟨⟨key, val⟩, rfl, ?_, ?_⟩
    · rw [hxy, Lib.size_eq]
      simp [DataW.weights, Tryz.underlying73, DataW.weightsEach]
    · rw [hxy, Lib.size_eq]
      simp [DataW.weights, Tryz.underlying73, DataW.weightsEach]
end Go.Proofs.YtngahblgicjoiaaGreatDoor
