/- What the rows' listed variables are; a world in which they hold. -/
import Derived.Test.YtdjjpnobfopplaaGreatDoorBase
import Derived.Test.YtdjjpnobfopplaaGreatDoorRows
import Derived.ProofKit
import Derived.Lay
import Derived.LaidMore
import Derived.Stop.Joined
import Derived.Stop.LaidErr
import Derived.Lib.LaidTab
import Derived.Test.YtdjjpnobfopplaaGreatDoorOpen
import Derived.Test.YtdjjpnobfopplaaGreatDoorHoldDefs
import Derived.Test.YtdjjpnobfopplaaGreatDoorRefOnes
import Derived.Test.YtdjjpnobfopplaaGreatDoorCards
import Derived.Test.YtdjjpnobfopplaaGreatDoorTie
import Derived.SevenTiedAt
namespace Go.Proofs.YtdjjpnobfopplaaGreatDoor
open Go.RowKit

theorem own : ownKnob Tryz.prog.godebug = none := by kernel_rfl

/-- The variables that every row lists. -/
def laidAllD : List (String × DataW Unit) := [("unicode/utf8.acceptRanges", Rows.laid_unicode_utf8_acceptRanges), ("unicode/utf8.first", Rows.laid_unicode_utf8_first)]

theorem door_met (os : Os) (args : Array Value) : laidMetH Tryz.prog laidAllD ((World.laidAll Tryz.prog os laidAllD).forCall (fun _ _ => 0) ⟨#[], args, []⟩).memory := by
  rw [MakeChecks.laidMetH_plain _ _ _ (by kernel_rfl)]
  exact laidMet_laidAll _ (by kernel_rfl) (by kernel_rfl)
end Go.Proofs.YtdjjpnobfopplaaGreatDoor
/- A slice of holds, opened: from the data that a row reads to the cells that a walk reads. -/
namespace Go.Proofs.YtdjjpnobfopplaaGreatDoor
open Go.ChangeShapes Go.WideShapes Go.ChangeAt Go.RowKit Go.Deep Go.Joins

theorem open_rows {H α : Type} {enc' : TypeId × Value → H} {W : World} {sp : Nat → Bool} {held : Bool} {fuel : Nat} {cs : List Value} {x : DataW H × List MemPlace} {T E : TypeId} {sz : Nat} (enc : α → List Value) (good : α → List Nat → Prop)
    (inh : α) (hu : Tryz.prog.underlying T = some (.slice E)) (ce : Tryz.prog.cellsOf E = sz) (h0 : ∀ q, ∃ v, (enc q)[0]? = some v) (hsz : ∀ q, (enc q).length = sz)
    (each : ∀ (n : Nat) (cs' : List Value) (y : DataW H × List MemPlace), cs'.length = sz → DataW.trod enc' Tryz.prog W 0 sp held n E cs' = some y → ∃ q : α, enc q = cs' ∧ good q (y.1.weights Tryz.prog E))
    (mono : ∀ q ws ws', (∀ z ∈ ws, z ∈ ws') → good q ws → good q ws')
    (h : DataW.trod enc' Tryz.prog W 0 sp held fuel T cs = some x) :
    ∃ (ao : Option Addr) (cap : Nat) (l : List α), cs = [.slice ao l.length cap] ∧ l.length ≤ cap ∧ cap ≤ maxLen ∧ Rows sz enc W.heap.size W ao l ∧ ∀ a ∈ l, good a (x.1.weights Tryz.prog T) := by
  rcases open_slice hu h with ⟨rfl, rfl⟩ | ⟨a, len, cap, m, n, D, Pl, rfl, hb, hl, hm, hmm, rfl, hx⟩
  · exact ⟨none, 0, [], rfl, Nat.le_refl _, by simp [maxLen], Rows.nil _ _ _ _ _, fun _ h => by cases h⟩
  have hlm : len ≤ m := by rw [hmm]; split <;> omega
  have each' : ∀ i, i < len → ∃ q : α, (∀ (j : Nat) (v : Value), (enc q)[j]? = some v → W.cell? (a.add (i * sz + j)) = some v) ∧ good q ((D i).weights Tryz.prog E) := by
    intro i hi
    obtain ⟨cs', h1, h2⟩ := hx i (by omega)
    rw [ce] at h1
    obtain ⟨_, hlen, hcell⟩ := World.cells?_some h1
    obtain ⟨q, rfl, hq⟩ := each _ cs' _ hlen h2
    refine ⟨q, fun j v hj => ?_, hq⟩
    have hjs : j < sz := by rw [← hsz q]; exact (List.getElem?_eq_some_iff.1 hj).1
    have := hcell j hjs
    rw [add_add] at this
    rw [this]; exact hj
  haveI : Inhabited α := ⟨inh⟩
  obtain ⟨q, hq⟩ := choose_lt each'
  refine ⟨some a, cap, (List.range len).map q, by simp, by simpa using hl, hm, ?_, ?_⟩
  · intro hne
    have hpos : 0 < len := by
      rcases Nat.eq_zero_or_pos len with h0 | h0
      · subst h0; exact absurd rfl hne
      · exact h0
    obtain ⟨b, off, spot⟩ := a
    obtain ⟨v0, hv0⟩ := h0 (q 0)
    have h00 := (hq 0 hpos).1 0 _ hv0
    have hs : spot = none ∧ b < W.heap.size := by
      unfold Addr.add at h00
      simp only [Nat.zero_mul, Nat.add_zero, if_true] at h00
      unfold World.cell? at h00
      cases hb : W.heap[b]? with
      | none => simp [hb] at h00
      | some o =>
        refine ⟨?_, lt_of_block hb⟩
        cases spot with
        | none => rfl
        | some s => cases o <;> simp [hb] at h00
    obtain ⟨rfl, hbl⟩ := hs
    refine ⟨b, off, rfl, hbl, fun i x hi j v hj => ?_⟩
    obtain ⟨hil, hix⟩ : i < len ∧ q i = x := by
      rw [List.getElem?_map] at hi
      by_cases hil : i < len
      · simp [hil] at hi; exact ⟨hil, hi⟩
      · rw [List.getElem?_eq_none (by simpa using hil)] at hi; cases hi
    subst hix
    have := (hq i hil).1 j v hj
    rw [add_plain] at this
    rw [Nat.add_assoc]
    exact this
  · intro y hy
    obtain ⟨i, hi, rfl⟩ := List.mem_map.1 hy
    have hi' := List.mem_range.1 hi
    refine mono _ _ _ (fun z hz => ?_) (hq i hi').2
    simp only [DataW.weights, hu]
    exact List.mem_cons_of_mem _ (List.mem_append_left _ (weightsAll_mem (List.mem_map.2 ⟨i, hi, rfl⟩) z hz))

def Rd.fits (r : Rd) (ws : List Nat) : Prop := r.key.size ∈ ws ∧ r.value.size ∈ ws
set_option maxRecDepth 10000 in
theorem open_reads {H : Type} {enc : TypeId × Value → H} {W : World} {sp : Nat → Bool} {held : Bool} {fuel : Nat} {cs : List Value} {x : DataW H × List MemPlace} (h : DataW.trod enc Tryz.prog W 0 sp held fuel 27 cs = some x) :
    ∃ (ao : Option Addr) (cap : Nat) (l : List Rd), cs = [.slice ao l.length cap] ∧ l.length ≤ cap ∧ cap ≤ maxLen ∧ Rows 3 encRd W.heap.size W ao l ∧ ∀ a ∈ l, a.fits (x.1.weights Tryz.prog 27) := by
  refine open_rows encRd Rd.fits ⟨⟨#[]⟩, false, ⟨#[]⟩⟩ Tryz.underlying27 (E := 69) (by kernel_rfl) (fun q => ⟨_, rfl⟩) (fun _ => rfl) (fun n cs' y hlen h2 => ?_) (fun q ws ws' hw hq => ⟨hw _ hq.1, hw _ hq.2⟩) h
  have c0 : Tryz.prog.cellsOf 9 = 1 := by kernel_rfl
  have c1 : Tryz.prog.cellsOf 4 = 1 := by kernel_rfl
  obtain ⟨y0, y1, y2, k, hxy, _, g0, g1, g2⟩ := Go.Deep.trod_struct3 Tryz.underlying69 h2
  match cs', hlen with
  | [v0, v1, v2], _ =>
    simp [c0, c1] at g0 g1 g2
    obtain ⟨key, e0, rfl, _⟩ := DataW.trod_string Tryz.underlying9 g0
    obtain ⟨is, e1, rfl⟩ := DataW.trod_bool Tryz.underlying4 g1
    obtain ⟨val, e2, rfl, _⟩ := DataW.trod_string Tryz.underlying9 g2
    simp only [List.cons.injEq, and_true] at e0 e1 e2
    subst e0 e1 e2
    refine ⟨⟨key, is, val⟩, rfl, ?_, ?_⟩
    · rw [hxy, Lib.size_eq]
      simp [DataW.weights, Tryz.underlying69, DataW.weightsEach]
    · rw [hxy, Lib.size_eq]
      simp [DataW.weights, Tryz.underlying69, DataW.weightsEach]

section
variable {H : Type} {P : Program} {enc : TypeId × Value → H} {w : World} {base : Nat} {spare : Nat → Bool} {held : Bool}
theorem trod_struct6 {t : TypeId} {f0 f1 f2 f3 f4 f5 : Field} {fuel : Nat} {cs : List Value} {x : DataW H × List MemPlace} (ht : P.underlying t = some (.struct #[f0, f1, f2, f3, f4, f5])) (h : DataW.trod enc P w base spare held fuel t cs = some x) :
    ∃ y0 y1 y2 y3 y4 y5 n, x.1 = .agg [y0.1, y1.1, y2.1, y3.1, y4.1, y5.1] ∧ DataW.trod enc P w base spare held n f0.type ((cs.drop f0.offset).take (P.cellsOf f0.type)) = some y0 ∧
      DataW.trod enc P w base spare held n f1.type ((cs.drop f1.offset).take (P.cellsOf f1.type)) = some y1 ∧ DataW.trod enc P w base spare held n f2.type ((cs.drop f2.offset).take (P.cellsOf f2.type)) = some y2 ∧
      DataW.trod enc P w base spare held n f3.type ((cs.drop f3.offset).take (P.cellsOf f3.type)) = some y3 ∧ DataW.trod enc P w base spare held n f4.type ((cs.drop f4.offset).take (P.cellsOf f4.type)) = some y4 ∧ DataW.trod enc P w base spare held n f5.type ((cs.drop f5.offset).take (P.cellsOf f5.type)) = some y5 := by
  obtain ⟨xs, n, _, rfl, hl, hlen, hf⟩ := DataW.trod_struct ht h
  match xs, hlen with
  | [y0, y1, y2, y3, y4, y5], _ => exact ⟨y0, y1, y2, y3, y4, y5, n, by simp, by simpa using hf 0 f0 rfl, by simpa using hf 1 f1 rfl, by simpa using hf 2 f2 rfl, by simpa using hf 3 f3 rfl, by simpa using hf 4 f4 rfl, by simpa using hf 5 f5 rfl⟩
end
structure HoldD.fitsW (d : HoldD) (ws : List Nat) : Prop where
  ks : d.key.size ∈ ws
  vs : d.value.size ∈ ws
  cl : -9223372036854775808 ≤ d.cl ∧ d.cl ≤ 9223372036854775807
  nm : -9223372036854775808 ≤ d.nm ∧ d.nm ≤ 9223372036854775807
  an : d.acts.length ≤ 9223372036854775807
  rn : d.reads.length ≤ 9223372036854775807
  acts : ∀ a ∈ d.acts, a.fits ws
  reads : ∀ r ∈ d.reads, r.fits ws
theorem HoldD.fitsW.small {d : HoldD} {ws : List Nat} (h : d.fitsW ws) (hw : ws.all (· ≤ reachBytes) = true) : d.small := by
  have hb : ∀ z ∈ ws, z ≤ 140737488351232 := fun z hz => of_decide_eq_true (List.all_eq_true.1 hw z hz)
  exact ⟨hb _ h.ks, hb _ h.vs, h.an, h.rn, fun a ha => ⟨hb _ (h.acts a ha).2.2.1, hb _ (h.acts a ha).2.2.2⟩, fun r hr => ⟨hb _ (h.reads r hr).1, hb _ (h.reads r hr).2⟩⟩
theorem HoldD.fitsW.ok {d : HoldD} {ws : List Nat} (h : d.fitsW ws) (hw : ws.all (· ≤ reachBytes) = true) (ha : d.acts.length ≤ 1000000) (hr : d.reads.length ≤ 1000000) : d.ok := by
  have hs := h.small hw
  exact ⟨fun a ha => (h.acts a ha).ok hw, ha, hr, hs.ks, hs.vs, fun r hr => (hs.reads r hr).2⟩
def HGood (W : World) (p : HoldV × HoldD) (ws : List Nat) : Prop := p.1.is W (fun _ => False) p.2 ∧ p.2.fitsW ws
theorem Rows.nfree {α : Type} {sz : Nat} {enc : α → List Value} {w : World} {ao : Option Addr} {l : List α} (h : Rows sz enc w.heap.size w ao l) : NRows sz enc (fun _ => False) w ao l := by
  intro hne
  obtain ⟨b, off, rfl, hb, hc⟩ := h hne
  exact ⟨b, off, rfl, hb, fun e => e, hc⟩
end Go.Proofs.YtdjjpnobfopplaaGreatDoor
/- What every lift of this seat uses: all arguments stay, a Name by value is opened. -/
namespace Go.Proofs.YtdjjpnobfopplaaGreatDoor
open Go.ChangeShapes Go.WideShapes Go.ChangeAt Go.RowKit Go.ChangeMaps Go.Joins

theorem laidOut : laidOutB Tryz.prog = true := by kernel_rfl

/-- All arguments read behind the call as they read before it. -/
theorem below_trodAll {H : Type} {enc : TypeId × Value → H} {P : Program} (hl : laidOutB P = true) {W W' : World} (hb : Below W.heap.size W W') :
    ∀ {ts : List TypeId} {vs : List Value} {ds : List (DataW H)} {ps : List MemPlace}, (ts.all fun t => P.readableRec t && decide (t < P.types.size)) = true → DataW.TrodAll enc P W 0 (fun _ => true) true ts vs ds ps → (∀ x ∈ ps, x.block < W.heap.size) →
      DataW.TrodAll enc P W' 0 (fun b => decide (b < W.heap.size)) true ts vs ds ps
  | [], [], [], _, _, h, _ => h
  | [], _ :: _, _, _, _, h, _ => h.elim
  | [], [], _ :: _, _, _, h, _ => h.elim
  | _ :: _, [], _, _, _, h, _ => h.elim
  | _ :: _, _ :: _, [], _, _, h, _ => h.elim
  | t :: ts, v :: vs, d :: ds, _, hr, h, hlt => by
    obtain ⟨p, q, h1, h2, rfl⟩ := h
    rw [List.all_cons, Bool.and_eq_true, Bool.and_eq_true] at hr
    exact ⟨p, q, Below.trod hl hr.1.1 (of_decide_eq_true hr.1.2) h1 hb (fun x hx => hlt x (List.mem_append_left _ hx)), below_trodAll hl hb hr.2 h2 (fun x hx => hlt x (List.mem_append_right _ hx)), rfl⟩

set_option maxRecDepth 100000 in
theorem open_name {H : Type} {enc : TypeId × Value → H} {w : World} {base b0 : Nat} {spare : Nat → Bool} {held : Bool} {r : Reach} {v : Value} {d : DataW H} {p : List MemPlace} (hv : Value.okWide Tryz.prog w r b0 23 v) (h : DataW.Trod enc Tryz.prog w base spare held 23 v d p) :
    ∃ c n : Int, v = .agg #[.int .i64 c, .int .i64 n] ∧ (-9223372036854775808 ≤ c ∧ c ≤ 9223372036854775807) ∧ (-9223372036854775808 ≤ n ∧ n ≤ 9223372036854775807) := by
  obtain ⟨v0, v1, y0, y1, n, rfl, rfl, rfl, h0, h1⟩ := open_agg2 Tryz.underlying23 (by kernel_rfl) (by kernel_rfl) hv h
  obtain ⟨a, e0, -, w0⟩ := DataW.trod_int Tryz.underlying3 h0
  obtain ⟨b, e1, -, w1⟩ := DataW.trod_int Tryz.underlying3 h1
  simp only [List.cons.injEq, and_true] at e0 e1
  subst e0 e1
  exact ⟨a, b, rfl, by simpa [Lit.wf, IntKind.min, IntKind.max, IntKind.signed, IntKind.bits] using w0, by simpa [Lit.wf, IntKind.min, IntKind.max, IntKind.signed, IntKind.bits] using w1⟩
theorem wf_bd {n : Int} (h : (Lit.int .i64 n).wf = true) : -9223372036854775808 ≤ n ∧ n ≤ 9223372036854775807 := by
  simpa [Lit.wf, IntKind.min, IntKind.max, IntKind.signed, IntKind.bits] using h

theorem trodAll_six {H : Type} {enc : TypeId × Value → H} {P : Program} {w : World} {base : Nat} {spare : Nat → Bool} {held : Bool} {t0 t1 t2 t3 t4 t5 : TypeId} {args : Array Value} {ds : List (DataW H)} {ps : List MemPlace} (h : DataW.TrodAll enc P w base spare held [t0, t1, t2, t3, t4, t5] args.toList ds ps) :
    ∃ v0 v1 v2 v3 v4 v5 d0 d1 d2 d3 d4 d5 p0 p1 p2 p3 p4 p5, args = #[v0, v1, v2, v3, v4, v5] ∧ ds = [d0, d1, d2, d3, d4, d5] ∧ ps = p0 ++ p1 ++ p2 ++ p3 ++ p4 ++ p5 ∧ DataW.Trod enc P w base spare held t0 v0 d0 p0 ∧ DataW.Trod enc P w base spare held t1 v1 d1 p1 ∧ DataW.Trod enc P w base spare held t2 v2 d2 p2 ∧ DataW.Trod enc P w base spare held t3 v3 d3 p3 ∧ DataW.Trod enc P w base spare held t4 v4 d4 p4 ∧ DataW.Trod enc P w base spare held t5 v5 d5 p5 := by
  obtain ⟨v0, vs0, d0, ds0, p0, q0, hargs, rfl, rfl, h0, r0⟩ := trodAll_cons h
  obtain ⟨v1, vs1, d1, ds1, p1, q1, rfl, rfl, rfl, h1, r1⟩ := trodAll_cons r0
  obtain ⟨v2, vs2, d2, ds2, p2, q2, rfl, rfl, rfl, h2, r2⟩ := trodAll_cons r1
  obtain ⟨v3, vs3, d3, ds3, p3, q3, rfl, rfl, rfl, h3, r3⟩ := trodAll_cons r2
  obtain ⟨v4, vs4, d4, ds4, p4, q4, rfl, rfl, rfl, h4, r4⟩ := trodAll_cons r3
  obtain ⟨v5, vs5, d5, ds5, p5, q5, rfl, rfl, rfl, h5, r5⟩ := trodAll_cons r4
  obtain ⟨rfl, rfl, rfl⟩ := trodAll_nil r5
  exact ⟨v0, v1, v2, v3, v4, v5, d0, d1, d2, d3, d4, d5, p0, p1, p2, p3, p4, p5, by cases args; simp_all, rfl, by simp, h0, h1, h2, h3, h4, h5⟩
end Go.Proofs.YtdjjpnobfopplaaGreatDoor
/- A span, opened: from the data that a row reads. -/
namespace Go.Proofs.YtdjjpnobfopplaaGreatDoor
open Go.ChangeShapes Go.WideShapes Go.ChangeAt Go.RowKit Go.ChangeMaps Go.Joins

set_option maxRecDepth 10000 in
theorem open_span {H : Type} {enc : TypeId × Value → H} {w : World} {base b0 : Nat} {spare : Nat → Bool} {held : Bool} {r : Reach} {v : Value} {d : DataW H} {p : List MemPlace} (hv : Value.okWide Tryz.prog w r b0 62 v) (h : DataW.Trod enc Tryz.prog w base spare held 62 v d p) :
    ∃ a b : ByteArray, v = .agg #[.string a, .string b] ∧ a.size ∈ DataW.weights Tryz.prog 62 d ∧ b.size ∈ DataW.weights Tryz.prog 62 d := by
  obtain ⟨v0, v1, y0, y1, n, rfl, rfl, rfl, h0, h1⟩ := open_agg2 Tryz.underlying62 (by kernel_rfl) (by kernel_rfl) hv h
  obtain ⟨a, e0, g0, -⟩ := DataW.trod_string Tryz.underlying9 h0
  obtain ⟨b, e1, g1, -⟩ := DataW.trod_string Tryz.underlying9 h1
  simp only [List.cons.injEq, and_true] at e0 e1
  subst e0 e1
  refine ⟨a, b, rfl, ?_, ?_⟩
  · rw [Lib.size_eq]; simp [DataW.weights, Tryz.underlying62, DataW.weightsEach, g0]
  · rw [Lib.size_eq]; simp [DataW.weights, Tryz.underlying62, DataW.weightsEach, g1]
end Go.Proofs.YtdjjpnobfopplaaGreatDoor
