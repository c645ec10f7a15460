/- Steps as the program has them; a history in memory. -/
import Derived.Test.YtngahblgicjoiaaGreatDoorWitLaw
import Derived.Test.YtngahblgicjoiaaGreatDoorMapF
import Derived.DeepKeys4
namespace Go.Proofs.YtngahblgicjoiaaGreatDoor
open Go.RowKit
open Go.Maps (Keyed)

/-- A step, and where its rows lie. -/
structure StepZ where
  d : StepD
  ao : Option Addr
  ac : Nat
  ro : Option Addr
  rc : Nat
def encStep (z : StepZ) : List Value := [.int .i64 z.d.cl, .int .i64 z.d.nm, .slice z.ao z.d.acts.length z.ac, .slice z.ro z.d.reads.length z.rc, .int .i64 z.d.ca, .int .i64 z.d.an]
/-- Its rows lie below block B. -/
def StepZ.at (B : Nat) (w : World) (z : StepZ) : Prop := Rows 4 encAct B w z.ao z.d.acts ∧ Rows 3 encRd B w z.ro z.d.reads
theorem StepZ.at.ext {B : Nat} {w w' : World} {z : StepZ} (h : z.at B w) (hx : Below B w w') : z.at B w' := ⟨h.1.ext hx, h.2.ext hx⟩
theorem StepZ.at.mono {B B' : Nat} {w : World} {z : StepZ} (h : z.at B w) (hB : B ≤ B') : z.at B' w := ⟨h.1.mono hB, h.2.mono hB⟩
def i64B (n : Int) : Prop := -9223372036854775808 ≤ n ∧ n ≤ 9223372036854775807
structure StepD.ok (d : StepD) : Prop where
  acts : ∀ a ∈ d.acts, a.ok
  an : d.acts.length ≤ 1000000
  rn : d.reads.length ≤ 1000000
  cl : i64B d.cl
  nm : i64B d.nm
  ca : i64B d.ca
  aw : i64B d.an

theorem wf_i64 {n : Int} (h : i64B n) : (Lit.int .i64 n).wf = true := by
  show (decide (IntKind.min .i64 ≤ n) && decide (n ≤ IntKind.max .i64)) = true
  rw [Bool.and_eq_true]
  exact ⟨decide_eq_true h.1, decide_eq_true h.2⟩
theorem nameKeyed : Keyed Tryz.prog 34 := Keyed.of_law (deep_law_laid (by kernel_rfl) (m := 2) (by omega) (of_decide_eq_true (by kernel_rfl)) (by kernel_rfl) (by kernel_rfl))
theorem strKeyed : Keyed Tryz.prog 9 := Maps.string_keyed Tryz.underlying9
noncomputable def nameLit (p : Int × Int) : Lit := (keyOf Tryz.prog 34 (.agg #[.int .i64 p.1, .int .i64 p.2])).getD (.bool false)
theorem nameLit_key {c n : Int} (hc : i64B c) (hn : i64B n) : keyOf Tryz.prog 34 (.agg #[.int .i64 c, .int .i64 n]) = some (nameLit (c, n)) := by
  have h : (keyOf Tryz.prog 34 (.agg #[.int .i64 c, .int .i64 n])).isSome = true := by
    unfold keyOf
    have hu := Tryz.underlying34
    have hk : Tryz.prog.keyType 34 = true := by kernel_rfl
    have hc2 : Tryz.prog.cellsOf 34 = 2 := by kernel_rfl
    have hci : Tryz.prog.cellsOf 3 = 1 := by kernel_rfl
    have hui := Tryz.underlying3
    have hn2 : ∃ n, Tryz.prog.types.size + 1 = n + 1 + 1 := ⟨Tryz.prog.types.size - 1, by have : 0 < Tryz.prog.types.size := (by decide +kernel); omega⟩
    obtain ⟨m, hm⟩ := hn2
    have w1 := wf_i64 hc
    have w2 := wf_i64 hn
    rw [hm]
    simp [hu, hk, Value.formed, hc2, Program.keyLits, hci, hui, w1, w2, Value.cells]
  obtain ⟨l, hl⟩ := Option.isSome_iff_exists.1 h
  unfold nameLit
  rw [hl]; rfl
theorem nameLit_inj {c n c' n' : Int} (hc : i64B c) (hn : i64B n) (hc' : i64B c') (hn' : i64B n') (h : nameLit (c, n) = nameLit (c', n')) : (c, n) = (c', n') := by
  have h1 := nameLit_key hc hn
  have h2 := nameLit_key hc' hn'
  rw [← h] at h2
  have := nameKeyed.inj h1 h2
  simpa using this
/-- Do names stand there? -/
noncomputable def inNames (ns : List (Int × Int)) (kl : Lit) : Bool := decide (kl ∈ ns.map nameLit)
/-- A history, at block hb, all of it from block B on. -/
structure HistAt (B : Nat) (w : World) (hb : Nat) (h : Hist) (v : Value) (mb n : Nat) : Prop where
  blk : Blk w hb [v, .map (some mb)] 111
  ge : B ≤ hb
  row : w.ownsRow B 73 2 v h.1.length (h.1.flatMap encRw)
  map : MapF Tryz.prog 34 w mb n (.bool false) (fun kl => .bool (inNames h.2 kl)) (inNames h.2)
  mge : B ≤ mb
  rise : RiseR h.1
  ok : ∀ r ∈ h.1, r.ok
  few : n ≤ 1000
  names : ∀ p ∈ h.2, i64B p.1 ∧ i64B p.2
variable {B : Nat} {w w' : World} {hb mb n : Nat} {h : Hist} {v : Value}
theorem HistAt.ext (H : HistAt B w hb h v mb n) (hx : Ext w w') : HistAt B w' hb h v mb n :=
  ⟨H.blk.ext' hx, H.ge, own_ext H.row hx, H.map.ext hx, H.mge, H.rise, H.ok, H.few, H.names⟩
theorem HistAt.lt (H : HistAt B w hb h v mb n) : B < w.heap.size := Nat.lt_of_le_of_lt H.ge H.blk.lt
theorem HistAt.base (H : HistAt B w hb h v mb n) {B' : Nat} (hB : B' ≤ B) : HistAt B' w hb h v mb n :=
  ⟨H.blk, Nat.le_trans hB H.ge, own_base H.row (fun k hk => Nat.le_trans hB (own_ge H.row k hk)), H.map, Nat.le_trans hB H.mge, H.rise, H.ok, H.few, H.names⟩
theorem HistAt.has (H : HistAt B w hb h v mb n) {c m : Int} (hc : i64B c) (hm : i64B m) : inNames h.2 (nameLit (c, m)) = decide ((c, m) ∈ h.2) := by
  unfold inNames
  rw [Bool.eq_iff_iff, decide_eq_true_eq, decide_eq_true_eq, List.mem_map]
  refine ⟨fun ⟨p, hp, he⟩ => ?_, fun hp => ⟨_, hp, rfl⟩⟩
  obtain ⟨p1, p2⟩ := p
  have := H.names _ hp
  rw [← nameLit_inj this.1 this.2 hc hm he]; exact hp
/-- Are two steps the same? -/
def sameN (y x : StepD) : Bool := y.cl == x.cl && y.nm == x.nm
def sameS (y x : StepD) : Bool := sameN y x && (decide (y.acts = x.acts) && (decide (y.reads = x.reads) && ((y.ca == x.ca) && (y.an == x.an))))
theorem sameS_self (x : StepD) : sameS x x = true := by unfold sameS sameN; simp
theorem eql_name (c1 n1 c2 n2 : Int) (w : World) :
    (binOp .eql 34 (.agg #[.int .i64 c1, .int .i64 n1]) (.agg #[.int .i64 c2, .int .i64 n2])).run Tryz.prog w = .ok (.bool (c1 == c2 && n1 == n2)) w := by
  have hS : Tryz.prog.underlying 34 = some (.struct (Tryz.prog.fieldsOf 34)) := by kernel_rfl
  have hp : Tryz.prog.stoodInHeld 34 = false := by kernel_rfl
  have u9 := Tryz.underlying3
  rw [run_eql_struct, show (10000 : Nat) = 9999 + 1 from rfl, run_equalIn_agg w 9999 34 _ _ hS hp]
  simp only [Program.fieldsOf, Tryz.underlying34]
  go_simp
  by_cases h1 : c1 = c2 <;> by_cases h3 : n1 = n2 <;> simp [h1, h3]
end Go.Proofs.YtngahblgicjoiaaGreatDoor
