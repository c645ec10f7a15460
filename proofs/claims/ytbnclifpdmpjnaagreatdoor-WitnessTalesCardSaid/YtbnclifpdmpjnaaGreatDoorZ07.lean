/- A map that a call makes, told as a function from keys to values, whatever the values are. -/
import Derived.Maps.Ext
import Derived.Maps.OwnSet
import Derived.Test.YtbnclifpdmpjnaaGreatDoorZ01
import Derived.Test.YtbnclifpdmpjnaaGreatDoorZ06
import Derived.DeepKeys4
import Derived.Test.YtbnclifpdmpjnaaGreatDoorZ05
import Derived.ProofKit
import Derived.Lay
import Derived.LaidMore
import Derived.Stop.Joined
import Derived.Stop.LaidErr
import Derived.Lib.LaidTab
namespace Go.Proofs.YtbnclifpdmpjnaaGreatDoor
open Go.RowKit
open Go.Maps (Keyed)
deriving instance DecidableEq for Go.Lit
def rawR (v : Value) : Option (DataW Value × List MemPlace) := some (.held v, [])
structure MapF (P : Program) (k : TypeId) (w : World) (b n : Nat) (z : Value) (val : Lit → Value) (has : Lit → Bool) : Prop where
  own : ∃ D : DataW Value, w.ownsMap P k rawR b n D ∧ (∀ kl, D.atKey kl (.held z) = .held (val kl)) ∧ ∀ kl, Maps.has D kl = has kl
variable {P : Program} {k : TypeId} {w w' : World} {b n : Nat} {z : Value} {val : Lit → Value} {has : Lit → Bool}
theorem MapF.lt (h : MapF P k w b n z val has) : b < w.heap.size := by obtain ⟨D, h, _⟩ := h.own; exact h.lt
theorem MapF.same (h : MapF P k w b n z val has) (hb : w'.heap[b]? = w.heap[b]?) : MapF P k w' b n z val has := by
  obtain ⟨D, ⟨es, c, h1, h2⟩, h3⟩ := h.own
  exact ⟨D, ⟨es, c, hb.trans h1, h2⟩, h3⟩
theorem MapF.ext (h : MapF P k w b n z val has) (hx : Ext w w') : MapF P k w' b n z val has := h.same (hx.block b h.lt)
theorem MapF.mono (h : MapF P k w b n z val has) {m : Nat} (hm : n ≤ m) : MapF P k w b m z val has := by
  obtain ⟨D, h1, h2⟩ := h.own
  exact ⟨D, h1.mono hm, h2⟩
theorem MapF.made (P : Program) (k : TypeId) (w : World) (z : Value) : MapF P k (w.alloc (.map #[] 0)) w.heap.size 0 z (fun _ => z) (fun _ => false) :=
  ⟨_, World.ownsMap_made w P k rawR, fun _ => rfl, fun _ => rfl⟩
theorem MapF.ne (h : MapF P k w b n z val has) {g : Nat} {cs : Array Value} {t : TypeId} {x : Nat × Nat} (hg : w.heap[g]? = some (.cells cs t x)) : g ≠ b := by
  obtain ⟨D, ⟨es, c, h1, _⟩, _⟩ := h.own
  intro e; subst e; rw [h1] at hg; cases hg
theorem MapF.lookup {t e : TypeId} (h : MapF P k w b n z val has) (K : Keyed P k) (ht : P.underlying t = some (.map k e)) (hz : (zeroValue e).run P w = .ok z w) {key : Value} {kl : Lit} (hkey : keyOf P k key = some kl) :
    (Instr.lookup t (.map (some b)) key false).run P w = .ok (val kl) w := by
  obtain ⟨D, h1, h2, _⟩ := h.own
  obtain ⟨v, ps, hrun, hv⟩ := h1.lookup K ht hz (zd := .held z) (zp := []) rfl hkey
  rw [hrun]
  rw [h2 kl] at hv
  simp only [rawR, Option.some.injEq, Prod.mk.injEq, DataW.held.injEq] at hv
  rw [hv.1]
theorem MapF.update {t e : TypeId} (h : MapF P k w b n z val has) (K : Keyed P k) (ht : P.underlying t = some (.map k e)) (hn : n < maxLen) {key v : Value} {kl : Lit} (hkey : keyOf P k key = some kl) :
    ∃ w', (Instr.mapUpdate t (.map (some b)) key v).run P w = .ok () w' ∧ MapF P k w' b (n + 1) z (fun x => if x = kl then v else val x) (fun x => decide (x = kl) || has x) ∧ w.grownBy w' (some b) := by
  obtain ⟨D, h1, h2, h3⟩ := h.own
  obtain ⟨w', hrun, hown, hg⟩ := h1.update K ht hn (val := v) (d := .held v) (ps := []) hkey rfl
  have hm := h1.isMap
  have hk := K.key hkey
  refine ⟨w', hrun, ⟨_, hown, fun x => ?_, fun x => ?_⟩, hg⟩
  · by_cases e : x = kl
    · subst e; rw [Maps.atKey_put_same hm hk, if_pos rfl]
    · rw [Maps.atKey_put_other e, if_neg e, h2]
  · by_cases e : x = kl
    · subst e; rw [Maps.has_put_same hm hk]; simp
    · rw [Maps.has_put_other e, h3]; simp [e]
theorem MapF.congr (h : MapF P k w b n z val has) {val' : Lit → Value} {has' : Lit → Bool} (hv : ∀ x, val x = val' x) (hh : ∀ x, has x = has' x) : MapF P k w b n z val' has' := by
  have : val = val' := funext hv
  have h2 : has = has' := funext hh
  subst this; subst h2; exact h
theorem MapF.off (h : MapF P k w b n z val has) {x : Lit} (hx : has x = false) : val x = z := by
  obtain ⟨D, _, h2, h3⟩ := h.own
  have e := h2 x
  rw [Maps.atKey_of_not_has (by rw [h3]; exact hx)] at e
  exact (DataW.held.inj e).symm
structure RangeF (P : Program) (k : TypeId) (w : World) (b r n : Nat) (z : Value) (val : Lit → Value) (has : Lit → Bool) (left : Lit → Bool) (cnt : Nat) : Prop where
  own : ∃ D : DataW Value, w.ranges P k rawR b r n D left cnt ∧ (∀ kl, D.atKey kl (.held z) = .held (val kl)) ∧ ∀ kl, Maps.has D kl = has kl
variable {r cnt : Nat} {left : Lit → Bool}
theorem RangeF.map (h : RangeF P k w b r n z val has left cnt) : MapF P k w b n z val has := by obtain ⟨D, h1, h2⟩ := h.own; exact ⟨D, h1.owns, h2⟩
theorem RangeF.lt (h : RangeF P k w b r n z val has left cnt) : r < w.heap.size := by obtain ⟨D, h1, _⟩ := h.own; exact h1.lt
theorem RangeF.left_eq (h : RangeF P k w b r n z val has left cnt) : w.rangeLeft b r = cnt := by obtain ⟨D, h1, _⟩ := h.own; exact h1.left_eq
theorem RangeF.same (h : RangeF P k w b r n z val has left cnt) (hb : w'.heap[b]? = w.heap[b]?) (hr : w'.heap[r]? = w.heap[r]?) : RangeF P k w' b r n z val has left cnt := by
  obtain ⟨D, ⟨es, c, s, sn, c0, h1, h2, h3, h4, h5, h6⟩, h7⟩ := h.own
  exact ⟨D, ⟨es, c, s, sn, c0, hb.trans h1, h2, h3, h4, hr.trans h5, h6⟩, h7⟩
theorem RangeF.ext (h : RangeF P k w b r n z val has left cnt) (hx : Ext w w') : RangeF P k w' b r n z val has left cnt := h.same (hx.block b h.map.lt) (hx.block r h.lt)
theorem wpList_rangeF {ops : Array Oper} {rest : List Oper} {o : Oper} {a : Act} {Q : Exit → Act → World → Prop} (w : World) (hg : o.guard = none) (m : Operand) (t : TypeId) (hop : o.op = Op.range t m) (k e : TypeId) (K : Keyed P k) (ht : P.underlying t = some (.map k e))
    (hm : a.eval m = .map (some b)) (h : MapF P k w b n z val has)
    (hK : ∀ w' cnt, RangeF P k w' b w.heap.size n z val has has cnt → w.grownBy w' none → w'.heap.size = w.heap.size + 1 → wpList P ops Q rest (a.put o.dst (.pointer (some ⟨w.heap.size, 0, none⟩))) w') :
    wpList P ops Q (o :: rest) a w := by
  refine wpList_plain hg fun K' hK' => ?_
  obtain ⟨D, h1, h2, h3⟩ := h.own
  obtain ⟨w', hrun, r1, r2, r3⟩ := h1.range K ht
  unfold Oper.wp
  simp [execOp, hop, hm, hrun, Result.andThen]
  have hh : Maps.has D = has := funext h3
  rw [hh] at r1
  exact hK' _ _ (hK w' _ ⟨D, r1, h2, h3⟩ r2 r3)
theorem wpList_nextF {α : Type} {ops : Array Oper} {rest : List Oper} {o : Oper} {a : Act} {Q : Exit → Act → World → Prop} (w : World) (hg : o.guard = none) (it : Operand) (hop : o.op = Op.next it false) (k : TypeId) (K : Keyed P k) (mkK : α → Value)
    (invK : ∀ key kl, keyOf P k key = some kl → ∃ x, key = mkK x) (hit : a.eval it = .pointer (some ⟨r, 0, none⟩)) (h : RangeF P k w b r n z val has left cnt)
    (hDone : cnt = 0 → (∀ kl, left kl = false) → wpList P ops Q rest (a.put o.dst (.tuple #[.bool false])) w)
    (hMore : ∀ (x : α) (v : Value) (kl : Lit) (w' : World) (cnt' : Nat), keyOf P k (mkK x) = some kl → left kl = true → val kl = v → has kl = true → RangeF P k w' b r n z val has (fun z => left z && !z.sameKey kl) cnt' → cnt' < cnt →
      w.grownBy w' (some r) → w'.heap.size = w.heap.size → (Instr.entry (.pointer (some ⟨r, 0, none⟩))).run P w' = .ok (.tuple #[mkK x, v]) w' → wpList P ops Q rest (a.put o.dst (.tuple #[.bool true, mkK x, v])) w') :
    wpList P ops Q (o :: rest) a w := by
  refine wpList_plain hg fun K' hK' => ?_
  unfold Oper.wp
  obtain ⟨D, h1, h2, h3⟩ := h.own
  rcases h1.next K o.type with ⟨h0, hl, hrun⟩ | ⟨key, v, kl, y, w', cnt', hkey, hlk, hv, hat, hrun, hrg, hlt, hgr, hsz, hen⟩
  · simp [execOp, hop, hit, hrun, Result.andThen]
    exact hK' _ _ (hDone h0 hl)
  · obtain ⟨x, rfl⟩ := invK key kl hkey
    simp [execOp, hop, hit, hrun, Result.andThen]
    have hy : y.1 = .held v := by
      simp only [rawR, Option.some.injEq] at hv
      rw [← hv]
    have e := h2 kl
    rw [hat, hy] at e
    exact hK' _ _ (hMore x v kl w' cnt' hkey hlk (DataW.held.inj e).symm (by rw [← h3]; exact Maps.has_true_of_atKey hat) ⟨D, hrg, h2, h3⟩ hlt hgr hsz hen)
end Go.Proofs.YtbnclifpdmpjnaaGreatDoor
/- Steps as the program has them; a history in memory. -/
namespace Go.Proofs.YtbnclifpdmpjnaaGreatDoor
open Go.RowKit
open Go.Maps (Keyed)
structure StepZ where
  d : StepD
  ao : Option Addr
  ac : Nat
  ro : Option Addr
  rc : Nat
def encStep (z : StepZ) : List Value := [.int .i64 z.d.cl, .int .i64 z.d.nm, .slice z.ao z.d.acts.length z.ac, .slice z.ro z.d.reads.length z.rc, .int .i64 z.d.ca, .int .i64 z.d.an]
def StepZ.at (B : Nat) (w : World) (z : StepZ) : Prop := Rows 4 encAct B w z.ao z.d.acts ∧ Rows 3 encRd B w z.ro z.d.reads
theorem StepZ.at.ext {B : Nat} {w w' : World} {z : StepZ} (h : z.at B w) (hx : Below B w w') : z.at B w' := ⟨h.1.ext hx, h.2.ext hx⟩
theorem StepZ.at.mono {B B' : Nat} {w : World} {z : StepZ} (h : z.at B w) (hB : B ≤ B') : z.at B' w := ⟨h.1.mono hB, h.2.mono hB⟩
def i64B (n : Int) : Prop := -9223372036854775808 ≤ n ∧ n ≤ 9223372036854775807
structure StepD.ok (d : StepD) : Prop where
  acts : ∀ a ∈ d.acts, a.ok
  an : d.acts.length ≤ 1000000
  rn : d.reads.length ≤ 1000000
  cl : i64B d.cl
  nm : i64B d.nm
  ca : i64B d.ca
  aw : i64B d.an
theorem wf_i64 {n : Int} (h : i64B n) : (Lit.int .i64 n).wf = true := by
  show (decide (IntKind.min .i64 ≤ n) && decide (n ≤ IntKind.max .i64)) = true
  rw [Bool.and_eq_true]
  exact ⟨decide_eq_true h.1, decide_eq_true h.2⟩
theorem nameKeyed : Keyed Tryz.prog 26 := Keyed.of_law (deep_law_laid (by kernel_rfl) (m := 2) (by omega) (of_decide_eq_true (by kernel_rfl)) (by kernel_rfl) (by kernel_rfl))
theorem strKeyed : Keyed Tryz.prog 9 := Maps.string_keyed Tryz.underlying9
noncomputable def nameLit (p : Int × Int) : Lit := (keyOf Tryz.prog 26 (.agg #[.int .i64 p.1, .int .i64 p.2])).getD (.bool false)
theorem nameLit_key {c n : Int} (hc : i64B c) (hn : i64B n) : keyOf Tryz.prog 26 (.agg #[.int .i64 c, .int .i64 n]) = some (nameLit (c, n)) := by
  have h : (keyOf Tryz.prog 26 (.agg #[.int .i64 c, .int .i64 n])).isSome = true := by
    unfold keyOf
    have hu := Tryz.underlying26
    have hk : Tryz.prog.keyType 26 = true := by kernel_rfl
    have hc2 : Tryz.prog.cellsOf 26 = 2 := by kernel_rfl
    have hci : Tryz.prog.cellsOf 3 = 1 := by kernel_rfl
    have hui := Tryz.underlying3
    have hn2 : ∃ n, Tryz.prog.types.size + 1 = n + 1 + 1 := ⟨Tryz.prog.types.size - 1, by have : 0 < Tryz.prog.types.size := (by decide +kernel); omega⟩
    obtain ⟨m, hm⟩ := hn2
    have w1 := wf_i64 hc
    have w2 := wf_i64 hn
    rw [hm]
    simp [hu, hk, Value.formed, hc2, Program.keyLits, hci, hui, w1, w2, Value.cells]
  obtain ⟨l, hl⟩ := Option.isSome_iff_exists.1 h
  unfold nameLit
  rw [hl]; rfl
theorem nameLit_inj {c n c' n' : Int} (hc : i64B c) (hn : i64B n) (hc' : i64B c') (hn' : i64B n') (h : nameLit (c, n) = nameLit (c', n')) : (c, n) = (c', n') := by
  have h1 := nameLit_key hc hn
  have h2 := nameLit_key hc' hn'
  rw [← h] at h2
  have := nameKeyed.inj h1 h2
  simpa using this
noncomputable def inNames (ns : List (Int × Int)) (kl : Lit) : Bool := decide (kl ∈ ns.map nameLit)
structure HistAt (B : Nat) (w : World) (hb : Nat) (h : Hist) (v : Value) (mb n : Nat) : Prop where
  blk : Blk w hb [v, .map (some mb)] 155
  ge : B ≤ hb
  row : w.ownsRow B 184 2 v h.1.length (h.1.flatMap encRw)
  map : MapF Tryz.prog 26 w mb n (.bool false) (fun kl => .bool (inNames h.2 kl)) (inNames h.2)
  mge : B ≤ mb
  rise : RiseR h.1
  ok : ∀ r ∈ h.1, r.ok
  few : n ≤ 1000
  names : ∀ p ∈ h.2, i64B p.1 ∧ i64B p.2
variable {B : Nat} {w w' : World} {hb mb n : Nat} {h : Hist} {v : Value}
theorem HistAt.ext (H : HistAt B w hb h v mb n) (hx : Ext w w') : HistAt B w' hb h v mb n :=
  ⟨H.blk.ext' hx, H.ge, own_ext H.row hx, H.map.ext hx, H.mge, H.rise, H.ok, H.few, H.names⟩
theorem HistAt.lt (H : HistAt B w hb h v mb n) : B < w.heap.size := Nat.lt_of_le_of_lt H.ge H.blk.lt
theorem HistAt.base (H : HistAt B w hb h v mb n) {B' : Nat} (hB : B' ≤ B) : HistAt B' w hb h v mb n :=
  ⟨H.blk, Nat.le_trans hB H.ge, own_base H.row (fun k hk => Nat.le_trans hB (own_ge H.row k hk)), H.map, Nat.le_trans hB H.mge, H.rise, H.ok, H.few, H.names⟩
theorem HistAt.has (H : HistAt B w hb h v mb n) {c m : Int} (hc : i64B c) (hm : i64B m) : inNames h.2 (nameLit (c, m)) = decide ((c, m) ∈ h.2) := by
  unfold inNames
  rw [Bool.eq_iff_iff, decide_eq_true_eq, decide_eq_true_eq, List.mem_map]
  refine ⟨fun ⟨p, hp, he⟩ => ?_, fun hp => ⟨_, hp, rfl⟩⟩
  obtain ⟨p1, p2⟩ := p
  have := H.names _ hp
  rw [← nameLit_inj this.1 this.2 hc hm he]; exact hp
theorem eql_name (c1 n1 c2 n2 : Int) (w : World) :
    (binOp .eql 26 (.agg #[.int .i64 c1, .int .i64 n1]) (.agg #[.int .i64 c2, .int .i64 n2])).run Tryz.prog w = .ok (.bool (c1 == c2 && n1 == n2)) w := by
  have hS : Tryz.prog.underlying 26 = some (.struct (Tryz.prog.fieldsOf 26)) := by kernel_rfl
  have hp : Tryz.prog.stoodInHeld 26 = false := by kernel_rfl
  have u9 := Tryz.underlying3
  rw [run_eql_struct, show (10000 : Nat) = 9999 + 1 from rfl, run_equalIn_agg w 9999 26 _ _ hS hp]
  simp only [Program.fieldsOf, Tryz.underlying26]
  go_simp
  by_cases h1 : c1 = c2 <;> by_cases h3 : n1 = n2 <;> simp [h1, h3]
end Go.Proofs.YtbnclifpdmpjnaaGreatDoor
/- Rows of steps, and of lines, opened: from the data that a row reads to the cells that a walk reads. -/
namespace Go.Proofs.YtbnclifpdmpjnaaGreatDoor
open Go.ChangeShapes Go.WideShapes Go.ChangeAt Go.RowKit Go.Deep Go.Joins
section
variable {H : Type} {P : Program} {enc : TypeId × Value → H} {w : World} {base : Nat} {spare : Nat → Bool} {held : Bool}
end
structure SGood (W : World) (z : StepZ) (ws : List Nat) : Prop where
  here : z.at W.heap.size W
  acts : ∀ a ∈ z.d.acts, a.fits ws
  reads : ∀ r ∈ z.d.reads, r.fits ws
  cl : i64B z.d.cl
  nm : i64B z.d.nm
  ca : i64B z.d.ca
  aw : i64B z.d.an
  al : z.d.acts.length ≤ 9223372036854775807
  rl : z.d.reads.length ≤ 9223372036854775807
structure StepD.small (d : StepD) : Prop where
  acts : ∀ a ∈ d.acts, a.ok
  reads : ∀ r ∈ d.reads, r.key.size ≤ 140737488351232 ∧ r.value.size ≤ 140737488351232
  cl : i64B d.cl
  nm : i64B d.nm
  ca : i64B d.ca
  aw : i64B d.an
  al : d.acts.length ≤ 9223372036854775807
  rl : d.reads.length ≤ 9223372036854775807
theorem SGood.small {W : World} {z : StepZ} {ws : List Nat} (h : SGood W z ws) (hw : ws.all (· ≤ reachBytes) = true) : z.d.small := by
  have hb : ∀ k ∈ ws, k ≤ 140737488351232 := fun k hk => of_decide_eq_true (List.all_eq_true.1 hw k hk)
  exact ⟨fun a ha => (h.acts a ha).ok hw, fun r hr => ⟨hb _ (h.reads r hr).1, hb _ (h.reads r hr).2⟩, h.cl, h.nm, h.ca, h.aw, h.al, h.rl⟩
theorem StepD.small.ok {d : StepD} (h : d.small) (ha : d.acts.length ≤ 1000000) (hr : d.reads.length ≤ 1000000) : d.ok := ⟨h.acts, ha, hr, h.cl, h.nm, h.ca, h.aw⟩
theorem SGood.mono {W : World} {q : StepZ} {ws ws' : List Nat} (hw : ∀ z ∈ ws, z ∈ ws') (hq : SGood W q ws) : SGood W q ws' :=
  ⟨hq.here, fun a ha => ⟨(hq.acts a ha).1, (hq.acts a ha).2.1, hw _ (hq.acts a ha).2.2.1, hw _ (hq.acts a ha).2.2.2⟩, fun r hr => ⟨hw _ (hq.reads r hr).1, hw _ (hq.reads r hr).2⟩, hq.cl, hq.nm, hq.ca, hq.aw, hq.al, hq.rl⟩
def RowD.fits (r : RowD) (ws : List Nat) : Prop := r.key.size ∈ ws ∧ r.value.size ∈ ws
theorem RowD.fits.ok {r : RowD} {ws : List Nat} (h : r.fits ws) (hw : ws.all (· ≤ reachBytes) = true) : r.ok := by
  have hb : ∀ k ∈ ws, k ≤ 140737488351232 := fun k hk => of_decide_eq_true (List.all_eq_true.1 hw k hk)
  exact ⟨hb _ h.1, hb _ h.2⟩
end Go.Proofs.YtbnclifpdmpjnaaGreatDoor
/- What the rows' listed variables give the walks; a world in which they hold. -/
namespace Go.Proofs.YtbnclifpdmpjnaaGreatDoor
open Go.RowKit
def laidAllW : List (String × DataW Unit) := [("math/bits.deBruijn32tab", Rows.laid_math_bits_deBruijn32tab), ("math/bits.deBruijn64tab", Rows.laid_math_bits_deBruijn64tab), ("internal/strconv.uint64pow10", Rows.laid_internal_strconv_uint64pow10), ("unicode/utf8.acceptRanges", Rows.laid_unicode_utf8_acceptRanges), ("strconv.ErrRange", Rows.laid_strconv_ErrRange), ("strconv.ErrSyntax", Rows.laid_strconv_ErrSyntax), ("unicode/utf8.first", Rows.laid_unicode_utf8_first)]
theorem door_metW (os : Os) (args : Array Value) : laidMetH Tryz.prog laidAllW ((World.laidAll Tryz.prog os laidAllW).forCall (fun _ _ => 0) ⟨#[], args, []⟩).memory := by
  rw [MakeChecks.laidMetH_plain _ _ _ (by kernel_rfl)]
  exact laidMet_laidAll _ (by kernel_rfl) (by kernel_rfl)
theorem star : "*" ++ "errors.errorString" = "*errors.errorString" := by decide
theorem rowErr (u : TypeId) (h : Tryz.prog.typeName? 3 u = some "*errors.errorString") : u = 343 :=
  typeName_ptr_named (nm := "errors.errorString") (by rw [star]; kernel_rfl) (by kernel_rfl) (by decide) u (by rw [star]; exact h)
theorem pow10_eq : (Rows.laid_internal_strconv_uint64pow10 : DataW Unit) = Lib.tabData .u64 Lib.pow10Tab := by kernel_rfl
theorem lv_of_laid {W : World} (h : laidMetH Tryz.prog laidAllW W) : LV W.heap.size W := by
  rw [MakeChecks.laidMetH_plain _ _ _ (by kernel_rfl)] at h
  have h2 := h.tail.tail
  have h3 := h2.tail.tail
  have h4 := h3.tail
  have t1 : Lib.TabIs Tryz.prog W "internal/strconv.uint64pow10" .u64 Lib.pow10Tab :=
    Lib.tabIs_of_head (rest := _) gPow10 (by kernel_rfl) Tryz.underlying339 Tryz.underlying168 (by kernel_rfl) (by kernel_rfl) (by rw [← pow10_eq]; exact h2)
  obtain ⟨a3, s3, v3, -, -, -⟩ := laid_sentinel h3 gErrRange (by kernel_rfl) Tryz.underlying296 rowErr Tryz.underlying343 Tryz.underlying345 rfl rfl Tryz.underlying9 (by kernel_rfl) (by kernel_rfl)
  obtain ⟨a4, s4, v4, -, -, -⟩ := laid_sentinel h4 gErrSyntax (by kernel_rfl) Tryz.underlying296 rowErr Tryz.underlying343 Tryz.underlying345 rfl rfl Tryz.underlying9 (by kernel_rfl) (by kernel_rfl)
  exact ⟨t1, ⟨_, _, v4⟩, ⟨_, _, v3⟩, var_lt gPow10 t1, var_lt gErrSyntax v4, var_lt gErrRange v3⟩
open Go.ChangeShapes Go.WideShapes Go.ChangeAt Go.Deep Go.Joins
end Go.Proofs.YtbnclifpdmpjnaaGreatDoor
