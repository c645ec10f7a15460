/- Regions whose order is drawn: what a plan of one order says of any other (the law). -/
import Derived.Test.YtedokmdoompidaaGreatDoorEvP
namespace Go.Proofs.YtedokmdoompidaaGreatDoor.Ev

inductive Role where
  | skp
  | rdr
  | alc (blk : Blk) (mk : Nat → AV)
  | wrt
  | pc
  | lit (p : Nat) (qs : List (Nat × Tr AV × AV × AV))

section
variable (σ : Nat → Value)
/-- What an operation does, whatever follows. -/
def OpSnd (P : Program) (GS : Nat → Option Nat) (T : Tr AV) (S : St) (o : Oper) (v : AV) (S' : St) : Prop :=
  ∀ (φ : Phi) (w : World) (a : Act), W σ φ S w → Glob GS φ → TR σ φ T a → ∀ (K : Act → World → Prop) (Q : Exit → Act → World → Prop),
    (∀ u w' φ', Post σ φ S w φ' S' w' → V σ φ' v u → K (a.put o.dst u) w') → o.wp P a w K Q

/-- One order of a region's operations, what it makes, and which come before which. -/
structure Plan (P : Program) (GS : Nat → Option Nat) (nt : Nat) (ops : Array Oper) (T0 : Tr AV) (role : Nat → Role) (Tl : Nat → Tr AV) (Sf : Nat → St) (vf : Nat → AV) (sl : Nat → Option Nat) (bit : Nat → Nat → Bool) : Prop where
  bitlt : ∀ i j, bit i j = true → i < j
  bits : ∀ (X : Nat → Prop), (∀ j o, ops[j]? = some o → X j → ∀ e ∈ o.after, Region.binds .any e = true → X e.on) → ∀ j o, ops[j]? = some o → (∀ e ∈ o.after, Region.binds .any e = true → X e.on) → ∀ i, bit i j = true → X i
  mono : ∀ i, i < ops.size → (Sf i).nx ≤ (Sf (i + 1)).nx
  slt : ∀ i t, i < ops.size → sl i = some t → t < nt
  sli : ∀ i j t, i < ops.size → j < ops.size → sl i = some t → sl j = some t → i = j
  skp : ∀ i o, ops[i]? = some o → role i = .skp → gd ops (Tl i) o = some false ∧ vf i = .tup [] ∧ Sf (i + 1) = Sf i ∧ sl i = o.dst
  rdr : ∀ i o, ops[i]? = some o → role i = .rdr → gd ops (Tl i) o = some true ∧ (∀ n, rd P GS (Tl i) ⟨(Sf i).h, n⟩ o.op = some (vf i)) ∧ Sf (i + 1) = Sf i ∧ sl i = o.dst ∧ ∀ (φ : Phi) u, V σ φ (vf i) u → V σ (φ.below (Sf i).nx) (vf i) u
  alc : ∀ i o blk mk, ops[i]? = some o → role i = .alc blk mk → gd ops (Tl i) o = some true ∧ alA P GS (Tl i) o.op = some (blk, mk) ∧ vf i = mk (Sf i).nx ∧
    (∀ m, (Sf (i + 1)).h.get m = if m = (Sf i).nx then some blk else (Sf i).h.get m) ∧ (Sf (i + 1)).nx = (Sf i).nx + 1 ∧ sl i = o.dst
  wrt : ∀ i o, ops[i]? = some o → role i = .wrt → gd ops (Tl i) o = some true ∧ OpSnd σ P GS (Tl i) (Sf i) o (vf i) (Sf (i + 1)) ∧ sl i = o.dst
  pc : ∀ i o, ops[i]? = some o → role i = .pc → Sf (i + 1) = Sf i ∧ sl i = none ∧ ∃ q p qs, q < ops.size ∧ role q = .lit p qs ∧ (i = p ∨ ∃ e ∈ qs, e.1 = i)
  lit : ∀ q o p qs, ops[q]? = some o → role q = .lit p qs → vf q = .map (Sf q).nx ∧
    (∀ m, (Sf (q + 1)).h.get m = if m = (Sf q).nx then some (.map (qs.map fun e => (e.2.2.1, e.2.2.2))) else (Sf q).h.get m) ∧ (Sf (q + 1)).nx = (Sf q).nx + 1 ∧
    (∃ e ∈ qs, e.1 = q) ∧ (qs.map (·.1)).Nodup ∧ (∀ e ∈ qs, e.1 ≤ q ∧ bit p e.1 = true) ∧
    ∃ m op t, sl q = some m ∧ ops[p]? = some op ∧ role p = .pc ∧ op.op = .makeMap t none ∧ op.guard = none ∧ op.dst = some m ∧
    ∃ kt vt, (∃ tm, P.underlying tm = some (.map kt vt) ∧ keyT P kt = true ∧ ∀ e ∈ qs, ∃ oi kx vx, ops[e.1]? = some oi ∧ (role e.1 = .pc ∨ e.1 = q) ∧ oi.op = .insert tm (.tmp m) kx vx ∧ oi.guard = none ∧ oi.dst = none ∧ opd GS e.2.1 kx = some e.2.2.1 ∧ opd GS e.2.1 vx = some e.2.2.2) ∧
    (∀ e ∈ qs, ∀ e' ∈ qs, e.1 ≠ e'.1 → eqv P ⟨.leaf, 0⟩ 20 kt e.2.2.1 e'.2.2.1 = some false)
  one : ∀ q q' p qs p' qs' i, q < ops.size → q' < ops.size → role q = .lit p qs → role q' = .lit p' qs' → (i = p ∨ ∃ e ∈ qs, e.1 = i) → (i = p' ∨ ∃ e ∈ qs', e.1 = i) → q = q'
  lk : ∀ i t x, i < ops.size → (Tl i).get t = some x → (∃ k, k < ops.size ∧ sl k = some t ∧ x = vf k ∧ k < i ∧ (∀ p qs, role k = .lit p qs → bit p i = true ∧ ∀ e ∈ qs, bit e.1 i = true) ∧ bit k i = true) ∨ (T0.get t = some x ∧ ∀ k, k < ops.size → sl k = some t → ((∀ p qs, role k ≠ .lit p qs) ∧ bit i k = true) ∨ ∃ p qs, role k = .lit p qs ∧ bit i p = true)
  lkl : ∀ q p qs, q < ops.size → role q = .lit p qs → ∀ e ∈ qs, ∀ t x, e.2.1.get t = some x → (∃ k, k < ops.size ∧ sl k = some t ∧ x = vf k ∧ k < e.1 ∧ (∀ p qs, role k = .lit p qs → bit p e.1 = true ∧ ∀ e' ∈ qs, bit e'.1 e.1 = true) ∧ bit k e.1 = true) ∨ (T0.get t = some x ∧ ∀ k, k < ops.size → sl k = some t → ((∀ p qs, role k ≠ .lit p qs) ∧ bit e.1 k = true) ∨ ∃ p qs, role k = .lit p qs ∧ bit e.1 p = true)
  word : ∀ k k', k < ops.size → k' < ops.size → role k = .wrt → role k' = .wrt → k < k' → bit k k' = true
  rck : ∀ i o M, ops[i]? = some o → role i = .rdr → M ≤ ops.size → (M = ops.size ∨ role M = .wrt) → (∃ c, role c = .wrt ∧ c < ops.size ∧ ((i ≤ c ∧ c < M) ∨ (M ≤ c ∧ c < i))) →
    (∀ c, c < ops.size → role c = .wrt → bit c i = true → c < M) → (∀ c, c < ops.size → role c = .wrt → bit i c = true → M ≤ c) →
    ∀ n, rd P GS (Tl i) ⟨(Sf M).h, n⟩ o.op = some (vf i)

variable {P : Program} {GS : Nat → Option Nat} {nt : Nat} {ops : Array Oper} {ds : List Deferred} {T0 : Tr AV} {role : Nat → Role} {Tl : Nat → Tr AV} {Sf : Nat → St} {vf : Nat → AV} {sl : Nat → Option Nat} {bit : Nat → Nat → Bool}

theorem Plan.monoLe (h : Plan σ P GS nt ops T0 role Tl Sf vf sl bit) : ∀ (d i : Nat), i + d ≤ ops.size → (Sf i).nx ≤ (Sf (i + d)).nx
  | 0, i, _ => Nat.le_refl _
  | d + 1, i, hd => Nat.le_trans (h.monoLe d i (by omega)) (h.mono (i + d) (by omega))
theorem Plan.nxLe (h : Plan σ P GS nt ops T0 role Tl Sf vf sl bit) {i j : Nat} (hij : i ≤ j) (hj : j ≤ ops.size) : (Sf i).nx ≤ (Sf j).nx := by
  have := h.monoLe σ (j - i) i (by omega)
  rwa [show i + (j - i) = j by omega] at this
/-- Operations that are no writers leave the older blocks. -/
theorem Plan.stable1 (h : Plan σ P GS nt ops T0 role Tl Sf vf sl bit) {i : Nat} (hi : i < ops.size) (hw : role i ≠ .wrt) {b : Nat} (hb : b < (Sf i).nx) : (Sf (i + 1)).h.get b = (Sf i).h.get b := by
  have ho : ops[i]? = some ops[i] := Array.getElem?_eq_getElem hi
  cases hr : role i with
  | skp => rw [(h.skp i _ ho hr).2.2.1]
  | rdr => rw [(h.rdr i _ ho hr).2.2.1]
  | alc blk mk => rw [(h.alc i _ blk mk ho hr).2.2.2.1 b, if_neg (by omega)]
  | wrt => exact absurd hr hw
  | pc => rw [(h.pc i _ ho hr).1]
  | lit p qs => rw [(h.lit i _ p qs ho hr).2.1 b, if_neg (by omega)]
theorem Plan.stable (h : Plan σ P GS nt ops T0 role Tl Sf vf sl bit) : ∀ (d i : Nat), i + d ≤ ops.size → (∀ c, i ≤ c → c < i + d → role c ≠ .wrt) → ∀ b, b < (Sf i).nx → (Sf (i + d)).h.get b = (Sf i).h.get b
  | 0, i, _, _, b, _ => rfl
  | d + 1, i, hd, hc, b, hb => by
    rw [show i + (d + 1) = (i + d) + 1 by omega, h.stable1 σ (by omega) (hc (i + d) (by omega) (by omega)) (Nat.lt_of_lt_of_le hb (h.monoLe σ d i (by omega)))]
    exact h.stable d i (by omega) (fun c h1 h2 => hc c h1 (by omega)) b hb
theorem Plan.stableLe (h : Plan σ P GS nt ops T0 role Tl Sf vf sl bit) {i j : Nat} (hij : i ≤ j) (hj : j ≤ ops.size) (hc : ∀ c, i ≤ c → c < j → role c ≠ .wrt) {b : Nat} (hb : b < (Sf i).nx) : (Sf j).h.get b = (Sf i).h.get b := by
  have := h.stable σ (j - i) i (by omega) (fun c h1 h2 => hc c h1 (by omega)) b hb
  rwa [show i + (j - i) = j by omega] at this
/-- One new name at most, but by writers. -/
theorem Plan.step1 (h : Plan σ P GS nt ops T0 role Tl Sf vf sl bit) {i : Nat} (hi : i < ops.size) (hw : role i ≠ .wrt) : (Sf (i + 1)).nx ≤ (Sf i).nx + 1 := by
  have ho : ops[i]? = some ops[i] := Array.getElem?_eq_getElem hi
  cases hr : role i with
  | skp => rw [(h.skp i _ ho hr).2.2.1]; omega
  | rdr => rw [(h.rdr i _ ho hr).2.2.1]; omega
  | alc blk mk => rw [(h.alc i _ blk mk ho hr).2.2.2.2.1]; omega
  | wrt => exact absurd hr hw
  | pc => rw [(h.pc i _ ho hr).1]; omega
  | lit p qs => rw [(h.lit i _ p qs ho hr).2.2.1]; omega

/-- What holds when the operations of C are done (M: the next writer). -/
structure Inv (P : Program) (GS : Nat → Option Nat) (nt : Nat) (ops : Array Oper) (ds : List Deferred) (T0 : Tr AV) (role : Nat → Role) (Sf : Nat → St) (vf : Nat → AV) (sl : Nat → Option Nat) (φ0 : Phi) (w0 : World) (C U : Nat → Prop) (M : Nat) (φ : Phi) (a : Act) (w : World) : Prop where
  cut : ∀ c, c < ops.size → role c = .wrt → (C c ↔ c < M)
  cutM : M ≤ ops.size ∧ (M = ops.size ∨ role M = .wrt)
  dm : ∀ i, i ≤ M → ∀ b blk, (Sf i).h.get b = some blk → b < (Sf i).nx
  w_ : W σ (φ.below (Sf M).nx) (Sf M) w
  le0 : φ0.le φ
  dom : ∀ b x, φ b = some x → φ0 b = some x ∨ ((Sf 0).nx ≤ b ∧ ∃ i, i < ops.size ∧ C i ∧ (Sf i).nx ≤ b ∧ b < (Sf (i + 1)).nx)
  late : ∀ i, i < ops.size → M ≤ i → C i → (Sf i).nx < (Sf (i + 1)).nx → ∃ blk r k o, (Sf (i + 1)).h.get (Sf i).nx = some blk ∧ φ (Sf i).nx = some (r, k) ∧ w.heap[r]? = some o ∧ BR σ (φ.below (Sf (i + 1)).nx) blk k o
  early : ∀ i, i < M → ¬ C i → (Sf i).nx < (Sf (i + 1)).nx → (Sf M).h.get (Sf i).nx = (Sf (i + 1)).h.get (Sf i).nx
  inj : ∀ b b' r k k', (Sf M).nx ≤ b → φ b = some (r, k) → φ b' = some (r, k') → b = b'
  lt : ∀ b r k, φ b = some (r, k) → r < w.heap.size
  slots : ∀ i, i < ops.size → C i → ∀ t, sl i = some t → V σ (φ.below (Sf (i + 1)).nx) (vf i) (a.tmps.getD t undef)
  keep : ∀ t x, ¬ U t → T0.get t = some x → V σ φ0 x (a.tmps.getD t undef)
  size : nt ≤ a.tmps.size
  defers : a.defers = ds
  real : ∀ b r k, φ b = some (r, k) → φ0 b = none → w0.heap.size ≤ r ∨ ∃ b0 blk k0, φ0 b0 = some (r, k0) ∧ (Sf 0).h.get b0 = some blk ∧ blk.ro = false
  sz : w0.heap.size ≤ w.heap.size
  frame : ∀ r, r < w0.heap.size → (∀ b blk k, φ0 b = some (r, k) → (Sf 0).h.get b = some blk → blk.ro = true) → w.heap[r]? = w0.heap[r]?
  live : ∀ b blk', b < (Sf 0).nx → (Sf M).h.get b = some blk' → ∃ blk, (Sf 0).h.get b = some blk ∧ blk.ro = blk'.ro
  away : ∀ b, b < (Sf 0).nx → φ0 b = none → (Sf M).h.get b = (Sf 0).h.get b
  rest : w.os = w0.os ∧ w.tape = w0.tape ∧ w.output = w0.output
  dom0 : ∀ b x, φ0 b = some x → b < (Sf 0).nx
  glob : Glob GS φ0

variable {φ0 φ : Phi} {w0 w w' : World} {C U : Nat → Prop} {M : Nat} {a : Act}

theorem Phi.below_some {φ : Phi} {n b : Nat} {x : Nat × Nat} : φ.below n b = some x ↔ b < n ∧ φ b = some x := by
  unfold Phi.below
  split
  · simp_all
  · rename_i h; simp [h]
theorem Phi.below_mono {φ : Phi} {m n : Nat} (h : m ≤ n) : (φ.below m).le (φ.below n) := fun b x hx => by
  rw [Phi.below_some] at hx ⊢; exact ⟨by omega, hx.2⟩
theorem Phi.below_le2 {φ ψ : Phi} (h : φ.le ψ) (n : Nat) : (φ.below n).le (ψ.below n) := fun b x hx => by
  rw [Phi.below_some] at hx ⊢; exact ⟨hx.1, h _ _ hx.2⟩

theorem Act.put_getD_ne {a : Act} {t t' : Nat} (u : Value) (h : t ≠ t') : (a.put (some t) u).tmps.getD t' undef = a.tmps.getD t' undef := by
  simp [Act.put, Array.getElem?_setIfInBounds_ne h]
theorem Act.put_getD_same {a : Act} {t : Nat} (u : Value) (h : t < a.tmps.size) : (a.put (some t) u).tmps.getD t undef = u := by
  simp [Act.put, h]
theorem Act.put_size {a : Act} (d : Option Tmp) (u : Value) : (a.put d u).tmps.size = a.tmps.size := by cases d <;> simp [Act.put]
theorem Act.put_defers' {a : Act} (d : Option Tmp) (u : Value) : (a.put d u).defers = a.defers := by cases d <;> rfl

/-- A slot of an operation that is not done may be written. -/
theorem Inv.put (hp : Plan σ P GS nt ops T0 role Tl Sf vf sl bit) (h : Inv σ P GS nt ops ds T0 role Sf vf sl φ0 w0 C U M φ a w) {d : Option Tmp} (u : Value) (hd : ∀ t, d = some t → ∃ q, q < ops.size ∧ sl q = some t ∧ ¬ C q) : Inv σ P GS nt ops ds T0 role Sf vf sl φ0 w0 C (fun t => U t ∨ d = some t) M φ (a.put d u) w := by
  cases d with
  | none => exact { h with keep := fun t x hU hx => h.keep t x (fun hu => hU (.inl hu)) hx }
  | some t =>
    obtain ⟨q, hq, hs, hc⟩ := hd t rfl
    exact { h with
      slots := fun i hi hci t' ht' => by
        rw [Act.put_getD_ne u (fun e => hc (by rw [hp.sli q i t hq hi hs (e ▸ ht')]; exact hci))]
        exact h.slots i hi hci t' ht'
      keep := fun t' x hU hx => by
        rw [Act.put_getD_ne u (fun e => hU (.inr (by rw [e])))]
        exact h.keep t' x (fun hu => hU (.inl hu)) hx
      size := by rw [Act.put_size]; exact h.size
      defers := by rw [Act.put_defers']; exact h.defers }
theorem Inv.wider {U' : Nat → Prop} (h : Inv σ P GS nt ops ds T0 role Sf vf sl φ0 w0 C U M φ a w) (hU : ∀ t, U t → U' t) : Inv σ P GS nt ops ds T0 role Sf vf sl φ0 w0 C U' M φ a w :=
  { h with keep := fun t x hn hx => h.keep t x (fun hu => hn (hU t hu)) hx }
/-- The heap has grown, or blocks of nobody's have changed. -/
theorem Inv.world (h : Inv σ P GS nt ops ds T0 role Sf vf sl φ0 w0 C U M φ a w) (hsz : w.heap.size ≤ w'.heap.size) (hk : ∀ r, r < w.heap.size → ((∃ b k, φ b = some (r, k)) ∨ r < w0.heap.size) → w'.heap[r]? = w.heap[r]?) (hr : w'.os = w.os ∧ w'.tape = w.tape ∧ w'.output = w.output) : Inv σ P GS nt ops ds T0 role Sf vf sl φ0 w0 C U M φ a w' :=
  { h with
    w_ := {
      at_ := fun b blk r n h1 h2 => by
        obtain ⟨o, h3, h4⟩ := h.w_.at_ b blk r n h1 h2
        exact ⟨o, by rw [hk r (h.w_.lt b r n h2).1 (.inl ⟨b, n, (Phi.below_some.1 h2).2⟩)]; exact h3, h4⟩
      inj := h.w_.inj
      lt := fun b r n h1 => ⟨Nat.lt_of_lt_of_le (h.w_.lt b r n h1).1 hsz, (h.w_.lt b r n h1).2⟩
      dom := h.w_.dom }
    late := fun i hi hM hC hg => by
      obtain ⟨blk, r, k, o, h1, h2, h3, h4⟩ := h.late i hi hM hC hg
      exact ⟨blk, r, k, o, h1, h2, by rw [hk r (h.lt _ _ _ h2) (.inl ⟨_, _, h2⟩)]; exact h3, h4⟩
    lt := fun b r k hb => Nat.lt_of_lt_of_le (h.lt b r k hb) hsz
    sz := Nat.le_trans h.sz hsz
    frame := fun r hr0 hno => by
      rw [hk r (Nat.lt_of_lt_of_le hr0 h.sz) (.inr hr0)]; exact h.frame r hr0 hno
    rest := by obtain ⟨a1, a2, a3⟩ := h.rest; obtain ⟨b1, b2, b3⟩ := hr; exact ⟨b1.trans a1, b2.trans a2, b3.trans a3⟩ }
/-- An operation that lays nothing is done. -/
theorem Inv.add (h : Inv σ P GS nt ops ds T0 role Sf vf sl φ0 w0 C U M φ a w) {i : Nat} (hw : role i ≠ .wrt) (hn : (Sf (i + 1)).nx = (Sf i).nx) (hs : ∀ t, sl i = some t → V σ (φ.below (Sf (i + 1)).nx) (vf i) (a.tmps.getD t undef)) : Inv σ P GS nt ops ds T0 role Sf vf sl φ0 w0 (fun j => C j ∨ j = i) U M φ a w :=
  { h with
    cut := fun c hc hr => by rw [← h.cut c hc hr]; exact ⟨fun h => h.resolve_right (fun e => hw (e ▸ hr)), .inl⟩
    dom := fun b x hb => by
      rcases h.dom b x hb with h1 | ⟨h0, j, h1, h2, h3⟩
      · exact .inl h1
      · exact .inr ⟨h0, j, h1, .inl h2, h3⟩
    late := fun j hj hM hC hg => by
      rcases hC with hC | rfl
      · exact h.late j hj hM hC hg
      · omega
    early := fun j hj hC hg => h.early j hj (fun hc => hC (.inl hc)) hg
    slots := fun j hj hC t ht => by
      rcases hC with hC | rfl
      · exact h.slots j hj hC t ht
      · exact hs t ht }
theorem Phi.set_some {φ : Phi} {c b : Nat} {x y : Nat × Nat} : φ.set c x b = some y ↔ (b = c ∧ y = x) ∨ (b ≠ c ∧ φ b = some y) := by
  unfold Phi.set
  split
  · rename_i h; simp [h, eq_comm]
  · rename_i h; simp [h]
/-- The names of operations that are not done are not known. -/
theorem Inv.fresh (hp : Plan σ P GS nt ops T0 role Tl Sf vf sl bit) (h : Inv σ P GS nt ops ds T0 role Sf vf sl φ0 w0 C U M φ a w) {i : Nat} (hi : i < ops.size) (hC : ¬ C i) {b : Nat} (h1 : (Sf i).nx ≤ b) (h2 : b < (Sf (i + 1)).nx) : φ b = none := by
  cases hb : φ b with
  | none => rfl
  | some x =>
    rcases h.dom b x hb with h3 | ⟨_, j, hj, hCj, h4, h5⟩
    · have h6 := h.dom0 b x h3
      have := hp.nxLe σ (Nat.zero_le i) (by omega)
      omega
    · rcases Nat.lt_trichotomy i j with hlt | heq | hlt
      · have := hp.nxLe σ (show i + 1 ≤ j by omega) (by omega); omega
      · exact absurd (heq ▸ hCj) hC
      · have := hp.nxLe σ (show j + 1 ≤ i by omega) (by omega); omega
/-- An operation that lays one block is done; the block lies in the world. -/
theorem Inv.birth (hp : Plan σ P GS nt ops T0 role Tl Sf vf sl bit) (h : Inv σ P GS nt ops ds T0 role Sf vf sl φ0 w0 C U M φ a w) {i : Nat} (hi : i < ops.size) (hC : ¬ C i) (hw : role i ≠ .wrt) (hn : (Sf (i + 1)).nx = (Sf i).nx + 1) {blk : Blk} (hblk : (Sf (i + 1)).h.get (Sf i).nx = some blk)
    {r k : Nat} {o : Obj} (hr : r < w.heap.size) (ho : w.heap[r]? = some o) (hfr : ∀ b k', φ b ≠ some (r, k')) (hr0 : w0.heap.size ≤ r) (hBR : BR σ ((φ.set (Sf i).nx (r, k)).below (Sf (i + 1)).nx) blk k o)
    (hs : ∀ t, sl i = some t → V σ ((φ.set (Sf i).nx (r, k)).below (Sf (i + 1)).nx) (vf i) (a.tmps.getD t undef)) :
    Inv σ P GS nt ops ds T0 role Sf vf sl φ0 w0 (fun j => C j ∨ j = i) U M (φ.set (Sf i).nx (r, k)) a w := by
  have hnone : φ (Sf i).nx = none := h.fresh σ hp hi hC (Nat.le_refl _) (by omega)
  have hle : φ.le (φ.set (Sf i).nx (r, k)) := fun b x hx => by
    rw [Phi.set_some]; exact .inr ⟨fun e => (by rw [e, hnone] at hx; cases hx), hx⟩
  have h0i := hp.nxLe σ (Nat.zero_le i) (by omega)
  exact {
  cut := fun c hc hr => by rw [← h.cut c hc hr]; exact ⟨fun h => h.resolve_right (fun e => hw (e ▸ hr)), .inl⟩
  cutM := h.cutM
  dm := h.dm
  w_ := {
    at_ := fun b blk' r' n h1 h2 => by
      rw [Phi.below_some, Phi.set_some] at h2
      obtain ⟨hlt, ⟨rfl, h2⟩ | ⟨hne, h2⟩⟩ := h2
      · injection h2 with h3 h4; subst h3; subst h4
        have hiM : i < M := by
          rcases Nat.lt_or_ge i M with h | h'
          · exact h
          · have := hp.nxLe σ h' (by omega); omega
        rw [h.early i hiM hC (by omega), hblk] at h1
        injection h1 with h1; subst h1
        exact ⟨o, ho, hBR.mono σ (Phi.below_mono (hp.nxLe σ (show i + 1 ≤ M by omega) h.cutM.1))⟩
      · obtain ⟨o', h3, h4⟩ := h.w_.at_ b blk' r' n h1 (Phi.below_some.2 ⟨hlt, h2⟩)
        exact ⟨o', h3, h4.mono σ (Phi.below_le2 hle _)⟩
    inj := fun b b' blk1 blk2 r' n n' h1 h2 h3 h4 => by
      rw [Phi.below_some, Phi.set_some] at h3 h4
      obtain ⟨l3, ⟨rfl, e3⟩ | ⟨n3, e3⟩⟩ := h3 <;> obtain ⟨l4, ⟨rfl, e4⟩ | ⟨n4, e4⟩⟩ := h4
      · rfl
      · injection e3 with e3 _; subst e3; exact absurd e4 (hfr _ _)
      · injection e4 with e4 _; subst e4; exact absurd e3 (hfr _ _)
      · exact h.w_.inj b b' blk1 blk2 r' n n' h1 h2 (Phi.below_some.2 ⟨l3, e3⟩) (Phi.below_some.2 ⟨l4, e4⟩)
    lt := fun b r' n hb => by
      rw [Phi.below_some, Phi.set_some] at hb
      obtain ⟨l, ⟨rfl, e⟩ | ⟨_, e⟩⟩ := hb
      · injection e with e _; subst e; exact ⟨hr, l⟩
      · exact ⟨h.lt _ _ _ e, l⟩
    dom := h.w_.dom }
  le0 := Phi.le_trans h.le0 hle
  dom := fun b x hb => by
    rw [Phi.set_some] at hb
    rcases hb with ⟨rfl, rfl⟩ | ⟨_, hb⟩
    · exact .inr ⟨h0i, i, hi, .inr rfl, Nat.le_refl _, by omega⟩
    · rcases h.dom b x hb with h1 | ⟨h0, j, h1, h2, h3⟩
      · exact .inl h1
      · exact .inr ⟨h0, j, h1, .inl h2, h3⟩
  late := fun j hj hM hCj hg => by
    rcases hCj with hCj | rfl
    · obtain ⟨blk', r', k', o', h1, h2, h3, h4⟩ := h.late j hj hM hCj hg
      exact ⟨blk', r', k', o', h1, hle _ _ h2, h3, h4.mono σ (Phi.below_le2 hle _)⟩
    · exact ⟨blk, r, k, o, hblk, Phi.set_some.2 (.inl ⟨rfl, rfl⟩), ho, hBR⟩
  early := fun j hj hCj hg => h.early j hj (fun hc => hCj (.inl hc)) hg
  inj := fun b b' r' k1 k2 hb h3 h4 => by
    rw [Phi.set_some] at h3 h4
    rcases h3 with ⟨rfl, e3⟩ | ⟨n3, e3⟩ <;> rcases h4 with ⟨rfl, e4⟩ | ⟨n4, e4⟩
    · rfl
    · injection e3 with e3 _; subst e3; exact absurd e4 (hfr _ _)
    · injection e4 with e4 _; subst e4; exact absurd e3 (hfr _ _)
    · exact h.inj b b' r' k1 k2 hb e3 e4
  lt := fun b r' n hb => by
    rw [Phi.set_some] at hb
    rcases hb with ⟨rfl, e⟩ | ⟨_, e⟩
    · injection e with e _; subst e; exact hr
    · exact h.lt _ _ _ e
  slots := fun j hj hCj t ht => by
    rcases hCj with hCj | rfl
    · exact V.mono σ (Phi.below_le2 hle _) _ _ (h.slots j hj hCj t ht)
    · exact hs t ht
  keep := h.keep
  size := h.size
  defers := h.defers
  real := fun b r' n hb hb0 => by
    rw [Phi.set_some] at hb
    rcases hb with ⟨rfl, e⟩ | ⟨_, e⟩
    · injection e with e _; subst e; exact .inl hr0
    · exact h.real b r' n e hb0
  sz := h.sz
  frame := h.frame
  live := h.live
  away := h.away
  rest := h.rest
  dom0 := h.dom0
  glob := h.glob }
theorem Inv.wrt_le (hp : Plan σ P GS nt ops T0 role Tl Sf vf sl bit) (h : Inv σ P GS nt ops ds T0 role Sf vf sl φ0 w0 C U M φ a w) (hM : M < ops.size) (hrM : role M = .wrt) {φ1 : Phi} {w1 : World} (hpost : Post σ (φ.below (Sf M).nx) (Sf M) w φ1 (Sf (M + 1)) w1) : φ.le (fun b => if b < (Sf (M + 1)).nx then φ1 b else φ b) := fun b x hx => by
  have hCM : ¬ C M := fun hc => by have := (h.cut M hM hrM).1 hc; omega
  show (if b < (Sf (M + 1)).nx then φ1 b else φ b) = some x
  split
  · rename_i hb
    by_cases hb2 : b < (Sf M).nx
    · exact hpost.le b x (Phi.below_some.2 ⟨hb2, hx⟩)
    · have := h.fresh σ hp hM hCM (by omega) hb; rw [this] at hx; cases hx
  · exact hx
/-- The next writer is done. -/
theorem Inv.wrt (hp : Plan σ P GS nt ops T0 role Tl Sf vf sl bit) (h : Inv σ P GS nt ops ds T0 role Sf vf sl φ0 w0 C U M φ a w) (hM : M < ops.size) (hrM : role M = .wrt) {M' : Nat} (hM1 : M + 1 ≤ M') (hM2 : M' ≤ ops.size ∧ (M' = ops.size ∨ role M' = .wrt)) (hM3 : ∀ c, M + 1 ≤ c → c < M' → role c ≠ .wrt)
    {φ1 : Phi} {w1 : World} (hpost : Post σ (φ.below (Sf M).nx) (Sf M) w φ1 (Sf (M + 1)) w1) (hs : ∀ t, sl M = some t → V σ φ1 (vf M) (a.tmps.getD t undef)) :
    Inv σ P GS nt ops ds T0 role Sf vf sl φ0 w0 (fun j => C j ∨ j = M) U M' (fun b => if b < (Sf (M + 1)).nx then φ1 b else φ b) a w1 := by
  have hCM : ¬ C M := fun hc => by have := (h.cut M hM hrM).1 hc; omega
  have n1 := hp.mono M hM
  have n2 := hp.nxLe σ hM1 hM2.1
  have n0 := hp.nxLe σ (Nat.zero_le M) (by omega)
  -- the new names
  have hle : φ.le (fun b => if b < (Sf (M + 1)).nx then φ1 b else φ b) := fun b x hx => by
    show (if b < (Sf (M + 1)).nx then φ1 b else φ b) = some x
    split
    · rename_i hb
      by_cases hb2 : b < (Sf M).nx
      · exact hpost.le b x (Phi.below_some.2 ⟨hb2, hx⟩)
      · have := h.fresh σ hp hM hCM (by omega) hb; rw [this] at hx; cases hx
    · exact hx
  have h1le : φ1.le (fun b => if b < (Sf (M + 1)).nx then φ1 b else φ b) := fun b x hx => by
    show (if b < (Sf (M + 1)).nx then φ1 b else φ b) = some x
    rw [if_pos (hpost.wr.lt b x.1 x.2 hx).2]; exact hx
  have hold : ∀ b r k, φ b = some (r, k) → (Sf M).nx ≤ b → w1.heap[r]? = w.heap[r]? := fun b r k hb hbM =>
    hpost.frame r (h.lt b r k hb) (fun b1 blk n hb1 hblk => by
      have e := h.inj b b1 r k n hbM hb (Phi.below_some.1 hb1).2
      have := (Phi.below_some.1 hb1).1
      omega)
  have hapart : ∀ b b' r k k', (Sf (M + 1)).nx ≤ b → φ b = some (r, k) → φ1 b' = some (r, k') → False := fun b b' r k k' hb h1 h2 => by
    cases hb' : (φ.below (Sf M).nx) b' with
    | some y =>
      have := hpost.le b' y hb'
      rw [h2] at this; injection this with this; subst this
      have e := h.inj b b' r k k' (by omega) h1 (Phi.below_some.1 hb').2
      have := (Phi.below_some.1 hb').1
      omega
    | none =>
      rcases hpost.real b' r k' h2 hb' with h3 | ⟨b0, blk, k0, h3, _, _⟩
      · have := h.lt b r k h1; omega
      · have e := h.inj b b0 r k k0 (by omega) h1 (Phi.below_some.1 h3).2
        have := (Phi.below_some.1 h3).1
        omega
  have hget : ∀ b, b < (Sf (M + 1)).nx → (Sf M').h.get b = (Sf (M + 1)).h.get b := fun b hb => hp.stableLe σ hM1 hM2.1 hM3 hb
  have key : ∀ d, M + 1 + d ≤ M' → ∀ b blk, (Sf (M + 1 + d)).h.get b = some blk → b < (Sf (M + 1 + d)).nx := fun d => by
    induction d with
    | zero => intro _ b blk hb; exact hpost.wr.dom b blk hb
    | succ d ih =>
      intro hd b blk hb
      have hi : M + 1 + d < ops.size := by omega
      have ho : ops[M + 1 + d]? = some ops[M + 1 + d] := Array.getElem?_eq_getElem hi
      have hnw := hM3 (M + 1 + d) (by omega) (by omega)
      have := hp.mono (M + 1 + d) hi
      have hih := ih (by omega)
      rw [show M + 1 + (d + 1) = (M + 1 + d) + 1 by omega] at hb ⊢
      cases hr : role (M + 1 + d) with
      | skp => rw [(hp.skp _ _ ho hr).2.2.1] at hb ⊢; exact hih b blk hb
      | rdr => rw [(hp.rdr _ _ ho hr).2.2.1] at hb ⊢; exact hih b blk hb
      | alc blk0 mk =>
        obtain ⟨_, _, _, g1, g2, _⟩ := hp.alc _ _ blk0 mk ho hr
        rw [g1] at hb; rw [g2]
        split at hb
        · omega
        · have := hih b blk hb; omega
      | wrt => exact absurd hr hnw
      | pc => rw [(hp.pc _ _ ho hr).1] at hb ⊢; exact hih b blk hb
      | lit p qs =>
        obtain ⟨_, g1, g2, _⟩ := hp.lit _ _ p qs ho hr
        rw [g1] at hb; rw [g2]
        split at hb
        · omega
        · have := hih b blk hb; omega
  -- blocks between
  have hbet : ∀ b r k, φ b = some (r, k) → (Sf (M + 1)).nx ≤ b → b < (Sf M').nx → ∃ i, i < ops.size ∧ M + 1 ≤ i ∧ i < M' ∧ C i ∧ b = (Sf i).nx ∧ (Sf i).nx < (Sf (i + 1)).nx ∧ ∃ blk o, (Sf M').h.get b = some blk ∧ w1.heap[r]? = some o ∧ BR σ (φ.below (Sf (i + 1)).nx) blk k o := fun b r k hb hb1 hb2 => by
    rcases h.dom b _ hb with h3 | ⟨_, i, hi, hCi, h4, h5⟩
    · have := h.dom0 b _ h3; omega
    · have hiM : M + 1 ≤ i := by
        rcases Nat.lt_or_ge i (M + 1) with hlt | hge
        · have := hp.nxLe σ (show i + 1 ≤ M + 1 by omega) (by omega); omega
        · exact hge
      have hiM' : i < M' := by
        rcases Nat.lt_or_ge i M' with hlt | hge
        · exact hlt
        · have := hp.nxLe σ hge (by omega); omega
      have hst := hp.step1 σ hi (hM3 i hiM hiM')
      have hbi : b = (Sf i).nx := by omega
      obtain ⟨blk, r', k', o, g1, g2, g3, g4⟩ := h.late i hi (by omega) hCi (by omega)
      rw [← hbi, hb] at g2
      injection g2 with g2; injection g2 with g2 g2'; subst g2; subst g2'
      refine ⟨i, hi, hiM, hiM', hCi, hbi, by omega, blk, o, ?_, by rw [hold b r k hb (by omega)]; exact g3, g4⟩
      rw [hp.stableLe σ (show i + 1 ≤ M' by omega) hM2.1 (fun c c1 c2 => hM3 c (by omega) c2) (by omega), hbi]
      exact g1
  exact {
  cut := fun c hc hr => by
    constructor
    · rintro (hCc | rfl)
      · have := (h.cut c hc hr).1 hCc; omega
      · omega
    · intro hlt
      rcases Nat.lt_trichotomy c M with hlt' | rfl | hgt
      · exact .inl ((h.cut c hc hr).2 hlt')
      · exact .inr rfl
      · exact absurd hr (hM3 c (by omega) hlt)
  cutM := hM2
  dm := fun i hi b blk hb => by
    rcases Nat.lt_or_ge M i with hlt | hge
    · have := key (i - (M + 1)) (by omega)
      rw [show M + 1 + (i - (M + 1)) = i by omega] at this
      exact this b blk hb
    · exact h.dm i hge b blk hb
  w_ := {
    at_ := fun b blk r k h1 h2 => by
      rw [Phi.below_some] at h2
      obtain ⟨hlt, h2⟩ := h2
      by_cases hb : b < (Sf (M + 1)).nx
      · rw [if_pos hb] at h2
        rw [hget b hb] at h1
        obtain ⟨o, g1, g2⟩ := hpost.wr.at_ b blk r k h1 h2
        refine ⟨o, g1, g2.mono σ (fun c x hx => Phi.below_some.2 ⟨?_, h1le c x hx⟩)⟩
        have := (hpost.wr.lt c x.1 x.2 hx).2; omega
      · rw [if_neg hb] at h2
        obtain ⟨i, hi, hi1, hi2, _, _, _, blk', o, g1, g2, g3⟩ := hbet b r k h2 (by omega) hlt
        rw [g1] at h1; injection h1 with h1; subst h1
        have hin := hp.nxLe σ (show i + 1 ≤ M' by omega) hM2.1
        exact ⟨o, g2, g3.mono σ (Phi.le_trans (Phi.below_le2 hle _) (Phi.below_mono hin))⟩
    inj := fun b b' blk1 blk2 r k k' h1 h2 h3 h4 => by
      rw [Phi.below_some] at h3 h4
      obtain ⟨l3, h3⟩ := h3
      obtain ⟨l4, h4⟩ := h4
      by_cases hb : b < (Sf (M + 1)).nx <;> by_cases hb' : b' < (Sf (M + 1)).nx
      · rw [if_pos hb] at h3; rw [if_pos hb'] at h4
        rw [hget b hb] at h1; rw [hget b' hb'] at h2
        exact hpost.wr.inj b b' blk1 blk2 r k k' h1 h2 h3 h4
      · rw [if_pos hb] at h3; rw [if_neg hb'] at h4
        exact (hapart b' b r k' k (by omega) h4 h3).elim
      · rw [if_neg hb] at h3; rw [if_pos hb'] at h4
        exact (hapart b b' r k k' (by omega) h3 h4).elim
      · rw [if_neg hb] at h3; rw [if_neg hb'] at h4
        exact h.inj b b' r k k' (by omega) h3 h4
    lt := fun b r k hb => by
      rw [Phi.below_some] at hb
      obtain ⟨l, hb⟩ := hb
      by_cases hb' : b < (Sf (M + 1)).nx
      · rw [if_pos hb'] at hb; exact ⟨(hpost.wr.lt b r k hb).1, l⟩
      · rw [if_neg hb'] at hb; exact ⟨Nat.lt_of_lt_of_le (h.lt b r k hb) hpost.sz, l⟩
    dom := fun b blk hb => by
      have := key (M' - (M + 1)) (by omega)
      rw [show M + 1 + (M' - (M + 1)) = M' by omega] at this
      exact this b blk hb }
  le0 := Phi.le_trans h.le0 hle
  dom := fun b x hb => by
    show φ0 b = some x ∨ _
    by_cases hb' : b < (Sf (M + 1)).nx
    · have hb : φ1 b = some x := by rw [if_pos hb'] at hb; exact hb
      rcases hpost.new b x hb with h1 | ⟨_, h2⟩
      · rcases h.dom b x (Phi.below_some.1 h1).2 with h3 | ⟨h0, j, h3, h4, h5⟩
        · exact .inl h3
        · exact .inr ⟨h0, j, h3, .inl h4, h5⟩
      · exact .inr ⟨by omega, M, hM, .inr rfl, h2, hb'⟩
    · have hb : φ b = some x := by rw [if_neg hb'] at hb; exact hb
      rcases h.dom b x hb with h3 | ⟨h0, j, h3, h4, h5⟩
      · exact .inl h3
      · exact .inr ⟨h0, j, h3, .inl h4, h5⟩
  late := fun j hj hMj hCj hg => by
    rcases hCj with hCj | rfl
    · obtain ⟨blk, r, k, o, g1, g2, g3, g4⟩ := h.late j hj (by omega) hCj hg
      have := hp.nxLe σ (show M ≤ j by omega) (by omega)
      exact ⟨blk, r, k, o, g1, hle _ _ g2, by rw [hold _ r k g2 this]; exact g3, g4.mono σ (Phi.below_le2 hle _)⟩
    · omega
  early := fun j hj hCj hg => by
    have hCj1 : ¬ C j := fun hc => hCj (.inl hc)
    rcases Nat.lt_trichotomy j M with hlt | rfl | hgt
    · have e1 := h.early j hlt hCj1 hg
      have hjM := hp.nxLe σ (show j + 1 ≤ M by omega) (by omega)
      have hfr := h.fresh σ hp (show j < ops.size by omega) hCj1 (Nat.le_refl _) hg
      have hb0 : (φ.below (Sf M).nx) (Sf j).nx = none := by
        cases hx : (φ.below (Sf M).nx) (Sf j).nx with
        | none => rfl
        | some y => rw [(Phi.below_some.1 hx).2] at hfr; cases hfr
      rw [hget _ (by omega), hpost.away _ (by omega) hb0, e1]
    · exact absurd (.inr rfl) hCj
    · exact hp.stableLe σ (show j + 1 ≤ M' by omega) hM2.1 (fun c c1 c2 => hM3 c (by omega) c2) hg
  inj := fun b b' r k k' hb h3 h4 => by
    have hb1 : ¬ b < (Sf (M + 1)).nx := by omega
    have h3 : φ b = some (r, k) := by rw [if_neg hb1] at h3; exact h3
    by_cases hb' : b' < (Sf (M + 1)).nx
    · have h4 : φ1 b' = some (r, k') := by rw [if_pos hb'] at h4; exact h4
      exact (hapart b b' r k k' (by omega) h3 h4).elim
    · have h4 : φ b' = some (r, k') := by rw [if_neg hb'] at h4; exact h4
      exact h.inj b b' r k k' (by omega) h3 h4
  lt := fun b r k hb => by
    by_cases hb' : b < (Sf (M + 1)).nx
    · have hb : φ1 b = some (r, k) := by rw [if_pos hb'] at hb; exact hb
      exact (hpost.wr.lt b r k hb).1
    · have hb : φ b = some (r, k) := by rw [if_neg hb'] at hb; exact hb
      exact Nat.lt_of_lt_of_le (h.lt b r k hb) hpost.sz
  slots := fun j hj hCj t ht => by
    rcases hCj with hCj | rfl
    · exact V.mono σ (Phi.below_le2 hle _) _ _ (h.slots j hj hCj t ht)
    · exact V.mono σ (fun c x hx => Phi.below_some.2 ⟨(hpost.wr.lt c x.1 x.2 hx).2, h1le c x hx⟩) _ _ (hs t ht)
  keep := h.keep
  size := h.size
  defers := h.defers
  real := fun b r k hb hb0 => by
    by_cases hb' : b < (Sf (M + 1)).nx
    · have hb : φ1 b = some (r, k) := by rw [if_pos hb'] at hb; exact hb
      cases hx : (φ.below (Sf M).nx) b with
      | some y =>
        have := hpost.le b y hx
        rw [hb] at this; injection this with this; subst this
        exact h.real b r k (Phi.below_some.1 hx).2 hb0
      | none =>
        rcases hpost.real b r k hb hx with h3 | ⟨b1, blk, k1, h3, h4, h5⟩
        · exact .inl (Nat.le_trans h.sz h3)
        · have h3' := (Phi.below_some.1 h3).2
          cases hy : φ0 b1 with
          | none => exact h.real b1 r k1 h3' hy
          | some z =>
            have := h.le0 b1 z hy
            rw [h3'] at this; injection this with this; subst this
            obtain ⟨blk0, g1, g2⟩ := h.live b1 blk (h.dom0 b1 _ hy) h4
            exact .inr ⟨b1, blk0, k1, hy, g1, by rw [g2, h5]⟩
    · have hb : φ b = some (r, k) := by rw [if_neg hb'] at hb; exact hb
      exact h.real b r k hb hb0
  sz := Nat.le_trans h.sz hpost.sz
  frame := fun r hr hno => by
    rw [hpost.frame r (Nat.lt_of_lt_of_le hr h.sz) ?_, h.frame r hr hno]
    intro b blk k hb hblk
    have hb' := (Phi.below_some.1 hb).2
    cases hy : φ0 b with
    | some z =>
      have := h.le0 b z hy
      rw [hb'] at this; injection this with this; subst this
      obtain ⟨blk0, g1, g2⟩ := h.live b blk (h.dom0 b _ hy) hblk
      rw [← g2]; exact hno b blk0 k hy g1
    | none =>
      rcases h.real b r k hb' hy with h3 | ⟨b0, blk0, k0, h3, h4, h5⟩
      · omega
      · rw [hno b0 blk0 k0 h3 h4] at h5; cases h5
  live := fun b blk' hb hblk => by
    rw [hget b (by omega)] at hblk
    obtain ⟨blk1, g1, g2⟩ := hpost.live b blk' (by omega) hblk
    obtain ⟨blk0, g3, g4⟩ := h.live b blk1 hb g1
    exact ⟨blk0, g3, by rw [g4, g2]⟩
  away := fun b hb hb0 => by
    rw [hget b (by omega), hpost.away b (by omega) ?_, h.away b hb hb0]
    cases hx : (φ.below (Sf M).nx) b with
    | none => rfl
    | some y =>
      rcases h.dom b y (Phi.below_some.1 hx).2 with h3 | ⟨h3, _⟩
      · rw [h3] at hb0; cases hb0
      · omega
  rest := by obtain ⟨a1, a2, a3⟩ := h.rest; obtain ⟨b1, b2, b3⟩ := hpost.rest; exact ⟨b1.trans a1, b2.trans a2, b3.trans a3⟩
  dom0 := h.dom0
  glob := h.glob }
end
end Go.Proofs.YtedokmdoompidaaGreatDoor.Ev
