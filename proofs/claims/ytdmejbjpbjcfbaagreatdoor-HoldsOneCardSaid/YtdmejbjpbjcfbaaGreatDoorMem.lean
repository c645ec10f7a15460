/- Blocks of cells, rows that a call owns, and slices that are read: small facts on worlds. -/
import Derived.Test.YtdmejbjpbjcfbaaGreatDoorBase
import Derived.RangeFuncBox
namespace Go.Proofs.YtdmejbjpbjcfbaaGreatDoor
open Go.RowKit

/-- Block b holds just these cells, none of them frozen. -/
def Blk (w : World) (b : Nat) (cs : List Value) (t : TypeId) : Prop := w.heap[b]? = some (.cells cs.toArray t (0, 0))
theorem Blk.lt {w : World} {b : Nat} {cs : List Value} {t : TypeId} (h : Blk w b cs t) : b < w.heap.size := lt_of_block h
theorem Blk.cell {w : World} {b : Nat} {cs : List Value} {t : TypeId} (h : Blk w b cs t) (i : Nat) : w.cell? ⟨b, i, none⟩ = cs[i]? := by
  rw [cell_of_row w b i _ t _ h]; simp
theorem Blk.free {w : World} {b : Nat} {cs : List Value} {t : TypeId} (h : Blk w b cs t) (i : Nat) : w.frozen? ⟨b, i, none⟩ = false := frozen_of_row w b i _ t h
theorem Blk.set {w : World} {b : Nat} {cs : List Value} {t : TypeId} (h : Blk w b cs t) (i : Nat) (v : Value) : Blk (w.setCell ⟨b, i, none⟩ v) b (cs.set i v) t := by
  unfold Blk
  rw [heap_setCell_same w b i _ t v h]
  simp
theorem Blk.other {w : World} {b : Nat} {cs : List Value} {t : TypeId} (h : Blk w b cs t) {a : Addr} (ha : b ≠ a.block) (v : Value) : Blk (w.setCell a v) b cs t := (heap_setCell_other w a b v ha).trans h
theorem Blk.alloc {w : World} {b : Nat} {cs : List Value} {t : TypeId} (h : Blk w b cs t) (o : Obj) : Blk (w.alloc o) b cs t := (heap_alloc_old w o h.lt).trans h
theorem Blk.drewN {w : World} {b : Nat} {cs : List Value} {t : TypeId} (h : Blk w b cs t) (n : Nat) : Blk (w.drewN n) b cs t := h
theorem Blk.drew {w : World} {b : Nat} {cs : List Value} {t : TypeId} (h : Blk w b cs t) : Blk w.drew b cs t := h
theorem Blk.ext {w w' : World} {b B : Nat} {cs : List Value} {t : TypeId} (h : Blk w b cs t) (hx : Below B w w') (hb : b < B) : Blk w' b cs t := (hx.block b hb).trans h
theorem Blk.ext' {w w' : World} {b : Nat} {cs : List Value} {t : TypeId} (h : Blk w b cs t) (hx : Ext w w') : Blk w' b cs t := h.ext hx h.lt
theorem Blk.grown {w w' : World} {b : Nat} {cs : List Value} {t : TypeId} {row : Option Nat} (h : Blk w b cs t) (hg : w.grownBy w' row) (hr : row ≠ some b) : Blk w' b cs t :=
  (hg.block b h.lt (fun e => hr e.symm)).trans h
theorem Blk.new (w : World) (cs : List Value) (t : TypeId) : Blk (w.alloc (.cells cs.toArray t)) w.heap.size cs t := heap_alloc_new w _

theorem own_ne {w : World} {B : Nat} {e t : TypeId} {size n : Nat} {v : Value} {xs : List Value} {b : Nat} {cs : List Value} (hown : w.ownsRow B e size v n xs) (hb : Blk w b cs t) (hte : t ≠ e) : v.ownBlock ≠ some b := by
  intro h
  rcases hown.2 with ⟨rfl, _⟩ | ⟨g, cap, cur, rfl, _, hg, _⟩
  · simp [Value.ownBlock] at h
  · simp [Value.ownBlock] at h
    subst h
    unfold Blk at hb
    rw [hg] at hb
    simp at hb
    exact hte hb.2.symm
theorem own_ge {w : World} {B : Nat} {e : TypeId} {size n : Nat} {v : Value} {xs : List Value} (hown : w.ownsRow B e size v n xs) : ∀ k, v.ownBlock = some k → B ≤ k := fun k hk => (hown.lt k hk).1
theorem own_ext {w w' : World} {B : Nat} {e : TypeId} {size n : Nat} {v : Value} {xs : List Value} (hown : w.ownsRow B e size v n xs) (hx : Ext w w') : w'.ownsRow B e size v n xs :=
  hown.kept (row := none) ⟨hx.os, hx.tape, hx.output, hx.size, fun k hk _ => hx.block k hk⟩ (by
    cases h : v.ownBlock with
    | none => exact .inl rfl
    | some k => exact .inr (by simp))
theorem own_setOther {w : World} {B : Nat} {e : TypeId} {size n : Nat} {v : Value} {xs : List Value} (hown : w.ownsRow B e size v n xs) {a : Addr} (ha : v.ownBlock ≠ some a.block) (u : Value) : (w.setCell a u).ownsRow B e size v n xs :=
  ownsRow_setCell_other hown ha u
theorem cells_new (w : World) (cs : List Value) (t : TypeId) : ∀ (j : Nat) (u : Value), cs[j]? = some u → (w.alloc (.cells cs.toArray t)).cell? ((⟨w.heap.size, 0, none⟩ : Addr).add j) = some u := by
  intro j u hj
  have h := (Blk.new w cs t).cell j
  rw [hj] at h
  unfold Addr.add
  split
  · rename_i e; subst e; exact h
  · simpa using h

/-- A slice of elements of sz cells each: where there is an element, the address leads to a row below block B whose cells hold the elements. -/
def Rows {α : Type} (sz : Nat) (enc : α → List Value) (B : Nat) (w : World) (ao : Option Addr) (l : List α) : Prop :=
  l ≠ [] → ∃ b off, ao = some ⟨b, off, none⟩ ∧ b < B ∧ ∀ (i : Nat) (x : α), l[i]? = some x → ∀ (j : Nat) (v : Value), (enc x)[j]? = some v → w.cell? ⟨b, off + i * sz + j, none⟩ = some v
theorem Rows.nil {α : Type} (sz : Nat) (enc : α → List Value) (B : Nat) (w : World) (ao : Option Addr) : Rows sz enc B w ao [] := fun h => absurd rfl h
theorem Rows.ext {α : Type} {sz : Nat} {enc : α → List Value} {B : Nat} {w w' : World} {ao : Option Addr} {l : List α} (h : Rows sz enc B w ao l) (hx : Below B w w') : Rows sz enc B w' ao l := by
  intro hne
  obtain ⟨b, off, rfl, hb, hc⟩ := h hne
  exact ⟨b, off, rfl, hb, fun i x hi j v hj => (hx.cell (p := ⟨b, _, none⟩) hb).trans (hc i x hi j v hj)⟩
theorem Rows.mono {α : Type} {sz : Nat} {enc : α → List Value} {B B' : Nat} {w : World} {ao : Option Addr} {l : List α} (h : Rows sz enc B w ao l) (hB : B ≤ B') : Rows sz enc B' w ao l := by
  intro hne
  obtain ⟨b, off, rfl, hb, hc⟩ := h hne
  exact ⟨b, off, rfl, by omega, hc⟩
theorem Rows.take {α : Type} {sz : Nat} {enc : α → List Value} {B : Nat} {w : World} {ao : Option Addr} {l : List α} (h : Rows sz enc B w ao l) (k : Nat) : Rows sz enc B w ao (l.take k) := by
  intro hne
  obtain ⟨b, off, rfl, hb, hc⟩ := h (fun e => hne (by rw [e]; simp))
  refine ⟨b, off, rfl, hb, fun i x hi => hc i x ?_⟩
  rw [List.getElem?_take] at hi
  split at hi
  · exact hi
  · cases hi
theorem Rows.drop {α : Type} {sz : Nat} {enc : α → List Value} {B b off : Nat} {w : World} {l : List α} (h : Rows sz enc B w (some ⟨b, off, none⟩) l) (k : Nat) : Rows sz enc B w (some ⟨b, off + k * sz, none⟩) (l.drop k) := by
  intro hne
  obtain ⟨b', off', he, hb, hc⟩ := h (fun e => hne (by rw [e]; simp))
  obtain ⟨rfl, rfl⟩ : b = b' ∧ off = off' := by simpa using he
  refine ⟨b, _, rfl, hb, fun i x hi j v hj => ?_⟩
  have := hc (k + i) x (by simpa using hi) j v hj
  rw [show off + k * sz + i * sz + j = off + (k + i) * sz + j from by rw [Nat.add_mul]; omega]
  exact this
theorem flat_at {α : Type} {sz : Nat} {enc : α → List Value} (hsz : ∀ x, (enc x).length = sz) : ∀ (l : List α) (i : Nat) (x : α), l[i]? = some x → ∀ (j : Nat) (v : Value), (enc x)[j]? = some v → (l.flatMap enc)[i * sz + j]? = some v := by
  intro l
  induction l with
  | nil => intro i x hi; simp at hi
  | cons y l ih =>
    intro i x hi j v hj
    have hj' : j < sz := by rw [← hsz x]; exact (List.getElem?_eq_some_iff.1 hj).1
    cases i with
    | zero =>
      simp at hi; subst hi
      rw [List.flatMap_cons, List.getElem?_append_left (by rw [hsz]; omega)]
      simpa using hj
    | succ i =>
      rw [List.flatMap_cons, List.getElem?_append_right (by rw [hsz, Nat.succ_mul]; omega), hsz]
      rw [show (i + 1) * sz + j - sz = i * sz + j from by rw [Nat.succ_mul]; omega]
      exact ih i x (by simpa using hi) j v hj
/-- What an owned row reads as. -/
theorem Rows.own {α : Type} {sz : Nat} {enc : α → List Value} {B : Nat} {e : TypeId} {w : World} {v : Value} {l : List α} (hsz : ∀ x, (enc x).length = sz) (h : w.ownsRow B e sz v l.length (l.flatMap enc)) :
    ∃ ao cap, v = .slice ao l.length cap ∧ l.length ≤ cap ∧ cap ≤ maxLen ∧ Rows sz enc w.heap.size w ao l := by
  obtain ⟨hlen, h2⟩ := h
  rcases h2 with ⟨rfl, h0⟩ | ⟨g, cap, cur, rfl, hB, hg, hn, hm, hcs, htk⟩
  · have : l = [] := List.eq_nil_of_length_eq_zero h0
    subst this
    exact ⟨none, 0, rfl, Nat.le_refl _, by simp [maxLen], Rows.nil _ _ _ _ _⟩
  · refine ⟨_, cap, rfl, hn, hm, fun _ => ⟨g, 0, rfl, lt_of_block hg, fun i x hi j v hj => ?_⟩⟩
    have hj' : j < sz := by rw [← hsz x]; exact (List.getElem?_eq_some_iff.1 hj).1
    have hi' : i < l.length := (List.getElem?_eq_some_iff.1 hi).1
    have key : (l.flatMap enc)[i * sz + j]? = some v := flat_at hsz l i x hi j v hj
    rw [cell_of_row w g _ cur e _ hg]
    rw [← htk] at key
    rw [List.getElem?_take] at key
    split at key
    · simpa using key
    · cases key

/-- Of what lay in w only blocks of S may have turned. -/
structure But (S : Nat → Prop) (w w' : World) : Prop where
  os : w'.os = w.os
  tape : w'.tape = w.tape
  output : w'.output = w.output
  size : w.heap.size ≤ w'.heap.size
  block : ∀ k, k < w.heap.size → ¬ S k → w'.heap[k]? = w.heap[k]?
theorem But.refl (S : Nat → Prop) (w : World) : But S w w := ⟨rfl, rfl, rfl, Nat.le_refl _, fun _ _ _ => rfl⟩
theorem But.trans {S T U : Nat → Prop} {a b c : World} (h : But S a b) (k : But T b c) (hS : ∀ i, i < a.heap.size → S i → U i) (hT : ∀ i, i < a.heap.size → T i → U i) : But U a c :=
  ⟨k.os.trans h.os, k.tape.trans h.tape, k.output.trans h.output, Nat.le_trans h.size k.size, fun i hi hU =>
    (k.block i (Nat.lt_of_lt_of_le hi h.size) (fun e => hU (hT i hi e))).trans (h.block i hi (fun e => hU (hS i hi e)))⟩
theorem But.mono {S T : Nat → Prop} {a b : World} (h : But S a b) (hS : ∀ i, i < a.heap.size → S i → T i) : But T a b := ⟨h.os, h.tape, h.output, h.size, fun i hi hT => h.block i hi fun e => hT (hS i hi e)⟩
theorem But.ext {S : Nat → Prop} {a b : World} (h : But S a b) (hS : ∀ i, i < a.heap.size → ¬ S i) : Ext a b := ⟨h.os, h.tape, h.output, h.size, fun i hi => h.block i hi (hS i hi)⟩
theorem Ext.but {a b : World} (h : Ext a b) (S : Nat → Prop) : But S a b := ⟨h.os, h.tape, h.output, h.size, fun i hi _ => h.block i hi⟩
theorem But.below {S : Nat → Prop} {a b : World} {B : Nat} (h : But S a b) (hB : B ≤ a.heap.size) (hS : ∀ i, S i → B ≤ i) : Below B a b :=
  ⟨h.os, h.tape, h.output, h.size, fun i hi => h.block i (by omega) (fun e => by have := hS i e; omega)⟩
theorem But.of_grown {a b : World} {row : Option Nat} (h : a.grownBy b row) : But (fun k => row = some k) a b := ⟨h.os, h.tape, h.output, h.size, fun i hi hS => h.block i hi fun e => hS e.symm⟩
theorem But.alloc {S : Nat → Prop} {a b : World} (h : But S a b) (o : Obj) : But S a (b.alloc o) :=
  h.trans ((Below.refl _ b).alloc (Nat.le_refl _) o |> fun x => Ext.but x (fun _ => False)) (fun _ _ e => e) (fun _ _ e => e.elim)
theorem But.drew {S : Nat → Prop} {a b : World} (h : But S a b) : But S a b.drew := ⟨h.os, h.tape, h.output, h.size, h.block⟩
theorem But.drewN {S : Nat → Prop} {a b : World} (h : But S a b) (n : Nat) : But S a (b.drewN n) := ⟨h.os, h.tape, h.output, h.size, h.block⟩
theorem But.setCell {S : Nat → Prop} {a b : World} (h : But S a b) {p : Addr} (hp : p.block < a.heap.size → S p.block) (u : Value) : But S a (b.setCell p u) :=
  ⟨h.os, h.tape, h.output, by simpa using h.size, fun i hi hS => by
    rw [heap_setCell_other b p i u (fun e => hS (e ▸ hp (e ▸ hi)))]
    exact h.block i hi hS⟩
theorem But.cell {S : Nat → Prop} {a b : World} (h : But S a b) {p : Addr} (hp : p.block < a.heap.size) (hS : ¬ S p.block) : b.cell? p = a.cell? p := World.cell?_of_block (w := a) (h.block p.block hp hS)
theorem Blk.but {S : Nat → Prop} {w w' : World} {b : Nat} {cs : List Value} {t : TypeId} (h : Blk w b cs t) (hx : But S w w') (hS : ¬ S b) : Blk w' b cs t := (hx.block b h.lt hS).trans h
theorem own_but {S : Nat → Prop} {w w' : World} {B : Nat} {e : TypeId} {size n : Nat} {v : Value} {xs : List Value} (h : w.ownsRow B e size v n xs) (hx : But S w w') (hS : ∀ k, v.ownBlock = some k → ¬ S k) : w'.ownsRow B e size v n xs := by
  obtain ⟨h1, h2⟩ := h
  refine ⟨h1, ?_⟩
  rcases h2 with h2 | ⟨g, cap, cur, rfl, hB, hg, r⟩
  · exact .inl h2
  · exact .inr ⟨g, cap, cur, rfl, hB, (hx.block g (lt_of_block hg) (hS g rfl)).trans hg, r⟩
theorem own_base {w : World} {B B' : Nat} {e : TypeId} {size n : Nat} {v : Value} {xs : List Value} (h : w.ownsRow B e size v n xs) (hB : ∀ k, v.ownBlock = some k → B' ≤ k) : w.ownsRow B' e size v n xs := by
  obtain ⟨h1, h2⟩ := h
  refine ⟨h1, ?_⟩
  rcases h2 with h2 | ⟨g, cap, cur, rfl, _, r⟩
  · exact .inl h2
  · exact .inr ⟨g, cap, cur, rfl, hB g rfl, r⟩
theorem Rows.but {α : Type} {sz : Nat} {enc : α → List Value} {B : Nat} {S : Nat → Prop} {w w' : World} {ao : Option Addr} {l : List α} (h : Rows sz enc B w ao l) (hx : But S w w') (hB : B ≤ w.heap.size) (hS : ∀ k, k < B → ¬ S k) : Rows sz enc B w' ao l :=
  h.ext (⟨hx.os, hx.tape, hx.output, hx.size, fun i hi => hx.block i (by omega) (hS i hi)⟩ : Below B w w')

/-- Where the row lies that an append leaves: where it lay, or in the one new block. -/
def Kept1 (w : World) (v v' : Value) : Prop := ∀ k, v'.ownBlock = some k → v.ownBlock = some k ∨ w.heap.size ≤ k
section
variable {P : Program} (w : World)
theorem append_where (base : Nat) (t ty e : TypeId) (i : TypeInfo) (z : Value) (size bytes : Nat) (ht : P.underlying t = some (.slice e)) (hi : P.info? e = some i) (hz : i.zero = some z)
    (hsize : i.size = size) (hby : i.bytes = bytes) (v : Value) (n : Nat) (xs : List Value) (hown : w.ownsRow base e size v n xs)
    (a : Addr) (m c : Nat) (news : List Value) (hl : news.length = m * size) (hnews : ∀ (j : Nat) (u : Value), news[j]? = some u → w.cell? (a.add j) = some u) (h1 : ∀ u ∈ news, u.oneCell' = true) (h0 : 0 < m)
    (h63 : n + m ≤ maxLen) (hbytes : (n + m) * bytes ≤ 140737488355328) (v' : Value) (w' : World) (hr : (Builtin.append_ #[t, t] ty #[v, .slice (some a) m c]).run P w = .ok v' w') : Kept1 w v v' := by
  subst hsize; subst hby
  simp only [maxLen] at h63
  rcases hown.2 with ⟨rfl, rfl⟩ | ⟨g, cap, cur, rfl, _, hg, hnc, _, hcs, _⟩
  · rw [run_append_nil (P := P) w t ty e i z ht hi hz a m c news hl hnews h0 (by omega) (by simp only [Nat.zero_add] at hbytes; omega)] at hr
    injection hr with hr _
    subst hr
    intro k hk
    simp [Value.ownBlock] at hk
    right; omega
  · by_cases hroom : n + m ≤ cap
    · have hfit : n * i.size + news.length ≤ cur.size := by rw [hl, hcs, ← Nat.add_mul]; exact Nat.mul_le_mul_right _ hroom
      rw [run_append_room (P := P) w t ty e i ht hi g n cap cur hg a m c news hl hnews h1 hroom hfit] at hr
      injection hr with hr _
      subst hr
      intro k hk
      left; exact hk
    · rw [run_append_grow (P := P) w t ty e i z ht hi hz ⟨g, 0, none⟩ n cap xs hown.1 (hown.cells (g := g) rfl) a m c news hl hnews (by omega) (by omega) (growslice_fits (by omega) hbytes)] at hr
      injection hr with hr _
      subst hr
      intro k hk
      simp [Value.ownBlock] at hk
      right; omega
theorem wpList_append_at {ops : Array Oper} {rest : List Oper} {o : Oper} {a : Act} {Q : Exit → Act → World → Prop} (hgd : o.guard = none) (s x : Operand) (t : TypeId)
    (ho : o.op = .call { callee := .builtin .append, args := #[s, x], argTypes := #[t, t] })
    (e : TypeId) (i : TypeInfo) (z : Value) (size bytes : Nat) (ht : P.underlying t = some (.slice e)) (hi : P.info? e = some i) (hz : i.zero = some z)
    (hsize : i.size = size) (hby : i.bytes = bytes) (hzs : z.cells.size = size) (hsz : 0 < size)
    (v : Value) (n : Nat) (xs : List Value) (hs : a.eval s = v) (hown : w.ownsRow 0 e size v n xs)
    (ad : Addr) (m c : Nat) (news : List Value) (hx : a.eval x = .slice (some ad) m c) (hl : news.length = m * size) (hnews : ∀ (j : Nat) (u : Value), news[j]? = some u → w.cell? (ad.add j) = some u) (h1 : ∀ u ∈ news, u.oneCell' = true) (h0 : 0 < m)
    (h63 : n + m ≤ maxLen) (hbytes : (n + m) * bytes ≤ 140737488355328)
    (h : ∀ g cap w', w'.ownsRow 0 e size (.slice (some ⟨g, 0, none⟩) (n + m) cap) (n + m) (xs ++ news) → But (fun k => v.ownBlock = some k) w w' → Kept1 w v (.slice (some ⟨g, 0, none⟩) (n + m) cap) → wpList P ops Q rest (a.put o.dst (.slice (some ⟨g, 0, none⟩) (n + m) cap)) w') : wpList P ops Q (o :: rest) a w := by
  refine wpList_plain hgd fun K hK => ?_
  obtain ⟨v', w', hr, h2, h3, h4⟩ := run_append_own (P := P) w 0 t o.type e i z size bytes ht hi hz hsize hby hzs hsz v n xs hown ad m c news hl hnews h1 h63 hbytes (Nat.zero_le _)
  have h5 := append_where (P := P) w 0 t o.type e i z size bytes ht hi hz hsize hby v n xs hown ad m c news hl hnews h1 h0 h63 hbytes v' w' hr
  obtain ⟨g, cap, rfl⟩ : ∃ g cap, v' = .slice (some ⟨g, 0, none⟩) (n + m) cap := by
    rcases h2.2 with ⟨_, h6⟩ | ⟨g, cap, _, h6, _⟩
    · omega
    · exact ⟨g, cap, h6⟩
  unfold Oper.wp execOp
  simp only [ho, resolve, invoke, builtin, Sem.run_bind, Sem.run_pure, Result.andThen_ok, List.map_toArray, List.map_cons, List.map_nil, hs, hx, hr]
  exact hK _ _ (h g cap w' h2 (.of_grown h3) h5)
end
end Go.Proofs.YtdmejbjpbjcfbaaGreatDoor
