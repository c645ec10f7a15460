/- A map that a call makes, told as a function from keys to values, whatever the values are. -/
import Derived.Maps.Ext
import Derived.Maps.OwnSet
import Derived.Test.YtngahblgicjoiaaGreatDoorBase
namespace Go.Proofs.YtngahblgicjoiaaGreatDoor
open Go.RowKit
open Go.Maps (Keyed)

deriving instance DecidableEq for Go.Lit

def rawR (v : Value) : Option (DataW Value × List MemPlace) := some (.held v, [])
/-- Block b is a map of at most n entries; at key kl it holds val kl, z where nothing stands. -/
structure MapF (P : Program) (k : TypeId) (w : World) (b n : Nat) (z : Value) (val : Lit → Value) (has : Lit → Bool) : Prop where
  own : ∃ D : DataW Value, w.ownsMap P k rawR b n D ∧ (∀ kl, D.atKey kl (.held z) = .held (val kl)) ∧ ∀ kl, Maps.has D kl = has kl
variable {P : Program} {k : TypeId} {w w' : World} {b n : Nat} {z : Value} {val : Lit → Value} {has : Lit → Bool}
theorem MapF.lt (h : MapF P k w b n z val has) : b < w.heap.size := by obtain ⟨D, h, _⟩ := h.own; exact h.lt
theorem MapF.same (h : MapF P k w b n z val has) (hb : w'.heap[b]? = w.heap[b]?) : MapF P k w' b n z val has := by
  obtain ⟨D, ⟨es, c, h1, h2⟩, h3⟩ := h.own
  exact ⟨D, ⟨es, c, hb.trans h1, h2⟩, h3⟩
theorem MapF.ext (h : MapF P k w b n z val has) (hx : Ext w w') : MapF P k w' b n z val has := h.same (hx.block b h.lt)
theorem MapF.mono (h : MapF P k w b n z val has) {m : Nat} (hm : n ≤ m) : MapF P k w b m z val has := by
  obtain ⟨D, h1, h2⟩ := h.own
  exact ⟨D, h1.mono hm, h2⟩
theorem MapF.made (P : Program) (k : TypeId) (w : World) (z : Value) : MapF P k (w.alloc (.map #[] 0)) w.heap.size 0 z (fun _ => z) (fun _ => false) :=
  ⟨_, World.ownsMap_made w P k rawR, fun _ => rfl, fun _ => rfl⟩
/-- A block of cells is no map's. -/
theorem MapF.ne (h : MapF P k w b n z val has) {g : Nat} {cs : Array Value} {t : TypeId} {x : Nat × Nat} (hg : w.heap[g]? = some (.cells cs t x)) : g ≠ b := by
  obtain ⟨D, ⟨es, c, h1, _⟩, _⟩ := h.own
  intro e; subst e; rw [h1] at hg; cases hg
theorem MapF.lookup {t e : TypeId} (h : MapF P k w b n z val has) (K : Keyed P k) (ht : P.underlying t = some (.map k e)) (hz : (zeroValue e).run P w = .ok z w) {key : Value} {kl : Lit} (hkey : keyOf P k key = some kl) :
    (Instr.lookup t (.map (some b)) key false).run P w = .ok (val kl) w := by
  obtain ⟨D, h1, h2, _⟩ := h.own
  obtain ⟨v, ps, hrun, hv⟩ := h1.lookup K ht hz (zd := .held z) (zp := []) rfl hkey
  rw [hrun]
  rw [h2 kl] at hv
  simp only [rawR, Option.some.injEq, Prod.mk.injEq, DataW.held.injEq] at hv
  rw [hv.1]
theorem MapF.update {t e : TypeId} (h : MapF P k w b n z val has) (K : Keyed P k) (ht : P.underlying t = some (.map k e)) (hn : n < maxLen) {key v : Value} {kl : Lit} (hkey : keyOf P k key = some kl) :
    ∃ w', (Instr.mapUpdate t (.map (some b)) key v).run P w = .ok () w' ∧ MapF P k w' b (n + 1) z (fun x => if x = kl then v else val x) (fun x => decide (x = kl) || has x) ∧ w.grownBy w' (some b) := by
  obtain ⟨D, h1, h2, h3⟩ := h.own
  obtain ⟨w', hrun, hown, hg⟩ := h1.update K ht hn (val := v) (d := .held v) (ps := []) hkey rfl
  have hm := h1.isMap
  have hk := K.key hkey
  refine ⟨w', hrun, ⟨_, hown, fun x => ?_, fun x => ?_⟩, hg⟩
  · by_cases e : x = kl
    · subst e; rw [Maps.atKey_put_same hm hk, if_pos rfl]
    · rw [Maps.atKey_put_other e, if_neg e, h2]
  · by_cases e : x = kl
    · subst e; rw [Maps.has_put_same hm hk]; simp
    · rw [Maps.has_put_other e, h3]; simp [e]
/-- Two maps' functions that tell the same. -/
theorem MapF.congr (h : MapF P k w b n z val has) {val' : Lit → Value} {has' : Lit → Bool} (hv : ∀ x, val x = val' x) (hh : ∀ x, has x = has' x) : MapF P k w b n z val' has' := by
  have : val = val' := funext hv
  have h2 : has = has' := funext hh
  subst this; subst h2; exact h
/-- Where nothing stands the map gives z. -/
theorem MapF.off (h : MapF P k w b n z val has) {x : Lit} (hx : has x = false) : val x = z := by
  obtain ⟨D, _, h2, h3⟩ := h.own
  have e := h2 x
  rw [Maps.atKey_of_not_has (by rw [h3]; exact hx)] at e
  exact (DataW.held.inj e).symm

/-- A range over a map under way: left: what is still to come. -/
structure RangeF (P : Program) (k : TypeId) (w : World) (b r n : Nat) (z : Value) (val : Lit → Value) (has : Lit → Bool) (left : Lit → Bool) (cnt : Nat) : Prop where
  own : ∃ D : DataW Value, w.ranges P k rawR b r n D left cnt ∧ (∀ kl, D.atKey kl (.held z) = .held (val kl)) ∧ ∀ kl, Maps.has D kl = has kl
variable {r cnt : Nat} {left : Lit → Bool}
theorem RangeF.map (h : RangeF P k w b r n z val has left cnt) : MapF P k w b n z val has := by obtain ⟨D, h1, h2⟩ := h.own; exact ⟨D, h1.owns, h2⟩
theorem RangeF.lt (h : RangeF P k w b r n z val has left cnt) : r < w.heap.size := by obtain ⟨D, h1, _⟩ := h.own; exact h1.lt
theorem RangeF.left_eq (h : RangeF P k w b r n z val has left cnt) : w.rangeLeft b r = cnt := by obtain ⟨D, h1, _⟩ := h.own; exact h1.left_eq
theorem RangeF.same (h : RangeF P k w b r n z val has left cnt) (hb : w'.heap[b]? = w.heap[b]?) (hr : w'.heap[r]? = w.heap[r]?) : RangeF P k w' b r n z val has left cnt := by
  obtain ⟨D, ⟨es, c, s, sn, c0, h1, h2, h3, h4, h5, h6⟩, h7⟩ := h.own
  exact ⟨D, ⟨es, c, s, sn, c0, hb.trans h1, h2, h3, h4, hr.trans h5, h6⟩, h7⟩
theorem RangeF.ext (h : RangeF P k w b r n z val has left cnt) (hx : Ext w w') : RangeF P k w' b r n z val has left cnt := h.same (hx.block b h.map.lt) (hx.block r h.lt)
theorem wpList_rangeF {ops : Array Oper} {rest : List Oper} {o : Oper} {a : Act} {Q : Exit → Act → World → Prop} (w : World) (hg : o.guard = none) (m : Operand) (t : TypeId) (hop : o.op = Op.range t m) (k e : TypeId) (K : Keyed P k) (ht : P.underlying t = some (.map k e))
    (hm : a.eval m = .map (some b)) (h : MapF P k w b n z val has)
    (hK : ∀ w' cnt, RangeF P k w' b w.heap.size n z val has has cnt → w.grownBy w' none → w'.heap.size = w.heap.size + 1 → wpList P ops Q rest (a.put o.dst (.pointer (some ⟨w.heap.size, 0, none⟩))) w') :
    wpList P ops Q (o :: rest) a w := by
  refine wpList_plain hg fun K' hK' => ?_
  obtain ⟨D, h1, h2, h3⟩ := h.own
  obtain ⟨w', hrun, r1, r2, r3⟩ := h1.range K ht
  unfold Oper.wp
  simp [execOp, hop, hm, hrun, Result.andThen]
  have hh : Maps.has D = has := funext h3
  rw [hh] at r1
  exact hK' _ _ (hK w' _ ⟨D, r1, h2, h3⟩ r2 r3)
theorem wpList_nextF {α : Type} {ops : Array Oper} {rest : List Oper} {o : Oper} {a : Act} {Q : Exit → Act → World → Prop} (w : World) (hg : o.guard = none) (it : Operand) (hop : o.op = Op.next it false) (k : TypeId) (K : Keyed P k) (mkK : α → Value)
    (invK : ∀ key kl, keyOf P k key = some kl → ∃ x, key = mkK x) (hit : a.eval it = .pointer (some ⟨r, 0, none⟩)) (h : RangeF P k w b r n z val has left cnt)
    (hDone : cnt = 0 → (∀ kl, left kl = false) → wpList P ops Q rest (a.put o.dst (.tuple #[.bool false])) w)
    (hMore : ∀ (x : α) (v : Value) (kl : Lit) (w' : World) (cnt' : Nat), keyOf P k (mkK x) = some kl → left kl = true → val kl = v → has kl = true → RangeF P k w' b r n z val has (fun z => left z && !z.sameKey kl) cnt' → cnt' < cnt →
      w.grownBy w' (some r) → w'.heap.size = w.heap.size → (Instr.entry (.pointer (some ⟨r, 0, none⟩))).run P w' = .ok (.tuple #[mkK x, v]) w' → wpList P ops Q rest (a.put o.dst (.tuple #[.bool true, mkK x, v])) w') :
    wpList P ops Q (o :: rest) a w := by
  refine wpList_plain hg fun K' hK' => ?_
  unfold Oper.wp
  obtain ⟨D, h1, h2, h3⟩ := h.own
  rcases h1.next K o.type with ⟨h0, hl, hrun⟩ | ⟨key, v, kl, y, w', cnt', hkey, hlk, hv, hat, hrun, hrg, hlt, hgr, hsz, hen⟩
  · simp [execOp, hop, hit, hrun, Result.andThen]
    exact hK' _ _ (hDone h0 hl)
  · obtain ⟨x, rfl⟩ := invK key kl hkey
    simp [execOp, hop, hit, hrun, Result.andThen]
    have hy : y.1 = .held v := by
      simp only [rawR, Option.some.injEq] at hv
      rw [← hv]
    have e := h2 kl
    rw [hat, hy] at e
    exact hK' _ _ (hMore x v kl w' cnt' hkey hlk (DataW.held.inj e).symm (by rw [← h3]; exact Maps.has_true_of_atKey hat) ⟨D, hrg, h2, h3⟩ hlt hgr hsz hen)
end Go.Proofs.YtngahblgicjoiaaGreatDoor
