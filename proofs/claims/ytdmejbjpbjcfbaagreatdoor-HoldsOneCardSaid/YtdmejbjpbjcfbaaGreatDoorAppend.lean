/- append(s, x...) where s is a row of the call's own and x any row, the empty one too. -/
import Derived.Test.YtdmejbjpbjcfbaaGreatDoorMem
import Derived.Deep.Upon
namespace Go.Proofs.YtdmejbjpbjcfbaaGreatDoor
open Go.RowKit

/-- Cells by a row's elements: the cell of number j. -/
theorem Rows.flat {α : Type} {sz : Nat} {enc : α → List Value} (hsz : ∀ x, (enc x).length = sz) (h0 : 0 < sz) {b off : Nat} {w : World} : ∀ (l : List α) (_ : ∀ (i : Nat) (x : α), l[i]? = some x → ∀ (j : Nat) (v : Value), (enc x)[j]? = some v → w.cell? ⟨b, off + i * sz + j, none⟩ = some v)
    (j : Nat) (u : Value), (l.flatMap enc)[j]? = some u → w.cell? ((⟨b, off, none⟩ : Addr).add j) = some u := by
  intro l h j u hj
  have hlen : (l.flatMap enc).length = l.length * sz := by
    clear h hj
    induction l with
    | nil => simp
    | cons y l ih => rw [List.flatMap_cons, List.length_append, hsz, ih, List.length_cons, Nat.succ_mul]; omega
  have hjl : j < l.length * sz := by rw [← hlen]; exact (List.getElem?_eq_some_iff.1 hj).1
  have hil : j / sz < l.length := Nat.div_lt_of_lt_mul (by rw [Nat.mul_comm]; exact hjl)
  obtain ⟨x, hx⟩ : ∃ x, l[j / sz]? = some x := ⟨_, List.getElem?_eq_getElem hil⟩
  have hjm : j % sz < (enc x).length := by rw [hsz]; exact Nat.mod_lt _ h0
  obtain ⟨v, hv⟩ : ∃ v, (enc x)[j % sz]? = some v := ⟨_, List.getElem?_eq_getElem hjm⟩
  have e1 := flat_at hsz l (j / sz) x hx (j % sz) v hv
  have e0 : j / sz * sz + j % sz = j := by rw [Nat.mul_comm]; exact Nat.div_add_mod j sz
  rw [e0, hj] at e1
  cases e1
  have := h _ x hx _ _ hv
  rw [Nat.add_assoc, e0] at this
  unfold Addr.add
  split
  · rename_i e; subst e; simpa using this
  · simpa using this

section
variable {P : Program} {w : World}
theorem wpList_append_rows {α : Type} {enc : α → List Value} {size : Nat} (hsz : ∀ x, (enc x).length = size) (hone : ∀ x, ∀ u ∈ enc x, u.oneCell' = true) {ops : Array Oper} {rest : List Oper} {o : Oper} {a : Act} {Q : Exit → Act → World → Prop} (hgd : o.guard = none) (s x : Operand) (t : TypeId)
    (ho : o.op = .call { callee := .builtin .append, args := #[s, x], argTypes := #[t, t] })
    (e : TypeId) (i : TypeInfo) (z : Value) (bytes : Nat) (ht : P.underlying t = some (.slice e)) (hi : P.info? e = some i) (hz : i.zero = some z)
    (hsize : i.size = size) (hby : i.bytes = bytes) (hzs : z.cells.size = size) (h0 : 0 < size)
    (v : Value) (n : Nat) (xs : List Value) (hs : a.eval s = v) (hown : w.ownsRow 0 e size v n xs)
    (xo : Option Addr) (l : List α) (c : Nat) (hx : a.eval x = .slice xo l.length c) (hr : Rows size enc w.heap.size w xo l)
    (h63 : n + l.length ≤ maxLen) (hbytes : (n + l.length) * bytes ≤ 140737488355328)
    (h : ∀ v' w', w'.ownsRow 0 e size v' (n + l.length) (xs ++ l.flatMap enc) → But (fun k => v.ownBlock = some k) w w' → Kept1 w v v' → wpList P ops Q rest (a.put o.dst v') w') : wpList P ops Q (o :: rest) a w := by
  by_cases hl : l = []
  · subst hl
    refine wpList_plain hgd fun K hK => ?_
    obtain ⟨so, scap, rfl, hle⟩ : ∃ so scap, v = .slice so n scap ∧ n ≤ scap := by
      rcases hown.2 with ⟨rfl, rfl⟩ | ⟨g, cap, cur, rfl, _, _, hnc, _⟩
      · exact ⟨none, 0, rfl, Nat.le_refl _⟩
      · exact ⟨_, cap, rfl, hnc⟩
    have hsrc : Go.Src P i.size t (.slice xo 0 c) 0 [] w := by
      cases xo with
      | none => exact Go.Src.ofNil _ ht c
      | some ad => exact Go.Src.ofSlice _ ht ad 0 c [] (by simp) (by simp) (by simp)
    have hrun := Go.run_append_nothing w t t o.type e i ht hi so n scap hle _ hsrc
    unfold Oper.wp execOp
    simp only [ho, resolve, invoke, builtin, Sem.run_bind, Sem.run_pure, Result.andThen_ok, List.map_toArray, List.map_cons, List.map_nil, hs, hx, List.length_nil, hrun]
    exact hK _ _ (h _ w (by simpa using hown) (But.refl _ _) (fun k hk => .inl hk))
  · obtain ⟨b, off, rfl, hb, hcell⟩ := hr hl
    have hlen : (l.flatMap enc).length = l.length * size := by
      clear hcell hr hx h63 hbytes h hl
      induction l with
      | nil => simp
      | cons y l ih => rw [List.flatMap_cons, List.length_append, hsz, ih, List.length_cons, Nat.succ_mul]; omega
    refine wpList_append_at w hgd s x t ho e i z size bytes ht hi hz hsize hby hzs h0 v n xs hs hown ⟨b, off, none⟩ l.length c (l.flatMap enc) hx hlen (Rows.flat hsz h0 l hcell) ?_ (List.length_pos_iff.2 hl) h63 hbytes (fun g cap w' h1 h2 h3 => h _ w' h1 h2 h3)
    intro u hu
    obtain ⟨x, _, hxu⟩ := List.mem_flatMap.1 hu
    exact hone x u hxu
end
end Go.Proofs.YtdmejbjpbjcfbaaGreatDoor
