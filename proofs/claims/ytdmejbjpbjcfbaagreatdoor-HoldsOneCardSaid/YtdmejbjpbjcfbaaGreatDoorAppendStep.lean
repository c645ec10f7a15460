/- append at a step of a region that draws its order: of a row to a row of the call's own. -/
import Derived.Test.YtdmejbjpbjcfbaaGreatDoorAppend
import Derived.Deep.RegionHeld3
namespace Go.Proofs.YtdmejbjpbjcfbaaGreatDoor
open Go.RowKit

theorem Rows.fresh' {α : Type} {sz : Nat} {enc : α → List Value} (hsz : ∀ x, (enc x).length = sz) (l : List α) (w : World) (t : TypeId) : Rows sz enc (w.alloc (.cells (l.flatMap enc).toArray t)).heap.size (w.alloc (.cells (l.flatMap enc).toArray t)) (some ⟨w.heap.size, 0, none⟩) l := by
  intro _
  refine ⟨_, 0, rfl, by simp, fun i x hi j v hj => ?_⟩
  rw [(Blk.new w (l.flatMap enc) t).cell, Nat.zero_add]
  exact flat_at hsz l i x hi j v hj
theorem rows_of_own {α : Type} {sz : Nat} {enc : α → List Value} {B : Nat} {e : TypeId} {w : World} {ro : Option Addr} {cap : Nat} {l : List α} (hsz : ∀ x, (enc x).length = sz) (h : w.ownsRow B e sz (.slice ro l.length cap) l.length (l.flatMap enc)) : Rows sz enc w.heap.size w ro l := by
  obtain ⟨ao, c, hv, _, _, hr⟩ := Rows.own hsz h
  simp only [Value.slice.injEq, true_and] at hv
  rw [hv.1]; exact hr
/-- A row of the call's own, cut. -/
theorem own_take {w : World} {B : Nat} {e : TypeId} {size g n cap : Nat} {xs : List Value} (h : w.ownsRow B e size (.slice (some ⟨g, 0, none⟩) n cap) n xs) (k : Nat) (hk : k ≤ n) : w.ownsRow B e size (.slice (some ⟨g, 0, none⟩) k cap) k (xs.take (k * size)) := by
  obtain ⟨hl, h2⟩ := h
  rcases h2 with ⟨h, _⟩ | ⟨g', cap', cur, h, hB, hg, hn, hm, hs, htk⟩
  · cases h
  · simp only [Value.slice.injEq, Option.some.injEq, Addr.mk.injEq, and_true, true_and] at h
    obtain ⟨rfl, rfl⟩ := h
    have hle : k * size ≤ n * size := Nat.mul_le_mul_right _ hk
    refine ⟨by rw [List.length_take, hl]; omega, .inr ⟨_, _, cur, rfl, hB, hg, by omega, hm, hs, ?_⟩⟩
    rw [← htk, List.take_take, Nat.min_eq_left hle]

theorem own_cut {w : World} {B : Nat} {e : TypeId} {size n cap : Nat} {ro : Option Addr} {xs : List Value} (h : w.ownsRow B e size (.slice ro n cap) n xs) (k : Nat) (hk : k ≤ n) : w.ownsRow B e size (.slice ro k cap) k (xs.take (k * size)) := by
  have h' := h
  obtain ⟨hl, h2⟩ := h
  rcases h2 with ⟨h, h0⟩ | ⟨g', cap', cur, h, _⟩
  · simp only [Value.slice.injEq] at h
    obtain ⟨rfl, h1, rfl⟩ := h
    obtain rfl : k = 0 := by omega
    rw [Nat.zero_mul, List.take_zero]
    exact World.ownsRow_nil _ _ _ _
  · simp only [Value.slice.injEq, true_and] at h
    obtain ⟨rfl, rfl⟩ := h
    exact own_take h' k hk
theorem flat_take {α : Type} {sz : Nat} {enc : α → List Value} (hsz : ∀ x, (enc x).length = sz) : ∀ (l : List α) (k : Nat), (l.flatMap enc).take (k * sz) = (l.take k).flatMap enc
  | [], k => by simp
  | a :: l, 0 => by simp
  | a :: l, k + 1 => by
    rw [List.flatMap_cons, List.take_succ_cons, List.flatMap_cons, List.take_append, hsz, Nat.succ_mul, Nat.add_sub_cancel, flat_take hsz l k, List.take_of_length_le (by rw [hsz]; omega)]
section
variable {P : Program} {w : World}
theorem exec_append_rows {α : Type} {enc : α → List Value} {size : Nat} (hsz : ∀ x, (enc x).length = size) (hone : ∀ x, ∀ u ∈ enc x, u.oneCell' = true) {o : Oper} {a : Act} (s x : Operand) (t : TypeId)
    (ho : o.op = .call { callee := .builtin .append, args := #[s, x], argTypes := #[t, t] })
    (e : TypeId) (i : TypeInfo) (z : Value) (bytes : Nat) (ht : P.underlying t = some (.slice e)) (hi : P.info? e = some i) (hz : i.zero = some z)
    (hsize : i.size = size) (hby : i.bytes = bytes) (hzs : z.cells.size = size) (h0 : 0 < size)
    (v : Value) (n : Nat) (xs : List Value) (hs : a.eval s = v) (hown : w.ownsRow 0 e size v n xs)
    (xo : Option Addr) (l : List α) (c : Nat) (hx : a.eval x = .slice xo l.length c) (hr : Rows size enc w.heap.size w xo l)
    (h63 : n + l.length ≤ maxLen) (hbytes : (n + l.length) * bytes ≤ 140737488355328) :
    ∃ v' w', (execOp a.eval o).run P w = .ok (.value v') w' ∧ w'.ownsRow 0 e size v' (n + l.length) (xs ++ l.flatMap enc) ∧ But (fun k => v.ownBlock = some k) w w' ∧ Kept1 w v v' := by
  by_cases hl : l = []
  · subst hl
    obtain ⟨so, scap, rfl, hle⟩ : ∃ so scap, v = .slice so n scap ∧ n ≤ scap := by
      rcases hown.2 with ⟨rfl, rfl⟩ | ⟨g, cap, cur, rfl, _, _, hnc, _⟩
      · exact ⟨none, 0, rfl, Nat.le_refl _⟩
      · exact ⟨_, cap, rfl, hnc⟩
    have hsrc : Go.Src P i.size t (.slice xo 0 c) 0 [] w := by
      cases xo with
      | none => exact Go.Src.ofNil _ ht c
      | some ad => exact Go.Src.ofSlice _ ht ad 0 c [] (by simp) (by simp) (by simp)
    have hrun := Go.run_append_nothing w t t o.type e i ht hi so n scap hle _ hsrc
    refine ⟨_, w, ?_, by simpa using hown, But.refl _ _, fun k hk => .inl hk⟩
    unfold execOp
    simp only [ho, resolve, invoke, builtin, Sem.run_bind, Sem.run_pure, Result.andThen_ok, List.map_toArray, List.map_cons, List.map_nil, hs, hx, List.length_nil, hrun]
  · obtain ⟨b, off, rfl, hb, hcell⟩ := hr hl
    have hlen : (l.flatMap enc).length = l.length * size := by
      clear hcell hr hx h63 hbytes hl
      induction l with
      | nil => simp
      | cons y l ih => rw [List.flatMap_cons, List.length_append, hsz, ih, List.length_cons, Nat.succ_mul]; omega
    have hone' : ∀ u ∈ l.flatMap enc, u.oneCell' = true := by
      intro u hu
      obtain ⟨x, _, hxu⟩ := List.mem_flatMap.1 hu
      exact hone x u hxu
    have hnews := Rows.flat hsz h0 l hcell
    obtain ⟨v', w', hr', h2, h3, _⟩ := run_append_own (P := P) w 0 t o.type e i z size bytes ht hi hz hsize hby hzs h0 v n xs hown ⟨b, off, none⟩ l.length c (l.flatMap enc) hlen hnews hone' h63 hbytes (Nat.zero_le _)
    have h5 := append_where (P := P) w 0 t o.type e i z size bytes ht hi hz hsize hby v n xs hown ⟨b, off, none⟩ l.length c (l.flatMap enc) hlen hnews hone' (List.length_pos_iff.2 hl) h63 hbytes v' w' hr'
    refine ⟨v', w', ?_, h2, .of_grown h3, h5⟩
    unfold execOp
    simp only [ho, resolve, invoke, builtin, Sem.run_bind, Sem.run_pure, Result.andThen_ok, List.map_toArray, List.map_cons, List.map_nil, hs, hx, hr']
theorem step_append_rows {α : Type} {enc : α → List Value} {size : Nat} (hsz : ∀ x, (enc x).length = size) (hone : ∀ x, ∀ u ∈ enc x, u.oneCell' = true) {ops : Array Oper} {o : Oper} {a : Act} {K : Act → World → Prop} {Q : Exit → Act → World → Prop} {E : Prop} (hgd : o.guard = none) (s x : Operand) (t : TypeId)
    (ho : o.op = .call { callee := .builtin .append, args := #[s, x], argTypes := #[t, t] })
    (e : TypeId) (i : TypeInfo) (z : Value) (bytes : Nat) (ht : P.underlying t = some (.slice e)) (hi : P.info? e = some i) (hz : i.zero = some z)
    (hsize : i.size = size) (hby : i.bytes = bytes) (hzs : z.cells.size = size) (h0 : 0 < size)
    (v : Value) (n : Nat) (xs : List Value) (hs : a.eval s = v) (hown : w.ownsRow 0 e size v n xs)
    (xo : Option Addr) (l : List α) (c : Nat) (hx : a.eval x = .slice xo l.length c) (hr : Rows size enc w.heap.size w xo l)
    (h63 : n + l.length ≤ maxLen) (hbytes : (n + l.length) * bytes ≤ 140737488355328)
    (h : ∀ v' w', w'.ownsRow 0 e size v' (n + l.length) (xs ++ l.flatMap enc) → But (fun k => v.ownBlock = some k) w w' → Kept1 w v v' → K (a.put o.dst v') w') :
    if Region.wanted o (yielded ops a.tmps) = true then Oper.wp P o a w K Q else E := by
  have hw : Region.wanted o (yielded ops a.tmps) = true := by simp [Region.wanted, hgd]
  rw [if_pos hw]
  obtain ⟨v', w', h1, h2, h3, h4⟩ := exec_append_rows (P := P) hsz hone (o := o) (a := a) s x t ho e i z bytes ht hi hz hsize hby hzs h0 v n xs hs hown xo l c hx hr h63 hbytes
  unfold Oper.wp
  rw [h1]
  exact h v' w' h2 h3 h4
end
end Go.Proofs.YtdmejbjpbjcfbaaGreatDoor
