/- An order of steps behind a history: the program's search. -/
import Derived.Test.YtngahblgicjoiaaGreatDoorPicks
import Derived.Test.YtngahblgicjoiaaGreatDoorCopyH
namespace Go.Proofs.YtngahblgicjoiaaGreatDoor
open Go.RowKit Go.Shelf

attribute [local go_sem] Oper.semAt_some

def lateZ (a b : StepZ) : Bool := lateD a.d b.d
def nextZ (h : Hist) (z : StepZ) : Option Hist := nextD h z.d
theorem eraseIdx_map {α β : Type} (f : α → β) : ∀ (l : List α) (i : Nat), (l.map f).eraseIdx i = (l.eraseIdx i).map f
  | [], _ => rfl
  | a :: l, 0 => rfl
  | a :: l, i + 1 => by simp only [List.map_cons, List.eraseIdx_cons_succ, eraseIdx_map f l i]
theorem findSome_congr2 {β γ : Type} (u : β → γ) : ∀ (l : List Nat) (f : Nat → Option β) (g : Nat → Option γ), (∀ i ∈ l, (f i).map u = g i) → (l.findSome? f).map u = l.findSome? g
  | [], _, _, _ => rfl
  | x :: l, f, g, h => by
    have h1 := h x (by simp)
    have ih := findSome_congr2 u l f g (fun i hi => h i (by simp [hi]))
    simp only [List.findSome?_cons, ← h1]
    cases f x with
    | some y => rfl
    | none => exact ih
/-- The search over steps is that over what they say. -/
theorem ordP_map : ∀ (n : Nat) (h : Hist) (l : List StepZ), (ordP nextZ lateZ n h l).map (List.map (·.d)) = ordP nextD lateD n h (l.map (·.d))
  | 0, h, l => by rw [ordP, ordP]; rfl
  | n + 1, h, l => by
    rw [ordP, ordP, List.length_map]
    refine findSome_congr2 _ _ _ _ fun i hi => ?_
    rw [List.getElem?_map, eraseIdx_map]
    cases hx : l[i]? with
    | none => rfl
    | some x =>
      simp only [Option.map_some]
      have e : (((l.eraseIdx i).map (·.d)).any fun y => lateD y x.d) = (l.eraseIdx i).any fun y => lateZ y x := by
        rw [List.any_map]; rfl
      rw [e]
      split
      · rfl
      · rw [show nextZ h x = nextD h x.d from rfl]
        cases nextD h x.d with
        | none => rfl
        | some g =>
          simp only
          rw [← ordP_map n g (l.eraseIdx i), Option.map_map, Option.map_map]
          rfl
/-- What one place of the search gives. -/
def ordAt (n : Nat) (h : Hist) (l : List StepZ) (i : Nat) : Option (List StepZ) := match l[i]? with
  | none => none
  | some x => if (l.eraseIdx i).any (fun y => lateZ y x) = true then none else match nextZ h x with
    | none => none
    | some g => (ordP nextZ lateZ n g (l.eraseIdx i)).map (x :: ·)
theorem ordP_step (n : Nat) (h : Hist) (l : List StepZ) : ordP nextZ lateZ (n + 1) h l = (List.range l.length).findSome? (ordAt n h l) := by
  rw [ordP]
  congr 1
  funext i
  unfold ordAt
  cases l[i]? with
  | none => rfl
  | some x =>
    simp only
    split
    · rfl
    · cases nextZ h x <;> rfl
theorem ordAt_late {n : Nat} {h : Hist} {l : List StepZ} {i : Nat} {x : StepZ} (hx : l[i]? = some x) (ha : ((l.eraseIdx i).any fun y => lateZ y x) = true) : ordAt n h l i = none := by
  unfold ordAt; rw [hx]; simp only; rw [if_pos ha]
theorem ordAt_bad {n : Nat} {h : Hist} {l : List StepZ} {i : Nat} {x : StepZ} (hx : l[i]? = some x) (hn : nextZ h x = none) : ordAt n h l i = none := by
  unfold ordAt; rw [hx]; simp only
  split
  · rfl
  · rw [hn]
theorem ordAt_go {n : Nat} {h g : Hist} {l : List StepZ} {i : Nat} {x : StepZ} (hx : l[i]? = some x) (ha : ((l.eraseIdx i).any fun y => lateZ y x) = false) (hn : nextZ h x = some g) : ordAt n h l i = (ordP nextZ lateZ n g (l.eraseIdx i)).map (x :: ·) := by
  unfold ordAt; rw [hx]; simp only; rw [if_neg (by rw [ha]; simp), hn]
theorem ordP_none {n : Nat} {h : Hist} {l : List StepZ} (ha : ∀ i, i < l.length → ordAt n h l i = none) : ordP nextZ lateZ (n + 1) h l = none := by
  rw [ordP_step]
  exact findSome_none fun i hi => ha i (List.mem_range.1 hi)
theorem findSome_range {β : Type} (f : Nat → Option β) : ∀ (m i : Nat) (y : β), i < m → (∀ j, j < i → f j = none) → f i = some y → (List.range m).findSome? f = some y
  | 0, _, _, h, _, _ => by omega
  | m + 1, i, y, h, ha, hy => by
    rw [List.range_succ, List.findSome?_append]
    rcases Nat.lt_or_ge i m with h1 | h1
    · rw [findSome_range f m i y h1 ha hy]; rfl
    · obtain rfl : i = m := by omega
      rw [findSome_none (fun j hj => ha j (List.mem_range.1 hj))]
      simp [hy]
theorem ordP_some2 {n : Nat} {h : Hist} {l : List StepZ} {i : Nat} {out : List StepZ} (hi : i < l.length) (ha : ∀ j, j < i → ordAt n h l j = none) (ho : ordAt n h l i = some out) : ordP nextZ lateZ (n + 1) h l = some out := by
  rw [ordP_step]
  exact findSome_range _ _ i out hi ha ho
set_option maxRecDepth 100000 in
theorem order1_calls (y x : StepZ) (Bx : Nat) (w : World) (hb : Blk w Bx (encStep x) 38) :
    Calls Tryz.prog 87 #[.agg (encStep y).toArray, .pointer (some ⟨Bx, 0, none⟩)] w fun e w' => e = .returned (.bool (lateZ y x)) ∧ Ext w w' := by
  have XB := Lib.hid (show Ext w (w.alloc (.cells (encStep y).toArray 38)) from (Below.refl _ w).alloc (Nat.le_refl _) _)
  have LC := Lib.hid (fun W => late_calls y x W)
  obtain ⟨L, hL⟩ : ∃ L, lateD y.d x.d = L := ⟨_, rfl⟩
  have e : lateZ y x = L := hL
  rw [hL] at LC
  rw [e]
  clear hL e
  have hbx := hb.alloc (.cells (encStep y).toArray 38)
  clear hb
  obtain ⟨⟨cl, nm, acts, reads, ca, an⟩, ao, ac, ro, rc⟩ := y
  obtain ⟨⟨cl', nm', acts', reads', ca', an'⟩, ao', ac', ro', rc'⟩ := x
  unfold encStep at XB LC hbx ⊢
  simp only at XB LC hbx ⊢
  have d0 := hbx.cell 0; have d1 := hbx.cell 1; have d2 := hbx.cell 2; have d3 := hbx.cell 3; have d4 := hbx.cell 4; have d5 := hbx.cell 5
  simp only [List.getElem?_cons_zero, List.getElem?_cons_succ] at d0 d1 d2 d3 d4 d5
  clear hbx
  go_enter Tryz.func87, Tryz.ntmps87
  go_wp2_with fail
  refine (LC.out _).mono ?_
  rintro e w2 ⟨rfl, hx⟩
  have X2 := Lib.hid (Ext.trans XB.out hx); clear hx
  go_wp2_with fail
  go_ret
  exact ⟨rfl, X2.out⟩
theorem wpListIn_append_rows {α : Type} {enc : α → List Value} {size : Nat} (hsz : ∀ x, (enc x).length = size) (hone : ∀ x, ∀ u ∈ enc x, u.oneCell' = true) {F : Fence} {m : Nat} {P : Program} {ops : Array Oper} {rest : List Oper} {o : Oper} {a : Go.Act} {Q : Exit → Go.Act → World → Prop} {w : World} (hg : o.guard = none) (s x : Operand) (t : TypeId)
    (ho : o.op = .call { callee := .builtin .append, args := #[s, x], argTypes := #[t, t] })
    (e : TypeId) (i : TypeInfo) (z : Value) (bytes : Nat) (ht : P.underlying t = some (.slice e)) (hi : P.info? e = some i) (hz : i.zero = some z)
    (hsize : i.size = size) (hby : i.bytes = bytes) (hzs : z.cells.size = size) (h0 : 0 < size)
    (v : Value) (n : Nat) (xs : List Value) (hs : a.eval s = v) (hown : w.ownsRow 0 e size v n xs)
    (xo : Option Addr) (l : List α) (c : Nat) (hx : a.eval x = .slice xo l.length c) (hr : Rows size enc w.heap.size w xo l)
    (h63 : n + l.length ≤ maxLen) (hbytes : (n + l.length) * bytes ≤ 140737488355328)
    (hK : ∀ v' w', w'.ownsRow 0 e size v' (n + l.length) (xs ++ l.flatMap enc) → But (fun k => v.ownBlock = some k) w w' → Kept1 w v v' → wpListIn F m P ops Q rest (a.put o.dst v') w') : wpListIn F m P ops Q (o :: rest) a w := by
  refine wpListIn_plain hg fun K hK' => ?_
  obtain ⟨v', w', hrun, r1, r2, r3⟩ := exec_append_rows hsz hone (o := o) (a := a) s x t ho e i z bytes ht hi hz hsize hby hzs h0 v n xs hs hown xo l c hx hr h63 hbytes
  unfold Oper.wpIn
  refine ⟨?_, ?_⟩
  · simp [Oper.about, ho, resolve, Target.leads, Sem.run_pure]
  · rw [Oper.semAt_plain F _ _ (by rw [ho]; intro c hc'; cases hc'), hrun]
    exact hK' _ _ (hK v' w' r1 r2 r3)
end Go.Proofs.YtngahblgicjoiaaGreatDoor
