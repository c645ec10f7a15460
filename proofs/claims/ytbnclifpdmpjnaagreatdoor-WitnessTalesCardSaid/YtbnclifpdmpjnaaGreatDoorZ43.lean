/- The kit's flatReads (turned from flatLines): lists of reads lie apart. -/
import Derived.Laws.OwnMore
import Derived.Test.YtbnclifpdmpjnaaGreatDoorZ13
import Derived.Test.YtbnclifpdmpjnaaGreatDoorZ09
import Derived.Test.YtbnclifpdmpjnaaGreatDoorZ38
namespace Go.Proofs.YtbnclifpdmpjnaaGreatDoor
open Go.RowKit
theorem But.newR {S : Nat → Prop} {a b c : World} {T : Nat → Prop} (h : But S a b) (k : But T b c) (hT : ∀ i, i < a.heap.size → T i → S i) : But S a c := h.trans k (fun _ _ e => e) hT
namespace FlatR
theorem flat_set (x : Rd) : ∀ (l : List Rd) (p : Nat), p < l.length → ((((l.flatMap encRd).set (p * 3) (.string x.key)).set (p * 3 + 1) (.bool x.is)).set (p * 3 + 2) (.string x.value)) = (l.set p x).flatMap encRd
  | d :: l, 0, _ => by simp [encRd]
  | d :: l, p + 1, h => by
    have ih := flat_set x l p (by simpa using h)
    have e : (p + 1) * 3 = p * 3 + 1 + 1 + 1 := by omega
    simp only [List.flatMap_cons, List.set_cons_succ]
    rw [← ih, e]
    simp [encRd]
structure SlV where
  ao : Option Addr
  n : Nat
  cap : Nat
def SlV.val (v : SlV) : Value := .slice v.ao v.n v.cap
def encSl (v : SlV) : List Value := [.slice v.ao v.n v.cap]
def Apart1 (vs : List SlV) : Prop := ∀ (i j : Nat) (u v : SlV), i ≠ j → vs[i]? = some u → vs[j]? = some v → ∀ b, u.val.ownBlock = some b → v.val.ownBlock ≠ some b
def OwnB (vs : List SlV) (b : Nat) : Prop := ∃ (j : Nat) (v : SlV), vs[j]? = some v ∧ v.val.ownBlock = some b
def mkL (k n : Nat) : List Rd := (List.range n).map fun i : Nat => markRead (k : Int) (i : Int)
theorem mkL_len (k n : Nat) : (mkL k n).length = n := by simp [mkL]
theorem mkL_at {k n i : Nat} (h : i < n) : (mkL k n)[i]? = some (markRead (k : Int) (i : Int)) := by simp [mkL, h]
theorem mkL_succ (k n : Nat) : mkL k (n + 1) = mkL k n ++ [markRead (k : Int) (n : Int)] := by simp [mkL, List.range_succ]
theorem mkL_take {k n i : Nat} (h : i ≤ n) : (mkL k n).take i = mkL k i := by
  unfold mkL
  rw [← List.map_take, List.take_range, Nat.min_eq_left h]
def ListsAt (W : World) (vs : List SlV) (c : Nat → List Rd) : Prop := ∀ (j : Nat) (v : SlV), vs[j]? = some v → (c j).length = v.n ∧ W.ownsRow 0 117 3 v.val v.n ((c j).flatMap encRd)
theorem ListsAt.but {W W' : World} {vs : List SlV} {c : Nat → List Rd} {S : Nat → Prop} (h : ListsAt W vs c) (hx : But S W W') (hS : ∀ b, OwnB vs b → ¬ S b) : ListsAt W' vs c := fun j v hv =>
  ⟨(h j v hv).1, own_but (h j v hv).2 hx (fun b hb => hS b ⟨j, v, hv, hb⟩)⟩
theorem ListsAt.ext {W W' : World} {vs : List SlV} {c : Nat → List Rd} (h : ListsAt W vs c) (hx : Ext W W') : ListsAt W' vs c := fun j v hv => ⟨(h j v hv).1, own_ext (h j v hv).2 hx⟩
theorem ListsAt.lt {W : World} {vs : List SlV} {c : Nat → List Rd} (h : ListsAt W vs c) {b : Nat} (hb : OwnB vs b) : b < W.heap.size := by
  obtain ⟨j, v, hv, e⟩ := hb
  exact ((h j v hv).2.lt b e).2
theorem lists_set {W : World} {vs : List SlV} {c : Nat → List Rd} {k g i : Nat} {v : SlV} (h : ListsAt W vs c) (ha : Apart1 vs) (hk : vs[k]? = some v) (hao : v.ao = some ⟨g, 0, none⟩) (hi : i < v.n) (x : Rd) :
    ListsAt (((W.setCell ⟨g, i * 3, none⟩ (.string x.key)).setCell ⟨g, i * 3 + 1, none⟩ (.bool x.is)).setCell ⟨g, i * 3 + 2, none⟩ (.string x.value)) vs (fun j => if j = k then (c k).set i x else c j) := by
  intro j u hu
  by_cases e : j = k
  · subst e
    rw [hk] at hu
    obtain rfl := Option.some.inj hu
    dsimp only
    rw [if_pos rfl]
    obtain ⟨h1, h2⟩ := h j v hk
    refine ⟨by rw [List.length_set]; exact h1, ?_⟩
    obtain ⟨ao, n, cap⟩ := v
    simp only at hao hi h1
    subst hao
    have h3 := own_set2 (own_set2 (own_set2 h2 (i * 3) (.string x.key)) (i * 3 + 1) (.bool x.is)) (i * 3 + 2) (.string x.value)
    rw [flat_set x (c j) i (by omega)] at h3
    exact h3
  · dsimp only
    rw [if_neg e]
    obtain ⟨h1, h2⟩ := h j u hu
    have hb : v.val.ownBlock = some g := by obtain ⟨ao, n, cap⟩ := v; simp only at hao; subst hao; rfl
    have hn := ha k j v u (fun e2 => e e2.symm) hk hu g hb
    exact ⟨h1, own_setOther (a := ⟨g, i * 3 + 2, none⟩) (own_setOther (a := ⟨g, i * 3 + 1, none⟩) (own_setOther (a := ⟨g, i * 3, none⟩) h2 hn _) hn _) hn _⟩
theorem run_append_two {P : Program} (w : World) (t ty e : TypeId) (i : TypeInfo) (z : Value) (size bytes : Nat) (ht : P.underlying t = some (.slice e)) (hi : P.info? e = some i) (hz : i.zero = some z)
    (hsize : i.size = size) (hby : i.bytes = bytes) (hzs : z.cells.size = size) (hsz : 0 < size) (v : Value) (n : Nat) (xs : List Value) (hown : w.ownsRow 0 e size v n xs)
    (a : Addr) (m c : Nat) (news : List Value) (hl : news.length = m * size) (hnews : ∀ (j : Nat) (u : Value), news[j]? = some u → w.cell? (a.add j) = some u) (h1 : ∀ u ∈ news, u.oneCell' = true) (h0 : 0 < m)
    (h63 : n + m ≤ maxLen) (hbytes : (n + m) * bytes ≤ 140737488355328) :
    ∃ so cap w', (Builtin.append_ #[t, t] ty #[v, .slice (some a) m c]).run P w = .ok (.slice so (n + m) cap) w' ∧ w'.ownsRow 0 e size (.slice so (n + m) cap) (n + m) (xs ++ news) ∧
      ((v = .slice so n cap ∧ But (fun b => v.ownBlock = some b) w w') ∨ (Ext w w' ∧ ∀ b, (Value.slice so (n + m) cap).ownBlock = some b → w.heap.size ≤ b)) := by
  obtain ⟨v', w', hr, h2, h3, -⟩ := run_append_own (P := P) w 0 t ty e i z size bytes ht hi hz hsize hby hzs hsz v n xs hown a m c news hl hnews h1 h63 hbytes (Nat.zero_le _)
  subst hsize; subst hby
  have h63' := h63
  simp only [maxLen] at h63'
  have hv : ∃ so cap, v' = .slice so (n + m) cap := by
    rcases h2.2 with ⟨_, h6⟩ | ⟨g, cap, _, h6, _⟩
    · omega
    · exact ⟨_, cap, h6⟩
  obtain ⟨so, cap, rfl⟩ := hv
  refine ⟨so, cap, w', hr, h2, ?_⟩
  rcases hown.2 with ⟨rfl, rfl⟩ | ⟨g, cap0, cur, rfl, _, hg, hnc, _, hcs, _⟩
  · rw [run_append_nil (P := P) w t ty e i z ht hi hz a m c news hl hnews h0 (by omega) (by simp only [Nat.zero_add] at hbytes; omega)] at hr
    simp only [Result.ok.injEq] at hr
    obtain ⟨e1, rfl⟩ := hr
    refine .inr ⟨(Below.refl _ w).drew.alloc (by simp) _, fun b hb => ?_⟩
    rw [← e1] at hb
    simp [Value.ownBlock] at hb
    omega
  · by_cases hroom : n + m ≤ cap0
    · have hfit : n * i.size + news.length ≤ cur.size := by rw [hl, hcs, ← Nat.add_mul]; exact Nat.mul_le_mul_right _ hroom
      rw [run_append_room (P := P) w t ty e i ht hi g n cap0 cur hg a m c news hl hnews h1 hroom hfit] at hr
      simp only [Result.ok.injEq, Value.slice.injEq, true_and] at hr
      obtain ⟨⟨rfl, rfl⟩, rfl⟩ := hr
      exact .inl ⟨rfl, (But.of_grown h3).mono fun _ _ e => e⟩
    · rw [run_append_grow (P := P) w t ty e i z ht hi hz ⟨g, 0, none⟩ n cap0 xs hown.1 (hown.cells (g := g) rfl) a m c news hl hnews (by omega) (by omega) (growslice_fits (by omega) hbytes)] at hr
      simp only [Result.ok.injEq] at hr
      obtain ⟨e1, rfl⟩ := hr
      refine .inr ⟨(Below.refl _ w).drew.alloc (by simp) _, fun b hb => ?_⟩
      rw [← e1] at hb
      simp [Value.ownBlock] at hb
      omega
theorem wpList_append_two {P : Program} {ops : Array Oper} {rest : List Oper} {o : Oper} {a : Act} {Q : Exit → Act → World → Prop} (w : World) (hgd : o.guard = none) (s x : Operand) (t : TypeId)
    (ho : o.op = .call { callee := .builtin .append, args := #[s, x], argTypes := #[t, t] })
    (e : TypeId) (i : TypeInfo) (z : Value) (size bytes : Nat) (ht : P.underlying t = some (.slice e)) (hi : P.info? e = some i) (hz : i.zero = some z)
    (hsize : i.size = size) (hby : i.bytes = bytes) (hzs : z.cells.size = size) (hsz : 0 < size)
    (v : Value) (n : Nat) (xs : List Value) (hs : a.eval s = v) (hown : w.ownsRow 0 e size v n xs)
    (ad : Addr) (m c : Nat) (news : List Value) (hx : a.eval x = .slice (some ad) m c) (hl : news.length = m * size) (hnews : ∀ (j : Nat) (u : Value), news[j]? = some u → w.cell? (ad.add j) = some u) (h1 : ∀ u ∈ news, u.oneCell' = true) (h0 : 0 < m)
    (h63 : n + m ≤ maxLen) (hbytes : (n + m) * bytes ≤ 140737488355328)
    (h : ∀ so cap w', w'.ownsRow 0 e size (.slice so (n + m) cap) (n + m) (xs ++ news) → ((v = .slice so n cap ∧ But (fun b => v.ownBlock = some b) w w') ∨ (Ext w w' ∧ ∀ b, (Value.slice so (n + m) cap).ownBlock = some b → w.heap.size ≤ b)) → wpList P ops Q rest (a.put o.dst (.slice so (n + m) cap)) w') : wpList P ops Q (o :: rest) a w := by
  refine wpList_plain hgd fun K hK => ?_
  obtain ⟨so, cap, w', hr, h2, h3⟩ := run_append_two (P := P) w t o.type e i z size bytes ht hi hz hsize hby hzs hsz v n xs hown ad m c news hl hnews h1 h0 h63 hbytes
  unfold Oper.wp execOp
  simp only [ho, resolve, invoke, builtin, Sem.run_bind, Sem.run_pure, Result.andThen_ok, List.map_toArray, List.map_cons, List.map_nil, hs, hx, hr]
  exact hK _ _ (h so cap w' h2 h3)
structure GrownAt (N1 : Nat) (W : World) (vs : List SlV) (gb : Nat) (us : List Value) (k : Nat) : Prop where
  row : W.ownsRow 0 28 1 (.slice (some ⟨gb, 0, none⟩) vs.length vs.length) vs.length us
  each : ∀ (j : Nat) (v : SlV), j < k → vs[j]? = some v → ∃ gv : SlV, us[j]? = some gv.val ∧ gv.n = v.n + 64 ∧ W.ownsRow 0 117 3 gv.val gv.n ((mkL j gv.n).flatMap encRd) ∧ ∀ b, gv.val.ownBlock = some b → v.val.ownBlock = some b ∨ N1 ≤ b
structure GrownW (N1 : Nat) (W : World) (vs : List SlV) (gb : Nat) (us : List Value) : Prop where
  row : W.ownsRow 0 28 1 (.slice (some ⟨gb, 0, none⟩) vs.length vs.length) vs.length us
  each : ∀ (j : Nat) (v : SlV), vs[j]? = some v → ∃ (gv : SlV) (xs : List Rd), us[j]? = some gv.val ∧ v.n ≤ gv.n ∧ xs.length = gv.n ∧ xs.take v.n = mkL j v.n ∧ W.ownsRow 0 117 3 gv.val gv.n (xs.flatMap encRd) ∧ ∀ b, gv.val.ownBlock = some b → v.val.ownBlock = some b ∨ N1 ≤ b
theorem GrownAt.but {N1 : Nat} {W W' : World} {vs : List SlV} {gb k : Nat} {us : List Value} {S : Nat → Prop} (h : GrownAt N1 W vs gb us k) (hx : But S W W') (hg : ¬ S gb) (hS : ∀ (j : Nat) (v gv : SlV), j < k → vs[j]? = some v → us[j]? = some (SlV.val gv) → ∀ b, (SlV.val gv).ownBlock = some b → ¬ S b) : GrownAt N1 W' vs gb us k :=
  ⟨own_but h.row hx (fun b e => by cases e; exact hg), fun j v hj hv => by
    obtain ⟨gv, h1, h2, h3, h4⟩ := h.each j v hj hv
    exact ⟨gv, h1, h2, own_but h3 hx (hS j v gv hj hv h1), h4⟩⟩
theorem GrownAt.ext {N1 : Nat} {W W' : World} {vs : List SlV} {gb k : Nat} {us : List Value} (h : GrownAt N1 W vs gb us k) (hx : Ext W W') : GrownAt N1 W' vs gb us k :=
  h.but (Ext.but hx (fun _ => False)) id (fun _ _ _ _ _ _ _ _ e => e)
theorem GrownW.but {N1 : Nat} {W W' : World} {vs : List SlV} {gb : Nat} {us : List Value} {S : Nat → Prop} (h : GrownW N1 W vs gb us) (hx : But S W W') (hg : ¬ S gb) (hS : ∀ (j : Nat) (v gv : SlV), vs[j]? = some v → us[j]? = some (SlV.val gv) → ∀ b, (SlV.val gv).ownBlock = some b → ¬ S b) : GrownW N1 W' vs gb us :=
  ⟨own_but h.row hx (fun b e => by cases e; exact hg), fun j v hv => by
    obtain ⟨gv, xs, h1, h2, h3, h4, h5, h6⟩ := h.each j v hv
    exact ⟨gv, xs, h1, h2, h3, h4, own_but h5 hx (hS j v gv hv h1), h6⟩⟩
theorem GrownW.ext {N1 : Nat} {W W' : World} {vs : List SlV} {gb : Nat} {us : List Value} (h : GrownW N1 W vs gb us) (hx : Ext W W') : GrownW N1 W' vs gb us :=
  h.but (Ext.but hx (fun _ => False)) id (fun _ _ _ _ _ _ _ e => e)
theorem GrownAt.weak {N1 : Nat} {W : World} {vs : List SlV} {gb : Nat} {us : List Value} (h : GrownAt N1 W vs gb us vs.length) : GrownW N1 W vs gb us :=
  ⟨h.row, fun j v hv => by
    obtain ⟨gv, h1, h2, h3, h4⟩ := h.each j v (List.getElem?_eq_some_iff.1 hv).1 hv
    exact ⟨gv, _, h1, by omega, mkL_len _ _, mkL_take (by omega), h3, h4⟩⟩
theorem outer_cell {no : Nat → Prop} {W : World} {lo : Option Addr} {vs : List SlV} {k : Nat} {v : SlV} (h : NRows 1 encSl no W lo vs) (hk : vs[k]? = some v) : ∃ b off, lo = some ⟨b, off, none⟩ ∧ b < W.heap.size ∧ ¬ no b ∧ W.cell? ⟨b, off + k, none⟩ = some (.slice v.ao v.n v.cap) := by
  obtain ⟨b, off, e, hb, hn, hc⟩ := h (by intro e; rw [e] at hk; simp at hk)
  have := hc k v hk 0 _ rfl
  simp only [Nat.mul_one, Nat.add_zero] at this
  exact ⟨b, off, e, hb, hn, this⟩
theorem grown_cell {W : World} {gb N k : Nat} {us : List Value} {u : Value} (h : W.ownsRow 0 28 1 (.slice (some ⟨gb, 0, none⟩) N N) N us) (hk : k < N) (hu : us[k]? = some u) : W.cell? ⟨gb, k, none⟩ = some u := by
  rw [World.ownsRow.cellAt h k (by omega), hu]
theorem own_cells {W : World} {v : SlV} {l : List Rd} {i : Nat} {x : Rd} (h : W.ownsRow 0 117 3 v.val v.n (l.flatMap encRd)) (hl : l.length = v.n) (hx : l[i]? = some x) : ∃ g, v.ao = some ⟨g, 0, none⟩ ∧ g < W.heap.size ∧ W.cell? ⟨g, i * 3, none⟩ = some (.string x.key) ∧ W.cell? ⟨g, i * 3 + 1, none⟩ = some (.bool x.is) ∧ W.cell? ⟨g, i * 3 + 2, none⟩ = some (.string x.value) ∧ W.frozen? ⟨g, i * 3, none⟩ = false ∧ W.frozen? ⟨g, i * 3 + 1, none⟩ = false ∧ W.frozen? ⟨g, i * 3 + 2, none⟩ = false := by
  obtain ⟨ao, n, cap⟩ := v
  simp only [SlV.val] at h hl
  have hil : i < l.length := (List.getElem?_eq_some_iff.1 hx).1
  rcases own_cases' (n := n - 1) (by rw [show n - 1 + 1 = n from by omega]; exact h) with ⟨g, c2, e⟩
  simp only [Value.slice.injEq] at e
  obtain ⟨rfl, -, rfl⟩ := e
  obtain ⟨cs, hb⟩ := own_blk h (j := g) rfl
  have hr := rows_of_own (enc := encRd) (sz := 3) (l := l) (fun _ => rfl) (by rw [← hl] at h; exact h)
  obtain ⟨g', off, e2, hg, hc⟩ := hr (by intro e; rw [e] at hil; simp at hil)
  cases e2
  have c0 := hc i x hx 0 _ rfl; have c1 := hc i x hx 1 _ rfl; have c2 := hc i x hx 2 _ rfl
  simp only [Nat.zero_add, Nat.add_zero] at c0 c1 c2
  exact ⟨g, rfl, hg, c0, c1, c2, hb.free _, hb.free _, hb.free _⟩
theorem infoSl : (Tryz.prog.info? 28).map (fun i => (i.zero, i.size, i.bytes)) = some (some (.slice none 0 0), 1, 24) := by kernel_rfl
theorem made_rows : (madeCells (Value.agg #[.string ⟨#[]⟩, .bool false, .string ⟨#[]⟩]).cells (64 * 3)).toList = (List.replicate 64 (⟨⟨#[]⟩, false, ⟨#[]⟩⟩ : Rd)).flatMap encRd := by kernel_rfl
def mkC (vs : List SlV) (j : Nat) : List Rd := mkL j ((vs[j]?.map (·.n)).getD 0)
theorem mkC_at {vs : List SlV} {j : Nat} {v : SlV} (h : vs[j]? = some v) : mkC vs j = mkL j v.n := by unfold mkC; rw [h]; rfl
theorem lists_two {W W' : World} {vs : List SlV} {k m cap : Nat} {v : SlV} {so : Option Addr} {ys : List Rd} (h : ListsAt W vs (mkC vs)) (ha : Apart1 vs) (hk : vs[k]? = some v)
    (hown : W'.ownsRow 0 117 3 (.slice so (v.n + m) cap) (v.n + m) ((mkL k v.n).flatMap encRd ++ ys.flatMap encRd)) (h2 : (v.val = .slice so v.n cap ∧ But (fun b => v.val.ownBlock = some b) W W') ∨ Ext W W') : ListsAt W' vs (mkC vs) := by
  rcases h2 with ⟨e, hx⟩ | hx
  · intro j u hu
    by_cases ej : j = k
    · subst ej
      rw [hk] at hu
      obtain rfl := Option.some.inj hu
      refine ⟨(h j v hk).1, ?_⟩
      have h3 := own_cut hown v.n (by omega)
      rw [mkC_at hk, e]
      have h4 : ((mkL j v.n).flatMap encRd ++ ys.flatMap encRd).take (v.n * 3) = (mkL j v.n).flatMap encRd := by
        refine List.take_left' ?_
        have h5 : ∀ m : List Rd, (m.flatMap encRd).length = m.length * 3 := by
          intro m
          induction m with
          | nil => rfl
          | cons a m ih => rw [List.flatMap_cons, List.length_append, ih, List.length_cons]; simp only [encRd, List.length_cons, List.length_nil]; omega
        rw [h5, mkL_len]
      rw [h4] at h3
      exact h3
    · exact ⟨(h j u hu).1, own_but (h j u hu).2 hx (fun b hb e2 => ha j k u v ej hu hk b hb e2)⟩
  · exact h.ext hx
theorem ob_slice (ao : Option Addr) (n m c d : Nat) : (Value.slice ao n c).ownBlock = (Value.slice ao m d).ownBlock := by cases ao <;> rfl
theorem same_self (ky : ByteArray) (is : Bool) (vl : ByteArray) : sameRd ky is vl ky is vl = true := decide_eq_true rfl
theorem grow_step {N1 : Nat} {wk W4 w5 w : World} {vs : List SlV} {gb k n gcap cap : Nat} {us : List Value} {v : SlV} {gao so : Option Addr} {ys : List Rd} (hN1 : N1 = w.heap.size) (hO : ∀ b, OwnB vs b → b < w.heap.size) (hwk : w.heap.size ≤ wk.heap.size) (hk4 : wk.heap.size ≤ W4.heap.size) (hgb : w.heap.size ≤ gb)
    (ha : Apart1 vs) (hv : vs[k]? = some v) (hL : ListsAt W4 vs (mkC vs)) (hGk : GrownAt N1 wk vs gb us k) (hG : GrownAt N1 W4 vs gb us k) (hB : But (OwnB vs) w W4)
    (hal : (gao = v.ao ∧ gcap = v.cap) ∨ ∀ c, (Value.slice gao n gcap).ownBlock = some c → wk.heap.size ≤ c)
    (hown : w5.ownsRow 0 117 3 (.slice so (n + 1) cap) (n + 1) ((mkL k v.n).flatMap encRd ++ ys.flatMap encRd)) (hys : v.n + ys.length = n + 1)
    (h2 : (Value.slice gao n gcap = .slice so n cap ∧ But (fun b => (Value.slice gao n gcap).ownBlock = some b) W4 w5) ∨ (Ext W4 w5 ∧ ∀ b, (Value.slice so (n + 1) cap).ownBlock = some b → W4.heap.size ≤ b)) :
    ListsAt w5 vs (mkC vs) ∧ GrownAt N1 w5 vs gb us k ∧ ((so = v.ao ∧ cap = v.cap) ∨ ∀ c, (Value.slice so (n + 1) cap).ownBlock = some c → wk.heap.size ≤ c) ∧ But (OwnB vs) w w5 ∧ wk.heap.size ≤ w5.heap.size := by
  have hgbk : gb < wk.heap.size := (hGk.row.lt gb rfl).2
  rcases h2 with ⟨e, hx⟩ | ⟨hx, hf⟩
  · simp only [Value.slice.injEq, true_and] at e
    obtain ⟨rfl, rfl⟩ := e
    rcases hal with ⟨rfl, rfl⟩ | hf
    · have hvb : ∀ b, (Value.slice v.ao n v.cap).ownBlock = some b → v.val.ownBlock = some b := fun b hb => by rw [← hb]; exact ob_slice ..
      have hob : ∀ b, (Value.slice v.ao n v.cap).ownBlock = some b → OwnB vs b := fun b hb => ⟨k, v, hv, hvb b hb⟩
      refine ⟨?_, ?_, .inl ⟨rfl, rfl⟩, hB.newR hx (fun i _ e => hob i e), Nat.le_trans hk4 hx.size⟩
      · have hx' : But (fun b => v.val.ownBlock = some b) W4 w5 := hx.mono fun i _ e => hvb i e
        refine lists_two (m := ys.length) (cap := v.cap) (so := v.ao) (ys := ys) hL ha hv ?_ (.inl ⟨rfl, hx'⟩)
        rw [hys]; exact hown
      · refine hG.but hx (fun e => ?_) (fun j u gv hj hu hg b hb e => ?_)
        · have := hO _ (hob _ e); omega
        · obtain ⟨gv', h1, -, -, h4⟩ := hG.each j u hj hu
          rw [h1] at hg
          have hgv : gv'.val = gv.val := Option.some.inj hg
          rw [← hgv] at hb
          rcases h4 b hb with h5 | h5
          · exact ha j k u v (by omega) hu hv b h5 (hvb b e)
          · have := hO _ (hob _ e); omega
    · have hno : ∀ b, (Value.slice gao n gcap).ownBlock = some b → ¬ OwnB vs b := fun b hb ho => by have := hf b hb; have := hO b ho; omega
      refine ⟨hL.but hx (fun b hb e => hno b e hb), ?_, .inr (fun c hc => hf c (by rw [← hc]; exact ob_slice ..)), hB.newR hx (fun i hi e => by have := hf i e; omega), Nat.le_trans hk4 hx.size⟩
      refine hG.but hx (fun e => by have := hf _ e; omega) (fun j u gv hj hu hg b hb e => ?_)
      obtain ⟨gv', h1, -, h3, -⟩ := hGk.each j u hj hu
      rw [h1] at hg
      have hgv : gv'.val = gv.val := Option.some.inj hg
      rw [← hgv] at hb
      have := (h3.lt b hb).2
      have := hf b e
      omega
  · exact ⟨hL.ext hx, hG.ext hx, .inr (fun c hc => Nat.le_trans hk4 (hf c hc)), hB.newR (Ext.but hx (fun _ => False)) (fun _ _ e => e.elim), Nat.le_trans hk4 hx.size⟩
theorem grown_put {N1 : Nat} {W wk : World} {vs : List SlV} {gb k : Nat} {us : List Value} {v : SlV} {gao : Option Addr} {gcap : Nat} (hG : GrownAt N1 W vs gb us k) (hk : k < vs.length) (hv : vs[k]? = some v) (hN1 : N1 ≤ wk.heap.size)
    (hown : W.ownsRow 0 117 3 (.slice gao (v.n + 64) gcap) (v.n + 64) ((mkL k (v.n + 64)).flatMap encRd)) (hal : (gao = v.ao ∧ gcap = v.cap) ∨ ∀ c, (Value.slice gao (v.n + 64) gcap).ownBlock = some c → wk.heap.size ≤ c) :
    GrownAt N1 (W.setCell ⟨gb, k, none⟩ (.slice gao (v.n + 64) gcap)) vs gb (us.set k (.slice gao (v.n + 64) gcap)) (k + 1) := by
  obtain ⟨cs, hb⟩ := own_blk hG.row (j := gb) rfl
  have hlen : us.length = vs.length := by have := hG.row.1; omega
  refine ⟨own_set2 hG.row k _, fun j u hj hu => ?_⟩
  by_cases e : j = k
  · subst e
    rw [hv] at hu
    obtain rfl := Option.some.inj hu
    refine ⟨⟨gao, v.n + 64, gcap⟩, by rw [List.getElem?_set_self (by omega)]; rfl, rfl, own_setOther (a := ⟨gb, j, none⟩) hown (own_ne hown hb (by decide)) _, fun b hb => ?_⟩
    rcases hal with ⟨rfl, rfl⟩ | hf
    · left; rw [← hb]; exact ob_slice ..
    · right; exact Nat.le_trans hN1 (hf b hb)
  · obtain ⟨gv, h1, h2, h3, h4⟩ := hG.each j u (by omega) hu
    exact ⟨gv, by rw [List.getElem?_set_ne (fun e2 => e e2.symm)]; exact h1, h2, own_setOther (a := ⟨gb, k, none⟩) h3 (own_ne h3 hb (by decide)) _, h4⟩
theorem many_put {N1 : Nat} {w W W' : World} {vs : List SlV} {gb k cap : Nat} {us : List Value} {v : SlV} {so : Option Addr} {ys : List Rd} (hN1 : N1 = w.heap.size) (hO : ∀ b, OwnB vs b → b < w.heap.size) (hww : w.heap.size ≤ W.heap.size) (hgb : w.heap.size ≤ gb)
    (ha : Apart1 vs) (hk : k < vs.length) (hv : vs[k]? = some v) (hG : GrownW N1 W vs gb us) (hys : ys.length = 64)
    (hown : W'.ownsRow 0 117 3 (.slice so (v.n + 64) cap) (v.n + 64) ((mkL k v.n).flatMap encRd ++ ys.flatMap encRd))
    (h2 : (v.val = .slice so v.n cap ∧ But (fun b => v.val.ownBlock = some b) W W') ∨ (Ext W W' ∧ ∀ b, (Value.slice so (v.n + 64) cap).ownBlock = some b → W.heap.size ≤ b)) :
    GrownW N1 (W'.setCell ⟨gb, k, none⟩ (.slice so (v.n + 64) cap)) vs gb (us.set k (.slice so (v.n + 64) cap)) := by
  have hvo : ∀ b, v.val.ownBlock = some b → b < w.heap.size := fun b hb => hO b ⟨k, v, hv, hb⟩
  have hrow : W'.ownsRow 0 28 1 (.slice (some ⟨gb, 0, none⟩) vs.length vs.length) vs.length us := by
    rcases h2 with ⟨_, hx⟩ | ⟨hx, _⟩
    · exact own_but hG.row hx (fun b hb e => by have h1 : gb = b := by simpa [Value.ownBlock] using hb
                                                have := hvo b e
                                                omega)
    · exact own_ext hG.row hx
  obtain ⟨cs, hb⟩ := own_blk hrow (j := gb) rfl
  have hlen : us.length = vs.length := by have := hG.row.1; omega
  refine ⟨own_set2 hrow k _, fun j u hu => ?_⟩
  by_cases e : j = k
  · subst e
    rw [hv] at hu
    obtain rfl := Option.some.inj hu
    refine ⟨⟨so, v.n + 64, cap⟩, mkL j v.n ++ ys, by rw [List.getElem?_set_self (by omega)]; rfl, by simp, by rw [List.length_append, mkL_len, hys], List.take_left' (mkL_len _ _), ?_, fun b hb2 => ?_⟩
    · have h5 := own_setOther (a := ⟨gb, j, none⟩) hown (own_ne hown hb (by decide)) (.slice so (v.n + 64) cap)
      rw [← List.flatMap_append] at h5
      exact h5
    · rcases h2 with ⟨e2, _⟩ | ⟨hx, hf⟩
      · left
        rw [e2, ← hb2]; exact ob_slice ..
      · right
        have := hf b hb2
        omega
  · obtain ⟨gv, xs, h1, h3, h4, h5, h6, h7⟩ := hG.each j u hu
    have h8 : W'.ownsRow 0 117 3 gv.val gv.n (xs.flatMap encRd) := by
      rcases h2 with ⟨_, hx⟩ | ⟨hx, _⟩
      · refine own_but h6 hx (fun b hb2 e2 => ?_)
        rcases h7 b hb2 with h9 | h9
        · exact ha j k u v e hu hv b h9 e2
        · have := hvo b e2; omega
      · exact own_ext h6 hx
    exact ⟨gv, xs, by rw [List.getElem?_set_ne (fun e2 => e e2.symm)]; exact h1, h3, h4, h5, own_setOther (a := ⟨gb, k, none⟩) h8 (own_ne h8 hb (by decide)) _, h7⟩
set_option maxRecDepth 100000 in
set_option maxHeartbeats 12800000 in
theorem flatReads_calls (vs : List SlV) (lo : Option Addr) (lcap : Nat) (w : World) (c0 : Nat → List Rd) (hN : vs.length ≤ 1000) (hn : ∀ (j : Nat) (v : SlV), vs[j]? = some v → v.n ≤ 1000000) (hrow : NRows 1 encSl (OwnB vs) w lo vs) (hlists : ListsAt w vs c0) (hap : Apart1 vs) :
    Calls Tryz.prog 66 #[.slice lo vs.length lcap] w fun e w' => e = .returned (.bool true) ∧ But (OwnB vs) w w' := by
  have HR := Lib.hid hrow; have HL := Lib.hid hlists; have HA := Lib.hid hap; have HN := Lib.hid hn
  have OL := Lib.hid (fun b (hb : OwnB vs b) => hlists.lt hb)
  clear hrow hlists hap hn
  go_enter Tryz.func66, Tryz.ntmps66
  go_wp2_with fail
  go_loopw [3] (fun i wr => ∃ (k : Nat) (c : Nat → List Rd), k ≤ vs.length ∧ i = .int .i64 k ∧ ListsAt wr vs c ∧ (∀ (j : Nat) (v : SlV), j < k → vs[j]? = some v → c j = mkL j v.n) ∧ But (OwnB vs) w wr) (fun i _ => vs.length - (intOf i).toNat)
  case atStart => exact ⟨0, c0, by omega, rfl, HL.out, fun j v h => by omega, But.refl _ _⟩
  case round =>
    obtain ⟨k, c, hk, rfl, hL, hM, hB⟩ := hrel
    have L1 := Lib.hid hL; have M1 := Lib.hid hM; have B1 := Lib.hid hB
    clear hL hM hB
    by_cases hlt : k < vs.length
    · obtain ⟨v, hv⟩ : ∃ v, vs[k]? = some v := ⟨_, List.getElem?_eq_getElem hlt⟩
      obtain ⟨b, off, rfl, hb, hnb, hcell⟩ := outer_cell HR.out hv
      have hvn := HN.out k v hv
      have HV := Lib.hid hv; have NB := Lib.hid hnb
      have LC := Lib.hid (fun W (hW : But (OwnB vs) w W) => (hW.cell (p := ⟨b, _, none⟩) hb hnb).trans hcell)
      obtain ⟨vao, vn, vcap⟩ := v
      simp only at LC hvn
      have i0 : (0 : Int) ≤ (k : Int) := by omega
      have i1 : (k : Int) < (vs.length : Int) := by omega
      clear hv hnb hcell hb
      go_wp2_with fail
      go_loopw [4] (fun i wr => ∃ (q : Nat) (c : Nat → List Rd), q ≤ vn ∧ i = .int .i64 q ∧ ListsAt wr vs c ∧ (∀ (j : Nat) (v : SlV), j < k → vs[j]? = some v → c j = mkL j v.n) ∧ (c k).take q = mkL k q ∧ But (OwnB vs) w wr) (fun i _ => vn - (intOf i).toNat)
      case atStart => exact ⟨0, c, by omega, rfl, L1.out, M1.out, by simp [mkL], B1.out⟩
      case round =>
        obtain ⟨q, c, hq, rfl, hL, hM, hT, hB⟩ := hrel
        have L2 := Lib.hid hL; have M2 := Lib.hid hM; have T2 := Lib.hid hT; have B2 := Lib.hid hB
        have l0 := LC.out wr hB
        clear hL hM hT hB
        by_cases hqt : q < vn
        · have hcl := (L2.out k _ HV.out).1
          obtain ⟨x, hx⟩ : ∃ x, (c k)[q]? = some x := ⟨_, List.getElem?_eq_getElem (by simp only at hcl; omega)⟩
          obtain ⟨g, rfl, hg, -, -, -, -, -, -⟩ := own_cells (L2.out k _ HV.out).2 hcl hx
          have hbg : b ≠ g := fun e => NB.out ⟨k, _, HV.out, by rw [e]; rfl⟩
          have l1 : ∀ p : ButBy (fun j => j = g) wr, p.W.cell? ⟨b, off + k, none⟩ = some (.slice (some ⟨g, 0, none⟩) vn vcap) := ButBy.cell l0 hbg
          have MC := Lib.hid (fun W => markRead_calls (k : Int) (q : Int) W)
          obtain ⟨M, hMM⟩ : ∃ M, M = markRead (k : Int) (q : Int) := ⟨_, rfl⟩
          rw [← hMM] at MC
          have HM := Lib.hid hMM; have HX := Lib.hid hx
          obtain ⟨mky, mis, mvl⟩ := M
          unfold encRd at MC
          simp only at MC hcl
          have CL := Lib.hid hcl
          have XD : Hid (Ext wr wr.drew) := Lib.hid (Below.refl _ wr).drew
          have q0 : (0 : Int) ≤ (q : Int) := by omega
          have q1 : (q : Int) < (vn : Int) := by omega
          clear hMM hx hcl hbg
          go_wp2_with fail
          refine wp_region_firstC (fun W => ∃ p : ButBy (fun j => j = g) wr, W = p.W) [0, 1, 2, 3, 4, 5, 6] 3 (by kernel_rfl) (by kernel_rfl) (fun _ _ _ _ h => h) ⟨⟨wr.drew, Ext.but XD.out _⟩, rfl⟩ ?_
          simp only [opsAt, List.getElem?_toArray, List.getElem?_cons_succ, List.getElem?_cons_zero]
          repeat (go_big_quiet_step (fail))
          refine wpQuiet_nil ?_
          obtain ⟨wq, hwq⟩ : ∃ wq, wq = wr.drew := ⟨_, rfl⟩
          rw [← hwq] at XD ⊢
          clear hwq l0 l1
          refine wpAnyH_ready (rs := [7]) (by kernel_rfl) (by simp) ?_
          refine AllReadyH.cons rfl (fun K hK => ?_) AllReadyH.nil
          go_simp
          refine (MC.out wq).mono ?_
          rintro e w3 ⟨rfl, hx3⟩
          have X3 := Lib.hid (Ext.trans XD.out hx3)
          refine hK.out _ _ ⟨⟨_, Ext.but X3.out _⟩, rfl⟩ (fun _ => ?_)
          clear hK K hx3
          refine wp_takesC (f := 1) [8] (by kernel_rfl) (fun _ _ _ _ h => h) ⟨⟨_, Ext.but X3.out _⟩, rfl⟩ ?_
          simp only [opsAt, List.getElem?_toArray, List.getElem?_cons_succ, List.getElem?_cons_zero]
          repeat (go_big_quiet_step (fail))
          refine wpQuiet_nil ?_
          have L3 := Lib.hid (L2.out.ext X3.out)
          obtain ⟨g', hg', -, d0, d1, d2, f0, f1, f2⟩ := own_cells (L3.out k _ HV.out).2 CL.out HX.out
          cases hg'
          have hbs : But (fun j => j = g) wr (((w3.setCell ⟨g, q * 3, none⟩ (.string mky)).setCell ⟨g, q * 3 + 1, none⟩ (.bool mis)).setCell ⟨g, q * 3 + 2, none⟩ (.string mvl)) := (((Ext.but X3.out (fun j => j = g)).setCell (p := ⟨g, q * 3, none⟩) (fun _ => rfl) _).setCell (p := ⟨g, q * 3 + 1, none⟩) (fun _ => rfl) _).setCell (p := ⟨g, q * 3 + 2, none⟩) (fun _ => rfl) _
          have BS := Lib.hid hbs
          clear hbs
          refine wpAnyH_ready (rs := [9]) (by kernel_rfl) (by simp) ?_
          refine AllReadyH.cons rfl (fun K hK => ?_) AllReadyH.nil
          go_simp
          refine hK.out _ _ ⟨⟨_, BS.out⟩, rfl⟩ (fun _ => ?_)
          clear hK K d0 d1 d2 f0 f1 f2
          refine wpAnyH_done (by kernel_rfl) ?_ _
          go_wp2_with fail
          go_roundw
          case rel =>
            have hls := lists_set L3.out HA.out HV.out rfl hqt ⟨mky, mis, mvl⟩
            refine ⟨q + 1, _, by omega, by go_num, hls, fun j u hj hu => ?_, ?_, B2.out.newR BS.out (fun i hi e => ⟨k, _, HV.out, by rw [show i = g from e]; rfl⟩)⟩
            · rw [if_neg (by omega)]; exact M2.out j u hj hu
            · rw [if_pos rfl, mkL_succ, ← T2.out, ← HM.out, List.take_add_one, List.getElem?_set_self (by have := CL.out; omega), List.take_set]
              rw [List.set_eq_of_length_le (by rw [List.length_take]; omega)]
              rfl
          case measure => simp [intOf]; omega
        · obtain rfl : q = vn := by omega
          go_wp2_with fail
          go_roundw
          case rel =>
            refine ⟨k + 1, c, by omega, by go_num, L2.out, fun j u hj hu => ?_, B2.out⟩
            rcases Nat.lt_or_ge j k with h | h
            · exact M2.out j u h hu
            · obtain rfl : j = k := by omega
              rw [HV.out] at hu
              obtain rfl := Option.some.inj hu
              have h1 := (L2.out j _ HV.out).1
              have h2 := T2.out
              rw [List.take_of_length_le (by simp only at h1; omega)] at h2
              exact h2
          case measure => simp [intOf]; omega
    · have hkN : k = vs.length := by omega
      have LM : Hid (ListsAt wr vs (mkC vs)) := Lib.hid (fun j v hv => by
        have hj := (List.getElem?_eq_some_iff.1 hv).1
        have h1 := L1.out j v hv
        rw [M1.out j v (by omega) hv] at h1
        rw [mkC_at hv]; exact h1)
      obtain ⟨i0, hi, hz0, hz1, hz2⟩ := info_parts infoSl
      obtain ⟨wm, hmk, hownm, hgm⟩ := run_make_full (P := Tryz.prog) wr 0 49 28 i0 _ 1 Tryz.underlying49 hi hz0 hz1 .i64 .i64 vs.length (by rw [hz2]; omega) (by unfold maxLen; omega) (Nat.zero_le _)
      obtain ⟨gb, hgb⟩ : ∃ gb, gb = wr.heap.size := ⟨_, rfl⟩
      rw [← hgb] at hmk hownm
      have hxm : Ext wr wm := ⟨hgm.os, hgm.tape, hgm.output, hgm.size, fun k hk => hgm.block k hk (fun e => by cases e)⟩
      have GB : Hid (w.heap.size ≤ gb) := Lib.hid (by rw [hgb]; exact B1.out.size)
      have OM := Lib.hid hownm; have LM2 := Lib.hid (LM.out.ext hxm); have BM := Lib.hid (B1.out.newR (Ext.but hxm (fun _ => False)) (fun _ _ e => e.elim))
      clear hownm hgm hgb hxm LM L1 M1 B1 hi hz0 hz1 hz2 hkN
      go_wp2_with fail
      clear hmk
      go_loopw [6] (fun i wr => ∃ (k : Nat) (us : List Value), k ≤ vs.length ∧ i = .int .i64 k ∧ ListsAt wr vs (mkC vs) ∧ GrownAt w.heap.size wr vs gb us k ∧ But (OwnB vs) w wr) (fun i _ => vs.length - (intOf i).toNat)
      case atStart => exact ⟨0, _, by omega, rfl, LM2.out, ⟨OM.out, fun j v h => by omega⟩, BM.out⟩
      case round =>
        obtain ⟨k, us, hk, rfl, hL, hG, hB⟩ := hrel
        have L1 := Lib.hid hL; have G1 := Lib.hid hG; have B1 := Lib.hid hB
        clear hL hG hB
        obtain ⟨wk, rfl⟩ : ∃ wk, wk = wr := ⟨_, rfl⟩
        have hsk := B1.out.size
        by_cases hlt : k < vs.length
        · obtain ⟨v, hv⟩ : ∃ v, vs[k]? = some v := ⟨_, List.getElem?_eq_getElem hlt⟩
          obtain ⟨b, off, rfl, hb, hnb, hcell⟩ := outer_cell HR.out hv
          have hvn := HN.out k v hv
          have HV := Lib.hid hv
          have LC := Lib.hid (fun W (hW : But (OwnB vs) w W) => (hW.cell (p := ⟨b, _, none⟩) hb hnb).trans hcell)
          obtain ⟨vao, vn, vcap⟩ := v
          simp only at LC hvn
          have l0 := LC.out wk B1.out
          have i0 : (0 : Int) ≤ (k : Int) := by omega
          have i1 : (k : Int) < (vs.length : Int) := by omega
          have hst := (L1.out k _ HV.out).2
          rw [mkC_at HV.out] at hst
          have HST := Lib.hid hst
          clear hv hnb hcell hb hst
          go_wp2_with fail
          clear l0
          go_loopw [7, 8] (fun vg i wr => ∃ (q : Nat) (gao : Option Addr) (gcap : Nat), q ≤ 64 ∧ i = .int .i64 q ∧ vg = .slice gao (vn + q) gcap ∧ wr.ownsRow 0 117 3 (.slice gao (vn + q) gcap) (vn + q) ((mkL k (vn + q)).flatMap encRd) ∧ ListsAt wr vs (mkC vs) ∧ GrownAt w.heap.size wr vs gb us k ∧ ((gao = vao ∧ gcap = vcap) ∨ ∀ c, (Value.slice gao (vn + q) gcap).ownBlock = some c → wk.heap.size ≤ c) ∧ But (OwnB vs) w wr ∧ wk.heap.size ≤ wr.heap.size) (fun _ i _ => 64 - (intOf i).toNat)
          case atStart => exact ⟨0, vao, vcap, by omega, rfl, rfl, HST.out, L1.out, G1.out, .inl ⟨rfl, rfl⟩, B1.out, Nat.le_refl _⟩
          case round =>
            obtain ⟨q, gao, gcap, hq, rfl, rfl, hown, hL, hG, hal, hB, hsz⟩ := hrel
            have O2 := Lib.hid hown; have L2 := Lib.hid hL; have G2 := Lib.hid hG; have A2 := Lib.hid hal; have B2 := Lib.hid hB
            clear hown hL hG hal hB
            by_cases hqt : q < 64
            · have l0 := LC.out wr B2.out
              have MC := Lib.hid (fun W => markRead_calls (k : Int) ((vn : Int) + (q : Int)) W)
              obtain ⟨M, hMM⟩ : ∃ M, M = markRead (k : Int) ((vn : Int) + (q : Int)) := ⟨_, rfl⟩
              rw [← hMM] at MC
              have MS : Hid (mkL k (vn + q + 1) = mkL k (vn + q) ++ [M]) := Lib.hid (by rw [mkL_succ, hMM]; simp)
              obtain ⟨mky, mis, mvl⟩ := M
              unfold encRd at MC
              simp only at MC
              obtain ⟨i0', hi', hz0', hz1', hz2'⟩ := info_parts infoLentReads
              clear hMM
              go_wp2_with fail
              refine (MC.out wr).mono ?_
              rintro e w3 ⟨rfl, hx3⟩
              have X3 := Lib.hid hx3
              have EN : Hid (Ext w3 (w3.alloc (.cells #[.string mky, .bool mis, .string mvl] 117))) := Lib.hid ((Below.refl _ w3).alloc (Nat.le_refl _) _)
              have CN := Lib.hid (cells_new w3 [.string mky, .bool mis, .string mvl] 117)
              clear hx3 l0
              go_wp2_with (at_builtin; refine wpList_append_two _ rfl (.tmp 57) (.tmp 67) 28 rfl 117 i0' _ 3 40 Tryz.underlying28 hi' hz0' hz1' hz2' rfl (by decide) (.slice gao (vn + q) gcap) (vn + q) ((mkL k (vn + q)).flatMap encRd) rfl (own_ext (own_ext O2.out X3.out) EN.out) ⟨w3.heap.size, 0, none⟩ 1 1 (encRd ⟨mky, mis, mvl⟩) rfl rfl CN.out (oneLentReads _) (by decide) (by unfold maxLen; omega) (by omega) ?_; intro so cap w5 h1 h2; have Y1 := Lib.hid h1; have Y2 := Lib.hid h2; clear h1 h2)
              go_roundw
              case rel =>
                have hx4 := Ext.trans X3.out EN.out
                have hys : (mkL k vn).flatMap encRd ++ ((mkL k (vn + q + 1)).drop vn).flatMap encRd = (mkL k (vn + q)).flatMap encRd ++ encRd ⟨mky, mis, mvl⟩ := by
                  rw [← List.flatMap_append]
                  have e1 : mkL k vn = (mkL k (vn + q + 1)).take vn := (mkL_take (by omega)).symm
                  conv => lhs; rw [e1, List.take_append_drop, MS.out, List.flatMap_append]
                  simp
                have hst := grow_step (k := k) (n := vn + q) (v := ⟨vao, vn, vcap⟩) (ys := (mkL k (vn + q + 1)).drop vn) (cap := cap) (so := so) (w5 := w5) rfl OL.out hsk (Nat.le_trans hsz hx4.size) GB.out HA.out HV.out (L2.out.ext hx4) G1.out (G2.out.ext hx4) (B2.out.newR (Ext.but hx4 (fun _ => False)) (fun _ _ e => e.elim)) A2.out (by rw [hys]; exact Y1.out) (by rw [List.length_drop, mkL_len]; simp only; omega) Y2.out
                refine ⟨q + 1, so, cap, by omega, by go_num, rfl, ?_, hst.1, hst.2.1, hst.2.2.1, hst.2.2.2.1, hst.2.2.2.2⟩
                have h9 := Y1.out
                rw [show vn + (q + 1) = vn + q + 1 from rfl, MS.out, List.flatMap_append]
                simpa using h9
              case measure => simp [intOf]; omega
            · obtain rfl : q = 64 := by omega
              have hul : us.length = vs.length := by have := G2.out.row.1; omega
              obtain ⟨u, hu⟩ : ∃ u, us[k]? = some u := ⟨_, List.getElem?_eq_getElem (by omega)⟩
              have c5 := grown_cell G2.out.row hlt hu
              obtain ⟨cs5, hb5⟩ := own_blk G2.out.row (j := gb) rfl
              have f5 := hb5.free k
              clear hul hu hb5
              go_wp2_with fail
              go_roundw
              case rel =>
                have hset : But (fun j => j = gb) wr (wr.setCell ⟨gb, k, none⟩ (.slice gao (vn + 64) gcap)) := (But.refl (fun j => j = gb) wr).setCell (p := ⟨gb, k, none⟩) (fun _ => rfl) _
                have hgb := GB.out
                refine ⟨k + 1, _, by omega, by go_num, L2.out.but hset (fun b hb e => by have := OL.out b hb; have e2 : b = gb := e; omega), grown_put G2.out hlt HV.out hsk O2.out A2.out, B2.out.newR hset (fun i hi e => by have e2 : i = gb := e; omega)⟩
              case measure => simp [intOf]; omega
        · obtain rfl : k = vs.length := by omega
          obtain ⟨wB, rfl⟩ : ∃ wB, wB = wk := ⟨_, rfl⟩
          have GB3 := Lib.hid G1.out.each
          go_wp2_with fail
          go_loopw [9] (fun i wr => ∃ k : Nat, k ≤ vs.length ∧ i = .int .i64 k ∧ Ext wB wr) (fun i _ => vs.length - (intOf i).toNat)
          case atStart => exact ⟨0, by omega, rfl, Below.refl _ _⟩
          case round =>
            obtain ⟨k, hk, rfl, hx⟩ := hrel
            have K1 := Lib.hid hx
            clear hx
            by_cases hlt2 : k < vs.length
            · obtain ⟨v, hv⟩ : ∃ v, vs[k]? = some v := ⟨_, List.getElem?_eq_getElem hlt2⟩
              obtain ⟨b, off, rfl, hb, hnb, hcell⟩ := outer_cell HR.out hv
              have hvn := HN.out k v hv
              have HV := Lib.hid hv
              have LC := Lib.hid (fun W (hW : Ext wB W) => ((B1.out.newR (Ext.but hW (fun _ => False)) (fun _ _ e => e.elim)).cell (p := ⟨b, _, none⟩) hb hnb).trans hcell)
              obtain ⟨gv, hu, hgn, hgo, -⟩ := GB3.out k v hlt2 hv
              obtain ⟨vao, vn, vcap⟩ := v
              obtain ⟨gao, gn, gcap⟩ := gv
              simp only at LC hvn hgn
              subst hgn
              have GC := Lib.hid (fun W (hW : Ext wB W) => grown_cell (own_ext G1.out.row hW) hlt2 hu)
              have GO := Lib.hid hgo
              unfold SlV.val at GC
              simp only at GC
              have i0 : (0 : Int) ≤ (k : Int) := by omega
              have i1 : (k : Int) < (vs.length : Int) := by omega
              clear hv hnb hcell hb hu hgo
              go_wp2_with fail
              go_loopw [10] (fun i wr => ∃ q : Nat, q ≤ vn + 64 ∧ i = .int .i64 q ∧ Ext wB wr) (fun i _ => vn + 64 - (intOf i).toNat)
              case atStart => exact ⟨0, by omega, rfl, K1.out⟩
              case round =>
                obtain ⟨q, hq, rfl, hx⟩ := hrel
                have K2 := Lib.hid hx
                clear hx
                have gc := GC.out wr K2.out
                by_cases hqt : q < vn + 64
                · obtain ⟨g, hg, hgl, d0, d1, d2, -, -, -⟩ := own_cells (own_ext GO.out K2.out) (mkL_len _ _) (mkL_at hqt)
                  simp only at hg
                  subst hg
                  have MC := Lib.hid (fun (p : ExtBy wr) => markRead_calls (k : Int) (q : Int) p.W)
                  have hmq : ∀ hlt3 : q < vn, (mkC vs k)[q]? = some (markRead (k : Int) (q : Int)) := fun hlt3 => by rw [mkC_at HV.out]; exact mkL_at hlt3
                  obtain ⟨M, hMM⟩ : ∃ M, M = markRead (k : Int) (q : Int) := ⟨_, rfl⟩
                  rw [← hMM] at MC d0 d1 d2 hmq
                  obtain ⟨mky, mis, mvl⟩ := M
                  unfold encRd at MC
                  simp only at MC d0 d1 d2
                  have heq := eql_Rd
                  have hself := same_self mky mis mvl
                  have gc1 := ExtBy.cell gc; have e0 := ExtBy.cell d0; have e1 := ExtBy.cell d1; have e2 := ExtBy.cell d2
                  have q0 : (0 : Int) ≤ (q : Int) := by omega
                  have q1 : (q : Int) < ((vn + 64 : Nat) : Int) := by omega
                  have q2 : (q : Int) < (vn : Int) + 64 := by omega
                  have HMQ := Lib.hid hmq
                  have l1 := ExtBy.cell (LC.out wr K2.out)
                  clear hMM d0 d1 d2 hmq
                  by_cases hlt3 : q < vn
                  · obtain ⟨g', hg', -, d0, d1, d2, -, -, -⟩ := own_cells ((L1.out.ext K2.out) k _ HV.out).2 ((L1.out.ext K2.out) k _ HV.out).1 (HMQ.out hlt3)
                    simp only at hg'
                    subst hg'
                    have k0 := ExtBy.cell d0; have k1 := ExtBy.cell d1; have k2 := ExtBy.cell d2
                    simp only at k0 k1 k2
                    have t1 : decide (q < vn) = true := decide_eq_true hlt3
                    have t2 : decide ((q : Int) < (vn : Int)) = true := decide_eq_true (by omega)
                    have q3 : (q : Int) < (vn : Int) := by omega
                    clear d0 d1 d2
                    go_wp2_with fail
                    refine wp_region_ext (by kernel_rfl) (by kernel_rfl) ?_
                    repeat (go_big_quiet_step ((with_reducible exact Calls.ext_of _ (MC.out _))))
                    refine wpQuiet_nil ?_
                    intro wc hw'
                    have XC : Hid (Ext wB wc) := Lib.hid (by obtain ⟨p, rfl⟩ := hw'; exact Ext.trans K2.out p.ext)
                    clear hw' gc1 e0 e1 e2 k0 k1 k2 l1 heq hself
                    go_wp2_with fail
                    go_roundw
                    case rel => exact ⟨q + 1, by omega, by go_num, XC.out⟩
                    case measure => simp [intOf]; omega
                  · have t1 : decide (q < vn) = false := decide_eq_false hlt3
                    have t2 : decide ((q : Int) < (vn : Int)) = false := decide_eq_false (by omega)
                    go_wp2_with fail
                    refine wp_region_ext (by kernel_rfl) (by kernel_rfl) ?_
                    repeat (go_big_quiet_step ((with_reducible exact Calls.ext_of _ (MC.out _))))
                    refine wpQuiet_nil ?_
                    intro wc hw'
                    have XC : Hid (Ext wB wc) := Lib.hid (by obtain ⟨p, rfl⟩ := hw'; exact Ext.trans K2.out p.ext)
                    clear hw' gc1 e0 e1 e2 l1 heq hself
                    go_wp2_with fail
                    go_roundw
                    case rel => exact ⟨q + 1, by omega, by go_num, XC.out⟩
                    case measure => simp [intOf]; omega
                · obtain rfl : q = vn + 64 := by omega
                  go_wp2_with fail
                  go_roundw
                  case rel => exact ⟨k + 1, by omega, by go_num, K2.out⟩
                  case measure => simp [intOf]; omega
            · obtain rfl : k = vs.length := by omega
              obtain ⟨wC, rfl⟩ : ∃ wC, wC = wr := ⟨_, rfl⟩
              have GW := Lib.hid ((G1.out.ext K1.out).weak); have LW := Lib.hid (L1.out.ext K1.out); have BW := Lib.hid (B1.out.newR (Ext.but K1.out (fun _ => False)) (fun _ _ e => e.elim))
              clear L1 G1 B1 GB3 K1 hsk
              go_wp2_with fail
              go_loopw [11] (fun i wr => ∃ (k : Nat) (us : List Value), k ≤ vs.length ∧ i = .int .i64 k ∧ ListsAt wr vs (mkC vs) ∧ GrownW w.heap.size wr vs gb us ∧ But (OwnB vs) w wr) (fun i _ => vs.length - (intOf i).toNat)
              case atStart => exact ⟨0, _, by omega, rfl, LW.out, GW.out, BW.out⟩
              case round =>
                obtain ⟨k, us, hk, rfl, hL, hG, hB⟩ := hrel
                have L1 := Lib.hid hL; have G1 := Lib.hid hG; have B1 := Lib.hid hB
                clear hL hG hB
                by_cases hlt4 : k < vs.length
                · obtain ⟨v, hv⟩ : ∃ v, vs[k]? = some v := ⟨_, List.getElem?_eq_getElem hlt4⟩
                  obtain ⟨b, off, rfl, hb, hnb, hcell⟩ := outer_cell HR.out hv
                  have hvn := HN.out k v hv
                  have HV := Lib.hid hv
                  have LC := Lib.hid (fun W (hW : But (OwnB vs) w W) => (hW.cell (p := ⟨b, _, none⟩) hb hnb).trans hcell)
                  obtain ⟨vao, vn, vcap⟩ := v
                  simp only at LC hvn
                  have i0 : (0 : Int) ≤ (k : Int) := by omega
                  have i1 : (k : Int) < (vs.length : Int) := by omega
                  clear hv hnb hcell hb
                  obtain ⟨j0, hj, hj0, hj1, hj2⟩ := info_parts infoLentReads
                  obtain ⟨wm, hmk, hownm, hgm⟩ := run_make_full (P := Tryz.prog) wr 0 28 117 j0 _ 3 Tryz.underlying28 hj hj0 hj1 .i64 .i64 64 (by rw [hj2]; omega) (by unfold maxLen; omega) (Nat.zero_le _)
                  rw [made_rows] at hownm
                  obtain ⟨mb, hmb⟩ : ∃ mb, mb = wr.heap.size := ⟨_, rfl⟩
                  rw [← hmb] at hmk hownm
                  have hxm : Ext wr wm := ⟨hgm.os, hgm.tape, hgm.output, hgm.size, fun k hk => hgm.block k hk (fun e => by cases e)⟩
                  have OM := Lib.hid hownm; have XM := Lib.hid hxm; have HMB := Lib.hid hmb
                  clear hownm hgm hxm hmb
                  simp only [Int.cast_ofNat_Int] at hmk
                  obtain ⟨wo, rfl⟩ : ∃ wo, wo = wr := ⟨_, rfl⟩
                  go_wp2_with fail
                  clear hmk
                  go_loopw [13] (fun i wr => ∃ (q : Nat) (xs : List Rd), q ≤ 64 ∧ i = .int .i64 q ∧ xs.length = 64 ∧ wr.ownsRow 0 117 3 (.slice (some ⟨mb, 0, none⟩) 64 64) 64 (xs.flatMap encRd) ∧ But (fun j => j = mb) wm wr) (fun i _ => 64 - (intOf i).toNat)
                  case atStart => exact ⟨0, _, by omega, rfl, by simp, OM.out, But.refl _ _⟩
                  case round =>
                    obtain ⟨q, xs, hq, rfl, hxl, hown, hx⟩ := hrel
                    have O2 := Lib.hid hown; have K2 := Lib.hid hx; have XL := Lib.hid hxl
                    clear hown hx hxl
                    by_cases hqt : q < 64
                    · have MC := Lib.hid (fun W => markRead_calls ((k : Int) + (vs.length : Int)) (q : Int) W)
                      obtain ⟨M, hMM⟩ : ∃ M, M = markRead ((k : Int) + (vs.length : Int)) (q : Int) := ⟨_, rfl⟩
                      rw [← hMM] at MC
                      obtain ⟨mky, mis, mvl⟩ := M
                      unfold encRd at MC
                      simp only at MC
                      have q0 : (0 : Int) ≤ (q : Int) := by omega
                      have q1 : (q : Int) < 64 := by omega
                      clear hMM
                      go_wp2_with fail
                      refine (MC.out wr).mono ?_
                      rintro e w3 ⟨rfl, hx3⟩
                      have X3 := Lib.hid hx3
                      obtain ⟨x, hx⟩ : ∃ x, xs[q]? = some x := ⟨_, List.getElem?_eq_getElem (by have := XL.out; omega)⟩
                      obtain ⟨g', hg', -, d0, d1, d2, f0, f1, f2⟩ := own_cells (v := ⟨some ⟨mb, 0, none⟩, 64, 64⟩) (own_ext O2.out hx3) XL.out hx
                      cases hg'
                      clear hx3 hx
                      go_wp2_with fail
                      go_roundw
                      case rel =>
                        have h3 := own_set2 (own_set2 (own_set2 (own_ext O2.out X3.out) (q * 3) (.string mky)) (q * 3 + 1) (.bool mis)) (q * 3 + 2) (.string mvl)
                        rw [flat_set ⟨mky, mis, mvl⟩ xs q (by have := XL.out; omega)] at h3
                        exact ⟨q + 1, xs.set q ⟨mky, mis, mvl⟩, by omega, by go_num, by rw [List.length_set]; exact XL.out, h3, K2.out.newR ((((Ext.but X3.out (fun j => j = mb)).setCell (p := ⟨mb, q * 3, none⟩) (fun _ => rfl) _).setCell (p := ⟨mb, q * 3 + 1, none⟩) (fun _ => rfl) _).setCell (p := ⟨mb, q * 3 + 2, none⟩) (fun _ => rfl) _) (fun _ _ e => e)⟩
                      case measure => simp [intOf]; omega
                    · obtain rfl : q = 64 := by omega
                      have hxw : Ext wo wr := Below.trans XM.out (K2.out.below XM.out.size (fun i e => by rw [show i = mb from e, HMB.out]; exact Nat.le_refl _))
                      have X6 := Lib.hid hxw
                      have l0 := LC.out wr (B1.out.newR (Ext.but hxw (fun _ => False)) (fun _ _ e => e.elim))
                      have hul : us.length = vs.length := by have := G1.out.row.1; omega
                      obtain ⟨u, hu⟩ : ∃ u, us[k]? = some u := ⟨_, List.getElem?_eq_getElem (by omega)⟩
                      have HU := Lib.hid hu
                      have hst := ((L1.out.ext hxw) k _ HV.out).2
                      rw [mkC_at HV.out] at hst
                      have HST := Lib.hid hst
                      have hrm := rows_of_own (enc := encRd) (sz := 3) (l := xs) (cap := 64) (fun _ => rfl) (by rw [XL.out]; exact O2.out)
                      have CN : Hid (∀ (j : Nat) (y : Value), (xs.flatMap encRd)[j]? = some y → wr.cell? ((⟨mb, 0, none⟩ : Addr).add j) = some y) := Lib.hid (O2.out.cells (g := mb) rfl)
                      have LX : Hid ((xs.flatMap encRd).length = 64 * 3) := Lib.hid O2.out.1
                      have OX : Hid (∀ y ∈ xs.flatMap encRd, y.oneCell' = true) := Lib.hid (fun y hy => by
                        obtain ⟨r, _, hr⟩ := List.mem_flatMap.1 hy
                        exact oneLentReads r y hr)
                      clear hxw hul hu hst hrm
                      go_wp2_with (at_builtin; refine wpList_append_two _ rfl (.tmp 148) (.tmp 149) 28 rfl 117 j0 _ 3 40 Tryz.underlying28 hj hj0 hj1 hj2 rfl (by decide) (.slice vao vn vcap) vn ((mkL k vn).flatMap encRd) rfl HST.out ⟨mb, 0, none⟩ 64 64 (xs.flatMap encRd) rfl LX.out CN.out OX.out (by decide) (by unfold maxLen; omega) (by omega) ?_; intro so cap w5 h1 h2; have Y1 := Lib.hid h1; have Y2 := Lib.hid h2; obtain ⟨c5, f5⟩ : w5.cell? ⟨gb, k, none⟩ = some u ∧ w5.frozen? ⟨gb, k, none⟩ = false := (by
                        have hr5 : w5.ownsRow 0 28 1 (.slice (some ⟨gb, 0, none⟩) vs.length vs.length) vs.length us := by
                          rcases h2 with ⟨_, hx5⟩ | ⟨hx5, _⟩
                          · exact own_but (own_ext G1.out.row X6.out) hx5 (fun b hb e => by
                              have h1 : gb = b := by simpa [Value.ownBlock] using hb
                              have h3 := OL.out b ⟨k, _, HV.out, e⟩
                              have h4 := GB.out
                              omega)
                          · exact own_ext (own_ext G1.out.row X6.out) hx5
                        obtain ⟨cs5, hb5⟩ := own_blk hr5 (j := gb) rfl
                        exact ⟨grown_cell hr5 hlt4 HU.out, hb5.free k⟩); clear h1 h2)
                      go_roundw
                      case rel =>
                        have hset : But (fun j => j = gb) w5 (w5.setCell ⟨gb, k, none⟩ (.slice so (vn + 64) cap)) := (But.refl (fun j => j = gb) w5).setCell (p := ⟨gb, k, none⟩) (fun _ => rfl) _
                        have hgb := GB.out
                        have hB6 := B1.out.newR (Ext.but X6.out (fun _ => False)) (fun _ _ e => e.elim)
                        have hL5 : ListsAt w5 vs (mkC vs) := lists_two (v := ⟨vao, vn, vcap⟩) (m := 64) (cap := cap) (so := so) (ys := xs) (L1.out.ext X6.out) HA.out HV.out Y1.out (by
                          rcases Y2.out with h | h
                          · exact .inl h
                          · exact .inr h.1)
                        have hB5 : But (OwnB vs) w w5 := by
                          rcases Y2.out with ⟨_, hx5⟩ | ⟨hx5, _⟩
                          · exact hB6.newR hx5 (fun i _ e => ⟨k, _, HV.out, e⟩)
                          · exact hB6.newR (Ext.but hx5 (fun _ => False)) (fun _ _ e => e.elim)
                        exact ⟨k + 1, _, by omega, by go_num, hL5.but hset (fun b hb e => by have := OL.out b hb; have e2 : b = gb := e; omega), many_put (v := ⟨vao, vn, vcap⟩) rfl OL.out hB6.size GB.out HA.out hlt4 HV.out (G1.out.ext X6.out) XL.out Y1.out Y2.out, hB5.newR hset (fun i hi e => by have e2 : i = gb := e; omega)⟩
                      case measure => simp [intOf]; omega
                · obtain rfl : k = vs.length := by omega
                  obtain ⟨wD, rfl⟩ : ∃ wD, wD = wr := ⟨_, rfl⟩
                  go_wp2_with fail
                  go_loopw [14] (fun i wr => ∃ k : Nat, k ≤ vs.length ∧ i = .int .i64 k ∧ Ext wD wr) (fun i _ => vs.length - (intOf i).toNat)
                  case atStart => exact ⟨0, by omega, rfl, Below.refl _ _⟩
                  case round =>
                    obtain ⟨k, hk, rfl, hx⟩ := hrel
                    have K1 := Lib.hid hx
                    clear hx
                    by_cases hlt5 : k < vs.length
                    · obtain ⟨v, hv⟩ : ∃ v, vs[k]? = some v := ⟨_, List.getElem?_eq_getElem hlt5⟩
                      obtain ⟨b, off, rfl, hb, hnb, hcell⟩ := outer_cell HR.out hv
                      have hvn := HN.out k v hv
                      have HV := Lib.hid hv
                      have LC := Lib.hid (fun W (hW : Ext wD W) => ((B1.out.newR (Ext.but hW (fun _ => False)) (fun _ _ e => e.elim)).cell (p := ⟨b, _, none⟩) hb hnb).trans hcell)
                      obtain ⟨gv, xs, hu, hgn, hgl, hgt, hgo, -⟩ := G1.out.each k v hv
                      obtain ⟨vao, vn, vcap⟩ := v
                      obtain ⟨gao, gn, gcap⟩ := gv
                      simp only at LC hvn hgn hgl hgt
                      have GC := Lib.hid (fun W (hW : Ext wD W) => grown_cell (own_ext G1.out.row hW) hlt5 hu)
                      have GO := Lib.hid hgo; have GL := Lib.hid hgl; have GT := Lib.hid hgt
                      unfold SlV.val at GC
                      simp only at GC
                      have i0 : (0 : Int) ≤ (k : Int) := by omega
                      have i1 : (k : Int) < (vs.length : Int) := by omega
                      clear hv hnb hcell hb hu hgo hgl hgt
                      go_wp2_with fail
                      go_loopw [15] (fun i wr => ∃ q : Nat, q ≤ vn ∧ i = .int .i64 q ∧ Ext wD wr) (fun i _ => vn - (intOf i).toNat)
                      case atStart => exact ⟨0, by omega, rfl, K1.out⟩
                      case round =>
                        obtain ⟨q, hq, rfl, hx⟩ := hrel
                        have K2 := Lib.hid hx
                        clear hx
                        have lc := LC.out wr K2.out
                        by_cases hqt : q < vn
                        · have hxq : xs[q]? = some (markRead (k : Int) (q : Int)) := by
                            have h1 := mkL_at (k := k) hqt
                            rw [← GT.out, List.getElem?_take_of_lt hqt] at h1
                            exact h1
                          have hcq : (mkC vs k)[q]? = some (markRead (k : Int) (q : Int)) := by rw [mkC_at HV.out]; exact mkL_at hqt
                          obtain ⟨g, hg, -, d0, d1, d2, -, -, -⟩ := own_cells (own_ext GO.out K2.out) GL.out hxq
                          obtain ⟨g', hg', -, d3, d4, d5, -, -, -⟩ := own_cells ((L1.out.ext K2.out) k _ HV.out).2 ((L1.out.ext K2.out) k _ HV.out).1 hcq
                          simp only at hg hg'
                          subst hg hg'
                          have MC := Lib.hid (fun (p : ExtBy wr) => markRead_calls (k : Int) (q : Int) p.W)
                          obtain ⟨M, hMM⟩ : ∃ M, M = markRead (k : Int) (q : Int) := ⟨_, rfl⟩
                          rw [← hMM] at MC d0 d1 d2 d3 d4 d5
                          obtain ⟨mky, mis, mvl⟩ := M
                          unfold encRd at MC
                          simp only at MC d0 d1 d2 d3 d4 d5
                          have heq := eql_Rd
                          have hself := same_self mky mis mvl
                          have e0 := ExtBy.cell d0; have e1 := ExtBy.cell d1; have e2 := ExtBy.cell d2; have e3 := ExtBy.cell d3; have e4 := ExtBy.cell d4; have e5 := ExtBy.cell d5; have l1 := ExtBy.cell lc; have g1 := ExtBy.cell (GC.out wr K2.out)
                          have q0 : (0 : Int) ≤ (q : Int) := by omega
                          have q1 : (q : Int) < (vn : Int) := by omega
                          have q2 : (q : Int) < (gn : Int) := by omega
                          clear hxq hcq d0 d1 d2 d3 d4 d5 hMM
                          go_wp2_with fail
                          refine wp_region_ext (by kernel_rfl) (by kernel_rfl) ?_
                          repeat (go_big_quiet_step ((with_reducible exact Calls.ext_of _ (MC.out _))))
                          refine wpQuiet_nil ?_
                          intro wc hw'
                          have XC : Hid (Ext wD wc) := Lib.hid (by obtain ⟨p, rfl⟩ := hw'; exact Ext.trans K2.out p.ext)
                          clear hw' e0 e1 e2 e3 e4 e5 l1 g1 heq hself
                          go_wp2_with fail
                          go_roundw
                          case rel => exact ⟨q + 1, by omega, by go_num, XC.out⟩
                          case measure => simp [intOf]; omega
                        · obtain rfl : q = vn := by omega
                          go_wp2_with fail
                          go_roundw
                          case rel => exact ⟨k + 1, by omega, by go_num, K2.out⟩
                          case measure => simp [intOf]; omega
                    · go_wp2_with fail
                      go_ret
                      exact ⟨rfl, B1.out.newR (Ext.but K1.out (fun _ => False)) (fun _ _ e => e.elim)⟩
end FlatR
end Go.Proofs.YtbnclifpdmpjnaaGreatDoor
