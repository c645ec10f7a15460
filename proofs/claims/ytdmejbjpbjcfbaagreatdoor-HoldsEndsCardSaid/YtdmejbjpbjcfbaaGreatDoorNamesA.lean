/- The reference's Older. -/
import Derived.Test.YtdmejbjpbjcfbaaGreatDoorMem
import Derived.Test.YtdmejbjpbjcfbaaGreatDoorRefTabs
namespace Go.Proofs.YtdmejbjpbjcfbaaGreatDoor
open Go.RowKit
theorem refOlder_calls (c1 n1 c2 n2 : Int) (w : World) :
    Calls Tryz.prog 146 #[.agg #[.int .i64 c1, .int .i64 n1], .agg #[.int .i64 c2, .int .i64 n2]] w fun e w' => e = .returned (.bool (olderB c1 n1 c2 n2)) ∧ Ext w w' := by
  have hx : Ext w ((w.alloc (.cells #[.int .i64 c1, .int .i64 n1] 24)).alloc (.cells #[.int .i64 c2, .int .i64 n2] 24)) := ((Below.refl _ w).alloc (Nat.le_refl _) _).alloc (by simp) _
  have HX := Lib.hid hx; clear hx
  rcases Int.lt_trichotomy n1 n2 with h | h | h
  · have g1 : decide (n1 < n2) = true := by simp; omega
    go_enter Tryz.func146, Tryz.ntmps146
    go_wp2
    all_goals (go_ret; exact ⟨ret_bool (by simp [olderB, h]), HX.out⟩)
  · subst h
    go_enter Tryz.func146, Tryz.ntmps146
    go_wp2
    all_goals (go_ret; exact ⟨ret_bool (by simp [olderB]), HX.out⟩)
  · have g1 : decide (n1 < n2) = false := by simp; omega
    have g2 : (n1 == n2) = false := by simp; omega
    go_enter Tryz.func146, Tryz.ntmps146
    go_wp2
    all_goals (go_ret; exact ⟨ret_bool (by simp [olderB]; omega), HX.out⟩)
end Go.Proofs.YtdmejbjpbjcfbaaGreatDoor
/- Names: rows of names, SameNames, Pick, Older. -/
namespace Go.Proofs.YtdmejbjpbjcfbaaGreatDoor
open Go.RowKit
variable {no0 : Nat → Prop}
abbrev Nm := Int × Int
def encNm (n : Nm) : List Value := [.int .i64 n.1, .int .i64 n.2]
theorem one_nm : ∀ (x : Nm), ∀ u ∈ encNm x, u.oneCell' = true := by
  intro x u hu
  simp only [encNm, List.mem_cons, List.not_mem_nil, or_false] at hu
  rcases hu with rfl | rfl <;> rfl
theorem infoNm : (Tryz.prog.info? 24).map (fun i => (i.zero, i.size, i.bytes)) = some (some (.agg #[.int .i64 0, .int .i64 0]), 2, 16) := by kernel_rfl
theorem neq_Nm (c1 n1 c2 n2 : Int) (w : World) :
    (binOp .neq 24 (.agg #[.int .i64 c1, .int .i64 n1]) (.agg #[.int .i64 c2, .int .i64 n2])).run Tryz.prog w = .ok (.bool (!(c1 == c2 && n1 == n2))) w := by
  have hS : Tryz.prog.underlying 24 = some (.struct (Tryz.prog.fieldsOf 24)) := by kernel_rfl
  have hp : Tryz.prog.stoodInHeld 24 = false := by kernel_rfl
  have u9 := Tryz.underlying3
  rw [run_neq_struct, show (10000 : Nat) = 9999 + 1 from rfl, run_equalIn_agg w 9999 24 _ _ hS hp]
  simp only [Program.fieldsOf, Tryz.underlying24]
  go_simp
  by_cases h1 : c1 = c2 <;> by_cases h2 : n1 = n2 <;> simp [h1, h2]
set_option maxRecDepth 100000 in
set_option maxHeartbeats 800000 in
theorem sameNames_calls (l : List Nm) (ao bo : Option Addr) (cap cap' : Nat) (w : World) (hl : l.length ≤ 1000000) (hr : Rows 2 encNm w.heap.size w ao l) (hq : Rows 2 encNm w.heap.size w bo l) :
    Calls Tryz.prog 93 #[.slice ao l.length cap, .slice bo l.length cap'] w fun e w' => e = .returned (.bool true) ∧ Ext w w' := by
  have HR := Lib.hid hr; have HQ := Lib.hid hq
  clear hr hq
  go_enter Tryz.func93, Tryz.ntmps93
  go_wp2_with fail
  go_loopw [5] (fun i wr => ∃ (k : Nat), k ≤ l.length ∧ i = .int .i64 k ∧ Ext w wr) (fun i _ => l.length - (intOf i).toNat)
  case atStart => exact ⟨0, by omega, rfl, Below.refl _ _⟩
  case round =>
    obtain ⟨k, hk, rfl, hx⟩ := hrel
    have K2 := Lib.hid hx
    clear hx
    by_cases hlt : k < l.length
    · obtain ⟨x, hx⟩ : ∃ x, l[k]? = some x := ⟨_, List.getElem?_eq_getElem hlt⟩
      obtain ⟨b, off, rfl, hb, hcell⟩ := HR.out (by intro e; rw [e] at hlt; simp at hlt)
      obtain ⟨b', off', rfl, hb', hcell'⟩ := HQ.out (by intro e; rw [e] at hlt; simp at hlt)
      obtain ⟨xc, xn⟩ := x
      have d0 := ExtBy.cell (cellX K2.out (hcell k _ hx 0 _ rfl)); have d1 := ExtBy.cell (cellX K2.out (hcell k _ hx 1 _ rfl))
      have c0 := ExtBy.cell (cellX K2.out (hcell' k _ hx 0 _ rfl)); have c1 := ExtBy.cell (cellX K2.out (hcell' k _ hx 1 _ rfl))
      simp only [Nat.add_zero] at d0 c0
      have hi0 : (0 : Int) ≤ (k : Int) := by omega
      have hi1 : (k : Int) < (l.length : Int) := by omega
      have heq := neq_Nm
      clear hx hcell hcell'
      go_wp2_with fail
      refine wp_region_ext (by kernel_rfl) (by kernel_rfl) ?_
      repeat (go_big_quiet_step (fail))
      refine wpQuiet_nil ?_
      intro wc hw'
      have hxc : Ext wr wc := by obtain ⟨q, rfl⟩ := hw'; exact q.ext
      have XC := Lib.hid (Ext.trans K2.out hxc)
      clear hw' hxc heq d0 d1 c0 c1
      go_wp2_with fail
      go_roundw
      case rel => exact ⟨k + 1, by omega, by go_num, XC.out⟩
      case measure => simp [intOf]; omega
    · go_wp2_with fail
      go_ret
      exact ⟨ret_bool rfl, K2.out⟩
set_option maxRecDepth 100000 in
theorem pick_calls (x n : Int) (w : World) (hn1 : 1 ≤ n) (hn2 : n ≤ 1000000) :
    Calls Tryz.prog 39 #[.int .i64 x, .int .i64 n] w fun e w' => (∃ k : Nat, e = .returned (.int .i64 k) ∧ (k : Int) < n) ∧ w = w' := by
  have m2 : x.tmod n < n := Int.tmod_lt_of_pos x (by omega)
  have m1 : -n < x.tmod n := by
    have := Int.lt_tmod_of_pos x (b := n) (by omega)
    omega
  obtain ⟨m, hmm⟩ : ∃ m, m = x.tmod n := ⟨_, rfl⟩
  rw [← hmm] at m1 m2
  have hr := hmm.symm
  clear hmm
  by_cases hneg : m < 0
  · go_enter Tryz.func39, Tryz.ntmps39
    go_wp2_with fail
    go_ret
    exact ⟨⟨(m + n).toNat, by rw [Int.toNat_of_nonneg (by omega)]; rfl, by omega⟩, rfl⟩
  · go_enter Tryz.func39, Tryz.ntmps39
    go_wp2_with fail
    go_ret
    exact ⟨⟨m.toNat, by rw [Int.toNat_of_nonneg (by omega)]; rfl, by omega⟩, rfl⟩
end Go.Proofs.YtdmejbjpbjcfbaaGreatDoor
/- Names: the plain law: a row of names that rise, each once. -/
namespace Go.Proofs.YtdmejbjpbjcfbaaGreatDoor
def oldN (a b : Nm) : Bool := olderB a.1 a.2 b.1 b.2
theorem oldN_iff (a b : Nm) : oldN a b = true ↔ a.2 < b.2 ∨ (a.2 = b.2 ∧ a.1 < b.1) := by
  unfold oldN olderB; simp
theorem oldN_false (a b : Nm) : oldN a b = false ↔ ¬ (a.2 < b.2 ∨ (a.2 = b.2 ∧ a.1 < b.1)) := by
  rw [← oldN_iff]; simp
theorem oldN_trans {a b c : Nm} (h1 : oldN a b = true) (h2 : oldN b c = true) : oldN a c = true := by rw [oldN_iff] at *; omega
theorem oldN_irrefl (a : Nm) : oldN a a = false := by rw [oldN_false]; omega
theorem oldN_total {a b : Nm} (h1 : oldN a b = false) (h2 : oldN b a = false) : a = b := by
  rw [oldN_false] at *
  obtain ⟨a1, a2⟩ := a; obtain ⟨b1, b2⟩ := b
  simp only at h1 h2
  simp only [Prod.mk.injEq]; omega
def RiseN (l : List Nm) : Prop := l.Pairwise fun a b => oldN a b = true
def placeN (n : Nm) (l : List Nm) : Nat := (l.takeWhile fun m => oldN m n).length
def insN (n : Nm) (l : List Nm) : List Nm := if l[placeN n l]? = some n then l else l.take (placeN n l) ++ n :: l.drop (placeN n l)
def namesD (ds : List HoldD) : List Nm := ds.foldl (fun l d => insN (d.cl, d.nm) l) []
theorem placeN_le (n : Nm) (l : List Nm) : placeN n l ≤ l.length := by
  unfold placeN
  exact (List.takeWhile_sublist _).length_le
theorem namesD_succ (ds : List HoldD) (k : Nat) (d : HoldD) (h : ds[k]? = some d) : namesD (ds.take (k + 1)) = insN (d.cl, d.nm) (namesD (ds.take k)) := by
  unfold namesD; rw [List.take_add_one, h, Option.toList_some, List.foldl_append]; rfl
theorem insN_len (n : Nm) (l : List Nm) : (insN n l).length ≤ l.length + 1 := by
  unfold insN
  split
  · omega
  · have := placeN_le n l
    rw [List.length_append, List.length_cons, List.length_take, List.length_drop]; omega
theorem insN_mem (n : Nm) (l : List Nm) (x : Nm) : x ∈ insN n l ↔ x = n ∨ x ∈ l := by
  unfold insN
  split
  · rename_i h
    constructor
    · exact .inr
    · rintro (rfl | h')
      · exact List.mem_of_getElem? h
      · exact h'
  · constructor
    · intro h
      rcases List.mem_append.1 h with h | h
      · exact .inr (List.mem_of_mem_take h)
      · rcases List.mem_cons.1 h with h | h
        · exact .inl h
        · exact .inr (List.mem_of_mem_drop h)
    · rintro (rfl | h)
      · simp
      · rw [← List.take_append_drop (placeN n l) l] at h
        rcases List.mem_append.1 h with h | h
        · exact List.mem_append.2 (.inl h)
        · exact List.mem_append.2 (.inr (List.mem_cons.2 (.inr h)))
theorem insN_rise (n : Nm) (l : List Nm) (h : RiseN l) : RiseN (insN n l) := by
  unfold insN
  split
  · exact h
  · rename_i hne
    have hsplit := List.take_append_drop (placeN n l) l
    have h' : RiseN (l.take (placeN n l) ++ l.drop (placeN n l)) := by rw [hsplit]; exact h
    obtain ⟨h1, h2, h3⟩ := List.pairwise_append.1 h'
    have hb : ∀ a ∈ l.take (placeN n l), oldN a n = true := by
      intro a ha
      obtain ⟨i, hi⟩ := List.mem_iff_getElem?.1 ha
      rw [List.getElem?_take] at hi
      split at hi
      · rename_i hlt
        exact tw_lt (fun m => oldN m n) l i a hlt hi
      · cases hi
    have ha : ∀ b ∈ l.drop (placeN n l), oldN n b = true := by
      intro b hb2
      cases hd : l.drop (placeN n l) with
      | nil => rw [hd] at hb2; simp at hb2
      | cons y r =>
        have hy : l[placeN n l]? = some y := by
          have : (l.drop (placeN n l))[0]? = some y := by rw [hd]; rfl
          rwa [List.getElem?_drop, Nat.add_zero] at this
        have hyn : oldN y n = false := tw_stop (fun m => oldN m n) l y hy
        have hny : oldN n y = true := by
          cases hc : oldN n y with
          | true => rfl
          | false => exact absurd (by rw [hy, oldN_total hyn hc]) hne
        rw [hd] at hb2 h2
        rcases List.mem_cons.1 hb2 with rfl | hb2
        · exact hny
        · exact oldN_trans hny ((List.pairwise_cons.1 h2).1 b hb2)
    refine List.pairwise_append.2 ⟨h1, List.pairwise_cons.2 ⟨ha, h2⟩, fun a haa b hbb => ?_⟩
    rcases List.mem_cons.1 hbb with rfl | hbb
    · exact hb a haa
    · exact h3 a haa b hbb
theorem names_unique : ∀ (l m : List Nm), RiseN l → RiseN m → (∀ x, x ∈ l ↔ x ∈ m) → l = m
  | [], [], _, _, _ => rfl
  | [], b :: m, _, _, h => absurd ((h b).2 (by simp)) (by simp)
  | a :: l, [], _, _, h => absurd ((h a).1 (by simp)) (by simp)
  | a :: l, b :: m, h1, h2, h => by
    obtain ⟨ha, hl⟩ := List.pairwise_cons.1 h1
    obtain ⟨hb, hm⟩ := List.pairwise_cons.1 h2
    have hab : a = b := by
      have e1 : oldN a b = false := by
        cases hc : oldN a b with
        | false => rfl
        | true =>
          rcases List.mem_cons.1 ((h a).1 (by simp)) with e | e
          · rw [e, oldN_irrefl] at hc; cases hc
          · have := oldN_trans hc (hb a e); rw [oldN_irrefl] at this; cases this
      have e2 : oldN b a = false := by
        cases hc : oldN b a with
        | false => rfl
        | true =>
          rcases List.mem_cons.1 ((h b).2 (by simp)) with e | e
          · rw [e, oldN_irrefl] at hc; cases hc
          · have := oldN_trans hc (ha b e); rw [oldN_irrefl] at this; cases this
      exact oldN_total e1 e2
    subst hab
    rw [names_unique l m hl hm (fun x => ?_)]
    constructor
    · intro hx
      rcases List.mem_cons.1 ((h x).1 (by simp [hx])) with e | e
      · have := ha x hx; rw [e, oldN_irrefl] at this; cases this
      · exact e
    · intro hx
      rcases List.mem_cons.1 ((h x).2 (by simp [hx])) with e | e
      · have := hb x hx; rw [e, oldN_irrefl] at this; cases this
      · exact e
theorem namesD_law (ds : List HoldD) : RiseN (namesD ds) ∧ (∀ x, x ∈ namesD ds ↔ x ∈ ds.map fun d => (d.cl, d.nm)) := by
  suffices h : ∀ (ds : List HoldD) (l : List Nm), RiseN l → RiseN (ds.foldl (fun l d => insN (d.cl, d.nm) l) l) ∧ (∀ x, x ∈ ds.foldl (fun l d => insN (d.cl, d.nm) l) l ↔ x ∈ l ∨ x ∈ ds.map fun d => (d.cl, d.nm)) by
    have := h ds [] List.Pairwise.nil
    exact ⟨this.1, fun x => by rw [namesD, this.2 x]; simp⟩
  intro ds
  induction ds with
  | nil => intro l hl; exact ⟨hl, fun x => by simp⟩
  | cons d ds ih =>
    intro l hl
    obtain ⟨h1, h2⟩ := ih _ (insN_rise (d.cl, d.nm) l hl)
    refine ⟨h1, fun x => ?_⟩
    rw [List.foldl_cons, h2 x, insN_mem, List.map_cons, List.mem_cons]
    constructor
    · rintro ((h | h) | h)
      · exact .inr (.inl h)
      · exact .inl h
      · exact .inr (.inr h)
    · rintro (h | h | h)
      · exact .inl (.inr h)
      · exact .inl (.inl h)
      · exact .inr h
theorem namesD_len : ∀ (ds : List HoldD), (namesD ds).length ≤ ds.length := by
  suffices h : ∀ (ds : List HoldD) (l : List Nm), (ds.foldl (fun l d => insN (d.cl, d.nm) l) l).length ≤ l.length + ds.length by
    intro ds
    have := h ds []
    rw [List.length_nil, Nat.zero_add] at this
    exact this
  intro ds
  induction ds with
  | nil => intro l; simp
  | cons d ds ih =>
    intro l
    have := ih (insN (d.cl, d.nm) l)
    have h2 := insN_len (d.cl, d.nm) l
    rw [List.foldl_cons, List.length_cons]; omega
end Go.Proofs.YtdmejbjpbjcfbaaGreatDoor
/- Compact over a row that is sorted: the plain law. -/
namespace Go.Proofs.YtdmejbjpbjcfbaaGreatDoor
def compN (l : List Nm) : Nat → List Nm
  | 0 => []
  | j + 1 => compN l j ++ (if 0 < j ∧ l[j]? = l[j - 1]? then [] else (l[j]?).toList)
theorem compN_same (l : List Nm) : ∀ j, j ≤ l.length → (∀ i, 0 < i → i < j → l[i]? ≠ l[i - 1]?) → compN l j = l.take j
  | 0, _, _ => by simp [compN]
  | j + 1, hj, h => by
    rw [compN, compN_same l j (by omega) (fun i h1 h2 => h i h1 (by omega)), List.take_add_one, if_neg (fun hc => h j hc.1 (by omega) hc.2)]
theorem compN_rise (l : List Nm) (hs : l.Pairwise fun a b => oldN b a = false) : ∀ j, j ≤ l.length → RiseN (compN l j) ∧ ∀ x, x ∈ compN l j ↔ x ∈ l.take j
  | 0, _ => ⟨List.Pairwise.nil, fun x => by simp [compN]⟩
  | j + 1, hj => by
    obtain ⟨h1, h2⟩ := compN_rise l hs j (by omega)
    obtain ⟨x, hx⟩ : ∃ x, l[j]? = some x := ⟨_, List.getElem?_eq_getElem (by omega)⟩
    have ht : l.take (j + 1) = l.take j ++ [x] := by rw [List.take_add_one, hx]; rfl
    rw [compN, ht, hx]
    by_cases hc : 0 < j ∧ some x = l[j - 1]?
    · rw [if_pos hc, List.append_nil]
      refine ⟨h1, fun y => ?_⟩
      rw [h2 y, List.mem_append, List.mem_singleton]
      constructor
      · exact .inl
      · rintro (h | rfl)
        · exact h
        · refine List.mem_of_getElem? (i := j - 1) ?_
          rw [List.getElem?_take, if_pos (by omega)]; exact hc.2.symm
    · rw [if_neg hc]
      refine ⟨?_, fun y => by rw [List.mem_append, List.mem_append, h2 y]; rfl⟩
      refine List.pairwise_append.2 ⟨h1, List.pairwise_singleton _ _, fun a ha b hb => ?_⟩
      have hbx : b = x := by simpa using hb
      subst hbx
      have ha2 := (h2 a).1 ha
      obtain ⟨i, hi⟩ := List.mem_iff_getElem?.1 ha2
      rw [List.getElem?_take] at hi
      split at hi
      · rename_i hij
        obtain ⟨y, hy⟩ : ∃ y, l[j - 1]? = some y := ⟨_, List.getElem?_eq_getElem (by omega)⟩
        have hp : ∀ p q u v, p < q → l[p]? = some u → l[q]? = some v → oldN v u = false := fun p q u v hpq hu hv => by
          obtain ⟨hpl, rfl⟩ := List.getElem?_eq_some_iff.1 hu
          obtain ⟨hql, rfl⟩ := List.getElem?_eq_some_iff.1 hv
          exact List.pairwise_iff_getElem.1 hs p q hpl hql hpq
        have hyb : y ≠ b := fun e => hc ⟨by omega, by rw [hy, e]⟩
        have e1 : oldN y b = true := by
          cases h : oldN y b
          · exact absurd (oldN_total h (hp (j - 1) j y b (by omega) hy hx)) hyb
          · rfl
        by_cases hi2 : i = j - 1
        · subst hi2
          rw [hy] at hi
          obtain rfl := Option.some.inj hi
          exact e1
        · cases h : oldN a y
          · have := oldN_total h (hp i (j - 1) a y (by omega) hi hy)
            subst this; exact e1
          · exact oldN_trans h e1
      · cases hi
def sortN (l : List Nm) : List Nm := l.mergeSort fun x y => !oldN y x
theorem sortN_len (l : List Nm) : (sortN l).length = l.length := List.length_mergeSort _
theorem sortN_sorted (l : List Nm) : (sortN l).Pairwise fun a b => oldN b a = false := by
  have h := List.pairwise_mergeSort (le := fun x y => !oldN y x) (fun a b c h1 h2 => by
    simp only [Bool.not_eq_true'] at *
    rw [oldN_false] at *; omega) (fun a b => by
    cases h : oldN b a
    · rfl
    · have : oldN a b = false := by rw [oldN_false]; rw [oldN_iff] at h; omega
      simp [this]) l
  exact h.imp (fun h => by simpa using h)
theorem names_law (ds : List HoldD) : compN (sortN (ds.map fun d => (d.cl, d.nm))) ds.length = namesD ds := by
  have hl : (sortN (ds.map fun d => ((d.cl, d.nm) : Nm))).length = ds.length := by rw [sortN_len, List.length_map]
  obtain ⟨h1, h2⟩ := compN_rise _ (sortN_sorted (ds.map fun d => ((d.cl, d.nm) : Nm))) ds.length (by omega)
  obtain ⟨h3, h4⟩ := namesD_law ds
  refine names_unique _ _ h1 h3 (fun x => ?_)
  rw [h2 x, h4 x, List.take_of_length_le (by omega)]
  unfold sortN
  rw [List.mem_mergeSort, List.mem_map]
end Go.Proofs.YtdmejbjpbjcfbaaGreatDoor
