/- cmp.Compare and cmp.Or at numbers; the comparison of two names. -/
import Derived.Test.YtdmejbjpbjcfbaaGreatDoorNamesA
import Derived.Test.YtdmejbjpbjcfbaaGreatDoorSortShelf
import Derived.Test.YtdmejbjpbjcfbaaGreatDoorRefPut
import Derived.Test.YtdmejbjpbjcfbaaGreatDoorFirstN
import Derived.Test.YtdmejbjpbjcfbaaGreatDoorRefTabs
import Derived.Deep.DeepMust
import Derived.Deep.CutRange
import Derived.Deep.DeepCutAuto
import Derived.Test.YtdmejbjpbjcfbaaGreatDoorOfH
namespace Go.Proofs.YtdmejbjpbjcfbaaGreatDoor
open Go.RowKit
def cmpI (a b : Int) : Int := if a < b then -1 else if b < a then 1 else 0
theorem isNaN_calls (a : Int) (w : World) : Calls Tryz.prog 149 #[.int .i64 a] w fun e w' => e = .returned (.bool false) ∧ w' = w := by
  go_enter Tryz.func149, Tryz.ntmps149
  have h : (a != a) = false := by simp
  go_wp2_with fail
  go_ret
  first | exact ⟨rfl, rfl⟩ | (refine ⟨?_, rfl⟩; rw [h])
theorem cmpI_calls (a b : Int) (w : World) : Calls Tryz.prog 102 #[.int .i64 a, .int .i64 b] w fun e w' => e = .returned (.int .i64 (cmpI a b)) ∧ w' = w := by
  go_enter Tryz.func102, Tryz.ntmps102
  cases h1 : decide (a < b)
  · cases h2 : decide (b < a)
    · have e : cmpI a b = 0 := by unfold cmpI; rw [if_neg (of_decide_eq_false h1), if_neg (of_decide_eq_false h2)]
      rw [e]
      have h3 : decide (a > b) = false := h2
      go_wp2_with (go_at_call 149; refine (isNaN_calls _ _).mono ?_; rintro e w' ⟨rfl, rfl⟩)
      go_ret
      exact ⟨rfl, rfl⟩
    · have e : cmpI a b = 1 := by unfold cmpI; rw [if_neg (of_decide_eq_false h1), if_pos (of_decide_eq_true h2)]
      rw [e]
      have h3 : decide (a > b) = true := h2
      go_wp2_with (go_at_call 149; refine (isNaN_calls _ _).mono ?_; rintro e w' ⟨rfl, rfl⟩)
      go_ret
      exact ⟨rfl, rfl⟩
  · have e : cmpI a b = -1 := by unfold cmpI; rw [if_pos (of_decide_eq_true h1)]
    rw [e]
    go_wp2_with (go_at_call 149; refine (isNaN_calls _ _).mono ?_; rintro e w' ⟨rfl, rfl⟩)
    go_ret
    exact ⟨rfl, rfl⟩
def or2 (a b : Int) : Int := if a = 0 then b else a
theorem or2_calls (a b : Int) (g c : Nat) (w : World) (h0 : w.cell? ⟨g, 0, none⟩ = some (.int .i64 a)) (h1 : w.cell? ⟨g, 1, none⟩ = some (.int .i64 b)) : Calls Tryz.prog 101 #[.slice (some ⟨g, 0, none⟩) 2 c] w fun e w' => e = .returned (.int .i64 (or2 a b)) ∧ w' = w := by
  obtain ⟨r, hr⟩ : ∃ r, r = or2 a b := ⟨_, rfl⟩
  rw [← hr]
  have R := Lib.hid hr
  clear hr
  go_enter Tryz.func101, Tryz.ntmps101
  go_wp2_with fail
  go_loopw [8] (fun vi wr => ∃ k : Nat, vi = .int .i64 k ∧ k ≤ 2 ∧ (0 < k → a = 0) ∧ (k = 2 → b = 0) ∧ wr = w) (fun vi _ => 2 - (intOf vi).toNat)
  case atStart => exact ⟨0, rfl, by omega, fun h => by omega, fun h => by omega, rfl⟩
  case round =>
    obtain ⟨k, rfl, hk, ha, hb, rfl⟩ := hrel
    have hkk : k = 0 ∨ k = 1 ∨ k = 2 := by omega
    rcases hkk with rfl | rfl | rfl
    · cases hz : (a != 0)
      · have e : a = 0 := by simpa using hz
        clear ha hb
        go_wp2_with fail
        go_roundw
        case rel => exact ⟨1, by go_num, by omega, fun _ => e, fun h => by omega, by first | rfl | trivial⟩
        case measure => simp [intOf]
      · have e : or2 a b = a := by unfold or2; rw [if_neg (by simpa using hz)]
        clear ha hb
        have E := Lib.hid e
        clear e
        go_wp2_with fail
        go_ret
        exact ⟨by rw [R.out, E.out]; rfl, rfl⟩
    · have ea : a = 0 := ha (by omega)
      cases hz : (b != 0)
      · have e : b = 0 := by simpa using hz
        clear ha hb
        go_wp2_with fail
        go_roundw
        case rel => exact ⟨2, by go_num, by omega, fun _ => ea, fun _ => e, by first | rfl | trivial⟩
        case measure => simp [intOf]
      · have e : or2 a b = b := by unfold or2; rw [if_pos ea]
        clear ha hb
        have E := Lib.hid e
        clear e
        go_wp2_with fail
        go_ret
        exact ⟨by rw [R.out, E.out]; rfl, rfl⟩
    · have e : or2 a b = 0 := by unfold or2; rw [if_pos (ha (by omega)), hb rfl]
      clear ha hb
      have E := Lib.hid e
      clear e
      go_wp2_with fail
      go_ret
      exact ⟨by rw [R.out, E.out]; rfl, rfl⟩
def cmpNm (x y : Nm) : Int := or2 (cmpI x.2 y.2) (cmpI x.1 y.1)
open Go.Proofs in
theorem cmpNm_lt (x y : Nm) : ltOf cmpNm x y = oldN x y := by
  unfold ltOf
  cases h : oldN x y
  · rw [oldN_false] at h
    rw [decide_eq_false_iff_not]
    unfold cmpNm or2 cmpI
    split <;> split at * <;> try split at *
    all_goals omega
  · rw [oldN_iff] at h
    rw [decide_eq_true_eq]
    unfold cmpNm or2 cmpI
    split <;> split at * <;> try split at *
    all_goals omega
end Go.Proofs.YtdmejbjpbjcfbaaGreatDoor
/- The closure of Names. -/
namespace Go.Proofs.YtdmejbjpbjcfbaaGreatDoor
open Go.RowKit
open Go.Sort (grow grow_grow alloc_eq_grow)
set_option maxRecDepth 100000 in
set_option maxHeartbeats 3200000 in
theorem byNm_calls (x y : Nm) (w : World) : Calls Tryz.prog 100 #[.agg #[.int .i64 x.1, .int .i64 x.2], .agg #[.int .i64 y.1, .int .i64 y.2]] w fun e w' => e = .returned (.int .i64 (cmpNm x y)) ∧ ∃ q os', w' = grow (w.drewN q) os' := by
  obtain ⟨a, b⟩ := x
  obtain ⟨c, d⟩ := y
  obtain ⟨r, hr⟩ : ∃ r, r = cmpNm (a, b) (c, d) := ⟨_, rfl⟩
  obtain ⟨r1, hr1⟩ : ∃ r, r = cmpI b d := ⟨_, rfl⟩
  obtain ⟨r2, hr2⟩ : ∃ r, r = cmpI a c := ⟨_, rfl⟩
  rw [← hr]
  have hrr : or2 r1 r2 = r := by rw [hr, hr1, hr2]; rfl
  have C1 := Lib.hid (fun W => by rw [hr1]; exact cmpI_calls b d W : ∀ W, Calls Tryz.prog 102 #[.int .i64 b, .int .i64 d] W fun e w' => e = .returned (.int .i64 r1) ∧ w' = W)
  have C2 := Lib.hid (fun W => by rw [hr2]; exact cmpI_calls a c W : ∀ W, Calls Tryz.prog 102 #[.int .i64 a, .int .i64 c] W fun e w' => e = .returned (.int .i64 r2) ∧ w' = W)
  have RR := Lib.hid hrr
  clear hr hr1 hr2 hrr
  go_enter Tryz.func100, Tryz.ntmps100
  have O2 := fun (g : Nat) (W : World) (h : g = W.heap.size) (n : Nat) => or2_calls r1 r2 g 2 ((W.alloc (.cells #[.int .i64 r1, .int .i64 r2] 3)).drewN n) (cells_new' W [.int .i64 r1, .int .i64 r2] 3 g h 0 _ rfl) (cells_new' W [.int .i64 r1, .int .i64 r2] 3 g h 1 _ rfl)
  have OO := Lib.hid O2
  clear O2
  go_wp2_with fail
  have c0 := cells_new' w [.int .i64 a, .int .i64 b] 24 _ rfl
  have X1 : Ext w (w.alloc (.cells #[.int .i64 a, .int .i64 b] 24)) := (Below.refl _ w).alloc (Nat.le_refl _) _
  obtain ⟨w1, hw1⟩ : ∃ w1, w1 = w.alloc (.cells #[.int .i64 a, .int .i64 b] 24) := ⟨_, rfl⟩
  rw [show w.alloc (.cells #[.int .i64 a, .int .i64 b] 24) = w1 from hw1.symm] at X1 ⊢
  rw [show w.alloc (.cells [.int .i64 a, .int .i64 b].toArray 24) = w1 from hw1.symm] at c0
  have s1 : w1.heap.size = w.heap.size + 1 := by rw [hw1]; simp
  have c1 := cells_new' w1 [.int .i64 c, .int .i64 d] 24 (w.heap.size + 1) s1.symm
  have X2 : Ext w1 (w1.alloc (.cells #[.int .i64 c, .int .i64 d] 24)) := (Below.refl _ w1).alloc (Nat.le_refl _) _
  obtain ⟨w2, hw2⟩ : ∃ w2, w2 = w1.alloc (.cells #[.int .i64 c, .int .i64 d] 24) := ⟨_, rfl⟩
  rw [show w1.alloc (.cells #[.int .i64 c, .int .i64 d] 24) = w2 from hw2.symm] at X2 ⊢
  rw [show w1.alloc (.cells [.int .i64 c, .int .i64 d].toArray 24) = w2 from hw2.symm] at c1
  have a0 := ExtBy.cell (cellX X2 (c0 0 _ rfl)); have a1 := ExtBy.cell (cellX X2 (c0 1 _ rfl))
  have a2 := ExtBy.cell (c1 0 _ rfl); have a3 := ExtBy.cell (c1 1 _ rfl)
  have XD : Hid (Ext w2 w2.drew) := Lib.hid (Below.refl _ w2).drew
  have HW : Hid (w2 = grow w #[.cells #[.int .i64 a, .int .i64 b] 24, .cells #[.int .i64 c, .int .i64 d] 24]) := Lib.hid (by rw [hw2, hw1, alloc_eq_grow, alloc_eq_grow, grow_grow]; rfl)
  clear c0 c1 X1 X2 hw1 hw2 s1
  refine wp_region_firstC (fun W => ∃ p : ExtBy w2, W = p.W) [0, 2, 5, 7, 1, 3, 6, 8] 5 (by kernel_rfl) (by kernel_rfl) (fun _ _ _ _ h => h) ⟨⟨w2.drew, XD.out⟩, rfl⟩ ?_
  simp only [opsAt, List.getElem?_toArray, List.getElem?_cons_succ, List.getElem?_cons_zero]
  repeat (go_big_quiet_step (fail))
  refine wpQuiet_nil ?_
  clear a0 a1 a2 a3
  refine wpAnyH_ready (rs := [4]) (by kernel_rfl) (by simp) ?_
  refine AllReadyH.cons rfl (fun K hK => ?_) AllReadyH.nil
  go_simp
  refine (C1.out _).mono ?_
  rintro e w5 ⟨rfl, rfl⟩
  refine hK.out _ _ ⟨⟨w2.drew, XD.out⟩, rfl⟩ (fun _ => ?_)
  clear hK K
  refine wpAnyH_ready (rs := [9]) (by kernel_rfl) (by simp) ?_
  refine AllReadyH.cons rfl (fun K hK => ?_) AllReadyH.nil
  go_simp
  refine (C2.out _).mono ?_
  rintro e w5 ⟨rfl, rfl⟩
  refine hK.out _ _ ⟨⟨w2.drew, XD.out⟩, rfl⟩ (fun _ => ?_)
  clear hK K
  refine wpAnyH_ready (rs := [10]) (by kernel_rfl) (by simp) ?_
  refine AllReadyH.cons rfl (fun K hK => ?_) AllReadyH.nil
  go_simp
  have XA : Hid (Ext w2 (w2.drew.alloc (.cells #[.int .i64 r1, .int .i64 r2] 3))) := Lib.hid (XD.out.trans ((Below.refl _ w2.drew).alloc (Nat.le_refl _) _))
  refine hK.out _ _ ⟨⟨_, XA.out⟩, rfl⟩ (fun _ => ?_)
  clear hK K
  refine wpAnyH_ready (rs := [11]) (by kernel_rfl) (by simp) ?_
  refine AllReadyH.cons rfl (fun K hK => ?_) AllReadyH.nil
  go_simp
  refine (OO.out _ w2.drew rfl 0).mono ?_
  rintro e w5 ⟨rfl, rfl⟩
  refine hK.out _ _ ⟨⟨_, XA.out⟩, rfl⟩ (fun _ => ?_)
  clear hK K
  refine wp_takesC (f := 0) [12] (by kernel_rfl) (fun _ _ _ _ h => h) ⟨⟨_, XA.out⟩, rfl⟩ ?_
  simp only [opsAt, List.getElem?_toArray, List.getElem?_cons_succ, List.getElem?_cons_zero]
  repeat (go_big_quiet_step (fail))
  refine wpQuiet_nil ?_
  refine wpAnyH_done (by kernel_rfl) ?_ _
  go_wp2_with fail
  go_ret
  refine ⟨by rw [RR.out]; rfl, 1, #[.cells #[.int .i64 a, .int .i64 b] 24, .cells #[.int .i64 c, .int .i64 d] 24, .cells #[.int .i64 r1, .int .i64 r2] 3], ?_⟩
  have e : (grow w #[.cells #[.int .i64 a, .int .i64 b] 24, .cells #[.int .i64 c, .int .i64 d] 24]).drewN 1 = grow (w.drewN 1) #[.cells #[.int .i64 a, .int .i64 b] 24, .cells #[.int .i64 c, .int .i64 d] 24] := rfl
  have e2 : grow (w.drewN 1) #[.cells #[.int .i64 a, .int .i64 b] 24, .cells #[.int .i64 c, .int .i64 d] 24, .cells #[.int .i64 r1, .int .i64 r2] 3] = grow (grow (w.drewN 1) #[.cells #[.int .i64 a, .int .i64 b] 24, .cells #[.int .i64 c, .int .i64 d] 24]) #[.cells #[.int .i64 r1, .int .i64 r2] 3] := by rw [grow_grow]; rfl
  rw [e2, ← e, ← HW.out, ← alloc_eq_grow]
  rfl
end Go.Proofs.YtdmejbjpbjcfbaaGreatDoor
/- slices.Compact at names. -/
namespace Go.Proofs.YtdmejbjpbjcfbaaGreatDoor
open Go.RowKit
def zeroN : Array Value := #[.int .i64 0, .int .i64 0]
theorem zeroN_one : ∀ n, ∀ v ∈ (Builtin.zeroCells zeroN n).toList, v.oneCell' = true := by
  intro n v hv
  simp only [Builtin.zeroCells, Array.toList_map, List.mem_map] at hv
  obtain ⟨i, _, rfl⟩ := hv
  have h : i % zeroN.size < 2 := Nat.mod_lt _ (by decide)
  have : ∀ k, k < 2 → (zeroN[k]!).oneCell' = true := by
    intro k hk
    match k, hk with
    | 0, _ => rfl
    | 1, _ => rfl
  exact this _ h
def TailN (cs : List Value) (j : Nat) (l : List Nm) : Prop := ∀ (i : Nat) (x : Nm), j ≤ i → l[i]? = some x → cs[i * 2]? = some (.int .i64 x.1) ∧ cs[i * 2 + 1]? = some (.int .i64 x.2)
theorem eqB_iff (x y : Nm) : (x.1 == y.1 && x.2 == y.2) = true ↔ x = y := by
  obtain ⟨a, b⟩ := x; obtain ⟨c, d⟩ := y
  rw [Bool.and_eq_true, beq_iff_eq, beq_iff_eq, Prod.mk.injEq]
set_option maxRecDepth 100000 in
set_option maxHeartbeats 6400000 in
theorem compact_calls (l : List Nm) (v : Value) (w : World) (hl : l.length ≤ 1000000) (hown : w.ownsRow 0 24 2 v l.length (l.flatMap encNm)) :
    Calls Tryz.prog 103 #[v] w fun e w' => ∃ v' : Value, e = .returned v' ∧ w'.ownsRow 0 24 2 v' (compN l l.length).length ((compN l l.length).flatMap encNm) ∧ (∀ j, v'.ownBlock = some j → v.ownBlock = some j) ∧ But (fun j => v.ownBlock = some j) w w' := by
  obtain ⟨ao, c, rfl, hlc, hcm, hrow⟩ := Rows.own (enc := encNm) (sz := 2) (fun _ => rfl) hown
  have HOW := Lib.hid hown
  clear hown hrow
  unfold maxLen at hcm
  obtain ⟨R, hR⟩ : ∃ R, R = compN l l.length := ⟨_, rfl⟩
  rw [← hR]
  have HR := Lib.hid hR
  clear hR
  by_cases h2 : l.length < 2
  · have hsame : compN l l.length = l := by
      rw [compN_same l l.length (Nat.le_refl _) (fun i h1 h3 => by omega), List.take_length]
    have HS := Lib.hid hsame
    clear hsame
    have hlt : decide ((l.length : Int) < 2) = true := decide_eq_true (by omega)
    go_enter Tryz.func103, Tryz.ntmps103
    go_wp2_with fail
    go_ret
    exact ⟨.slice ao l.length c, rfl, by rw [HR.out, HS.out]; exact HOW.out, fun _ h => h, (show Ext w w from Below.refl _ w).but _⟩
  · have hlt : decide ((l.length : Int) < 2) = false := decide_eq_false (by omega)
    obtain ⟨gb, rfl, cs, hblk, hcl, htk⟩ : ∃ gb, ao = some ⟨gb, 0, none⟩ ∧ ∃ cs, Blk w gb cs 24 ∧ cs.length = c * 2 ∧ cs.take (l.length * 2) = l.flatMap encNm := by
      rcases HOW.out.2 with ⟨h, h0⟩ | ⟨gb, cap, cur, h, _, hg, _, _, hcs, htk⟩
      · omega
      · simp only [Value.slice.injEq, true_and] at h
        obtain ⟨rfl, rfl⟩ := h
        exact ⟨gb, rfl, cur.toList, blk_of hg, by simpa using hcs, htk⟩
    have hS : ∀ j, (Value.slice (some ⟨gb, 0, none⟩) l.length c).ownBlock = some j ↔ j = gb := fun j => by simp [Value.ownBlock, eq_comm]
    have htail : TailN cs 0 l := by
      intro i x _ hx
      have hil := (List.getElem?_eq_some_iff.1 hx).1
      have t0 := flat_at (enc := encNm) (sz := 2) (fun _ => rfl) l i x hx 0 _ rfl
      have t1 := flat_at (enc := encNm) (sz := 2) (fun _ => rfl) l i x hx 1 _ rfl
      rw [← htk, List.getElem?_take, if_pos (by omega)] at t0 t1
      exact ⟨t0, t1⟩
    have B1 := Lib.hid hblk
    have HT := Lib.hid htail; have HS := Lib.hid hS; have HCL := Lib.hid hcl; have HTK := Lib.hid htk
    clear hblk htail hS htk hcl HOW
    go_enter Tryz.func103, Tryz.ntmps103
    go_wp2_with fail
    go_loopw [3] (fun vi wr => ∃ k : Nat, vi = .int .i64 k ∧ 1 ≤ k ∧ k ≤ l.length ∧ (∀ i, 0 < i → i < k → l[i]? ≠ l[i - 1]?) ∧ Ext w wr) (fun vi _ => l.length - (intOf vi).toNat)
    case atStart => exact ⟨1, rfl, by omega, by omega, fun i h1 h3 => by omega, Below.refl _ _⟩
    case round =>
      obtain ⟨k, rfl, hk1, hk, hno, hx⟩ := hrel
      have K1 := Lib.hid hno; have X1 := Lib.hid hx
      clear hno hx
      by_cases hkl : k < l.length
      · obtain ⟨x, hx⟩ : ∃ x, l[k]? = some x := ⟨_, List.getElem?_eq_getElem hkl⟩
        obtain ⟨y, hy⟩ : ∃ y, l[k - 1]? = some y := ⟨_, List.getElem?_eq_getElem (by omega)⟩
        obtain ⟨m, hm⟩ : ∃ m, m = k - 1 := ⟨_, rfl⟩
        have hb := B1.out.ext' X1.out
        have tx := HT.out k x (by omega) hx
        have ty := HT.out (k - 1) y (by omega) hy
        rw [← hm] at ty
        have e0 := ExtBy.cell ((hb.cell _).trans tx.1); have e1 := ExtBy.cell ((hb.cell _).trans tx.2)
        have e2 := ExtBy.cell ((hb.cell _).trans ty.1); have e3 := ExtBy.cell ((hb.cell _).trans ty.2)
        obtain ⟨xc, xn⟩ := x
        obtain ⟨yc, yn⟩ := y
        have heq := eql_Nm
        have hsub : IntKind.i64.wrap ((k : Int) - 1) = (m : Int) := by rw [IntWalk.i64_in _ (by omega)]; omega
        have i0 : (0 : Int) ≤ (k : Int) := by omega
        have i1 : (k : Int) < (l.length : Int) := by omega
        have m0 : (0 : Int) ≤ (m : Int) := by omega
        have m1 : (m : Int) < (l.length : Int) := by omega
        have t1 : decide ((k : Int) < (l.length : Int)) = true := decide_eq_true i1
        have HX := Lib.hid hx; have HY := Lib.hid hy; have HM := Lib.hid hm
        clear hb tx ty hx hy hm
        cases hbb : (xc == yc && xn == yn)
        · have NE : Hid (l[k]? ≠ l[k - 1]?) := Lib.hid (by
            rw [HX.out, HY.out]
            intro e
            have := (eqB_iff (xc, xn) (yc, yn)).2 (Option.some.inj e)
            simp only at this
            rw [hbb] at this; cases this)
          go_wp2_with fail
          refine wp_region_ext (by kernel_rfl) (by kernel_rfl) ?_
          repeat (go_big_quiet_step (fail))
          refine wpQuiet_nil ?_
          intro wc hw'
          have XC : Hid (Ext wr wc) := Lib.hid (by obtain ⟨p, rfl⟩ := hw'; exact p.ext)
          clear hw' e0 e1 e2 e3 heq
          go_wp2_with fail
          go_roundw
          case rel =>
            refine ⟨k + 1, by go_num, by omega, by omega, fun i h1 h3 => ?_, Ext.trans X1.out XC.out⟩
            by_cases hik : i = k
            · subst hik; exact NE.out
            · exact K1.out i h1 (by omega)
          case measure => simp [intOf]; omega
        · have EQ : Hid (l[k]? = l[k - 1]?) := Lib.hid (by
            rw [HX.out, HY.out]
            exact congrArg some ((eqB_iff (xc, xn) (yc, yn)).1 hbb))
          have k2 : (k : Int) ≤ (l.length : Int) := by omega
          have k3 : (k : Int) ≤ (c : Int) := by omega
          go_wp2_with fail
          refine wp_region_ext (by kernel_rfl) (by kernel_rfl) ?_
          repeat (go_big_quiet_step (fail))
          refine wpQuiet_nil ?_
          intro wc hw'
          have XC : Hid (Ext w wc) := Lib.hid (by obtain ⟨p, rfl⟩ := hw'; exact Ext.trans X1.out p.ext)
          clear hw' e0 e1 e2 e3 heq hbb
          by_cases hck : c = k
          · omega
          go_wp2_with fail
          go_loopw [3, 5] (fun vi vj wr => ∃ (q K : Nat) (cs : List Value), 1 ≤ q ∧ k + q ≤ l.length ∧ K < k + q ∧ vi = .int .i64 K ∧ vj = .int .i64 q ∧ K = (compN l (k + q)).length ∧ Blk wr gb cs 24 ∧ cs.length = c * 2 ∧ cs.take (K * 2) = (compN l (k + q)).flatMap encNm ∧ TailN cs (k + q - 1) l ∧ But (fun i => (Value.slice (some ⟨gb, 0, none⟩) l.length c).ownBlock = some i) w wr) (fun _ vj _ => l.length - (intOf vj).toNat)
          case atStart =>
            have hk1e : compN l (k + 1) = l.take k := by
              rw [compN, if_pos ⟨by omega, EQ.out⟩, List.append_nil, compN_same l k (by omega) K1.out]
            refine ⟨1, k, cs, by omega, by omega, by omega, rfl, rfl, by rw [hk1e, List.length_take]; omega, B1.out.ext' XC.out, HCL.out, ?_, fun i x _ hx => HT.out i x (by omega) hx, XC.out.but _⟩
            rw [hk1e, ← flat_take (enc := encNm) (sz := 2) (fun _ => rfl), ← HTK.out, List.take_take]
            congr 1; omega
          case round =>
            obtain ⟨q, K, cs', hq1, hq, hKq, rfl, rfl, hK, hblk, hcl, htk, htl, hbut⟩ := hrel
            have K1 := Lib.hid hK; have K2 := Lib.hid hblk; have K3 := Lib.hid hcl; have K4 := Lib.hid htk; have K5 := Lib.hid htl; have K6 := Lib.hid hbut
            clear hK hblk htk htl hbut
            by_cases hql : k + q < l.length
            · obtain ⟨x, hx⟩ : ∃ x, l[k + q]? = some x := ⟨_, List.getElem?_eq_getElem hql⟩
              obtain ⟨y, hy⟩ : ∃ y, l[k + q - 1]? = some y := ⟨_, List.getElem?_eq_getElem (by omega)⟩
              obtain ⟨m, hm⟩ : ∃ m, m = q - 1 := ⟨_, rfl⟩
              have tx := K5.out (k + q) x (by omega) hx
              have ty := K5.out (k + q - 1) y (by omega) hy
              have cx : compN l (k + q + 1) = compN l (k + q) ++ (if 0 < k + q ∧ l[k + q]? = l[k + q - 1]? then [] else [x]) := by rw [compN, hx]; rfl
              rw [show k + q - 1 = k + m from by omega] at ty
              rw [Nat.add_mul] at tx ty
              have f0 := (K2.out.cell _).trans tx.1; have f1 := (K2.out.cell _).trans tx.2
              have e0 := ExtBy.cell f0; have e1 := ExtBy.cell f1
              have e2 := ExtBy.cell ((K2.out.cell _).trans ty.1); have e3 := ExtBy.cell ((K2.out.cell _).trans ty.2)
              have F0 := Lib.hid f0; have F1 := Lib.hid f1
              obtain ⟨xc, xn⟩ := x
              obtain ⟨yc, yn⟩ := y
              have heq := neq_Nm
              have hsub : IntKind.i64.wrap ((q : Int) - 1) = (m : Int) := by rw [IntWalk.i64_in _ (by omega)]; omega
              obtain ⟨L, hL⟩ : ∃ L, L = l.length - k := ⟨_, rfl⟩
              have i0 : (0 : Int) ≤ (q : Int) := by omega
              have i1 : (q : Int) < ((l.length - k : Nat) : Int) := by omega
              have m0 : (0 : Int) ≤ (m : Int) := by omega
              have m1 : (m : Int) < ((l.length - k : Nat) : Int) := by omega
              have t1 : decide ((q : Int) < ((l.length - k : Nat) : Int)) = true := decide_eq_true i1
              have HX := Lib.hid hx; have HY := Lib.hid hy; have HM := Lib.hid hm; have CX := Lib.hid cx
              clear tx ty hx hy hm cx f0 f1 hL
              cases hbb : (xc == yc && xn == yn)
              · have NE : Hid (¬ (0 < k + q ∧ l[k + q]? = l[k + q - 1]?)) := Lib.hid (by
                  rw [HX.out, HY.out]
                  rintro ⟨-, e⟩
                  have := (eqB_iff (xc, xn) (yc, yn)).2 (Option.some.inj e)
                  simp only at this
                  rw [hbb] at this; cases this)
                go_wp2_with fail
                refine wp_region_ext (by kernel_rfl) (by kernel_rfl) ?_
                repeat (go_big_quiet_step (fail))
                refine wpQuiet_nil ?_
                intro wd hw'
                have XD : Hid (Ext wr wd) := Lib.hid (by obtain ⟨p, rfl⟩ := hw'; exact p.ext)
                clear hw' e0 e1 e2 e3 heq hbb
                have hg2 : Blk wd gb cs' 24 := K2.out.ext' XD.out
                have f0 := cellX XD.out F0.out; have f1 := cellX XD.out F1.out
                have hat : ∀ t, t < 2 → ∃ u, wd.cell? ⟨gb, K * 2 + t, none⟩ = some u := fun t ht => ⟨cs'[K * 2 + t]'(by omega), by rw [hg2.cell]; exact List.getElem?_eq_getElem (by omega)⟩
                obtain ⟨u0, g0⟩ := hat 0 (by omega); obtain ⟨u1, g1⟩ := hat 1 (by omega)
                have z0 := hg2.free (K * 2); have z1 := hg2.free (K * 2 + 1)
                simp only [Nat.add_zero] at g0
                have G2 := Lib.hid hg2
                have k0 : (0 : Int) ≤ (K : Int) := by omega
                have k1 : (K : Int) < (l.length : Int) := by omega
                clear hg2 hat
                go_wp2_with fail
                go_roundw
                case rel =>
                  have hin : K * 2 + (encNm (xc, xn)).length ≤ cs'.length := by show K * 2 + 2 ≤ _; omega
                  have h3 := K3.out
                  refine ⟨q + 1, K + 1, splice cs' (K * 2) (encNm (xc, xn)), by omega, by omega, by omega, by go_num, by go_num, ?_, ?_, by rw [splice_length]; exact h3, ?_, ?_, ?_⟩
                  · rw [← Nat.add_assoc, CX.out, if_neg NE.out, List.length_append, ← K1.out]; rfl
                  · exact G2.out.setCells (encNm (xc, xn)) (K * 2)
                  · rw [show (K + 1) * 2 = K * 2 + (encNm (xc, xn)).length from by show _ = K * 2 + 2; omega, take_splice _ _ _ hin, K4.out, ← Nat.add_assoc, CX.out, if_neg NE.out]
                    simp
                  · intro i z hi hz
                    have := K5.out i z (by omega) hz
                    rw [splice_get _ _ _ _ (by show K * 2 + 2 ≤ _; omega), splice_get _ _ _ _ (by show K * 2 + 2 ≤ _; omega)]
                    exact this
                  · have hb : But (fun i => (Value.slice (some ⟨gb, 0, none⟩) l.length c).ownBlock = some i) w wd := K6.out.trans (XD.out.but (fun _ => False)) (fun _ _ e => e) (fun _ _ e => e.elim)
                    exact but_setCells ((HS.out gb).2 rfl) (encNm (xc, xn)) (K * 2) hb
                case measure => simp [intOf]; omega
              · have EQ2 : Hid (0 < k + q ∧ l[k + q]? = l[k + q - 1]?) := Lib.hid (by
                  rw [HX.out, HY.out]
                  exact ⟨by omega, congrArg some ((eqB_iff (xc, xn) (yc, yn)).1 hbb)⟩)
                go_wp2_with fail
                refine wp_region_ext (by kernel_rfl) (by kernel_rfl) ?_
                repeat (go_big_quiet_step (fail))
                refine wpQuiet_nil ?_
                intro wd hw'
                have XD : Hid (Ext wr wd) := Lib.hid (by obtain ⟨p, rfl⟩ := hw'; exact p.ext)
                clear hw' e0 e1 e2 e3 heq hbb
                go_wp2_with fail
                go_roundw
                case rel =>
                  exact ⟨q + 1, K, cs', by omega, by omega, by omega, rfl, by go_num, by rw [← Nat.add_assoc, CX.out, if_pos EQ2.out, K1.out]; simp, K2.out.ext' XD.out, K3.out, by rw [← Nat.add_assoc, CX.out, if_pos EQ2.out, K4.out]; simp, fun i z hi => K5.out i z (by omega), K6.out.trans (XD.out.but (fun _ => False)) (fun _ _ e => e) (fun _ _ e => e.elim)⟩
                case measure => simp [intOf]; omega
            · have hqe : k + q = l.length := by omega
              have t1 : decide ((q : Int) < ((l.length - k : Nat) : Int)) = false := decide_eq_false (by omega)
              have hKl : K < l.length := by omega
              have hz : (Builtin.zeroCells zeroN (l.length - K)).toList.length = (l.length - K) * 2 := by rw [Array.length_toList, zc_size]; rfl
              have hcr : ∀ ty, (Builtin.clear_ #[93] ty #[.slice (some ⟨gb, K * 2, none⟩) (l.length - K) (c - K)]).run Tryz.prog wr = .ok (.tuple #[]) (wr.setCells gb (K * 2) (Builtin.zeroCells zeroN (l.length - K)).toList) := fun ty =>
                run_clear_k wr 93 24 ty (.agg zeroN) zeroN Tryz.underlying93 (fun w => by kernel_rfl) rfl zeroN_one gb (K * 2) (l.length - K) (c - K) (by omega) (fun i hi => by
                  have hi' : i < (l.length - K) * 2 := hi
                  have h3 := K3.out
                  rw [K2.out.cell, List.getElem?_eq_getElem (by omega)]; rfl) (fun i _ => K2.out.free _)
              have k0 : (0 : Int) ≤ (K : Int) := by omega
              have k1 : (K : Int) ≤ (l.length : Int) := by omega
              have k4 : (K : Int) ≤ (c : Int) := by omega
              have hKc : ¬ (c = K) := by omega
              have HZ := Lib.hid hz; have HQE := Lib.hid hqe
              clear hz hqe hcl
              go_wp2_with fail
              go_ret
              have e1 := K1.out; have e4 := K4.out
              rw [HQE.out, ← HR.out] at e1 e4
              refine ⟨.slice (some ⟨gb, 0, none⟩) K c, rfl, ?_, fun j hj => hj, ?_⟩
              · rw [← e1]
                exact own_of_blk (K2.out.setCells _ (K * 2)) (by rw [splice_length]; exact K3.out) (by omega) (by unfold maxLen; omega) (by rw [take_splice' _ _ _ (by rw [HZ.out]; have := K3.out; omega)]; exact e4)
              · exact but_setCells ((HS.out gb).2 rfl) _ (K * 2) K6.out
      · obtain rfl : k = l.length := by omega
        have t1 : decide ((l.length : Int) < (l.length : Int)) = false := decide_eq_false (by omega)
        have hsame : compN l l.length = l := by
          rw [compN_same l l.length (Nat.le_refl _) K1.out, List.take_length]
        have HSM := Lib.hid hsame
        clear hsame
        go_wp2_with fail
        go_ret
        refine ⟨.slice (some ⟨gb, 0, none⟩) l.length c, rfl, ?_, fun _ h => h, X1.out.but _⟩
        rw [HR.out, HSM.out]
        exact own_of_blk (B1.out.ext' X1.out) HCL.out hlc hcm HTK.out
end Go.Proofs.YtdmejbjpbjcfbaaGreatDoor
/- The document's table of holds: Names. -/
namespace Go.Proofs.YtdmejbjpbjcfbaaGreatDoor
open Go.RowKit
variable {no0 : Nat → Prop}
def NamesPost (l : List Nm) (w : World) (e : Ending) (w' : World) : Prop :=
  ∃ r : Value, e = .returned r ∧ w'.ownsRow 0 24 2 r l.length (l.flatMap encNm) ∧ (∀ j, r.ownBlock = some j → w.heap.size ≤ j) ∧ Ext w w'
set_option maxRecDepth 100000 in
set_option maxHeartbeats 6400000 in
theorem rnames_calls (mb : Nat) (v : Value) (ds : List HoldD) (w : World) (T : RTabN no0 w mb v ds) :
    Calls Tryz.prog 94 #[.pointer (some ⟨mb, 0, none⟩)] w (NamesPost (namesD ds) w) := by
  obtain ⟨i0, hi, hz0, hz1, hz2⟩ := info_parts infoNm
  obtain ⟨l, ao, cap, rfl, hlc, hcm, hll, hrows, hown, hare⟩ := T.rows
  have hfew := T.few
  have hc0 := T.blk.cell 0
  simp only [List.getElem?_cons_zero] at hc0
  have hbl := T.blk.lt
  have hl60 : l.length ≤ 60 := by omega
  have HC0 := Lib.hid hc0; have HRO := Lib.hid hrows; have HAR := Lib.hid hare; have HLL := Lib.hid hll
  clear T hrows hown hare hc0 hll
  go_enter Tryz.func94, Tryz.ntmps94
  go_wp2_with fail
  go_loopw [3, 4] (fun vo vi wr => ∃ k : Nat, vi = .int .i64 k ∧ k ≤ l.length ∧ wr.ownsRow 0 24 2 vo (namesD (ds.take k)).length ((namesD (ds.take k)).flatMap encNm) ∧ (∀ j, vo.ownBlock = some j → w.heap.size ≤ j) ∧ Ext w wr) (fun _ vi _ => l.length - (intOf vi).toNat)
  case atStart => exact ⟨0, rfl, by omega, World.ownsRow_nil _ _ _ _, by simp [Value.ownBlock], Below.refl _ _⟩
  case round =>
    obtain ⟨k, rfl, hk, hown, hnew, hx⟩ := hrel
    obtain ⟨qo, qcap, hq0⟩ := own_slice hown
    subst hq0
    have K1 := Lib.hid hown; have K2 := Lib.hid hnew; have K4 := Lib.hid hx
    have hqcap := (Rows.own (enc := encNm) (sz := 2) (fun _ => rfl) hown)
    obtain ⟨qo', qcap', hqe, hqc1, hqc2, hqrow⟩ := hqcap
    simp only [Value.slice.injEq, true_and] at hqe
    obtain ⟨rfl, rfl⟩ := hqe
    have QR := Lib.hid hqrow
    clear hown hnew hx hqrow
    have cm := cellX K4.out HC0.out
    have hmr : mb < wr.heap.size := Nat.lt_of_lt_of_le hbl K4.out.size
    by_cases hlt : k < l.length
    · obtain ⟨x, hx⟩ : ∃ x, l[k]? = some x := ⟨_, List.getElem?_eq_getElem hlt⟩
      obtain ⟨d, hdk, hxd⟩ := HAR.out.at k x hx
      obtain ⟨b, off, rfl, hbb, hcell⟩ := HRO.out (by intro e; rw [e] at hlt; simp at hlt)
      have d1 := cellX K4.out (hcell k x hx 1 _ rfl); have d2 := cellX K4.out (hcell k x hx 2 _ rfl)
      have hcl : x.cl = d.cl := hxd.cl
      have hnm : x.nm = d.nm := hxd.nm
      have hbr : b < wr.heap.size := Nat.lt_of_lt_of_le hbb K4.out.size
      have hns := namesD_succ ds k d hdk
      have hql0 := namesD_len (ds.take k)
      rw [List.length_take] at hql0
      rw [← hcl, ← hnm] at hns
      generalize x.cl = cl at *
      generalize x.nm = nm at *
      obtain ⟨q, hqd⟩ : ∃ q, q = namesD (ds.take k) := ⟨_, rfl⟩
      rw [← hqd] at K1 QR hqc1 hns hql0 ⊢
      have hql : q.length ≤ 60 := by omega
      obtain ⟨P, hP⟩ : ∃ P, P = placeN (cl, nm) q := ⟨_, rfl⟩
      have hPl : P ≤ q.length := by rw [hP]; exact placeN_le _ _
      have NS := Lib.hid hns; have HP := Lib.hid hP
      have ii0 : (0 : Int) ≤ (k : Int) := by omega
      have ii1 : (k : Int) < (l.length : Int) := by omega
      have ob : decide ((k : Int) < (l.length : Int)) = true := decide_eq_true ii1
      obtain ⟨wo, hwo⟩ : ∃ wo, wo = wr := ⟨_, rfl⟩
      have CC : Hid (∀ W, Ext wo W → W.cell? ⟨mb, 0, none⟩ = some (.slice (some ⟨b, off, none⟩) l.length cap) ∧ W.cell? ⟨b, off + k * 7 + 1, none⟩ = some (.int .i64 cl) ∧ W.cell? ⟨b, off + k * 7 + 2, none⟩ = some (.int .i64 nm) ∧ b < W.heap.size ∧ mb < W.heap.size) := Lib.hid (by
        rw [hwo]; exact fun W hW => ⟨cellX hW cm, cellX hW d1, cellX hW d2, Nat.lt_of_lt_of_le hbr hW.size, Nat.lt_of_lt_of_le hmr hW.size⟩)
      have WO := Lib.hid hwo
      clear hx hdk hxd hcell hcl hnm hns hqd hP hql0 hwo d1 d2
      go_wp2_with fail
      go_loopw [5] (fun va wr => ∃ j : Nat, va = .int .i64 j ∧ j ≤ P ∧ Ext wo wr) (fun va _ => P - (intOf va).toNat)
      case atStart => exact ⟨0, rfl, by omega, by rw [WO.out]; exact Below.refl _ _⟩
      case round =>
        obtain ⟨j, rfl, hj, hx⟩ := hrel
        have XJ := Lib.hid hx
        obtain ⟨cm, d1, d2, hbr, hmr⟩ := CC.out wr hx
        clear hx
        by_cases hjl : j < q.length
        · obtain ⟨y, hy⟩ : ∃ y, q[j]? = some y := ⟨_, List.getElem?_eq_getElem hjl⟩
          have hqr := QR.out
          rw [← WO.out] at hqr
          obtain ⟨g1, o1, hqo, hg1, hc1⟩ := hqr (by intro e; rw [e] at hjl; simp at hjl)
          obtain ⟨yc, yn⟩ := y
          have e0 := ExtBy.cell (cellX XJ.out (hc1 j _ hy 0 _ rfl)); have e1 := ExtBy.cell (cellX XJ.out (hc1 j _ hy 1 _ rfl))
          simp only [Nat.add_zero] at e0
          have em := ExtBy.cell cm; have f1 := ExtBy.cell d1; have f2 := ExtBy.cell d2
          have jj0 : (0 : Int) ≤ (j : Int) := by omega
          have jj1 : (j : Int) < (q.length : Int) := by omega
          have t1 : decide ((j : Int) < (q.length : Int)) = true := decide_eq_true jj1
          subst hqo
          obtain ⟨g, hg⟩ : ∃ g, g = olderB yc yn cl nm := ⟨_, rfl⟩
          have HC : Hid (∀ p : ExtBy wr, Calls Tryz.prog 146 #[.agg #[.int .i64 yc, .int .i64 yn], .agg #[.int .i64 cl, .int .i64 nm]] p.W fun e w' => e = .returned (.bool g) ∧ Ext p.W w') := Lib.hid fun p => by rw [hg]; exact refOlder_calls yc yn cl nm p.W
          have hgP : g = true ∧ j < P ∨ g = false ∧ j = P := by
            by_cases hjP : j < P
            · left
              exact ⟨by rw [hg]; exact tw_lt (fun m => oldN m (cl, nm)) q j (yc, yn) (by have h := HP.out; unfold placeN at h; rw [← h]; exact hjP) hy, hjP⟩
            · right
              obtain rfl : j = P := by omega
              exact ⟨by rw [hg]; exact tw_stop (fun m => oldN m (cl, nm)) q (yc, yn) (by have h := HP.out; unfold placeN at h; rw [← h]; exact hy), rfl⟩
          have QC : Hid (∀ W, Ext wo W → W.cell? ⟨g1, o1 + j * 2, none⟩ = some (.int .i64 yc) ∧ W.cell? ⟨g1, o1 + j * 2 + 1, none⟩ = some (.int .i64 yn)) := Lib.hid fun W hW => ⟨cellX hW (hc1 j _ hy 0 _ rfl), cellX hW (hc1 j _ hy 1 _ rfl)⟩
          have QJ := Lib.hid hy
          clear hg hc1 hy cm d1 d2
          rcases hgP with ⟨rfl, hjP⟩ | ⟨rfl, rfl⟩
          · go_wp2_with fail
            refine wp_region_ext (by kernel_rfl) (by kernel_rfl) ?_
            repeat (go_big_quiet_step (with_reducible exact Calls.ext_of _ (HC.out _)))
            refine wpQuiet_nil ?_
            intro wc hw'
            have XC : Hid (Ext wr wc) := Lib.hid (by obtain ⟨p, rfl⟩ := hw'; exact p.ext)
            clear hw' em f1 f2 e0 e1 HC
            go_wp2_with fail
            go_roundw
            case rel => exact ⟨j + 1, by go_num, by omega, Ext.trans XJ.out XC.out⟩
            case measure => simp [intOf]; omega
          · go_wp2_with fail
            refine wp_region_ext (by kernel_rfl) (by kernel_rfl) ?_
            repeat (go_big_quiet_step (with_reducible exact Calls.ext_of _ (HC.out _)))
            refine wpQuiet_nil ?_
            intro wc hw'
            have XC : Hid (Ext wr wc) := Lib.hid (by obtain ⟨p, rfl⟩ := hw'; exact p.ext)
            clear hw' em f1 f2 e0 e1 HC
            go_upto_region 8 with fail
            obtain ⟨cm, d1, d2, hbr, hmr⟩ := CC.out wc (Ext.trans XJ.out XC.out)
            obtain ⟨e0, e1⟩ := QC.out wc (Ext.trans XJ.out XC.out)
            have k0 := ExtBy.cell e0; have k1 := ExtBy.cell e1; have em := ExtBy.cell cm; have f1 := ExtBy.cell d1; have f2 := ExtBy.cell d2
            have heq := eql_Nm
            by_cases hyn : (yc, yn) = (cl, nm)
            · have hb : (yc == cl && yn == nm) = true := by
                obtain ⟨rfl, rfl⟩ := Prod.mk.inj hyn
                simp
              have HY := Lib.hid hyn
              clear hyn cm d1 d2 e0 e1
              refine wp_region_ext (by kernel_rfl) (by kernel_rfl) ?_
              repeat (go_big_quiet_step (fail))
              refine wpQuiet_nil ?_
              intro wd hw'
              have XD : Hid (Ext wc wd) := Lib.hid (by obtain ⟨p, rfl⟩ := hw'; exact p.ext)
              clear hw' em f1 f2 k0 k1 heq
              go_wp2_with fail
              go_roundw
              case rel =>
                have hins : insN (cl, nm) q = q := by
                  unfold insN
                  rw [← HP.out, if_pos (by rw [QJ.out, HY.out])]
                have hxx := Ext.trans XJ.out (Ext.trans XC.out XD.out)
                rw [WO.out] at hxx
                exact ⟨k + 1, by go_num, by omega, by rw [NS.out, hins]; exact own_ext K1.out hxx, K2.out, Ext.trans K4.out hxx⟩
              case measure => simp [intOf]; omega
            · have hb : (yc == cl && yn == nm) = false := by
                cases h : (yc == cl && yn == nm) with
                | false => rfl
                | true =>
                  rw [Bool.and_eq_true, beq_iff_eq, beq_iff_eq] at h
                  exact absurd (by rw [h.1, h.2]) hyn
              have NE : Hid (¬ q[j]? = some (cl, nm)) := Lib.hid (by rw [QJ.out]; intro e; exact hyn (Option.some.inj e))
              clear hyn cm d1 d2 e0 e1
              refine wp_region_ext (by kernel_rfl) (by kernel_rfl) ?_
              repeat (go_big_quiet_step (fail))
              refine wpQuiet_nil ?_
              intro wd hw'
              have XD : Hid (Ext wc wd) := Lib.hid (by obtain ⟨p, rfl⟩ := hw'; exact p.ext)
              clear hw' em f1 f2 k0 k1 heq
              generalize hwv : wd = wv
              have hv2 : Ext wo wv := by rw [← hwv]; exact Ext.trans XJ.out (Ext.trans XC.out XD.out)
              have V2 := Lib.hid hv2
              obtain ⟨cm, d1, d2, hbv, hmv⟩ := CC.out wv hv2
              have j2 : (j : Int) ≤ (q.length : Int) := by omega
              have j3 : (j : Int) ≤ (qcap : Int) := by omega
              clear hwv hv2
              go_upto_region 9 with fail
              go_cut [6] (fun s W => ∃ (r1 : Option Addr) (c1 : Nat), s = .slice r1 (q.drop j).length c1 ∧ W.ownsRow 0 24 2 (.slice r1 (q.drop j).length c1) (q.drop j).length ((q.drop j).flatMap encNm) ∧ (∀ i, (Value.slice r1 (q.drop j).length c1).ownBlock = some i → wv.heap.size ≤ i) ∧ Ext wv W)
              case first =>
                have rd : Rows 2 encNm wv.heap.size wv (some ⟨g1, o1 + j * 2, none⟩) (q.drop j) := Rows.drop ((Rows.ext (by rw [WO.out]; exact QR.out) V2.out).mono V2.out.size) j
                have hdl : (q.drop j).length = q.length - j := List.length_drop
                have hck : ¬ qcap = j := by omega
                have hck2 : ¬ j = qcap := by omega
                have RD := Lib.hid rd; have DL := Lib.hid hdl
                have E2 : Hid (Ext wv (wv.alloc (.cells #[] 24))) := Lib.hid ((Below.refl _ wv).alloc (Nat.le_refl _) _)
                clear rd hdl
                go_wp2_with (at_builtin; go_must (refine wpList_append_rows (enc := encNm) (size := 2) (fun _ => rfl) one_nm rfl (.tmp 56) (.tmp 59) 93 rfl 24 i0 _ 16 Tryz.underlying93 hi hz0 hz1 hz2 rfl (by decide) (.slice (some ⟨wv.heap.size, 0, none⟩) 0 0) 0 [] rfl (World.ownsRow_made wv #[] 0 (Nat.zero_le _) (Nat.zero_le _) rfl) (some ⟨g1, o1 + j * 2, none⟩) (q.drop j) (qcap - j) (by rw [DL.out]; rfl) ((RD.out.ext E2.out).mono E2.out.size) (by unfold maxLen; have := DL.out; omega) (by have := DL.out; omega) ?_); intro v9 w9 hown9 hbut9 hkept9; have O9 := Lib.hid hown9; have B9 := Lib.hid hbut9; have K9 := Lib.hid hkept9; clear hown9 hbut9 hkept9)
                go_meet
                have ho9 := O9.out
                rw [Nat.zero_add, List.nil_append] at ho9
                obtain ⟨r1, c1, rfl⟩ := own_slice ho9
                have hn9 : ∀ i, (Value.slice r1 (q.drop j).length c1).ownBlock = some i → wv.heap.size ≤ i := fun i hq => by
                  rcases K9.out i hq with e | e
                  · simp [Value.ownBlock] at e; omega
                  · exact Nat.le_trans E2.out.size e
                exact ⟨r1, c1, rfl, ho9, hn9, Ext.butNew' E2.out B9.out (fun i e => by simp [Value.ownBlock] at e; omega)⟩
              case rest =>
                obtain ⟨r1, c1, hs6, ho, hn, hx⟩ := hcut
                subst hs6
                have XE := Lib.hid (Ext.trans V2.out hx)
                have RO := Lib.hid ho; have RN := Lib.hid hn
                obtain ⟨cm, d1, d2, hbe, hme⟩ := CC.out wc XE.out
                have HCUT : Hid (∀ W, Ext wc W → W.ownsRow 0 24 2 (.slice (some ⟨g1, o1, none⟩) j qcap) j ((q.take j).flatMap encNm)) := Lib.hid fun W hW => by
                  have h := own_cut (own_ext K1.out (Ext.trans (by rw [← WO.out]; exact XE.out) hW)) j (by omega)
                  rwa [flat_take (enc := encNm) (sz := 2) (fun _ => rfl)] at h
                have HROW := Lib.hid (Rows.fresh' (enc := encNm) (sz := 2) (fun _ => rfl) [(cl, nm)])
                have HF : Hid (∀ (i n cc : Nat), (Value.slice (some ⟨g1, o1, none⟩) n cc).ownBlock = some i → i < wo.heap.size ∧ w.heap.size ≤ i) := Lib.hid fun i n cc e => by
                  have e2 : (Value.slice (some ⟨g1, o1, none⟩) q.length qcap).ownBlock = some i := by rw [ownB] at e ⊢; exact e
                  have h := (K1.out.lt i e2).2
                  rw [← WO.out] at h
                  exact ⟨h, K2.out i (by rw [ownB] at e ⊢; exact e)⟩
                have X5 : Hid (Ext wc (wc.alloc (.cells #[.int .i64 cl, .int .i64 nm] 24)).drew) := Lib.hid ((Below.refl _ wc).alloc (Nat.le_refl _) _).drew
                clear ho hn hx
                go_wp2_with fail
                go_region_law (first
                  | (refine step_append_rows (enc := encNm) (size := 2) (fun _ => rfl) one_nm (by rfl) (.tmp 63) (.tmp 72) 93 (by rfl) 24 i0 _ 16 Tryz.underlying93 hi hz0 hz1 hz2 rfl (by decide) (.slice (some ⟨g1, o1, none⟩) j qcap) j ((q.take j).flatMap encNm) (by rfl) (HCUT.out _ X5.out) (some ⟨wc.heap.size, 0, none⟩) [(cl, nm)] 1 (by rfl) (by exact HROW.out wc 24) (by simp only [List.length_singleton]; unfold maxLen; omega) (by simp only [List.length_singleton]; omega) ?_
                     intro v6 w6 hown6 hbut6 hkept6
                     have hov6 := own_but (own_ext RO.out X5.out) hbut6 (fun i hi2 e => by have h1 := RN.out i hi2; have h2 := (HF.out i _ _ e).1; have h3 := V2.out.size; omega)
                     have R6 := Lib.hid (rows_of_own (enc := encNm) (sz := 2) (fun _ => rfl) hov6)
                     have O6 := Lib.hid hown6; have B6 := Lib.hid hbut6; have K6 := Lib.hid hkept6
                     clear hown6 hbut6 hkept6 hov6)
                  | (refine step_append_rows (enc := encNm) (size := 2) (fun _ => rfl) one_nm (by rfl) (.tmp 73) (.tmp 74) 93 (by rfl) 24 i0 _ 16 Tryz.underlying93 hi hz0 hz1 hz2 rfl (by decide) v6 _ _ (by rfl) O6.out r1 (q.drop j) c1 (by rw [List.length_drop]; rfl) R6.out (by rw [List.length_drop]; simp only [List.length_singleton]; unfold maxLen; omega) (by rw [List.length_drop]; simp only [List.length_singleton]; omega) ?_
                     intro v7 w7 hown7 hbut7 hkept7
                     rw [show j + [(cl, nm)].length + (q.drop j).length = q.length + 1 from by rw [List.length_singleton, List.length_drop]; omega] at hown7
                     obtain ⟨q7, c7, rfl⟩ := own_slice hown7
                     have O7 := Lib.hid hown7; have B7 := Lib.hid hbut7; have K7 := Lib.hid hkept7
                     clear hown7 hbut7 hkept7))
                all_goals
                  go_wp2_with fail
                  go_roundw
                  case rel =>
                    have hins : insN (cl, nm) q = q.take j ++ (cl, nm) :: q.drop j := by
                      unfold insN
                      rw [← HP.out, if_neg NE.out]
                    have hlen : (insN (cl, nm) q).length = q.length + 1 := by
                      rw [hins, List.length_append, List.length_cons, List.length_take, List.length_drop]; omega
                    have ho7 := O7.out
                    have hfl : (q.take j).flatMap encNm ++ [(cl, nm)].flatMap encNm ++ (q.drop j).flatMap encNm = (insN (cl, nm) q).flatMap encNm := by
                      rw [hins]
                      simp only [List.flatMap_append, List.flatMap_cons, List.flatMap_nil, List.append_nil, List.append_assoc]
                    rw [hfl] at ho7
                    have hk6 : ∀ i, v6.ownBlock = some i → w.heap.size ≤ i := fun i hi2 => by
                      rcases K6.out i hi2 with h | h
                      · exact (HF.out i _ _ h).2
                      · have h2 := K4.out.size; have h3 := XE.out.size; have h4 := X5.out.size; rw [← WO.out] at h2; exact Nat.le_trans (Nat.le_trans h2 (Nat.le_trans h3 h4)) h
                    have hk7 : ∀ i, (Value.slice q7 (q.length + 1) c7).ownBlock = some i → w.heap.size ≤ i := fun i hi2 => by
                      rcases K7.out i hi2 with h | h
                      · exact hk6 i h
                      · have h2 := K4.out.size; have h3 := XE.out.size; have h4 := X5.out.size; have h5 := B6.out.size; rw [← WO.out] at h2; exact Nat.le_trans (Nat.le_trans h2 (Nat.le_trans h3 (Nat.le_trans h4 h5))) h
                    refine ⟨k + 1, by go_num, by omega, by rw [NS.out, hlen]; exact ho7, hk7, ?_⟩
                    have hwx : Ext w (wc.alloc (.cells #[.int .i64 cl, .int .i64 nm] 24)).drew := Ext.trans (Ext.trans K4.out (by rw [← WO.out]; exact XE.out)) X5.out
                    exact Ext.butNew' (Ext.butNew' hwx B6.out (fun i e => (HF.out i _ _ e).2)) B7.out hk6
                  case measure => simp [intOf]; omega
        · obtain rfl : j = P := by omega
          have t1 : decide ((j : Int) < (q.length : Int)) = false := decide_eq_false (by omega)
          go_wp2_with fail
          refine wp_region_ext (by kernel_rfl) (by kernel_rfl) ?_
          repeat (go_big_quiet_step (fail))
          refine wpQuiet_nil ?_
          intro wc hw'
          have XC : Hid (Ext wr wc) := Lib.hid (by obtain ⟨p, rfl⟩ := hw'; exact p.ext)
          clear hw' cm d1 d2
          go_upto_region 8 with fail
          have NE : Hid (¬ q[j]? = some (cl, nm)) := Lib.hid (by rw [List.getElem?_eq_none (by omega)]; intro e; cases e)
          refine wp_region_ext (by kernel_rfl) (by kernel_rfl) ?_
          repeat (go_big_quiet_step (fail))
          refine wpQuiet_nil ?_
          intro wd hw'
          have XD : Hid (Ext wc wd) := Lib.hid (by obtain ⟨p, rfl⟩ := hw'; exact p.ext)
          clear hw'
          generalize hwv : wd = wv
          have hv2 : Ext wo wv := by rw [← hwv]; exact Ext.trans XJ.out (Ext.trans XC.out XD.out)
          have V2 := Lib.hid hv2
          obtain ⟨cm, d1, d2, hbv, hmv⟩ := CC.out wv hv2
          have j2 : (j : Int) ≤ (q.length : Int) := by omega
          have j3 : (j : Int) ≤ (qcap : Int) := by omega
          clear hwv hv2
          go_upto_region 9 with fail
          go_cut [6] (fun s W => ∃ (r1 : Option Addr) (c1 : Nat), s = .slice r1 (q.drop j).length c1 ∧ W.ownsRow 0 24 2 (.slice r1 (q.drop j).length c1) (q.drop j).length ((q.drop j).flatMap encNm) ∧ (∀ i, (Value.slice r1 (q.drop j).length c1).ownBlock = some i → wv.heap.size ≤ i) ∧ Ext wv W)
          case first =>
            have hdn : q.drop j = [] := List.drop_eq_nil_of_le (by omega)
            have DN := Lib.hid hdn
            have fin : ∀ W, W = wv.alloc (.cells #[] 24) → ∃ (r1 : Option Addr) (c1 : Nat), (Value.slice (some ⟨wv.heap.size, 0, none⟩) 0 0) = .slice r1 (q.drop j).length c1 ∧ W.ownsRow 0 24 2 (.slice r1 (q.drop j).length c1) (q.drop j).length ((q.drop j).flatMap encNm) ∧ (∀ i, (Value.slice r1 (q.drop j).length c1).ownBlock = some i → wv.heap.size ≤ i) ∧ Ext wv W := fun W hW => by
              subst hW
              rw [DN.out]
              exact ⟨_, _, rfl, World.ownsRow_made wv #[] 0 (Nat.zero_le _) (Nat.zero_le _) rfl, fun i e => by simp [Value.ownBlock] at e; omega, (Below.refl _ wv).alloc (Nat.le_refl _) _⟩
            have FIN := Lib.hid fin
            clear hdn fin
            have hlz : j = q.length := by omega
            rcases own_form K1.out with ⟨hv0, h0⟩ | ⟨g1, cc, hv0⟩
            · simp only [Value.slice.injEq] at hv0
              obtain ⟨rfl, -, rfl⟩ := hv0
              obtain rfl : j = 0 := by omega
              clear hlz h0
              have hl10 : q.length = 0 := by omega
              go_wp2_with fail
              go_meet
              exact FIN.out _ rfl
            · simp only [Value.slice.injEq, true_and] at hv0
              obtain ⟨rfl, rfl⟩ := hv0
              by_cases hck : qcap = j
              case' pos => subst hck
              all_goals
                go_wp2_with fail
                go_meet
                exact FIN.out _ rfl
          case rest =>
            obtain ⟨r1, c1, hs6, ho, hn, hx⟩ := hcut
            subst hs6
            have XE := Lib.hid (Ext.trans V2.out hx)
            have RO := Lib.hid ho; have RN := Lib.hid hn
            obtain ⟨cm, d1, d2, hbe, hme⟩ := CC.out wc XE.out
            have HCUT : Hid (∀ W, Ext wc W → W.ownsRow 0 24 2 (.slice qo j qcap) j ((q.take j).flatMap encNm)) := Lib.hid fun W hW => by
              have h := own_cut (own_ext K1.out (Ext.trans (by rw [← WO.out]; exact XE.out) hW)) j (by omega)
              rwa [flat_take (enc := encNm) (sz := 2) (fun _ => rfl)] at h
            have HROW := Lib.hid (Rows.fresh' (enc := encNm) (sz := 2) (fun _ => rfl) [(cl, nm)])
            have HF : Hid (∀ (i n cc : Nat), (Value.slice qo n cc).ownBlock = some i → i < wo.heap.size ∧ w.heap.size ≤ i) := Lib.hid fun i n cc e => by
              have e2 : (Value.slice qo q.length qcap).ownBlock = some i := by rw [ownB] at e ⊢; exact e
              have h := (K1.out.lt i e2).2
              rw [← WO.out] at h
              exact ⟨h, K2.out i (by rw [ownB] at e ⊢; exact e)⟩
            have X5 : Hid (Ext wc (wc.alloc (.cells #[.int .i64 cl, .int .i64 nm] 24)).drew) := Lib.hid ((Below.refl _ wc).alloc (Nat.le_refl _) _).drew
            clear ho hn hx
            go_wp2_with fail
            go_region_law (first
              | (refine step_append_rows (enc := encNm) (size := 2) (fun _ => rfl) one_nm (by rfl) (.tmp 63) (.tmp 72) 93 (by rfl) 24 i0 _ 16 Tryz.underlying93 hi hz0 hz1 hz2 rfl (by decide) (.slice qo j qcap) j ((q.take j).flatMap encNm) (by rfl) (HCUT.out _ X5.out) (some ⟨wc.heap.size, 0, none⟩) [(cl, nm)] 1 (by rfl) (by exact HROW.out wc 24) (by simp only [List.length_singleton]; unfold maxLen; omega) (by simp only [List.length_singleton]; omega) ?_
                 intro v6 w6 hown6 hbut6 hkept6
                 have hov6 := own_but (own_ext RO.out X5.out) hbut6 (fun i hi2 e => by have h1 := RN.out i hi2; have h2 := (HF.out i _ _ e).1; have h3 := V2.out.size; omega)
                 have R6 := Lib.hid (rows_of_own (enc := encNm) (sz := 2) (fun _ => rfl) hov6)
                 have O6 := Lib.hid hown6; have B6 := Lib.hid hbut6; have K6 := Lib.hid hkept6
                 clear hown6 hbut6 hkept6 hov6)
              | (refine step_append_rows (enc := encNm) (size := 2) (fun _ => rfl) one_nm (by rfl) (.tmp 73) (.tmp 74) 93 (by rfl) 24 i0 _ 16 Tryz.underlying93 hi hz0 hz1 hz2 rfl (by decide) v6 _ _ (by rfl) O6.out r1 (q.drop j) c1 (by rw [List.length_drop]; rfl) R6.out (by rw [List.length_drop]; simp only [List.length_singleton]; unfold maxLen; omega) (by rw [List.length_drop]; simp only [List.length_singleton]; omega) ?_
                 intro v7 w7 hown7 hbut7 hkept7
                 rw [show j + [(cl, nm)].length + (q.drop j).length = q.length + 1 from by rw [List.length_singleton, List.length_drop]; omega] at hown7
                 obtain ⟨q7, c7, rfl⟩ := own_slice hown7
                 have O7 := Lib.hid hown7; have B7 := Lib.hid hbut7; have K7 := Lib.hid hkept7
                 clear hown7 hbut7 hkept7))
            all_goals
              go_wp2_with fail
              go_roundw
              case rel =>
                have hins : insN (cl, nm) q = q.take j ++ (cl, nm) :: q.drop j := by
                  unfold insN
                  rw [← HP.out, if_neg NE.out]
                have hlen : (insN (cl, nm) q).length = q.length + 1 := by
                  rw [hins, List.length_append, List.length_cons, List.length_take, List.length_drop]; omega
                have ho7 := O7.out
                have hfl : (q.take j).flatMap encNm ++ [(cl, nm)].flatMap encNm ++ (q.drop j).flatMap encNm = (insN (cl, nm) q).flatMap encNm := by
                  rw [hins]
                  simp only [List.flatMap_append, List.flatMap_cons, List.flatMap_nil, List.append_nil, List.append_assoc]
                rw [hfl] at ho7
                have hk6 : ∀ i, v6.ownBlock = some i → w.heap.size ≤ i := fun i hi2 => by
                  rcases K6.out i hi2 with h | h
                  · exact (HF.out i _ _ h).2
                  · have h2 := K4.out.size; have h3 := XE.out.size; have h4 := X5.out.size; rw [← WO.out] at h2; exact Nat.le_trans (Nat.le_trans h2 (Nat.le_trans h3 h4)) h
                have hk7 : ∀ i, (Value.slice q7 (q.length + 1) c7).ownBlock = some i → w.heap.size ≤ i := fun i hi2 => by
                  rcases K7.out i hi2 with h | h
                  · exact hk6 i h
                  · have h2 := K4.out.size; have h3 := XE.out.size; have h4 := X5.out.size; have h5 := B6.out.size; rw [← WO.out] at h2; exact Nat.le_trans (Nat.le_trans h2 (Nat.le_trans h3 (Nat.le_trans h4 h5))) h
                refine ⟨k + 1, by go_num, by omega, by rw [NS.out, hlen]; exact ho7, hk7, ?_⟩
                have hwx : Ext w (wc.alloc (.cells #[.int .i64 cl, .int .i64 nm] 24)).drew := Ext.trans (Ext.trans K4.out (by rw [← WO.out]; exact XE.out)) X5.out
                exact Ext.butNew' (Ext.butNew' hwx B6.out (fun i e => (HF.out i _ _ e).2)) B7.out hk6
              case measure => simp [intOf]; omega
    · have hall : ds.take k = ds := List.take_of_length_le (by have := HLL.out; omega)
      rw [hall] at K1 K2
      rw [hall]
      clear hall
      go_wp2_with fail
      go_ret
      exact ⟨.slice qo (namesD ds).length qcap, rfl, K1.out, K2.out, K4.out⟩
end Go.Proofs.YtdmejbjpbjcfbaaGreatDoor
/- The program's Names. -/
namespace Go.Proofs.YtdmejbjpbjcfbaaGreatDoor
open Go.RowKit
open Go.Sort (grow putRow flatK putCells HoldsK)
variable {no0 : Nat → Prop}
theorem extN_grow (w : World) (os : Array Obj) : Ext w (grow w os) := ⟨rfl, rfl, rfl, by simp [grow], fun k hk => Go.Sort.heap_grow_old w os hk⟩
theorem belowN_putRow {α : Type} [Inhabited α] (enc : α → Value) (w : World) (n blk off : Nat) (d : Array α) {B : Nat} (hb : B ≤ blk) : Below B w (putRow enc (Sort.ahead w n) blk off d) :=
  ⟨rfl, rfl, rfl, by simp [putRow, Go.Sort.mapBlock], fun k hk => by
    simp only [putRow, Go.Sort.mapBlock, Sort.heap_ahead, Array.getElem?_modify]
    rw [if_neg (by omega)]⟩
theorem flatN_get (l : List Nm) (t : Nat) (ht : t < l.length * 2) : (l.flatMap encNm)[t]? = some ((flatK encNm 2 l.toArray)[t]!) := by
  have h2 : t / 2 < l.length := by omega
  obtain ⟨x, hx⟩ : ∃ x, l[t / 2]? = some x := ⟨_, List.getElem?_eq_getElem h2⟩
  rw [Go.Sort.get_flatK _ _ _ _ (by simpa using ht)]
  have hd : (l.toArray)[t / 2]! = x := by
    obtain ⟨_, rfl⟩ := List.getElem?_eq_some_iff.1 hx
    rw [getElem!_pos _ _ (by simpa using h2)]; simp
  rw [hd]
  have hm : t % 2 = 0 ∨ t % 2 = 1 := by omega
  rcases hm with hm | hm
  · rw [hm]
    have := flat_at (enc := encNm) (sz := 2) (fun _ => rfl) l (t / 2) x hx 0 _ rfl
    rw [show t / 2 * 2 + 0 = t from by omega] at this
    rw [this]; rfl
  · rw [hm]
    have := flat_at (enc := encNm) (sz := 2) (fun _ => rfl) l (t / 2) x hx 1 _ rfl
    rw [show t / 2 * 2 + 1 = t from by omega] at this
    rw [this]; rfl
theorem holdsK_blk {w : World} {g : Nat} {cs : List Value} {l : List Nm} (hb : Blk w g cs 24) (htk : cs.take (l.length * 2) = l.flatMap encNm) : HoldsK encNm 2 w g 0 l.toArray := by
  intro t ht
  have ht2 : t < l.length * 2 := by simpa using ht
  rw [Nat.zero_add]
  refine ⟨?_, hb.free _⟩
  rw [hb.cell, ← show (cs.take (l.length * 2))[t]? = cs[t]? from by rw [List.getElem?_take, if_pos ht2], htk]
  exact flatN_get l t ht2
theorem flatN_len (l : List Nm) : (l.flatMap encNm).length = l.length * 2 := by
  induction l with
  | nil => rfl
  | cons a l ih => rw [List.flatMap_cons, List.length_append, ih, List.length_cons]; show 2 + _ = _; omega
theorem blk_sort {w : World} {g : Nat} {cs : List Value} (hb : Blk w g cs 24) (l' : List Nm) (n : Nat) (os : Array Obj) : Blk (sortWorldK encNm 2 w g 0 n l'.toArray os) g (putCells id 0 (flatK encNm 2 l'.toArray) cs.toArray).toList 24 := by
  have hlt := hb.lt
  unfold Blk at hb ⊢
  unfold sortWorldK grow Go.Sort.putRowK putRow Go.Sort.mapBlock
  rw [Array.getElem?_append_left (by simpa using hlt)]
  simp only [Sort.heap_ahead, Array.getElem?_modify, if_true, hb, Option.map_some, Go.Sort.onCells]
theorem put_take (cs : List Value) (l' : List Nm) (hl : l'.length * 2 ≤ cs.length) : (putCells id 0 (flatK encNm 2 l'.toArray) cs.toArray).toList.take (l'.length * 2) = l'.flatMap encNm := by
  apply List.ext_getElem?
  intro t
  rw [List.getElem?_take]
  split
  · rename_i ht
    rw [flatN_get l' t ht]
    unfold putCells
    simp only [Array.toList_mapIdx, List.getElem?_mapIdx]
    rw [List.getElem?_eq_getElem (by omega)]
    simp only [Option.map_some, Nat.zero_le, true_and, Nat.zero_add, Nat.sub_zero, Go.Sort.size_flatK, List.size_toArray, ht, if_true, id]
  · rename_i ht
    exact (List.getElem?_eq_none (by rw [flatN_len]; omega)).symm
theorem put_len (cs : List Value) (F : Array Value) : (putCells id 0 F cs.toArray).toList.length = cs.length := by
  unfold putCells; simp
theorem ltNm : ltOf cmpNm = oldN := funext fun x => funext fun y => cmpNm_lt x y
theorem swoNm : Go.Sort.SWO (ltOf cmpNm) := by
  rw [ltNm]
  exact ⟨oldN_irrefl, fun _ _ _ h1 h2 => oldN_trans h1 h2, fun x y z h1 h2 => by rw [oldN_false] at *; omega⟩
theorem sortNm_calls (g cap n : Nat) (l : List Nm) (w : World) (hn : n = l.length) (hl : l.length ≤ 1000000) (hH : HoldsK encNm 2 w g 0 l.toArray) (hg : g < w.heap.size) :
    Calls Tryz.prog 99 #[.slice (some ⟨g, 0, none⟩) n cap, .func (.func 100) #[] #[]] w fun e w' =>
      e = .returned (.tuple #[]) ∧ ∃ m os, w' = sortWorldK encNm 2 w g 0 m (sortN l).toArray os := by
  subst hn
  have eg : ∀ args w, (callFunc 100 args).run Tryz.prog w = .ok (.enter 100 args) w := enters_of Tryz.func100 (by kernel_rfl) rfl
  have hc : CmpLays Tryz.prog 100 #[] encNm 2 cmpNm g 0 l.toArray.size w := fun _ _ _ _ x y => byNm_calls x y _
  have h := AnyQ.slices_SortFunc_total Tryz.sortNm 2 Tryz.isAgg24 Tryz.sizeOf24 encNm (fun _ => rfl) one_nm cmpNm swoNm 100 #[] g 0 cap l.toArray w eg hc hH hg (by simp; omega) (by rw [ltNm]; exact fun x y h1 h2 => oldN_total h1 h2)
  rw [ltNm] at h
  exact h
theorem sortNone_calls (cap : Nat) (fv : Value) (w : World) : Calls Tryz.prog 99 #[.slice none 0 cap, fv] w fun e w' => e = .returned (.tuple #[]) ∧ w' = w :=
  AnyF.slices_SortFunc_none Tryz.sortNm none cap fv w
def nmsOf (ds : List HoldD) : List Nm := ds.map fun d => (d.cl, d.nm)
set_option maxRecDepth 100000 in
set_option maxHeartbeats 3200000 in
theorem names_calls (hb : Nat) (v : Value) (ds : List HoldD) (w : World) (T : TabN no0 w hb v ds) :
    Calls Tryz.prog 45 #[.pointer (some ⟨hb, 0, none⟩)] w (NamesPost (namesD ds) w) := by
  obtain ⟨i0, hi, hz0, hz1, hz2⟩ := info_parts infoNm
  have hc1 := T.blk.cell 1
  simp only [List.getElem?_cons_zero, List.getElem?_cons_succ] at hc1
  have HTH := Lib.hid (there_calls (some ⟨hb, 0, none⟩) true w (show ThereIs w (some ⟨hb, 0, none⟩) true from .inr ⟨hb, rfl, hc1⟩))
  obtain ⟨l, ao, cap, rfl, hlc, hll, hrows, hown, hare, hrise⟩ := T.rows
  have hfew := T.few
  have hc0 := T.blk.cell 0
  simp only [List.getElem?_cons_zero] at hc0
  have hbl := T.blk.lt
  have hl60 : l.length ≤ 60 := by omega
  have HRO := Lib.hid hrows; have HAR := Lib.hid hare; have HLL := Lib.hid hll
  clear T hrows hown hare hrise hll hc1
  go_enter Tryz.func45, Tryz.ntmps45
  go_wp2_with fail
  refine HTH.out.mono ?_
  rintro e w' ⟨rfl, rfl⟩
  clear HTH
  go_wp2_with fail
  go_loopw [3, 15] (fun vo vi wr => ∃ k : Nat, vi = .int .i64 k ∧ k ≤ l.length ∧ wr.ownsRow 0 24 2 vo k ((nmsOf (ds.take k)).flatMap encNm) ∧ (∀ j, vo.ownBlock = some j → w.heap.size ≤ j) ∧ Ext w wr) (fun _ vi _ => l.length - (intOf vi).toNat)
  case atStart => exact ⟨0, rfl, by omega, World.ownsRow_nil _ _ _ _, by simp [Value.ownBlock], Below.refl _ _⟩
  case round =>
    obtain ⟨k, rfl, hk, hown, hnew, hx⟩ := hrel
    obtain ⟨qo, qcap, hq0⟩ := own_slice hown
    subst hq0
    have K1 := Lib.hid hown; have K2 := Lib.hid hnew; have K4 := Lib.hid hx
    clear hown hnew hx
    by_cases hlt : k < l.length
    · obtain ⟨x, hx⟩ : ∃ x, l[k]? = some x := ⟨_, List.getElem?_eq_getElem hlt⟩
      obtain ⟨d, hdk, hxd⟩ := HAR.out.at k x hx
      obtain ⟨b, off, rfl, hbb, hcell⟩ := HRO.out (by intro e; rw [e] at hlt; simp at hlt)
      have hcx := hcell k x hx
      have hcl : x.cl = d.cl := hxd.cl
      have hnm : x.nm = d.nm := hxd.nm
      have hns : nmsOf (ds.take (k + 1)) = nmsOf (ds.take k) ++ [(x.cl, x.nm)] := by
        unfold nmsOf
        rw [List.take_add_one, hdk, List.map_append, hcl, hnm]; rfl
      obtain ⟨key, cl, nm, xo, xn, xc, yo, yn, yc, put, value⟩ := x
      have d0 := cellX K4.out (hcx 0 _ rfl); have d1 := cellX K4.out (hcx 1 _ rfl); have d2 := cellX K4.out (hcx 2 _ rfl); have d3 := cellX K4.out (hcx 3 _ rfl); have d4 := cellX K4.out (hcx 4 _ rfl); have d5 := cellX K4.out (hcx 5 _ rfl); have d6 := cellX K4.out (hcx 6 _ rfl)
      simp only [Nat.add_zero] at d0
      have NS := Lib.hid hns
      have ii0 : (0 : Int) ≤ (k : Int) := by omega
      have ii1 : (k : Int) < (l.length : Int) := by omega
      have hbox := Blk.new wr [.string key, .int .i64 cl, .int .i64 nm, .slice xo xn xc, .slice yo yn yc, .bool put, .string value] 35
      have hxb : Ext wr (wr.alloc (.cells #[.string key, .int .i64 cl, .int .i64 nm, .slice xo xn xc, .slice yo yn yc, .bool put, .string value] 35)) := (Below.refl _ wr).alloc (Nat.le_refl _) _
      have HB := Lib.hid hbox; have XB := Lib.hid hxb
      clear hx hdk hxd hcell hcx hcl hnm hns hbox hxb
      go_upto_region 7 with fail
      have hB := HB.out; have hXB := XB.out
      generalize wr.alloc _ = w1 at hB hXB ⊢
      have c1 := hB.cell 1; have c2 := hB.cell 2
      simp only [List.getElem?_cons_zero, List.getElem?_cons_succ] at c1 c2
      have X1 := Lib.hid hXB
      have HROW := Lib.hid (Rows.fresh' (enc := encNm) (sz := 2) (fun _ => rfl) [(cl, nm)] w1 24)
      have X5 : Hid (Ext w1 (w1.alloc (.cells #[.int .i64 cl, .int .i64 nm] 24))) := Lib.hid ((Below.refl _ w1).alloc (Nat.le_refl _) _)
      clear hB hXB HB XB d0 d1 d2 d3 d4 d5 d6
      go_wp2_with (at_builtin; go_must (refine wpList_append_rows (enc := encNm) (size := 2) (fun _ => rfl) one_nm rfl (.tmp 19) (.tmp 22) 93 rfl 24 i0 _ 16 Tryz.underlying93 hi hz0 hz1 hz2 rfl (by decide) (.slice qo k qcap) k ((nmsOf (ds.take k)).flatMap encNm) rfl (own_ext (own_ext K1.out X1.out) X5.out) (some ⟨w1.heap.size, 0, none⟩) [(cl, nm)] 1 rfl (by exact HROW.out) (by simp only [List.length_singleton]; unfold maxLen; omega) (by simp only [List.length_singleton]; omega) ?_); intro v9 w9 hown9 hbut9 hkept9; have O9 := Lib.hid hown9; have B9 := Lib.hid hbut9; have K9 := Lib.hid hkept9; clear hown9 hbut9 hkept9)
      go_roundw
      case rel =>
        have ho := O9.out
        rw [← List.flatMap_append, ← NS.out] at ho
        have hw9 : Ext w (w1.alloc (.cells #[.int .i64 cl, .int .i64 nm] 24)) := Ext.trans (Ext.trans K4.out X1.out) X5.out
        refine ⟨k + 1, by go_num, by omega, ho, fun i hi2 => ?_, Ext.butNew' hw9 B9.out (fun i e => K2.out i e)⟩
        rcases K9.out i hi2 with h | h
        · exact K2.out i h
        · exact Nat.le_trans hw9.size h
      case measure => simp [intOf]; omega
    · obtain rfl : k = l.length := by omega
      have hall : ds.take l.length = ds := List.take_of_length_le (by have := HLL.out; omega)
      rw [hall] at K1
      have hnl : (nmsOf ds).length = l.length := by unfold nmsOf; rw [List.length_map]; exact HLL.out.symm
      have HNL := Lib.hid hnl
      have hlaw : compN (sortN (nmsOf ds)) (sortN (nmsOf ds)).length = namesD ds := by
        rw [sortN_len, hnl, HLL.out]; exact names_law ds
      have HLAW := Lib.hid hlaw
      have hsl : (sortN (nmsOf ds)).length = l.length := by rw [sortN_len, hnl]
      have HSL := Lib.hid hsl
      clear hall hnl hlaw hsl hc0
      rcases own_form K1.out with ⟨hv0, h0⟩ | ⟨g, cc, hv0⟩
      · simp only [Value.slice.injEq] at hv0
        obtain ⟨rfl, h00, rfl⟩ := hv0
        have HL0 := Lib.hid h00
        have t1 : decide ((l.length : Int) < (l.length : Int)) = false := decide_eq_false (by omega)
        have hs0 : sortN (nmsOf ds) = [] := List.eq_nil_of_length_eq_zero (by rw [HSL.out]; exact h00)
        have HS0 := Lib.hid hs0
        have hz : Value.slice none l.length 0 = Value.slice none 0 0 := by rw [h00]
        have HZ := Lib.hid hz
        clear hs0 h0 h00 hz
        have SN := Lib.hid (fun fv W => by have h := sortNone_calls 0 fv W; rw [← HZ.out] at h; exact h : ∀ fv W, Calls Tryz.prog 99 #[.slice none l.length 0, fv] W fun e w' => e = .returned (.tuple #[]) ∧ w' = W)
        have CN := Lib.hid (fun W => by have h := compact_calls [] (.slice none 0 0) W (by simp) (World.ownsRow_nil _ _ _ _); rw [← HZ.out] at h; exact h : ∀ W, Calls Tryz.prog 103 #[.slice none l.length 0] W fun e w' => ∃ v' : Value, e = .returned v' ∧ w'.ownsRow 0 24 2 v' (compN [] 0).length ((compN [] 0).flatMap encNm) ∧ (∀ j, v'.ownBlock = some j → (Value.slice none l.length 0).ownBlock = some j) ∧ But (fun j => (Value.slice none l.length 0).ownBlock = some j) W w')
        go_wp2_with fail
        refine (SN.out _ _).mono ?_
        rintro e w1 ⟨rfl, rfl⟩
        go_wp2_with fail
        refine (CN.out _).mono ?_
        rintro e w1 ⟨v', rfl, ho, hn, hbt⟩
        have HO := Lib.hid ho; have HN := Lib.hid hn; have HBT := Lib.hid hbt
        clear ho hn hbt
        go_wp2_with fail
        go_ret
        have hlw := HLAW.out
        rw [HS0.out] at hlw
        refine ⟨v', rfl, by rw [← hlw]; exact HO.out, fun j hj => K2.out j (by rw [← HZ.out] at *; exact HN.out j hj), Ext.butNew' K4.out HBT.out (fun i e => K2.out i e)⟩
      · simp only [Value.slice.injEq, true_and] at hv0
        obtain ⟨rfl, rfl⟩ := hv0
        have hng : w.heap.size ≤ g := K2.out g (by simp [Value.ownBlock])
        obtain ⟨cs, hblk, hcl, htk, hqn, hqm⟩ : ∃ cs, Blk wr g cs 24 ∧ cs.length = qcap * 2 ∧ cs.take (l.length * 2) = (nmsOf ds).flatMap encNm ∧ l.length ≤ qcap ∧ qcap ≤ maxLen := by
          rcases K1.out.2 with ⟨h, h0⟩ | ⟨gb, cap, cur, h, _, hg, h1, h2, hcs, htk⟩
          · simp at h
          · simp only [Value.slice.injEq, Option.some.injEq, Addr.mk.injEq, and_true, true_and] at h
            obtain ⟨rfl, rfl⟩ := h
            exact ⟨cur.toList, blk_of hg, by simpa using hcs, htk, h1, h2⟩
        have hsort := sortNm_calls g qcap l.length (nmsOf ds) wr HNL.out.symm (by rw [HNL.out]; omega) (holdsK_blk hblk (by rw [HNL.out]; exact htk)) hblk.lt
        have HSO := Lib.hid hsort; have HBK := Lib.hid hblk; have HCL := Lib.hid hcl; have HNG := Lib.hid hng; have HQN := Lib.hid hqn; have HQM := Lib.hid hqm
        have t1 : decide ((l.length : Int) < (l.length : Int)) = false := decide_eq_false (by omega)
        clear hsort hblk hcl htk hng hqn hqm
        go_wp2_with fail
        refine HSO.out.mono ?_
        rintro e w1 ⟨rfl, m, os, hw1⟩
        have hb1 := blk_sort HBK.out (sortN (nmsOf ds)) m os
        rw [← hw1] at hb1
        have ho1 : w1.ownsRow 0 24 2 (.slice (some ⟨g, 0, none⟩) (sortN (nmsOf ds)).length qcap) (sortN (nmsOf ds)).length ((sortN (nmsOf ds)).flatMap encNm) :=
          own_of_blk hb1 (by rw [put_len]; exact HCL.out) (by rw [HSL.out]; exact HQN.out) HQM.out (put_take cs _ (by rw [HSL.out]; have := HCL.out; have := HQN.out; omega))
        have hx1 : Ext w w1 := by
          refine Below.trans K4.out ?_
          rw [hw1]
          exact Below.trans (belowN_putRow _ _ _ _ _ _ HNG.out) (Below.mono (extN_grow _ _) (by have := K4.out.size; simp; omega))
        have hcomp := compact_calls (sortN (nmsOf ds)) _ w1 (by rw [HSL.out]; omega) ho1
        rw [HLAW.out, HSL.out] at hcomp
        have HCO := Lib.hid hcomp; have HX1 := Lib.hid hx1
        clear hcomp hx1 ho1 hb1 hw1
        go_wp2_with fail
        refine HCO.out.mono ?_
        rintro e w2 ⟨v', rfl, ho, hn, hbt⟩
        have HO := Lib.hid ho; have HN := Lib.hid hn; have HBT := Lib.hid hbt
        clear ho hn hbt
        go_wp2_with fail
        go_ret
        exact ⟨v', rfl, HO.out, fun j hj => K2.out j (HN.out j hj), Ext.butNew' HX1.out HBT.out (fun i e => K2.out i e)⟩
end Go.Proofs.YtdmejbjpbjcfbaaGreatDoor
