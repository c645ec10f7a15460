/- The stable sort of what is known, by its index: the walk. -/
import Derived.Test.YtbnclifpdmpjnaaGreatDoorZ18
import Derived.Test.YtbnclifpdmpjnaaGreatDoorZ09
import Derived.BigRegion
namespace Go.Proofs.YtbnclifpdmpjnaaGreatDoor
open Go.RowKit
def pv (k : Nat) : Value := .pointer (some ⟨k, 0, none⟩)
def RowP (w : World) (b : Nat) (q : List Nat) (tl : List Value) : Prop := Blk w b (q.map pv ++ tl) 75
theorem RowP.cell {w : World} {b : Nat} {q : List Nat} {tl : List Value} (h : RowP w b q tl) {i : Nat} (hi : i < q.length) : w.cell? ⟨b, i, none⟩ = some (.pointer (some ⟨q.getD i 0, 0, none⟩)) := by
  rw [Blk.cell h i, List.getElem?_append_left (by simpa using hi), List.getElem?_map, List.getD_eq_getElem?_getD, List.getElem?_eq_getElem hi]
  rfl
theorem RowP.set {w : World} {b : Nat} {q : List Nat} {tl : List Value} (h : RowP w b q tl) {i : Nat} (hi : i < q.length) (x : Nat) : RowP (w.setCell ⟨b, i, none⟩ (.pointer (some ⟨x, 0, none⟩))) b (q.set i x) tl := by
  have h2 := Blk.set h i (pv x)
  unfold RowP
  rw [List.set_append_left _ _ (by simpa using hi), ← List.map_set] at h2
  exact h2
theorem RowP.swap {w : World} {b : Nat} {q : List Nat} {tl : List Value} (h : RowP w b q tl) {i j : Nat} (hi : i < q.length) (hj : j < q.length) : RowP ((w.setCell ⟨b, i, none⟩ (.pointer (some ⟨q.getD j 0, 0, none⟩))).setCell ⟨b, j, none⟩ (.pointer (some ⟨q.getD i 0, 0, none⟩))) b (swapL q i j) tl :=
  (h.set hi _).set (by simpa using hj) _
set_option maxRecDepth 100000 in
set_option maxHeartbeats 1600000 in
theorem swapRange_calls (q : List Nat) (a b n L cap rb : Nat) (tl : List Value) (fv : Value) (w : World) (hrow : RowP w rb q tl) (hL : q.length = L) (hab : a + n ≤ b ∨ b + n ≤ a) (ha : a + n ≤ L) (hb : b + n ≤ L) (hl : L ≤ 1000) :
    Calls Tryz.prog 136 #[.slice (some ⟨rb, 0, none⟩) L cap, .int .i64 a, .int .i64 b, .int .i64 n, fv] w fun e w' => e = .returned (.tuple #[]) ∧ ∃ q', RowP w' rb q' tl ∧ Via q q' (swm a b n) ∧ q'.Perm q ∧ But (fun j => j = rb) w w' := by
  have HR := Lib.hid hrow; have HL := Lib.hid hL; have HAB := Lib.hid hab
  clear hrow hL hab
  go_enter Tryz.func136, Tryz.ntmps136
  go_wp2_with fail
  go_loopw [10] (fun i wr => ∃ (k : Nat) (r : List Nat), k ≤ n ∧ i = .int .i64 k ∧ Hid (RowP wr rb r tl) ∧ Hid (Via q r (swm a b k)) ∧ Hid (r.Perm q) ∧ Hid (But (fun j => j = rb) w wr)) (fun i _ => n - (intOf i).toNat)
  case atStart => exact ⟨0, q, by omega, rfl, HR, Lib.hid (fun k => by congr 1; unfold swm; rw [if_neg (by omega), if_neg (by omega)]), Lib.hid (List.Perm.refl _), Lib.hid (But.refl _ _)⟩
  case round =>
    obtain ⟨k, r, hk, rfl, R1, V1, P1, X1⟩ := hrel
    by_cases hlt : k < n
    · have hrl : r.length = L := P1.out.length_eq.trans HL.out
      obtain ⟨A1, hA1⟩ : ∃ A1, A1 = a + k := ⟨_, rfl⟩
      obtain ⟨B1, hB1⟩ : ∃ B1, B1 = b + k := ⟨_, rfl⟩
      have e1 : (a : Int) + (k : Int) = (A1 : Int) := by omega
      have e2 : (b : Int) + (k : Int) = (B1 : Int) := by omega
      have hAL : A1 < L := by omega
      have hBL : B1 < L := by omega
      have hne : A1 ≠ B1 := by have := HAB.out; omega
      have c1 := R1.out.cell (i := A1) (by omega); have c2 := R1.out.cell (i := B1) (by omega)
      obtain ⟨x1, hx1⟩ : ∃ x, r.getD A1 0 = x := ⟨_, rfl⟩
      obtain ⟨x2, hx2⟩ : ∃ x, r.getD B1 0 = x := ⟨_, rfl⟩
      rw [hx1] at c1; rw [hx2] at c2
      have W := Lib.hid (RowP.swap R1.out (i := A1) (j := B1) (by omega) (by omega))
      rw [hx1, hx2] at W
      have f1 := Blk.free R1.out A1; have f2 := Blk.free R1.out B1
      have RL := Lib.hid hrl; have HA1 := Lib.hid hA1; have HB1 := Lib.hid hB1
      have a0 : (0 : Int) ≤ (A1 : Int) := by omega
      have a1 : (A1 : Int) < (L : Int) := by omega
      have b0 : (0 : Int) ≤ (B1 : Int) := by omega
      have b1 : (B1 : Int) < (L : Int) := by omega
      have k1 : (k : Int) < (n : Int) := by omega
      clear hrl hA1 hB1 hx1 hx2
      go_wp2_with fail
      go_region
      go_wp2_with fail
      exact ⟨⟨k + 1, swapL r A1 B1, by omega, by go_num, Lib.hid (Blk.drew W.out), Lib.hid (by rw [HA1.out, HB1.out]; exact swm_step V1.out (by have := HAB.out; omega) (by have := HL.out; omega) (by have := HL.out; omega) P1.out.length_eq), Lib.hid ((swapL_perm (by have := RL.out; omega) (by have := RL.out; omega)).trans P1.out), Lib.hid (((X1.out.setCell (p := ⟨rb, A1, none⟩) (fun _ => rfl) _).setCell (p := ⟨rb, B1, none⟩) (fun _ => rfl) _).drew)⟩, by simp [intOf]; omega⟩
    · obtain rfl : k = n := by omega
      go_wp2_with fail
      go_end0
      exact ⟨rfl, r, R1.out, V1.out, P1.out, X1.out⟩
set_option maxRecDepth 100000 in
set_option maxHeartbeats 1600000 in
theorem rotateK_calls (q : List Nat) (a m b L cap rb : Nat) (tl : List Value) (fv : Value) (w : World) (hrow : RowP w rb q tl) (hL : q.length = L) (ham : a < m) (hmb : m < b) (hb : b ≤ L) (hl : L ≤ 1000) :
    Calls Tryz.prog 121 #[.slice (some ⟨rb, 0, none⟩) L cap, .int .i64 a, .int .i64 m, .int .i64 b, fv] w fun e w' => e = .returned (.tuple #[]) ∧ ∃ q', RowP w' rb q' tl ∧ Via q q' (rho a m b) ∧ q'.Perm q ∧ But (fun j => j = rb) w w' := by
  have HR := Lib.hid hrow; have HL := Lib.hid hL
  have e1 : (m : Int) - (a : Int) = ((m - a : Nat) : Int) := by omega
  have e2 : (b : Int) - (m : Int) = ((b - m : Nat) : Int) := by omega
  clear hrow hL
  obtain ⟨x0, hx0⟩ : ∃ x, x = m - a := ⟨_, rfl⟩
  obtain ⟨y0, hy0⟩ : ∃ y, y = b - m := ⟨_, rfl⟩
  rw [← hx0] at e1; rw [← hy0] at e2
  have HX0 := Lib.hid hx0; have HY0 := Lib.hid hy0
  clear hx0 hy0
  go_enter Tryz.func121, Tryz.ntmps121
  go_wp2_with fail
  go_loopw [10, 11] (fun i j wr => ∃ (x y : Nat) (r : List Nat), 0 < x ∧ 0 < y ∧ x ≤ x0 ∧ y ≤ y0 ∧ i = .int .i64 x ∧ j = .int .i64 y ∧ Hid (RowP wr rb r tl) ∧ Hid (∀ k, r.getD (rho (m - x) m (m + y) k) 0 = q.getD (rho a m b k) 0) ∧ Hid (r.Perm q) ∧ Hid (But (fun j => j = rb) w wr)) (fun i j _ => (intOf i).toNat + (intOf j).toNat)
  case atStart => exact ⟨x0, y0, q, by have := HX0.out; omega, by have := HY0.out; omega, Nat.le_refl _, Nat.le_refl _, rfl, rfl, HR, Lib.hid (fun k => by rw [HX0.out, HY0.out, show m - (m - a) = a from by omega, show m + (b - m) = b from by omega]), Lib.hid (List.Perm.refl _), Lib.hid (But.refl _ _)⟩
  case round =>
    obtain ⟨x, y, r, hx0, hy0, hx1, hy1, rfl, rfl, R1, V1, P1, X1⟩ := hrel
    have RL : Hid (r.length = L) := Lib.hid (P1.out.length_eq.trans HL.out)
    have hxm : x ≤ m := by have := HX0.out; omega
    have hyb : m + y ≤ L := by have := HY0.out; omega
    obtain ⟨M1, hM1⟩ : ∃ M1, M1 = m - x := ⟨_, rfl⟩
    have e3 : (m : Int) - (x : Int) = (M1 : Int) := by omega
    have HM1 := Lib.hid hM1
    clear hM1
    by_cases hne : x = y
    · have g1 : ((x : Int) != (y : Int)) = false := by simp; omega
      have g2 : ((x : Int) == (y : Int)) = true := by simp; omega
      have HNE := Lib.hid hne
      clear hne
      go_wp2_with fail
      refine (swapRange_calls r M1 m x L cap rb tl _ _ R1.out RL.out (by have := HM1.out; omega) (by have := HM1.out; omega) (by have := HNE.out; omega) hl).mono ?_
      rintro e w2 ⟨rfl, r2, R2, V2, P2, X2⟩
      have R2 := Lib.hid R2; have V2 := Lib.hid V2; have P2 := Lib.hid P2; have X2 := Lib.hid X2
      go_wp2_with fail
      go_end0
      exact ⟨rfl, r2, R2.out, fun k => by rw [V2.out k, HM1.out, rho_same x hxm, show m + x = m + y from by rw [HNE.out]]; exact V1.out k, P2.out.trans P1.out, X1.out.trans X2.out (fun _ _ e => e) (fun _ _ e => e)⟩
    · have g1 : ((x : Int) != (y : Int)) = true := by simp; omega
      have g2 : ((x : Int) == (y : Int)) = false := by simp; omega
      by_cases hgt : y < x
      · have g3 : decide ((y : Int) < (x : Int)) = true := by simp; omega
        obtain ⟨x2, hx2⟩ : ∃ x2, x2 = x - y := ⟨_, rfl⟩
        have e4 : (x : Int) - (y : Int) = (x2 : Int) := by omega
        have HX2 := Lib.hid hx2
        clear hx2
        go_wp2_with fail
        refine (swapRange_calls r M1 m y L cap rb tl _ _ R1.out RL.out (by have := HM1.out; omega) (by have := HM1.out; omega) (by omega) hl).mono ?_
        rintro e w2 ⟨rfl, r2, R2, V2, P2, X2⟩
        have R2 := Lib.hid R2; have V2 := Lib.hid V2; have P2 := Lib.hid P2; have X2 := Lib.hid X2
        go_wp2_with fail
        exact ⟨⟨x2, y, r2, by have := HX2.out; omega, hy0, by have := HX2.out; omega, hy1, rfl, rfl, R2, Lib.hid (fun k => by rw [V2.out, HM1.out, HX2.out, show m - (x - y) = m - x + y from by omega, rho_more x y hgt hy0 hxm]; exact V1.out k), Lib.hid (P2.out.trans P1.out), Lib.hid (X1.out.trans X2.out (fun _ _ e => e) (fun _ _ e => e))⟩, by have := HX2.out; simp [intOf]; omega⟩
      · have g3 : decide ((y : Int) < (x : Int)) = false := by simp; omega
        obtain ⟨y2, hy2⟩ : ∃ y2, y2 = y - x := ⟨_, rfl⟩
        have e4 : (y : Int) - (x : Int) = (y2 : Int) := by omega
        obtain ⟨S1, hS1⟩ : ∃ S1, S1 = m + y := ⟨_, rfl⟩
        have e5 : (m : Int) + (y : Int) = (S1 : Int) := by omega
        obtain ⟨S2, hS2⟩ : ∃ S2, S2 = m + y - x := ⟨_, rfl⟩
        have e6 : (S1 : Int) - (x : Int) = (S2 : Int) := by omega
        have HY2 := Lib.hid hy2; have HS2 := Lib.hid hS2
        have hS1L : (S1 : Int) ≤ 1000 := by omega
        clear hy2 hS1 hS2
        go_wp2_with fail
        refine (swapRange_calls r M1 S2 x L cap rb tl _ _ R1.out RL.out (by have := HM1.out; have := HS2.out; omega) (by have := HM1.out; omega) (by have := HS2.out; omega) hl).mono ?_
        rintro e w2 ⟨rfl, r2, R2, V2, P2, X2⟩
        have R2 := Lib.hid R2; have V2 := Lib.hid V2; have P2 := Lib.hid P2; have X2 := Lib.hid X2
        go_wp2_with fail
        exact ⟨⟨x, y2, r2, hx0, by have := HY2.out; omega, hx1, by have := HY2.out; omega, rfl, rfl, R2, Lib.hid (fun k => by rw [V2.out, HM1.out, HS2.out, HY2.out, rho_less x y (by omega) hx0 hxm]; exact V1.out k), Lib.hid (P2.out.trans P1.out), Lib.hid (X1.out.trans X2.out (fun _ _ e => e) (fun _ _ e => e))⟩, by have := HY2.out; simp [intOf]; omega⟩
def cmpI (i j : Int) : Int := if i < j then -1 else if j < i then 1 else 0
theorem cmpI_lt (i j : Int) : cmpI i j < 0 ↔ i < j := by
  unfold cmpI
  split
  · simp; omega
  · split <;> simp <;> omega
set_option maxRecDepth 100000 in
theorem isNaN_calls (i : Int) (w : World) : Calls Tryz.prog 51 #[.int .i64 i] w fun e w' => e = .returned (.bool false) ∧ Ext w w' := by
  have g1 : (i != i) = false := by simp
  go_enter Tryz.func51, Tryz.ntmps51
  go_wp2_with fail
  go_ret
  exact ⟨rfl, Below.refl _ _⟩
set_option maxRecDepth 100000 in
set_option maxHeartbeats 1600000 in
theorem cmpInt_calls (i j : Int) (w : World) : Calls Tryz.prog 28 #[.int .i64 i, .int .i64 j] w fun e w' => e = .returned (.int .i64 (cmpI i j)) ∧ Ext w w' := by
  go_enter Tryz.func28, Tryz.ntmps28
  go_wp2_with fail
  refine (isNaN_calls i _).mono ?_
  rintro e w1 ⟨rfl, hx1⟩
  have X1 := Lib.hid hx1
  clear hx1
  go_wp2_with fail
  refine (isNaN_calls j _).mono ?_
  rintro e w2 ⟨rfl, hx2⟩
  have X2 := Lib.hid (Ext.trans X1.out hx2)
  clear hx2
  by_cases h1 : i < j
  · have hc : cmpI i j = -1 := by unfold cmpI; rw [if_pos h1]
    have HC := Lib.hid hc
    have g1 : decide (i < j) = true := by simpa using h1
    clear hc h1
    go_wp2_with fail
    go_ret
    exact ⟨by rw [HC.out]; rfl, X2.out⟩
  · have g1 : decide (i < j) = false := by simpa using h1
    by_cases h2 : j < i
    · have hc : cmpI i j = 1 := by unfold cmpI; rw [if_neg h1, if_pos h2]
      have HC := Lib.hid hc
      have g2 : decide (j < i) = true := by simpa using h2
      clear hc h1 h2
      go_wp2_with fail
      go_ret
      exact ⟨by rw [HC.out]; rfl, X2.out⟩
    · have hc : cmpI i j = 0 := by unfold cmpI; rw [if_neg h1, if_neg h2]
      have HC := Lib.hid hc
      have g2 : decide (j < i) = false := by simpa using h2
      clear hc h1 h2
      go_wp2_with fail
      go_ret
      exact ⟨by rw [HC.out]; rfl, X2.out⟩
set_option maxRecDepth 100000 in
set_option maxHeartbeats 1600000 in
theorem cmpK_calls (p q : Nat) (i j : Int) (w : World) (hp : w.cell? ⟨p, 2, none⟩ = some (.int .i64 i)) (hq : w.cell? ⟨q, 2, none⟩ = some (.int .i64 j)) :
    Calls Tryz.prog 27 #[.pointer (some ⟨p, 0, none⟩), .pointer (some ⟨q, 0, none⟩)] w fun e w' => e = .returned (.int .i64 (cmpI i j)) ∧ Ext w w' := by
  go_enter Tryz.func27, Tryz.ntmps27
  go_wp2_with fail
  have c1 := ExtBy.cell hp; have c2 := ExtBy.cell hq
  have CC := Lib.hid (fun p : ExtBy w => cmpInt_calls i j p.W)
  clear hp hq
  refine wp_region_ext (by kernel_rfl) (by kernel_rfl) ?_
  repeat (go_big_quiet_step ((with_reducible exact Calls.ext_of _ (CC.out _))))
  refine wpQuiet_nil ?_
  intro wc hw'
  have XC : Hid (Ext w wc) := Lib.hid (by obtain ⟨p, rfl⟩ := hw'; exact p.ext)
  clear hw' c1 c2 CC
  go_wp2_with fail
  go_ret
  exact ⟨rfl, XC.out⟩
def KeysAt (w : World) (rb : Nat) (f : Nat → Int) (q : List Nat) : Prop := ∀ p ∈ q, p ≠ rb ∧ p < w.heap.size ∧ w.cell? ⟨p, 2, none⟩ = some (.int .i64 (f p))
theorem KeysAt.but {w w' : World} {rb : Nat} {f : Nat → Int} {q : List Nat} (h : KeysAt w rb f q) (hx : But (fun j => j = rb) w w') : KeysAt w' rb f q := fun p hp => by
  obtain ⟨h1, h2, h3⟩ := h p hp
  exact ⟨h1, Nat.lt_of_lt_of_le h2 hx.size, (hx.cell (p := ⟨p, 2, none⟩) h2 h1).trans h3⟩
theorem KeysAt.perm {w : World} {rb : Nat} {f : Nat → Int} {q r : List Nat} (h : KeysAt w rb f q) (hp : r.Perm q) : KeysAt w rb f r := fun p hr => h p (hp.mem_iff.1 hr)
theorem KeysAt.cell {w : World} {rb : Nat} {f : Nat → Int} {q : List Nat} (h : KeysAt w rb f q) {i : Nat} (hi : i < q.length) : w.cell? ⟨q.getD i 0, 2, none⟩ = some (.int .i64 (keyAt f q i)) := by
  refine (h (q.getD i 0) ?_).2.2
  rw [List.getD_eq_getElem?_getD, List.getElem?_eq_getElem hi]
  exact List.getElem_mem hi
theorem wrapK {n : Int} (h0 : 0 ≤ n) (h1 : n < 2 ^ 63) : IntKind.i64.wrap n = n := by
  have e : n % 2 ^ 64 = n := Int.emod_eq_of_lt h0 (by omega)
  simp only [IntKind.wrap, IntKind.bits, IntKind.signed, Bool.true_and, e]
  rw [if_neg (by simp; omega)]
def SortPost (f : Nat → Int) (q : List Nat) (a b rb : Nat) (tl : List Value) (w : World) (e : Ending) (w' : World) : Prop :=
  e = .returned (.tuple #[]) ∧ ∃ q', RowP w' rb q' tl ∧ Moved q q' a b ∧ SortedOn f q' a b ∧ But (fun j => j = rb) w w'
set_option maxRecDepth 100000 in
set_option maxHeartbeats 3200000 in
theorem insertionK_calls (f : Nat → Int) (q : List Nat) (a b L cap rb : Nat) (tl : List Value) (w : World) (hrow : RowP w rb q tl) (hL : q.length = L) (hkeys : KeysAt w rb f q) (hab : a ≤ b) (hb : b ≤ L) (hl : L ≤ 1000) :
    Calls Tryz.prog 84 #[.slice (some ⟨rb, 0, none⟩) L cap, .int .i64 a, .int .i64 b, .func (.func 27) #[] #[]] w (SortPost f q a b rb tl w) := by
  have HR := Lib.hid hrow; have HL := Lib.hid hL; have HK := Lib.hid hkeys
  clear hrow hL hkeys
  have eg : ∀ args w, (callFunc 27 args).run Tryz.prog w = .ok (.enter 27 args) w := enters_of Tryz.func27 (by kernel_rfl) rfl
  go_enter Tryz.func84, Tryz.ntmps84
  go_wp2_with fail
  go_loopw [8] (fun i wr => ∃ (x : Nat) (r : List Nat), a + 1 ≤ x ∧ (x ≤ b ∨ x = a + 1) ∧ i = .int .i64 x ∧ Hid (RowP wr rb r tl) ∧ Hid (Moved q r a b) ∧ Hid (SortedOn f r a x) ∧ Hid (But (fun j => j = rb) w wr)) (fun i _ => b + 1 - (intOf i).toNat)
  case atStart => exact ⟨a + 1, q, Nat.le_refl _, .inr rfl, by go_num, HR, Lib.hid (Moved.refl _ _ _), Lib.hid (SortedOn.one _ _ (Nat.le_refl _)), Lib.hid (But.refl _ _)⟩
  case round =>
    obtain ⟨x, r, hax, hxb, rfl, R1, M1, S1, X1⟩ := hrel
    by_cases hlt : x < b
    · have g1 : decide ((x : Int) < (b : Int)) = true := by simp; omega
      have hxL : x < L := by omega
      have g1n : decide (x < b) = true := by simpa using hlt
      have HXB := Lib.hid hlt
      clear hlt hxb
      go_wp2_with fail
      go_loopw [9] (fun j wr => ∃ (y : Nat) (r : List Nat), a ≤ y ∧ y ≤ x ∧ j = .int .i64 y ∧ Hid (RowP wr rb r tl) ∧ Hid (Moved q r a b) ∧ Hid (InsMid f r a x y) ∧ Hid (But (fun j => j = rb) w wr)) (fun j _ => (intOf j).toNat)
      case atStart => exact ⟨x, r, by omega, Nat.le_refl _, rfl, R1, M1, Lib.hid (ins_start S1.out), X1⟩
      case round =>
        clear R1 M1 S1 X1
        obtain ⟨y, r, hay, hyx, rfl, R1, M1, S1, X1⟩ := hrel
        have RL : Hid (r.length = L) := Lib.hid (M1.out.perm.length_eq.trans HL.out)
        by_cases hgt : a < y
        · have g2 : decide ((a : Int) < (y : Int)) = true := by simp; omega
          have g2n : decide (a < y) = true := by simpa using hgt
          obtain ⟨z, hz⟩ : ∃ z, z = y - 1 := ⟨_, rfl⟩
          have e1 : (y : Int) - 1 = (z : Int) := by omega
          have e2 : IntKind.i64.wrap ((y : Int) - 1) = (z : Int) := by rw [e1]; exact wrapK (by omega) (by omega)
          have K1 := (HK.out.but X1.out).perm M1.out.perm
          have k1 := K1.cell (i := y) (by have := RL.out; omega); have k2 := K1.cell (i := z) (by have := RL.out; omega)
          have c1 := R1.out.cell (i := y) (by have := RL.out; omega); have c2 := R1.out.cell (i := z) (by have := RL.out; omega)
          obtain ⟨p1, hp1⟩ : ∃ p, r.getD y 0 = p := ⟨_, rfl⟩
          obtain ⟨p2, hp2⟩ : ∃ p, r.getD z 0 = p := ⟨_, rfl⟩
          rw [hp1] at k1 c1; rw [hp2] at k2 c2
          have W := Lib.hid (fun W (hW : RowP W rb r tl) => RowP.swap hW (i := y) (j := z) (by have := RL.out; omega) (by have := RL.out; omega))
          rw [hp1, hp2] at W
          obtain ⟨cc, hcc⟩ : ∃ cc, cmpI (keyAt f r y) (keyAt f r z) = cc := ⟨_, rfl⟩
          have CK := Lib.hid (fun p : ExtBy wr => cmpK_calls p1 p2 (keyAt f r y) (keyAt f r z) p.W (ExtBy.cell k1 p) (ExtBy.cell k2 p))
          rw [hcc] at CK
          have HCC : Hid (cc < 0 ↔ keyAt f r y < keyAt f r z) := Lib.hid (by rw [← hcc]; exact cmpI_lt _ _)
          replace c1 := ExtBy.cell c1; replace c2 := ExtBy.cell c2
          have y0 : (0 : Int) ≤ (y : Int) := by omega
          have y1 : (y : Int) < (L : Int) := by omega
          have z0 : (0 : Int) ≤ (z : Int) := by omega
          have z1 : (z : Int) < (L : Int) := by omega
          have HZ := Lib.hid hz
          clear K1 k1 k2 hp1 hp2 hcc hz
          go_wp2_with fail
          refine wp_region_ext (by kernel_rfl) (by kernel_rfl) ?_
          repeat (go_big_quiet_step ((with_reducible exact Calls.ext_of _ (CK.out _))))
          refine wpQuiet_nil ?_
          intro wc hw'
          have XC : Hid (Ext wr wc) := Lib.hid (by obtain ⟨p, rfl⟩ := hw'; exact p.ext)
          replace c1 := c1 ⟨wc, XC.out⟩; replace c2 := c2 ⟨wc, XC.out⟩
          simp only at c1 c2
          have R2 : Hid (RowP wc rb r tl) := Lib.hid (Blk.ext' R1.out XC.out)
          have X2 : Hid (But (fun j => j = rb) w wc) := Lib.hid (X1.out.trans (Ext.but XC.out (fun j => j = rb)) (fun _ _ e => e) (fun _ _ e => e))
          clear hw' CK
          by_cases hc : cc < 0
          · have g3 : decide (cc < 0) = true := by simpa using hc
            have HLT := Lib.hid (HCC.out.1 hc)
            have f1 := Blk.free R2.out y; have f2 := Blk.free R2.out z
            have hne : y ≠ z := by have := HZ.out; omega
            have W2 := Lib.hid (W.out wc R2.out)
            have M2 : Hid (Moved q (swapL r y z) a b) := Lib.hid (M1.out.trans (swap_moved (by have := HXB.out; omega) (by have := HZ.out; have := HXB.out; omega) (by have := RL.out; omega)))
            have S2 : Hid (InsMid f (swapL r y z) a x z) := Lib.hid (by
              have h1 := HLT.out
              have h2 := HZ.out
              subst h2
              exact ins_step S1.out hgt hyx (by have := RL.out; omega) h1)
            clear W HCC e2
            go_wp2_with fail
            go_region
            go_wp2_with fail
            exact ⟨⟨z, swapL r y z, by have := HZ.out; omega, by have := HZ.out; omega, rfl, Lib.hid (Blk.drew W2.out), M2, S2, Lib.hid (((X2.out.setCell (p := ⟨rb, y, none⟩) (fun _ => rfl) _).setCell (p := ⟨rb, z, none⟩) (fun _ => rfl) _).drew)⟩, by have := HZ.out; simp [intOf]; omega⟩
          · have g3 : decide (cc < 0) = false := by simpa using hc
            have HLT := Lib.hid (fun h => hc (HCC.out.2 h))
            go_wp2_with fail
            exact ⟨⟨x + 1, r, by omega, .inl (by have := HXB.out; omega), by go_num, R2, M1, Lib.hid (ins_end S1.out hay hyx (.inr (by have := HLT.out; rwa [HZ.out] at this))), X2⟩, by have := HXB.out; simp [intOf]; omega⟩
        · have g2 : decide ((a : Int) < (y : Int)) = false := by simp; omega
          have g2n : decide (a < y) = false := by simpa using hgt
          have hya : y = a := by omega
          have HYA := Lib.hid hya
          clear hgt hya
          go_wp2_with fail
          refine wp_region_ext (by kernel_rfl) (by kernel_rfl) ?_
          repeat (go_big_quiet_step (fail))
          refine wpQuiet_nil ?_
          intro wc hw'
          have XC : Hid (Ext wr wc) := Lib.hid (by obtain ⟨p, rfl⟩ := hw'; exact p.ext)
          have R2 : Hid (RowP wc rb r tl) := Lib.hid (Blk.ext' R1.out XC.out)
          have X2 : Hid (But (fun j => j = rb) w wc) := Lib.hid (X1.out.trans (Ext.but XC.out (fun j => j = rb)) (fun _ _ e => e) (fun _ _ e => e))
          clear hw'
          go_wp2_with fail
          exact ⟨⟨x + 1, r, by omega, .inl (by have := HXB.out; omega), by go_num, R2, M1, Lib.hid (ins_end S1.out hay hyx (.inl HYA.out)), X2⟩, by have := HXB.out; simp [intOf]; omega⟩
    · have g1 : decide ((x : Int) < (b : Int)) = false := by simp; omega
      have g1n : decide (x < b) = false := by simpa using hlt
      go_wp2_with fail
      go_end0
      exact ⟨rfl, r, R1.out, M1.out, S1.out.mono (Nat.le_refl _) (by omega), X1.out⟩
end Go.Proofs.YtbnclifpdmpjnaaGreatDoor
