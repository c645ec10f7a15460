/- The place of a key in a rising row of holds: slices.BinarySearchFunc with the package's comparison. -/
import Derived.Test.YtdmejbjpbjcfbaaGreatDoorCmpS
import Derived.Test.YtdmejbjpbjcfbaaGreatDoorHoldDefs
import Derived.Test.YtdmejbjpbjcfbaaGreatDoorExtRegion
namespace Go.Proofs.YtdmejbjpbjcfbaaGreatDoor
open Go.RowKit

def vkey (v : HoldV) : List UInt8 := v.key.data.toList
theorem atCmp_calls (h : HoldV) (k : ByteArray) (w : World) : Calls Tryz.prog 105 #[.agg (encHV h).toArray, .string k] w fun e w' => e = .returned (.int .i64 (cmpT (vkey h) k.data.toList)) ∧ Ext w w' := by
  obtain ⟨key, cl, nm, ao, an, ac, ro, rn, rc, put, value⟩ := h
  unfold encHV vkey
  have HX := Lib.hid (show Ext w (w.alloc (.cells #[.string key, .int .i64 cl, .int .i64 nm, .slice ao an ac, .slice ro rn rc, .bool put, .string value] 35)) from (Below.refl _ w).alloc (Nat.le_refl _) _)
  go_enter Tryz.func105, Tryz.ntmps105
  go_wp2_with (go_at_call 106; refine (compareS_calls _ _ _).mono ?_; rintro e w' ⟨rfl, rfl⟩)
  go_ret
  exact ⟨rfl, HX.out⟩

/-- How many holds stand ahead of a key, and whether it is there. -/
def placeH (k : List UInt8) (l : List HoldV) : Nat := (l.takeWhile fun v => decide (vkey v < k)).length
def thereH (k : List UInt8) (l : List HoldV) : Bool := match l[placeH k l]? with | some v => decide (vkey v = k) | none => false
def RiseV (l : List HoldV) : Prop := l.Pairwise fun a b => vkey a < vkey b

theorem takeWhile_len' {α : Type} (p : α → Bool) : ∀ (q : List α) (j : Nat), j ≤ q.length → (∀ (i : Nat) (x : α), i < j → q[i]? = some x → p x = true) → (∀ x, q[j]? = some x → p x = false) → (q.takeWhile p).length = j
  | [], j, hj, _, _ => by simp at hj; simp [hj]
  | a :: q, 0, _, _, h => by
    have := h a rfl
    simp [this]
  | a :: q, j + 1, hj, h1, h2 => by
    have ha := h1 0 a (by omega) rfl
    rw [List.takeWhile_cons, if_pos ha, List.length_cons, takeWhile_len' p q j (by simpa using hj) (fun i x hi hx => h1 (i + 1) x (by omega) (by simpa using hx)) (fun x hx => h2 x (by simpa using hx))]
theorem placeH_at {k : List UInt8} {l : List HoldV} (j : Nat) (hj : j ≤ l.length) (h1 : ∀ (i : Nat) (x : HoldV), i < j → l[i]? = some x → vkey x < k) (h2 : ∀ (i : Nat) (x : HoldV), j ≤ i → l[i]? = some x → ¬ vkey x < k) : placeH k l = j :=
  takeWhile_len' _ l j hj (fun i x hi hx => by simpa using h1 i x hi hx) (fun x hx => by simpa using h2 j x (Nat.le_refl _) hx)

theorem rise_lt {l : List HoldV} (h : RiseV l) {i j : Nat} {x y : HoldV} (hij : i < j) (hx : l[i]? = some x) (hy : l[j]? = some y) : vkey x < vkey y := by
  obtain ⟨h1, e1⟩ := List.getElem?_eq_some_iff.1 hx
  obtain ⟨h2, e2⟩ := List.getElem?_eq_some_iff.1 hy
  have := List.pairwise_iff_getElem.1 h i j h1 h2 hij
  rwa [e1, e2] at this

set_option maxRecDepth 100000 in
set_option maxHeartbeats 800000 in
theorem search_calls (l : List HoldV) (ao : Option Addr) (cap : Nat) (k : ByteArray) (w : World) (hl : l.length ≤ 1000000) (hr : Rows 7 encHV w.heap.size w ao l) (hrise : RiseV l) :
    Calls Tryz.prog 104 #[.slice ao l.length cap, .string k, .func (.func 105) #[] #[]] w fun e w' => e = .returned (.tuple #[.int .i64 (placeH k.data.toList l), .bool (thereH k.data.toList l)]) ∧ Ext w w' := by
  have HR := Lib.hid hr; have RI := Lib.hid hrise
  clear hr hrise
  go_enter Tryz.func104, Tryz.ntmps104
  go_wp2_with fail
  go_loopw [9, 10] (fun vi vj wr => ∃ (i j : Nat), i ≤ j ∧ j ≤ l.length ∧ vi = .int .i64 i ∧ vj = .int .i64 j ∧ (∀ (t : Nat) (x : HoldV), t < i → l[t]? = some x → vkey x < k.data.toList) ∧ (∀ (t : Nat) (x : HoldV), j ≤ t → l[t]? = some x → ¬ vkey x < k.data.toList) ∧ Ext w wr) (fun vi vj _ => (intOf vj).toNat - (intOf vi).toNat)
  case atStart => exact ⟨0, l.length, by omega, by omega, rfl, rfl, (fun t x ht => by omega), (fun t x ht hx => by rw [List.getElem?_eq_none (by omega)] at hx; cases hx), Below.refl _ _⟩
  case round =>
    obtain ⟨i, j, hij, hj, rfl, rfl, hlo, hhi, hx⟩ := hrel
    have LO := Lib.hid hlo; have HI := Lib.hid hhi; have K1 := Lib.hid hx
    clear hlo hhi hx
    by_cases hlt : i < j
    · obtain ⟨m, hm⟩ : ∃ m : Nat, ((i : Int) + (j : Int)) / 2 = (m : Int) := ⟨(i + j) / 2, by omega⟩
      have hmi : i ≤ m := by omega
      have hmj : m < j := by omega
      obtain ⟨x, hx⟩ : ∃ x, l[m]? = some x := ⟨_, List.getElem?_eq_getElem (by omega)⟩
      obtain ⟨b, off, rfl, hb, hcell⟩ := HR.out (by intro e; rw [e] at hj; simp at hj; omega)
      have hcx := hcell m x hx
      have hmove : ∀ j, wr.cell? ⟨b, j, none⟩ = w.cell? ⟨b, j, none⟩ := fun j => K1.out.cell (p := ⟨b, j, none⟩) hb
      have HX := Lib.hid hx
      have hcc := fun W => atCmp_calls x k W
      obtain ⟨key, cl, nm, xo, xn, xc, yo, yn, yc, put, value⟩ := x
      have d0 := (hmove _).trans (hcx 0 _ rfl); have d1 := (hmove _).trans (hcx 1 _ rfl); have d2 := (hmove _).trans (hcx 2 _ rfl); have d3 := (hmove _).trans (hcx 3 _ rfl); have d4 := (hmove _).trans (hcx 4 _ rfl); have d5 := (hmove _).trans (hcx 5 _ rfl); have d6 := (hmove _).trans (hcx 6 _ rfl)
      simp only [Nat.add_zero] at d0
      have CC := Lib.hid hcc
      have i0 : (0 : Int) ≤ (m : Int) := by omega
      have i1 : (m : Int) < (l.length : Int) := by omega
      clear hcell hcx hmove hx hcc
      go_wp2_with fail
      refine (CC.out _).mono ?_
      rintro e w2 ⟨rfl, hx2⟩
      have K2 := Lib.hid (Ext.trans K1.out hx2)
      clear hx2 d0 d1 d2 d3 d4 d5 d6
      by_cases hck : key.data.toList < k.data.toList
      · have hc1 : decide (cmpT (vkey ⟨key, cl, nm, xo, xn, xc, yo, yn, yc, put, value⟩) k.data.toList < 0) = true := decide_eq_true ((cmpT_neg _ _).2 hck)
        have HK := Lib.hid hck; clear hck
        go_wp2_with fail
        go_roundw
        case rel =>
          refine ⟨m + 1, j, by omega, hj, by go_num, rfl, (fun t x ht hx => ?_), HI.out, K2.out⟩
          rcases Nat.lt_or_ge t m with h | h
          · exact List.lt_trans (rise_lt RI.out h hx HX.out) HK.out
          · obtain rfl : t = m := by omega
            rw [HX.out] at hx
            rw [← Option.some.inj hx]; exact HK.out
        case measure => simp [intOf]; omega
      · have hc1 : decide (cmpT (vkey ⟨key, cl, nm, xo, xn, xc, yo, yn, yc, put, value⟩) k.data.toList < 0) = false := decide_eq_false (fun e => hck ((cmpT_neg _ _).1 e))
        have HK := Lib.hid hck; clear hck
        go_wp2_with fail
        go_roundw
        case rel =>
          refine ⟨i, m, by omega, by omega, rfl, by go_num, LO.out, (fun t x ht hx => ?_), K2.out⟩
          rcases Nat.lt_or_ge m t with h | h
          · exact fun e => HK.out (List.lt_trans (rise_lt RI.out h HX.out hx) e)
          · obtain rfl : t = m := by omega
            rw [HX.out] at hx
            rw [← Option.some.inj hx]; exact HK.out
        case measure => simp [intOf]; omega
    · obtain rfl : i = j := by omega
      have hpl : placeH k.data.toList l = i := placeH_at i hj LO.out HI.out
      have HP := Lib.hid hpl; clear hpl
      by_cases hil : i < l.length
      · obtain ⟨x, hx⟩ : ∃ x, l[i]? = some x := ⟨_, List.getElem?_eq_getElem hil⟩
        obtain ⟨b, off, rfl, hb, hcell⟩ := HR.out (by intro e; rw [e] at hil; simp at hil)
        have hcx := hcell i x hx
        have hmove : ∀ j, wr.cell? ⟨b, j, none⟩ = w.cell? ⟨b, j, none⟩ := fun j => K1.out.cell (p := ⟨b, j, none⟩) hb
        have hth : thereH k.data.toList l = decide (vkey x = k.data.toList) := by unfold thereH; rw [HP.out, hx]
        have hcc := fun W => atCmp_calls x k W
        have hcb : ((cmpT (vkey x) k.data.toList) == 0) = decide (vkey x = k.data.toList) := by
          rw [Bool.eq_iff_iff, beq_iff_eq, decide_eq_true_eq]; exact cmpT_zero _ _
        generalize vkey x = vk at hth hcc hcb
        obtain ⟨key, cl, nm, xo, xn, xc, yo, yn, yc, put, value⟩ := x
        have d0 := (hmove _).trans (hcx 0 _ rfl); have d1 := (hmove _).trans (hcx 1 _ rfl); have d2 := (hmove _).trans (hcx 2 _ rfl); have d3 := (hmove _).trans (hcx 3 _ rfl); have d4 := (hmove _).trans (hcx 4 _ rfl); have d5 := (hmove _).trans (hcx 5 _ rfl); have d6 := (hmove _).trans (hcx 6 _ rfl)
        simp only [Nat.add_zero] at d0
        have CC := Lib.hid hcc; have HT := Lib.hid hth
        have i0 : (0 : Int) ≤ (i : Int) := by omega
        have i1 : (i : Int) < (l.length : Int) := by omega
        have g1 : decide ((i : Int) < (l.length : Int)) = true := decide_eq_true i1
        clear hcell hcx hmove hx hcc hth
        generalize decide (vk = k.data.toList) = db at *
        go_wp2_with fail
        refine (CC.out _).mono ?_
        rintro e w2 ⟨rfl, hx2⟩
        have K2 := Lib.hid (Ext.trans K1.out hx2)
        clear hx2 d0 d1 d2 d3 d4 d5 d6
        go_wp2_with fail
        go_ret2
        exact ⟨by rw [HP.out, HT.out]; rfl, K2.out⟩
      · have hth : thereH k.data.toList l = false := by unfold thereH; rw [HP.out, List.getElem?_eq_none (by omega)]
        have HT := Lib.hid hth; clear hth
        have g1 : decide ((i : Int) < (l.length : Int)) = false := decide_eq_false (by omega)
        go_wp2_with fail
        go_ret2
        exact ⟨by rw [HP.out, HT.out]; rfl, K1.out⟩

set_option maxRecDepth 100000 in
/-- row.at: the place of a key in the table's row. -/
theorem at_calls (l : List HoldV) (ao : Option Addr) (cap : Nat) (hb : Nat) (k : ByteArray) (w : World) (hl : l.length ≤ 1000000) (hr : Rows 7 encHV w.heap.size w ao l) (hrise : RiseV l) (hc : w.cell? ⟨hb, 0, none⟩ = some (.slice ao l.length cap)) :
    Calls Tryz.prog 51 #[.pointer (some ⟨hb, 0, none⟩), .string k] w fun e w' => e = .returned (.tuple #[.int .i64 (placeH k.data.toList l), .bool (thereH k.data.toList l)]) ∧ Ext w w' := by
  have HS := Lib.hid (fun W (hW : Ext w W) => search_calls l ao cap k W hl ((hr.ext hW).mono hW.size) hrise)
  clear hr hrise
  go_enter Tryz.func51, Tryz.ntmps51
  go_wp2_with fail
  refine (HS.out _ (Below.refl _ _)).mono ?_
  rintro e w2 ⟨rfl, hx⟩
  have X2 := Lib.hid hx; clear hx
  go_wp2_with fail
  go_ret2
  exact ⟨rfl, X2.out⟩
end Go.Proofs.YtdmejbjpbjcfbaaGreatDoor
