/- The place of a key in a rising row of rows: slices.BinarySearchFunc with the package's comparison; get. -/
import Derived.Test.YtngahblgicjoiaaGreatDoorSpanH
import Derived.Test.YtngahblgicjoiaaGreatDoorRowsLaw
import Derived.Lib.Bytealg
namespace Go.Proofs.YtngahblgicjoiaaGreatDoor
open Go.RowKit

theorem compareB_eq : ∀ a b : List UInt8, Lib.compareBytes a b = cmpT a b
  | [], [] => by simp [Lib.compareBytes, cmpT]
  | [], _ :: _ => by simp [Lib.compareBytes, cmpT]
  | _ :: _, [] => by simp [Lib.compareBytes, cmpT]
  | x :: a, y :: b => by
    have ih := compareB_eq a b
    unfold cmpT at ih ⊢
    rw [Lib.compareBytes, ih]
    simp only [List.cons_lt_cons_iff]
    rcases Nat.lt_trichotomy x.toNat y.toNat with h | h | h
    · have h1 : x < y := h
      simp [h1]
    · have h1 : x = y := UInt8.toNat_inj.1 h
      subst h1
      have h2 : ¬ x < x := Nat.lt_irrefl x.toNat
      simp [h2]
    · have h1 : y < x := h
      have h2 : ¬ x < y := fun e => absurd (show x.toNat < y.toNat from e) (by omega)
      have h3 : x ≠ y := fun e => by subst e; exact h2 h1
      simp [h1, h2, h3]
set_option maxRecDepth 100000 in
theorem bytealgCmp_calls (a b : ByteArray) (w : World) : Calls Tryz.prog 216 #[.string a, .string b] w fun e w' => e = .returned (.int .i64 (cmpT a.data.toList b.data.toList)) ∧ w = w' := by
  rw [← compareB_eq]
  go_enter Tryz.func216, Tryz.ntmps216
  go_wp2
  rw [run_callFunc_extern Tryz.func232 (by kernel_rfl) (by kernel_rfl) (by kernel_rfl) (e := Extern.BytealgCompare.compare) (by kernel_rfl), Lib.run_compareString]
  simp only [Result.andThen]
  rw [Oper.upon_value]
  go_wp2
  go_ret
  exact ⟨rfl, rfl⟩
theorem strCompare_calls (a b : ByteArray) (w : World) : Calls Tryz.prog 186 #[.string a, .string b] w fun e w' => e = .returned (.int .i64 (cmpT a.data.toList b.data.toList)) ∧ w = w' := by
  go_enter Tryz.func186, Tryz.ntmps186
  go_wp2_with (go_at_call 216; refine (bytealgCmp_calls _ _ _).mono ?_; rintro e w' ⟨rfl, rfl⟩)
  go_ret
  exact ⟨rfl, rfl⟩
theorem findCmp_calls (h : RowD) (k : ByteArray) (w : World) : Calls Tryz.prog 185 #[.agg (encRw h).toArray, .string k] w fun e w' => e = .returned (.int .i64 (cmpT (rkey h) k.data.toList)) ∧ Ext w w' := by
  obtain ⟨key, value⟩ := h
  unfold encRw rkey
  have HX := Lib.hid (show Ext w (w.alloc (.cells #[.string key, .string value] 73)) from (Below.refl _ w).alloc (Nat.le_refl _) _)
  go_enter Tryz.func185, Tryz.ntmps185
  go_wp2_with (go_at_call 186; refine (strCompare_calls _ _ _).mono ?_; rintro e w' ⟨rfl, rfl⟩)
  go_ret
  exact ⟨rfl, HX.out⟩
theorem takeWhile_lenR {α : Type} (p : α → Bool) : ∀ (q : List α) (j : Nat), j ≤ q.length → (∀ (i : Nat) (x : α), i < j → q[i]? = some x → p x = true) → (∀ x, q[j]? = some x → p x = false) → (q.takeWhile p).length = j
  | [], j, hj, _, _ => by simp at hj; simp [hj]
  | a :: q, 0, _, _, h => by
    have := h a rfl
    simp [this]
  | a :: q, j + 1, hj, h1, h2 => by
    have ha := h1 0 a (by omega) rfl
    rw [List.takeWhile_cons, if_pos ha, List.length_cons, takeWhile_lenR p q j (by simpa using hj) (fun i x hi hx => h1 (i + 1) x (by omega) (by simpa using hx)) (fun x hx => h2 x (by simpa using hx))]
theorem placeR_at {k : List UInt8} {l : List RowD} (j : Nat) (hj : j ≤ l.length) (h1 : ∀ (i : Nat) (x : RowD), i < j → l[i]? = some x → rkey x < k) (h2 : ∀ (i : Nat) (x : RowD), j ≤ i → l[i]? = some x → ¬ rkey x < k) : placeR k l = j :=
  takeWhile_lenR _ l j hj (fun i x hi hx => by simpa using h1 i x hi hx) (fun x hx => by simpa using h2 j x (Nat.le_refl _) hx)

theorem riseR_lt {l : List RowD} (h : RiseR l) {i j : Nat} {x y : RowD} (hij : i < j) (hx : l[i]? = some x) (hy : l[j]? = some y) : rkey x < rkey y := by
  obtain ⟨h1, e1⟩ := List.getElem?_eq_some_iff.1 hx
  obtain ⟨h2, e2⟩ := List.getElem?_eq_some_iff.1 hy
  have := List.pairwise_iff_getElem.1 h i j h1 h2 hij
  rwa [e1, e2] at this

set_option maxRecDepth 100000 in
set_option maxHeartbeats 800000 in
theorem searchR_calls (l : List RowD) (ao : Option Addr) (cap : Nat) (k : ByteArray) (w : World) (hl : l.length ≤ 1000000) (hr : Rows 2 encRw w.heap.size w ao l) (hrise : RiseR l) :
    Calls Tryz.prog 184 #[.slice ao l.length cap, .string k, .func (.func 185) #[] #[]] w fun e w' => e = .returned (.tuple #[.int .i64 (placeR k.data.toList l), .bool (thereR k.data.toList l)]) ∧ Ext w w' := by
  have HR := Lib.hid hr; have RI := Lib.hid hrise
  clear hr hrise
  go_enter Tryz.func184, Tryz.ntmps184
  go_wp2_with fail
  go_loopw [9, 10] (fun vi vj wr => ∃ (i j : Nat), i ≤ j ∧ j ≤ l.length ∧ vi = .int .i64 i ∧ vj = .int .i64 j ∧ (∀ (t : Nat) (x : RowD), t < i → l[t]? = some x → rkey x < k.data.toList) ∧ (∀ (t : Nat) (x : RowD), j ≤ t → l[t]? = some x → ¬ rkey x < k.data.toList) ∧ Ext w wr) (fun vi vj _ => (intOf vj).toNat - (intOf vi).toNat)
  case atStart => exact ⟨0, l.length, by omega, by omega, rfl, rfl, (fun t x ht => by omega), (fun t x ht hx => by rw [List.getElem?_eq_none (by omega)] at hx; cases hx), Below.refl _ _⟩
  case round =>
    obtain ⟨i, j, hij, hj, rfl, rfl, hlo, hhi, hx⟩ := hrel
    have LO := Lib.hid hlo; have HI := Lib.hid hhi; have K1 := Lib.hid hx
    clear hlo hhi hx
    by_cases hlt : i < j
    · obtain ⟨m, hm⟩ : ∃ m : Nat, ((i : Int) + (j : Int)) / 2 = (m : Int) := ⟨(i + j) / 2, by omega⟩
      have hmi : i ≤ m := by omega
      have hmj : m < j := by omega
      obtain ⟨x, hx⟩ : ∃ x, l[m]? = some x := ⟨_, List.getElem?_eq_getElem (by omega)⟩
      obtain ⟨b, off, rfl, hb, hcell⟩ := HR.out (by intro e; rw [e] at hj; simp at hj; omega)
      have hcx := hcell m x hx
      have hmove : ∀ j, wr.cell? ⟨b, j, none⟩ = w.cell? ⟨b, j, none⟩ := fun j => K1.out.cell (p := ⟨b, j, none⟩) hb
      have HX := Lib.hid hx
      have hcc := fun W => findCmp_calls x k W
      obtain ⟨key, value⟩ := x
      have d0 := (hmove _).trans (hcx 0 _ rfl); have d1 := (hmove _).trans (hcx 1 _ rfl)
      simp only [Nat.add_zero] at d0
      have CC := Lib.hid hcc
      have i0 : (0 : Int) ≤ (m : Int) := by omega
      have i1 : (m : Int) < (l.length : Int) := by omega
      clear hcell hcx hmove hx hcc
      go_wp2_with fail
      refine (CC.out _).mono ?_
      rintro e w2 ⟨rfl, hx2⟩
      have K2 := Lib.hid (Ext.trans K1.out hx2)
      clear hx2 d0 d1
      by_cases hck : key.data.toList < k.data.toList
      · have hc1 : decide (cmpT (rkey ⟨key, value⟩) k.data.toList < 0) = true := decide_eq_true ((cmpT_neg _ _).2 hck)
        have HK := Lib.hid hck; clear hck
        go_wp2_with fail
        go_roundw
        case rel =>
          refine ⟨m + 1, j, by omega, hj, by go_num, rfl, (fun t x ht hx => ?_), HI.out, K2.out⟩
          rcases Nat.lt_or_ge t m with h | h
          · exact List.lt_trans (riseR_lt RI.out h hx HX.out) HK.out
          · obtain rfl : t = m := by omega
            rw [HX.out] at hx
            rw [← Option.some.inj hx]; exact HK.out
        case measure => simp [intOf]; omega
      · have hc1 : decide (cmpT (rkey ⟨key, value⟩) k.data.toList < 0) = false := decide_eq_false (fun e => hck ((cmpT_neg _ _).1 e))
        have HK := Lib.hid hck; clear hck
        go_wp2_with fail
        go_roundw
        case rel =>
          refine ⟨i, m, by omega, by omega, rfl, by go_num, LO.out, (fun t x ht hx => ?_), K2.out⟩
          rcases Nat.lt_or_ge m t with h | h
          · exact fun e => HK.out (List.lt_trans (riseR_lt RI.out h HX.out hx) e)
          · obtain rfl : t = m := by omega
            rw [HX.out] at hx
            rw [← Option.some.inj hx]; exact HK.out
        case measure => simp [intOf]; omega
    · obtain rfl : i = j := by omega
      have hpl : placeR k.data.toList l = i := placeR_at i hj LO.out HI.out
      have HP := Lib.hid hpl; clear hpl
      by_cases hil : i < l.length
      · obtain ⟨x, hx⟩ : ∃ x, l[i]? = some x := ⟨_, List.getElem?_eq_getElem hil⟩
        obtain ⟨b, off, rfl, hb, hcell⟩ := HR.out (by intro e; rw [e] at hil; simp at hil)
        have hcx := hcell i x hx
        have hmove : ∀ j, wr.cell? ⟨b, j, none⟩ = w.cell? ⟨b, j, none⟩ := fun j => K1.out.cell (p := ⟨b, j, none⟩) hb
        have hth : thereR k.data.toList l = decide (rkey x = k.data.toList) := by unfold thereR; rw [HP.out, hx]
        have hcc := fun W => findCmp_calls x k W
        have hcb : ((cmpT (rkey x) k.data.toList) == 0) = decide (rkey x = k.data.toList) := by
          rw [Bool.eq_iff_iff, beq_iff_eq, decide_eq_true_eq]; exact cmpT_zero _ _
        generalize rkey x = vk at hth hcc hcb
        obtain ⟨key, value⟩ := x
        have d0 := (hmove _).trans (hcx 0 _ rfl); have d1 := (hmove _).trans (hcx 1 _ rfl)
        simp only [Nat.add_zero] at d0
        have CC := Lib.hid hcc; have HT := Lib.hid hth
        have i0 : (0 : Int) ≤ (i : Int) := by omega
        have i1 : (i : Int) < (l.length : Int) := by omega
        have g1 : decide ((i : Int) < (l.length : Int)) = true := decide_eq_true i1
        clear hcell hcx hmove hx hcc hth
        generalize decide (vk = k.data.toList) = db at *
        go_wp2_with fail
        refine (CC.out _).mono ?_
        rintro e w2 ⟨rfl, hx2⟩
        have K2 := Lib.hid (Ext.trans K1.out hx2)
        clear hx2 d0 d1
        go_wp2_with fail
        go_ret2
        exact ⟨by rw [HP.out, HT.out]; rfl, K2.out⟩
      · have hth : thereR k.data.toList l = false := by unfold thereR; rw [HP.out, List.getElem?_eq_none (by omega)]
        have HT := Lib.hid hth; clear hth
        have g1 : decide ((i : Int) < (l.length : Int)) = false := decide_eq_false (by omega)
        go_wp2_with fail
        go_ret2
        exact ⟨by rw [HP.out, HT.out]; rfl, K1.out⟩

set_option maxRecDepth 100000 in
theorem find_calls (l : List RowD) (ao : Option Addr) (cap : Nat) (k : ByteArray) (w : World) (hl : l.length ≤ 1000000) (hr : Rows 2 encRw w.heap.size w ao l) (hrise : RiseR l) :
    Calls Tryz.prog 147 #[.agg #[.slice ao l.length cap], .string k] w fun e w' => e = .returned (.tuple #[.int .i64 (placeR k.data.toList l), .bool (thereR k.data.toList l)]) ∧ Ext w w' := by
  have HX : Hid (Ext w (w.alloc (.cells #[.slice ao l.length cap] 108))) := Lib.hid ((Below.refl _ w).alloc (Nat.le_refl _) _)
  have HS := Lib.hid (fun W (hW : Ext w W) => searchR_calls l ao cap k W hl ((hr.ext hW).mono hW.size) hrise)
  clear hr hrise
  go_enter Tryz.func147, Tryz.ntmps147
  go_wp2_with fail
  refine (HS.out _ HX.out).mono ?_
  rintro e w2 ⟨rfl, hx⟩
  have X2 := Lib.hid (Ext.trans HX.out hx); clear hx
  go_wp2_with fail
  go_ret2
  exact ⟨rfl, X2.out⟩
theorem there_get (k : List UInt8) (l : List RowD) : (thereR k l = false → getR k l = none) ∧ (thereR k l = true → ∃ d, l[placeR k l]? = some d ∧ getR k l = some d.value) := by
  unfold thereR getR
  cases hp : l[placeR k l]? with
  | none => exact ⟨fun _ => rfl, fun h => by simp at h⟩
  | some d =>
    by_cases e : rkey d = k
    · exact ⟨fun h => by simp [e] at h, fun _ => ⟨d, rfl, by simp [e]⟩⟩
    · exact ⟨fun _ => by simp [e], fun h => by simp [e] at h⟩

set_option maxRecDepth 100000 in
theorem get_calls2 (l : List RowD) (ao : Option Addr) (cap : Nat) (k : ByteArray) (w : World) (hl : l.length ≤ 1000000) (hr : Rows 2 encRw w.heap.size w ao l) (hrise : RiseR l) :
    Calls Tryz.prog 96 #[.agg #[.slice ao l.length cap], .string k] w fun e w' => e = .returned (.tuple #[.string ((getR k.data.toList l).getD noBytes), .bool (getR k.data.toList l).isSome]) ∧ Ext w w' := by
  have HB := Lib.hid (Blk.new w [.slice ao l.length cap] 108)
  have HX : Hid (Ext w (w.alloc (.cells #[.slice ao l.length cap] 108))) := Lib.hid ((Below.refl _ w).alloc (Nat.le_refl _) _)
  have HF := Lib.hid (fun W (hW : Ext w W) => find_calls l ao cap k W hl ((hr.ext hW).mono hW.size) hrise)
  have HR := Lib.hid hr
  obtain ⟨hno, hyes⟩ := there_get k.data.toList l
  have HN := Lib.hid hno; have HY := Lib.hid hyes
  clear hr hrise hno hyes
  generalize getR k.data.toList l = g at *
  generalize placeR k.data.toList l = p at *
  cases hth : thereR k.data.toList l
  all_goals
    have TH := Lib.hid hth; clear hth
    go_enter Tryz.func96, Tryz.ntmps96
    go_wp2_with fail
    refine (HF.out _ HX.out).mono ?_
    rw [TH.out]
    rintro e w2 ⟨rfl, hx⟩
    have X2 := Lib.hid (Ext.trans HX.out hx); have Y2 := Lib.hid hx; clear hx
  · have G := Lib.hid (HN.out TH.out)
    go_wp2_with fail
    go_ret2
    exact ⟨by rw [G.out]; rfl, X2.out⟩
  · obtain ⟨d, hd, hg⟩ := HY.out TH.out
    have hp : p < l.length := (List.getElem?_eq_some_iff.1 hd).1
    obtain ⟨b, off, rfl, hb, hcell⟩ := HR.out (by intro e; rw [e] at hp; simp at hp)
    have d1 := (X2.out.cell (p := ⟨b, _, none⟩) hb).trans (hcell p d hd 1 _ rfl)
    have c0 := (Y2.out.cell (p := ⟨w.heap.size, 0, none⟩) HB.out.lt).trans (HB.out.cell 0)
    simp only [List.getElem?_cons_zero] at c0
    have G := Lib.hid hg
    have i0 : (0 : Int) ≤ (p : Int) := by omega
    have i1 : (p : Int) < (l.length : Int) := by omega
    clear hd hg hcell
    go_wp2_with fail
    go_ret2
    exact ⟨by rw [G.out]; rfl, X2.out⟩
end Go.Proofs.YtngahblgicjoiaaGreatDoor
