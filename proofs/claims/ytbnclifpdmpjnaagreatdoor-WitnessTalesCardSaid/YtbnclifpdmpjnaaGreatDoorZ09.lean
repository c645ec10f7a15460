/- cmp.Compare at texts. -/
import Derived.Test.YtbnclifpdmpjnaaGreatDoorZ01
import Derived.Sort.Walk0
import Derived.Test.YtbnclifpdmpjnaaGreatDoorZ03
import Derived.Test.YtbnclifpdmpjnaaGreatDoorZ02
import Derived.RegionTactic
import Derived.ChangeAlike
import Derived.Test.YtbnclifpdmpjnaaGreatDoorZ05
import Derived.Lib.Bytealg
import Derived.Deep.RegionHeld3
import Derived.Deep.RegionWith
import Derived.Laws.IdiomCopy
import Derived.Shelf.Spec.SlicesInsert
import Derived.Deep.RegionLaw
import Derived.Lib.AppendZerosOnto
import Derived.Laws.NewBlocks
namespace Go.Proofs.YtbnclifpdmpjnaaGreatDoor
open Go.RowKit
def cmpT (x y : List UInt8) : Int := if x < y then -1 else if y < x then 1 else 0
theorem cmpT_neg (x y : List UInt8) : cmpT x y < 0 ↔ x < y := by
  unfold cmpT
  split
  · simp_all
  · split <;> simp_all
theorem cmpT_zero (x y : List UInt8) : cmpT x y = 0 ↔ x = y := by
  unfold cmpT
  split
  · rename_i h
    constructor
    · intro e; omega
    · rintro rfl; exact absurd h (List.lt_irrefl _)
  · rename_i h
    split
    · rename_i h2
      constructor
      · intro e; omega
      · rintro rfl; exact absurd h2 (List.lt_irrefl _)
    · rename_i h2
      exact ⟨fun _ => List.le_antisymm (List.not_lt.1 h2) (List.not_lt.1 h), fun _ => rfl⟩
end Go.Proofs.YtbnclifpdmpjnaaGreatDoor
/- The place of a key in a rising row of rows: slices.BinarySearchFunc with the package's comparison; get. -/
namespace Go.Proofs.YtbnclifpdmpjnaaGreatDoor
open Go.RowKit
theorem compareB_eq : ∀ a b : List UInt8, Lib.compareBytes a b = cmpT a b
  | [], [] => by simp [Lib.compareBytes, cmpT]
  | [], _ :: _ => by simp [Lib.compareBytes, cmpT]
  | _ :: _, [] => by simp [Lib.compareBytes, cmpT]
  | x :: a, y :: b => by
    have ih := compareB_eq a b
    unfold cmpT at ih ⊢
    rw [Lib.compareBytes, ih]
    simp only [List.cons_lt_cons_iff]
    rcases Nat.lt_trichotomy x.toNat y.toNat with h | h | h
    · have h1 : x < y := h
      simp [h1]
    · have h1 : x = y := UInt8.toNat_inj.1 h
      subst h1
      have h2 : ¬ x < x := Nat.lt_irrefl x.toNat
      simp [h2]
    · have h1 : y < x := h
      have h2 : ¬ x < y := fun e => absurd (show x.toNat < y.toNat from e) (by omega)
      have h3 : x ≠ y := fun e => by subst e; exact h2 h1
      simp [h1, h2, h3]
set_option maxRecDepth 100000 in
theorem bytealgCmp_calls (a b : ByteArray) (w : World) : Calls Tryz.prog 169 #[.string a, .string b] w fun e w' => e = .returned (.int .i64 (cmpT a.data.toList b.data.toList)) ∧ w = w' := by
  rw [← compareB_eq]
  go_enter Tryz.func169, Tryz.ntmps169
  go_wp2
  rw [run_callFunc_extern Tryz.func184 (by kernel_rfl) (by kernel_rfl) (by kernel_rfl) (e := Extern.BytealgCompare.compare) (by kernel_rfl), Lib.run_compareString]
  simp only [Result.andThen]
  rw [Oper.upon_value]
  go_wp2
  go_ret
  exact ⟨rfl, rfl⟩
theorem strCompare_calls (a b : ByteArray) (w : World) : Calls Tryz.prog 145 #[.string a, .string b] w fun e w' => e = .returned (.int .i64 (cmpT a.data.toList b.data.toList)) ∧ w = w' := by
  go_enter Tryz.func145, Tryz.ntmps145
  go_wp2_with (go_at_call 169; refine (bytealgCmp_calls _ _ _).mono ?_; rintro e w' ⟨rfl, rfl⟩)
  go_ret
  exact ⟨rfl, rfl⟩
theorem findCmp_calls (h : RowD) (k : ByteArray) (w : World) : Calls Tryz.prog 144 #[.agg (encRw h).toArray, .string k] w fun e w' => e = .returned (.int .i64 (cmpT (rkey h) k.data.toList)) ∧ Ext w w' := by
  obtain ⟨key, value⟩ := h
  unfold encRw rkey
  have HX := Lib.hid (show Ext w (w.alloc (.cells #[.string key, .string value] 184)) from (Below.refl _ w).alloc (Nat.le_refl _) _)
  go_enter Tryz.func144, Tryz.ntmps144
  go_wp2_with (go_at_call 145; refine (strCompare_calls _ _ _).mono ?_; rintro e w' ⟨rfl, rfl⟩)
  go_ret
  exact ⟨rfl, HX.out⟩
theorem takeWhile_lenR {α : Type} (p : α → Bool) : ∀ (q : List α) (j : Nat), j ≤ q.length → (∀ (i : Nat) (x : α), i < j → q[i]? = some x → p x = true) → (∀ x, q[j]? = some x → p x = false) → (q.takeWhile p).length = j
  | [], j, hj, _, _ => by simp at hj; simp [hj]
  | a :: q, 0, _, _, h => by
    have := h a rfl
    simp [this]
  | a :: q, j + 1, hj, h1, h2 => by
    have ha := h1 0 a (by omega) rfl
    rw [List.takeWhile_cons, if_pos ha, List.length_cons, takeWhile_lenR p q j (by simpa using hj) (fun i x hi hx => h1 (i + 1) x (by omega) (by simpa using hx)) (fun x hx => h2 x (by simpa using hx))]
theorem placeR_at {k : List UInt8} {l : List RowD} (j : Nat) (hj : j ≤ l.length) (h1 : ∀ (i : Nat) (x : RowD), i < j → l[i]? = some x → rkey x < k) (h2 : ∀ (i : Nat) (x : RowD), j ≤ i → l[i]? = some x → ¬ rkey x < k) : placeR k l = j :=
  takeWhile_lenR _ l j hj (fun i x hi hx => by simpa using h1 i x hi hx) (fun x hx => by simpa using h2 j x (Nat.le_refl _) hx)
theorem riseR_lt {l : List RowD} (h : RiseR l) {i j : Nat} {x y : RowD} (hij : i < j) (hx : l[i]? = some x) (hy : l[j]? = some y) : rkey x < rkey y := by
  obtain ⟨h1, e1⟩ := List.getElem?_eq_some_iff.1 hx
  obtain ⟨h2, e2⟩ := List.getElem?_eq_some_iff.1 hy
  have := List.pairwise_iff_getElem.1 h i j h1 h2 hij
  rwa [e1, e2] at this
set_option maxRecDepth 100000 in
set_option maxHeartbeats 800000 in
theorem searchR_calls (l : List RowD) (ao : Option Addr) (cap : Nat) (k : ByteArray) (w : World) (hl : l.length ≤ 1000000) (hr : Rows 2 encRw w.heap.size w ao l) (hrise : RiseR l) :
    Calls Tryz.prog 143 #[.slice ao l.length cap, .string k, .func (.func 144) #[] #[]] w fun e w' => e = .returned (.tuple #[.int .i64 (placeR k.data.toList l), .bool (thereR k.data.toList l)]) ∧ Ext w w' := by
  have HR := Lib.hid hr; have RI := Lib.hid hrise
  clear hr hrise
  go_enter Tryz.func143, Tryz.ntmps143
  go_wp2_with fail
  go_loopw [9, 10] (fun vi vj wr => ∃ (i j : Nat), i ≤ j ∧ j ≤ l.length ∧ vi = .int .i64 i ∧ vj = .int .i64 j ∧ (∀ (t : Nat) (x : RowD), t < i → l[t]? = some x → rkey x < k.data.toList) ∧ (∀ (t : Nat) (x : RowD), j ≤ t → l[t]? = some x → ¬ rkey x < k.data.toList) ∧ Ext w wr) (fun vi vj _ => (intOf vj).toNat - (intOf vi).toNat)
  case atStart => exact ⟨0, l.length, by omega, by omega, rfl, rfl, (fun t x ht => by omega), (fun t x ht hx => by rw [List.getElem?_eq_none (by omega)] at hx; cases hx), Below.refl _ _⟩
  case round =>
    obtain ⟨i, j, hij, hj, rfl, rfl, hlo, hhi, hx⟩ := hrel
    have LO := Lib.hid hlo; have HI := Lib.hid hhi; have K1 := Lib.hid hx
    clear hlo hhi hx
    by_cases hlt : i < j
    · obtain ⟨m, hm⟩ : ∃ m : Nat, ((i : Int) + (j : Int)) / 2 = (m : Int) := ⟨(i + j) / 2, by omega⟩
      have hmi : i ≤ m := by omega
      have hmj : m < j := by omega
      obtain ⟨x, hx⟩ : ∃ x, l[m]? = some x := ⟨_, List.getElem?_eq_getElem (by omega)⟩
      obtain ⟨b, off, rfl, hb, hcell⟩ := HR.out (by intro e; rw [e] at hj; simp at hj; omega)
      have hcx := hcell m x hx
      have hmove : ∀ j, wr.cell? ⟨b, j, none⟩ = w.cell? ⟨b, j, none⟩ := fun j => K1.out.cell (p := ⟨b, j, none⟩) hb
      have HX := Lib.hid hx
      have hcc := fun W => findCmp_calls x k W
      obtain ⟨key, value⟩ := x
      have d0 := (hmove _).trans (hcx 0 _ rfl); have d1 := (hmove _).trans (hcx 1 _ rfl)
      simp only [Nat.add_zero] at d0
      have CC := Lib.hid hcc
      have i0 : (0 : Int) ≤ (m : Int) := by omega
      have i1 : (m : Int) < (l.length : Int) := by omega
      clear hcell hcx hmove hx hcc
      go_wp2_with fail
      refine (CC.out _).mono ?_
      rintro e w2 ⟨rfl, hx2⟩
      have K2 := Lib.hid (Ext.trans K1.out hx2)
      clear hx2 d0 d1
      by_cases hck : key.data.toList < k.data.toList
      · have hc1 : decide (cmpT (rkey ⟨key, value⟩) k.data.toList < 0) = true := decide_eq_true ((cmpT_neg _ _).2 hck)
        have HK := Lib.hid hck; clear hck
        go_wp2_with fail
        go_roundw
        case rel =>
          refine ⟨m + 1, j, by omega, hj, by go_num, rfl, (fun t x ht hx => ?_), HI.out, K2.out⟩
          rcases Nat.lt_or_ge t m with h | h
          · exact List.lt_trans (riseR_lt RI.out h hx HX.out) HK.out
          · obtain rfl : t = m := by omega
            rw [HX.out] at hx
            rw [← Option.some.inj hx]; exact HK.out
        case measure => simp [intOf]; omega
      · have hc1 : decide (cmpT (rkey ⟨key, value⟩) k.data.toList < 0) = false := decide_eq_false (fun e => hck ((cmpT_neg _ _).1 e))
        have HK := Lib.hid hck; clear hck
        go_wp2_with fail
        go_roundw
        case rel =>
          refine ⟨i, m, by omega, by omega, rfl, by go_num, LO.out, (fun t x ht hx => ?_), K2.out⟩
          rcases Nat.lt_or_ge m t with h | h
          · exact fun e => HK.out (List.lt_trans (riseR_lt RI.out h HX.out hx) e)
          · obtain rfl : t = m := by omega
            rw [HX.out] at hx
            rw [← Option.some.inj hx]; exact HK.out
        case measure => simp [intOf]; omega
    · obtain rfl : i = j := by omega
      have hpl : placeR k.data.toList l = i := placeR_at i hj LO.out HI.out
      have HP := Lib.hid hpl; clear hpl
      by_cases hil : i < l.length
      · obtain ⟨x, hx⟩ : ∃ x, l[i]? = some x := ⟨_, List.getElem?_eq_getElem hil⟩
        obtain ⟨b, off, rfl, hb, hcell⟩ := HR.out (by intro e; rw [e] at hil; simp at hil)
        have hcx := hcell i x hx
        have hmove : ∀ j, wr.cell? ⟨b, j, none⟩ = w.cell? ⟨b, j, none⟩ := fun j => K1.out.cell (p := ⟨b, j, none⟩) hb
        have hth : thereR k.data.toList l = decide (rkey x = k.data.toList) := by unfold thereR; rw [HP.out, hx]
        have hcc := fun W => findCmp_calls x k W
        have hcb : ((cmpT (rkey x) k.data.toList) == 0) = decide (rkey x = k.data.toList) := by
          rw [Bool.eq_iff_iff, beq_iff_eq, decide_eq_true_eq]; exact cmpT_zero _ _
        generalize rkey x = vk at hth hcc hcb
        obtain ⟨key, value⟩ := x
        have d0 := (hmove _).trans (hcx 0 _ rfl); have d1 := (hmove _).trans (hcx 1 _ rfl)
        simp only [Nat.add_zero] at d0
        have CC := Lib.hid hcc; have HT := Lib.hid hth
        have i0 : (0 : Int) ≤ (i : Int) := by omega
        have i1 : (i : Int) < (l.length : Int) := by omega
        have g1 : decide ((i : Int) < (l.length : Int)) = true := decide_eq_true i1
        clear hcell hcx hmove hx hcc hth
        generalize decide (vk = k.data.toList) = db at *
        go_wp2_with fail
        refine (CC.out _).mono ?_
        rintro e w2 ⟨rfl, hx2⟩
        have K2 := Lib.hid (Ext.trans K1.out hx2)
        clear hx2 d0 d1
        go_wp2_with fail
        go_ret2
        exact ⟨by rw [HP.out, HT.out]; rfl, K2.out⟩
      · have hth : thereR k.data.toList l = false := by unfold thereR; rw [HP.out, List.getElem?_eq_none (by omega)]
        have HT := Lib.hid hth; clear hth
        have g1 : decide ((i : Int) < (l.length : Int)) = false := decide_eq_false (by omega)
        go_wp2_with fail
        go_ret2
        exact ⟨by rw [HP.out, HT.out]; rfl, K1.out⟩
set_option maxRecDepth 100000 in
theorem find_calls (l : List RowD) (ao : Option Addr) (cap : Nat) (k : ByteArray) (w : World) (hl : l.length ≤ 1000000) (hr : Rows 2 encRw w.heap.size w ao l) (hrise : RiseR l) :
    Calls Tryz.prog 131 #[.agg #[.slice ao l.length cap], .string k] w fun e w' => e = .returned (.tuple #[.int .i64 (placeR k.data.toList l), .bool (thereR k.data.toList l)]) ∧ Ext w w' := by
  have HX : Hid (Ext w (w.alloc (.cells #[.slice ao l.length cap] 153))) := Lib.hid ((Below.refl _ w).alloc (Nat.le_refl _) _)
  have HS := Lib.hid (fun W (hW : Ext w W) => searchR_calls l ao cap k W hl ((hr.ext hW).mono hW.size) hrise)
  clear hr hrise
  go_enter Tryz.func131, Tryz.ntmps131
  go_wp2_with fail
  refine (HS.out _ HX.out).mono ?_
  rintro e w2 ⟨rfl, hx⟩
  have X2 := Lib.hid (Ext.trans HX.out hx); clear hx
  go_wp2_with fail
  go_ret2
  exact ⟨rfl, X2.out⟩
theorem there_get (k : List UInt8) (l : List RowD) : (thereR k l = false → getR k l = none) ∧ (thereR k l = true → ∃ d, l[placeR k l]? = some d ∧ getR k l = some d.value) := by
  unfold thereR getR
  cases hp : l[placeR k l]? with
  | none => exact ⟨fun _ => rfl, fun h => by simp at h⟩
  | some d =>
    by_cases e : rkey d = k
    · exact ⟨fun h => by simp [e] at h, fun _ => ⟨d, rfl, by simp [e]⟩⟩
    · exact ⟨fun _ => by simp [e], fun h => by simp [e] at h⟩
set_option maxRecDepth 100000 in
theorem get_calls2 (l : List RowD) (ao : Option Addr) (cap : Nat) (k : ByteArray) (w : World) (hl : l.length ≤ 1000000) (hr : Rows 2 encRw w.heap.size w ao l) (hrise : RiseR l) :
    Calls Tryz.prog 111 #[.agg #[.slice ao l.length cap], .string k] w fun e w' => e = .returned (.tuple #[.string ((getR k.data.toList l).getD noBytes), .bool (getR k.data.toList l).isSome]) ∧ Ext w w' := by
  have HB := Lib.hid (Blk.new w [.slice ao l.length cap] 153)
  have HX : Hid (Ext w (w.alloc (.cells #[.slice ao l.length cap] 153))) := Lib.hid ((Below.refl _ w).alloc (Nat.le_refl _) _)
  have HF := Lib.hid (fun W (hW : Ext w W) => find_calls l ao cap k W hl ((hr.ext hW).mono hW.size) hrise)
  have HR := Lib.hid hr
  obtain ⟨hno, hyes⟩ := there_get k.data.toList l
  have HN := Lib.hid hno; have HY := Lib.hid hyes
  clear hr hrise hno hyes
  generalize getR k.data.toList l = g at *
  generalize placeR k.data.toList l = p at *
  cases hth : thereR k.data.toList l
  all_goals
    have TH := Lib.hid hth; clear hth
    go_enter Tryz.func111, Tryz.ntmps111
    go_wp2_with fail
    refine (HF.out _ HX.out).mono ?_
    rw [TH.out]
    rintro e w2 ⟨rfl, hx⟩
    have X2 := Lib.hid (Ext.trans HX.out hx); have Y2 := Lib.hid hx; clear hx
  · have G := Lib.hid (HN.out TH.out)
    go_wp2_with fail
    go_ret2
    exact ⟨by rw [G.out]; rfl, X2.out⟩
  · obtain ⟨d, hd, hg⟩ := HY.out TH.out
    have hp : p < l.length := (List.getElem?_eq_some_iff.1 hd).1
    obtain ⟨b, off, rfl, hb, hcell⟩ := HR.out (by intro e; rw [e] at hp; simp at hp)
    have d1 := (X2.out.cell (p := ⟨b, _, none⟩) hb).trans (hcell p d hd 1 _ rfl)
    have c0 := (Y2.out.cell (p := ⟨w.heap.size, 0, none⟩) HB.out.lt).trans (HB.out.cell 0)
    simp only [List.getElem?_cons_zero] at c0
    have G := Lib.hid hg
    have i0 : (0 : Int) ≤ (p : Int) := by omega
    have i1 : (p : Int) < (l.length : Int) := by omega
    clear hd hg hcell
    go_wp2_with fail
    go_ret2
    exact ⟨by rw [G.out]; rfl, X2.out⟩
end Go.Proofs.YtbnclifpdmpjnaaGreatDoor
/- slices.Clone at acts and reads; own: holds in memory of their own. -/
namespace Go.Proofs.YtbnclifpdmpjnaaGreatDoor
open Go.RowKit
theorem infoAct : (Tryz.prog.info? 114).map (fun i => (i.zero, i.size, i.bytes)) = some (some (.agg #[.int .u8 0, .string ⟨#[]⟩, .string ⟨#[]⟩, .int .i64 0]), 4, 48) := by kernel_rfl
theorem infoRd : (Tryz.prog.info? 117).map (fun i => (i.zero, i.size, i.bytes)) = some (some (.agg #[.string ⟨#[]⟩, .bool false, .string ⟨#[]⟩]), 3, 40) := by kernel_rfl
theorem one_act : ∀ (x : ActD), ∀ u ∈ encAct x, u.oneCell' = true := by
  intro x u hu
  simp only [encAct, List.mem_cons, List.not_mem_nil, or_false] at hu
  rcases hu with rfl | rfl | rfl | rfl <;> rfl
theorem one_rd : ∀ (x : Rd), ∀ u ∈ encRd x, u.oneCell' = true := by
  intro x u hu
  simp only [encRd, List.mem_cons, List.not_mem_nil, or_false] at hu
  rcases hu with rfl | rfl | rfl <;> rfl
set_option maxRecDepth 100000 in
theorem clone_acts_calls (l : List ActD) (ao : Option Addr) (cap : Nat) (w : World) (hl : l.length ≤ 1000000) (hr : Rows 4 encAct w.heap.size w ao l) :
    Calls Tryz.prog 52 #[.slice ao l.length cap] w fun e w' => ∃ v, e = .returned v ∧ w'.ownsRow 0 114 4 v l.length (l.flatMap encAct) ∧ (∀ j, v.ownBlock = some j → w.heap.size ≤ j) ∧ Ext w w' := by
  obtain ⟨i0, hi, hz0, hz1, hz2⟩ := info_parts infoAct
  have heq := fun W => Lib.run_eql_slice_nil (P := Tryz.prog) W 27 114 ao l.length cap 0 0 Tryz.underlying27
  have E1 : Hid (Ext w (w.alloc (.cells #[] 114))) := Lib.hid ((Below.refl _ w).alloc (Nat.le_refl _) _)
  cases ao with
  | none =>
    have hl0 : l = [] := by
      cases l with
      | nil => rfl
      | cons a l => obtain ⟨b, off, e, -⟩ := hr (by simp); cases e
    have HL0 := Lib.hid hl0
    clear hr hl0
    simp only [Option.isNone_none] at heq
    go_enter Tryz.func52, Tryz.ntmps52
    go_wp2_with fail
    go_ret
    exact ⟨_, rfl, by rw [HL0.out]; exact World.ownsRow_nil _ _ _ _, by simp [Value.ownBlock], Below.refl _ _⟩
  | some a =>
    have HR := Lib.hid hr
    clear hr
    simp only [Option.isNone_some] at heq
    go_enter Tryz.func52, Tryz.ntmps52
    go_wp2_with (at_builtin; refine wpList_append_rows (enc := encAct) (size := 4) (fun _ => rfl) one_act rfl (.tmp 5) (.tmp 6) 27 rfl 114 i0 _ 48 Tryz.underlying27 hi hz0 hz1 hz2 rfl (by decide) (.slice (some ⟨w.heap.size, 0, none⟩) 0 0) 0 [] rfl (World.ownsRow_made w #[] 0 (Nat.zero_le _) (Nat.zero_le _) rfl) (some a) l cap rfl ((HR.out.ext E1.out).mono E1.out.size) (by unfold maxLen; omega) (by omega) ?_; intro v1 w1 hown1 hbut1 hkept1; have O1 := Lib.hid hown1; have B1 := Lib.hid hbut1; have P1 := Lib.hid hkept1; clear hown1 hbut1 hkept1)
    go_ret
    refine ⟨v1, rfl, by have := O1.out; rwa [Nat.zero_add, List.nil_append] at this, fun j hj => ?_, ?_⟩
    · rcases P1.out j hj with e | e
      · simp [Value.ownBlock] at e; omega
      · have := E1.out.size; omega
    · exact ((Ext.but E1.out (fun _ => False)).trans B1.out (U := fun i => i = w.heap.size) (fun _ _ e => e.elim) (fun i _ e => by simp [Value.ownBlock] at e; exact e.symm)).ext (fun i hi e => by omega)
set_option maxRecDepth 100000 in
theorem clone_reads_calls (l : List Rd) (ao : Option Addr) (cap : Nat) (w : World) (hl : l.length ≤ 1000000) (hr : Rows 3 encRd w.heap.size w ao l) :
    Calls Tryz.prog 53 #[.slice ao l.length cap] w fun e w' => ∃ v, e = .returned v ∧ w'.ownsRow 0 117 3 v l.length (l.flatMap encRd) ∧ (∀ j, v.ownBlock = some j → w.heap.size ≤ j) ∧ Ext w w' := by
  obtain ⟨i0, hi, hz0, hz1, hz2⟩ := info_parts infoRd
  have heq := fun W => Lib.run_eql_slice_nil (P := Tryz.prog) W 28 117 ao l.length cap 0 0 Tryz.underlying28
  have E1 : Hid (Ext w (w.alloc (.cells #[] 117))) := Lib.hid ((Below.refl _ w).alloc (Nat.le_refl _) _)
  cases ao with
  | none =>
    have hl0 : l = [] := by
      cases l with
      | nil => rfl
      | cons a l => obtain ⟨b, off, e, -⟩ := hr (by simp); cases e
    have HL0 := Lib.hid hl0
    clear hr hl0
    simp only [Option.isNone_none] at heq
    go_enter Tryz.func53, Tryz.ntmps53
    go_wp2_with fail
    go_ret
    exact ⟨_, rfl, by rw [HL0.out]; exact World.ownsRow_nil _ _ _ _, by simp [Value.ownBlock], Below.refl _ _⟩
  | some a =>
    have HR := Lib.hid hr
    clear hr
    simp only [Option.isNone_some] at heq
    go_enter Tryz.func53, Tryz.ntmps53
    go_wp2_with (at_builtin; refine wpList_append_rows (enc := encRd) (size := 3) (fun _ => rfl) one_rd rfl (.tmp 5) (.tmp 6) 28 rfl 117 i0 _ 40 Tryz.underlying28 hi hz0 hz1 hz2 rfl (by decide) (.slice (some ⟨w.heap.size, 0, none⟩) 0 0) 0 [] rfl (World.ownsRow_made w #[] 0 (Nat.zero_le _) (Nat.zero_le _) rfl) (some a) l cap rfl ((HR.out.ext E1.out).mono E1.out.size) (by unfold maxLen; omega) (by omega) ?_; intro v1 w1 hown1 hbut1 hkept1; have O1 := Lib.hid hown1; have B1 := Lib.hid hbut1; have P1 := Lib.hid hkept1; clear hown1 hbut1 hkept1)
    go_ret
    refine ⟨v1, rfl, by have := O1.out; rwa [Nat.zero_add, List.nil_append] at this, fun j hj => ?_, ?_⟩
    · rcases P1.out j hj with e | e
      · simp [Value.ownBlock] at e; omega
      · have := E1.out.size; omega
    · exact ((Ext.but E1.out (fun _ => False)).trans B1.out (U := fun i => i = w.heap.size) (fun _ _ e => e.elim) (fun i _ e => by simp [Value.ownBlock] at e; exact e.symm)).ext (fun i hi e => by omega)
def HoldD.fits (d : HoldD) : Prop := d.acts.length ≤ 1000000 ∧ d.reads.length ≤ 1000000
def MineV (w : World) (B : Nat) (x : HoldV) : Prop := (∃ xs, w.ownsRow B 114 4 (.slice x.ao x.an x.ac) x.an xs) ∧ ∃ ys, w.ownsRow B 117 3 (.slice x.ro x.rn x.rc) x.rn ys
def Mine (w : World) (B : Nat) (l : List HoldV) : Prop := ∀ x ∈ l, MineV w B x
theorem MineV.ext {w w' : World} {B : Nat} {x : HoldV} (h : MineV w B x) (hx : Ext w w') : MineV w' B x := by
  obtain ⟨⟨xs, h1⟩, ⟨ys, h2⟩⟩ := h
  exact ⟨⟨xs, own_ext h1 hx⟩, ⟨ys, own_ext h2 hx⟩⟩
theorem own_blk {w : World} {B : Nat} {e : TypeId} {size n : Nat} {v : Value} {xs : List Value} (h : w.ownsRow B e size v n xs) {j : Nat} (hj : v.ownBlock = some j) : ∃ cs, Blk w j cs e := by
  rcases h.2 with ⟨rfl, _⟩ | ⟨g, cap, cur, rfl, _, hg, _⟩
  · simp [Value.ownBlock] at hj
  · simp only [Value.ownBlock, Option.some.injEq] at hj
    subst hj
    exact ⟨cur.toList, by unfold Blk; simpa using hg⟩
theorem MineV.row {w w' : World} {B B' n : Nat} {x : HoldV} {v : Value} {xs : List Value} (h : MineV w B x) (hx : But (fun j => v.ownBlock = some j) w w') (hv : w.ownsRow B' 188 7 v n xs) : MineV w' B x := by
  obtain ⟨⟨xs, h1⟩, ⟨ys, h2⟩⟩ := h
  refine ⟨⟨xs, own_but h1 hx (fun j hj e => ?_)⟩, ⟨ys, own_but h2 hx (fun j hj e => ?_)⟩⟩
  · obtain ⟨cs, hb⟩ := own_blk hv e
    exact own_ne h1 hb (by decide) hj
  · obtain ⟨cs, hb⟩ := own_blk hv e
    exact own_ne h2 hb (by decide) hj
theorem MineV.base {w : World} {B B' : Nat} {x : HoldV} (h : MineV w B x) (hB : B' ≤ B) : MineV w B' x := by
  obtain ⟨⟨xs, h1⟩, ⟨ys, h2⟩⟩ := h
  exact ⟨⟨xs, own_base h1 (fun j hj => Nat.le_trans hB (own_ge h1 j hj))⟩, ⟨ys, own_base h2 (fun j hj => Nat.le_trans hB (own_ge h2 j hj))⟩⟩
theorem Mine.ext {w w' : World} {B : Nat} {l : List HoldV} (h : Mine w B l) (hx : Ext w w') : Mine w' B l := fun x hm => (h x hm).ext hx
theorem Mine.base {w : World} {B B' : Nat} {l : List HoldV} (h : Mine w B l) (hB : B' ≤ B) : Mine w B' l := fun x hm => (h x hm).base hB
theorem run_copy_k {P : Program} (w : World) (dT sT ty elem : TypeId) (sz n b o dLen dCap : Nat) (a : Addr) (sLen sCap : Nat) (cs : List Value)
    (hu : P.underlying dT = some (.slice elem)) (hs : (P.info? elem).map (·.size) = some sz) (hn : n = Nat.min sLen dLen) (hl : cs.length = n * sz)
    (hsrc : ∀ j v, cs[j]? = some v → w.cell? (a.add j) = some v) (hc : ∀ j, j < cs.length → (w.cell? ⟨b, o + j, none⟩).isSome = true) (hf : ∀ j, j < cs.length → w.frozen? ⟨b, o + j, none⟩ = false) (h1 : ∀ v ∈ cs, v.oneCell' = true) :
    (Builtin.copy_ #[dT, sT] ty #[.slice (some ⟨b, o, none⟩) dLen dCap, .slice (some a) sLen sCap]).run P w = .ok (goInt n) (w.setCells b o cs) := by
  have hl' := run_loadCells_list (P := P) w a cs hsrc
  have hst := run_storeCells_cells (P := P) b o cs 0 w (by simpa using hc) (by simpa using hf) h1
  cases hq : P.info? elem with
  | none => simp [hq] at hs
  | some i =>
    have hi : i.size = sz := by simpa [hq] using hs
    simp [Builtin.copy_, run_underlying hu, Builtin.lenOf, Builtin.firstCells, sizeOf, typeInfo, hq, hi, ← hn, ← hl, hl', hst]
def splice (cs : List Value) (o : Nat) : List Value → List Value
  | [] => cs
  | v :: vs => splice (cs.set o v) (o + 1) vs
theorem Blk.setCells {b : Nat} {t : TypeId} : ∀ (vs : List Value) (o : Nat) {w : World} {cs : List Value}, Blk w b cs t → Blk (w.setCells b o vs) b (splice cs o vs) t
  | [], _, _, _, h => h
  | v :: vs, o, _, _, h => Blk.setCells vs (o + 1) (h.set o v)
theorem splice_length : ∀ (vs : List Value) (cs : List Value) (o : Nat), (splice cs o vs).length = cs.length
  | [], _, _ => rfl
  | v :: vs, cs, o => by rw [splice, splice_length vs, List.length_set]
theorem splice_eq : ∀ (vs : List Value) (cs : List Value) (o : Nat), o + vs.length ≤ cs.length → splice cs o vs = cs.take o ++ vs ++ cs.drop (o + vs.length)
  | [], cs, o, _ => by simp [splice]
  | v :: vs, cs, o, h => by
    rw [List.length_cons] at h
    rw [splice, splice_eq vs (cs.set o v) (o + 1) (by rw [List.length_set]; omega)]
    have e1 : (cs.set o v).take (o + 1) = cs.take o ++ [v] := by
      rw [List.take_add_one, List.getElem?_set_self (by omega), List.take_set_of_le (Nat.le_refl _)]; rfl
    have e2 : (cs.set o v).drop (o + 1 + vs.length) = cs.drop (o + (v :: vs).length) := by
      rw [List.drop_set_of_lt (by omega), List.length_cons]; congr 1; omega
    rw [e1, e2]; simp
theorem but_setCells {S : Nat → Prop} {b : Nat} (hb : S b) : ∀ (vs : List Value) (o : Nat) {w w' : World}, But S w w' → But S w (w'.setCells b o vs)
  | [], _, _, _, h => h
  | v :: vs, o, _, _, h => but_setCells hb vs (o + 1) (h.setCell (p := ⟨b, o, none⟩) (fun _ => hb) v)
theorem ownB (ao : Option Addr) (n c : Nat) : (Value.slice ao n c).ownBlock = ao.map (·.block) := by cases ao <;> rfl
end Go.Proofs.YtbnclifpdmpjnaaGreatDoor
/- slices.Insert at holds, one hold, ahead of others, where there is room. -/
namespace Go.Proofs.YtbnclifpdmpjnaaGreatDoor
open Go.RowKit Go.Lib
theorem blk_of {w : World} {b : Nat} {t : TypeId} {cur : Array Value} (h : w.heap[b]? = some (.cells cur t (0, 0))) : Blk w b cur.toList t := by unfold Blk; simpa using h
theorem shape_of {w : World} {b : Nat} {t : TypeId} {cs : List Value} (h : Blk w b cs t) : w.shape? b = some (t, cs.length) := by
  unfold Blk at h; simp [World.shape?, h]
end Go.Proofs.YtbnclifpdmpjnaaGreatDoor
/- slices.Insert at holds, one hold, ahead of others, where there is no room; the three roads as one. -/
namespace Go.Proofs.YtbnclifpdmpjnaaGreatDoor
open Go.RowKit Go.Lib
theorem zc_size (c : Array Value) (n : Nat) : (Builtin.zeroCells c n).size = n * c.size := by simp [Builtin.zeroCells]
end Go.Proofs.YtbnclifpdmpjnaaGreatDoor
/- slices.Insert at holds, one hold: the three roads as one. -/
namespace Go.Proofs.YtbnclifpdmpjnaaGreatDoor
open Go.RowKit Go.Lib
theorem own_of_blk {w : World} {g n cap : Nat} {cs xs : List Value} {t : TypeId} {sz : Nat} (hb : Blk w g cs t) (hl : cs.length = cap * sz) (hn : n ≤ cap) (hm : cap ≤ maxLen) (ht : cs.take (n * sz) = xs) : w.ownsRow 0 t sz (.slice (some ⟨g, 0, none⟩) n cap) n xs := by
  refine ⟨?_, .inr ⟨g, cap, cs.toArray, rfl, Nat.zero_le _, hb, hn, hm, by simpa using hl, by simpa using ht⟩⟩
  rw [← ht, List.length_take, hl, Nat.min_eq_left (Nat.mul_le_mul_right _ hn)]
end Go.Proofs.YtbnclifpdmpjnaaGreatDoor
/- those: the holds of which a function tells yes, in memory of their own; the function is any one. -/
namespace Go.Proofs.YtbnclifpdmpjnaaGreatDoor
open Go.RowKit
def Asks (g : Nat) (lb : Array Value) (p : ByteArray → Int → Int → Bool) (S : Nat → Prop) (w : World) : Prop :=
  ∀ W, But S w W → ∀ x : HoldV, x.key.size ≤ 140737488351232 → Calls Tryz.prog g (#[.agg (encHV x).toArray] ++ lb) W fun e w' => e = .returned (.bool (p x.key x.cl x.nm)) ∧ Ext W w'
theorem Asks.but {g : Nat} {lb : Array Value} {p : ByteArray → Int → Int → Bool} {S : Nat → Prop} {w w' : World} (h : Asks g lb p S w) (hx : But S w w') : Asks g lb p S w' :=
  fun W hW => h W (hx.trans hW (fun _ _ e => e) (fun _ _ e => e))
theorem Asks.mono {g : Nat} {lb : Array Value} {p : ByteArray → Int → Int → Bool} {S T : Nat → Prop} {w : World} (h : Asks g lb p S w) (hS : ∀ i, T i → S i) : Asks g lb p T w :=
  fun W hW => h W (hW.mono fun i _ e => hS i e)
theorem Asks.ext {g : Nat} {lb : Array Value} {p : ByteArray → Int → Int → Bool} {S : Nat → Prop} {w w' : World} (h : Asks g lb p S w) (hx : Ext w w') : Asks g lb p S w' := h.but (hx.but S)
def HoldV.tells (p : ByteArray → Int → Int → Bool) (x : HoldV) : Bool := p x.key x.cl x.nm
def HoldD.tells (p : ByteArray → Int → Int → Bool) (x : HoldD) : Bool := p x.key x.cl x.nm
theorem HoldsAre.filter {w : World} {no : Nat → Prop} (p : ByteArray → Int → Int → Bool) : ∀ {vs : List HoldV} {ds : List HoldD}, HoldsAre w no vs ds → HoldsAre w no (vs.filter (·.tells p)) (ds.filter (·.tells p))
  | [], [], _ => trivial
  | [], _ :: _, h => h.elim
  | _ :: _, [], h => h.elim
  | v :: vs, d :: ds, h => by
    have e : v.tells p = d.tells p := by unfold HoldV.tells HoldD.tells; rw [h.1.key, h.1.cl, h.1.nm]
    have ih := HoldsAre.filter p h.2
    cases hd : d.tells p
    · rw [List.filter_cons_of_neg (by rw [e, hd]; decide), List.filter_cons_of_neg (by rw [hd]; decide)]; exact ih
    · rw [List.filter_cons_of_pos (by rw [e, hd]), List.filter_cons_of_pos hd]; exact ⟨h.1, ih⟩
theorem run_clear_k {P : Program} (w : World) (t e ty : TypeId) (z : Value) (zc : Array Value) (ht : P.underlying t = some (.slice e)) (hv : ∀ w, (zeroValue e).run P w = .ok z w) (hz : z.cells = zc) (h1 : ∀ n, ∀ v ∈ (Builtin.zeroCells zc n).toList, v.oneCell' = true) (b o n c : Nat) (hn : 0 < n)
    (hc : ∀ j, j < n * zc.size → (w.cell? ⟨b, o + j, none⟩).isSome = true) (hf : ∀ j, j < n * zc.size → w.frozen? ⟨b, o + j, none⟩ = false) :
    (Builtin.clear_ #[t] ty #[.slice (some ⟨b, o, none⟩) n c]).run P w = .ok (.tuple #[]) (w.setCells b o (Builtin.zeroCells zc n).toList) := by
  have hl : (Builtin.zeroCells zc n).toList.length = n * zc.size := by rw [Array.length_toList, zc_size]
  have hst := run_storeCells_cells (P := P) b o (Builtin.zeroCells zc n).toList 0 w (by rw [hl]; simpa using hc) (by rw [hl]; simpa using hf) (h1 n)
  have hn0 : n ≠ 0 := by omega
  cases n with
  | zero => omega
  | succ m =>
    simp only [Nat.add_zero] at hst
    simp [Builtin.clear_, run_underlying ht, hv, hz, hst, Result.andThen]
theorem take_splice' (cs vs : List Value) (o : Nat) (h : o + vs.length ≤ cs.length) : (splice cs o vs).take o = cs.take o := by
  rw [splice_eq vs cs o h, List.append_assoc]
  have : (cs.take o).length = o := by rw [List.length_take]; omega
  exact List.take_left' this
end Go.Proofs.YtbnclifpdmpjnaaGreatDoor
