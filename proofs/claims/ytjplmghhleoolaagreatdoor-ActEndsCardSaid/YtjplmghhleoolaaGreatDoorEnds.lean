/- ActEnds: the walk. -/
import Derived.Test.YtjplmghhleoolaaGreatDoorTells
import Derived.Test.YtjplmghhleoolaaGreatDoorValues
import Derived.StillTailTactics
namespace Go.Proofs.YtjplmghhleoolaaGreatDoor
open Go.RowKit

def bA (l : List UInt8) : ByteArray := ⟨l.toArray⟩
def endTexts : List ByteArray := [bA [], bA [48], bA [45, 48], bA [48, 48, 55], bA [45, 49, 50], bA [49, 48, 55, 51, 55, 52, 49, 56, 50, 52], bA [49, 48, 55, 51, 55, 52, 49, 56, 50, 53], bA [45, 49, 48, 55, 51, 55, 52, 49, 56, 50, 52], bA [45, 49, 48, 55, 51, 55, 52, 49, 56, 50, 53], bA [57, 57, 57, 57, 57, 57, 57, 57, 57, 57, 57, 57, 57, 57, 57, 57, 57, 57, 57, 57], bA [97, 98, 99], bA [97, 32, 98], bA [65], bA [97, 97, 97, 97, 97, 97, 97, 97, 97, 97, 97, 97, 97, 97, 97, 97, 97, 97, 97, 97], bA [97, 97, 97, 97, 97, 97, 97, 97, 97, 97, 97, 97, 97, 97, 97, 97, 97, 97, 97, 97, 97], bA [43, 53], bA [45, 45, 53], bA [45]]
def endNums : List Int := [0, 1, -1, 9, 10, 1073741824, -1073741824, 1073741825, -1073741825, 4611686018427387904, -4611686018427387904]
def encInt (n : Int) : List Value := [.int .i64 n]
theorem endTexts_size : ∀ t ∈ endTexts, t.size ≤ 30 := by decide +kernel
theorem endNums_bd : ∀ n ∈ endNums, -9223372036854775808 ≤ n ∧ n ≤ 9223372036854775807 := by decide +kernel

set_option maxRecDepth 100000 in
set_option maxHeartbeats 1600000 in
theorem ends_calls {B : Nat} (hR : RightOne) (w : World) (hv : LV B w) (hB : B ≤ w.heap.size) :
    Calls Tryz.prog 4 #[] w fun e w' => e = .returned (.bool true) ∧ Ext w w' := by
  have HV := Lib.hid hv; have HF := Lib.hid hR; have HB := Lib.hid hB
  clear hv hR hB
  go_enter Tryz.func4, Tryz.ntmps4
  go_wp2_with fail
  refine (awake_calls HF.out w HV.out HB.out).mono ?_
  rintro e w1 ⟨rfl, hx⟩; have X1 := Lib.hid hx; clear hx
  go_wp2_with fail
  have h1 := Rows.fresh (enc := encStr) (sz := 1) (fun _ => rfl) endTexts w1 9
  have x1 : Ext w1 (w1.alloc (.cells (endTexts.flatMap encStr).toArray 9)) := (Below.refl _ w1).alloc (Nat.le_refl _) _
  have h2 := Rows.fresh (enc := encInt) (sz := 1) (fun _ => rfl) endNums (w1.alloc (.cells (endTexts.flatMap encStr).toArray 9)) 3
  have x2 : Ext (w1.alloc (.cells (endTexts.flatMap encStr).toArray 9)) ((w1.alloc (.cells (endTexts.flatMap encStr).toArray 9)).alloc (.cells (endNums.flatMap encInt).toArray 3)) := (Below.refl _ _).alloc (Nat.le_refl _) _
  have h1' := (h1.ext x2).mono x2.size
  rw [show (w1.alloc (.cells (endTexts.flatMap encStr).toArray 9)).heap.size = w1.heap.size + 1 from by simp] at h2
  change Code.wp _ _ _ _ ((w1.alloc (.cells (endTexts.flatMap encStr).toArray 9)).alloc (.cells (endNums.flatMap encInt).toArray 3))
  have x3 : Ext w ((w1.alloc (.cells (endTexts.flatMap encStr).toArray 9)).alloc (.cells (endNums.flatMap encInt).toArray 3)) := Ext.trans X1.out (Ext.trans x1 x2)
  generalize ((w1.alloc (.cells (endTexts.flatMap encStr).toArray 9)).alloc (.cells (endNums.flatMap encInt).toArray 3)) = W0 at *
  generalize w1.heap.size = N1 at h1' h2 ⊢
  obtain ⟨tb, toff, et, htb, htc⟩ := h1' (by decide)
  simp only [Option.some.injEq, Addr.mk.injEq, and_true] at et
  obtain ⟨rfl, rfl⟩ := et
  obtain ⟨nb, noff, en, hnb, hnc⟩ := h2 (by decide)
  simp only [Option.some.injEq, Addr.mk.injEq, and_true] at en
  obtain ⟨rfl, rfl⟩ := en
  have TC : Hid (∀ (i : Nat), i < 18 → ∃ t, W0.cell? ⟨N1, i, none⟩ = some (.string t) ∧ t.size ≤ 30) := Lib.hid fun i hi => by
    obtain ⟨t, ht⟩ : ∃ t, endTexts[i]? = some t := ⟨_, List.getElem?_eq_getElem (by exact hi)⟩
    have h := htc i t ht 0 _ rfl
    rw [show 0 + i * 1 + 0 = i from by omega] at h
    exact ⟨t, h, endTexts_size t (List.mem_of_getElem? ht)⟩
  have NC : Hid (∀ (i : Nat), i < 11 → ∃ n, W0.cell? ⟨N1 + 1, i, none⟩ = some (.int .i64 n) ∧ -9223372036854775808 ≤ n ∧ n ≤ 9223372036854775807) := Lib.hid fun i hi => by
    obtain ⟨t, ht⟩ : ∃ t, endNums[i]? = some t := ⟨_, List.getElem?_eq_getElem (by exact hi)⟩
    have h := hnc i t ht 0 _ rfl
    rw [show 0 + i * 1 + 0 = i from by omega] at h
    exact ⟨t, h, endNums_bd t (List.mem_of_getElem? ht)⟩
  have X3 := Lib.hid x3; have TB := Lib.hid htb; have NB := Lib.hid hnb
  clear x1 x2 x3 htb hnb htc hnc h1 h1' h2 X1
  go_loopw [3] (fun i wr => ∃ k : Nat, k ≤ 18 ∧ i = .int .i64 k ∧ Ext W0 wr) (fun i _ => 18 - (intOf i).toNat)
  case atStart => exact ⟨0, by omega, rfl, Below.refl _ _⟩
  case round =>
    obtain ⟨k, hk, rfl, hx⟩ := hrel
    have K1 := Lib.hid hx; clear hx
    by_cases hk18 : k < 18
    · obtain ⟨wa, rfl⟩ : ∃ wa : World, wa = wr := ⟨_, rfl⟩
      have gk : decide ((k : Int) < 18) = true := decide_eq_true (by omega)
      go_wp2_with fail
      go_loopw [4] (fun i wr => ∃ j : Nat, j ≤ 11 ∧ i = .int .i64 j ∧ Ext W0 wr) (fun i _ => 11 - (intOf i).toNat)
      case atStart => exact ⟨0, by omega, rfl, K1.out⟩
      case round =>
        obtain ⟨j, hj, rfl, hx⟩ := hrel
        have J1 := Lib.hid hx; clear hx
        by_cases hj11 : j < 11
        · obtain ⟨wb, rfl⟩ : ∃ wb : World, wb = wr := ⟨_, rfl⟩
          obtain ⟨t1, ht1, hz1⟩ := TC.out k hk18
          obtain ⟨m1, hm1, bm1⟩ := NC.out j hj11
          have d1 := ExtBy.cell ((J1.out.cell (p := ⟨N1, k, none⟩) TB.out).trans ht1)
          have d2 := ExtBy.cell ((J1.out.cell (p := ⟨N1 + 1, j, none⟩) NB.out).trans hm1)
          have HT1 := Lib.hid ht1; have HM1 := Lib.hid hm1; have BM1 := Lib.hid bm1
          have i0 : (0 : Int) ≤ (k : Int) := by omega
          have i1 : (k : Int) < 18 := by omega
          have i2 : (0 : Int) ≤ (j : Int) := by omega
          have i3 : (j : Int) < 11 := by omega
          have HC1 : Hid (∀ p : ExtBy wb, Calls Tryz.prog 27 #[.int .i64 m1, .string t1] p.W fun e w' => e = .returned (.bool true) ∧ Ext p.W w') := Lib.hid fun p =>
            values_calls HF.out m1 t1 p.W (by omega) ((HV.out.ext X3.out).ext (Ext.trans J1.out p.ext)) (by have := X3.out.size; have := HB.out; have := (Ext.trans J1.out p.ext).size; omega)
          clear ht1 hm1 bm1
          go_wp2_with fail
          refine wp_region_ext (by kernel_rfl) (by kernel_rfl) ?_
          repeat (go_big_quiet_step ((with_reducible exact Calls.ext_of _ (HC1.out _))))
          refine wpQuiet_nil ?_
          intro wc hw'
          have hxc : Ext wb wc := by obtain ⟨p, rfl⟩ := hw'; exact p.ext
          have J2 := Lib.hid (Ext.trans J1.out hxc)
          clear hw' hxc d1 d2 HC1
          go_wp2_with fail
          go_loopw [5] (fun i wr => ∃ n : Nat, n ≤ 5 ∧ i = .int .i64 n ∧ Ext W0 wr) (fun i _ => 5 - (intOf i).toNat)
          case atStart => exact ⟨0, by omega, rfl, J2.out⟩
          case round =>
            obtain ⟨n, hn, rfl, hx⟩ := hrel
            have L1 := Lib.hid hx; clear hx
            by_cases hn5 : n < 5
            · obtain ⟨a1, ha1, hm1⟩ : ∃ a : Nat, a < 18 ∧ ((k : Int) + (j : Int)).tmod 18 = (a : Int) := ⟨(k + j) % 18, Nat.mod_lt _ (by decide), by rw [Int.tmod_eq_emod_of_nonneg (by omega)]; omega⟩
              obtain ⟨a2, ha2, hm2⟩ : ∃ a : Nat, a < 11 ∧ ((j : Int) + 3).tmod 11 = (a : Int) := ⟨(j + 3) % 11, Nat.mod_lt _ (by decide), by rw [Int.tmod_eq_emod_of_nonneg (by omega)]; omega⟩
              obtain ⟨a3, ha3, hm3⟩ : ∃ a : Nat, a < 11 ∧ ((j : Int) + (n : Int)).tmod 11 = (a : Int) := ⟨(j + n) % 11, Nat.mod_lt _ (by decide), by rw [Int.tmod_eq_emod_of_nonneg (by omega)]; omega⟩
              have hw1 : IntKind.i64.wrap ((k : Int) + (j : Int)) = (k : Int) + (j : Int) := IntWalk.i64_in _ (by omega)
              have hw2 : IntKind.i64.wrap ((j : Int) + 3) = (j : Int) + 3 := IntWalk.i64_in _ (by omega)
              have hw3 : IntKind.i64.wrap ((j : Int) + (n : Int)) = (j : Int) + (n : Int) := IntWalk.i64_in _ (by omega)
              have hw4 : IntKind.u8.wrap (n : Int) = (n : Int) := by unfold IntKind.wrap; simp [IntKind.signed, IntKind.bits]; omega
              obtain ⟨t2, ht2, hz2⟩ := TC.out _ ha1
              obtain ⟨e3, he3, be3⟩ := NC.out _ ha2
              obtain ⟨e4, he4, be4⟩ := NC.out _ ha3
              have cmove : ∀ i, wr.cell? ⟨N1, i, none⟩ = W0.cell? ⟨N1, i, none⟩ := fun i => L1.out.cell (p := ⟨N1, i, none⟩) TB.out
              have nmove : ∀ i, wr.cell? ⟨N1 + 1, i, none⟩ = W0.cell? ⟨N1 + 1, i, none⟩ := fun i => L1.out.cell (p := ⟨N1 + 1, i, none⟩) NB.out
              have d1 := (cmove _).trans HT1.out; have d2 := (nmove _).trans HM1.out
              have d3 := (cmove _).trans ht2; have d4 := (nmove _).trans he3; have d5 := (nmove _).trans he4
              have n0 : (0 : Int) ≤ (n : Int) := by omega
              have n1 : (n : Int) < 5 := by omega
              have q1 : (0 : Int) ≤ (a1 : Int) := by omega
              have q2 : (a1 : Int) < 18 := by omega
              have q3 : (0 : Int) ≤ (a2 : Int) := by omega
              have q4 : (a2 : Int) < 11 := by omega
              have q5 : (0 : Int) ≤ (a3 : Int) := by omega
              have q6 : (a3 : Int) < 11 := by omega
              clear cmove nmove ht2 he3 he4
              go_wp2_with fail
              go_still_tail 29, (by kernel_rfl)
              change wpList _ _ _ _ _ wr.drew
              go_wp2_with fail
              have hrow := Rows.fresh (enc := encAct) (sz := 4) (fun _ => rfl) [(⟨(n : Int), ⟨#[107]⟩, t2, m1⟩ : ActD), ⟨3, t1, ⟨#[]⟩, e3⟩] wr 51
              have hext : Ext wr ((wr.alloc (.cells ([(⟨(n : Int), ⟨#[107]⟩, t2, m1⟩ : ActD), ⟨3, t1, ⟨#[]⟩, e3⟩].flatMap encAct).toArray 51)).drew) := ((Below.refl _ wr).alloc (Nat.le_refl _) _).drew
              have hrow' : Rows 4 encAct ((wr.alloc (.cells ([(⟨(n : Int), ⟨#[107]⟩, t2, m1⟩ : ActD), ⟨3, t1, ⟨#[]⟩, e3⟩].flatMap encAct).toArray 51)).drew).heap.size ((wr.alloc (.cells ([(⟨(n : Int), ⟨#[107]⟩, t2, m1⟩ : ActD), ⟨3, t1, ⟨#[]⟩, e3⟩].flatMap encAct).toArray 51)).drew) (some ⟨wr.heap.size, 0, none⟩) [(⟨(n : Int), ⟨#[107]⟩, t2, m1⟩ : ActD), ⟨3, t1, ⟨#[]⟩, e3⟩] := hrow
              change Code.wp _ _ _ _ ((wr.alloc (.cells ([(⟨(n : Int), ⟨#[107]⟩, t2, m1⟩ : ActD), ⟨3, t1, ⟨#[]⟩, e3⟩].flatMap encAct).toArray 51)).drew)
              have hok : ∀ a ∈ [(⟨(n : Int), ⟨#[107]⟩, t2, m1⟩ : ActD), ⟨3, t1, ⟨#[]⟩, e3⟩], a.ok := by
                have b1 := BM1.out
                intro a ha
                simp only [List.mem_cons, List.not_mem_nil, or_false] at ha
                rcases ha with rfl | rfl
                · exact ⟨by simp only; omega, by simp only; omega, by simp [ByteArray.size], by simp only; omega, b1.1, b1.2⟩
                · exact ⟨by simp only; omega, by simp only; omega, by simp only; omega, by simp [ByteArray.size], be3.1, be3.2⟩
              clear hrow
              generalize (wr.alloc _).drew = W2 at hext hrow' ⊢
              generalize wr.heap.size = M at hrow' ⊢
              have m1' := ExtBy.cell ((hext.cell (p := ⟨N1, k, none⟩) (block_lt_of_cell d1)).trans d1)
              have m2' := ExtBy.cell ((hext.cell (p := ⟨N1 + 1, j, none⟩) (block_lt_of_cell d2)).trans d2)
              have m5' := ExtBy.cell ((hext.cell (p := ⟨N1 + 1, a3, none⟩) (block_lt_of_cell d5)).trans d5)
              have L2 := Lib.hid (Ext.trans L1.out hext)
              have HE : Hid (∀ p : ExtBy W2, Ext w p.W) := Lib.hid fun p => Ext.trans X3.out (Ext.trans L2.out p.ext)
              have HT2 : Hid (∀ (p : ExtBy W2) (b : Bool) (y1 y2 y3 y4 : Int), Calls Tryz.prog 3 #[.slice (some ⟨M, 0, none⟩) 2 2, .bool b, .string t1, .string ⟨#[107]⟩, .agg #[.int .i64 y1, .int .i64 y2], .agg #[.int .i64 y3, .int .i64 y4]] p.W fun e w' => e = .returned (.bool true) ∧ Ext p.W w') := Lib.hid fun p b y1 y2 y3 y4 =>
                tells_calls HF.out [(⟨(n : Int), ⟨#[107]⟩, t2, m1⟩ : ActD), ⟨3, t1, ⟨#[]⟩, e3⟩] (some ⟨M, 0, none⟩) 2 b t1 ⟨#[107]⟩ y1 y2 y3 y4 p.W hok (Nat.le_refl _) (by decide) ((hrow'.ext p.ext).mono p.ext.size) (by omega) (HV.out.ext (HE.out p)) (Nat.le_trans HB.out (HE.out p).size)
              have HT1 : Hid (∀ (p : ExtBy W2) (b : Bool) (y1 y2 y3 y4 : Int), Calls Tryz.prog 3 #[.slice (some ⟨M, 0, none⟩) 1 2, .bool b, .string t1, .string ⟨#[107]⟩, .agg #[.int .i64 y1, .int .i64 y2], .agg #[.int .i64 y3, .int .i64 y4]] p.W fun e w' => e = .returned (.bool true) ∧ Ext p.W w') := Lib.hid fun p b y1 y2 y3 y4 =>
                tells_calls HF.out [(⟨(n : Int), ⟨#[107]⟩, t2, m1⟩ : ActD)] (some ⟨M, 0, none⟩) 2 b t1 ⟨#[107]⟩ y1 y2 y3 y4 p.W (fun a ha => hok a (by simp only [List.mem_cons, List.not_mem_nil, or_false] at ha ⊢; exact .inl ha)) (by simp) (by decide) (((hrow'.take 1).ext p.ext).mono p.ext.size) (by omega) (HV.out.ext (HE.out p)) (Nat.le_trans HB.out (HE.out p).size)
              clear hrow' hext hok d1 d2 d3 d4 d5 hw1 hw2 hw4 hm1 hm2
              refine wp_region_ext (by kernel_rfl) (by kernel_rfl) ?_
              repeat (go_big_quiet_step ((first | (with_reducible exact Calls.ext_of _ (HT1.out _ _ _ _ _ _)) | (with_reducible exact Calls.ext_of _ (HT2.out _ _ _ _ _ _)))))
              refine wpQuiet_nil ?_
              intro W3 hw'
              have hx3 : Ext W2 W3 := by obtain ⟨p, rfl⟩ := hw'; exact p.ext
              have L3 := Lib.hid (Ext.trans L2.out hx3)
              clear hw' hx3 m1' m2' m5' HT1 HT2 HE
              go_wp2_with fail
              go_roundw
              case rel => exact ⟨n + 1, by omega, by go_num, L3.out⟩
              case measure => simp [intOf]; omega
            · go_wp2_with fail
              go_roundw
              case rel => exact ⟨j + 1, by omega, by go_num, L1.out⟩
              case measure => simp [intOf]; omega
        · go_wp2_with fail
          go_roundw
          case rel => exact ⟨k + 1, by omega, by go_num, J1.out⟩
          case measure => simp [intOf]; omega
    · have hmk : ∀ W : World, (Instr.makeSlice 22 (.int .i64 7) (.int .i64 7)).run Tryz.prog W = .ok (.slice (some ⟨W.heap.size, 0, none⟩) 7 7) (W.alloc (.cells ((List.replicate 7 (⟨0, ⟨#[]⟩, ⟨#[]⟩, 0⟩ : ActD)).flatMap encAct).toArray 51)) := fun W => by kernel_rfl
      have K2 := Lib.hid (Ext.trans X3.out K1.out)
      go_wp2_with fail
      refine (tells_calls HF.out [] none 0 true ⟨#[53]⟩ ⟨#[]⟩ 0 0 0 0 wr (fun a ha => by cases ha) (Nat.le_refl _) (by decide) (Rows.nil _ _ _ _ _) (by decide) (HV.out.ext K2.out) (Nat.le_trans HB.out K2.out.size)).mono ?_
      rintro e w2 ⟨rfl, hx⟩
      have K3 := Lib.hid (Ext.trans K2.out hx); clear hx
      go_wp2_with fail
      have hrow := Rows.fresh (enc := encAct) (sz := 4) (fun _ => rfl) (List.replicate 7 (⟨0, ⟨#[]⟩, ⟨#[]⟩, 0⟩ : ActD)) w2 51
      have hext : Ext w2 (w2.alloc (.cells ((List.replicate 7 (⟨0, ⟨#[]⟩, ⟨#[]⟩, 0⟩ : ActD)).flatMap encAct).toArray 51)) := (Below.refl _ w2).alloc (Nat.le_refl _) _
      have hrow' := hrow
      generalize hW : w2.alloc (.cells ((List.replicate 7 (⟨0, ⟨#[]⟩, ⟨#[]⟩, 0⟩ : ActD)).flatMap encAct).toArray 51) = W2 at hrow' hext
      change Calls _ _ _ (w2.alloc (.cells ((List.replicate 7 (⟨0, ⟨#[]⟩, ⟨#[]⟩, 0⟩ : ActD)).flatMap encAct).toArray 51)) _
      rw [hW]
      have K4 := Lib.hid (Ext.trans K3.out hext)
      generalize w2.heap.size = M at hrow' ⊢
      have R4 := Lib.hid hrow'
      clear hrow hrow' hext hW
      refine (tells_calls HF.out (List.replicate 7 (⟨0, ⟨#[]⟩, ⟨#[]⟩, 0⟩ : ActD)) (some ⟨M, 0, none⟩) 7 true ⟨#[53]⟩ ⟨#[]⟩ 0 0 0 0 W2 (fun a ha => by
        rw [List.eq_of_mem_replicate ha]; simp [ActD.ok, ByteArray.size]) (by simp) (by decide) R4.out (by decide) (HV.out.ext K4.out) (Nat.le_trans HB.out K4.out.size)).mono ?_
      rintro e w3 ⟨rfl, hx⟩
      have K5 := Lib.hid (Ext.trans K4.out hx); clear hx hmk
      go_wp2_with fail
      go_ret
      exact ⟨ret_bool rfl, K5.out⟩
end Go.Proofs.YtjplmghhleoolaaGreatDoor
