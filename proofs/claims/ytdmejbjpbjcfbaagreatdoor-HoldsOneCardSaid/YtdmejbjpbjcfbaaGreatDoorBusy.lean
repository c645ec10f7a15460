/- Of where there is no table; Busy, over whatever Of answers. -/
import Derived.Test.YtdmejbjpbjcfbaaGreatDoorNilH
import Derived.Test.YtdmejbjpbjcfbaaGreatDoorSorted2
import Derived.Laws.ResultCell
import Derived.Laws.Rows
namespace Go.Proofs.YtdmejbjpbjcfbaaGreatDoor
open Go.RowKit

theorem res_row_tmp {P : Program} {fn : Func} {p u : Tmp} {ty : TypeId} (h : fn.results = #[.cell p ty, .tmp u]) (tmps : Array Value) (w : World) (g : Nat) (t : TypeId) (cs : List Value) (d : TypeDesc)
    (hp : tmps.getD p undef = .pointer (some ⟨g, 0, none⟩)) (hg : Blk w g cs t)
    (hu : P.underlying ty = some d) (hd : (match d with | .struct _ | .array _ _ => true | _ => false) = true) (hi : (P.info? ty).map (·.size) = some cs.toArray.size) :
    (results fn tmps).run P w = .ok (.tuple #[.agg cs.toArray, tmps.getD u undef]) w := by
  rw [results_cell_tmp h, hp]
  have := run_loadVar_row (P := P) w g t ty cs.toArray (0, 0) d hg hu hd hi
  simp [asAddr, this, Result.andThen]

def HoldV.zero : HoldV := ⟨⟨#[]⟩, 0, 0, none, 0, 0, none, 0, 0, false, ⟨#[]⟩⟩
theorem nilOf_calls (p : Option Addr) (k : ByteArray) (w : World) (h : ThereIs w p false) :
    Calls Tryz.prog 14 #[.pointer p, .string k] w fun e w' => e = .returned (.tuple #[.agg (encHV HoldV.zero).toArray, .bool false]) ∧ Ext w w' := by
  have HX := Lib.hid (show Ext w (w.alloc (.cells (encHV HoldV.zero).toArray 35)) from (Below.refl _ w).alloc (Nat.le_refl _) _)
  have HT := Lib.hid (fun W (hW : Ext w W) => there_calls p false W (h.ext hW)); clear h
  simp only [encHV, HoldV.zero] at HX ⊢
  go_enter Tryz.func14, Tryz.ntmps14
  go_wp2_with (go_at_call 48; refine (HT.out _ (by exact HX.out)).mono ?_; rintro e w' ⟨rfl, rfl⟩)
  (try simp only [Exit.inBlock, Exit.then])
  refine bodyPost_ret (res_row_tmp rfl _ _ w.heap.size 35 [.string ⟨#[]⟩, .int .i64 0, .int .i64 0, .slice none 0 0, .slice none 0 0, .bool false, .string ⟨#[]⟩] _ rfl (Blk.new w _ _) Tryz.underlying35 rfl (by kernel_rfl)) rfl ?_
  exact ⟨rfl, HX.out⟩
/-- Who holds the first of some keys that another one holds. -/
def busyL (th : List UInt8 → Bool) (nm : List UInt8 → Int × Int) (c n : Int) : List (List UInt8) → Int × Int × Bool
  | [] => (0, 0, false)
  | k :: ks => if (th k && !((nm k).1 == c && (nm k).2 == n)) = true then ((nm k).1, (nm k).2, true) else busyL th nm c n ks
theorem busyL_drop (th : List UInt8 → Bool) (nm : List UInt8 → Int × Int) (c n : Int) (l : List (List UInt8)) (k : Nat) (x : List UInt8) (h : l[k]? = some x) :
    busyL th nm c n (l.drop k) = if (th x && !((nm x).1 == c && (nm x).2 == n)) = true then ((nm x).1, (nm x).2, true) else busyL th nm c n (l.drop (k + 1)) := by
  obtain ⟨hk, hx⟩ := List.getElem?_eq_some_iff.1 h
  rw [List.drop_eq_getElem_cons hk, hx]; rfl

set_option maxRecDepth 100000 in
set_option maxHeartbeats 3200000 in
theorem busy_calls (th : List UInt8 → Bool) (nm : List UInt8 → Int × Int) (p : Option Addr) (c n : Int) (l : List ByteArray) (ao : Option Addr) (cap : Nat) (w : World) (hl : l.length ≤ 1000000) (hr : Rows 1 encStr w.heap.size w ao l)
    (hof : ∀ (k : ByteArray) W, Ext w W → Calls Tryz.prog 14 #[.pointer p, .string k] W fun e w' => ∃ v : HoldV, e = .returned (.tuple #[.agg (encHV v).toArray, .bool (th k.data.toList)]) ∧ (th k.data.toList = true → nm k.data.toList = (v.cl, v.nm)) ∧ Ext W w') :
    Calls Tryz.prog 15 #[.pointer p, .agg #[.int .i64 c, .int .i64 n], .slice ao l.length cap] w fun e w' => (∃ r, r = busyL th nm c n (sortL (bytesL l)) ∧ e = .returned (.tuple #[.agg #[.int .i64 r.1, .int .i64 r.2.1], .bool r.2.2])) ∧ Ext w w' := by
  have hw2 : ∃ w2, w2 = (w.alloc (.cells #[.int .i64 c, .int .i64 n] 24)).alloc (.cells #[.int .i64 0, .int .i64 0] 24) ∧ Ext w w2 ∧ Blk w2 w.heap.size [.int .i64 c, .int .i64 n] 24 ∧ Blk w2 (w.heap.size + 1) [.int .i64 0, .int .i64 0] 24 := by
    refine ⟨_, rfl, ((Below.refl _ w).alloc (Nat.le_refl _) _).alloc (by simp) _, (Blk.new w _ _).alloc _, ?_⟩
    have := Blk.new (w.alloc (.cells #[.int .i64 c, .int .i64 n] 24)) [.int .i64 0, .int .i64 0] 24
    rwa [World.size_alloc] at this
  obtain ⟨w2, e2, x2, b1, b2⟩ := hw2
  have HV := Lib.hid (fun W => values_calls ao l.length cap W)
  have HS := Lib.hid (fun W (hW : Ext w W) => sortedOf_calls l ao cap W hl ((hr.ext hW).mono hW.size))
  have HO := Lib.hid hof
  have X2 := Lib.hid x2; have B1 := Lib.hid b1; have B2 := Lib.hid b2
  clear hr hof x2 b1 b2
  go_enter Tryz.func15, Tryz.ntmps15
  go_wp2_with fail
  rw [← e2]
  clear e2
  refine (HV.out w2).mono ?_
  rintro e w' ⟨rfl, rfl⟩
  go_wp2_with fail
  refine (HS.out w2 X2.out).mono ?_
  rintro e w3 ⟨v, rfl, hown, hx3⟩
  have X3 := Lib.hid (Ext.trans ((Below.refl _ w2).alloc (Nat.le_refl _) _) hx3)
  have hsl : (sortL (bytesL l)).length = l.length := by unfold sortL bytesL; rw [List.length_mergeSort, List.length_map]
  obtain ⟨zs, hzs⟩ : ∃ zs, sortL (bytesL l) = zs := ⟨_, rfl⟩
  rw [hzs] at hown hsl
  have HZS := Lib.hid hzs; clear hzs
  obtain ⟨sp, sc, rfl, hrow⟩ : ∃ sp sc, v = .slice sp l.length sc ∧ (zs ≠ [] → ∃ b, sp = some ⟨b, 0, none⟩ ∧ b < w3.heap.size ∧ ∀ (j : Nat) (x : List UInt8), zs[j]? = some x → w3.cell? ⟨b, j, none⟩ = some (Proofs.encStr x)) := by
    rcases hown.2 with ⟨rfl, hz⟩ | ⟨g, c', cur, rfl, _, hg, h1, h2, h3, h4⟩
    · exact ⟨none, 0, by rw [hz], fun hne => absurd (List.eq_nil_of_length_eq_zero (by omega)) hne⟩
    · refine ⟨_, c', rfl, fun _ => ⟨g, rfl, lt_of_block hg, fun j x hj => ?_⟩⟩
      rw [cell_of_row w3 g j _ _ _ hg]
      have : (cur.toList.take (l.length * 1))[j]? = some (Proofs.encStr x) := by rw [h4, List.getElem?_map, hj]; rfl
      rw [List.getElem?_take] at this
      split at this
      · simpa using this
      · cases this
  have HROW := Lib.hid hrow; have HO2 := Lib.hid (fun k W (hW : Ext w3 W) => HO.out k W (Ext.trans X2.out (Ext.trans X3.out hW)))
  clear hrow hown hx3 HS HV HO
  have hB1 := B1.out.lt; have hB2 := B2.out.lt
  have hsz3 := X3.out.size
  have hcells : ∀ W, Ext w3 W → W.cell? ⟨w.heap.size, 0, none⟩ = some (.int .i64 c) ∧ W.cell? ⟨w.heap.size, 1, none⟩ = some (.int .i64 n) ∧ Blk W (w.heap.size + 1) [.int .i64 0, .int .i64 0] 24 ∧ Ext w W := fun W hW => by
    have hb := B1.out.ext' (Ext.trans X3.out hW)
    exact ⟨hb.cell 0, hb.cell 1, B2.out.ext' (Ext.trans X3.out hW), Ext.trans X2.out (Ext.trans X3.out hW)⟩
  have HCC := Lib.hid hcells
  have h01 : w.heap.size + 1 < w3.heap.size := by have := hB2; have := X3.out.size; omega
  clear hcells X2 X3 B1 B2 hB1 hB2 hsz3
  go_wp2_with fail
  have hge : w.heap.size ≤ w.heap.size := Nat.le_refl _
  generalize hN1 : w.heap.size + 1 = N1 at HCC h01 ⊢
  have hge1 : w.heap.size ≤ N1 := by omega
  have hlt01 : w.heap.size < N1 := by omega
  clear hN1
  generalize w.heap.size = N0 at HCC hge hlt01 ⊢
  go_loopw [16] (fun i wr => ∃ (k : Nat), k ≤ l.length ∧ i = .int .i64 k ∧ busyL th nm c n zs = busyL th nm c n (zs.drop k) ∧ Ext w3 wr) (fun i _ => l.length - (intOf i).toNat)
  case atStart => exact ⟨0, by omega, rfl, rfl, Below.refl _ _⟩
  case round =>
    obtain ⟨k, hk, rfl, hbu, hx⟩ := hrel
    have K1 := Lib.hid hbu; have K2 := Lib.hid hx
    clear hbu hx
    by_cases hlt : k < l.length
    · obtain ⟨x, hx⟩ : ∃ x, zs[k]? = some x := ⟨_, List.getElem?_eq_getElem (by omega)⟩
      obtain ⟨b, rfl, hb, hcell⟩ := HROW.out (by intro e; rw [e] at hx; simp at hx)
      have hcx := (K2.out.cell (p := ⟨b, k, none⟩) hb).trans (hcell k x hx)
      have hdrop := busyL_drop th nm c n zs k x hx
      have HD := Lib.hid hdrop
      have hof : Calls Tryz.prog 14 #[.pointer p, .string ⟨x.toArray⟩] wr fun e w' => ∃ v : HoldV, e = .returned (.tuple #[.agg (encHV v).toArray, .bool (th x)]) ∧ (th x = true → nm x = (v.cl, v.nm)) ∧ Ext wr w' := HO2.out ⟨x.toArray⟩ wr K2.out
      have HOF := Lib.hid hof
      have i0 : (0 : Int) ≤ (k : Int) := by omega
      have i1 : (k : Int) < (l.length : Int) := by omega
      clear hcell hx hdrop hof
      go_wp2_with fail
      refine HOF.out.mono ?_
      rintro e w4 ⟨v, rfl, hnm, hx4⟩
      obtain ⟨a0, a1, a2, a3⟩ := HCC.out w4 (Ext.trans K2.out hx4)
      have X4 := Lib.hid a3; have A2 := Lib.hid a2; have K4 := Lib.hid (Ext.trans K2.out hx4)
      have hsz4 := hx4.size; have hlt4 := a2.lt
      have f0 := a2.free 0; have f1 := a2.free 1
      have k0 := a2.cell 0; have k1 := a2.cell 1
      simp only [List.getElem?_cons_zero, List.getElem?_cons_succ] at k0 k1
      have HNM := Lib.hid hnm
      clear hx4 a2 a3 hnm HOF
      obtain ⟨key, cl, vn, xo, xn, xc, yo, yn, yc, put, value⟩ := v
      simp only [encHV]
      have hsz3 := K4.out.size
      have hl0 : N0 < w4.heap.size := by omega
      have hl1 : N1 < w4.heap.size := by omega
      have hne0 : N0 ≠ w4.heap.size := by omega
      have hne1 : N1 ≠ w4.heap.size := by omega
      cases hth : th x
      · have hd2 : busyL th nm c n (zs.drop k) = busyL th nm c n (zs.drop (k + 1)) := by rw [HD.out, hth]; rfl
        have HD2 := Lib.hid hd2; have HT := Lib.hid hth; clear hd2 hth
        go_wp2_with fail
        go_roundw
        case rel => exact ⟨k + 1, by omega, by go_num, K1.out.trans HD2.out, K4.out.alloc K4.out.size _⟩
        case measure => simp [intOf]; omega
      · have hnx := HNM.out hth
        simp only at hnx
        cases hc1 : (cl == c) <;> cases hc2 : (vn == n)
        case true.true =>
          have hd2 : busyL th nm c n (zs.drop k) = busyL th nm c n (zs.drop (k + 1)) := by rw [HD.out, hth, hnx]; simp only [hc1, hc2]; rfl
          have HD2 := Lib.hid hd2; have HT := Lib.hid hth; clear hd2 hth hnx
          go_wp2_with fail
          go_roundw
          case rel => exact ⟨k + 1, by omega, by go_num, K1.out.trans HD2.out, K4.out.alloc K4.out.size _⟩
          case measure => simp [intOf]; omega
        all_goals
          have hd2 : busyL th nm c n (zs.drop k) = (cl, vn, true) := by rw [HD.out, hth, hnx]; simp only [hc1, hc2]; rfl
          have HD2 := Lib.hid hd2; have HT := Lib.hid hth; clear hd2 hth hnx
          go_wp2_with fail
          (try simp only [Exit.inBlock, Exit.then])
          refine bodyPost_ret (res_row_tmp rfl _ _ N1 24 [.int .i64 cl, .int .i64 vn] _ rfl (((A2.out.set 0 _).set 1 _).alloc _) Tryz.underlying24 rfl (by kernel_rfl)) rfl ?_
          have hxe := (X4.out.setCell (p := ⟨N1, 0, none⟩) hge1 (.int .i64 cl)).setCell (p := ⟨N1, 1, none⟩) hge1 (.int .i64 vn)
          exact ⟨by rw [HZS.out, K1.out, HD2.out]; first | rfl | exact ⟨_, rfl, rfl⟩, hxe.alloc hxe.size _⟩
    · obtain rfl : k = l.length := by omega
      obtain ⟨a0, a1, a2, a3⟩ := HCC.out wr K2.out
      have f0 := a2.free 0; have f1 := a2.free 1
      have k0 := a2.cell 0; have k1 := a2.cell 1
      simp only [List.getElem?_cons_zero, List.getElem?_cons_succ] at k0 k1
      have hlt4 := a2.lt
      have k0 := a2.cell 0; have k1 := a2.cell 1
      simp only [List.getElem?_cons_zero, List.getElem?_cons_succ] at k0 k1
      have A2 := Lib.hid a2; have X4 := Lib.hid a3
      have hz : busyL th nm c n zs = (0, 0, false) := by rw [K1.out, List.drop_of_length_le (by omega)]; rfl
      have HZ := Lib.hid hz
      clear a2 a3 hz
      go_wp2_with fail
      (try simp only [Exit.inBlock, Exit.then])
      refine bodyPost_ret (res_row_tmp rfl _ _ N1 24 [.int .i64 0, .int .i64 0] _ rfl ((A2.out.set 0 _).set 1 _) Tryz.underlying24 rfl (by kernel_rfl)) rfl ?_
      exact ⟨by rw [HZS.out, HZ.out]; first | rfl | exact ⟨_, rfl, rfl⟩, (X4.out.setCell (p := ⟨N1, 0, none⟩) hge1 _).setCell (p := ⟨N1, 1, none⟩) hge1 _⟩
end Go.Proofs.YtdmejbjpbjcfbaaGreatDoor
