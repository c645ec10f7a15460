/- tract: span.Cut. -/
import Derived.Test.YtmpmggejhnmakaaGreatDoorZ26
import Derived.Test.YtmpmggejhnmakaaGreatDoorZ11
import Derived.Test.YtmpmggejhnmakaaGreatDoorZ14
import Derived.Test.YtmpmggejhnmakaaGreatDoorZ28
import Derived.Deep.DeepMust
namespace Go.Proofs.YtmpmggejhnmakaaGreatDoor
open Go.RowKit
open Go.Sort (Holds putRow grow mapBlock heap_grow_old)
abbrev SpZ := ByteArray × ByteArray
def encSp (s : SpZ) : List Value := [.string s.1, .string s.2]
theorem infoSpan : (Tryz.prog.info? 30).map (fun i => (i.zero, i.size, i.bytes)) = some (some (.agg #[.string ⟨#[]⟩, .string ⟨#[]⟩]), 2, 32) := by kernel_rfl
def cutStep (hi : ByteArray) (st : List SpZ × ByteArray) (k : List UInt8) : List SpZ × ByteArray :=
 if (hasB st.2.data.toList hi.data.toList k && !(k == st.2.data.toList)) = true then (st.1 ++ [(st.2, ⟨k.toArray⟩)], ⟨k.toArray⟩) else st
def cutFold (lo hi : ByteArray) (K : List (List UInt8)) : List SpZ × ByteArray := K.foldl (cutStep hi) ([], lo)
def cutKs (l : List ByteArray) : List (List UInt8) := Lib.compact (sortL (bytesL l))
def cutD (lo hi : ByteArray) (l : List ByteArray) : List SpZ := (cutFold lo hi (cutKs l)).1 ++ [((cutFold lo hi (cutKs l)).2, hi)]
theorem cutFold_succ (lo hi : ByteArray) (K : List (List UInt8)) (j : Nat) (x : List UInt8) (h : K[j]? = some x) : cutFold lo hi (K.take (j + 1)) = cutStep hi (cutFold lo hi (K.take j)) x := by
 unfold cutFold
 rw [List.take_add_one, h, List.foldl_append]
 rfl
theorem cutFold_small (hi : ByteArray) (B : Nat) : ∀ (K : List (List UInt8)) (st : List SpZ × ByteArray), st.2.size ≤ B → (∀ k ∈ K, k.length ≤ B) → (K.foldl (cutStep hi) st).2.size ≤ B := by
 intro K
 induction K with
 | nil => intro st h _; exact h
 | cons k K ih =>
   intro st h hk
   rw [List.foldl_cons]
   refine ih _ ?_ (fun x hx => hk x (List.mem_cons_of_mem _ hx))
   unfold cutStep
   split
   · have := hk k (List.mem_cons_self ..)
     show (ByteArray.mk k.toArray).size ≤ B
     simpa [ByteArray.size] using this
   · exact h
theorem cutFold_len (hi : ByteArray) : ∀ (K : List (List UInt8)) (st : List SpZ × ByteArray), (K.foldl (cutStep hi) st).1.length ≤ st.1.length + K.length := by
 intro K
 induction K with
 | nil => intro st; exact Nat.le_refl _
 | cons k K ih =>
   intro st
   rw [List.foldl_cons]
   refine Nat.le_trans (ih _) ?_
   unfold cutStep
   split
   · rw [List.length_append, List.length_cons, List.length_cons, List.length_nil]; omega
   · rw [List.length_cons]; omega
theorem cutKs_mem {l : List ByteArray} {k : List UInt8} (h : k ∈ cutKs l) : ∃ s ∈ l, s.data.toList = k := by
 unfold cutKs at h
 have hs : (sortL (bytesL l)).Pairwise (fun a b => a ≤ b) := sortT_pw (bytesL l)
 rw [(compact_spec _ hs).2] at h
 unfold sortL at h
 rw [List.mem_mergeSort] at h
 unfold bytesL at h
 exact List.mem_map.1 h
theorem map_flatT : ∀ l : List (List UInt8), l.map Go.Proofs.encStr = l.flatMap encT
 | [] => rfl
 | _ :: l => by rw [List.map_cons, List.flatMap_cons, map_flatT l]; rfl
set_option maxRecDepth 100000 in
set_option maxHeartbeats 3200000 in
theorem spanCut_calls (lo hi : ByteArray) (l : List ByteArray) (ao : Option Addr) (cap : Nat) (w : World) (hl : l.length ≤ 1000000) (hne : l ≠ []) (hr : Rows 1 encStr w.heap.size w ao l) (h1 : lo.size ≤ 140737488351232) (h2 : hi.size ≤ 140737488351232) (h3 : ∀ s ∈ l, s.size ≤ 140737488351232) (hs : spanB lo.data.toList hi.data.toList = true) :
 Calls Tryz.prog 49 #[.agg #[.string lo, .string hi], .slice ao l.length cap] w fun e w' => ∃ rv, e = .returned rv ∧ w'.ownsRow 0 30 2 rv (cutD lo hi l).length ((cutD lo hi l).flatMap encSp) ∧ (∀ j, rv.ownBlock = some j → w.heap.size ≤ j) ∧ Ext w w' := by
 obtain ⟨i0, hi0, hz0, hz1, hz2⟩ := info_parts infoSpan
 have HI : Hid _ := Lib.hid hi0
 have HRT : Hid (∀ W, Calls Tryz.prog 11 #[.agg #[.string lo, .string hi]] W fun e w' => e = .returned (.bool true) ∧ Ext W w') := Lib.hid (fun W => by rw [← hs]; exact spanRight_calls lo hi W h1 h2)
 have HV := Lib.hid (fun W => values_calls ao l.length cap W)
 have HS := Lib.hid (fun W (hW : Ext w W) => sortedOf_calls l ao cap W hl ((hr.ext hW).mono hW.size))
 have X1 : Hid (Ext w (w.alloc (.cells #[.string lo, .string hi] 30))) := Lib.hid ((Below.refl _ w).alloc (Nat.le_refl _) _)
 have B1 : Hid (Blk (w.alloc (.cells #[.string lo, .string hi] 30)) w.heap.size [.string lo, .string hi] 30) := Lib.hid (Blk.new w _ _)
 have HNE : Hid (l.length ≠ 0) := Lib.hid (by intro e; exact hne (List.eq_nil_of_length_eq_zero e))
 have HK3 : Hid (∀ k ∈ cutKs l, k.length ≤ 140737488351232) := Lib.hid (by
  intro k hk
  obtain ⟨s, hs1, rfl⟩ := cutKs_mem hk
  have := h3 s hs1
  rw [Array.length_toList]
  exact this)
 clear hr hne h3 hs
 have c0 := B1.out.cell 0; have c1 := B1.out.cell 1
 simp only [List.getElem?_cons_zero, List.getElem?_cons_succ] at c0 c1
 go_enter Tryz.func49, Tryz.ntmps49
 go_wp2_with fail
 refine (HRT.out _).mono ?_
 rintro e w1 ⟨rfl, hx1⟩
 have Y1 := Lib.hid hx1
 clear hx1 c0 c1
 go_wp2_with fail
 refine (HV.out _).mono ?_
 rintro e w2 ⟨rfl, rfl⟩
 go_wp2_with fail
 refine (HS.out _ (Ext.trans X1.out Y1.out)).mono ?_
 rintro e w3 ⟨v, rfl, ho3, hx3⟩
 have hx13 : Ext w1 w3 := Ext.trans ((Below.refl _ w1).alloc (Nat.le_refl _) _) hx3
 have hsl : (sortL (bytesL l)).length = l.length := by unfold sortL bytesL; rw [List.length_mergeSort, List.length_map]
 rcases ho3.2 with ⟨rfl, hz⟩ | ⟨g, cap3, cur, rfl, hng, hgb, hle, -, -, -⟩
 · exact absurd hz HNE.out
 rw [map_flatT] at ho3
 have hHd := holds_own (sortL (bytesL l)) ho3 hsl.symm
 have hcomp := Tryz.slices_Compact_string g 0 cap3 (sortL (bytesL l)) w3 hHd (by omega) (by omega)
 rw [hsl] at hcomp
 have HC := Lib.hid hcomp; have HH := Lib.hid hHd; have HSL := Lib.hid hsl; have HNG := Lib.hid hng; have X13 := Lib.hid hx13
 have hg3 : g < w3.heap.size := lt_of_block hgb
 have HG3 := Lib.hid hg3
 clear hcomp hHd hsl hng hx13 hx3 ho3 hgb hle HV HS HRT hg3
 go_wp2_with fail
 refine HC.out.mono ?_
 rintro e w4 ⟨rfl, q, hw4⟩
 have hcl := compact_len (sortL (bytesL l))
 have hh4 : Holds Proofs.encStr w4 g 0 (cutKs l ++ List.replicate ((sortL (bytesL l)).length - (cutKs l).length) []).toArray := by
  have e : l.length = (sortL (bytesL l)).length := HSL.out.symm
  unfold cutKs
  rw [hw4, e]
  exact Sort.holds_putRow _ _ _ _ _ _ (Sort.holds_ahead _ _ _ _ _ _ HH.out) (by simp; omega)
 have hb4 : Ext w1 w4 := by
  refine Below.trans X13.out ?_
  rw [hw4]; exact below_putRow _ _ _ _ _ _ HNG.out
 have hg4 : g < w4.heap.size := by rw [hw4]; simp; exact HG3.out
 have hrows : Rows 1 encT w4.heap.size w4 (some ⟨g, 0, none⟩) (cutKs l) := rows_holds hg4 hh4 _ (fun i x hx => by
  rw [List.getElem?_toArray, List.getElem?_append_left (List.getElem?_eq_some_iff.1 hx).1]
  exact hx)
 have hsb := B1.out.lt
 have hsz1 := Y1.out.size
 have hgsb : g ≠ w.heap.size := by have := HNG.out; omega
 have hnr : NRows 1 encT (fun j => j = w.heap.size) w4 (some ⟨g, 0, none⟩) (cutKs l) := fun hne => by
  obtain ⟨b, off, he, hb, hc⟩ := hrows hne
  cases he
  exact ⟨_, _, rfl, hb, hgsb, hc⟩
 have NR := Lib.hid hnr
 have X4 : Hid (Ext w w4) := Lib.hid (Ext.trans X1.out (Ext.trans Y1.out hb4))
 have B4 := Lib.hid ((B1.out.ext' Y1.out).ext' hb4)
 have HKL : Hid ((cutKs l).length ≤ 1000000) := Lib.hid (by unfold cutKs; have := HSL.out; omega)
 have hkl : (Lib.compact (sortL (bytesL l))).length = (cutKs l).length := rfl
 rw [hkl]
 have hsb4 : w.heap.size < w4.heap.size := B4.out.lt
 generalize hK : cutKs l = K at *
 have HCD : Hid (cutD lo hi l = (cutFold lo hi K).1 ++ [((cutFold lo hi K).2, hi)]) := Lib.hid (by unfold cutD; rw [hK])
 clear hh4 hb4 hw4 hrows hnr hkl hcl hK HC HH HNG HSL X13 HG3 hgsb hsz1 hsb hg4 B1 X1 Y1
 go_wp2_with fail
 go_loopw [5, 7, 16] (fun v kk i wr => ∃ (j : Nat), j ≤ K.length ∧ i = .int .i64 j ∧ wr.ownsRow 0 30 2 v (cutFold lo hi (K.take j)).1.length ((cutFold lo hi (K.take j)).1.flatMap encSp) ∧ (∀ b, v.ownBlock = some b → w4.heap.size ≤ b) ∧ Blk wr w.heap.size [.string (cutFold lo hi (K.take j)).2, .string hi] 30 ∧ But (fun b => b = w.heap.size) w4 wr) (fun _ _ i _ => K.length - (intOf i).toNat)
 case atStart => exact ⟨0, by omega, rfl, World.ownsRow_nil _ _ _ _, by simp [Value.ownBlock], B4.out, But.refl _ _⟩
 case round =>
  obtain ⟨j, hj, rfl, hown, hnew, hblk, hbut⟩ := hrel
  have K1 := Lib.hid hown; have K2 := Lib.hid hnew; have K3 := Lib.hid hblk; have K4 := Lib.hid hbut
  clear hown hnew hblk hbut
  have hkl := HKL.out
  have hsm : (cutFold lo hi (K.take j)).2.size ≤ 140737488351232 := cutFold_small hi _ _ _ h1 (fun k hk => HK3.out k (List.mem_of_mem_take hk))
  have hln : (cutFold lo hi (K.take j)).1.length ≤ 1000000 := by
   have := cutFold_len hi (K.take j) ([], lo)
   have hk := HKL.out
   have e : (K.take j).length ≤ K.length := by rw [List.length_take]; exact Nat.min_le_right _ _
   unfold cutFold
   simp only [List.length_nil, Nat.zero_add] at this
   omega
  by_cases hlt : j < K.length
  · obtain ⟨x, hx⟩ : ∃ x, K[j]? = some x := ⟨_, List.getElem?_eq_getElem hlt⟩
    have hstep := cutFold_succ lo hi K j x hx
    have hxs : x.length ≤ 140737488351232 := HK3.out x (List.mem_of_getElem? hx)
    obtain ⟨b, off, he, hb, hcell⟩ := (NR.out.but K4.out (fun _ _ e => e)).rows (by intro e; rw [e] at hlt; simp at hlt)
    cases he
    have hcx := hcell j x hx 0 (.string ⟨x.toArray⟩) rfl
    simp only [Nat.mul_one, Nat.add_zero, Nat.zero_add] at hcx
    generalize cutFold lo hi (K.take j) = st at *
    obtain ⟨q, lo'⟩ := st
    have HST := Lib.hid hstep
    have c0 := K3.out.cell 0; have c1 := K3.out.cell 1
    simp only [List.getElem?_cons_zero, List.getElem?_cons_succ] at c0 c1
    have HHS : Hid (∀ W, Calls Tryz.prog 109 #[.agg #[.string lo', .string hi], .string ⟨x.toArray⟩] W fun e w' => e = .returned (.bool (hasB lo'.data.toList hi.data.toList x)) ∧ Ext W w') := Lib.hid (fun W => has_calls lo' hi ⟨x.toArray⟩ W hsm h2 (by show x.toArray.size ≤ _; rw [List.size_toArray]; exact hxs))
    have hsbr := K3.out.lt
    have i1 : (0 : Int) ≤ (j : Int) := by omega
    have i2 : (j : Int) < (K.length : Int) := by omega
    have HLN : Hid (q.length ≤ 1000000) := Lib.hid hln
    clear hcell hx hstep hxs hln hsm
    cases hb1 : hasB lo'.data.toList hi.data.toList x
    · rw [hb1] at HHS
      have hst2 : cutFold lo hi (K.take (j + 1)) = (q, lo') := by rw [HST.out]; unfold cutStep; simp only [hb1, Bool.false_and, if_neg Bool.false_ne_true]
      have HST2 := Lib.hid hst2
      clear hst2 hb1
      go_wp2_with fail
      refine (HHS.out _).mono ?_
      rintro e w5 ⟨rfl, hx5⟩
      have X5 := Lib.hid hx5
      clear hx5 c0 c1
      go_wp2_with fail
      go_roundw
      case rel => exact ⟨j + 1, by omega, by go_num, by rw [HST2.out]; exact own_ext K1.out X5.out, K2.out, by rw [HST2.out]; exact K3.out.ext' X5.out, K4.out.trans (X5.out.but (fun _ => False)) (fun _ _ e => e) (fun _ _ e => e.elim)⟩
      case measure => simp [intOf]; omega
    · rw [hb1] at HHS
      cases hq : (x == lo'.toList)
      · have hst2 : cutFold lo hi (K.take (j + 1)) = (q ++ [(lo', ⟨x.toArray⟩)], ⟨x.toArray⟩) := by
         have hq' : (x == lo'.data.toList) = false := by rw [Lib.toList_data] at hq; exact hq
         rw [HST.out]; unfold cutStep; simp only [hb1, hq', Bool.not_false, Bool.and_self, if_true]
        have HST2 := Lib.hid hst2
        clear hst2 hb1
        go_wp2_with fail
        refine (HHS.out _).mono ?_
        rintro e w5 ⟨rfl, hx5⟩
        have E6 : Hid (Ext wr (w5.alloc (.cells #[.string lo', .string ⟨x.toArray⟩] 30))) := Lib.hid (Ext.trans hx5 ((Below.refl _ w5).alloc (Nat.le_refl _) _))
        have CN := Lib.hid (cells_new w5 [.string lo', .string ⟨x.toArray⟩] 30)
        have hb5 := K3.out.ext' hx5
        have d0 := hb5.cell 0; have d1 := hb5.cell 1
        simp only [List.getElem?_cons_zero, List.getElem?_cons_succ] at d0 d1
        have hl5 := hb5.lt
        have hsb5 : w.heap.size ≠ w5.heap.size := by omega
        have hv : Hid (∀ b, u5.ownBlock = some b → b ≠ w.heap.size) := Lib.hid (fun b h e => by have := K2.out b h; omega)
        clear hx5 c0 c1 hb5
        go_wp2_with (at_builtin; go_must (refine wpList_append_at _ rfl _ _ 108 rfl 30 i0 _ 2 32 Tryz.underlying108 HI.out hz0 hz1 hz2 rfl (by decide) _ q.length (q.flatMap encSp) rfl (own_ext K1.out E6.out) ⟨w5.heap.size, 0, none⟩ 1 1 (encSp (lo', ⟨x.toArray⟩)) rfl rfl CN.out (by simp [encSp, Value.oneCell']) (by decide) (by unfold maxLen; have := HLN.out; omega) (by have := HLN.out; omega) ?_; intro g2 cap2 w6 hown' hbut hkept; have b6 := (K3.out.ext' E6.out).but hbut (fun e => hv.out _ e rfl); have f6 := b6.free 0; have f0 := b6.cell 0; have hl6 := b6.lt; simp only [List.getElem?_cons_zero] at f0; have B6 := Lib.hid b6; have Z1 := Lib.hid hown'; have Z2 := Lib.hid hbut; have Z3 := Lib.hid hkept; clear hown' hbut hkept b6))
        go_roundw
        case rel =>
         have hrow : ∀ b, (Value.slice (some ⟨g2, 0, none⟩) (q.length + 1) cap2).ownBlock = some b → u5.ownBlock = some b ∨ wr.heap.size ≤ b := fun b h => by
          rcases Z3.out b h with e | e
          · exact .inl e
          · have := E6.out.size; right; omega
         refine ⟨j + 1, by omega, by go_num, ?_, ?_, ?_, ?_⟩
         · rw [HST2.out]
           have hz := own_but Z1.out ((But.refl (fun b => b = w.heap.size) w6).setCell (p := ⟨w.heap.size, 0, none⟩) (fun _ => rfl) (.string ⟨x.toArray⟩)) (fun b h e => by
            rcases hrow b h with h | h
            · exact hv.out b h e
            · omega)
           rw [List.length_append, List.flatMap_append]
           simpa [encSp] using hz
         · intro b h
           rcases hrow b h with h | h
           · exact K2.out b h
           · have := K4.out.size; omega
         · rw [HST2.out]
           exact B6.out.set 0 (.string ⟨x.toArray⟩)
         · exact (((K4.out.trans (U := fun b => b = w.heap.size) (E6.out.but (fun _ => False)) (fun _ _ e => e) (fun _ _ e => e.elim)).trans (U := fun b => b = w.heap.size) Z2.out (fun _ _ e => e) (fun b hb e => absurd (K2.out b e) (by omega)))).setCell (p := ⟨w.heap.size, 0, none⟩) (fun _ => rfl) _
        case measure => simp [intOf]; omega
      · have hst2 : cutFold lo hi (K.take (j + 1)) = (q, lo') := by
         have hq' : (x == lo'.data.toList) = true := by rw [Lib.toList_data] at hq; exact hq
         rw [HST.out]; unfold cutStep; simp only [hb1, hq', Bool.not_true, Bool.and_false, if_neg Bool.false_ne_true]
        have HST2 := Lib.hid hst2
        clear hst2 hb1
        go_wp2_with fail
        refine (HHS.out _).mono ?_
        rintro e w5 ⟨rfl, hx5⟩
        have X5 := Lib.hid hx5
        have hb5 := K3.out.ext' hx5
        have d0 := hb5.cell 0; have d1 := hb5.cell 1
        simp only [List.getElem?_cons_zero, List.getElem?_cons_succ] at d0 d1
        clear hx5 c0 c1 hb5
        go_wp2_with fail
        go_roundw
        case rel => exact ⟨j + 1, by omega, by go_num, by rw [HST2.out]; exact own_ext K1.out X5.out, K2.out, by rw [HST2.out]; exact K3.out.ext' X5.out, K4.out.trans (X5.out.but (fun _ => False)) (fun _ _ e => e) (fun _ _ e => e.elim)⟩
        case measure => simp [intOf]; omega
  · obtain rfl : j = K.length := by omega
    have hall : K.take K.length = K := List.take_length
    rw [hall] at K1 K3
    have HLN : Hid ((cutFold lo hi K).1.length ≤ 1000000) := Lib.hid (by rw [hall] at hln; exact hln)
    clear hall hln hsm
    generalize cutFold lo hi K = st at *
    obtain ⟨q, lo'⟩ := st
    have c0 := K3.out.cell 0; have c1 := K3.out.cell 1
    simp only [List.getElem?_cons_zero, List.getElem?_cons_succ] at c0 c1
    have hsbr := K3.out.lt
    have hsz := K4.out.size
    have E6 : Hid (Ext wr (wr.alloc (.cells #[.string lo', .string hi] 30))) := Lib.hid ((Below.refl _ wr).alloc (Nat.le_refl _) _)
    have CN := Lib.hid (cells_new wr [.string lo', .string hi] 30)
    go_wp2_with (at_builtin; go_must (refine wpList_append_at _ rfl _ _ 108 rfl 30 i0 _ 2 32 Tryz.underlying108 HI.out hz0 hz1 hz2 rfl (by decide) _ q.length (q.flatMap encSp) rfl (own_ext K1.out E6.out) ⟨wr.heap.size, 0, none⟩ 1 1 (encSp (lo', hi)) rfl rfl CN.out (by simp [encSp, Value.oneCell']) (by decide) (by unfold maxLen; have := HLN.out; simp only at this; omega) (by have := HLN.out; simp only at this; omega) ?_; intro g2 cap2 w6 hown' hbut hkept; have Z1 := Lib.hid hown'; have Z2 := Lib.hid hbut; have Z3 := Lib.hid hkept; clear hown' hbut hkept))
    go_ret
    have hrow : ∀ b, (Value.slice (some ⟨g2, 0, none⟩) (q.length + 1) cap2).ownBlock = some b → u5.ownBlock = some b ∨ wr.heap.size ≤ b := fun b h => by
     rcases Z3.out b h with e | e
     · exact .inl e
     · have := E6.out.size; right; omega
    refine ⟨_, rfl, ?_, ?_, ?_⟩
    · rw [HCD.out, List.length_append, List.flatMap_append]
      simpa [encSp] using Z1.out
    · intro b h
      rcases hrow b h with h | h
      · have := K2.out b h; omega
      · omega
    · have hk : But (fun b => w.heap.size ≤ b) w w6 := (((X4.out.but (fun _ => False)).trans (U := fun b => w.heap.size ≤ b) K4.out (fun _ _ e => e.elim) (fun b _ e => by rw [e]; exact Nat.le_refl _)).trans (U := fun b => w.heap.size ≤ b) (E6.out.but (fun _ => False)) (fun _ _ e => e) (fun _ _ e => e.elim)).trans (U := fun b => w.heap.size ≤ b) Z2.out (fun _ _ e => e) (fun b _ e => by have := K2.out b e; omega)
      exact hk.ext (fun b hb e => by omega)
end Go.Proofs.YtmpmggejhnmakaaGreatDoor
