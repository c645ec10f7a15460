/- A deed over a tract: does, at the kinds that TractHeld reaches. -/
import Derived.Test.YtmpmggejhnmakaaGreatDoorZ41
import Derived.IntWalk
namespace Go.Proofs.YtmpmggejhnmakaaGreatDoor
open Go.RowKit
def pickD (x : Int) : Int := if x.tmod 9 < 0 then x.tmod 9 + 9 else x.tmod 9
theorem pickD_bd (x : Int) : 0 ≤ pickD x ∧ pickD x < 9 := by
 have hm1 := Int.tmod_lt_of_pos x (show 0 < (9 : Int) by omega)
 have hm0 : -9 < x.tmod 9 := by
  have h := Int.lt_tmod_of_pos x (show 0 < (9 : Int) by omega)
  omega
 unfold pickD
 split <;> omega
theorem pickN_calls (x n : Int) (w : World) (hn : n = 9) : Calls Tryz.prog 12 #[.int .i64 x, .int .i64 n] w fun e w' => e = .returned (.int .i64 (pickD x)) ∧ w = w' := by
 have hn0 : 1 ≤ n := by omega
 have hn1 : n ≤ 1000000 := by omega
 have hp : pickD x = if x.tmod n < 0 then x.tmod n + n else x.tmod n := by rw [hn]; rfl
 have HP := Lib.hid hp
 clear hp hn
 have hm1 := Int.tmod_lt_of_pos x (show 0 < n by omega)
 have hm0 : -n < x.tmod n := by
  have h := Int.lt_tmod_of_pos x (show 0 < n by omega)
  omega
 go_enter Tryz.func12, Tryz.ntmps12
 go_wp2
 all_goals go_ret
 · exact ⟨ret_int (by rw [HP.out, if_pos (by omega)]), rfl⟩
 · exact ⟨ret_int (by rw [HP.out, if_neg (by omega)]), rfl⟩
structure DeedZ where
 kind : Int
 cl : Int
 nm : Int
 ep : Int
 ao : Option Addr
 ac : Nat
 acts : List ActD
 commit : Bool
 scheme : Int
 lo : ByteArray
 hi : ByteArray
 bo : Option Addr
 bc : Nat
 bytes : List UInt8
def encDeed (z : DeedZ) : List Value := [.int .i64 z.kind, .int .i64 z.cl, .int .i64 z.nm, .int .i64 z.ep, .slice z.ao z.acts.length z.ac, .bool z.commit, .int .i64 z.scheme, .string z.lo, .string z.hi, .slice z.bo z.bytes.length z.bc]
def doesD (z : DeedZ) (d : TrD) : Int × TrD :=
 if pickD z.kind = 2 then (finE z.cl z.nm z.commit d, finD z.cl z.nm z.commit d)
 else if pickD z.kind = 3 then ((frzD z.scheme z.lo z.hi z.ep d).2.1, (frzD z.scheme z.lo z.hi z.ep d).2.2)
 else if pickD z.kind = 4 then ((beforeD z.scheme true d.ended).1, thawD z.scheme d)
 else prepD z.cl z.nm z.ep z.acts d
set_option maxRecDepth 100000 in
set_option maxHeartbeats 3200000 in
theorem does_calls {B : Nat} (k : TrK) (d : TrD) (z : DeedZ) (w : World) (hv : LV B w) (hB : B ≤ w.heap.size) (T : TrIs w k d) (hnr : NRows 4 encAct k.owns w z.ao z.acts) (hl : z.acts.length ≤ 1000) (hok : ∀ a ∈ z.acts, a.ok) (hks : ∀ a ∈ z.acts, a.key.size ≤ 140737488351232)
 (hc : -9223372036854775808 ≤ z.cl ∧ z.cl ≤ 9223372036854775807) (hlo : z.lo.size ≤ 1000) (hhi : z.hi.size ≤ 1000) (hfew : d.parts.length ≤ 990) (h4 : pickD z.kind ≤ 4) :
 Calls Tryz.prog 15 #[.pointer (some ⟨k.tb, 0, none⟩), .agg (encDeed z).toArray] w fun e w' => e = .returned (.int .i64 (doesD z d).1) ∧ TrTo k (doesD z d).2 w w' := by
 obtain ⟨w1, hw1⟩ : ∃ w1, w1 = w.alloc (.cells (encDeed z).toArray 39) := ⟨_, rfl⟩
 have hx1 : Ext w w1 := by rw [hw1]; exact (Below.refl _ w).alloc (Nat.le_refl _) _
 have hb1 : Blk w1 w.heap.size (encDeed z) 39 := by rw [hw1]; exact Blk.new w _ _
 obtain ⟨p, hp⟩ : ∃ p, p = pickD z.kind := ⟨_, rfl⟩
 have hbd := pickD_bd z.kind
 have FIN := Lib.hid (finish_calls k d z.cl z.nm z.commit w1 (T.ext hx1))
 have FRZ := Lib.hid (freeze_calls k d z.scheme z.lo z.hi z.ep w1 (T.ext hx1) hlo hhi hfew)
 have THW := Lib.hid (thaw_calls k d z.scheme w1 (T.ext hx1))
 have PRE := Lib.hid (prepare_calls k d z.cl z.nm z.ep z.acts z.ao z.ac w1 (hv.ext hx1) (Nat.le_trans hB hx1.size) (T.ext hx1) hl hok (hnr.ext hx1) hks hc)
 have PK := Lib.hid (pickN_calls z.kind 9 w1 rfl)
 rw [← hp] at hbd h4 PK
 have HP := Lib.hid hp; have X1 := Lib.hid hx1; have W1 := Lib.hid hw1
 have h0 := hb1.cell 0; have h1 := hb1.cell 1; have h2 := hb1.cell 2; have h3 := hb1.cell 3; have h4c := hb1.cell 4; have h5 := hb1.cell 5; have h6 := hb1.cell 6; have h7 := hb1.cell 7; have h8 := hb1.cell 8
 have HD : Hid (doesD z d = if p = 2 then (finE z.cl z.nm z.commit d, finD z.cl z.nm z.commit d)
  else if p = 3 then ((frzD z.scheme z.lo z.hi z.ep d).2.1, (frzD z.scheme z.lo z.hi z.ep d).2.2)
  else if p = 4 then ((beforeD z.scheme true d.ended).1, thawD z.scheme d)
  else prepD z.cl z.nm z.ep z.acts d) := Lib.hid (by rw [hp]; rfl)
 rw [HD.out]
 clear HD hp hx1 hw1 hb1 hv hB T hnr hok hks hlo hhi hc hfew HP
 obtain ⟨kd, cl, nm, ep, zo, zc, acts, cm, sch, lo, hi, bo, bc, bytes⟩ := z
 simp only [encDeed, List.getElem?_cons_zero, List.getElem?_cons_succ] at h0 h1 h2 h3 h4c h5 h6 h7 h8 FIN FRZ THW PRE PK W1 ⊢
 rcases (by omega : p = 0 ∨ p = 1 ∨ p = 2 ∨ p = 3 ∨ p = 4) with rfl | rfl | rfl | rfl | rfl
 all_goals
  go_enter Tryz.func15, Tryz.ntmps15
  go_upto_region 1 with fail
  rw [← W1.out]
  clear W1 hbd h4
  go_wp2_with fail
  refine PK.out.mono ?_
  rintro e w' ⟨rfl, rfl⟩
  go_wp2_with fail
 · refine PRE.out.mono ?_
   rintro e w2 ⟨rv, n1, n2, rfl, ht⟩
   have HT := Lib.hid ht
   clear ht
   go_wp2_with fail
   go_ret
   exact ⟨rfl, (HT.out.pre X1.out).post ((Below.refl _ _).alloc (Nat.le_refl _) _)⟩
 · refine PRE.out.mono ?_
   rintro e w2 ⟨rv, n1, n2, rfl, ht⟩
   have HT := Lib.hid ht
   clear ht
   go_wp2_with fail
   go_ret
   exact ⟨rfl, (HT.out.pre X1.out).post ((Below.refl _ _).alloc (Nat.le_refl _) _)⟩
 · refine FIN.out.mono ?_
   rintro e w2 ⟨rfl, ht⟩
   have HT := Lib.hid ht
   clear ht
   go_wp2_with fail
   go_ret
   exact ⟨rfl, HT.out.pre X1.out⟩
 · refine FRZ.out.mono ?_
   rintro e w2 ⟨u, rfl, ho, hj, ht⟩
   obtain ⟨uo, uc, rfl⟩ := own_slice ho
   have HT := Lib.hid ht
   clear ht ho hj
   go_wp2_with fail
   go_ret
   exact ⟨rfl, HT.out.pre X1.out⟩
 · refine THW.out.mono ?_
   rintro e w2 ⟨rfl, ht⟩
   have HT := Lib.hid ht
   clear ht
   go_wp2_with fail
   go_ret
   exact ⟨rfl, HT.out.pre X1.out⟩
end Go.Proofs.YtmpmggejhnmakaaGreatDoor
