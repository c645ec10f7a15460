/- tract: slices.Clone at stretches. -/
import Derived.Test.YtmpmggejhnmakaaGreatDoorZ29
import Derived.Lib.SlicesS
import Derived.Deep.DeepMust
namespace Go.Proofs.YtmpmggejhnmakaaGreatDoor
open Go.RowKit
theorem infoSt : (Tryz.prog.info? 92).map (fun i => (i.zero, i.size, i.bytes)) = some (some (.agg #[.string ⟨#[]⟩, .string ⟨#[]⟩, .int .i64 0, .int .u8 0, .int .i64 0]), 5, 56) := by kernel_rfl
theorem one_st : ∀ (x : StrZ), ∀ u ∈ encSt x, u.oneCell' = true := by
 intro x u hu
 simp only [encSt, List.mem_cons, List.not_mem_nil, or_false] at hu
 rcases hu with rfl | rfl | rfl | rfl | rfl <;> rfl
set_option maxRecDepth 100000 in
theorem clone_st_calls (l : List StrZ) (ao : Option Addr) (cap : Nat) (w : World) (hl : l.length ≤ 1000000) (hr : Rows 5 encSt w.heap.size w ao l) :
 Calls Tryz.prog 57 #[.slice ao l.length cap] w fun e w' => ∃ v, e = .returned v ∧ w'.ownsRow 0 92 5 v l.length (l.flatMap encSt) ∧ (∀ j, v.ownBlock = some j → w.heap.size ≤ j) ∧ Ext w w' := by
 obtain ⟨i0, hi, hz0, hz1, hz2⟩ := info_parts infoSt
 have heq := fun W => Lib.run_eql_slice_nil (P := Tryz.prog) W 57 92 ao l.length cap 0 0 Tryz.underlying57
 have E1 : Hid (Ext w (w.alloc (.cells #[] 92))) := Lib.hid ((Below.refl _ w).alloc (Nat.le_refl _) _)
 cases ao with
 | none =>
   have hl0 : l = [] := by
    cases l with
    | nil => rfl
    | cons a l => obtain ⟨b, off, e, -⟩ := hr (by simp); cases e
   have HL0 := Lib.hid hl0
   clear hr hl0
   simp only [Option.isNone_none] at heq
   go_enter Tryz.func57, Tryz.ntmps57
   go_wp2_with fail
   go_ret
   exact ⟨_, rfl, by rw [HL0.out]; exact World.ownsRow_nil _ _ _ _, by simp [Value.ownBlock], Below.refl _ _⟩
 | some a =>
   have HR := Lib.hid hr
   clear hr
   simp only [Option.isNone_some] at heq
   go_enter Tryz.func57, Tryz.ntmps57
   go_wp2_with (at_builtin; refine wpList_append_rows (enc := encSt) (size := 5) (fun _ => rfl) one_st rfl (.tmp 5) (.tmp 6) 57 rfl 92 i0 _ 56 Tryz.underlying57 hi hz0 hz1 hz2 rfl (by decide) (.slice (some ⟨w.heap.size, 0, none⟩) 0 0) 0 [] rfl (World.ownsRow_made w #[] 0 (Nat.zero_le _) (Nat.zero_le _) rfl) (some a) l cap rfl ((HR.out.ext E1.out).mono E1.out.size) (by unfold maxLen; omega) (by omega) ?_; intro v1 w1 hown1 hbut1 hkept1; have O1 := Lib.hid hown1; have B1 := Lib.hid hbut1; have P1 := Lib.hid hkept1; clear hown1 hbut1 hkept1)
   go_ret
   refine ⟨v1, rfl, by have := O1.out; rwa [Nat.zero_add, List.nil_append] at this, fun j hj => ?_, ?_⟩
   · rcases P1.out j hj with e | e
     · simp [Value.ownBlock] at e; omega
     · have := E1.out.size; omega
   · exact ((Ext.but E1.out (fun _ => False)).trans B1.out (U := fun i => i = w.heap.size) (fun _ _ e => e.elim) (fun i _ e => by simp [Value.ownBlock] at e; exact e.symm)).ext (fun i hi e => by omega)
end Go.Proofs.YtmpmggejhnmakaaGreatDoor
/- tract: its rows and holds in a span; joins. -/
namespace Go.Proofs.YtmpmggejhnmakaaGreatDoor
open Go.RowKit
set_option maxRecDepth 100000 in
theorem trRows_calls (k : TrK) (d : TrD) (lo hi : ByteArray) (w : World) (T : TrIs w k d) (hl : lo.size ≤ 140737488351232) (hh : hi.size ≤ 140737488351232) :
 Calls Tryz.prog 13 #[.pointer (some ⟨k.tb, 0, none⟩), .agg #[.string lo, .string hi]] w fun e w' => ∃ r, e = .returned r ∧ w'.ownsRow 0 52 2 r (inR lo.data.toList hi.data.toList d.rows).length ((inR lo.data.toList hi.data.toList d.rows).flatMap encRw) ∧ (∀ j, r.ownBlock = some j → w.heap.size ≤ j) ∧ Ext w w' := by
 obtain ⟨w1, hw1⟩ : ∃ w1, w1 = w.alloc (.cells #[.string lo, .string hi] 30) := ⟨_, rfl⟩
 have hx1 : Ext w w1 := by rw [hw1]; exact (Below.refl _ w).alloc (Nat.le_refl _) _
 have hb1 : Blk w1 w.heap.size [.string lo, .string hi] 30 := by rw [hw1]; exact Blk.new w _ _
 have T1 := T.ext hx1
 have HI := Lib.hid (fun W (hW : Ext w W) => inT_calls k.rb k.rv d.rows lo hi W (T.ext hW).rt hl hh)
 have c0 := T1.blk.cell 0; have c6 := T1.blk.cell 6; have s0 := hb1.cell 0; have s1 := hb1.cell 1
 simp only [List.getElem?_cons_zero, List.getElem?_cons_succ] at c0 c6 s0 s1
 have X1 := Lib.hid hx1; have W1 := Lib.hid hw1
 have htb : k.tb < w.heap.size := T.blk.lt
 have htn : k.tb ≠ w.heap.size := by omega
 clear T T1 hx1 hw1 hb1
 go_enter Tryz.func13, Tryz.ntmps13
 go_upto_region 1 with fail
 rw [← W1.out]
 clear W1
 go_wp2_with (go_at_call 38; refine (trThere_calls k.tb true _ c6).mono ?_; rintro e w' ⟨rfl, rfl⟩)
 go_region_with (go_at_call 39; refine (HI.out _ X1.out.drew).mono ?_; rintro e w3 ⟨r, rfl, h1, h2, h3⟩; have P1 := Lib.hid h1; have P2 := Lib.hid h2; have P3 := Lib.hid h3; clear h1 h2 h3)
 all_goals
  go_wp2_with fail
  go_ret
  exact ⟨r, rfl, P1.out, fun j hj => Nat.le_trans X1.out.size (P2.out j hj), Ext.trans X1.out.drew P3.out⟩
set_option maxRecDepth 100000 in
theorem trHolds_calls (k : TrK) (d : TrD) (lo hi : ByteArray) (w : World) (T : TrIs w k d) (hl : lo.size ≤ 140737488351232) (hh : hi.size ≤ 140737488351232) :
 Calls Tryz.prog 14 #[.pointer (some ⟨k.tb, 0, none⟩), .agg #[.string lo, .string hi]] w (RowPost (inD lo hi d.holds) w) := by
 obtain ⟨w1, hw1⟩ : ∃ w1, w1 = w.alloc (.cells #[.string lo, .string hi] 30) := ⟨_, rfl⟩
 have hx1 : Ext w w1 := by rw [hw1]; exact (Below.refl _ w).alloc (Nat.le_refl _) _
 have hb1 : Blk w1 w.heap.size [.string lo, .string hi] 30 := by rw [hw1]; exact Blk.new w _ _
 have T1 := T.ext hx1
 have HI := Lib.hid (fun W (hW : Ext w W) => in_calls k.hb k.hv d.holds lo hi W (T.ext hW).ht hl hh)
 have c1 := T1.blk.cell 1; have c6 := T1.blk.cell 6; have s0 := hb1.cell 0; have s1 := hb1.cell 1
 simp only [List.getElem?_cons_zero, List.getElem?_cons_succ] at c1 c6 s0 s1
 have X1 := Lib.hid hx1; have W1 := Lib.hid hw1
 have htb : k.tb < w.heap.size := T.blk.lt
 have htn : k.tb ≠ w.heap.size := by omega
 clear T T1 hx1 hw1 hb1
 go_enter Tryz.func14, Tryz.ntmps14
 go_upto_region 1 with fail
 rw [← W1.out]
 clear W1
 go_wp2_with (go_at_call 38; refine (trThere_calls k.tb true _ c6).mono ?_; rintro e w' ⟨rfl, rfl⟩)
 go_region_with (go_at_call 40; refine (HI.out _ X1.out.drew).mono ?_; rintro e w3 ⟨r, l', rfl, hn, ho, hj, ha, hm, hx⟩; have P3 : Hid (RowPost (inD lo hi d.holds) w (.returned r) w3) := Lib.hid (RowPost.ext X1.out.drew ⟨r, l', rfl, hn, ho, hj, ha, hm, hx⟩); clear hn ho hj ha hm hx)
 all_goals
  go_wp2_with fail
  go_ret
  exact P3.out
def joinsD (a b : StrZ) : Bool := a.st == 1 && (b.st == 1 && (a.ep == b.ep && (!a.hi.data.toList.isEmpty && (a.hi.data.toList == b.lo.data.toList))))
set_option maxRecDepth 100000 in
theorem joins_calls (a b : StrZ) (w : World) : Calls Tryz.prog 110 #[.agg (encSt a).toArray, .agg (encSt b).toArray] w fun e w' => e = .returned (.bool (joinsD a b)) ∧ Ext w w' := by
 obtain ⟨alo, ahi, aep, ast, asc⟩ := a
 obtain ⟨blo, bhi, bep, bst, bsc⟩ := b
 have hx1 : Ext w ((w.alloc (.cells #[.string alo, .string ahi, .int .i64 aep, .int .u8 ast, .int .i64 asc] 92)).alloc (.cells #[.string blo, .string bhi, .int .i64 bep, .int .u8 bst, .int .i64 bsc] 92)) := ((Below.refl _ w).alloc (Nat.le_refl _) _).alloc (by simp) _
 have X1 := Lib.hid hx1
 clear hx1
 have HJ : Hid (joinsD ⟨alo, ahi, aep, ast, asc⟩ ⟨blo, bhi, bep, bst, bsc⟩ = (ast == 1 && (bst == 1 && (aep == bep && (!ahi.data.toList.isEmpty && (ahi.data.toList == blo.data.toList)))))) := Lib.hid rfl
 generalize joinsD ⟨alo, ahi, aep, ast, asc⟩ ⟨blo, bhi, bep, bst, bsc⟩ = res at HJ ⊢
 simp only [encSt]
 go_enter Tryz.func110, Tryz.ntmps110
 cases h1 : (ast == 1)
 · go_wp2_with fail
   go_ret
   exact ⟨ret_bool (by rw [HJ.out, h1]; rfl), X1.out⟩
 · cases h2 : (bst == 1)
   · go_wp2_with fail
     go_ret
     exact ⟨ret_bool (by rw [HJ.out, h1, h2]; rfl), X1.out⟩
   · cases h3 : (aep == bep)
     · go_wp2_with fail
       go_ret
       exact ⟨ret_bool (by rw [HJ.out, h1, h2, h3]; rfl), X1.out⟩
     · cases h4 : ahi.toList.isEmpty
       · cases h5 : (ahi.toList == blo.toList)
         · go_wp2_with fail
           go_ret
           exact ⟨ret_bool (by rw [Lib.toList_data] at h4 h5; rw [Lib.toList_data] at h5; rw [HJ.out, h1, h2, h3, h4, h5]; rfl), X1.out⟩
         · go_wp2_with fail
           go_ret
           exact ⟨ret_bool (by rw [Lib.toList_data] at h4 h5; rw [Lib.toList_data] at h5; rw [HJ.out, h1, h2, h3, h4, h5]; rfl), X1.out⟩
       · go_wp2_with fail
         go_ret
         exact ⟨ret_bool (by rw [Lib.toList_data] at h4; rw [HJ.out, h1, h2, h3, h4]; rfl), X1.out⟩
end Go.Proofs.YtmpmggejhnmakaaGreatDoor
/- tract: tables without anything. -/
namespace Go.Proofs.YtmpmggejhnmakaaGreatDoor
open Go.RowKit
theorem rowsNew_calls (w : World) : Calls Tryz.prog 97 #[] w fun e w' => e = .returned (.pointer (some ⟨w.heap.size, 0, none⟩)) ∧ w' = w.alloc (.cells #[.slice none 0 0, .bool true] 174) := by
 go_enter Tryz.func97, Tryz.ntmps97
 go_wp2_with fail
 go_ret
 exact ⟨rfl, rfl⟩
theorem pastNew_calls (w : World) : Calls Tryz.prog 99 #[] w fun e w' => e = .returned (.pointer (some ⟨w.heap.size, 0, none⟩)) ∧ w' = w.alloc (.cells #[.int .i64 0, .int .i64 0, .int .i64 0, .int .i64 0, .int .i64 0, .int .i64 0, .int .i64 0, .int .i64 0, .bool true] 217) := by
 go_enter Tryz.func99, Tryz.ntmps99
 go_wp2_with fail
 go_ret
 exact ⟨rfl, rfl⟩
theorem tabNew {w : World} {hb : Nat} (no : Nat → Prop) (h : Blk w hb [.slice none 0 0, .bool true] 180) : TabN no w hb (.slice none 0 0) [] :=
 ⟨h, ⟨[], World.ownsRow_nil _ _ _ _, trivial⟩, List.Pairwise.nil, by simp, by simp⟩
theorem rtabNew {w : World} {rb : Nat} (h : Blk w rb [.slice none 0 0, .bool true] 174) : RTab w rb (.slice none 0 0) [] :=
 ⟨h, World.ownsRow_nil _ _ _ _, List.Pairwise.nil, by simp, by simp⟩
theorem ptabNew {w : World} {pb : Nat} (h : Blk w pb [.int .i64 0, .int .i64 0, .int .i64 0, .int .i64 0, .int .i64 0, .int .i64 0, .int .i64 0, .int .i64 0, .bool true] 217) : PTab w pb (List.replicate 8 0) :=
 ⟨h, rfl, fun n hn => by rw [List.eq_of_mem_replicate hn]; omega⟩
set_option maxRecDepth 100000 in
theorem empty_calls (w : World) : Calls Tryz.prog 32 #[] w fun e w' => ∃ rb hb pb, e = .returned (.agg #[.pointer (some ⟨rb, 0, none⟩), .pointer (some ⟨hb, 0, none⟩), .pointer (some ⟨pb, 0, none⟩)]) ∧ Blk w' rb [.slice none 0 0, .bool true] 174 ∧ Blk w' hb [.slice none 0 0, .bool true] 180 ∧ Blk w' pb [.int .i64 0, .int .i64 0, .int .i64 0, .int .i64 0, .int .i64 0, .int .i64 0, .int .i64 0, .int .i64 0, .bool true] 217 ∧ w.heap.size ≤ rb ∧ w.heap.size ≤ hb ∧ w.heap.size ≤ pb ∧ Ext w w' := by
 obtain ⟨w1, hw1⟩ : ∃ w1, w1 = w.alloc (.cells #[.pointer none, .pointer none, .pointer none] 82) := ⟨_, rfl⟩
 have hx1 : Ext w w1 := by rw [hw1]; exact (Below.refl _ w).alloc (Nat.le_refl _) _
 have hb1 : Blk w1 w.heap.size [.pointer none, .pointer none, .pointer none] 82 := by rw [hw1]; exact Blk.new w _ _
 have W1 := Lib.hid hw1
 obtain ⟨w2, hw2⟩ : ∃ w2, w2 = w1.alloc (.cells #[.slice none 0 0, .bool true] 174) := ⟨_, rfl⟩
 obtain ⟨w3, hw3⟩ : ∃ w3, w3 = w2.alloc (.cells #[.slice none 0 0, .bool true] 180) := ⟨_, rfl⟩
 obtain ⟨w4, hw4⟩ : ∃ w4, w4 = w3.alloc (.cells #[.int .i64 0, .int .i64 0, .int .i64 0, .int .i64 0, .int .i64 0, .int .i64 0, .int .i64 0, .int .i64 0, .bool true] 217) := ⟨_, rfl⟩
 have W2 := Lib.hid hw2; have W3 := Lib.hid hw3; have W4 := Lib.hid hw4
 have x2 : Ext w1 w2 := by rw [hw2]; exact (Below.refl _ w1).alloc (Nat.le_refl _) _
 have x3 : Ext w2 w3 := by rw [hw3]; exact (Below.refl _ w2).alloc (Nat.le_refl _) _
 have x4 : Ext w3 w4 := by rw [hw4]; exact (Below.refl _ w3).alloc (Nat.le_refl _) _
 have b2 : Blk w2 w1.heap.size [.slice none 0 0, .bool true] 174 := by rw [hw2]; exact Blk.new w1 _ _
 have b3 : Blk w3 w2.heap.size [.slice none 0 0, .bool true] 180 := by rw [hw3]; exact Blk.new w2 _ _
 have b4 : Blk w4 w3.heap.size [.int .i64 0, .int .i64 0, .int .i64 0, .int .i64 0, .int .i64 0, .int .i64 0, .int .i64 0, .int .i64 0, .bool true] 217 := by rw [hw4]; exact Blk.new w3 _ _
 have hb4 := hb1.ext' (Ext.trans x2 (Ext.trans x3 x4))
 have f0 := hb4.free 0; have f1 := hb4.free 1; have f2 := hb4.free 2
 have c0 := hb4.cell 0; have c1 := hb4.cell 1; have c2 := hb4.cell 2
 simp only [List.getElem?_cons_zero, List.getElem?_cons_succ] at c0 c1 c2
 have hl4 := hb4.lt
 have HB4 := Lib.hid hb4; have B2 := Lib.hid (b2.ext' (Ext.trans x3 x4)); have B3 := Lib.hid (b3.ext' x4); have B4 := Lib.hid b4
 have X4 := Lib.hid (Ext.trans hx1 (Ext.trans x2 (Ext.trans x3 x4)))
 have S2 := Lib.hid (show w.heap.size < w1.heap.size from hb1.lt); have S3 := Lib.hid x2.size; have S4 := Lib.hid x3.size
 clear hx1 hb1 x2 x3 x4 b2 b3 b4 hb4 hw1 hw2 hw3 hw4
 go_enter Tryz.func32, Tryz.ntmps32
 go_upto_region 1 with fail
 rw [← W1.out]
 go_wp2_with (first
  | (go_at_call 97; refine (rowsNew_calls _).mono ?_; rintro e w' ⟨rfl, rfl⟩; rw [← W2.out])
  | (go_at_call 98; refine (new_calls _).mono ?_; rintro e w' ⟨rfl, rfl⟩; rw [← W3.out])
  | (go_at_call 99; refine (pastNew_calls _).mono ?_; rintro e w' ⟨rfl, rfl⟩; rw [← W4.out]))
 (try simp only [Exit.inBlock, Exit.then])
 refine bodyPost_ret (results_cell_row rfl _ _ w.heap.size 82 #[.pointer (some ⟨w1.heap.size, 0, none⟩), .pointer (some ⟨w2.heap.size, 0, none⟩), .pointer (some ⟨w3.heap.size, 0, none⟩)] _ _ rfl (HB4.out.setCells [.pointer (some ⟨w1.heap.size, 0, none⟩), .pointer (some ⟨w2.heap.size, 0, none⟩), .pointer (some ⟨w3.heap.size, 0, none⟩)] 0) Tryz.underlying82 rfl (by kernel_rfl)) rfl ?_
 have hbt := but_setCells (S := fun j => j = w.heap.size) rfl [.pointer (some ⟨w1.heap.size, 0, none⟩), .pointer (some ⟨w2.heap.size, 0, none⟩), .pointer (some ⟨w3.heap.size, 0, none⟩)] 0 (But.refl (fun j => j = w.heap.size) w4)
 have s2 := S2.out; have s3 := S3.out; have s4 := S4.out
 refine ⟨w1.heap.size, w2.heap.size, w3.heap.size, rfl, B2.out.but hbt (by omega), B3.out.but hbt (by omega), B4.out.but hbt (by omega), by omega, by omega, by omega, ?_⟩
 exact ((X4.out.but (fun _ => False)).trans hbt (U := fun j => w.heap.size ≤ j) (fun _ _ e => e.elim) (fun i _ e => by rw [e]; exact Nat.le_refl _)).ext (fun j hj e => by omega)
end Go.Proofs.YtmpmggejhnmakaaGreatDoor
/- tract: rise at one stretch; the shares of the law. -/
namespace Go.Proofs.YtmpmggejhnmakaaGreatDoor
open Go.RowKit
theorem whole_calls (w : World) : Calls Tryz.prog 9 #[] w fun e w' => ∃ cs, e = .returned (.slice (some ⟨w.heap.size, 0, none⟩) 1 1) ∧ cs = [.string ⟨#[]⟩, .string ⟨#[]⟩, .int .i64 1, .int .i64 1] ∧ Blk w' w.heap.size cs 88 ∧ Ext w w' := by
 go_enter Tryz.func9, Tryz.ntmps9
 go_wp2_with fail
 go_ret
 exact ⟨_, rfl, rfl, Blk.new w _ _, (Below.refl _ w).alloc (Nat.le_refl _) _⟩
end Go.Proofs.YtmpmggejhnmakaaGreatDoor
