/- A row of layer 18's deeds, opened. -/
import Derived.Test.YtmpmggejhnmakaaGreatDoorZ07
import Derived.Test.YtmpmggejhnmakaaGreatDoorZ03
import Derived.Test.YtmpmggejhnmakaaGreatDoorZ51
import Derived.Test.YtmpmggejhnmakaaGreatDoorZ01
import Derived.ProofKit
import Derived.Lay
import Derived.LaidMore
import Derived.Stop.Joined
import Derived.Stop.LaidErr
import Derived.Lib.LaidTab
namespace Go.Proofs.YtmpmggejhnmakaaGreatDoor
open Go.ChangeShapes Go.WideShapes Go.ChangeAt Go.RowKit Go.ChangeMaps Go.Joins Go.Deep
section
variable {H : Type} {P : Program} {enc : TypeId × Value → H} {w : World} {base : Nat} {spare : Nat → Bool} {held : Bool}
theorem trod_struct8 {t : TypeId} {f0 f1 f2 f3 f4 f5 f6 f7 : Field} {fuel : Nat} {cs : List Value} {x : DataW H × List MemPlace} (ht : P.underlying t = some (.struct #[f0, f1, f2, f3, f4, f5, f6, f7])) (h : DataW.trod enc P w base spare held fuel t cs = some x) :
 ∃ y0 y1 y2 y3 y4 y5 y6 y7 n, x.1 = .agg [y0.1, y1.1, y2.1, y3.1, y4.1, y5.1, y6.1, y7.1] ∧ DataW.trod enc P w base spare held n f0.type ((cs.drop f0.offset).take (P.cellsOf f0.type)) = some y0 ∧
  DataW.trod enc P w base spare held n f1.type ((cs.drop f1.offset).take (P.cellsOf f1.type)) = some y1 ∧
  DataW.trod enc P w base spare held n f2.type ((cs.drop f2.offset).take (P.cellsOf f2.type)) = some y2 ∧
  DataW.trod enc P w base spare held n f3.type ((cs.drop f3.offset).take (P.cellsOf f3.type)) = some y3 ∧
  DataW.trod enc P w base spare held n f4.type ((cs.drop f4.offset).take (P.cellsOf f4.type)) = some y4 ∧
  DataW.trod enc P w base spare held n f5.type ((cs.drop f5.offset).take (P.cellsOf f5.type)) = some y5 ∧
  DataW.trod enc P w base spare held n f6.type ((cs.drop f6.offset).take (P.cellsOf f6.type)) = some y6 ∧
  DataW.trod enc P w base spare held n f7.type ((cs.drop f7.offset).take (P.cellsOf f7.type)) = some y7 := by
 obtain ⟨xs, n, _, rfl, hl, hlen, hf⟩ := DataW.trod_struct ht h
 match xs, hlen with
 | [y0, y1, y2, y3, y4, y5, y6, y7], _ => exact ⟨y0, y1, y2, y3, y4, y5, y6, y7, n, by simp, by simpa using hf 0 f0 rfl, by simpa using hf 1 f1 rfl, by simpa using hf 2 f2 rfl, by simpa using hf 3 f3 rfl, by simpa using hf 4 f4 rfl, by simpa using hf 5 f5 rfl, by simpa using hf 6 f6 rfl, by simpa using hf 7 f7 rfl⟩
theorem slice_wt {t e : TypeId} {fuel : Nat} {cs : List Value} {x : DataW H × List MemPlace} {o : Option Addr} {n c : Nat} (ht : P.underlying t = some (.slice e)) (h : DataW.trod enc P w base spare held fuel t cs = some x) (hcs : cs = [.slice o n c]) (hb : 1 ≤ P.bytesOf e) : n = 0 ∨ ∃ k ∈ x.1.weights P t, n ≤ k := by
 rcases DataW.trod_slice ht h with ⟨e1, _⟩ | ⟨a, len, cap, elems, rest, m, _, e1, hx, _, _, _, hl, _⟩
 · rw [hcs] at e1
   simp only [List.cons.injEq, Value.slice.injEq, and_true] at e1
   exact .inl e1.2.1
 · rw [hcs] at e1
   simp only [List.cons.injEq, Value.slice.injEq, and_true] at e1
   refine .inr ⟨((elems.map (·.1)).length + (rest.map (·.1)).length) * P.bytesOf e, ?_, ?_⟩
   · rw [hx]; simp [DataW.weights, ht]
   · rw [List.length_map, e1.2.1, ← hl]
     calc elems.length = elems.length * 1 := by omega
      _ ≤ (elems.length + (rest.map (·.1)).length) * P.bytesOf e := Nat.mul_le_mul (by omega) hb
theorem slice_sh {t e : TypeId} {fuel : Nat} {cs : List Value} {x : DataW H × List MemPlace} (ht : P.underlying t = some (.slice e)) (h : DataW.trod enc P w base spare held fuel t cs = some x) : ∃ o n c, cs = [.slice o n c] := by
 rcases DataW.trod_slice ht h with ⟨e, _⟩ | ⟨a, n, c, _, _, _, _, e, _⟩
 · exact ⟨none, 0, 0, e⟩
 · exact ⟨some a, n, c, e⟩
end
def GGood (W : World) (z : DeedZ) (ws : List Nat) : Prop := Rows 4 encAct W.heap.size W z.ao z.acts ∧ (ws.all (· ≤ reachBytes) = true → z.wf)
set_option maxRecDepth 10000 in
theorem open_deedZ {H : Type} {enc : TypeId × Value → H} {W : World} {sp : Nat → Bool} {held : Bool} {fuel : Nat} {cs : List Value} {x : DataW H × List MemPlace} (h : DataW.trod enc Tryz.prog W 0 sp held fuel 22 cs = some x) :
 ∃ (ao : Option Addr) (cap : Nat) (l : List DeedZ), cs = [.slice ao l.length cap] ∧ l.length ≤ cap ∧ cap ≤ maxLen ∧ Rows 10 encDeed W.heap.size W ao l ∧ ∀ a ∈ l, GGood W a (x.1.weights Tryz.prog 22) := by
 refine open_rows encDeed (GGood W) ⟨0, 0, 0, 0, none, 0, [], false, 0, ⟨#[]⟩, ⟨#[]⟩, none, 0, []⟩ Tryz.underlying22 (E := 39) (by kernel_rfl) (fun q => ⟨_, rfl⟩) (fun _ => rfl) (fun n cs' y hlen h2 => ?_) (fun q ws ws' hw hq => ⟨hq.1, fun ha => hq.2 (by rw [List.all_eq_true] at ha ⊢; exact fun z hz => ha z (hw z hz))⟩) h
 have c0 : Tryz.prog.cellsOf 3 = 1 := by kernel_rfl
 have c1 : Tryz.prog.cellsOf 35 = 2 := by kernel_rfl
 have c2 : Tryz.prog.cellsOf 36 = 1 := by kernel_rfl
 have c3 : Tryz.prog.cellsOf 4 = 1 := by kernel_rfl
 have c4 : Tryz.prog.cellsOf 30 = 2 := by kernel_rfl
 have c5 : Tryz.prog.cellsOf 37 = 1 := by kernel_rfl
 have c6 : Tryz.prog.cellsOf 9 = 1 := by kernel_rfl
 obtain ⟨y0, y1, y2, y3, y4, y5, y6, y7, k, hxy, g0, g1, g2, g3, g4, g5, g6, g7⟩ := trod_struct8 Tryz.underlying39 h2
 match cs', hlen with
 | [v0, v1, v2, v3, v4, v5, v6, v7, v8, v9], _ =>
   simp [c0, c1, c2, c3, c4, c5] at g0 g1 g2 g3 g4 g5 g6 g7
   obtain ⟨kd, e0, _, w0⟩ := DataW.trod_int Tryz.underlying3 g0
   obtain ⟨z0, z1, k2, hz, _, m0, m1⟩ := trod_struct2 Tryz.underlying35 g1
   simp [c0] at m0 m1
   obtain ⟨cl, e1, _, w1⟩ := DataW.trod_int Tryz.underlying3 m0
   obtain ⟨nm, e2, _, w2⟩ := DataW.trod_int Tryz.underlying3 m1
   obtain ⟨ep, e3, _, w3⟩ := DataW.trod_int Tryz.underlying3 g2
   obtain ⟨xo, xc, acts, e4, a1, a2, ha, hfa⟩ := open_acts g3
   obtain ⟨cm, e5, _⟩ := DataW.trod_bool Tryz.underlying4 g4
   obtain ⟨sch, e6, _, w6⟩ := DataW.trod_int Tryz.underlying3 g5
   obtain ⟨q0, q1, k4, hq, _, o0, o1⟩ := trod_struct2 Tryz.underlying30 g6
   simp [c6] at o0 o1
   obtain ⟨lo, e7, hy7, _⟩ := DataW.trod_string Tryz.underlying9 o0
   obtain ⟨hi, e8, hy8, _⟩ := DataW.trod_string Tryz.underlying9 o1
   obtain ⟨bo, bn, bc, e9⟩ := slice_sh Tryz.underlying37 g7
   simp only [List.cons.injEq, and_true] at e0 e1 e2 e3 e4 e5 e6 e7 e8 e9
   subst e0 e1 e2 e3 e4 e5 e6 e7 e8 e9
   have hwt : y.1.weights Tryz.prog 39 = DataW.weightsEach Tryz.prog [3, 35, 3, 36, 4, 3, 30, 37] [y0.1, y1.1, y2.1, y3.1, y4.1, y5.1, y6.1, y7.1] := by
    rw [hxy]; simp only [DataW.weights, Tryz.underlying39]; rfl
   have hup : ∀ (j : Nat) (t : TypeId) (d : DataW H), ([3, 35, 3, 36, 4, 3, 30, 37] : List TypeId)[j]? = some t → [y0.1, y1.1, y2.1, y3.1, y4.1, y5.1, y6.1, y7.1][j]? = some d → ∀ z ∈ d.weights Tryz.prog t, z ∈ y.1.weights Tryz.prog 39 := fun j t d ht hd z hz => by
    rw [hwt]; exact DataW.weights_mem_each ht hd z hz
   have wi : ∀ {n : Int}, (Lit.int .i64 n).wf = true → -9223372036854775808 ≤ n ∧ n ≤ 9223372036854775807 := fun {n} w => by
    simpa [Lit.wf, IntKind.min, IntKind.max, IntKind.signed, IntKind.bits] using w
   refine ⟨⟨kd, cl, nm, ep, xo, xc, acts, cm, sch, lo, hi, bo, bc, List.replicate bn 0⟩, by simp [encDeed], ha, fun hall => ?_⟩
   have hb : ∀ z ∈ y.1.weights Tryz.prog 39, z ≤ 140737488351232 := fun z hz => of_decide_eq_true (List.all_eq_true.1 hall z hz)
   have hok : ∀ a ∈ acts, a.ok := fun a ha' => (hfa a ha').ok (by
    rw [List.all_eq_true]
    exact fun z hz => List.all_eq_true.1 hall z (hup 3 _ _ rfl rfl z hz))
   refine ⟨⟨fun a ha' => ⟨(hok a ha').2.2.1, (hok a ha').2.2.2.1⟩, ?_, ?_, hb _ ?_, hb _ ?_⟩, hok, wi w1⟩
   · show acts.length ≤ _
     unfold maxLen at a2; omega
   · show (List.replicate bn (0 : UInt8)).length ≤ _
     rw [List.length_replicate]
     rcases slice_wt Tryz.underlying37 g7 rfl (by rw [show Tryz.prog.bytesOf 5 = 1 from by kernel_rfl]; decide) with h | ⟨k, hk, hl⟩
     · omega
     · have := hb k (hup 7 _ _ rfl rfl _ hk); omega
   · refine hup 6 _ _ rfl rfl _ ?_
     rw [Lib.size_eq, hq]; simp [DataW.weights, Tryz.underlying30, DataW.weightsEach, hy7]
   · refine hup 6 _ _ rfl rfl _ ?_
     rw [Lib.size_eq, hq]; simp [DataW.weights, Tryz.underlying30, DataW.weightsEach, hy8]
end Go.Proofs.YtmpmggejhnmakaaGreatDoor
/- What the rows' listed variables give the walks; a world in which they hold. -/
namespace Go.Proofs.YtmpmggejhnmakaaGreatDoor
open Go.RowKit
def laidAllW : List (String × DataW Unit) := [("math/bits.deBruijn32tab", Rows.laid_math_bits_deBruijn32tab), ("math/bits.deBruijn64tab", Rows.laid_math_bits_deBruijn64tab), ("internal/strconv.uint64pow10", Rows.laid_internal_strconv_uint64pow10), ("unicode/utf8.acceptRanges", Rows.laid_unicode_utf8_acceptRanges), ("strconv.ErrRange", Rows.laid_strconv_ErrRange), ("strconv.ErrSyntax", Rows.laid_strconv_ErrSyntax), ("unicode/utf8.first", Rows.laid_unicode_utf8_first)]
theorem door_metW (os : Os) (args : Array Value) : laidMetH Tryz.prog laidAllW ((World.laidAll Tryz.prog os laidAllW).forCall (fun _ _ => 0) ⟨#[], args, []⟩).memory := by
 rw [MakeChecks.laidMetH_plain _ _ _ (by kernel_rfl)]
 exact laidMet_laidAll _ (by kernel_rfl) (by kernel_rfl)
theorem star : "*" ++ "errors.errorString" = "*errors.errorString" := by decide
theorem rowErr (u : TypeId) (h : Tryz.prog.typeName? 3 u = some "*errors.errorString") : u = 374 :=
 typeName_ptr_named (nm := "errors.errorString") (by rw [star]; kernel_rfl) (by kernel_rfl) (by decide) u (by rw [star]; exact h)
theorem pow10_eq : (Rows.laid_internal_strconv_uint64pow10 : DataW Unit) = Lib.tabData .u64 Lib.pow10Tab := by kernel_rfl
theorem lv_of_laid {W : World} (h : laidMetH Tryz.prog laidAllW W) : LV W.heap.size W := by
 rw [MakeChecks.laidMetH_plain _ _ _ (by kernel_rfl)] at h
 have h2 := h.tail.tail
 have h3 := h2.tail.tail
 have h4 := h3.tail
 have t1 : Lib.TabIs Tryz.prog W "internal/strconv.uint64pow10" .u64 Lib.pow10Tab :=
  Lib.tabIs_of_head (rest := _) gPow10 (by kernel_rfl) Tryz.underlying370 Tryz.underlying321 (by kernel_rfl) (by kernel_rfl) (by rw [← pow10_eq]; exact h2)
 obtain ⟨a3, s3, v3, -, -, -⟩ := laid_sentinel h3 gErrRange (by kernel_rfl) Tryz.underlying324 rowErr Tryz.underlying374 Tryz.underlying376 rfl rfl Tryz.underlying9 (by kernel_rfl) (by kernel_rfl)
 obtain ⟨a4, s4, v4, -, -, -⟩ := laid_sentinel h4 gErrSyntax (by kernel_rfl) Tryz.underlying324 rowErr Tryz.underlying374 Tryz.underlying376 rfl rfl Tryz.underlying9 (by kernel_rfl) (by kernel_rfl)
 exact ⟨t1, ⟨_, _, v4⟩, ⟨_, _, v3⟩, var_lt gPow10 t1, var_lt gErrSyntax v4, var_lt gErrRange v3⟩
open Go.ChangeShapes Go.WideShapes Go.ChangeAt Go.Deep Go.Joins
end Go.Proofs.YtmpmggejhnmakaaGreatDoor
