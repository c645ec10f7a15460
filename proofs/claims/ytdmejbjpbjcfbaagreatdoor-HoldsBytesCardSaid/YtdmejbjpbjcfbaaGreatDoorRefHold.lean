/- The document's layer 16: a hold that is read: what stands in memory meanwhile. -/
import Derived.Test.YtdmejbjpbjcfbaaGreatDoorRefR4
import Derived.Test.YtdmejbjpbjcfbaaGreatDoorHoldR
namespace Go.Proofs.YtdmejbjpbjcfbaaGreatDoor
open Go.RowKit

theorem RRdr.but {w w' : World} {B rb cap : Nat} {ao : Option Addr} {s : RSt} {S : Nat → Prop} (h : RRdr w B rb ao cap s) (hx : But S w w') (hS : ∀ b, b < B → ¬ S b) : RRdr w' B rb ao cap s :=
  ⟨h.blk.but hx (hS rb h.old), h.old, h.fit, h.max, (h.row.mono (no' := fun b => (b = rb ∨ B ≤ b) ∨ S b) (fun b _ e => e.elim id (fun e => .inr (Nat.le_of_not_lt fun hb => hS b hb e)))).but hx (fun _ _ e => .inr e) |>.mono (fun _ _ e => .inl e)⟩
theorem RRdr.ext {w w' : World} {B rb cap : Nat} {ao : Option Addr} {s : RSt} (h : RRdr w B rb ao cap s) (hx : Ext w w') : RRdr w' B rb ao cap s := h.but (Ext.but hx (fun _ => False)) (fun _ _ e => e)
set_option maxRecDepth 100000 in
/-- Row, and what its bytes are as a text. -/
theorem rtext_read (B rb cap : Nat) (ao : Option Addr) (s : RSt) (most : Nat) (w : World) (T : RRdr w B rb ao cap s) (hm : most ≤ 1000000) :
    Calls Tryz.prog 140 #[.pointer (some ⟨rb, 0, none⟩), .int .i64 most] w fun e w' => (∃ ro c, e = .returned (.slice ro (rowS most s).1.length c) ∧ (convert 46 9 (.slice ro (rowS most s).1.length c)).run Tryz.prog w' = .ok (.string ⟨(rowS most s).1.toArray⟩) w') ∧ RRPost B rb (rowS most s).2 w w' := by
  refine (rrow_read B rb cap ao s most w T hm).mono ?_
  rintro e w1 ⟨⟨u, rfl, h1, h2⟩, h3⟩
  obtain ⟨ro, c, rfl, hc1, hc2, hro⟩ := Rows.own (enc := encU8) (sz := 1) (fun _ => rfl) h1
  exact ⟨⟨ro, c, rfl, conv_rows w1 ro c _ hro⟩, h3⟩
/-- Midway: the reader; the result's block, the hold's block. -/
structure HSt (w wr : World) (B rb N1 : Nat) (ao : Option Addr) (cap : Nat) (s : RSt) (us : List Value) : Prop where
  rd : RRdr wr B rb ao cap s
  b0 : Blk wr w.heap.size [.string ⟨#[]⟩, .int .i64 0, .int .i64 0, .slice none 0 0, .slice none 0 0, .bool false, .string ⟨#[]⟩] 35
  b1 : Blk wr N1 us 35
  n1 : w.heap.size < N1
  hB : B ≤ w.heap.size
  bt : But (fun j => j = rb) w wr
theorem HSt.far {w wr wr2 : World} {B rb N1 cap : Nat} {ao : Option Addr} {s : RSt} {us : List Value} {S : Nat → Prop} (h : HSt w wr B rb N1 ao cap s us) (hx : But S wr wr2) (hS : ∀ b, S b → N1 < b) : HSt w wr2 B rb N1 ao cap s us := by
  have hn := h.n1; have hB := h.hB
  exact ⟨h.rd.but hx (fun b hb e => by have := hS b e; omega), h.b0.but hx (fun e => by have := hS _ e; omega), h.b1.but hx (fun e => by have := hS _ e; omega), h.n1, h.hB, h.bt.trans hx (fun _ _ e => e) (fun i hi e => by have := hS i e; omega)⟩
theorem HSt.ext {w wr wr2 : World} {B rb N1 cap : Nat} {ao : Option Addr} {s : RSt} {us : List Value} (h : HSt w wr B rb N1 ao cap s us) (hx : Ext wr wr2) : HSt w wr2 B rb N1 ao cap s us :=
  h.far (Ext.but hx (fun _ => False)) (fun _ e => e.elim)
theorem HSt.read {w wr wr2 : World} {B rb N1 cap : Nat} {ao : Option Addr} {s s' : RSt} {us : List Value} (h : HSt w wr B rb N1 ao cap s us) (hp : RRPost B rb s' wr wr2) : ∃ ao' cap', HSt w wr2 B rb N1 ao' cap' s' us := by
  obtain ⟨⟨ao', cap', h1⟩, h2⟩ := hp
  have hn := h.n1; have hB := h.hB; have ho := h.rd.old
  exact ⟨ao', cap', h1, h.b0.but h2 (fun e => by omega), h.b1.but h2 (fun e => by omega), h.n1, h.hB, h.bt.trans h2 (fun _ _ e => e) (fun _ _ e => e)⟩
theorem HSt.set {w wr : World} {B rb N1 cap : Nat} {ao : Option Addr} {s : RSt} {us : List Value} (h : HSt w wr B rb N1 ao cap s us) (i : Nat) (v : Value) : HSt w (wr.setCell ⟨N1, i, none⟩ v) B rb N1 ao cap s (us.set i v) := by
  have hn := h.n1; have hB := h.hB
  exact ⟨h.rd.but (But.set1 wr N1 i v) (fun b hb e => by omega), h.b0.other (a := ⟨N1, i, none⟩) (by show w.heap.size ≠ N1; omega) v, h.b1.set i v, h.n1, h.hB, h.bt.setCell (p := ⟨N1, i, none⟩) (fun hi => by have : N1 < w.heap.size := hi; omega) v⟩
theorem HSt.n0 {w wr : World} {B rb N1 cap : Nat} {ao : Option Addr} {s : RSt} {us : List Value} (h : HSt w wr B rb N1 ao cap s us) : rb < w.heap.size := by
  have := h.rd.old; have := h.hB; omega
/-- In a round of a loop: also the block of what is being read, and the row that grows. -/
structure MSt (w w0 wr : World) (B rb N1 M : Nat) (ao : Option Addr) (cap : Nat) (s : RSt) (us : List Value) (tm : TypeId) (ms : List Value) (sz n : Nat) (va : Value) (xs : List Value) : Prop where
  hs : HSt w wr B rb N1 ao cap s us
  bm : Blk wr M ms tm
  nm : N1 < M
  own : wr.ownsRow 0 tm sz va n xs
  new : ∀ j, va.ownBlock = some j → N1 < j ∧ j ≠ M ∧ j < w0.heap.size
  old : w0.heap.size ≤ M
  bt : But (fun j => j = rb) w0 wr
theorem MSt.read {w w0 wr wr2 : World} {B rb N1 M cap sz n : Nat} {ao : Option Addr} {s s' : RSt} {us ms xs : List Value} {tm : TypeId} {va : Value} (h : MSt w w0 wr B rb N1 M ao cap s us tm ms sz n va xs) (hp : RRPost B rb s' wr wr2) : ∃ ao' cap', MSt w w0 wr2 B rb N1 M ao' cap' s' us tm ms sz n va xs := by
  obtain ⟨ao', cap', h1⟩ := h.hs.read hp
  have hn := h.hs.n1; have h0 := h.hs.n0; have hm := h.nm
  exact ⟨ao', cap', h1, h.bm.but hp.2 (fun e => by omega), h.nm, own_but h.own hp.2 (fun j hj e => by have := (h.new j hj).1; omega), h.new, h.old, h.bt.trans hp.2 (fun _ _ e => e) (fun _ _ e => e)⟩
theorem MSt.set {w w0 wr : World} {B rb N1 M cap sz n : Nat} {ao : Option Addr} {s : RSt} {us ms xs : List Value} {tm : TypeId} {va : Value} (h : MSt w w0 wr B rb N1 M ao cap s us tm ms sz n va xs) (i : Nat) (v : Value) : MSt w w0 (wr.setCell ⟨M, i, none⟩ v) B rb N1 M ao cap s us tm (ms.set i v) sz n va xs := by
  have ho := h.old; have hm := h.nm
  exact ⟨h.hs.far (But.set1 wr M i v) (fun b e => by omega), h.bm.set i v, h.nm, own_setOther h.own (a := ⟨M, i, none⟩) (fun e => (h.new M e).2.1 rfl) v, h.new, h.old, h.bt.setCell (p := ⟨M, i, none⟩) (fun hi => by have : M < w0.heap.size := hi; omega) v⟩
/-- Behind the append. -/
theorem MSt.app {w w0 wr W5 w9 : World} {B rb N1 M cap sz n : Nat} {ao : Option Addr} {s : RSt} {us ms xs : List Value} {tm : TypeId} {va v' : Value} (h : MSt w w0 wr B rb N1 M ao cap s us tm ms sz n va xs) (hx : Ext wr W5) (hb : But (fun k => va.ownBlock = some k) W5 w9) (hk : Kept1 W5 va v') :
    HSt w w9 B rb N1 ao cap s us ∧ (∀ j, v'.ownBlock = some j → N1 < j) ∧ But (fun j => j = rb ∨ va.ownBlock = some j) w0 w9 ∧ (∀ j, v'.ownBlock = some j → va.ownBlock = some j ∨ w0.heap.size ≤ j) := by
  have hs := h.bt.size; have hs2 := hx.size; have hml := h.bm.lt; have hm := h.nm
  refine ⟨(h.hs.ext hx).far hb (fun b e => (h.new b e).1), fun j hj => ?_, (h.bt.trans (Ext.but hx (fun _ => False)) (U := fun j => j = rb) (fun _ _ e => e) (fun _ _ e => e.elim)).trans hb (fun _ _ e => .inl e) (fun _ _ e => .inr e), fun j hj => ?_⟩
  · rcases hk j hj with e | e
    · exact (h.new j e).1
    · omega
  · rcases hk j hj with e | e
    · exact .inl e
    · exact .inr (by omega)
end Go.Proofs.YtdmejbjpbjcfbaaGreatDoor
