/- The document's Bytes, plainly; and a piece that is written. -/
import Derived.Test.YtdmejbjpbjcfbaaGreatDoorRefW3
import Derived.Test.YtdmejbjpbjcfbaaGreatDoorHoldW
namespace Go.Proofs.YtdmejbjpbjcfbaaGreatDoor
open Go.RowKit

def headR (d : HoldD) : List UInt8 := rowB d.key.data.toList ++ refBytes [d.cl, d.nm, (d.acts.length : Int)] [] []
def holdR (d : HoldD) : List UInt8 := headR d ++ d.acts.flatMap actW ++ numZ (d.reads.length : Int) ++ d.reads.flatMap readW ++ (flagB d.put ++ rowB d.value.data.toList)
def writeR (ds : List HoldD) : List UInt8 := numZ (ds.length : Int) ++ ds.flatMap holdR
def headBad (d : HoldD) : Bool := !okN d.cl || !okN d.nm
theorem okN_nat (n : Nat) (h : n ≤ 1000000) : okN (n : Int) = true := by simp [okN]; omega
theorem badsZ_head (d : HoldD) (h : d.acts.length ≤ 10000) : badsZ [d.cl, d.nm, (d.acts.length : Int)] = headBad d := by
  simp [badsZ, headBad, okN_nat d.acts.length (by omega)]
theorem refBytes_num (x : Int) : refBytes [x] [] [] = numZ x := by
  unfold refBytes badsZ numZ
  cases h : okN x <;> simp [h]
theorem refBytes_text (t : ByteArray) : refBytes [] [] [t] = rowB t.data.toList := by simp [refBytes, badsZ]
theorem refBytes_flag (b : Bool) : refBytes [] [b] [] = flagB b := by simp [refBytes, badsZ]
theorem refBytes_both (b : Bool) (t : ByteArray) : refBytes [] [b] [t] = flagB b ++ rowB t.data.toList := by simp [refBytes, badsZ]
theorem headR_eq {d : HoldD} (h : d.acts.length ≤ 10000) (hb : headBad d = false) : headR d = headW d := by
  unfold headR headW refBytes
  rw [badsZ_head d h, hb]; simp
theorem headR_len (d : HoldD) (h : d.wfit) : (headR d).length ≤ 100100 := by
  have h1 := headW_len d h
  unfold headR refBytes
  rw [headW] at h1
  simp only [List.length_append] at h1
  rw [List.length_append]
  split
  · simp; omega
  · simp; omega
theorem holdR_len (d : HoldD) (h : d.wfit) : (holdR d).length ≤ 2100000000 := by
  have h1 := headR_len d h
  have h2 := flat_len actW 100100 d.acts (fun a ha => actW_len a (h.acts a ha).1)
  have h3 := flat_len readW 100100 d.reads (fun r hr => readW_len r (h.reads r hr))
  have h4 := rowB_len d.value.data.toList (by rw [size_data]; exact h.vs)
  have h5 := numZ_len (d.reads.length : Int)
  have h6 := flagB_len d.put
  have h7 := h.an; have h8 := h.rn
  simp only [holdR, List.length_append]; omega
theorem holdR_eq {d : HoldD} (h : d.acts.length ≤ 10000) (hb : holdBad d = false) : holdR d = holdW d := by
  have : headBad d = false := by
    unfold holdBad at hb; unfold headBad
    simp only [Bool.or_eq_false_iff] at hb ⊢
    exact hb.1
  rw [holdR, holdW, headR_eq h this]
theorem writeR_eq {ds : List HoldD} (h : ∀ d ∈ ds, d.wfit) (hb : ds.any holdBad = false) : writeR ds = writeW ds := by
  unfold writeR writeW
  congr 1
  induction ds with
  | nil => rfl
  | cons d l ih =>
    rw [List.any_cons, Bool.or_eq_false_iff] at hb
    rw [List.flatMap_cons, List.flatMap_cons, holdR_eq (h d (by simp)).an hb.1, ih (fun x hx => h x (by simp [hx])) hb.2]
/-- What a piece of bytes is told as. -/
def errZ (b : Bool) : Int := if b = true then 2 else 0
theorem errZ_f : errZ false = 0 := rfl
theorem errZ_t : errZ true = 2 := rfl
def Piece (bs : List UInt8) (bad : Bool) (w : World) (e : Ending) (w' : World) : Prop :=
  ∃ ao cap, e = .returned (.tuple #[.slice ao bs.length cap, .int .i64 (errZ bad)]) ∧ NRows 1 encU8 (fun b => b < w.heap.size) w' ao bs ∧ Ext w w'
theorem RefWPost.piece {bs : List UInt8} {bad : Bool} {w w' : World} {e : Ending} (h : RefWPost bs bad w e w') : Piece bs bad w e w' := by
  obtain ⟨⟨v, rfl, hown, hnew⟩, hx⟩ := h
  obtain ⟨ao, cap, rfl⟩ := own_slice hown
  exact ⟨ao, cap, rfl, nrows_of_own (fun _ => rfl) hown (fun j hj e => by have := hnew j hj; omega), hx⟩
theorem piece_nums (l : List Int) (n : Nat) (hn : n = l.length) (g : Nat) (w : World) (hb : Blk w g (l.flatMap encI) 3) (hl : l.length ≤ 100) :
    Calls Tryz.prog 68 #[.slice (some ⟨g, 0, none⟩) n n, .slice none 0 0, .slice none 0 0, .slice none 0 0] w (Piece (refBytes l [] []) (badsZ l) w) := by
  subst hn
  exact (refWrite_calls l [] [] (some ⟨g, 0, none⟩) none none l.length 0 0 w (nrow_blk (sz := 1) (enc := encI) (no := fun _ => False) (fun _ => rfl) l hb id).rows (Rows.nil _ _ _ _ _) (Rows.nil _ _ _ _ _) hl (by simp) (by simp) (by simp)).mono fun _ _ h => h.piece
theorem rw_num1 (x : Int) (g : Nat) (w : World) (hb : Blk w g [.int .i64 x] 3) :
    Calls Tryz.prog 68 #[.slice (some ⟨g, 0, none⟩) 1 1, .slice none 0 0, .slice none 0 0, .slice none 0 0] w fun e w' => (∃ v, e = .returned (.tuple #[v, .int .i64 (errZ (!okN x))]) ∧ w'.ownsRow 0 5 1 v (numZ x).length ((numZ x).flatMap encU8) ∧ (∀ j, v.ownBlock = some j → w.heap.size ≤ j)) ∧ Ext w w' := by
  have h := refWrite_calls [x] [] [] (some ⟨g, 0, none⟩) none none 1 0 0 w (nrow_blk (sz := 1) (enc := encI) (no := fun _ => False) (fun _ => rfl) [x] hb id).rows (Rows.nil _ _ _ _ _) (Rows.nil _ _ _ _ _) (by simp) (by simp) (by simp) (by simp)
  rw [refBytes_num] at h
  refine h.mono fun e w' h => ?_
  obtain ⟨⟨v, rfl, h1, h2⟩, h3⟩ := h
  exact ⟨⟨v, by simp [badsZ, errZ], h1, h2⟩, h3⟩
theorem piece_num1 (x : Int) (g : Nat) (w : World) (hb : Blk w g [.int .i64 x] 3) :
    Calls Tryz.prog 68 #[.slice (some ⟨g, 0, none⟩) 1 1, .slice none 0 0, .slice none 0 0, .slice none 0 0] w (Piece (numZ x) (!okN x) w) := by
  have h := piece_nums [x] 1 rfl g w hb (by simp)
  rw [refBytes_num, show badsZ [x] = !okN x by simp [badsZ]] at h
  exact h
theorem piece_text (t : ByteArray) (g : Nat) (w : World) (hb : Blk w g [.string t] 9) (ht : t.size ≤ 1000000000) :
    Calls Tryz.prog 68 #[.slice none 0 0, .slice none 0 0, .slice (some ⟨g, 0, none⟩) 1 1, .slice none 0 0] w (Piece (rowB t.data.toList) false w) := by
  have h := (refWrite_calls [] [] [t] none none (some ⟨g, 0, none⟩) 0 0 1 w (Rows.nil _ _ _ _ _) (Rows.nil _ _ _ _ _) (nrow_blk (sz := 1) (enc := encTx) (no := fun _ => False) (fun _ => rfl) [t] hb id).rows (by simp) (by simp) (by simp) (by simpa [size_data] using ht)).mono fun _ _ h => h.piece
  rw [refBytes_text] at h
  exact h
theorem piece_flag (b : Bool) (g : Nat) (w : World) (hb : Blk w g [.bool b] 4) :
    Calls Tryz.prog 68 #[.slice none 0 0, .slice (some ⟨g, 0, none⟩) 1 1, .slice none 0 0, .slice none 0 0] w (Piece (flagB b) false w) := by
  have h := (refWrite_calls [] [b] [] none (some ⟨g, 0, none⟩) none 0 1 0 w (Rows.nil _ _ _ _ _) (nrow_blk (sz := 1) (enc := encBool) (no := fun _ => False) (fun _ => rfl) [b] hb id).rows (Rows.nil _ _ _ _ _) (by simp) (by simp) (by simp) (by simp)).mono fun _ _ h => h.piece
  rw [refBytes_flag] at h
  exact h
theorem piece_both (b : Bool) (t : ByteArray) (g g' : Nat) (w : World) (hb : Blk w g [.bool b] 4) (hc : Blk w g' [.string t] 9) (ht : t.size ≤ 1000000000) :
    Calls Tryz.prog 68 #[.slice none 0 0, .slice (some ⟨g, 0, none⟩) 1 1, .slice (some ⟨g', 0, none⟩) 1 1, .slice none 0 0] w (Piece (flagB b ++ rowB t.data.toList) false w) := by
  have h := (refWrite_calls [] [b] [t] none (some ⟨g, 0, none⟩) (some ⟨g', 0, none⟩) 0 1 1 w (Rows.nil _ _ _ _ _) (nrow_blk (sz := 1) (enc := encBool) (no := fun _ => False) (fun _ => rfl) [b] hb id).rows (nrow_blk (sz := 1) (enc := encTx) (no := fun _ => False) (fun _ => rfl) [t] hc id).rows (by simp) (by simp) (by simp) (by simpa [size_data] using ht)).mono fun _ _ h => h.piece
  rw [refBytes_both] at h
  exact h
theorem Blk.new' (w : World) (cs : List Value) (t : TypeId) (g : Nat) (hg : g = w.heap.size) : Blk (w.alloc (.cells cs.toArray t)) g cs t := hg ▸ Blk.new w cs t
/-- A piece that waits while the bytes grow. -/
def Waits (w : World) (v : Value) (ao : Option Addr) (l : List UInt8) : Prop := NRows 1 encU8 (fun b => v.ownBlock = some b) w ao l
theorem Waits.ext {w w' : World} {v : Value} {ao : Option Addr} {l : List UInt8} (h : Waits w v ao l) (hx : Ext w w') : Waits w' v ao l := NRows.ext h hx
theorem Waits.rows {w : World} {v : Value} {ao : Option Addr} {l : List UInt8} (h : Waits w v ao l) : Rows 1 encU8 w.heap.size w ao l := NRows.rows h
theorem Grow.ext2 {w wr w1 : World} {v : Value} {bs : List UInt8} (h : Grow w v bs wr) (hx : Ext wr w1) : Grow w v bs w1 := ⟨own_ext h.row hx, h.new, h.ext.trans hx⟩
theorem Grow.waits {w wr w1 w2 : World} {v : Value} {bs l : List UInt8} {ao : Option Addr} (h : Grow w v bs wr) (hx : Ext wr w1) (hp : NRows 1 encU8 (fun b => b < w1.heap.size) w2 ao l) : Waits w2 v ao l :=
  hp.mono fun b _ e => by
    have h1 := (h.row.lt b e).2
    have h2 := hx.size
    show b < w1.heap.size
    omega
theorem Waits.app {w w' : World} {v v' : Value} {ao : Option Addr} {l : List UInt8} (h : Waits w v ao l) (hb : But (fun k => v.ownBlock = some k) w w') (hk : Kept1 w v v') : Waits w' v' ao l := by
  have h1 : NRows 1 encU8 (fun b => v.ownBlock = some b ∨ v'.ownBlock = some b) w ao l := NRows.mono h fun b hb e => e.elim id fun e => (hk b e).elim id fun e => absurd hb (Nat.not_lt.2 e)
  have h2 := h1.but hb (fun b _ e => .inl e)
  exact h2.mono fun b _ e => .inr e
end Go.Proofs.YtdmejbjpbjcfbaaGreatDoor
