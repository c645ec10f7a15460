/- slices.Clone at acts and reads; own: holds in memory of their own. -/
import Derived.Test.YtngahblgicjoiaaGreatDoorHoldDefs
import Derived.Test.YtngahblgicjoiaaGreatDoorMem
import Derived.Deep.RegionHeld3
import Derived.Deep.RegionWith
import Derived.Laws.IdiomCopy
import Derived.Shelf.Spec.SlicesInsert
import Derived.Deep.RegionLaw
import Derived.Lib.AppendZerosOnto
import Derived.Laws.NewBlocks
namespace Go.Proofs.YtngahblgicjoiaaGreatDoor
open Go.RowKit

theorem infoAct : (Tryz.prog.info? 53).map (fun i => (i.zero, i.size, i.bytes)) = some (some (.agg #[.int .u8 0, .string ⟨#[]⟩, .string ⟨#[]⟩, .int .i64 0]), 4, 48) := by kernel_rfl
theorem infoRd : (Tryz.prog.info? 78).map (fun i => (i.zero, i.size, i.bytes)) = some (some (.agg #[.string ⟨#[]⟩, .bool false, .string ⟨#[]⟩]), 3, 40) := by kernel_rfl
theorem one_act : ∀ (x : ActD), ∀ u ∈ encAct x, u.oneCell' = true := by
  intro x u hu
  simp only [encAct, List.mem_cons, List.not_mem_nil, or_false] at hu
  rcases hu with rfl | rfl | rfl | rfl <;> rfl
theorem one_rd : ∀ (x : Rd), ∀ u ∈ encRd x, u.oneCell' = true := by
  intro x u hu
  simp only [encRd, List.mem_cons, List.not_mem_nil, or_false] at hu
  rcases hu with rfl | rfl | rfl <;> rfl

set_option maxRecDepth 100000 in
theorem clone_acts_calls (l : List ActD) (ao : Option Addr) (cap : Nat) (w : World) (hl : l.length ≤ 1000000) (hr : Rows 4 encAct w.heap.size w ao l) :
    Calls Tryz.prog 89 #[.slice ao l.length cap] w fun e w' => ∃ v, e = .returned v ∧ w'.ownsRow 0 53 4 v l.length (l.flatMap encAct) ∧ (∀ j, v.ownBlock = some j → w.heap.size ≤ j) ∧ Ext w w' := by
  obtain ⟨i0, hi, hz0, hz1, hz2⟩ := info_parts infoAct
  have heq := fun W => Lib.run_eql_slice_nil (P := Tryz.prog) W 35 53 ao l.length cap 0 0 Tryz.underlying35
  have E1 : Hid (Ext w (w.alloc (.cells #[] 53))) := Lib.hid ((Below.refl _ w).alloc (Nat.le_refl _) _)
  cases ao with
  | none =>
    have hl0 : l = [] := by
      cases l with
      | nil => rfl
      | cons a l => obtain ⟨b, off, e, -⟩ := hr (by simp); cases e
    have HL0 := Lib.hid hl0
    clear hr hl0
    simp only [Option.isNone_none] at heq
    go_enter Tryz.func89, Tryz.ntmps89
    go_wp2_with fail
    go_ret
    exact ⟨_, rfl, by rw [HL0.out]; exact World.ownsRow_nil _ _ _ _, by simp [Value.ownBlock], Below.refl _ _⟩
  | some a =>
    have HR := Lib.hid hr
    clear hr
    simp only [Option.isNone_some] at heq
    go_enter Tryz.func89, Tryz.ntmps89
    go_wp2_with (at_builtin; refine wpList_append_rows (enc := encAct) (size := 4) (fun _ => rfl) one_act rfl (.tmp 5) (.tmp 6) 35 rfl 53 i0 _ 48 Tryz.underlying35 hi hz0 hz1 hz2 rfl (by decide) (.slice (some ⟨w.heap.size, 0, none⟩) 0 0) 0 [] rfl (World.ownsRow_made w #[] 0 (Nat.zero_le _) (Nat.zero_le _) rfl) (some a) l cap rfl ((HR.out.ext E1.out).mono E1.out.size) (by unfold maxLen; omega) (by omega) ?_; intro v1 w1 hown1 hbut1 hkept1; have O1 := Lib.hid hown1; have B1 := Lib.hid hbut1; have P1 := Lib.hid hkept1; clear hown1 hbut1 hkept1)
    go_ret
    refine ⟨v1, rfl, by have := O1.out; rwa [Nat.zero_add, List.nil_append] at this, fun j hj => ?_, ?_⟩
    · rcases P1.out j hj with e | e
      · simp [Value.ownBlock] at e; omega
      · have := E1.out.size; omega
    · exact ((Ext.but E1.out (fun _ => False)).trans B1.out (U := fun i => i = w.heap.size) (fun _ _ e => e.elim) (fun i _ e => by simp [Value.ownBlock] at e; exact e.symm)).ext (fun i hi e => by omega)

set_option maxRecDepth 100000 in
theorem clone_reads_calls (l : List Rd) (ao : Option Addr) (cap : Nat) (w : World) (hl : l.length ≤ 1000000) (hr : Rows 3 encRd w.heap.size w ao l) :
    Calls Tryz.prog 90 #[.slice ao l.length cap] w fun e w' => ∃ v, e = .returned v ∧ w'.ownsRow 0 78 3 v l.length (l.flatMap encRd) ∧ (∀ j, v.ownBlock = some j → w.heap.size ≤ j) ∧ Ext w w' := by
  obtain ⟨i0, hi, hz0, hz1, hz2⟩ := info_parts infoRd
  have heq := fun W => Lib.run_eql_slice_nil (P := Tryz.prog) W 36 78 ao l.length cap 0 0 Tryz.underlying36
  have E1 : Hid (Ext w (w.alloc (.cells #[] 78))) := Lib.hid ((Below.refl _ w).alloc (Nat.le_refl _) _)
  cases ao with
  | none =>
    have hl0 : l = [] := by
      cases l with
      | nil => rfl
      | cons a l => obtain ⟨b, off, e, -⟩ := hr (by simp); cases e
    have HL0 := Lib.hid hl0
    clear hr hl0
    simp only [Option.isNone_none] at heq
    go_enter Tryz.func90, Tryz.ntmps90
    go_wp2_with fail
    go_ret
    exact ⟨_, rfl, by rw [HL0.out]; exact World.ownsRow_nil _ _ _ _, by simp [Value.ownBlock], Below.refl _ _⟩
  | some a =>
    have HR := Lib.hid hr
    clear hr
    simp only [Option.isNone_some] at heq
    go_enter Tryz.func90, Tryz.ntmps90
    go_wp2_with (at_builtin; refine wpList_append_rows (enc := encRd) (size := 3) (fun _ => rfl) one_rd rfl (.tmp 5) (.tmp 6) 36 rfl 78 i0 _ 40 Tryz.underlying36 hi hz0 hz1 hz2 rfl (by decide) (.slice (some ⟨w.heap.size, 0, none⟩) 0 0) 0 [] rfl (World.ownsRow_made w #[] 0 (Nat.zero_le _) (Nat.zero_le _) rfl) (some a) l cap rfl ((HR.out.ext E1.out).mono E1.out.size) (by unfold maxLen; omega) (by omega) ?_; intro v1 w1 hown1 hbut1 hkept1; have O1 := Lib.hid hown1; have B1 := Lib.hid hbut1; have P1 := Lib.hid hkept1; clear hown1 hbut1 hkept1)
    go_ret
    refine ⟨v1, rfl, by have := O1.out; rwa [Nat.zero_add, List.nil_append] at this, fun j hj => ?_, ?_⟩
    · rcases P1.out j hj with e | e
      · simp [Value.ownBlock] at e; omega
      · have := E1.out.size; omega
    · exact ((Ext.but E1.out (fun _ => False)).trans B1.out (U := fun i => i = w.heap.size) (fun _ _ e => e.elim) (fun i _ e => by simp [Value.ownBlock] at e; exact e.symm)).ext (fun i hi e => by omega)

end Go.Proofs.YtngahblgicjoiaaGreatDoor
/- own: holds in memory of their own. -/
namespace Go.Proofs.YtngahblgicjoiaaGreatDoor
open Go.RowKit

theorem infoHold : (Tryz.prog.info? 257).map (fun i => (i.zero, i.size, i.bytes)) = some (some (.agg #[.string ⟨#[]⟩, .int .i64 0, .int .i64 0, .slice none 0 0, .slice none 0 0, .bool false, .string ⟨#[]⟩]), 7, 104) := by kernel_rfl
/-- Room for a hold's rows. -/
def HoldD.fits (d : HoldD) : Prop := d.acts.length ≤ 1000000 ∧ d.reads.length ≤ 1000000

/-- A hold's own rows are rows of one's own, from block B on. -/
def MineV (w : World) (B : Nat) (x : HoldV) : Prop := (∃ xs, w.ownsRow B 53 4 (.slice x.ao x.an x.ac) x.an xs) ∧ ∃ ys, w.ownsRow B 78 3 (.slice x.ro x.rn x.rc) x.rn ys
def Mine (w : World) (B : Nat) (l : List HoldV) : Prop := ∀ x ∈ l, MineV w B x
theorem MineV.ext {w w' : World} {B : Nat} {x : HoldV} (h : MineV w B x) (hx : Ext w w') : MineV w' B x := by
  obtain ⟨⟨xs, h1⟩, ⟨ys, h2⟩⟩ := h
  exact ⟨⟨xs, own_ext h1 hx⟩, ⟨ys, own_ext h2 hx⟩⟩
theorem MineV.far {w w' : World} {B : Nat} {x : HoldV} {S : Nat → Prop} (h : MineV w B x) (hx : But S w w') (hS : ∀ j, S j → j < B) : MineV w' B x := by
  obtain ⟨⟨xs, h1⟩, ⟨ys, h2⟩⟩ := h
  exact ⟨⟨xs, own_but h1 hx (fun j hj e => by have := hS j e; have := own_ge h1 j hj; omega)⟩, ⟨ys, own_but h2 hx (fun j hj e => by have := hS j e; have := own_ge h2 j hj; omega)⟩⟩
theorem own_blk {w : World} {B : Nat} {e : TypeId} {size n : Nat} {v : Value} {xs : List Value} (h : w.ownsRow B e size v n xs) {j : Nat} (hj : v.ownBlock = some j) : ∃ cs, Blk w j cs e := by
  rcases h.2 with ⟨rfl, _⟩ | ⟨g, cap, cur, rfl, _, hg, _⟩
  · simp [Value.ownBlock] at hj
  · simp only [Value.ownBlock, Option.some.injEq] at hj
    subst hj
    exact ⟨cur.toList, by unfold Blk; simpa using hg⟩
theorem MineV.row {w w' : World} {B B' n : Nat} {x : HoldV} {v : Value} {xs : List Value} (h : MineV w B x) (hx : But (fun j => v.ownBlock = some j) w w') (hv : w.ownsRow B' 257 7 v n xs) : MineV w' B x := by
  obtain ⟨⟨xs, h1⟩, ⟨ys, h2⟩⟩ := h
  refine ⟨⟨xs, own_but h1 hx (fun j hj e => ?_)⟩, ⟨ys, own_but h2 hx (fun j hj e => ?_)⟩⟩
  · obtain ⟨cs, hb⟩ := own_blk hv e
    exact own_ne h1 hb (by decide) hj
  · obtain ⟨cs, hb⟩ := own_blk hv e
    exact own_ne h2 hb (by decide) hj
theorem MineV.base {w : World} {B B' : Nat} {x : HoldV} (h : MineV w B x) (hB : B' ≤ B) : MineV w B' x := by
  obtain ⟨⟨xs, h1⟩, ⟨ys, h2⟩⟩ := h
  exact ⟨⟨xs, own_base h1 (fun j hj => Nat.le_trans hB (own_ge h1 j hj))⟩, ⟨ys, own_base h2 (fun j hj => Nat.le_trans hB (own_ge h2 j hj))⟩⟩
theorem Mine.ext {w w' : World} {B : Nat} {l : List HoldV} (h : Mine w B l) (hx : Ext w w') : Mine w' B l := fun x hm => (h x hm).ext hx
theorem Mine.far {w w' : World} {B : Nat} {l : List HoldV} {S : Nat → Prop} (h : Mine w B l) (hx : But S w w') (hS : ∀ j, S j → j < B) : Mine w' B l := fun x hm => (h x hm).far hx hS
theorem Mine.base {w : World} {B B' : Nat} {l : List HoldV} (h : Mine w B l) (hB : B' ≤ B) : Mine w B' l := fun x hm => (h x hm).base hB

end Go.Proofs.YtngahblgicjoiaaGreatDoor
/- copy between rows of elements of some cells each. -/
namespace Go.Proofs.YtngahblgicjoiaaGreatDoor
open Go.RowKit

theorem run_copy_k {P : Program} (w : World) (dT sT ty elem : TypeId) (sz n b o dLen dCap : Nat) (a : Addr) (sLen sCap : Nat) (cs : List Value)
    (hu : P.underlying dT = some (.slice elem)) (hs : (P.info? elem).map (·.size) = some sz) (hn : n = Nat.min sLen dLen) (hl : cs.length = n * sz)
    (hsrc : ∀ j v, cs[j]? = some v → w.cell? (a.add j) = some v) (hc : ∀ j, j < cs.length → (w.cell? ⟨b, o + j, none⟩).isSome = true) (hf : ∀ j, j < cs.length → w.frozen? ⟨b, o + j, none⟩ = false) (h1 : ∀ v ∈ cs, v.oneCell' = true) :
    (Builtin.copy_ #[dT, sT] ty #[.slice (some ⟨b, o, none⟩) dLen dCap, .slice (some a) sLen sCap]).run P w = .ok (goInt n) (w.setCells b o cs) := by
  have hl' := run_loadCells_list (P := P) w a cs hsrc
  have hst := run_storeCells_cells (P := P) b o cs 0 w (by simpa using hc) (by simpa using hf) h1
  cases hq : P.info? elem with
  | none => simp [hq] at hs
  | some i =>
    have hi : i.size = sz := by simpa [hq] using hs
    simp [Builtin.copy_, run_underlying hu, Builtin.lenOf, Builtin.firstCells, sizeOf, typeInfo, hq, hi, ← hn, ← hl, hl', hst]
/-- A list some of whose elements are written over. -/
def splice (cs : List Value) (o : Nat) : List Value → List Value
  | [] => cs
  | v :: vs => splice (cs.set o v) (o + 1) vs
theorem Blk.setCells {b : Nat} {t : TypeId} : ∀ (vs : List Value) (o : Nat) {w : World} {cs : List Value}, Blk w b cs t → Blk (w.setCells b o vs) b (splice cs o vs) t
  | [], _, _, _, h => h
  | v :: vs, o, _, _, h => Blk.setCells vs (o + 1) (h.set o v)
theorem splice_length : ∀ (vs : List Value) (cs : List Value) (o : Nat), (splice cs o vs).length = cs.length
  | [], _, _ => rfl
  | v :: vs, cs, o => by rw [splice, splice_length vs, List.length_set]
theorem splice_eq : ∀ (vs : List Value) (cs : List Value) (o : Nat), o + vs.length ≤ cs.length → splice cs o vs = cs.take o ++ vs ++ cs.drop (o + vs.length)
  | [], cs, o, _ => by simp [splice]
  | v :: vs, cs, o, h => by
    rw [List.length_cons] at h
    rw [splice, splice_eq vs (cs.set o v) (o + 1) (by rw [List.length_set]; omega)]
    have e1 : (cs.set o v).take (o + 1) = cs.take o ++ [v] := by
      rw [List.take_add_one, List.getElem?_set_self (by omega), List.take_set_of_le (Nat.le_refl _)]; rfl
    have e2 : (cs.set o v).drop (o + 1 + vs.length) = cs.drop (o + (v :: vs).length) := by
      rw [List.drop_set_of_lt (by omega), List.length_cons]; congr 1; omega
    rw [e1, e2]; simp
theorem but_setCells {S : Nat → Prop} {b : Nat} (hb : S b) : ∀ (vs : List Value) (o : Nat) {w w' : World}, But S w w' → But S w (w'.setCells b o vs)
  | [], _, _, _, h => h
  | v :: vs, o, _, _, h => but_setCells hb vs (o + 1) (h.setCell (p := ⟨b, o, none⟩) (fun _ => hb) v)
end Go.Proofs.YtngahblgicjoiaaGreatDoor
/- slices.Insert at holds, one hold, at the end. -/
namespace Go.Proofs.YtngahblgicjoiaaGreatDoor
open Go.RowKit

theorem ownB (ao : Option Addr) (n c : Nat) : (Value.slice ao n c).ownBlock = ao.map (·.block) := by cases ao <;> rfl

end Go.Proofs.YtngahblgicjoiaaGreatDoor
/- slices.Insert at holds, one hold, ahead of others, where there is room. -/
namespace Go.Proofs.YtngahblgicjoiaaGreatDoor
open Go.RowKit Go.Lib

theorem hflat_len (l : List HoldV) : (l.flatMap encHV).length = l.length * 7 := by
  induction l with
  | nil => rfl
  | cons a l ih => rw [List.flatMap_cons, List.length_append, ih, List.length_cons]; simp [encHV]; omega
theorem hflat_take (l : List HoldV) (i : Nat) : (l.flatMap encHV).take (i * 7) = (l.take i).flatMap encHV := by
  rcases Nat.lt_or_ge i l.length with h | h
  · conv => lhs; rw [← List.take_append_drop i l, List.flatMap_append]
    rw [List.take_append_of_le_length (by rw [hflat_len, List.length_take]; omega), List.take_of_length_le (by rw [hflat_len, List.length_take]; omega)]
  · rw [List.take_of_length_le h, List.take_of_length_le (by rw [hflat_len]; omega)]
theorem hflat_drop (l : List HoldV) (i : Nat) : (l.flatMap encHV).drop (i * 7) = (l.drop i).flatMap encHV := by
  rcases Nat.lt_or_ge i l.length with h | h
  · conv => lhs; rw [← List.take_append_drop i l, List.flatMap_append]
    have : ((l.take i).flatMap encHV).length = i * 7 := by rw [hflat_len, List.length_take]; omega
    rw [List.drop_append_of_le_length (by omega), List.drop_of_length_le (by omega), List.nil_append]
  · rw [List.drop_of_length_le h, List.drop_of_length_le (by rw [hflat_len]; omega)]; rfl
theorem one_flat (l : List HoldV) : ∀ u ∈ l.flatMap encHV, u.oneCell' = true := by
  intro u hu
  obtain ⟨x, _, hx⟩ := List.mem_flatMap.1 hu
  exact one_hold x u hx
theorem insRow (l : List HoldV) (x : HoldV) (i c : Nat) (cur : List Value) (hi : i < l.length) (hc : l.length + 1 ≤ c) (hcur : cur.length = c * 7) (htk : cur.take (l.length * 7) = l.flatMap encHV) :
    (splice (splice cur ((i + 1) * 7) ((l.drop i).flatMap encHV)) (i * 7) (encHV x)).take ((l.length + 1) * 7) = (l.take i ++ x :: l.drop i).flatMap encHV := by
  have hd : ((l.drop i).flatMap encHV).length = (l.length - i) * 7 := by rw [hflat_len, List.length_drop]
  have hx : (encHV x).length = 7 := rfl
  have hfit : (i + 1) * 7 + (l.length - i) * 7 = (l.length + 1) * 7 := by omega
  have hti : cur.take (i * 7) = (l.take i).flatMap encHV := by
    rw [← hflat_take, ← htk, List.take_take]; congr 1; omega
  rw [splice_eq (encHV x) _ _ (by rw [splice_length, hx]; omega), splice_eq _ cur _ (by rw [hd]; omega), hd, hfit, hx]
  have e1 : (cur.take ((i + 1) * 7) ++ (l.drop i).flatMap encHV ++ cur.drop ((l.length + 1) * 7)).take (i * 7) = (l.take i).flatMap encHV := by
    rw [List.append_assoc, List.take_append_of_le_length (by rw [List.length_take]; omega), List.take_take, ← hti]; congr 1; omega
  have e2 : (cur.take ((i + 1) * 7) ++ (l.drop i).flatMap encHV ++ cur.drop ((l.length + 1) * 7)).drop (i * 7 + 7) = (l.drop i).flatMap encHV ++ cur.drop ((l.length + 1) * 7) := by
    have : (cur.take ((i + 1) * 7)).length = i * 7 + 7 := by rw [List.length_take]; omega
    rw [List.append_assoc, ← this, List.drop_left]
  rw [e1, e2]
  have hlen : ((l.take i).flatMap encHV ++ encHV x ++ (l.drop i).flatMap encHV).length = (l.length + 1) * 7 := by
    rw [List.length_append, List.length_append, hd, hx, hflat_len, List.length_take]; omega
  rw [← List.append_assoc, ← hlen, List.take_left]
  simp
theorem blk_of {w : World} {b : Nat} {t : TypeId} {cur : Array Value} (h : w.heap[b]? = some (.cells cur t (0, 0))) : Blk w b cur.toList t := by unfold Blk; simpa using h
theorem shape_of {w : World} {b : Nat} {t : TypeId} {cs : List Value} (h : Blk w b cs t) : w.shape? b = some (t, cs.length) := by
  unfold Blk at h; simp [World.shape?, h]

end Go.Proofs.YtngahblgicjoiaaGreatDoor
/- slices.Insert at holds, one hold, ahead of others, where there is no room; the three roads as one. -/
namespace Go.Proofs.YtngahblgicjoiaaGreatDoor
open Go.RowKit Go.Lib

theorem zc_size (c : Array Value) (n : Nat) : (Builtin.zeroCells c n).size = n * c.size := by simp [Builtin.zeroCells]
def zeroH : Array Value := #[.string ⟨#[]⟩, .int .i64 0, .int .i64 0, .slice none 0 0, .slice none 0 0, .bool false, .string ⟨#[]⟩]
/-- The row that the append of a make leaves. -/
def growRow (l : List HoldV) (i G : Nat) : List Value := (l.take i).flatMap encHV ++ (Builtin.zeroCells zeroH (l.length + 1 - i)).toList ++ (Builtin.zeroCells zeroH (G - (l.length + 1))).toList
theorem growRow_len (l : List HoldV) (i G : Nat) (hi : i ≤ l.length) (hG : l.length + 1 ≤ G) : (growRow l i G).length = G * 7 := by
  have h7 : zeroH.size = 7 := rfl
  simp only [growRow, List.length_append, hflat_len, List.length_take, Array.length_toList, zc_size, h7]
  omega
theorem growRow_ins (l : List HoldV) (x : HoldV) (i G : Nat) (hi : i < l.length) (hG : l.length + 1 ≤ G) :
    (splice (splice (growRow l i G) (i * 7) (encHV x)) ((i + 1) * 7) ((l.drop i).flatMap encHV)).take ((l.length + 1) * 7) = (l.take i ++ x :: l.drop i).flatMap encHV := by
  have hL := growRow_len l i G (by omega) hG
  have hd : ((l.drop i).flatMap encHV).length = (l.length - i) * 7 := by rw [hflat_len, List.length_drop]
  have hx : (encHV x).length = 7 := rfl
  have ht : ((l.take i).flatMap encHV).length = i * 7 := by rw [hflat_len, List.length_take]; omega
  have e1 : (growRow l i G).take (i * 7) = (l.take i).flatMap encHV := by
    unfold growRow
    rw [List.append_assoc, ← ht, List.take_left]
  rw [splice_eq ((l.drop i).flatMap encHV) _ _ (by rw [splice_length, hd, hL]; omega), splice_eq (encHV x) _ _ (by rw [hx, hL]; omega), hx, hd, e1]
  have e2 : (((l.take i).flatMap encHV) ++ encHV x ++ (growRow l i G).drop (i * 7 + 7)).take ((i + 1) * 7) = (l.take i).flatMap encHV ++ encHV x := by
    rw [show (i + 1) * 7 = ((l.take i).flatMap encHV ++ encHV x).length from by rw [List.length_append, ht, hx]; omega, List.take_left]
  rw [e2]
  have hlen : ((l.take i).flatMap encHV ++ encHV x ++ (l.drop i).flatMap encHV).length = (l.length + 1) * 7 := by
    rw [List.length_append, List.length_append, hd, hx, ht]; omega
  rw [← hlen, List.take_left]
  simp

end Go.Proofs.YtngahblgicjoiaaGreatDoor
/- slices.Insert at holds, one hold: the three roads as one. -/
namespace Go.Proofs.YtngahblgicjoiaaGreatDoor
open Go.RowKit Go.Lib

theorem own_of_blk {w : World} {g n cap : Nat} {cs xs : List Value} {t : TypeId} {sz : Nat} (hb : Blk w g cs t) (hl : cs.length = cap * sz) (hn : n ≤ cap) (hm : cap ≤ maxLen) (ht : cs.take (n * sz) = xs) : w.ownsRow 0 t sz (.slice (some ⟨g, 0, none⟩) n cap) n xs := by
  refine ⟨?_, .inr ⟨g, cap, cs.toArray, rfl, Nat.zero_le _, hb, hn, hm, by simpa using hl, by simpa using ht⟩⟩
  rw [← ht, List.length_take, hl, Nat.min_eq_left (Nat.mul_le_mul_right _ hn)]
end Go.Proofs.YtngahblgicjoiaaGreatDoor
/- those: the holds of which a function tells yes, in memory of their own; the function is any one. -/
namespace Go.Proofs.YtngahblgicjoiaaGreatDoor
open Go.RowKit

/-- A function that tells of a hold by its key and name, wherever only blocks of S have turned. -/
def Asks (g : Nat) (lb : Array Value) (p : ByteArray → Int → Int → Bool) (S : Nat → Prop) (w : World) : Prop :=
  ∀ W, But S w W → ∀ x : HoldV, x.key.size ≤ 140737488351232 → Calls Tryz.prog g (#[.agg (encHV x).toArray] ++ lb) W fun e w' => e = .returned (.bool (p x.key x.cl x.nm)) ∧ Ext W w'
theorem Asks.but {g : Nat} {lb : Array Value} {p : ByteArray → Int → Int → Bool} {S : Nat → Prop} {w w' : World} (h : Asks g lb p S w) (hx : But S w w') : Asks g lb p S w' :=
  fun W hW => h W (hx.trans hW (fun _ _ e => e) (fun _ _ e => e))
theorem Asks.mono {g : Nat} {lb : Array Value} {p : ByteArray → Int → Int → Bool} {S T : Nat → Prop} {w : World} (h : Asks g lb p S w) (hS : ∀ i, T i → S i) : Asks g lb p T w :=
  fun W hW => h W (hW.mono fun i _ e => hS i e)
theorem Asks.ext {g : Nat} {lb : Array Value} {p : ByteArray → Int → Int → Bool} {S : Nat → Prop} {w w' : World} (h : Asks g lb p S w) (hx : Ext w w') : Asks g lb p S w' := h.but (hx.but S)
def HoldV.tells (p : ByteArray → Int → Int → Bool) (x : HoldV) : Bool := p x.key x.cl x.nm
def HoldD.tells (p : ByteArray → Int → Int → Bool) (x : HoldD) : Bool := p x.key x.cl x.nm
theorem HoldsAre.filter {w : World} {no : Nat → Prop} (p : ByteArray → Int → Int → Bool) : ∀ {vs : List HoldV} {ds : List HoldD}, HoldsAre w no vs ds → HoldsAre w no (vs.filter (·.tells p)) (ds.filter (·.tells p))
  | [], [], _ => trivial
  | [], _ :: _, h => h.elim
  | _ :: _, [], h => h.elim
  | v :: vs, d :: ds, h => by
    have e : v.tells p = d.tells p := by unfold HoldV.tells HoldD.tells; rw [h.1.key, h.1.cl, h.1.nm]
    have ih := HoldsAre.filter p h.2
    cases hd : d.tells p
    · rw [List.filter_cons_of_neg (by rw [e, hd]; decide), List.filter_cons_of_neg (by rw [hd]; decide)]; exact ih
    · rw [List.filter_cons_of_pos (by rw [e, hd]), List.filter_cons_of_pos hd]; exact ⟨h.1, ih⟩
theorem filter_succ {α : Type} (q : α → Bool) (l : List α) (k : Nat) (x : α) (h : l[k]? = some x) : (l.take (k + 1)).filter q = (l.take k).filter q ++ (if q x = true then [x] else []) := by
  rw [List.take_add_one, h, List.filter_append]; simp [List.filter_cons]

end Go.Proofs.YtngahblgicjoiaaGreatDoor
/- slices.IndexFunc and slices.DeleteFunc at holds; the function is any one. -/
namespace Go.Proofs.YtngahblgicjoiaaGreatDoor
open Go.RowKit

/-- Where the first hold of which the function tells yes lies; -1: there is none. -/
def FirstH (p : ByteArray → Int → Int → Bool) (l : List HoldV) (k : Int) : Prop :=
  (k = -1 ∧ ∀ x ∈ l, x.tells p = false) ∨ ∃ n : Nat, k = n ∧ n < l.length ∧ (∀ (i : Nat) (x : HoldV), i < n → l[i]? = some x → x.tells p = false) ∧ ∀ x, l[n]? = some x → x.tells p = true

theorem run_clear_k {P : Program} (w : World) (t e ty : TypeId) (z : Value) (zc : Array Value) (ht : P.underlying t = some (.slice e)) (hv : ∀ w, (zeroValue e).run P w = .ok z w) (hz : z.cells = zc) (h1 : ∀ n, ∀ v ∈ (Builtin.zeroCells zc n).toList, v.oneCell' = true) (b o n c : Nat) (hn : 0 < n)
    (hc : ∀ j, j < n * zc.size → (w.cell? ⟨b, o + j, none⟩).isSome = true) (hf : ∀ j, j < n * zc.size → w.frozen? ⟨b, o + j, none⟩ = false) :
    (Builtin.clear_ #[t] ty #[.slice (some ⟨b, o, none⟩) n c]).run P w = .ok (.tuple #[]) (w.setCells b o (Builtin.zeroCells zc n).toList) := by
  have hl : (Builtin.zeroCells zc n).toList.length = n * zc.size := by rw [Array.length_toList, zc_size]
  have hst := run_storeCells_cells (P := P) b o (Builtin.zeroCells zc n).toList 0 w (by rw [hl]; simpa using hc) (by rw [hl]; simpa using hf) (h1 n)
  have hn0 : n ≠ 0 := by omega
  cases n with
  | zero => omega
  | succ m =>
    simp only [Nat.add_zero] at hst
    simp [Builtin.clear_, run_underlying ht, hv, hz, hst, Result.andThen]
theorem zeroH_one : ∀ n, ∀ v ∈ (Builtin.zeroCells zeroH n).toList, v.oneCell' = true := by
  intro n v hv
  simp only [Builtin.zeroCells, Array.toList_map, List.mem_map] at hv
  obtain ⟨i, _, rfl⟩ := hv
  have h : i % zeroH.size < 7 := Nat.mod_lt _ (by decide)
  have : ∀ k, k < 7 → (zeroH[k]!).oneCell' = true := by
    intro k hk
    match k, hk with
    | 0, _ => rfl
    | 1, _ => rfl
    | 2, _ => rfl
    | 3, _ => rfl
    | 4, _ => rfl
    | 5, _ => rfl
    | 6, _ => rfl
  exact this _ h

/-- The holds of which the function tells no. -/
def keepH (p : ByteArray → Int → Int → Bool) (l : List HoldV) : List HoldV := l.filter fun x => !x.tells p
theorem keepH_succ (p : ByteArray → Int → Int → Bool) (l : List HoldV) (k : Nat) (x : HoldV) (h : l[k]? = some x) : keepH p (l.take (k + 1)) = keepH p (l.take k) ++ (if x.tells p = true then [] else [x]) := by
  unfold keepH
  rw [filter_succ _ l k x h]
  cases x.tells p <;> rfl
theorem splice_get : ∀ (vs : List Value) (cs : List Value) (o k : Nat), o + vs.length ≤ k → (splice cs o vs)[k]? = cs[k]?
  | [], _, _, _, _ => rfl
  | v :: vs, cs, o, k, h => by
    rw [List.length_cons] at h
    rw [splice, splice_get vs _ (o + 1) k (by omega), List.getElem?_set_ne (by omega)]
/-- From element j on the cells still hold the elements. -/
def TailH (cs : List Value) (j : Nat) (l : List HoldV) : Prop := ∀ (i : Nat) (x : HoldV), j ≤ i → l[i]? = some x → ∀ (t : Nat) (v : Value), (encHV x)[t]? = some v → cs[i * 7 + t]? = some v
theorem take_splice (cs vs : List Value) (o : Nat) (h : o + vs.length ≤ cs.length) : (splice cs o vs).take (o + vs.length) = cs.take o ++ vs := by
  rw [splice_eq vs cs o h]
  have : (cs.take o ++ vs).length = o + vs.length := by rw [List.length_append, List.length_take]; omega
  rw [← this, List.take_left]
theorem take_splice' (cs vs : List Value) (o : Nat) (h : o + vs.length ≤ cs.length) : (splice cs o vs).take o = cs.take o := by
  rw [splice_eq vs cs o h, List.append_assoc]
  have : (cs.take o).length = o := by rw [List.length_take]; omega
  exact List.take_left' this

theorem HoldsAre.keep {w : World} {no : Nat → Prop} (p : ByteArray → Int → Int → Bool) : ∀ {vs : List HoldV} {ds : List HoldD}, HoldsAre w no vs ds → HoldsAre w no (keepH p vs) (ds.filter fun d => !d.tells p)
  | [], [], _ => trivial
  | [], _ :: _, h => h.elim
  | _ :: _, [], h => h.elim
  | v :: vs, d :: ds, h => by
    have e : v.tells p = d.tells p := by unfold HoldV.tells HoldD.tells; rw [h.1.key, h.1.cl, h.1.nm]
    have ih := HoldsAre.keep p h.2
    unfold keepH at ih ⊢
    cases hd : d.tells p
    · rw [List.filter_cons_of_pos (by rw [e, hd]; rfl), List.filter_cons_of_pos (by rw [hd]; rfl)]; exact ⟨h.1, ih⟩
    · rw [List.filter_cons_of_neg (by rw [e, hd]; decide), List.filter_cons_of_neg (by rw [hd]; decide)]; exact ih
end Go.Proofs.YtngahblgicjoiaaGreatDoor
