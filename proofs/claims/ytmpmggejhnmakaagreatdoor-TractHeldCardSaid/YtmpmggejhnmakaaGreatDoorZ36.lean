/- rows.Write, past.Write, the tables' write. -/
import Derived.Test.YtmpmggejhnmakaaGreatDoorZ35
import Derived.Test.YtmpmggejhnmakaaGreatDoorZ23
import Derived.Test.YtmpmggejhnmakaaGreatDoorZ04
namespace Go.Proofs.YtmpmggejhnmakaaGreatDoor
open Go.RowKit
def rowW (r : RowD) : List UInt8 := rowB r.key.data.toList ++ rowB r.value.data.toList
def rowsW (l : List RowD) : List UInt8 := numZ (l.length : Int) ++ l.flatMap rowW
theorem rowW_len (r : RowD) (h : r.key.size ≤ 1000 ∧ r.value.size ≤ 1000) : (rowW r).length ≤ 200018 := by
 unfold rowW
 have h1 := rowB_len r.key.data.toList (by rw [size_data]; omega)
 have h2 := rowB_len r.value.data.toList (by rw [size_data]; omega)
 rw [List.length_append]; omega
theorem wrap_okn (n : Nat) (h : n ≤ 1000000) : okN (n : Int) = true := by simp [okN]; omega
set_option maxRecDepth 100000 in
set_option maxHeartbeats 3200000 in
theorem rowsWrite_calls (wb : Nat) (sp : Bool) (v : Value) (bs : List UInt8) (l : List RowD) (ao : Option Addr) (cap : Nat) (w : World) (T : Wr w wb sp v bs) (hl : l.length ≤ 10000) (hb0 : bs.length ≤ 1000000) (hr : NRows 2 encRw (fun b => b = wb ∨ v.ownBlock = some b) w ao l) (hs : ∀ r ∈ l, r.key.size ≤ 1000 ∧ r.value.size ≤ 1000) :
 Calls Tryz.prog 121 #[.pointer (some ⟨wb, 0, none⟩), .slice ao l.length cap] w fun e w' => e = .returned (.pointer (some ⟨wb, 0, none⟩)) ∧ WrPost wb v w sp (bs ++ rowsW l) w' := by
 have HT := Lib.hid T; have HR := Lib.hid hr; have HS := Lib.hid hs
 clear T hr hs
 go_enter Tryz.func121, Tryz.ntmps121
 go_wp2_with fail
 refine (chain_numbers wb [(l.length : Int)] 1 rfl (by simp) ((WrPost.start HT.out).ext ((Below.refl _ _).alloc (Nat.le_refl _) _)) (by omega) ⟨_, rfl, Blk.new w [.int .i64 (l.length : Int)] _⟩).mono ?_
 rintro e w1 ⟨rfl, h1, -⟩
 have R1 := Lib.hid h1
 clear h1
 go_wp2_with fail
 go_loopw [14] (fun vi wr => ∃ k : Nat, vi = .int .i64 k ∧ k ≤ l.length ∧ WrPost wb v w sp (bs ++ numZ (l.length : Int) ++ (l.take k).flatMap rowW) wr) (fun vi _ => l.length - (intOf vi).toNat)
 case atStart =>
  refine ⟨0, rfl, by omega, ?_⟩
  have := R1.out
  have hok : badsZ [(l.length : Int)] = false := by simp [badsZ, wrap_okn _ (show l.length ≤ 1000000 by omega)]
  rw [hok] at this
  simpa using this
 case round =>
  obtain ⟨k, rfl, hk, hW⟩ := hrel
  have R2 := Lib.hid hW
  clear hW R1
  by_cases hlt : k < l.length
  · obtain ⟨x, hx⟩ : ∃ x, l[k]? = some x := ⟨_, List.getElem?_eq_getElem hlt⟩
    have hfx := HS.out x (List.mem_of_getElem? hx)
    obtain ⟨b, off, rfl, hb, hno, hcell⟩ := HR.out (by intro e; rw [e] at hlt; simp at hlt)
    have hcx := hcell k x hx
    obtain ⟨v1, hT1, hB1, hK1⟩ := id R2.out
    have hmv : ∀ j, wr.cell? ⟨b, j, none⟩ = w.cell? ⟨b, j, none⟩ := fun j => hB1.cell (p := ⟨b, j, none⟩) hb hno
    have hty : l.take (k + 1) = l.take k ++ [x] := by rw [List.take_add_one, hx]; rfl
    have hlk := flat_len rowW 200018 (l.take k) (fun d hd => rowW_len d (HS.out d (List.mem_of_mem_take hd)))
    rw [List.length_take] at hlk
    have hn9 := numZ_len (l.length : Int)
    obtain ⟨kx, vx⟩ := x
    have d0 := (hmv _).trans (hcx 0 _ rfl); have d1 := (hmv _).trans (hcx 1 _ rfl)
    simp only [Nat.add_zero] at d0
    have ii0 : (0 : Int) ≤ (k : Int) := by omega
    have i1 : (k : Int) < (l.length : Int) := by omega
    obtain ⟨bk, hbke⟩ : ∃ bk, bk = (bs ++ numZ (l.length : Int) ++ (l.take k).flatMap rowW) := ⟨_, rfl⟩
    have hbl : bk.length ≤ 30000000000000 := by rw [hbke]; simp only [List.length_append]; omega
    rw [← hbke] at R2
    have HBK := Lib.hid hbke; have HTY := Lib.hid hty
    have hx2 : Ext wr ((wr.alloc (.cells #[.string kx, .string vx] 52)).alloc (.cells #[.string kx, .string vx] 9)) := ((Below.refl _ wr).alloc (Nat.le_refl _) _).alloc (by simp) _
    have TX := Lib.hid (chain_texts wb [kx, vx] 2 rfl (by simp) (fun x hx => by
     simp only [List.mem_cons, List.not_mem_nil, or_false] at hx
     rcases hx with rfl | rfl
     · rw [size_data]; have := hfx.1; simp only at this; omega
     · rw [size_data]; have := hfx.2; simp only at this; omega) (R2.out.ext hx2) (by omega) ⟨wr.heap.size + 1, rfl, by
       have := Blk.new (wr.alloc (.cells #[.string kx, .string vx] 52)) [.string kx, .string vx] 9
       rwa [World.size_alloc] at this⟩)
    clear hx hfx hcell hcx hmv hT1 hB1 hK1 hbke hty hlk hn9 hx2
    go_wp2_with fail
    refine TX.out.mono ?_
    rintro e w3 ⟨rfl, h3, -⟩
    have R3 := Lib.hid h3
    clear h3
    go_wp2_with fail
    go_roundw
    case rel =>
     refine ⟨k + 1, by go_num, by omega, ?_⟩
     have := R3.out
     rw [HTY.out, List.flatMap_append, ← List.append_assoc, ← HBK.out]
     simpa [rowW] using this
    case measure => simp [intOf]; omega
  · have hall : l.take k = l := List.take_of_length_le (by omega)
    rw [hall] at R2
    clear hall
    go_wp2_with fail
    go_ret
    exact ⟨rfl, by have := R2.out; rwa [List.append_assoc] at this⟩
def pastW (ns : List Int) : List UInt8 := ns.flatMap numZ
set_option maxRecDepth 100000 in
set_option maxHeartbeats 1600000 in
theorem pastWrite_calls (pb wb : Nat) (sp : Bool) (v : Value) (bs : List UInt8) (ns : List Int) (w : World) (P : PTab w pb ns) (T : Wr w wb sp v bs) (hb0 : bs.length ≤ 30000000000000) :
 Calls Tryz.prog 119 #[.pointer (some ⟨pb, 0, none⟩), .pointer (some ⟨wb, 0, none⟩)] w fun e w' => e = .returned (.pointer (some ⟨wb, 0, none⟩)) ∧ WrPost wb v w sp (bs ++ pastW ns) w' := by
 have HT := Lib.hid T; have HP := Lib.hid P
 have hx1 : Ext w (w.alloc (.cells #[.pointer (some ⟨pb, 0, none⟩)] 80)) := (Below.refl _ w).alloc (Nat.le_refl _) _
 have KN := Lib.hid (pknown_calls pb w.heap.size 1 _ ((Blk.new w [.pointer (some ⟨pb, 0, none⟩)] 80).cell 0) ((P.ext hx1).made))
 have X1 := Lib.hid hx1
 clear T P hx1
 go_enter Tryz.func119, Tryz.ntmps119
 go_wp2_with fail
 refine KN.out.mono ?_
 rintro e w2 ⟨rfl, hx⟩
 have X2 := Lib.hid (Ext.trans X1.out hx)
 have T2 := HT.out.ext X2.out; have P2 := HP.out.ext X2.out
 have hbad : badsZ ns = false := by
  unfold badsZ
  rw [List.any_eq_false]
  intro n hn
  obtain ⟨h0, h1⟩ := HP.out.ok n hn
  have : okN n = true := by simp [okN]; omega
  rw [this]; simp
 have hno : ¬ (pb = wb ∨ v.ownBlock = some pb) := fun e => by
  rcases e with e | e
  · subst e; exact absurd (blk_type P2.blk T2.blk) (by decide)
  · exact own_ne T2.row P2.blk (by decide) e
 have hl8 := HP.out.len
 have NB := Lib.hid (numbers_any wb sp v bs ns (some ⟨pb, 0, none⟩) 8 w2 T2 (fun _ => ⟨pb, 0, rfl, P2.blk.lt, hno, fun i x hi j u hj => by
  have hi8 : i < 8 := by have := (List.getElem?_eq_some_iff.1 hi).1; omega
  match j, hj with
  | 0, hj =>
    simp only [encI, List.getElem?_cons_zero, Option.some.injEq] at hj
    subst hj
    rw [P2.blk.cell, Nat.zero_add, Nat.mul_one, Nat.add_zero, List.getElem?_append_left (by rw [List.length_map]; omega), List.getElem?_map, hi]; rfl
  | j + 1, hj => simp [encI] at hj⟩) (by omega) (by omega))
 have c0 := P2.blk.cell 0
 have HB := Lib.hid hbad
 rw [hl8] at NB
 clear hx T2 P2 hbad hno hl8
 go_wp2_with fail
 refine NB.out.mono ?_
 rintro e w3 ⟨rfl, v3, k1, k2, k3⟩
 have W3 : Hid (WrPost wb v w sp (bs ++ pastW ns) w3) := Lib.hid (by
  rw [HB.out, Bool.or_false] at k1
  exact ⟨v3, k1, (Ext.but X2.out (fun _ => False)).trans k2 (fun _ _ e => e.elim) (fun _ _ e => e), fun j hj => (k3 j hj).imp id (fun h => Nat.le_trans X2.out.size h)⟩)
 clear k1 k2 k3
 go_wp2_with fail
 go_ret
 exact ⟨rfl, W3.out⟩
end Go.Proofs.YtmpmggejhnmakaaGreatDoor
/- The tables' write, to a writer that is new. -/
namespace Go.Proofs.YtmpmggejhnmakaaGreatDoor
open Go.RowKit
structure WrNew (w0 w : World) (wb : Nat) (sp : Bool) (v : Value) (bs : List UInt8) : Prop where
 wr : Wr w wb sp v bs
 new : w0.heap.size ≤ wb
 own : ∀ j, v.ownBlock = some j → w0.heap.size ≤ j
 ext : Ext w0 w
theorem WrNew.to {w0 w w' : World} {wb : Nat} {sp : Bool} {v : Value} {bs : List UInt8} (h : WrNew w0 w wb sp v bs) (hx : Ext w w') : WrNew w0 w' wb sp v bs := ⟨h.wr.ext hx, h.new, h.own, Ext.trans h.ext hx⟩
theorem WrNew.step {w0 w w' : World} {wb : Nat} {sp sp' : Bool} {v : Value} {bs bs' : List UInt8} (h : WrNew w0 w wb sp v bs) (hp : WrPost wb v w sp' bs' w') : ∃ v', WrNew w0 w' wb sp' v' bs' ∧ But (fun j => j = wb ∨ v.ownBlock = some j) w w' ∧ Kept1 w v v' := by
 obtain ⟨v', h1, h2, h3⟩ := hp
 refine ⟨v', ⟨h1, h.new, fun j hj => ?_, ?_⟩, h2, h3⟩
 · rcases h3 j hj with e | e
   · exact h.own j e
   · exact Nat.le_trans h.ext.size e
 · exact Ext.butNew h.ext h2 (fun j e => e.elim (fun e => by rw [e]; exact h.new) (h.own j))
structure RowBy (w : World) (ro : Option Addr) (rc : Nat) (l : List RowD) : Prop where
 own : w.ownsRow 0 52 2 (.slice ro l.length rc) l.length (l.flatMap encRw)
theorem RowBy.ext {w w' : World} {ro : Option Addr} {rc : Nat} {l : List RowD} (h : RowBy w ro rc l) (hx : Ext w w') : RowBy w' ro rc l := ⟨own_ext h.own hx⟩
theorem RowBy.nrows {w : World} {ro : Option Addr} {rc : Nat} {l : List RowD} (h : RowBy w ro rc l) {wb : Nat} {sp : Bool} {v : Value} {bs : List UInt8} (T : Wr w wb sp v bs) : NRows 2 encRw (fun b => b = wb ∨ v.ownBlock = some b) w ro l :=
 nrows_of_own (fun _ => rfl) h.own (fun k hk e => e.elim (fun e => own_bk h.own T.blk (by decide) (e ▸ hk)) (own_own h.own T.row (by decide) k hk))
structure HoldBy (w : World) (wb : Nat) (v : Value) (ro : Option Addr) (rc : Nat) (l : List HoldV) (ds : List HoldD) : Prop where
 len : l.length = ds.length
 own : w.ownsRow 0 48 7 (.slice ro l.length rc) l.length (l.flatMap encHV)
 are : HoldsAre w (fun b => b = wb ∨ v.ownBlock = some b) l ds
theorem HoldBy.ext {w w' : World} {wb : Nat} {v : Value} {ro : Option Addr} {rc : Nat} {l : List HoldV} {ds : List HoldD} (h : HoldBy w wb v ro rc l ds) (hx : Ext w w') : HoldBy w' wb v ro rc l ds := ⟨h.len, own_ext h.own hx, h.are.ext hx⟩
theorem HoldBy.step {w w' : World} {wb : Nat} {sp : Bool} {v v' : Value} {bs : List UInt8} {ro : Option Addr} {rc : Nat} {l : List HoldV} {ds : List HoldD} (h : HoldBy w wb v ro rc l ds) (T : Wr w wb sp v bs) (hx : But (fun j => j = wb ∨ v.ownBlock = some j) w w') (hk : Kept1 w v v') : HoldBy w' wb v' ro rc l ds := by
 refine ⟨h.len, own_but h.own hx (fun k hk e => e.elim (fun e => own_bk h.own T.blk (by decide) (e ▸ hk)) (own_own h.own T.row (by decide) k hk)), ?_⟩
 have h1 : HoldsAre w (fun b => (b = wb ∨ v.ownBlock = some b) ∨ w.heap.size ≤ b) l ds := h.are.mono (fun b hb e => e.elim id (fun e => by omega))
 refine (h1.but hx (fun b _ e => .inl e)).mono (fun b _ e => ?_)
 rcases e with e | e
 · exact .inl (.inl e)
 · rcases hk b e with e | e
   · exact .inl (.inr e)
   · exact .inr e
theorem HoldBy.nrows {w : World} {wb : Nat} {sp : Bool} {v : Value} {bs : List UInt8} {ro : Option Addr} {rc : Nat} {l : List HoldV} {ds : List HoldD} (h : HoldBy w wb v ro rc l ds) (T : Wr w wb sp v bs) : NRows 7 encHV (fun b => b = wb ∨ v.ownBlock = some b) w ro l :=
 nrows_of_own (fun _ => rfl) h.own (fun k hk e => e.elim (fun e => own_bk h.own T.blk (by decide) (e ▸ hk)) (own_own h.own T.row (by decide) k hk))
theorem holdBy_of {w w' : World} {wb : Nat} {sp : Bool} {v : Value} {bs : List UInt8} {ds : List HoldD} {r : Value} (T : Wr w wb sp v bs) (h : RowPost ds w (.returned r) w') : ∃ ro rc l, r = .slice ro l.length rc ∧ HoldBy w' wb v ro rc l ds ∧ Ext w w' := by
 obtain ⟨r', l, hr, hn, ho, _, ha, _, hx⟩ := h
 injection hr with hr
 subst hr
 obtain ⟨ro, rc, rfl⟩ := own_slice ho
 refine ⟨ro, rc, l, rfl, ⟨hn, ho, ha.mono (fun b _ e => .inr ?_)⟩, hx⟩
 rcases e with rfl | e
 · exact T.blk.lt
 · obtain ⟨cs, hb⟩ := own_blk T.row e
   exact hb.lt
theorem rw_small {l : List RowD} (h : ∀ r ∈ l, rwB r = true) : ∀ r ∈ l, r.key.size ≤ 1000 ∧ r.value.size ≤ 1000 := fun r hr => by
 have h1 := h r hr
 unfold rwB keyL at h1
 simp only [Bool.and_eq_true, decide_eq_true_eq] at h1
 have h2 := h1.1.1.2
 unfold rkey at h2
 rw [size_data] at h2
 omega
theorem inR_mem {lo hi : List UInt8} {l : List RowD} {r : RowD} (h : r ∈ inR lo hi l) : r ∈ l := List.mem_of_mem_take (List.mem_of_mem_drop h)
theorem inD_mem {lo hi : ByteArray} {l : List HoldD} {r : HoldD} (h : r ∈ inD lo hi l) : r ∈ l := (List.mem_filter.1 h).1
def tabW (lo hi : ByteArray) (d : TrD) : List UInt8 := rowsW (inR lo.data.toList hi.data.toList d.rows) ++ writeW (inD lo hi d.holds) ++ pastW d.ns
theorem rowW_short {r : RowD} (h : rwB r = true) : (rowW r).length ≤ 58 := by
 unfold rwB keyL at h
 simp only [Bool.and_eq_true, decide_eq_true_eq] at h
 have h2 := h.1.1.2
 have h3 := h.2
 unfold rkey at h2
 have h4 : r.value.data.toList.length ≤ 20 := by rw [size_data]; omega
 have n1 := numB_nine (n := r.key.data.toList.length) (by omega)
 have n2 := numB_nine (n := r.value.data.toList.length) (by omega)
 unfold rowW rowB
 simp only [List.length_append]
 omega
theorem rowsW_len {l : List RowD} (h : ∀ r ∈ l, rwB r = true) (hl : l.length ≤ 400) : (rowsW l).length ≤ 30000 := by
 have h1 := flat_len rowW 58 l (fun r hr => rowW_short (h r hr))
 have h2 := numZ_len (l.length : Int)
 rw [rowsW, List.length_append]; omega
structure WSt (w0 w1 : World) (wb : Nat) (v : Value) (bs : List UInt8) (W : World) (v' : Value) : Prop where
 new : WrNew w0 W wb false v' bs
 but : But (fun j => j = wb ∨ v.ownBlock = some j) w1 W
 kept : Kept1 w1 v v'
theorem WSt.ext {w0 w1 : World} {wb : Nat} {v : Value} {bs : List UInt8} {W W' : World} {v' : Value} (h : WSt w0 w1 wb v bs W v') (hx : Ext W W') : WSt w0 w1 wb v bs W' v' :=
 ⟨h.new.to hx, h.but.trans (Ext.but hx (fun _ => False)) (fun _ _ e => e) (fun _ _ e => e.elim), h.kept⟩
theorem WSt.step {w0 w1 : World} {wb : Nat} {v : Value} {bs bs' : List UInt8} {W W' : World} {v' v2 : Value} (h : WSt w0 w1 wb v bs W v') (hn : WrNew w0 W' wb false v2 bs') (hb : But (fun j => j = wb ∨ v'.ownBlock = some j) W W') (hk : Kept1 W v' v2) : WSt w0 w1 wb v bs' W' v2 :=
 ⟨hn, h.but.trans hb (fun _ _ e => e) (fun _ hj e => own_back h.kept hj e), kept_trans h.kept h.but.size hk⟩
def Wrote (w0 : World) (wb : Nat) (v : Value) (bs : List UInt8) (W : World) (e : Ending) (w' : World) : Prop :=
 e = .returned (.pointer (some ⟨wb, 0, none⟩)) ∧ ∃ v', WrNew w0 w' wb false v' bs ∧ But (fun j => j = wb ∨ v.ownBlock = some j) W w' ∧ Kept1 W v v'
set_option maxRecDepth 100000 in
set_option maxHeartbeats 6400000 in
theorem tabWrite_calls (k : TrK) (d : TrD) (lo hi : ByteArray) (wb : Nat) (v : Value) (bs : List UInt8) (w0 w : World) (T : TrIs w0 k d) (N : WrNew w0 w wb false v bs) (hb0 : bs.length ≤ 900000) (hl : lo.size ≤ 140737488351232) (hh : hi.size ≤ 140737488351232) :
 Calls Tryz.prog 51 #[.agg #[.pointer (some ⟨k.rb, 0, none⟩), .pointer (some ⟨k.hb, 0, none⟩), .pointer (some ⟨k.pb, 0, none⟩)], .pointer (some ⟨wb, 0, none⟩), .agg #[.string lo, .string hi]] w fun e w' => e = .returned (.pointer (some ⟨wb, 0, none⟩)) ∧ ∃ v', WrNew w0 w' wb false v' (bs ++ tabW lo hi d) := by
 obtain ⟨RL, hRL⟩ : ∃ RL, RL = inR lo.data.toList hi.data.toList d.rows := ⟨_, rfl⟩
 obtain ⟨DL, hDL⟩ : ∃ DL, DL = inD lo hi d.holds := ⟨_, rfl⟩
 have hrok : ∀ r ∈ RL, rwB r = true := fun r hr => T.rt.ok r (inR_mem (by rw [hRL] at hr; exact hr))
 have hdok : ∀ r ∈ DL, holdB r = true := fun r hr => (T.ht.ok r (inD_mem (by rw [hDL] at hr; exact hr))).2
 have hrl : RL.length ≤ 400 := by
  rw [hRL, inR]
  have := T.rt.few
  rw [List.length_drop, List.length_take]; omega
 have hdl : DL.length ≤ 60 := by rw [hDL]; exact Nat.le_trans (List.length_filter_le _ _) T.ht.few
 have hlen1 := rowsW_len hrok hrl
 have hlen2 := writeW_len (fun d hd => right_wfit (hdok d hd)) (show DL.length ≤ 10000 by omega)
 have hTW : tabW lo hi d = rowsW RL ++ writeW DL ++ pastW d.ns := by rw [hRL, hDL]; rfl
 obtain ⟨w1, hw1⟩ : ∃ w1, w1 = (w.alloc (.cells #[.pointer (some ⟨k.rb, 0, none⟩), .pointer (some ⟨k.hb, 0, none⟩), .pointer (some ⟨k.pb, 0, none⟩)] 82)).alloc (.cells #[.string lo, .string hi] 30) := ⟨_, rfl⟩
 have hx1 : Ext w w1 := by rw [hw1]; exact ((Below.refl _ w).alloc (Nat.le_refl _) _).alloc (by simp) _
 have hb1 : Blk w1 w.heap.size [.pointer (some ⟨k.rb, 0, none⟩), .pointer (some ⟨k.hb, 0, none⟩), .pointer (some ⟨k.pb, 0, none⟩)] 82 := by rw [hw1]; exact (Blk.new w _ _).alloc _
 have hb2 : Blk w1 (w.heap.size + 1) [.string lo, .string hi] 30 := by
  rw [hw1]
  have := Blk.new (w.alloc (.cells #[.pointer (some ⟨k.rb, 0, none⟩), .pointer (some ⟨k.hb, 0, none⟩), .pointer (some ⟨k.pb, 0, none⟩)] 82)) [.string lo, .string hi] 30
  rwa [World.size_alloc] at this
 have HRI : Hid (∀ W v' bs', WSt w0 w1 wb v bs' W v' → Calls Tryz.prog 39 #[.pointer (some ⟨k.rb, 0, none⟩), .agg #[.string lo, .string hi]] W fun e w' => ∃ ro rc, e = .returned (.slice ro RL.length rc) ∧ RowBy w' ro rc RL ∧ Ext W w') := Lib.hid (fun W _ _ hW => (inT_calls k.rb k.rv d.rows lo hi W (T.rt.ext hW.new.ext) hl hh).mono (by
  rintro e w' ⟨r, rfl, ho, _, hx⟩
  rw [← hRL] at ho
  obtain ⟨ro, rc, rfl⟩ := own_slice ho
  exact ⟨ro, rc, rfl, ⟨ho⟩, hx⟩))
 have HHI : Hid (∀ W v' bs', WSt w0 w1 wb v bs' W v' → Calls Tryz.prog 40 #[.pointer (some ⟨k.hb, 0, none⟩), .agg #[.string lo, .string hi]] W fun e w' => ∃ ro rc l, e = .returned (.slice ro l.length rc) ∧ HoldBy w' wb v' ro rc l DL ∧ Ext W w') := Lib.hid (fun W v' bs' hW => (in_calls k.hb k.hv d.holds lo hi W (T.ht.ext hW.new.ext) hl hh).mono (by
  rintro e w' ⟨r, l', rfl, hrest⟩
  obtain ⟨ro, rc, l, h1, h2, h3⟩ := holdBy_of hW.new.wr (show RowPost DL W (.returned r) w' from by rw [hDL]; exact ⟨r, l', rfl, hrest⟩)
  exact ⟨ro, rc, l, by rw [h1], h2, h3⟩))
 have HRW : Hid (∀ W v' ro rc, WSt w0 w1 wb v bs W v' → RowBy W ro rc RL → Calls Tryz.prog 121 #[.pointer (some ⟨wb, 0, none⟩), .slice ro RL.length rc] W (Wrote w0 wb v' (bs ++ rowsW RL) W)) := Lib.hid (fun W v' ro rc hW hR => (rowsWrite_calls wb false v' bs RL ro rc W hW.new.wr (by omega) (by omega) (hR.nrows hW.new.wr) (rw_small hrok)).mono (by
  rintro e w' ⟨rfl, hp⟩
  exact ⟨rfl, hW.new.step hp⟩))
 have HHW : Hid (∀ W v' ro rc l, WSt w0 w1 wb v (bs ++ rowsW RL) W v' → HoldBy W wb v' ro rc l DL → Calls Tryz.prog 120 #[.pointer (some ⟨wb, 0, none⟩), .slice ro l.length rc] W (Wrote w0 wb v' (bs ++ rowsW RL ++ writeW DL) W)) := Lib.hid (fun W v' ro rc l hW hR => (write_calls wb false v' (bs ++ rowsW RL) l DL ro rc W hW.new.wr (by rw [hR.len]; omega) (by rw [List.length_append]; omega) (hR.nrows hW.new.wr) hR.are (fun d hd => right_wfit (hdok d hd))).mono (by
  rintro e w' ⟨rfl, hp⟩
  rw [rights_bad hdok] at hp
  exact ⟨rfl, hW.new.step hp⟩))
 have HPW : Hid (∀ W v', WSt w0 w1 wb v (bs ++ rowsW RL ++ writeW DL) W v' → Calls Tryz.prog 119 #[.pointer (some ⟨k.pb, 0, none⟩), .pointer (some ⟨wb, 0, none⟩)] W (Wrote w0 wb v' (bs ++ rowsW RL ++ writeW DL ++ pastW d.ns) W)) := Lib.hid (fun W v' hW => (pastWrite_calls k.pb wb false v' _ d.ns W (T.pt.ext hW.new.ext) hW.new.wr (by simp only [List.length_append]; omega)).mono (by
  rintro e w' ⟨rfl, hp⟩
  exact ⟨rfl, hW.new.step hp⟩))
 have HTW : Hid (bs ++ tabW lo hi d = bs ++ rowsW RL ++ writeW DL ++ pastW d.ns) := Lib.hid (by rw [hTW]; simp only [List.append_assoc])
 have NS : Hid (WSt w0 w1 wb v bs w1.drew v) := Lib.hid ⟨N.to hx1.drew, (But.refl _ w1).drew, fun _ h => .inl h⟩
 have hnb : ∀ {g : Nat} {cs : List Value} {t : TypeId}, Blk w1 g cs t → t ≠ 198 → t ≠ 5 → ¬ (g = wb ∨ v.ownBlock = some g) := fun h h1 h2 e => e.elim (fun e => by subst e; exact absurd (blk_type h (N.wr.ext hx1).blk) h1) (own_ne (N.wr.ext hx1).row h h2)
 have b0 := ButBy.cell (S := fun j => j = wb ∨ v.ownBlock = some j) (hb1.cell 0) (hnb hb1 (by decide) (by decide)); have b1 := ButBy.cell (S := fun j => j = wb ∨ v.ownBlock = some j) (hb1.cell 1) (hnb hb1 (by decide) (by decide)); have b2 := ButBy.cell (S := fun j => j = wb ∨ v.ownBlock = some j) (hb1.cell 2) (hnb hb1 (by decide) (by decide)); have s0 := ButBy.cell (S := fun j => j = wb ∨ v.ownBlock = some j) (hb2.cell 0) (hnb hb2 (by decide) (by decide)); have s1 := ButBy.cell (S := fun j => j = wb ∨ v.ownBlock = some j) (hb2.cell 1) (hnb hb2 (by decide) (by decide))
 have W1 := Lib.hid hw1
 clear T N hb0 hRL hDL hrok hdok hrl hdl hlen1 hlen2 hTW hw1 hx1 hb1 hb2 hnb
 go_enter Tryz.func51, Tryz.ntmps51
 go_upto_region 1 with fail
 rw [← W1.out]
 clear W1
 refine wp_region_firstC (fun W => ∃ p : ButBy (fun j => j = wb ∨ v.ownBlock = some j) w1, W = p.W) [0, 1, 2, 3, 4, 5, 8, 9, 10] 6 (by kernel_rfl) (by kernel_rfl) (fun _ _ _ _ h => h) ⟨⟨w1.drew, (But.refl _ w1).drew⟩, rfl⟩ ?_
 simp only [opsAt, List.getElem?_toArray, List.getElem?_cons_succ, List.getElem?_cons_zero]
 repeat (go_big_quiet_step (fail))
 refine wpQuiet_nil ?_
 clear b0 b1 b2 s0 s1
 refine wpAnyH_ready (rs := [6]) (by kernel_rfl) (by simp) ?_
 refine AllReadyH.cons rfl (fun K hK => ?_) AllReadyH.nil
 go_simp
 refine (HRI.out _ _ _ NS.out).mono ?_
 rintro e wn ⟨ro, rc, rfl, hr, hx⟩
 have RR := Lib.hid hr
 replace NS := Lib.hid (NS.out.ext hx)
 clear hr hx
 refine hK.out _ _ ⟨⟨_, NS.out.but⟩, rfl⟩ (fun _ => ?_)
 clear hK K
 refine wpAnyH_ready (rs := [7]) (by kernel_rfl) (by simp) ?_
 refine AllReadyH.cons rfl (fun K hK => ?_) AllReadyH.nil
 go_simp
 refine (HRW.out _ _ _ _ NS.out RR.out).mono ?_
 rintro e wn ⟨rfl, vn, hn, hb, hk⟩
 replace NS := Lib.hid (NS.out.step hn hb hk)
 clear hn hb hk
 refine hK.out _ _ ⟨⟨_, NS.out.but⟩, rfl⟩ (fun _ => ?_)
 clear hK K
 refine wpAnyH_ready (rs := [11]) (by kernel_rfl) (by simp) ?_
 refine AllReadyH.cons rfl (fun K hK => ?_) AllReadyH.nil
 go_simp
 refine (HHI.out _ _ _ NS.out).mono ?_
 rintro e wn ⟨ho, hc, hv, rfl, hr, hx⟩
 have HH := Lib.hid hr
 replace NS := Lib.hid (NS.out.ext hx)
 clear hr hx
 refine hK.out _ _ ⟨⟨_, NS.out.but⟩, rfl⟩ (fun _ => ?_)
 clear hK K
 refine wpAnyH_ready (rs := [12]) (by kernel_rfl) (by simp) ?_
 refine AllReadyH.cons rfl (fun K hK => ?_) AllReadyH.nil
 go_simp
 refine (HHW.out _ _ _ _ _ NS.out HH.out).mono ?_
 rintro e wn ⟨rfl, vn, hn, hb, hk⟩
 replace NS := Lib.hid (NS.out.step hn hb hk)
 clear hn hb hk
 refine hK.out _ _ ⟨⟨_, NS.out.but⟩, rfl⟩ (fun _ => ?_)
 clear hK K
 refine wpAnyH_ready (rs := [13]) (by kernel_rfl) (by simp) ?_
 refine AllReadyH.cons rfl (fun K hK => ?_) AllReadyH.nil
 go_simp
 refine (HPW.out _ _ NS.out).mono ?_
 rintro e wn ⟨rfl, vn, hn, hb, hk⟩
 replace NS := Lib.hid (NS.out.step hn hb hk)
 clear hn hb hk
 refine hK.out _ _ ⟨⟨_, NS.out.but⟩, rfl⟩ (fun _ => ?_)
 clear hK K
 refine wp_takesC (f := 0) [14] (by kernel_rfl) (fun _ _ _ _ h => h) ⟨⟨_, NS.out.but⟩, rfl⟩ ?_
 simp only [opsAt, List.getElem?_toArray, List.getElem?_cons_succ, List.getElem?_cons_zero]
 repeat (go_big_quiet_step (fail))
 refine wpQuiet_nil ?_
 refine wpAnyH_done (by kernel_rfl) ?_ _
 go_wp2_with fail
 go_ret
 exact ⟨rfl, _, by rw [HTW.out]; exact NS.out.new⟩
end Go.Proofs.YtmpmggejhnmakaaGreatDoor
