/- less: the holds of which a function tells yes are taken away. -/
import Derived.Test.YtdmejbjpbjcfbaaGreatDoorLayH
import Derived.Test.YtdmejbjpbjcfbaaGreatDoorMark
import Derived.Test.YtdmejbjpbjcfbaaGreatDoorSpanH
import Derived.Test.YtdmejbjpbjcfbaaGreatDoorPutH
namespace Go.Proofs.YtdmejbjpbjcfbaaGreatDoor
open Go.RowKit

theorem Tab.less {w : World} {hb : Nat} {v : Value} {ds : List HoldD} (T : Tab w hb v ds) (p : ByteArray → Int → Int → Bool) : RiseD (ds.filter fun d => !d.tells p) ∧ (∀ d ∈ ds.filter (fun d => !d.tells p), d.ok ∧ holdB d = true) ∧ (ds.filter fun d => !d.tells p).length ≤ 60 :=
  ⟨T.rise.sublist List.filter_sublist, fun d hd => T.ok d (List.mem_filter.1 hd).1, Nat.le_trans (List.length_filter_le ..) T.few⟩
/-- What less and its kin leave. -/
def LessPost (hb : Nat) (v : Value) (yes no : List HoldD) (w : World) (e : Ending) (w' : World) : Prop :=
  ∃ (r : Value) (l' : List HoldV) (v' : Value), e = .returned r ∧ l'.length = yes.length ∧ w'.ownsRow 0 35 7 r l'.length (l'.flatMap encHV) ∧ (∀ j, r.ownBlock = some j → w.heap.size ≤ j) ∧ HoldsAre w' (fun b => r.ownBlock = some b ∨ b < w.heap.size) l' yes ∧
    Tab w' hb v' no ∧ (∀ j, v'.ownBlock = some j → v.ownBlock = some j) ∧ But (fun j => j = hb ∨ v.ownBlock = some j) w w'

set_option maxRecDepth 100000 in
set_option maxHeartbeats 1600000 in
theorem less_calls (g : Nat) (lb : Array Value) (eg : ∀ args w, (callFunc g args).run Tryz.prog w = .ok (.enter g args) w) (p : ByteArray → Int → Int → Bool)
    (hb : Nat) (v : Value) (ds : List HoldD) (w : World) (T : Tab w hb v ds) (hq : Asks g lb p (fun j => j = hb ∨ v.ownBlock = some j) w) :
    Calls Tryz.prog 56 #[.pointer (some ⟨hb, 0, none⟩), .func (.func g) #[] lb] w (LessPost hb v (ds.filter (·.tells p)) (ds.filter fun d => !d.tells p) w) := by
  obtain ⟨l, ao, cap, rfl, hlc, hll, hrows, hown, hare, hrise⟩ := T.rows
  have hfew := T.few
  have hc0 := T.blk.cell 0
  simp only [List.getElem?_cons_zero] at hc0
  have hbl := T.blk.lt
  have HTH := Lib.hid (those_calls g lb eg p l ds _ ao cap hb w (by omega) hrows hare T.fits hc0 (T.keys hare) (hq.mono (fun _ e => e.elim)))
  have HT := Lib.hid T; have HOW := Lib.hid hown; have HAR := Lib.hid hare; have HQ := Lib.hid hq; have HAP := Lib.hid T.apart
  have hl6 : l.length ≤ 1000000 := by omega
  clear T hrows hown hare hrise hq hll
  go_enter Tryz.func56, Tryz.ntmps56
  go_wp2_with fail
  refine HTH.out.mono ?_
  rintro e w1 ⟨r, l', rfl, h1, h2, h3, h4, h5⟩
  have hc1 := (h5.cell (p := ⟨hb, 0, none⟩) hbl).trans hc0
  have HDEL := Lib.hid (del_calls g lb eg p l (.slice ao l.length cap) w1 hl6 (HT.out.keys HAR.out) (own_ext HOW.out h5) ((HQ.out.ext h5).mono (fun i e => .inr e)))
  have H1 := Lib.hid h1; have H2 := Lib.hid h2; have H3 := Lib.hid h3; have H4 := Lib.hid h4; have H5 := Lib.hid h5
  clear h1 h2 h3 h4 h5 HTH
  go_wp2_with fail
  refine HDEL.out.mono ?_
  rintro e w2 ⟨v', rfl, g1, g2, g3⟩
  have hblk := (HT.out.ext H5.out).blk.but g3 (fun e => HAP.out e)
  have hc2 := hblk.cell 0
  have hf2 := hblk.free 0
  simp only [List.getElem?_cons_zero] at hc2
  have fin : ∃ (l'' : List HoldV), (w2.setCell ⟨hb, 0, none⟩ v').ownsRow 0 35 7 r l''.length (l''.flatMap encHV) ∧ l''.length = (ds.filter (·.tells p)).length ∧ HoldsAre (w2.setCell ⟨hb, 0, none⟩ v') (fun b => r.ownBlock = some b ∨ b < w.heap.size) l'' (ds.filter (·.tells p)) ∧ Tab (w2.setCell ⟨hb, 0, none⟩ v') hb v' (ds.filter fun d => !d.tells p) ∧ But (fun j => j = hb ∨ (Value.slice ao l.length cap).ownBlock = some j) w (w2.setCell ⟨hb, 0, none⟩ v') := by
    have hB : But (fun j => j = hb ∨ (Value.slice ao l.length cap).ownBlock = some j) w1 (w2.setCell ⟨hb, 0, none⟩ v') := (g3.mono fun _ _ e => .inr e).setCell (fun _ => .inl rfl) v'
    have hs1 := H5.out.size
    have hS : ∀ j, (j = hb ∨ (Value.slice ao l.length cap).ownBlock = some j) → j < w.heap.size := fun j e => e.elim (fun e => e ▸ hbl) (fun e => HT.out.lt e)
    have hv' : v'.ownBlock ≠ some hb := fun e => HAP.out (g2 hb e)
    obtain ⟨t1, t2, t3⟩ := HT.out.less p
    refine ⟨l', own_but H2.out hB (fun j hj e => by have := H3.out j hj; have := hS j e; omega), H1.out, (H4.out.but hB (fun b _ e => .inr (hS b e))), ⟨hblk.set 0 v', ⟨keepH p l, own_setOther g1 (a := ⟨hb, 0, none⟩) hv' v', ?_⟩, t1, t2, t3⟩, (Ext.but H5.out (fun _ => False)).trans hB (fun _ _ e => e.elim) (fun _ _ e => e)⟩
    exact (((HoldsAre.keep p HAR.out).ext H5.out).but hB (fun b _ e => e)).mono (fun b _ e => e.elim .inl (fun e => .inr (g2 b e)))
  have HFIN := Lib.hid fin; have G2 := Lib.hid g2
  have hform := own_form g1
  clear fin g1 g2 g3 hblk HDEL
  rcases hform with ⟨rfl, -⟩ | ⟨g5, c5, rfl⟩
  all_goals
    go_wp2_with fail
    go_ret
    obtain ⟨l'', f1, f2, f3, f4, f5⟩ := HFIN.out
    exact ⟨r, l'', _, rfl, f2, f1, H3.out, f3, f4, G2.out, f5⟩
end Go.Proofs.YtdmejbjpbjcfbaaGreatDoor
/- In, Take and Free at a table of holds. -/
namespace Go.Proofs.YtdmejbjpbjcfbaaGreatDoor
open Go.RowKit

/-- Is a text one of some? -/
def amongB (ls : List ByteArray) (k : ByteArray) : Bool := ls.any fun s => decide (s.data.toList = k.data.toList)
set_option maxRecDepth 100000 in
theorem indexT_calls (ls : List ByteArray) (ao : Option Addr) (cap : Nat) (k : ByteArray) (w : World) (hl : ls.length ≤ 1000000) (hr : Rows 1 encStr w.heap.size w ao ls) :
    Calls Tryz.prog 114 #[.slice ao ls.length cap, .string k] w fun e w' => ∃ n : Int, e = .returned (.int .i64 n) ∧ amongB ls k = decide (0 ≤ n) ∧ w = w' := by
  have HR := Lib.hid hr; clear hr
  go_enter Tryz.func114, Tryz.ntmps114
  go_wp2_with fail
  go_loop [8] (fun vi => ∃ j : Nat, j ≤ ls.length ∧ vi = .int .i64 j ∧ ∀ (i : Nat) (s : ByteArray), i < j → ls[i]? = some s → s.data.toList ≠ k.data.toList) (fun vi => ls.length - (intOf vi).toNat)
  case atStart => exact ⟨0, by omega, rfl, fun i s h => by omega⟩
  case round =>
    obtain ⟨j, hj, rfl, hno⟩ := hrel
    have K1 := Lib.hid hno; clear hno
    by_cases hlt : j < ls.length
    · obtain ⟨s, hs⟩ : ∃ s, ls[j]? = some s := ⟨_, List.getElem?_eq_getElem hlt⟩
      obtain ⟨b, off, rfl, hb, hcell⟩ := HR.out (by intro e; rw [e] at hlt; simp at hlt)
      have hc := hcell j s hs 0 _ rfl
      simp only [Nat.mul_one, Nat.add_zero] at hc
      have HS := Lib.hid hs
      have i0 : (0 : Int) ≤ (j : Int) := by omega
      have i1 : (j : Int) < (ls.length : Int) := by omega
      clear hcell hs
      cases hq : (k.toList == s.toList)
      · have HQ := Lib.hid hq
        go_wp2_with fail
        go_round
        case rel =>
          refine ⟨j + 1, by omega, by go_num, fun i x hi hx => ?_⟩
          rcases Nat.lt_or_ge i j with h | h
          · exact K1.out i x h hx
          · obtain rfl : i = j := by omega
            rw [HS.out] at hx
            have h2 := HQ.out
            rw [beq_eq_false_iff_ne, Lib.toList_data, Lib.toList_data] at h2
            rw [← Option.some.inj hx]
            exact fun e => h2 e.symm
        case measure => simp [intOf]; omega
      · have HQ := Lib.hid hq
        go_wp2_with fail
        go_ret
        refine ⟨j, rfl, ?_, rfl⟩
        have h2 := HQ.out
        rw [beq_iff_eq, Lib.toList_data, Lib.toList_data] at h2
        have h0 : amongB ls k = true := List.any_eq_true.2 ⟨s, List.mem_of_getElem? HS.out, by rw [h2]; simp⟩
        rw [h0]; simp
    · go_wp2_with fail
      go_ret
      refine ⟨-1, rfl, ?_, rfl⟩
      have h0 : amongB ls k = false := by
        unfold amongB
        rw [List.any_eq_false]
        intro s hs
        obtain ⟨i, hi⟩ := List.mem_iff_getElem?.1 hs
        have := K1.out i s (by have := (List.getElem?_eq_some_iff.1 hi).1; omega) hi
        simpa using this
      rw [h0]; rfl
theorem containsT_calls (ls : List ByteArray) (ao : Option Addr) (cap : Nat) (k : ByteArray) (w : World) (hl : ls.length ≤ 1000000) (hr : Rows 1 encStr w.heap.size w ao ls) :
    Calls Tryz.prog 58 #[.slice ao ls.length cap, .string k] w fun e w' => e = .returned (.bool (amongB ls k)) ∧ w = w' := by
  have HI := Lib.hid (indexT_calls ls ao cap k w hl hr); clear hr
  generalize amongB ls k = res at HI ⊢
  go_enter Tryz.func58, Tryz.ntmps58
  go_wp2_with fail
  refine HI.out.mono ?_
  rintro e w' ⟨n, rfl, hn, rfl⟩
  have HN := Lib.hid hn; clear hn
  go_wp2_with fail
  go_ret
  exact ⟨ret_bool HN.out.symm, rfl⟩

set_option maxRecDepth 100000 in
theorem free_asks (bx : Nat) (ls : List ByteArray) (ao : Option Addr) (cap : Nat) (S : Nat → Prop) (w : World) (hl : ls.length ≤ 1000000) (hb : bx < w.heap.size) (hc : w.cell? ⟨bx, 0, none⟩ = some (.slice ao ls.length cap)) (hS : ¬ S bx) (hr : NRows 1 encStr S w ao ls) :
    Asks 57 #[.pointer (some ⟨bx, 0, none⟩)] (fun k _ _ => amongB ls k) S w := by
  intro W hW x _
  have hcW := (hW.cell (p := ⟨bx, 0, none⟩) hb hS).trans hc
  have hrW : Rows 1 encStr W.heap.size W ao ls := (hr.but hW (fun _ _ e => e)).rows
  have hbW : bx < W.heap.size := Nat.lt_of_lt_of_le hb hW.size
  have hbx : bx ≠ W.heap.size := by omega
  obtain ⟨key, cl, nm, xo, xn, xc, yo, yn, yc, put, value⟩ := x
  have HX : Hid (Ext W (W.alloc (.cells #[.string key, .int .i64 cl, .int .i64 nm, .slice xo xn xc, .slice yo yn yc, .bool put, .string value] 35))) := Lib.hid ((Below.refl _ W).alloc (Nat.le_refl _) _)
  have HC := Lib.hid (containsT_calls ls ao cap key _ hl ((hrW.ext HX.out).mono HX.out.size))
  clear hrW hc hr hW
  simp only [encHV]
  go_enter Tryz.func57, Tryz.ntmps57
  go_wp2_with fail
  refine HC.out.mono ?_
  rintro e w' ⟨rfl, rfl⟩
  go_wp2_with fail
  go_ret
  exact ⟨rfl, HX.out⟩
set_option maxRecDepth 100000 in
theorem in_asks (bx : Nat) (lo hi : ByteArray) (S : Nat → Prop) (w : World) (hl : lo.size ≤ 140737488351232) (hh : hi.size ≤ 140737488351232) (hb : bx < w.heap.size) (h0 : w.cell? ⟨bx, 0, none⟩ = some (.string lo)) (h1 : w.cell? ⟨bx, 1, none⟩ = some (.string hi)) (hS : ¬ S bx) :
    Asks 50 #[.pointer (some ⟨bx, 0, none⟩)] (fun k _ _ => hasB lo.data.toList hi.data.toList k.data.toList) S w := by
  intro W hW x hk
  have hcW := (hW.cell (p := ⟨bx, 0, none⟩) hb hS).trans h0
  have hdW := (hW.cell (p := ⟨bx, 1, none⟩) hb hS).trans h1
  have hbW : bx < W.heap.size := Nat.lt_of_lt_of_le hb hW.size
  have hbx : bx ≠ W.heap.size := by omega
  obtain ⟨key, cl, nm, xo, xn, xc, yo, yn, yc, put, value⟩ := x
  have HX : Hid (Ext W (W.alloc (.cells #[.string key, .int .i64 cl, .int .i64 nm, .slice xo xn xc, .slice yo yn yc, .bool put, .string value] 35))) := Lib.hid ((Below.refl _ W).alloc (Nat.le_refl _) _)
  have HC := Lib.hid (fun W => has_calls lo hi key W hl hh hk)
  clear h0 h1 hW
  simp only [encHV]
  go_enter Tryz.func50, Tryz.ntmps50
  go_wp2_with fail
  refine (HC.out _).mono ?_
  rintro e w' ⟨rfl, hx⟩
  have X2 := Lib.hid (Ext.trans HX.out hx); clear hx
  go_wp2_with fail
  go_ret
  exact ⟨rfl, X2.out⟩
set_option maxRecDepth 100000 in
theorem take_asks (bx : Nat) (lo hi : ByteArray) (S : Nat → Prop) (w : World) (hl : lo.size ≤ 140737488351232) (hh : hi.size ≤ 140737488351232) (hb : bx < w.heap.size) (h0 : w.cell? ⟨bx, 0, none⟩ = some (.string lo)) (h1 : w.cell? ⟨bx, 1, none⟩ = some (.string hi)) (hS : ¬ S bx) :
    Asks 85 #[.pointer (some ⟨bx, 0, none⟩)] (fun k _ _ => hasB lo.data.toList hi.data.toList k.data.toList) S w := by
  intro W hW x hk
  have hcW := (hW.cell (p := ⟨bx, 0, none⟩) hb hS).trans h0
  have hdW := (hW.cell (p := ⟨bx, 1, none⟩) hb hS).trans h1
  have hbW : bx < W.heap.size := Nat.lt_of_lt_of_le hb hW.size
  have hbx : bx ≠ W.heap.size := by omega
  obtain ⟨key, cl, nm, xo, xn, xc, yo, yn, yc, put, value⟩ := x
  have HX : Hid (Ext W (W.alloc (.cells #[.string key, .int .i64 cl, .int .i64 nm, .slice xo xn xc, .slice yo yn yc, .bool put, .string value] 35))) := Lib.hid ((Below.refl _ W).alloc (Nat.le_refl _) _)
  have HC := Lib.hid (fun W => has_calls lo hi key W hl hh hk)
  clear h0 h1 hW
  simp only [encHV]
  go_enter Tryz.func85, Tryz.ntmps85
  go_wp2_with fail
  refine (HC.out _).mono ?_
  rintro e w' ⟨rfl, hx⟩
  have X2 := Lib.hid (Ext.trans HX.out hx); clear hx
  go_wp2_with fail
  go_ret
  exact ⟨rfl, X2.out⟩

/-- Holds that are told: in a row of the call's own. -/
def RowPost (yes : List HoldD) (w : World) (e : Ending) (w' : World) : Prop :=
  ∃ (r : Value) (l' : List HoldV), e = .returned r ∧ l'.length = yes.length ∧ w'.ownsRow 0 35 7 r l'.length (l'.flatMap encHV) ∧ (∀ j, r.ownBlock = some j → w.heap.size ≤ j) ∧ HoldsAre w' (fun b => r.ownBlock = some b ∨ b < w.heap.size) l' yes ∧ Ext w w'
theorem RowPost.ext {yes : List HoldD} {w w0 w' : World} {e : Ending} (hx : Ext w w0) (h : RowPost yes w0 e w') : RowPost yes w e w' := by
  obtain ⟨r, l', h1, h2, h3, h4, h5, h6⟩ := h
  exact ⟨r, l', h1, h2, h3, fun j hj => Nat.le_trans hx.size (h4 j hj), h5.mono (fun b _ e => e.elim .inl (fun e => .inr (Nat.lt_of_lt_of_le e hx.size))), Ext.trans hx h6⟩
theorem LessPost.ext {hb : Nat} {v : Value} {yes no : List HoldD} {w w0 w' : World} {e : Ending} (hx : Ext w w0) (h : LessPost hb v yes no w0 e w') : LessPost hb v yes no w e w' := by
  obtain ⟨r, l', v', h1, h2, h3, h4, h5, h6, h7, h8⟩ := h
  exact ⟨r, l', v', h1, h2, h3, fun j hj => Nat.le_trans hx.size (h4 j hj), h5.mono (fun b _ e => e.elim .inl (fun e => .inr (Nat.lt_of_lt_of_le e hx.size))), h6, h7, (hx.but (fun _ => False)).trans h8 (fun _ _ e => e.elim) (fun _ _ e => e)⟩
/-- The holds of a span, and the others. -/
def inD (lo hi : ByteArray) (ds : List HoldD) : List HoldD := ds.filter (·.tells fun k _ _ => hasB lo.data.toList hi.data.toList k.data.toList)
def outD (lo hi : ByteArray) (ds : List HoldD) : List HoldD := ds.filter fun d => !d.tells fun k _ _ => hasB lo.data.toList hi.data.toList k.data.toList
def ofKeys (ls : List ByteArray) (ds : List HoldD) : List HoldD := ds.filter (·.tells fun k _ _ => amongB ls k)
def notKeys (ls : List ByteArray) (ds : List HoldD) : List HoldD := ds.filter fun d => !d.tells fun k _ _ => amongB ls k

set_option maxRecDepth 100000 in
theorem in_calls (hb : Nat) (v : Value) (ds : List HoldD) (lo hi : ByteArray) (w : World) (T : Tab w hb v ds) (hl : lo.size ≤ 140737488351232) (hh : hi.size ≤ 140737488351232) :
    Calls Tryz.prog 12 #[.pointer (some ⟨hb, 0, none⟩), .agg #[.string lo, .string hi]] w (RowPost (inD lo hi ds) w) := by
  have hc1 := T.blk.cell 1
  simp only [List.getElem?_cons_zero, List.getElem?_cons_succ] at hc1
  have HX : Hid (Ext w (w.alloc (.cells #[.string lo, .string hi] 31))) := Lib.hid ((Below.refl _ w).alloc (Nat.le_refl _) _)
  have hbk : Blk (w.alloc (.cells #[.string lo, .string hi] 31)) w.heap.size [.string lo, .string hi] 31 := Blk.new w _ _
  have hlt := hbk.lt
  have HTH := Lib.hid (there_calls (some ⟨hb, 0, none⟩) true _ ((show ThereIs w (some ⟨hb, 0, none⟩) true from .inr ⟨hb, rfl, hc1⟩).ext HX.out))
  have T0 := T.ext HX.out
  obtain ⟨l, ao, cap, rfl, hlc, hll, hrows, hown, hare, hrise⟩ := T0.rows
  have hfew := T.few
  have hc0 := T0.blk.cell 0
  simp only [List.getElem?_cons_zero] at hc0
  have HTS := Lib.hid (those_calls _ _ (enters_of Tryz.func50 (by kernel_rfl) rfl) _ l ds _ ao cap hb _ (by omega) hrows hare T0.fits hc0 (T0.keys hare)
    (in_asks w.heap.size lo hi (fun _ => False) _ hl hh hlt (hbk.cell 0) (hbk.cell 1) (fun e => e)))
  clear hrows hown hare hrise hll hc0 hc1 T T0 hbk
  go_enter Tryz.func12, Tryz.ntmps12
  go_wp2_with fail
  refine HTH.out.mono ?_
  rintro e w' ⟨rfl, rfl⟩
  go_wp2_with fail
  refine HTS.out.mono ?_
  rintro e w2 ⟨r, l', rfl, h1, h2, h3, h4, h5⟩
  have HP : Hid (RowPost (inD lo hi ds) w (.returned r) w2) := Lib.hid (RowPost.ext HX.out ⟨r, l', rfl, h1, h2, h3, h4, h5⟩)
  clear h1 h2 h3 h4 h5 HTS HTH
  go_wp2_with fail
  go_ret
  exact HP.out
set_option maxRecDepth 100000 in
theorem take_calls (hb : Nat) (v : Value) (ds : List HoldD) (lo hi : ByteArray) (w : World) (T : Tab w hb v ds) (hl : lo.size ≤ 140737488351232) (hh : hi.size ≤ 140737488351232) :
    Calls Tryz.prog 35 #[.pointer (some ⟨hb, 0, none⟩), .agg #[.string lo, .string hi]] w (LessPost hb v (inD lo hi ds) (outD lo hi ds) w) := by
  have hc1 := T.blk.cell 1
  simp only [List.getElem?_cons_zero, List.getElem?_cons_succ] at hc1
  have HX : Hid (Ext w (w.alloc (.cells #[.string lo, .string hi] 31))) := Lib.hid ((Below.refl _ w).alloc (Nat.le_refl _) _)
  have hbk : Blk (w.alloc (.cells #[.string lo, .string hi] 31)) w.heap.size [.string lo, .string hi] 31 := Blk.new w _ _
  have hlt := hbk.lt
  have HTH := Lib.hid (there_calls (some ⟨hb, 0, none⟩) true _ ((show ThereIs w (some ⟨hb, 0, none⟩) true from .inr ⟨hb, rfl, hc1⟩).ext HX.out))
  have hbl := T.blk.lt
  have HTS := Lib.hid (less_calls _ _ (enters_of Tryz.func85 (by kernel_rfl) rfl) _ hb v ds _ (T.ext HX.out)
    (take_asks w.heap.size lo hi (fun j => j = hb ∨ v.ownBlock = some j) _ hl hh hlt (hbk.cell 0) (hbk.cell 1) (fun e => e.elim (fun e => by omega) (fun e => by have := T.lt e; omega))))
  clear hc1 T hbk
  go_enter Tryz.func35, Tryz.ntmps35
  go_wp2_with fail
  refine HTH.out.mono ?_
  rintro e w' ⟨rfl, rfl⟩
  go_wp2_with fail
  refine HTS.out.mono ?_
  rintro e w2 h
  have HP : Hid (LessPost hb v (inD lo hi ds) (outD lo hi ds) w e w2) := Lib.hid (LessPost.ext HX.out h)
  obtain ⟨r, l', v', rfl, -⟩ := h
  clear HTS HTH
  go_wp2_with fail
  go_ret
  exact HP.out
set_option maxRecDepth 100000 in
theorem free_calls (hb : Nat) (v : Value) (ds : List HoldD) (ls : List ByteArray) (ao : Option Addr) (cap : Nat) (w : World) (T : Tab w hb v ds) (hl : ls.length ≤ 1000000) (hr : NRows 1 encStr (fun j => j = hb ∨ v.ownBlock = some j) w ao ls) :
    Calls Tryz.prog 17 #[.pointer (some ⟨hb, 0, none⟩), .slice ao ls.length cap] w (LessPost hb v (ofKeys ls ds) (notKeys ls ds) w) := by
  have hc1 := T.blk.cell 1
  simp only [List.getElem?_cons_zero, List.getElem?_cons_succ] at hc1
  have HX : Hid (Ext w (w.alloc (.cells #[.slice ao ls.length cap] 74))) := Lib.hid ((Below.refl _ w).alloc (Nat.le_refl _) _)
  have hbk : Blk (w.alloc (.cells #[.slice ao ls.length cap] 74)) w.heap.size [.slice ao ls.length cap] 74 := Blk.new w _ _
  have hlt := hbk.lt
  have HTH := Lib.hid (there_calls (some ⟨hb, 0, none⟩) true _ ((show ThereIs w (some ⟨hb, 0, none⟩) true from .inr ⟨hb, rfl, hc1⟩).ext HX.out))
  have hbl := T.blk.lt
  have HTS := Lib.hid (less_calls _ _ (enters_of Tryz.func57 (by kernel_rfl) rfl) _ hb v ds _ (T.ext HX.out)
    (free_asks w.heap.size ls ao cap (fun j => j = hb ∨ v.ownBlock = some j) _ hl hlt (hbk.cell 0) (fun e => e.elim (fun e => by omega) (fun e => by have := T.lt e; omega)) (hr.ext HX.out)))
  clear hc1 T hbk hr
  go_enter Tryz.func17, Tryz.ntmps17
  go_wp2_with fail
  refine HTH.out.mono ?_
  rintro e w' ⟨rfl, rfl⟩
  go_wp2_with fail
  refine HTS.out.mono ?_
  rintro e w2 h
  have HP : Hid (LessPost hb v (ofKeys ls ds) (notKeys ls ds) w e w2) := Lib.hid (LessPost.ext HX.out h)
  obtain ⟨r, l', v', rfl, -⟩ := h
  clear HTS HTH
  go_wp2_with fail
  go_ret
  exact HP.out
end Go.Proofs.YtdmejbjpbjcfbaaGreatDoor
