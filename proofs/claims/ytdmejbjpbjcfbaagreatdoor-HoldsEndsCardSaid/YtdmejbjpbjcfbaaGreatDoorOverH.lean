/- OverActs, OverReads, OverHold, OverHolds: what was told is written over; nothing else is. -/
import Derived.Test.YtdmejbjpbjcfbaaGreatDoorLentHs
namespace Go.Proofs.YtdmejbjpbjcfbaaGreatDoor
open Go.RowKit
def KeepsO (w w' : World) : Prop := ∀ g t n, Room w g t n → Room w' g t n
theorem KeepsO.refl (w : World) : KeepsO w w := fun _ _ _ h => h
theorem KeepsO.trans {a b c : World} (h : KeepsO a b) (k : KeepsO b c) : KeepsO a c := fun g t n r => k g t n (h g t n r)
theorem KeepsO.ext {w w' : World} (hx : Ext w w') : KeepsO w w' := fun _ _ _ h => h.ext hx
theorem KeepsO.set (w : World) (g i : Nat) (v : Value) : KeepsO w (w.setCell ⟨g, i, none⟩ v) := by
  intro g' t n h
  by_cases e : g' = g
  · subst e; exact h.set i v
  · obtain ⟨cur, h1, h2⟩ := h
    exact ⟨cur, (heap_setCell_other w ⟨g, i, none⟩ g' v e).trans h1, h2⟩
def RoomV (w : World) (t : TypeId) (size : Nat) (v : Value) (n : Nat) : Prop := (v = .slice none 0 0 ∧ n = 0) ∨ ∃ g cap, v = .slice (some ⟨g, 0, none⟩) n cap ∧ n ≤ cap ∧ cap ≤ maxLen ∧ Room w g t (cap * size)
theorem RoomV.of {w : World} {B : Nat} {t : TypeId} {size n : Nat} {v : Value} {xs : List Value} (h : w.ownsRow B t size v n xs) : RoomV w t size v n := by
  rcases own_form h with ⟨rfl, h0⟩ | ⟨g, cap, rfl⟩
  · exact .inl ⟨rfl, h0⟩
  · obtain ⟨h1, h2, h3⟩ := room_own h
    exact .inr ⟨g, cap, rfl, h2, h3, h1⟩
theorem RoomV.keeps {w w' : World} {t : TypeId} {size n : Nat} {v : Value} (h : RoomV w t size v n) (k : KeepsO w w') : RoomV w' t size v n := by
  rcases h with h | ⟨g, cap, h1, h2, h3, h4⟩
  · exact .inl h
  · exact .inr ⟨g, cap, h1, h2, h3, k _ _ _ h4⟩
set_option maxRecDepth 100000 in
set_option maxHeartbeats 800000 in
theorem overActsR_calls (v : Value) (n : Nat) (w : World) (hn : n ≤ 1000000) (hown : RoomV w 98 4 v n) :
    Calls Tryz.prog 166 #[v] w fun e w' => e = .returned (.tuple #[]) ∧ But (fun k => v.ownBlock = some k) w w' ∧ KeepsO w w' := by
  rcases hown with ⟨rfl, h0⟩ | ⟨g, cap, rfl, hle, hmax, hroom⟩
  · clear h0
    go_enter Tryz.func166, Tryz.ntmps166
    go_wp2_with fail
    go_loopw [3] (fun i wr => i = .int .i64 0 ∧ wr = w) (fun _ _ => 0)
    case atStart => exact ⟨rfl, rfl⟩
    case round =>
      obtain ⟨rfl, rfl⟩ := hrel
      go_wp2_with fail
      go_end0
      exact ⟨rfl, But.refl _ _, KeepsO.refl _⟩
  · have HR := Lib.hid hroom
    unfold maxLen at hmax
    clear hroom
    obtain ⟨m, hm⟩ : ∃ m : Nat, min (cap : Int) ((n : Int) + 12) = m := ⟨min cap (n + 12), by omega⟩
    have hmc : m ≤ cap := by omega
    have hm0 : (0 : Int) ≤ (m : Int) := by omega
    have hm1 : (m : Int) ≤ (cap : Int) := by omega
    go_enter Tryz.func166, Tryz.ntmps166
    go_wp2_with fail
    clear hm
    go_loopw [3] (fun i wr => ∃ k : Nat, k ≤ m ∧ i = .int .i64 k ∧ Room wr g 98 (cap * 4) ∧ But (fun j => j = g) w wr ∧ KeepsO w wr) (fun i _ => m - (intOf i).toNat)
    case atStart => exact ⟨0, by omega, rfl, HR.out, But.refl _ _, KeepsO.refl _⟩
    case round =>
      obtain ⟨k, hk, rfl, hroom, hb, hkp⟩ := hrel
      have K1 := Lib.hid hroom; have K2 := Lib.hid hb; have K3 := Lib.hid hkp
      clear hroom hb hkp
      by_cases hlt : k < m
      · have hi0 : (0 : Int) ≤ (k : Int) := by omega
        have hi1 : (k : Int) < (m : Int) := by omega
        go_wp2_with fail
        refine (markAct_calls 2 k wr).mono ?_
        rintro e w3 ⟨rfl, hx3⟩
        have hroom := K1.out.ext hx3
        have hg := hroom.lt
        obtain ⟨u0, c0⟩ := hroom.cell (k * 4) (by omega)
        obtain ⟨u1, c1⟩ := hroom.cell (k * 4 + 1) (by omega)
        obtain ⟨u2, c2⟩ := hroom.cell (k * 4 + 2) (by omega)
        obtain ⟨u3, c3⟩ := hroom.cell (k * 4 + 3) (by omega)
        have f0 := hroom.free (k * 4); have f1 := hroom.free (k * 4 + 1); have f2 := hroom.free (k * 4 + 2); have f3 := hroom.free (k * 4 + 3)
        have X3 := Lib.hid hx3; have R3 := Lib.hid hroom; clear hx3 hroom
        unfold encAct markAct
        go_wp2_with fail
        go_roundw
        case rel =>
          exact ⟨k + 1, by omega, by go_num, (((R3.out.set _ _).set _ _).set _ _).set _ _, ((((K2.out.trans (Ext.but X3.out (fun _ => False)) (fun _ _ e => e) (fun _ _ e => e.elim)).setCell (fun _ => rfl) _).setCell (fun _ => rfl) _).setCell (fun _ => rfl) _).setCell (fun _ => rfl) _, ((((K3.out.trans (KeepsO.ext X3.out)).trans (KeepsO.set _ _ _ _)).trans (KeepsO.set _ _ _ _)).trans (KeepsO.set _ _ _ _)).trans (KeepsO.set _ _ _ _)⟩
        case measure => simp [intOf]; omega
      · go_wp2_with fail
        go_end0
        exact ⟨rfl, K2.out.mono fun j _ e => by rw [e]; rfl, K3.out⟩
set_option maxRecDepth 100000 in
set_option maxHeartbeats 800000 in
theorem overReadsR_calls (v : Value) (n : Nat) (w : World) (hn : n ≤ 1000000) (hown : RoomV w 100 3 v n) :
    Calls Tryz.prog 167 #[v] w fun e w' => e = .returned (.tuple #[]) ∧ But (fun k => v.ownBlock = some k) w w' ∧ KeepsO w w' := by
  rcases hown with ⟨rfl, h0⟩ | ⟨g, cap, rfl, hle, hmax, hroom⟩
  · clear h0
    go_enter Tryz.func167, Tryz.ntmps167
    go_wp2_with fail
    go_loopw [3] (fun i wr => i = .int .i64 0 ∧ wr = w) (fun _ _ => 0)
    case atStart => exact ⟨rfl, rfl⟩
    case round =>
      obtain ⟨rfl, rfl⟩ := hrel
      go_wp2_with fail
      go_end0
      exact ⟨rfl, But.refl _ _, KeepsO.refl _⟩
  · have HR := Lib.hid hroom
    unfold maxLen at hmax
    clear hroom
    obtain ⟨m, hm⟩ : ∃ m : Nat, min (cap : Int) ((n : Int) + 12) = m := ⟨min cap (n + 12), by omega⟩
    have hmc : m ≤ cap := by omega
    have hm0 : (0 : Int) ≤ (m : Int) := by omega
    have hm1 : (m : Int) ≤ (cap : Int) := by omega
    go_enter Tryz.func167, Tryz.ntmps167
    go_wp2_with fail
    clear hm
    go_loopw [3] (fun i wr => ∃ k : Nat, k ≤ m ∧ i = .int .i64 k ∧ Room wr g 100 (cap * 3) ∧ But (fun j => j = g) w wr ∧ KeepsO w wr) (fun i _ => m - (intOf i).toNat)
    case atStart => exact ⟨0, by omega, rfl, HR.out, But.refl _ _, KeepsO.refl _⟩
    case round =>
      obtain ⟨k, hk, rfl, hroom, hb, hkp⟩ := hrel
      have K1 := Lib.hid hroom; have K2 := Lib.hid hb; have K3 := Lib.hid hkp
      clear hroom hb hkp
      by_cases hlt : k < m
      · have hi0 : (0 : Int) ≤ (k : Int) := by omega
        have hi1 : (k : Int) < (m : Int) := by omega
        go_wp2_with fail
        refine (markRead_calls 2 k wr).mono ?_
        rintro e w3 ⟨rfl, hx3⟩
        have hroom := K1.out.ext hx3
        have hg := hroom.lt
        obtain ⟨u0, c0⟩ := hroom.cell (k * 3) (by omega)
        obtain ⟨u1, c1⟩ := hroom.cell (k * 3 + 1) (by omega)
        obtain ⟨u2, c2⟩ := hroom.cell (k * 3 + 2) (by omega)
        have f0 := hroom.free (k * 3); have f1 := hroom.free (k * 3 + 1); have f2 := hroom.free (k * 3 + 2)
        have X3 := Lib.hid hx3; have R3 := Lib.hid hroom; clear hx3 hroom
        unfold encRd markRead
        go_wp2_with fail
        go_roundw
        case rel =>
          exact ⟨k + 1, by omega, by go_num, ((R3.out.set _ _).set _ _).set _ _, (((K2.out.trans (Ext.but X3.out (fun _ => False)) (fun _ _ e => e) (fun _ _ e => e.elim)).setCell (fun _ => rfl) _).setCell (fun _ => rfl) _).setCell (fun _ => rfl) _, (((K3.out.trans (KeepsO.ext X3.out)).trans (KeepsO.set _ _ _ _)).trans (KeepsO.set _ _ _ _)).trans (KeepsO.set _ _ _ _)⟩
        case measure => simp [intOf]; omega
      · go_wp2_with fail
        go_end0
        exact ⟨rfl, K2.out.mono fun j _ e => by rw [e]; rfl, K3.out⟩
set_option maxRecDepth 100000 in
theorem overHold_calls (x : HoldV) (w : World) (ha : RoomV w 98 4 (.slice x.ao x.an x.ac) x.an) (hr : RoomV w 100 3 (.slice x.ro x.rn x.rc) x.rn) (hna : x.an ≤ 1000000) (hnr : x.rn ≤ 1000000) :
    Calls Tryz.prog 145 #[.agg (encHV x).toArray] w fun e w' => e = .returned (.tuple #[]) ∧ But (fun k => (Value.slice x.ao x.an x.ac).ownBlock = some k ∨ (Value.slice x.ro x.rn x.rc).ownBlock = some k) w w' ∧ KeepsO w w' := by
  obtain ⟨key, cl, nm, xo, xn, xc, yo, yn, yc, put, value⟩ := x
  simp only at ha hr hna hnr
  have hal : ∀ j, (Value.slice xo xn xc).ownBlock = some j → j < w.heap.size := fun j hj => by
    rcases ha with ⟨h, _⟩ | ⟨g, cap, h, _, _, h4⟩
    · rw [h] at hj; simp [Value.ownBlock] at hj
    · rw [h] at hj; simp [Value.ownBlock] at hj; subst hj; exact h4.lt
  have hxb : Ext w (w.alloc (.cells (encHV ⟨key, cl, nm, xo, xn, xc, yo, yn, yc, put, value⟩).toArray 35)) := (Below.refl _ w).alloc (Nat.le_refl _) _
  have HB := Lib.hid (Blk.new w (encHV ⟨key, cl, nm, xo, xn, xc, yo, yn, yc, put, value⟩) 35)
  have XB := Lib.hid hxb
  have c2 := HB.out.cell 3
  have HA := Lib.hid ha; have HR := Lib.hid hr; have HAL := Lib.hid hal
  clear ha hr hal hxb c2
  simp only [encHV] at HB XB ⊢
  go_enter Tryz.func145, Tryz.ntmps145
  go_wp2_with fail
  refine (overActsR_calls _ xn _ hna (HA.out.keeps (KeepsO.ext XB.out))).mono ?_
  rintro e w1 ⟨rfl, hb1, hk1⟩
  have hbx := HB.out.but hb1 (fun e => by have := HAL.out _ e; omega)
  have c4 := hbx.cell 4
  simp only [List.getElem?_cons_zero, List.getElem?_cons_succ] at c4
  have B1 := Lib.hid hb1; have K1 := Lib.hid hk1
  clear hb1 hk1 hbx
  go_wp2_with fail
  refine (overReadsR_calls _ yn _ hnr (HR.out.keeps (KeepsO.trans (KeepsO.ext XB.out) K1.out))).mono ?_
  rintro e w2 ⟨rfl, hb2, hk2⟩
  have B2 := Lib.hid hb2; have K2 := Lib.hid hk2
  clear hb2 hk2
  go_wp2_with fail
  go_end0
  exact ⟨rfl, ((Ext.but XB.out (fun _ => False)).trans B1.out (U := fun k => (Value.slice xo xn xc).ownBlock = some k) (fun _ _ e => e.elim) (fun _ _ e => e)).trans B2.out (fun _ _ e => .inl e) (fun _ _ e => .inr e), KeepsO.trans (KeepsO.trans (KeepsO.ext XB.out) K1.out) K2.out⟩
def InnerOf (l : List HoldV) (k : Nat) : Prop := ∃ x ∈ l, (Value.slice x.ao x.an x.ac).ownBlock = some k ∨ (Value.slice x.ro x.rn x.rc).ownBlock = some k
theorem Mine.room {w : World} {B : Nat} {l : List HoldV} (h : Mine w B l) : ∀ x ∈ l, RoomV w 98 4 (.slice x.ao x.an x.ac) x.an ∧ RoomV w 100 3 (.slice x.ro x.rn x.rc) x.rn := by
  intro x hx
  obtain ⟨⟨xs, h1⟩, ⟨ys, h2⟩⟩ := h x hx
  exact ⟨RoomV.of h1, RoomV.of h2⟩
theorem Mine.inner {w : World} {B : Nat} {l : List HoldV} (h : Mine w B l) : ∀ k, InnerOf l k → B ≤ k := by
  rintro k ⟨x, hx, e⟩
  obtain ⟨⟨xs, h1⟩, ⟨ys, h2⟩⟩ := h x hx
  exact e.elim (own_ge h1 k) (own_ge h2 k)
theorem Mine.apart {w : World} {B B' n : Nat} {l : List HoldV} {v : Value} {xs : List Value} (h : Mine w B l) (hv : w.ownsRow B' 35 7 v n xs) : ∀ k, v.ownBlock = some k → ¬ InnerOf l k := by
  rintro k hk ⟨x, hx, e⟩
  obtain ⟨cs, hb⟩ := own_blk hv hk
  obtain ⟨⟨xs, h1⟩, ⟨ys, h2⟩⟩ := h x hx
  exact e.elim (own_ne h1 hb (by decide)) (own_ne h2 hb (by decide))
set_option maxRecDepth 100000 in
set_option maxHeartbeats 1600000 in
theorem overHoldsS_calls (l : List HoldV) (ds : List HoldD) (no S : Nat → Prop) (B : Nat) (ao : Option Addr) (cap : Nat) (w : World) (hl : l.length ≤ 1000000) (hown : w.ownsRow 0 35 7 (.slice ao l.length cap) l.length (l.flatMap encHV)) (hnew : ∀ j, (Value.slice ao l.length cap).ownBlock = some j → S j) (hm : Mine w B l) (hin : ∀ j, InnerOf l j → S j) (hd : HoldsAre w no l ds) (hfit : ∀ d ∈ ds, d.fits) :
    Calls Tryz.prog 90 #[.slice ao l.length cap] w fun e w' => e = .returned (.tuple #[]) ∧ But S w w' := by
  have hsm : ∀ x ∈ l, x.an ≤ 1000000 ∧ x.rn ≤ 1000000 := fun x hx => by
    obtain ⟨i, hi⟩ := List.mem_iff_getElem?.1 hx
    obtain ⟨d, hdi, he⟩ := hd.at i x hi
    have := hfit d (List.mem_of_getElem? hdi)
    rw [he.an, he.rn]; exact ⟨this.1, this.2⟩
  have HSM := Lib.hid hsm; have HO := Lib.hid hown; have HM := Lib.hid hm; have HN := Lib.hid hnew; have HI := Lib.hid hin
  have hro := RoomV.of hown
  have HRO := Lib.hid hro
  clear hown hm hd hfit hnew hin hsm hro
  go_enter Tryz.func90, Tryz.ntmps90
  go_wp2_with fail
  go_loopw [2] (fun i wr => ∃ k : Nat, k ≤ l.length ∧ i = .int .i64 k ∧ But (InnerOf l) w wr ∧ KeepsO w wr) (fun i _ => l.length - (intOf i).toNat)
  case atStart => exact ⟨0, by omega, rfl, But.refl _ _, KeepsO.refl _⟩
  case round =>
    obtain ⟨k, hk, rfl, hb, hkp⟩ := hrel
    have K1 := Lib.hid hb; have K2 := Lib.hid hkp
    clear hb hkp
    by_cases hlt : k < l.length
    · obtain ⟨x, hx⟩ : ∃ x, l[k]? = some x := ⟨_, List.getElem?_eq_getElem hlt⟩
      have hxm := List.mem_of_getElem? hx
      obtain ⟨hra, hrr⟩ := HM.out.room x hxm
      obtain ⟨hsa, hsr⟩ := HSM.out x hxm
      have hrows := rows_of_own (enc := encHV) (sz := 7) (fun _ => rfl) (own_but HO.out K1.out (HM.out.apart HO.out))
      obtain ⟨b, off, rfl, hbb, hcell⟩ := hrows (by intro e; rw [e] at hlt; simp at hlt)
      have hcx := hcell k x hx
      have HOV := Lib.hid (overHold_calls x wr (hra.keeps K2.out) (hrr.keeps K2.out) hsa hsr)
      have HIN : Hid (∀ j, ((Value.slice x.ao x.an x.ac).ownBlock = some j ∨ (Value.slice x.ro x.rn x.rc).ownBlock = some j) → InnerOf l j) := Lib.hid fun j e => ⟨x, hxm, e⟩
      obtain ⟨key, cl, nm, xo, xn, xc, yo, yn, yc, put, value⟩ := x
      have d0 := hcx 0 _ rfl; have d1 := hcx 1 _ rfl; have d2 := hcx 2 _ rfl; have d3 := hcx 3 _ rfl; have d4 := hcx 4 _ rfl; have d5 := hcx 5 _ rfl; have d6 := hcx 6 _ rfl
      simp only [Nat.add_zero] at d0
      have i0 : (0 : Int) ≤ (k : Int) := by omega
      have i1 : (k : Int) < (l.length : Int) := by omega
      clear hx hxm hra hrr hsa hsr hrows hcell hcx
      simp only [encHV] at HOV
      go_wp2_with fail
      refine HOV.out.mono ?_
      rintro e w2 ⟨rfl, hb2, hk2⟩
      have B2 := Lib.hid hb2; have KK := Lib.hid hk2
      clear hb2 hk2 HOV
      go_wp2_with fail
      go_roundw
      case rel => exact ⟨k + 1, by omega, by go_num, K1.out.trans B2.out (fun _ _ e => e) (fun j _ e => HIN.out j e), KeepsO.trans K2.out KK.out⟩
      case measure => simp [intOf]; omega
    · have hB : But S w wr := K1.out.mono (fun j _ e => HI.out j e)
      have hroom := HRO.out.keeps K2.out
      have HB := Lib.hid hB; have HR := Lib.hid hroom
      clear hB K1 hroom
      rcases HR.out with ⟨hv, h0⟩ | ⟨g, cap', hv, hle, hmax, hrm⟩
      · simp only [Value.slice.injEq] at hv
        obtain ⟨rfl, hz, rfl⟩ := hv
        have hl0 : l = [] := List.eq_nil_of_length_eq_zero h0
        subst hl0
        clear HR HRO HN HO h0 hz
        simp only [List.length_nil] at *
        go_wp2_with fail
        go_loopw [4] (fun i wr2 => i = .int .i64 0 ∧ wr2 = wr) (fun _ _ => 0)
        case atStart => exact ⟨rfl, rfl⟩
        case round =>
          obtain ⟨rfl, rfl⟩ := hrel
          go_wp2_with fail
          go_end0
          exact ⟨rfl, HB.out⟩
      · simp only [Value.slice.injEq, true_and] at hv
        obtain ⟨rfl, rfl⟩ := hv
        have hgB := HN.out g rfl
        have RM := Lib.hid hrm
        unfold maxLen at hmax
        obtain ⟨m, hm⟩ : ∃ m : Nat, min (cap : Int) ((l.length : Int) + 12) = m := ⟨min cap (l.length + 12), by omega⟩
        have hmc : m ≤ cap := by omega
        have hm0 : (0 : Int) ≤ (m : Int) := by omega
        have hm1 : (m : Int) ≤ (cap : Int) := by omega
        clear HR HRO HN HO hrm
        go_wp2_with fail
        clear hm
        go_loopw [4] (fun i wr2 => ∃ k : Nat, k ≤ m ∧ i = .int .i64 k ∧ Room wr2 g 35 (cap * 7) ∧ But S w wr2) (fun i _ => m - (intOf i).toNat)
        case atStart => exact ⟨0, by omega, rfl, RM.out, HB.out⟩
        case round =>
          obtain ⟨k, hk, rfl, hroom, hb⟩ := hrel
          have K1 := Lib.hid hroom; have K2 := Lib.hid hb
          clear hroom hb
          by_cases hlt : k < m
          · have hi0 : (0 : Int) ≤ (k : Int) := by omega
            have hi1 : (k : Int) < (m : Int) := by omega
            go_wp2_with fail
            refine (markHold_calls 2 k wr).mono ?_
            rintro e w3 ⟨rfl, hx3⟩
            have hroom := K1.out.ext hx3
            have hg := hroom.lt
            obtain ⟨u0, c0⟩ := hroom.cell (k * 7) (by omega)
            obtain ⟨u1, c1⟩ := hroom.cell (k * 7 + 1) (by omega)
            obtain ⟨u2, c2⟩ := hroom.cell (k * 7 + 2) (by omega)
            obtain ⟨u3, c3⟩ := hroom.cell (k * 7 + 3) (by omega)
            obtain ⟨u4, c4⟩ := hroom.cell (k * 7 + 4) (by omega)
            obtain ⟨u5, c5⟩ := hroom.cell (k * 7 + 5) (by omega)
            obtain ⟨u6, c6⟩ := hroom.cell (k * 7 + 6) (by omega)
            have f0 := hroom.free (k * 7); have f1 := hroom.free (k * 7 + 1); have f2 := hroom.free (k * 7 + 2); have f3 := hroom.free (k * 7 + 3); have f4 := hroom.free (k * 7 + 4); have f5 := hroom.free (k * 7 + 5); have f6 := hroom.free (k * 7 + 6)
            have X3 := Lib.hid hx3; have R3 := Lib.hid hroom; clear hx3 hroom
            unfold encHV markHoldV
            go_wp2_with fail
            go_roundw
            case rel =>
              exact ⟨k + 1, by omega, by go_num, ((((((R3.out.set _ _).set _ _).set _ _).set _ _).set _ _).set _ _).set _ _, (((((((K2.out.trans (Ext.but X3.out (fun _ => False)) (fun _ _ e => e) (fun _ _ e => e.elim)).setCell (fun _ => hgB) _).setCell (fun _ => hgB) _).setCell (fun _ => hgB) _).setCell (fun _ => hgB) _).setCell (fun _ => hgB) _).setCell (fun _ => hgB) _).setCell (fun _ => hgB) _⟩
            case measure => simp [intOf]; omega
          · go_wp2_with fail
            go_end0
            exact ⟨rfl, K2.out⟩
theorem overHolds_calls (l : List HoldV) (ds : List HoldD) (no : Nat → Prop) (B : Nat) (ao : Option Addr) (cap : Nat) (w : World) (hl : l.length ≤ 1000000) (hown : w.ownsRow 0 35 7 (.slice ao l.length cap) l.length (l.flatMap encHV)) (hnew : ∀ j, (Value.slice ao l.length cap).ownBlock = some j → B ≤ j) (hm : Mine w B l) (hd : HoldsAre w no l ds) (hfit : ∀ d ∈ ds, d.fits) :
    Calls Tryz.prog 90 #[.slice ao l.length cap] w fun e w' => e = .returned (.tuple #[]) ∧ But (fun k => B ≤ k) w w' :=
  overHoldsS_calls l ds no (fun k => B ≤ k) B ao cap w hl hown hnew hm (fun j e => hm.inner j e) hd hfit
theorem Mine.innerLt {w : World} {B : Nat} {l : List HoldV} (h : Mine w B l) : ∀ k, InnerOf l k → k < w.heap.size := by
  rintro k ⟨x, hx, e⟩
  obtain ⟨⟨xs, h1⟩, ⟨ys, h2⟩⟩ := h x hx
  exact e.elim (fun e => (h1.lt k e).2) (fun e => (h2.lt k e).2)
end Go.Proofs.YtdmejbjpbjcfbaaGreatDoor
