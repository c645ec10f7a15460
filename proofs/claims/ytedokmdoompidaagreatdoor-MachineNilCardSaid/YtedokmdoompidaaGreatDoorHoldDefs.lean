/- Holds: as data, and as they lie in cells. -/
import Derived.Test.YtedokmdoompidaaGreatDoorMem
import Derived.IntWalk
namespace Go.Proofs.YtedokmdoompidaaGreatDoor
open Go.RowKit

/-- A hold as it lies in cells. -/
structure HoldV where
  key : ByteArray
  cl : Int
  nm : Int
  ao : Option Addr
  an : Nat
  ac : Nat
  ro : Option Addr
  rn : Nat
  rc : Nat
  put : Bool
  value : ByteArray
def encHV (h : HoldV) : List Value := [.string h.key, .int .i64 h.cl, .int .i64 h.nm, .slice h.ao h.an h.ac, .slice h.ro h.rn h.rc, .bool h.put, .string h.value]
/-- A hold as data. -/
structure HoldD where
  key : ByteArray
  cl : Int
  nm : Int
  acts : List ActD
  reads : List Rd
  put : Bool
  value : ByteArray
theorem one_hold : ∀ (x : HoldV), ∀ u ∈ encHV x, u.oneCell' = true := by
  intro x u hu
  simp only [encHV, List.mem_cons, List.not_mem_nil, or_false] at hu
  rcases hu with rfl | rfl | rfl | rfl | rfl | rfl | rfl <;> rfl

/-- A row of elements that lies in no block of 'no'. -/
def NRows {α : Type} (sz : Nat) (enc : α → List Value) (no : Nat → Prop) (w : World) (ao : Option Addr) (l : List α) : Prop :=
  l ≠ [] → ∃ b off, ao = some ⟨b, off, none⟩ ∧ b < w.heap.size ∧ ¬ no b ∧ ∀ (i : Nat) (x : α), l[i]? = some x → ∀ (j : Nat) (v : Value), (enc x)[j]? = some v → w.cell? ⟨b, off + i * sz + j, none⟩ = some v
theorem NRows.rows {α : Type} {sz : Nat} {enc : α → List Value} {no : Nat → Prop} {w : World} {ao : Option Addr} {l : List α} (h : NRows sz enc no w ao l) : Rows sz enc w.heap.size w ao l := by
  intro hne
  obtain ⟨b, off, rfl, hb, _, hc⟩ := h hne
  exact ⟨b, off, rfl, hb, hc⟩
theorem Rows.nrows {α : Type} {sz : Nat} {enc : α → List Value} {no : Nat → Prop} {B : Nat} {w : World} {ao : Option Addr} {l : List α} (h : Rows sz enc B w ao l) (hB : B ≤ w.heap.size) (hno : ∀ b, b < B → ¬ no b) : NRows sz enc no w ao l := by
  intro hne
  obtain ⟨b, off, rfl, hb, hc⟩ := h hne
  exact ⟨b, off, rfl, by omega, hno b hb, hc⟩
theorem NRows.but {α : Type} {sz : Nat} {enc : α → List Value} {no S : Nat → Prop} {w w' : World} {ao : Option Addr} {l : List α} (h : NRows sz enc no w ao l) (hx : But S w w') (hS : ∀ b, b < w.heap.size → S b → no b) : NRows sz enc no w' ao l := by
  intro hne
  obtain ⟨b, off, rfl, hb, hn, hc⟩ := h hne
  exact ⟨b, off, rfl, by have := hx.size; omega, hn, fun i x hi j v hj => (hx.cell (p := ⟨b, _, none⟩) hb (fun e => hn (hS b hb e))).trans (hc i x hi j v hj)⟩
theorem NRows.ext {α : Type} {sz : Nat} {enc : α → List Value} {no : Nat → Prop} {w w' : World} {ao : Option Addr} {l : List α} (h : NRows sz enc no w ao l) (hx : Ext w w') : NRows sz enc no w' ao l :=
  h.but (Ext.but hx (fun _ => False)) (fun _ _ e => e.elim)
theorem NRows.mono {α : Type} {sz : Nat} {enc : α → List Value} {no no' : Nat → Prop} {w : World} {ao : Option Addr} {l : List α} (h : NRows sz enc no w ao l) (hno : ∀ b, b < w.heap.size → no' b → no b) : NRows sz enc no' w ao l := by
  intro hne
  obtain ⟨b, off, rfl, hb, hn, hc⟩ := h hne
  exact ⟨b, off, rfl, hb, fun e => hn (hno b hb e), hc⟩

theorem nrows_of_own {α : Type} {sz : Nat} {enc : α → List Value} {no : Nat → Prop} {B : Nat} {e : TypeId} {w : World} {ro : Option Addr} {cap : Nat} {l : List α} (hsz : ∀ x, (enc x).length = sz) (h : w.ownsRow B e sz (.slice ro l.length cap) l.length (l.flatMap enc)) (hno : ∀ k, (Value.slice ro l.length cap).ownBlock = some k → ¬ no k) : NRows sz enc no w ro l := by
  obtain ⟨ao, c, hv, _, _, hr⟩ := Rows.own hsz h
  simp only [Value.slice.injEq, true_and] at hv
  obtain ⟨rfl, rfl⟩ := hv
  intro hne
  obtain ⟨b, off, rfl, hb, hc⟩ := hr hne
  exact ⟨b, off, rfl, hb, hno b (by simp [Value.ownBlock]), hc⟩
/-- A hold's cells say the hold; its rows lie in no block of 'no'. -/
structure HoldV.is (w : World) (no : Nat → Prop) (v : HoldV) (d : HoldD) : Prop where
  key : v.key = d.key
  cl : v.cl = d.cl
  nm : v.nm = d.nm
  an : v.an = d.acts.length
  rn : v.rn = d.reads.length
  put : v.put = d.put
  value : v.value = d.value
  acts : NRows 4 encAct no w v.ao d.acts
  reads : NRows 3 encRd no w v.ro d.reads
theorem HoldV.is.but {w w' : World} {no S : Nat → Prop} {v : HoldV} {d : HoldD} (h : v.is w no d) (hx : But S w w') (hS : ∀ b, b < w.heap.size → S b → no b) : v.is w' no d :=
  ⟨h.key, h.cl, h.nm, h.an, h.rn, h.put, h.value, h.acts.but hx hS, h.reads.but hx hS⟩
theorem HoldV.is.ext {w w' : World} {no : Nat → Prop} {v : HoldV} {d : HoldD} (h : v.is w no d) (hx : Ext w w') : v.is w' no d :=
  ⟨h.key, h.cl, h.nm, h.an, h.rn, h.put, h.value, h.acts.ext hx, h.reads.ext hx⟩
theorem HoldV.is.mono {w : World} {no no' : Nat → Prop} {v : HoldV} {d : HoldD} (h : v.is w no d) (hno : ∀ b, b < w.heap.size → no' b → no b) : v.is w no' d :=
  ⟨h.key, h.cl, h.nm, h.an, h.rn, h.put, h.value, h.acts.mono hno, h.reads.mono hno⟩
/-- Rows of holds, one for one. -/
def HoldsAre (w : World) (no : Nat → Prop) : List HoldV → List HoldD → Prop
  | [], [] => True
  | v :: vs, d :: ds => v.is w no d ∧ HoldsAre w no vs ds
  | _, _ => False
theorem HoldsAre.len {w : World} {no : Nat → Prop} : ∀ {vs : List HoldV} {ds : List HoldD}, HoldsAre w no vs ds → vs.length = ds.length
  | [], [], _ => rfl
  | [], _ :: _, h => h.elim
  | _ :: _, [], h => h.elim
  | _ :: _, _ :: _, h => by rw [List.length_cons, List.length_cons, HoldsAre.len h.2]
theorem HoldsAre.but {w w' : World} {no S : Nat → Prop} (hx : But S w w') (hS : ∀ b, b < w.heap.size → S b → no b) : ∀ {vs : List HoldV} {ds : List HoldD}, HoldsAre w no vs ds → HoldsAre w' no vs ds
  | [], [], _ => trivial
  | [], _ :: _, h => h.elim
  | _ :: _, [], h => h.elim
  | _ :: _, _ :: _, h => ⟨h.1.but hx hS, HoldsAre.but hx hS h.2⟩
theorem HoldsAre.ext {w w' : World} {no : Nat → Prop} (hx : Ext w w') : ∀ {vs : List HoldV} {ds : List HoldD}, HoldsAre w no vs ds → HoldsAre w' no vs ds :=
  HoldsAre.but (Ext.but hx (fun _ => False)) (fun _ _ e => e.elim)
theorem HoldsAre.mono {w : World} {no no' : Nat → Prop} (hno : ∀ b, b < w.heap.size → no' b → no b) : ∀ {vs : List HoldV} {ds : List HoldD}, HoldsAre w no vs ds → HoldsAre w no' vs ds
  | [], [], _ => trivial
  | [], _ :: _, h => h.elim
  | _ :: _, [], h => h.elim
  | _ :: _, _ :: _, h => ⟨h.1.mono hno, HoldsAre.mono hno h.2⟩
theorem HoldsAre.at {w : World} {no : Nat → Prop} : ∀ {vs : List HoldV} {ds : List HoldD}, HoldsAre w no vs ds → ∀ (i : Nat) (v : HoldV), vs[i]? = some v → ∃ d, ds[i]? = some d ∧ v.is w no d
  | [], [], _, i, v, h => by simp at h
  | [], _ :: _, h, _, _, _ => h.elim
  | _ :: _, [], h, _, _, _ => h.elim
  | v0 :: vs, d0 :: ds, h, 0, v, hv => ⟨d0, rfl, by simp at hv; subst hv; exact h.1⟩
  | v0 :: vs, d0 :: ds, h, i + 1, v, hv => HoldsAre.at h.2 i v (by simpa using hv)
theorem HoldsAre.append {w : World} {no : Nat → Prop} : ∀ {vs : List HoldV} {ds : List HoldD} {vs' : List HoldV} {ds' : List HoldD}, HoldsAre w no vs ds → HoldsAre w no vs' ds' → HoldsAre w no (vs ++ vs') (ds ++ ds')
  | [], [], _, _, _, h => h
  | [], _ :: _, _, _, h, _ => h.elim
  | _ :: _, [], _, _, h, _ => h.elim
  | _ :: _, _ :: _, _, _, h, h' => ⟨h.1, HoldsAre.append h.2 h'⟩
theorem HoldsAre.take {w : World} {no : Nat → Prop} : ∀ {vs : List HoldV} {ds : List HoldD}, HoldsAre w no vs ds → ∀ k, HoldsAre w no (vs.take k) (ds.take k)
  | [], [], _, k => by simp [HoldsAre]
  | [], _ :: _, h, _ => h.elim
  | _ :: _, [], h, _ => h.elim
  | _ :: _, _ :: _, _, 0 => trivial
  | _ :: _, _ :: _, h, k + 1 => ⟨h.1, HoldsAre.take h.2 k⟩
theorem HoldsAre.drop {w : World} {no : Nat → Prop} : ∀ {vs : List HoldV} {ds : List HoldD}, HoldsAre w no vs ds → ∀ k, HoldsAre w no (vs.drop k) (ds.drop k)
  | [], [], _, k => by simp [HoldsAre]
  | [], _ :: _, h, _ => h.elim
  | _ :: _, [], h, _ => h.elim
  | _ :: _, _ :: _, h, 0 => h
  | _ :: _, _ :: _, h, k + 1 => HoldsAre.drop h.2 k
theorem HoldsAre.keys {w : World} {no : Nat → Prop} : ∀ {vs : List HoldV} {ds : List HoldD}, HoldsAre w no vs ds → vs.map (·.key) = ds.map (·.key)
  | [], [], _ => rfl
  | [], _ :: _, h => h.elim
  | _ :: _, [], h => h.elim
  | _ :: _, _ :: _, h => by rw [List.map_cons, List.map_cons, h.1.key, HoldsAre.keys h.2]
end Go.Proofs.YtedokmdoompidaaGreatDoor
/- holds.right's look at a read. -/
namespace Go.Proofs.YtedokmdoompidaaGreatDoor
open Go.RowKit

/-- Is a read none of a hold's? -/
def readBad (key : ByteArray) (r : Rd) : Bool := !decide (r.key.toList = key.toList) || decide (20 < (r.value.size : Int)) || (!r.is && !r.value.toList.isEmpty)
set_option maxRecDepth 100000 in
set_option maxHeartbeats 1600000 in
theorem readBad_calls (r : Rd) (key : ByteArray) (bx : Nat) (w : World) (hb : bx < w.heap.size) (hc : w.cell? ⟨bx, 0, none⟩ = some (.string key)) : Calls Tryz.prog 339 #[.agg (encRd r).toArray, .pointer (some ⟨bx, 0, none⟩)] w fun e w' => e = .returned (.bool (readBad key r)) ∧ Ext w w' := by
  obtain ⟨rk, is, rv⟩ := r
  have HX := Lib.hid (show Ext w (w.alloc (.cells #[.string rk, .bool is, .string rv] 158)) from (Below.refl _ w).alloc (Nat.le_refl _) _)
  have hn : readBad key ⟨rk, is, rv⟩ = (!decide (rk.toList = key.toList) || decide (20 < (rv.size : Int)) || (!is && !rv.toList.isEmpty)) := rfl
  have HN := Lib.hid hn; clear hn
  have hne : bx ≠ w.heap.size := by omega
  by_cases g1 : rk.toList = key.toList <;> cases g2 : decide (20 < (rv.size : Int)) <;> cases g4 : rv.toList.isEmpty <;> cases is
  all_goals
    simp only [g1, g2, g4, decide_true, decide_false] at HN
    unfold encRd
    go_enter Tryz.func339, Tryz.ntmps339
    go_wp2_with fail
    go_ret
    exact ⟨ret_bool (by rw [HN.out]; rfl), HX.out⟩
end Go.Proofs.YtedokmdoompidaaGreatDoor
/- slices.ContainsFunc at watershed/api.Read, with watershed/holds.right$1. -/
namespace Go.Proofs.YtedokmdoompidaaGreatDoor
open Go.RowKit

set_option maxRecDepth 100000 in
theorem indexR_calls (q : Nat → Rd → Bool) (bx : Nat) (l : List Rd) (ao : Option Addr) (cap : Nat) (w : World) (hl : l.length ≤ 1000000) (hr : Rows 3 encRd w.heap.size w ao l)
    (hq : ∀ i x, l[i]? = some x → ∀ W, Ext w W → Calls Tryz.prog 339 #[.agg (encRd x).toArray, .pointer (some ⟨bx, 0, none⟩)] W fun e w' => e = .returned (.bool (q i x)) ∧ Ext W w') :
    Calls Tryz.prog 274 #[.slice ao l.length cap, .func (.func 339) #[] #[.pointer (some ⟨bx, 0, none⟩)]] w fun e w' => ∃ k : Int, e = .returned (.int .i64 k) ∧ (k < 0 ↔ ∀ i x, l[i]? = some x → q i x = false) ∧ Ext w w' := by
  have HR := Lib.hid hr; have HF := Lib.hid hq
  clear hr hq
  go_enter Tryz.func274, Tryz.ntmps274
  go_wp2_with fail
  go_loopw [8] (fun i wr => ∃ (k : Nat), k ≤ l.length ∧ i = .int .i64 k ∧ (∀ i x, i < k → l[i]? = some x → q i x = false) ∧ Ext w wr) (fun i _ => l.length - (intOf i).toNat)
  case atStart => exact ⟨0, by omega, rfl, fun i x h => by omega, Below.refl _ _⟩
  case round =>
    obtain ⟨k, hk, rfl, ha, hx⟩ := hrel
    have K1 := Lib.hid ha; have K2 := Lib.hid hx
    clear ha hx
    by_cases hlt : k < l.length
    · obtain ⟨x, hx⟩ : ∃ x, l[k]? = some x := ⟨_, List.getElem?_eq_getElem hlt⟩
      obtain ⟨b, off, rfl, hb, hcell⟩ := HR.out (by intro e; rw [e] at hlt; simp at hlt)
      have hcx := hcell k x hx
      have hmove : ∀ j, wr.cell? ⟨b, j, none⟩ = w.cell? ⟨b, j, none⟩ := fun j => K2.out.cell (p := ⟨b, j, none⟩) hb
      have HX := Lib.hid hx
      have hcc := HF.out k x hx
      obtain ⟨rk, is, rv⟩ := x
      have d0 := (hmove _).trans (hcx 0 _ rfl); have d1 := (hmove _).trans (hcx 1 _ rfl); have d2 := (hmove _).trans (hcx 2 _ rfl)
      simp only [Nat.add_zero] at d0
      have CC := Lib.hid hcc
      have i0 : (0 : Int) ≤ (k : Int) := by omega
      have i1 : (k : Int) < (l.length : Int) := by omega
      clear hcell hcx hmove hx hcc
      cases hrb : q k ⟨rk, is, rv⟩
      · have RB := Lib.hid hrb; clear hrb
        go_wp2_with fail
        refine (CC.out _ K2.out).mono ?_
        rw [RB.out]
        rintro e w' ⟨rfl, hx2⟩
        have X2 := Lib.hid hx2; clear hx2
        go_wp2_with fail
        go_roundw
        case rel =>
          refine ⟨k + 1, by omega, by go_num, fun i x hi hx => ?_, Ext.trans K2.out X2.out⟩
          rcases Nat.lt_or_ge i k with h | h
          · exact K1.out i x h hx
          · obtain rfl : i = k := by omega
            rw [HX.out] at hx
            rw [← Option.some.inj hx]; exact RB.out
        case measure => simp [intOf]; omega
      · have RB := Lib.hid hrb; clear hrb
        go_wp2_with fail
        refine (CC.out _ K2.out).mono ?_
        rw [RB.out]
        rintro e w' ⟨rfl, hx2⟩
        have X2 := Lib.hid hx2; clear hx2
        go_wp2_with fail
        go_ret
        exact ⟨k, ret_int (by omega), ⟨fun h => absurd h (by omega), fun h => by have := h k _ HX.out; rw [RB.out] at this; cases this⟩, Ext.trans K2.out X2.out⟩
    · go_wp2_with fail
      go_ret
      exact ⟨-1, ret_int (by omega), ⟨fun _ i x hx => K1.out i x (by have := (List.getElem?_eq_some_iff.1 hx).1; omega) hx, fun _ => by omega⟩, K2.out⟩

theorem containsR_calls (q : Nat → Rd → Bool) (bx : Nat) (l : List Rd) (ao : Option Addr) (cap : Nat) (w : World) (hl : l.length ≤ 1000000) (hr : Rows 3 encRd w.heap.size w ao l)
    (hq : ∀ i x, l[i]? = some x → ∀ W, Ext w W → Calls Tryz.prog 339 #[.agg (encRd x).toArray, .pointer (some ⟨bx, 0, none⟩)] W fun e w' => e = .returned (.bool (q i x)) ∧ Ext W w') :
    Calls Tryz.prog 200 #[.slice ao l.length cap, .func (.func 339) #[] #[.pointer (some ⟨bx, 0, none⟩)]] w fun e w' => ∃ b : Bool, e = .returned (.bool b) ∧ (b = false ↔ ∀ i x, l[i]? = some x → q i x = false) ∧ Ext w w' := by
  have HR := Lib.hid hr; have HF := Lib.hid hq
  clear hr hq
  go_enter Tryz.func200, Tryz.ntmps200
  go_wp2_with fail
  refine (indexR_calls q bx l ao cap _ hl HR.out HF.out).mono ?_
  rintro e w' ⟨k, rfl, hk, hx⟩
  have X2 := Lib.hid hx; have K2 := Lib.hid hk; clear hx hk
  go_wp2_with fail
  go_ret
  exact ⟨decide (0 ≤ k), ret_bool rfl, by rw [← K2.out]; simp, X2.out⟩
end Go.Proofs.YtedokmdoompidaaGreatDoor
/- slices.ContainsFunc at watershed/api.Hold, with watershed/holds.Right$1. -/
namespace Go.Proofs.YtedokmdoompidaaGreatDoor
open Go.RowKit

set_option maxRecDepth 100000 in
theorem indexH_calls (q : Nat → HoldV → Bool) (l : List HoldV) (ao : Option Addr) (cap : Nat) (w : World) (hl : l.length ≤ 1000000) (hr : Rows 7 encHV w.heap.size w ao l)
    (hq : ∀ i x, l[i]? = some x → ∀ W, Ext w W → Calls Tryz.prog 289 #[.agg (encHV x).toArray] W fun e w' => e = .returned (.bool (q i x)) ∧ Ext W w') :
    Calls Tryz.prog 338 #[.slice ao l.length cap, .func (.func 289) #[] #[]] w fun e w' => ∃ k : Int, e = .returned (.int .i64 k) ∧ (k < 0 ↔ ∀ i x, l[i]? = some x → q i x = false) ∧ Ext w w' := by
  have HR := Lib.hid hr; have HF := Lib.hid hq
  clear hr hq
  go_enter Tryz.func338, Tryz.ntmps338
  go_wp2_with fail
  go_loopw [8] (fun i wr => ∃ (k : Nat), k ≤ l.length ∧ i = .int .i64 k ∧ (∀ i x, i < k → l[i]? = some x → q i x = false) ∧ Ext w wr) (fun i _ => l.length - (intOf i).toNat)
  case atStart => exact ⟨0, by omega, rfl, fun i x h => by omega, Below.refl _ _⟩
  case round =>
    obtain ⟨k, hk, rfl, ha, hx⟩ := hrel
    have K1 := Lib.hid ha; have K2 := Lib.hid hx
    clear ha hx
    by_cases hlt : k < l.length
    · obtain ⟨x, hx⟩ : ∃ x, l[k]? = some x := ⟨_, List.getElem?_eq_getElem hlt⟩
      obtain ⟨b, off, rfl, hb, hcell⟩ := HR.out (by intro e; rw [e] at hlt; simp at hlt)
      have hcx := hcell k x hx
      have hmove : ∀ j, wr.cell? ⟨b, j, none⟩ = w.cell? ⟨b, j, none⟩ := fun j => K2.out.cell (p := ⟨b, j, none⟩) hb
      have HX := Lib.hid hx
      have hcc := HF.out k x hx
      obtain ⟨key, cl, nm, xo, xn, xc, yo, yn, yc, put, value⟩ := x
      have d0 := (hmove _).trans (hcx 0 _ rfl); have d1 := (hmove _).trans (hcx 1 _ rfl); have d2 := (hmove _).trans (hcx 2 _ rfl); have d3 := (hmove _).trans (hcx 3 _ rfl); have d4 := (hmove _).trans (hcx 4 _ rfl); have d5 := (hmove _).trans (hcx 5 _ rfl); have d6 := (hmove _).trans (hcx 6 _ rfl)
      simp only [Nat.add_zero] at d0
      have CC := Lib.hid hcc
      have i0 : (0 : Int) ≤ (k : Int) := by omega
      have i1 : (k : Int) < (l.length : Int) := by omega
      clear hcell hcx hmove hx hcc
      cases hrb : q k ⟨key, cl, nm, xo, xn, xc, yo, yn, yc, put, value⟩
      · have RB := Lib.hid hrb; clear hrb
        go_wp2_with fail
        refine (CC.out _ K2.out).mono ?_
        rw [RB.out]
        rintro e w' ⟨rfl, hx2⟩
        have X2 := Lib.hid hx2; clear hx2
        go_wp2_with fail
        go_roundw
        case rel =>
          refine ⟨k + 1, by omega, by go_num, fun i x hi hx => ?_, Ext.trans K2.out X2.out⟩
          rcases Nat.lt_or_ge i k with h | h
          · exact K1.out i x h hx
          · obtain rfl : i = k := by omega
            rw [HX.out] at hx
            rw [← Option.some.inj hx]; exact RB.out
        case measure => simp [intOf]; omega
      · have RB := Lib.hid hrb; clear hrb
        go_wp2_with fail
        refine (CC.out _ K2.out).mono ?_
        rw [RB.out]
        rintro e w' ⟨rfl, hx2⟩
        have X2 := Lib.hid hx2; clear hx2
        go_wp2_with fail
        go_ret
        exact ⟨k, ret_int (by omega), ⟨fun h => absurd h (by omega), fun h => by have := h k _ HX.out; rw [RB.out] at this; cases this⟩, Ext.trans K2.out X2.out⟩
    · go_wp2_with fail
      go_ret
      exact ⟨-1, ret_int (by omega), ⟨fun _ i x hx => K1.out i x (by have := (List.getElem?_eq_some_iff.1 hx).1; omega) hx, fun _ => by omega⟩, K2.out⟩

theorem containsH_calls (q : Nat → HoldV → Bool) (l : List HoldV) (ao : Option Addr) (cap : Nat) (w : World) (hl : l.length ≤ 1000000) (hr : Rows 7 encHV w.heap.size w ao l)
    (hq : ∀ i x, l[i]? = some x → ∀ W, Ext w W → Calls Tryz.prog 289 #[.agg (encHV x).toArray] W fun e w' => e = .returned (.bool (q i x)) ∧ Ext W w') :
    Calls Tryz.prog 288 #[.slice ao l.length cap, .func (.func 289) #[] #[]] w fun e w' => ∃ b : Bool, e = .returned (.bool b) ∧ (b = false ↔ ∀ i x, l[i]? = some x → q i x = false) ∧ Ext w w' := by
  have HR := Lib.hid hr; have HF := Lib.hid hq
  clear hr hq
  go_enter Tryz.func288, Tryz.ntmps288
  go_wp2_with fail
  refine (indexH_calls q l ao cap _ hl HR.out HF.out).mono ?_
  rintro e w' ⟨k, rfl, hk, hx⟩
  have X2 := Lib.hid hx; have K2 := Lib.hid hk; clear hx hk
  go_wp2_with fail
  go_ret
  exact ⟨decide (0 ≤ k), ret_bool rfl, by rw [← K2.out]; simp, X2.out⟩
end Go.Proofs.YtedokmdoompidaaGreatDoor
/- Tables of holds that are none: there, and what each method answers of them; New and Many. -/
namespace Go.Proofs.YtedokmdoompidaaGreatDoor
open Go.RowKit

/-- Is a table there? -/
def ThereIs (w : World) (p : Option Addr) (b : Bool) : Prop := (p = none ∧ b = false) ∨ ∃ hb, p = some ⟨hb, 0, none⟩ ∧ w.cell? ⟨hb, 1, none⟩ = some (.bool b)
theorem ThereIs.ext {w w' : World} {p : Option Addr} {b : Bool} (h : ThereIs w p b) (hx : Ext w w') : ThereIs w' p b := by
  rcases h with h | ⟨hb, rfl, hc⟩
  · exact .inl h
  · exact .inr ⟨hb, rfl, (hx.cell (p := ⟨hb, 1, none⟩) (block_lt_of_cell hc)).trans hc⟩
theorem there_calls (p : Option Addr) (b : Bool) (w : World) (h : ThereIs w p b) :
    Calls Tryz.prog 186 #[.pointer p] w fun e w' => e = .returned (.bool b) ∧ w = w' := by
  rcases h with ⟨rfl, rfl⟩ | ⟨hb, rfl, hc⟩
  · go_enter Tryz.func186, Tryz.ntmps186
    go_wp2_with fail
    go_ret
    exact ⟨rfl, rfl⟩
  · go_enter Tryz.func186, Tryz.ntmps186
    go_wp2_with fail
    go_ret
    exact ⟨ret_bool rfl, rfl⟩

theorem nilMany_calls (p : Option Addr) (w : World) (h : ThereIs w p false) :
    Calls Tryz.prog 236 #[.pointer p] w fun e w' => e = .returned (.int .i64 0) ∧ w = w' := by
  have HT := Lib.hid (there_calls p false w h); clear h
  go_enter Tryz.func236, Tryz.ntmps236
  go_wp2_with (go_at_call 186; refine HT.out.mono ?_; rintro e w' ⟨rfl, rfl⟩)
  go_ret
  exact ⟨rfl, rfl⟩
theorem nilCopy_calls (p : Option Addr) (w : World) (h : ThereIs w p false) :
    Calls Tryz.prog 123 #[.pointer p] w fun e w' => e = .returned (.pointer none) ∧ w = w' := by
  have HT := Lib.hid (there_calls p false w h); clear h
  go_enter Tryz.func123, Tryz.ntmps123
  go_wp2_with (go_at_call 186; refine HT.out.mono ?_; rintro e w' ⟨rfl, rfl⟩)
  go_ret
  exact ⟨rfl, rfl⟩
theorem nilPut_calls (p : Option Addr) (v : Value) (w : World) (h : ThereIs w p false) :
    Calls Tryz.prog 157 #[.pointer p, v] w fun e w' => e = .returned (.int .i64 1) ∧ w = w' := by
  have HT := Lib.hid (there_calls p false w h); clear h
  go_enter Tryz.func157, Tryz.ntmps157
  go_wp2_with (go_at_call 186; refine HT.out.mono ?_; rintro e w' ⟨rfl, rfl⟩)
  go_ret
  exact ⟨rfl, rfl⟩
theorem nilBy_calls (p : Option Addr) (c n : Int) (w : World) (h : ThereIs w p false) :
    Calls Tryz.prog 159 #[.pointer p, .agg #[.int .i64 c, .int .i64 n]] w fun e w' => e = .returned (.slice none 0 0) ∧ Ext w w' := by
  have HX := Lib.hid (show Ext w (w.alloc (.cells #[.int .i64 c, .int .i64 n] 43)) from (Below.refl _ w).alloc (Nat.le_refl _) _)
  have HT := Lib.hid (there_calls p false _ (h.ext HX.out)); clear h
  go_enter Tryz.func159, Tryz.ntmps159
  go_wp2_with (go_at_call 186; refine HT.out.mono ?_; rintro e w' ⟨rfl, rfl⟩)
  go_ret
  exact ⟨rfl, HX.out⟩
theorem nilFree_calls (p : Option Addr) (ao : Option Addr) (n c : Nat) (w : World) (h : ThereIs w p false) :
    Calls Tryz.prog 161 #[.pointer p, .slice ao n c] w fun e w' => e = .returned (.slice none 0 0) ∧ Ext w w' := by
  have HX := Lib.hid (show Ext w (w.alloc (.cells #[.slice ao n c] 205)) from (Below.refl _ w).alloc (Nat.le_refl _) _)
  have HT := Lib.hid (there_calls p false _ (h.ext HX.out)); clear h
  go_enter Tryz.func161, Tryz.ntmps161
  go_wp2_with (go_at_call 186; refine HT.out.mono ?_; rintro e w' ⟨rfl, rfl⟩)
  go_ret
  exact ⟨rfl, HX.out⟩
theorem nilIn_calls (p : Option Addr) (lo hi : ByteArray) (w : World) (h : ThereIs w p false) :
    Calls Tryz.prog 121 #[.pointer p, .agg #[.string lo, .string hi]] w fun e w' => e = .returned (.slice none 0 0) ∧ Ext w w' := by
  have HX := Lib.hid (show Ext w (w.alloc (.cells #[.string lo, .string hi] 57)) from (Below.refl _ w).alloc (Nat.le_refl _) _)
  have HT := Lib.hid (there_calls p false _ (h.ext HX.out)); clear h
  go_enter Tryz.func121, Tryz.ntmps121
  go_wp2_with (go_at_call 186; refine HT.out.mono ?_; rintro e w' ⟨rfl, rfl⟩)
  go_ret
  exact ⟨rfl, HX.out⟩
theorem nilTake_calls (p : Option Addr) (lo hi : ByteArray) (w : World) (h : ThereIs w p false) :
    Calls Tryz.prog 179 #[.pointer p, .agg #[.string lo, .string hi]] w fun e w' => e = .returned (.slice none 0 0) ∧ Ext w w' := by
  have HX := Lib.hid (show Ext w (w.alloc (.cells #[.string lo, .string hi] 57)) from (Below.refl _ w).alloc (Nat.le_refl _) _)
  have HT := Lib.hid (there_calls p false _ (h.ext HX.out)); clear h
  go_enter Tryz.func179, Tryz.ntmps179
  go_wp2_with (go_at_call 186; refine HT.out.mono ?_; rintro e w' ⟨rfl, rfl⟩)
  go_ret
  exact ⟨rfl, HX.out⟩

theorem new_calls (w : World) : Calls Tryz.prog 132 #[] w fun e w' => e = .returned (.pointer (some ⟨w.heap.size, 0, none⟩)) ∧ w' = w.alloc (.cells #[.slice none 0 0, .bool true] 290) := by
  go_enter Tryz.func132, Tryz.ntmps132
  go_wp2_with fail
  go_ret
  exact ⟨rfl, rfl⟩
theorem many_calls (hb : Nat) (ao : Option Addr) (n c : Nat) (w : World) (hc : w.cell? ⟨hb, 0, none⟩ = some (.slice ao n c)) (hm : w.cell? ⟨hb, 1, none⟩ = some (.bool true)) :
    Calls Tryz.prog 236 #[.pointer (some ⟨hb, 0, none⟩)] w fun e w' => e = .returned (.int .i64 n) ∧ w = w' := by
  have HT := Lib.hid (there_calls (some ⟨hb, 0, none⟩) true w (.inr ⟨hb, rfl, hm⟩)); clear hm
  go_enter Tryz.func236, Tryz.ntmps236
  go_wp2_with (go_at_call 186; refine HT.out.mono ?_; rintro e w' ⟨rfl, rfl⟩)
  go_ret
  exact ⟨ret_int (by omega), rfl⟩
end Go.Proofs.YtedokmdoompidaaGreatDoor
/- ActsOf and HoldsOf: what they count bounds the lengths. -/
namespace Go.Proofs.YtedokmdoompidaaGreatDoor
open Go.RowKit

def ActD.small (a : ActD) : Prop := a.key.size ≤ 140737488351232 ∧ a.value.size ≤ 140737488351232
def Rd.small (a : Rd) : Prop := a.key.size ≤ 140737488351232 ∧ a.value.size ≤ 140737488351232
structure HoldD.small (d : HoldD) : Prop where
  ks : d.key.size ≤ 140737488351232
  vs : d.value.size ≤ 140737488351232
  an : d.acts.length ≤ 9223372036854775807
  rn : d.reads.length ≤ 9223372036854775807
  acts : ∀ a ∈ d.acts, a.small
  reads : ∀ r ∈ d.reads, r.small
/-- How many parts some acts, reads, holds have, as far as it is counted. -/
def actsN (most : Nat) : Nat → List ActD → Nat
  | n, [] => n
  | n, a :: l => if n ≤ most then actsN most (n + 1 + a.key.size / 8 + a.value.size / 8) l else n
def readsN (most : Nat) : Nat → List Rd → Nat
  | n, [] => n
  | n, a :: l => if n ≤ most then readsN most (n + 1 + a.key.size / 8 + a.value.size / 8) l else n
def holdN (most n : Nat) (d : HoldD) : Nat := n + 1 + d.key.size / 8 + d.value.size / 8 + actsN most 0 d.acts
def holdsN (most : Nat) : Nat → List HoldD → Nat
  | n, [] => n
  | n, d :: l => if n ≤ most then holdsN most (readsN most (holdN most n d) d.reads) l else n
theorem actsN_over {most n : Nat} (h : ¬ n ≤ most) (l : List ActD) : actsN most n l = n := by cases l <;> simp [actsN, h]
theorem readsN_over {most n : Nat} (h : ¬ n ≤ most) (l : List Rd) : readsN most n l = n := by cases l <;> simp [readsN, h]
theorem holdsN_over {most n : Nat} (h : ¬ n ≤ most) (l : List HoldD) : holdsN most n l = n := by cases l <;> simp [holdsN, h]
theorem actsN_drop {most n : Nat} (h : n ≤ most) (l : List ActD) (k : Nat) (x : ActD) (hx : l[k]? = some x) : actsN most n (l.drop k) = actsN most (n + 1 + x.key.size / 8 + x.value.size / 8) (l.drop (k + 1)) := by
  obtain ⟨hk, he⟩ := List.getElem?_eq_some_iff.1 hx
  rw [List.drop_eq_getElem_cons hk, he, actsN, if_pos h]
theorem readsN_drop {most n : Nat} (h : n ≤ most) (l : List Rd) (k : Nat) (x : Rd) (hx : l[k]? = some x) : readsN most n (l.drop k) = readsN most (n + 1 + x.key.size / 8 + x.value.size / 8) (l.drop (k + 1)) := by
  obtain ⟨hk, he⟩ := List.getElem?_eq_some_iff.1 hx
  rw [List.drop_eq_getElem_cons hk, he, readsN, if_pos h]
theorem holdsN_drop {most n : Nat} (h : n ≤ most) (l : List HoldD) (k : Nat) (x : HoldD) (hx : l[k]? = some x) : holdsN most n (l.drop k) = holdsN most (readsN most (holdN most n x) x.reads) (l.drop (k + 1)) := by
  obtain ⟨hk, he⟩ := List.getElem?_eq_some_iff.1 hx
  rw [List.drop_eq_getElem_cons hk, he, holdsN, if_pos h]
theorem actsN_bd {most : Nat} (hm : most ≤ 1000000) : ∀ (l : List ActD) (n : Nat), (∀ a ∈ l, a.small) → n ≤ 36000000000000 → actsN most n l ≤ 36000000000000
  | [], _, _, h => h
  | a :: l, n, hs, h => by
    rw [actsN]
    split
    · have := hs a (by simp)
      unfold ActD.small at this
      exact actsN_bd hm l _ (fun b hb => hs b (by simp [hb])) (by omega)
    · exact h
theorem actsN_le {most : Nat} : ∀ (l : List ActD) (n : Nat), actsN most n l ≤ most → n + l.length ≤ most
  | [], n, h => by simpa [actsN] using h
  | a :: l, n, h => by
    rw [actsN] at h
    split at h
    · have := actsN_le l _ h
      rw [List.length_cons]; omega
    · omega
theorem readsN_le {most : Nat} : ∀ (l : List Rd) (n : Nat), readsN most n l ≤ most → n + l.length ≤ most
  | [], n, h => by simpa [readsN] using h
  | a :: l, n, h => by
    rw [readsN] at h
    split at h
    · have := readsN_le l _ h
      rw [List.length_cons]; omega
    · omega
theorem readsN_ge {most : Nat} : ∀ (l : List Rd) (n : Nat), n ≤ readsN most n l
  | [], n => by simp [readsN]
  | a :: l, n => by
    rw [readsN]
    split
    · have := readsN_ge (most := most) l (n + 1 + a.key.size / 8 + a.value.size / 8)
      omega
    · omega
theorem holdsN_le {most : Nat} : ∀ (l : List HoldD) (n : Nat), holdsN most n l ≤ most → n + l.length ≤ most ∧ ∀ d ∈ l, d.acts.length ≤ most ∧ d.reads.length ≤ most
  | [], n, h => ⟨by simpa [holdsN] using h, fun d hd => by simp at hd⟩
  | a :: l, n, h => by
    rw [holdsN] at h
    split at h
    · have ih := holdsN_le l _ h
      have h1 := readsN_le (most := most) a.reads (holdN most n a) (by omega)
      have h3 : n + 1 + actsN most 0 a.acts ≤ holdN most n a := by unfold holdN; omega
      have h2 := actsN_le (most := most) a.acts 0 (by omega)
      have h4 : holdN most n a ≤ readsN most (holdN most n a) a.reads := readsN_ge a.reads _
      refine ⟨by rw [List.length_cons]; omega, fun d hd => ?_⟩
      rcases List.mem_cons.1 hd with rfl | hd
      · exact ⟨by omega, by omega⟩
      · exact ih.2 d hd
    · omega

end Go.Proofs.YtedokmdoompidaaGreatDoor
