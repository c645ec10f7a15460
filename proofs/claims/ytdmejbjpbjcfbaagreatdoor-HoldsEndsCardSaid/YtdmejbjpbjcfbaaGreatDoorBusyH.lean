/- Busy: the plain law: the first of the keys that are sorted is the least. -/
import Derived.Test.YtdmejbjpbjcfbaaGreatDoorOfH
import Derived.Test.YtdmejbjpbjcfbaaGreatDoorRefTabs
import Derived.Test.YtdmejbjpbjcfbaaGreatDoorNamesB
namespace Go.Proofs.YtdmejbjpbjcfbaaGreatDoor
def stepB (p : List UInt8 → Bool) (m : Option (List UInt8)) (k : List UInt8) : Option (List UInt8) :=
  match m with
  | none => if p k = true then some k else none
  | some q => if p k = true ∧ k < q then some k else some q
def leastN (p : List UInt8 → Bool) (ks : List (List UInt8)) : Nat → Option (List UInt8)
  | 0 => none
  | j + 1 => match ks[j]? with
    | none => leastN p ks j
    | some k => stepB p (leastN p ks j) k
def isLeast (p : List UInt8 → Bool) (ks : List (List UInt8)) : Option (List UInt8) → Prop
  | none => ∀ k ∈ ks, p k = false
  | some q => q ∈ ks ∧ p q = true ∧ ∀ k ∈ ks, p k = true → ¬ k < q
theorem leastN_law (p : List UInt8 → Bool) (ks : List (List UInt8)) : ∀ j, isLeast p (ks.take j) (leastN p ks j)
  | 0 => by intro k hk; simp at hk
  | j + 1 => by
    have ih := leastN_law p ks j
    unfold leastN
    cases hj : ks[j]? with
    | none =>
      have : ks.take (j + 1) = ks.take j := by rw [List.take_add_one, hj]; simp
      rw [this]; exact ih
    | some k =>
      have ht : ks.take (j + 1) = ks.take j ++ [k] := by rw [List.take_add_one, hj]; rfl
      rw [ht]
      simp only
      generalize leastN p ks j = m at ih
      cases m with
      | none =>
        unfold stepB
        by_cases hp : p k = true
        · simp only [hp, if_true]
          refine ⟨by simp, hp, fun k' hk' h' => ?_⟩
          rcases List.mem_append.1 hk' with h | h
          · rw [ih k' h] at h'; cases h'
          · have := List.mem_singleton.1 h
            subst this
            exact List.lt_irrefl _
        · have hp : p k = false := by simpa using hp
          simp only [hp]
          intro k' hk'
          rcases List.mem_append.1 hk' with h | h
          · exact ih k' h
          · have := List.mem_singleton.1 h
            subst this; exact hp
      | some q =>
        obtain ⟨h1, h2, h3⟩ := ih
        unfold stepB
        by_cases hp : p k = true ∧ k < q
        · simp only [hp, if_true, and_self]
          refine ⟨by simp, hp.1, fun k' hk' h' hlt => ?_⟩
          rcases List.mem_append.1 hk' with h | h
          · exact h3 k' h h' (List.lt_trans hlt hp.2)
          · have := List.mem_singleton.1 h
            subst this
            exact List.lt_irrefl _ hlt
        · simp only [hp, if_false]
          refine ⟨List.mem_append.2 (.inl h1), h2, fun k' hk' h' hlt => ?_⟩
          rcases List.mem_append.1 hk' with h | h
          · exact h3 k' h h' hlt
          · have := List.mem_singleton.1 h
            subst this
            exact hp ⟨h', hlt⟩
theorem least_unique {p : List UInt8 → Bool} {ks ks' : List (List UInt8)} (hm : ∀ k, k ∈ ks ↔ k ∈ ks') {a b : Option (List UInt8)} (ha : isLeast p ks a) (hb : isLeast p ks' b) : a = b := by
  cases a with
  | none =>
    cases b with
    | none => rfl
    | some q => have := ha q ((hm q).2 hb.1); rw [hb.2.1] at this; cases this
  | some q =>
    cases b with
    | none => have := hb q ((hm q).1 ha.1); rw [ha.2.1] at this; cases this
    | some r =>
      have h1 := ha.2.2 r ((hm r).2 hb.1) hb.2.1
      have h2 := hb.2.2 q ((hm q).1 ha.1) ha.2.1
      exact congrArg some (List.le_antisymm (List.not_lt.1 h1) (List.not_lt.1 h2))
theorem sortL_mem (ks : List (List UInt8)) (k : List UInt8) : k ∈ sortL ks ↔ k ∈ ks := by unfold sortL; exact List.mem_mergeSort
theorem sortL_sorted (ks : List (List UInt8)) : (sortL ks).Pairwise fun a b => a ≤ b := by
  have h := List.pairwise_mergeSort (le := fun x y : List UInt8 => decide (x ≤ y)) (fun a b c h1 h2 => by
    simp only [decide_eq_true_eq] at *
    exact List.le_trans h1 h2) (fun a b => by
    rcases List.le_total a b with h | h
    · simp [h]
    · simp [h]) ks
  exact h.imp (fun h => by simpa using h)
theorem find_isLeast (p : List UInt8 → Bool) : ∀ (l : List (List UInt8)), (l.Pairwise fun a b => a ≤ b) → isLeast p l (l.find? p)
  | [], _ => by intro k hk; simp at hk
  | a :: l, h => by
    have h1 := List.pairwise_cons.1 h
    cases hp : p a
    · rw [List.find?_cons_of_neg (by rw [hp]; decide)]
      have ih := find_isLeast p l h1.2
      generalize l.find? p = m at ih
      cases m with
      | none =>
        intro k hk
        rcases List.mem_cons.1 hk with rfl | hk
        · exact hp
        · exact ih k hk
      | some q =>
        refine ⟨List.mem_cons.2 (.inr ih.1), ih.2.1, fun k hk hpk => ?_⟩
        rcases List.mem_cons.1 hk with rfl | hk
        · rw [hp] at hpk; cases hpk
        · exact ih.2.2 k hk hpk
    · rw [List.find?_cons_of_pos (by rw [hp])]
      refine ⟨by simp, hp, fun k hk _ hlt => ?_⟩
      rcases List.mem_cons.1 hk with rfl | hk
      · exact List.lt_irrefl _ hlt
      · exact absurd hlt (List.not_lt.2 (h1.1 k hk))
theorem find_least (p : List UInt8 → Bool) (ks : List (List UInt8)) : (sortL ks).find? p = leastN p ks ks.length := by
  have h1 := find_isLeast p (sortL ks) (sortL_sorted ks)
  have h2 := leastN_law p ks ks.length
  rw [List.take_length] at h2
  exact least_unique (sortL_mem ks) h1 h2
def whoOf (nm : List UInt8 → Int × Int) (m : Option (List UInt8)) : Int × Int := match m with | none => (0, 0) | some k => nm k
def busyP (th : List UInt8 → Bool) (nm : List UInt8 → Int × Int) (c n : Int) (k : List UInt8) : Bool := th k && !((nm k).1 == c && (nm k).2 == n)
theorem busyL_find (th : List UInt8 → Bool) (nm : List UInt8 → Int × Int) (c n : Int) : ∀ l, busyL th nm c n l = ((whoOf nm (l.find? (busyP th nm c n))).1, (whoOf nm (l.find? (busyP th nm c n))).2, (l.find? (busyP th nm c n)).isSome)
  | [] => rfl
  | k :: ks => by
    unfold busyL
    cases hp : busyP th nm c n k
    · rw [List.find?_cons_of_neg (by rw [hp]; decide)]
      rw [if_neg (by unfold busyP at hp; rw [hp]; decide)]
      exact busyL_find th nm c n ks
    · rw [List.find?_cons_of_pos (by rw [hp])]
      rw [if_pos (by unfold busyP at hp; rw [hp])]
      rfl
theorem busy_law (th : List UInt8 → Bool) (nm : List UInt8 → Int × Int) (c n : Int) (ks : List (List UInt8)) : busyL th nm c n (sortL ks) = ((whoOf nm (leastN (busyP th nm c n) ks ks.length)).1, (whoOf nm (leastN (busyP th nm c n) ks ks.length)).2, (leastN (busyP th nm c n) ks ks.length).isSome) := by
  rw [busyL_find, find_least]
end Go.Proofs.YtdmejbjpbjcfbaaGreatDoor
/- The document's Busy. -/
namespace Go.Proofs.YtdmejbjpbjcfbaaGreatDoor
open Go.RowKit
variable {no0 : Nat → Prop}
theorem ofD_key {ds : List HoldD} {k : List UInt8} {d : HoldD} (h : ofD k ds = some d) : dkey d = k := by
  unfold ofD at h
  have := List.find?_some h
  simpa using this
def RBusyPost (c n : Int) (ks : List ByteArray) (ds : List HoldD) (w : World) (e : Ending) (w' : World) : Prop :=
  (∃ r, r = busyL (fun k => hasD k ds) (nameD ds) c n (sortL (bytesL ks)) ∧ e = .returned (.tuple #[.agg #[.int .i64 r.1, .int .i64 r.2.1], .bool r.2.2])) ∧ Ext w w'
set_option maxRecDepth 100000 in
set_option maxHeartbeats 6400000 in
theorem rbusy_calls (mb : Nat) (v : Value) (ds : List HoldD) (c n : Int) (ks : List ByteArray) (ko : Option Addr) (kc : Nat) (w : World) (T : RTabN no0 w mb v ds) (hkl : ks.length ≤ 1000000) (hr : Rows 1 encStr w.heap.size w ko ks) :
    Calls Tryz.prog 96 #[.pointer (some ⟨mb, 0, none⟩), .agg #[.int .i64 c, .int .i64 n], .slice ko ks.length kc] w (RBusyPost c n ks ds w) := by
  obtain ⟨p, hp⟩ : ∃ p, p = busyP (fun k => hasD k ds) (nameD ds) c n := ⟨_, rfl⟩
  have hlaw := busy_law (fun k => hasD k ds) (nameD ds) c n (bytesL ks)
  rw [← hp] at hlaw
  have hbl : (bytesL ks).length = ks.length := by simp [bytesL]
  rw [hbl] at hlaw
  have HT := Lib.hid T; have HR := Lib.hid hr; have HLAW := Lib.hid hlaw; have HP := Lib.hid hp
  clear T hr hlaw hp hbl
  go_enter Tryz.func96, Tryz.ntmps96
  have hb1 := Blk.new w [.int .i64 c, .int .i64 n] 24
  have hx1 : Ext w (w.alloc (.cells #[.int .i64 c, .int .i64 n] 24)) := (Below.refl _ w).alloc (Nat.le_refl _) _
  obtain ⟨w1, hw1⟩ : ∃ w1, w1 = w.alloc (.cells #[.int .i64 c, .int .i64 n] 24) := ⟨_, rfl⟩
  have hs1 : w1.heap.size = w.heap.size + 1 := by rw [hw1]; simp
  rw [show w.alloc (.cells [.int .i64 c, .int .i64 n].toArray 24) = w1 from hw1.symm] at hb1
  rw [← hw1] at hx1
  have hb2 := Blk.new w1 [.int .i64 0, .int .i64 0] 24
  have hx2 : Ext w1 (w1.alloc (.cells #[.int .i64 0, .int .i64 0] 24)) := (Below.refl _ w1).alloc (Nat.le_refl _) _
  obtain ⟨w2, hw2⟩ : ∃ w2, w2 = w1.alloc (.cells #[.int .i64 0, .int .i64 0] 24) := ⟨_, rfl⟩
  have hs2 : w2.heap.size = w1.heap.size + 1 := by rw [hw2]; simp
  rw [show w1.alloc (.cells [.int .i64 0, .int .i64 0].toArray 24) = w2 from hw2.symm] at hb2
  rw [← hw2] at hx2
  have hb3 := Blk.new w2 [.int .i64 0, .int .i64 0] 24
  have hx3 : Ext w2 (w2.alloc (.cells #[.int .i64 0, .int .i64 0] 24)) := (Below.refl _ w2).alloc (Nat.le_refl _) _
  obtain ⟨w3, hw3⟩ : ∃ w3, w3 = w2.alloc (.cells #[.int .i64 0, .int .i64 0] 24) := ⟨_, rfl⟩
  rw [show w2.alloc (.cells [.int .i64 0, .int .i64 0].toArray 24) = w3 from hw3.symm] at hb3
  rw [← hw3] at hx3
  have hB1 : Blk w3 w.heap.size [.int .i64 c, .int .i64 n] 24 := (hb1.ext' hx2).ext' hx3
  have hB2 : Blk w3 (w.heap.size + 1) [.int .i64 0, .int .i64 0] 24 := by rw [← hs1]; exact hb2.ext' hx3
  have hB3 : Blk w3 (w.heap.size + 2) [.int .i64 0, .int .i64 0] 24 := by
    have e : w.heap.size + 2 = w2.heap.size := by omega
    rw [e]; exact hb3
  have hx : Ext w w3 := Ext.trans (Ext.trans hx1 hx2) hx3
  have G1 := Lib.hid hB1; have G2 := Lib.hid hB2; have G3 := Lib.hid hB3; have GX := Lib.hid hx
  clear hb1 hx1 hb2 hx2 hb3 hx3 hs1 hs2 hB1 hB2 hB3 hx
  have HW3 : Hid (((w.alloc (.cells #[.int .i64 c, .int .i64 n] 24)).alloc (.cells #[.int .i64 0, .int .i64 0] 24)).alloc (.cells #[.int .i64 0, .int .i64 0] 24) = w3) := Lib.hid (by rw [hw3, hw2, hw1])
  clear hw1 hw2 hw3
  go_upto_region 2 with fail
  rw [HW3.out]
  go_wp2_with fail
  obtain ⟨bw, hbw⟩ : ∃ bw, bw = w.heap.size + 1 + 1 := ⟨_, rfl⟩
  rw [← hbw]
  have HBW := Lib.hid hbw
  have B3 : Hid (Blk w3 bw [.int .i64 0, .int .i64 0] 24) := Lib.hid (by rw [hbw]; exact G3.out)
  clear hbw HW3 G3
  go_loopw [8, 10, 11] (fun vb vs vi wr => ∃ (k : Nat) (B : ByteArray), vi = .int .i64 k ∧ k ≤ ks.length ∧ vb = .string B ∧ vs = .bool (leastN p (bytesL ks) k).isSome ∧ (∀ q, leastN p (bytesL ks) k = some q → B.data.toList = q) ∧ Blk wr bw [.int .i64 (whoOf (nameD ds) (leastN p (bytesL ks) k)).1, .int .i64 (whoOf (nameD ds) (leastN p (bytesL ks) k)).2] 24 ∧ But (fun j => j = bw) w3 wr) (fun _ _ vi _ => ks.length - (intOf vi).toNat)
  case atStart => exact ⟨0, ⟨#[]⟩, rfl, by omega, rfl, rfl, (fun q hq => by cases hq), B3.out, But.refl _ _⟩
  case round =>
    obtain ⟨k, B, rfl, hk, rfl, rfl, hB, hblk, hbut⟩ := hrel
    have K4 := Lib.hid hB; have K5 := Lib.hid hblk; have K6 := Lib.hid hbut
    have XW : Hid (Ext w wr) := Lib.hid (Ext.butNew' GX.out hbut (fun i e => by rw [e, HBW.out]; omega))
    have NB : Hid (Blk wr w.heap.size [.int .i64 c, .int .i64 n] 24) := Lib.hid (G1.out.but hbut (fun e => by rw [HBW.out] at e; omega))
    have RB : Hid (Blk wr (w.heap.size + 1) [.int .i64 0, .int .i64 0] 24) := Lib.hid (G2.out.but hbut (fun e => by rw [HBW.out] at e; omega))
    clear hB hblk hbut
    by_cases hlt : k < ks.length
    · obtain ⟨key, hkey⟩ : ∃ key, ks[k]? = some key := ⟨_, List.getElem?_eq_getElem hlt⟩
      obtain ⟨kb, koff, rfl, hkb, hkc⟩ := HR.out (by intro e; rw [e] at hlt; simp at hlt)
      have ck := cellX XW.out (hkc k key hkey 0 _ rfl)
      rw [Nat.mul_one, Nat.add_zero] at ck
      have hstep : leastN p (bytesL ks) (k + 1) = stepB p (leastN p (bytesL ks) k) key.data.toList := by
        have : (bytesL ks)[k]? = some key.data.toList := by unfold bytesL; rw [List.getElem?_map, hkey]; rfl
        rw [leastN, this]
      have hc := rof_calls mb v ds key wr (HT.out.ext XW.out)
      unfold ROfPost at hc
      have ii0 : (0 : Int) ≤ (k : Int) := by omega
      have ii1 : (k : Int) < (ks.length : Int) := by omega
      have tt : decide ((k : Int) < (ks.length : Int)) = true := decide_eq_true ii1
      have HSP := Lib.hid hstep
      have hof := ofD_has key.data.toList ds
      clear hkey hkc hstep
      generalize hm : leastN p (bytesL ks) k = m at *
      clear hm
      have hpk : p key.data.toList = (hasD key.data.toList ds && !((nameD ds key.data.toList).1 == c && (nameD ds key.data.toList).2 == n)) := by rw [HP.out]; rfl
      cases hh : hasD key.data.toList ds
      · rw [hh] at hc hpk
        have NEXT : Hid (leastN p (bytesL ks) (k + 1) = m) := Lib.hid (by
          rw [HSP.out]
          have hpf : p key.data.toList = false := by rw [hpk]; rfl
          unfold stepB
          cases m with
          | none => simp [hpf]
          | some q => simp [hpf])
        have HC := Lib.hid hc
        have M0 : Hid (m.isSome = m.isSome) := Lib.hid rfl
        clear hc hpk hof hh
        go_wp2_with fail
        refine HC.out.mono ?_
        rintro e w4 ⟨x, rfl, hxm, hx4⟩
        obtain ⟨key0, cl, nm, xo, xn, xc, yo, yn, yc, put, value⟩ := x
        clear hxm
        rw [show (encHV ⟨key0, cl, nm, xo, xn, xc, yo, yn, yc, put, value⟩).toArray = #[.string key0, .int .i64 cl, .int .i64 nm, .slice xo xn xc, .slice yo yn yc, .bool put, .string value] from rfl]
        go_upto_region 6 with fail
        have hbox := Blk.new w4 [.string key0, .int .i64 cl, .int .i64 nm, .slice xo xn xc, .slice yo yn yc, .bool put, .string value] 35
        have hx5 : Ext w4 (w4.alloc (.cells #[.string key0, .int .i64 cl, .int .i64 nm, .slice xo xn xc, .slice yo yn yc, .bool put, .string value] 35)) := (Below.refl _ w4).alloc (Nat.le_refl _) _
        obtain ⟨w5, hw5⟩ : ∃ w5, w5 = w4.alloc (.cells #[.string key0, .int .i64 cl, .int .i64 nm, .slice xo xn xc, .slice yo yn yc, .bool put, .string value] 35) := ⟨_, rfl⟩
        rw [show w4.alloc (.cells [.string key0, .int .i64 cl, .int .i64 nm, .slice xo xn xc, .slice yo yn yc, .bool put, .string value].toArray 35) = w5 from hw5.symm] at hbox
        rw [← hw5] at hx5 ⊢
        have X5 : Hid (Ext wr w5) := Lib.hid (Ext.trans hx4 hx5)
        have B5 := Lib.hid hbox
        have X4 := Lib.hid hx4
        clear hw5 hx5 hx4 hbox
        obtain ⟨bb, hbb⟩ : ∃ bb, bb = w4.heap.size := ⟨_, rfl⟩
        rw [← hbb] at B5 ⊢
        have SZ : Hid (wr.heap.size ≤ bb) := Lib.hid (by rw [hbb]; exact X4.out.size)
        have NEB : Hid (bb ≠ bw) := Lib.hid (fun e => by have h := K5.out.lt; have h2 := SZ.out; omega)
        clear hbb
        have s0 := (NB.out.ext' X5.out).cell 0; have s1 := (NB.out.ext' X5.out).cell 1
        have x0 := B5.out.cell 0; have x1 := B5.out.cell 1; have x2 := B5.out.cell 2
        simp only [List.getElem?_cons_zero, List.getElem?_cons_succ] at s0 s1 x0 x1 x2
        have heq := neq_Nm
        have XC := X5
        go_wp2_with fail
        go_roundw
        case rel =>
          refine ⟨k + 1, B, by go_num, by omega, rfl, (by have e := NEXT.out; rw [e]; try rfl), ?_, ?_, K6.out.trans (XC.out.but (fun _ => False)) (fun _ _ e => e) (fun _ _ e => e.elim)⟩
          · rw [NEXT.out]; exact K4.out
          · rw [NEXT.out]; exact K5.out.ext' XC.out
        case measure => simp [intOf]; omega
      · rw [hh] at hc hpk hof
        obtain ⟨d, hd⟩ : ∃ d, ofD key.data.toList ds = some d := by
          cases ho : ofD key.data.toList ds with
          | none => rw [ho] at hof; cases hof
          | some d => exact ⟨d, rfl⟩
        have hnd : nameD ds key.data.toList = (d.cl, d.nm) := by unfold nameD; rw [hd]
        rw [hnd] at hpk
        simp only [Bool.true_and] at hpk
        have HO := Lib.hid hd
        have HC := Lib.hid hc
        clear hc hof hh hd hnd
        cases hg : (d.cl == c && d.nm == n)
        · rw [hg] at hpk
          have hpt : p key.data.toList = true := by rw [hpk]; rfl
          cases m with
          | none =>
            have NEXT : Hid (leastN p (bytesL ks) (k + 1) = some key.data.toList) := Lib.hid (by rw [HSP.out]; unfold stepB; simp [hpt])
            clear hpk hpt
            go_wp2_with fail
            refine HC.out.mono ?_
            rintro e w4 ⟨x, rfl, hxm, hx4⟩
            obtain ⟨key0, cl, nm, xo, xn, xc, yo, yn, yc, put, value⟩ := x
            rw [HO.out] at hxm
            simp only at hxm
            have hky0 : key0.data.toList = key.data.toList := (congrArg (fun b : ByteArray => b.data.toList) hxm.key).trans (ofD_key HO.out)
            have ecl : d.cl = cl := hxm.cl.symm
            have enm : d.nm = nm := hxm.nm.symm
            have HKY := Lib.hid hky0
            have HNM : Hid (nameD ds key.data.toList = (cl, nm)) := Lib.hid (by unfold nameD; rw [HO.out]; simp only [ecl, enm])
            rw [ecl, enm] at hg
            have HE := Lib.hid hxm
            clear hxm hky0 ecl enm
            rw [show (encHV ⟨key0, cl, nm, xo, xn, xc, yo, yn, yc, put, value⟩).toArray = #[.string key0, .int .i64 cl, .int .i64 nm, .slice xo xn xc, .slice yo yn yc, .bool put, .string value] from rfl]
            go_upto_region 6 with fail
            have hbox := Blk.new w4 [.string key0, .int .i64 cl, .int .i64 nm, .slice xo xn xc, .slice yo yn yc, .bool put, .string value] 35
            have hx5 : Ext w4 (w4.alloc (.cells #[.string key0, .int .i64 cl, .int .i64 nm, .slice xo xn xc, .slice yo yn yc, .bool put, .string value] 35)) := (Below.refl _ w4).alloc (Nat.le_refl _) _
            obtain ⟨w5, hw5⟩ : ∃ w5, w5 = w4.alloc (.cells #[.string key0, .int .i64 cl, .int .i64 nm, .slice xo xn xc, .slice yo yn yc, .bool put, .string value] 35) := ⟨_, rfl⟩
            rw [show w4.alloc (.cells [.string key0, .int .i64 cl, .int .i64 nm, .slice xo xn xc, .slice yo yn yc, .bool put, .string value].toArray 35) = w5 from hw5.symm] at hbox
            rw [← hw5] at hx5 ⊢
            have X5 : Hid (Ext wr w5) := Lib.hid (Ext.trans hx4 hx5)
            have B5 := Lib.hid hbox
            have X4 := Lib.hid hx4
            clear hw5 hx5 hx4 hbox
            obtain ⟨bb, hbb⟩ : ∃ bb, bb = w4.heap.size := ⟨_, rfl⟩
            rw [← hbb] at B5 ⊢
            have SZ : Hid (wr.heap.size ≤ bb) := Lib.hid (by rw [hbb]; exact X4.out.size)
            have NEB : Hid (bb ≠ bw) := Lib.hid (fun e => by have h := K5.out.lt; have h2 := SZ.out; omega)
            clear hbb
            have s0 := (NB.out.ext' X5.out).cell 0; have s1 := (NB.out.ext' X5.out).cell 1
            have x0 := B5.out.cell 0; have x1 := B5.out.cell 1; have x2 := B5.out.cell 2
            simp only [List.getElem?_cons_zero, List.getElem?_cons_succ] at s0 s1 x0 x1 x2
            have heq := neq_Nm
            have XC := X5
            have hbw2 := K5.out.ext' XC.out
            have q0 := hbw2.cell 0; have q1 := hbw2.cell 1; have f0 := hbw2.free 0; have f1 := hbw2.free 1
            simp only [List.getElem?_cons_zero, List.getElem?_cons_succ] at q0 q1
            have hnb : bb ≠ bw := by
              have h1 := K5.out.lt
              have h2 := B5.out
              intro e
              exact NEB.out e
            have BW2 := Lib.hid hbw2
            clear hbw2
            go_wp2_with fail
            go_roundw
            case rel =>
              refine ⟨k + 1, key0, by go_num, by omega, rfl, by rw [NEXT.out]; rfl, ?_, ?_, (K6.out.trans (XC.out.but (fun _ => False)) (fun _ _ e => e) (fun _ _ e => e.elim)).trans (But.set2 w5 bw 0 1 (.int .i64 cl) (.int .i64 nm)) (fun _ _ e => e) (fun _ _ e => e)⟩
              · rw [NEXT.out]; intro q hq; obtain rfl := Option.some.inj hq; exact HKY.out
              · rw [NEXT.out]
                have := (BW2.out.set 0 (.int .i64 cl)).set 1 (.int .i64 nm)
                simp only [List.set_cons_zero, List.set_cons_succ] at this
                show Blk _ bw [.int .i64 (nameD ds key.data.toList).1, .int .i64 (nameD ds key.data.toList).2] 24
                rw [HNM.out]
                exact this
            case measure => simp [intOf]; omega
          | some q =>
            have hBq : B.data.toList = q := K4.out q rfl
            cases hl : decide (key.data.toList < q)
            · have NEXT : Hid (leastN p (bytesL ks) (k + 1) = some q) := Lib.hid (by rw [HSP.out]; unfold stepB; simp [of_decide_eq_false hl])
              have M0 : Hid ((some q).isSome = true) := Lib.hid rfl
              clear hpk hpt
              go_wp2_with fail
              refine HC.out.mono ?_
              rintro e w4 ⟨x, rfl, hxm, hx4⟩
              obtain ⟨key0, cl, nm, xo, xn, xc, yo, yn, yc, put, value⟩ := x
              rw [HO.out] at hxm
              simp only at hxm
              have hky0 : key0.data.toList = key.data.toList := (congrArg (fun b : ByteArray => b.data.toList) hxm.key).trans (ofD_key HO.out)
              have ecl : d.cl = cl := hxm.cl.symm
              have enm : d.nm = nm := hxm.nm.symm
              have HKY := Lib.hid hky0
              have HNM : Hid (nameD ds key.data.toList = (cl, nm)) := Lib.hid (by unfold nameD; rw [HO.out]; simp only [ecl, enm])
              rw [ecl, enm] at hg
              have HE := Lib.hid hxm
              clear hxm hky0 ecl enm
              rw [show (encHV ⟨key0, cl, nm, xo, xn, xc, yo, yn, yc, put, value⟩).toArray = #[.string key0, .int .i64 cl, .int .i64 nm, .slice xo xn xc, .slice yo yn yc, .bool put, .string value] from rfl]
              have hbl : Op.bytesLess key0.toList B.toList = false := by rw [Lib.toList_data, Lib.toList_data, bytesLess_eq, HKY.out, hBq]; exact hl
              go_upto_region 6 with fail
              have hbox := Blk.new w4 [.string key0, .int .i64 cl, .int .i64 nm, .slice xo xn xc, .slice yo yn yc, .bool put, .string value] 35
              have hx5 : Ext w4 (w4.alloc (.cells #[.string key0, .int .i64 cl, .int .i64 nm, .slice xo xn xc, .slice yo yn yc, .bool put, .string value] 35)) := (Below.refl _ w4).alloc (Nat.le_refl _) _
              obtain ⟨w5, hw5⟩ : ∃ w5, w5 = w4.alloc (.cells #[.string key0, .int .i64 cl, .int .i64 nm, .slice xo xn xc, .slice yo yn yc, .bool put, .string value] 35) := ⟨_, rfl⟩
              rw [show w4.alloc (.cells [.string key0, .int .i64 cl, .int .i64 nm, .slice xo xn xc, .slice yo yn yc, .bool put, .string value].toArray 35) = w5 from hw5.symm] at hbox
              rw [← hw5] at hx5 ⊢
              have X5 : Hid (Ext wr w5) := Lib.hid (Ext.trans hx4 hx5)
              have B5 := Lib.hid hbox
              have X4 := Lib.hid hx4
              clear hw5 hx5 hx4 hbox
              obtain ⟨bb, hbb⟩ : ∃ bb, bb = w4.heap.size := ⟨_, rfl⟩
              rw [← hbb] at B5 ⊢
              have SZ : Hid (wr.heap.size ≤ bb) := Lib.hid (by rw [hbb]; exact X4.out.size)
              have NEB : Hid (bb ≠ bw) := Lib.hid (fun e => by have h := K5.out.lt; have h2 := SZ.out; omega)
              clear hbb
              have s0 := (NB.out.ext' X5.out).cell 0; have s1 := (NB.out.ext' X5.out).cell 1
              have x0 := B5.out.cell 0; have x1 := B5.out.cell 1; have x2 := B5.out.cell 2
              simp only [List.getElem?_cons_zero, List.getElem?_cons_succ] at s0 s1 x0 x1 x2
              have heq := neq_Nm
              have XC := X5
              go_wp2_with fail
              go_roundw
              case rel =>
                refine ⟨k + 1, B, by go_num, by omega, rfl, (by have e := NEXT.out; rw [e]; try rfl), ?_, ?_, K6.out.trans (XC.out.but (fun _ => False)) (fun _ _ e => e) (fun _ _ e => e.elim)⟩
                · rw [NEXT.out]; exact K4.out
                · rw [NEXT.out]; exact K5.out.ext' XC.out
              case measure => simp [intOf]; omega
            · have NEXT : Hid (leastN p (bytesL ks) (k + 1) = some key.data.toList) := Lib.hid (by rw [HSP.out]; unfold stepB; simp [hpt, of_decide_eq_true hl])
              clear hpk hpt
              go_wp2_with fail
              refine HC.out.mono ?_
              rintro e w4 ⟨x, rfl, hxm, hx4⟩
              obtain ⟨key0, cl, nm, xo, xn, xc, yo, yn, yc, put, value⟩ := x
              rw [HO.out] at hxm
              simp only at hxm
              have hky0 : key0.data.toList = key.data.toList := (congrArg (fun b : ByteArray => b.data.toList) hxm.key).trans (ofD_key HO.out)
              have ecl : d.cl = cl := hxm.cl.symm
              have enm : d.nm = nm := hxm.nm.symm
              have HKY := Lib.hid hky0
              have HNM : Hid (nameD ds key.data.toList = (cl, nm)) := Lib.hid (by unfold nameD; rw [HO.out]; simp only [ecl, enm])
              rw [ecl, enm] at hg
              have HE := Lib.hid hxm
              clear hxm hky0 ecl enm
              rw [show (encHV ⟨key0, cl, nm, xo, xn, xc, yo, yn, yc, put, value⟩).toArray = #[.string key0, .int .i64 cl, .int .i64 nm, .slice xo xn xc, .slice yo yn yc, .bool put, .string value] from rfl]
              have hbl : Op.bytesLess key0.toList B.toList = true := by rw [Lib.toList_data, Lib.toList_data, bytesLess_eq, HKY.out, hBq]; exact hl
              go_upto_region 6 with fail
              have hbox := Blk.new w4 [.string key0, .int .i64 cl, .int .i64 nm, .slice xo xn xc, .slice yo yn yc, .bool put, .string value] 35
              have hx5 : Ext w4 (w4.alloc (.cells #[.string key0, .int .i64 cl, .int .i64 nm, .slice xo xn xc, .slice yo yn yc, .bool put, .string value] 35)) := (Below.refl _ w4).alloc (Nat.le_refl _) _
              obtain ⟨w5, hw5⟩ : ∃ w5, w5 = w4.alloc (.cells #[.string key0, .int .i64 cl, .int .i64 nm, .slice xo xn xc, .slice yo yn yc, .bool put, .string value] 35) := ⟨_, rfl⟩
              rw [show w4.alloc (.cells [.string key0, .int .i64 cl, .int .i64 nm, .slice xo xn xc, .slice yo yn yc, .bool put, .string value].toArray 35) = w5 from hw5.symm] at hbox
              rw [← hw5] at hx5 ⊢
              have X5 : Hid (Ext wr w5) := Lib.hid (Ext.trans hx4 hx5)
              have B5 := Lib.hid hbox
              have X4 := Lib.hid hx4
              clear hw5 hx5 hx4 hbox
              obtain ⟨bb, hbb⟩ : ∃ bb, bb = w4.heap.size := ⟨_, rfl⟩
              rw [← hbb] at B5 ⊢
              have SZ : Hid (wr.heap.size ≤ bb) := Lib.hid (by rw [hbb]; exact X4.out.size)
              have NEB : Hid (bb ≠ bw) := Lib.hid (fun e => by have h := K5.out.lt; have h2 := SZ.out; omega)
              clear hbb
              have s0 := (NB.out.ext' X5.out).cell 0; have s1 := (NB.out.ext' X5.out).cell 1
              have x0 := B5.out.cell 0; have x1 := B5.out.cell 1; have x2 := B5.out.cell 2
              simp only [List.getElem?_cons_zero, List.getElem?_cons_succ] at s0 s1 x0 x1 x2
              have heq := neq_Nm
              have XC := X5
              have hbw2 := K5.out.ext' XC.out
              have q0 := hbw2.cell 0; have q1 := hbw2.cell 1; have f0 := hbw2.free 0; have f1 := hbw2.free 1
              simp only [List.getElem?_cons_zero, List.getElem?_cons_succ] at q0 q1
              have hnb : bb ≠ bw := by
                have h1 := K5.out.lt
                have h2 := B5.out
                intro e
                exact NEB.out e
              have BW2 := Lib.hid hbw2
              clear hbw2
              go_wp2_with fail
              go_roundw
              case rel =>
                refine ⟨k + 1, key0, by go_num, by omega, rfl, by rw [NEXT.out]; rfl, ?_, ?_, (K6.out.trans (XC.out.but (fun _ => False)) (fun _ _ e => e) (fun _ _ e => e.elim)).trans (But.set2 w5 bw 0 1 (.int .i64 cl) (.int .i64 nm)) (fun _ _ e => e) (fun _ _ e => e)⟩
                · rw [NEXT.out]; intro q hq; obtain rfl := Option.some.inj hq; exact HKY.out
                · rw [NEXT.out]
                  have := (BW2.out.set 0 (.int .i64 cl)).set 1 (.int .i64 nm)
                  simp only [List.set_cons_zero, List.set_cons_succ] at this
                  show Blk _ bw [.int .i64 (nameD ds key.data.toList).1, .int .i64 (nameD ds key.data.toList).2] 24
                  rw [HNM.out]
                  exact this
              case measure => simp [intOf]; omega
        · rw [hg] at hpk
          have NEXT : Hid (leastN p (bytesL ks) (k + 1) = m) := Lib.hid (by
            rw [HSP.out]
            have hpf : p key.data.toList = false := by rw [hpk]; rfl
            unfold stepB
            cases m with
            | none => simp [hpf]
            | some q => simp [hpf])
          have M0 : Hid (m.isSome = m.isSome) := Lib.hid rfl
          clear hpk
          go_wp2_with fail
          refine HC.out.mono ?_
          rintro e w4 ⟨x, rfl, hxm, hx4⟩
          obtain ⟨key0, cl, nm, xo, xn, xc, yo, yn, yc, put, value⟩ := x
          rw [HO.out] at hxm
          simp only at hxm
          have hky0 : key0.data.toList = key.data.toList := (congrArg (fun b : ByteArray => b.data.toList) hxm.key).trans (ofD_key HO.out)
          have ecl : d.cl = cl := hxm.cl.symm
          have enm : d.nm = nm := hxm.nm.symm
          have HKY := Lib.hid hky0
          have HNM : Hid (nameD ds key.data.toList = (cl, nm)) := Lib.hid (by unfold nameD; rw [HO.out]; simp only [ecl, enm])
          rw [ecl, enm] at hg
          have HE := Lib.hid hxm
          clear hxm hky0 ecl enm
          rw [show (encHV ⟨key0, cl, nm, xo, xn, xc, yo, yn, yc, put, value⟩).toArray = #[.string key0, .int .i64 cl, .int .i64 nm, .slice xo xn xc, .slice yo yn yc, .bool put, .string value] from rfl]
          go_upto_region 6 with fail
          have hbox := Blk.new w4 [.string key0, .int .i64 cl, .int .i64 nm, .slice xo xn xc, .slice yo yn yc, .bool put, .string value] 35
          have hx5 : Ext w4 (w4.alloc (.cells #[.string key0, .int .i64 cl, .int .i64 nm, .slice xo xn xc, .slice yo yn yc, .bool put, .string value] 35)) := (Below.refl _ w4).alloc (Nat.le_refl _) _
          obtain ⟨w5, hw5⟩ : ∃ w5, w5 = w4.alloc (.cells #[.string key0, .int .i64 cl, .int .i64 nm, .slice xo xn xc, .slice yo yn yc, .bool put, .string value] 35) := ⟨_, rfl⟩
          rw [show w4.alloc (.cells [.string key0, .int .i64 cl, .int .i64 nm, .slice xo xn xc, .slice yo yn yc, .bool put, .string value].toArray 35) = w5 from hw5.symm] at hbox
          rw [← hw5] at hx5 ⊢
          have X5 : Hid (Ext wr w5) := Lib.hid (Ext.trans hx4 hx5)
          have B5 := Lib.hid hbox
          have X4 := Lib.hid hx4
          clear hw5 hx5 hx4 hbox
          obtain ⟨bb, hbb⟩ : ∃ bb, bb = w4.heap.size := ⟨_, rfl⟩
          rw [← hbb] at B5 ⊢
          have SZ : Hid (wr.heap.size ≤ bb) := Lib.hid (by rw [hbb]; exact X4.out.size)
          have NEB : Hid (bb ≠ bw) := Lib.hid (fun e => by have h := K5.out.lt; have h2 := SZ.out; omega)
          clear hbb
          have s0 := (NB.out.ext' X5.out).cell 0; have s1 := (NB.out.ext' X5.out).cell 1
          have x0 := B5.out.cell 0; have x1 := B5.out.cell 1; have x2 := B5.out.cell 2
          simp only [List.getElem?_cons_zero, List.getElem?_cons_succ] at s0 s1 x0 x1 x2
          have heq := neq_Nm
          have XC := X5
          go_wp2_with fail
          go_roundw
          case rel =>
            refine ⟨k + 1, B, by go_num, by omega, rfl, (by have e := NEXT.out; rw [e]; try rfl), ?_, ?_, K6.out.trans (XC.out.but (fun _ => False)) (fun _ _ e => e) (fun _ _ e => e.elim)⟩
            · rw [NEXT.out]; exact K4.out
            · rw [NEXT.out]; exact K5.out.ext' XC.out
          case measure => simp [intOf]; omega
    · obtain rfl : k = ks.length := by omega
      have tt : decide ((ks.length : Int) < (ks.length : Int)) = false := decide_eq_false (by omega)
      have q0 := K5.out.cell 0; have q1 := K5.out.cell 1
      have r0 := RB.out.cell 0; have r1 := RB.out.cell 1; have f0 := RB.out.free 0; have f1 := RB.out.free 1
      simp only [List.getElem?_cons_zero, List.getElem?_cons_succ] at q0 q1 r0 r1
      have hne : ¬ (w.heap.size + 1 = bw) := by rw [HBW.out]; omega
      obtain ⟨c1, hc1⟩ : ∃ c1, c1 = (whoOf (nameD ds) (leastN p (bytesL ks) ks.length)).1 := ⟨_, rfl⟩
      obtain ⟨c2, hc2⟩ : ∃ c2, c2 = (whoOf (nameD ds) (leastN p (bytesL ks) ks.length)).2 := ⟨_, rfl⟩
      obtain ⟨c3, hc3⟩ : ∃ c3, c3 = (leastN p (bytesL ks) ks.length).isSome := ⟨_, rfl⟩
      rw [← hc1] at q0
      rw [← hc2] at q1
      rw [← hc3]
      have H1 := Lib.hid hc1; have H2 := Lib.hid hc2; have H3 := Lib.hid hc3
      clear hc1 hc2 hc3
      go_wp2_with fail
      (try simp only [Exit.inBlock, Exit.then])
      refine bodyPost_ret (res_row_tmp rfl _ _ (w.heap.size + 1) 24 [.int .i64 c1, .int .i64 c2] _ rfl ((RB.out.set 0 (.int .i64 c1)).set 1 (.int .i64 c2)) Tryz.underlying24 rfl (by kernel_rfl)) rfl ?_
      refine ⟨⟨_, rfl, ?_⟩, Ext.butNew' XW.out (But.set2 wr (w.heap.size + 1) 0 1 (.int .i64 c1) (.int .i64 c2)) (fun i e => by rw [e]; omega)⟩
      rw [HLAW.out, ← H1.out, ← H2.out, ← H3.out]; rfl
end Go.Proofs.YtdmejbjpbjcfbaaGreatDoor
/- Copy and By at a table of holds. -/
namespace Go.Proofs.YtdmejbjpbjcfbaaGreatDoor
open Go.RowKit
variable {no0 : Nat → Prop}
set_option maxRecDepth 100000 in
theorem by_asks (bx : Nat) (c n : Int) (S : Nat → Prop) (w : World) (hb : bx < w.heap.size) (h0 : w.cell? ⟨bx, 0, none⟩ = some (.int .i64 c)) (h1 : w.cell? ⟨bx, 1, none⟩ = some (.int .i64 n)) (hS : ¬ S bx) :
    Asks 98 #[.pointer (some ⟨bx, 0, none⟩)] (fun _ cl nm => (cl == c && nm == n)) S w := by
  intro W hW x hk
  have hcW := (hW.cell (p := ⟨bx, 0, none⟩) hb hS).trans h0
  have hdW := (hW.cell (p := ⟨bx, 1, none⟩) hb hS).trans h1
  have hbW : bx < W.heap.size := Nat.lt_of_lt_of_le hb hW.size
  have hbx : bx ≠ W.heap.size := by omega
  obtain ⟨key, cl, nm, xo, xn, xc, yo, yn, yc, put, value⟩ := x
  have HX : Hid (Ext W (W.alloc (.cells #[.string key, .int .i64 cl, .int .i64 nm, .slice xo xn xc, .slice yo yn yc, .bool put, .string value] 35))) := Lib.hid ((Below.refl _ W).alloc (Nat.le_refl _) _)
  have heq := eql_Nm
  clear h0 h1 hW
  simp only [encHV]
  go_enter Tryz.func98, Tryz.ntmps98
  go_wp2_with fail
  go_ret
  exact ⟨rfl, HX.out⟩
set_option maxRecDepth 100000 in
theorem by_calls (hb : Nat) (v : Value) (ds : List HoldD) (c n : Int) (w : World) (T : TabN no0 w hb v ds) :
    Calls Tryz.prog 44 #[.pointer (some ⟨hb, 0, none⟩), .agg #[.int .i64 c, .int .i64 n]] w (RowPost (byD c n ds) w) := by
  have hc1 := T.blk.cell 1
  simp only [List.getElem?_cons_zero, List.getElem?_cons_succ] at hc1
  have HX : Hid (Ext w (w.alloc (.cells #[.int .i64 c, .int .i64 n] 24))) := Lib.hid ((Below.refl _ w).alloc (Nat.le_refl _) _)
  have hbk : Blk (w.alloc (.cells #[.int .i64 c, .int .i64 n] 24)) w.heap.size [.int .i64 c, .int .i64 n] 24 := Blk.new w _ _
  have hlt := hbk.lt
  have HTH := Lib.hid (there_calls (some ⟨hb, 0, none⟩) true _ ((show ThereIs w (some ⟨hb, 0, none⟩) true from .inr ⟨hb, rfl, hc1⟩).ext HX.out))
  have T0 := T.ext HX.out
  obtain ⟨l, ao, cap, rfl, hlc, hll, hrows, hown, hare, hrise⟩ := T0.rows
  have hfew := T.few
  have hc0 := T0.blk.cell 0
  simp only [List.getElem?_cons_zero] at hc0
  have HTS := Lib.hid (those_calls _ _ (enters_of Tryz.func98 (by kernel_rfl) rfl) _ l ds _ ao cap hb _ (by omega) hrows hare T0.fits hc0 (T0.keys hare)
    (by_asks w.heap.size c n (fun _ => False) _ hlt (hbk.cell 0) (hbk.cell 1) (fun e => e)))
  clear hrows hown hare hrise hll hc0 hc1 T T0 hbk
  go_enter Tryz.func44, Tryz.ntmps44
  go_wp2_with fail
  refine HTH.out.mono ?_
  rintro e w' ⟨rfl, rfl⟩
  go_wp2_with fail
  refine HTS.out.mono ?_
  rintro e w2 ⟨r, l', rfl, h1, h2, h3, h4, h6, h5⟩
  have HP : Hid (RowPost (byD c n ds) w (.returned r) w2) := Lib.hid (RowPost.ext HX.out ⟨r, l', rfl, h1, h2, h3, h4, h6, h5⟩)
  clear h1 h2 h3 h4 h5 h6 HTS HTH
  go_wp2_with fail
  go_ret
  exact HP.out
def CopyPost (no1 : Nat → Prop) (ds : List HoldD) (w : World) (e : Ending) (w' : World) : Prop :=
  ∃ (g : Nat) (v : Value), e = .returned (.pointer (some ⟨g, 0, none⟩)) ∧ w.heap.size ≤ g ∧ TabN no1 w' g v ds ∧ (∀ j, v.ownBlock = some j → w.heap.size ≤ j) ∧ Ext w w'
set_option maxRecDepth 100000 in
theorem copy_calls (no1 : Nat → Prop) (hb : Nat) (v : Value) (ds : List HoldD) (w : World) (T : TabN no0 w hb v ds) (hn1 : ∀ b, no1 b → b < w.heap.size) :
    Calls Tryz.prog 40 #[.pointer (some ⟨hb, 0, none⟩)] w (CopyPost no1 ds w) := by
  have hc1 := T.blk.cell 1
  simp only [List.getElem?_cons_zero, List.getElem?_cons_succ] at hc1
  have HTH := Lib.hid (there_calls (some ⟨hb, 0, none⟩) true w (show ThereIs w (some ⟨hb, 0, none⟩) true from .inr ⟨hb, rfl, hc1⟩))
  obtain ⟨l, ao, cap, rfl, hlc, hll, hrows, hown, hare, hrise⟩ := T.rows
  have hfew := T.few
  have hc0 := T.blk.cell 0
  simp only [List.getElem?_cons_zero] at hc0
  have HC := Lib.hid (own_calls l ds ao cap w (by omega) hrows (hare.mono (fun _ _ e => e.elim)) T.fits)
  have HT := Lib.hid T; have HN := Lib.hid hn1
  clear T hrows hown hare hll hn1 hrise hc1
  go_enter Tryz.func40, Tryz.ntmps40
  go_wp2_with fail
  refine HTH.out.mono ?_
  rintro e w' ⟨rfl, rfl⟩
  go_wp2_with fail
  refine HC.out.mono ?_
  rintro e w1 ⟨v1, l', rfl, -, ho, hn, ha, -, hx⟩
  obtain ⟨q1, c1, rfl⟩ := own_slice ho
  have HO := Lib.hid ho; have HNW := Lib.hid hn; have HA := Lib.hid ha; have HX := Lib.hid hx
  clear ho hn ha hx HC hc0 HTH
  go_wp2_with fail
  go_ret
  have hxa : Ext w1 (w1.alloc (.cells #[.slice q1 l'.length c1, .bool true] 90)) := (Below.refl _ w1).alloc (Nat.le_refl _) _
  have hlt : ∀ j, (Value.slice q1 l'.length c1).ownBlock = some j → j < w1.heap.size := fun j hj => (HO.out.lt j hj).2
  refine ⟨_, .slice q1 l'.length c1, rfl, HX.out.size, ⟨Blk.new w1 [.slice q1 l'.length c1, .bool true] _, ⟨l', own_ext HO.out hxa, ?_⟩, HT.out.rise, HT.out.ok, HT.out.few⟩, HNW.out, Ext.trans HX.out hxa⟩
  refine (HA.out.mono (no' := fun b => (b = w1.heap.size ∨ (Value.slice q1 l'.length c1).ownBlock = some b) ∨ no1 b) (fun b hb e => ?_)).ext hxa
  rcases e with (e | e) | e
  · omega
  · exact .inl e
  · exact .inr (HN.out b e)
end Go.Proofs.YtdmejbjpbjcfbaaGreatDoor
