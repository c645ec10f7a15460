/- What Put answers, and what it makes of a table: the plain part. -/
import Derived.Test.YtdmejbjpbjcfbaaGreatDoorLayH
import Derived.Maps.OwnSet
import Derived.Test.YtdmejbjpbjcfbaaGreatDoorNilH
import Derived.Test.YtdmejbjpbjcfbaaGreatDoorExtRegion
import Derived.Deep.RegionWith
namespace Go.Proofs.YtdmejbjpbjcfbaaGreatDoor
open Go.RowKit

/-- Which keys some holds have, as a map's keys. -/
def keyLits (dl : List HoldD) : List Lit := dl.map fun d => Lit.string (dkey d)
/-- Has a key two of some holds? -/
def dupD (dl : List HoldD) : Bool := decide (((keyLits dl).foldl Maps.addKey []).length < dl.length)
theorem sameKey_str (a b : List UInt8) : (Lit.string a).sameKey (.string b) = decide (a = b) := by
  rw [Bool.eq_iff_iff]; simp [Lit.sameKey]
theorem addKeys_len : ∀ (xs : List (List UInt8)) (L : List (List UInt8)), ((xs.map Lit.string).foldl Maps.addKey (L.map Lit.string)).length ≤ L.length + xs.length ∧ (((xs.map Lit.string).foldl Maps.addKey (L.map Lit.string)).length = L.length + xs.length ↔ (xs.Nodup ∧ ∀ x ∈ xs, x ∉ L))
  | [], L => by simp
  | x :: xs, L => by
    rw [List.map_cons, List.foldl_cons]
    have hany : ((L.map Lit.string).any fun y => y.sameKey (.string x)) = decide (x ∈ L) := by
      rw [Bool.eq_iff_iff, List.any_eq_true, decide_eq_true_eq]
      constructor
      · rintro ⟨y, hy, h⟩
        obtain ⟨z, hz, rfl⟩ := List.mem_map.1 hy
        rw [sameKey_str, decide_eq_true_eq] at h
        rw [← h]; exact hz
      · intro h
        exact ⟨.string x, List.mem_map.2 ⟨x, h, rfl⟩, by rw [sameKey_str]; simp⟩
    by_cases hx : x ∈ L
    · have e : Maps.addKey (L.map Lit.string) (.string x) = L.map Lit.string := by unfold Maps.addKey; rw [hany, if_pos (by simpa using hx)]
      rw [e]
      obtain ⟨h1, h2⟩ := addKeys_len xs L
      refine ⟨by rw [List.length_cons]; omega, ⟨fun h => by rw [List.length_cons] at h; omega, fun h => absurd hx (h.2 x (by simp))⟩⟩
    · have e : Maps.addKey (L.map Lit.string) (.string x) = (L ++ [x]).map Lit.string := by unfold Maps.addKey; rw [hany, if_neg (by simpa using hx)]; simp
      rw [e]
      obtain ⟨h1, h2⟩ := addKeys_len xs (L ++ [x])
      rw [List.length_append, List.length_singleton] at h1 h2
      refine ⟨by rw [List.length_cons]; omega, ?_⟩
      rw [List.length_cons, show L.length + (xs.length + 1) = L.length + 1 + xs.length from by omega, h2, List.nodup_cons]
      constructor
      · rintro ⟨h3, h4⟩
        refine ⟨⟨fun h => h4 x h (by simp), h3⟩, fun y hy => ?_⟩
        rcases List.mem_cons.1 hy with rfl | hy
        · exact hx
        · exact fun h => h4 y hy (by simp [h])
      · rintro ⟨⟨h3, h4⟩, h5⟩
        refine ⟨h4, fun y hy h => ?_⟩
        rcases List.mem_append.1 h with h | h
        · exact h5 y (by simp [hy]) h
        · rw [List.mem_singleton.1 h] at hy; exact h3 hy
theorem keyLits_eq (dl : List HoldD) : keyLits dl = (dl.map dkey).map Lit.string := by unfold keyLits; rw [List.map_map]; rfl
theorem dupD_iff (dl : List HoldD) : dupD dl = false ↔ (dl.map dkey).Nodup := by
  unfold dupD
  rw [keyLits_eq, decide_eq_false_iff_not]
  obtain ⟨h1, h2⟩ := addKeys_len (dl.map dkey) []
  simp only [List.map_nil, List.length_nil, Nat.zero_add, List.length_map, List.not_mem_nil, not_false_eq_true, implies_true, and_true] at h1 h2
  rw [← h2]; omega
theorem isKey_str (s : List UInt8) : WideAt.IsKeyLit (.string s) := by trivial
theorem size_keys {H : Type} (u : DataW H) (dl : List HoldD) : Maps.size (Maps.setOf u (keyLits dl)) = ((keyLits dl).foldl Maps.addKey []).length :=
  Maps.size_setOf u _ (fun x hx => by unfold keyLits at hx; obtain ⟨d, _, rfl⟩ := List.mem_map.1 hx; exact isKey_str _)

/-- Is one of some holds there? -/
def thereD (dl ds : List HoldD) : Bool := dl.any fun d => hasD (dkey d) ds
/-- What Put answers. -/
def putE (dl ds : List HoldD) : Int := if dupD dl = true ∨ holdsB dl = false then 2 else if thereD dl ds = true then 7 else if 60 < ds.length + dl.length then 8 else 0
/-- What Put makes of a table. -/
def insAll (dl ds : List HoldD) : List HoldD := dl.foldl (fun a d => insD d a) ds
def putT (dl ds : List HoldD) : List HoldD := if putE dl ds = 0 then insAll dl ds else ds
theorem insAll_succ (dl ds : List HoldD) (k : Nat) (d : HoldD) (h : dl[k]? = some d) : insAll (dl.take (k + 1)) ds = insD d (insAll (dl.take k) ds) := by
  unfold insAll; rw [List.take_add_one, h, List.foldl_append]; rfl
theorem insAll_len : ∀ (dl ds : List HoldD), (insAll dl ds).length = ds.length + dl.length
  | [], _ => rfl
  | d :: dl, ds => by
    have := insAll_len dl (insD d ds)
    rw [insD_len] at this
    show (insAll dl (insD d ds)).length = _
    rw [this, List.length_cons]; omega
theorem hasD_ins (k : List UInt8) (d : HoldD) (ds : List HoldD) : hasD k (insD d ds) = (decide (dkey d = k) || hasD k ds) := by
  rw [Bool.eq_iff_iff]
  unfold hasD
  simp only [List.any_eq_true, decide_eq_true_eq, Bool.or_eq_true, insD_mem]
  constructor
  · rintro ⟨x, rfl | hx, h⟩
    · exact .inl h
    · exact .inr ⟨x, hx, h⟩
  · rintro (h | ⟨x, hx, h⟩)
    · exact ⟨d, .inl rfl, h⟩
    · exact ⟨x, .inr hx, h⟩
theorem hasD_all (k : List UInt8) : ∀ (dl ds : List HoldD), hasD k (insAll dl ds) = (hasD k dl || hasD k ds)
  | [], _ => rfl
  | d :: dl, ds => by
    show hasD k (insAll dl (insD d ds)) = _
    rw [hasD_all k dl, hasD_ins]
    show _ = (decide (dkey d = k) || hasD k dl || hasD k ds)
    cases hasD k dl <;> cases decide (dkey d = k) <;> cases hasD k ds <;> rfl
/-- In the round of the k-th hold there is none of its key. -/
theorem fresh_at {dl ds : List HoldD} (hd : dupD dl = false) (ht : thereD dl ds = false) {k : Nat} {d : HoldD} (h : dl[k]? = some d) : hasD (dkey d) (insAll (dl.take k) ds) = false := by
  rw [hasD_all]
  have h1 : hasD (dkey d) ds = false := by
    unfold thereD at ht
    have := List.any_eq_false.1 ht d (List.mem_of_getElem? h)
    simpa using this
  have h2 : hasD (dkey d) (dl.take k) = false := by
    unfold hasD
    rw [List.any_eq_false]
    intro x hx hxe
    rw [decide_eq_true_eq] at hxe
    obtain ⟨i, hi⟩ := List.mem_iff_getElem?.1 hx
    rw [List.getElem?_take] at hi
    split at hi
    · rename_i hik
      have hn := (dupD_iff dl).1 hd
      obtain ⟨a1, e1⟩ := List.getElem?_eq_some_iff.1 hi
      obtain ⟨a2, e2⟩ := List.getElem?_eq_some_iff.1 h
      have := List.pairwise_iff_getElem.1 hn i k (by simpa using a1) (by simpa using a2) hik
      simp only [List.getElem_map, e1, e2] at this
      exact this hxe
    · cases hi
  rw [h1, h2]; rfl
theorem tw_lt {α : Type} (p : α → Bool) : ∀ (l : List α) (i : Nat) (y : α), i < (l.takeWhile p).length → l[i]? = some y → p y = true
  | [], i, y, h, _ => by simp at h
  | a :: l, i, y, h, hy => by
    rw [List.takeWhile_cons] at h
    split at h
    · rename_i ha
      match i, h, hy with
      | 0, _, hy => simp at hy; rw [← hy]; exact ha
      | i + 1, h, hy => exact tw_lt p l i y (by simpa using h) (by simpa using hy)
    · simp at h
theorem tw_stop {α : Type} (p : α → Bool) : ∀ (l : List α) (z : α), l[(l.takeWhile p).length]? = some z → p z = false
  | [], z, h => by simp at h
  | a :: l, z, h => by
    rw [List.takeWhile_cons] at h
    split at h
    · rw [List.length_cons, List.getElem?_cons_succ] at h; exact tw_stop p l z h
    · rename_i ha
      simp at h; rw [← h]; simpa using ha
/-- The place's second answer. -/
theorem there_eq {w : World} {no : Nat → Prop} {l : List HoldV} {ds : List HoldD} (ha : HoldsAre w no l ds) (hr : RiseV l) (k : List UInt8) : thereH k l = hasD k ds := by
  have hk : hasD k ds = l.any fun v => decide (vkey v = k) := by
    unfold hasD
    have e1 : (ds.any fun d => decide (dkey d = k)) = (ds.map (·.key)).any fun s => decide (s.data.toList = k) := by rw [List.any_map]; rfl
    have e2 : (l.any fun v => decide (vkey v = k)) = (l.map (·.key)).any fun s => decide (s.data.toList = k) := by rw [List.any_map]; rfl
    rw [e1, e2, ha.keys]
  rw [hk]
  unfold thereH
  cases hz : l[placeH k l]? with
  | none =>
    symm
    rw [List.any_eq_false]
    intro y hy
    obtain ⟨i, hi⟩ := List.mem_iff_getElem?.1 hy
    have hil := (List.getElem?_eq_some_iff.1 hi).1
    rw [List.getElem?_eq_none_iff] at hz
    have := tw_lt (fun v => decide (vkey v < k)) l i y (by show i < placeH k l; omega) hi
    simp only [decide_eq_true_eq] at this ⊢
    intro e; rw [e] at this; exact List.lt_irrefl _ this
  | some z =>
    have hzn := tw_stop (fun v => decide (vkey v < k)) l z hz
    rw [decide_eq_false_iff_not] at hzn
    show decide (vkey z = k) = _
    rw [Bool.eq_iff_iff, decide_eq_true_eq, List.any_eq_true]
    constructor
    · intro h; exact ⟨z, List.mem_of_getElem? hz, by simpa using h⟩
    · rintro ⟨y, hy, h⟩
      rw [decide_eq_true_eq] at h
      obtain ⟨i, hi⟩ := List.mem_iff_getElem?.1 hy
      rcases Nat.lt_trichotomy i (placeH k l) with h1 | h1 | h1
      · have := tw_lt (fun v => decide (vkey v < k)) l i y h1 hi
        rw [decide_eq_true_eq, h] at this
        exact absurd this (List.lt_irrefl _)
      · rw [h1, hz] at hi; rw [Option.some.inj hi]; exact h
      · have := rise_lt hr h1 hz hi
        rw [h] at this
        exact absurd this hzn
end Go.Proofs.YtdmejbjpbjcfbaaGreatDoor
/- Put at a table of holds. -/
namespace Go.Proofs.YtdmejbjpbjcfbaaGreatDoor
open Go.RowKit

theorem Ext.grown {w w' : World} (h : Ext w w') : w.grownBy w' none := ⟨h.os, h.tape, h.output, h.size, fun k hk _ => h.block k hk⟩
theorem box_read {w : World} {l : List Value} {t : TypeId} {W : World} (hx : Ext (w.alloc (.cells l.toArray t)) W) : Blk W w.heap.size l t := (Blk.new w l t).ext' hx
/-- What Put leaves. -/
def PutPost (hb : Nat) (v : Value) (ds dl : List HoldD) (w : World) (e : Ending) (w' : World) : Prop :=
  e = .returned (.int .i64 (putE dl ds)) ∧ (∃ v', Tab w' hb v' (putT dl ds) ∧ (∀ j, v'.ownBlock = some j → v.ownBlock = some j ∨ w.heap.size ≤ j)) ∧ But (fun j => j = hb ∨ v.ownBlock = some j) w w' ∧ (putE dl ds ≠ 0 → Ext w w')
theorem PutPost.same {hb : Nat} {v : Value} {ds dl : List HoldD} {w w' : World} {n : Int} (T : Tab w hb v ds) (hn : putE dl ds = n) (h0 : n ≠ 0) (hx : Ext w w') : PutPost hb v ds dl w (.returned (.int .i64 n)) w' := by
  refine ⟨by rw [hn], ⟨v, ?_, fun j hj => .inl hj⟩, hx.but _, fun _ => hx⟩
  unfold putT
  rw [if_neg (by rw [hn]; exact h0)]
  exact T.ext hx
theorem thereD_succ (dl ds : List HoldD) (k : Nat) (d : HoldD) (h : dl[k]? = some d) : thereD (dl.take (k + 1)) ds = (thereD (dl.take k) ds || hasD (dkey d) ds) := by
  unfold thereD; rw [List.take_add_one, h, List.any_append]; simp
theorem keyLits_succ (dl : List HoldD) (k : Nat) (d : HoldD) (h : dl[k]? = some d) : keyLits (dl.take (k + 1)) = keyLits (dl.take k) ++ [Lit.string (dkey d)] := by
  unfold keyLits; rw [List.take_add_one, h, List.map_append]; rfl
def seenD (dl : List HoldD) : DataW Unit := Maps.setOf (.lit (.bool true)) (keyLits dl)
theorem seenD_succ (dl : List HoldD) (k : Nat) (d : HoldD) (h : dl[k]? = some d) : seenD (dl.take (k + 1)) = (seenD (dl.take k)).put (Lit.string (dkey d)) (.lit (.bool true)) := by
  unfold seenD; rw [keyLits_succ dl k d h, Maps.setOf_snoc]
theorem strKeyed : Maps.Keyed Tryz.prog 9 := Maps.string_keyed Tryz.underlying9

set_option maxRecDepth 100000 in
set_option maxHeartbeats 3200000 in
theorem put_calls (hb : Nat) (v : Value) (ds : List HoldD) (ls : List HoldV) (dl : List HoldD) (ao : Option Addr) (cap : Nat) (w : World) (T : Tab w hb v ds) (hl : ls.length ≤ 1000000)
    (hr : NRows 7 encHV (fun b => b = hb ∨ v.ownBlock = some b) w ao ls) (hd : HoldsAre w (fun b => b = hb ∨ v.ownBlock = some b) ls dl) (hok : ∀ d ∈ dl, d.ok) :
    Calls Tryz.prog 13 #[.pointer (some ⟨hb, 0, none⟩), .slice ao ls.length cap] w (PutPost hb v ds dl w) := by
  have hmm := @run_makeMap Tryz.prog
  have hc1 := T.blk.cell 1
  simp only [List.getElem?_cons_zero, List.getElem?_cons_succ] at hc1
  have HT := Lib.hid T; have HR := Lib.hid hr; have HD := Lib.hid hd; have HOK := Lib.hid hok
  have HTH := Lib.hid (fun W (hW : Ext w W) => there_calls (some ⟨hb, 0, none⟩) true W ((show ThereIs w (some ⟨hb, 0, none⟩) true from .inr ⟨hb, rfl, hc1⟩).ext hW))
  have HDL := Lib.hid hd.len
  clear T hr hd hok hc1
  go_enter Tryz.func13, Tryz.ntmps13
  go_wp2_with fail
  refine (HTH.out _ (Below.refl _ _)).mono ?_
  rintro e w' ⟨rfl, rfl⟩
  go_wp2_with fail
  have hmown := World.ownsMap_made (H := Unit) w Tryz.prog 9 (plainElem Tryz.prog 4)
  have hmx : Ext w (w.alloc (.map #[] 0)) := (Below.refl _ w).alloc (Nat.le_refl _) _
  have hge : w.heap.size ≤ w.heap.size := Nat.le_refl _
  generalize hMB : w.heap.size = mb at hmown ⊢
  have hmb : w.heap.size ≤ mb := by omega
  generalize w.alloc (.map #[] 0) = w1 at hmown hmx ⊢
  have MO := Lib.hid hmown; have MX := Lib.hid hmx
  clear hmown hmx hge hMB hmm
  go_loopw [6, 19] (fun vt vi wr => ∃ k : Nat, k ≤ ls.length ∧ vi = .int .i64 k ∧ vt = .bool (thereD (dl.take k) ds) ∧ wr.ownsMap Tryz.prog 9 (plainElem Tryz.prog 4) mb k (seenD (dl.take k)) ∧ Ext w wr) (fun _ vi _ => ls.length - (intOf vi).toNat)
  case atStart => exact ⟨0, by omega, rfl, rfl, MO.out, MX.out⟩
  case round =>
    obtain ⟨k, hk, rfl, rfl, hown, hx⟩ := hrel
    have K1 := Lib.hid hown; have K2 := Lib.hid hx
    clear hown hx
    by_cases hlt : k < ls.length
    · obtain ⟨x, hx⟩ : ∃ x, ls[k]? = some x := ⟨_, List.getElem?_eq_getElem hlt⟩
      obtain ⟨d, hdk, hxd⟩ := HD.out.at k x hx
      have hdok := HOK.out d (List.mem_of_getElem? hdk)
      obtain ⟨b, off, rfl, hb', _, hcell⟩ := HR.out (by intro e; rw [e] at hlt; simp at hlt)
      have hcx := hcell k x hx
      have hmove : ∀ j, wr.cell? ⟨b, j, none⟩ = w.cell? ⟨b, j, none⟩ := fun j => K2.out.cell (p := ⟨b, j, none⟩) hb'
      have hts := thereD_succ dl ds k d hdk
      have hss := seenD_succ dl k d hdk
      have hkx : x.key = d.key := hxd.key
      obtain ⟨l, tao, tcap, hv, hlc, hll, hrows, hown, hare, hrise⟩ := HT.out.rows
      have hfew := HT.out.few
      have hbl := HT.out.blk.lt
      have hc0 := HT.out.blk.cell 0
      simp only [List.getElem?_cons_zero] at hc0
      rw [hv] at hc0
      have hat : ∀ W, Ext w W → Calls Tryz.prog 51 #[.pointer (some ⟨hb, 0, none⟩), .string x.key] W fun e w' => e = .returned (.tuple #[.int .i64 (placeD (dkey d) ds), .bool (hasD (dkey d) ds)]) ∧ Ext W w' := fun W hW => by
        have h := at_calls l tao tcap hb x.key W (by omega) ((hrows.ext hW).mono hW.size) hrise ((hW.cell (p := ⟨hb, 0, none⟩) hbl).trans hc0)
        rw [hkx] at h ⊢
        rw [show placeH d.key.data.toList l = placeD (dkey d) ds from hare.place _, show thereH d.key.data.toList l = hasD (dkey d) ds from there_eq hare hrise _] at h
        exact h
      have hkey : keyOf Tryz.prog 9 (.string x.key) = some (.string (dkey d)) := by
        rw [hkx]; exact WideMaps.keyOf_string_mk Tryz.underlying9 (by have := hdok.ks; unfold maxLen; omega)
      obtain ⟨key, cl, nm, xo, xn, xc, yo, yn, yc, put, value⟩ := x
      have d0 := (hmove _).trans (hcx 0 _ rfl); have d1 := (hmove _).trans (hcx 1 _ rfl); have d2 := (hmove _).trans (hcx 2 _ rfl); have d3 := (hmove _).trans (hcx 3 _ rfl); have d4 := (hmove _).trans (hcx 4 _ rfl); have d5 := (hmove _).trans (hcx 5 _ rfl); have d6 := (hmove _).trans (hcx 6 _ rfl)
      simp only [Nat.add_zero] at d0
      have TS := Lib.hid hts; have SS := Lib.hid hss; have HAT := Lib.hid hat; have HKEY := Lib.hid hkey
      have i0 : (0 : Int) ≤ (k : Int) := by omega
      have i1 : (k : Int) < (ls.length : Int) := by omega
      clear hx hdk hxd hdok hcell hcx hmove hts hss hkx hv hlc hll hrows hown hare hrise hfew hc0 hat hkey
      have hbk : Blk (wr.alloc (.cells #[.string key, .int .i64 cl, .int .i64 nm, .slice xo xn xc, .slice yo yn yc, .bool put, .string value] 35)) wr.heap.size [.string key, .int .i64 cl, .int .i64 nm, .slice xo xn xc, .slice yo yn yc, .bool put, .string value] 35 := Blk.new wr _ _
      have hxb : Ext wr (wr.alloc (.cells #[.string key, .int .i64 cl, .int .i64 nm, .slice xo xn xc, .slice yo yn yc, .bool put, .string value] 35)) := (Below.refl _ wr).alloc (Nat.le_refl _) _
      have HB := Lib.hid hbk; have XB := Lib.hid hxb
      clear hbk hxb
      go_wp2_with fail
      have hbk := HB.out; have hxb := XB.out
      generalize wr.alloc _ = w0 at hbk hxb ⊢
      generalize wr.heap.size = N at hbk ⊢
      have hk0 := hbk.cell 0
      simp only [List.getElem?_cons_zero] at hk0
      have B0 := Lib.hid hbk; have X0 := Lib.hid hxb
      have hcp : ∀ p : ExtBy w0, p.W.cell? ⟨N, 0, none⟩ = some (.string key) := ExtBy.cell hk0
      have HC := Lib.hid (fun p : ExtBy w0 => HAT.out p.W (Ext.trans K2.out (Ext.trans X0.out p.ext)))
      clear HB XB hbk hxb d0 d1 d2 d3 d4 d5 d6
      refine wp_region_ext (by kernel_rfl) (by kernel_rfl) ?_
      repeat (go_big_quiet_step ((first | (with_reducible exact Calls.ext_of _ (HC.out _)))))
      refine wpQuiet_nil ?_
      intro wc hw'
      have hxc : Ext w0 wc := by obtain ⟨p, rfl⟩ := hw'; exact p.ext
      have XC := Lib.hid (Ext.trans X0.out hxc)
      have hkc := (hxc.cell (p := ⟨N, 0, none⟩) B0.out.lt).trans hk0
      clear hxc hw' hcp hk0
      have hmo := K1.out.kept XC.out.grown (by simp)
      have hmk := hmo.lt
      have MO2 := Lib.hid hmo
      clear hmo
      cases hth : thereD (dl.take k) ds
      all_goals
        have HTH2 := Lib.hid hth; clear hth
        go_wp2_with (at_mapUpdate; refine wpList_mapUpdate_own _ rfl _ _ _ 105 rfl 9 4 strKeyed Tryz.underlying105 _ mb k (seenD (dl.take k)) rfl MO2.out (by unfold maxLen; omega) _ _ _ rfl rfl HKEY.out (.lit (.bool true)) [] (plainElem_bool Tryz.underlying4 true) ?_; intro w4 hown4 hgr4; have O4 := Lib.hid hown4; have G4 := Lib.hid hgr4; clear hown4 hgr4)
        go_roundw
        case rel =>
          refine ⟨k + 1, by omega, by go_num, by rw [TS.out, HTH2.out]; rfl, by rw [SS.out]; exact O4.out, ?_⟩
          exact Below.grown (Ext.trans K2.out XC.out) G4.out (Ext.trans K2.out XC.out).size (fun j hj => by cases hj; exact hmb)
        case measure => simp [intOf]; omega
    · obtain rfl : k = ls.length := by omega
      have hall : dl.take ls.length = dl := List.take_of_length_le (by have := HDL.out; omega)
      have hsz : Maps.size (seenD dl) = ((keyLits dl).foldl Maps.addKey []).length := size_keys _ dl
      obtain ⟨sz, hsz'⟩ : ∃ sz, ((keyLits dl).foldl Maps.addKey []).length = sz := ⟨_, rfl⟩
      have hlen : (Builtin.len_ #[105] 3 #[.map (some mb)]).run Tryz.prog wr = .ok (.int .i64 sz) wr := by
        have h := K1.out.len (t := 105) (e := 4) Tryz.underlying105 3
        rw [hall, hsz, hsz'] at h; exact h
      have hdup : dupD dl = decide (sz < ls.length) := by unfold dupD; rw [hsz', HDL.out]
      have HDUP := Lib.hid hdup
      have hth : thereD (dl.take ls.length) ds = thereD dl ds := by rw [hall]
      have hrr : Rows 7 encHV wr.heap.size wr ao ls := ((HR.out.rows.ext K2.out).mono K2.out.size)
      have HRG := Lib.hid (fun W (hW : Ext wr W) => holdsRight_calls ls dl (fun b => b = hb ∨ v.ownBlock = some b) ao cap W hl ((hrr.ext hW).mono hW.size) (HD.out.ext (Ext.trans K2.out hW)) HOK.out)
      clear hsz hsz' hall hrr K1
      obtain ⟨l, tao, tcap, hv, hlc, hll, -, -, -, -⟩ := HT.out.rows
      have hfew := HT.out.few
      have hc0 := HT.out.blk.cell 0
      simp only [List.getElem?_cons_zero] at hc0
      rw [hv] at hc0
      have hbl := HT.out.blk.lt
      have hl60 : l.length ≤ 60 := by omega
      have HC0 := Lib.hid hc0; have HV := Lib.hid hv; have HLL := Lib.hid hll
      clear hc0 hv hll
      rw [hth]
      clear hth
      cases hd : dupD dl
      · have hdc : decide (sz < ls.length) = false := by rw [← hdup]; exact hd
        have HDD := Lib.hid hd
        clear hdup hd
        go_wp2_with fail
        refine (HRG.out _ (Below.refl _ _)).mono ?_
        rintro e w5 ⟨rfl, hx5⟩
        have X5 := Lib.hid (Ext.trans K2.out hx5)
        have hc0 := (hx5.cell (p := ⟨hb, 0, none⟩) (Nat.lt_of_lt_of_le hbl K2.out.size)).trans ((K2.out.cell (p := ⟨hb, 0, none⟩) hbl).trans HC0.out)
        clear hx5
        cases hrg : holdsB dl
        · have hz : putE dl ds = 2 := by unfold putE; rw [if_pos (.inr hrg)]
          have HZ := Lib.hid hz; have HRG2 := Lib.hid hrg; clear hz hrg
          go_wp2_with fail
          go_ret
          exact PutPost.same HT.out HZ.out (by decide) X5.out
        · have hnot : ¬ (dupD dl = true ∨ holdsB dl = false) := by rw [HDD.out, hrg]; decide
          have HRG2 := Lib.hid hrg; clear hrg
          cases hte : thereD dl ds
          · have hte' : ¬ (thereD dl ds = true) := by rw [hte]; decide
            have HTE := Lib.hid hte; clear hte
            by_cases hfull : 60 < ds.length + dl.length
            · have hz : putE dl ds = 8 := by unfold putE; rw [if_neg hnot, if_neg hte', if_pos hfull]
              have HZ := Lib.hid hz
              have hq : decide ((60 : Int) < (l.length : Int) + (ls.length : Int)) = true := by have := HLL.out; have := HDL.out; simp; omega
              clear hz hnot hte' hfull
              go_wp2_with fail
              go_ret
              exact PutPost.same HT.out HZ.out (by decide) X5.out
            · have hz : putE dl ds = 0 := by unfold putE; rw [if_neg hnot, if_neg hte', if_neg hfull]
              have HZ := Lib.hid hz
              have hq : decide ((60 : Int) < (l.length : Int) + (ls.length : Int)) = false := by have := HLL.out; have := HDL.out; simp; omega
              have HFU := Lib.hid (show ds.length + dl.length ≤ 60 by omega)
              clear hz hnot hte' hfull
              go_wp2_with fail
              go_loopw [64] (fun vi wr => ∃ (k : Nat) (v1 : Value), k ≤ ls.length ∧ vi = .int .i64 k ∧ Tab wr hb v1 (insAll (dl.take k) ds) ∧ (∀ j, v1.ownBlock = some j → v.ownBlock = some j ∨ w.heap.size ≤ j) ∧ But (fun j => j = hb ∨ v.ownBlock = some j) w wr) (fun vi _ => ls.length - (intOf vi).toNat)
              case atStart => exact ⟨0, v, by omega, rfl, HT.out.ext X5.out, fun j h => .inl h, X5.out.but _⟩
              case round =>
                obtain ⟨k, v1, hk, rfl, htab, hv1, hbut⟩ := hrel
                have J1 := Lib.hid htab; have J2 := Lib.hid hv1; have J3 := Lib.hid hbut
                clear htab hv1 hbut
                by_cases hlt : k < ls.length
                · obtain ⟨x, hx⟩ : ∃ x, ls[k]? = some x := ⟨_, List.getElem?_eq_getElem hlt⟩
                  obtain ⟨d, hdk, hxd⟩ := HD.out.at k x hx
                  have hdok := HOK.out d (List.mem_of_getElem? hdk)
                  have hrt : holdB d = true := List.all_eq_true.1 HRG2.out d (List.mem_of_getElem? hdk)
                  have hfr := fresh_at HDD.out HTE.out hdk
                  have hin := insAll_succ dl ds k d hdk
                  have hlen := insAll_len (dl.take k) ds
                  have hkd : k < dl.length := by have := HDL.out; omega
                  rw [List.length_take, Nat.min_eq_left (by omega)] at hlen
                  obtain ⟨b, off, hao, hb', hno, hcell⟩ := HR.out (by intro e; rw [e] at hlt; simp at hlt)
                  have hcx := hcell k x hx
                  have hmove : ∀ j, wr.cell? ⟨b, j, none⟩ = w.cell? ⟨b, j, none⟩ := fun j => J3.out.cell (p := ⟨b, j, none⟩) hb' hno
                  have hxw : x.is wr (fun _ => False) d := (hxd.but J3.out (fun _ _ e => e)).mono (fun _ _ e => e.elim)
                  have hcl : ∀ W, Ext wr W → Calls Tryz.prog 52 #[.pointer (some ⟨hb, 0, none⟩), .agg (encHV x).toArray] W fun e w' => e = .returned (.tuple #[]) ∧ (∃ v', Tab w' hb v' (insD d (insAll (dl.take k) ds)) ∧ (∀ j, v'.ownBlock = some j → v1.ownBlock = some j ∨ W.heap.size ≤ j)) ∧ But (fun j => j = hb ∨ v1.ownBlock = some j) W w' := fun W hW =>
                    lay_calls x d hb v1 (insAll (dl.take k) ds) W (J1.out.ext hW) (hxw.ext hW) ⟨hdok, hrt⟩ hfr (by have := HFU.out; omega)
                  subst hao
                  obtain ⟨key, cl, nm, xo, xn, xc, yo, yn, yc, put, value⟩ := x
                  have d0 := (hmove _).trans (hcx 0 _ rfl); have d1 := (hmove _).trans (hcx 1 _ rfl); have d2 := (hmove _).trans (hcx 2 _ rfl); have d3 := (hmove _).trans (hcx 3 _ rfl); have d4 := (hmove _).trans (hcx 4 _ rfl); have d5 := (hmove _).trans (hcx 5 _ rfl); have d6 := (hmove _).trans (hcx 6 _ rfl)
                  simp only [Nat.add_zero] at d0
                  have HCL := Lib.hid hcl; have HIN := Lib.hid hin
                  have i0 : (0 : Int) ≤ (k : Int) := by omega
                  have i1 : (k : Int) < (ls.length : Int) := by omega
                  have hxb : Ext wr (wr.alloc (.cells #[.string key, .int .i64 cl, .int .i64 nm, .slice xo xn xc, .slice yo yn yc, .bool put, .string value] 35)) := (Below.refl _ wr).alloc (Nat.le_refl _) _
                  have XB := Lib.hid hxb
                  clear hx hdk hxd hdok hrt hfr hin hlen hkd hcell hcx hmove hxw hcl hxb
                  go_wp2_with fail
                  go_region_with (go_at_call 52; refine (HCL.out _ (by exact XB.out.drew)).mono ?_; rintro e w6 ⟨rfl, ht6, hb6⟩; have T6 := Lib.hid ht6; have B6 := Lib.hid hb6; clear ht6 hb6)
                  go_wp2_with fail
                  go_roundw
                  case rel =>
                    obtain ⟨v2, ht2, hv2⟩ := T6.out
                    refine ⟨k + 1, v2, by omega, by go_num, by rw [HIN.out]; exact ht2, fun j hj => ?_, ?_⟩
                    · rcases hv2 j hj with e | e
                      · exact J2.out j e
                      · have h1 := XB.out.size; have h2 := J3.out.size
                        exact .inr (Nat.le_trans h2 (Nat.le_trans h1 e))
                    · refine (J3.out.trans (Ext.but XB.out.drew (fun _ => False)) (fun _ _ e => e) (fun _ _ e => e.elim)).trans B6.out (fun _ _ e => e) (fun i hi e => ?_)
                      rcases e with e | e
                      · exact .inl e
                      · rcases J2.out i e with e | e
                        · exact .inr e
                        · omega
                  case measure => simp [intOf]; omega
                · obtain rfl : k = ls.length := by omega
                  have hall : dl.take ls.length = dl := List.take_of_length_le (by have := HDL.out; omega)
                  rw [hall] at J1
                  clear hall
                  go_wp2_with fail
                  go_ret
                  exact ⟨by rw [HZ.out]; rfl, ⟨v1, by unfold putT; rw [if_pos HZ.out]; exact J1.out, J2.out⟩, J3.out, fun h => absurd HZ.out h⟩
          · have hz : putE dl ds = 7 := by unfold putE; rw [if_neg hnot, if_pos hte]
            have HZ := Lib.hid hz; have HTE := Lib.hid hte; clear hz hte hnot
            go_wp2_with fail
            go_ret
            exact PutPost.same HT.out HZ.out (by decide) X5.out
      · have hdc : decide (sz < ls.length) = true := by rw [← hdup]; exact hd
        have hz : putE dl ds = 2 := by unfold putE; rw [if_pos (.inl hd)]
        have HZ := Lib.hid hz
        clear hdup hd hz
        go_wp2_with fail
        go_ret
        exact PutPost.same HT.out HZ.out (by decide) K2.out
end Go.Proofs.YtdmejbjpbjcfbaaGreatDoor
