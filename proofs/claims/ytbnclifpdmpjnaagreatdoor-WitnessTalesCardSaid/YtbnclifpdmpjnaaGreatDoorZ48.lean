/- For every row of tales that lie as they must: WitnessFrom answers true. -/
import Derived.Test.YtbnclifpdmpjnaaGreatDoorZ40
import Derived.Test.YtbnclifpdmpjnaaGreatDoorZ41
import Derived.Test.YtbnclifpdmpjnaaGreatDoorZ44
import Derived.Test.YtbnclifpdmpjnaaGreatDoorZ46
import Derived.Test.YtbnclifpdmpjnaaGreatDoorZ47
namespace Go.Proofs.YtbnclifpdmpjnaaGreatDoor
open Go.RowKit
theorem one_slA : ∀ (x : FlatA.SlV), ∀ u ∈ FlatA.encSl x, u.oneCell' = true := by
  intro x u hu
  unfold FlatA.encSl at hu
  rw [List.mem_singleton] at hu
  subst hu; rfl
theorem infoSlA : (Tryz.prog.info? 27).map (fun i => (i.zero, i.size, i.bytes)) = some (some (.slice none 0 0), 1, 24) := by kernel_rfl
theorem slAddA {ops : Array Oper} {o : Oper} {a : Act} {K : Act → World → Prop} {Q : Exit → Act → World → Prop} {E : Prop} (hgd : o.guard = none) (s x : Operand)
    (ho : o.op = .call { callee := .builtin .append, args := #[s, x], argTypes := #[48, 48] })
    {base W : World} {acc l : List FlatA.SlV} {v : Value} {xo : Option Addr} {c : Nat} (hs : a.eval s = v) (hx : a.eval x = .slice xo l.length c)
    (hown : W.ownsRow 0 27 1 v acc.length (acc.flatMap FlatA.encSl)) (hnew : ∀ j, v.ownBlock = some j → base.heap.size ≤ j) (hext : Ext base W) (hr : Rows 1 FlatA.encSl W.heap.size W xo l) (hlen : acc.length + l.length ≤ 1000) (m : List FlatA.SlV) (hm : acc ++ l = m)
    (h : ∀ so c' w', w'.ownsRow 0 27 1 (.slice so m.length c') m.length (m.flatMap FlatA.encSl) → (∀ j, (Value.slice so m.length c').ownBlock = some j → base.heap.size ≤ j) → m.length ≤ c' → Ext base w' → But (fun k => v.ownBlock = some k) W w' → K (a.put o.dst (.slice so m.length c')) w') :
    if Region.wanted o (yielded ops a.tmps) = true then Oper.wp Tryz.prog o a W K Q else E := by
  obtain ⟨i0, hi, hz0, hz1, hz2⟩ := info_parts infoSlA
  refine step_append_rows (enc := FlatA.encSl) (size := 1) (fun _ => rfl) one_slA hgd s x 48 ho 27 i0 _ 24 Tryz.underlying48 hi hz0 hz1 hz2 rfl (by decide) v acc.length (acc.flatMap FlatA.encSl) hs hown xo l c hx hr (by unfold maxLen; omega) (by omega) ?_
  intro v' w' h1 h2 h3
  have h4 : w'.ownsRow 0 27 1 v' m.length (m.flatMap FlatA.encSl) := by
    rw [← hm, List.length_append, List.flatMap_append]; exact h1
  obtain ⟨so, c', rfl, hc, -, -⟩ := Rows.own (enc := FlatA.encSl) (sz := 1) (fun _ => rfl) h4
  refine h so c' w' h4 (fun j e => ?_) hc ?_ h2
  · rcases h3 j e with e | e
    · exact hnew j e
    · exact Nat.le_trans hext.size e
  · exact Below.trans hext (h2.below hext.size (fun i e => hnew i e))
theorem one_slR : ∀ (x : FlatR.SlV), ∀ u ∈ FlatR.encSl x, u.oneCell' = true := by
  intro x u hu
  unfold FlatR.encSl at hu
  rw [List.mem_singleton] at hu
  subst hu; rfl
theorem infoSlR : (Tryz.prog.info? 28).map (fun i => (i.zero, i.size, i.bytes)) = some (some (.slice none 0 0), 1, 24) := by kernel_rfl
theorem slAddR {ops : Array Oper} {o : Oper} {a : Act} {K : Act → World → Prop} {Q : Exit → Act → World → Prop} {E : Prop} (hgd : o.guard = none) (s x : Operand)
    (ho : o.op = .call { callee := .builtin .append, args := #[s, x], argTypes := #[49, 49] })
    {base W : World} {acc l : List FlatR.SlV} {v : Value} {xo : Option Addr} {c : Nat} (hs : a.eval s = v) (hx : a.eval x = .slice xo l.length c)
    (hown : W.ownsRow 0 28 1 v acc.length (acc.flatMap FlatR.encSl)) (hnew : ∀ j, v.ownBlock = some j → base.heap.size ≤ j) (hext : Ext base W) (hr : Rows 1 FlatR.encSl W.heap.size W xo l) (hlen : acc.length + l.length ≤ 1000) (m : List FlatR.SlV) (hm : acc ++ l = m)
    (h : ∀ so c' w', w'.ownsRow 0 28 1 (.slice so m.length c') m.length (m.flatMap FlatR.encSl) → (∀ j, (Value.slice so m.length c').ownBlock = some j → base.heap.size ≤ j) → m.length ≤ c' → Ext base w' → But (fun k => v.ownBlock = some k) W w' → K (a.put o.dst (.slice so m.length c')) w') :
    if Region.wanted o (yielded ops a.tmps) = true then Oper.wp Tryz.prog o a W K Q else E := by
  obtain ⟨i0, hi, hz0, hz1, hz2⟩ := info_parts infoSlR
  refine step_append_rows (enc := FlatR.encSl) (size := 1) (fun _ => rfl) one_slR hgd s x 49 ho 28 i0 _ 24 Tryz.underlying49 hi hz0 hz1 hz2 rfl (by decide) v acc.length (acc.flatMap FlatR.encSl) hs hown xo l c hx hr (by unfold maxLen; omega) (by omega) ?_
  intro v' w' h1 h2 h3
  have h4 : w'.ownsRow 0 28 1 v' m.length (m.flatMap FlatR.encSl) := by
    rw [← hm, List.length_append, List.flatMap_append]; exact h1
  obtain ⟨so, c', rfl, hc, -, -⟩ := Rows.own (enc := FlatR.encSl) (sz := 1) (fun _ => rfl) h4
  refine h so c' w' h4 (fun j e => ?_) hc ?_ h2
  · rcases h3 j e with e | e
    · exact hnew j e
    · exact Nat.le_trans hext.size e
  · exact Below.trans hext (h2.below hext.size (fun i e => hnew i e))
structure MidA (N : World) (q r : List StepZ) (k : Nat) (va vr : Value) (W : World) : Prop where
  a1 : W.ownsRow 0 27 1 va (pairs slA (q.take k) (r.take k)).length ((pairs slA (q.take k) (r.take k)).flatMap FlatA.encSl)
  a2 : ∀ j, va.ownBlock = some j → N.heap.size ≤ j
  r1 : W.ownsRow 0 28 1 vr (pairs slR (q.take k) (r.take k)).length ((pairs slR (q.take k) (r.take k)).flatMap FlatR.encSl)
  r2 : ∀ j, vr.ownBlock = some j → N.heap.size ≤ j
  x : Ext N W
theorem StepMine.zero {w : World} {B : Nat} {z : StepZ} (h : StepMine w B z) : StepMine w 0 z := ⟨own_base h.acts (fun _ _ => Nat.zero_le _), own_base h.reads (fun _ _ => Nat.zero_le _)⟩
structure AllA (N : World) (q r : List StepZ) (M : Nat) (so so' : Option Addr) (c c' : Nat) (W : World) : Prop where
  callA : Calls Tryz.prog 10 #[.slice so (pairs slA q r).length c] W fun e w' => e = .returned (.bool true) ∧ (∃ S, But S W w' ∧ ∀ b, S b → M ≤ b) ∧
    Calls Tryz.prog 11 #[.slice so' (pairs slR q r).length c'] w' fun e w2 => e = .returned (.bool true) ∧ ∃ S, But S w' w2 ∧ ∀ b, S b → M ≤ b
theorem allA {N W w3 w5 : World} {q r : List StepZ} {M : Nat} {so so' : Option Addr} {c c' : Nat} (hq : ∀ z ∈ q, StepMine w3 M z) (hqa : ApartS q) (h35 : Ext w3 w5) (hr : ∀ z ∈ r, StepMine N w5.heap.size z) (hra : ApartS r) (h5 : Ext w5 N) (hM : M ≤ w5.heap.size) (hl : q.length = r.length) (hq60 : q.length ≤ 60) (hok : ∀ z, z ∈ q ∨ z ∈ r → z.d.ok)
    (a1 : W.ownsRow 0 27 1 (.slice so (pairs slA q r).length c) (pairs slA q r).length ((pairs slA q r).flatMap FlatA.encSl)) (a2 : ∀ j, (Value.slice so (pairs slA q r).length c).ownBlock = some j → N.heap.size ≤ j)
    (r1 : W.ownsRow 0 28 1 (.slice so' (pairs slR q r).length c') (pairs slR q r).length ((pairs slR q r).flatMap FlatR.encSl)) (r2 : ∀ j, (Value.slice so' (pairs slR q r).length c').ownBlock = some j → N.heap.size ≤ j) (hx : Ext N W) : AllA N q r M so so' c c' W := by
  have hlA := pairs_len slA q r hl
  have hlR := pairs_len slR q r hl
  have hqN : ∀ z ∈ q, StepMine N M z := fun z hz => (hq z hz).ext (Ext.trans h35 h5)
  have hW : ∀ z, z ∈ q ∨ z ∈ r → StepMine W 0 z := fun z hz => hz.elim (fun h => ((hqN z h).ext hx).zero) (fun h => ((hr z h).ext hx).zero)
  have hapA : FlatA.Apart1 (pairs slA q r) := apartA hqa hra (N := w5.heap.size) (fun z hz b hb => Nat.lt_of_lt_of_le (ownA_lt (hq z hz) hb).2 h35.size) (fun z hz b hb => (ownA_lt (hr z hz) hb).1)
  have hapR : FlatR.Apart1 (pairs slR q r) := apartR hqa hra (N := w5.heap.size) (fun z hz b hb => Nat.lt_of_lt_of_le (ownR_lt (hq z hz) hb).2 h35.size) (fun z hz b hb => (ownR_lt (hr z hz) hb).1)
  have hoA : ∀ b, FlatA.OwnB (pairs slA q r) b → M ≤ b ∧ b < N.heap.size := fun b hb => by
    obtain ⟨z, hz | hz, ho⟩ := ownsA hb
    · exact ownA_lt (hqN z hz) ho
    · have := ownA_lt (hr z hz) ho; omega
  have hoR : ∀ b, FlatR.OwnB (pairs slR q r) b → M ≤ b ∧ b < N.heap.size := fun b hb => by
    obtain ⟨z, hz | hz, ho⟩ := ownsR hb
    · exact ownR_lt (hqN z hz) ho
    · have := ownR_lt (hr z hz) ho; omega
  have hAR : ∀ b, FlatR.OwnB (pairs slR q r) b → ¬ FlatA.OwnB (pairs slA q r) b := fun b hb ha => by
    obtain ⟨z, hz, ho⟩ := ownsR hb
    obtain ⟨y, hy, ho2⟩ := ownsA ha
    obtain ⟨cs, hbl⟩ := own_blk (hW y hy).acts ho2
    exact own_ne (hW z hz).reads hbl (by decide) ho
  refine ⟨(FlatA.apartActs_calls (pairs slA q r) so c W (cA q r) (by omega) (fun j v hv => ?_) (nrows_of_own (fun _ => rfl) a1 (fun k hk hb => by have := a2 k hk; have := hoA k hb; omega)) (listsA hW) hapA).mono ?_⟩
  · obtain ⟨i, z, rfl, h | h⟩ := pairs_at slA q r j v hv
    · exact (hok z (.inl (List.mem_of_getElem? h.2))).an
    · exact (hok z (.inr (List.mem_of_getElem? h.2))).an
  · rintro e w' ⟨rfl, hb⟩
    refine ⟨rfl, ⟨_, hb, fun b h => (hoA b h).1⟩, (FlatR.apartReads_calls (pairs slR q r) so' c' w' (cR q r) (by omega) (fun j v hv => ?_) (nrows_of_own (fun _ => rfl) (own_but r1 hb (fun k hk h => by have := r2 k hk; have := hoA k h; omega)) (fun k hk h => by have := r2 k hk; have := hoR k h; omega)) ((listsR hW).but hb hAR) hapR).mono ?_⟩
    · obtain ⟨i, z, rfl, h | h⟩ := pairs_at slR q r j v hv
      · exact (hok z (.inl (List.mem_of_getElem? h.2))).rn
      · exact (hok z (.inr (List.mem_of_getElem? h.2))).rn
    · rintro e w2 ⟨rfl, hb2⟩
      exact ⟨rfl, _, hb2, fun b h => (hoR b h).1⟩
set_option maxRecDepth 1000000 in
set_option maxHeartbeats 12800000 in
theorem fromW_calls (l : List TaleZ) (ao : Option Addr) (cap : Nat) (w : World) (hl : l.length ≤ 9223372036854775807) (hs : TalesAt w ao l) (hsm : ∀ z ∈ l, z.d.small) (hlv : LV w.heap.size w) :
    Calls Tryz.prog 3 #[.slice ao l.length cap] w fun e w' => e = .returned (.bool true) ∧ Ext w w' := by
  have HS := Lib.hid hs; have HM := Lib.hid hsm; have HLV := Lib.hid hlv
  have AW := Lib.hid (fun W (hW : Ext w W) => awake_calls W ((HLV.out.below hW).up hW.size))
  clear hs hsm hlv
  go_enter Tryz.func3, Tryz.ntmps3
  by_cases hbig : 60 < l.length
  · have g1 : decide ((60 : Int) < (l.length : Int)) = true := decide_eq_true (by omega)
    go_wp2_with fail
    refine (AW.out _ (Below.refl _ _)).mono ?_
    rintro e w1 ⟨rfl, hx1⟩
    have X1 := Lib.hid hx1
    clear hx1
    go_wp2_with fail
    go_ret
    exact ⟨rfl, X1.out⟩
  have g1 : decide ((60 : Int) < (l.length : Int)) = false := decide_eq_false (by omega)
  have hl60 : l.length ≤ 60 := by omega
  clear hbig
  go_wp2_with fail
  clear g1
  go_loopw [3] (fun i wr => ∃ k : Nat, k ≤ l.length ∧ i = .int .i64 k ∧ Hid (∀ (u : Nat) (z : TaleZ), u < k → l[u]? = some z → z.d.acts.length + z.d.reads.length ≤ 100) ∧ Hid (Ext w wr)) (fun i _ => l.length - (intOf i).toNat)
  case atStart => exact ⟨0, by omega, rfl, Lib.hid (fun u z h => by omega), Lib.hid (Below.refl _ _)⟩
  case round =>
    obtain ⟨k, hk, rfl, A1, X1⟩ := hrel
    by_cases hlt : k < l.length
    · obtain ⟨z, hz⟩ : ∃ z, l[k]? = some z := ⟨_, List.getElem?_eq_getElem hlt⟩
      have hzm := List.mem_of_getElem? hz
      have hsz := HM.out z hzm
      have HZ := Lib.hid hz
      obtain ⟨b, off, rfl, hb, hcell⟩ := HS.out.1 (by intro e; rw [e] at hlt; simp at hlt)
      have d7 := ExtBy.cell (show wr.cell? ⟨b, off + k * 18 + 7, none⟩ = some (.slice z.ao z.d.acts.length z.ac) from (X1.out.cell (p := ⟨b, _, none⟩) hb).trans (hcell k z hz 7 _ rfl))
      have d9 := ExtBy.cell (show wr.cell? ⟨b, off + k * 18 + 9, none⟩ = some (.slice z.ro z.d.reads.length z.rc) from (X1.out.cell (p := ⟨b, _, none⟩) hb).trans (hcell k z hz 9 _ rfl))
      obtain ⟨s, hs⟩ : ∃ s, z.d.acts.length + z.d.reads.length = s := ⟨_, rfl⟩
      have HSS := Lib.hid hs
      have hw : IntKind.i64.wrap ((z.d.acts.length : Int) + (z.d.reads.length : Int)) = (s : Int) := by
        have h1 := hsz.al
        have h2 := hsz.rl
        rw [IntWalk.i64_in _ (by omega)]; omega
      have i0 : (0 : Int) ≤ (k : Int) := by omega
      have i1 : (k : Int) < (l.length : Int) := by omega
      clear hz hzm hsz hb hcell hs
      by_cases hm : 100 < s
      · have g2 : decide ((100 : Int) < (s : Int)) = true := decide_eq_true (by omega)
        clear hm
        go_wp2_with fail
        refine wp_region_ext (by kernel_rfl) (by kernel_rfl) ?_
        repeat (go_big_quiet_step (fail))
        refine wpQuiet_nil ?_
        intro wc hw'
        have XC : Hid (Ext w wc) := Lib.hid (by obtain ⟨p, rfl⟩ := hw'; exact Ext.trans X1.out p.ext)
        clear hw' d7 d9 hw
        go_wp2_with fail
        refine (AW.out _ XC.out).mono ?_
        rintro e w1 ⟨rfl, hx1⟩
        have X2 := Lib.hid (Ext.trans XC.out hx1)
        clear hx1
        go_wp2_with fail
        go_ret
        exact ⟨rfl, X2.out⟩
      · have g2 : decide ((100 : Int) < (s : Int)) = false := decide_eq_false (by omega)
        have HMM : Hid (s ≤ 100) := Lib.hid (by omega)
        clear hm
        go_wp2_with fail
        refine wp_region_ext (by kernel_rfl) (by kernel_rfl) ?_
        repeat (go_big_quiet_step (fail))
        refine wpQuiet_nil ?_
        intro wc hw'
        have XC : Hid (Ext w wc) := Lib.hid (by obtain ⟨p, rfl⟩ := hw'; exact Ext.trans X1.out p.ext)
        clear hw' d7 d9 hw
        go_wp2_with fail
        go_roundw
        case rel =>
          refine ⟨k + 1, by omega, by go_num, Lib.hid (fun u y hu hy => ?_), XC⟩
          rcases Nat.lt_or_ge u k with h | h
          · exact A1.out u y h hy
          · obtain rfl : u = k := by omega
            rw [HZ.out] at hy
            rw [← Option.some.inj hy, HSS.out]; exact HMM.out
        case measure => simp [intOf]; omega
    · have FEW : Hid (∀ z ∈ l, z.d.acts.length + z.d.reads.length ≤ 100) := Lib.hid (fun z hz => by
        obtain ⟨u, hu⟩ := List.mem_iff_getElem?.1 hz
        exact A1.out u z (by have := (List.getElem?_eq_some_iff.1 hu).1; omega) hu)
      have OK : Hid (∀ z ∈ l, z.d.ok) := Lib.hid (fun z hz => (HM.out z hz).ok (by have := FEW.out z hz; omega) (by have := FEW.out z hz; omega))
      obtain ⟨w1, rfl⟩ : ∃ w1, w1 = wr := ⟨_, rfl⟩
      clear A1 FEW
      go_wp2_with fail
      refine (lentT_calls l ao cap w1 (by omega) (HS.out.ext X1.out) OK.out).mono ?_
      rintro e wL ⟨v, rfl, hlend⟩
      obtain ⟨q, hqd, hown, hnew, hlent, hx⟩ := hlend.out
      rw [List.take_of_length_le (Nat.le_refl _)] at hqd
      obtain ⟨so, sc, rfl, hsc, -, hrr⟩ := Rows.own (enc := encTale) (sz := 18) (fun _ => rfl) hown
      have hql : q.length = l.length := by have := congrArg List.length hqd; simpa using this
      have HQ := Lib.hid hql
      have KD := Lib.hid hqd
      have SQ : Hid (TalesAt wL so q) := Lib.hid ⟨hrr, fun z hz => (hlent z hz).at⟩
      have LQ : Hid (∀ z ∈ q, LentT (fun _ => False) wL z) := Lib.hid (fun z hz => (hlent z hz).step (But.refl (fun _ => False) wL) (fun _ _ e => e.elim) (fun _ _ e => e.elim))
      have OKQ : Hid (∀ z ∈ q, z.d.ok) := Lib.hid (fun z hz => by
        have h1 : z.d ∈ q.map (·.d) := List.mem_map.2 ⟨z, hz, rfl⟩
        rw [hqd] at h1
        obtain ⟨y, hy, he⟩ := List.mem_map.1 h1
        rw [← he]; exact OK.out y hy)
      have XL := Lib.hid (Ext.trans X1.out hx)
      have DF := Lib.hid (refFrom_few (D := l.map (·.d)) (fun x hx => by obtain ⟨z, hz, e⟩ := List.mem_map.1 hx; rw [← e]; exact OK.out z hz) (by rw [List.length_map]; omega))
      have F1 := Lib.hid (fun W (hW : Ext wL W) => fromP_calls q so sc W (by omega) (SQ.out.ext hW).1 (SQ.out.ext hW).2 OKQ.out)
      have F2 := Lib.hid (fun W (hW : Ext w W) => refFrom_calls l ao cap W (by omega) (HS.out.ext hW) OK.out)
      rw [KD.out] at F1
      obtain ⟨R, hR⟩ : ∃ R, refFromD (l.map (·.d)) = R := ⟨_, rfl⟩
      rw [hR] at F1 F2 DF
      clear hlend hqd hown hnew hlent hx hrr hR hsc hql X1
      go_wp2_with fail
      refine (F1.out wL (Below.refl _ _)).mono ?_
      rintro e w3 ⟨v3, q3, rfl, hd3, hown3, hm3, hap3, hx3⟩
      obtain ⟨o3, c3, rfl, -, -, -⟩ := Rows.own (enc := encStep) (sz := 6) (fun _ => rfl) hown3
      have D3 := Lib.hid hd3; have O3 := Lib.hid hown3; have M3 := Lib.hid hm3; have P3 := Lib.hid hap3; have X3 := Lib.hid (Ext.trans XL.out hx3); have Y3 := Lib.hid hx3
      clear hd3 hown3 hm3 hap3 hx3
      go_wp2_with fail
      refine (F2.out w3 X3.out).mono ?_
      rintro e w4 ⟨o4, c4, q4, rfl, hd4, hst4, hx4⟩
      have D4 := Lib.hid hd4; have S4 := Lib.hid hst4; have X4 := Lib.hid (Ext.trans X3.out hx4); have Y4 := Lib.hid (Ext.trans Y3.out hx4); have Z4 := Lib.hid hx4
      clear hd4 hst4 hx4
      go_wp2_with fail
      refine (F1.out w4 Y4.out).mono ?_
      rintro e w5 ⟨v5, q5, rfl, hd5, hown5, hm5, hap5, hx5⟩
      obtain ⟨o5, c5, rfl, -, -, -⟩ := Rows.own (enc := encStep) (sz := 6) (fun _ => rfl) hown5
      have D5 := Lib.hid hd5; have O5 := Lib.hid hown5; have M5 := Lib.hid hm5; have P5 := Lib.hid hap5; have X5 := Lib.hid (Ext.trans X4.out hx5); have Y5 := Lib.hid (Ext.trans Y4.out hx5); have Z5 := Lib.hid (Ext.trans Z4.out hx5); have U5 := Lib.hid hx5
      clear hd5 hown5 hm5 hap5 hx5 F1 F2
      have hl3 : q3.length ≤ 60 := by have h1 := DF.out.1; rw [← D3.out, List.length_map] at h1; exact h1
      have hl5 : q5.length = q3.length := by have := congrArg List.length (D5.out.trans D3.out.symm); simpa using this
      have OK3 : Hid (∀ z ∈ q3, z.d.ok) := Lib.hid (fun z hz => DF.out.2 z.d (by rw [← D3.out]; exact List.mem_map.2 ⟨z, hz, rfl⟩))
      have OK5 : Hid (∀ z ∈ q5, z.d.ok) := Lib.hid (fun z hz => DF.out.2 z.d (by rw [← D5.out]; exact List.mem_map.2 ⟨z, hz, rfl⟩))
      have ST3 := Lib.hid (fun W (hW : Ext w3 W) => (⟨rows_of_own (fun _ => rfl) (own_ext O3.out hW), fun z hz => ((M3.out z hz).ext hW).at⟩ : StepsAt W o3 q3))
      have L5 := Lib.hid hl5
      have SM := Lib.hid (same_calls q3 q4 o3 o4 c3 c4 w5 (by omega) (ST3.out _ Z5.out) (S4.out.ext U5.out) OK3.out (D3.out.trans D4.out.symm))
      have g3 : (R.isSome != R.isSome) = false := by simp
      clear hl5
      go_wp2_with fail
      refine SM.out.mono ?_
      rintro e w6 ⟨rfl, hx6⟩
      have X6 := Lib.hid (Ext.trans X5.out hx6); have Y6 := Lib.hid (Ext.trans Y5.out hx6); have Z6 := Lib.hid (Ext.trans Z5.out hx6); have U6 := Lib.hid (Ext.trans U5.out hx6); have V6 := Lib.hid hx6
      clear hx6 SM g3
      go_wp2_with fail
      go_loopw [11, 12, 13] (fun va vr i wr => ∃ k : Nat, k ≤ q3.length ∧ i = .int .i64 k ∧ MidA w6 q3 q5 k va vr wr) (fun _ _ i _ => q3.length - (intOf i).toNat)
      case atStart => exact ⟨0, by omega, rfl, ⟨World.ownsRow_nil _ _ _ _, by simp [Value.ownBlock], World.ownsRow_nil _ _ _ _, by simp [Value.ownBlock], Below.refl _ _⟩⟩
      case round =>
        obtain ⟨k, hk, rfl, hmid⟩ := hrel
        have A1 := Lib.hid hmid.a1; have A2 := Lib.hid hmid.a2; have R1 := Lib.hid hmid.r1; have R2 := Lib.hid hmid.r2; have XK := Lib.hid hmid.x
        clear hmid
        by_cases hlt : k < q3.length
        · obtain ⟨x, hx⟩ : ∃ x, q3[k]? = some x := ⟨_, List.getElem?_eq_getElem hlt⟩
          obtain ⟨y, hy⟩ : ∃ y, q5[k]? = some y := ⟨_, List.getElem?_eq_getElem (by have := L5.out; omega)⟩
          have NA := Lib.hid (pairs_next slA q3 q5 k x y hx hy); have NR := Lib.hid (pairs_next slR q3 q5 k x y hx hy)
          have LA := Lib.hid (pairs_len slA (q3.take k) (q5.take k) (by have := L5.out; simp only [List.length_take]; omega)); have LR := Lib.hid (pairs_len slR (q3.take k) (q5.take k) (by have := L5.out; simp only [List.length_take]; omega))
          have hl1 : (q3.take k).length ≤ 60 := by rw [List.length_take]; omega
          obtain ⟨va', hva⟩ : ∃ s, s = pairs slA (q3.take k) (q5.take k) := ⟨_, rfl⟩
          obtain ⟨va'2, hva2⟩ : ∃ s, s = pairs slA (q3.take (k + 1)) (q5.take (k + 1)) := ⟨_, rfl⟩
          obtain ⟨vr', hvr⟩ : ∃ s, s = pairs slR (q3.take k) (q5.take k) := ⟨_, rfl⟩
          obtain ⟨vr'2, hvr2⟩ : ∃ s, s = pairs slR (q3.take (k + 1)) (q5.take (k + 1)) := ⟨_, rfl⟩
          rw [← hva] at A1 NA LA
          rw [← hvr] at R1 NR LR
          rw [← hva2] at NA
          rw [← hvr2] at NR
          have Vva' : Hid (va' ++ [slA x, slA y] = va'2) := Lib.hid NA.out.symm; have Vvr' : Hid (vr' ++ [slR x, slR y] = vr'2) := Lib.hid NR.out.symm
          have Lva' : Hid (va'.length ≤ 120) := Lib.hid (by have := LA.out; omega); have Lvr' : Hid (vr'.length ≤ 120) := Lib.hid (by have := LR.out; omega)
          have HVA2 := Lib.hid hva2; have HVR2 := Lib.hid hvr2
          obtain ⟨b3, f3, rfl, hb3, hc3⟩ := (ST3.out _ (Ext.trans Z6.out XK.out)).1 (by intro e; rw [e] at hlt; simp at hlt)
          obtain ⟨b5, f5, rfl, hb5, hc5⟩ := rows_of_own (enc := encStep) (fun _ => rfl) (own_ext O5.out (Ext.trans V6.out XK.out)) (by intro e; rw [e] at hy; simp at hy)
          have hb3' : ¬ w6.heap.size ≤ b3 := by have := (O3.out.lt b3 rfl).2; have := Z6.out.size; omega
          have hb5' : ¬ w6.heap.size ≤ b5 := by have := (O5.out.lt b5 rfl).2; have := V6.out.size; omega
          have CX := Lib.hid (fun (u : Value) (t : Nat) (hu : (encStep x)[t]? = some u) => hc3 k x hx t u hu); have CY := Lib.hid (fun (u : Value) (t : Nat) (hu : (encStep y)[t]? = some u) => hc5 k y hy t u hu)
          have d2 := ButBy.cell (S := (fun j => w6.heap.size ≤ j)) (show wr.cell? ⟨b3, f3 + k * 6 + 2, none⟩ = some (.slice x.ao x.d.acts.length x.ac) from CX.out _ 2 rfl) hb3'
          have e2 := ButBy.cell (S := (fun j => w6.heap.size ≤ j)) (show wr.cell? ⟨b5, f5 + k * 6 + 2, none⟩ = some (.slice y.ao y.d.acts.length y.ac) from CY.out _ 2 rfl) hb5'
          have j0 : (0 : Int) ≤ (k : Int) := by omega
          have j1 : (k : Int) < (q3.length : Int) := by omega
          have j2 : (k : Int) < (q5.length : Int) := by have := L5.out; omega
          have hb3'' := hb3; have hb5'' := hb5
          clear hva hva2 hvr hvr2 hx hy hc3 hc5 hb3 hb5
          go_wp2_with fail
          refine wp_region_firstC (fun W => ∃ p : ButBy (fun j => w6.heap.size ≤ j) wr, W = p.W) [0, 1, 2, 3, 4, 5, 6, 7, 8, 9, 10] 3 (by kernel_rfl) (by kernel_rfl) (fun _ _ _ _ h => h) ⟨⟨wr.drew, Ext.but (Below.refl _ wr).drew _⟩, rfl⟩ ?_
          simp only [opsAt, List.getElem?_toArray, List.getElem?_cons_succ, List.getElem?_cons_zero]
          repeat (go_big_quiet_step (fail))
          refine wpQuiet_nil ?_
          obtain ⟨wqa, hwq⟩ : ∃ wq, wq = wr.drew := ⟨_, rfl⟩
          have XQa : Hid (Ext wr wqa) := Lib.hid (by rw [hwq]; exact (Below.refl _ wr).drew)
          rw [← hwq]
          clear hwq
          refine wpAnyH_ready (rs := [11]) (by kernel_rfl) (by simp) ?_
          refine AllReadyH.cons rfl (fun K hK => ?_) AllReadyH.nil
          go_simp
          obtain ⟨waa, hN⟩ : ∃ wa, wa = wqa.alloc (.cells #[.slice x.ao x.d.acts.length x.ac, .slice y.ao y.d.acts.length y.ac] 27) := ⟨_, rfl⟩
          have YAa : Hid (Ext wqa waa) := Lib.hid (by rw [hN]; exact (Below.refl _ wqa).alloc (Nat.le_refl _) _)
          have RBa : Hid (Rows 1 FlatA.encSl waa.heap.size waa (some ⟨wqa.heap.size, 0, none⟩) [slA x, slA y]) := Lib.hid (by rw [hN]; exact rows_blk (enc := FlatA.encSl) (sz := 1) (fun _ => rfl) (l := [slA x, slA y]) (Blk.new wqa [.slice x.ao x.d.acts.length x.ac, .slice y.ao y.d.acts.length y.ac] 27) (by simp))
          have XAa := Lib.hid (Ext.trans XQa.out YAa.out)
          rw [← hN]
          refine hK.out _ _ ⟨⟨_, Ext.but XAa.out _⟩, rfl⟩ (fun _ => ?_)
          clear hK K hN
          refine wpAnyH_ready (rs := [12]) (by kernel_rfl) (by simp) ?_
          refine AllReadyH.cons rfl (fun K hK => ?_) AllReadyH.nil
          refine slAddA rfl (.tmp 72) (.tmp 83) rfl (base := w6) (acc := va') (l := [slA x, slA y]) (v := u11) rfl rfl (own_ext A1.out XAa.out) (A2.out) (Ext.trans XK.out XAa.out) RBa.out (by have := Lva'.out; show va'.length + 2 ≤ 1000; omega) va'2 Vva'.out ?_
          intro soa ca w1a h1 h2 h3 h4 h5
          have Oa := Lib.hid h1; have Na := Lib.hid h2; have Za := Lib.hid h4
          have BBa := Lib.hid h5
          have BWa := Lib.hid ((Ext.but XAa.out (fun _ => False)).trans h5 (U := fun j => w6.heap.size ≤ j) (fun _ _ e => e.elim) (fun i _ e => (A2.out) i e))
          have RR : Hid (w1a.ownsRow 0 28 1 u12 vr'.length (vr'.flatMap FlatR.encSl)) := Lib.hid (own_but (own_ext R1.out XAa.out) h5 (fun j hj e => by
            obtain ⟨cs, hb⟩ := own_blk (own_ext A1.out XAa.out) e
            exact own_ne (own_ext R1.out XAa.out) hb (by decide) hj))
          go_simp
          refine hK.out _ _ ⟨⟨_, BWa.out⟩, rfl⟩ (fun _ => ?_)
          clear hK K h1 h2 h3 h4 h5
          refine wp_takesC (f := 0) [13] (by kernel_rfl) (fun _ _ _ _ h => h) ⟨⟨_, BWa.out⟩, rfl⟩ ?_
          simp only [opsAt, List.getElem?_toArray, List.getElem?_cons_succ, List.getElem?_cons_zero]
          repeat (go_big_quiet_step (fail))
          refine wpQuiet_nil ?_
          refine wpAnyH_done (by kernel_rfl) ?_ _
          clear d2 e2
          have CX1 : Hid (w1a.cell? ⟨b3, f3 + k * 6 + 3, none⟩ = some (.slice x.ro x.d.reads.length x.rc)) := Lib.hid ((BWa.out.cell (p := ⟨b3, _, none⟩) hb3'' hb3').trans (CX.out _ 3 rfl))
          have CY1 : Hid (w1a.cell? ⟨b5, f5 + k * 6 + 3, none⟩ = some (.slice y.ro y.d.reads.length y.rc)) := Lib.hid ((BWa.out.cell (p := ⟨b5, _, none⟩) hb5'' hb5').trans (CY.out _ 3 rfl))
          have d3 := ButBy.cell (S := (fun j => w6.heap.size ≤ j)) CX1.out hb3'
          have e3 := ButBy.cell (S := (fun j => w6.heap.size ≤ j)) CY1.out hb5'
          go_wp2_with fail
          refine wp_region_firstC (fun W => ∃ p : ButBy (fun j => w6.heap.size ≤ j) w1a, W = p.W) [0, 1, 2, 3, 4, 5, 6, 7, 8, 9, 10] 3 (by kernel_rfl) (by kernel_rfl) (fun _ _ _ _ h => h) ⟨⟨w1a.drew, Ext.but (Below.refl _ w1a).drew _⟩, rfl⟩ ?_
          simp only [opsAt, List.getElem?_toArray, List.getElem?_cons_succ, List.getElem?_cons_zero]
          repeat (go_big_quiet_step (fail))
          refine wpQuiet_nil ?_
          obtain ⟨wqb, hwq⟩ : ∃ wq, wq = w1a.drew := ⟨_, rfl⟩
          have XQb : Hid (Ext w1a wqb) := Lib.hid (by rw [hwq]; exact (Below.refl _ w1a).drew)
          rw [← hwq]
          clear hwq
          refine wpAnyH_ready (rs := [11]) (by kernel_rfl) (by simp) ?_
          refine AllReadyH.cons rfl (fun K hK => ?_) AllReadyH.nil
          go_simp
          obtain ⟨wab, hN⟩ : ∃ wa, wa = wqb.alloc (.cells #[.slice x.ro x.d.reads.length x.rc, .slice y.ro y.d.reads.length y.rc] 28) := ⟨_, rfl⟩
          have YAb : Hid (Ext wqb wab) := Lib.hid (by rw [hN]; exact (Below.refl _ wqb).alloc (Nat.le_refl _) _)
          have RBb : Hid (Rows 1 FlatR.encSl wab.heap.size wab (some ⟨wqb.heap.size, 0, none⟩) [slR x, slR y]) := Lib.hid (by rw [hN]; exact rows_blk (enc := FlatR.encSl) (sz := 1) (fun _ => rfl) (l := [slR x, slR y]) (Blk.new wqb [.slice x.ro x.d.reads.length x.rc, .slice y.ro y.d.reads.length y.rc] 28) (by simp))
          have XAb := Lib.hid (Ext.trans XQb.out YAb.out)
          rw [← hN]
          refine hK.out _ _ ⟨⟨_, Ext.but XAb.out _⟩, rfl⟩ (fun _ => ?_)
          clear hK K hN
          refine wpAnyH_ready (rs := [12]) (by kernel_rfl) (by simp) ?_
          refine AllReadyH.cons rfl (fun K hK => ?_) AllReadyH.nil
          refine slAddR rfl (.tmp 85) (.tmp 96) rfl (base := w6) (acc := vr') (l := [slR x, slR y]) (v := u12) rfl rfl (own_ext RR.out XAb.out) (R2.out) (Ext.trans Za.out XAb.out) RBb.out (by have := Lvr'.out; show vr'.length + 2 ≤ 1000; omega) vr'2 Vvr'.out ?_
          intro sob cb w1b h1 h2 h3 h4 h5
          have Ob := Lib.hid h1; have Nb := Lib.hid h2; have Zb := Lib.hid h4
          have BBb := Lib.hid h5
          have BWb := Lib.hid ((Ext.but XAb.out (fun _ => False)).trans h5 (U := fun j => w6.heap.size ≤ j) (fun _ _ e => e.elim) (fun i _ e => (R2.out) i e))
          have OAb : Hid (w1b.ownsRow 0 27 1 (.slice soa va'2.length ca) va'2.length (va'2.flatMap FlatA.encSl)) := Lib.hid (own_but (own_ext Oa.out XAb.out) h5 (fun j hj e => by
            obtain ⟨cs, hb⟩ := own_blk (own_ext RR.out XAb.out) e
            exact own_ne (own_ext Oa.out XAb.out) hb (by decide) hj))
          go_simp
          refine hK.out _ _ ⟨⟨_, BWb.out⟩, rfl⟩ (fun _ => ?_)
          clear hK K h1 h2 h3 h4 h5
          refine wp_takesC (f := 0) [13] (by kernel_rfl) (fun _ _ _ _ h => h) ⟨⟨_, BWb.out⟩, rfl⟩ ?_
          simp only [opsAt, List.getElem?_toArray, List.getElem?_cons_succ, List.getElem?_cons_zero]
          repeat (go_big_quiet_step (fail))
          refine wpQuiet_nil ?_
          refine wpAnyH_done (by kernel_rfl) ?_ _
          clear d3 e3
          go_wp2_with fail
          go_roundw
          case rel =>
            refine ⟨k + 1, by omega, by go_num, ⟨?_, ?_, ?_, ?_, Zb.out⟩⟩
            · rw [← HVA2.out]; exact OAb.out
            · exact Na.out
            · rw [← HVR2.out]; exact Ob.out
            · exact Nb.out
          case measure => simp [intOf]; omega
        · have hkq : k = q3.length := by omega
          have e3 : q3.take k = q3 := List.take_of_length_le (by omega)
          have e5 : q5.take k = q5 := List.take_of_length_le (by have := L5.out; omega)
          rw [e3, e5] at A1 R1
          obtain ⟨oa, ca, rfl, -, -, -⟩ := Rows.own (enc := FlatA.encSl) (sz := 1) (fun _ => rfl) A1.out
          obtain ⟨or', cr, rfl, -, -, -⟩ := Rows.own (enc := FlatR.encSl) (sz := 1) (fun _ => rfl) R1.out
          have AL := Lib.hid (allA (M := wL.heap.size) (w3 := w3) (w5 := w4) M3.out P3.out Z4.out (fun z hz => (M5.out z hz).ext V6.out) P5.out U6.out Y4.out.size L5.out.symm hl3 (fun z hz => hz.elim (OK3.out z) (OK5.out z)) A1.out A2.out R1.out R2.out XK.out).callA
          have YK := Lib.hid (Ext.trans Y6.out XK.out)
          obtain ⟨na, hna⟩ : ∃ n, n = (pairs slA q3 q5).length := ⟨_, rfl⟩
          obtain ⟨nr, hnr⟩ : ∃ n, n = (pairs slR q3 q5).length := ⟨_, rfl⟩
          rw [← hna] at AL ⊢
          rw [← hnr] at AL ⊢
          clear hkq e3 e5 A1 A2 R1 R2 hna hnr
          go_wp2_with fail
          refine AL.out.mono ?_
          rintro e w7 ⟨rfl, ⟨S7, hb7, hs7⟩, hcr⟩
          have X7 : Hid (Ext wL w7) := Lib.hid (Below.trans YK.out (hb7.below YK.out.size hs7))
          have CR := Lib.hid hcr
          clear hb7 hs7 hcr AL
          go_wp2_with fail
          refine CR.out.mono ?_
          rintro e w8 ⟨rfl, S8, hb8, hs8⟩
          have X8 : Hid (Ext wL w8) := Lib.hid (Below.trans X7.out (hb8.below X7.out.size hs8))
          clear hb8 hs8 CR
          go_wp2_with fail
          go_loopw [14] (fun i wr => ∃ k : Nat, k ≤ l.length ∧ i = .int .i64 k ∧ Ext wL wr) (fun i _ => l.length - (intOf i).toNat)
          case atStart => exact ⟨0, by omega, rfl, X8.out⟩
          case round =>
            obtain ⟨k, hk, rfl, hx⟩ := hrel
            have K3 := Lib.hid hx
            clear hx
            by_cases hlt : k < l.length
            · obtain ⟨z, hz⟩ : ∃ z, l[k]? = some z := ⟨_, List.getElem?_eq_getElem hlt⟩
              obtain ⟨y, hy⟩ : ∃ y, q[k]? = some y := ⟨_, List.getElem?_eq_getElem (by have := HQ.out; omega)⟩
              have hzy : y.d = z.d := by
                have h1 : (q.map (·.d))[k]? = some y.d := by rw [List.getElem?_map, hy]; rfl
                rw [KD.out, List.getElem?_map, hz] at h1
                exact (Option.some.inj h1).symm
              have hzm := List.mem_of_getElem? hz; have hym := List.mem_of_getElem? hy
              have hzok := OK.out z hzm
              have hzat := ((HS.out.2 z hzm).ext (Ext.trans XL.out K3.out)).mono (Ext.trans XL.out K3.out).size
              obtain ⟨g, g', h1, h2, h3, h4, h5, h6, h7, h8⟩ := ((LQ.out y hym).step (Ext.but K3.out (fun _ => False)) (no' := fun _ => False) (fun _ _ e => e.elim) (fun _ _ e => e.elim)).out
              obtain ⟨b, off, rfl, hb, hcell⟩ := (HS.out.ext (Ext.trans XL.out K3.out)).1 (by intro e; rw [e] at hlt; simp at hlt)
              obtain ⟨b', off', rfl, hb', hcell'⟩ := (SQ.out.ext K3.out).1 (by intro e; rw [e] at hy; simp at hy)
              have KA := Lib.hid (fun (p : ExtBy wr) => keptActs_calls y.d.acts g y.ac z.ao z.ac p.W (by have := hzok.an; rw [hzy]; omega) h3 h4 (by have := (h7.rows.ext p.ext).mono p.ext.size; rwa [h1] at this) (by rw [hzy]; exact (hzat.1.ext p.ext).mono p.ext.size))
              have KR := Lib.hid (fun (p : ExtBy wr) => keptReads_calls y.d.reads g' y.rc z.ro z.rc p.W (by have := hzok.rn; rw [hzy]; omega) h5 h6 (by have := (h8.rows.ext p.ext).mono p.ext.size; rwa [h2] at this) (by rw [hzy]; exact (hzat.2.ext p.ext).mono p.ext.size))
              have d7 := ExtBy.cell (show wr.cell? ⟨b, off + k * 18 + 7, none⟩ = some (.slice z.ao z.d.acts.length z.ac) from hcell k z hz 7 _ rfl)
              have d9 := ExtBy.cell (show wr.cell? ⟨b, off + k * 18 + 9, none⟩ = some (.slice z.ro z.d.reads.length z.rc) from hcell k z hz 9 _ rfl)
              have e7 := ExtBy.cell (show wr.cell? ⟨b', off' + k * 18 + 7, none⟩ = some (.slice (some ⟨g, 0, none⟩) y.d.acts.length y.ac) from by rw [← h1]; exact hcell' k y hy 7 _ rfl)
              have e9 := ExtBy.cell (show wr.cell? ⟨b', off' + k * 18 + 9, none⟩ = some (.slice (some ⟨g', 0, none⟩) y.d.reads.length y.rc) from by rw [← h2]; exact hcell' k y hy 9 _ rfl)
              rw [hzy] at KA KR e7 e9
              have i0 : (0 : Int) ≤ (k : Int) := by omega
              have i1 : (k : Int) < (l.length : Int) := by omega
              have i2 : (k : Int) < (q.length : Int) := by have := HQ.out; omega
              clear hz hy hzm hym hzok hzat hcell hcell' h1 h2 h3 h4 h5 h6 h7 h8 hb hb' hzy
              go_wp2_with fail
              refine wp_region_ext (by kernel_rfl) (by kernel_rfl) ?_
              repeat (go_big_quiet_step (first | (with_reducible exact Calls.ext_of _ (KA.out _)) | (with_reducible exact Calls.ext_of _ (KR.out _))))
              refine wpQuiet_nil ?_
              intro wc hw'
              have XC : Hid (Ext wL wc) := Lib.hid (by obtain ⟨p, rfl⟩ := hw'; exact Ext.trans K3.out p.ext)
              clear hw' d7 d9 e7 e9
              go_wp2_with fail
              go_roundw
              case rel => exact ⟨k + 1, by omega, by go_num, XC.out⟩
              case measure => simp [intOf]; omega
            · go_wp2_with fail
              refine (AW.out _ (Ext.trans XL.out K3.out)).mono ?_
              rintro e w12 ⟨rfl, hx12⟩
              have X12 := Lib.hid (Ext.trans (Ext.trans XL.out K3.out) hx12)
              clear hx12
              go_wp2_with fail
              go_ret
              exact ⟨rfl, X12.out⟩
end Go.Proofs.YtbnclifpdmpjnaaGreatDoor
