/- A history's next step; a history begun, and copied. -/
import Derived.Test.YtngahblgicjoiaaGreatDoorDoH
import Derived.Test.YtngahblgicjoiaaGreatDoorWitR
import Derived.Test.YtngahblgicjoiaaGreatDoorWitPlain
namespace Go.Proofs.YtngahblgicjoiaaGreatDoor
open Go.RowKit
open Go.Maps (Keyed)

/-- What the next step leaves. -/
structure NextAt (B hb mb n : Nat) (h : Hist) (x : StepD) (w : World) (e : Ending) (w' : World) : Prop where
  ret : e = .returned (.int .i64 (nextE h x))
  kept : Below B w w'
  more : nextE h x = 0 → ∃ v', HistAt B w' hb (stepH h x) v' mb (n + 1)
variable {B : Nat} {w w' : World} {hb mb n : Nat} {h : Hist} {v : Value}
theorem HistAt.tab (H : HistAt B w hb h v mb n) : TabAt B w hb v (.map (some mb)) h.1 := ⟨H.blk, H.row, H.rise, H.ok⟩
theorem LV.up {B B' : Nat} {w : World} (hl : LV B w) (hB : B ≤ B') : LV B' w := ⟨hl.pow10, hl.errSyntax, hl.errRange, by have := hl.bd; omega⟩
theorem own2_ge (H : HistAt B w hb h v mb n) {j : Nat} (e : Own2 hb v j) : B ≤ j := by
  rcases e with e | e
  · rw [e]; exact H.ge
  · exact (H.row.lt j e).1
theorem HistAt.but {S : Nat → Prop} (H : HistAt B w hb h v mb n) (hx : But S w w') (h1 : ¬ S hb) (h2 : ∀ k, v.ownBlock = some k → ¬ S k) (h3 : ¬ S mb) : HistAt B w' hb h v mb n :=
  ⟨H.blk.but hx h1, H.ge, own_but H.row hx h2, H.map.same (hx.block _ H.map.lt h3), H.mge, H.rise, H.ok, H.few, H.names⟩
theorem own_noCells {w : World} {B : Nat} {e : TypeId} {size n b : Nat} {v : Value} {xs : List Value} (h : w.ownsRow B e size v n xs) (hn : NoCells w b) : v.ownBlock ≠ some b := by
  intro hv
  rcases h.2 with ⟨rfl, _⟩ | ⟨g, cap, cur, rfl, _, hg, _⟩
  · cases hv
  · simp only [Value.ownBlock, Option.some.injEq] at hv
    subst hv; exact hn _ _ _ hg
theorem Blk.noCells {w : World} {b g : Nat} {cs : List Value} {t : TypeId} (h : Blk w g cs t) (hn : NoCells w b) : g ≠ b := fun e => by subst e; exact hn _ _ _ h
theorem inNames_snoc (ns : List (Int × Int)) (p : Int × Int) (x : Lit) : inNames (ns ++ [p]) x = (decide (x = nameLit p) || inNames ns x) := by
  unfold inNames
  rw [Bool.eq_iff_iff]
  simp only [List.map_append, List.map_cons, List.map_nil, List.mem_append, List.mem_singleton, decide_eq_true_eq, Bool.or_eq_true]
  exact Or.comm

set_option maxRecDepth 100000 in
set_option maxHeartbeats 3200000 in
theorem next_calls (z : StepZ) (H : HistAt B w hb h v mb n) (hlv : LV B w) (hB : B ≤ w.heap.size) (hz : z.at B w) (hd : z.d.ok) (hn : n < 1000) (hrl : h.1.length ≤ 100000) :
    Calls Tryz.prog 67 #[.pointer (some ⟨hb, 0, none⟩), .agg (encStep z).toArray] w (NextAt B hb mb n h z.d w) := by
  obtain ⟨d, ao, ac, ro, rc⟩ := z
  obtain ⟨cl, nm, acts, reads, ca, an⟩ := d
  have HR := Lib.hid (fun W (hW : Ext w W) => stepRight_calls ⟨⟨cl, nm, acts, reads, ca, an⟩, ao, ac, ro, rc⟩ W ((hz.mono hB).ext hW |>.mono hW.size) hd)
  have HH := Lib.hid H; have HLV := Lib.hid hlv; have HB := Lib.hid hB; have HZ := Lib.hid hz; have HD := Lib.hid hd
  have hrk := fun hr => rightS_kinds (x := ⟨cl, nm, acts, reads, ca, an⟩) hr
  have HRK := Lib.hid hrk
  have hdef : nextE h ⟨cl, nm, acts, reads, ca, an⟩ = if rightS ⟨cl, nm, acts, reads, ca, an⟩ = false then 2 else if (cl, nm) ∈ h.2 then 7 else if (doneD h.1 acts).2 ≠ reads then 4 else 0 := rfl
  have ND := Lib.hid hdef
  clear H hlv hB hz hd hrk hdef
  unfold encStep at HR ⊢
  simp only at HR ⊢
  obtain ⟨w1, hw1⟩ : ∃ w1, w1 = w.alloc (.cells #[.int .i64 cl, .int .i64 nm, .slice ao acts.length ac, .slice ro reads.length rc, .int .i64 ca, .int .i64 an] 38) := ⟨_, rfl⟩
  have X1 : Hid (Ext w w1) := Lib.hid (by rw [hw1]; exact (Below.refl _ w).alloc (Nat.le_refl _) _)
  have B1 : Hid (Blk w1 w.heap.size [.int .i64 cl, .int .i64 nm, .slice ao acts.length ac, .slice ro reads.length rc, .int .i64 ca, .int .i64 an] 38) := Lib.hid (by rw [hw1]; exact Blk.new w _ _)
  have HW := Lib.hid hw1
  clear hw1
  have hb1 := B1.out.cell 0; have hb2 := B1.out.cell 1; have hb3 := B1.out.cell 2; have hb4 := B1.out.cell 3; have hb5 := B1.out.cell 4; have hb6 := B1.out.cell 5
  simp only [List.getElem?_cons_zero, List.getElem?_cons_succ] at hb1 hb2 hb3 hb4 hb5 hb6
  go_enter Tryz.func67, Tryz.ntmps67
  go_wp2_with fail
  rw [← HW.out]
  refine (HR.out _ X1.out).mono ?_
  rintro e w2 ⟨rfl, hx2⟩
  have X2 := Lib.hid hx2
  have Y2 := Lib.hid (Ext.trans X1.out hx2)
  have B2 := Lib.hid (B1.out.ext' hx2)
  clear hx2 hb1 hb2 hb3 hb4 hb5 hb6
  cases hr : rightS ⟨cl, nm, acts, reads, ca, an⟩
  · have R := Lib.hid hr; clear hr
    go_wp2_with fail
    go_ret
    have e2 : nextE h ⟨cl, nm, acts, reads, ca, an⟩ = 2 := by rw [ND.out, if_pos R.out]
    exact ⟨by rw [e2]; rfl, Y2.out.mono HB.out, fun e => by rw [e2] at e; cases e⟩
  · have R := Lib.hid hr; clear hr
    have H2 := HH.out.ext Y2.out
    have hkey : keyOf Tryz.prog 34 (.agg #[.int .i64 cl, .int .i64 nm]) = some (nameLit (cl, nm)) := nameLit_key HD.out.cl HD.out.nm
    have hhas := H2.has HD.out.cl HD.out.nm
    have hlk : ∀ p : ExtBy w2, (Instr.lookup 109 (.map (some mb)) (.agg #[.int .i64 cl, .int .i64 nm]) false).run Tryz.prog p.W = .ok (.bool (inNames h.2 (nameLit (cl, nm)))) p.W := fun p =>
      (H2.map.ext p.ext).lookup nameKeyed Tryz.underlying109 (by kernel_rfl) hkey
    rw [hhas] at hlk
    have c1 := ExtBy.cell (show w2.cell? ⟨hb, 1, none⟩ = some (.map (some mb)) from H2.blk.cell 1)
    have d0 := ExtBy.cell (show w2.cell? ⟨w.heap.size, 0, none⟩ = some (.int .i64 cl) from B2.out.cell 0); have d1 := ExtBy.cell (show w2.cell? ⟨w.heap.size, 1, none⟩ = some (.int .i64 nm) from B2.out.cell 1)
    have HH2 := Lib.hid H2; have KEY := Lib.hid hkey
    clear H2 hkey hhas
    cases hin : decide ((cl, nm) ∈ h.2)
    all_goals
      rw [hin] at hlk
      have IN := Lib.hid hin; clear hin
      go_wp2_with fail
      refine wp_region_ext (by kernel_rfl) (by kernel_rfl) ?_
      repeat (go_big_quiet_step (fail))
      refine wpQuiet_nil ?_
      intro wc hw'
      have hxc : Ext w2 wc := by obtain ⟨p, rfl⟩ := hw'; exact p.ext
      have XC := Lib.hid hxc
      clear hw' hlk c1 d0 d1 hxc
    · go_wp2_with fail
      have H3 := HH2.out.ext XC.out
      have hnc := H3.map.noCells
      have hnb : hb ≠ mb := H3.blk.noCells hnc
      have hno : v.ownBlock ≠ some mb := own_noCells H3.row hnc
      have B3 := B2.out.ext' XC.out
      have c1 := H3.blk.cell 1; have d0 := B3.cell 0; have d1 := B3.cell 1
      simp only [List.getElem?_cons_zero, List.getElem?_cons_succ] at c1 d0 d1
      have hxd : Ext wc wc.drew := (Below.refl _ wc).drew
      obtain ⟨w4, hrun, hmap, hg⟩ := (H3.map.ext hxd).update (e := 4) nameKeyed Tryz.underlying109 (by unfold maxLen; omega) (v := .bool true) KEY.out
      have hb4 : But (fun j => j = mb) wc w4 := ((But.refl (fun j => j = mb) wc).drew).trans ((But.of_grown hg).mono fun i _ e => (Option.some.inj e).symm) (fun _ _ e => e) (fun _ _ e => e)
      have M4 := Lib.hid hmap; have BB4 := Lib.hid hb4
      have Y3 := Lib.hid (Ext.trans Y2.out XC.out)
      have T4 := Lib.hid (H3.tab.but hb4 hnb (fun k e e2 => hno (by rw [e, show k = mb from e2])))
      have K4 : Hid (Blk w4 w.heap.size [.int .i64 cl, .int .i64 nm, .slice ao acts.length ac, .slice ro reads.length rc, .int .i64 ca, .int .i64 an] 38) := Lib.hid (B3.but hb4 (B3.noCells hnc))
      have NB := Lib.hid hnb; have NO := Lib.hid hno
      have hms := H3.mge
      have L4 : Hid (Below B w w4) := Lib.hid ((Y3.out.mono HB.out).trans (hb4.below (by have := HB.out; have := Y3.out.size; omega) (fun i e => by rw [show i = mb from e]; exact hms)))
      clear hmap hg hb4 hxd B3 hnc H3 hnb hno
      go_still_tail 6, (by kernel_rfl)
      change wpList _ _ _ _ _ wc.drew
      go_wp2_with fail
      clear c1 d0 d1 hrun
      obtain ⟨hk3, hal, hkz⟩ := HRK.out R.out
      have hs4 : B ≤ w4.heap.size := Nat.le_trans HB.out L4.out.size
      have hge : ∀ j, Own2 hb v j → B ≤ j := fun j e => own2_ge HH.out e
      have na : NRows 4 encAct (Own2 hb v) w4 ao acts := ((HZ.out.1).ext L4.out).nrows hs4 (fun b hb3 e => by have := hge b e; omega)
      have nr : NRows 3 encRd (Own2 hb v) w4 ro reads := ((HZ.out.2).ext L4.out).nrows hs4 (fun b hb3 e => by have := hge b e; omega)
      have hDO := histDo_calls ⟨⟨cl, nm, acts, reads, ca, an⟩, ao, ac, ro, rc⟩ (T4.out.ext (Below.refl _ w4).drew) hs4 ((HLV.out.below L4.out).below (Below.refl _ w4).drew) HH.out.ge (na.ext (Below.refl _ w4).drew) HD.out.acts hk3 (by show acts.length ≤ 1000; omega) hrl
      unfold encStep at hDO
      simp only at hDO
      have DOC := Lib.hid hDO
      have NA := Lib.hid na; have NR := Lib.hid nr; have GE := Lib.hid hge
      have hnS : ¬ Own2 hb v w.heap.size := fun e => by
        rcases e with e | e
        · have := HH.out.blk.lt; omega
        · have := (HH.out.row.lt _ e).2; omega
      have a0 := ButBy.cell (S := Own2 hb v) (show w4.cell? ⟨w.heap.size, 0, none⟩ = some (.int .i64 cl) from K4.out.cell 0) hnS
      have a1 := ButBy.cell (S := Own2 hb v) (show w4.cell? ⟨w.heap.size, 1, none⟩ = some (.int .i64 nm) from K4.out.cell 1) hnS
      have a2 := ButBy.cell (S := Own2 hb v) (show w4.cell? ⟨w.heap.size, 2, none⟩ = some (.slice ao acts.length ac) from K4.out.cell 2) hnS
      have a3 := ButBy.cell (S := Own2 hb v) (show w4.cell? ⟨w.heap.size, 3, none⟩ = some (.slice ro reads.length rc) from K4.out.cell 3) hnS
      have a4 := ButBy.cell (S := Own2 hb v) (show w4.cell? ⟨w.heap.size, 4, none⟩ = some (.int .i64 ca) from K4.out.cell 4) hnS
      have a5 := ButBy.cell (S := Own2 hb v) (show w4.cell? ⟨w.heap.size, 5, none⟩ = some (.int .i64 an) from K4.out.cell 5) hnS
      have BD : Hid (But (Own2 hb v) w4 w4.drew) := Lib.hid (But.refl _ w4).drew
      clear hDO na nr hge hnS hms hk3 hal hkz hs4
      refine wp_region_firstC (fun W => ∃ p : ButBy (Own2 hb v) w4, W = p.W) [0, 1, 3, 4] 3 (by kernel_rfl) (by kernel_rfl) (fun _ _ _ _ h => h) ⟨⟨w4.drew, BD.out⟩, rfl⟩ ?_
      simp only [opsAt, List.getElem?_toArray, List.getElem?_cons_succ, List.getElem?_cons_zero]
      repeat (go_big_quiet_step (fail))
      refine wpQuiet_nil ?_
      clear a0 a1 a2 a3 a4 a5
      refine wpAnyH_ready (rs := [2]) (by kernel_rfl) (by simp) ?_
      refine AllReadyH.cons rfl (fun K hK => ?_) AllReadyH.nil
      go_simp
      refine DOC.out.mono ?_
      rintro e w6 hdone
      obtain ⟨rv, v6, rfl, hrv, -, hT6, -, hb6⟩ := hdone.out
      obtain ⟨ra, rcap, rfl, -, -, hrr⟩ := Rows.own (enc := encRd) (sz := 3) (fun _ => rfl) hrv
      have BB6 := Lib.hid (BD.out.trans hb6 (fun _ _ e => e) (fun _ _ e => e))
      have T6 := Lib.hid hT6
      have EQ := Lib.hid (equalReads_calls (doneD h.1 acts).2 reads ra ro rcap rc w6 (Nat.le_trans (tell_len _ _) HD.out.an) hrr ((NR.out.but BB6.out (fun _ _ e => e)).rows))
      clear hdone hrv hT6 hb6 hrr
      refine hK.out _ _ ⟨⟨_, BB6.out⟩, rfl⟩ (fun _ => ?_)
      clear hK K
      refine wpAnyH_ready (rs := [5]) (by kernel_rfl) (by simp) ?_
      refine AllReadyH.cons rfl (fun K hK => ?_) AllReadyH.nil
      go_simp
      refine EQ.out.mono ?_
      rintro e w7 ⟨rfl, hx7⟩
      have BB7 := Lib.hid (BB6.out.trans (Ext.but hx7 (fun _ => False)) (fun _ _ e => e) (fun _ _ e => e.elim))
      have X7 := Lib.hid hx7
      clear hx7
      refine hK.out _ _ ⟨⟨_, BB7.out⟩, rfl⟩ (fun _ => ?_)
      clear hK K
      refine wp_takesC (f := 0) [6] (by kernel_rfl) (fun _ _ _ _ h => h) ⟨⟨_, BB7.out⟩, rfl⟩ ?_
      simp only [opsAt, List.getElem?_toArray, List.getElem?_cons_succ, List.getElem?_cons_zero]
      repeat (go_big_quiet_step (fail))
      refine wpQuiet_nil ?_
      refine wpAnyH_done (by kernel_rfl) ?_ _
      have L7 : Hid (Below B w w7) := Lib.hid (L4.out.trans (BB7.out.below (Nat.le_trans HB.out L4.out.size) (fun i e => GE.out i e)))
      cases hq : decide ((doneD h.1 acts).2 = reads)
      · have Q := Lib.hid hq; clear hq
        go_wp2_with fail
        go_ret
        have e2 : nextE h ⟨cl, nm, acts, reads, ca, an⟩ = 4 := by rw [ND.out, if_neg (by rw [R.out]; simp), if_neg (of_decide_eq_false IN.out), if_pos (of_decide_eq_false Q.out)]
        exact ⟨by rw [e2]; rfl, L7.out, fun e => by rw [e2] at e; cases e⟩
      · have Q := Lib.hid hq; clear hq
        go_wp2_with fail
        go_ret
        have e2 : nextE h ⟨cl, nm, acts, reads, ca, an⟩ = 0 := by rw [ND.out, if_neg (by rw [R.out]; simp), if_neg (of_decide_eq_false IN.out), if_neg (fun e => e (of_decide_eq_true Q.out))]
        refine ⟨by rw [e2]; rfl, L7.out, fun _ => ⟨v6, ?_⟩⟩
        have T7 := T6.out.ext X7.out
        have hm7 : MapF Tryz.prog 34 w7 mb (n + 1) (.bool false) (fun x => if x = nameLit (cl, nm) then .bool true else .bool (inNames h.2 x)) (fun x => decide (x = nameLit (cl, nm)) || inNames h.2 x) :=
          M4.out.same (BB7.out.block _ M4.out.lt (fun e => by
            rcases e with e | e
            · exact NB.out e.symm
            · exact NO.out e))
        refine ⟨T7.blk, HH.out.ge, T7.row, hm7.congr (fun x => ?_) (fun x => (inNames_snoc _ _ _).symm), HH.out.mge, T7.rise, T7.ok, by omega, fun p hp => ?_⟩
        · show _ = Value.bool (inNames (h.2 ++ [(cl, nm)]) x)
          rw [inNames_snoc]
          by_cases e : x = nameLit (cl, nm) <;> simp [e]
        · rcases List.mem_append.1 hp with hp | hp
          · exact HH.out.names p hp
          · rw [List.mem_singleton] at hp
            subst hp; exact ⟨HD.out.cl, HD.out.nm⟩
    · go_wp2_with fail
      go_ret
      have e2 : nextE h ⟨cl, nm, acts, reads, ca, an⟩ = 7 := by rw [ND.out, if_neg (by rw [R.out]; simp), if_pos (of_decide_eq_true IN.out)]
      exact ⟨by rw [e2]; rfl, (Ext.trans Y2.out XC.out).mono HB.out, fun e => by rw [e2] at e; cases e⟩
end Go.Proofs.YtngahblgicjoiaaGreatDoor
