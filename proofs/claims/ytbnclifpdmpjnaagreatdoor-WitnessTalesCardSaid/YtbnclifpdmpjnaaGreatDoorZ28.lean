/- The document's replied. -/
import Derived.Test.YtbnclifpdmpjnaaGreatDoorZ27
import Derived.Test.YtbnclifpdmpjnaaGreatDoorZ24
namespace Go.Proofs.YtbnclifpdmpjnaaGreatDoor
open Go.RowKit
def ansT (x : Option (Int × TaleD)) (z : TaleD) : Bool := match x with
  | none => false
  | some (_, d) => decide (d.commit = z.commit) && (!d.commit || decide (d.reads = z.reads))
theorem replied_two {D : List TaleD} {z : TaleD} (hk : z.kind = 2) : repliedT D z = ansT (indexT D z.name) z := by
  unfold repliedT ansT
  rw [hk]
  cases indexT D z.name with
  | none => simp
  | some p => simp
set_option maxRecDepth 100000 in
set_option maxHeartbeats 6400000 in
theorem refReplied_calls (l : List TaleZ) (ao : Option Addr) (cap : Nat) (w : World) (hl : l.length ≤ 1000) (hs : TalesAt w ao l) (hok : ∀ z ∈ l, z.d.ok) :
    Calls Tryz.prog 30 #[.slice ao l.length cap] w fun e w' => e = .returned (.bool ((l.map (·.d)).all (repliedT (l.map (·.d))))) ∧ Ext w w' := by
  have HS := Lib.hid hs; have HOK := Lib.hid hok
  obtain ⟨D, hD⟩ : ∃ D, D = l.map (·.d) := ⟨_, rfl⟩
  rw [← hD]
  have HD := Lib.hid hD
  clear hs hok hD
  go_enter Tryz.func30, Tryz.ntmps30
  go_wp2_with fail
  go_loopw [3] (fun i wr => ∃ j : Nat, j ≤ l.length ∧ i = .int .i64 j ∧ Hid (∀ (t : Nat) (y : TaleD), t < j → D[t]? = some y → repliedT D y = true) ∧ Hid (Ext w wr)) (fun i _ => l.length - (intOf i).toNat)
  case atStart => exact ⟨0, by omega, rfl, Lib.hid (fun t y h => by omega), Lib.hid (Below.refl _ _)⟩
  case round =>
    obtain ⟨j, hj, rfl, A1, X1⟩ := hrel
    by_cases hlt : j < l.length
    · obtain ⟨z, hz⟩ : ∃ z, l[j]? = some z := ⟨_, List.getElem?_eq_getElem hlt⟩
      have hzm := List.mem_of_getElem? hz
      obtain ⟨b, off, rfl, hb, hcell⟩ := HS.out.1 (by intro e; rw [e] at hlt; simp at hlt)
      have HCX := Lib.hid (fun (W : World) (hW : Ext w W) (t : Nat) (u : Value) (ht : (encTale z)[t]? = some u) => (hW.cell (p := ⟨b, _, none⟩) hb).trans (hcell j z hz t u ht))
      have DZ : Hid (D[j]? = some z.d) := Lib.hid (by rw [HD.out, List.getElem?_map, hz]; rfl)
      have ZOK := Lib.hid (HOK.out z hzm); have ZAT := Lib.hid (HS.out.2 z hzm)
      have NX : Hid (repliedT D z.d = true → ∀ (t : Nat) (y : TaleD), t < j + 1 → D[t]? = some y → repliedT D y = true) := Lib.hid (fun h t y ht hy => by
        rcases Nat.lt_or_ge t j with h2 | h2
        · exact A1.out t y h2 hy
        · obtain rfl : t = j := by omega
          rw [DZ.out] at hy
          rw [← Option.some.inj hy]; exact h)
      have IC := Lib.hid (refIndex_calls l (some ⟨b, off, none⟩) cap z.d.cl z.d.nm wr hl (HS.out.ext X1.out) HOK.out)
      have d0 : wr.cell? ⟨b, off + j * 18, none⟩ = some (.int .u8 z.d.kind) := HCX.out _ X1.out 0 _ rfl
      have d5 : wr.cell? ⟨b, off + j * 18 + 5, none⟩ = some (.int .i64 z.d.cl) := HCX.out _ X1.out 5 _ rfl
      have d6 : wr.cell? ⟨b, off + j * 18 + 6, none⟩ = some (.int .i64 z.d.nm) := HCX.out _ X1.out 6 _ rfl
      have i0 : (0 : Int) ≤ (j : Int) := by omega
      have i1 : (j : Int) < (l.length : Int) := by omega
      clear hz hzm hcell
      by_cases hk : z.d.kind = 2
      · have g1 : (z.d.kind != 2) = false := by simpa using hk
        have HK := Lib.hid hk
        clear hk
        go_upto_region 5 with fail
        clear d0 g1
        go_wp2_with fail
        refine IC.out.mono ?_
        rintro e wx ⟨zx, rfl, hzx, hxx⟩
        have ZX := Lib.hid hzx; have XX := Lib.hid (Ext.trans X1.out hxx)
        obtain ⟨wb, hwb⟩ : ∃ wb, wb = wx.alloc (.cells (encTale zx).toArray 39) := ⟨_, rfl⟩
        have XB : Hid (Ext wx wb) := Lib.hid (by rw [hwb]; exact (Below.refl _ wx).alloc (Nat.le_refl _) _)
        have BB : Hid (Blk wb wx.heap.size (encTale zx) 39) := Lib.hid (by rw [hwb]; exact Blk.new wx _ _)
        have XW := Lib.hid (Ext.trans XX.out XB.out)
        have HWB := Lib.hid hwb
        clear hzx hxx d5 d6 IC hwb
        obtain ⟨IX, hIX⟩ : ∃ IX, indexT (l.map (·.d)) (z.d.cl, z.d.nm) = IX := ⟨_, rfl⟩
        rw [hIX] at ZX ⊢
        have HIX := Lib.hid hIX
        obtain ⟨RT, hRT⟩ : ∃ RT, repliedT D z.d = RT := ⟨_, rfl⟩
        have HRT := Lib.hid hRT
        have RV : Hid (RT = ansT IX z.d) := Lib.hid (by
          rw [← hRT, ← hIX, replied_two HK.out, HD.out]
          rfl)
        clear hIX hRT
        have ZXM := Lib.hid (fun p h => (ZX.out p h).2)
        have ZXA := Lib.hid (fun p h => HS.out.2 zx (ZX.out p h).1)
        have ZXO := Lib.hid (fun p h => HOK.out zx (ZX.out p h).1)
        obtain ⟨⟨kind, index, cl, nm, acts, commit, reads⟩, node, group, term, ta, tc, ra, rc, lo, hi, ep, st, sc, se, so, sn, sp, co, cn, cp⟩ := zx
        unfold encTale at HWB BB ⊢
        simp only at HWB BB ZXM ZXA ZXO ⊢
        go_upto_region 6 with fail
        rw [← HWB.out]
        go_cut [56] from 30 to 56 (fun f W => f = .bool (!RT) ∧ Hid (Ext wb W))
        case first =>
          have e8 := ExtBy.cell (show wb.cell? ⟨wx.heap.size, 8, none⟩ = some (.bool commit) from BB.out.cell 8)
          have e9 := ExtBy.cell (show wb.cell? ⟨wx.heap.size, 9, none⟩ = some (.slice ra reads.length rc) from BB.out.cell 9)
          obtain ⟨zcm, hzcm⟩ : ∃ b, z.d.commit = b := ⟨_, rfl⟩
          have q8 := ExtBy.cell (show wb.cell? ⟨b, off + j * 18 + 8, none⟩ = some (.bool zcm) from by rw [← hzcm]; exact HCX.out _ XW.out 8 _ rfl)
          have q9 := ExtBy.cell (show wb.cell? ⟨b, off + j * 18 + 9, none⟩ = some (.slice z.ro z.d.reads.length z.rc) from HCX.out _ XW.out 9 _ rfl)
          cases IX with
          | none =>
            have FV : Hid (RT = false) := RV
            clear e8 e9 q8 q9
            go_wp2_with fail
            refine wp_region_ext (by kernel_rfl) (by kernel_rfl) ?_
            repeat (go_big_quiet_step (fail))
            refine wpQuiet_nil ?_
            intro wd hw'
            have XD : Hid (Ext wb wd) := Lib.hid (by obtain ⟨p, rfl⟩ := hw'; exact p.ext)
            clear hw'
            go_wp2_with fail
            go_meet
            exact ⟨by rw [FV.out]; rfl, XD⟩
          | some pd =>
            obtain ⟨px, dx⟩ := pd
            have hd := ZXM.out _ rfl
            simp only at hd
            have hat := ZXA.out _ rfl; have hrn := (ZXO.out _ rfl).rn
            have SR := Lib.hid (fun p : ExtBy wb => sameReads_calls reads z.d.reads ra z.ro rc z.rc p.W (Nat.le_trans hrn (by omega)) ((hat.2.ext (Ext.trans XW.out p.ext)).mono (Ext.trans XW.out p.ext).size) ((ZAT.out.2.ext (Ext.trans XW.out p.ext)).mono (Ext.trans XW.out p.ext).size))
            obtain ⟨RE, hRE⟩ : ∃ RE, decide (reads = z.d.reads) = RE := ⟨_, rfl⟩
            rw [hRE] at SR
            have HS2 : Hid (RT = (decide (commit = zcm) && (!commit || RE))) := Lib.hid (by rw [RV.out, ← hRE, ← hzcm]; unfold ansT; rw [← hd])
            clear hRE hzcm hd hat hrn
            cases commit <;> cases zcm
            · have FV : Hid (RT = true) := Lib.hid (by rw [HS2.out]; simp)
              go_wp2_with fail
              refine wp_region_ext (by kernel_rfl) (by kernel_rfl) ?_
              repeat (go_big_quiet_step (fail))
              refine wpQuiet_nil ?_
              intro wd hw'
              have XD : Hid (Ext wb wd) := Lib.hid (by obtain ⟨p, rfl⟩ := hw'; exact p.ext)
              clear hw'
              go_wp2_with fail
              go_meet
              exact ⟨by rw [FV.out]; rfl, XD⟩
            · have FV : Hid (RT = false) := Lib.hid (by rw [HS2.out]; simp)
              go_wp2_with fail
              refine wp_region_ext (by kernel_rfl) (by kernel_rfl) ?_
              repeat (go_big_quiet_step (fail))
              refine wpQuiet_nil ?_
              intro wd hw'
              have XD : Hid (Ext wb wd) := Lib.hid (by obtain ⟨p, rfl⟩ := hw'; exact p.ext)
              clear hw'
              go_wp2_with fail
              go_meet
              exact ⟨by rw [FV.out]; rfl, XD⟩
            · have FV : Hid (RT = false) := Lib.hid (by rw [HS2.out]; simp)
              go_wp2_with fail
              refine wp_region_ext (by kernel_rfl) (by kernel_rfl) ?_
              repeat (go_big_quiet_step (fail))
              refine wpQuiet_nil ?_
              intro wd hw'
              have XD : Hid (Ext wb wd) := Lib.hid (by obtain ⟨p, rfl⟩ := hw'; exact p.ext)
              clear hw'
              go_wp2_with fail
              go_meet
              exact ⟨by rw [FV.out]; rfl, XD⟩
            · have FV : Hid (RT = RE) := Lib.hid (by rw [HS2.out]; simp)
              go_wp2_with fail
              refine wp_region_ext (by kernel_rfl) (by kernel_rfl) ?_
              repeat (go_big_quiet_step ((with_reducible exact Calls.ext_of _ (SR.out _))))
              refine wpQuiet_nil ?_
              intro wd hw'
              have XD : Hid (Ext wb wd) := Lib.hid (by obtain ⟨p, rfl⟩ := hw'; exact p.ext)
              clear hw'
              go_wp2_with fail
              go_meet
              exact ⟨by rw [FV.out], XD⟩
        case rest =>
          obtain ⟨rfl, XC⟩ := hcut
          have X5 := Lib.hid (Ext.trans XW.out XC.out)
          cases RT
          · go_wp2_with fail
            go_ret
            refine ⟨ret_bool (Eq.symm (List.all_eq_false.2 ⟨z.d, List.mem_of_getElem? DZ.out, by rw [HRT.out]; simp⟩)), X5.out⟩
          · go_wp2_with fail
            go_roundw
            case rel => exact ⟨j + 1, by omega, by go_num, Lib.hid (NX.out HRT.out), X5⟩
            case measure => simp [intOf]; omega
      · have g1 : (z.d.kind != 2) = true := by simpa using hk
        have RT : Hid (repliedT D z.d = true) := Lib.hid (by unfold repliedT; simp [hk])
        clear hk
        go_wp2_with fail
        go_roundw
        case rel => exact ⟨j + 1, by omega, by go_num, Lib.hid (NX.out RT.out), X1⟩
        case measure => simp [intOf]; omega
    · go_wp2_with fail
      go_ret
      refine ⟨ret_bool (Eq.symm (List.all_eq_true.2 fun y hy => ?_)), X1.out⟩
      obtain ⟨t, ht⟩ := List.mem_iff_getElem?.1 hy
      exact A1.out t y (by have := (List.getElem?_eq_some_iff.1 ht).1; rw [HD.out, List.length_map] at this; omega) ht
end Go.Proofs.YtbnclifpdmpjnaaGreatDoor
/- The document's From: its loops taken out of its code (howto A-GREAT-LOOP). -/
namespace Go.Proofs.YtbnclifpdmpjnaaGreatDoor
open Go.RowKit
def firstLoop : Code → Option Code
  | .loop c => some c
  | .seq a b => match firstLoop a with
    | some c => some c
    | none => firstLoop b
  | .block _ c => firstLoop c
  | .scope c => firstLoop c
  | .cond _ a b => match firstLoop a with
    | some c => some c
    | none => firstLoop b
  | _ => none
noncomputable def fromBody : Code := (Tryz.f8.body.bind firstLoop).getD .skip
noncomputable def fromInner : Code := (firstLoop fromBody).getD .skip
end Go.Proofs.YtbnclifpdmpjnaaGreatDoor
/- The document's From: plain facts of its out-rows and its keys. -/
namespace Go.Proofs.YtbnclifpdmpjnaaGreatDoor
open Go.RowKit
def clashI (x : Option (Int × TaleD)) (k : Int) : Bool := match x with
  | none => false
  | some (o, _) => decide (o = k)
theorem clash_two {D : List TaleD} {n m : Int × Int} {k : Int} {y : TaleD} (h : y.kind = 6) (hn : y.name = m) (hne : y.name ≠ n) : clashT D n k y = clashI (indexT D m) k := by
  unfold clashT clashI
  rw [h, hn, decide_eq_true rfl, decide_eq_true (by rw [← hn]; exact hne), Bool.true_and, Bool.true_and]
  cases indexT D m <;> rfl
def encI (n : Int) : List Value := [.int .i64 n]
def stepsOf (P : List (Int × StepZ)) : List StepZ := P.map (·.2)
def keysOf (P : List (Int × StepZ)) : List Int := P.map (·.1)
def plainP (P : List (Int × StepZ)) : List (Int × StepD) := P.map fun p => (p.1, p.2.d)
def RefFromR (w : World) (r : Option (List StepD)) (e : Ending) (w' : World) : Prop :=
  ∃ (so : Option Addr) (c : Nat) (q : List StepZ), e = .returned (.tuple #[.slice so q.length c, .bool r.isSome]) ∧ q.map (·.d) = r.getD [] ∧ StepsAt w' so q ∧ Ext w w'
theorem refFrom_none {w w' : World} {r : Option (List StepD)} (hr : r = none) (hx : Ext w w') : RefFromR w r (.returned (.tuple #[.slice none 0 0, .bool false])) w' := by
  subst hr
  exact ⟨none, 0, [], rfl, rfl, ⟨fun h => absurd rfl h, (fun z hz => by cases hz)⟩, hx⟩
theorem fromAt_stop (D : List TaleD) {j : Nat} (h : fromAt D j = none) : ∀ L, j ≤ L → fromAt D L = none := by
  intro L
  induction L with
  | zero => intro hL; obtain rfl : j = 0 := by omega
            exact h
  | succ L ih =>
    intro hL
    by_cases e : j = L + 1
    · rw [← e]; exact h
    · unfold fromAt; rw [ih (by omega)]
theorem fromAt_next {D : List TaleD} {j : Nat} {x : TaleD} {out : List (Int × StepD)} (h : fromAt D j = some out) (hx : D[j]? = some x) : fromAt D (j + 1) = fromOne D j x out := by
  conv => lhs; unfold fromAt
  rw [h, hx]
def putP (t : Nat) (p : Int × StepZ) (P : List (Int × StepZ)) : List (Int × StepZ) := P.take t ++ p :: P.drop t
theorem place_at {k : Int} : ∀ (P : List (Int × StepZ)) (t : Nat), t ≤ P.length → (∀ (u : Nat) (x : Int), u < t → (keysOf P)[u]? = some x → x < k) → (∀ x, (keysOf P)[t]? = some x → ¬ x < k) → ((plainP P).takeWhile (sooner k)).length = t
  | [], t, ht, _, _ => by simp at ht; subst ht; rfl
  | p :: P, 0, _, _, h2 => by
    have h := h2 p.1 rfl
    have e : sooner k (p.1, p.2.d) = false := by unfold sooner; simpa using h
    unfold plainP
    rw [List.map_cons, List.takeWhile_cons, e]
    rfl
  | p :: P, t + 1, ht, h1, h2 => by
    have e : sooner k (p.1, p.2.d) = true := by unfold sooner; simpa using h1 0 p.1 (by omega) rfl
    have ih := place_at P t (by simpa using ht) (fun u x hu hx => h1 (u + 1) x (by omega) (by simpa [keysOf] using hx)) (fun x hx => h2 x (by simpa [keysOf] using hx))
    unfold plainP at ih ⊢
    rw [List.map_cons, List.takeWhile_cons, e]
    simp only [if_true, List.length_cons, ih]
theorem plain_put {P : List (Int × StepZ)} {k : Int} {z : StepZ} {t : Nat} (ht : t ≤ P.length) (h1 : ∀ (u : Nat) (x : Int), u < t → (keysOf P)[u]? = some x → x < k) (h2 : ∀ x, (keysOf P)[t]? = some x → ¬ x < k) : putT (k, z.d) (plainP P) = plainP (putP t (k, z) P) := by
  unfold putT putP
  simp only
  rw [place_at P t ht h1 h2]
  unfold plainP
  rw [List.map_append, List.map_cons, List.map_take, List.map_drop]
theorem steps_put (t : Nat) (k : Int) (z : StepZ) (P : List (Int × StepZ)) : (stepsOf P).take t ++ [z] ++ (stepsOf P).drop t = stepsOf (putP t (k, z) P) := by
  unfold stepsOf putP
  simp
theorem keys_put (t : Nat) (k : Int) (z : StepZ) (P : List (Int × StepZ)) : (keysOf P).take t ++ [k] ++ (keysOf P).drop t = keysOf (putP t (k, z) P) := by
  unfold keysOf putP
  simp
theorem len_put {t : Nat} {p : Int × StepZ} {P : List (Int × StepZ)} (ht : t ≤ P.length) : (putP t p P).length = P.length + 1 := by
  unfold putP
  rw [List.length_append, List.length_cons, List.length_take, List.length_drop]
  omega
theorem one_int : ∀ (x : Int), ∀ u ∈ encI x, u.oneCell' = true := by
  intro x u hu
  unfold encI at hu
  rw [List.mem_singleton] at hu
  subst hu; rfl
end Go.Proofs.YtbnclifpdmpjnaaGreatDoor
