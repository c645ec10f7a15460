/- The document's index of a name. -/
import Derived.Test.YtbnclifpdmpjnaaGreatDoorZ26
import Derived.Test.YtbnclifpdmpjnaaGreatDoorZ17
import Derived.Deep.MidRow
import Derived.Deep.CutRange
import Derived.Deep.DeepCutAuto
import Derived.Test.YtbnclifpdmpjnaaGreatDoorZ06
namespace Go.Proofs.YtbnclifpdmpjnaaGreatDoor
open Go.RowKit
section
variable {P : Program} {ops : Array Oper} {o : Oper} {a : Act} {w : World} {K : Act → World → Prop} {Q : Exit → Act → World → Prop} {E : Prop}
theorem step_load_mid (hgd : o.guard = none) (ty : TypeId) (x : Operand) (ho : o.op = .load ty x) (b of_ : Nat) (hx : a.eval x = .pointer (some ⟨b, of_, none⟩)) (cs : List Value) (d : TypeDesc) (hc : w.rangeAt b of_ cs)
    (hu : P.underlying ty = some d) (hd : d.isRow = true) (hi : (P.info? ty).map (·.size) = some cs.length) (h : K (a.put o.dst (.agg cs.toArray)) w) : if Region.wanted o (yielded ops a.tmps) = true then Oper.wp P o a w K Q else E := by
  rw [if_pos (by simp [Region.wanted, hgd])]
  exact wp_load_mid ty x ho b of_ hx cs d hc hu hd hi h
theorem step_store_mid (hgd : o.guard = none) (ty : TypeId) (x y : Operand) (ho : o.op = .store ty x y) (b of_ : Nat) (cells : Array Value) (hx : a.eval x = .pointer (some ⟨b, of_, none⟩)) (hy : a.eval y = .agg cells)
    (ht : w.there b of_ cells.size) (hi : (P.info? ty).map (·.size) = some cells.size) (h1 : cells.all (·.oneCell') = true) (h : K (a.put o.dst undef) (w.setCells b of_ cells.toList)) : if Region.wanted o (yielded ops a.tmps) = true then Oper.wp P o a w K Q else E := by
  rw [if_pos (by simp [Region.wanted, hgd])]
  exact wp_store_mid ty x y ho b of_ cells hx hy ht hi h1 h
end
theorem res_tmp_row_tmp {P : Program} {fn : Func} {a p b : Tmp} {ty : TypeId} (h : fn.results = #[.tmp a, .cell p ty, .tmp b]) (tmps : Array Value) (w : World) (g : Nat) (t : TypeId) (cs : List Value) (d : TypeDesc)
    (hp : tmps.getD p undef = .pointer (some ⟨g, 0, none⟩)) (hg : Blk w g cs t)
    (hu : P.underlying ty = some d) (hd : (match d with | .struct _ | .array _ _ => true | _ => false) = true) (hi : (P.info? ty).map (·.size) = some cs.toArray.size) :
    (results fn tmps).run P w = .ok (.tuple #[tmps.getD a undef, .agg cs.toArray, tmps.getD b undef]) w := by
  have h1 := run_loadVar_row (P := P) w g t ty cs.toArray (0, 0) d hg hu hd hi
  have hp' : tmps[p]?.getD undef = .pointer (some ⟨g, 0, none⟩) := by simpa using hp
  simp [results, h, hp', asAddr, h1, Result.andThen]
theorem neq_nameT (c1 n1 c2 n2 : Int) (w : World) :
    (binOp .neq 26 (.agg #[.int .i64 c1, .int .i64 n1]) (.agg #[.int .i64 c2, .int .i64 n2])).run Tryz.prog w = .ok (.bool (!(c1 == c2 && n1 == n2))) w := by
  have hS : Tryz.prog.underlying 26 = some (.struct (Tryz.prog.fieldsOf 26)) := by kernel_rfl
  have hp : Tryz.prog.stoodInHeld 26 = false := by kernel_rfl
  have u9 := Tryz.underlying3
  rw [run_neq_struct, show (10000 : Nat) = 9999 + 1 from rfl, run_equalIn_agg w 9999 26 _ _ hS hp]
  simp only [Program.fieldsOf, Tryz.underlying26]
  go_simp
  by_cases h1 : c1 = c2 <;> by_cases h3 : n1 = n2 <;> simp [h1, h3]
def zeroTale : TaleZ := ⟨⟨0, 0, 0, 0, [], false, []⟩, 0, 0, 0, none, 0, none, 0, ⟨#[]⟩, ⟨#[]⟩, 0, 0, 0, 0, none, 0, 0, none, 0, 0⟩
theorem one_tale : ∀ (x : TaleZ), ∀ u ∈ encTale x, u.oneCell' = true := by
  intro x u hu
  simp only [encTale, List.mem_cons, List.not_mem_nil, or_false] at hu
  rcases hu with rfl | rfl | rfl | rfl | rfl | rfl | rfl | rfl | rfl | rfl | rfl | rfl | rfl | rfl | rfl | rfl | rfl | rfl <;> rfl
theorem all_tale (x : TaleZ) : (encTale x).toArray.all (·.oneCell') = true := all_oneCell_toArray (one_tale x)
theorem len_tale (x : TaleZ) : (encTale x).length = 18 := rfl
theorem there_blk {w : World} {b : Nat} {cs : List Value} {t : TypeId} (h : Blk w b cs t) : w.there b 0 cs.length := fun j hj => by
  rw [Nat.zero_add, h.cell j, List.getElem?_eq_getElem hj]
  exact ⟨rfl, h.free j⟩
theorem Blk.setAll {w : World} {b : Nat} {cs vs : List Value} {t : TypeId} (h : Blk w b cs t) (hl : vs.length = cs.length) : Blk (w.setCells b 0 vs) b vs t := by
  have := h.setCells vs 0
  rw [splice_eq vs cs 0 (by omega)] at this
  rw [List.take_zero, List.nil_append, Nat.zero_add, List.drop_of_length_le (by omega), List.append_nil] at this
  exact this
theorem but_setAll {w : World} {b : Nat} (vs : List Value) : But (fun j => j = b) w (w.setCells b 0 vs) := but_setCells (S := fun j => j = b) rfl vs 0 (But.refl (fun j => j = b) w)
def IndexR (l : List TaleZ) (n : Int × Int) (w : World) (e : Ending) (w' : World) : Prop :=
  ∃ z : TaleZ, e = .returned (.tuple #[.int .i64 (((indexT (l.map (·.d)) n).map (·.1)).getD 0), .agg (encTale z).toArray, .bool (indexT (l.map (·.d)) n).isSome]) ∧ (∀ p, indexT (l.map (·.d)) n = some p → z ∈ l ∧ z.d = p.2) ∧ Ext w w'
theorem least_snoc (n : Int × Int) (m : Int) (D : List TaleD) (x : TaleD) : leastT n m (D ++ [x]) = if isT 6 n x then min (leastT n m D) x.index else leastT n m D := by
  unfold leastT; rw [List.foldl_append]; rfl
theorem first_find {D : List TaleD} {n : Int × Int} {c : Nat} {x : TaleD} (h : firstT D 6 n = some c) (hx : D[c]? = some x) : D.find? (isT 6 n) = some x := by
  unfold firstT at h
  obtain ⟨hl, hp, hb⟩ := List.findIdx?_eq_some_iff_getElem.1 h
  obtain ⟨h1, h2⟩ := List.getElem?_eq_some_iff.1 hx
  rw [List.find?_eq_some_iff_getElem]
  refine ⟨by rw [← h2]; exact hp, c, h1, h2, fun j hj => by have := hb j hj; simpa using this⟩
theorem first_find_none {D : List TaleD} {n : Int × Int} (h : firstT D 6 n = none) : indexT D n = none := by
  unfold firstT at h
  unfold indexT
  rw [List.find?_eq_none.2 (fun x hx => by have := List.findIdx?_eq_none_iff.1 h x hx; simp [this])]
theorem index_found {D : List TaleD} {n : Int × Int} {c : Nat} {d : TaleD} (h : firstT D 6 n = some c) (hx : D[c]? = some d) (ha : ∀ y ∈ D, isT 6 n y = true → sameT d y = true) : indexT D n = some (leastT n d.index D, d) := by
  unfold indexT
  rw [first_find h hx]
  simp only
  rw [if_pos]
  rw [List.all_eq_true]
  intro y hy
  by_cases e : isT 6 n y = true
  · simp [ha y hy e]
  · simp [e]
theorem index_differs {D : List TaleD} {n : Int × Int} {c : Nat} {d y : TaleD} (h : firstT D 6 n = some c) (hx : D[c]? = some d) (hy : y ∈ D) (hyt : isT 6 n y = true) (hs : sameT d y = false) : indexT D n = none := by
  unfold indexT
  rw [first_find h hx]
  simp only
  rw [if_neg]
  intro e
  have := List.all_eq_true.1 e y hy
  simp [hyt, hs] at this
set_option maxRecDepth 100000 in
set_option maxHeartbeats 6400000 in
theorem refIndex_calls (l : List TaleZ) (ao : Option Addr) (cap : Nat) (c m : Int) (w : World) (hl : l.length ≤ 1000) (hs : TalesAt w ao l) (hok : ∀ z ∈ l, z.d.ok) :
    Calls Tryz.prog 32 #[.slice ao l.length cap, .agg #[.int .i64 c, .int .i64 m]] w (IndexR l (c, m) w) := by
  have HS := Lib.hid hs; have HOK := Lib.hid hok
  obtain ⟨D, hD⟩ : ∃ D, D = l.map (·.d) := ⟨_, rfl⟩
  obtain ⟨W, hW⟩ : ∃ W, W = (w.alloc (.cells #[.int .i64 c, .int .i64 m] 26)).alloc (.cells #[.int .u8 0, .int .i64 0, .int .i64 0, .int .i64 0, .int .i64 0, .int .i64 0, .int .i64 0, .slice none 0 0, .bool false, .slice none 0 0, .string ⟨#[]⟩, .string ⟨#[]⟩, .int .i64 0, .int .u8 0, .int .i64 0, .int .i64 0, .slice none 0 0, .slice none 0 0] 39) := ⟨_, rfl⟩
  have XW : Hid (Ext w W) := Lib.hid (by rw [hW]; exact ((Below.refl _ w).alloc (Nat.le_refl _) _).alloc (by simp) _)
  have BW : Hid (Blk W w.heap.size [.int .i64 c, .int .i64 m] 26) := Lib.hid (by rw [hW]; exact (Blk.new w _ _).alloc _)
  have BZ : Hid (Blk W (w.heap.size + 1) (encTale zeroTale) 39) := Lib.hid (by
    have := Blk.new (w.alloc (.cells #[.int .i64 c, .int .i64 m] 26)) (encTale zeroTale) 39
    simp only [World.size_alloc] at this
    rw [hW]; exact this)
  have HW := Lib.hid hW
  have HD := Lib.hid hD
  have n0 := BW.out.cell 0; have n1 := BW.out.cell 1
  simp only [List.getElem?_cons_zero, List.getElem?_cons_succ] at n0 n1
  have FC := Lib.hid (refFirst_calls l ao cap 6 c m W hl ((hs.1.ext XW.out).mono XW.out.size))
  obtain ⟨FT, hFT⟩ : ∃ FT, firstT (l.map (·.d)) 6 (c, m) = FT := ⟨_, rfl⟩
  rw [hFT] at FC
  have HFT := Lib.hid hFT
  clear hs hW hD hok hFT
  go_enter Tryz.func32, Tryz.ntmps32
  go_upto_region 1 with fail
  rw [← HW.out]
  go_wp2_with fail
  refine FC.out.mono ?_
  rintro e w1 ⟨rfl, hx1⟩
  have X1 := Lib.hid (Ext.trans XW.out hx1)
  have B1 := Lib.hid (BW.out.ext' hx1); have Z1 := Lib.hid (BZ.out.ext' hx1)
  clear hx1 n0 n1 FC
  cases FT with
  | none =>
    have hn : indexT (l.map (·.d)) (c, m) = none := first_find_none HFT.out
    have HN := Lib.hid hn
    clear hn
    simp only [posT]
    go_wp2_with (refine wpList_store_mid rfl 39 (.tmp 5) (.tmp 16) rfl (w.heap.size + 1) 0 (encTale zeroTale).toArray rfl rfl (by simpa [len_tale] using there_blk Z1.out) sizeTale (all_tale _) ?_)
    refine bodyPost_ret (res_tmp_row_tmp rfl _ _ (w.heap.size + 1) 39 (encTale zeroTale) _ rfl (Z1.out.setAll rfl) Tryz.underlying39 rfl (by kernel_rfl)) rfl ?_
    exact ⟨zeroTale, by rw [HN.out]; rfl, (fun p h => by rw [HN.out] at h; cases h), Below.trans X1.out ((but_setAll _).below X1.out.size (fun i e => by rw [e]; omega))⟩
  | some cc =>
    obtain ⟨x, hx, hxt⟩ := first_lt HFT.out
    obtain ⟨zc, hzc, rfl⟩ : ∃ zc, l[cc]? = some zc ∧ zc.d = x := by
      rw [List.getElem?_map] at hx
      cases h : l[cc]? with
      | none => rw [h] at hx; cases hx
      | some zc => rw [h] at hx; exact ⟨zc, rfl, Option.some.inj hx⟩
    have hccl : cc < l.length := (List.getElem?_eq_some_iff.1 hzc).1
    obtain ⟨b, off, rfl, hb, hcell⟩ := HS.out.1 (by intro e; rw [e] at hccl; simp at hccl)
    have HCX := Lib.hid (fun (W : World) (hW : Ext w W) (t : Nat) (u : Value) (ht : (encTale zc)[t]? = some u) => (hW.cell (p := ⟨b, _, none⟩) hb).trans (hcell cc zc hzc t u ht))
    have HROW := Lib.hid hcell
    have HZC := Lib.hid hx; have HZM := Lib.hid (List.mem_of_getElem? hzc)
    have HTC := Lib.hid hxt
    have q4 : w1.cell? ⟨b, off + cc * 18 + 4, none⟩ = some (.int .i64 zc.d.index) := HCX.out _ X1.out 4 _ rfl
    have g0 : decide ((cc : Int) < 0) = false := by simp
    have i0 : (0 : Int) ≤ (cc : Int) := by omega
    have i1 : (cc : Int) < (l.length : Int) := by omega
    clear hx hxt hzc hcell
    simp only [posT]
    go_wp2_with fail
    go_loopw [8, 9] (fun v i wr => ∃ j : Nat, j ≤ l.length ∧ i = .int .i64 j ∧ v = .int .i64 (leastT (c, m) zc.d.index (D.take j)) ∧ Hid (∀ (t : Nat) (y : TaleD), t < j → D[t]? = some y → isT 6 (c, m) y = true → sameT zc.d y = true) ∧ Hid (Blk wr (w.heap.size + 1) (encTale zeroTale) 39) ∧ Hid (Blk wr w.heap.size [.int .i64 c, .int .i64 m] 26) ∧ Hid (Ext w wr)) (fun _ i _ => l.length - (intOf i).toNat)
    case atStart => exact ⟨0, by omega, rfl, by simp [leastT], Lib.hid (fun t y h => by omega), Z1, B1, X1⟩
    case round =>
      clear X1 B1 Z1 q4
      obtain ⟨j, hj, rfl, rfl, A1, Z2, B2, X2⟩ := hrel
      obtain ⟨LE, hLE⟩ : ∃ LE, leastT (c, m) zc.d.index (D.take j) = LE := ⟨_, rfl⟩
      rw [hLE]
      have HLE := Lib.hid hLE
      clear hLE
      by_cases hlt : j < l.length
      · obtain ⟨z, hz⟩ : ∃ z, l[j]? = some z := ⟨_, List.getElem?_eq_getElem hlt⟩
        have hzm := List.mem_of_getElem? hz
        have DZ : Hid (D[j]? = some z.d) := Lib.hid (by rw [HD.out, List.getElem?_map, hz]; rfl)
        have SN : Hid (leastT (c, m) zc.d.index (D.take (j + 1)) = if isT 6 (c, m) z.d then min LE z.d.index else LE) := Lib.hid (by rw [take_snoc DZ.out, least_snoc, HLE.out])
        have NX : Hid ((isT 6 (c, m) z.d = true → sameT zc.d z.d = true) → ∀ (t : Nat) (y : TaleD), t < j + 1 → D[t]? = some y → isT 6 (c, m) y = true → sameT zc.d y = true) := Lib.hid (fun h t y ht hy hyt => by
          rcases Nat.lt_or_ge t j with h2 | h2
          · exact A1.out t y h2 hy hyt
          · obtain rfl : t = j := by omega
            rw [DZ.out] at hy
            rw [← Option.some.inj hy] at hyt ⊢; exact h hyt)
        have HLD : Hid (wr.rangeAt b (off + j * 18) (encTale z)) := Lib.hid (fun t u ht => (X2.out.cell (p := ⟨b, _, none⟩) hb).trans (HROW.out j z hz t u ht))
        have ZAT := Lib.hid (HS.out.2 z hzm); have ZMM := Lib.hid hzm
        have ZOK := Lib.hid (HOK.out z hzm)
        obtain ⟨wb, hwb⟩ : ∃ wb, wb = wr.alloc (.cells (encTale z).toArray 39) := ⟨_, rfl⟩
        have XB : Hid (Ext wr wb) := Lib.hid (by rw [hwb]; exact (Below.refl _ wr).alloc (Nat.le_refl _) _)
        have BB : Hid (Blk wb wr.heap.size (encTale z) 39) := Lib.hid (by rw [hwb]; exact Blk.new wr _ _)
        have HWB := Lib.hid hwb
        have XX := Lib.hid (Ext.trans X2.out XB.out)
        have Z3 := Lib.hid (Z2.out.ext' XB.out); have B3 := Lib.hid (B2.out.ext' XB.out)
        have j0 : (0 : Int) ≤ (j : Int) := by omega
        have j1 : (j : Int) < (l.length : Int) := by omega
        clear hz hzm hwb
        obtain ⟨⟨kind, index, cl, nm, acts, commit, reads⟩, node, group, term, ta, tc, ra, rc, lo, hi, ep, st, sc, se, so, sn, sp, co, cn, cp⟩ := z
        unfold encTale at HLD HWB BB
        simp only at HLD HWB BB SN ZAT ZOK
        have hbb := BB.out; have hbn := B3.out
        have e0 := hbb.cell 0; have e4 := hbb.cell 4; have e5 := hbb.cell 5; have e6 := hbb.cell 6
        have n0 := hbn.cell 0; have n1 := hbn.cell 1
        simp only [List.getElem?_cons_zero, List.getElem?_cons_succ] at e0 e4 e5 e6 n0 n1
        clear hbb hbn
        obtain ⟨E, hE⟩ : ∃ E : Bool, (cl == c && nm == m) = E := ⟨_, rfl⟩
        have hNe : ∀ W, (binOp .neq 26 (.agg #[.int .i64 cl, .int .i64 nm]) (.agg #[.int .i64 c, .int .i64 m])).run Tryz.prog W = .ok (.bool (!E)) W := fun W => by rw [neq_nameT, hE]
        have HE : Hid (decide ((cl, nm) = (c, m)) = E) := Lib.hid (by rw [← hE, Bool.eq_iff_iff]; simp [Prod.ext_iff])
        clear hE
        go_upto_region 9 with (refine wpList_load_mid rfl 39 (.tmp 30) rfl b (off + j * 18) rfl _ _ HLD.out Tryz.underlying39 rfl sizeTale ?_)
        rw [← HWB.out]
        by_cases hk : kind = 6
        · have g1 : (kind != 6) = false := by simpa using hk
          have HK := Lib.hid hk
          clear hk
          cases E
          · have IT : Hid (isT 6 (c, m) ⟨kind, index, cl, nm, acts, commit, reads⟩ = false) := Lib.hid (show (decide (kind = 6) && decide ((cl, nm) = (c, m))) = false from by rw [HE.out, Bool.and_false])
            go_wp2_with fail
            go_roundw
            case rel => exact ⟨j + 1, by omega, by go_num, by rw [SN.out, IT.out]; rfl, Lib.hid (NX.out (fun h => by rw [IT.out] at h; cases h)), Z3, B3, XX⟩
            case measure => simp [intOf]; omega
          · have IT : Hid (isT 6 (c, m) ⟨kind, index, cl, nm, acts, commit, reads⟩ = true) := Lib.hid (show (decide (kind = 6) && decide ((cl, nm) = (c, m))) = true from by rw [HE.out, HK.out]; rfl)
            obtain ⟨SM, hSM⟩ : ∃ SM, sameT zc.d ⟨kind, index, cl, nm, acts, commit, reads⟩ = SM := ⟨_, rfl⟩
            have HSM := Lib.hid hSM
            clear hSM
            go_upto_region 10 with fail
            go_cut [59] from 41 to 59 (fun f W => f = .bool (!SM) ∧ Hid (Ext wb W))
            case first =>
              have ZCA := Lib.hid ((HS.out.2 zc HZM.out).ext XX.out)
              obtain ⟨zcm, hzcm⟩ : ∃ b, zc.d.commit = b := ⟨_, rfl⟩
              have q8 := ExtBy.cell (show wb.cell? ⟨b, off + cc * 18 + 8, none⟩ = some (.bool zcm) from by rw [← hzcm]; exact HCX.out _ XX.out 8 _ rfl)
              have q9 := ExtBy.cell (show wb.cell? ⟨b, off + cc * 18 + 9, none⟩ = some (.slice zc.ro zc.d.reads.length zc.rc) from HCX.out _ XX.out 9 _ rfl)
              have e8 := ExtBy.cell (show wb.cell? ⟨wr.heap.size, 8, none⟩ = some (.bool commit) from BB.out.cell 8)
              have e9 := ExtBy.cell (show wb.cell? ⟨wr.heap.size, 9, none⟩ = some (.slice ra reads.length rc) from BB.out.cell 9)
              have SR := Lib.hid (fun p : ExtBy wb => sameReads_calls reads zc.d.reads ra zc.ro rc zc.rc p.W (Nat.le_trans ZOK.out.rn (by omega)) ((ZAT.out.2.ext (Ext.trans XX.out p.ext)).mono (Ext.trans XX.out p.ext).size) ((ZCA.out.2.ext (p.ext.mono XX.out.size)).mono (Ext.trans XX.out p.ext).size))
              obtain ⟨RE, hRE⟩ : ∃ RE, decide (reads = zc.d.reads) = RE := ⟨_, rfl⟩
              rw [hRE] at SR
              have HS2 : Hid (SM = (decide (commit = zcm) && RE)) := Lib.hid (by rw [← HSM.out, ← hRE, ← hzcm]; rfl)
              clear hRE hzcm e0 e4 e5 e6 n0 n1
              cases commit <;> cases zcm
              · have FV : Hid (SM = RE) := Lib.hid (by rw [HS2.out]; simp)
                go_wp2_with fail
                refine wp_region_ext (by kernel_rfl) (by kernel_rfl) ?_
                repeat (go_big_quiet_step ((with_reducible exact Calls.ext_of _ (SR.out _))))
                refine wpQuiet_nil ?_
                intro wd hw'
                have XD : Hid (Ext wb wd) := Lib.hid (by obtain ⟨p, rfl⟩ := hw'; exact p.ext)
                clear hw'
                go_wp2_with fail
                go_meet
                exact ⟨by rw [FV.out], XD⟩
              · have FV : Hid (SM = false) := Lib.hid (by rw [HS2.out]; simp)
                go_wp2_with fail
                refine wp_region_ext (by kernel_rfl) (by kernel_rfl) ?_
                repeat (go_big_quiet_step (fail))
                refine wpQuiet_nil ?_
                intro wd hw'
                have XD : Hid (Ext wb wd) := Lib.hid (by obtain ⟨p, rfl⟩ := hw'; exact p.ext)
                clear hw'
                go_wp2_with fail
                go_meet
                exact ⟨by rw [FV.out]; rfl, XD⟩
              · have FV : Hid (SM = false) := Lib.hid (by rw [HS2.out]; simp)
                go_wp2_with fail
                refine wp_region_ext (by kernel_rfl) (by kernel_rfl) ?_
                repeat (go_big_quiet_step (fail))
                refine wpQuiet_nil ?_
                intro wd hw'
                have XD : Hid (Ext wb wd) := Lib.hid (by obtain ⟨p, rfl⟩ := hw'; exact p.ext)
                clear hw'
                go_wp2_with fail
                go_meet
                exact ⟨by rw [FV.out]; rfl, XD⟩
              · have FV : Hid (SM = RE) := Lib.hid (by rw [HS2.out]; simp)
                go_wp2_with fail
                refine wp_region_ext (by kernel_rfl) (by kernel_rfl) ?_
                repeat (go_big_quiet_step ((with_reducible exact Calls.ext_of _ (SR.out _))))
                refine wpQuiet_nil ?_
                intro wd hw'
                have XD : Hid (Ext wb wd) := Lib.hid (by obtain ⟨p, rfl⟩ := hw'; exact p.ext)
                clear hw'
                go_wp2_with fail
                go_meet
                exact ⟨by rw [FV.out], XD⟩
            case rest =>
              obtain ⟨rfl, XC⟩ := hcut
              have Z5 := Lib.hid (Z3.out.ext' XC.out); have B5 := Lib.hid (B3.out.ext' XC.out)
              have X5 := Lib.hid (Ext.trans XX.out XC.out)
              cases SM
              · have HN : Hid (indexT (l.map (·.d)) (c, m) = none) := Lib.hid (index_differs HFT.out HZC.out (by rw [← HD.out]; exact List.mem_of_getElem? DZ.out) IT.out HSM.out)
                clear e0 e4 e5 e6 n0 n1
                go_wp2_with (refine wpList_store_mid rfl 39 (.tmp 5) (.tmp 60) rfl (w.heap.size + 1) 0 (encTale zeroTale).toArray rfl rfl (by simpa [len_tale] using there_blk Z5.out) sizeTale (all_tale _) ?_)
                refine bodyPost_ret (res_tmp_row_tmp rfl _ _ (w.heap.size + 1) 39 (encTale zeroTale) _ rfl (Z5.out.setAll rfl) Tryz.underlying39 rfl (by kernel_rfl)) rfl ?_
                exact ⟨zeroTale, by rw [HN.out]; rfl, (fun p h => by rw [HN.out] at h; cases h), Below.trans X5.out ((but_setAll _).below X5.out.size (fun i e => by rw [e]; omega))⟩
              · have e4 : wc.cell? ⟨wr.heap.size, 4, none⟩ = some (.int .i64 index) := (BB.out.ext' XC.out).cell 4
                clear e0 e5 e6 n0 n1
                go_wp2_with fail
                go_roundw
                case rel => exact ⟨j + 1, by omega, by go_num, by rw [SN.out, IT.out]; rfl, Lib.hid (NX.out (fun _ => HSM.out)), Z5, B5, X5⟩
                case measure => simp [intOf]; omega
        · have g1 : (kind != 6) = true := by simpa using hk
          have IT : Hid (isT 6 (c, m) ⟨kind, index, cl, nm, acts, commit, reads⟩ = false) := Lib.hid (show (decide (kind = 6) && decide ((cl, nm) = (c, m))) = false from by simp [hk])
          clear hk
          go_wp2_with fail
          go_roundw
          case rel => exact ⟨j + 1, by omega, by go_num, by rw [SN.out, IT.out]; rfl, Lib.hid (NX.out (fun h => by rw [IT.out] at h; cases h)), Z3, B3, XX⟩
          case measure => simp [intOf]; omega
      · obtain rfl : j = l.length := by omega
        have hall : D.take l.length = D := List.take_of_length_le (by rw [HD.out, List.length_map]; exact Nat.le_refl _)
        have HI : Hid (indexT (l.map (·.d)) (c, m) = some (LE, zc.d)) := Lib.hid (by
          have := index_found (D := D) (by rw [HD.out]; exact HFT.out) (by rw [HD.out]; exact HZC.out) (fun y hy hyt => by
            obtain ⟨t, ht⟩ := List.mem_iff_getElem?.1 hy
            exact A1.out t y (by have := (List.getElem?_eq_some_iff.1 ht).1; rw [HD.out, List.length_map] at this; omega) ht hyt)
          rw [hall] at HLE
          rw [← HD.out, this, HLE.out])
        have HLD : Hid (wr.drew.rangeAt b (off + cc * 18) (encTale zc)) := Lib.hid (fun t u ht => HCX.out _ (Ext.trans X2.out (Below.refl _ wr).drew) t u ht)
        have BD : Hid (But (fun j => j = w.heap.size + 1) wr wr.drew) := Lib.hid (But.refl (fun j => j = w.heap.size + 1) wr).drew
        clear hall
        go_wp2_with fail
        refine wp_region_firstC (fun W => ∃ p : ButBy (fun j => j = w.heap.size + 1) wr, W = p.W) [0, 1, 2, 3, 5] 3 (by kernel_rfl) (by kernel_rfl) (fun _ _ _ _ h => h) ⟨⟨wr.drew, BD.out⟩, rfl⟩ ?_
        simp only [opsAt, List.getElem?_toArray, List.getElem?_cons_succ, List.getElem?_cons_zero]
        repeat (go_big_quiet_step (fail))
        refine wpQuiet_nil ?_
        have Z6 := Lib.hid (Z2.out.ext' (Below.refl _ wr).drew)
        have B7 : Hid (But (fun j => j = w.heap.size + 1) wr (wr.drew.setCells (w.heap.size + 1) 0 (encTale zc))) := Lib.hid (but_setCells (S := fun j => j = w.heap.size + 1) rfl _ 0 BD.out)
        refine wpAnyH_ready (rs := [4]) (by kernel_rfl) (by simp) ?_
        refine AllReadyH.cons rfl (fun K hK => ?_) AllReadyH.nil
        refine step_load_mid rfl 39 (.tmp 68) rfl b (off + cc * 18) rfl (encTale zc) _ HLD.out Tryz.underlying39 rfl sizeTale ?_
        go_simp
        refine hK.out _ _ ⟨⟨_, BD.out⟩, rfl⟩ (fun _ => ?_)
        clear hK K
        refine wpAnyH_ready (rs := [6]) (by kernel_rfl) (by simp) ?_
        refine AllReadyH.cons rfl (fun K hK => ?_) AllReadyH.nil
        refine step_store_mid rfl 39 (.tmp 5) (.tmp 69) rfl (w.heap.size + 1) 0 (encTale zc).toArray rfl rfl (by simpa [len_tale] using there_blk Z6.out) sizeTale (all_tale _) ?_
        go_simp
        refine hK.out _ _ ⟨⟨_, B7.out⟩, rfl⟩ (fun _ => ?_)
        clear hK K
        refine wp_takesC (f := 0) [7] (by kernel_rfl) (fun _ _ _ _ h => h) ⟨⟨_, B7.out⟩, rfl⟩ ?_
        simp only [opsAt, List.getElem?_toArray, List.getElem?_cons_succ, List.getElem?_cons_zero]
        repeat (go_big_quiet_step (fail))
        refine wpQuiet_nil ?_
        refine wpAnyH_done (by kernel_rfl) ?_ _
        go_wp2_with fail
        refine bodyPost_ret (res_tmp_row_tmp rfl _ _ (w.heap.size + 1) 39 (encTale zc) _ rfl (Z6.out.setAll rfl) Tryz.underlying39 rfl (by kernel_rfl)) rfl ?_
        exact ⟨zc, by rw [HI.out]; rfl, (fun p h => by rw [HI.out] at h; cases h; exact ⟨HZM.out, rfl⟩), Below.trans X2.out (B7.out.below X2.out.size (fun i e => by rw [e]; omega))⟩
end Go.Proofs.YtbnclifpdmpjnaaGreatDoor
