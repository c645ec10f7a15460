/- CopyActs, CopyReads: own rows; same: steps compared. -/
import Derived.Test.YtbnclifpdmpjnaaGreatDoorZ07
import Derived.Test.YtbnclifpdmpjnaaGreatDoorZ25
import Derived.Test.YtbnclifpdmpjnaaGreatDoorZ37
import Derived.Test.YtbnclifpdmpjnaaGreatDoorZ30
import Derived.Deep.CutRange
import Derived.Deep.DeepCutAuto
namespace Go.Proofs.YtbnclifpdmpjnaaGreatDoor
open Go.RowKit
set_option maxRecDepth 100000 in
theorem copyActs_calls (l : List ActD) (ao : Option Addr) (cap : Nat) (w : World) (hl : l.length ≤ 1000000) (hr : Rows 4 encAct w.heap.size w ao l) :
    Calls Tryz.prog 33 #[.slice ao l.length cap] w fun e w' => ∃ v, e = .returned v ∧ w'.ownsRow 0 114 4 v l.length (l.flatMap encAct) ∧ (∀ j, v.ownBlock = some j → w.heap.size ≤ j) ∧ Ext w w' := by
  obtain ⟨i0, hi, hz0, hz1, hz2⟩ := info_parts infoAct
  have HR := Lib.hid hr
  clear hr
  go_enter Tryz.func33, Tryz.ntmps33
  go_wp2_with (at_builtin; go_must (refine wpList_append_rows (enc := encAct) (size := 4) (fun _ => rfl) one_act rfl _ _ 27 rfl 114 i0 _ 48 Tryz.underlying27 hi hz0 hz1 hz2 rfl (by decide) (.slice none 0 0) 0 [] rfl (World.ownsRow_nil _ _ _ _) ao l cap rfl HR.out (by unfold maxLen; omega) (by omega) ?_); intro v2 w2 hown2 hbut2 hkept2; have O2 := Lib.hid hown2; have B2 := Lib.hid hbut2; have K2 := Lib.hid hkept2; clear hown2 hbut2 hkept2)
  go_ret
  refine ⟨_, rfl, by simpa using O2.out, fun j hj => (K2.out j hj).elim (fun e => by simp [Value.ownBlock] at e) id, B2.out.ext (fun i hi e => by simp [Value.ownBlock] at e)⟩
set_option maxRecDepth 100000 in
theorem copyReads_calls (l : List Rd) (ao : Option Addr) (cap : Nat) (w : World) (hl : l.length ≤ 1000000) (hr : Rows 3 encRd w.heap.size w ao l) :
    Calls Tryz.prog 34 #[.slice ao l.length cap] w fun e w' => ∃ v, e = .returned v ∧ w'.ownsRow 0 117 3 v l.length (l.flatMap encRd) ∧ (∀ j, v.ownBlock = some j → w.heap.size ≤ j) ∧ Ext w w' := by
  obtain ⟨i0, hi, hz0, hz1, hz2⟩ := info_parts infoRd
  have HR := Lib.hid hr
  clear hr
  go_enter Tryz.func34, Tryz.ntmps34
  go_wp2_with (at_builtin; go_must (refine wpList_append_rows (enc := encRd) (size := 3) (fun _ => rfl) one_rd rfl _ _ 28 rfl 117 i0 _ 40 Tryz.underlying28 hi hz0 hz1 hz2 rfl (by decide) (.slice none 0 0) 0 [] rfl (World.ownsRow_nil _ _ _ _) ao l cap rfl HR.out (by unfold maxLen; omega) (by omega) ?_); intro v2 w2 hown2 hbut2 hkept2; have O2 := Lib.hid hown2; have B2 := Lib.hid hbut2; have K2 := Lib.hid hkept2; clear hown2 hbut2 hkept2)
  go_ret
  refine ⟨_, rfl, by simpa using O2.out, fun j hj => (K2.out j hj).elim (fun e => by simp [Value.ownBlock] at e) id, B2.out.ext (fun i hi e => by simp [Value.ownBlock] at e)⟩
set_option maxRecDepth 100000 in
theorem neq_name (c1 n1 c2 n2 : Int) (w : World) :
    (binOp .neq 26 (.agg #[.int .i64 c1, .int .i64 n1]) (.agg #[.int .i64 c2, .int .i64 n2])).run Tryz.prog w = .ok (.bool (!(c1 == c2 && n1 == n2))) w := by
  have hS : Tryz.prog.underlying 26 = some (.struct (Tryz.prog.fieldsOf 26)) := by kernel_rfl
  have hp : Tryz.prog.stoodInHeld 26 = false := by kernel_rfl
  have u9 := Tryz.underlying3
  rw [run_neq_struct, show (10000 : Nat) = 9999 + 1 from rfl, run_equalIn_agg w 9999 26 _ _ hS hp]
  simp only [Program.fieldsOf, Tryz.underlying26]
  go_simp
  by_cases h1 : c1 = c2 <;> by_cases h3 : n1 = n2 <;> simp [h1, h3]
set_option maxRecDepth 100000 in
set_option maxRecDepth 100000 in
set_option maxHeartbeats 3200000 in
theorem same_calls (l m : List StepZ) (ao bo : Option Addr) (cap cap' : Nat) (w : World) (hl : l.length ≤ 1000) (hs : StepsAt w ao l) (hq : StepsAt w bo m) (hd : ∀ z ∈ l, z.d.ok) (heq : l.map (·.d) = m.map (·.d)) :
    Calls Tryz.prog 9 #[.slice ao l.length cap, .slice bo m.length cap'] w fun e w' => e = .returned (.bool true) ∧ Ext w w' := by
  have HS := Lib.hid hs; have HQ := Lib.hid hq; have HE := Lib.hid heq; have HD := Lib.hid hd
  have hlen : l.length = m.length := by have := congrArg List.length heq; simpa using this
  have HL := Lib.hid hlen
  have g0 : ((l.length : Int) != (m.length : Int)) = false := by simp [hlen]
  clear hs hq heq hlen hd
  go_enter Tryz.func9, Tryz.ntmps9
  go_wp2_with fail
  go_loopw [5] (fun i wr => ∃ k : Nat, k ≤ l.length ∧ i = .int .i64 k ∧ Ext w wr) (fun i _ => l.length - (intOf i).toNat)
  case atStart => exact ⟨0, by omega, rfl, Below.refl _ _⟩
  case round =>
    obtain ⟨k, hk, rfl, hx⟩ := hrel
    have K3 := Lib.hid hx
    by_cases hlt : k < l.length
    · have hlt' : k < m.length := by have := HL.out; omega
      obtain ⟨z, hz⟩ : ∃ z, l[k]? = some z := ⟨_, List.getElem?_eq_getElem hlt⟩
      obtain ⟨y, hy⟩ : ∃ y, m[k]? = some y := ⟨_, List.getElem?_eq_getElem hlt'⟩
      have hzy : z.d = y.d := by
        have h1 : (l.map (·.d))[k]? = some z.d := by rw [List.getElem?_map, hz]; rfl
        have h2 : (m.map (·.d))[k]? = some y.d := by rw [List.getElem?_map, hy]; rfl
        rw [HE.out, h2] at h1
        exact (Option.some.inj h1).symm
      have hzm := List.mem_of_getElem? hz; have hym := List.mem_of_getElem? hy
      have hok := HD.out z hzm
      obtain ⟨b, off, rfl, hb, hcell⟩ := HS.out.1 (by intro e; rw [e] at hlt; simp at hlt)
      obtain ⟨b', off', rfl, hb', hcell'⟩ := HQ.out.1 (by intro e; rw [e] at hlt'; simp at hlt')
      have CZ := Lib.hid (fun W (hW : Ext w W) (j : Nat) (u : Value) (hj : (encStep z)[j]? = some u) => (hW.cell (p := ⟨b, _, none⟩) hb).trans (hcell k z hz j u hj))
      have CY := Lib.hid (fun W (hW : Ext w W) (j : Nat) (u : Value) (hj : (encStep y)[j]? = some u) => (hW.cell (p := ⟨b', _, none⟩) hb').trans (hcell' k y hy j u hj))
      have ZA := Lib.hid (fun W (hW : Ext w W) => ((HS.out.2 z hzm).ext hW).mono hW.size)
      have YA := Lib.hid (fun W (hW : Ext w W) => ((HQ.out.2 y hym).ext hW).mono hW.size)
      have OK1 := Lib.hid hok.an; have OK2 := Lib.hid hok.rn
      clear hz hy hcell hcell' hzm hym hok
      obtain ⟨⟨cl, nm, acts, reads, ca, an⟩, ao2, ac2, ro2, rc2⟩ := z
      obtain ⟨d', ao3, ac3, ro3, rc3⟩ := y
      simp only at hzy
      subst hzy
      unfold encStep at CZ CY
      simp only at CZ CY OK1 OK2
      have hcz := CZ.out _ K3.out; have hcy := CY.out _ K3.out
      have d0 := ExtBy.cell (hcz 0 _ rfl); have d1 := ExtBy.cell (hcz 1 _ rfl); have d2 := ExtBy.cell (hcz 2 _ rfl); have d3 := ExtBy.cell (hcz 3 _ rfl); have d4 := ExtBy.cell (hcz 4 _ rfl); have d5 := ExtBy.cell (hcz 5 _ rfl)
      have e0 := ExtBy.cell (hcy 0 _ rfl); have e1 := ExtBy.cell (hcy 1 _ rfl); have e2 := ExtBy.cell (hcy 2 _ rfl); have e3 := ExtBy.cell (hcy 3 _ rfl); have e4 := ExtBy.cell (hcy 4 _ rfl); have e5 := ExtBy.cell (hcy 5 _ rfl)
      simp only [Nat.add_zero] at d0 e0
      have SA := Lib.hid (fun (p : ExtBy wr) => (sameActs_calls acts acts ao2 ao3 ac2 ac3 p.W OK1.out (ZA.out _ (Ext.trans K3.out p.ext)).1 (YA.out _ (Ext.trans K3.out p.ext)).1).mono (R' := fun e w' => e = .returned (.bool true) ∧ Ext p.W w') (fun e w' ⟨h1, h2⟩ => ⟨by rw [h1]; simp, h2⟩))
      have SR := Lib.hid (fun (p : ExtBy wr) => (sameReads_calls reads reads ro2 ro3 rc2 rc3 p.W OK2.out (ZA.out _ (Ext.trans K3.out p.ext)).2 (YA.out _ (Ext.trans K3.out p.ext)).2).mono (R' := fun e w' => e = .returned (.bool true) ∧ Ext p.W w') (fun e w' ⟨h1, h2⟩ => ⟨by rw [h1]; simp, h2⟩))
      have i0 : (0 : Int) ≤ (k : Int) := by omega
      have i1 : (k : Int) < (l.length : Int) := by omega
      have i2 : (k : Int) < (m.length : Int) := by omega
      have hnn : ∀ W, (binOp .neq 26 (.agg #[.int .i64 cl, .int .i64 nm]) (.agg #[.int .i64 cl, .int .i64 nm])).run Tryz.prog W = .ok (.bool false) W := fun W => by rw [neq_name]; simp
      clear hcz hcy hx
      go_wp2_with fail
      refine wp_region_ext (by kernel_rfl) (by kernel_rfl) ?_
      repeat (go_big_quiet_step (first | (with_reducible exact Calls.ext_of _ (SA.out _)) | (with_reducible exact Calls.ext_of _ (SR.out _))))
      refine wpQuiet_nil ?_
      intro wc hw'
      have XC : Hid (Ext w wc) := Lib.hid (by obtain ⟨p, rfl⟩ := hw'; exact Ext.trans K3.out p.ext)
      clear hw' d0 d1 d2 d3 d4 d5 e0 e1 e2 e3 e4 e5 hnn
      go_wp2_with fail
      go_roundw
      case rel => exact ⟨k + 1, by omega, by go_num, XC.out⟩
      case measure => simp [intOf]; omega
    · clear hx
      go_wp2_with fail
      go_ret
      exact ⟨ret_bool rfl, K3.out⟩
end Go.Proofs.YtbnclifpdmpjnaaGreatDoor
/- The document's From: the place of a step. -/
namespace Go.Proofs.YtbnclifpdmpjnaaGreatDoor
open Go.RowKit
set_option maxRecDepth 1000000 in
set_option maxHeartbeats 6400000 in
theorem place_wp {Q0 : Exit → Act → World → Prop} (hpn : ∀ ch (a : Act) tmps w, Q0 (Exit.panic ch) ⟨tmps, a.defers⟩ w → Q0 (Exit.panic ch) a w) {K0 : Act → World → Prop} (KK : ∀ a w, Code.wp Tryz.prog behind25 Q0 a w → K0 a w) {P : List (Int × StepZ)} {z : StepZ} {k : Int} {ac oc sb : Nat} {aa oa : Option Addr} {w : World} (hl : P.length ≤ 60) (hoc : (stepsOf P).length ≤ oc) (hac : (keysOf P).length ≤ ac) (hs : Rows 6 encStep w.heap.size w oa (stepsOf P)) (hk : Rows 1 encI w.heap.size w aa (keysOf P)) (hb : Blk w sb (encStep z) 86) {c0 c1 c2 c3 c6 c7 c9 c10 c11 c12 c13 c14 c15 c17 c18 c19 c20 c21 c22 c23 c24 c25 c26 c27 c28 c29 c30 c31 c32 c33 c34 c35 c36 c37 c38 c39 c40 c41 c42 c43 c44 c45 c46 c47 c48 c49 c50 c51 c52 c53 c54 c55 c56 c57 c58 c59 c60 c61 c62 c63 c64 c65 c66 c67 c68 c69 c70 c71 c72 c73 c74 c75 c76 c77 c78 c79 c80 c81 c82 c83 c84 c85 c86 c87 c88 c89 c90 c91 c92 c93 c94 c95 c96 c97 c98 c99 c100 c101 c102 c103 c104 c105 c106 c107 c108 c109 c110 c111 c112 c113 c114 c115 c116 c117 c118 c119 c120 c121 c122 c123 c124 c125 c126 c127 c128 c129 c130 c131 c132 c133 c134 c135 c136 c137 c138 c139 c140 c141 c142 c143 c144 c145 c146 c147 c148 c149 c150 c151 c152 c153 c154 c155 c156 c157 c158 c159 : Value}
    (hput : ∀ (g17 g121 g122 g123 g124 g125 g126 g127 g128 g129 g130 g131 g132 g133 g134 g135 g136 g137 g138 g139 g140 g141 g142 g143 g144 g145 g146 g147 g148 g149 g150 g151 g152 g153 g154 g155 g156 g157 g158 : Value) (t : Nat) (so so' : Option Addr) (c' c'' : Nat) (w' : World), t ≤ P.length → putT (k, z.d) (plainP P) = plainP (putP t (k, z) P) → (stepsOf (putP t (k, z) P)).length ≤ c' → (keysOf (putP t (k, z) P)).length ≤ c'' → Rows 6 encStep w'.heap.size w' so (stepsOf (putP t (k, z) P)) → Rows 1 encI w'.heap.size w' so' (keysOf (putP t (k, z) P)) → Ext w w' → Q0 .normal ⟨List.toArray (c0 :: c1 :: c2 :: c3 :: .slice so (stepsOf (putP t (k, z) P)).length c' :: .slice so' (keysOf (putP t (k, z) P)).length c'' :: c6 :: c7 :: .int .i64 k :: c9 :: c10 :: c11 :: c12 :: c13 :: c14 :: c15 :: .pointer (some ⟨sb, 0, none⟩) :: g17 :: c18 :: c19 :: c20 :: c21 :: c22 :: c23 :: c24 :: c25 :: c26 :: c27 :: c28 :: c29 :: c30 :: c31 :: c32 :: c33 :: c34 :: c35 :: c36 :: c37 :: c38 :: c39 :: c40 :: c41 :: c42 :: c43 :: c44 :: c45 :: c46 :: c47 :: c48 :: c49 :: c50 :: c51 :: c52 :: c53 :: c54 :: c55 :: c56 :: c57 :: c58 :: c59 :: c60 :: c61 :: c62 :: c63 :: c64 :: c65 :: c66 :: c67 :: c68 :: c69 :: c70 :: c71 :: c72 :: c73 :: c74 :: c75 :: c76 :: c77 :: c78 :: c79 :: c80 :: c81 :: c82 :: c83 :: c84 :: c85 :: c86 :: c87 :: c88 :: c89 :: c90 :: c91 :: c92 :: c93 :: c94 :: c95 :: c96 :: c97 :: c98 :: c99 :: c100 :: c101 :: c102 :: c103 :: c104 :: c105 :: c106 :: c107 :: c108 :: c109 :: c110 :: c111 :: c112 :: c113 :: c114 :: c115 :: c116 :: c117 :: c118 :: c119 :: c120 :: g121 :: g122 :: g123 :: g124 :: g125 :: g126 :: g127 :: g128 :: g129 :: g130 :: g131 :: g132 :: g133 :: g134 :: g135 :: g136 :: g137 :: g138 :: g139 :: g140 :: g141 :: g142 :: g143 :: g144 :: g145 :: g146 :: g147 :: g148 :: g149 :: g150 :: g151 :: g152 :: g153 :: g154 :: g155 :: g156 :: g157 :: g158 :: c159 :: []), []⟩ w') :
    Code.wp Tryz.prog reg25 (Exit.then K0 Q0) ⟨List.toArray (c0 :: c1 :: c2 :: c3 :: .slice oa (stepsOf P).length oc :: .slice aa (keysOf P).length ac :: c6 :: c7 :: .int .i64 k :: c9 :: c10 :: c11 :: c12 :: c13 :: c14 :: c15 :: .pointer (some ⟨sb, 0, none⟩) :: c17 :: c18 :: c19 :: c20 :: c21 :: c22 :: c23 :: c24 :: c25 :: c26 :: c27 :: c28 :: c29 :: c30 :: c31 :: c32 :: c33 :: c34 :: c35 :: c36 :: c37 :: c38 :: c39 :: c40 :: c41 :: c42 :: c43 :: c44 :: c45 :: c46 :: c47 :: c48 :: c49 :: c50 :: c51 :: c52 :: c53 :: c54 :: c55 :: c56 :: c57 :: c58 :: c59 :: c60 :: c61 :: c62 :: c63 :: c64 :: c65 :: c66 :: c67 :: c68 :: c69 :: c70 :: c71 :: c72 :: c73 :: c74 :: c75 :: c76 :: c77 :: c78 :: c79 :: c80 :: c81 :: c82 :: c83 :: c84 :: c85 :: c86 :: c87 :: c88 :: c89 :: c90 :: c91 :: c92 :: c93 :: c94 :: c95 :: c96 :: c97 :: c98 :: c99 :: c100 :: c101 :: c102 :: c103 :: c104 :: c105 :: c106 :: c107 :: c108 :: c109 :: c110 :: c111 :: c112 :: c113 :: c114 :: c115 :: c116 :: c117 :: c118 :: c119 :: c120 :: c121 :: c122 :: c123 :: c124 :: c125 :: c126 :: c127 :: c128 :: c129 :: c130 :: c131 :: c132 :: c133 :: c134 :: c135 :: c136 :: c137 :: c138 :: c139 :: c140 :: c141 :: c142 :: c143 :: c144 :: c145 :: c146 :: c147 :: c148 :: c149 :: c150 :: c151 :: c152 :: c153 :: c154 :: c155 :: c156 :: c157 :: c158 :: c159 :: []), []⟩ w := by
  have HP := Lib.hid hput; have HS := Lib.hid hs; have HK := Lib.hid hk; have HB := Lib.hid hb; have HOC := Lib.hid hoc; have HAC := Lib.hid hac
  have LS : Hid ((stepsOf P).length = P.length) := Lib.hid (by simp [stepsOf])
  have LK : Hid ((keysOf P).length = P.length) := Lib.hid (by simp [keysOf])
  obtain ⟨n, hn⟩ : ∃ n, n = (keysOf P).length := ⟨_, rfl⟩
  have HN := Lib.hid hn
  have hn60 : n ≤ 60 := by have := LK.out; omega
  rw [← hn]
  clear hput hs hk hb hoc hac hn
  conv => arg 2; whnf
  go_wp2_with fail
  conv => arg 2; whnf
  go_wp2_with fail
  go_loopw [17] (fun i wr => ∃ t : Nat, t ≤ n ∧ i = .int .i64 t ∧ Hid (∀ (u : Nat) (x : Int), u < t → (keysOf P)[u]? = some x → x < k) ∧ Hid (Ext w wr)) (fun i _ => n - (intOf i).toNat)
  case atStart => exact ⟨0, by omega, rfl, Lib.hid (fun u x h => by omega), Lib.hid (Below.refl _ _)⟩
  case round =>
    obtain ⟨t, ht, rfl, A1, X1⟩ := hrel
    by_cases hlt : t < n
    · obtain ⟨x, hx⟩ : ∃ x, (keysOf P)[t]? = some x := ⟨_, List.getElem?_eq_getElem (by have := HN.out; omega)⟩
      obtain ⟨kb, koff, rfl, hkb, hcell⟩ := HK.out (by intro e; rw [e] at hx; simp at hx)
      have d0 : wr.cell? ⟨kb, koff + t, none⟩ = some (.int .i64 x) := (X1.out.cell (p := ⟨kb, _, none⟩) hkb).trans (by have := hcell t x hx 0 _ rfl; simpa using this)
      have t0 : (0 : Int) ≤ (t : Int) := by omega
      have t1 : (t : Int) < (n : Int) := by omega
      have HX := Lib.hid hx
      clear hx hcell
      by_cases hs : x < k
      · have g1 : decide (x < k) = true := decide_eq_true hs
        have HXK := Lib.hid hs
        clear hs
        go_wp2_with fail
        go_roundw
        case rel =>
          refine ⟨t + 1, by omega, by go_num, Lib.hid (fun u y hu hy => ?_), X1⟩
          rcases Nat.lt_or_ge u t with h | h
          · exact A1.out u y h hy
          · obtain rfl : u = t := by omega
            rw [HX.out] at hy
            rw [← Option.some.inj hy]; exact HXK.out
        case measure => simp [intOf]; omega
      · have g1 : decide (x < k) = false := decide_eq_false hs
        have AT : Hid (∀ y, (keysOf P)[t]? = some y → ¬ y < k) := Lib.hid (fun y hy => by rw [HX.out] at hy; rw [← Option.some.inj hy]; exact hs)
        clear hs
        go_upto_region 28 with fail
        rw [HN.out]
        refine out_wp hpn (by assumption) (ks := keysOf P) (ss := stepsOf P) (by have := LS.out; omega) (by have := LS.out; have := HN.out; have := LK.out; omega) HOC.out (steps_put t k z P) ((HS.out.ext X1.out).mono X1.out.size) (HB.out.ext' X1.out) (by have := LK.out; omega) (by have := LK.out; have := HN.out; omega) HAC.out (keys_put t k z P) ((HK.out.ext X1.out).mono X1.out.size) ?_
        intro g135 g136 g137 g138 g139 g140 g141 g142 g143 g144 g145 g146 g147 g148 g149 g150 g151 g152 g153 g154 g155 g156 g157 g158 so so' c' c'' w' h1 h2 h3 h4 h5
        exact HP.out _ _ _ _ _ _ _ _ _ _ _ _ _ _ _ _ _ _ _ _ _ _ _ _ _ _ _ _ _ _ _ _ _ _ _ _ _ _ _ t so so' c' c'' w' (by have := LK.out; have := HN.out; omega) (plain_put (by have := LK.out; have := HN.out; omega) A1.out AT.out) h1 h2 h3 h4 (Ext.trans X1.out h5)
    · have g0 : decide ((t : Int) < (n : Int)) = false := decide_eq_false (by omega)
      have AT : Hid (∀ y, (keysOf P)[t]? = some y → ¬ y < k) := Lib.hid (fun y hy => by have := (List.getElem?_eq_some_iff.1 hy).1; have := HN.out; omega)
      go_upto_region 28 with fail
      rw [HN.out]
      refine out_wp hpn (by assumption) (ks := keysOf P) (ss := stepsOf P) (by have := LS.out; omega) (by have := LS.out; have := HN.out; have := LK.out; omega) HOC.out (steps_put t k z P) ((HS.out.ext X1.out).mono X1.out.size) (HB.out.ext' X1.out) (by have := LK.out; omega) (by have := LK.out; have := HN.out; omega) HAC.out (keys_put t k z P) ((HK.out.ext X1.out).mono X1.out.size) ?_
      intro g135 g136 g137 g138 g139 g140 g141 g142 g143 g144 g145 g146 g147 g148 g149 g150 g151 g152 g153 g154 g155 g156 g157 g158 so so' c' c'' w' h1 h2 h3 h4 h5
      exact HP.out _ _ _ _ _ _ _ _ _ _ _ _ _ _ _ _ _ _ _ _ _ _ _ _ _ _ _ _ _ _ _ _ _ _ _ _ _ _ _ t so so' c' c'' w' (by have := LK.out; have := HN.out; omega) (plain_put (by have := LK.out; have := HN.out; omega) A1.out AT.out) h1 h2 h3 h4 (Ext.trans X1.out h5)
end Go.Proofs.YtbnclifpdmpjnaaGreatDoor
