/- Behind the inner loop of the document's From: the call, the verdict, the step, its place. -/
import Derived.Test.YtbnclifpdmpjnaaGreatDoorZ38
import Derived.Deep.CutRange
import Derived.Deep.DeepCutAuto
namespace Go.Proofs.YtbnclifpdmpjnaaGreatDoor
open Go.RowKit
theorem sizeStepO : (Tryz.prog.info? 86).map (·.size) = some 6 := by kernel_rfl
theorem step_put_at {w : World} {ps N1 N2 : Nat} {cs0 : List Value} {z : StepZ} (hb : Blk w ps cs0 86) (hl : 6 = cs0.length) (h6 : w.ownsRow N1 114 4 (.slice z.ao z.d.acts.length z.ac) z.d.acts.length (z.d.acts.flatMap encAct)) (h9 : w.ownsRow N2 117 3 (.slice z.ro z.d.reads.length z.rc) z.d.reads.length (z.d.reads.flatMap encRd)) :
    Blk (w.setCells ps 0 (encStep z)) ps (encStep z) 86 ∧ z.at (w.setCells ps 0 (encStep z)).heap.size (w.setCells ps 0 (encStep z)) := by
  refine ⟨Blk.setAll hb hl, rows_of_own (fun _ => rfl) (own_but h6 (but_setAll _) (fun j hj e => ?_)), rows_of_own (fun _ => rfl) (own_but h9 (but_setAll _) (fun j hj e => ?_))⟩
  · subst e; exact own_ne h6 hb (by decide) hj
  · subst e; exact own_ne h9 hb (by decide) hj
theorem steps_at {P : List (Int × StepZ)} {t : Nat} {k : Int} {z : StepZ} {W : World} (h : ∀ y ∈ stepsOf P, y.at W.heap.size W) (hz : z.at W.heap.size W) : ∀ y ∈ stepsOf (putP t (k, z) P), y.at W.heap.size W := by
  intro y hy
  rw [← steps_put] at hy
  rcases List.mem_append.1 hy with hy | hy
  · rcases List.mem_append.1 hy with hy | hy
    · exact h y (List.mem_of_mem_take hy)
    · rw [List.mem_singleton] at hy; rw [hy]; exact hz
  · exact h y (List.mem_of_mem_drop hy)
set_option maxRecDepth 1000000 in
set_option maxHeartbeats 6400000 in
theorem rest_wp {Q0 : Exit → Act → World → Prop} (hpn : ∀ ch (a : Act) tmps w, Q0 (Exit.panic ch) ⟨tmps, a.defers⟩ w → Q0 (Exit.panic ch) a w) {K0 : Act → World → Prop} (KK : ∀ a w, Code.wp Tryz.prog behind20 Q0 a w → K0 a w) {l : List TaleZ} {D : List TaleD} {b off cap nb xb : Nat} {cl nm kx : Int} {zx : TaleZ} {P : List (Int × StepZ)} {ac oc : Nat} {aa oa : Option Addr} {w : World}
    (hD : D = l.map (·.d)) (hl : l.length ≤ 60) (hs : TalesAt w (some ⟨b, off, none⟩) l) (hok : ∀ z ∈ l, z.d.ok) (hn : Blk w nb [.int .i64 cl, .int .i64 nm] 26) (hb : Blk w xb (encTale zx) 39) (hz : zx.at w.heap.size w) (hzo : zx.d.ok)
    (hP : P.length ≤ 60) (hoc : (stepsOf P).length ≤ oc) (hac : (keysOf P).length ≤ ac) (hst : StepsAt w oa (stepsOf P)) (hk : Rows 1 encI w.heap.size w aa (keysOf P)) {c1 c2 c3 c6 c10 c11 c12 c13 c14 c15 c16 c17 c18 c19 c20 c21 c22 c23 c24 c25 c26 c27 c28 c29 c30 c31 c32 c33 c34 c35 c36 c37 c38 c39 c40 c41 c42 c43 c44 c45 c46 c47 c48 c49 c50 c51 c52 c53 c54 c55 c56 c57 c58 c59 c60 c61 c62 c63 c64 c65 c66 c67 c68 c69 c70 c71 c72 c73 c74 c75 c76 c77 c78 c79 c80 c81 c82 c83 c84 c85 c86 c87 c88 c89 c90 c91 c92 c93 c94 c95 c96 c97 c98 c99 c100 c101 c102 c103 c104 c105 c106 c107 c108 c109 c110 c111 c112 c113 c114 c115 c116 c117 c118 c119 c120 c121 c122 c123 c124 c125 c126 c127 c128 c129 c130 c131 c132 c133 c134 c135 c136 c137 c138 c139 c140 c141 c142 c143 c144 c145 c146 c147 c148 c149 c150 c151 c152 c153 c154 c155 c156 c157 c158 c159 : Value}
    (hcont : zx.d.commit = false → ∀ (g15 g92 g93 g94 g95 g96 g97 g98 g99 g100 g101 g102 g103 : Value) (w' : World), Ext w w' → Q0 (.exit 1) ⟨List.toArray (.slice (some ⟨b, off, none⟩) l.length cap :: c1 :: c2 :: c3 :: .slice oa (stepsOf P).length oc :: .slice aa (keysOf P).length ac :: c6 :: .pointer (some ⟨nb, 0, none⟩) :: .int .i64 kx :: .pointer (some ⟨xb, 0, none⟩) :: c10 :: c11 :: c12 :: c13 :: c14 :: g15 :: c16 :: c17 :: c18 :: c19 :: c20 :: c21 :: c22 :: c23 :: c24 :: c25 :: c26 :: c27 :: c28 :: c29 :: c30 :: c31 :: c32 :: c33 :: c34 :: c35 :: c36 :: c37 :: c38 :: c39 :: c40 :: c41 :: c42 :: c43 :: c44 :: c45 :: c46 :: c47 :: c48 :: c49 :: c50 :: c51 :: c52 :: c53 :: c54 :: c55 :: c56 :: c57 :: c58 :: c59 :: c60 :: c61 :: c62 :: c63 :: c64 :: c65 :: c66 :: c67 :: c68 :: c69 :: c70 :: c71 :: c72 :: c73 :: c74 :: c75 :: c76 :: c77 :: c78 :: c79 :: c80 :: c81 :: c82 :: c83 :: c84 :: c85 :: c86 :: c87 :: c88 :: c89 :: c90 :: c91 :: g92 :: g93 :: g94 :: g95 :: g96 :: g97 :: g98 :: g99 :: g100 :: g101 :: g102 :: g103 :: c104 :: c105 :: c106 :: c107 :: c108 :: c109 :: c110 :: c111 :: c112 :: c113 :: c114 :: c115 :: c116 :: c117 :: c118 :: c119 :: c120 :: c121 :: c122 :: c123 :: c124 :: c125 :: c126 :: c127 :: c128 :: c129 :: c130 :: c131 :: c132 :: c133 :: c134 :: c135 :: c136 :: c137 :: c138 :: c139 :: c140 :: c141 :: c142 :: c143 :: c144 :: c145 :: c146 :: c147 :: c148 :: c149 :: c150 :: c151 :: c152 :: c153 :: c154 :: c155 :: c156 :: c157 :: c158 :: c159 :: []), []⟩ w')
    (hnone : zx.d.commit = true → firstT D 1 (cl, nm) = none → ∀ (g15 g92 g93 g94 g95 g96 g97 g98 g99 g100 : Value) (w' : World), Ext w w' → Q0 .ret ⟨List.toArray (.slice (some ⟨b, off, none⟩) l.length cap :: c1 :: .slice none 0 0 :: .bool false :: .slice oa (stepsOf P).length oc :: .slice aa (keysOf P).length ac :: c6 :: .pointer (some ⟨nb, 0, none⟩) :: .int .i64 kx :: .pointer (some ⟨xb, 0, none⟩) :: c10 :: c11 :: c12 :: c13 :: c14 :: g15 :: c16 :: c17 :: c18 :: c19 :: c20 :: c21 :: c22 :: c23 :: c24 :: c25 :: c26 :: c27 :: c28 :: c29 :: c30 :: c31 :: c32 :: c33 :: c34 :: c35 :: c36 :: c37 :: c38 :: c39 :: c40 :: c41 :: c42 :: c43 :: c44 :: c45 :: c46 :: c47 :: c48 :: c49 :: c50 :: c51 :: c52 :: c53 :: c54 :: c55 :: c56 :: c57 :: c58 :: c59 :: c60 :: c61 :: c62 :: c63 :: c64 :: c65 :: c66 :: c67 :: c68 :: c69 :: c70 :: c71 :: c72 :: c73 :: c74 :: c75 :: c76 :: c77 :: c78 :: c79 :: c80 :: c81 :: c82 :: c83 :: c84 :: c85 :: c86 :: c87 :: c88 :: c89 :: c90 :: c91 :: g92 :: g93 :: g94 :: g95 :: g96 :: g97 :: g98 :: g99 :: g100 :: c101 :: c102 :: c103 :: c104 :: c105 :: c106 :: c107 :: c108 :: c109 :: c110 :: c111 :: c112 :: c113 :: c114 :: c115 :: c116 :: c117 :: c118 :: c119 :: c120 :: c121 :: c122 :: c123 :: c124 :: c125 :: c126 :: c127 :: c128 :: c129 :: c130 :: c131 :: c132 :: c133 :: c134 :: c135 :: c136 :: c137 :: c138 :: c139 :: c140 :: c141 :: c142 :: c143 :: c144 :: c145 :: c146 :: c147 :: c148 :: c149 :: c150 :: c151 :: c152 :: c153 :: c154 :: c155 :: c156 :: c157 :: c158 :: c159 :: []), []⟩ w')
    (hput : zx.d.commit = true → ∀ (c : Nat) (z : StepZ), firstT D 1 (cl, nm) = some c → z.d = stepT D (cl, nm) zx.d c → ∀ (g15 g16 g17 g92 g93 g94 g95 g96 g97 g98 g99 g100 g101 g102 g103 g104 g105 g106 g107 g108 g109 g110 g111 g112 g113 g114 g115 g116 g117 g118 g119 g120 g121 g122 g123 g124 g125 g126 g127 g128 g129 g130 g131 g132 g133 g134 g135 g136 g137 g138 g139 g140 g141 g142 g143 g144 g145 g146 g147 g148 g149 g150 g151 g152 g153 g154 g155 g156 g157 g158 : Value) (t : Nat) (so so' : Option Addr) (c' c'' : Nat) (w' : World), t ≤ P.length → putT (kx, z.d) (plainP P) = plainP (putP t (kx, z) P) → (stepsOf (putP t (kx, z) P)).length ≤ c' → (keysOf (putP t (kx, z) P)).length ≤ c'' → StepsAt w' so (stepsOf (putP t (kx, z) P)) → Rows 1 encI w'.heap.size w' so' (keysOf (putP t (kx, z) P)) → Ext w w' → Q0 .normal ⟨List.toArray (.slice (some ⟨b, off, none⟩) l.length cap :: c1 :: c2 :: c3 :: .slice so (stepsOf (putP t (kx, z) P)).length c' :: .slice so' (keysOf (putP t (kx, z) P)).length c'' :: c6 :: .pointer (some ⟨nb, 0, none⟩) :: .int .i64 kx :: .pointer (some ⟨xb, 0, none⟩) :: c10 :: c11 :: c12 :: c13 :: c14 :: g15 :: g16 :: g17 :: c18 :: c19 :: c20 :: c21 :: c22 :: c23 :: c24 :: c25 :: c26 :: c27 :: c28 :: c29 :: c30 :: c31 :: c32 :: c33 :: c34 :: c35 :: c36 :: c37 :: c38 :: c39 :: c40 :: c41 :: c42 :: c43 :: c44 :: c45 :: c46 :: c47 :: c48 :: c49 :: c50 :: c51 :: c52 :: c53 :: c54 :: c55 :: c56 :: c57 :: c58 :: c59 :: c60 :: c61 :: c62 :: c63 :: c64 :: c65 :: c66 :: c67 :: c68 :: c69 :: c70 :: c71 :: c72 :: c73 :: c74 :: c75 :: c76 :: c77 :: c78 :: c79 :: c80 :: c81 :: c82 :: c83 :: c84 :: c85 :: c86 :: c87 :: c88 :: c89 :: c90 :: c91 :: g92 :: g93 :: g94 :: g95 :: g96 :: g97 :: g98 :: g99 :: g100 :: g101 :: g102 :: g103 :: g104 :: g105 :: g106 :: g107 :: g108 :: g109 :: g110 :: g111 :: g112 :: g113 :: g114 :: g115 :: g116 :: g117 :: g118 :: g119 :: g120 :: g121 :: g122 :: g123 :: g124 :: g125 :: g126 :: g127 :: g128 :: g129 :: g130 :: g131 :: g132 :: g133 :: g134 :: g135 :: g136 :: g137 :: g138 :: g139 :: g140 :: g141 :: g142 :: g143 :: g144 :: g145 :: g146 :: g147 :: g148 :: g149 :: g150 :: g151 :: g152 :: g153 :: g154 :: g155 :: g156 :: g157 :: g158 :: c159 :: []), []⟩ w') :
    Code.wp Tryz.prog reg20 (Exit.then K0 Q0) ⟨List.toArray (.slice (some ⟨b, off, none⟩) l.length cap :: c1 :: c2 :: c3 :: .slice oa (stepsOf P).length oc :: .slice aa (keysOf P).length ac :: c6 :: .pointer (some ⟨nb, 0, none⟩) :: .int .i64 kx :: .pointer (some ⟨xb, 0, none⟩) :: c10 :: c11 :: c12 :: c13 :: c14 :: c15 :: c16 :: c17 :: c18 :: c19 :: c20 :: c21 :: c22 :: c23 :: c24 :: c25 :: c26 :: c27 :: c28 :: c29 :: c30 :: c31 :: c32 :: c33 :: c34 :: c35 :: c36 :: c37 :: c38 :: c39 :: c40 :: c41 :: c42 :: c43 :: c44 :: c45 :: c46 :: c47 :: c48 :: c49 :: c50 :: c51 :: c52 :: c53 :: c54 :: c55 :: c56 :: c57 :: c58 :: c59 :: c60 :: c61 :: c62 :: c63 :: c64 :: c65 :: c66 :: c67 :: c68 :: c69 :: c70 :: c71 :: c72 :: c73 :: c74 :: c75 :: c76 :: c77 :: c78 :: c79 :: c80 :: c81 :: c82 :: c83 :: c84 :: c85 :: c86 :: c87 :: c88 :: c89 :: c90 :: c91 :: c92 :: c93 :: c94 :: c95 :: c96 :: c97 :: c98 :: c99 :: c100 :: c101 :: c102 :: c103 :: c104 :: c105 :: c106 :: c107 :: c108 :: c109 :: c110 :: c111 :: c112 :: c113 :: c114 :: c115 :: c116 :: c117 :: c118 :: c119 :: c120 :: c121 :: c122 :: c123 :: c124 :: c125 :: c126 :: c127 :: c128 :: c129 :: c130 :: c131 :: c132 :: c133 :: c134 :: c135 :: c136 :: c137 :: c138 :: c139 :: c140 :: c141 :: c142 :: c143 :: c144 :: c145 :: c146 :: c147 :: c148 :: c149 :: c150 :: c151 :: c152 :: c153 :: c154 :: c155 :: c156 :: c157 :: c158 :: c159 :: []), []⟩ w := by
  have HD := Lib.hid hD; have ROWS := Lib.hid (fun W (hW : Ext w W) => hs.ext hW); have HOK := Lib.hid hok
  have BN := Lib.hid (fun W (hW : Ext w W) => hn.ext' hW); have BX := Lib.hid (fun W (hW : Ext w W) => hb.ext' hW)
  have ZX := Lib.hid (fun W (hW : Ext w W) => (hz.ext hW).mono hW.size); have ZXN : Hid (zx.d.reads.length ≤ 1000000) := Lib.hid (by have := hzo.rn; omega)
  have ST := Lib.hid (fun W (hW : Ext w W) => hst.ext hW); have HKR := Lib.hid (fun W (hW : Ext w W) => (hk.ext hW).mono hW.size)
  have HC := Lib.hid hcont; have HNO := Lib.hid hnone; have HPT := Lib.hid hput
  have HOC := Lib.hid hoc; have HAC := Lib.hid hac; have HPL := Lib.hid hP
  have FC := Lib.hid (refFirst_calls l (some ⟨b, off, none⟩) cap 1 cl nm w (by omega) hs.1)
  have F2 := Lib.hid (fun W (hW : Ext w W) => refFirst_calls l (some ⟨b, off, none⟩) cap 2 cl nm W (by omega) (hs.ext hW).1)
  rw [← hD] at FC F2
  have n0 := hn.cell 0; have n1 := hn.cell 1
  simp only [List.getElem?_cons_zero, List.getElem?_cons_succ] at n0 n1
  obtain ⟨F1, hF1⟩ : ∃ F1, firstT D 1 (cl, nm) = F1 := ⟨_, rfl⟩
  have HF1 := Lib.hid hF1
  rw [hF1] at FC
  obtain ⟨cm, hcm⟩ : ∃ cm, zx.d.commit = cm := ⟨_, rfl⟩
  have HCM := Lib.hid hcm
  have x8 := hb.cell 8
  rw [show (encTale zx)[8]? = some (.bool cm) from by rw [← hcm]; rfl] at x8
  clear hs hok hn hb hz hzo hP hoc hac hst hk hcont hnone hput hF1 hcm hD x8
  conv => arg 2; whnf
  go_wp2_with fail
  refine FC.out.mono ?_
  rintro e w1 ⟨rfl, hx1⟩
  have X1 := Lib.hid hx1
  clear hx1 FC n0 n1
  have x8 : w1.cell? ⟨xb, 8, none⟩ = some (.bool cm) := by
    have := (BX.out w1 X1.out).cell 8
    rw [show (encTale zx)[8]? = some (.bool cm) from by rw [← HCM.out]; rfl] at this
    exact this
  cases cm
  · go_wp2_with fail
    conv => arg 2; whnf
    go_wp2_with fail
    exact HC.out HCM.out _ _ _ _ _ _ _ _ _ _ _ _ _ _ X1.out
  · cases F1 with
    | none =>
      have e1 : posT none = -1 := rfl
      rw [e1]
      have g1 : decide ((-1 : Int) < 0) = true := rfl
      go_wp2_with fail
      conv => arg 2; whnf
      go_wp2_with fail
      exact HNO.out HCM.out HF1.out _ _ _ _ _ _ _ _ _ _ _ X1.out
    | some c =>
      have e1 : posT (some c) = (c : Int) := rfl
      rw [e1]
      have g1 : decide ((c : Int) < 0) = false := decide_eq_false (by omega)
      obtain ⟨y, hy, hyt⟩ := first_lt HF1.out
      obtain ⟨zc, hzc⟩ : ∃ zc, l[c]? = some zc := by
        rw [HD.out, List.getElem?_map] at hy
        cases h : l[c]? with
        | none => rw [h] at hy; cases hy
        | some zc => exact ⟨zc, rfl⟩
      have hzm := List.mem_of_getElem? hzc
      have hcl : c < l.length := (List.getElem?_eq_some_iff.1 hzc).1
      have ZC := Lib.hid (fun W (hW : Ext w W) => (ROWS.out W hW).2 zc hzm)
      have ZCN : Hid (zc.d.acts.length ≤ 1000000) := Lib.hid (by have := (HOK.out zc hzm).an; omega)
      have ACT : Hid (actsAt D c = zc.d.acts) := Lib.hid (by unfold actsAt; rw [HD.out, List.getElem?_map, hzc]; rfl)
      obtain ⟨b1, off1, e1', hb1, hcell⟩ := (ROWS.out w1 X1.out).1 (by intro e; rw [e] at hcl; simp at hcl)
      obtain ⟨rfl, rfl⟩ : b1 = b ∧ off1 = off := by
        have := Option.some.inj e1'
        simp only [Addr.mk.injEq] at this
        exact ⟨this.1.symm, this.2.1.symm⟩
      have d7 := ExtBy.cell (show w1.cell? ⟨b1, off1 + c * 18 + 7, none⟩ = some (.slice zc.ao zc.d.acts.length zc.ac) from hcell c zc hzc 7 _ rfl)
      have x9 := ExtBy.cell (show w1.cell? ⟨xb, 9, none⟩ = some (.slice zx.ro zx.d.reads.length zx.rc) from (BX.out w1 X1.out).cell 9)
      have bn := BN.out w1 X1.out
      have n0 := ExtBy.cell (show w1.cell? ⟨nb, 0, none⟩ = some (.int .i64 cl) from bn.cell 0); have n1 := ExtBy.cell (show w1.cell? ⟨nb, 1, none⟩ = some (.int .i64 nm) from bn.cell 1)
      have i0 : (0 : Int) ≤ (c : Int) := by omega
      have i1 : (c : Int) < (l.length : Int) := by omega
      have hw1 : IntKind.i64.wrap ((c : Int) + 1) = (c : Int) + 1 := IntWalk.i64_in _ (by omega)
      obtain ⟨p2, hp2⟩ : ∃ p2, posT (firstT D 2 (cl, nm)) = p2 := ⟨_, rfl⟩
      rw [hp2] at F2
      obtain ⟨T2, hT2⟩ : ∃ T2, timeT D 2 (cl, nm) = T2 := ⟨_, rfl⟩
      have HT2 := Lib.hid hT2
      have hw2 : IntKind.i64.wrap (p2 + 1) = T2 := by
        rw [← hT2, ← hp2]
        unfold timeT
        cases hf : firstT D 2 (cl, nm) with
        | none => rfl
        | some i =>
          obtain ⟨y2, hy2, _⟩ := first_lt hf
          have h2 := (List.getElem?_eq_some_iff.1 hy2).1
          rw [HD.out, List.length_map] at h2
          show IntKind.i64.wrap ((i : Int) + 1) = (i : Int) + 1
          exact IntWalk.i64_in _ (by omega)
      clear hy hyt hzc hzm hcell hb1 e1' bn hp2 hT2 hcl
      go_wp2_with fail
      conv => arg 2; whnf
      go_upto_region 24 with fail
      have ZC1 := Lib.hid (fun W (hW : Ext w1 W) => ZC.out W (Ext.trans X1.out hW)); have ZX1 := Lib.hid (fun W (hW : Ext w1 W) => ZX.out W (Ext.trans X1.out hW)); have F21 := Lib.hid (fun W (hW : Ext w1 W) => F2.out W (Ext.trans X1.out hW))
      have XD : Hid (Ext w1 w1.drew) := Lib.hid (Below.refl _ w1).drew
      refine wp_region_firstC (fun W => ∃ p : ExtBy w1, W = p.W) [0, 1, 2, 3, 4, 5, 7, 8, 10, 11, 12, 13] 7 (by kernel_rfl) (by kernel_rfl) hpn ⟨⟨w1.drew, XD.out⟩, rfl⟩ ?_
      simp only [opsAt, List.getElem?_toArray, List.getElem?_cons_succ, List.getElem?_cons_zero]
      repeat (go_big_quiet_step (fail))
      refine wpQuiet_nil ?_
      obtain ⟨wq, hwq⟩ : ∃ wq, wq = w1.drew := ⟨_, rfl⟩
      rw [← hwq] at XD ⊢
      have Xwq := XD
      clear hwq d7 x9 n0 n1 hw1 x8
      refine wpAnyH_ready (rs := [6, 17]) (by kernel_rfl) (by simp) ?_
      refine AllReadyH.cons rfl (fun K hK => ?_) (AllReadyH.cons rfl (fun K hK => ?_) AllReadyH.nil)
      · go_simp
        refine (copyActs_calls zc.d.acts zc.ao zc.ac wq ZCN.out ((ZC1.out _ Xwq.out).1)).mono ?_
        rintro e wa ⟨v6, rfl, hv6, -, hx⟩
        obtain ⟨o6, k6, rfl, -, -, -⟩ := Rows.own (enc := encAct) (sz := 4) (fun _ => rfl) hv6
        have R6 := Lib.hid hv6; have Xwa := Lib.hid (Ext.trans Xwq.out hx); have Ywa := Lib.hid hx
        clear hv6 hx
        refine hK.out _ _ ⟨⟨_, Xwa.out⟩, rfl⟩ (fun _ => ?_)
        clear hK K
        refine wpAnyH_ready (rs := [9, 17]) (by kernel_rfl) (by simp) ?_
        refine AllReadyH.cons rfl (fun K hK => ?_) (AllReadyH.cons rfl (fun K hK => ?_) AllReadyH.nil)
        · go_simp
          refine (copyReads_calls zx.d.reads zx.ro zx.rc wa ZXN.out ((ZX1.out _ Xwa.out).2)).mono ?_
          rintro e wb ⟨v9, rfl, hv9, -, hx⟩
          obtain ⟨o9, k9, rfl, -, -, -⟩ := Rows.own (enc := encRd) (sz := 3) (fun _ => rfl) hv9
          have R9 := Lib.hid hv9; have Xwb := Lib.hid (Ext.trans Xwa.out hx); have Ywb := Lib.hid hx
          clear hv9 hx
          refine hK.out _ _ ⟨⟨_, Xwb.out⟩, rfl⟩ (fun _ => ?_)
          clear hK K
          have R6 := Lib.hid (own_ext R6.out Ywb.out)
          refine wpAnyH_ready (rs := [14, 17]) (by kernel_rfl) (by simp) ?_
          refine AllReadyH.cons rfl (fun K hK => ?_) (AllReadyH.cons rfl (fun K hK => ?_) AllReadyH.nil)
          · go_simp
            refine (F21.out _ Xwb.out).mono ?_
            rintro e wc ⟨rfl, hx⟩
            have Xwc := Lib.hid (Ext.trans Xwb.out hx); have Ywc := Lib.hid hx
            clear hx
            refine hK.out _ _ ⟨⟨_, Xwc.out⟩, rfl⟩ (fun _ => ?_)
            clear hK K
            have R6 := Lib.hid (own_ext R6.out Ywc.out)
            have R9 := Lib.hid (own_ext R9.out Ywc.out)
            refine wp_takesC (f := 2) [15, 16] (by kernel_rfl) hpn ⟨⟨_, Xwc.out⟩, rfl⟩ ?_
            simp only [opsAt, List.getElem?_toArray, List.getElem?_cons_succ, List.getElem?_cons_zero]
            repeat (go_big_quiet_step (fail))
            refine wpQuiet_nil ?_
            refine wpAnyH_ready (rs := [17]) (by kernel_rfl) (by simp) ?_
            refine AllReadyH.cons rfl (fun K hK => ?_) AllReadyH.nil
            go_simp
            obtain ⟨wd, hN⟩ : ∃ wd, wd = wc.alloc (.cells #[.int .i64 0, .int .i64 0, .slice none 0 0, .slice none 0 0, .int .i64 0, .int .i64 0] 86) := ⟨_, rfl⟩
            have Ywd : Hid (Ext wc wd) := Lib.hid (by rw [hN]; exact (Below.refl _ wc).alloc (Nat.le_refl _) _)
            have Xwd := Lib.hid (Ext.trans Xwc.out Ywd.out)
            have OB := Lib.hid (Blk.new wc [.int .i64 0, .int .i64 0, .slice none 0 0, .slice none 0 0, .int .i64 0, .int .i64 0] 86)
            obtain ⟨ps, hps⟩ : ∃ ps, ps = wc.heap.size := ⟨_, rfl⟩
            have PS : Hid (w1.heap.size ≤ ps) := Lib.hid (by rw [hps]; exact Xwc.out.size)
            rw [← hN, ← hps] at OB
            rw [← hN, ← hps]
            refine hK.out _ _ ⟨⟨_, Xwd.out⟩, rfl⟩ (fun _ => ?_)
            clear hK K
            clear hN hps
            have R6 := Lib.hid (own_ext R6.out Ywd.out)
            have R9 := Lib.hid (own_ext R9.out Ywd.out)
            refine wpAnyH_ready (rs := [18]) (by kernel_rfl) (by simp) ?_
            refine AllReadyH.cons rfl (fun K hK => ?_) AllReadyH.nil
            refine step_store_mid rfl 86 (.tmp 16) (.tmp 120) rfl ps 0 (encStep (⟨⟨cl, nm, zc.d.acts, zx.d.reads, (c : Int) + 1, T2⟩, o6, k6, o9, k9⟩ : StepZ)).toArray rfl rfl (by have h : World.there wd ps 0 6 := there_blk OB.out; exact h) sizeStepO (all_oneCell_toArray (one_step _)) ?_
            obtain ⟨we, hN⟩ : ∃ we, we = wd.setCells ps 0 (encStep (⟨⟨cl, nm, zc.d.acts, zx.d.reads, (c : Int) + 1, T2⟩, o6, k6, o9, k9⟩ : StepZ)) := ⟨_, rfl⟩
            have Xwe : Hid (Ext w1 we) := Lib.hid (by rw [hN]; exact Below.trans Xwd.out ((but_setAll _).below Xwd.out.size (fun i e => by rw [e]; exact PS.out)))
            obtain ⟨hbs, hza⟩ := step_put_at (z := (⟨⟨cl, nm, zc.d.acts, zx.d.reads, (c : Int) + 1, T2⟩, o6, k6, o9, k9⟩ : StepZ)) OB.out rfl R6.out R9.out
            rw [← hN] at hbs hza
            have BS := Lib.hid hbs; have ZAT := Lib.hid hza
            clear hbs hza
            change K _ (wd.setCells ps 0 (encStep (⟨⟨cl, nm, zc.d.acts, zx.d.reads, (c : Int) + 1, T2⟩, o6, k6, o9, k9⟩ : StepZ)))
            rw [← hN]
            clear hN
            go_simp
            refine hK.out _ _ ⟨⟨_, Xwe.out⟩, rfl⟩ (fun _ => ?_)
            clear hK K
            refine wpAnyH_done (by kernel_rfl) ?_ _
            go_upto_region 25 with fail
            refine place_wp hpn (by assumption) (z := (⟨⟨cl, nm, zc.d.acts, zx.d.reads, (c : Int) + 1, T2⟩, o6, k6, o9, k9⟩ : StepZ)) HPL.out HOC.out HAC.out (ST.out we (Ext.trans X1.out Xwe.out)).1 (HKR.out we (Ext.trans X1.out Xwe.out)) BS.out ?_
            intro g17 g121 g122 g123 g124 g125 g126 g127 g128 g129 g130 g131 g132 g133 g134 g135 g136 g137 g138 g139 g140 g141 g142 g143 g144 g145 g146 g147 g148 g149 g150 g151 g152 g153 g154 g155 g156 g157 g158 t so so' c' c'' w' h1 h2 h3 h4 h5 h6 h7
            exact HPT.out HCM.out c (⟨⟨cl, nm, zc.d.acts, zx.d.reads, (c : Int) + 1, T2⟩, o6, k6, o9, k9⟩ : StepZ) HF1.out (by unfold stepT; rw [ACT.out, HT2.out]) _ _ _ _ _ _ _ _ _ _ _ _ _ _ _ _ _ _ _ _ _ _ _ _ _ _ _ _ _ _ _ _ _ _ _ _ _ _ _ _ _ _ _ _ _ _ _ _ _ _ _ _ _ _ _ _ _ _ _ _ _ _ _ _ _ _ _ _ _ _ t so so' c' c'' w' h1 h2 h3 h4 ⟨h5, steps_at (fun y hy => (ST.out w' (Ext.trans X1.out (Ext.trans Xwe.out h7))).2 y hy) ((ZAT.out.ext h7).mono h7.size)⟩ h6 (Ext.trans X1.out (Ext.trans Xwe.out h7))
          · go_simp
            obtain ⟨wd, hN⟩ : ∃ wd, wd = wb.alloc (.cells #[.int .i64 0, .int .i64 0, .slice none 0 0, .slice none 0 0, .int .i64 0, .int .i64 0] 86) := ⟨_, rfl⟩
            have Ywd : Hid (Ext wb wd) := Lib.hid (by rw [hN]; exact (Below.refl _ wb).alloc (Nat.le_refl _) _)
            have Xwd := Lib.hid (Ext.trans Xwb.out Ywd.out)
            have OB := Lib.hid (Blk.new wb [.int .i64 0, .int .i64 0, .slice none 0 0, .slice none 0 0, .int .i64 0, .int .i64 0] 86)
            obtain ⟨ps, hps⟩ : ∃ ps, ps = wb.heap.size := ⟨_, rfl⟩
            have PS : Hid (w1.heap.size ≤ ps) := Lib.hid (by rw [hps]; exact Xwb.out.size)
            rw [← hN, ← hps] at OB
            rw [← hN, ← hps]
            refine hK.out _ _ ⟨⟨_, Xwd.out⟩, rfl⟩ (fun _ => ?_)
            clear hK K
            clear hN hps
            have R6 := Lib.hid (own_ext R6.out Ywd.out)
            have R9 := Lib.hid (own_ext R9.out Ywd.out)
            refine wpAnyH_ready (rs := [14]) (by kernel_rfl) (by simp) ?_
            refine AllReadyH.cons rfl (fun K hK => ?_) AllReadyH.nil
            go_simp
            refine (F21.out _ Xwd.out).mono ?_
            rintro e wc ⟨rfl, hx⟩
            have Xwc := Lib.hid (Ext.trans Xwd.out hx); have Ywc := Lib.hid hx
            clear hx
            refine hK.out _ _ ⟨⟨_, Xwc.out⟩, rfl⟩ (fun _ => ?_)
            clear hK K
            have R6 := Lib.hid (own_ext R6.out Ywc.out)
            have R9 := Lib.hid (own_ext R9.out Ywc.out)
            have OB := Lib.hid (OB.out.ext' Ywc.out)
            refine wp_takesC (f := 1) [15, 16] (by kernel_rfl) hpn ⟨⟨_, Xwc.out⟩, rfl⟩ ?_
            simp only [opsAt, List.getElem?_toArray, List.getElem?_cons_succ, List.getElem?_cons_zero]
            repeat (go_big_quiet_step (fail))
            refine wpQuiet_nil ?_
            refine wpAnyH_ready (rs := [18]) (by kernel_rfl) (by simp) ?_
            refine AllReadyH.cons rfl (fun K hK => ?_) AllReadyH.nil
            refine step_store_mid rfl 86 (.tmp 16) (.tmp 120) rfl ps 0 (encStep (⟨⟨cl, nm, zc.d.acts, zx.d.reads, (c : Int) + 1, T2⟩, o6, k6, o9, k9⟩ : StepZ)).toArray rfl rfl (by have h : World.there wc ps 0 6 := there_blk OB.out; exact h) sizeStepO (all_oneCell_toArray (one_step _)) ?_
            obtain ⟨we, hN⟩ : ∃ we, we = wc.setCells ps 0 (encStep (⟨⟨cl, nm, zc.d.acts, zx.d.reads, (c : Int) + 1, T2⟩, o6, k6, o9, k9⟩ : StepZ)) := ⟨_, rfl⟩
            have Xwe : Hid (Ext w1 we) := Lib.hid (by rw [hN]; exact Below.trans Xwc.out ((but_setAll _).below Xwc.out.size (fun i e => by rw [e]; exact PS.out)))
            obtain ⟨hbs, hza⟩ := step_put_at (z := (⟨⟨cl, nm, zc.d.acts, zx.d.reads, (c : Int) + 1, T2⟩, o6, k6, o9, k9⟩ : StepZ)) OB.out rfl R6.out R9.out
            rw [← hN] at hbs hza
            have BS := Lib.hid hbs; have ZAT := Lib.hid hza
            clear hbs hza
            change K _ (wc.setCells ps 0 (encStep (⟨⟨cl, nm, zc.d.acts, zx.d.reads, (c : Int) + 1, T2⟩, o6, k6, o9, k9⟩ : StepZ)))
            rw [← hN]
            clear hN
            go_simp
            refine hK.out _ _ ⟨⟨_, Xwe.out⟩, rfl⟩ (fun _ => ?_)
            clear hK K
            refine wpAnyH_done (by kernel_rfl) ?_ _
            go_upto_region 25 with fail
            refine place_wp hpn (by assumption) (z := (⟨⟨cl, nm, zc.d.acts, zx.d.reads, (c : Int) + 1, T2⟩, o6, k6, o9, k9⟩ : StepZ)) HPL.out HOC.out HAC.out (ST.out we (Ext.trans X1.out Xwe.out)).1 (HKR.out we (Ext.trans X1.out Xwe.out)) BS.out ?_
            intro g17 g121 g122 g123 g124 g125 g126 g127 g128 g129 g130 g131 g132 g133 g134 g135 g136 g137 g138 g139 g140 g141 g142 g143 g144 g145 g146 g147 g148 g149 g150 g151 g152 g153 g154 g155 g156 g157 g158 t so so' c' c'' w' h1 h2 h3 h4 h5 h6 h7
            exact HPT.out HCM.out c (⟨⟨cl, nm, zc.d.acts, zx.d.reads, (c : Int) + 1, T2⟩, o6, k6, o9, k9⟩ : StepZ) HF1.out (by unfold stepT; rw [ACT.out, HT2.out]) _ _ _ _ _ _ _ _ _ _ _ _ _ _ _ _ _ _ _ _ _ _ _ _ _ _ _ _ _ _ _ _ _ _ _ _ _ _ _ _ _ _ _ _ _ _ _ _ _ _ _ _ _ _ _ _ _ _ _ _ _ _ _ _ _ _ _ _ _ _ t so so' c' c'' w' h1 h2 h3 h4 ⟨h5, steps_at (fun y hy => (ST.out w' (Ext.trans X1.out (Ext.trans Xwe.out h7))).2 y hy) ((ZAT.out.ext h7).mono h7.size)⟩ h6 (Ext.trans X1.out (Ext.trans Xwe.out h7))
        · go_simp
          obtain ⟨wd, hN⟩ : ∃ wd, wd = wa.alloc (.cells #[.int .i64 0, .int .i64 0, .slice none 0 0, .slice none 0 0, .int .i64 0, .int .i64 0] 86) := ⟨_, rfl⟩
          have Ywd : Hid (Ext wa wd) := Lib.hid (by rw [hN]; exact (Below.refl _ wa).alloc (Nat.le_refl _) _)
          have Xwd := Lib.hid (Ext.trans Xwa.out Ywd.out)
          have OB := Lib.hid (Blk.new wa [.int .i64 0, .int .i64 0, .slice none 0 0, .slice none 0 0, .int .i64 0, .int .i64 0] 86)
          obtain ⟨ps, hps⟩ : ∃ ps, ps = wa.heap.size := ⟨_, rfl⟩
          have PS : Hid (w1.heap.size ≤ ps) := Lib.hid (by rw [hps]; exact Xwa.out.size)
          rw [← hN, ← hps] at OB
          rw [← hN, ← hps]
          refine hK.out _ _ ⟨⟨_, Xwd.out⟩, rfl⟩ (fun _ => ?_)
          clear hK K
          clear hN hps
          have R6 := Lib.hid (own_ext R6.out Ywd.out)
          refine wpAnyH_ready (rs := [9]) (by kernel_rfl) (by simp) ?_
          refine AllReadyH.cons rfl (fun K hK => ?_) AllReadyH.nil
          go_simp
          refine (copyReads_calls zx.d.reads zx.ro zx.rc wd ZXN.out ((ZX1.out _ Xwd.out).2)).mono ?_
          rintro e wb ⟨v9, rfl, hv9, -, hx⟩
          obtain ⟨o9, k9, rfl, -, -, -⟩ := Rows.own (enc := encRd) (sz := 3) (fun _ => rfl) hv9
          have R9 := Lib.hid hv9; have Xwb := Lib.hid (Ext.trans Xwd.out hx); have Ywb := Lib.hid hx
          clear hv9 hx
          refine hK.out _ _ ⟨⟨_, Xwb.out⟩, rfl⟩ (fun _ => ?_)
          clear hK K
          have R6 := Lib.hid (own_ext R6.out Ywb.out)
          have OB := Lib.hid (OB.out.ext' Ywb.out)
          refine wpAnyH_ready (rs := [14]) (by kernel_rfl) (by simp) ?_
          refine AllReadyH.cons rfl (fun K hK => ?_) AllReadyH.nil
          go_simp
          refine (F21.out _ Xwb.out).mono ?_
          rintro e wc ⟨rfl, hx⟩
          have Xwc := Lib.hid (Ext.trans Xwb.out hx); have Ywc := Lib.hid hx
          clear hx
          refine hK.out _ _ ⟨⟨_, Xwc.out⟩, rfl⟩ (fun _ => ?_)
          clear hK K
          have R6 := Lib.hid (own_ext R6.out Ywc.out)
          have OB := Lib.hid (OB.out.ext' Ywc.out)
          have R9 := Lib.hid (own_ext R9.out Ywc.out)
          refine wp_takesC (f := 1) [15, 16] (by kernel_rfl) hpn ⟨⟨_, Xwc.out⟩, rfl⟩ ?_
          simp only [opsAt, List.getElem?_toArray, List.getElem?_cons_succ, List.getElem?_cons_zero]
          repeat (go_big_quiet_step (fail))
          refine wpQuiet_nil ?_
          refine wpAnyH_ready (rs := [18]) (by kernel_rfl) (by simp) ?_
          refine AllReadyH.cons rfl (fun K hK => ?_) AllReadyH.nil
          refine step_store_mid rfl 86 (.tmp 16) (.tmp 120) rfl ps 0 (encStep (⟨⟨cl, nm, zc.d.acts, zx.d.reads, (c : Int) + 1, T2⟩, o6, k6, o9, k9⟩ : StepZ)).toArray rfl rfl (by have h : World.there wc ps 0 6 := there_blk OB.out; exact h) sizeStepO (all_oneCell_toArray (one_step _)) ?_
          obtain ⟨we, hN⟩ : ∃ we, we = wc.setCells ps 0 (encStep (⟨⟨cl, nm, zc.d.acts, zx.d.reads, (c : Int) + 1, T2⟩, o6, k6, o9, k9⟩ : StepZ)) := ⟨_, rfl⟩
          have Xwe : Hid (Ext w1 we) := Lib.hid (by rw [hN]; exact Below.trans Xwc.out ((but_setAll _).below Xwc.out.size (fun i e => by rw [e]; exact PS.out)))
          obtain ⟨hbs, hza⟩ := step_put_at (z := (⟨⟨cl, nm, zc.d.acts, zx.d.reads, (c : Int) + 1, T2⟩, o6, k6, o9, k9⟩ : StepZ)) OB.out rfl R6.out R9.out
          rw [← hN] at hbs hza
          have BS := Lib.hid hbs; have ZAT := Lib.hid hza
          clear hbs hza
          change K _ (wc.setCells ps 0 (encStep (⟨⟨cl, nm, zc.d.acts, zx.d.reads, (c : Int) + 1, T2⟩, o6, k6, o9, k9⟩ : StepZ)))
          rw [← hN]
          clear hN
          go_simp
          refine hK.out _ _ ⟨⟨_, Xwe.out⟩, rfl⟩ (fun _ => ?_)
          clear hK K
          refine wpAnyH_done (by kernel_rfl) ?_ _
          go_upto_region 25 with fail
          refine place_wp hpn (by assumption) (z := (⟨⟨cl, nm, zc.d.acts, zx.d.reads, (c : Int) + 1, T2⟩, o6, k6, o9, k9⟩ : StepZ)) HPL.out HOC.out HAC.out (ST.out we (Ext.trans X1.out Xwe.out)).1 (HKR.out we (Ext.trans X1.out Xwe.out)) BS.out ?_
          intro g17 g121 g122 g123 g124 g125 g126 g127 g128 g129 g130 g131 g132 g133 g134 g135 g136 g137 g138 g139 g140 g141 g142 g143 g144 g145 g146 g147 g148 g149 g150 g151 g152 g153 g154 g155 g156 g157 g158 t so so' c' c'' w' h1 h2 h3 h4 h5 h6 h7
          exact HPT.out HCM.out c (⟨⟨cl, nm, zc.d.acts, zx.d.reads, (c : Int) + 1, T2⟩, o6, k6, o9, k9⟩ : StepZ) HF1.out (by unfold stepT; rw [ACT.out, HT2.out]) _ _ _ _ _ _ _ _ _ _ _ _ _ _ _ _ _ _ _ _ _ _ _ _ _ _ _ _ _ _ _ _ _ _ _ _ _ _ _ _ _ _ _ _ _ _ _ _ _ _ _ _ _ _ _ _ _ _ _ _ _ _ _ _ _ _ _ _ _ _ t so so' c' c'' w' h1 h2 h3 h4 ⟨h5, steps_at (fun y hy => (ST.out w' (Ext.trans X1.out (Ext.trans Xwe.out h7))).2 y hy) ((ZAT.out.ext h7).mono h7.size)⟩ h6 (Ext.trans X1.out (Ext.trans Xwe.out h7))
      · go_simp
        obtain ⟨wd, hN⟩ : ∃ wd, wd = wq.alloc (.cells #[.int .i64 0, .int .i64 0, .slice none 0 0, .slice none 0 0, .int .i64 0, .int .i64 0] 86) := ⟨_, rfl⟩
        have Ywd : Hid (Ext wq wd) := Lib.hid (by rw [hN]; exact (Below.refl _ wq).alloc (Nat.le_refl _) _)
        have Xwd := Lib.hid (Ext.trans Xwq.out Ywd.out)
        have OB := Lib.hid (Blk.new wq [.int .i64 0, .int .i64 0, .slice none 0 0, .slice none 0 0, .int .i64 0, .int .i64 0] 86)
        obtain ⟨ps, hps⟩ : ∃ ps, ps = wq.heap.size := ⟨_, rfl⟩
        have PS : Hid (w1.heap.size ≤ ps) := Lib.hid (by rw [hps]; exact Xwq.out.size)
        rw [← hN, ← hps] at OB
        rw [← hN, ← hps]
        refine hK.out _ _ ⟨⟨_, Xwd.out⟩, rfl⟩ (fun _ => ?_)
        clear hK K
        clear hN hps
        refine wpAnyH_ready (rs := [6]) (by kernel_rfl) (by simp) ?_
        refine AllReadyH.cons rfl (fun K hK => ?_) AllReadyH.nil
        go_simp
        refine (copyActs_calls zc.d.acts zc.ao zc.ac wd ZCN.out ((ZC1.out _ Xwd.out).1)).mono ?_
        rintro e wa ⟨v6, rfl, hv6, -, hx⟩
        obtain ⟨o6, k6, rfl, -, -, -⟩ := Rows.own (enc := encAct) (sz := 4) (fun _ => rfl) hv6
        have R6 := Lib.hid hv6; have Xwa := Lib.hid (Ext.trans Xwd.out hx); have Ywa := Lib.hid hx
        clear hv6 hx
        refine hK.out _ _ ⟨⟨_, Xwa.out⟩, rfl⟩ (fun _ => ?_)
        clear hK K
        have OB := Lib.hid (OB.out.ext' Ywa.out)
        refine wpAnyH_ready (rs := [9]) (by kernel_rfl) (by simp) ?_
        refine AllReadyH.cons rfl (fun K hK => ?_) AllReadyH.nil
        go_simp
        refine (copyReads_calls zx.d.reads zx.ro zx.rc wa ZXN.out ((ZX1.out _ Xwa.out).2)).mono ?_
        rintro e wb ⟨v9, rfl, hv9, -, hx⟩
        obtain ⟨o9, k9, rfl, -, -, -⟩ := Rows.own (enc := encRd) (sz := 3) (fun _ => rfl) hv9
        have R9 := Lib.hid hv9; have Xwb := Lib.hid (Ext.trans Xwa.out hx); have Ywb := Lib.hid hx
        clear hv9 hx
        refine hK.out _ _ ⟨⟨_, Xwb.out⟩, rfl⟩ (fun _ => ?_)
        clear hK K
        have OB := Lib.hid (OB.out.ext' Ywb.out)
        have R6 := Lib.hid (own_ext R6.out Ywb.out)
        refine wpAnyH_ready (rs := [14]) (by kernel_rfl) (by simp) ?_
        refine AllReadyH.cons rfl (fun K hK => ?_) AllReadyH.nil
        go_simp
        refine (F21.out _ Xwb.out).mono ?_
        rintro e wc ⟨rfl, hx⟩
        have Xwc := Lib.hid (Ext.trans Xwb.out hx); have Ywc := Lib.hid hx
        clear hx
        refine hK.out _ _ ⟨⟨_, Xwc.out⟩, rfl⟩ (fun _ => ?_)
        clear hK K
        have OB := Lib.hid (OB.out.ext' Ywc.out)
        have R6 := Lib.hid (own_ext R6.out Ywc.out)
        have R9 := Lib.hid (own_ext R9.out Ywc.out)
        refine wp_takesC (f := 1) [15, 16] (by kernel_rfl) hpn ⟨⟨_, Xwc.out⟩, rfl⟩ ?_
        simp only [opsAt, List.getElem?_toArray, List.getElem?_cons_succ, List.getElem?_cons_zero]
        repeat (go_big_quiet_step (fail))
        refine wpQuiet_nil ?_
        refine wpAnyH_ready (rs := [18]) (by kernel_rfl) (by simp) ?_
        refine AllReadyH.cons rfl (fun K hK => ?_) AllReadyH.nil
        refine step_store_mid rfl 86 (.tmp 16) (.tmp 120) rfl ps 0 (encStep (⟨⟨cl, nm, zc.d.acts, zx.d.reads, (c : Int) + 1, T2⟩, o6, k6, o9, k9⟩ : StepZ)).toArray rfl rfl (by have h : World.there wc ps 0 6 := there_blk OB.out; exact h) sizeStepO (all_oneCell_toArray (one_step _)) ?_
        obtain ⟨we, hN⟩ : ∃ we, we = wc.setCells ps 0 (encStep (⟨⟨cl, nm, zc.d.acts, zx.d.reads, (c : Int) + 1, T2⟩, o6, k6, o9, k9⟩ : StepZ)) := ⟨_, rfl⟩
        have Xwe : Hid (Ext w1 we) := Lib.hid (by rw [hN]; exact Below.trans Xwc.out ((but_setAll _).below Xwc.out.size (fun i e => by rw [e]; exact PS.out)))
        obtain ⟨hbs, hza⟩ := step_put_at (z := (⟨⟨cl, nm, zc.d.acts, zx.d.reads, (c : Int) + 1, T2⟩, o6, k6, o9, k9⟩ : StepZ)) OB.out rfl R6.out R9.out
        rw [← hN] at hbs hza
        have BS := Lib.hid hbs; have ZAT := Lib.hid hza
        clear hbs hza
        change K _ (wc.setCells ps 0 (encStep (⟨⟨cl, nm, zc.d.acts, zx.d.reads, (c : Int) + 1, T2⟩, o6, k6, o9, k9⟩ : StepZ)))
        rw [← hN]
        clear hN
        go_simp
        refine hK.out _ _ ⟨⟨_, Xwe.out⟩, rfl⟩ (fun _ => ?_)
        clear hK K
        refine wpAnyH_done (by kernel_rfl) ?_ _
        go_upto_region 25 with fail
        refine place_wp hpn (by assumption) (z := (⟨⟨cl, nm, zc.d.acts, zx.d.reads, (c : Int) + 1, T2⟩, o6, k6, o9, k9⟩ : StepZ)) HPL.out HOC.out HAC.out (ST.out we (Ext.trans X1.out Xwe.out)).1 (HKR.out we (Ext.trans X1.out Xwe.out)) BS.out ?_
        intro g17 g121 g122 g123 g124 g125 g126 g127 g128 g129 g130 g131 g132 g133 g134 g135 g136 g137 g138 g139 g140 g141 g142 g143 g144 g145 g146 g147 g148 g149 g150 g151 g152 g153 g154 g155 g156 g157 g158 t so so' c' c'' w' h1 h2 h3 h4 h5 h6 h7
        exact HPT.out HCM.out c (⟨⟨cl, nm, zc.d.acts, zx.d.reads, (c : Int) + 1, T2⟩, o6, k6, o9, k9⟩ : StepZ) HF1.out (by unfold stepT; rw [ACT.out, HT2.out]) _ _ _ _ _ _ _ _ _ _ _ _ _ _ _ _ _ _ _ _ _ _ _ _ _ _ _ _ _ _ _ _ _ _ _ _ _ _ _ _ _ _ _ _ _ _ _ _ _ _ _ _ _ _ _ _ _ _ _ _ _ _ _ _ _ _ _ _ _ _ t so so' c' c'' w' h1 h2 h3 h4 ⟨h5, steps_at (fun y hy => (ST.out w' (Ext.trans X1.out (Ext.trans Xwe.out h7))).2 y hy) ((ZAT.out.ext h7).mono h7.size)⟩ h6 (Ext.trans X1.out (Ext.trans Xwe.out h7))
end Go.Proofs.YtbnclifpdmpjnaaGreatDoor
