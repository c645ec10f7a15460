/- WitnessTales: its regions that put rows of tales behind rows. -/
import Derived.Test.YtbnclifpdmpjnaaGreatDoorZ49
namespace Go.Proofs.YtbnclifpdmpjnaaGreatDoor
open Go.RowKit
set_option maxRecDepth 1000000 in
set_option maxHeartbeats 6400000 in
theorem tr9_wp {Q0 : Exit → Act → World → Prop} (hpn : ∀ ch (a : Act) tmps w, Q0 (Exit.panic ch) ⟨tmps, a.defers⟩ w → Q0 (Exit.panic ch) a w) {L m : List TaleZ} {i lb off : Nat} {w : World} (hL : L.length = 8) (hi : i < 8) (hr : Rows 18 encTale w.heap.size w (some ⟨lb, off, none⟩) L) (hm : L.take i ++ L.drop (i + 1) = m) {c0 c1 c2 c5 c6 c7 c8 c9 c10 c11 c12 c13 c14 c15 c16 c17 c18 c19 c20 c21 c22 c23 c24 c25 c26 c27 c28 c29 c30 c31 c32 c33 c34 c35 c36 c37 c38 c39 c40 c41 c42 c43 c44 c45 c46 c47 c48 c49 c50 c51 c52 c53 c54 c55 c56 c57 c58 c59 c60 c61 c62 c63 c64 c65 c66 c67 c68 c69 c70 c71 c72 c73 c74 c75 c76 c77 c78 c79 c80 c81 c82 c83 c84 c85 c86 c87 c88 c89 c90 c91 c92 c93 c94 c95 c96 c97 c98 c99 c100 c101 c102 c103 c104 c105 c106 c107 c108 c109 c110 c111 c112 c113 c114 c115 c116 c117 c118 c119 c120 c121 c122 c123 c124 c125 c126 c127 c128 c129 c130 c131 c132 c133 c134 c135 c136 c137 c138 c139 c140 c141 c142 c143 c144 c145 c146 c147 c148 c149 c150 c151 c152 c153 c154 c155 c156 c157 c158 c159 c160 c161 c162 c163 c164 c165 c166 c167 : Value}
    (hput : ∀ (g61 g62 g63 g64 g65 g66 g67 g68 g69 g70 : Value) (so : Option Addr) (c' : Nat) (w' : World), m.length ≤ c' → Rows 18 encTale w'.heap.size w' so m → Ext w w' → Q0 .normal ⟨List.toArray (c0 :: c1 :: c2 :: .slice (some ⟨lb, off, none⟩) 8 8 :: .int .i64 (i : Int) :: c5 :: .slice so m.length c' :: c7 :: c8 :: c9 :: c10 :: c11 :: c12 :: c13 :: c14 :: c15 :: c16 :: c17 :: c18 :: c19 :: c20 :: c21 :: c22 :: c23 :: c24 :: c25 :: c26 :: c27 :: c28 :: c29 :: c30 :: c31 :: c32 :: c33 :: c34 :: c35 :: c36 :: c37 :: c38 :: c39 :: c40 :: c41 :: c42 :: c43 :: c44 :: c45 :: c46 :: c47 :: c48 :: c49 :: c50 :: c51 :: c52 :: c53 :: c54 :: c55 :: c56 :: c57 :: c58 :: c59 :: c60 :: g61 :: g62 :: g63 :: g64 :: g65 :: g66 :: g67 :: g68 :: g69 :: g70 :: c71 :: c72 :: c73 :: c74 :: c75 :: c76 :: c77 :: c78 :: c79 :: c80 :: c81 :: c82 :: c83 :: c84 :: c85 :: c86 :: c87 :: c88 :: c89 :: c90 :: c91 :: c92 :: c93 :: c94 :: c95 :: c96 :: c97 :: c98 :: c99 :: c100 :: c101 :: c102 :: c103 :: c104 :: c105 :: c106 :: c107 :: c108 :: c109 :: c110 :: c111 :: c112 :: c113 :: c114 :: c115 :: c116 :: c117 :: c118 :: c119 :: c120 :: c121 :: c122 :: c123 :: c124 :: c125 :: c126 :: c127 :: c128 :: c129 :: c130 :: c131 :: c132 :: c133 :: c134 :: c135 :: c136 :: c137 :: c138 :: c139 :: c140 :: c141 :: c142 :: c143 :: c144 :: c145 :: c146 :: c147 :: c148 :: c149 :: c150 :: c151 :: c152 :: c153 :: c154 :: c155 :: c156 :: c157 :: c158 :: c159 :: c160 :: c161 :: c162 :: c163 :: c164 :: c165 :: c166 :: c167 :: []), []⟩ w') :
    Code.wp Tryz.prog tReg9 Q0 ⟨List.toArray (c0 :: c1 :: c2 :: .slice (some ⟨lb, off, none⟩) 8 8 :: .int .i64 (i : Int) :: c5 :: c6 :: c7 :: c8 :: c9 :: c10 :: c11 :: c12 :: c13 :: c14 :: c15 :: c16 :: c17 :: c18 :: c19 :: c20 :: c21 :: c22 :: c23 :: c24 :: c25 :: c26 :: c27 :: c28 :: c29 :: c30 :: c31 :: c32 :: c33 :: c34 :: c35 :: c36 :: c37 :: c38 :: c39 :: c40 :: c41 :: c42 :: c43 :: c44 :: c45 :: c46 :: c47 :: c48 :: c49 :: c50 :: c51 :: c52 :: c53 :: c54 :: c55 :: c56 :: c57 :: c58 :: c59 :: c60 :: c61 :: c62 :: c63 :: c64 :: c65 :: c66 :: c67 :: c68 :: c69 :: c70 :: c71 :: c72 :: c73 :: c74 :: c75 :: c76 :: c77 :: c78 :: c79 :: c80 :: c81 :: c82 :: c83 :: c84 :: c85 :: c86 :: c87 :: c88 :: c89 :: c90 :: c91 :: c92 :: c93 :: c94 :: c95 :: c96 :: c97 :: c98 :: c99 :: c100 :: c101 :: c102 :: c103 :: c104 :: c105 :: c106 :: c107 :: c108 :: c109 :: c110 :: c111 :: c112 :: c113 :: c114 :: c115 :: c116 :: c117 :: c118 :: c119 :: c120 :: c121 :: c122 :: c123 :: c124 :: c125 :: c126 :: c127 :: c128 :: c129 :: c130 :: c131 :: c132 :: c133 :: c134 :: c135 :: c136 :: c137 :: c138 :: c139 :: c140 :: c141 :: c142 :: c143 :: c144 :: c145 :: c146 :: c147 :: c148 :: c149 :: c150 :: c151 :: c152 :: c153 :: c154 :: c155 :: c156 :: c157 :: c158 :: c159 :: c160 :: c161 :: c162 :: c163 :: c164 :: c165 :: c166 :: c167 :: []), []⟩ w := by
  have HP := Lib.hid hput; have HR := Lib.hid hr
  obtain ⟨r1, hr1, hsl1⟩ := slice_uptoT elemTl sizeTl (some ⟨lb, off, none⟩) 8 8 i (by omega)
  obtain ⟨r2, hr2, hsl2⟩ := slice_from elemTl sizeTl (some ⟨lb, off, none⟩) 8 8 (i + 1) (by omega) (by omega)
  obtain ⟨k1, hk1⟩ : ∃ k1, k1 = i + 1 := ⟨_, rfl⟩
  rw [← hk1] at hsl2 hr2 hm
  have hw : IntKind.i64.wrap ((i : Int) + 1) = (k1 : Int) := by rw [IntWalk.i64_in _ (by omega)]; omega
  have RT1 := Lib.hid (rows_toT HR.out hr1 i)
  have RT2 := Lib.hid (rows_fromT (k := k1) HR.out (fun h => hr2 (by rw [hL] at h; exact h)))
  obtain ⟨tk, htk⟩ : ∃ tk, tk = L.take i := ⟨_, rfl⟩
  obtain ⟨dk, hdk⟩ : ∃ dk, dk = L.drop k1 := ⟨_, rfl⟩
  rw [← htk, ← hdk] at hm
  have ER := Lib.hid hm
  have LT : Hid (tk.length = i) := Lib.hid (by rw [htk, List.length_take]; omega)
  have LD : Hid (dk.length = 8 - k1) := Lib.hid (by rw [hdk, List.length_drop, hL])
  rw [← htk] at RT1
  rw [← hdk] at RT2
  have XD : Hid (Ext w w.drew) := Lib.hid (Below.refl _ w).drew
  have hk8 : k1 ≤ 8 := by omega
  clear hput hr htk hdk hm hr1 hr2 hk1 hL
  conv => arg 2; whnf
  go_wp2_with fail
  refine wp_region_firstM (fun W => ∃ p : ExtBy w, W = p.W) [1, 2, 3, 5, 6, 7, 8] 4 (by kernel_rfl) (by kernel_rfl) hpn ⟨⟨w.drew, XD.out⟩, rfl⟩ ?_
  simp only [opsAt, List.getElem?_toArray, List.getElem?_cons_succ, List.getElem?_cons_zero]
  repeat (first | go_big_quiet_step (fail))
  refine wpQuiet_nil ?_
  obtain ⟨wq, hwq⟩ : ∃ wq, wq = w.drew := ⟨_, rfl⟩
  rw [← hwq] at XD ⊢
  clear hwq hsl1 hsl2 hw
  refine wpAnyH_ready (rs := [0]) (by kernel_rfl) (by simp) ?_
  refine AllReadyH.cons rfl (fun K hK => ?_) AllReadyH.nil
  go_simp
  obtain ⟨wa, hN⟩ : ∃ wa, wa = wq.alloc (.cells #[] 39) := ⟨_, rfl⟩
  have Ywa : Hid (Ext wq wa) := Lib.hid (by rw [hN]; exact (Below.refl _ wq).alloc (Nat.le_refl _) _)
  have Xwa := Lib.hid (Ext.trans XD.out Ywa.out)
  have OZ : Hid (wa.ownsRow 0 39 18 (.slice (some ⟨wq.heap.size, 0, none⟩) 0 0) 0 []) := Lib.hid (by rw [hN]; exact World.ownsRow_made wq #[] 0 (Nat.zero_le _) (Nat.zero_le _) rfl)
  obtain ⟨p0, hp0⟩ : ∃ p0, p0 = wq.heap.size := ⟨_, rfl⟩
  have hp0w : w.heap.size ≤ p0 ∧ p0 < wa.heap.size ∧ wq.heap.size ≤ p0 := by rw [hp0, hN]; have := XD.out.size; simp; omega
  rw [← hp0] at OZ
  rw [← hN, ← hp0]
  refine hK.out _ _ ⟨⟨_, Xwa.out⟩, rfl⟩ (fun _ => ?_)
  clear hK K hN hp0
  refine wpAnyH_ready (rs := [4]) (by kernel_rfl) (by simp) ?_
  refine AllReadyH.cons rfl (fun K hK => ?_) AllReadyH.nil
  refine taleAdd rfl (.tmp 61) (.tmp 64) rfl (base := w) (acc := []) (l := tk) (v := .slice (some ⟨p0, 0, none⟩) 0 0) (c := 8) rfl (by rw [LT.out]; rfl) OZ.out (fun j e => by cases e; exact hp0w.1) Xwa.out ((RT1.out.ext Xwa.out).mono Xwa.out.size) (by rw [LT.out]; simp; omega) tk (rfl) ?_
  intro so4 cc4 wb h1 h2 h3 h4 h5
  have O4 := Lib.hid h1; have N4 := Lib.hid h2; have L4 := Lib.hid h3; have Xwb := Lib.hid h4; have B4 := Lib.hid h5
  go_simp
  refine hK.out _ _ ⟨⟨_, Xwb.out⟩, rfl⟩ (fun _ => ?_)
  clear hK K h1 h2 h3 h4 h5
  refine wpAnyH_ready (rs := [9]) (by kernel_rfl) (by simp) ?_
  refine AllReadyH.cons rfl (fun K hK => ?_) AllReadyH.nil
  refine taleAdd rfl (.tmp 65) (.tmp 69) rfl (base := w) (acc := tk) (l := dk) (c := 8 - k1) rfl (by rw [LD.out]; rfl) O4.out (N4.out) Xwb.out ((RT2.out.ext Xwb.out).mono Xwb.out.size) (by rw [LT.out, LD.out]; omega) m (ER.out) ?_
  intro so9 cc9 we h1 h2 h3 h4 h5
  have O9 := Lib.hid h1; have N9 := Lib.hid h2; have L9 := Lib.hid h3; have Xwe := Lib.hid h4; have B9 := Lib.hid h5
  go_simp
  refine hK.out _ _ ⟨⟨_, Xwe.out⟩, rfl⟩ (fun _ => ?_)
  clear hK K h1 h2 h3 h4 h5
  refine wp_takesC (f := 0) [10] (by kernel_rfl) hpn ⟨⟨_, Xwe.out⟩, rfl⟩ ?_
  simp only [opsAt, List.getElem?_toArray, List.getElem?_cons_succ, List.getElem?_cons_zero]
  repeat (go_big_quiet_step (fail))
  refine wpQuiet_nil ?_
  refine wpAnyH_done (by kernel_rfl) ?_ _
  exact HP.out _ _ _ _ _ _ _ _ _ _ _ _ _ L9.out (rows_of_own (enc := encTale) (sz := 18) (fun _ => rfl) O9.out) Xwe.out
set_option maxRecDepth 1000000 in
set_option maxHeartbeats 6400000 in
theorem tr10_wp {Q0 : Exit → Act → World → Prop} (hpn : ∀ ch (a : Act) tmps w, Q0 (Exit.panic ch) ⟨tmps, a.defers⟩ w → Q0 (Exit.panic ch) a w) {L xl m : List TaleZ} {z : TaleZ} {i k t xc lb off : Nat} {xo : Option Addr} {w : World} (hL : L.length = 8) (hi : i < 8) (hr : Rows 18 encTale w.heap.size w (some ⟨lb, off, none⟩) L) (hz : L[i]? = some z) (hxl : xl.length ≤ 8) (hxc : xl.length ≤ xc) (hx : Rows 18 encTale w.heap.size w xo xl) (ht : t = min k xl.length) (_hk : k ≤ 8) (hm : xl.take t ++ [z] ++ xl.drop t = m) {c0 c1 c2 c7 c8 c9 c10 c11 c12 c13 c14 c15 c16 c17 c18 c19 c20 c21 c22 c23 c24 c25 c26 c27 c28 c29 c30 c31 c32 c33 c34 c35 c36 c37 c38 c39 c40 c41 c42 c43 c44 c45 c46 c47 c48 c49 c50 c51 c52 c53 c54 c55 c56 c57 c58 c59 c60 c61 c62 c63 c64 c65 c66 c67 c68 c69 c70 c71 c72 c73 c74 c75 c76 c77 c78 c79 c80 c81 c82 c83 c84 c85 c86 c87 c88 c89 c90 c91 c92 c93 c94 c95 c96 c97 c98 c99 c100 c101 c102 c103 c104 c105 c106 c107 c108 c109 c110 c111 c112 c113 c114 c115 c116 c117 c118 c119 c120 c121 c122 c123 c124 c125 c126 c127 c128 c129 c130 c131 c132 c133 c134 c135 c136 c137 c138 c139 c140 c141 c142 c143 c144 c145 c146 c147 c148 c149 c150 c151 c152 c153 c154 c155 c156 c157 c158 c159 c160 c161 c162 c163 c164 c165 c166 c167 : Value}
    (hput : ∀ (g71 g72 g73 g74 g75 g76 g77 g78 g79 g80 g81 g82 g83 g84 g85 g86 g87 g88 g89 g90 g91 : Value) (so : Option Addr) (c' : Nat) (w' : World), m.length ≤ c' → Rows 18 encTale w'.heap.size w' so m → Ext w w' → Q0 .normal ⟨List.toArray (c0 :: c1 :: c2 :: .slice (some ⟨lb, off, none⟩) 8 8 :: .int .i64 (i : Int) :: .int .i64 (k : Int) :: .slice xo xl.length xc :: .slice so m.length c' :: c8 :: c9 :: c10 :: c11 :: c12 :: c13 :: c14 :: c15 :: c16 :: c17 :: c18 :: c19 :: c20 :: c21 :: c22 :: c23 :: c24 :: c25 :: c26 :: c27 :: c28 :: c29 :: c30 :: c31 :: c32 :: c33 :: c34 :: c35 :: c36 :: c37 :: c38 :: c39 :: c40 :: c41 :: c42 :: c43 :: c44 :: c45 :: c46 :: c47 :: c48 :: c49 :: c50 :: c51 :: c52 :: c53 :: c54 :: c55 :: c56 :: c57 :: c58 :: c59 :: c60 :: c61 :: c62 :: c63 :: c64 :: c65 :: c66 :: c67 :: c68 :: c69 :: c70 :: g71 :: g72 :: g73 :: g74 :: g75 :: g76 :: g77 :: g78 :: g79 :: g80 :: g81 :: g82 :: g83 :: g84 :: g85 :: g86 :: g87 :: g88 :: g89 :: g90 :: g91 :: c92 :: c93 :: c94 :: c95 :: c96 :: c97 :: c98 :: c99 :: c100 :: c101 :: c102 :: c103 :: c104 :: c105 :: c106 :: c107 :: c108 :: c109 :: c110 :: c111 :: c112 :: c113 :: c114 :: c115 :: c116 :: c117 :: c118 :: c119 :: c120 :: c121 :: c122 :: c123 :: c124 :: c125 :: c126 :: c127 :: c128 :: c129 :: c130 :: c131 :: c132 :: c133 :: c134 :: c135 :: c136 :: c137 :: c138 :: c139 :: c140 :: c141 :: c142 :: c143 :: c144 :: c145 :: c146 :: c147 :: c148 :: c149 :: c150 :: c151 :: c152 :: c153 :: c154 :: c155 :: c156 :: c157 :: c158 :: c159 :: c160 :: c161 :: c162 :: c163 :: c164 :: c165 :: c166 :: c167 :: []), []⟩ w') :
    Code.wp Tryz.prog tReg10 Q0 ⟨List.toArray (c0 :: c1 :: c2 :: .slice (some ⟨lb, off, none⟩) 8 8 :: .int .i64 (i : Int) :: .int .i64 (k : Int) :: .slice xo xl.length xc :: c7 :: c8 :: c9 :: c10 :: c11 :: c12 :: c13 :: c14 :: c15 :: c16 :: c17 :: c18 :: c19 :: c20 :: c21 :: c22 :: c23 :: c24 :: c25 :: c26 :: c27 :: c28 :: c29 :: c30 :: c31 :: c32 :: c33 :: c34 :: c35 :: c36 :: c37 :: c38 :: c39 :: c40 :: c41 :: c42 :: c43 :: c44 :: c45 :: c46 :: c47 :: c48 :: c49 :: c50 :: c51 :: c52 :: c53 :: c54 :: c55 :: c56 :: c57 :: c58 :: c59 :: c60 :: c61 :: c62 :: c63 :: c64 :: c65 :: c66 :: c67 :: c68 :: c69 :: c70 :: c71 :: c72 :: c73 :: c74 :: c75 :: c76 :: c77 :: c78 :: c79 :: c80 :: c81 :: c82 :: c83 :: c84 :: c85 :: c86 :: c87 :: c88 :: c89 :: c90 :: c91 :: c92 :: c93 :: c94 :: c95 :: c96 :: c97 :: c98 :: c99 :: c100 :: c101 :: c102 :: c103 :: c104 :: c105 :: c106 :: c107 :: c108 :: c109 :: c110 :: c111 :: c112 :: c113 :: c114 :: c115 :: c116 :: c117 :: c118 :: c119 :: c120 :: c121 :: c122 :: c123 :: c124 :: c125 :: c126 :: c127 :: c128 :: c129 :: c130 :: c131 :: c132 :: c133 :: c134 :: c135 :: c136 :: c137 :: c138 :: c139 :: c140 :: c141 :: c142 :: c143 :: c144 :: c145 :: c146 :: c147 :: c148 :: c149 :: c150 :: c151 :: c152 :: c153 :: c154 :: c155 :: c156 :: c157 :: c158 :: c159 :: c160 :: c161 :: c162 :: c163 :: c164 :: c165 :: c166 :: c167 :: []), []⟩ w := by
  have HP := Lib.hid hput; have HX := Lib.hid hx
  have HLD : Hid (∀ W, (∃ p : ExtBy w, W = p.W) → W.rangeAt lb (off + i * 18) [.int .u8 z.d.kind, .int .i64 z.node, .int .i64 z.group, .int .i64 z.term, .int .i64 z.d.index, .int .i64 z.d.cl, .int .i64 z.d.nm, .slice z.ao z.d.acts.length z.ac, .bool z.d.commit, .slice z.ro z.d.reads.length z.rc, .string z.lo, .string z.hi, .int .i64 z.ep, .int .u8 z.st, .int .i64 z.sc, .int .i64 z.se, .slice z.so z.sn z.sp, .slice z.co z.cn z.cp]) := Lib.hid (by
    rintro W ⟨p, rfl⟩
    obtain ⟨lb', off', e, hb, hc⟩ := hr (by intro e; rw [e] at hL; simp at hL)
    simp only [Option.some.injEq, Addr.mk.injEq, and_true] at e
    obtain ⟨rfl, rfl⟩ := e
    exact fun j u hj => (p.ext.cell (p := ⟨lb, _, none⟩) hb).trans (hc i z hz j u hj))
  have htl : t ≤ xl.length := by omega
  have hmin : min (k : Int) (xl.length : Int) = (t : Int) := by omega
  obtain ⟨r1, hr1, hsl1⟩ := slice_uptoT elemTl sizeTl xo xl.length xc t (by omega)
  obtain ⟨r2, hr2, hsl2⟩ := slice_from elemTl sizeTl xo xl.length xc t htl hxc
  have RT1 := Lib.hid (rows_toT HX.out hr1 t)
  have RT2 := Lib.hid (rows_fromT (k := t) HX.out hr2)
  obtain ⟨tk, htk⟩ : ∃ tk, tk = xl.take t := ⟨_, rfl⟩
  obtain ⟨dk, hdk⟩ : ∃ dk, dk = xl.drop t := ⟨_, rfl⟩
  rw [← htk, ← hdk] at hm
  obtain ⟨tk1, htk1⟩ : ∃ x, tk ++ [z] = x := ⟨_, rfl⟩
  rw [htk1] at hm
  have ER := Lib.hid hm
  have LT : Hid (tk.length = t) := Lib.hid (by rw [htk, List.length_take]; omega)
  have LT1 : Hid (tk1.length = t + 1) := Lib.hid (by rw [← htk1, List.length_append, LT.out]; rfl)
  have TK1 := Lib.hid htk1
  have LD : Hid (dk.length = xl.length - t) := Lib.hid (by rw [hdk]; exact List.length_drop ..)
  rw [← htk] at RT1
  rw [← hdk] at RT2
  have XD : Hid (Ext w w.drew) := Lib.hid (Below.refl _ w).drew
  have i0 : (0 : Int) ≤ (i : Int) := by omega
  have i1 : (i : Int) < 8 := by omega
  clear hput hr hx htk hdk hm hr1 hr2 htk1 hL hz ht
  conv => arg 2; whnf
  go_wp2_with fail
  refine wp_region_firstM (fun W => ∃ p : ExtBy w, W = p.W) [1, 2, 3, 4, 5, 6, 8, 9, 10, 11, 14, 15, 16, 17, 18, 19] 6 (by kernel_rfl) (by kernel_rfl) hpn ⟨⟨w.drew, XD.out⟩, rfl⟩ ?_
  simp only [opsAt, List.getElem?_toArray, List.getElem?_cons_succ, List.getElem?_cons_zero]
  repeat (first | (refine wpQuiet_load_mid rfl 39 (.tmp 81) rfl lb (off + i * 18) rfl [.int .u8 z.d.kind, .int .i64 z.node, .int .i64 z.group, .int .i64 z.term, .int .i64 z.d.index, .int .i64 z.d.cl, .int .i64 z.d.nm, .slice z.ao z.d.acts.length z.ac, .bool z.d.commit, .slice z.ro z.d.reads.length z.rc, .string z.lo, .string z.hi, .int .i64 z.ep, .int .u8 z.st, .int .i64 z.sc, .int .i64 z.se, .slice z.so z.sn z.sp, .slice z.co z.cn z.cp] _ HLD.out Tryz.underlying39 rfl sizeTale ?_; simp only [Act.put, List.setIfInBounds_toArray, List.set_cons_succ, List.set_cons_zero]) | go_big_quiet_step (fail))
  refine wpQuiet_nil ?_
  obtain ⟨wq, hwq⟩ : ∃ wq, wq = w.drew := ⟨_, rfl⟩
  rw [← hwq] at XD ⊢
  clear hwq hsl1 hsl2 hmin
  refine wpAnyH_ready (rs := [0, 12]) (by kernel_rfl) (by simp) ?_
  refine AllReadyH.cons rfl (fun K hK => ?_) (AllReadyH.cons rfl (fun K hK => ?_) AllReadyH.nil)
  · go_simp
    obtain ⟨wa, hN⟩ : ∃ wa, wa = wq.alloc (.cells #[] 39) := ⟨_, rfl⟩
    have Ywa : Hid (Ext wq wa) := Lib.hid (by rw [hN]; exact (Below.refl _ wq).alloc (Nat.le_refl _) _)
    have Xwa := Lib.hid (Ext.trans XD.out Ywa.out)
    have OZ : Hid (wa.ownsRow 0 39 18 (.slice (some ⟨wq.heap.size, 0, none⟩) 0 0) 0 []) := Lib.hid (by rw [hN]; exact World.ownsRow_made wq #[] 0 (Nat.zero_le _) (Nat.zero_le _) rfl)
    obtain ⟨p0, hp0⟩ : ∃ p0, p0 = wq.heap.size := ⟨_, rfl⟩
    have hp0w : w.heap.size ≤ p0 ∧ p0 < wa.heap.size ∧ wq.heap.size ≤ p0 := by rw [hp0, hN]; have := XD.out.size; simp; omega
    rw [← hp0] at OZ
    rw [← hN, ← hp0]
    refine hK.out _ _ ⟨⟨_, Xwa.out⟩, rfl⟩ (fun _ => ?_)
    clear hK K hN hp0
    refine wpAnyH_ready (rs := [7, 12]) (by kernel_rfl) (by simp) ?_
    refine AllReadyH.cons rfl (fun K hK => ?_) (AllReadyH.cons rfl (fun K hK => ?_) AllReadyH.nil)
    · refine taleAdd rfl (.tmp 71) (.tmp 77) rfl (base := w) (acc := []) (l := tk) (v := .slice (some ⟨p0, 0, none⟩) 0 0) (c := xc) rfl (by rw [LT.out]; rfl) OZ.out (fun j e => by cases e; exact hp0w.1) Xwa.out ((RT1.out.ext Xwa.out).mono Xwa.out.size) (by rw [LT.out]; simp; omega) tk (rfl) ?_
      intro so7 cc7 wb h1 h2 h3 h4 h5
      have O7 := Lib.hid h1; have N7 := Lib.hid h2; have L7 := Lib.hid h3; have Xwb := Lib.hid h4; have B7 := Lib.hid h5
      go_simp
      refine hK.out _ _ ⟨⟨_, Xwb.out⟩, rfl⟩ (fun _ => ?_)
      clear hK K h1 h2 h3 h4 h5
      refine wpAnyH_ready (rs := [12]) (by kernel_rfl) (by simp) ?_
      refine AllReadyH.cons rfl (fun K hK => ?_) AllReadyH.nil
      go_simp
      obtain ⟨wc, hN⟩ : ∃ wc, wc = wb.alloc (.cells #[.int .u8 z.d.kind, .int .i64 z.node, .int .i64 z.group, .int .i64 z.term, .int .i64 z.d.index, .int .i64 z.d.cl, .int .i64 z.d.nm, .slice z.ao z.d.acts.length z.ac, .bool z.d.commit, .slice z.ro z.d.reads.length z.rc, .string z.lo, .string z.hi, .int .i64 z.ep, .int .u8 z.st, .int .i64 z.sc, .int .i64 z.se, .slice z.so z.sn z.sp, .slice z.co z.cn z.cp] 39) := ⟨_, rfl⟩
      have Ywc : Hid (Ext wb wc) := Lib.hid (by rw [hN]; exact (Below.refl _ wb).alloc (Nat.le_refl _) _)
      have Xwc := Lib.hid (Ext.trans Xwb.out Ywc.out)
      have OB : Hid (Blk (wb.alloc (.cells #[.int .u8 z.d.kind, .int .i64 z.node, .int .i64 z.group, .int .i64 z.term, .int .i64 z.d.index, .int .i64 z.d.cl, .int .i64 z.d.nm, .slice z.ao z.d.acts.length z.ac, .bool z.d.commit, .slice z.ro z.d.reads.length z.rc, .string z.lo, .string z.hi, .int .i64 z.ep, .int .u8 z.st, .int .i64 z.sc, .int .i64 z.se, .slice z.so z.sn z.sp, .slice z.co z.cn z.cp] 39)) wb.heap.size (encTale z) 39) := Lib.hid (Blk.new wb (encTale z) 39)
      obtain ⟨p1, hp1⟩ : ∃ p1, p1 = wb.heap.size := ⟨_, rfl⟩
      have hp1w : wb.heap.size ≤ p1 ∧ p1 < wc.heap.size := by rw [hp1, hN]; simp
      rw [← hN, ← hp1] at OB
      rw [← hN, ← hp1]
      refine hK.out _ _ ⟨⟨_, Xwc.out⟩, rfl⟩ (fun _ => ?_)
      clear hK K hN hp1
      have O7 := Lib.hid (own_ext O7.out Ywc.out)
      refine wpAnyH_ready (rs := [13]) (by kernel_rfl) (by simp) ?_
      refine AllReadyH.cons rfl (fun K hK => ?_) AllReadyH.nil
      refine taleAdd rfl (.tmp 78) (.tmp 83) rfl (base := w) (acc := tk) (l := [z]) rfl (rfl) O7.out (N7.out) Xwc.out (rowsOneTl OB.out) (by rw [LT.out]; simp; omega) tk1 (TK1.out) ?_
      intro so13 cc13 wm h1 h2 h3 h4 h5
      have O13 := Lib.hid h1; have N13 := Lib.hid h2; have L13 := Lib.hid h3; have Xwm := Lib.hid h4; have B13 := Lib.hid h5
      go_simp
      refine hK.out _ _ ⟨⟨_, Xwm.out⟩, rfl⟩ (fun _ => ?_)
      clear hK K h1 h2 h3 h4 h5
      refine wpAnyH_ready (rs := [20]) (by kernel_rfl) (by simp) ?_
      refine AllReadyH.cons rfl (fun K hK => ?_) AllReadyH.nil
      refine taleAdd rfl (.tmp 84) (.tmp 90) rfl (base := w) (acc := tk1) (l := dk) (c := xc - t) rfl (by rw [LD.out]; rfl) O13.out (N13.out) Xwm.out ((RT2.out.ext Xwm.out).mono Xwm.out.size) (by rw [LD.out, LT1.out]; omega) m (ER.out) ?_
      intro so20 cc20 we h1 h2 h3 h4 h5
      have O20 := Lib.hid h1; have N20 := Lib.hid h2; have L20 := Lib.hid h3; have Xwe := Lib.hid h4; have B20 := Lib.hid h5
      go_simp
      refine hK.out _ _ ⟨⟨_, Xwe.out⟩, rfl⟩ (fun _ => ?_)
      clear hK K h1 h2 h3 h4 h5
      refine wp_takesC (f := 0) [21] (by kernel_rfl) hpn ⟨⟨_, Xwe.out⟩, rfl⟩ ?_
      simp only [opsAt, List.getElem?_toArray, List.getElem?_cons_succ, List.getElem?_cons_zero]
      repeat (go_big_quiet_step (fail))
      refine wpQuiet_nil ?_
      refine wpAnyH_done (by kernel_rfl) ?_ _
      exact HP.out _ _ _ _ _ _ _ _ _ _ _ _ _ _ _ _ _ _ _ _ _ _ _ _ L20.out (rows_of_own (enc := encTale) (sz := 18) (fun _ => rfl) O20.out) Xwe.out
    · go_simp
      obtain ⟨wc, hN⟩ : ∃ wc, wc = wa.alloc (.cells #[.int .u8 z.d.kind, .int .i64 z.node, .int .i64 z.group, .int .i64 z.term, .int .i64 z.d.index, .int .i64 z.d.cl, .int .i64 z.d.nm, .slice z.ao z.d.acts.length z.ac, .bool z.d.commit, .slice z.ro z.d.reads.length z.rc, .string z.lo, .string z.hi, .int .i64 z.ep, .int .u8 z.st, .int .i64 z.sc, .int .i64 z.se, .slice z.so z.sn z.sp, .slice z.co z.cn z.cp] 39) := ⟨_, rfl⟩
      have Ywc : Hid (Ext wa wc) := Lib.hid (by rw [hN]; exact (Below.refl _ wa).alloc (Nat.le_refl _) _)
      have Xwc := Lib.hid (Ext.trans Xwa.out Ywc.out)
      have OB : Hid (Blk (wa.alloc (.cells #[.int .u8 z.d.kind, .int .i64 z.node, .int .i64 z.group, .int .i64 z.term, .int .i64 z.d.index, .int .i64 z.d.cl, .int .i64 z.d.nm, .slice z.ao z.d.acts.length z.ac, .bool z.d.commit, .slice z.ro z.d.reads.length z.rc, .string z.lo, .string z.hi, .int .i64 z.ep, .int .u8 z.st, .int .i64 z.sc, .int .i64 z.se, .slice z.so z.sn z.sp, .slice z.co z.cn z.cp] 39)) wa.heap.size (encTale z) 39) := Lib.hid (Blk.new wa (encTale z) 39)
      obtain ⟨p1, hp1⟩ : ∃ p1, p1 = wa.heap.size := ⟨_, rfl⟩
      have hp1w : wa.heap.size ≤ p1 ∧ p1 < wc.heap.size := by rw [hp1, hN]; simp
      rw [← hN, ← hp1] at OB
      rw [← hN, ← hp1]
      refine hK.out _ _ ⟨⟨_, Xwc.out⟩, rfl⟩ (fun _ => ?_)
      clear hK K hN hp1
      have OZ := Lib.hid (own_ext OZ.out Ywc.out)
      have hpp : p0 ≠ p1 := by omega
      refine wpAnyH_ready (rs := [7]) (by kernel_rfl) (by simp) ?_
      refine AllReadyH.cons rfl (fun K hK => ?_) AllReadyH.nil
      refine taleAdd rfl (.tmp 71) (.tmp 77) rfl (base := w) (acc := []) (l := tk) (v := .slice (some ⟨p0, 0, none⟩) 0 0) (c := xc) rfl (by rw [LT.out]; rfl) OZ.out (fun j e => by cases e; exact hp0w.1) Xwc.out ((RT1.out.ext Xwc.out).mono Xwc.out.size) (by rw [LT.out]; simp; omega) tk (rfl) ?_
      intro so7 cc7 wb h1 h2 h3 h4 h5
      have O7 := Lib.hid h1; have N7 := Lib.hid h2; have L7 := Lib.hid h3; have Xwb := Lib.hid h4; have B7 := Lib.hid h5
      go_simp
      refine hK.out _ _ ⟨⟨_, Xwb.out⟩, rfl⟩ (fun _ => ?_)
      clear hK K h1 h2 h3 h4 h5
      have OB := Lib.hid (OB.out.but B7.out (fun e => absurd (show p0 = p1 by simpa [Value.ownBlock] using e) hpp))
      refine wpAnyH_ready (rs := [13]) (by kernel_rfl) (by simp) ?_
      refine AllReadyH.cons rfl (fun K hK => ?_) AllReadyH.nil
      refine taleAdd rfl (.tmp 78) (.tmp 83) rfl (base := w) (acc := tk) (l := [z]) rfl (rfl) O7.out (N7.out) Xwb.out (rowsOneTl OB.out) (by rw [LT.out]; simp; omega) tk1 (TK1.out) ?_
      intro so13 cc13 wm h1 h2 h3 h4 h5
      have O13 := Lib.hid h1; have N13 := Lib.hid h2; have L13 := Lib.hid h3; have Xwm := Lib.hid h4; have B13 := Lib.hid h5
      go_simp
      refine hK.out _ _ ⟨⟨_, Xwm.out⟩, rfl⟩ (fun _ => ?_)
      clear hK K h1 h2 h3 h4 h5
      refine wpAnyH_ready (rs := [20]) (by kernel_rfl) (by simp) ?_
      refine AllReadyH.cons rfl (fun K hK => ?_) AllReadyH.nil
      refine taleAdd rfl (.tmp 84) (.tmp 90) rfl (base := w) (acc := tk1) (l := dk) (c := xc - t) rfl (by rw [LD.out]; rfl) O13.out (N13.out) Xwm.out ((RT2.out.ext Xwm.out).mono Xwm.out.size) (by rw [LD.out, LT1.out]; omega) m (ER.out) ?_
      intro so20 cc20 we h1 h2 h3 h4 h5
      have O20 := Lib.hid h1; have N20 := Lib.hid h2; have L20 := Lib.hid h3; have Xwe := Lib.hid h4; have B20 := Lib.hid h5
      go_simp
      refine hK.out _ _ ⟨⟨_, Xwe.out⟩, rfl⟩ (fun _ => ?_)
      clear hK K h1 h2 h3 h4 h5
      refine wp_takesC (f := 0) [21] (by kernel_rfl) hpn ⟨⟨_, Xwe.out⟩, rfl⟩ ?_
      simp only [opsAt, List.getElem?_toArray, List.getElem?_cons_succ, List.getElem?_cons_zero]
      repeat (go_big_quiet_step (fail))
      refine wpQuiet_nil ?_
      refine wpAnyH_done (by kernel_rfl) ?_ _
      exact HP.out _ _ _ _ _ _ _ _ _ _ _ _ _ _ _ _ _ _ _ _ _ _ _ _ L20.out (rows_of_own (enc := encTale) (sz := 18) (fun _ => rfl) O20.out) Xwe.out
  · go_simp
    obtain ⟨wc, hN⟩ : ∃ wc, wc = wq.alloc (.cells #[.int .u8 z.d.kind, .int .i64 z.node, .int .i64 z.group, .int .i64 z.term, .int .i64 z.d.index, .int .i64 z.d.cl, .int .i64 z.d.nm, .slice z.ao z.d.acts.length z.ac, .bool z.d.commit, .slice z.ro z.d.reads.length z.rc, .string z.lo, .string z.hi, .int .i64 z.ep, .int .u8 z.st, .int .i64 z.sc, .int .i64 z.se, .slice z.so z.sn z.sp, .slice z.co z.cn z.cp] 39) := ⟨_, rfl⟩
    have Ywc : Hid (Ext wq wc) := Lib.hid (by rw [hN]; exact (Below.refl _ wq).alloc (Nat.le_refl _) _)
    have Xwc := Lib.hid (Ext.trans XD.out Ywc.out)
    have OB : Hid (Blk (wq.alloc (.cells #[.int .u8 z.d.kind, .int .i64 z.node, .int .i64 z.group, .int .i64 z.term, .int .i64 z.d.index, .int .i64 z.d.cl, .int .i64 z.d.nm, .slice z.ao z.d.acts.length z.ac, .bool z.d.commit, .slice z.ro z.d.reads.length z.rc, .string z.lo, .string z.hi, .int .i64 z.ep, .int .u8 z.st, .int .i64 z.sc, .int .i64 z.se, .slice z.so z.sn z.sp, .slice z.co z.cn z.cp] 39)) wq.heap.size (encTale z) 39) := Lib.hid (Blk.new wq (encTale z) 39)
    obtain ⟨p1, hp1⟩ : ∃ p1, p1 = wq.heap.size := ⟨_, rfl⟩
    have hp1w : wq.heap.size ≤ p1 ∧ p1 < wc.heap.size := by rw [hp1, hN]; simp
    rw [← hN, ← hp1] at OB
    rw [← hN, ← hp1]
    refine hK.out _ _ ⟨⟨_, Xwc.out⟩, rfl⟩ (fun _ => ?_)
    clear hK K hN hp1
    refine wpAnyH_ready (rs := [0]) (by kernel_rfl) (by simp) ?_
    refine AllReadyH.cons rfl (fun K hK => ?_) AllReadyH.nil
    go_simp
    obtain ⟨wa, hN⟩ : ∃ wa, wa = wc.alloc (.cells #[] 39) := ⟨_, rfl⟩
    have Ywa : Hid (Ext wc wa) := Lib.hid (by rw [hN]; exact (Below.refl _ wc).alloc (Nat.le_refl _) _)
    have Xwa := Lib.hid (Ext.trans Xwc.out Ywa.out)
    have OZ : Hid (wa.ownsRow 0 39 18 (.slice (some ⟨wc.heap.size, 0, none⟩) 0 0) 0 []) := Lib.hid (by rw [hN]; exact World.ownsRow_made wc #[] 0 (Nat.zero_le _) (Nat.zero_le _) rfl)
    obtain ⟨p0, hp0⟩ : ∃ p0, p0 = wc.heap.size := ⟨_, rfl⟩
    have hp0w : w.heap.size ≤ p0 ∧ p0 < wa.heap.size ∧ wc.heap.size ≤ p0 := by rw [hp0, hN]; have := Xwc.out.size; simp; omega
    rw [← hp0] at OZ
    rw [← hN, ← hp0]
    refine hK.out _ _ ⟨⟨_, Xwa.out⟩, rfl⟩ (fun _ => ?_)
    clear hK K hN hp0
    have OB := Lib.hid (OB.out.ext' Ywa.out)
    have hpp : p0 ≠ p1 := by omega
    refine wpAnyH_ready (rs := [7]) (by kernel_rfl) (by simp) ?_
    refine AllReadyH.cons rfl (fun K hK => ?_) AllReadyH.nil
    refine taleAdd rfl (.tmp 71) (.tmp 77) rfl (base := w) (acc := []) (l := tk) (v := .slice (some ⟨p0, 0, none⟩) 0 0) (c := xc) rfl (by rw [LT.out]; rfl) OZ.out (fun j e => by cases e; exact hp0w.1) Xwa.out ((RT1.out.ext Xwa.out).mono Xwa.out.size) (by rw [LT.out]; simp; omega) tk (rfl) ?_
    intro so7 cc7 wb h1 h2 h3 h4 h5
    have O7 := Lib.hid h1; have N7 := Lib.hid h2; have L7 := Lib.hid h3; have Xwb := Lib.hid h4; have B7 := Lib.hid h5
    go_simp
    refine hK.out _ _ ⟨⟨_, Xwb.out⟩, rfl⟩ (fun _ => ?_)
    clear hK K h1 h2 h3 h4 h5
    have OB := Lib.hid (OB.out.but B7.out (fun e => absurd (show p0 = p1 by simpa [Value.ownBlock] using e) hpp))
    refine wpAnyH_ready (rs := [13]) (by kernel_rfl) (by simp) ?_
    refine AllReadyH.cons rfl (fun K hK => ?_) AllReadyH.nil
    refine taleAdd rfl (.tmp 78) (.tmp 83) rfl (base := w) (acc := tk) (l := [z]) rfl (rfl) O7.out (N7.out) Xwb.out (rowsOneTl OB.out) (by rw [LT.out]; simp; omega) tk1 (TK1.out) ?_
    intro so13 cc13 wm h1 h2 h3 h4 h5
    have O13 := Lib.hid h1; have N13 := Lib.hid h2; have L13 := Lib.hid h3; have Xwm := Lib.hid h4; have B13 := Lib.hid h5
    go_simp
    refine hK.out _ _ ⟨⟨_, Xwm.out⟩, rfl⟩ (fun _ => ?_)
    clear hK K h1 h2 h3 h4 h5
    refine wpAnyH_ready (rs := [20]) (by kernel_rfl) (by simp) ?_
    refine AllReadyH.cons rfl (fun K hK => ?_) AllReadyH.nil
    refine taleAdd rfl (.tmp 84) (.tmp 90) rfl (base := w) (acc := tk1) (l := dk) (c := xc - t) rfl (by rw [LD.out]; rfl) O13.out (N13.out) Xwm.out ((RT2.out.ext Xwm.out).mono Xwm.out.size) (by rw [LD.out, LT1.out]; omega) m (ER.out) ?_
    intro so20 cc20 we h1 h2 h3 h4 h5
    have O20 := Lib.hid h1; have N20 := Lib.hid h2; have L20 := Lib.hid h3; have Xwe := Lib.hid h4; have B20 := Lib.hid h5
    go_simp
    refine hK.out _ _ ⟨⟨_, Xwe.out⟩, rfl⟩ (fun _ => ?_)
    clear hK K h1 h2 h3 h4 h5
    refine wp_takesC (f := 0) [21] (by kernel_rfl) hpn ⟨⟨_, Xwe.out⟩, rfl⟩ ?_
    simp only [opsAt, List.getElem?_toArray, List.getElem?_cons_succ, List.getElem?_cons_zero]
    repeat (go_big_quiet_step (fail))
    refine wpQuiet_nil ?_
    refine wpAnyH_done (by kernel_rfl) ?_ _
    exact HP.out _ _ _ _ _ _ _ _ _ _ _ _ _ _ _ _ _ _ _ _ _ _ _ _ L20.out (rows_of_own (enc := encTale) (sz := 18) (fun _ => rfl) O20.out) Xwe.out
set_option maxRecDepth 1000000 in
set_option maxHeartbeats 6400000 in
theorem tr11_wp {Q0 : Exit → Act → World → Prop} (hpn : ∀ ch (a : Act) tmps w, Q0 (Exit.panic ch) ⟨tmps, a.defers⟩ w → Q0 (Exit.panic ch) a w) {L m : List TaleZ} {z : TaleZ} {i lb off : Nat} {w : World} (hL : L.length = 8) (hi : i < 8) (hr : Rows 18 encTale w.heap.size w (some ⟨lb, off, none⟩) L) (hz : L[i]? = some z) (hm : L ++ [z] = m) {c0 c1 c2 c5 c6 c7 c8 c9 c10 c11 c12 c13 c14 c15 c16 c17 c18 c19 c20 c21 c22 c23 c24 c25 c26 c27 c28 c29 c30 c31 c32 c33 c34 c35 c36 c37 c38 c39 c40 c41 c42 c43 c44 c45 c46 c47 c48 c49 c50 c51 c52 c53 c54 c55 c56 c57 c58 c59 c60 c61 c62 c63 c64 c65 c66 c67 c68 c69 c70 c71 c72 c73 c74 c75 c76 c77 c78 c79 c80 c81 c82 c83 c84 c85 c86 c87 c88 c89 c90 c91 c92 c93 c94 c95 c96 c97 c98 c99 c100 c101 c102 c103 c104 c105 c106 c107 c108 c109 c110 c111 c112 c113 c114 c115 c116 c117 c118 c119 c120 c121 c122 c123 c124 c125 c126 c127 c128 c129 c130 c131 c132 c133 c134 c135 c136 c137 c138 c139 c140 c141 c142 c143 c144 c145 c146 c147 c148 c149 c150 c151 c152 c153 c154 c155 c156 c157 c158 c159 c160 c161 c162 c163 c164 c165 c166 c167 : Value}
    (hput : ∀ (g92 g93 g94 g95 g96 g97 g98 g99 g100 : Value) (so : Option Addr) (c' : Nat) (w' : World), m.length ≤ c' → Rows 18 encTale w'.heap.size w' so m → Ext w w' → Q0 .normal ⟨List.toArray (c0 :: c1 :: c2 :: .slice (some ⟨lb, off, none⟩) 8 8 :: .int .i64 (i : Int) :: c5 :: c6 :: c7 :: .slice so m.length c' :: c9 :: c10 :: c11 :: c12 :: c13 :: c14 :: c15 :: c16 :: c17 :: c18 :: c19 :: c20 :: c21 :: c22 :: c23 :: c24 :: c25 :: c26 :: c27 :: c28 :: c29 :: c30 :: c31 :: c32 :: c33 :: c34 :: c35 :: c36 :: c37 :: c38 :: c39 :: c40 :: c41 :: c42 :: c43 :: c44 :: c45 :: c46 :: c47 :: c48 :: c49 :: c50 :: c51 :: c52 :: c53 :: c54 :: c55 :: c56 :: c57 :: c58 :: c59 :: c60 :: c61 :: c62 :: c63 :: c64 :: c65 :: c66 :: c67 :: c68 :: c69 :: c70 :: c71 :: c72 :: c73 :: c74 :: c75 :: c76 :: c77 :: c78 :: c79 :: c80 :: c81 :: c82 :: c83 :: c84 :: c85 :: c86 :: c87 :: c88 :: c89 :: c90 :: c91 :: g92 :: g93 :: g94 :: g95 :: g96 :: g97 :: g98 :: g99 :: g100 :: c101 :: c102 :: c103 :: c104 :: c105 :: c106 :: c107 :: c108 :: c109 :: c110 :: c111 :: c112 :: c113 :: c114 :: c115 :: c116 :: c117 :: c118 :: c119 :: c120 :: c121 :: c122 :: c123 :: c124 :: c125 :: c126 :: c127 :: c128 :: c129 :: c130 :: c131 :: c132 :: c133 :: c134 :: c135 :: c136 :: c137 :: c138 :: c139 :: c140 :: c141 :: c142 :: c143 :: c144 :: c145 :: c146 :: c147 :: c148 :: c149 :: c150 :: c151 :: c152 :: c153 :: c154 :: c155 :: c156 :: c157 :: c158 :: c159 :: c160 :: c161 :: c162 :: c163 :: c164 :: c165 :: c166 :: c167 :: []), []⟩ w') :
    Code.wp Tryz.prog tReg11 Q0 ⟨List.toArray (c0 :: c1 :: c2 :: .slice (some ⟨lb, off, none⟩) 8 8 :: .int .i64 (i : Int) :: c5 :: c6 :: c7 :: c8 :: c9 :: c10 :: c11 :: c12 :: c13 :: c14 :: c15 :: c16 :: c17 :: c18 :: c19 :: c20 :: c21 :: c22 :: c23 :: c24 :: c25 :: c26 :: c27 :: c28 :: c29 :: c30 :: c31 :: c32 :: c33 :: c34 :: c35 :: c36 :: c37 :: c38 :: c39 :: c40 :: c41 :: c42 :: c43 :: c44 :: c45 :: c46 :: c47 :: c48 :: c49 :: c50 :: c51 :: c52 :: c53 :: c54 :: c55 :: c56 :: c57 :: c58 :: c59 :: c60 :: c61 :: c62 :: c63 :: c64 :: c65 :: c66 :: c67 :: c68 :: c69 :: c70 :: c71 :: c72 :: c73 :: c74 :: c75 :: c76 :: c77 :: c78 :: c79 :: c80 :: c81 :: c82 :: c83 :: c84 :: c85 :: c86 :: c87 :: c88 :: c89 :: c90 :: c91 :: c92 :: c93 :: c94 :: c95 :: c96 :: c97 :: c98 :: c99 :: c100 :: c101 :: c102 :: c103 :: c104 :: c105 :: c106 :: c107 :: c108 :: c109 :: c110 :: c111 :: c112 :: c113 :: c114 :: c115 :: c116 :: c117 :: c118 :: c119 :: c120 :: c121 :: c122 :: c123 :: c124 :: c125 :: c126 :: c127 :: c128 :: c129 :: c130 :: c131 :: c132 :: c133 :: c134 :: c135 :: c136 :: c137 :: c138 :: c139 :: c140 :: c141 :: c142 :: c143 :: c144 :: c145 :: c146 :: c147 :: c148 :: c149 :: c150 :: c151 :: c152 :: c153 :: c154 :: c155 :: c156 :: c157 :: c158 :: c159 :: c160 :: c161 :: c162 :: c163 :: c164 :: c165 :: c166 :: c167 :: []), []⟩ w := by
  have HP := Lib.hid hput; have HR := Lib.hid hr; have HL := Lib.hid hL; have ER := Lib.hid hm
  have HLD : Hid (∀ W, (∃ p : ExtBy w, W = p.W) → W.rangeAt lb (off + i * 18) [.int .u8 z.d.kind, .int .i64 z.node, .int .i64 z.group, .int .i64 z.term, .int .i64 z.d.index, .int .i64 z.d.cl, .int .i64 z.d.nm, .slice z.ao z.d.acts.length z.ac, .bool z.d.commit, .slice z.ro z.d.reads.length z.rc, .string z.lo, .string z.hi, .int .i64 z.ep, .int .u8 z.st, .int .i64 z.sc, .int .i64 z.se, .slice z.so z.sn z.sp, .slice z.co z.cn z.cp]) := Lib.hid (by
    rintro W ⟨p, rfl⟩
    obtain ⟨lb', off', e, hb, hc⟩ := hr (by intro e; rw [e] at hL; simp at hL)
    simp only [Option.some.injEq, Addr.mk.injEq, and_true] at e
    obtain ⟨rfl, rfl⟩ := e
    exact fun j u hj => (p.ext.cell (p := ⟨lb, _, none⟩) hb).trans (hc i z hz j u hj))
  have XD : Hid (Ext w w.drew) := Lib.hid (Below.refl _ w).drew
  have i0 : (0 : Int) ≤ (i : Int) := by omega
  have i1 : (i : Int) < 8 := by omega
  clear hput hr hm hL hz
  conv => arg 2; whnf
  go_wp2_with fail
  refine wp_region_firstM (fun W => ∃ p : ExtBy w, W = p.W) [1, 3, 4, 5, 6] 5 (by kernel_rfl) (by kernel_rfl) hpn ⟨⟨w.drew, XD.out⟩, rfl⟩ ?_
  simp only [opsAt, List.getElem?_toArray, List.getElem?_cons_succ, List.getElem?_cons_zero]
  repeat (first | (refine wpQuiet_load_mid rfl 39 (.tmp 97) rfl lb (off + i * 18) rfl [.int .u8 z.d.kind, .int .i64 z.node, .int .i64 z.group, .int .i64 z.term, .int .i64 z.d.index, .int .i64 z.d.cl, .int .i64 z.d.nm, .slice z.ao z.d.acts.length z.ac, .bool z.d.commit, .slice z.ro z.d.reads.length z.rc, .string z.lo, .string z.hi, .int .i64 z.ep, .int .u8 z.st, .int .i64 z.sc, .int .i64 z.se, .slice z.so z.sn z.sp, .slice z.co z.cn z.cp] _ HLD.out Tryz.underlying39 rfl sizeTale ?_; simp only [Act.put, List.setIfInBounds_toArray, List.set_cons_succ, List.set_cons_zero]) | go_big_quiet_step (fail))
  refine wpQuiet_nil ?_
  obtain ⟨wq, hwq⟩ : ∃ wq, wq = w.drew := ⟨_, rfl⟩
  rw [← hwq] at XD ⊢
  clear hwq 
  refine wpAnyH_ready (rs := [0, 7]) (by kernel_rfl) (by simp) ?_
  refine AllReadyH.cons rfl (fun K hK => ?_) (AllReadyH.cons rfl (fun K hK => ?_) AllReadyH.nil)
  · go_simp
    obtain ⟨wa, hN⟩ : ∃ wa, wa = wq.alloc (.cells #[] 39) := ⟨_, rfl⟩
    have Ywa : Hid (Ext wq wa) := Lib.hid (by rw [hN]; exact (Below.refl _ wq).alloc (Nat.le_refl _) _)
    have Xwa := Lib.hid (Ext.trans XD.out Ywa.out)
    have OZ : Hid (wa.ownsRow 0 39 18 (.slice (some ⟨wq.heap.size, 0, none⟩) 0 0) 0 []) := Lib.hid (by rw [hN]; exact World.ownsRow_made wq #[] 0 (Nat.zero_le _) (Nat.zero_le _) rfl)
    obtain ⟨p0, hp0⟩ : ∃ p0, p0 = wq.heap.size := ⟨_, rfl⟩
    have hp0w : w.heap.size ≤ p0 ∧ p0 < wa.heap.size ∧ wq.heap.size ≤ p0 := by rw [hp0, hN]; have := XD.out.size; simp; omega
    rw [← hp0] at OZ
    rw [← hN, ← hp0]
    refine hK.out _ _ ⟨⟨_, Xwa.out⟩, rfl⟩ (fun _ => ?_)
    clear hK K hN hp0
    refine wpAnyH_ready (rs := [2, 7]) (by kernel_rfl) (by simp) ?_
    refine AllReadyH.cons rfl (fun K hK => ?_) (AllReadyH.cons rfl (fun K hK => ?_) AllReadyH.nil)
    · refine taleAdd rfl (.tmp 92) (.tmp 93) rfl (base := w) (acc := []) (l := L) (v := .slice (some ⟨p0, 0, none⟩) 0 0) (c := 8) rfl (by rw [HL.out]; rfl) OZ.out (fun j e => by cases e; exact hp0w.1) Xwa.out ((HR.out.ext Xwa.out).mono Xwa.out.size) (by rw [HL.out]; simp) L (rfl) ?_
      intro so2 cc2 wb h1 h2 h3 h4 h5
      have O2 := Lib.hid h1; have N2 := Lib.hid h2; have L2 := Lib.hid h3; have Xwb := Lib.hid h4; have B2 := Lib.hid h5
      go_simp
      refine hK.out _ _ ⟨⟨_, Xwb.out⟩, rfl⟩ (fun _ => ?_)
      clear hK K h1 h2 h3 h4 h5
      refine wpAnyH_ready (rs := [7]) (by kernel_rfl) (by simp) ?_
      refine AllReadyH.cons rfl (fun K hK => ?_) AllReadyH.nil
      go_simp
      obtain ⟨wc, hN⟩ : ∃ wc, wc = wb.alloc (.cells #[.int .u8 z.d.kind, .int .i64 z.node, .int .i64 z.group, .int .i64 z.term, .int .i64 z.d.index, .int .i64 z.d.cl, .int .i64 z.d.nm, .slice z.ao z.d.acts.length z.ac, .bool z.d.commit, .slice z.ro z.d.reads.length z.rc, .string z.lo, .string z.hi, .int .i64 z.ep, .int .u8 z.st, .int .i64 z.sc, .int .i64 z.se, .slice z.so z.sn z.sp, .slice z.co z.cn z.cp] 39) := ⟨_, rfl⟩
      have Ywc : Hid (Ext wb wc) := Lib.hid (by rw [hN]; exact (Below.refl _ wb).alloc (Nat.le_refl _) _)
      have Xwc := Lib.hid (Ext.trans Xwb.out Ywc.out)
      have OB : Hid (Blk (wb.alloc (.cells #[.int .u8 z.d.kind, .int .i64 z.node, .int .i64 z.group, .int .i64 z.term, .int .i64 z.d.index, .int .i64 z.d.cl, .int .i64 z.d.nm, .slice z.ao z.d.acts.length z.ac, .bool z.d.commit, .slice z.ro z.d.reads.length z.rc, .string z.lo, .string z.hi, .int .i64 z.ep, .int .u8 z.st, .int .i64 z.sc, .int .i64 z.se, .slice z.so z.sn z.sp, .slice z.co z.cn z.cp] 39)) wb.heap.size (encTale z) 39) := Lib.hid (Blk.new wb (encTale z) 39)
      obtain ⟨p1, hp1⟩ : ∃ p1, p1 = wb.heap.size := ⟨_, rfl⟩
      have hp1w : wb.heap.size ≤ p1 ∧ p1 < wc.heap.size := by rw [hp1, hN]; simp
      rw [← hN, ← hp1] at OB
      rw [← hN, ← hp1]
      refine hK.out _ _ ⟨⟨_, Xwc.out⟩, rfl⟩ (fun _ => ?_)
      clear hK K hN hp1
      have O2 := Lib.hid (own_ext O2.out Ywc.out)
      refine wpAnyH_ready (rs := [8]) (by kernel_rfl) (by simp) ?_
      refine AllReadyH.cons rfl (fun K hK => ?_) AllReadyH.nil
      refine taleAdd rfl (.tmp 94) (.tmp 99) rfl (base := w) (acc := L) (l := [z]) rfl (rfl) O2.out (N2.out) Xwc.out (rowsOneTl OB.out) (by rw [HL.out]; simp) m (ER.out) ?_
      intro so8 cc8 we h1 h2 h3 h4 h5
      have O8 := Lib.hid h1; have N8 := Lib.hid h2; have L8 := Lib.hid h3; have Xwe := Lib.hid h4; have B8 := Lib.hid h5
      go_simp
      refine hK.out _ _ ⟨⟨_, Xwe.out⟩, rfl⟩ (fun _ => ?_)
      clear hK K h1 h2 h3 h4 h5
      refine wp_takesC (f := 0) [9] (by kernel_rfl) hpn ⟨⟨_, Xwe.out⟩, rfl⟩ ?_
      simp only [opsAt, List.getElem?_toArray, List.getElem?_cons_succ, List.getElem?_cons_zero]
      repeat (go_big_quiet_step (fail))
      refine wpQuiet_nil ?_
      refine wpAnyH_done (by kernel_rfl) ?_ _
      exact HP.out _ _ _ _ _ _ _ _ _ _ _ _ L8.out (rows_of_own (enc := encTale) (sz := 18) (fun _ => rfl) O8.out) Xwe.out
    · go_simp
      obtain ⟨wc, hN⟩ : ∃ wc, wc = wa.alloc (.cells #[.int .u8 z.d.kind, .int .i64 z.node, .int .i64 z.group, .int .i64 z.term, .int .i64 z.d.index, .int .i64 z.d.cl, .int .i64 z.d.nm, .slice z.ao z.d.acts.length z.ac, .bool z.d.commit, .slice z.ro z.d.reads.length z.rc, .string z.lo, .string z.hi, .int .i64 z.ep, .int .u8 z.st, .int .i64 z.sc, .int .i64 z.se, .slice z.so z.sn z.sp, .slice z.co z.cn z.cp] 39) := ⟨_, rfl⟩
      have Ywc : Hid (Ext wa wc) := Lib.hid (by rw [hN]; exact (Below.refl _ wa).alloc (Nat.le_refl _) _)
      have Xwc := Lib.hid (Ext.trans Xwa.out Ywc.out)
      have OB : Hid (Blk (wa.alloc (.cells #[.int .u8 z.d.kind, .int .i64 z.node, .int .i64 z.group, .int .i64 z.term, .int .i64 z.d.index, .int .i64 z.d.cl, .int .i64 z.d.nm, .slice z.ao z.d.acts.length z.ac, .bool z.d.commit, .slice z.ro z.d.reads.length z.rc, .string z.lo, .string z.hi, .int .i64 z.ep, .int .u8 z.st, .int .i64 z.sc, .int .i64 z.se, .slice z.so z.sn z.sp, .slice z.co z.cn z.cp] 39)) wa.heap.size (encTale z) 39) := Lib.hid (Blk.new wa (encTale z) 39)
      obtain ⟨p1, hp1⟩ : ∃ p1, p1 = wa.heap.size := ⟨_, rfl⟩
      have hp1w : wa.heap.size ≤ p1 ∧ p1 < wc.heap.size := by rw [hp1, hN]; simp
      rw [← hN, ← hp1] at OB
      rw [← hN, ← hp1]
      refine hK.out _ _ ⟨⟨_, Xwc.out⟩, rfl⟩ (fun _ => ?_)
      clear hK K hN hp1
      have OZ := Lib.hid (own_ext OZ.out Ywc.out)
      have hpp : p0 ≠ p1 := by omega
      refine wpAnyH_ready (rs := [2]) (by kernel_rfl) (by simp) ?_
      refine AllReadyH.cons rfl (fun K hK => ?_) AllReadyH.nil
      refine taleAdd rfl (.tmp 92) (.tmp 93) rfl (base := w) (acc := []) (l := L) (v := .slice (some ⟨p0, 0, none⟩) 0 0) (c := 8) rfl (by rw [HL.out]; rfl) OZ.out (fun j e => by cases e; exact hp0w.1) Xwc.out ((HR.out.ext Xwc.out).mono Xwc.out.size) (by rw [HL.out]; simp) L (rfl) ?_
      intro so2 cc2 wb h1 h2 h3 h4 h5
      have O2 := Lib.hid h1; have N2 := Lib.hid h2; have L2 := Lib.hid h3; have Xwb := Lib.hid h4; have B2 := Lib.hid h5
      go_simp
      refine hK.out _ _ ⟨⟨_, Xwb.out⟩, rfl⟩ (fun _ => ?_)
      clear hK K h1 h2 h3 h4 h5
      have OB := Lib.hid (OB.out.but B2.out (fun e => absurd (show p0 = p1 by simpa [Value.ownBlock] using e) hpp))
      refine wpAnyH_ready (rs := [8]) (by kernel_rfl) (by simp) ?_
      refine AllReadyH.cons rfl (fun K hK => ?_) AllReadyH.nil
      refine taleAdd rfl (.tmp 94) (.tmp 99) rfl (base := w) (acc := L) (l := [z]) rfl (rfl) O2.out (N2.out) Xwb.out (rowsOneTl OB.out) (by rw [HL.out]; simp) m (ER.out) ?_
      intro so8 cc8 we h1 h2 h3 h4 h5
      have O8 := Lib.hid h1; have N8 := Lib.hid h2; have L8 := Lib.hid h3; have Xwe := Lib.hid h4; have B8 := Lib.hid h5
      go_simp
      refine hK.out _ _ ⟨⟨_, Xwe.out⟩, rfl⟩ (fun _ => ?_)
      clear hK K h1 h2 h3 h4 h5
      refine wp_takesC (f := 0) [9] (by kernel_rfl) hpn ⟨⟨_, Xwe.out⟩, rfl⟩ ?_
      simp only [opsAt, List.getElem?_toArray, List.getElem?_cons_succ, List.getElem?_cons_zero]
      repeat (go_big_quiet_step (fail))
      refine wpQuiet_nil ?_
      refine wpAnyH_done (by kernel_rfl) ?_ _
      exact HP.out _ _ _ _ _ _ _ _ _ _ _ _ L8.out (rows_of_own (enc := encTale) (sz := 18) (fun _ => rfl) O8.out) Xwe.out
  · go_simp
    obtain ⟨wc, hN⟩ : ∃ wc, wc = wq.alloc (.cells #[.int .u8 z.d.kind, .int .i64 z.node, .int .i64 z.group, .int .i64 z.term, .int .i64 z.d.index, .int .i64 z.d.cl, .int .i64 z.d.nm, .slice z.ao z.d.acts.length z.ac, .bool z.d.commit, .slice z.ro z.d.reads.length z.rc, .string z.lo, .string z.hi, .int .i64 z.ep, .int .u8 z.st, .int .i64 z.sc, .int .i64 z.se, .slice z.so z.sn z.sp, .slice z.co z.cn z.cp] 39) := ⟨_, rfl⟩
    have Ywc : Hid (Ext wq wc) := Lib.hid (by rw [hN]; exact (Below.refl _ wq).alloc (Nat.le_refl _) _)
    have Xwc := Lib.hid (Ext.trans XD.out Ywc.out)
    have OB : Hid (Blk (wq.alloc (.cells #[.int .u8 z.d.kind, .int .i64 z.node, .int .i64 z.group, .int .i64 z.term, .int .i64 z.d.index, .int .i64 z.d.cl, .int .i64 z.d.nm, .slice z.ao z.d.acts.length z.ac, .bool z.d.commit, .slice z.ro z.d.reads.length z.rc, .string z.lo, .string z.hi, .int .i64 z.ep, .int .u8 z.st, .int .i64 z.sc, .int .i64 z.se, .slice z.so z.sn z.sp, .slice z.co z.cn z.cp] 39)) wq.heap.size (encTale z) 39) := Lib.hid (Blk.new wq (encTale z) 39)
    obtain ⟨p1, hp1⟩ : ∃ p1, p1 = wq.heap.size := ⟨_, rfl⟩
    have hp1w : wq.heap.size ≤ p1 ∧ p1 < wc.heap.size := by rw [hp1, hN]; simp
    rw [← hN, ← hp1] at OB
    rw [← hN, ← hp1]
    refine hK.out _ _ ⟨⟨_, Xwc.out⟩, rfl⟩ (fun _ => ?_)
    clear hK K hN hp1
    refine wpAnyH_ready (rs := [0]) (by kernel_rfl) (by simp) ?_
    refine AllReadyH.cons rfl (fun K hK => ?_) AllReadyH.nil
    go_simp
    obtain ⟨wa, hN⟩ : ∃ wa, wa = wc.alloc (.cells #[] 39) := ⟨_, rfl⟩
    have Ywa : Hid (Ext wc wa) := Lib.hid (by rw [hN]; exact (Below.refl _ wc).alloc (Nat.le_refl _) _)
    have Xwa := Lib.hid (Ext.trans Xwc.out Ywa.out)
    have OZ : Hid (wa.ownsRow 0 39 18 (.slice (some ⟨wc.heap.size, 0, none⟩) 0 0) 0 []) := Lib.hid (by rw [hN]; exact World.ownsRow_made wc #[] 0 (Nat.zero_le _) (Nat.zero_le _) rfl)
    obtain ⟨p0, hp0⟩ : ∃ p0, p0 = wc.heap.size := ⟨_, rfl⟩
    have hp0w : w.heap.size ≤ p0 ∧ p0 < wa.heap.size ∧ wc.heap.size ≤ p0 := by rw [hp0, hN]; have := Xwc.out.size; simp; omega
    rw [← hp0] at OZ
    rw [← hN, ← hp0]
    refine hK.out _ _ ⟨⟨_, Xwa.out⟩, rfl⟩ (fun _ => ?_)
    clear hK K hN hp0
    have OB := Lib.hid (OB.out.ext' Ywa.out)
    have hpp : p0 ≠ p1 := by omega
    refine wpAnyH_ready (rs := [2]) (by kernel_rfl) (by simp) ?_
    refine AllReadyH.cons rfl (fun K hK => ?_) AllReadyH.nil
    refine taleAdd rfl (.tmp 92) (.tmp 93) rfl (base := w) (acc := []) (l := L) (v := .slice (some ⟨p0, 0, none⟩) 0 0) (c := 8) rfl (by rw [HL.out]; rfl) OZ.out (fun j e => by cases e; exact hp0w.1) Xwa.out ((HR.out.ext Xwa.out).mono Xwa.out.size) (by rw [HL.out]; simp) L (rfl) ?_
    intro so2 cc2 wb h1 h2 h3 h4 h5
    have O2 := Lib.hid h1; have N2 := Lib.hid h2; have L2 := Lib.hid h3; have Xwb := Lib.hid h4; have B2 := Lib.hid h5
    go_simp
    refine hK.out _ _ ⟨⟨_, Xwb.out⟩, rfl⟩ (fun _ => ?_)
    clear hK K h1 h2 h3 h4 h5
    have OB := Lib.hid (OB.out.but B2.out (fun e => absurd (show p0 = p1 by simpa [Value.ownBlock] using e) hpp))
    refine wpAnyH_ready (rs := [8]) (by kernel_rfl) (by simp) ?_
    refine AllReadyH.cons rfl (fun K hK => ?_) AllReadyH.nil
    refine taleAdd rfl (.tmp 94) (.tmp 99) rfl (base := w) (acc := L) (l := [z]) rfl (rfl) O2.out (N2.out) Xwb.out (rowsOneTl OB.out) (by rw [HL.out]; simp) m (ER.out) ?_
    intro so8 cc8 we h1 h2 h3 h4 h5
    have O8 := Lib.hid h1; have N8 := Lib.hid h2; have L8 := Lib.hid h3; have Xwe := Lib.hid h4; have B8 := Lib.hid h5
    go_simp
    refine hK.out _ _ ⟨⟨_, Xwe.out⟩, rfl⟩ (fun _ => ?_)
    clear hK K h1 h2 h3 h4 h5
    refine wp_takesC (f := 0) [9] (by kernel_rfl) hpn ⟨⟨_, Xwe.out⟩, rfl⟩ ?_
    simp only [opsAt, List.getElem?_toArray, List.getElem?_cons_succ, List.getElem?_cons_zero]
    repeat (go_big_quiet_step (fail))
    refine wpQuiet_nil ?_
    refine wpAnyH_done (by kernel_rfl) ?_ _
    exact HP.out _ _ _ _ _ _ _ _ _ _ _ _ L8.out (rows_of_own (enc := encTale) (sz := 18) (fun _ => rfl) O8.out) Xwe.out
end Go.Proofs.YtbnclifpdmpjnaaGreatDoor
