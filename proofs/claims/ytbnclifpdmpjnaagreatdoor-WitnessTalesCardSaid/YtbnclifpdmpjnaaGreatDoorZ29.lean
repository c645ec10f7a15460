/- The document's From: its inner loop (does another decided name have the same index?). -/
import Derived.Test.YtbnclifpdmpjnaaGreatDoorZ28
import Derived.Deep.CutRange
import Derived.Deep.DeepCutAuto
namespace Go.Proofs.YtbnclifpdmpjnaaGreatDoor
open Go.RowKit
theorem there_zero (w : World) (z : TaleZ) : World.there (w.alloc (.cells #[.int .u8 0, .int .i64 0, .int .i64 0, .int .i64 0, .int .i64 0, .int .i64 0, .int .i64 0, .slice none 0 0, .bool false, .slice none 0 0, .string ⟨#[]⟩, .string ⟨#[]⟩, .int .i64 0, .int .u8 0, .int .i64 0, .int .i64 0, .slice none 0 0, .slice none 0 0] 39)) w.heap.size 0 (encTale z).toArray.size := by
  have h : World.there (w.alloc (.cells (encTale zeroTale).toArray 39)) w.heap.size 0 (encTale zeroTale).length := there_blk (Blk.new w (encTale zeroTale) 39)
  exact h
theorem put_tale (w : World) (z : TaleZ) : Blk ((w.alloc (.cells #[.int .u8 0, .int .i64 0, .int .i64 0, .int .i64 0, .int .i64 0, .int .i64 0, .int .i64 0, .slice none 0 0, .bool false, .slice none 0 0, .string ⟨#[]⟩, .string ⟨#[]⟩, .int .i64 0, .int .u8 0, .int .i64 0, .int .i64 0, .slice none 0 0, .slice none 0 0] 39)).setCells w.heap.size 0 (encTale z)) w.heap.size (encTale z) 39 ∧ Ext w ((w.alloc (.cells #[.int .u8 0, .int .i64 0, .int .i64 0, .int .i64 0, .int .i64 0, .int .i64 0, .int .i64 0, .slice none 0 0, .bool false, .slice none 0 0, .string ⟨#[]⟩, .string ⟨#[]⟩, .int .i64 0, .int .u8 0, .int .i64 0, .int .i64 0, .slice none 0 0, .slice none 0 0] 39)).setCells w.heap.size 0 (encTale z)) :=
  ⟨Blk.setAll (Blk.new w (encTale zeroTale) 39) rfl, Below.trans ((Below.refl _ w).alloc (Nat.le_refl _) _) ((but_setAll _).below (by simp) (fun i e => by rw [e]; exact Nat.le_refl _))⟩
theorem put_run (w : World) (z : TaleZ) : Sem.run Tryz.prog (storeCells ⟨w.heap.size, 0, none⟩ (encTale z)) (w.alloc (.cells #[.int .u8 0, .int .i64 0, .int .i64 0, .int .i64 0, .int .i64 0, .int .i64 0, .int .i64 0, .slice none 0 0, .bool false, .slice none 0 0, .string ⟨#[]⟩, .string ⟨#[]⟩, .int .i64 0, .int .u8 0, .int .i64 0, .int .i64 0, .slice none 0 0, .slice none 0 0] 39)) = .ok () ((w.alloc (.cells #[.int .u8 0, .int .i64 0, .int .i64 0, .int .i64 0, .int .i64 0, .int .i64 0, .int .i64 0, .slice none 0 0, .bool false, .slice none 0 0, .string ⟨#[]⟩, .string ⟨#[]⟩, .int .i64 0, .int .u8 0, .int .i64 0, .int .i64 0, .slice none 0 0, .slice none 0 0] 39)).setCells w.heap.size 0 (encTale z)) := by
  have ht := there_zero w z
  have := run_storeCells_cells (P := Tryz.prog) w.heap.size 0 (encTale z) 0 (w.alloc (.cells #[.int .u8 0, .int .i64 0, .int .i64 0, .int .i64 0, .int .i64 0, .int .i64 0, .int .i64 0, .slice none 0 0, .bool false, .slice none 0 0, .string ⟨#[]⟩, .string ⟨#[]⟩, .int .i64 0, .int .u8 0, .int .i64 0, .int .i64 0, .slice none 0 0, .slice none 0 0] 39)) (fun j hj => by simpa using (ht j (by simpa using hj)).1) (fun j hj => by simp) (one_tale z)
  simpa using this
set_option maxRecDepth 1000000 in
set_option maxHeartbeats 6400000 in
theorem inner_wp {Q0 : Exit → Act → World → Prop} {l : List TaleZ} {D : List TaleD} {b off cap nb : Nat} {cl nm kx : Int} {wt : World} (hD : D = l.map (·.d)) (hl : l.length ≤ 60) (hs : TalesAt wt (some ⟨b, off, none⟩) l) (hok : ∀ z ∈ l, z.d.ok) (hn : Blk wt nb [.int .i64 cl, .int .i64 nm] 26) {c1 c2 c3 c4 c5 c6 c9 c10 c12 c13 c14 c15 c16 c17 c18 c19 c20 c21 c22 c23 c24 c25 c26 c27 c28 c29 c30 c31 c32 c33 c34 c35 c36 c37 c38 c39 c40 c41 c42 c43 c44 c45 c46 c47 c48 c49 c50 c51 c52 c53 c54 c55 c56 c57 c58 c59 c60 c61 c62 c63 c64 c65 c66 c67 c68 c69 c70 c71 c72 c73 c74 c75 c76 c77 c78 c79 c80 c81 c82 c83 c84 c85 c86 c87 c88 c89 c90 c91 c92 c93 c94 c95 c96 c97 c98 c99 c100 c101 c102 c103 c104 c105 c106 c107 c108 c109 c110 c111 c112 c113 c114 c115 c116 c117 c118 c119 c120 c121 c122 c123 c124 c125 c126 c127 c128 c129 c130 c131 c132 c133 c134 c135 c136 c137 c138 c139 c140 c141 c142 c143 c144 c145 c146 c147 c148 c149 c150 c151 c152 c153 c154 c155 c156 c157 c158 c159 : Value}
    (hexit : ∀ (g2 g3 g11 g12 g13 g14 g54 g55 g56 g57 g58 g59 g60 g61 g62 g63 g64 g65 g66 g67 g68 g69 g70 g71 g72 g73 g74 g75 g76 g77 g78 g79 g80 g81 g82 g83 g84 g85 g86 g87 g88 g89 g90 g91 : Value) (w' : World), D.any (clashT D (cl, nm) kx) = false → Ext wt w' → Q0 (.exit 2) ⟨List.toArray (.slice (some ⟨b, off, none⟩) l.length cap :: c1 :: g2 :: g3 :: c4 :: c5 :: c6 :: .pointer (some ⟨nb, 0, none⟩) :: .int .i64 kx :: c9 :: c10 :: g11 :: g12 :: g13 :: g14 :: c15 :: c16 :: c17 :: c18 :: c19 :: c20 :: c21 :: c22 :: c23 :: c24 :: c25 :: c26 :: c27 :: c28 :: c29 :: c30 :: c31 :: c32 :: c33 :: c34 :: c35 :: c36 :: c37 :: c38 :: c39 :: c40 :: c41 :: c42 :: c43 :: c44 :: c45 :: c46 :: c47 :: c48 :: c49 :: c50 :: c51 :: c52 :: c53 :: g54 :: g55 :: g56 :: g57 :: g58 :: g59 :: g60 :: g61 :: g62 :: g63 :: g64 :: g65 :: g66 :: g67 :: g68 :: g69 :: g70 :: g71 :: g72 :: g73 :: g74 :: g75 :: g76 :: g77 :: g78 :: g79 :: g80 :: g81 :: g82 :: g83 :: g84 :: g85 :: g86 :: g87 :: g88 :: g89 :: g90 :: g91 :: c92 :: c93 :: c94 :: c95 :: c96 :: c97 :: c98 :: c99 :: c100 :: c101 :: c102 :: c103 :: c104 :: c105 :: c106 :: c107 :: c108 :: c109 :: c110 :: c111 :: c112 :: c113 :: c114 :: c115 :: c116 :: c117 :: c118 :: c119 :: c120 :: c121 :: c122 :: c123 :: c124 :: c125 :: c126 :: c127 :: c128 :: c129 :: c130 :: c131 :: c132 :: c133 :: c134 :: c135 :: c136 :: c137 :: c138 :: c139 :: c140 :: c141 :: c142 :: c143 :: c144 :: c145 :: c146 :: c147 :: c148 :: c149 :: c150 :: c151 :: c152 :: c153 :: c154 :: c155 :: c156 :: c157 :: c158 :: c159 :: []), []⟩ w')
    (hret : ∀ (g11 g12 g13 g14 g54 g55 g56 g57 g58 g59 g60 g61 g62 g63 g64 g65 g66 g67 g68 g69 g70 g71 g72 g73 g74 g75 g76 g77 g78 g79 g80 g81 g82 g83 g84 g85 g86 g87 g88 g89 g90 g91 : Value) (w' : World), D.any (clashT D (cl, nm) kx) = true → Ext wt w' → Q0 .ret ⟨List.toArray (.slice (some ⟨b, off, none⟩) l.length cap :: c1 :: .slice none 0 0 :: .bool false :: c4 :: c5 :: c6 :: .pointer (some ⟨nb, 0, none⟩) :: .int .i64 kx :: c9 :: c10 :: g11 :: g12 :: g13 :: g14 :: c15 :: c16 :: c17 :: c18 :: c19 :: c20 :: c21 :: c22 :: c23 :: c24 :: c25 :: c26 :: c27 :: c28 :: c29 :: c30 :: c31 :: c32 :: c33 :: c34 :: c35 :: c36 :: c37 :: c38 :: c39 :: c40 :: c41 :: c42 :: c43 :: c44 :: c45 :: c46 :: c47 :: c48 :: c49 :: c50 :: c51 :: c52 :: c53 :: g54 :: g55 :: g56 :: g57 :: g58 :: g59 :: g60 :: g61 :: g62 :: g63 :: g64 :: g65 :: g66 :: g67 :: g68 :: g69 :: g70 :: g71 :: g72 :: g73 :: g74 :: g75 :: g76 :: g77 :: g78 :: g79 :: g80 :: g81 :: g82 :: g83 :: g84 :: g85 :: g86 :: g87 :: g88 :: g89 :: g90 :: g91 :: c92 :: c93 :: c94 :: c95 :: c96 :: c97 :: c98 :: c99 :: c100 :: c101 :: c102 :: c103 :: c104 :: c105 :: c106 :: c107 :: c108 :: c109 :: c110 :: c111 :: c112 :: c113 :: c114 :: c115 :: c116 :: c117 :: c118 :: c119 :: c120 :: c121 :: c122 :: c123 :: c124 :: c125 :: c126 :: c127 :: c128 :: c129 :: c130 :: c131 :: c132 :: c133 :: c134 :: c135 :: c136 :: c137 :: c138 :: c139 :: c140 :: c141 :: c142 :: c143 :: c144 :: c145 :: c146 :: c147 :: c148 :: c149 :: c150 :: c151 :: c152 :: c153 :: c154 :: c155 :: c156 :: c157 :: c158 :: c159 :: []), []⟩ w') :
    Code.wp Tryz.prog (Code.loop fromInner) Q0 ⟨List.toArray (.slice (some ⟨b, off, none⟩) l.length cap :: c1 :: c2 :: c3 :: c4 :: c5 :: c6 :: .pointer (some ⟨nb, 0, none⟩) :: .int .i64 kx :: c9 :: c10 :: .int .i64 0 :: c12 :: c13 :: c14 :: c15 :: c16 :: c17 :: c18 :: c19 :: c20 :: c21 :: c22 :: c23 :: c24 :: c25 :: c26 :: c27 :: c28 :: c29 :: c30 :: c31 :: c32 :: c33 :: c34 :: c35 :: c36 :: c37 :: c38 :: c39 :: c40 :: c41 :: c42 :: c43 :: c44 :: c45 :: c46 :: c47 :: c48 :: c49 :: c50 :: c51 :: c52 :: c53 :: c54 :: c55 :: c56 :: c57 :: c58 :: c59 :: c60 :: c61 :: c62 :: c63 :: c64 :: c65 :: c66 :: c67 :: c68 :: c69 :: c70 :: c71 :: c72 :: c73 :: c74 :: c75 :: c76 :: c77 :: c78 :: c79 :: c80 :: c81 :: c82 :: c83 :: c84 :: c85 :: c86 :: c87 :: c88 :: c89 :: c90 :: c91 :: c92 :: c93 :: c94 :: c95 :: c96 :: c97 :: c98 :: c99 :: c100 :: c101 :: c102 :: c103 :: c104 :: c105 :: c106 :: c107 :: c108 :: c109 :: c110 :: c111 :: c112 :: c113 :: c114 :: c115 :: c116 :: c117 :: c118 :: c119 :: c120 :: c121 :: c122 :: c123 :: c124 :: c125 :: c126 :: c127 :: c128 :: c129 :: c130 :: c131 :: c132 :: c133 :: c134 :: c135 :: c136 :: c137 :: c138 :: c139 :: c140 :: c141 :: c142 :: c143 :: c144 :: c145 :: c146 :: c147 :: c148 :: c149 :: c150 :: c151 :: c152 :: c153 :: c154 :: c155 :: c156 :: c157 :: c158 :: c159 :: []), []⟩ wt := by
  have HE := Lib.hid hexit; have HRT := Lib.hid hret; have HOK := Lib.hid hok; have HD := Lib.hid hD
  have ROWS := Lib.hid (fun W (hW : Ext wt W) => hs.ext hW)
  have BN4 := Lib.hid hn
  obtain ⟨b0, off0, hbo, hb, hcell⟩ : ∃ b0 off0, some (⟨b, off, none⟩ : Addr) = some ⟨b0, off0, none⟩ ∧ (l = [] ∨ b0 < wt.heap.size) ∧ (∀ (u : Nat) (y : TaleZ), l[u]? = some y → ∀ (t : Nat) (v : Value), (encTale y)[t]? = some v → wt.cell? ⟨b0, off0 + u * 18 + t, none⟩ = some v) := by
    by_cases e : l = []
    · exact ⟨b, off, rfl, .inl e, fun u y hu => by rw [e] at hu; cases hu⟩
    · obtain ⟨b1, off1, e1, h1, h2⟩ := hs.1 e
      exact ⟨b1, off1, e1, .inr h1, h2⟩
  obtain ⟨rfl, rfl⟩ : b0 = b ∧ off0 = off := by
    have := Option.some.inj hbo
    simp only [Addr.mk.injEq] at this
    exact ⟨this.1.symm, this.2.1.symm⟩
  have HROW := Lib.hid (fun (u : Nat) (y : TaleZ) (hu : l[u]? = some y) (W : World) (hW : Ext wt W) (t : Nat) (v : Value) (ht : (encTale y)[t]? = some v) => (hW.cell (p := ⟨b0, _, none⟩) (hb.resolve_left (fun e => by rw [e] at hu; cases hu))).trans (hcell u y hu t v ht))
  have DL : Hid (D.length = l.length) := Lib.hid (by rw [hD, List.length_map])
  clear hexit hret hs hok hn hD hb hcell hbo
  conv => arg 2; arg 1; whnf
  go_loopw [11] (fun i wr' => ∃ t : Nat, t ≤ l.length ∧ i = .int .i64 t ∧ Hid (∀ (u : Nat) (y : TaleD), u < t → D[u]? = some y → clashT D (cl, nm) kx y = false) ∧ Hid (Ext wt wr')) (fun i _ => l.length - (intOf i).toNat)
  case atStart => exact ⟨0, by omega, rfl, Lib.hid (fun u y h => by omega), Lib.hid (Below.refl _ _)⟩
  case round =>
    obtain ⟨t, ht, rfl, A5, X5⟩ := hrel
    by_cases hlt5 : t < l.length
    · obtain ⟨y, hy⟩ : ∃ y, l[t]? = some y := ⟨_, List.getElem?_eq_getElem hlt5⟩
      have DY : Hid (D[t]? = some y.d) := Lib.hid (by rw [HD.out, List.getElem?_map, hy]; rfl)
      have NX : Hid (clashT D (cl, nm) kx y.d = false → ∀ (u : Nat) (x : TaleD), u < t + 1 → D[u]? = some x → clashT D (cl, nm) kx x = false) := Lib.hid (fun h u x hu hx => by
        rcases Nat.lt_or_ge u t with h2 | h2
        · exact A5.out u x h2 hx
        · obtain rfl : u = t := by omega
          rw [DY.out] at hx
          rw [← Option.some.inj hx]; exact h)
      obtain ⟨ycl, hycl⟩ : ∃ c, y.d.cl = c := ⟨_, rfl⟩
      obtain ⟨ynm, hynm⟩ : ∃ c, y.d.nm = c := ⟨_, rfl⟩
      have NMY : Hid (y.d.name = (ycl, ynm)) := Lib.hid (by rw [← hycl, ← hynm]; rfl)
      have d0 := ExtBy.cell (show wr.cell? ⟨b0, off0 + t * 18, none⟩ = some (.int .u8 y.d.kind) from HROW.out t y hy _ X5.out 0 _ rfl)
      have d5 := ExtBy.cell (show wr.cell? ⟨b0, off0 + t * 18 + 5, none⟩ = some (.int .i64 ycl) from by rw [← hycl]; exact HROW.out t y hy _ X5.out 5 _ rfl)
      have d6 := ExtBy.cell (show wr.cell? ⟨b0, off0 + t * 18 + 6, none⟩ = some (.int .i64 ynm) from by rw [← hynm]; exact HROW.out t y hy _ X5.out 6 _ rfl)
      have Q5 := Lib.hid (fun W (hW : Ext wr W) => (⟨by rw [← hycl]; exact HROW.out t y hy _ (Ext.trans X5.out hW) 5 _ rfl, by rw [← hynm]; exact HROW.out t y hy _ (Ext.trans X5.out hW) 6 _ rfl⟩ : W.cell? ⟨b0, off0 + t * 18 + 5, none⟩ = some (.int .i64 ycl) ∧ W.cell? ⟨b0, off0 + t * 18 + 6, none⟩ = some (.int .i64 ynm)))
      have bn := BN4.out.ext' X5.out
      have n0 := ExtBy.cell (bn.cell 0); have n1 := ExtBy.cell (bn.cell 1)
      obtain ⟨E, hE⟩ : ∃ E : Bool, (ycl == cl && ynm == nm) = E := ⟨_, rfl⟩
      have hNe : ∀ W, (binOp .neq 26 (.agg #[.int .i64 ycl, .int .i64 ynm]) (.agg #[.int .i64 cl, .int .i64 nm])).run Tryz.prog W = .ok (.bool (!E)) W := fun W => by rw [neq_nameT, hE]
      have HE2 : Hid (decide ((ycl, ynm) = (cl, nm)) = E) := Lib.hid (by rw [← hE, Bool.eq_iff_iff]; simp [Prod.ext_iff])
      have t0 : (0 : Int) ≤ (t : Int) := by omega
      have t1 : (t : Int) < (l.length : Int) := by omega
      clear hy hycl hynm bn hE
      by_cases hk2 : y.d.kind = 6
      · have g3 : (y.d.kind == 6) = true := by simpa using hk2
        have HK2 := Lib.hid hk2
        clear hk2
        cases E
        · have HNN : Hid (y.d.name ≠ (cl, nm)) := Lib.hid (by rw [NMY.out]; exact of_decide_eq_false HE2.out)
          go_wp2_with fail
          refine wp_region_ext (by kernel_rfl) (by kernel_rfl) ?_
          repeat (go_big_quiet_step (fail))
          refine wpQuiet_nil ?_
          intro wd hw'
          have XD : Hid (Ext wr wd) := Lib.hid (by obtain ⟨p, rfl⟩ := hw'; exact p.ext)
          clear hw' d0 d5 d6 n0 n1 hNe
          have X7 := Lib.hid (Ext.trans X5.out XD.out)
          have IC2 := Lib.hid (refIndex_calls l (some ⟨b0, off0, none⟩) cap ycl ynm wd (by omega) (ROWS.out _ X7.out) HOK.out)
          obtain ⟨q5, q6⟩ := Q5.out _ XD.out
          go_wp2_with fail
          refine IC2.out.mono ?_
          rintro e w8 ⟨zy, rfl, hzy, hx8⟩
          have X8 := Lib.hid (Ext.trans XD.out hx8)
          obtain ⟨wu, hwu⟩ : ∃ wu, wu = (w8.alloc (.cells #[.int .u8 0, .int .i64 0, .int .i64 0, .int .i64 0, .int .i64 0, .int .i64 0, .int .i64 0, .slice none 0 0, .bool false, .slice none 0 0, .string ⟨#[]⟩, .string ⟨#[]⟩, .int .i64 0, .int .u8 0, .int .i64 0, .int .i64 0, .slice none 0 0, .slice none 0 0] 39)).setCells w8.heap.size 0 (encTale zy) := ⟨_, rfl⟩
          have XU : Hid (Ext w8 wu) := Lib.hid (by rw [hwu]; exact (put_tale w8 zy).2)
          have X9 := Lib.hid (Ext.trans (Ext.trans X5.out X8.out) XU.out)
          have PR : Sem.run Tryz.prog (storeCells ⟨w8.heap.size, 0, none⟩ (encTale zy)) (w8.alloc (.cells #[.int .u8 0, .int .i64 0, .int .i64 0, .int .i64 0, .int .i64 0, .int .i64 0, .int .i64 0, .slice none 0 0, .bool false, .slice none 0 0, .string ⟨#[]⟩, .string ⟨#[]⟩, .int .i64 0, .int .u8 0, .int .i64 0, .int .i64 0, .slice none 0 0, .slice none 0 0] 39)) = .ok () wu := by rw [hwu]; exact put_run w8 zy
          clear hzy hx8 IC2 hwu q5 q6
          rw [← HD.out]
          obtain ⟨IY, hIY⟩ : ∃ IY, indexT D (ycl, ynm) = IY := ⟨_, rfl⟩
          rw [hIY]
          have CD : Hid (clashT D (cl, nm) kx y.d = clashI IY kx) := Lib.hid (by rw [← hIY]; exact clash_two HK2.out NMY.out HNN.out)
          clear hIY
          cases IY with
          | none =>
            simp only [Option.map_none, Option.getD_none, Option.isSome_none]
            have CF : Hid (clashT D (cl, nm) kx y.d = false) := Lib.hid (by rw [CD.out]; rfl)
            clear CD
            go_wp2_with fail
            go_roundw
            case rel => exact ⟨t + 1, by omega, by go_num, Lib.hid (NX.out CF.out), X9⟩
            case measure => simp [intOf]; omega
          | some po =>
            obtain ⟨o, dy⟩ := po
            simp only [Option.map_some, Option.getD_some, Option.isSome_some]
            by_cases hok2 : o = kx
            · have g4 : (o == kx) = true := by simpa using hok2
              have CT : Hid (clashT D (cl, nm) kx y.d = true) := Lib.hid (by rw [CD.out]; unfold clashI; simpa using hok2)
              have RN : Hid (D.any (clashT D (cl, nm) kx) = true) := Lib.hid (List.any_eq_true.2 ⟨y.d, List.mem_of_getElem? DY.out, CT.out⟩)
              clear CD hok2
              go_wp2_with fail
              exact HRT.out _ _ _ _ _ _ _ _ _ _ _ _ _ _ _ _ _ _ _ _ _ _ _ _ _ _ _ _ _ _ _ _ _ _ _ _ _ _ _ _ _ _ _ RN.out X9.out
            · have g4 : (o == kx) = false := by simpa using hok2
              have CF : Hid (clashT D (cl, nm) kx y.d = false) := Lib.hid (by rw [CD.out]; unfold clashI; simpa using hok2)
              clear CD hok2
              go_wp2_with fail
              go_roundw
              case rel => exact ⟨t + 1, by omega, by go_num, Lib.hid (NX.out CF.out), X9⟩
              case measure => simp [intOf]; omega
        · have HNN : Hid (y.d.name = (cl, nm)) := Lib.hid (by rw [NMY.out]; exact of_decide_eq_true HE2.out)
          go_wp2_with fail
          refine wp_region_ext (by kernel_rfl) (by kernel_rfl) ?_
          repeat (go_big_quiet_step (fail))
          refine wpQuiet_nil ?_
          intro wd hw'
          have XD : Hid (Ext wr wd) := Lib.hid (by obtain ⟨p, rfl⟩ := hw'; exact p.ext)
          clear hw' d0 d5 d6 n0 n1 hNe
          have CF : Hid (clashT D (cl, nm) kx y.d = false) := Lib.hid (by unfold clashT; rw [HNN.out]; simp)
          go_wp2_with fail
          go_roundw
          case rel => exact ⟨t + 1, by omega, by go_num, Lib.hid (NX.out CF.out), Lib.hid (Ext.trans X5.out XD.out)⟩
          case measure => simp [intOf]; omega
      · have g3 : (y.d.kind == 6) = false := by simpa using hk2
        have HK2 := Lib.hid hk2
        clear hk2
        go_wp2_with fail
        refine wp_region_ext (by kernel_rfl) (by kernel_rfl) ?_
        repeat (go_big_quiet_step (fail))
        refine wpQuiet_nil ?_
        intro wd hw'
        have XD : Hid (Ext wr wd) := Lib.hid (by obtain ⟨p, rfl⟩ := hw'; exact p.ext)
        clear hw' d0 d5 d6 n0 n1 hNe
        have CF : Hid (clashT D (cl, nm) kx y.d = false) := Lib.hid (by unfold clashT; simp [HK2.out])
        go_wp2_with fail
        go_roundw
        case rel => exact ⟨t + 1, by omega, by go_num, Lib.hid (NX.out CF.out), Lib.hid (Ext.trans X5.out XD.out)⟩
        case measure => simp [intOf]; omega
    · have NC : Hid (D.any (clashT D (cl, nm) kx) = false) := Lib.hid (List.any_eq_false.2 (fun y hy => by
        obtain ⟨u, hu⟩ := List.mem_iff_getElem?.1 hy
        rw [A5.out u y (by have := (List.getElem?_eq_some_iff.1 hu).1; rw [DL.out] at this; omega) hu]; simp))
      go_wp2_with fail
      exact HE.out _ _ _ _ _ _ _ _ _ _ _ _ _ _ _ _ _ _ _ _ _ _ _ _ _ _ _ _ _ _ _ _ _ _ _ _ _ _ _ _ _ _ _ _ _ NC.out X5.out
end Go.Proofs.YtbnclifpdmpjnaaGreatDoor
