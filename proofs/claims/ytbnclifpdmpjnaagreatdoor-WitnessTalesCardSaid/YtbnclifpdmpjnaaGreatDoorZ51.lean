/- WitnessTales: six turns of one history. -/
import Derived.Test.YtbnclifpdmpjnaaGreatDoorZ49
import Derived.Deep.CutRange
import Derived.Deep.DeepCutAuto
namespace Go.Proofs.YtbnclifpdmpjnaaGreatDoor
open Go.RowKit
theorem nrows_left {α : Type} {sz : Nat} {enc : α → List Value} {no : Nat → Prop} {w : World} {ao : Option Addr} {l m : List α} (h : NRows sz enc no w ao (l ++ m)) : NRows sz enc no w ao l := by
  intro hne
  obtain ⟨b, off, e, hb, hn, hc⟩ := h (by intro e; exact hne (List.append_eq_nil_iff.1 e).1)
  exact ⟨b, off, e, hb, hn, fun i x hx => hc i x (by rw [List.getElem?_append_left (List.getElem?_eq_some_iff.1 hx).1]; exact hx)⟩
theorem NRows.imp {α : Type} {sz : Nat} {enc : α → List Value} {no no' : Nat → Prop} {w : World} {ao : Option Addr} {l : List α} (h : NRows sz enc no w ao l) (hn : ∀ b, no' b → no b) : NRows sz enc no' w ao l := by
  intro hne
  obtain ⟨b, off, e, hb, h1, hc⟩ := h hne
  exact ⟨b, off, e, hb, fun h => h1 (hn b h), hc⟩
theorem MyTales.ext {w w' : World} {g c : Nat} {q : List TaleZ} (h : MyTales w g c q) (hx : Ext w w') : MyTales w' g c q := ⟨own_ext h.own hx, fun z hz => ⟨(h.lent z hz).1.step (Ext.but hx (fun _ => False)) (fun _ _ e => e.elim) (fun _ _ e => e), (h.lent z hz).2.step (Ext.but hx (fun _ => False)) (fun _ _ e => e.elim) (fun _ _ e => e)⟩⟩
set_option maxRecDepth 1000000 in
set_option maxHeartbeats 6400000 in
theorem turns_wp {Q0 : Exit → Act → World → Prop} {yl : List TaleZ} {k b2 yc : Nat} {yo : Option Addr} {zb : StepZ} {W : World} (hy : TalesAt W yo yl) (hy1 : 1 ≤ yl.length) (hy60 : yl.length ≤ 60) (hk : k ≤ 8) (hsm : ∀ z ∈ yl, z.d.small) (hok : ∀ z ∈ yl, z.d.ok) (hb : Blk W b2 (encStep zb) 51) (hcl : i64B zb.d.cl) (hnm : i64B zb.d.nm) (hlv : LV W.heap.size W) {c0 c1 c3 c4 c6 c8 c10 c11 c12 c13 c14 c15 c16 c17 c18 c19 c20 c21 c22 c23 c24 c25 c26 c27 c28 c29 c30 c31 c32 c33 c34 c35 c36 c37 c38 c39 c40 c41 c42 c43 c44 c45 c46 c47 c48 c49 c50 c51 c52 c53 c54 c55 c56 c57 c58 c59 c60 c61 c62 c63 c64 c65 c66 c67 c68 c69 c70 c71 c72 c73 c74 c75 c76 c77 c78 c79 c80 c81 c82 c83 c84 c85 c86 c87 c88 c89 c90 c91 c92 c93 c94 c95 c96 c97 c98 c99 c100 c101 c102 c103 c104 c105 c106 c107 c108 c109 c110 c111 c112 c113 c114 c115 c116 c117 c118 c119 c120 c121 c122 c123 c124 c125 c126 c127 c128 c129 c130 c131 c132 c133 c134 c135 c136 c137 c138 c139 c140 c141 c142 c143 c144 c145 c146 c147 c148 c149 c150 c151 c152 c153 c154 c155 c156 c157 c158 c159 c160 c161 c162 c163 c164 c165 c166 c167 : Value}
    (hexit : ∀ (g0 g9 g10 g11 g101 g102 g103 g104 g105 g106 g107 g108 g109 g110 g111 g112 g113 g114 g115 g116 g117 g118 g119 g120 g121 g122 g123 g124 g125 g126 g127 g128 g129 g130 g131 g132 g133 g134 g135 g136 g137 g138 g139 g140 g141 g142 g143 g144 g145 g146 g147 g148 g149 g150 g151 g152 g153 g154 g155 : Value) (w' : World), Ext W w' → Q0 (.exit 4) ⟨List.toArray (g0 :: c1 :: .pointer (some ⟨b2, 0, none⟩) :: c3 :: c4 :: .int .i64 (k : Int) :: c6 :: .slice yo yl.length yc :: c8 :: g9 :: g10 :: g11 :: c12 :: c13 :: c14 :: c15 :: c16 :: c17 :: c18 :: c19 :: c20 :: c21 :: c22 :: c23 :: c24 :: c25 :: c26 :: c27 :: c28 :: c29 :: c30 :: c31 :: c32 :: c33 :: c34 :: c35 :: c36 :: c37 :: c38 :: c39 :: c40 :: c41 :: c42 :: c43 :: c44 :: c45 :: c46 :: c47 :: c48 :: c49 :: c50 :: c51 :: c52 :: c53 :: c54 :: c55 :: c56 :: c57 :: c58 :: c59 :: c60 :: c61 :: c62 :: c63 :: c64 :: c65 :: c66 :: c67 :: c68 :: c69 :: c70 :: c71 :: c72 :: c73 :: c74 :: c75 :: c76 :: c77 :: c78 :: c79 :: c80 :: c81 :: c82 :: c83 :: c84 :: c85 :: c86 :: c87 :: c88 :: c89 :: c90 :: c91 :: c92 :: c93 :: c94 :: c95 :: c96 :: c97 :: c98 :: c99 :: c100 :: g101 :: g102 :: g103 :: g104 :: g105 :: g106 :: g107 :: g108 :: g109 :: g110 :: g111 :: g112 :: g113 :: g114 :: g115 :: g116 :: g117 :: g118 :: g119 :: g120 :: g121 :: g122 :: g123 :: g124 :: g125 :: g126 :: g127 :: g128 :: g129 :: g130 :: g131 :: g132 :: g133 :: g134 :: g135 :: g136 :: g137 :: g138 :: g139 :: g140 :: g141 :: g142 :: g143 :: g144 :: g145 :: g146 :: g147 :: g148 :: g149 :: g150 :: g151 :: g152 :: g153 :: g154 :: g155 :: c156 :: c157 :: c158 :: c159 :: c160 :: c161 :: c162 :: c163 :: c164 :: c165 :: c166 :: c167 :: []), []⟩ w') :
    Code.wp Tryz.prog (Code.loop turnBody) Q0 ⟨List.toArray (c0 :: c1 :: .pointer (some ⟨b2, 0, none⟩) :: c3 :: c4 :: .int .i64 (k : Int) :: c6 :: .slice yo yl.length yc :: c8 :: .int .i64 0 :: c10 :: c11 :: c12 :: c13 :: c14 :: c15 :: c16 :: c17 :: c18 :: c19 :: c20 :: c21 :: c22 :: c23 :: c24 :: c25 :: c26 :: c27 :: c28 :: c29 :: c30 :: c31 :: c32 :: c33 :: c34 :: c35 :: c36 :: c37 :: c38 :: c39 :: c40 :: c41 :: c42 :: c43 :: c44 :: c45 :: c46 :: c47 :: c48 :: c49 :: c50 :: c51 :: c52 :: c53 :: c54 :: c55 :: c56 :: c57 :: c58 :: c59 :: c60 :: c61 :: c62 :: c63 :: c64 :: c65 :: c66 :: c67 :: c68 :: c69 :: c70 :: c71 :: c72 :: c73 :: c74 :: c75 :: c76 :: c77 :: c78 :: c79 :: c80 :: c81 :: c82 :: c83 :: c84 :: c85 :: c86 :: c87 :: c88 :: c89 :: c90 :: c91 :: c92 :: c93 :: c94 :: c95 :: c96 :: c97 :: c98 :: c99 :: c100 :: c101 :: c102 :: c103 :: c104 :: c105 :: c106 :: c107 :: c108 :: c109 :: c110 :: c111 :: c112 :: c113 :: c114 :: c115 :: c116 :: c117 :: c118 :: c119 :: c120 :: c121 :: c122 :: c123 :: c124 :: c125 :: c126 :: c127 :: c128 :: c129 :: c130 :: c131 :: c132 :: c133 :: c134 :: c135 :: c136 :: c137 :: c138 :: c139 :: c140 :: c141 :: c142 :: c143 :: c144 :: c145 :: c146 :: c147 :: c148 :: c149 :: c150 :: c151 :: c152 :: c153 :: c154 :: c155 :: c156 :: c157 :: c158 :: c159 :: c160 :: c161 :: c162 :: c163 :: c164 :: c165 :: c166 :: c167 :: []), []⟩ W := by
  have HE := Lib.hid hexit; have HY := Lib.hid hy; have HSM := Lib.hid hsm; have HOK := Lib.hid hok; have HCL := Lib.hid hcl; have HNM := Lib.hid hnm; have HLV := Lib.hid hlv
  have HB := Lib.hid (fun w (hw : Ext W w) => hb.ext' hw)
  clear hexit hy hsm hok hb hcl hnm hlv
  conv => arg 2; arg 1; whnf
  go_loopw [9] (fun i wr => ∃ t : Nat, t ≤ 6 ∧ i = .int .i64 t ∧ Hid (Ext W wr)) (fun i _ => 6 - (intOf i).toNat)
  case atStart => exact ⟨0, by omega, rfl, Lib.hid (Below.refl _ _)⟩
  case round =>
    obtain ⟨t, ht, rfl, X1⟩ := hrel
    by_cases hlt : t < 6
    · go_wp2_with fail
      refine (lentT_calls yl yo yc wr (by omega) (HY.out.ext X1.out) HOK.out).mono ?_
      rintro e wL ⟨v, rfl, hlend⟩
      obtain ⟨q, hqd, hown, hnew, hlent, hx⟩ := hlend.out
      rw [List.take_of_length_le (Nat.le_refl _)] at hqd
      have hql : q.length = yl.length := by have := congrArg List.length hqd; simpa using this
      obtain ⟨g, c0', rfl⟩ : ∃ g c0', v = .slice (some ⟨g, 0, none⟩) q.length c0' := by
        rcases hown.2 with ⟨_, h⟩ | ⟨g, cap, cur, h, _⟩
        · exfalso; omega
        · exact ⟨g, cap, h⟩
      have XL := Lib.hid (Ext.trans X1.out hx)
      have GN : Hid (W.heap.size ≤ g) := Lib.hid (Nat.le_trans X1.out.size (hnew g rfl))
      have MT0 : MyTales wL g c0' q := ⟨hown, fun z hz => by
        obtain ⟨g1, g2, h1, h2, h3, h4, h5, h6, h7, h8⟩ := (hlent z hz).out
        exact ⟨(nrows_left h7).imp (fun b e => by rw [e]; rfl), (nrows_left h8).imp (fun b e => by rw [e]; rfl)⟩⟩
      have SQ : Hid (∀ z ∈ q, z.d.small) := Lib.hid (fun z hz => by
        have h1 : z.d ∈ q.map (·.d) := List.mem_map.2 ⟨z, hz, rfl⟩
        rw [hqd] at h1
        obtain ⟨y, hy, he⟩ := List.mem_map.1 h1
        rw [← he]; exact HSM.out y hy)
      obtain ⟨n, hn⟩ : ∃ n, n = q.length := ⟨_, rfl⟩
      have MT : Hid (MyTales wL g c0' q) := Lib.hid MT0
      have hn1 : 1 ≤ n := by omega
      have hn60 : n ≤ 60 := by omega
      have hjn : k % n < q.length := by rw [← hn]; exact Nat.mod_lt _ (by omega)
      obtain ⟨z, hz⟩ : ∃ z, q[k % n]? = some z := ⟨_, List.getElem?_eq_getElem hjn⟩
      obtain ⟨j, hj⟩ : ∃ j, j = k % n := ⟨_, rfl⟩
      rw [← hj] at hz hjn
      have hjm : Int.tmod (k : Int) (n : Int) = (j : Int) := by rw [hj]; rfl
      have HZ := Lib.hid hz; have ZM := Lib.hid (List.mem_of_getElem? hz); have ZS := Lib.hid (SQ.out z (List.mem_of_getElem? hz))
      have CZ := Lib.hid (fun w (hw : Ext wL w) (f : Nat) (u : Value) (hu : (encTale z)[f]? = some u) => (show w.cell? ⟨g, j * 18 + f, none⟩ = some u from by
        obtain ⟨b', o', e, hb', hc'⟩ := (MT0.at.ext hw).1 (by intro e; rw [e] at hz; simp at hz)
        simp only [Option.some.injEq, Addr.mk.injEq, and_true] at e
        obtain ⟨rfl, rfl⟩ := e
        have := hc' j z hz f u hu
        simpa using this))
      have FRZ := Lib.hid (fun w (hw : Ext wL w) (o : Nat) => (show w.frozen? ⟨g, o, none⟩ = false from by
        obtain ⟨cs, hbl⟩ := own_blk (own_ext MT0.own hw) (j := g) rfl
        exact hbl.free o))
      have FW := Lib.hid (fun W' (q' : List TaleZ) (hm : MyTales W' g c0' q') (hl : q'.length = q.length) (hs : ∀ z ∈ q', z.d.small) (hw : Ext W W') => (show Calls Tryz.prog 3 #[.slice (some ⟨g, 0, none⟩) n c0'] W' (fun e w' => e = .returned (.bool true) ∧ Ext W' w') from by
        have := fromW_calls q' (some ⟨g, 0, none⟩) c0' W' (by omega) hm.at hs ((HLV.out.below hw).up hw.size)
        rw [hl, ← hn] at this
        exact this))
      rw [← hn]
      have nn0 : (n : Int) ≠ 0 := by omega
      have j0 : (0 : Int) ≤ (j : Int) := by omega
      have j1 : (j : Int) < (n : Int) := by omega
      clear hlend hqd hown hnew hlent hx hql MT0 hz hjn hj hn hlt
      have htt : t = 0 ∨ t = 1 ∨ t = 2 ∨ t = 3 ∨ t = 4 ∨ t = 5 := by omega
      rcases htt with htt | htt | htt | htt | htt | htt
      · have q0 : ((t : Int) == 0) = true := by simp; omega
        obtain ⟨r, hr⟩ : ∃ r, r = k % 7 := ⟨_, rfl⟩
        have hr7 : r < 7 := by omega
        have hk7 : Int.tmod (k : Int) 7 = (r : Int) := by rw [hr]; rfl
        obtain ⟨wA, hwA⟩ : ∃ wA, wA = wL.alloc (.cells #[.int .i64 3, .int .i64 4, .int .i64 5, .int .i64 6, .int .i64 9, .int .i64 (-9223372036854775808), .int .i64 9223372036854775807] 3) := ⟨_, rfl⟩
        have XA : Hid (Ext wL wA) := Lib.hid (by rw [hwA]; exact (Below.refl _ wL).alloc (Nat.le_refl _) _)
        obtain ⟨x, hx7, hxb⟩ : ∃ x, wA.cell? ⟨wL.heap.size, r, none⟩ = some (.int .i64 x) ∧ i64B x := by
          have hbA : Blk wA wL.heap.size [.int .i64 3, .int .i64 4, .int .i64 5, .int .i64 6, .int .i64 9, .int .i64 (-9223372036854775808), .int .i64 9223372036854775807] 3 := by rw [hwA]; exact Blk.new wL _ _
          rw [hbA.cell r]
          match r, hr7 with
          | 0, _ => exact ⟨3, rfl, by unfold i64B; omega⟩
          | 1, _ => exact ⟨4, rfl, by unfold i64B; omega⟩
          | 2, _ => exact ⟨5, rfl, by unfold i64B; omega⟩
          | 3, _ => exact ⟨6, rfl, by unfold i64B; omega⟩
          | 4, _ => exact ⟨9, rfl, by unfold i64B; omega⟩
          | 5, _ => exact ⟨_, rfl, by unfold i64B; omega⟩
          | 6, _ => exact ⟨_, rfl, by unfold i64B; omega⟩
        have HXB := Lib.hid hxb; have WA := Lib.hid hwA
        have r0 : (0 : Int) ≤ (r : Int) := by omega
        have r7 : (r : Int) < 7 := by omega
        clear hr hxb
        have ff := FRZ.out wA XA.out (j * 18 + 4)
        have dd := CZ.out wA XA.out 4 _ rfl
        rw [hwA] at ff dd hx7
        obtain ⟨wS, hwS⟩ : ∃ wS, wS = wA.setCell ⟨g, j * 18 + 4, none⟩ (.int .i64 x) := ⟨_, rfl⟩
        have MB : MyTales wA g c0' q := MT.out.ext XA.out
        have M1 := MB.set (z' := { z with d := { z.d with index := x } }) (f := 4) (v := .int .i64 x) HZ.out rfl (by omega) (MB.lent z ZM.out).1 (MB.lent z ZM.out).2
        rw [← hwS] at M1
        have MS := Lib.hid M1
        have XS : Hid (Ext W wS) := Lib.hid (by
          rw [hwS]
          exact Below.trans (Ext.trans XL.out XA.out) (((But.refl (fun b => b = g) wA).setCell (p := ⟨g, j * 18 + 4, none⟩) (fun _ => rfl) _).below (Ext.trans XL.out XA.out).size (fun i e => by rw [e]; exact GN.out)))
        have SS : Hid (∀ y ∈ q.set j ({ z with d := { z.d with index := x } }), y.d.small) := Lib.hid (fun y hy => by
          rcases List.mem_or_eq_of_mem_set hy with hy | rfl
          · exact SQ.out y hy
          · exact ⟨ZS.out.acts, ZS.out.reads, ZS.out.cl, ZS.out.nm, HXB.out, ZS.out.kd, ZS.out.al, ZS.out.rl⟩)
        have WS := Lib.hid hwS
        clear htt hwS M1 MB hwA
        go_upto_region 28 with fail
        rw [← WA.out]
        rw [← WS.out]
        clear ff dd hx7
        go_wp2_with fail
        refine (FW.out wS (q.set j ({ z with d := { z.d with index := x } })) MS.out (by rw [List.length_set]) SS.out XS.out).mono ?_
        rintro e w9 ⟨rfl, hx9⟩
        have X9 := Lib.hid (Ext.trans XS.out hx9)
        clear hx9
        go_wp2_with fail
        go_roundw
        case rel => exact ⟨t + 1, by omega, by go_num, X9⟩
        case measure => simp [intOf]; omega
      · have q0 : ((t : Int) == 0) = false := by simp; omega
        have q1 : ((t : Int) == 1) = true := by simp; omega
        have ff := FRZ.out wL (Below.refl _ _) (j * 18 + 8)
        have dd := CZ.out wL (Below.refl _ _) 8 _ rfl
        obtain ⟨wS, hwS⟩ : ∃ wS, wS = wL.setCell ⟨g, j * 18 + 8, none⟩ (.bool (!z.d.commit)) := ⟨_, rfl⟩
        have MB : MyTales wL g c0' q := MT.out
        have M1 := MB.set (z' := { z with d := { z.d with commit := !z.d.commit } }) (f := 8) (v := .bool (!z.d.commit)) HZ.out rfl (by omega) (MB.lent z ZM.out).1 (MB.lent z ZM.out).2
        rw [← hwS] at M1
        have MS := Lib.hid M1
        have XS : Hid (Ext W wS) := Lib.hid (by
          rw [hwS]
          exact Below.trans (Ext.trans XL.out (Below.refl _ _)) (((But.refl (fun b => b = g) wL).setCell (p := ⟨g, j * 18 + 8, none⟩) (fun _ => rfl) _).below (Ext.trans XL.out (Below.refl _ _)).size (fun i e => by rw [e]; exact GN.out)))
        have SS : Hid (∀ y ∈ q.set j ({ z with d := { z.d with commit := !z.d.commit } }), y.d.small) := Lib.hid (fun y hy => by
          rcases List.mem_or_eq_of_mem_set hy with hy | rfl
          · exact SQ.out y hy
          · exact ⟨ZS.out.acts, ZS.out.reads, ZS.out.cl, ZS.out.nm, ZS.out.ix, ZS.out.kd, ZS.out.al, ZS.out.rl⟩)
        have WS := Lib.hid hwS
        clear htt hwS M1 MB
        go_upto_region 28 with fail
        rw [← WS.out]
        clear ff dd
        go_wp2_with fail
        refine (FW.out wS (q.set j ({ z with d := { z.d with commit := !z.d.commit } })) MS.out (by rw [List.length_set]) SS.out XS.out).mono ?_
        rintro e w9 ⟨rfl, hx9⟩
        have X9 := Lib.hid (Ext.trans XS.out hx9)
        clear hx9
        go_wp2_with fail
        go_roundw
        case rel => exact ⟨t + 1, by omega, by go_num, X9⟩
        case measure => simp [intOf]; omega
      · have q0 : ((t : Int) == 0) = false := by simp; omega
        have q1 : ((t : Int) == 1) = false := by simp; omega
        have q2 : ((t : Int) == 2) = true := by simp; omega
        have ff := FRZ.out wL (Below.refl _ _) (j * 18 + 9)
        have dd := CZ.out wL (Below.refl _ _) 9 _ rfl
        obtain ⟨wS, hwS⟩ : ∃ wS, wS = wL.setCell ⟨g, j * 18 + 9, none⟩ (.slice none 0 0) := ⟨_, rfl⟩
        have MB : MyTales wL g c0' q := MT.out
        have M1 := MB.set (z' := { z with d := { z.d with reads := [] }, ro := none, rc := 0 }) (f := 9) (v := .slice none 0 0) HZ.out rfl (by omega) (MB.lent z ZM.out).1 (fun h => absurd rfl h)
        rw [← hwS] at M1
        have MS := Lib.hid M1
        have XS : Hid (Ext W wS) := Lib.hid (by
          rw [hwS]
          exact Below.trans (Ext.trans XL.out (Below.refl _ _)) (((But.refl (fun b => b = g) wL).setCell (p := ⟨g, j * 18 + 9, none⟩) (fun _ => rfl) _).below (Ext.trans XL.out (Below.refl _ _)).size (fun i e => by rw [e]; exact GN.out)))
        have SS : Hid (∀ y ∈ q.set j ({ z with d := { z.d with reads := [] }, ro := none, rc := 0 }), y.d.small) := Lib.hid (fun y hy => by
          rcases List.mem_or_eq_of_mem_set hy with hy | rfl
          · exact SQ.out y hy
          · exact ⟨ZS.out.acts, (fun _ h => by cases h), ZS.out.cl, ZS.out.nm, ZS.out.ix, ZS.out.kd, ZS.out.al, Nat.zero_le _⟩)
        have WS := Lib.hid hwS
        clear htt hwS M1 MB
        go_upto_region 28 with fail
        rw [← WS.out]
        clear ff dd
        go_wp2_with fail
        refine (FW.out wS (q.set j ({ z with d := { z.d with reads := [] }, ro := none, rc := 0 })) MS.out (by rw [List.length_set]) SS.out XS.out).mono ?_
        rintro e w9 ⟨rfl, hx9⟩
        have X9 := Lib.hid (Ext.trans XS.out hx9)
        clear hx9
        go_wp2_with fail
        go_roundw
        case rel => exact ⟨t + 1, by omega, by go_num, X9⟩
        case measure => simp [intOf]; omega
      · have q0 : ((t : Int) == 0) = false := by simp; omega
        have q1 : ((t : Int) == 1) = false := by simp; omega
        have q2 : ((t : Int) == 2) = false := by simp; omega
        have q3 : ((t : Int) == 3) = true := by simp; omega
        have n0 : wL.cell? ⟨b2, 0, none⟩ = some (.int .i64 zb.d.cl) := (HB.out _ XL.out).cell 0
        have n1 : wL.cell? ⟨b2, 1, none⟩ = some (.int .i64 zb.d.nm) := (HB.out _ XL.out).cell 1
        have f5 := FRZ.out wL (Below.refl _ _) (j * 18 + 5); have f6 := FRZ.out wL (Below.refl _ _) (j * 18 + 6)
        have d5 := CZ.out wL (Below.refl _ _) 5 _ rfl; have d6 := CZ.out wL (Below.refl _ _) 6 _ rfl
        obtain ⟨wS, hwS⟩ : ∃ wS, wS = (wL.setCell ⟨g, j * 18 + 5, none⟩ (.int .i64 zb.d.cl)).setCell ⟨g, j * 18 + 6, none⟩ (.int .i64 zb.d.nm) := ⟨_, rfl⟩
        have M1 := MT.out.set (z' := { z with d := { z.d with cl := zb.d.cl } }) (f := 5) (v := .int .i64 zb.d.cl) HZ.out rfl (by omega) (MT.out.lent z ZM.out).1 (MT.out.lent z ZM.out).2
        have M2 := M1.set (z := { z with d := { z.d with cl := zb.d.cl } }) (z' := { z with d := { z.d with cl := zb.d.cl, nm := zb.d.nm } }) (f := 6) (v := .int .i64 zb.d.nm) (by rw [List.getElem?_set_self (by have := (List.getElem?_eq_some_iff.1 HZ.out).1; exact this)]) rfl (by omega) (M1.lent _ (List.mem_set (by have := (List.getElem?_eq_some_iff.1 HZ.out).1; exact this) _)).1 (M1.lent _ (List.mem_set (by have := (List.getElem?_eq_some_iff.1 HZ.out).1; exact this) _)).2
        rw [List.set_set, ← hwS] at M2
        have MS := Lib.hid M2
        have XS : Hid (Ext W wS) := Lib.hid (by
          rw [hwS]
          exact Below.trans XL.out ((((But.refl (fun b => b = g) wL).setCell (p := ⟨g, j * 18 + 5, none⟩) (fun _ => rfl) _).setCell (p := ⟨g, j * 18 + 6, none⟩) (fun _ => rfl) _).below XL.out.size (fun i e => by rw [e]; exact GN.out)))
        have SS : Hid (∀ y ∈ q.set j ({ z with d := { z.d with cl := zb.d.cl, nm := zb.d.nm } }), y.d.small) := Lib.hid (fun y hy => by
          rcases List.mem_or_eq_of_mem_set hy with hy | rfl
          · exact SQ.out y hy
          · exact ⟨ZS.out.acts, ZS.out.reads, HCL.out, HNM.out, ZS.out.ix, ZS.out.kd, ZS.out.al, ZS.out.rl⟩)
        have WS := Lib.hid hwS
        clear htt hwS M1 M2
        go_upto_region 28 with fail
        rw [← WS.out]
        clear n0 n1 f5 f6 d5 d6
        go_wp2_with fail
        refine (FW.out wS (q.set j ({ z with d := { z.d with cl := zb.d.cl, nm := zb.d.nm } })) MS.out (by rw [List.length_set]) SS.out XS.out).mono ?_
        rintro e w9 ⟨rfl, hx9⟩
        have X9 := Lib.hid (Ext.trans XS.out hx9)
        clear hx9
        go_wp2_with fail
        go_roundw
        case rel => exact ⟨t + 1, by omega, by go_num, X9⟩
        case measure => simp [intOf]; omega
      · have q0 : ((t : Int) == 0) = false := by simp; omega
        have q1 : ((t : Int) == 1) = false := by simp; omega
        have q2 : ((t : Int) == 2) = false := by simp; omega
        have q3 : ((t : Int) == 3) = false := by simp; omega
        have q4 : ((t : Int) == 4) = true := by simp; omega
        have hk8 : IntKind.u8.wrap (k : Int) = (k : Int) := IntWalk.u8_in _ (by omega)
        have ff := FRZ.out wL (Below.refl _ _) (j * 18)
        have dd := CZ.out wL (Below.refl _ _) 0 _ rfl
        simp only [Nat.add_zero] at dd
        obtain ⟨wS, hwS⟩ : ∃ wS, wS = wL.setCell ⟨g, j * 18, none⟩ (.int .u8 (k : Int)) := ⟨_, rfl⟩
        have MB : MyTales wL g c0' q := MT.out
        have M1 := MB.set (z' := { z with d := { z.d with kind := (k : Int) } }) (f := 0) (v := .int .u8 (k : Int)) HZ.out rfl (by omega) (MB.lent z ZM.out).1 (MB.lent z ZM.out).2
        simp only [Nat.add_zero] at M1
        rw [← hwS] at M1
        have MS := Lib.hid M1
        have XS : Hid (Ext W wS) := Lib.hid (by
          rw [hwS]
          exact Below.trans (Ext.trans XL.out (Below.refl _ _)) (((But.refl (fun b => b = g) wL).setCell (p := ⟨g, j * 18, none⟩) (fun _ => rfl) _).below (Ext.trans XL.out (Below.refl _ _)).size (fun i e => by rw [e]; exact GN.out)))
        have SS : Hid (∀ y ∈ q.set j ({ z with d := { z.d with kind := (k : Int) } }), y.d.small) := Lib.hid (fun y hy => by
          rcases List.mem_or_eq_of_mem_set hy with hy | rfl
          · exact SQ.out y hy
          · exact ⟨ZS.out.acts, ZS.out.reads, ZS.out.cl, ZS.out.nm, ZS.out.ix, ⟨by show (0 : Int) ≤ (k : Int); omega, by show (k : Int) ≤ 255; omega⟩, ZS.out.al, ZS.out.rl⟩)
        have WS := Lib.hid hwS
        clear htt hwS M1 MB
        go_upto_region 28 with fail
        rw [← WS.out]
        clear ff dd
        go_wp2_with fail
        refine (FW.out wS (q.set j ({ z with d := { z.d with kind := (k : Int) } })) MS.out (by rw [List.length_set]) SS.out XS.out).mono ?_
        rintro e w9 ⟨rfl, hx9⟩
        have X9 := Lib.hid (Ext.trans XS.out hx9)
        clear hx9
        go_wp2_with fail
        go_roundw
        case rel => exact ⟨t + 1, by omega, by go_num, X9⟩
        case measure => simp [intOf]; omega
      · have q0 : ((t : Int) == 0) = false := by simp; omega
        have q1 : ((t : Int) == 1) = false := by simp; omega
        have q2 : ((t : Int) == 2) = false := by simp; omega
        have q3 : ((t : Int) == 3) = false := by simp; omega
        have q4 : ((t : Int) == 4) = false := by simp; omega
        clear htt
        go_wp2_with fail
        refine (FW.out wL q MT.out rfl SQ.out XL.out).mono ?_
        rintro e w9 ⟨rfl, hx9⟩
        have X9 := Lib.hid (Ext.trans XL.out hx9)
        clear hx9
        go_wp2_with fail
        go_roundw
        case rel => exact ⟨t + 1, by omega, by go_num, X9⟩
        case measure => simp [intOf]; omega
    · go_wp2_with fail
      exact HE.out _ _ _ _ _ _ _ _ _ _ _ _ _ _ _ _ _ _ _ _ _ _ _ _ _ _ _ _ _ _ _ _ _ _ _ _ _ _ _ _ _ _ _ _ _ _ _ _ _ _ _ _ _ _ _ _ _ _ _ _ X1.out
end Go.Proofs.YtbnclifpdmpjnaaGreatDoor
