/- How many steps the document's From tells, and of what size. -/
import Derived.Test.YtbnclifpdmpjnaaGreatDoorZ37
import Derived.Test.YtbnclifpdmpjnaaGreatDoorZ27
import Derived.Test.YtbnclifpdmpjnaaGreatDoorZ25
import Derived.Test.YtbnclifpdmpjnaaGreatDoorZ13
import Derived.Test.YtbnclifpdmpjnaaGreatDoorZ38
import Derived.Deep.CutRange
import Derived.Deep.DeepCutAuto
import Derived.Deep.DeepMust
namespace Go.Proofs.YtbnclifpdmpjnaaGreatDoor
theorem index_memT {D : List TaleD} {n : Int × Int} {p : Int × TaleD} (h : indexT D n = some p) : p.2 ∈ D := by
  unfold indexT at h
  cases hf : D.find? (isT 6 n) with
  | none => rw [hf] at h; cases h
  | some d =>
    rw [hf] at h
    simp only at h
    split at h
    · rw [← Option.some.inj h]; exact List.mem_of_find?_eq_some hf
    · cases h
theorem time_few {D : List TaleD} (hl : D.length ≤ 60) (k : Int) (n : Int × Int) : i64B (timeT D k n) := by
  unfold timeT i64B
  cases hf : firstT D k n with
  | none => simp only; omega
  | some i =>
    obtain ⟨y, hy, _⟩ := first_lt hf
    have := (List.getElem?_eq_some_iff.1 hy).1
    simp only; omega
theorem stepT_ok {D : List TaleD} (hok : ∀ x ∈ D, x.ok) (hl : D.length ≤ 60) {n : Int × Int} (hn : i64B n.1 ∧ i64B n.2) {d : TaleD} (hd : d ∈ D) {c : Nat} (hc : c < D.length) : (stepT D n d c).ok := by
  have hx : D[c]? = some D[c] := List.getElem?_eq_getElem hc
  have ha : actsAt D c = D[c].acts := by unfold actsAt; rw [hx]
  have hk := hok D[c] (List.getElem_mem _)
  have hkd := hok d hd
  refine ⟨?_, ?_, ?_, hn.1, hn.2, ?_, time_few hl 2 n⟩
  · show ∀ a ∈ actsAt D c, a.ok
    rw [ha]; exact hk.acts
  · show (actsAt D c).length ≤ 1000000
    rw [ha]; have := hk.an; omega
  · show d.reads.length ≤ 1000000
    have := hkd.rn; omega
  · show i64B ((c : Int) + 1)
    unfold i64B; omega
theorem put_mem {p x : Int × StepD} {l : List (Int × StepD)} (h : x ∈ putT p l) : x = p ∨ x ∈ l := by
  unfold putT at h
  rcases List.mem_append.1 h with h | h
  · exact .inr (List.mem_of_mem_take h)
  · rcases List.mem_cons.1 h with h | h
    · exact .inl h
    · exact .inr (List.mem_of_mem_drop h)
theorem put_len (p : Int × StepD) (l : List (Int × StepD)) : (putT p l).length = l.length + 1 := by
  unfold putT
  rw [List.length_append, List.length_cons, List.length_take, List.length_drop]
  omega
theorem fromAt_few {D : List TaleD} (hok : ∀ x ∈ D, x.ok) (hl : D.length ≤ 60) : ∀ j, j ≤ D.length → ∀ out, fromAt D j = some out → out.length ≤ j ∧ ∀ p ∈ out, p.2.ok := by
  intro j
  induction j with
  | zero => intro _ out h; obtain rfl := (Option.some.inj h).symm; exact ⟨Nat.le_refl _, fun p hp => by cases hp⟩
  | succ j ih =>
    intro hj out h
    have hx : D[j]? = some D[j] := List.getElem?_eq_getElem (by omega)
    unfold fromAt at h
    cases ho : fromAt D j with
    | none => rw [ho] at h; cases h
    | some o =>
      rw [ho, hx] at h
      simp only at h
      obtain ⟨h1, h2⟩ := ih (by omega) o ho
      unfold fromOne at h
      split at h
      · obtain rfl := (Option.some.inj h).symm; exact ⟨by omega, h2⟩
      · cases hi : indexT D D[j].name with
        | none => rw [hi] at h; cases h
        | some p =>
          obtain ⟨k, d⟩ := p
          rw [hi] at h
          simp only at h
          split at h
          · cases h
          · split at h
            · obtain rfl := (Option.some.inj h).symm; exact ⟨by omega, h2⟩
            · cases hf : firstT D 1 D[j].name with
              | none => rw [hf] at h; cases h
              | some c =>
                rw [hf] at h
                obtain rfl := (Option.some.inj h).symm
                obtain ⟨y, hy, _⟩ := first_lt hf
                have hxo := hok D[j] (List.getElem_mem _)
                refine ⟨by rw [put_len]; omega, fun p hp => ?_⟩
                rcases put_mem hp with rfl | hp
                · exact stepT_ok hok hl ⟨hxo.cl, hxo.nm⟩ (index_memT hi) (List.getElem?_eq_some_iff.1 hy).1
                · exact h2 p hp
theorem refFrom_few {D : List TaleD} (hok : ∀ x ∈ D, x.ok) (hl : D.length ≤ 60) : ((refFromD D).getD []).length ≤ 60 ∧ ∀ s ∈ (refFromD D).getD [], s.ok := by
  unfold refFromD
  split
  · cases h : fromAt D D.length with
    | none => exact ⟨Nat.zero_le _, fun s hs => by cases hs⟩
    | some out =>
      obtain ⟨h1, h2⟩ := fromAt_few hok hl _ (Nat.le_refl _) out h
      refine ⟨by simp only [Option.map_some, Option.getD_some, List.length_map]; omega, fun s hs => ?_⟩
      simp only [Option.map_some, Option.getD_some, List.mem_map] at hs
      obtain ⟨p, hp, rfl⟩ := hs
      exact h2 p hp
  · exact ⟨Nat.zero_le _, fun s hs => by cases hs⟩
end Go.Proofs.YtbnclifpdmpjnaaGreatDoor
/- The law's lent: tales whose rows are lent. -/
namespace Go.Proofs.YtbnclifpdmpjnaaGreatDoor
open Go.RowKit
theorem nrows_atT {α : Type} {sz : Nat} {enc : α → List Value} {no : Nat → Prop} {w : World} {g : Nat} {l : List α} (h : Rows sz enc w.heap.size w (some ⟨g, 0, none⟩) l) (hn : ¬ no g) : NRows sz enc no w (some ⟨g, 0, none⟩) l := by
  intro hl
  obtain ⟨b, off, e, hb, hc⟩ := h hl
  cases e
  exact ⟨g, 0, rfl, hb, hn, hc⟩
theorem infoTale : (Tryz.prog.info? 39).map (fun i => (i.zero, i.size, i.bytes)) = some (some (.agg (encTale zeroTale).toArray), 18, 224) := by kernel_rfl
theorem one_taleL : ∀ (x : TaleZ), ∀ u ∈ encTale x, u.oneCell' = true := by
  intro x u hu
  simp only [encTale, List.mem_cons, List.not_mem_nil, or_false] at hu
  rcases hu with rfl | rfl | rfl | rfl | rfl | rfl | rfl | rfl | rfl | rfl | rfl | rfl | rfl | rfl | rfl | rfl | rfl | rfl <;> rfl
structure LentT (no : Nat → Prop) (w : World) (z : TaleZ) : Prop where
  out : ∃ g g', z.ao = some ⟨g, 0, none⟩ ∧ z.ro = some ⟨g', 0, none⟩ ∧ z.d.acts.length + 12 ≤ z.ac ∧ z.ac ≤ maxLen ∧ z.d.reads.length + 12 ≤ z.rc ∧ z.rc ≤ maxLen ∧ NRows 4 encAct no w z.ao (z.d.acts ++ marksActs) ∧ NRows 3 encRd no w z.ro (z.d.reads ++ marksReads)
theorem LentT.step {no no' S : Nat → Prop} {w w' : World} {z : TaleZ} (h : LentT no w z) (hx : But S w w') (hS : ∀ b, b < w.heap.size → S b → no b ∨ NoCells w b) (hn : ∀ b, b < w.heap.size → no' b → no b) : LentT no' w' z := by
  obtain ⟨g, g', h1, h2, h3, h4, h5, h6, h7, h8⟩ := h.out
  exact ⟨g, g', h1, h2, h3, h4, h5, h6, h7.step hx hS hn, h8.step hx hS hn⟩
theorem LentT.at {no : Nat → Prop} {w : World} {z : TaleZ} (h : LentT no w z) : z.at w.heap.size w := by
  obtain ⟨g, g', h1, h2, h3, h4, h5, h6, h7, h8⟩ := h.out
  have e1 := h7.rows.take z.d.acts.length
  have e2 := h8.rows.take z.d.reads.length
  rw [List.take_left' rfl] at e1 e2
  exact ⟨e1, e2⟩
structure LendT (w0 : World) (l : List TaleZ) (k : Nat) (v : Value) (wr : World) : Prop where
  out : ∃ q : List TaleZ, q.map (·.d) = (l.take k).map (·.d) ∧ wr.ownsRow 0 39 18 v q.length (q.flatMap encTale) ∧ (∀ j, v.ownBlock = some j → w0.heap.size ≤ j) ∧ (∀ z ∈ q, LentT (fun b => v.ownBlock = some b) wr z) ∧ Ext w0 wr
set_option maxRecDepth 100000 in
set_option maxHeartbeats 12800000 in
theorem lentT_calls (l : List TaleZ) (ao : Option Addr) (cap : Nat) (w : World) (hlen : l.length ≤ 120) (hs : TalesAt w ao l) (hok : ∀ z ∈ l, z.d.ok) :
    Calls Tryz.prog 6 #[.slice ao l.length cap] w fun e w' => ∃ v, e = .returned v ∧ LendT w l l.length v w' := by
  have HS := Lib.hid hs.1; have HA := Lib.hid hs.2; have OK := Lib.hid hok
  clear hs hok
  obtain ⟨i0, hi, hz0, hz1, hz2⟩ := info_parts infoTale
  go_enter Tryz.func6, Tryz.ntmps6
  go_wp2_with fail
  go_loopw [3, 4] (fun v i wr => ∃ k : Nat, k ≤ l.length ∧ i = .int .i64 k ∧ LendT w l k v wr) (fun _ i _ => l.length - (intOf i).toNat)
  case atStart => exact ⟨0, by omega, rfl, [], rfl, World.ownsRow_nil _ _ _ _, by simp [Value.ownBlock], (fun z hz => by cases hz), Below.refl _ _⟩
  case round =>
    obtain ⟨k, hk, rfl, hmid⟩ := hrel
    have MID := Lib.hid hmid
    obtain ⟨q, hqd, hown, hnew, hlent, hx⟩ := hmid.out
    have hql : q.length = k := by
      have := congrArg List.length hqd
      simp only [List.length_map, List.length_take] at this
      omega
    have hq1 : q.length ≤ 120 := by omega
    have K1 := Lib.hid hown; have K2 := Lib.hid hnew; have K3 := Lib.hid hx; have KD := Lib.hid hqd; have KQ := Lib.hid hlent; have KL := Lib.hid hql
    clear hmid hqd hown hnew hlent hx hql
    by_cases hlt : k < l.length
    · clear MID
      obtain ⟨z, hz⟩ : ∃ z, l[k]? = some z := ⟨_, List.getElem?_eq_getElem hlt⟩
      have hzm := List.mem_of_getElem? hz
      have ZA := Lib.hid (fun W (hW : Ext w W) => ((HA.out z hzm).ext hW).mono hW.size)
      have DK := Lib.hid (OK.out z hzm)
      obtain ⟨b, off, rfl, hb, hcell⟩ := HS.out (by intro e; rw [e] at hlt; simp at hlt)
      have HLD : Hid (wr.rangeAt b (off + k * 18) (encTale z)) := Lib.hid (fun j u hj => (K3.out.cell (p := ⟨b, _, none⟩) hb).trans (hcell k z hz j u hj))
      have CZ := Lib.hid (fun W (hW : Ext w W) (j : Nat) (u : Value) (hj : (encTale z)[j]? = some u) => (hW.cell (p := ⟨b, _, none⟩) hb).trans (hcell k z hz j u hj))
      have MD : Hid ((l.take (k + 1)).map (·.d) = (l.take k).map (·.d) ++ [z.d]) := Lib.hid (by rw [List.take_add_one, hz]; simp)
      obtain ⟨wy, hwy⟩ : ∃ wy, wy = wr.alloc (.cells (encTale z).toArray 39) := ⟨_, rfl⟩
      have XY : Hid (Ext wr wy) := Lib.hid (by rw [hwy]; exact (Below.refl _ wr).alloc (Nat.le_refl _) _)
      have BY : Hid (Blk wy wr.heap.size (encTale z) 39) := Lib.hid (by rw [hwy]; exact Blk.new wr _ _)
      have hpy : wr.heap.size < wy.heap.size := BY.out.lt
      have WY := Lib.hid hwy
      obtain ⟨⟨kind, index, cl, nm, acts, commit, reads⟩, node, group, term, ta, tc, ra, rc, lo, hi', ep, st, sc, se, so, sn, sp, co, cn, cp⟩ := z
      have hal := DK.out.an; have hrl := DK.out.rn
      unfold encTale at HLD WY BY CZ
      simp only at HLD WY BY CZ hal hrl MD ZA
      have j0 : (0 : Int) ≤ (k : Int) := by omega
      have j1 : (k : Int) < (l.length : Int) := by omega
      clear hzm hz hcell hwy
      go_upto_region 6 with (refine wpList_load_mid rfl 39 (.tmp 14) rfl b (off + k * 18) rfl _ _ HLD.out Tryz.underlying39 rfl sizeTale ?_)
      rw [← WY.out]
      have e2 := CZ.out _ (Ext.trans K3.out XY.out) 7 _ rfl
      go_wp2_with fail
      clear e2
      refine (lentActs_calls acts ta tc wy (by omega) (ZA.out _ (Ext.trans K3.out XY.out)).1).mono ?_
      rintro e wa ⟨g, cp1, rfl, hc1, hm1, hr1, hg1, hxa⟩
      have hba := BY.out.ext' hxa
      have c2 := hba.cell 7; have f2 := hba.free 7
      simp only [List.getElem?_cons_zero, List.getElem?_cons_succ] at c2
      obtain ⟨wb, hwb⟩ : ∃ wb, wb = wa.setCell ⟨wr.heap.size, 7, none⟩ (.slice (some ⟨g, 0, none⟩) acts.length cp1) := ⟨_, rfl⟩
      have hbb : Blk wb wr.heap.size [.int .u8 kind, .int .i64 node, .int .i64 group, .int .i64 term, .int .i64 index, .int .i64 cl, .int .i64 nm, .slice (some ⟨g, 0, none⟩) acts.length cp1, .bool commit, .slice ra reads.length rc, .string lo, .string hi', .int .i64 ep, .int .u8 st, .int .i64 sc, .int .i64 se, .slice so sn sp, .slice co cn cp] 39 := by rw [hwb]; exact hba.set 7 _
      have hxb : Ext wr wb := by rw [hwb]; exact (Ext.trans XY.out hxa).setCell (p := ⟨wr.heap.size, 7, none⟩) (Nat.le_refl _) _
      have hsb : But (fun j => j = wr.heap.size) wa wb := by rw [hwb]; exact (But.refl (fun j => j = wr.heap.size) wa).setCell (p := ⟨wr.heap.size, 7, none⟩) (fun _ => rfl) _
      have hpb : wr.heap.size < wb.heap.size := hbb.lt
      have hyb : wy.heap.size ≤ wb.heap.size := Nat.le_trans hxa.size hsb.size
      have NA := Lib.hid ((nrows_atT (no := fun b => b < wy.heap.size) hr1 (by omega)).step hsb (no' := fun b => b < wy.heap.size) (fun b _ e => .inl (by rw [show b = wr.heap.size from e]; exact hpy)) (fun _ _ e => e))
      have WB := Lib.hid hwb; have BB := Lib.hid hbb; have XB := Lib.hid hxb; have HC1 := Lib.hid hc1; have HM1 := Lib.hid hm1
      clear hc1 hm1 hr1 hg1 hxa hba hwb hbb hxb hsb
      go_upto_region 7 with fail
      rw [← WB.out]
      clear c2 f2
      have e3 := CZ.out _ (Ext.trans K3.out XB.out) 9 _ rfl
      go_wp2_with fail
      clear e3
      refine (lentReads_calls reads ra rc wb (by omega) (ZA.out _ (Ext.trans K3.out XB.out)).2).mono ?_
      rintro e wc ⟨g2, cp2, rfl, hc2, hm2, hr2, hg2, hxc⟩
      have hbc := BB.out.ext' hxc
      have c3 := hbc.cell 9; have f3 := hbc.free 9
      simp only [List.getElem?_cons_zero, List.getElem?_cons_succ] at c3
      obtain ⟨wd, hwd⟩ : ∃ wd, wd = wc.setCell ⟨wr.heap.size, 9, none⟩ (.slice (some ⟨g2, 0, none⟩) reads.length cp2) := ⟨_, rfl⟩
      have hbd : Blk wd wr.heap.size [.int .u8 kind, .int .i64 node, .int .i64 group, .int .i64 term, .int .i64 index, .int .i64 cl, .int .i64 nm, .slice (some ⟨g, 0, none⟩) acts.length cp1, .bool commit, .slice (some ⟨g2, 0, none⟩) reads.length cp2, .string lo, .string hi', .int .i64 ep, .int .u8 st, .int .i64 sc, .int .i64 se, .slice so sn sp, .slice co cn cp] 39 := by rw [hwd]; exact hbc.set 9 _
      have hxd : Ext wr wd := by rw [hwd]; exact (Ext.trans XB.out hxc).setCell (p := ⟨wr.heap.size, 9, none⟩) (Nat.le_refl _) _
      have hsd : But (fun j => j = wr.heap.size) wc wd := by rw [hwd]; exact (But.refl (fun j => j = wr.heap.size) wc).setCell (p := ⟨wr.heap.size, 9, none⟩) (fun _ => rfl) _
      have NA2 := Lib.hid ((NA.out.step (Ext.but hxc (fun _ => False)) (no' := fun b => b < wy.heap.size) (fun _ _ e => e.elim) (fun _ _ e => e)).step hsd (no' := fun b => b < wy.heap.size) (fun b _ e => .inl (by rw [show b = wr.heap.size from e]; exact hpy)) (fun _ _ e => e))
      have NR2 := Lib.hid ((nrows_atT (no := fun b => b < wb.heap.size) hr2 (by omega)).step hsd (no' := fun b => b < wb.heap.size) (fun b _ e => .inl (by rw [show b = wr.heap.size from e]; exact hpb)) (fun _ _ e => e))
      have WD := Lib.hid hwd; have BD := Lib.hid hbd; have XD := Lib.hid hxd; have HC2 := Lib.hid hc2; have HM2 := Lib.hid hm2
      clear hc2 hm2 hr2 hg2 hxc hbc hwd hbd hxd hsd NA
      go_upto_region 8 with fail
      rw [← WD.out]
      clear c3 f3
      have HLB : Hid (wd.rangeAt wr.heap.size 0 [.int .u8 kind, .int .i64 node, .int .i64 group, .int .i64 term, .int .i64 index, .int .i64 cl, .int .i64 nm, .slice (some ⟨g, 0, none⟩) acts.length cp1, .bool commit, .slice (some ⟨g2, 0, none⟩) reads.length cp2, .string lo, .string hi', .int .i64 ep, .int .u8 st, .int .i64 sc, .int .i64 se, .slice so sn sp, .slice co cn cp]) := Lib.hid (fun j u hj => by rw [Nat.zero_add, BD.out.cell j]; exact hj)
      have EN : Hid (Ext wd (wd.alloc (.cells #[.int .u8 kind, .int .i64 node, .int .i64 group, .int .i64 term, .int .i64 index, .int .i64 cl, .int .i64 nm, .slice (some ⟨g, 0, none⟩) acts.length cp1, .bool commit, .slice (some ⟨g2, 0, none⟩) reads.length cp2, .string lo, .string hi', .int .i64 ep, .int .u8 st, .int .i64 sc, .int .i64 se, .slice so sn sp, .slice co cn cp] 39))) := Lib.hid ((Below.refl _ wd).alloc (Nat.le_refl _) _)
      have CN := Lib.hid (cells_new wd [.int .u8 kind, .int .i64 node, .int .i64 group, .int .i64 term, .int .i64 index, .int .i64 cl, .int .i64 nm, .slice (some ⟨g, 0, none⟩) acts.length cp1, .bool commit, .slice (some ⟨g2, 0, none⟩) reads.length cp2, .string lo, .string hi', .int .i64 ep, .int .u8 st, .int .i64 sc, .int .i64 se, .slice so sn sp, .slice co cn cp] 39)
      go_wp2_with (first
        | (refine wpList_load_mid rfl 39 (.tmp 5) rfl wr.heap.size 0 rfl _ _ HLB.out Tryz.underlying39 rfl sizeTale ?_)
        | (at_builtin; refine wpList_append_at _ rfl (.tmp 30) (.tmp 32) 22 rfl 39 i0 _ 18 224 Tryz.underlying22 hi hz0 hz1 hz2 rfl (by decide) _ q.length (q.flatMap encTale) rfl (own_ext (own_ext K1.out XD.out) EN.out) ⟨wd.heap.size, 0, none⟩ 1 1 (encTale ⟨⟨kind, index, cl, nm, acts, commit, reads⟩, node, group, term, some ⟨g, 0, none⟩, cp1, some ⟨g2, 0, none⟩, cp2, lo, hi', ep, st, sc, se, so, sn, sp, co, cn, cp⟩) rfl rfl CN.out (one_taleL _) (by decide) (by unfold maxLen; omega) (by omega) ?_; intro g5 cap5 w6 hown' hbut hkept; have Y1 := Lib.hid hown'; have Y2 := Lib.hid hbut; have Y3 := Lib.hid hkept; clear hown' hbut hkept))
      go_roundw
      case rel =>
        have hxn := Ext.trans XD.out EN.out
        have hlt1 := K1.out.lt
        have hsn := EN.out.size
        have hsy := XY.out.size
        have hsz := XD.out.size
        refine ⟨k + 1, by omega, by go_num, ⟨q ++ [⟨⟨kind, index, cl, nm, acts, commit, reads⟩, node, group, term, some ⟨g, 0, none⟩, cp1, some ⟨g2, 0, none⟩, cp2, lo, hi', ep, st, sc, se, so, sn, sp, co, cn, cp⟩], ?_, ?_, ?_, ?_, ?_⟩⟩
        · rw [MD.out, List.map_append, KD.out]; rfl
        · have := Y1.out
          rw [List.length_append, List.flatMap_append]
          simpa using this
        · intro j hj
          rcases Y3.out j hj with e | e
          · exact K2.out j e
          · have := K3.out.size; omega
        · intro z hz
          rcases List.mem_append.1 hz with h | h
          · exact (((KQ.out z h).step (Ext.but hxn (fun _ => False)) (no' := _) (fun _ _ e => e.elim) (fun _ _ e => e)).step Y2.out (fun b _ e => .inl e) (fun b hb e => by
              rcases Y3.out b e with e2 | e2
              · exact e2
              · omega))
          · rw [List.mem_singleton] at h
            subst h
            refine ⟨g, g2, rfl, rfl, HC1.out, HM1.out, HC2.out, HM2.out, ?_, ?_⟩
            · exact ((NA2.out.step (Ext.but EN.out (fun _ => False)) (no' := fun b => b < wy.heap.size) (fun _ _ e => e.elim) (fun _ _ e => e)).step Y2.out (fun b _ e => .inl (by have := (hlt1 b e).2; show b < wy.heap.size; omega)) (fun b hb e => by
                rcases Y3.out b e with e2 | e2
                · have := (hlt1 b e2).2; show b < wy.heap.size; omega
                · omega))
            · exact ((NR2.out.step (Ext.but EN.out (fun _ => False)) (no' := fun b => b < wb.heap.size) (fun _ _ e => e.elim) (fun _ _ e => e)).step Y2.out (fun b _ e => .inl (by have := (hlt1 b e).2; show b < wb.heap.size; omega)) (fun b hb e => by
                rcases Y3.out b e with e2 | e2
                · have := (hlt1 b e2).2; show b < wb.heap.size; omega
                · omega))
        · exact Below.trans K3.out (((Ext.but hxn (fun _ => False)).trans Y2.out (U := fun j => w.heap.size ≤ j) (fun _ _ e => e.elim) (fun i _ e => K2.out i e)).below K3.out.size (fun _ h => h))
      case measure => simp [intOf]; omega
    · obtain rfl : k = l.length := by omega
      go_wp2_with fail
      go_ret
      exact ⟨_, rfl, MID.out⟩
end Go.Proofs.YtbnclifpdmpjnaaGreatDoor
