/- SameReads: are two rows of reads the same? -/
import Derived.Test.YtbnclifpdmpjnaaGreatDoorZ02
import Derived.Laws.StructEq
import Derived.IntWalk
import Derived.Test.YtbnclifpdmpjnaaGreatDoorZ05
namespace Go.Proofs.YtbnclifpdmpjnaaGreatDoor
open Go.RowKit
deriving instance DecidableEq for Rd
theorem toList_iff (a b : ByteArray) : a.toList = b.toList ↔ a = b := by
  rw [Lib.toList_data, Lib.toList_data]
  exact ⟨fun h => ByteArray.ext (Array.toList_inj.1 h), fun h => by rw [h]⟩
def sameRd (k1 : ByteArray) (i1 : Bool) (v1 k2 : ByteArray) (i2 : Bool) (v2 : ByteArray) : Bool := decide ((⟨k1, i1, v1⟩ : Rd) = ⟨k2, i2, v2⟩)
theorem neq_read (k1 : ByteArray) (i1 : Bool) (v1 k2 : ByteArray) (i2 : Bool) (v2 : ByteArray) (w : World) :
    (binOp .neq 117 (.agg #[.string k1, .bool i1, .string v1]) (.agg #[.string k2, .bool i2, .string v2])).run Tryz.prog w = .ok (.bool (!sameRd k1 i1 v1 k2 i2 v2)) w := by
  unfold sameRd
  have hS : Tryz.prog.underlying 117 = some (.struct (Tryz.prog.fieldsOf 117)) := by kernel_rfl
  have hp : Tryz.prog.stoodInHeld 117 = false := by kernel_rfl
  have u9 := Tryz.underlying9
  have u4 := Tryz.underlying4
  rw [run_neq_struct, show (10000 : Nat) = 9999 + 1 from rfl, run_equalIn_agg w 9999 117 _ _ hS hp]
  simp only [Program.fieldsOf, Tryz.underlying117]
  go_simp
  by_cases h1 : k1 = k2 <;> by_cases h2 : i1 = i2 <;> by_cases h3 : v1 = v2 <;> simp [h1, h2, h3, toList_iff]
set_option maxRecDepth 100000 in
set_option maxHeartbeats 800000 in
theorem sameReads_calls (l m : List Rd) (ao bo : Option Addr) (cap cap' : Nat) (w : World) (hl : l.length ≤ 1000000) (hr : Rows 3 encRd w.heap.size w ao l) (hq : Rows 3 encRd w.heap.size w bo m) :
    Calls Tryz.prog 36 #[.slice ao l.length cap, .slice bo m.length cap'] w fun e w' => e = .returned (.bool (decide (l = m))) ∧ Ext w w' := by
  have HR := Lib.hid hr; have HQ := Lib.hid hq
  clear hr hq
  by_cases hlen : l.length = m.length
  · have HL := Lib.hid hlen
    go_enter Tryz.func36, Tryz.ntmps36
    have hd : ((l.length : Int) != (m.length : Int)) = false := by simp [hlen]
    have hneq := neq_read
    clear hlen
    go_wp2_with fail
    go_loopw [5] (fun i wr => ∃ (k : Nat), k ≤ l.length ∧ i = .int .i64 k ∧ l.take k = m.take k ∧ Ext w wr) (fun i _ => l.length - (intOf i).toNat)
    case atStart => exact ⟨0, by omega, rfl, by simp, Below.refl _ _⟩
    case round =>
      obtain ⟨k, hk, rfl, ha, hx⟩ := hrel
      have K1 := Lib.hid ha; have K2 := Lib.hid hx
      clear ha hx
      by_cases hlt : k < l.length
      · have hlt' : k < m.length := by have := HL.out; omega
        obtain ⟨x, hx⟩ : ∃ x, l[k]? = some x := ⟨_, List.getElem?_eq_getElem hlt⟩
        obtain ⟨y, hy⟩ : ∃ y, m[k]? = some y := ⟨_, List.getElem?_eq_getElem hlt'⟩
        obtain ⟨b, off, rfl, hb, hcell⟩ := HR.out (by intro e; rw [e] at hlt; simp at hlt)
        obtain ⟨b', off', rfl, hb', hcell'⟩ := HQ.out (by intro e; rw [e] at hlt'; simp at hlt')
        have hcx := hcell k x hx; have hcy := hcell' k y hy
        have hmove : ∀ j, wr.cell? ⟨b, j, none⟩ = w.cell? ⟨b, j, none⟩ := fun j => K2.out.cell (p := ⟨b, j, none⟩) hb
        have hmove' : ∀ j, wr.cell? ⟨b', j, none⟩ = w.cell? ⟨b', j, none⟩ := fun j => K2.out.cell (p := ⟨b', j, none⟩) hb'
        have TK := Lib.hid (show l.take (k + 1) = l.take k ++ [x] by rw [List.take_add_one, hx]; rfl)
        have TM := Lib.hid (show m.take (k + 1) = m.take k ++ [y] by rw [List.take_add_one, hy]; rfl)
        have HX := Lib.hid hx; have HY := Lib.hid hy
        obtain ⟨k1, i1, v1⟩ := x; obtain ⟨k2, i2, v2⟩ := y
        have d0 := (hmove _).trans (hcx 0 _ rfl); have d1 := (hmove _).trans (hcx 1 _ rfl); have d2 := (hmove _).trans (hcx 2 _ rfl)
        have c0 := (hmove' _).trans (hcy 0 _ rfl); have c1 := (hmove' _).trans (hcy 1 _ rfl); have c2 := (hmove' _).trans (hcy 2 _ rfl)
        simp only [Nat.add_zero] at d0 c0
        have hi0 : (0 : Int) ≤ (k : Int) := by omega
        have hi1 : (k : Int) < (l.length : Int) := by omega
        have hi2 : (k : Int) < (m.length : Int) := by omega
        clear hx hy hcell hcell' hcx hcy hmove hmove'
        by_cases heq : (⟨k1, i1, v1⟩ : Rd) = ⟨k2, i2, v2⟩
        · have he : sameRd k1 i1 v1 k2 i2 v2 = true := decide_eq_true heq
          have E := Lib.hid heq; clear heq
          go_wp2_with fail
          go_quiet (fail)
          go_wp2_with fail
          go_roundw
          case rel => exact ⟨k + 1, by omega, by go_num, by rw [TK.out, TM.out, K1.out, E.out], (Ext.drewN K2.out _)⟩
          case measure => simp [intOf]; omega
        · have he : sameRd k1 i1 v1 k2 i2 v2 = false := decide_eq_false heq
          have E := Lib.hid heq; clear heq
          go_wp2_with fail
          go_quiet (fail)
          go_wp2_with fail
          go_ret
          refine ⟨ret_bool (Eq.symm (decide_eq_false fun e => ?_)), (Ext.drewN K2.out _)⟩
          have h1 := HX.out; have h2 := HY.out
          rw [e, h2] at h1
          exact E.out (Option.some.inj h1).symm
      · have hall : l = m := by
          have := K1.out
          rwa [List.take_of_length_le (by omega), List.take_of_length_le (by have := HL.out; omega)] at this
        have HA := Lib.hid hall; clear hall
        go_wp2_with fail
        go_ret
        exact ⟨ret_bool (by simp [HA.out]), K2.out⟩
  · go_enter Tryz.func36, Tryz.ntmps36
    have hd : ((l.length : Int) != (m.length : Int)) = true := by simp; omega
    go_wp2_with fail
    go_ret
    exact ⟨ret_bool (Eq.symm (decide_eq_false fun e => hlen (by rw [e]))), Below.refl _ _⟩
deriving instance DecidableEq for ActD
theorem toList_iff_acts (a b : ByteArray) : a.toList = b.toList ↔ a = b := by
  rw [Lib.toList_data, Lib.toList_data]
  exact ⟨fun h => ByteArray.ext (Array.toList_inj.1 h), fun h => by rw [h]⟩
def sameActD (x : ActD) (y : ActD) : Bool := decide (x = y)
theorem neq_ActD (kd1 : Int) (ky1 : ByteArray) (vl1 : ByteArray) (nm1 : Int) (kd2 : Int) (ky2 : ByteArray) (vl2 : ByteArray) (nm2 : Int) (w : World) :
    (binOp .neq 114 (.agg #[.int .u8 kd1, .string ky1, .string vl1, .int .i64 nm1]) (.agg #[.int .u8 kd2, .string ky2, .string vl2, .int .i64 nm2])).run Tryz.prog w = .ok (.bool (!sameActD ⟨kd1, ky1, vl1, nm1⟩ ⟨kd2, ky2, vl2, nm2⟩)) w := by
  unfold sameActD
  have hS : Tryz.prog.underlying 114 = some (.struct (Tryz.prog.fieldsOf 114)) := by kernel_rfl
  have hp : Tryz.prog.stoodInHeld 114 = false := by kernel_rfl
  have u0 := Tryz.underlying112
  have u1 := Tryz.underlying3
  have u2 := Tryz.underlying9
  rw [run_neq_struct, show (10000 : Nat) = 9999 + 1 from rfl, run_equalIn_agg w 9999 114 _ _ hS hp]
  simp only [Program.fieldsOf, Tryz.underlying114]
  go_simp
  by_cases h0 : kd1 = kd2 <;> by_cases h1 : ky1 = ky2 <;> by_cases h2 : vl1 = vl2 <;> by_cases h3 : nm1 = nm2 <;> simp [h0, h1, h2, h3, toList_iff_acts]
theorem eql_ActD (kd1 : Int) (ky1 : ByteArray) (vl1 : ByteArray) (nm1 : Int) (kd2 : Int) (ky2 : ByteArray) (vl2 : ByteArray) (nm2 : Int) (w : World) :
    (binOp .eql 114 (.agg #[.int .u8 kd1, .string ky1, .string vl1, .int .i64 nm1]) (.agg #[.int .u8 kd2, .string ky2, .string vl2, .int .i64 nm2])).run Tryz.prog w = .ok (.bool (sameActD ⟨kd1, ky1, vl1, nm1⟩ ⟨kd2, ky2, vl2, nm2⟩)) w := by
  unfold sameActD
  have hS : Tryz.prog.underlying 114 = some (.struct (Tryz.prog.fieldsOf 114)) := by kernel_rfl
  have hp : Tryz.prog.stoodInHeld 114 = false := by kernel_rfl
  have u0 := Tryz.underlying112
  have u1 := Tryz.underlying3
  have u2 := Tryz.underlying9
  rw [run_eql_struct, show (10000 : Nat) = 9999 + 1 from rfl, run_equalIn_agg w 9999 114 _ _ hS hp]
  simp only [Program.fieldsOf, Tryz.underlying114]
  go_simp
  by_cases h0 : kd1 = kd2 <;> by_cases h1 : ky1 = ky2 <;> by_cases h2 : vl1 = vl2 <;> by_cases h3 : nm1 = nm2 <;> simp [h0, h1, h2, h3, toList_iff_acts]
set_option maxRecDepth 100000 in
set_option maxHeartbeats 800000 in
theorem sameActs_calls (l m : List ActD) (ao bo : Option Addr) (cap cap' : Nat) (w : World) (hl : l.length ≤ 1000000) (hr : Rows 4 encAct w.heap.size w ao l) (hq : Rows 4 encAct w.heap.size w bo m) :
    Calls Tryz.prog 35 #[.slice ao l.length cap, .slice bo m.length cap'] w fun e w' => e = .returned (.bool (decide (l = m))) ∧ Ext w w' := by
  have HR := Lib.hid hr; have HQ := Lib.hid hq
  clear hr hq
  by_cases hlen : l.length = m.length
  · have HL := Lib.hid hlen
    go_enter Tryz.func35, Tryz.ntmps35
    have hd : ((l.length : Int) != (m.length : Int)) = false := by simp [hlen]
    have hneq := neq_ActD
    clear hlen
    go_wp2_with fail
    go_loopw [5] (fun i wr => ∃ (k : Nat), k ≤ l.length ∧ i = .int .i64 k ∧ l.take k = m.take k ∧ Ext w wr) (fun i _ => l.length - (intOf i).toNat)
    case atStart => exact ⟨0, by omega, rfl, by simp, Below.refl _ _⟩
    case round =>
      obtain ⟨k, hk, rfl, ha, hx⟩ := hrel
      have K1 := Lib.hid ha; have K2 := Lib.hid hx
      clear ha hx
      by_cases hlt : k < l.length
      · have hlt' : k < m.length := by have := HL.out; omega
        obtain ⟨x, hx⟩ : ∃ x, l[k]? = some x := ⟨_, List.getElem?_eq_getElem hlt⟩
        obtain ⟨y, hy⟩ : ∃ y, m[k]? = some y := ⟨_, List.getElem?_eq_getElem hlt'⟩
        obtain ⟨b, off, rfl, hb, hcell⟩ := HR.out (by intro e; rw [e] at hlt; simp at hlt)
        obtain ⟨b', off', rfl, hb', hcell'⟩ := HQ.out (by intro e; rw [e] at hlt'; simp at hlt')
        have hcx := hcell k x hx; have hcy := hcell' k y hy
        have hmove : ∀ j, wr.cell? ⟨b, j, none⟩ = w.cell? ⟨b, j, none⟩ := fun j => K2.out.cell (p := ⟨b, j, none⟩) hb
        have hmove' : ∀ j, wr.cell? ⟨b', j, none⟩ = w.cell? ⟨b', j, none⟩ := fun j => K2.out.cell (p := ⟨b', j, none⟩) hb'
        have TK := Lib.hid (show l.take (k + 1) = l.take k ++ [x] by rw [List.take_add_one, hx]; rfl)
        have TM := Lib.hid (show m.take (k + 1) = m.take k ++ [y] by rw [List.take_add_one, hy]; rfl)
        have HX := Lib.hid hx; have HY := Lib.hid hy
        obtain ⟨kd1, ky1, vl1, nm1⟩ := x; obtain ⟨kd2, ky2, vl2, nm2⟩ := y
        have d0 := (hmove _).trans (hcx 0 _ rfl); have d1 := (hmove _).trans (hcx 1 _ rfl); have d2 := (hmove _).trans (hcx 2 _ rfl); have d3 := (hmove _).trans (hcx 3 _ rfl)
        have c0 := (hmove' _).trans (hcy 0 _ rfl); have c1 := (hmove' _).trans (hcy 1 _ rfl); have c2 := (hmove' _).trans (hcy 2 _ rfl); have c3 := (hmove' _).trans (hcy 3 _ rfl)
        simp only [Nat.add_zero] at d0 c0
        have hi0 : (0 : Int) ≤ (k : Int) := by omega
        have hi1 : (k : Int) < (l.length : Int) := by omega
        have hi2 : (k : Int) < (m.length : Int) := by omega
        clear hx hy hcell hcell' hcx hcy hmove hmove'
        by_cases heq : (⟨kd1, ky1, vl1, nm1⟩ : ActD) = ⟨kd2, ky2, vl2, nm2⟩
        · have he : sameActD ⟨kd1, ky1, vl1, nm1⟩ ⟨kd2, ky2, vl2, nm2⟩ = true := decide_eq_true heq
          have E := Lib.hid heq; clear heq
          go_wp2_with fail
          go_quiet (fail)
          go_wp2_with fail
          go_roundw
          case rel => exact ⟨k + 1, by omega, by go_num, by rw [TK.out, TM.out, K1.out, E.out], (Ext.drewN K2.out _)⟩
          case measure => simp [intOf]; omega
        · have he : sameActD ⟨kd1, ky1, vl1, nm1⟩ ⟨kd2, ky2, vl2, nm2⟩ = false := decide_eq_false heq
          have E := Lib.hid heq; clear heq
          go_wp2_with fail
          go_quiet (fail)
          go_wp2_with fail
          go_ret
          refine ⟨ret_bool (Eq.symm (decide_eq_false fun e => ?_)), (Ext.drewN K2.out _)⟩
          have h1 := HX.out; have h2 := HY.out
          rw [e, h2] at h1
          exact E.out (Option.some.inj h1).symm
      · have hall : l = m := by
          have := K1.out
          rwa [List.take_of_length_le (by omega), List.take_of_length_le (by have := HL.out; omega)] at this
        have HA := Lib.hid hall; clear hall
        go_wp2_with fail
        go_ret
        exact ⟨ret_bool (by simp [HA.out]), K2.out⟩
  · go_enter Tryz.func35, Tryz.ntmps35
    have hd : ((l.length : Int) != (m.length : Int)) = true := by simp; omega
    go_wp2_with fail
    go_ret
    exact ⟨ret_bool (Eq.symm (decide_eq_false fun e => hlen (by rw [e]))), Below.refl _ _⟩
end Go.Proofs.YtbnclifpdmpjnaaGreatDoor
/- Transactions done one behind the other: what the program and the document compute, in plain words. -/
namespace Go.Proofs.YtbnclifpdmpjnaaGreatDoor
structure StepD where
  cl : Int
  nm : Int
  acts : List ActD
  reads : List Rd
  ca : Int
  an : Int
abbrev Told := Txt → List Rd
def keySt (acts : List ActD) (rows : List RowD) (k : Txt) : St := (St.begin (getR k rows).isSome ((getR k rows).getD noBytes)).after (ofL k acts)
def doneKey (acts : List ActD) (p : List RowD × Told) (k : Txt) : List RowD × Told :=
  (if (keySt acts p.1 k).put = true then putR ⟨⟨k.toArray⟩, (keySt acts p.1 k).value⟩ p.1 else p.1, fun x => if x = k then (keySt acts p.1 k).reads else p.2 x)
def doneAt (acts : List ActD) (rows : List RowD) (ks : List Txt) : List RowD × Told := ks.foldl (doneKey acts) (rows, fun _ => [])
def doneK (rows : List RowD) (acts : List ActD) : List RowD × Told := doneAt acts rows (keysL acts)
def tellAct (p : List Rd × Told) (a : ActD) : List Rd × Told :=
  if a.kind = 2 then p else (p.1 ++ (p.2 (keyT a)).head?.toList, fun x => if x = keyT a then (p.2 x).tail else p.2 x)
def tellAt (m : Told) (acts : List ActD) : List Rd × Told := acts.foldl tellAct ([], m)
def doneD (rows : List RowD) (acts : List ActD) : List RowD × List Rd := ((doneK rows acts).1, (tellAt (doneK rows acts).2 acts).1)
theorem doneAt_snoc (acts : List ActD) (rows : List RowD) (ks : List Txt) (k : Txt) : doneAt acts rows (ks ++ [k]) = doneKey acts (doneAt acts rows ks) k := by
  unfold doneAt; rw [List.foldl_append]; rfl
theorem tellAt_snoc (m : Told) (acts : List ActD) (a : ActD) : tellAt m (acts ++ [a]) = tellAct (tellAt m acts) a := by
  unfold tellAt; rw [List.foldl_append]; rfl
def cntK (k : Txt) (l : List ActD) : Nat := l.countP fun a => decide (a.kind ≠ 2) && decide (keyT a = k)
def kinds3 (l : List ActD) : Prop := ∀ a ∈ l, a.kind = 1 ∨ a.kind = 2 ∨ a.kind = 3
theorem St.after_reads (l : List ActD) : ∀ s : St, kinds3 l → (s.after l).reads.length = s.reads.length + l.countP fun a => decide (a.kind ≠ 2) := by
  induction l with
  | nil => intro s _; simp [St.after]
  | cons a l ih =>
    intro s h
    have h2 := ih (s.step a) (fun x hx => h x (by simp [hx]))
    unfold St.after at h2 ⊢
    rw [List.foldl_cons, h2, List.countP_cons]
    rcases h a (by simp) with e | e | e
    · simp [St.step, e, St.get]; omega
    · simp [St.step, e, St.puts]
    · simp [St.step, e, St.get, St.puts]; omega
theorem cntK_of (k : Txt) (l : List ActD) : cntK k l = (ofL k l).countP fun a => decide (a.kind ≠ 2) := by
  unfold cntK ofL
  rw [List.countP_filter]
theorem keySt_len {acts : List ActD} (h : kinds3 acts) (rows : List RowD) (k : Txt) : (keySt acts rows k).reads.length = cntK k acts := by
  unfold keySt
  have hk : kinds3 (ofL k acts) := fun a ha => h a (List.mem_filter.1 ha).1
  rw [St.after_reads _ _ hk, cntK_of]
  simp [St.begin]
theorem doneAt_len {acts : List ActD} (h : kinds3 acts) (rows : List RowD) : ∀ (n : Nat) (ks : List Txt), ks.length = n → ∀ x, ((doneAt acts rows ks).2 x).length = if x ∈ ks then cntK x acts else 0 := by
  intro n
  induction n with
  | zero => intro ks hn x; rw [List.length_eq_zero_iff] at hn; subst hn; rfl
  | succ n ih =>
    intro ks hn x
    rcases List.eq_nil_or_concat ks with rfl | ⟨L, b, rfl⟩
    · simp at hn
    · simp only [List.concat_eq_append, List.length_append, List.length_cons, List.length_nil] at hn
      rw [List.concat_eq_append, doneAt_snoc]
      unfold doneKey
      simp only
      by_cases e : x = b
      · subst e
        rw [if_pos rfl, keySt_len h]; simp
      · rw [if_neg e, ih L (by omega) x]; simp [e]
theorem doneK_len {acts : List ActD} (h : kinds3 acts) (rows : List RowD) (x : Txt) : ((doneK rows acts).2 x).length = cntK x acts := by
  unfold doneK
  rw [doneAt_len h rows _ _ rfl x]
  split
  · rfl
  · rename_i hx
    unfold cntK
    rw [eq_comm, List.countP_eq_zero]
    intro a ha hk
    simp only [Bool.and_eq_true, decide_eq_true_eq] at hk
    exact hx ((keysL_mem acts x).2 ⟨a, ha, hk.2⟩)
theorem tellAt_len {acts : List ActD} {m : Told} (hm : ∀ x, (m x).length = cntK x acts) : ∀ (i : Nat), i ≤ acts.length → ∀ x, ((tellAt m (acts.take i)).2 x).length = cntK x (acts.drop i) := by
  intro i
  induction i with
  | zero => intro _ x; simpa [tellAt] using hm x
  | succ i ih =>
    intro hi x
    have hi' : i < acts.length := by omega
    rw [List.take_add_one, List.getElem?_eq_getElem hi', Option.toList_some, tellAt_snoc]
    have h1 := ih (by omega) x
    have hd : acts.drop i = acts[i] :: acts.drop (i + 1) := List.drop_eq_getElem_cons hi'
    rw [hd] at h1
    unfold cntK at h1 ⊢
    rw [List.countP_cons] at h1
    unfold tellAct
    by_cases e : acts[i].kind = 2
    · rw [if_pos e, h1]; simp [e]
    · rw [if_neg e]
      simp only
      by_cases e2 : x = keyT acts[i]
      · subst e2
        rw [if_pos rfl, List.length_tail, h1]; simp [e]
      · rw [if_neg e2, h1]
        have : ¬ keyT acts[i] = x := fun h => e2 h.symm
        simp [this]
theorem tell_some {acts : List ActD} {m : Told} (hm : ∀ x, (m x).length = cntK x acts) {i : Nat} {a : ActD} (hi : acts[i]? = some a) (hk : a.kind ≠ 2) : ∃ r rs, (tellAt m (acts.take i)).2 (keyT a) = r :: rs := by
  obtain ⟨hlt, he⟩ := List.getElem?_eq_some_iff.1 hi
  have h1 := tellAt_len hm i (by omega) (keyT a)
  have hd : acts.drop i = acts[i] :: acts.drop (i + 1) := List.drop_eq_getElem_cons hlt
  rw [hd, he] at h1
  unfold cntK at h1
  rw [List.countP_cons] at h1
  cases hc : (tellAt m (acts.take i)).2 (keyT a) with
  | nil => rw [hc] at h1; simp [hk] at h1
  | cons r rs => exact ⟨r, rs, rfl⟩
theorem tell_len (m : Told) : ∀ (acts : List ActD), (tellAt m acts).1.length ≤ acts.length := by
  have key : ∀ (acts : List ActD) (p : List Rd × Told), (acts.foldl tellAct p).1.length ≤ p.1.length + acts.length := by
    intro acts
    induction acts with
    | nil => intro p; simp
    | cons a l ih =>
      intro p
      rw [List.foldl_cons]
      refine Nat.le_trans (ih _) ?_
      unfold tellAct
      split
      · simp only [List.length_cons]; omega
      · simp only [List.length_append, List.length_cons]
        have : ((p.2 (keyT a)).head?.toList).length ≤ 1 := by cases (p.2 (keyT a)).head? <;> simp
        omega
  intro acts
  have := key acts ([], m)
  simpa [tellAt] using this
def timeB (x : StepD) : Bool := decide (0 ≤ x.ca) && decide (x.ca ≤ 1073741824) && decide (0 ≤ x.an) && decide (x.an ≤ 1073741824)
def nameS (c n : Int) : Bool := decide (1 ≤ c) && decide (c ≤ 8) && decide (1 ≤ n) && decide (n ≤ 1073741824)
def rightS (x : StepD) : Bool := timeB x && nameS x.cl x.nm && rightsB x.acts && (decide (x.an = 0) || decide (x.ca < x.an))
theorem rightS_kinds {x : StepD} (h : rightS x = true) : kinds3 x.acts ∧ x.acts.length ≤ 6 ∧ ∀ a ∈ x.acts, keyL a.key.data.toList = true ∧ a.key.size ≤ 20 := by
  unfold rightS at h
  simp only [Bool.and_eq_true] at h
  have h2 := h.1.2
  unfold rightsB at h2
  simp only [Bool.and_eq_true, decide_eq_true_eq, List.all_eq_true] at h2
  refine ⟨fun a ha => ?_, h2.1.2, fun a ha => ?_⟩
  · have h3 := h2.2 a ha
    unfold rightB kindB at h3
    simp only [Bool.and_eq_true] at h3
    by_cases e1 : a.kind = 1
    · exact .inl e1
    · by_cases e2 : a.kind = 2
      · exact .inr (.inl e2)
      · by_cases e3 : a.kind = 3
        · exact .inr (.inr e3)
        · simp [e1, e2, e3] at h3
  · have h3 := h2.2 a ha
    unfold rightB at h3
    simp only [Bool.and_eq_true] at h3
    refine ⟨h3.1, ?_⟩
    have h4 := h3.1
    unfold keyL at h4
    simp only [Bool.and_eq_true, decide_eq_true_eq] at h4
    have h5 := h4.1.2
    rw [Array.length_toList] at h5
    exact h5
abbrev Hist := List RowD × List (Int × Int)
def nextE (h : Hist) (x : StepD) : Int := if rightS x = false then 2 else if (x.cl, x.nm) ∈ h.2 then 7 else if (doneD h.1 x.acts).2 ≠ x.reads then 4 else 0
def fitGo : Hist → Nat → List StepD → Nat × Int
  | _, n, [] => (n, 0)
  | h, n, x :: l => if nextE h x ≠ 0 then (n, nextE h x) else fitGo ((doneD h.1 x.acts).1, h.2 ++ [(x.cl, x.nm)]) (n + 1) l
def fitD (l : List StepD) : Nat × Int := fitGo ([], []) 0 l
def nextD (h : Hist) (x : StepD) : Option Hist := if nextE h x ≠ 0 then none else some ((doneD h.1 x.acts).1, h.2 ++ [(x.cl, x.nm)])
def lateD (a b : StepD) : Bool := !decide (a.an = 0) && decide (a.an ≤ b.ca)
theorem doneAt_rise {rows : List RowD} {acts : List ActD} (h : RiseR rows) : ∀ (n : Nat) (ks : List Txt), ks.length = n → RiseR (doneAt acts rows ks).1 := by
  intro n
  induction n with
  | zero => intro ks hn; rw [List.length_eq_zero_iff] at hn; subst hn; exact h
  | succ n ih =>
    intro ks hn
    rcases List.eq_nil_or_concat ks with rfl | ⟨L, b, rfl⟩
    · simp at hn
    · simp only [List.concat_eq_append, List.length_append, List.length_cons, List.length_nil] at hn
      rw [List.concat_eq_append, doneAt_snoc]
      unfold doneKey
      simp only
      split
      · exact putR_rise (ih L (by omega))
      · exact ih L (by omega)
def RowD.ok (r : RowD) : Prop := r.key.size ≤ 140737488351232 ∧ r.value.size ≤ 140737488351232
theorem getR_ok {k : Txt} {rows : List RowD} (h : ∀ r ∈ rows, r.ok) : ((getR k rows).getD noBytes).size ≤ 140737488351232 := by
  unfold getR
  cases hp : rows[placeR k rows]? with
  | none => exact Nat.zero_le _
  | some d =>
    simp only
    split
    · exact (h d (List.mem_of_getElem? hp)).2
    · exact Nat.zero_le _
theorem putR_mem {x : RowD} {l : List RowD} {r : RowD} (h : r ∈ putR x l) : r = x ∨ r ∈ l := by
  unfold putR at h
  rcases List.mem_append.1 h with h | h
  · exact .inr (List.mem_of_mem_take h)
  · rcases List.mem_cons.1 h with h | h
    · exact .inl h
    · exact .inr (List.mem_of_mem_drop h)
theorem putR_len (x : RowD) (l : List RowD) : (putR x l).length ≤ l.length + 1 := by
  unfold putR
  simp only [List.length_append, List.length_cons, List.length_take, List.length_drop]
  omega
theorem keySt_ok {acts : List ActD} {rows : List RowD} {k : Txt} (ha : ∀ a ∈ acts, a.ok) (h : ∀ r ∈ rows, r.ok) : (keySt acts rows k).value.size ≤ 140737488351232 ∧ (keySt acts rows k).reads.length ≤ acts.length := by
  unfold keySt
  have h1 := St.after_bd (ofL k acts) (St.begin (getR k rows).isSome ((getR k rows).getD noBytes)) (by
    unfold St.begin; simp only; split
    · exact getR_ok h
    · exact Nat.zero_le _) (fun a h => ha a ((List.mem_filter.1 h).1))
  refine ⟨h1.1, Nat.le_trans h1.2 ?_⟩
  have := ofL_len k acts
  simp [St.begin]; omega
theorem doneAt_ok {rows : List RowD} {acts : List ActD} (ha : ∀ a ∈ acts, a.ok) (h : ∀ r ∈ rows, r.ok) : ∀ (n : Nat) (ks : List Txt), ks.length = n → (∀ k ∈ ks, k.length ≤ 140737488351232) → (∀ r ∈ (doneAt acts rows ks).1, r.ok) ∧ (doneAt acts rows ks).1.length ≤ rows.length + n := by
  intro n
  induction n with
  | zero => intro ks hn _; rw [List.length_eq_zero_iff] at hn; subst hn; exact ⟨h, by simp [doneAt]⟩
  | succ n ih =>
    intro ks hn hk
    rcases List.eq_nil_or_concat ks with rfl | ⟨L, b, rfl⟩
    · simp at hn
    · simp only [List.concat_eq_append] at hn hk ⊢
      simp only [List.length_append, List.length_cons, List.length_nil] at hn
      obtain ⟨i1, i2⟩ := ih L (by omega) (fun k h => hk k (by simp [h]))
      rw [doneAt_snoc]
      unfold doneKey
      simp only
      split
      · refine ⟨fun r hr => ?_, ?_⟩
        · rcases putR_mem hr with rfl | hr
          · exact ⟨by have h2 := hk b (by simp); show b.toArray.size ≤ _; rw [List.size_toArray]; exact h2, (keySt_ok ha i1).1⟩
          · exact i1 r hr
        · have := putR_len ⟨⟨b.toArray⟩, (keySt acts (doneAt acts rows L).1 b).value⟩ (doneAt acts rows L).1
          omega
      · exact ⟨i1, by omega⟩
theorem keysL_size {acts : List ActD} (ha : ∀ a ∈ acts, a.ok) : ∀ k ∈ keysL acts, k.length ≤ 140737488351232 := by
  intro k hk
  obtain ⟨a, h, rfl⟩ := (keysL_mem acts k).1 hk
  have h2 := (ha a h).2.2.1
  unfold keyT
  rw [Array.length_toList]
  exact h2
theorem doneK_ok {rows : List RowD} {acts : List ActD} (ha : ∀ a ∈ acts, a.ok) (h : ∀ r ∈ rows, r.ok) : (∀ r ∈ (doneK rows acts).1, r.ok) ∧ (doneK rows acts).1.length ≤ rows.length + acts.length := by
  have h1 := doneAt_ok ha h _ (keysL acts) rfl (keysL_size ha)
  exact ⟨h1.1, Nat.le_trans h1.2 (by have := keysL_len acts; omega)⟩
end Go.Proofs.YtbnclifpdmpjnaaGreatDoor
