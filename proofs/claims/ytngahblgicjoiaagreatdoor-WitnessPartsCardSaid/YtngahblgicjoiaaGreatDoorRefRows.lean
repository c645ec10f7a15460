/- The document's rows and steps: CopyLines, Rows.Get, table, late, Right. -/
import Derived.Test.YtngahblgicjoiaaGreatDoorDoP
import Derived.Test.YtngahblgicjoiaaGreatDoorRefOnes
import Derived.Test.YtngahblgicjoiaaGreatDoorRefActs
namespace Go.Proofs.YtngahblgicjoiaaGreatDoor
open Go.RowKit

set_option maxRecDepth 100000 in
theorem copyLines_calls (l : List RowD) (ao : Option Addr) (cap : Nat) (w : World) (hl : l.length ≤ 1000000) (hr : Rows 2 encRw w.heap.size w ao l) :
    Calls Tryz.prog 59 #[.slice ao l.length cap] w fun e w' => ∃ v, e = .returned v ∧ w'.ownsRow 0 73 2 v l.length (l.flatMap encRw) ∧ (∀ j, v.ownBlock = some j → w.heap.size ≤ j) ∧ Ext w w' := by
  obtain ⟨i0, hi, hz0, hz1, hz2⟩ := info_parts infoRow
  have HR := Lib.hid hr
  clear hr
  go_enter Tryz.func59, Tryz.ntmps59
  go_wp2_with (at_builtin; refine wpList_append_rows (enc := encRw) (size := 2) (fun _ => rfl) one_row rfl _ _ 32 rfl 73 i0 _ 32 Tryz.underlying32 hi hz0 hz1 hz2 rfl (by decide) (.slice none 0 0) 0 [] rfl (World.ownsRow_nil _ _ _ _) ao l cap rfl HR.out (by unfold maxLen; omega) (by omega) ?_; intro v1 w1 hown1 hbut1 hkept1; have O1 := Lib.hid hown1; have B1 := Lib.hid hbut1; have P1 := Lib.hid hkept1; clear hown1 hbut1 hkept1)
  go_ret
  refine ⟨v1, rfl, by have := O1.out; rwa [Nat.zero_add, List.nil_append] at this, fun j hj => ?_, B1.out.ext (fun i hi e => by simp [Value.ownBlock] at e)⟩
  rcases P1.out j hj with e | e
  · simp [Value.ownBlock] at e
  · exact e
set_option maxRecDepth 100000 in
theorem refRow_calls (x : RowD) (w : World) (hx : x.ok) :
    Calls Tryz.prog 103 #[.agg (encRw x).toArray] w fun e w' => e = .returned (.bool (okRow x)) ∧ Ext w w' := by
  obtain ⟨key, val⟩ := x
  have KC := Lib.hid (fun W => refKey_calls key W hx.1)
  have X0 := Lib.hid (show Ext w (w.alloc (.cells #[.string key, .string val] 73)) from (Below.refl _ w).alloc (Nat.le_refl _) _)
  have e0 : okRow ⟨key, val⟩ = (keyL key.data.toList && decide ((val.size : Int) ≤ 20)) := by
    unfold okRow rkey
    congr 1
    rw [Bool.eq_iff_iff]; simp only [decide_eq_true_eq]; omega
  unfold encRw
  cases hk : keyL key.data.toList <;> cases hv : decide ((val.size : Int) ≤ 20)
  all_goals
    rw [hk, hv] at e0
    have E0 := Lib.hid e0; have HK := Lib.hid hk
    clear e0 hk hx
    go_enter Tryz.func103, Tryz.ntmps103
    go_wp2_with (go_at_call 153; refine (KC.out _).mono ?_; rw [HK.out]; rintro e w' ⟨rfl, rfl⟩)
    go_ret
    exact ⟨ret_bool (by rw [E0.out]; rfl), X0.out⟩

set_option maxRecDepth 100000 in
set_option maxHeartbeats 1600000 in
theorem refGet_calls (l : List RowD) (hb : Nat) (ao : Option Addr) (cap : Nat) (key : ByteArray) (w : World) (hl : l.length ≤ 1000000) (hblk : Blk w hb [.slice ao l.length cap] 185) (hr : Rows 2 encRw w.heap.size w ao l) (hrise : RiseR l) :
    Calls Tryz.prog 105 #[.pointer (some ⟨hb, 0, none⟩), .string key] w fun e w' => e = .returned (.tuple #[.string ((getR key.data.toList l).getD noBytes), .bool (getR key.data.toList l).isSome]) ∧ Ext w w' := by
  have HB := Lib.hid hblk; have HR := Lib.hid hr; have HI := Lib.hid hrise
  clear hblk hr hrise
  go_enter Tryz.func105, Tryz.ntmps105
  go_wp2_with fail
  go_loopw [6] (fun i wr => ∃ k : Nat, k ≤ l.length ∧ i = .int .i64 k ∧ (∀ (j : Nat) (x : RowD), j < k → l[j]? = some x → rkey x ≠ key.data.toList) ∧ Ext w wr) (fun i _ => l.length - (intOf i).toNat)
  case atStart => exact ⟨0, by omega, rfl, fun j x h => by omega, Below.refl _ _⟩
  case round =>
    obtain ⟨k, hk, rfl, hno, hx⟩ := hrel
    have K1 := Lib.hid hno; have K2 := Lib.hid hx
    have h0 := (HB.out.ext' hx).cell 0
    simp only [List.getElem?_cons_zero] at h0
    clear hno hx
    by_cases hlt : k < l.length
    · obtain ⟨x, hx⟩ : ∃ x, l[k]? = some x := ⟨_, List.getElem?_eq_getElem hlt⟩
      obtain ⟨b, off, rfl, hb', hcell⟩ := HR.out (by intro e; rw [e] at hlt; simp at hlt)
      have hcx := hcell k x hx
      have hmove : ∀ j, wr.cell? ⟨b, j, none⟩ = w.cell? ⟨b, j, none⟩ := fun j => K2.out.cell (p := ⟨b, j, none⟩) hb'
      have HX := Lib.hid hx
      have hgm := getR_mem HI.out (List.mem_of_getElem? hx)
      have GM := Lib.hid hgm
      obtain ⟨ky, val⟩ := x
      have d0 := (hmove _).trans (hcx 0 _ rfl); have d1 := (hmove _).trans (hcx 1 _ rfl)
      simp only [Nat.add_zero] at d0
      have i0 : (0 : Int) ≤ (k : Int) := by omega
      have i1 : (k : Int) < (l.length : Int) := by omega
      clear hx hcell hcx hmove hgm
      by_cases hkey : ky = key
      · have g1 : (ky.toList == key.toList) = true := by simp [hkey]
        have HK := Lib.hid hkey; clear hkey
        go_wp2_with fail
        go_ret2
        have e : getR key.data.toList l = some val := by rw [← HK.out]; exact GM.out
        exact ⟨by rw [e]; rfl, K2.out⟩
      · have g1 : (ky.toList == key.toList) = false := by rw [Lib.bytes_beq_false_iff]; exact hkey
        have HK := Lib.hid hkey; clear hkey
        go_wp2_with fail
        go_roundw
        case rel =>
          refine ⟨k + 1, by omega, by go_num, fun j x hj hx => ?_, K2.out⟩
          rcases Nat.lt_or_ge j k with h | h
          · exact K1.out j x h hx
          · obtain rfl : j = k := by omega
            rw [HX.out] at hx
            rw [← Option.some.inj hx]
            exact fun e => HK.out ((keyT_iff ⟨0, ky, val, 0⟩ key).1 e)
        case measure => simp [intOf]; omega
    · have hn : getR key.data.toList l = none := by
        cases hg : getR key.data.toList l with
        | none => rfl
        | some v =>
          obtain ⟨d, hd, he, -⟩ := getR_some hg
          obtain ⟨j, hj, rfl⟩ := List.mem_iff_getElem.1 hd
          exact absurd he (K1.out j _ (by omega) (List.getElem?_eq_getElem hj))
      have HN := Lib.hid hn; clear hn
      go_wp2_with fail
      go_ret2
      exact ⟨by rw [HN.out]; rfl, K2.out⟩

set_option maxRecDepth 100000 in
set_option maxHeartbeats 3200000 in
theorem refTable_calls (l : List RowD) (ao : Option Addr) (cap : Nat) (w : World) (hl : l.length ≤ 1000000) (hr : Rows 2 encRw w.heap.size w ao l) (hok : ∀ r ∈ l, r.ok) :
    Calls Tryz.prog 58 #[.slice ao l.length cap] w fun e w' => e = .returned (.bool (soundB l)) ∧ Ext w w' := by
  have HR := Lib.hid hr; have HOK := Lib.hid hok
  clear hr hok
  go_enter Tryz.func58, Tryz.ntmps58
  go_wp2_with fail
  go_loopw [3] (fun i wr => ∃ k : Nat, k ≤ l.length ∧ i = .int .i64 k ∧ soundG none (l.take k) = true ∧ Ext w wr) (fun i _ => l.length - (intOf i).toNat)
  case atStart => exact ⟨0, by omega, rfl, rfl, Below.refl _ _⟩
  case round =>
    obtain ⟨k, hk, rfl, hs, hx⟩ := hrel
    have K1 := Lib.hid hs; have K2 := Lib.hid hx
    clear hs hx
    by_cases hlt : k < l.length
    · obtain ⟨x, hx⟩ : ∃ x, l[k]? = some x := ⟨_, List.getElem?_eq_getElem hlt⟩
      have hxok := HOK.out x (List.mem_of_getElem? hx)
      obtain ⟨b, off, rfl, hb, hcell⟩ := HR.out (by intro e; rw [e] at hlt; simp at hlt)
      have hmove : ∀ j, wr.cell? ⟨b, j, none⟩ = w.cell? ⟨b, j, none⟩ := fun j => K2.out.cell (p := ⟨b, j, none⟩) hb
      have hst := soundG_take l none k x hx K1.out
      have hno := fun h => soundG_no l none (k + 1) h
      have RC := Lib.hid (fun (p : ExtBy wr) => refRow_calls x p.W hxok)
      have hcx := hcell k x hx
      have hix : ∀ (j : Nat) (y : RowD), k = j + 1 → l[j]? = some y → wr.cell? ⟨b, off + j * 2, none⟩ = some (.string y.key) ∧ IntKind.i64.wrap ((k : Int) - 1) = (j : Int) ∧ (0 : Int) ≤ (j : Int) ∧ (j : Int) < (l.length : Int) := fun j y hkj hy => by
        have hc := hcell j y hy 0 _ rfl
        refine ⟨(hmove _).trans hc, ?_, by omega, by omega⟩
        rw [IntWalk.i64_in _ (by omega)]; omega
      have key2 : okRow x = false ∨ (okRow x = true ∧ k = 0) ∨ (okRow x = true ∧ ∃ (j : Nat) (y : RowD), k = j + 1 ∧ l[j]? = some y) := by
        cases okRow x with
        | false => exact .inl rfl
        | true =>
          rcases Nat.eq_zero_or_pos k with h0 | h0
          · exact .inr (.inl ⟨rfl, h0⟩)
          · exact .inr (.inr ⟨rfl, k - 1, l[k - 1], by omega, List.getElem?_eq_getElem (by omega)⟩)
      have HIX := Lib.hid hix; have ST := Lib.hid hst; have NO := Lib.hid hno
      obtain ⟨q, hq⟩ : ∃ q, okRow x = q := ⟨_, rfl⟩
      rw [hq] at key2 ST RC
      obtain ⟨key, val⟩ := x
      unfold encRw at hcx RC
      unfold rkey at ST
      simp only at hcx RC ST
      have d0 := (hmove _).trans (hcx 0 _ rfl); have d1 := (hmove _).trans (hcx 1 _ rfl)
      simp only [Nat.add_zero] at d0
      have c0 := ExtBy.cell d0; have c1 := ExtBy.cell d1
      have i0 : (0 : Int) ≤ (k : Int) := by omega
      have i1 : (k : Int) < (l.length : Int) := by omega
      clear hx hxok hcell hmove hcx hst hno hix hq d0 d1
      go_wp2_with fail
      rcases key2 with rfl | ⟨rfl, h0⟩ | ⟨rfl, j, y, hkj, hy⟩
      case' inl =>
        have e1 : soundG none (l.take (k + 1)) = false := by rw [ST.out]; rfl
      case' inr.inl =>
        have e1 : soundG none (l.take (k + 1)) = true := by rw [ST.out, if_pos h0]; rfl
        have t1 : decide (0 < k) = false := by simp; omega
        have t2 : decide ((0 : Int) < (k : Int)) = false := by simp; omega
      case' inr.inr =>
        have t1 : decide (0 < k) = true := by simp; omega
        have t2 : decide ((0 : Int) < (k : Int)) = true := by simp; omega
        obtain ⟨dj0, hw, j0, j1⟩ := HIX.out j y hkj hy
        have dj := ExtBy.cell dj0
        have e0 : soundG none (l.take (k + 1)) = decide (y.key.data.toList < key.data.toList) := by
          have e5 : l[k - 1]? = some y := by rw [hkj]; exact hy
          rw [ST.out, if_neg (by omega), e5]; rfl
        have HKJ := Lib.hid hkj
        clear hkj hy dj0
        obtain ⟨yk, yv⟩ := y
        simp only at e0 dj
        have hbl := bless yk key
        obtain ⟨q, hqq⟩ : ∃ q, decide (yk.data.toList < key.data.toList) = q := ⟨_, rfl⟩
        rw [hqq] at hbl e0
        clear hqq
        cases q
      case' inr.inr.false => have e1 : soundG none (l.take (k + 1)) = false := e0
      case' inr.inr.true => have e1 : soundG none (l.take (k + 1)) = true := e0
      all_goals
        have E1 := Lib.hid e1
        clear e1
      all_goals (try clear e0)
      all_goals (try clear h0)
      all_goals
        refine wp_region_ext (by kernel_rfl) (by kernel_rfl) ?_
        repeat (go_big_quiet_step ((with_reducible exact Calls.ext_of _ (RC.out _))))
        refine wpQuiet_nil ?_
        intro wc hw'
        have hxc := Lib.hid (show Ext wr wc by obtain ⟨p, rfl⟩ := hw'; exact p.ext)
        clear hw' c0 c1
        go_wp2_with fail
      · go_roundw
        case rel => exact ⟨k + 1, by omega, by go_num, E1.out, Ext.trans K2.out hxc.out⟩
        case measure => simp [intOf]; omega
      · go_ret
        exact ⟨ret_bool (NO.out E1.out).symm, Ext.trans K2.out hxc.out⟩
      · go_roundw
        case rel => exact ⟨k + 1, by omega, by go_num, E1.out, Ext.trans K2.out hxc.out⟩
        case measure => simp [intOf]; omega
      · go_ret
        exact ⟨ret_bool (NO.out E1.out).symm, Ext.trans K2.out hxc.out⟩
    · have hall : l.take k = l := List.take_of_length_le (by omega)
      have HA := Lib.hid hall; clear hall
      go_wp2_with fail
      go_ret
      exact ⟨ret_bool (by unfold soundB; rw [← HA.out]; exact K1.out.symm), K2.out⟩

theorem refLate_calls (a b : StepZ) (w : World) : Calls Tryz.prog 69 #[.agg (encStep a).toArray, .agg (encStep b).toArray] w fun e w' => e = .returned (.bool (lateD a.d b.d)) ∧ Ext w w' := by
  obtain ⟨⟨cl, nm, acts, reads, ca, an⟩, ao, ac, ro, rc⟩ := a
  obtain ⟨⟨cl', nm', acts', reads', ca', an'⟩, ao', ac', ro', rc'⟩ := b
  have e0 : lateD ⟨cl, nm, acts, reads, ca, an⟩ ⟨cl', nm', acts', reads', ca', an'⟩ = ((an != 0) && decide (an ≤ ca')) := rfl
  generalize lateD _ _ = res at e0 ⊢
  have hX : Ext w ((w.alloc (.cells (encStep ⟨⟨cl, nm, acts, reads, ca, an⟩, ao, ac, ro, rc⟩).toArray 44)).alloc (.cells (encStep ⟨⟨cl', nm', acts', reads', ca', an'⟩, ao', ac', ro', rc'⟩).toArray 44)) := ((Below.refl _ w).alloc (Nat.le_refl _) _).alloc (by simp) _
  have HX := Lib.hid hX; clear hX
  unfold encStep at HX ⊢
  cases h1 : (an != 0) <;> cases h2 : decide (an ≤ ca')
  all_goals
    rw [h1, h2] at e0
    have E0 := Lib.hid e0; clear e0
    go_enter Tryz.func69, Tryz.ntmps69
    go_wp2_with fail
    go_ret
    exact ⟨ret_bool (by rw [E0.out]; rfl), HX.out⟩
set_option maxRecDepth 100000 in
theorem refStep_calls (z : StepZ) (w : World) (hz : z.at w.heap.size w) (hd : z.d.ok) :
    Calls Tryz.prog 57 #[.agg (encStep z).toArray] w fun e w' => e = .returned (.bool (rightS z.d)) ∧ Ext w w' := by
  obtain ⟨⟨cl, nm, acts, reads, ca, an⟩, ao, ac, ro, rc⟩ := z
  have hok := hd.acts; have han := hd.an
  obtain ⟨hza, -⟩ := hz
  simp only at hok han hza ⊢
  have HX := Lib.hid (show Ext w (w.alloc (.cells #[.int .i64 cl, .int .i64 nm, .slice ao acts.length ac, .slice ro reads.length rc, .int .i64 ca, .int .i64 an] 44)) from (Below.refl _ w).alloc (Nat.le_refl _) _)
  have HB := Lib.hid (Blk.new w [.int .i64 cl, .int .i64 nm, .slice ao acts.length ac, .slice ro reads.length rc, .int .i64 ca, .int .i64 an] 44)
  have HR := Lib.hid (fun W (hW : Ext w W) => refRight_calls acts ao ac W han hok ((hza.ext hW).mono hW.size))
  have e0 : rightS ⟨cl, nm, acts, reads, ca, an⟩ = (nameB cl nm && (rightsB acts && ((!decide (ca < 0) && !decide (1073741824 < ca) && !decide (an < 0) && !decide (1073741824 < an)) && ((an == 0) || decide (ca < an))))) := by
    unfold rightS timeB
    have h1 : decide (0 ≤ ca) = !decide (ca < 0) := by rw [Bool.eq_iff_iff]; simp
    have h2 : decide (ca ≤ 1073741824) = !decide (1073741824 < ca) := by rw [Bool.eq_iff_iff]; simp
    have h3 : decide (0 ≤ an) = !decide (an < 0) := by rw [Bool.eq_iff_iff]; simp
    have h4 : decide (an ≤ 1073741824) = !decide (1073741824 < an) := by rw [Bool.eq_iff_iff]; simp
    have h5 : decide (an = 0) = (an == 0) := rfl
    simp only [h1, h2, h3, h4, h5, show nameS cl nm = nameB cl nm from rfl]
    cases nameB cl nm <;> cases rightsB acts <;> simp
  generalize rightS _ = res at e0 ⊢
  obtain ⟨b1, h1⟩ : ∃ b, decide (ca < 0) = b := ⟨_, rfl⟩
  obtain ⟨b2, h2⟩ : ∃ b, decide (1073741824 < ca) = b := ⟨_, rfl⟩
  obtain ⟨b3, h3⟩ : ∃ b, decide (an < 0) = b := ⟨_, rfl⟩
  obtain ⟨b4, h4⟩ : ∃ b, decide (1073741824 < an) = b := ⟨_, rfl⟩
  obtain ⟨b5, h5⟩ : ∃ b, (an == 0) = b := ⟨_, rfl⟩
  obtain ⟨b6, h6⟩ : ∃ b, decide (ca < an) = b := ⟨_, rfl⟩
  rw [h1, h2, h3, h4, h5, h6] at e0
  have E0 := Lib.hid e0
  unfold encStep
  clear e0 hza hok hd
  go_enter Tryz.func57, Tryz.ntmps57
  go_wp2_with fail
  refine (refName_calls cl nm _).mono ?_
  rintro e w2 ⟨rfl, hx⟩
  have X2 := Lib.hid (Ext.trans HX.out hx)
  have hb := HB.out.ext' hx
  have c2 := hb.cell 2; have c4 := hb.cell 4; have c5 := hb.cell 5
  simp only [List.getElem?_cons_zero, List.getElem?_cons_succ] at c2 c4 c5
  have B2 := Lib.hid hb; clear hx hb
  cases hn : nameB cl nm
  · have HN := Lib.hid hn; clear hn
    go_wp2_with fail
    go_ret
    exact ⟨ret_bool (by rw [E0.out, HN.out]; rfl), X2.out⟩
  · have HN := Lib.hid hn; clear hn
    go_wp2_with fail
    refine (HR.out _ X2.out).mono ?_
    rintro e w3 ⟨rfl, hx⟩
    have X3 := Lib.hid (Ext.trans X2.out hx)
    have hb := B2.out.ext' hx
    have c4 := hb.cell 4; have c5 := hb.cell 5
    simp only [List.getElem?_cons_zero, List.getElem?_cons_succ] at c4 c5
    clear hx hb
    cases hr : rightsB acts
    · have HR2 := Lib.hid hr; clear hr
      go_wp2_with fail
      go_ret
      exact ⟨ret_bool (by rw [E0.out, HN.out, HR2.out]; rfl), X3.out⟩
    · have HR2 := Lib.hid hr; clear hr
      have hs : (b1 = false ∧ b2 = false ∧ b3 = false ∧ b4 = false) ∨ b1 = true ∨ (b1 = false ∧ b2 = true) ∨ (b1 = false ∧ b2 = false ∧ b3 = true) ∨ (b1 = false ∧ b2 = false ∧ b3 = false ∧ b4 = true) := by
        cases b1 <;> cases b2 <;> cases b3 <;> cases b4 <;> simp
      rcases hs with ⟨rfl, rfl, rfl, rfl⟩ | h
      · rcases chain2 b5 b6 with ⟨rfl, rfl⟩ | ⟨rfl, rfl⟩ | rfl
        all_goals
          go_wp2_with fail
          go_ret
          exact ⟨ret_bool (by rw [E0.out, HN.out, HR2.out]; simp), X3.out⟩
      · rcases h with rfl | ⟨rfl, rfl⟩ | ⟨rfl, rfl, rfl⟩ | ⟨rfl, rfl, rfl, rfl⟩
        all_goals
          go_wp2_with fail
          go_ret
          exact ⟨ret_bool (by rw [E0.out, HN.out, HR2.out]; simp), X3.out⟩
end Go.Proofs.YtngahblgicjoiaaGreatDoor
/- The document's with: rows, and one more. -/
namespace Go.Proofs.YtngahblgicjoiaaGreatDoor
open Go.RowKit

theorem withGo_len (x : RowD) : ∀ (b : Bool) (l : List RowD), (withGo x b l).length ≤ l.length + 1
  | true, [] => by simp [withGo]
  | false, [] => by simp [withGo]
  | true, d :: l => by
    rw [withGo]
    have := withGo_len x true l
    split <;> simp <;> omega
  | false, d :: l => by
    rw [withGo]
    have h1 := withGo_len x true l
    have h2 := withGo_len x false l
    have h3 : ∀ (m : List RowD), (withGo x true m).length ≤ m.length := by
      intro m
      induction m with
      | nil => simp [withGo]
      | cons d m ih => rw [withGo]; split <;> simp <;> omega
    have h4 := h3 l
    split
    · simp; omega
    · split <;> simp <;> omega
theorem wg_lt {x d : RowD} {l : List RowD} (h : rkey d < rkey x) : withGo x false (d :: l) = [d] ++ withGo x false l := by rw [withGo, if_pos h]; rfl
theorem wg_eq {x d : RowD} {l : List RowD} (h : rkey d = rkey x) : withGo x false (d :: l) = [x] ++ withGo x true l := by
  rw [withGo, if_neg (by rw [h]; exact lt_irr _), if_pos h]; rfl
theorem wg_gt {x d : RowD} {l : List RowD} (h : ¬ rkey d < rkey x) (hn : rkey d ≠ rkey x) : withGo x false (d :: l) = ([x] ++ [d]) ++ withGo x true l := by
  rw [withGo, if_neg h, if_neg hn]; rfl
theorem wg_tne {x d : RowD} {l : List RowD} (hn : rkey d ≠ rkey x) : withGo x true (d :: l) = [d] ++ withGo x true l := by rw [withGo, if_neg hn]
theorem wg_teq {x d : RowD} {l : List RowD} (h : rkey d = rkey x) : withGo x true (d :: l) = withGo x true l := by rw [withGo, if_pos h]; rfl
/-- One row more behind rows of one's own. -/
theorem wpList_put_row {ops : Array Oper} {rest : List Oper} {o : Oper} {a : Act} {Q : Exit → Act → World → Prop} (hgd : o.guard = none) (s x : Operand)
    (ho : o.op = .call { callee := .builtin .append, args := #[s, x], argTypes := #[32, 32] })
    {base W : World} {acc : List RowD} (d : RowD) {v : Value} (hs : a.eval s = v) (hx : a.eval x = .slice (some ⟨W.heap.size, 0, none⟩) 1 1)
    (hown : W.ownsRow 0 73 2 v acc.length (acc.flatMap encRw)) (hnew : ∀ j, v.ownBlock = some j → base.heap.size ≤ j) (hext : Ext base W) (hlen : acc.length ≤ 1000000)
    (K : ∀ g cap w', w'.ownsRow 0 73 2 (.slice (some ⟨g, 0, none⟩) (acc.length + 1) cap) (acc ++ [d]).length ((acc ++ [d]).flatMap encRw) → base.heap.size ≤ g → Ext base w' →
      wpList Tryz.prog ops Q rest (a.put o.dst (.slice (some ⟨g, 0, none⟩) (acc.length + 1) cap)) w') :
    wpList Tryz.prog ops Q (o :: rest) a (W.alloc (.cells (encRw d).toArray 73)) := by
  obtain ⟨i0, hi, hz0, hz1, hz2⟩ := info_parts infoRow
  have E2 : Ext W (W.alloc (.cells (encRw d).toArray 73)) := (Below.refl _ W).alloc (Nat.le_refl _) _
  refine wpList_append_at _ hgd s x 32 ho 73 i0 _ 2 32 Tryz.underlying32 hi hz0 hz1 hz2 rfl (by decide) v acc.length (acc.flatMap encRw) hs (own_ext hown E2) ⟨W.heap.size, 0, none⟩ 1 1 (encRw d) hx rfl (cells_new W (encRw d) 73) (one_row _) (by decide) (by unfold maxLen; omega) (by omega) ?_
  intro g cap w' h1 h2 h3
  refine K g cap w' ?_ ?_ ?_
  · rw [List.length_append, List.flatMap_append]; simpa using h1
  · rcases h3 g rfl with e | e
    · exact hnew g e
    · exact Nat.le_trans (Nat.le_trans hext.size E2.size) e
  · exact Below.trans hext (((Ext.but E2 (fun _ => False)).trans h2 (U := fun j => base.heap.size ≤ j) (fun _ _ e => e.elim) (fun i _ e => hnew i e)).below hext.size (fun _ h => h))
def WithPost (w : World) (m : List RowD) (e : Ending) (w' : World) : Prop := ∃ v, e = .returned v ∧ w'.ownsRow 0 73 2 v m.length (m.flatMap encRw) ∧ (∀ j, v.ownBlock = some j → w.heap.size ≤ j) ∧ Ext w w'

set_option maxRecDepth 100000 in
set_option maxHeartbeats 3200000 in
theorem with_calls (l : List RowD) (x : RowD) (ao : Option Addr) (cap : Nat) (w : World) (hl : l.length ≤ 100000) (hr : Rows 2 encRw w.heap.size w ao l) :
    Calls Tryz.prog 108 #[.slice ao l.length cap, .agg (encRw x).toArray] w (WithPost w (withGo x false l)) := by
  have HR := Lib.hid hr
  clear hr
  have BX := Lib.hid (Blk.new w (encRw x) 73)
  have X0 := Lib.hid (show Ext w (w.alloc (.cells (encRw x).toArray 73)) from (Below.refl _ w).alloc (Nat.le_refl _) _)
  obtain ⟨wx, hwx⟩ : ∃ wx, wx = w.alloc (.cells (encRw x).toArray 73) := ⟨_, rfl⟩
  rw [← hwx] at BX X0
  obtain ⟨key, val⟩ := x
  unfold encRw at hwx BX ⊢
  simp only at hwx BX
  have WX := Lib.hid hwx
  clear hwx
  go_enter Tryz.func108, Tryz.ntmps108
  go_wp2_with fail
  rw [← WX.out]
  go_loopw [5, 6, 7] (fun v vp i wr => ∃ (k : Nat) (p : Bool) (acc : List RowD), k ≤ l.length ∧ i = .int .i64 k ∧ vp = .bool p ∧ withGo ⟨key, val⟩ false l = acc ++ withGo ⟨key, val⟩ p (l.drop k) ∧ acc.length ≤ k + p.toNat ∧ wr.ownsRow 0 73 2 v acc.length (acc.flatMap encRw) ∧ (∀ j, v.ownBlock = some j → wx.heap.size ≤ j) ∧ Ext wx wr) (fun _ _ i _ => l.length - (intOf i).toNat)
  case atStart => exact ⟨0, false, [], by omega, rfl, rfl, rfl, by simp, World.ownsRow_nil _ _ _ _, by simp [Value.ownBlock], Below.refl _ _⟩
  case round =>
    obtain ⟨k, p, acc, hk, rfl, rfl, hW, hlen, hown, hnew, hx⟩ := hrel
    have K1 := Lib.hid hown; have K2 := Lib.hid hnew; have K3 := Lib.hid hx; have KW := Lib.hid hW; have KL := Lib.hid hlen
    have hacc : acc.length ≤ 100001 := by cases p <;> simp at hlen <;> omega
    have CX := Lib.hid (fun W (hW : Ext wx W) => (⟨(BX.out.ext' hW).cell 0, (BX.out.ext' hW).cell 1⟩ : W.cell? ⟨w.heap.size, 0, none⟩ = some (.string key) ∧ W.cell? ⟨w.heap.size, 1, none⟩ = some (.string val)))
    obtain ⟨c0, c1⟩ := CX.out _ hx
    clear hown hnew hx hW hlen
    by_cases hlt : k < l.length
    · obtain ⟨d, hd⟩ : ∃ d, l[k]? = some d := ⟨_, List.getElem?_eq_getElem hlt⟩
      obtain ⟨b, off, rfl, hb, hcell⟩ := HR.out (by intro e; rw [e] at hlt; simp at hlt)
      have hcx := hcell k d hd
      have hdr : l.drop k = d :: l.drop (k + 1) := by
        obtain ⟨h1, h2⟩ := List.getElem?_eq_some_iff.1 hd
        rw [List.drop_eq_getElem_cons h1, h2]
      rw [hdr] at KW
      have hmove : ∀ W, Ext wx W → ∀ j, W.cell? ⟨b, j, none⟩ = w.cell? ⟨b, j, none⟩ := fun W hW j => (Ext.trans X0.out hW).cell (p := ⟨b, j, none⟩) hb
      have DX := Lib.hid (fun W (hW : Ext wx W) => (⟨(hmove W hW _).trans (hcx 0 _ rfl), (hmove W hW _).trans (hcx 1 _ rfl)⟩ : W.cell? ⟨b, off + k * 2, none⟩ = some (.string d.key) ∧ W.cell? ⟨b, off + k * 2 + 1, none⟩ = some (.string d.value)))
      have hkk : (rkey d < rkey ⟨key, val⟩ ∧ rkey d ≠ rkey ⟨key, val⟩) ∨ (¬ rkey d < rkey ⟨key, val⟩ ∧ rkey d = rkey ⟨key, val⟩) ∨ (¬ rkey d < rkey ⟨key, val⟩ ∧ rkey d ≠ rkey ⟨key, val⟩) := by
        by_cases h1 : rkey d < rkey ⟨key, val⟩
        · exact .inl ⟨h1, fun e => by rw [e] at h1; exact lt_irr _ h1⟩
        · by_cases h2 : rkey d = rkey ⟨key, val⟩
          · exact .inr (.inl ⟨h1, h2⟩)
          · exact .inr (.inr ⟨h1, h2⟩)
      have hne : ∀ (ky vl : ByteArray), rkey ⟨ky, vl⟩ ≠ rkey ⟨key, val⟩ → (ky.toList == key.toList) = false := fun ky vl h => by
        rw [Lib.bytes_beq_false_iff]; intro e; exact h (by rw [e]; rfl)
      have heq : ∀ (ky vl : ByteArray), rkey ⟨ky, vl⟩ = rkey ⟨key, val⟩ → (ky.toList == key.toList) = true := fun ky vl h => by
        have : ky.toList = key.toList := by rw [Lib.toList_data, Lib.toList_data]; exact h
        rw [this]; simp
      have KK := Lib.hid hkk; have NE := Lib.hid hne; have EQ := Lib.hid heq
      clear hd hdr hcell hcx hmove hkk hne heq
      obtain ⟨ky, vl⟩ := d
      obtain ⟨d0, d1⟩ := DX.out wr K3.out
      have hbl := bless ky key
      have hi0 : (0 : Int) ≤ (k : Int) := by omega
      have hi1 : (k : Int) < (l.length : Int) := by omega
      clear d0 d1 c0 c1
      rcases KK.out with ⟨h1, h2⟩ | ⟨h1, h2⟩ | ⟨h1, h2⟩
      · have e1 : decide (ky.data.toList < key.data.toList) = true := decide_eq_true h1
        rw [e1] at hbl
        have g2 := NE.out _ _ h2
        have g3 : (ky.toList != key.toList) = true := by rw [bne, g2]; rfl
        have H1 := Lib.hid h1; have H2 := Lib.hid h2; clear h1 h2 e1
        cases p
        · go_wp2_with fail
          obtain ⟨c0, c1⟩ := CX.out _ K3.out; obtain ⟨d0, d1⟩ := DX.out _ K3.out
          have k0 := ExtBy.cell c0; have k2 := ExtBy.cell d0
          clear c0 c1 d0 d1
          refine wp_region_ext (by kernel_rfl) (by kernel_rfl) ?_
          repeat (go_big_quiet_step (fail))
          refine wpQuiet_nil ?_
          intro wc hw'
          have Xwc : Hid (Ext wx wc) := Lib.hid (by obtain ⟨p, rfl⟩ := hw'; exact Ext.trans K3.out p.ext)
          have Owc := Lib.hid (show wc.ownsRow 0 73 2 _ _ _ from own_ext K1.out (by obtain ⟨p, rfl⟩ := hw'; exact p.ext))
          clear hw' k0 k2
          go_wp2_with fail
          obtain ⟨c0, c1⟩ := CX.out _ Xwc.out; obtain ⟨d0, d1⟩ := DX.out _ Xwc.out
          have k0 := ExtBy.cell c0; have k2 := ExtBy.cell d0
          clear c0 c1 d0 d1
          refine wp_region_ext (by kernel_rfl) (by kernel_rfl) ?_
          repeat (go_big_quiet_step (fail))
          refine wpQuiet_nil ?_
          intro wd hw'
          have Xwd : Hid (Ext wx wd) := Lib.hid (by obtain ⟨p, rfl⟩ := hw'; exact Ext.trans Xwc.out p.ext)
          have Owd := Lib.hid (show wd.ownsRow 0 73 2 _ _ _ from own_ext Owc.out (by obtain ⟨p, rfl⟩ := hw'; exact p.ext))
          clear hw' k0 k2
          obtain ⟨d0, d1⟩ := DX.out _ Xwd.out
          go_wp2_with (at_builtin; go_must (refine wpList_put_row rfl (.tmp 38) (.tmp 43) rfl ⟨ky, vl⟩ rfl rfl Owd.out K2.out Xwd.out (by omega) ?_); intro g1 cap1 w1 hown' hg hx1; have O1 := Lib.hid hown'; have N1 : Hid (∀ j, (Value.slice (some ⟨g1, 0, none⟩) (acc.length + 1) cap1).ownBlock = some j → wx.heap.size ≤ j) := Lib.hid (fun j e => by cases e; exact hg); have X1 := Lib.hid hx1; clear hown' hg hx1)
          go_roundw
          case rel => exact ⟨k + 1, false, acc ++ [⟨ky, vl⟩], by omega, by go_num, rfl, by rw [KW.out, wg_lt H1.out]; simp, by have := KL.out; simp at this ⊢; omega, O1.out, N1.out, X1.out⟩
          case measure => simp [intOf]; omega
        · go_wp2_with fail
          obtain ⟨c0, c1⟩ := CX.out _ K3.out; obtain ⟨d0, d1⟩ := DX.out _ K3.out
          have k0 := ExtBy.cell c0; have k2 := ExtBy.cell d0
          clear c0 c1 d0 d1
          refine wp_region_ext (by kernel_rfl) (by kernel_rfl) ?_
          repeat (go_big_quiet_step (fail))
          refine wpQuiet_nil ?_
          intro wc hw'
          have Xwc : Hid (Ext wx wc) := Lib.hid (by obtain ⟨p, rfl⟩ := hw'; exact Ext.trans K3.out p.ext)
          have Owc := Lib.hid (show wc.ownsRow 0 73 2 _ _ _ from own_ext K1.out (by obtain ⟨p, rfl⟩ := hw'; exact p.ext))
          clear hw' k0 k2
          go_wp2_with fail
          obtain ⟨c0, c1⟩ := CX.out _ Xwc.out; obtain ⟨d0, d1⟩ := DX.out _ Xwc.out
          have k0 := ExtBy.cell c0; have k2 := ExtBy.cell d0
          clear c0 c1 d0 d1
          refine wp_region_ext (by kernel_rfl) (by kernel_rfl) ?_
          repeat (go_big_quiet_step (fail))
          refine wpQuiet_nil ?_
          intro wd hw'
          have Xwd : Hid (Ext wx wd) := Lib.hid (by obtain ⟨p, rfl⟩ := hw'; exact Ext.trans Xwc.out p.ext)
          have Owd := Lib.hid (show wd.ownsRow 0 73 2 _ _ _ from own_ext Owc.out (by obtain ⟨p, rfl⟩ := hw'; exact p.ext))
          clear hw' k0 k2
          obtain ⟨d0, d1⟩ := DX.out _ Xwd.out
          go_wp2_with (at_builtin; go_must (refine wpList_put_row rfl (.tmp 38) (.tmp 43) rfl ⟨ky, vl⟩ rfl rfl Owd.out K2.out Xwd.out (by omega) ?_); intro g1 cap1 w1 hown' hg hx1; have O1 := Lib.hid hown'; have N1 : Hid (∀ j, (Value.slice (some ⟨g1, 0, none⟩) (acc.length + 1) cap1).ownBlock = some j → wx.heap.size ≤ j) := Lib.hid (fun j e => by cases e; exact hg); have X1 := Lib.hid hx1; clear hown' hg hx1)
          go_roundw
          case rel => exact ⟨k + 1, true, acc ++ [⟨ky, vl⟩], by omega, by go_num, rfl, by rw [KW.out, wg_tne H2.out]; simp, by have := KL.out; simp at this ⊢; omega, O1.out, N1.out, X1.out⟩
          case measure => simp [intOf]; omega
      · have e1 : decide (ky.data.toList < key.data.toList) = false := decide_eq_false h1
        rw [e1] at hbl
        have g2 := EQ.out _ _ h2
        have g3 : (ky.toList != key.toList) = false := by rw [bne, g2]; rfl
        have H1 := Lib.hid h1; have H2 := Lib.hid h2; clear h1 h2 e1
        cases p
        · go_wp2_with fail
          obtain ⟨c0, c1⟩ := CX.out _ K3.out; obtain ⟨d0, d1⟩ := DX.out _ K3.out
          have k0 := ExtBy.cell c0; have k2 := ExtBy.cell d0
          clear c0 c1 d0 d1
          refine wp_region_ext (by kernel_rfl) (by kernel_rfl) ?_
          repeat (go_big_quiet_step (fail))
          refine wpQuiet_nil ?_
          intro wc hw'
          have Xwc : Hid (Ext wx wc) := Lib.hid (by obtain ⟨p, rfl⟩ := hw'; exact Ext.trans K3.out p.ext)
          have Owc := Lib.hid (show wc.ownsRow 0 73 2 _ _ _ from own_ext K1.out (by obtain ⟨p, rfl⟩ := hw'; exact p.ext))
          clear hw' k0 k2
          obtain ⟨c0, c1⟩ := CX.out _ Xwc.out
          go_wp2_with (at_builtin; go_must (refine wpList_put_row rfl (.tmp 26) (.tmp 28) rfl ⟨key, val⟩ rfl rfl Owc.out K2.out Xwc.out (by omega) ?_); intro g1 cap1 w1 hown' hg hx1; have O1 := Lib.hid hown'; have N1 : Hid (∀ j, (Value.slice (some ⟨g1, 0, none⟩) (acc.length + 1) cap1).ownBlock = some j → wx.heap.size ≤ j) := Lib.hid (fun j e => by cases e; exact hg); have X1 := Lib.hid hx1; clear hown' hg hx1)
          clear c0 c1
          obtain ⟨c0, c1⟩ := CX.out _ X1.out; obtain ⟨d0, d1⟩ := DX.out _ X1.out
          have k0 := ExtBy.cell c0; have k2 := ExtBy.cell d0
          clear c0 c1 d0 d1
          refine wp_region_ext (by kernel_rfl) (by kernel_rfl) ?_
          repeat (go_big_quiet_step (fail))
          refine wpQuiet_nil ?_
          intro wd hw'
          have Xwd : Hid (Ext wx wd) := Lib.hid (by obtain ⟨p, rfl⟩ := hw'; exact Ext.trans X1.out p.ext)
          have Owd := Lib.hid (show wd.ownsRow 0 73 2 _ _ _ from own_ext O1.out (by obtain ⟨p, rfl⟩ := hw'; exact p.ext))
          clear hw' k0 k2
          go_wp2_with fail
          go_roundw
          case rel => exact ⟨k + 1, true, acc ++ [⟨key, val⟩], by omega, by go_num, rfl, by rw [KW.out, wg_eq H2.out]; simp, by have := KL.out; simp at this ⊢; omega, Owd.out, N1.out, Xwd.out⟩
          case measure => simp [intOf]; omega
        · go_wp2_with fail
          obtain ⟨c0, c1⟩ := CX.out _ K3.out; obtain ⟨d0, d1⟩ := DX.out _ K3.out
          have k0 := ExtBy.cell c0; have k2 := ExtBy.cell d0
          clear c0 c1 d0 d1
          refine wp_region_ext (by kernel_rfl) (by kernel_rfl) ?_
          repeat (go_big_quiet_step (fail))
          refine wpQuiet_nil ?_
          intro wc hw'
          have Xwc : Hid (Ext wx wc) := Lib.hid (by obtain ⟨p, rfl⟩ := hw'; exact Ext.trans K3.out p.ext)
          have Owc := Lib.hid (show wc.ownsRow 0 73 2 _ _ _ from own_ext K1.out (by obtain ⟨p, rfl⟩ := hw'; exact p.ext))
          clear hw' k0 k2
          go_wp2_with fail
          obtain ⟨c0, c1⟩ := CX.out _ Xwc.out; obtain ⟨d0, d1⟩ := DX.out _ Xwc.out
          have k0 := ExtBy.cell c0; have k2 := ExtBy.cell d0
          clear c0 c1 d0 d1
          refine wp_region_ext (by kernel_rfl) (by kernel_rfl) ?_
          repeat (go_big_quiet_step (fail))
          refine wpQuiet_nil ?_
          intro wd hw'
          have Xwd : Hid (Ext wx wd) := Lib.hid (by obtain ⟨p, rfl⟩ := hw'; exact Ext.trans Xwc.out p.ext)
          have Owd := Lib.hid (show wd.ownsRow 0 73 2 _ _ _ from own_ext Owc.out (by obtain ⟨p, rfl⟩ := hw'; exact p.ext))
          clear hw' k0 k2
          go_wp2_with fail
          go_roundw
          case rel => exact ⟨k + 1, true, acc, by omega, by go_num, rfl, by rw [KW.out, wg_teq H2.out], by have := KL.out; simp at this ⊢; omega, Owd.out, K2.out, Xwd.out⟩
          case measure => simp [intOf]; omega
      · have e1 : decide (ky.data.toList < key.data.toList) = false := decide_eq_false h1
        rw [e1] at hbl
        have g2 := NE.out _ _ h2
        have g3 : (ky.toList != key.toList) = true := by rw [bne, g2]; rfl
        have H1 := Lib.hid h1; have H2 := Lib.hid h2; clear h1 h2 e1
        cases p
        · go_wp2_with fail
          obtain ⟨c0, c1⟩ := CX.out _ K3.out; obtain ⟨d0, d1⟩ := DX.out _ K3.out
          have k0 := ExtBy.cell c0; have k2 := ExtBy.cell d0
          clear c0 c1 d0 d1
          refine wp_region_ext (by kernel_rfl) (by kernel_rfl) ?_
          repeat (go_big_quiet_step (fail))
          refine wpQuiet_nil ?_
          intro wc hw'
          have Xwc : Hid (Ext wx wc) := Lib.hid (by obtain ⟨p, rfl⟩ := hw'; exact Ext.trans K3.out p.ext)
          have Owc := Lib.hid (show wc.ownsRow 0 73 2 _ _ _ from own_ext K1.out (by obtain ⟨p, rfl⟩ := hw'; exact p.ext))
          clear hw' k0 k2
          obtain ⟨c0, c1⟩ := CX.out _ Xwc.out
          go_wp2_with (at_builtin; go_must (refine wpList_put_row rfl (.tmp 26) (.tmp 28) rfl ⟨key, val⟩ rfl rfl Owc.out K2.out Xwc.out (by omega) ?_); intro g1 cap1 w1 hown' hg hx1; have O1 := Lib.hid hown'; have N1 : Hid (∀ j, (Value.slice (some ⟨g1, 0, none⟩) (acc.length + 1) cap1).ownBlock = some j → wx.heap.size ≤ j) := Lib.hid (fun j e => by cases e; exact hg); have X1 := Lib.hid hx1; clear hown' hg hx1)
          clear c0 c1
          obtain ⟨c0, c1⟩ := CX.out _ X1.out; obtain ⟨d0, d1⟩ := DX.out _ X1.out
          have k0 := ExtBy.cell c0; have k2 := ExtBy.cell d0
          clear c0 c1 d0 d1
          refine wp_region_ext (by kernel_rfl) (by kernel_rfl) ?_
          repeat (go_big_quiet_step (fail))
          refine wpQuiet_nil ?_
          intro wd hw'
          have Xwd : Hid (Ext wx wd) := Lib.hid (by obtain ⟨p, rfl⟩ := hw'; exact Ext.trans X1.out p.ext)
          have Owd := Lib.hid (show wd.ownsRow 0 73 2 _ _ _ from own_ext O1.out (by obtain ⟨p, rfl⟩ := hw'; exact p.ext))
          clear hw' k0 k2
          obtain ⟨d0, d1⟩ := DX.out _ Xwd.out
          go_wp2_with (at_builtin; go_must (refine wpList_put_row rfl (.tmp 38) (.tmp 43) rfl ⟨ky, vl⟩ rfl rfl Owd.out N1.out Xwd.out (by simp; omega) ?_); intro g2 cap2 w2 hown' hg hx1; have O2 := Lib.hid hown'; have N2 : Hid (∀ j, (Value.slice (some ⟨g2, 0, none⟩) ((acc ++ [(⟨key, val⟩ : RowD)]).length + 1) cap2).ownBlock = some j → wx.heap.size ≤ j) := Lib.hid (fun j e => by cases e; exact hg); have X2 := Lib.hid hx1; clear hown' hg hx1)
          go_roundw
          case rel => exact ⟨k + 1, true, (acc ++ [⟨key, val⟩]) ++ [⟨ky, vl⟩], by omega, by go_num, rfl, by rw [KW.out, wg_gt H1.out H2.out]; simp, by have := KL.out; simp at this ⊢; omega, by simpa using O2.out, fun j e => by cases e; exact N2.out g2 rfl, X2.out⟩
          case measure => simp [intOf]; omega
        · go_wp2_with fail
          obtain ⟨c0, c1⟩ := CX.out _ K3.out; obtain ⟨d0, d1⟩ := DX.out _ K3.out
          have k0 := ExtBy.cell c0; have k2 := ExtBy.cell d0
          clear c0 c1 d0 d1
          refine wp_region_ext (by kernel_rfl) (by kernel_rfl) ?_
          repeat (go_big_quiet_step (fail))
          refine wpQuiet_nil ?_
          intro wc hw'
          have Xwc : Hid (Ext wx wc) := Lib.hid (by obtain ⟨p, rfl⟩ := hw'; exact Ext.trans K3.out p.ext)
          have Owc := Lib.hid (show wc.ownsRow 0 73 2 _ _ _ from own_ext K1.out (by obtain ⟨p, rfl⟩ := hw'; exact p.ext))
          clear hw' k0 k2
          go_wp2_with fail
          obtain ⟨c0, c1⟩ := CX.out _ Xwc.out; obtain ⟨d0, d1⟩ := DX.out _ Xwc.out
          have k0 := ExtBy.cell c0; have k2 := ExtBy.cell d0
          clear c0 c1 d0 d1
          refine wp_region_ext (by kernel_rfl) (by kernel_rfl) ?_
          repeat (go_big_quiet_step (fail))
          refine wpQuiet_nil ?_
          intro wd hw'
          have Xwd : Hid (Ext wx wd) := Lib.hid (by obtain ⟨p, rfl⟩ := hw'; exact Ext.trans Xwc.out p.ext)
          have Owd := Lib.hid (show wd.ownsRow 0 73 2 _ _ _ from own_ext Owc.out (by obtain ⟨p, rfl⟩ := hw'; exact p.ext))
          clear hw' k0 k2
          obtain ⟨d0, d1⟩ := DX.out _ Xwd.out
          go_wp2_with (at_builtin; go_must (refine wpList_put_row rfl (.tmp 38) (.tmp 43) rfl ⟨ky, vl⟩ rfl rfl Owd.out K2.out Xwd.out (by omega) ?_); intro g1 cap1 w1 hown' hg hx1; have O1 := Lib.hid hown'; have N1 : Hid (∀ j, (Value.slice (some ⟨g1, 0, none⟩) (acc.length + 1) cap1).ownBlock = some j → wx.heap.size ≤ j) := Lib.hid (fun j e => by cases e; exact hg); have X1 := Lib.hid hx1; clear hown' hg hx1)
          go_roundw
          case rel => exact ⟨k + 1, true, acc ++ [⟨ky, vl⟩], by omega, by go_num, rfl, by rw [KW.out, wg_tne H2.out]; simp, by have := KL.out; simp at this ⊢; omega, O1.out, N1.out, X1.out⟩
          case measure => simp [intOf]; omega
    · have hdr : l.drop k = [] := List.drop_eq_nil_of_le (by omega)
      rw [hdr] at KW
      clear hdr
      cases p
      · go_wp2_with (at_builtin; go_must (refine wpList_put_row rfl (.tmp 47) (.tmp 49) rfl ⟨key, val⟩ rfl rfl K1.out K2.out K3.out (by omega) ?_); intro g cap2 w1 hown' hg hx1; have X1 := Lib.hid hown'; have X2 := Lib.hid hg; have X3 := Lib.hid hx1; clear hown' hg hx1)
        go_ret
        refine ⟨_, rfl, by rw [KW.out]; exact X1.out, fun j e => ?_, Ext.trans X0.out X3.out⟩
        cases e
        exact Nat.le_trans X0.out.size X2.out
      · go_wp2_with fail
        go_ret
        refine ⟨_, rfl, by rw [KW.out]; simpa [withGo] using K1.out, fun j e => Nat.le_trans X0.out.size (K2.out j e), Ext.trans X0.out K3.out⟩
end Go.Proofs.YtngahblgicjoiaaGreatDoor
/- The document's done: a step done upon rows. -/
namespace Go.Proofs.YtngahblgicjoiaaGreatDoor
open Go.RowKit

theorem blk_one_ne {w : World} {rb b off : Nat} {v : Value} {t : TypeId} {s : ByteArray} (h : Blk w rb [v] t) (hv : v ≠ .string s) (hc : w.cell? ⟨b, off, none⟩ = some (.string s)) : b ≠ rb := by
  intro e; subst e
  unfold World.cell? at hc
  rw [show w.heap[b]? = _ from h] at hc
  cases off with
  | zero => simp at hc; exact hv hc
  | succ n => simp at hc
/-- Amid done: the first k keys' acts are done. -/
structure DoneMid (w1 : World) (B rb mb : Nat) (acts : List ActD) (rows : List RowD) (ks : List Txt) (k : Nat) (wr : World) : Prop where
  out : ∃ v, Blk wr rb [v] 185 ∧ wr.ownsRow B 73 2 v (doneAt acts rows (ks.take k)).1.length ((doneAt acts rows (ks.take k)).1.flatMap encRw) ∧ ToldAt (fun b => b = rb) wr mb k (doneAt acts rows (ks.take k)).2 ∧ But (fun j => j = rb ∨ j = mb) w1 wr

set_option maxRecDepth 100000 in
set_option maxHeartbeats 3200000 in
theorem refDone_calls (rows : List RowD) (ro : Option Addr) (rcap : Nat) (z : StepZ) (w : World) (hrl : rows.length ≤ 90000) (hr : Rows 2 encRw w.heap.size w ro rows) (hok : ∀ r ∈ rows, r.ok) (hrise : RiseR rows) (hz : z.at w.heap.size w) (hd : z.d.ok) (hk3 : kinds3 z.d.acts) (hal : z.d.acts.length ≤ 1000) :
    Calls Tryz.prog 60 #[.slice ro rows.length rcap, .agg (encStep z).toArray] w (DoPPost w (doneD rows z.d.acts)) := by
  obtain ⟨⟨cl, nm, acts, reads, ca, an⟩, ao, ac, so, sc⟩ := z
  obtain ⟨hza, -⟩ := hz
  have hacts := hd.acts
  simp only at hza hacts hk3 hal ⊢
  unfold encStep
  simp only
  have hmm := @run_makeMap Tryz.prog
  have HR := Lib.hid hr; have HOK := Lib.hid hok; have HRI := Lib.hid hrise; have HA := Lib.hid hza; have HAO := Lib.hid hacts; have HK := Lib.hid hk3
  clear hr hok hrise hza hacts hk3 hd
  obtain ⟨wA, hwA⟩ : ∃ wA, wA = w.alloc (.cells #[.int .i64 cl, .int .i64 nm, .slice ao acts.length ac, .slice so reads.length sc, .int .i64 ca, .int .i64 an] 44) := ⟨_, rfl⟩
  have bx : Blk wA w.heap.size [.int .i64 cl, .int .i64 nm, .slice ao acts.length ac, .slice so reads.length sc, .int .i64 ca, .int .i64 an] 44 := by rw [hwA]; exact Blk.new w _ _
  have XA : Hid (Ext w wA) := Lib.hid (by rw [hwA]; exact (Below.refl _ w).alloc (Nat.le_refl _) _)
  have hsA : w.heap.size + 1 ≤ wA.heap.size := by rw [hwA]; simp
  have WA := Lib.hid hwA; have BX := Lib.hid bx
  have CL := Lib.hid (copyLines_calls rows ro rcap wA (by omega) ((HR.out.ext XA.out).mono XA.out.size))
  clear hwA bx
  go_enter Tryz.func60, Tryz.ntmps60
  go_wp2_with fail
  rw [← WA.out]
  refine CL.out.mono ?_
  rintro e w1 ⟨v, rfl, hv, hn, hx1⟩
  obtain ⟨vo, vc, rfl, -, -, -⟩ := Rows.own (enc := encRw) (sz := 2) (fun _ => rfl) hv
  obtain ⟨rb, hrb⟩ : ∃ rb, rb = w1.heap.size := ⟨_, rfl⟩
  obtain ⟨w2, hw2⟩ : ∃ w2, w2 = w1.alloc (.cells #[.slice vo rows.length vc] 185) := ⟨_, rfl⟩
  have hx12 : Ext w1 w2 := by rw [hw2]; exact (Below.refl _ w1).alloc (Nat.le_refl _) _
  have R2 : Hid (Blk w2 rb [.slice vo rows.length vc] 185) := Lib.hid (by rw [hw2, hrb]; exact Blk.new w1 _ _)
  have V2 : Hid (w2.ownsRow w.heap.size 73 2 (.slice vo rows.length vc) rows.length (rows.flatMap encRw)) := Lib.hid (own_ext (own_base hv fun k e => by have := hn k e; omega) hx12)
  have X2 : Hid (Ext w w2) := Lib.hid (Ext.trans XA.out (Ext.trans hx1 hx12))
  have hbx2 : Blk w2 w.heap.size [.int .i64 cl, .int .i64 nm, .slice ao acts.length ac, .slice so reads.length sc, .int .i64 ca, .int .i64 an] 44 := BX.out.ext' (Ext.trans hx1 hx12)
  have B2 := Lib.hid hbx2
  have c2 : (w1.alloc (.cells #[.slice vo rows.length vc] 185)).cell? ⟨w.heap.size, 2, none⟩ = some (.slice ao acts.length ac) := by rw [← hw2]; exact hbx2.cell 2
  have W2 := Lib.hid hw2; have RB := Lib.hid hrb
  have hrbw : w.heap.size + 1 ≤ rb := by have := hx1.size; omega
  have KY := Lib.hid (refKeys_calls acts ao ac w2 (by omega) ((HA.out.ext X2.out).mono X2.out.size))
  clear hv hn hx1 hw2 hbx2 hx12 hrb
  go_wp2_with fail
  rw [← W2.out, ← RB.out]
  clear c2
  obtain ⟨ks, hks⟩ : ∃ ks, ks = keysL acts := ⟨_, rfl⟩
  rw [← hks] at KY
  have hkl : ks.length ≤ acts.length := by rw [hks]; exact keysL_len acts
  have KZ : Hid (∀ k ∈ ks, k.length ≤ 140737488351232) := Lib.hid (by rw [hks]; exact keysL_size HAO.out)
  have HKS := Lib.hid hks
  clear hks
  refine KY.out.mono ?_
  rintro e w3 ⟨ko, kcap, rfl, hkr, hx3⟩
  have hm4 := ToldAt.made (fun b => b = rb) w3
  have hx4 : Ext w3 (w3.alloc (.map #[] 0)) := (Below.refl _ w3).alloc (Nat.le_refl _) _
  obtain ⟨w4, hw4⟩ : ∃ w4, w4 = w3.alloc (.map #[] 0) := ⟨_, rfl⟩
  have hmb : w3.heap.size < w4.heap.size := by rw [hw4]; simp
  rw [← hw4] at hm4 hx4
  have X24 := Lib.hid (Ext.trans hx3 hx4)
  have W4 := Lib.hid hw4; have M4 := Lib.hid hm4
  have R4 := Lib.hid (R2.out.ext' X24.out); have V4 := Lib.hid (own_ext V2.out X24.out); have B4 := Lib.hid (B2.out.ext' X24.out)
  have KR : Hid (NRows 1 encT (fun b => b = rb) w4 ko ks) := Lib.hid (by
    intro hne
    obtain ⟨b, off, rfl, hb', hc⟩ := hkr hne
    refine ⟨b, off, rfl, Nat.lt_of_lt_of_le hb' hx4.size, ?_, fun i x hi j u hj => (hx4.cell (p := ⟨b, _, none⟩) hb').trans (hc i x hi j u hj)⟩
    obtain ⟨x, xs, rfl⟩ := List.exists_cons_of_ne_nil hne
    have h1 := hc 0 x rfl 0 _ rfl
    exact blk_one_ne (R2.out.ext' hx3) (by intro e; cases e) h1)
  have h34 : rb + 1 ≤ w3.heap.size := Nat.le_trans (by have := R2.out.lt; omega) hx3.size
  clear hkr hx3 hw4 hm4 hx4 KY R2 V2 B2 CL
  go_wp2_with fail
  rw [← W4.out]
  go_loopw [9] (fun i wr => ∃ k : Nat, k ≤ ks.length ∧ i = .int .i64 k ∧ DoneMid w4 w.heap.size rb w3.heap.size acts rows ks k wr) (fun i _ => ks.length - (intOf i).toNat)
  case atStart => exact ⟨0, by omega, rfl, _, R4.out, V4.out, M4.out, But.refl _ _⟩
  case round =>
    obtain ⟨k, hk, rfl, hmid⟩ := hrel
    obtain ⟨v1, hb1, hv1, hM1, hB1⟩ := hmid.out
    have R1 := Lib.hid hb1; have V1 := Lib.hid hv1; have M1 := Lib.hid hM1; have B1 := Lib.hid hB1
    have hbel : Below w.heap.size w wr := Below.trans (Below.trans X2.out (Below.mono X24.out X2.out.size)) (hB1.below (Nat.le_trans X2.out.size X24.out.size) (fun i e => by rcases e with e | e <;> omega))
    have X1 := Lib.hid hbel
    have hbx1 : Blk wr w.heap.size [.int .i64 cl, .int .i64 nm, .slice ao acts.length ac, .slice so reads.length sc, .int .i64 ca, .int .i64 an] 44 := B4.out.but hB1 (fun e => by rcases e with e | e <;> omega)
    have BX1 := Lib.hid hbx1
    clear hmid hb1 hv1 hM1 hB1 hbel hbx1
    have hmbn : ∀ j, (v1 : Value).ownBlock = some j → j ≠ w3.heap.size := fun j e e2 => by
      subst e2
      exact own_noCells V1.out M1.out.noCells e
    by_cases hlt : k < ks.length
    · obtain ⟨kt, hkt⟩ : ∃ kt, ks[k]? = some kt := ⟨_, List.getElem?_eq_getElem hlt⟩
      have NR2 : NRows 1 encT (fun b => b = rb) wr ko ks := KR.out.step B1.out (fun b _ e => by
        rcases e with e | e
        · exact .inl e
        · rw [e]; exact .inr M4.out.noCells) (fun _ _ e => e)
      obtain ⟨b, off, rfl, hb', hnob, hcell⟩ := NR2 (by intro e; rw [e] at hlt; simp at hlt)
      have c0 := hcell k kt hkt 0 _ rfl
      simp only [Nat.mul_one, Nat.add_zero, Proofs.encStr] at c0
      have hsucc : ks.take (k + 1) = ks.take k ++ [kt] := by rw [List.take_add_one, hkt]; rfl
      have hdn : doneAt acts rows (ks.take (k + 1)) = doneKey acts (doneAt acts rows (ks.take k)) kt := by rw [hsucc, doneAt_snoc]
      obtain ⟨hpok, hplen⟩ := doneAt_ok (rows := rows) HAO.out HOK.out k (ks.take k) (by rw [List.length_take]; omega) (fun x hx => KZ.out x (List.mem_of_mem_take hx))
      have hprise := doneAt_rise (acts := acts) HRI.out k (ks.take k) (by rw [List.length_take]; omega)
      have hkz := KZ.out kt (List.mem_of_getElem? hkt)
      obtain ⟨p, hp⟩ : ∃ p, doneAt acts rows (ks.take k) = p := ⟨_, rfl⟩
      rw [hp] at V1 M1 hdn hpok hplen hprise
      obtain ⟨key, hkey, hkey2, hkey3⟩ : ∃ key : ByteArray, key = ⟨kt.toArray⟩ ∧ key.data.toList = kt ∧ key.size = kt.length := ⟨_, rfl, rfl, by simp [ByteArray.size]⟩
      rw [← hkey] at c0
      have SU := Lib.hid hdn; have KE := Lib.hid hkey; have KE2 := Lib.hid hkey2; have PR := Lib.hid hprise
      have hkz2 : key.size ≤ 140737488351232 := by rw [hkey3]; exact hkz
      obtain ⟨ao1, cap1, rfl, -, -, hrow1⟩ := Rows.own (enc := encRw) (sz := 2) (fun _ => rfl) V1.out
      have hkb : b ≠ w3.heap.size := M1.out.noCells.ne c0
      have FK : Hid (∀ W, But (fun j => j = w3.heap.size) wr W → W.cell? ⟨b, off + k, none⟩ = some (.string key) ∧ W.cell? ⟨w.heap.size, 2, none⟩ = some (.slice ao acts.length ac) ∧ Blk W rb [.slice ao1 p.1.length cap1] 185 ∧ W.ownsRow w.heap.size 73 2 (.slice ao1 p.1.length cap1) p.1.length (p.1.flatMap encRw) ∧ Rows 4 encAct W.heap.size W ao acts) := Lib.hid (fun W hW => by
        have hx : Below w.heap.size w W := Below.trans X1.out (hW.below X1.out.size (fun i e => by rw [e]; omega))
        exact ⟨(hW.cell (p := ⟨b, _, none⟩) hb' hkb).trans c0, ((BX1.out.but hW (by omega)).cell 2), R1.out.but hW (by omega), own_but V1.out hW (fun j e e2 => hmbn j e e2), (HA.out.ext hx).mono hx.size⟩)
      obtain ⟨k0, a2, hrb, -, -⟩ := FK.out wr (But.refl _ _)
      have GC := Lib.hid (refGet_calls p.1 rb ao1 cap1 key wr (by omega) hrb (rows_of_own (fun _ => rfl) V1.out) hprise)
      rw [hkey2] at GC
      obtain ⟨is, his⟩ : ∃ is, (getR kt p.1).isSome = is := ⟨_, rfl⟩
      obtain ⟨va, hva⟩ : ∃ va, (getR kt p.1).getD noBytes = va := ⟨_, rfl⟩
      have hvz : va.size ≤ 140737488351232 := by rw [← hva]; exact getR_ok hpok
      rw [his, hva] at GC
      have hst : keySt acts p.1 kt = doRes is va (ofL kt acts) := by unfold keySt doRes; rw [his, hva]
      have ST := Lib.hid hst
      have i0 : (0 : Int) ≤ (k : Int) := by omega
      have i1 : (k : Int) < (ks.length : Int) := by omega
      have hrbl := R1.out.lt
      have KBN : Hid (b ≠ rb) := Lib.hid hnob
      clear hkt NR2 hcell hsucc hdn hprise hkz hkey hkey2 hkey3 hrow1 his hva hst hp hpok hrb c0 hkb hb' hmbn hnob
      go_wp2_with fail
      refine GC.out.mono ?_
      rintro e wa ⟨rfl, hxa⟩
      have YA := Lib.hid hxa; clear hxa k0 a2
      obtain ⟨k0, a2, -, -, hra⟩ := FK.out wa (Ext.but YA.out _)
      clear hra
      have n0 := ExtBy.cell k0; have n2 := ExtBy.cell a2
      clear k0 a2
      go_wp2_with fail
      refine wp_region_firstC (fun W => ∃ p : ExtBy wa, W = p.W) [0, 1, 2, 3, 4, 5, 6, 7] 9 (by kernel_rfl) (by kernel_rfl) (fun _ _ _ _ h => h) ⟨⟨wa.drew, (Below.refl _ wa).drew⟩, rfl⟩ ?_
      simp only [opsAt, List.getElem?_toArray, List.getElem?_cons_succ, List.getElem?_cons_zero]
      repeat (go_big_quiet_step (fail))
      refine wpQuiet_nil ?_
      obtain ⟨wq, hwq⟩ : ∃ wq, wq = wa.drew := ⟨_, rfl⟩
      have hxq : Ext wa wq := by rw [hwq]; exact (Below.refl _ wa).drew
      rw [← hwq]
      have XQ := Lib.hid hxq
      obtain ⟨-, -, -, -, hra⟩ := FK.out wq (Ext.but (Ext.trans YA.out hxq) _)
      have OC := Lib.hid (refOf_calls key acts ao ac wq (by omega) hra)
      rw [KE2.out] at OC
      clear hwq hxq hra n0 n2
      refine wpAnyH_ready (rs := [8]) (by kernel_rfl) (by simp) ?_
      refine AllReadyH.cons rfl (fun K hK => ?_) AllReadyH.nil
      go_simp
      refine OC.out.mono ?_
      rintro e wb ⟨ov, rfl, hov, -, hxb⟩
      obtain ⟨oa, ocap, rfl, hor⟩ := own_slice3 hov
      have XB := Lib.hid (Ext.trans XQ.out hxb)
      have YB := Lib.hid (Ext.trans YA.out (Ext.trans XQ.out hxb))
      have hof := ofL_len kt acts
      have DC := Lib.hid (refDo_calls is va (ofL kt acts) oa ocap wb (by omega) hvz (fun a ha => HAO.out a (List.mem_filter.1 ha).1) hor)
      clear hov hor hxb hof
      refine hK.out _ _ ⟨⟨_, XB.out⟩, rfl⟩ (fun _ => ?_)
      clear hK K
      refine wpAnyH_ready (rs := [9]) (by kernel_rfl) (by simp) ?_
      refine AllReadyH.cons rfl (fun K hK => ?_) AllReadyH.nil
      go_simp
      refine DC.out.mono ?_
      rintro e wc ⟨rv, rfl, hrv, hrn, hxc⟩
      obtain ⟨ra, rcap', rfl, hcl, -, hrr⟩ := Rows.own (enc := encRd) (sz := 3) (fun _ => rfl) hrv
      have XC := Lib.hid (Ext.trans XB.out hxc)
      have YC := Lib.hid (Ext.trans YB.out hxc)
      refine hK.out _ _ ⟨⟨_, XC.out⟩, rfl⟩ (fun _ => ?_)
      clear hK K
      refine wp_takesC (f := 0) [10, 11, 12, 13, 14, 15, 16] (by kernel_rfl) (fun _ _ _ _ h => h) ⟨⟨_, XC.out⟩, rfl⟩ ?_
      simp only [opsAt, List.getElem?_toArray, List.getElem?_cons_succ, List.getElem?_cons_zero]
      repeat (go_big_quiet_step (fail))
      refine wpQuiet_nil ?_
      refine wpAnyH_done (by kernel_rfl) ?_ _
      have hr4 : NRows 3 encRd (fun b => b = rb) wc ra (doRes is va (ofL kt acts)).reads := nrows_of_own (fun _ => rfl) hrv (fun j e e2 => by
        have := hrn j e
        have := YB.out.size
        omega)
      obtain ⟨wd, hrun, hTd, hBd⟩ := (M1.out.ext YC.out).put (by omega) key hkz2 _ ra rcap' hcl hr4
      rw [KE2.out] at hTd
      have TD := Lib.hid hTd
      have YD := Lib.hid (But.trans (Ext.but YC.out (fun _ => False)) hBd (U := fun j => j = w3.heap.size) (fun _ _ e => e.elim) (fun _ _ e => e))
      obtain ⟨k0, -, -, -, -⟩ := FK.out wc (Ext.but YC.out _)
      clear hrv hrn hrr hxc hr4 hcl hTd hBd
      obtain ⟨R, hR⟩ : ∃ R, doRes is va (ofL kt acts) = R := ⟨_, rfl⟩
      obtain ⟨av, hav⟩ : ∃ av, doAfter is va (ofL kt acts) = av := ⟨_, rfl⟩
      have hav2 : R.put = true → av = R.value := fun e => by rw [← hav]; unfold doAfter; rw [hR, if_pos e]
      rw [hR, hav]
      rw [hR] at ST TD hrun
      have AV := Lib.hid hav2
      clear hav hav2 hR
      have BD := Lib.hid (B1.out.trans YD.out (U := fun j => j = rb ∨ j = w3.heap.size) (fun _ _ e => e) (fun _ _ e => .inr e))
      cases hput : R.put
      · have HP := Lib.hid hput; clear hput
        go_wp2_with fail
        go_roundw
        case rel =>
          have hk1 : (doneKey acts p kt).1 = p.1 := by unfold doneKey; rw [ST.out, HP.out]; simp
          have hk2 : ∀ x, (if x = kt then R.reads else p.2 x) = (doneKey acts p kt).2 x := fun x => by unfold doneKey; rw [ST.out]
          obtain ⟨-, -, q1, q2, -⟩ := FK.out wd YD.out
          refine ⟨k + 1, by omega, by go_num, ⟨_, q1, ?_, ?_, BD.out⟩⟩
          · rw [SU.out, hk1]; exact q2
          · rw [SU.out]; exact TD.out.congr hk2
        case measure => simp [intOf]; omega
      · have HP := Lib.hid hput; clear hput
        obtain ⟨k1, -, q1, q2, -⟩ := FK.out wd YD.out
        have h0 := q1.cell 0
        simp only [List.getElem?_cons_zero] at h0
        have Q1 := Lib.hid q1; have Q2 := Lib.hid (rows_of_own (enc := encRw) (sz := 2) (fun _ => rfl) q2)
        clear q1 q2
        have kb := KBN.out
        have n1 : ∀ p : ButBy (fun j => j = rb) wd, p.W.cell? ⟨b, off + k, none⟩ = some (.string key) := ButBy.cell k1 kb
        have DB : Hid (But (fun j => j = rb) wd wd.drew) := Lib.hid (But.refl _ wd).drew
        clear h0 k1 kb
        go_wp2_with fail
        refine wp_region_firstC (fun W => ∃ p : ButBy (fun j => j = rb) wd, W = p.W) [0, 1, 2, 3, 5, 6, 7, 8, 9, 10] 5 (by kernel_rfl) (by kernel_rfl) (fun _ _ _ _ h => h) ⟨⟨wd.drew, DB.out⟩, rfl⟩ ?_
        simp only [opsAt, List.getElem?_toArray, List.getElem?_cons_succ, List.getElem?_cons_zero]
        repeat (go_big_quiet_step (fail))
        refine wpQuiet_nil ?_
        obtain ⟨wq, hwq⟩ : ∃ wq, wq = wd.drew := ⟨_, rfl⟩
        have XQ : Hid (Ext wd wq) := Lib.hid (by rw [hwq]; exact (Below.refl _ wd).drew)
        rw [← hwq]
        have WC := Lib.hid (with_calls p.1 ⟨key, av⟩ ao1 cap1 wq (by omega) ((Q2.out.ext XQ.out).mono XQ.out.size))
        unfold encRw at WC
        have h0 := (Q1.out.ext' XQ.out).cell 0
        simp only [List.getElem?_cons_zero] at h0
        clear hwq n1
        refine wpAnyH_ready (rs := [4]) (by kernel_rfl) (by simp) ?_
        refine AllReadyH.cons rfl (fun K hK => ?_) AllReadyH.nil
        go_simp
        refine hK.out _ _ ⟨⟨_, Ext.but XQ.out _⟩, rfl⟩ (fun _ => ?_)
        clear hK K
        refine wpAnyH_ready (rs := [11]) (by kernel_rfl) (by simp) ?_
        refine AllReadyH.cons rfl (fun K hK => ?_) AllReadyH.nil
        go_simp
        refine WC.out.mono ?_
        rintro e we ⟨v2, rfl, hv2, hn2, hxe⟩
        obtain ⟨wl, hwl⟩ : ∃ wl, wl = withGo ⟨key, av⟩ false p.1 := ⟨_, rfl⟩
        rw [← hwl] at hv2
        obtain ⟨s2, t2, rfl, -, -, -⟩ := Rows.own (enc := encRw) (sz := 2) (fun _ => rfl) hv2
        have WL := Lib.hid hwl
        clear hwl
        have h0' := ((Q1.out.ext' XQ.out).ext' hxe).cell 0; have f0' := ((Q1.out.ext' XQ.out).ext' hxe).free 0
        simp only [List.getElem?_cons_zero] at h0'
        have V2 := Lib.hid hv2; have N2 := Lib.hid hn2; have YE := Lib.hid (Ext.trans XQ.out hxe)
        refine hK.out _ _ ⟨⟨_, Ext.but YE.out _⟩, rfl⟩ (fun _ => ?_)
        clear hK K hv2 hn2 hxe h0
        refine wp_takesC (f := 1) [12, 13] (by kernel_rfl) (fun _ _ _ _ h => h) ⟨⟨_, Ext.but YE.out _⟩, rfl⟩ ?_
        simp only [opsAt, List.getElem?_toArray, List.getElem?_cons_succ, List.getElem?_cons_zero]
        repeat (go_big_quiet_step (fail))
        refine wpQuiet_nil ?_
        refine wpAnyH_ready (rs := [14]) (by kernel_rfl) (by simp) ?_
        refine AllReadyH.cons rfl (fun K hK => ?_) AllReadyH.nil
        go_simp
        have hbs : But (fun j => j = rb) wd (we.setCell ⟨rb, 0, none⟩ (.slice s2 wl.length t2)) := (Ext.but YE.out (fun j => j = rb)).setCell (p := ⟨rb, 0, none⟩) (fun _ => rfl) _
        refine hK.out _ _ ⟨⟨_, hbs⟩, rfl⟩ (fun _ => ?_)
        clear hbs
        clear hK K h0' f0'
        refine wpAnyH_done (by kernel_rfl) ?_ _
        go_wp2_with fail
        go_roundw
        case rel =>
          have hk1 : (doneKey acts p kt).1 = putR ⟨key, av⟩ p.1 := by unfold doneKey; rw [ST.out, HP.out, AV.out HP.out, KE.out]; simp
          have hk2 : ∀ x, (if x = kt then R.reads else p.2 x) = (doneKey acts p kt).2 x := fun x => by unfold doneKey; rw [ST.out]
          have hsz := YD.out.size; have hs1 := X1.out.size; have hs2 := YE.out.size; have hs5 := XQ.out.size; have hrl2 := R1.out.lt
          have hS : But (fun j => j = rb) we (we.setCell ⟨rb, 0, none⟩ (.slice s2 wl.length t2)) := (But.refl (fun j => j = rb) we).setCell (p := ⟨rb, 0, none⟩) (fun _ => rfl) _
          refine ⟨k + 1, by omega, by go_num, ⟨_, (Q1.out.ext' YE.out).set 0 _, ?_, ?_, ?_⟩⟩
          · rw [SU.out, hk1, ← with_put PR.out, ← WL.out]
            exact own_setOther (own_base V2.out (fun j e => by have := N2.out j e; omega)) (a := ⟨rb, 0, none⟩) (fun e => by have := N2.out _ e; simp only at this; omega) _
          · rw [SU.out]
            exact ((TD.out.ext YE.out).step hS (fun e => by omega) (fun b _ e => e) (fun _ _ e => e)).congr hk2
          · exact (BD.out.trans (Ext.but YE.out (fun _ => False)) (fun _ _ e => e) (fun _ _ e => e.elim)).trans hS (fun _ _ e => e) (fun _ _ e => .inl e)
        case measure => simp [intOf]; omega
    · obtain rfl : k = ks.length := by omega
      have hall : ks.take ks.length = ks := List.take_of_length_le (Nat.le_refl _)
      rw [hall] at V1 M1
      have hdk : doneAt acts rows ks = doneK rows acts := by rw [HKS.out]; rfl
      rw [hdk] at V1 M1
      obtain ⟨i0, hi, hz0, hz1, hz2⟩ := info_parts infoRd
      obtain ⟨wL, rfl⟩ : ∃ wL, wL = wr := ⟨_, rfl⟩
      obtain ⟨m, hm⟩ : ∃ m, (doneK rows acts).2 = m := ⟨_, rfl⟩
      have HM : Hid (∀ x, (m x).length = cntK x acts) := Lib.hid (fun x => by rw [← hm]; exact doneK_len HK.out rows x)
      rw [hm] at M1
      have TL : Hid (ToldAt (fun b => wL.heap.size ≤ b) wL w3.heap.size ks.length m) := Lib.hid (M1.out.step (But.refl (fun _ => False) wL) (fun e => e) (fun _ _ e => e.elim) (fun b hb3 e => by have e2 : wL.heap.size ≤ b := e; omega))
      have hml := M1.out.lt
      have HD : Hid (doneD rows acts = ((doneK rows acts).1, (tellAt m acts).1)) := Lib.hid (by unfold doneD; rw [hm])
      have FR : Hid (∀ W, But (fun j => j = w3.heap.size) wL W → W.cell? ⟨w.heap.size, 2, none⟩ = some (.slice ao acts.length ac) ∧ W.cell? ⟨rb, 0, none⟩ = some v1 ∧ Rows 4 encAct W.heap.size W ao acts) := Lib.hid (fun W hW => by
        have hx : Below w.heap.size w W := Below.trans X1.out (hW.below X1.out.size (fun i e => by rw [e]; omega))
        exact ⟨((BX1.out.but hW (by omega)).cell 2), ((R1.out.but hW (by omega)).cell 0), (HA.out.ext hx).mono hx.size⟩)
      obtain ⟨c2, -, -⟩ := FR.out wL (But.refl _ _)
      clear hall hdk hm
      go_wp2_with fail
      go_loopw [15, 16] (fun v i wr => ∃ (k : Nat), k ≤ acts.length ∧ i = .int .i64 k ∧ wr.ownsRow 0 78 3 v (tellAt m (acts.take k)).1.length ((tellAt m (acts.take k)).1.flatMap encRd) ∧ (∀ j, v.ownBlock = some j → wL.heap.size ≤ j) ∧ ToldAt (fun b => wL.heap.size ≤ b) wr w3.heap.size (ks.length + k) (tellAt m (acts.take k)).2 ∧ But (fun j => j = w3.heap.size) wL wr) (fun _ i _ => acts.length - (intOf i).toNat)
      case atStart => exact ⟨0, by omega, rfl, World.ownsRow_nil _ _ _ _, by simp [Value.ownBlock], TL.out, But.refl _ _⟩
      case round =>
        obtain ⟨k, hk, rfl, hown, hnew, htold, hx⟩ := hrel
        have K1 := Lib.hid hown; have K2 := Lib.hid hnew; have K3 := Lib.hid htold; have K4 := Lib.hid hx
        obtain ⟨c2, cv, hrows⟩ := FR.out wr hx
        clear hown hnew htold hx
        by_cases hlt : k < acts.length
        · obtain ⟨x, hx⟩ : ∃ x, acts[k]? = some x := ⟨_, List.getElem?_eq_getElem hlt⟩
          obtain ⟨b, off, rfl, hb, hcell⟩ := hrows (by intro e; rw [e] at hlt; simp at hlt)
          have hcx := hcell k x hx
          have AC : Hid (∀ W, But (fun j => j = w3.heap.size) wL W → W.cell? ⟨b, off + k * 4 + 1, none⟩ = some (.string x.key)) := Lib.hid (fun W hW => by
            obtain ⟨-, -, hr5⟩ := FR.out W hW
            obtain ⟨b5, off5, e5, -, hc5⟩ := hr5 (by intro e; rw [e] at hlt; simp at hlt)
            cases e5
            exact hc5 k x hx 1 _ rfl)
          have hsucc : tellAt m (acts.take (k + 1)) = tellAct (tellAt m (acts.take k)) x := by rw [List.take_add_one, hx, Option.toList_some, tellAt_snoc]
          have hbd : (tellAt m (acts.take k)).1.length ≤ 1000 := Nat.le_trans (tell_len _ _) (by simp; omega)
          have hsome := fun h => tell_some HM.out hx h
          have hkz := (HAO.out x (List.mem_of_getElem? hx)).2.2.1
          obtain ⟨q, hq⟩ : ∃ q, tellAt m (acts.take k) = q := ⟨_, rfl⟩
          rw [hq] at K1 K3 hsucc hbd hsome
          have SU := Lib.hid hsucc
          obtain ⟨kd, ky, val, num⟩ := x
          have d0 := hcx 0 _ rfl; have d1 := hcx 1 _ rfl; have d2 := hcx 2 _ rfl; have d3 := hcx 3 _ rfl
          simp only [Nat.add_zero] at d0
          have hi0 : (0 : Int) ≤ (k : Int) := by omega
          have hi1 : (k : Int) < (acts.length : Int) := by omega
          have SO := Lib.hid hsome
          clear hsucc hx hcell hcx hq hsome
          by_cases hkd : kd = 2
          · have g1 : (kd == 2) = true := by simp [hkd]
            have HKD := Lib.hid hkd; clear hkd
            go_wp2_with fail
            go_roundw
            case rel => exact ⟨k + 1, by omega, by go_num, by rw [SU.out, tellAct_skip HKD.out]; exact K1.out, K2.out, by rw [SU.out, tellAct_skip HKD.out]; exact (K3.out.moreN (by omega)), K4.out⟩
            case measure => simp [intOf]; omega
          · have g1 : (kd == 2) = false := by simp [hkd]
            obtain ⟨r, rs, hrs⟩ := SO.out hkd
            have HKD := Lib.hid hkd; clear hkd
            obtain ⟨ao2, cap2, hc2, hr2, hlk⟩ := K3.out.look ky hkz
            have hrs2 : q.2 ky.data.toList = r :: rs := hrs
            rw [hrs2] at hc2 hr2 hlk
            obtain ⟨b2, off2, rfl, hb2, hno2, hcell2⟩ := hr2 (by simp)
            have hcr := hcell2 0 r rfl
            have hlk0 := hlk _ (Below.refl _ wr)
            simp only [List.length_cons] at hlk0 hc2
            have RS := Lib.hid hrs2
            obtain ⟨rk, ri, rv⟩ := r
            have e0 := hcr 0 _ rfl; have e1 := hcr 1 _ rfl; have e2 := hcr 2 _ rfl
            simp only [Nat.zero_mul, Nat.add_zero] at e0 e1 e2
            have j0 : (0 : Int) < ((rs.length + 1 : Nat) : Int) := by omega
            have j1 : 0 < rs.length + 1 := by omega
            have CN := Lib.hid (cells_new wr [.string rk, .bool ri, .string rv] 78)
            have E2 : Hid (Ext wr (wr.alloc (.cells #[.string rk, .bool ri, .string rv] 78))) := Lib.hid ((Below.refl _ wr).alloc (Nat.le_refl _) _)
            obtain ⟨ao4, h4, hsl⟩ := slice_one3 elemRds sizeRds (some ⟨b2, off2, none⟩) (rs.length + 1) cap2 (by omega) hc2
            simp only [Nat.add_sub_cancel] at hsl
            have H4 := Lib.hid h4; have R2' := Lib.hid hr2
            clear hlk hb2 hno2 hcell2 hcr hrs2 hrs h4 hr2
            go_wp2_with (at_builtin; refine wpList_append_at _ rfl _ _ 36 rfl 78 i0 _ 3 40 Tryz.underlying36 hi hz0 hz1 hz2 rfl (by decide) _ q.1.length (q.1.flatMap encRd) rfl (own_ext K1.out E2.out) ⟨wr.heap.size, 0, none⟩ 1 1 (encRd ⟨rk, ri, rv⟩) rfl rfl CN.out (by simp [encRd, Value.oneCell']) (by decide) (by unfold maxLen; omega) (by omega) ?_; intro g cap3 w1 hown' hbut hkept; have X1' := Lib.hid hown'; have X2' := Lib.hid hbut; have X3' := Lib.hid hkept; clear hown' hbut hkept)
            have K14 : But (fun j => j = w3.heap.size) wL w1 := (K4.out.trans (Ext.but E2.out (fun _ => False)) (fun _ _ e => e) (fun _ _ e => e.elim)).trans X2'.out (fun _ _ e => e) (fun i hi e => by have := K2.out i e; omega)
            obtain ⟨c2', -, -⟩ := FR.out w1 K14
            have k1 := AC.out w1 K14
            have T1 : ToldAt (fun b => wL.heap.size ≤ b) w1 w3.heap.size (ks.length + k) q.2 := (K3.out.ext E2.out).step X2'.out (fun e => by have := K2.out _ e; omega) (fun b _ e => K2.out b e) (fun _ _ e => e)
            have hr1 : NRows 3 encRd (fun b => wL.heap.size ≤ b) w1 (some ⟨b2, off2, none⟩) (⟨rk, ri, rv⟩ :: rs) := (R2'.out.ext E2.out).step X2'.out (fun b _ e => .inl (K2.out b e)) (fun _ _ e => e)
            have hxd : Ext w1 w1.drew := (Below.refl _ w1).drew
            obtain ⟨w4', hrun, T4, B4'⟩ := (T1.ext hxd).put (by omega) ky hkz rs ao4 (cap2 - 1) (by omega) ((hr1.ext hxd).drop3 (fun hne b off e => H4.out (by have := List.length_pos_iff.2 hne; omega) b off e))
            have hs1 := hsl w1; have hs2 := hsl w1.drew
            have TT := Lib.hid T4; have KB := Lib.hid K14; have BB := Lib.hid (But.trans ((But.refl (fun j => j = w3.heap.size) w1).drew) B4' (U := fun j => j = w3.heap.size) (fun _ _ e => e) (fun _ _ e => e))
            clear T1 hr1 hsl hxd T4 B4' e0 e1 e2 hlk0 d0 d1 d2 d3 K14 hc2
            go_still_tail 9, (by kernel_rfl)
            change wpList _ _ _ _ _ w1.drew
            go_wp2_with fail
            go_roundw
            case rel =>
              refine ⟨k + 1, by omega, by go_num, ?_, ?_, ?_, KB.out.trans BB.out (fun _ _ e => e) (fun _ _ e => e)⟩
              · rw [SU.out, tellAct_take HKD.out RS.out]
                have := own_but X1'.out BB.out (fun j hj e => by
                  have hj2 := X3'.out j hj
                  have e' : j = w3.heap.size := e
                  subst e'
                  rcases hj2 with e | e
                  · have := K2.out _ e; omega
                  · have := K3.out.lt; have := E2.out.size; omega)
                rw [List.length_append, List.flatMap_append]
                simpa using this
              · intro j hj
                rcases X3'.out j hj with e | e
                · exact K2.out j e
                · have := K4.out.size; have := E2.out.size; omega
              · rw [SU.out, tellAct_take HKD.out RS.out, show ks.length + (k + 1) = ks.length + k + 1 from by omega]
                exact TT.out
            case measure => simp [intOf]; omega
        · have hall : acts.take k = acts := List.take_of_length_le (by omega)
          rw [hall] at K1
          clear hall
          go_wp2_with fail
          go_ret2
          rw [HD.out]
          refine ⟨_, _, rfl, own_but V1.out K4.out (fun j e e2 => hmbn j e e2), own_base K1.out (fun j e => by have := K2.out j e; have := X1.out.size; omega), Below.trans X1.out (K4.out.below X1.out.size (fun i e => by rw [e]; omega))⟩
end Go.Proofs.YtngahblgicjoiaaGreatDoor
