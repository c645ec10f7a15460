/- ActParts: the walk. -/
import Derived.Test.YtjplmghhleoolaaDoorAwake
import Derived.Test.YtjplmghhleoolaaDoorLaw14Small
import Derived.Test.YtjplmghhleoolaaDoorSame
import Derived.Test.YtjplmghhleoolaaDoorAppend
import Derived.Test.YtjplmghhleoolaaDoorPartsLaw
namespace Go.Proofs.YtjplmghhleoolaaDoor
open Go.RowKit

theorem reads_le (h : Bool) (st : ByteArray) (m : List ActD) : (doRes h st m).reads.length ≤ m.length := by
  unfold doRes St.after
  have key : ∀ (m : List ActD) (s : St), (m.foldl St.step s).reads.length ≤ s.reads.length + m.length := by
    intro m
    induction m with
    | nil => intro s; simp
    | cons a m ih =>
      intro s
      have h1 := ih (s.step a)
      have h2 : (s.step a).reads.length ≤ s.reads.length + 1 := by
        unfold St.step
        split
        · simp [St.get]
        · split
          · simp [St.puts]
          · split
            · simp [St.get, St.puts]
            · omega
      simp only [List.foldl_cons, List.length_cons]
      omega
  have := key m (St.begin h st)
  simpa [St.begin] using this
theorem one_rd : ∀ (x : Rd), ∀ u ∈ encRd x, u.oneCell' = true := by
  intro x u hu
  simp only [encRd, List.mem_cons, List.not_mem_nil, or_false] at hu
  rcases hu with rfl | rfl | rfl <;> rfl

set_option linter.unusedSimpArgs false in
set_option maxRecDepth 100000 in
set_option maxHeartbeats 1600000 in
theorem parts_calls {B : Nat} (hR : RightOne) (l : List ActD) (ao : Option Addr) (cap : Nat) (is : Bool) (value : ByteArray) (at_ : Int) (w : World) (hok : ∀ a ∈ l, a.ok) (hl : l.length ≤ cap) (hc : cap ≤ 9223372036854775807) (hr : Rows 4 encAct w.heap.size w ao l)
    (hs : value.size ≤ 140737488351232) (hv : LV B w) (hB : B ≤ w.heap.size) :
    Calls Tryd.prog 4 #[.slice ao l.length cap, .bool is, .string value, .int .i64 at_] w fun e w' => e = .returned (.bool true) ∧ Ext w w' := by
  have HV := Lib.hid hv; have HF := Lib.hid hR; have HR := Lib.hid hr; have H0 := Lib.hid hok; have HB := Lib.hid hB
  clear hv hR hr hok hB
  go_enter Tryd.func4, Tryd.ntmps4
  go_wp2_with fail
  refine (awake_calls HF.out w HV.out HB.out).mono ?_
  rintro e w1 ⟨rfl, hx⟩; have X1 := Lib.hid hx; clear hx
  go_wp2_with fail
  have hrow := Rows.fresh (enc := encStr) (sz := 1) (fun _ => rfl) [value] w1 9
  have hext : Ext w (w1.alloc (.cells ([value].flatMap encStr).toArray 9)) := Ext.trans X1.out ((Below.refl _ w1).alloc (Nat.le_refl _) _)
  have e0 : w1.alloc (.cells ([value].flatMap encStr).toArray 9) = w1.alloc (.cells #[.string value] 9) := rfl
  rw [e0] at hrow hext
  generalize w1.alloc _ = W0 at *
  generalize w1.heap.size = N at hrow ⊢
  have Q1 := Lib.hid hrow; have X2 := Lib.hid hext
  clear hrow hext e0
  refine (great_calls l [value] ao (some ⟨N, 0, none⟩) cap 1 W0 H0.out (by omega) (by simp) ((HR.out.ext X2.out).mono X2.out.size) Q1.out).mono ?_
  rintro e w2 ⟨rfl, hx⟩; have X3 := Lib.hid (Ext.trans X2.out hx); clear hx
  cases hg : greatB l [value]
  · have hng := not_great hg
    have h40 := hng.1
    have HG := Lib.hid hg; clear hg hng
    go_wp2_with fail
    have hn : ((l.length : Int) + 1) = ((l.length + 1 : Nat) : Int) := by omega
    refine (pick_calls at_ ((l.length : Int) + 1) w2 (by omega) (by omega)).mono ?_
    rintro e w2' ⟨k, rfl, hk, rfl⟩
    clear hn
    go_wp2_with fail
    refine (do_calls is value l ao cap w2 (HV.out.ext X3.out) (Nat.le_trans HB.out X3.out.size) (by omega) hs H0.out ((HR.out.ext X3.out).mono X3.out.size)).mono ?_
    rintro e w3 ⟨rv, rfl, hown, hnew, hx⟩
    have hdr := Rows.own (enc := encRd) (sz := 3) (fun _ => rfl) hown
    obtain ⟨ro, rcap, rfl, _, _, hrr⟩ := hdr
    have X4 := Lib.hid (Ext.trans X3.out hx)
    have R1 := Lib.hid hrr
    clear hown hnew hx hrr
    have hk1 : k ≤ l.length := by omega
    have hi0 : (0 : Int) ≤ (k : Int) := by omega
    have hi1 : (k : Int) ≤ (cap : Int) := by omega
    have hi2 : (k : Int) ≤ (l.length : Int) := by omega
    clear hk
    go_wp2_with fail
    have hc2 := do_calls is value (l.take k) ao cap w3 (HV.out.ext X4.out) (Nat.le_trans HB.out X4.out.size) (by simp; omega) hs (fun a ha => H0.out a (List.mem_of_mem_take ha)) (((HR.out.take k).ext X4.out).mono X4.out.size)
    rw [List.length_take, Nat.min_eq_left hk1] at hc2
    refine hc2.mono ?_
    clear hc2
    rintro e w4 ⟨rv, rfl, hown, hnew, hx⟩
    obtain ⟨ro2, rcap2, rfl, _, _, hrr⟩ := Rows.own (enc := encRd) (sz := 3) (fun _ => rfl) hown
    have X5 := Lib.hid (Ext.trans X4.out hx)
    have R1' := Lib.hid ((R1.out.ext hx).mono hx.size)
    have R2 := Lib.hid hrr
    clear hown hnew hx hrr
    obtain ⟨i0, hi, hz0, hz1, hz2⟩ := info_parts infoRd
    have BD : Hid (∀ (h : Bool) (st : ByteArray) (m : List ActD), m.length ≤ 40 → (doRes h st m).reads.length ≤ 40) := Lib.hid fun h st m hm => by
      have := reads_le h st m; omega
    have hrd0 : ∀ (xo : Option Addr) (hxo : xo = ao.map (fun x => x.add (k * 4)) ∨ cap = k), Rows 4 encAct w4.heap.size w4 xo (l.drop k) := by
      intro xo hxo hne
      rcases hxo with rfl | hck
      · obtain ⟨b, off, rfl, hb, hc⟩ := HR.out (fun e => hne (by rw [e]; simp))
        have h1 : Rows 4 encAct w.heap.size w (some ⟨b, off, none⟩) l := fun _ => ⟨b, off, rfl, hb, hc⟩
        have h2 := ((h1.drop k).ext X5.out).mono X5.out.size
        have e1 : Option.map (fun x : Addr => x.add (k * 4)) (some ⟨b, off, none⟩) = some ⟨b, off + k * 4, none⟩ := by
          simp [Addr.add]
        rw [e1]
        exact h2 hne
      · exact absurd (List.drop_eq_nil_of_le (by omega)) hne
    have hc3 := fun (h : Bool) (st : ByteArray) (hst : st.size ≤ 140737488351232) (xo : Option Addr) (xc : Nat) (hxo : xo = ao.map (fun x => x.add (k * 4)) ∨ cap = k) => do_calls h st (l.drop k) xo xc w4 (HV.out.ext X5.out) (Nat.le_trans HB.out X5.out.size) (by simp; omega) hst (fun a ha => H0.out a (List.mem_of_mem_drop ha)) (hrd0 xo hxo)
    simp only [List.length_drop] at hc3
    have C3 := Lib.hid hc3
    clear hc3 hrd0
    have hpl := parts_law is value (l.take k) (l.drop k)
    rw [List.take_append_drop] at hpl
    have PL := Lib.hid hpl; clear hpl
    cases hput : (doRes is value (l.take k)).put
    · have PH := Lib.hid hput
      have hH : hasD is value (l.take k) = is := by unfold hasD; rw [hput]; rfl
      have hS : standsD is value (l.take k) = value := by unfold standsD; rw [hput]; rfl
      have HH := Lib.hid hH; have HS := Lib.hid hS; clear hH hS
      by_cases hck : cap = k
      · go_wp2_with fail
        refine (C3.out is value hs _ _ (.inr hck)).mono ?_
        rintro e w5 ⟨rv, rfl, hown, hnew, hx⟩
        obtain ⟨ro3, rcap3, rfl, _, _, hrr⟩ := Rows.own (enc := encRd) (sz := 3) (fun _ => rfl) hown
        have X6 := Lib.hid (Ext.trans X5.out hx)
        have S1 := Lib.hid ((R1'.out.ext hx).mono hx.size)
        have S2 := Lib.hid ((R2.out.ext hx).mono hx.size)
        have S3 := Lib.hid hrr
        clear hown hnew hx hrr
        have E5 : Hid (∀ o, Ext w5 (w5.alloc o)) := Lib.hid fun o => (Below.refl _ w5).alloc (Nat.le_refl _) o
        go_wp2_with (first
          | (at_builtin
             refine wpList_append_rows (enc := encRd) (size := 3) (fun _ => rfl) one_rd rfl _ _ 29 rfl 45 i0 _ 40 Tryd.underlying29 hi hz0 hz1 hz2 rfl (by decide) (.slice (some ⟨w5.heap.size, 0, none⟩) 0 0) 0 [] rfl (World.ownsRow_made w5 #[] 0 (Nat.zero_le _) (Nat.zero_le _) rfl) ro2 (doRes is value (l.take k)).reads rcap2 rfl ((S2.out.ext (E5.out _)).mono (E5.out _).size) (by have := BD.out is value (l.take k); have := this (by simp; omega); unfold maxLen; omega) (by have := BD.out is value (l.take k); have := this (by simp; omega); omega) ?_
             intro v1 w6 hown1 hbut1 hkept1
             have hx6 : Ext w5 w6 := ((Ext.but (E5.out _) (fun _ => False)).trans hbut1 (U := fun j => j = w5.heap.size) (fun _ _ e => e.elim) (fun i _ e => by simp [Value.ownBlock] at e; exact e.symm)).ext (fun i hi e => by omega)
             have O1 := Lib.hid hown1
             have T1 := Lib.hid ((S1.out.ext hx6).mono hx6.size)
             have T3 := Lib.hid ((S3.out.ext hx6).mono hx6.size)
             have N1 : Hid (∀ j, v1.ownBlock = some j → w5.heap.size ≤ j) := Lib.hid fun j hj => by
               rcases hkept1 j hj with e | e
               · simp [Value.ownBlock] at e; omega
               · simp at e; omega
             have Y6 := Lib.hid hx6
             clear hown1 hbut1 hkept1 hx6)
          | (at_builtin
             refine wpList_append_rows (enc := encRd) (size := 3) (fun _ => rfl) one_rd rfl _ _ 29 rfl 45 i0 _ 40 Tryd.underlying29 hi hz0 hz1 hz2 rfl (by decide) v1 _ _ rfl O1.out ro3 (doRes is value (l.drop k)).reads rcap3 rfl T3.out (by have h1 := BD.out is value (l.take k) (by simp; omega); have h2 := BD.out is value (l.drop k) (by simp; omega); unfold maxLen; omega) (by have h1 := BD.out is value (l.take k) (by simp; omega); have h2 := BD.out is value (l.drop k) (by simp; omega); omega) ?_
             intro v2 w7 hown2 hbut2 hkept2
             have hx7 : Ext w5 w7 := ((Ext.but Y6.out (fun _ => False)).trans hbut2 (U := fun j => w5.heap.size ≤ j) (fun _ _ e => e.elim) (fun i _ e => N1.out i e)).ext (fun i hi e => by omega)
             have hown3 : w7.ownsRow 0 45 3 v2 ((doRes is value (l.take k)).reads ++ (doRes is value (l.drop k)).reads).length (((doRes is value (l.take k)).reads ++ (doRes is value (l.drop k)).reads).flatMap encRd) := by
               simpa using hown2
             obtain ⟨ro4, rcap4, rfl, _, _, hr4⟩ := Rows.own (enc := encRd) (sz := 3) (fun _ => rfl) hown3
             have U1 := Lib.hid ((S1.out.ext hx7).mono hx7.size)
             have U4 := Lib.hid hr4
             have X7 := Lib.hid (Ext.trans X6.out hx7)
             clear hown2 hbut2 hkept2 hown3 hr4 hx7))
        have hsr := sameReads_calls (doRes is value l).reads ((doRes is value (l.take k)).reads ++ (doRes is value (l.drop k)).reads) ro ro4 rcap rcap4 w7 (by have := BD.out is value l (by omega); omega) U1.out U4.out
        simp only [List.length_append] at hsr
        refine Calls.mono (by with_reducible exact hsr) ?_
        rintro e w8 ⟨rfl, hx8⟩
        have X8 := Lib.hid (Ext.trans X7.out hx8)
        clear hx8
        have pl := PL.out
        rw [HH.out, HS.out] at pl
        obtain ⟨pl1, pl2, pl3⟩ := pl
        rw [decide_eq_true pl1]
        rw [PH.out] at pl2 pl3
        cases hq : (doRes is value (l.drop k)).put
        · rw [hq] at pl2 pl3
          simp only [Bool.or_false, Bool.false_or, Bool.or_true, Bool.true_or, if_true, if_false, Bool.false_eq_true] at pl2 pl3
          have P3 := Lib.hid pl3
          clear pl1 pl3
          go_wp2_with fail
          go_ret
          exact ⟨ret_bool (by rw [P3.out]; first | rfl | simp [noBytes]), X8.out⟩
        · rw [hq] at pl2 pl3
          simp only [Bool.or_false, Bool.false_or, Bool.or_true, Bool.true_or, if_true, if_false, Bool.false_eq_true] at pl2 pl3
          have P3 := Lib.hid pl3
          clear pl1 pl3
          go_wp2_with fail
          go_ret
          exact ⟨ret_bool (by rw [P3.out]; first | rfl | simp), X8.out⟩
      · go_wp2_with fail
        refine (C3.out is value hs _ _ (.inl rfl)).mono ?_
        rintro e w5 ⟨rv, rfl, hown, hnew, hx⟩
        obtain ⟨ro3, rcap3, rfl, _, _, hrr⟩ := Rows.own (enc := encRd) (sz := 3) (fun _ => rfl) hown
        have X6 := Lib.hid (Ext.trans X5.out hx)
        have S1 := Lib.hid ((R1'.out.ext hx).mono hx.size)
        have S2 := Lib.hid ((R2.out.ext hx).mono hx.size)
        have S3 := Lib.hid hrr
        clear hown hnew hx hrr
        have E5 : Hid (∀ o, Ext w5 (w5.alloc o)) := Lib.hid fun o => (Below.refl _ w5).alloc (Nat.le_refl _) o
        go_wp2_with (first
          | (at_builtin
             refine wpList_append_rows (enc := encRd) (size := 3) (fun _ => rfl) one_rd rfl _ _ 29 rfl 45 i0 _ 40 Tryd.underlying29 hi hz0 hz1 hz2 rfl (by decide) (.slice (some ⟨w5.heap.size, 0, none⟩) 0 0) 0 [] rfl (World.ownsRow_made w5 #[] 0 (Nat.zero_le _) (Nat.zero_le _) rfl) ro2 (doRes is value (l.take k)).reads rcap2 rfl ((S2.out.ext (E5.out _)).mono (E5.out _).size) (by have := BD.out is value (l.take k); have := this (by simp; omega); unfold maxLen; omega) (by have := BD.out is value (l.take k); have := this (by simp; omega); omega) ?_
             intro v1 w6 hown1 hbut1 hkept1
             have hx6 : Ext w5 w6 := ((Ext.but (E5.out _) (fun _ => False)).trans hbut1 (U := fun j => j = w5.heap.size) (fun _ _ e => e.elim) (fun i _ e => by simp [Value.ownBlock] at e; exact e.symm)).ext (fun i hi e => by omega)
             have O1 := Lib.hid hown1
             have T1 := Lib.hid ((S1.out.ext hx6).mono hx6.size)
             have T3 := Lib.hid ((S3.out.ext hx6).mono hx6.size)
             have N1 : Hid (∀ j, v1.ownBlock = some j → w5.heap.size ≤ j) := Lib.hid fun j hj => by
               rcases hkept1 j hj with e | e
               · simp [Value.ownBlock] at e; omega
               · simp at e; omega
             have Y6 := Lib.hid hx6
             clear hown1 hbut1 hkept1 hx6)
          | (at_builtin
             refine wpList_append_rows (enc := encRd) (size := 3) (fun _ => rfl) one_rd rfl _ _ 29 rfl 45 i0 _ 40 Tryd.underlying29 hi hz0 hz1 hz2 rfl (by decide) v1 _ _ rfl O1.out ro3 (doRes is value (l.drop k)).reads rcap3 rfl T3.out (by have h1 := BD.out is value (l.take k) (by simp; omega); have h2 := BD.out is value (l.drop k) (by simp; omega); unfold maxLen; omega) (by have h1 := BD.out is value (l.take k) (by simp; omega); have h2 := BD.out is value (l.drop k) (by simp; omega); omega) ?_
             intro v2 w7 hown2 hbut2 hkept2
             have hx7 : Ext w5 w7 := ((Ext.but Y6.out (fun _ => False)).trans hbut2 (U := fun j => w5.heap.size ≤ j) (fun _ _ e => e.elim) (fun i _ e => N1.out i e)).ext (fun i hi e => by omega)
             have hown3 : w7.ownsRow 0 45 3 v2 ((doRes is value (l.take k)).reads ++ (doRes is value (l.drop k)).reads).length (((doRes is value (l.take k)).reads ++ (doRes is value (l.drop k)).reads).flatMap encRd) := by
               simpa using hown2
             obtain ⟨ro4, rcap4, rfl, _, _, hr4⟩ := Rows.own (enc := encRd) (sz := 3) (fun _ => rfl) hown3
             have U1 := Lib.hid ((S1.out.ext hx7).mono hx7.size)
             have U4 := Lib.hid hr4
             have X7 := Lib.hid (Ext.trans X6.out hx7)
             clear hown2 hbut2 hkept2 hown3 hr4 hx7))
        have hsr := sameReads_calls (doRes is value l).reads ((doRes is value (l.take k)).reads ++ (doRes is value (l.drop k)).reads) ro ro4 rcap rcap4 w7 (by have := BD.out is value l (by omega); omega) U1.out U4.out
        simp only [List.length_append] at hsr
        refine Calls.mono (by with_reducible exact hsr) ?_
        rintro e w8 ⟨rfl, hx8⟩
        have X8 := Lib.hid (Ext.trans X7.out hx8)
        clear hx8
        have pl := PL.out
        rw [HH.out, HS.out] at pl
        obtain ⟨pl1, pl2, pl3⟩ := pl
        rw [decide_eq_true pl1]
        rw [PH.out] at pl2 pl3
        cases hq : (doRes is value (l.drop k)).put
        · rw [hq] at pl2 pl3
          simp only [Bool.or_false, Bool.false_or, Bool.or_true, Bool.true_or, if_true, if_false, Bool.false_eq_true] at pl2 pl3
          have P3 := Lib.hid pl3
          clear pl1 pl3
          go_wp2_with fail
          go_ret
          exact ⟨ret_bool (by rw [P3.out]; first | rfl | simp [noBytes]), X8.out⟩
        · rw [hq] at pl2 pl3
          simp only [Bool.or_false, Bool.false_or, Bool.or_true, Bool.true_or, if_true, if_false, Bool.false_eq_true] at pl2 pl3
          have P3 := Lib.hid pl3
          clear pl1 pl3
          go_wp2_with fail
          go_ret
          exact ⟨ret_bool (by rw [P3.out]; first | rfl | simp), X8.out⟩
    · have PH := Lib.hid hput
      have hH : hasD is value (l.take k) = true := by unfold hasD; rw [hput]; rfl
      have hS : standsD is value (l.take k) = doAfter is value (l.take k) := by unfold standsD; rw [hput]; rfl
      have HH := Lib.hid hH; have HS := Lib.hid hS; clear hH hS
      have hda : (doAfter is value (l.take k)).size ≤ 140737488351232 := by
        unfold doAfter
        rw [hput]
        exact (St.after_bd (l.take k) (St.begin is value) (by unfold St.begin; dsimp only; split; exact hs; exact Nat.zero_le _) (fun a ha => H0.out a (List.mem_of_mem_take ha))).1
      have HD := Lib.hid hda; clear hda
      by_cases hck : cap = k
      · go_wp2_with fail
        refine (C3.out true (doAfter is value (l.take k)) HD.out _ _ (.inr hck)).mono ?_
        rintro e w5 ⟨rv, rfl, hown, hnew, hx⟩
        obtain ⟨ro3, rcap3, rfl, _, _, hrr⟩ := Rows.own (enc := encRd) (sz := 3) (fun _ => rfl) hown
        have X6 := Lib.hid (Ext.trans X5.out hx)
        have S1 := Lib.hid ((R1'.out.ext hx).mono hx.size)
        have S2 := Lib.hid ((R2.out.ext hx).mono hx.size)
        have S3 := Lib.hid hrr
        clear hown hnew hx hrr
        have E5 : Hid (∀ o, Ext w5 (w5.alloc o)) := Lib.hid fun o => (Below.refl _ w5).alloc (Nat.le_refl _) o
        go_wp2_with (first
          | (at_builtin
             refine wpList_append_rows (enc := encRd) (size := 3) (fun _ => rfl) one_rd rfl _ _ 29 rfl 45 i0 _ 40 Tryd.underlying29 hi hz0 hz1 hz2 rfl (by decide) (.slice (some ⟨w5.heap.size, 0, none⟩) 0 0) 0 [] rfl (World.ownsRow_made w5 #[] 0 (Nat.zero_le _) (Nat.zero_le _) rfl) ro2 (doRes is value (l.take k)).reads rcap2 rfl ((S2.out.ext (E5.out _)).mono (E5.out _).size) (by have := BD.out is value (l.take k); have := this (by simp; omega); unfold maxLen; omega) (by have := BD.out is value (l.take k); have := this (by simp; omega); omega) ?_
             intro v1 w6 hown1 hbut1 hkept1
             have hx6 : Ext w5 w6 := ((Ext.but (E5.out _) (fun _ => False)).trans hbut1 (U := fun j => j = w5.heap.size) (fun _ _ e => e.elim) (fun i _ e => by simp [Value.ownBlock] at e; exact e.symm)).ext (fun i hi e => by omega)
             have O1 := Lib.hid hown1
             have T1 := Lib.hid ((S1.out.ext hx6).mono hx6.size)
             have T3 := Lib.hid ((S3.out.ext hx6).mono hx6.size)
             have N1 : Hid (∀ j, v1.ownBlock = some j → w5.heap.size ≤ j) := Lib.hid fun j hj => by
               rcases hkept1 j hj with e | e
               · simp [Value.ownBlock] at e; omega
               · simp at e; omega
             have Y6 := Lib.hid hx6
             clear hown1 hbut1 hkept1 hx6)
          | (at_builtin
             refine wpList_append_rows (enc := encRd) (size := 3) (fun _ => rfl) one_rd rfl _ _ 29 rfl 45 i0 _ 40 Tryd.underlying29 hi hz0 hz1 hz2 rfl (by decide) v1 _ _ rfl O1.out ro3 (doRes true (doAfter is value (l.take k)) (l.drop k)).reads rcap3 rfl T3.out (by have h1 := BD.out is value (l.take k) (by simp; omega); have h2 := BD.out true (doAfter is value (l.take k)) (l.drop k) (by simp; omega); unfold maxLen; omega) (by have h1 := BD.out is value (l.take k) (by simp; omega); have h2 := BD.out true (doAfter is value (l.take k)) (l.drop k) (by simp; omega); omega) ?_
             intro v2 w7 hown2 hbut2 hkept2
             have hx7 : Ext w5 w7 := ((Ext.but Y6.out (fun _ => False)).trans hbut2 (U := fun j => w5.heap.size ≤ j) (fun _ _ e => e.elim) (fun i _ e => N1.out i e)).ext (fun i hi e => by omega)
             have hown3 : w7.ownsRow 0 45 3 v2 ((doRes is value (l.take k)).reads ++ (doRes true (doAfter is value (l.take k)) (l.drop k)).reads).length (((doRes is value (l.take k)).reads ++ (doRes true (doAfter is value (l.take k)) (l.drop k)).reads).flatMap encRd) := by
               simpa using hown2
             obtain ⟨ro4, rcap4, rfl, _, _, hr4⟩ := Rows.own (enc := encRd) (sz := 3) (fun _ => rfl) hown3
             have U1 := Lib.hid ((S1.out.ext hx7).mono hx7.size)
             have U4 := Lib.hid hr4
             have X7 := Lib.hid (Ext.trans X6.out hx7)
             clear hown2 hbut2 hkept2 hown3 hr4 hx7))
        have hsr := sameReads_calls (doRes is value l).reads ((doRes is value (l.take k)).reads ++ (doRes true (doAfter is value (l.take k)) (l.drop k)).reads) ro ro4 rcap rcap4 w7 (by have := BD.out is value l (by omega); omega) U1.out U4.out
        simp only [List.length_append] at hsr
        refine Calls.mono (by with_reducible exact hsr) ?_
        rintro e w8 ⟨rfl, hx8⟩
        have X8 := Lib.hid (Ext.trans X7.out hx8)
        clear hx8
        have pl := PL.out
        rw [HH.out, HS.out] at pl
        obtain ⟨pl1, pl2, pl3⟩ := pl
        rw [decide_eq_true pl1]
        rw [PH.out] at pl2 pl3
        cases hq : (doRes true (doAfter is value (l.take k)) (l.drop k)).put
        · rw [hq] at pl2 pl3
          simp only [Bool.or_false, Bool.false_or, Bool.or_true, Bool.true_or, if_true, if_false, Bool.false_eq_true] at pl2 pl3
          have P3 := Lib.hid pl3
          clear pl1 pl3
          go_wp2_with fail
          go_ret
          exact ⟨ret_bool (by rw [P3.out]; first | rfl | simp [noBytes]), X8.out⟩
        · rw [hq] at pl2 pl3
          simp only [Bool.or_false, Bool.false_or, Bool.or_true, Bool.true_or, if_true, if_false, Bool.false_eq_true] at pl2 pl3
          have P3 := Lib.hid pl3
          clear pl1 pl3
          go_wp2_with fail
          go_ret
          exact ⟨ret_bool (by rw [P3.out]; first | rfl | simp), X8.out⟩
      · go_wp2_with fail
        refine (C3.out true (doAfter is value (l.take k)) HD.out _ _ (.inl rfl)).mono ?_
        rintro e w5 ⟨rv, rfl, hown, hnew, hx⟩
        obtain ⟨ro3, rcap3, rfl, _, _, hrr⟩ := Rows.own (enc := encRd) (sz := 3) (fun _ => rfl) hown
        have X6 := Lib.hid (Ext.trans X5.out hx)
        have S1 := Lib.hid ((R1'.out.ext hx).mono hx.size)
        have S2 := Lib.hid ((R2.out.ext hx).mono hx.size)
        have S3 := Lib.hid hrr
        clear hown hnew hx hrr
        have E5 : Hid (∀ o, Ext w5 (w5.alloc o)) := Lib.hid fun o => (Below.refl _ w5).alloc (Nat.le_refl _) o
        go_wp2_with (first
          | (at_builtin
             refine wpList_append_rows (enc := encRd) (size := 3) (fun _ => rfl) one_rd rfl _ _ 29 rfl 45 i0 _ 40 Tryd.underlying29 hi hz0 hz1 hz2 rfl (by decide) (.slice (some ⟨w5.heap.size, 0, none⟩) 0 0) 0 [] rfl (World.ownsRow_made w5 #[] 0 (Nat.zero_le _) (Nat.zero_le _) rfl) ro2 (doRes is value (l.take k)).reads rcap2 rfl ((S2.out.ext (E5.out _)).mono (E5.out _).size) (by have := BD.out is value (l.take k); have := this (by simp; omega); unfold maxLen; omega) (by have := BD.out is value (l.take k); have := this (by simp; omega); omega) ?_
             intro v1 w6 hown1 hbut1 hkept1
             have hx6 : Ext w5 w6 := ((Ext.but (E5.out _) (fun _ => False)).trans hbut1 (U := fun j => j = w5.heap.size) (fun _ _ e => e.elim) (fun i _ e => by simp [Value.ownBlock] at e; exact e.symm)).ext (fun i hi e => by omega)
             have O1 := Lib.hid hown1
             have T1 := Lib.hid ((S1.out.ext hx6).mono hx6.size)
             have T3 := Lib.hid ((S3.out.ext hx6).mono hx6.size)
             have N1 : Hid (∀ j, v1.ownBlock = some j → w5.heap.size ≤ j) := Lib.hid fun j hj => by
               rcases hkept1 j hj with e | e
               · simp [Value.ownBlock] at e; omega
               · simp at e; omega
             have Y6 := Lib.hid hx6
             clear hown1 hbut1 hkept1 hx6)
          | (at_builtin
             refine wpList_append_rows (enc := encRd) (size := 3) (fun _ => rfl) one_rd rfl _ _ 29 rfl 45 i0 _ 40 Tryd.underlying29 hi hz0 hz1 hz2 rfl (by decide) v1 _ _ rfl O1.out ro3 (doRes true (doAfter is value (l.take k)) (l.drop k)).reads rcap3 rfl T3.out (by have h1 := BD.out is value (l.take k) (by simp; omega); have h2 := BD.out true (doAfter is value (l.take k)) (l.drop k) (by simp; omega); unfold maxLen; omega) (by have h1 := BD.out is value (l.take k) (by simp; omega); have h2 := BD.out true (doAfter is value (l.take k)) (l.drop k) (by simp; omega); omega) ?_
             intro v2 w7 hown2 hbut2 hkept2
             have hx7 : Ext w5 w7 := ((Ext.but Y6.out (fun _ => False)).trans hbut2 (U := fun j => w5.heap.size ≤ j) (fun _ _ e => e.elim) (fun i _ e => N1.out i e)).ext (fun i hi e => by omega)
             have hown3 : w7.ownsRow 0 45 3 v2 ((doRes is value (l.take k)).reads ++ (doRes true (doAfter is value (l.take k)) (l.drop k)).reads).length (((doRes is value (l.take k)).reads ++ (doRes true (doAfter is value (l.take k)) (l.drop k)).reads).flatMap encRd) := by
               simpa using hown2
             obtain ⟨ro4, rcap4, rfl, _, _, hr4⟩ := Rows.own (enc := encRd) (sz := 3) (fun _ => rfl) hown3
             have U1 := Lib.hid ((S1.out.ext hx7).mono hx7.size)
             have U4 := Lib.hid hr4
             have X7 := Lib.hid (Ext.trans X6.out hx7)
             clear hown2 hbut2 hkept2 hown3 hr4 hx7))
        have hsr := sameReads_calls (doRes is value l).reads ((doRes is value (l.take k)).reads ++ (doRes true (doAfter is value (l.take k)) (l.drop k)).reads) ro ro4 rcap rcap4 w7 (by have := BD.out is value l (by omega); omega) U1.out U4.out
        simp only [List.length_append] at hsr
        refine Calls.mono (by with_reducible exact hsr) ?_
        rintro e w8 ⟨rfl, hx8⟩
        have X8 := Lib.hid (Ext.trans X7.out hx8)
        clear hx8
        have pl := PL.out
        rw [HH.out, HS.out] at pl
        obtain ⟨pl1, pl2, pl3⟩ := pl
        rw [decide_eq_true pl1]
        rw [PH.out] at pl2 pl3
        cases hq : (doRes true (doAfter is value (l.take k)) (l.drop k)).put
        · rw [hq] at pl2 pl3
          simp only [Bool.or_false, Bool.false_or, Bool.or_true, Bool.true_or, if_true, if_false, Bool.false_eq_true] at pl2 pl3
          have P3 := Lib.hid pl3
          clear pl1 pl3
          go_wp2_with fail
          go_ret
          exact ⟨ret_bool (by rw [P3.out]; first | rfl | simp [noBytes]), X8.out⟩
        · rw [hq] at pl2 pl3
          simp only [Bool.or_false, Bool.false_or, Bool.or_true, Bool.true_or, if_true, if_false, Bool.false_eq_true] at pl2 pl3
          have P3 := Lib.hid pl3
          clear pl1 pl3
          go_wp2_with fail
          go_ret
          exact ⟨ret_bool (by rw [P3.out]; first | rfl | simp), X8.out⟩
  · go_wp2_with fail
    go_ret
    exact ⟨ret_bool rfl, X3.out⟩
end Go.Proofs.YtjplmghhleoolaaDoor
