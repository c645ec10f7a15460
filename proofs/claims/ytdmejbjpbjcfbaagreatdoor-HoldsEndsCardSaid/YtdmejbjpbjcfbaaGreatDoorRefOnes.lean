/- The reference of layer 14: Name, Older, Key, value, one, Right; and the package act's Name. -/
import Derived.Test.YtdmejbjpbjcfbaaGreatDoorMem
import Derived.Lib.SlicesS
import Derived.Test.YtdmejbjpbjcfbaaGreatDoorHoldDefs
import Derived.Test.YtdmejbjpbjcfbaaGreatDoorRight
import Derived.Deep.DeepMust
namespace Go.Proofs.YtdmejbjpbjcfbaaGreatDoor
open Go.RowKit
def nameB (c n : Int) : Bool := decide (1 ≤ c) && decide (c ≤ 8) && decide (1 ≤ n) && decide (n ≤ 1073741824)
theorem name_calls (c n : Int) (w : World) : Calls Tryz.prog 127 #[.agg #[.int .i64 c, .int .i64 n]] w fun e w' => e = .returned (.bool (nameB c n)) ∧ Ext w w' := by
  have HX := Lib.hid (show Ext w (w.alloc (.cells #[.int .i64 c, .int .i64 n] 24)) from (Below.refl _ w).alloc (Nat.le_refl _) _)
  have e0 : nameB c n = (decide (1 ≤ c) && decide (c ≤ 8) && decide (1 ≤ n) && decide (n ≤ 1073741824)) := rfl
  cases h1 : decide (1 ≤ c) <;> cases h2 : decide (c ≤ 8) <;> cases h3 : decide (1 ≤ n) <;> cases h4 : decide (n ≤ 1073741824) <;> rw [h1, h2, h3, h4] at e0
  all_goals
    have E0 := Lib.hid e0; clear e0
    go_enter Tryz.func127, Tryz.ntmps127
    go_wp2
    go_ret
    exact ⟨ret_bool (by rw [E0.out]; rfl), HX.out⟩
theorem refName_calls (c n : Int) (w : World) : Calls Tryz.prog 129 #[.agg #[.int .i64 c, .int .i64 n]] w fun e w' => e = .returned (.bool (nameB c n)) ∧ Ext w w' := by
  have HX := Lib.hid (show Ext w (w.alloc (.cells #[.int .i64 c, .int .i64 n] 24)) from (Below.refl _ w).alloc (Nat.le_refl _) _)
  have e0 : nameB c n = (decide (1 ≤ c) && decide (c ≤ 8) && decide (1 ≤ n) && decide (n ≤ 1073741824)) := rfl
  cases h1 : decide (1 ≤ c) <;> cases h2 : decide (c ≤ 8) <;> cases h3 : decide (1 ≤ n) <;> cases h4 : decide (n ≤ 1073741824) <;> rw [h1, h2, h3, h4] at e0
  all_goals
    have E0 := Lib.hid e0; clear e0
    go_enter Tryz.func129, Tryz.ntmps129
    go_wp2
    go_ret
    exact ⟨ret_bool (by rw [E0.out]; rfl), HX.out⟩
set_option maxRecDepth 100000 in
set_option maxHeartbeats 400000 in
theorem refKey_calls (s : ByteArray) (w : World) (hs : s.size ≤ 140737488351232) : Calls Tryz.prog 191 #[.string s] w fun e w' => e = .returned (.bool (keyL s.data.toList)) ∧ w = w' := by
  have hsz := Lib.size_eq s
  by_cases h1 : s.size < 1
  · have e0 : keyL s.data.toList = false := by
      have : s.data.toList = [] := List.eq_nil_of_length_eq_zero (by omega)
      rw [this]; rfl
    have h00 : s.size = 0 := by omega
    have g1 : decide ((s.size : Int) < 1) = true := decide_eq_true (by omega)
    have E0 := Lib.hid e0; clear e0 hsz
    go_enter Tryz.func191, Tryz.ntmps191
    go_wp2
    all_goals (go_ret; exact ⟨ret_bool (by rw [E0.out]), rfl⟩)
  · by_cases h20 : 20 < s.size
    · have e0 : keyL s.data.toList = false := by unfold keyL; rw [← hsz]; simp; omega
      have E0 := Lib.hid e0; clear e0 hsz
      go_enter Tryz.func191, Tryz.ntmps191
      go_wp2
      all_goals (go_ret; exact ⟨ret_bool (by rw [E0.out]), rfl⟩)
    · have e0 : keyL s.data.toList = s.data.toList.all keyC := by
        unfold keyL
        rw [← hsz]
        have : s.data.toList.isEmpty = false := by
          cases h : s.data.toList with
          | nil => rw [h, List.length_nil] at hsz; omega
          | cons a r => rfl
        rw [this]; simp; omega
      have g1 : decide ((s.size : Int) < 1) = false := decide_eq_false (by omega)
      have g2 : decide ((20 : Int) < (s.size : Int)) = false := decide_eq_false (by omega)
      have E0 := Lib.hid e0; have HZ := Lib.hid hsz; clear e0 hsz
      go_enter Tryz.func191, Tryz.ntmps191
      go_wp2
      go_loop [3] (fun i => ∃ k : Nat, k ≤ s.size ∧ i = .int .i64 k ∧ (s.data.toList.take k).all keyC = true) (fun i => s.size - (intOf i).toNat)
      case atStart => exact ⟨0, by omega, rfl, by simp⟩
      case round =>
        obtain ⟨k, hk, rfl, hall⟩ := hrel
        have HA := Lib.hid hall; clear hall
        by_cases hlt : k < s.size
        · have htk : s.data.toList.take (k + 1) = s.data.toList.take k ++ [s[k]] := by
            rw [List.take_succ_eq_append_getElem (by rw [← HZ.out]; exact hlt)]; rfl
          have hmem : s[k] ∈ s.data.toList := by
            have : s.data.toList[k]'(by rw [← HZ.out]; exact hlt) = s[k] := rfl
            rw [← this]; exact List.getElem_mem _
          have HT := Lib.hid htk; have HM := Lib.hid hmem
          clear htk hmem
          have hcases : (s[k].toNat < 48 ∨ (57 < s[k].toNat ∧ s[k].toNat < 97) ∨ 122 < s[k].toNat) ∨ (48 ≤ s[k].toNat ∧ s[k].toNat ≤ 57) ∨ (97 ≤ s[k].toNat ∧ s[k].toNat ≤ 122) := by omega
          rcases hcases with h | h
          · have hno : keyC s[k] = false := by unfold keyC; simp; omega
            have e1 : s.data.toList.all keyC = false := by
              rw [List.all_eq_false]; exact ⟨s[k], HM.out, by simp [hno]⟩
            have E1 := Lib.hid e1
            clear hno e1
            rcases h with h | ⟨ha, hb⟩ | h
            all_goals
              go_wp2
              all_goals first | (go_ret; exact ⟨ret_bool (by rw [E0.out, E1.out]), rfl⟩) | (exfalso; rename_i h; simp at h; omega)
          · have hyes : keyC s[k] = true := by unfold keyC; simp; omega
            have e1 : (s.data.toList.take (k + 1)).all keyC = true := by rw [HT.out, List.all_append, HA.out]; simp [hyes]
            have E1 := Lib.hid e1
            clear hyes e1
            rcases h with ⟨ha, hb⟩ | ⟨ha, hb⟩
            all_goals
              first
                | (have hd : decide ((s[k].toNat : Int) ≤ 57) = true := by simp; omega)
                | (have hd : decide ((s[k].toNat : Int) ≤ 122) = true := by simp; omega)
              go_wp2
              go_round
              case rel => exact ⟨k + 1, by omega, by go_num, E1.out⟩
              case measure => simp [intOf]; omega
        · have e1 : s.data.toList.all keyC = true := by
            have := HA.out
            rwa [List.take_of_length_le (by rw [← HZ.out]; omega)] at this
          have E1 := Lib.hid e1; clear e1
          go_wp2
          go_ret
          exact ⟨ret_bool (by rw [E0.out, E1.out]), rfl⟩
def cntR (l : List ActD) : Nat := (l.filter fun a => !decide (a.kind = 2)).length
def putR (l : List ActD) : Bool := l.any fun a => !decide (a.kind = 1)
def keysR (k : ByteArray) (l : List ActD) : Bool := l.all fun a => decide (a.key.toList = k.toList)
def readsBad (k : ByteArray) (l : List Rd) : Bool := l.any (readBad k)
def holdB (d : HoldD) : Bool := keysR d.key d.acts && (nameB d.cl d.nm && (rightsB d.acts && (!readsBad d.key d.reads && (decide (d.reads.length = cntR d.acts) && ((d.put == putR d.acts) && (decide ((d.value.size : Int) ≤ 20) && (d.put || d.value.toList.isEmpty)))))))
structure HoldD.ok (d : HoldD) : Prop where
  acts : ∀ a ∈ d.acts, a.ok
  an : d.acts.length ≤ 1000000
  rn : d.reads.length ≤ 1000000
  ks : d.key.size ≤ 140737488351232
  vs : d.value.size ≤ 140737488351232
  rs : ∀ r ∈ d.reads, r.value.size ≤ 140737488351232
theorem cntR_le (l : List ActD) : cntR l ≤ l.length := List.length_filter_le ..
theorem cntR_succ (l : List ActD) (k : Nat) (x : ActD) (h : l[k]? = some x) : cntR (l.take (k + 1)) = cntR (l.take k) + (if x.kind = 2 then 0 else 1) := by
  unfold cntR; rw [List.take_add_one, h, List.filter_append, List.length_append]
  by_cases hk : x.kind = 2 <;> simp [hk]
theorem putR_succ (l : List ActD) (k : Nat) (x : ActD) (h : l[k]? = some x) : putR (l.take (k + 1)) = (putR (l.take k) || !decide (x.kind = 1)) := by
  unfold putR; rw [List.take_add_one, h, List.any_append]; simp
theorem keysR_succ (s : ByteArray) (l : List ActD) (k : Nat) (x : ActD) (h : l[k]? = some x) : keysR s (l.take (k + 1)) = (keysR s (l.take k) && decide (x.key.toList = s.toList)) := by
  unfold keysR; rw [List.take_add_one, h, List.all_append]; simp
theorem readsBad_iff (k : ByteArray) (l : List Rd) (b : Bool) (h : b = false ↔ ∀ (i : Nat) (x : Rd), l[i]? = some x → readBad k x = false) : b = readsBad k l := by
  unfold readsBad
  cases b
  · symm; rw [List.any_eq_false]
    intro x hx
    obtain ⟨i, hi⟩ := List.getElem?_of_mem hx
    rw [h.1 rfl i x hi]; simp
  · symm
    rw [List.any_eq_true]
    apply Classical.byContradiction
    intro hn
    have : true = false := h.2 fun i x hx => by
      cases hb : readBad k x
      · rfl
      · exact absurd ⟨x, List.mem_of_getElem? hx, hb⟩ hn
    cases this
set_option maxRecDepth 100000 in
set_option maxHeartbeats 3200000 in
theorem holdRight_calls (v : HoldV) (d : HoldD) (no : Nat → Prop) (w : World) (hv : v.is w no d) (hok : d.ok) :
    Calls Tryz.prog 71 #[.agg (encHV v).toArray] w fun e w' => e = .returned (.bool (holdB d)) ∧ Ext w w' := by
  obtain ⟨key, cl, nm, xo, xn, xc, yo, yn, yc, put, value⟩ := v
  obtain ⟨key', cl', nm', acts, reads, put', value'⟩ := d
  obtain ⟨e1, e2, e3, e4, e5, e6, e7, ha, hr⟩ := hv
  simp only at e1 e2 e3 e4 e5 e6 e7 ha hr
  subst e1 e2 e3 e4 e5 e6 e7
  obtain ⟨hok, han, hrn, _, _, _⟩ := hok
  simp only at hok han hrn
  have HX := Lib.hid (show Ext w (w.alloc (.cells #[.string key, .int .i64 cl, .int .i64 nm, .slice xo acts.length xc, .slice yo reads.length yc, .bool put, .string value] 35)) from (Below.refl _ w).alloc (Nat.le_refl _) _)
  have HB := Lib.hid (Blk.new w [.string key, .int .i64 cl, .int .i64 nm, .slice xo acts.length xc, .slice yo reads.length yc, .bool put, .string value] 35)
  have HA := Lib.hid ha.rows; have HR := Lib.hid hr.rows; have HOK := Lib.hid hok
  have HG : Hid (holdB ⟨key, cl, nm, acts, reads, put, value⟩ = (keysR key acts && (nameB cl nm && (rightsB acts && (!readsBad key reads && (decide (reads.length = cntR acts) && ((put == putR acts) && (decide ((value.size : Int) ≤ 20) && (put || value.toList.isEmpty)))))))) ) := Lib.hid rfl
  clear ha hr hok
  generalize holdB _ = res at HG ⊢
  unfold encHV
  go_enter Tryz.func71, Tryz.ntmps71
  go_wp2_with fail
  have hbx := HB.out; have hxx := HX.out
  generalize w.alloc _ = w0 at hbx hxx ⊢
  have hN := hbx.lt
  generalize w.heap.size = N at hbx hN ⊢
  have B0 := Lib.hid hbx; have X0 := Lib.hid hxx
  clear hbx hxx HB HX
  have hcx : ∀ (i : Nat) W, Ext w0 W → W.cell? ⟨N, i, none⟩ = [.string key, .int .i64 cl, .int .i64 nm, .slice xo acts.length xc, .slice yo reads.length yc, .bool put, .string value][i]? := fun i W hW => (B0.out.ext' hW).cell i
  have HCX := Lib.hid hcx; clear hcx
  go_loopw [3, 4, 11] (fun vr vp vk wr => ∃ (k : Nat), k ≤ acts.length ∧ vr = .int .i64 (cntR (acts.take k)) ∧ vp = .bool (putR (acts.take k)) ∧ vk = .int .i64 k ∧ keysR key (acts.take k) = true ∧ Ext w0 wr) (fun _ _ vk _ => acts.length - (intOf vk).toNat)
  case atStart => exact ⟨0, by omega, rfl, rfl, rfl, rfl, Below.refl _ _⟩
  case round =>
    obtain ⟨k, hk, rfl, rfl, rfl, hkr, hx⟩ := hrel
    have K1 := Lib.hid hkr; have K2 := Lib.hid hx
    clear hkr hx
    have c0 := HCX.out 0 wr K2.out; have c1 := HCX.out 1 wr K2.out; have c2 := HCX.out 2 wr K2.out; have c3 := HCX.out 3 wr K2.out; have c4 := HCX.out 4 wr K2.out; have c5 := HCX.out 5 wr K2.out; have c6 := HCX.out 6 wr K2.out
    simp only [List.getElem?_cons_zero, List.getElem?_cons_succ] at c0 c1 c2 c3 c4 c5 c6
    by_cases hlt : k < acts.length
    · obtain ⟨x, hx⟩ : ∃ x, acts[k]? = some x := ⟨_, List.getElem?_eq_getElem hlt⟩
      have hcs := cntR_succ acts k x hx; have hps := putR_succ acts k x hx; have hks := keysR_succ key acts k x hx
      have hcl := cntR_le (acts.take k)
      rw [List.length_take] at hcl
      have HX := Lib.hid hx
      obtain ⟨b, off, rfl, hb, hcell⟩ := HA.out (by intro e; rw [e] at hlt; simp at hlt)
      have hcx := hcell k x hx
      have hmove : ∀ j, wr.cell? ⟨b, j, none⟩ = w.cell? ⟨b, j, none⟩ := fun j => (Ext.trans X0.out K2.out).cell (p := ⟨b, j, none⟩) hb
      obtain ⟨kd, ak, av, an⟩ := x
      have d0 := (hmove _).trans (hcx 0 _ rfl); have d1 := (hmove _).trans (hcx 1 _ rfl); have d2 := (hmove _).trans (hcx 2 _ rfl); have d3 := (hmove _).trans (hcx 3 _ rfl)
      simp only [Nat.add_zero] at d0
      have ii0 : (0 : Int) ≤ (k : Int) := by omega
      have i1 : (k : Int) < (acts.length : Int) := by omega
      have hNn : N < wr.heap.size := by have := K2.out.size; omega
      have hne : N ≠ wr.heap.size := by omega
      have CS := Lib.hid hcs; have PS := Lib.hid hps; have KS := Lib.hid hks
      generalize putR (acts.take k) = pk at *
      generalize hck : cntR (acts.take k) = ck at *
      clear hcell hcx hmove hx hcs hps hks hck
      by_cases hkk : ak.toList = key.toList
      · have hks2 : keysR key (acts.take (k + 1)) = true := by rw [KS.out, K1.out]; simpa using hkk
        have KS2 := Lib.hid hks2
        clear hks2
        by_cases hk2 : kd = 2
        · subst hk2
          have hcs2 := CS.out; have hps2 := PS.out
          simp only [if_true, Nat.add_zero] at hcs2 hps2
          have CS2 := Lib.hid hcs2; have PS2 := Lib.hid hps2; clear hcs2 hps2
          cases pk
          all_goals
            go_wp2_with fail
            go_roundw
            case rel => exact ⟨k + 1, by omega, by rw [CS2.out], by rw [PS2.out]; rfl, by go_num, KS2.out, (K2.out.alloc K2.out.size _)⟩
            case measure => simp [intOf]; omega
        · have hcs2 := CS.out
          rw [if_neg hk2] at hcs2
          have CS2 := Lib.hid hcs2; clear hcs2
          have hb2 : (kd == 2) = false := by simpa using hk2
          by_cases hk1 : kd = 1
          · subst hk1
            have hps2 := PS.out
            cases pk
            all_goals
              simp at hps2
              have PS2 := Lib.hid hps2; clear hps2
              go_wp2_with fail
              go_roundw
              case rel => exact ⟨k + 1, by omega, by rw [CS2.out]; go_num, by rw [PS2.out], by go_num, KS2.out, (K2.out.alloc K2.out.size _)⟩
              case measure => simp [intOf]; omega
          · have hb1 : (kd == 1) = false := by simpa using hk1
            have hps2 := PS.out
            cases pk
            all_goals
              simp [hk1] at hps2
              have PS2 := Lib.hid hps2; clear hps2
              go_wp2_with fail
              go_roundw
              case rel => exact ⟨k + 1, by omega, by rw [CS2.out]; go_num, (by rw [PS2.out]; try simp [hk1]), by go_num, KS2.out, (K2.out.alloc K2.out.size _)⟩
              case measure => simp [intOf]; omega
      · have hf : res = false := by
          have hkf : keysR key acts = false := by
            unfold keysR; rw [List.all_eq_false]
            exact ⟨_, List.mem_of_getElem? HX.out, by simpa using hkk⟩
          rw [HG.out, hkf]; rfl
        have HF := Lib.hid hf; clear hf
        have hbk : (ak.toList == key.toList) = false := by simpa using hkk
        go_wp2_with fail
        go_ret
        exact ⟨ret_bool (by rw [HF.out]), (Ext.trans X0.out K2.out).alloc (by have := X0.out.size; have := K2.out.size; omega) _⟩
    · obtain rfl : k = acts.length := by omega
      have hC := List.take_length (l := acts)
      rw [hC] at K1 ⊢
      have K1' := K1.out
      have hr2 : ∀ W, Ext wr W → Rows 3 encRd W.heap.size W yo reads := fun W hW => by
        have hx := Ext.trans (Ext.trans X0.out K2.out) hW
        exact (HR.out.ext hx).mono hx.size
      have hcont : ∀ W, Ext wr W → Calls Tryz.prog 125 #[.slice yo reads.length yc, .func (.func 126) #[] #[.pointer (some ⟨N, 0, none⟩)]] W fun e w' => e = .returned (.bool (readsBad key reads)) ∧ Ext W w' := fun W hW =>
        (containsR_calls (fun _ => readBad key) N reads yo yc W hrn (hr2 W hW) (fun i x hi W2 hW2 => readBad_calls x key N W2 (by have := (Ext.trans (Ext.trans K2.out hW) hW2).size; omega) (HCX.out 0 W2 (Ext.trans (Ext.trans K2.out hW) hW2)))).mono fun e w' ⟨b, he, hb, hx⟩ => ⟨by rw [he, readsBad_iff key reads b hb], hx⟩
      have HC := Lib.hid hcont
      clear hcont hr2 hC K1'
      go_wp2_with fail
      refine (HC.out _ (Below.refl _ _)).mono ?_
      rintro e w3 ⟨rfl, hx3⟩
      have X3 := Lib.hid (Ext.trans K2.out hx3)
      have HG2 : Hid (res = (nameB cl nm && (rightsB acts && (!readsBad key reads && (((reads.length : Int) == (cntR acts : Int)) && ((put == putR acts) && (decide ((value.size : Int) ≤ 20) && (put || value.toList.isEmpty)))))))) := Lib.hid (by
        rw [HG.out, K1.out, Bool.true_and, show (((reads.length : Int) == (cntR acts : Int)) = decide (reads.length = cntR acts)) from by rw [Bool.eq_iff_iff, beq_iff_eq, decide_eq_true_eq]; omega])
      have HC1 : Hid (∀ W, Calls Tryz.prog 127 #[.agg #[.int .i64 cl, .int .i64 nm]] W fun e w' => e = .returned (.bool (nameB cl nm)) ∧ Ext W w') := Lib.hid fun W => name_calls cl nm W
      have HC2 : Hid (∀ W, Ext w3 W → Calls Tryz.prog 128 #[.slice xo acts.length xc] W fun e w' => e = .returned (.bool (rightsB acts)) ∧ Ext W w') := Lib.hid fun W hW => by
        have hx := Ext.trans (Ext.trans X0.out X3.out) hW
        exact rights_calls right_calls acts xo xc W han HOK.out ((HA.out.ext hx).mono hx.size)
      have hcells : ∀ W, Ext w3 W → W.cell? ⟨N, 0, none⟩ = some (.string key) ∧ W.cell? ⟨N, 1, none⟩ = some (.int .i64 cl) ∧ W.cell? ⟨N, 2, none⟩ = some (.int .i64 nm) ∧ W.cell? ⟨N, 3, none⟩ = some (.slice xo acts.length xc) ∧ W.cell? ⟨N, 4, none⟩ = some (.slice yo reads.length yc) ∧ W.cell? ⟨N, 5, none⟩ = some (.bool put) ∧ W.cell? ⟨N, 6, none⟩ = some (.string value) := fun W hW =>
        ⟨HCX.out 0 W (Ext.trans X3.out hW), HCX.out 1 W (Ext.trans X3.out hW), HCX.out 2 W (Ext.trans X3.out hW), HCX.out 3 W (Ext.trans X3.out hW), HCX.out 4 W (Ext.trans X3.out hW), HCX.out 5 W (Ext.trans X3.out hW), HCX.out 6 W (Ext.trans X3.out hW)⟩
      obtain ⟨k0, k1, k2, k3, k4, k5, k6⟩ := hcells w3 (Below.refl _ _)
      have HCC := Lib.hid hcells
      clear hcells
      have FX := Lib.hid (fun W (hW : Ext w3 W) => Ext.trans (Ext.trans X0.out X3.out) hW)
      clear HC hx3 HG K1 c0 c1 c2 c3 c4 c5 c6 HCX HOK HA HR B0
      generalize nameB cl nm = b1 at *
      generalize rightsB acts = b2 at *
      generalize readsBad key reads = b3 at *
      generalize putR acts = pu at *
      generalize cntR acts = cn at *
      have hch : b1 = false ∨ b1 = true ∧ (b2 = false ∨ b2 = true ∧ (b3 = true ∨ b3 = false ∧ (((reads.length : Int) == (cn : Int)) = false ∨ ((reads.length : Int) == (cn : Int)) = true ∧ ((put = false ∧ pu = true) ∨ (put = true ∧ pu = false) ∨ (put = false ∧ pu = false ∧ (decide ((value.size : Int) ≤ 20) = false ∨ decide ((value.size : Int) ≤ 20) = true ∧ (value.toList.isEmpty = false ∨ value.toList.isEmpty = true))) ∨ (put = true ∧ pu = true ∧ (decide ((value.size : Int) ≤ 20) = false ∨ decide ((value.size : Int) ≤ 20) = true)))))) := by
        generalize ((reads.length : Int) == (cn : Int)) = b4
        generalize decide ((value.size : Int) ≤ 20) = b5
        generalize value.toList.isEmpty = b6
        cases b1 <;> cases b2 <;> cases b3 <;> cases b4 <;> cases b5 <;> cases b6 <;> cases put <;> cases pu <;> simp
      rcases hch with rfl | ⟨rfl, rfl | ⟨rfl, rfl | ⟨rfl, h4 | ⟨h4, ⟨rfl, rfl⟩ | ⟨rfl, rfl⟩ | ⟨rfl, rfl, h5 | ⟨h5, h6 | h6⟩⟩ | ⟨rfl, rfl, h5 | h5⟩⟩⟩⟩⟩
      all_goals
        have hres := HG2.out
        (try simp only [h4] at hres)
        (try simp only [h5] at hres)
        (try simp only [h6] at hres)
        simp at hres
        subst hres
        clear HG2
        go_wp2_with (first
          | (go_at_call 127; refine (HC1.out _).mono ?_; rintro e wa ⟨rfl, hxa⟩; obtain ⟨a0, a1, a2, a3, a4, a5, a6⟩ := HCC.out wa hxa; have XA := Lib.hid hxa; clear hxa)
          | (go_at_call 128; refine (HC2.out _ XA.out).mono ?_; rintro e wb ⟨rfl, hxb⟩; obtain ⟨q0, q1, q2, q3, q4, q5, q6⟩ := HCC.out wb (Ext.trans XA.out hxb); have XB := Lib.hid (Ext.trans XA.out hxb); clear hxb))
        go_ret
        first | exact ⟨ret_bool rfl, FX.out _ XB.out⟩ | exact ⟨ret_bool rfl, FX.out _ XA.out⟩
set_option maxRecDepth 100000 in
theorem holdRight1_calls (v : HoldV) (d : HoldD) (no : Nat → Prop) (w : World) (hv : v.is w no d) (hok : d.ok) :
    Calls Tryz.prog 70 #[.agg (encHV v).toArray] w fun e w' => e = .returned (.bool (!holdB d)) ∧ Ext w w' := by
  have HX := Lib.hid (show Ext w (w.alloc (.cells (encHV v).toArray 35)) from (Below.refl _ w).alloc (Nat.le_refl _) _)
  have HC := Lib.hid (holdRight_calls v d no _ (hv.ext HX.out) hok)
  clear hv hok
  generalize holdB d = res at HC ⊢
  obtain ⟨key, cl, nm, xo, xn, xc, yo, yn, yc, put, value⟩ := v
  simp only [encHV] at HC HX ⊢
  go_enter Tryz.func70, Tryz.ntmps70
  go_wp2_with fail
  refine HC.out.mono ?_
  rintro e w' ⟨rfl, hx⟩
  have X2 := Lib.hid (Ext.trans HX.out hx)
  clear hx HC HX
  go_wp2_with fail
  go_ret
  exact ⟨ret_bool rfl, X2.out⟩
def holdsB (ds : List HoldD) : Bool := ds.all holdB
theorem holdsRight_calls (l : List HoldV) (ds : List HoldD) (no : Nat → Prop) (ao : Option Addr) (cap : Nat) (w : World) (hl : l.length ≤ 1000000) (hr : Rows 7 encHV w.heap.size w ao l) (hd : HoldsAre w no l ds) (hok : ∀ d ∈ ds, d.ok) :
    Calls Tryz.prog 25 #[.slice ao l.length cap] w fun e w' => e = .returned (.bool (holdsB ds)) ∧ Ext w w' := by
  have hq : ∀ (i : Nat) (x : HoldV), l[i]? = some x → ∀ W, Ext w W → Calls Tryz.prog 70 #[.agg (encHV x).toArray] W fun e w' => e = .returned (.bool (match ds[i]? with | some d => !holdB d | none => false)) ∧ Ext W w' := by
    intro i x hi W hW
    obtain ⟨d, hdi, hx⟩ := hd.at i x hi
    rw [hdi]
    exact holdRight1_calls x d no W (hx.ext hW) (hok d (List.mem_of_getElem? hdi))
  have hc := containsH_calls (fun i _ => match ds[i]? with | some d => !holdB d | none => false) l ao cap w hl hr hq
  have hres : ∀ b : Bool, (b = false ↔ ∀ (i : Nat) (x : HoldV), l[i]? = some x → (match ds[i]? with | some d => !holdB d | none => false) = false) → (!b) = holdsB ds := by
    intro b hb
    have hlen := hd.len
    have h2 : (b = false) ↔ holdsB ds = true := by
      rw [hb]
      unfold holdsB
      rw [List.all_eq_true]
      constructor
      · intro h d hdm
        obtain ⟨i, hi⟩ := List.getElem?_of_mem hdm
        have hil := (List.getElem?_eq_some_iff.1 hi).1
        have := h i l[i] (List.getElem?_eq_getElem (by omega))
        rw [hi] at this
        simpa using this
      · intro h i x hx
        cases hi : ds[i]? with
        | none => rfl
        | some d => simp [h d (List.mem_of_getElem? hi)]
    cases b <;> cases hh : holdsB ds <;> simp_all
  have HC := Lib.hid hc; have HRES := Lib.hid hres
  clear hc hq hr hd hok hres
  generalize holdsB ds = res at HRES ⊢
  go_enter Tryz.func25, Tryz.ntmps25
  go_wp2_with fail
  refine HC.out.mono ?_
  rintro e w' ⟨b, rfl, hb, hx⟩
  have X2 := Lib.hid hx; have HB := Lib.hid hb; clear hx hb
  go_wp2_with fail
  go_ret
  exact ⟨ret_bool (HRES.out b HB.out), X2.out⟩
def valC (c : UInt8) : Bool := keyC c || decide (c.toNat = 45)
theorem textL_eq (l : List UInt8) : textL l = l.all valC := by
  unfold textL
  have hm : ∀ c : UInt8, c ∈ alnumL ↔ valC c = true := by
    intro c
    have hc : c = UInt8.ofNat c.toNat := by simp
    have hlt := c.toNat_lt
    constructor
    · intro h
      simp only [alnumL, List.mem_cons, List.not_mem_nil, or_false] at h
      rcases h with rfl | rfl | rfl | rfl | rfl | rfl | rfl | rfl | rfl | rfl | rfl | rfl | rfl | rfl | rfl | rfl | rfl | rfl | rfl | rfl | rfl | rfl | rfl | rfl | rfl | rfl | rfl | rfl | rfl | rfl | rfl | rfl | rfl | rfl | rfl | rfl | rfl <;> decide
    · intro h
      simp only [valC, keyC, Bool.or_eq_true, decide_eq_true_eq] at h
      have key : ∀ n : Fin 256, (97 ≤ n.val ∧ n.val ≤ 122 ∨ 48 ≤ n.val ∧ n.val ≤ 57) ∨ n.val = 45 → UInt8.ofNat n.val ∈ alnumL := by decide +kernel
      rw [hc]
      exact key ⟨c.toNat, hlt⟩ h
  rw [Bool.eq_iff_iff, decide_eq_true_eq, trim_nil, List.all_eq_true]
  exact ⟨fun h c hc => (hm c).1 (h c hc), fun h c hc => (hm c).2 (h c hc)⟩
def okText (s : ByteArray) : Bool := textL s.data.toList && decide (s.size ≤ 20)
set_option maxRecDepth 100000 in
set_option maxHeartbeats 400000 in
theorem refText_calls (s : ByteArray) (w : World) (hs : s.size ≤ 140737488351232) : Calls Tryz.prog 192 #[.string s] w fun e w' => e = .returned (.bool (okText s)) ∧ w = w' := by
  have HZ := Lib.hid (Lib.size_eq s)
  go_enter Tryz.func192, Tryz.ntmps192
  go_wp2
  go_loop [3] (fun i => ∃ k : Nat, k ≤ s.size ∧ i = .int .i64 k ∧ (s.data.toList.take k).all valC = true) (fun i => s.size - (intOf i).toNat)
  case atStart => exact ⟨0, by omega, rfl, by simp⟩
  case round =>
    obtain ⟨k, hk, rfl, hall⟩ := hrel
    have HA := Lib.hid hall; clear hall
    by_cases hlt : k < s.size
    · have htk : s.data.toList.take (k + 1) = s.data.toList.take k ++ [s[k]] := by
        rw [List.take_succ_eq_append_getElem (by rw [← HZ.out]; exact hlt)]; rfl
      have hmem : s[k] ∈ s.data.toList := by
        have : s.data.toList[k]'(by rw [← HZ.out]; exact hlt) = s[k] := rfl
        rw [← this]; exact List.getElem_mem _
      have HT := Lib.hid htk; have HM := Lib.hid hmem
      clear htk hmem
      cases hv : valC s[k]
      · have e1 : s.data.toList.all valC = false := by
          rw [List.all_eq_false]; exact ⟨s[k], HM.out, by simp [hv]⟩
        have E1 := Lib.hid e1
        have h45 : ((s[k].toNat : Int) == 45) = false := by
          unfold valC at hv; simp at hv; simp; omega
        have hcases : s[k].toNat < 48 ∨ (57 < s[k].toNat ∧ s[k].toNat < 97) ∨ 122 < s[k].toNat := by
          unfold valC keyC at hv; simp at hv; omega
        clear hv e1
        rcases hcases with h | ⟨ha, hb⟩ | h
        all_goals
          go_wp2
          all_goals first | (go_ret; exact ⟨ret_bool (by unfold okText; rw [textL_eq, E1.out]; rfl), rfl⟩) | (exfalso; rename_i h; simp at h; omega)
      · have e1 : (s.data.toList.take (k + 1)).all valC = true := by rw [HT.out, List.all_append, HA.out]; simp [hv]
        have E1 := Lib.hid e1
        have hcases : (48 ≤ s[k].toNat ∧ s[k].toNat ≤ 57) ∨ (97 ≤ s[k].toNat ∧ s[k].toNat ≤ 122) ∨ s[k].toNat = 45 := by
          unfold valC keyC at hv; simp at hv; omega
        clear hv e1
        rcases hcases with ⟨ha, hb⟩ | ⟨ha, hb⟩ | h45
        · have hd : decide ((s[k].toNat : Int) ≤ 57) = true := by simp; omega
          go_wp2
          go_round
          case rel => exact ⟨k + 1, by omega, by go_num, E1.out⟩
          case measure => simp [intOf]; omega
        · have hd : decide ((s[k].toNat : Int) ≤ 122) = true := by simp; omega
          go_wp2
          go_round
          case rel => exact ⟨k + 1, by omega, by go_num, E1.out⟩
          case measure => simp [intOf]; omega
        · have hd : ((s[k].toNat : Int) == 45) = true := by simp; omega
          have hlo : s[k].toNat < 48 := by omega
          clear h45
          go_wp2
          all_goals first
            | (go_round
               case rel => exact ⟨k + 1, by omega, by go_num, E1.out⟩
               case measure => simp [intOf]; omega)
            | (exfalso; rename_i h; simp at h; omega)
    · have e1 : s.data.toList.all valC = true := by
        have := HA.out
        rwa [List.take_of_length_le (by rw [← HZ.out]; omega)] at this
      have E1 := Lib.hid e1; clear e1
      go_wp2
      go_ret
      exact ⟨ret_bool (by unfold okText; rw [textL_eq, E1.out, Bool.true_and]; exact decide_eq_decide.2 (by omega)), rfl⟩
set_option maxRecDepth 100000 in
set_option maxHeartbeats 2000000 in
theorem one_calls (a : ActD) (w : World) (hok : a.ok) : Calls Tryz.prog 161 #[.agg (encAct a).toArray] w fun e w' => e = .returned (.bool (rightB a)) ∧ Ext w w' := by
  obtain ⟨kd, key, val, num⟩ := a
  obtain ⟨_, _, hk, hvs, _, _⟩ := hok
  simp only at hk hvs
  have HX := Lib.hid (show Ext w (w.alloc (.cells #[.int .u8 kd, .string key, .string val, .int .i64 num] 98)) from (Below.refl _ w).alloc (Nat.le_refl _) _)
  unfold encAct
  have hem : val.toList.isEmpty = decide (val.data.toList = []) := by
    rw [Lib.toList_data]
    cases val.data.toList <;> simp
  have hnz : (num == 0) = decide (num = 0) := by rw [Bool.eq_iff_iff]; simp
  have hsz := Lib.size_eq val
  by_cases k1 : kd = 1
  · subst k1
    cases hK : keyL key.data.toList <;> cases hE : decide (val.data.toList = []) <;> cases hN : decide (num = 0) <;> rw [hE] at hem <;> rw [hN] at hnz
    all_goals
      have E0 : Hid (rightB ⟨1, key, val, num⟩ = _) := Lib.hid (show rightB ⟨1, key, val, num⟩ = (keyL key.data.toList && (decide (val.data.toList = []) && decide (num = 0))) from rfl)
      rw [hK, hE, hN] at E0
      have HK := Lib.hid hK
      clear hK hE hN hsz
      go_enter Tryz.func161, Tryz.ntmps161
      go_wp2_with (go_at_call 191; refine (refKey_calls _ _ hk).mono ?_; rw [HK.out]; rintro e w' ⟨rfl, rfl⟩)
      go_ret
      exact ⟨ret_bool (by rw [E0.out]; rfl), HX.out⟩
  · by_cases k2 : kd = 2
    · subst k2
      cases hK : keyL key.data.toList <;> cases hT : okText val <;> cases hN : decide (num = 0) <;> rw [hN] at hnz
      all_goals
        have E0 : Hid (rightB ⟨2, key, val, num⟩ = (keyL key.data.toList && (okText val && decide (num = 0)))) := Lib.hid (by
          show (keyL key.data.toList && (decide (val.data.toList.length ≤ 20) && textL val.data.toList && decide (num = 0))) = _
          unfold okText
          rw [hsz, Bool.and_comm (textL val.data.toList)])
        rw [hK, hT, hN] at E0
        have HK := Lib.hid hK; have HT := Lib.hid hT
        clear hK hT hN hsz hem
        go_enter Tryz.func161, Tryz.ntmps161
        go_wp2_with (first
          | (go_at_call 191; refine (refKey_calls _ _ hk).mono ?_; rw [HK.out]; rintro e w' ⟨rfl, rfl⟩)
          | (go_at_call 192; refine (refText_calls _ _ hvs).mono ?_; rw [HT.out]; rintro e w' ⟨rfl, rfl⟩))
        go_ret
        exact ⟨ret_bool (by rw [E0.out]; rfl), HX.out⟩
    · by_cases k3 : kd = 3
      · subst k3
        cases hK : keyL key.data.toList <;> cases hE : decide (val.data.toList = []) <;> cases hL : decide (-1073741824 ≤ num) <;> cases hH : decide (num ≤ 1073741824) <;> rw [hE] at hem
        all_goals
          have E0 : Hid (rightB ⟨3, key, val, num⟩ = (keyL key.data.toList && (decide (val.data.toList = []) && (decide (-1073741824 ≤ num) && decide (num ≤ 1073741824))))) := Lib.hid (by
            show (keyL key.data.toList && (decide (val.data.toList = []) && decide (num = cutI num))) = _
            congr 2
            rw [Bool.eq_iff_iff]
            unfold cutI
            simp only [decide_eq_true_eq, Bool.and_eq_true]
            omega)
          rw [hK, hE, hL, hH] at E0
          have HK := Lib.hid hK
          clear hK hE hsz hnz
          go_enter Tryz.func161, Tryz.ntmps161
          go_wp2_with (go_at_call 191; refine (refKey_calls _ _ hk).mono ?_; rw [HK.out]; rintro e w' ⟨rfl, rfl⟩)
          go_ret
          exact ⟨ret_bool (by rw [E0.out]; rfl), HX.out⟩
      · have E0 : Hid (rightB ⟨kd, key, val, num⟩ = false) := Lib.hid (by
          show (keyL key.data.toList && kindB ⟨kd, key, val, num⟩) = false
          unfold kindB
          simp [k1, k2, k3])
        have e1 : (kd == 1) = false := by simpa using k1
        have e2 : (kd == 2) = false := by simpa using k2
        have e3 : (kd == 3) = false := by simpa using k3
        clear k1 k2 k3 hsz hnz hem
        go_enter Tryz.func161, Tryz.ntmps161
        go_wp2_with fail
        go_ret
        exact ⟨ret_bool (by rw [E0.out]), HX.out⟩
set_option maxRecDepth 100000 in
set_option maxHeartbeats 800000 in
theorem refRight_calls (l : List ActD) (ao : Option Addr) (cap : Nat) (w : World) (hl : l.length ≤ 1000000) (hok : ∀ a ∈ l, a.ok) (hr : Rows 4 encAct w.heap.size w ao l) :
    Calls Tryz.prog 130 #[.slice ao l.length cap] w fun e w' => e = .returned (.bool (rightsB l)) ∧ Ext w w' := by
  have HR := Lib.hid hr; have H0 := Lib.hid hok
  clear hr hok
  go_enter Tryz.func130, Tryz.ntmps130
  go_wp2_with fail
  go_loopw [3] (fun i wr => ∃ (k : Nat), k ≤ l.length ∧ i = .int .i64 k ∧ (l.take k).all rightB = true ∧ Ext w wr) (fun i _ => l.length - (intOf i).toNat)
  case atStart => exact ⟨0, by omega, rfl, by simp, Below.refl _ _⟩
  case round =>
    obtain ⟨k, hk, rfl, ha, hx⟩ := hrel
    have K1 := Lib.hid ha; have K2 := Lib.hid hx
    clear ha hx
    by_cases hlt : k < l.length
    · obtain ⟨x, hx⟩ : ∃ x, l[k]? = some x := ⟨_, List.getElem?_eq_getElem hlt⟩
      have hxok := H0.out x (List.mem_of_getElem? hx)
      have htk : (l.take (k + 1)).all rightB = ((l.take k).all rightB && rightB x) := by rw [List.take_add_one, hx]; simp
      obtain ⟨b, off, rfl, hb, hcell⟩ := HR.out (by intro e; rw [e] at hlt; simp at hlt)
      have hcx := hcell k x hx
      have hmove : ∀ j, wr.cell? ⟨b, j, none⟩ = w.cell? ⟨b, j, none⟩ := fun j => K2.out.cell (p := ⟨b, j, none⟩) hb
      have hmem : x ∈ l := List.mem_of_getElem? hx
      have M := Lib.hid hmem; have TK := Lib.hid htk
      have ho := one_calls x wr hxok
      obtain ⟨kd, key, val, num⟩ := x
      have d0 := (hmove _).trans (hcx 0 _ rfl); have d1 := (hmove _).trans (hcx 1 _ rfl); have d2 := (hmove _).trans (hcx 2 _ rfl); have d3 := (hmove _).trans (hcx 3 _ rfl)
      simp only [Nat.add_zero] at d0
      have HO := Lib.hid ho
      have hi0 : (0 : Int) ≤ (k : Int) := by omega
      have hi1 : (k : Int) < (l.length : Int) := by omega
      clear hcx hmove hcell hmem htk hxok hx ho
      go_wp2_with fail
      refine HO.out.mono ?_
      rintro e w' ⟨rfl, hx2⟩
      have X2 := Lib.hid hx2; clear hx2
      cases hrb : rightB ⟨kd, key, val, num⟩
      · have RB := Lib.hid hrb; clear hrb
        go_wp2_with fail
        go_ret
        have : l.all rightB = false := by rw [List.all_eq_false]; exact ⟨_, M.out, by simp [RB.out]⟩
        exact ⟨ret_bool (by unfold rightsB; rw [this]; simp), Ext.trans K2.out X2.out⟩
      · have RB := Lib.hid hrb; clear hrb
        go_wp2_with fail
        go_roundw
        case rel => exact ⟨k + 1, by omega, by go_num, by rw [TK.out, K1.out, RB.out]; rfl, Ext.trans K2.out X2.out⟩
        case measure => simp [intOf]; omega
    · have hall : l.all rightB = true := by have h := K1.out; rwa [List.take_of_length_le (by omega)] at h
      have E0 : Hid (rightsB l = (decide ((1 : Int) ≤ (l.length : Int)) && decide ((l.length : Int) ≤ 6))) := Lib.hid (by
        unfold rightsB
        rw [hall, Bool.and_true]
        congr 1
        · exact decide_eq_decide.2 (by omega)
        · exact decide_eq_decide.2 (by omega))
      clear hall
      cases h1 : decide ((1 : Int) ≤ (l.length : Int)) <;> cases h2 : decide ((l.length : Int) ≤ 6) <;> rw [h1, h2] at E0
      all_goals
        go_wp2_with fail
        go_ret
        exact ⟨ret_bool (by rw [E0.out]; rfl), K2.out⟩
theorem holdB_ref (d : HoldD) : holdB d = (nameB d.cl d.nm && (rightsB d.acts && (decide ((d.value.size : Int) ≤ 20) && ((d.put || d.value.toList.isEmpty) && (keysR d.key d.acts && (!readsBad d.key d.reads && (decide (d.reads.length = cntR d.acts) && (d.put == putR d.acts)))))))) := by
  unfold holdB
  generalize keysR d.key d.acts = a1
  generalize nameB d.cl d.nm = a2
  generalize rightsB d.acts = a3
  generalize readsBad d.key d.reads = a4
  generalize decide (d.reads.length = cntR d.acts) = a5
  generalize (d.put == putR d.acts) = a6
  generalize decide ((d.value.size : Int) ≤ 20) = a7
  generalize (d.put || d.value.toList.isEmpty) = a8
  cases a1 <;> cases a2 <;> cases a3 <;> cases a4 <;> cases a5 <;> cases a6 <;> cases a7 <;> cases a8 <;> rfl
theorem readsBad_succ (s : ByteArray) (l : List Rd) (k : Nat) (x : Rd) (h : l[k]? = some x) : readsBad s (l.take (k + 1)) = (readsBad s (l.take k) || readBad s x) := by
  unfold readsBad
  rw [List.take_add_one, h, Option.toList_some, List.any_append]; simp
set_option maxRecDepth 100000 in
set_option maxHeartbeats 3200000 in
theorem refOneH_calls (v : HoldV) (d : HoldD) (no : Nat → Prop) (w : World) (hv : v.is w no d) (hok : d.ok) :
    Calls Tryz.prog 72 #[.agg (encHV v).toArray] w fun e w' => e = .returned (.bool (holdB d)) ∧ Ext w w' := by
  obtain ⟨key, cl, nm, xo, xn, xc, yo, yn, yc, put, value⟩ := v
  obtain ⟨key', cl', nm', acts, reads, put', value'⟩ := d
  obtain ⟨e1, e2, e3, e4, e5, e6, e7, ha, hr⟩ := hv
  simp only at e1 e2 e3 e4 e5 e6 e7 ha hr
  subst e1 e2 e3 e4 e5 e6 e7
  obtain ⟨hok, han, hrn, _, _, _⟩ := hok
  simp only at hok han hrn
  have HX := Lib.hid (show Ext w (w.alloc (.cells #[.string key, .int .i64 cl, .int .i64 nm, .slice xo acts.length xc, .slice yo reads.length yc, .bool put, .string value] 35)) from (Below.refl _ w).alloc (Nat.le_refl _) _)
  have HB := Lib.hid (Blk.new w [.string key, .int .i64 cl, .int .i64 nm, .slice xo acts.length xc, .slice yo reads.length yc, .bool put, .string value] 35)
  have HA := Lib.hid ha.rows; have HR := Lib.hid hr.rows; have HOK := Lib.hid hok
  have HG : Hid (holdB ⟨key, cl, nm, acts, reads, put, value⟩ = (nameB cl nm && (rightsB acts && (decide ((value.size : Int) ≤ 20) && ((put || value.toList.isEmpty) && (keysR key acts && (!readsBad key reads && (decide (reads.length = cntR acts) && (put == putR acts))))))))) := Lib.hid (holdB_ref _)
  clear ha hr hok
  generalize holdB _ = res at HG ⊢
  unfold encHV
  go_enter Tryz.func72, Tryz.ntmps72
  go_wp2_with fail
  have hbx := HB.out; have hxx := HX.out
  generalize w.alloc _ = w0 at hbx hxx ⊢
  have hN := hbx.lt
  generalize w.heap.size = N at hbx hN ⊢
  have B0 := Lib.hid hbx; have X0 := Lib.hid hxx
  clear hbx hxx HB HX
  have hcx : ∀ (i : Nat) W, Ext w0 W → W.cell? ⟨N, i, none⟩ = [.string key, .int .i64 cl, .int .i64 nm, .slice xo acts.length xc, .slice yo reads.length yc, .bool put, .string value][i]? := fun i W hW => (B0.out.ext' hW).cell i
  have HCX := Lib.hid hcx; clear hcx
  have HC1 : Hid (∀ W, Calls Tryz.prog 129 #[.agg #[.int .i64 cl, .int .i64 nm]] W fun e w' => e = .returned (.bool (nameB cl nm)) ∧ Ext W w') := Lib.hid fun W => refName_calls cl nm W
  have HC2 : Hid (∀ W, Ext w0 W → Calls Tryz.prog 130 #[.slice xo acts.length xc] W fun e w' => e = .returned (.bool (rightsB acts)) ∧ Ext W w') := Lib.hid fun W hW => by
    have hx := Ext.trans X0.out hW
    exact refRight_calls acts xo xc W han HOK.out ((HA.out.ext hx).mono hx.size)
  have k0 := HCX.out 0 w0 (Below.refl _ _); have k1 := HCX.out 1 w0 (Below.refl _ _); have k2 := HCX.out 2 w0 (Below.refl _ _); have k3 := HCX.out 3 w0 (Below.refl _ _); have k4 := HCX.out 4 w0 (Below.refl _ _); have k5 := HCX.out 5 w0 (Below.refl _ _); have k6 := HCX.out 6 w0 (Below.refl _ _)
  simp only [List.getElem?_cons_zero, List.getElem?_cons_succ] at k0 k1 k2 k3 k4 k5 k6
  generalize nameB cl nm = b1 at *
  generalize hb2 : rightsB acts = b2 at *
  have hch : b1 = false ∨ b1 = true ∧ (b2 = false ∨ b2 = true ∧ (decide (20 < (value.size : Int)) = true ∨ decide (20 < (value.size : Int)) = false ∧ (put = false ∧ value.toList.isEmpty = false ∨ put = true ∨ put = false ∧ value.toList.isEmpty = true))) := by
    generalize decide (20 < (value.size : Int)) = b5
    generalize value.toList.isEmpty = b6
    cases b1 <;> cases b2 <;> cases b5 <;> cases b6 <;> cases put <;> simp
  have hle : decide ((value.size : Int) ≤ 20) = !decide (20 < (value.size : Int)) := by
    by_cases h : (value.size : Int) ≤ 20
    · rw [decide_eq_true h, decide_eq_false (by omega)]; rfl
    · rw [decide_eq_false h, decide_eq_true (by omega)]; rfl
  have hG := HG.out
  rw [hle] at hG
  have HB2 := Lib.hid hb2
  clear HG hle hb2
  rcases hch with rfl | ⟨rfl, rfl | ⟨rfl, h5 | ⟨h5, ⟨rfl, h6⟩ | rfl | ⟨rfl, h6⟩⟩⟩⟩
  all_goals
    (try simp only [h5] at hG)
    (try simp only [h6] at hG)
    simp only [Bool.false_and, Bool.true_and, Bool.not_true, Bool.not_false, Bool.true_or, Bool.false_or, Bool.or_false] at hG
    have HG := Lib.hid hG
    clear hG
    go_wp2_with (first
      | (go_at_call 129; refine (HC1.out _).mono ?_; rintro e wa ⟨rfl, hxa⟩; have a0 := HCX.out 0 wa hxa; have a1 := HCX.out 1 wa hxa; have a2 := HCX.out 2 wa hxa; have a3 := HCX.out 3 wa hxa; have a4 := HCX.out 4 wa hxa; have a5 := HCX.out 5 wa hxa; have a6 := HCX.out 6 wa hxa; simp only [List.getElem?_cons_zero, List.getElem?_cons_succ] at a0 a1 a2 a3 a4 a5 a6; have XA := Lib.hid hxa; clear hxa)
      | (go_at_call 130; refine (HC2.out _ XA.out).mono ?_; rintro e wb ⟨rfl, hxb⟩; have q0 := HCX.out 0 wb (Ext.trans XA.out hxb); have q1 := HCX.out 1 wb (Ext.trans XA.out hxb); have q2 := HCX.out 2 wb (Ext.trans XA.out hxb); have q3 := HCX.out 3 wb (Ext.trans XA.out hxb); have q4 := HCX.out 4 wb (Ext.trans XA.out hxb); have q5 := HCX.out 5 wb (Ext.trans XA.out hxb); have q6 := HCX.out 6 wb (Ext.trans XA.out hxb); simp only [List.getElem?_cons_zero, List.getElem?_cons_succ] at q0 q1 q2 q3 q4 q5 q6; have XB := Lib.hid (Ext.trans XA.out hxb); clear hxb))
    first
    | (go_ret
       first | exact ⟨ret_bool (by rw [HG.out]), Ext.trans X0.out XB.out⟩ | exact ⟨ret_bool (by rw [HG.out]), Ext.trans X0.out XA.out⟩)
    | skip
  all_goals
    clear HC1 HC2 k0 k1 k2 k3 k4 k5 k6 a0 a1 a2 a3 a4 a5 a6 q0 q1 q2 q3 q4 q5 q6
    go_loopw [3, 4, 5] (fun vr vp vk wr => ∃ (k : Nat), k ≤ acts.length ∧ vr = .int .i64 (cntR (acts.take k)) ∧ vp = .bool (putR (acts.take k)) ∧ vk = .int .i64 k ∧ keysR key (acts.take k) = true ∧ Ext w0 wr) (fun _ _ vk _ => acts.length - (intOf vk).toNat)
    case atStart => exact ⟨0, by omega, rfl, rfl, rfl, rfl, XB.out⟩
    case round =>
      obtain ⟨k, hk, rfl, rfl, rfl, hkr, hx⟩ := hrel
      have K1 := Lib.hid hkr; have K2 := Lib.hid hx
      clear hkr hx
      have c0 := HCX.out 0 wr K2.out; have c1 := HCX.out 1 wr K2.out; have c2 := HCX.out 2 wr K2.out; have c3 := HCX.out 3 wr K2.out; have c4 := HCX.out 4 wr K2.out; have c5 := HCX.out 5 wr K2.out; have c6 := HCX.out 6 wr K2.out
      simp only [List.getElem?_cons_zero, List.getElem?_cons_succ] at c0 c1 c2 c3 c4 c5 c6
      by_cases hlt : k < acts.length
      · obtain ⟨x, hx⟩ : ∃ x, acts[k]? = some x := ⟨_, List.getElem?_eq_getElem hlt⟩
        have hcs := cntR_succ acts k x hx; have hps := putR_succ acts k x hx; have hks := keysR_succ key acts k x hx
        have hcl := cntR_le (acts.take k)
        rw [List.length_take] at hcl
        have HX := Lib.hid hx
        obtain ⟨b, off, rfl, hb, hcell⟩ := HA.out (by intro e; rw [e] at hlt; simp at hlt)
        have hcx := hcell k x hx
        have hmove : ∀ j, wr.cell? ⟨b, j, none⟩ = w.cell? ⟨b, j, none⟩ := fun j => (Ext.trans X0.out K2.out).cell (p := ⟨b, j, none⟩) hb
        obtain ⟨kd, ak, av, an⟩ := x
        have d0 := (hmove _).trans (hcx 0 _ rfl); have d1 := (hmove _).trans (hcx 1 _ rfl)
        simp only [Nat.add_zero] at d0
        have ii0 : (0 : Int) ≤ (k : Int) := by omega
        have i1 : (k : Int) < (acts.length : Int) := by omega
        have CS := Lib.hid hcs; have PS := Lib.hid hps; have KS := Lib.hid hks
        generalize putR (acts.take k) = pk at *
        generalize hck : cntR (acts.take k) = ck at *
        clear hcell hcx hmove hx hcs hps hks hck
        by_cases hkk : ak.toList = key.toList
        · have hks2 : keysR key (acts.take (k + 1)) = true := by rw [KS.out, K1.out]; simpa using hkk
          have KS2 := Lib.hid hks2
          have hbk : (ak.toList == key.toList) = true := by simpa using hkk
          clear hks2
          by_cases hk2 : kd = 2
          · subst hk2
            have hcs2 := CS.out; have hps2 := PS.out
            simp only [if_true, Nat.add_zero] at hcs2 hps2
            have CS2 := Lib.hid hcs2; have PS2 := Lib.hid hps2; clear hcs2 hps2
            cases pk
            all_goals
              go_wp2_with fail
              go_region
              go_wp2_with fail
              go_roundw
              case rel => exact ⟨k + 1, by omega, by rw [CS2.out], by rw [PS2.out]; rfl, by go_num, KS2.out, K2.out.drew⟩
              case measure => simp [intOf]; omega
          · have hcs2 := CS.out
            rw [if_neg hk2] at hcs2
            have CS2 := Lib.hid hcs2; clear hcs2
            have hb2 : (kd == 2) = false := by simpa using hk2
            by_cases hk1 : kd = 1
            · subst hk1
              have hps2 := PS.out
              cases pk
              all_goals
                simp at hps2
                have PS2 := Lib.hid hps2; clear hps2
                go_wp2_with fail
                go_region
                go_wp2_with fail
                go_roundw
                case rel => exact ⟨k + 1, by omega, by rw [CS2.out]; go_num, by rw [PS2.out], by go_num, KS2.out, K2.out.drew⟩
                case measure => simp [intOf]; omega
            · have hb1 : (kd == 1) = false := by simpa using hk1
              have hps2 := PS.out
              cases pk
              all_goals
                simp [hk1] at hps2
                have PS2 := Lib.hid hps2; clear hps2
                go_wp2_with fail
                go_region
                go_wp2_with fail
                go_roundw
                case rel => exact ⟨k + 1, by omega, by rw [CS2.out]; go_num, (by rw [PS2.out]; try simp [hk1]), by go_num, KS2.out, K2.out.drew⟩
                case measure => simp [intOf]; omega
        · have hf : res = false := by
            have hkf : keysR key acts = false := by
              unfold keysR; rw [List.all_eq_false]
              exact ⟨_, List.mem_of_getElem? HX.out, by simpa using hkk⟩
            rw [HG.out, hkf]; rfl
          have HF := Lib.hid hf; clear hf
          have hbk : (ak.toList == key.toList) = false := by simpa using hkk
          go_wp2_with fail
          go_region
          go_wp2_with fail
          go_ret
          exact ⟨ret_bool (by rw [HF.out]), (Ext.trans X0.out K2.out).drew⟩
      · obtain rfl : k = acts.length := by omega
        have hC := List.take_length (l := acts)
        rw [hC] at K1 ⊢
        clear hC
        have hG := HG.out
        rw [K1.out, Bool.true_and] at hG
        have HG2 := Lib.hid hG
        clear hG HG K1
        have hcn := cntR_le acts
        generalize putR acts = pu at *
        generalize cntR acts = cn at *
        clear c0 c1 c2 c3 c4 c5 c6
        have c0 := HCX.out 0 wr K2.out; have c3 := HCX.out 3 wr K2.out; have c4 := HCX.out 4 wr K2.out
        simp only [List.getElem?_cons_zero, List.getElem?_cons_succ] at c0 c3 c4
        go_wp2_with fail
        go_loopw [6] (fun vi ws => ∃ (k : Nat), k ≤ reads.length ∧ vi = .int .i64 k ∧ readsBad key (reads.take k) = false ∧ Ext w0 ws) (fun vi _ => reads.length - (intOf vi).toNat)
        case atStart => exact ⟨0, by omega, rfl, rfl, K2.out⟩
        case round =>
          obtain ⟨k, hk, rfl, hrb, hx⟩ := hrel
          have R1 := Lib.hid hrb; have R2 := Lib.hid hx
          clear hrb hx c0 c3 c4
          have c0 := HCX.out 0 wr R2.out; have c3 := HCX.out 3 wr R2.out; have c4 := HCX.out 4 wr R2.out; have c5 := HCX.out 5 wr R2.out
          simp only [List.getElem?_cons_zero, List.getElem?_cons_succ] at c0 c3 c4 c5
          by_cases hlt : k < reads.length
          · obtain ⟨x, hx⟩ : ∃ x, reads[k]? = some x := ⟨_, List.getElem?_eq_getElem hlt⟩
            have hrs := readsBad_succ key reads k x hx
            have hmem := List.mem_of_getElem? hx
            obtain ⟨b, off, rfl, hb, hcell⟩ := HR.out (by intro e; rw [e] at hlt; simp at hlt)
            have hcx := hcell k x hx
            have hmove : ∀ j, wr.cell? ⟨b, j, none⟩ = w.cell? ⟨b, j, none⟩ := fun j => (Ext.trans X0.out R2.out).cell (p := ⟨b, j, none⟩) hb
            obtain ⟨rk, ri, rv⟩ := x
            have d0 := (hmove _).trans (hcx 0 _ rfl); have d1 := (hmove _).trans (hcx 1 _ rfl); have d2 := (hmove _).trans (hcx 2 _ rfl)
            simp only [Nat.add_zero] at d0
            have hNn : N < wr.heap.size := by have := R2.out.size; omega
            have hne : N ≠ wr.heap.size := by omega
            have ii0 : (0 : Int) ≤ (k : Int) := by omega
            have i1 : (k : Int) < (reads.length : Int) := by omega
            rw [R1.out, Bool.false_or] at hrs
            have RS := Lib.hid hrs; have HMEM := Lib.hid hmem
            clear hx hrs hmem hcell hcx hmove
            have hch : (rk.toList == key.toList) = false ∨ (rk.toList == key.toList) = true ∧ (decide (20 < (rv.size : Int)) = true ∨ decide (20 < (rv.size : Int)) = false ∧ (ri = false ∧ rv.toList.isEmpty = false ∨ ri = true ∨ ri = false ∧ rv.toList.isEmpty = true)) := by
              generalize decide (20 < (rv.size : Int)) = b5
              generalize rv.toList.isEmpty = b6
              generalize (rk.toList == key.toList) = b7
              cases b5 <;> cases b6 <;> cases b7 <;> cases ri <;> simp
            have hbd : readBad key ⟨rk, ri, rv⟩ = (!(rk.toList == key.toList) || decide (20 < (rv.size : Int)) || (!ri && !rv.toList.isEmpty)) := by
              have hq : decide (rk.toList = key.toList) = (rk.toList == key.toList) := by rw [Bool.eq_iff_iff, decide_eq_true_eq, beq_iff_eq]
              show (!decide (rk.toList = key.toList) || _ || _) = _
              rw [hq]
            have HBD := Lib.hid hbd
            clear hbd
            rcases hch with h4 | ⟨h4, h5 | ⟨h5, ⟨rfl, h6⟩ | rfl | ⟨rfl, h6⟩⟩⟩
            all_goals
              have hb := HBD.out
              rw [h4] at hb
              (try simp only [h5] at hb)
              (try simp only [h6] at hb)
              simp only [Bool.not_true, Bool.not_false, Bool.true_or, Bool.or_true, Bool.or_false, Bool.and_true, Bool.and_false, Bool.false_and] at hb
              have HB2 := Lib.hid hb
              clear hb
              go_wp2_with fail
              first
              | (go_roundw
                 case rel => exact ⟨k + 1, by omega, by go_num, by rw [RS.out, HB2.out], R2.out.alloc R2.out.size _⟩
                 case measure => simp [intOf]; omega)
              | (go_ret
                 have hf : res = false := by
                   have hkf : readsBad key reads = true := List.any_eq_true.2 ⟨_, HMEM.out, HB2.out⟩
                   rw [HG2.out, hkf]; rfl
                 exact ⟨ret_bool (by rw [hf]), Ext.trans X0.out (R2.out.alloc R2.out.size _)⟩)
          · obtain rfl : k = reads.length := by omega
            have hC := List.take_length (l := reads)
            rw [hC] at R1
            clear hC
            have hG := HG2.out
            rw [R1.out, show (decide (reads.length = cn) = ((reads.length : Int) == (cn : Int))) from by rw [Bool.eq_iff_iff, beq_iff_eq, decide_eq_true_eq]; omega] at hG
            simp only [Bool.not_false, Bool.true_and] at hG
            have HG3 := Lib.hid hG
            clear hG HG2 R1
            have hch : ((reads.length : Int) == (cn : Int)) = false ∨ ((reads.length : Int) == (cn : Int)) = true ∧ (pu = true ∨ pu = false) := by
              generalize ((reads.length : Int) == (cn : Int)) = b5
              cases b5 <;> cases pu <;> simp
            rcases hch with h4 | ⟨h4, rfl | rfl⟩
            all_goals
              have hb := HG3.out
              rw [h4] at hb
              simp only [Bool.true_and, Bool.false_and] at hb
              have HB2 := Lib.hid hb
              clear hb
              go_wp2_with fail
              go_ret
              exact ⟨ret_bool (by rw [HB2.out]; try rfl), Ext.trans X0.out R2.out⟩
theorem holdsB_succ (ds : List HoldD) (k : Nat) (x : HoldD) (h : ds[k]? = some x) : holdsB (ds.take (k + 1)) = (holdsB (ds.take k) && holdB x) := by
  unfold holdsB
  rw [List.take_add_one, h, Option.toList_some, List.all_append]; simp
set_option maxRecDepth 100000 in
set_option maxHeartbeats 1600000 in
theorem refRightH_calls (l : List HoldV) (ds : List HoldD) (no : Nat → Prop) (ao : Option Addr) (cap : Nat) (w : World) (hl : l.length ≤ 1000000) (hr : Rows 7 encHV w.heap.size w ao l) (hd : HoldsAre w no l ds) (hok : ∀ d ∈ ds, d.ok) :
    Calls Tryz.prog 26 #[.slice ao l.length cap] w fun e w' => e = .returned (.bool (holdsB ds)) ∧ Ext w w' := by
  have HR := Lib.hid hr; have HD := Lib.hid hd; have HOK := Lib.hid hok; have HLN := Lib.hid hd.len
  clear hr hd hok
  go_enter Tryz.func26, Tryz.ntmps26
  go_wp2_with fail
  go_loopw [3] (fun vi wr => ∃ k : Nat, k ≤ l.length ∧ vi = .int .i64 k ∧ holdsB (ds.take k) = true ∧ Ext w wr) (fun vi _ => l.length - (intOf vi).toNat)
  case atStart => exact ⟨0, by omega, rfl, rfl, Below.refl _ _⟩
  case round =>
    obtain ⟨k, hk, rfl, hb, hx⟩ := hrel
    have K1 := Lib.hid hb; have K2 := Lib.hid hx
    clear hb hx
    by_cases hlt : k < l.length
    · obtain ⟨x, hx⟩ : ∃ x, l[k]? = some x := ⟨_, List.getElem?_eq_getElem hlt⟩
      obtain ⟨d, hdk, hxd⟩ := HD.out.at k x hx
      have hsu := holdsB_succ ds k d hdk
      obtain ⟨b, off, rfl, hbb, hcell⟩ := HR.out (by intro e; rw [e] at hlt; simp at hlt)
      have hcx := hcell k x hx
      have hmove : ∀ j, wr.cell? ⟨b, j, none⟩ = w.cell? ⟨b, j, none⟩ := fun j => K2.out.cell (p := ⟨b, j, none⟩) hbb
      have HC := Lib.hid (refOneH_calls x d no wr (hxd.ext K2.out) (HOK.out d (List.mem_of_getElem? hdk)))
      have HM := Lib.hid (List.mem_of_getElem? hdk)
      obtain ⟨key, cl, nm, xo, xn, xc, yo, yn, yc, put, value⟩ := x
      simp only [encHV] at HC
      have d0 := (hmove _).trans (hcx 0 _ rfl); have d1 := (hmove _).trans (hcx 1 _ rfl); have d2 := (hmove _).trans (hcx 2 _ rfl); have d3 := (hmove _).trans (hcx 3 _ rfl); have d4 := (hmove _).trans (hcx 4 _ rfl); have d5 := (hmove _).trans (hcx 5 _ rfl); have d6 := (hmove _).trans (hcx 6 _ rfl)
      simp only [Nat.add_zero] at d0
      rw [K1.out, Bool.true_and] at hsu
      have HS := Lib.hid hsu
      have i0 : (0 : Int) ≤ (k : Int) := by omega
      have i1 : (k : Int) < (l.length : Int) := by omega
      clear hx hdk hxd hcell hcx hmove hsu
      go_wp2_with fail
      generalize hbd : holdB d = bd at HC HS
      have HBD := Lib.hid hbd
      clear hbd
      refine HC.out.mono ?_
      rintro e w2 ⟨rfl, hx2⟩
      have X2 := Lib.hid (Ext.trans K2.out hx2)
      clear hx2 HC
      cases bd with
      | true =>
        go_wp2_with fail
        go_roundw
        case rel => exact ⟨k + 1, by omega, by go_num, HS.out, X2.out⟩
        case measure => simp [intOf]; omega
      | false =>
        go_wp2_with fail
        go_ret
        have : holdsB ds = false := by
          unfold holdsB; rw [List.all_eq_false]
          exact ⟨d, HM.out, by rw [HBD.out]; simp⟩
        exact ⟨ret_bool (by rw [this]), X2.out⟩
    · have hall : ds.take k = ds := List.take_of_length_le (by have := HLN.out; omega)
      rw [hall] at K1
      clear hall
      go_wp2_with fail
      go_ret
      exact ⟨ret_bool (by rw [K1.out]), K2.out⟩
end Go.Proofs.YtdmejbjpbjcfbaaGreatDoor
