/- The document's layer 16: is a hold right, are holds? -/
import Derived.Test.YtdmejbjpbjcfbaaGreatDoorRightH
import Derived.Test.YtdmejbjpbjcfbaaGreatDoorRefRight
import Derived.Deep.DeepMust
namespace Go.Proofs.YtdmejbjpbjcfbaaGreatDoor
open Go.RowKit

/-- The same as holdB, in the document's order. -/
theorem holdB_ref (d : HoldD) : holdB d = (nameB d.cl d.nm && (rightsB d.acts && (decide ((d.value.size : Int) ≤ 20) && ((d.put || d.value.toList.isEmpty) && (keysR d.key d.acts && (!readsBad d.key d.reads && (decide (d.reads.length = cntR d.acts) && (d.put == putR d.acts)))))))) := by
  unfold holdB
  generalize keysR d.key d.acts = a1
  generalize nameB d.cl d.nm = a2
  generalize rightsB d.acts = a3
  generalize readsBad d.key d.reads = a4
  generalize decide (d.reads.length = cntR d.acts) = a5
  generalize (d.put == putR d.acts) = a6
  generalize decide ((d.value.size : Int) ≤ 20) = a7
  generalize (d.put || d.value.toList.isEmpty) = a8
  cases a1 <;> cases a2 <;> cases a3 <;> cases a4 <;> cases a5 <;> cases a6 <;> cases a7 <;> cases a8 <;> rfl
theorem readsBad_succ (s : ByteArray) (l : List Rd) (k : Nat) (x : Rd) (h : l[k]? = some x) : readsBad s (l.take (k + 1)) = (readsBad s (l.take k) || readBad s x) := by
  unfold readsBad
  rw [List.take_add_one, h, Option.toList_some, List.any_append]; simp

set_option maxRecDepth 100000 in
set_option maxHeartbeats 3200000 in
theorem refOneH_calls (v : HoldV) (d : HoldD) (no : Nat → Prop) (w : World) (hv : v.is w no d) (hok : d.ok) :
    Calls Tryz.prog 72 #[.agg (encHV v).toArray] w fun e w' => e = .returned (.bool (holdB d)) ∧ Ext w w' := by
  obtain ⟨key, cl, nm, xo, xn, xc, yo, yn, yc, put, value⟩ := v
  obtain ⟨key', cl', nm', acts, reads, put', value'⟩ := d
  obtain ⟨e1, e2, e3, e4, e5, e6, e7, ha, hr⟩ := hv
  simp only at e1 e2 e3 e4 e5 e6 e7 ha hr
  subst e1 e2 e3 e4 e5 e6 e7
  obtain ⟨hok, han, hrn, _, _, _⟩ := hok
  simp only at hok han hrn
  have HX := Lib.hid (show Ext w (w.alloc (.cells #[.string key, .int .i64 cl, .int .i64 nm, .slice xo acts.length xc, .slice yo reads.length yc, .bool put, .string value] 35)) from (Below.refl _ w).alloc (Nat.le_refl _) _)
  have HB := Lib.hid (Blk.new w [.string key, .int .i64 cl, .int .i64 nm, .slice xo acts.length xc, .slice yo reads.length yc, .bool put, .string value] 35)
  have HA := Lib.hid ha.rows; have HR := Lib.hid hr.rows; have HOK := Lib.hid hok
  have HG : Hid (holdB ⟨key, cl, nm, acts, reads, put, value⟩ = (nameB cl nm && (rightsB acts && (decide ((value.size : Int) ≤ 20) && ((put || value.toList.isEmpty) && (keysR key acts && (!readsBad key reads && (decide (reads.length = cntR acts) && (put == putR acts))))))))) := Lib.hid (holdB_ref _)
  clear ha hr hok
  generalize holdB _ = res at HG ⊢
  unfold encHV
  go_enter Tryz.func72, Tryz.ntmps72
  go_wp2_with fail
  have hbx := HB.out; have hxx := HX.out
  generalize w.alloc _ = w0 at hbx hxx ⊢
  have hN := hbx.lt
  generalize w.heap.size = N at hbx hN ⊢
  have B0 := Lib.hid hbx; have X0 := Lib.hid hxx
  clear hbx hxx HB HX
  have hcx : ∀ (i : Nat) W, Ext w0 W → W.cell? ⟨N, i, none⟩ = [.string key, .int .i64 cl, .int .i64 nm, .slice xo acts.length xc, .slice yo reads.length yc, .bool put, .string value][i]? := fun i W hW => (B0.out.ext' hW).cell i
  have HCX := Lib.hid hcx; clear hcx
  have HC1 : Hid (∀ W, Calls Tryz.prog 129 #[.agg #[.int .i64 cl, .int .i64 nm]] W fun e w' => e = .returned (.bool (nameB cl nm)) ∧ Ext W w') := Lib.hid fun W => refName_calls cl nm W
  have HC2 : Hid (∀ W, Ext w0 W → Calls Tryz.prog 130 #[.slice xo acts.length xc] W fun e w' => e = .returned (.bool (rightsB acts)) ∧ Ext W w') := Lib.hid fun W hW => by
    have hx := Ext.trans X0.out hW
    exact refRight_calls acts xo xc W han HOK.out ((HA.out.ext hx).mono hx.size)
  have k0 := HCX.out 0 w0 (Below.refl _ _); have k1 := HCX.out 1 w0 (Below.refl _ _); have k2 := HCX.out 2 w0 (Below.refl _ _); have k3 := HCX.out 3 w0 (Below.refl _ _); have k4 := HCX.out 4 w0 (Below.refl _ _); have k5 := HCX.out 5 w0 (Below.refl _ _); have k6 := HCX.out 6 w0 (Below.refl _ _)
  simp only [List.getElem?_cons_zero, List.getElem?_cons_succ] at k0 k1 k2 k3 k4 k5 k6
  generalize nameB cl nm = b1 at *
  generalize hb2 : rightsB acts = b2 at *
  have hch : b1 = false ∨ b1 = true ∧ (b2 = false ∨ b2 = true ∧ (decide (20 < (value.size : Int)) = true ∨ decide (20 < (value.size : Int)) = false ∧ (put = false ∧ value.toList.isEmpty = false ∨ put = true ∨ put = false ∧ value.toList.isEmpty = true))) := by
    generalize decide (20 < (value.size : Int)) = b5
    generalize value.toList.isEmpty = b6
    cases b1 <;> cases b2 <;> cases b5 <;> cases b6 <;> cases put <;> simp
  have hle : decide ((value.size : Int) ≤ 20) = !decide (20 < (value.size : Int)) := by
    by_cases h : (value.size : Int) ≤ 20
    · rw [decide_eq_true h, decide_eq_false (by omega)]; rfl
    · rw [decide_eq_false h, decide_eq_true (by omega)]; rfl
  have hG := HG.out
  rw [hle] at hG
  have HB2 := Lib.hid hb2
  clear HG hle hb2
  rcases hch with rfl | ⟨rfl, rfl | ⟨rfl, h5 | ⟨h5, ⟨rfl, h6⟩ | rfl | ⟨rfl, h6⟩⟩⟩⟩
  all_goals
    (try simp only [h5] at hG)
    (try simp only [h6] at hG)
    simp only [Bool.false_and, Bool.true_and, Bool.not_true, Bool.not_false, Bool.true_or, Bool.false_or, Bool.or_false] at hG
    have HG := Lib.hid hG
    clear hG
    go_wp2_with (first
      | (go_at_call 129; refine (HC1.out _).mono ?_; rintro e wa ⟨rfl, hxa⟩; have a0 := HCX.out 0 wa hxa; have a1 := HCX.out 1 wa hxa; have a2 := HCX.out 2 wa hxa; have a3 := HCX.out 3 wa hxa; have a4 := HCX.out 4 wa hxa; have a5 := HCX.out 5 wa hxa; have a6 := HCX.out 6 wa hxa; simp only [List.getElem?_cons_zero, List.getElem?_cons_succ] at a0 a1 a2 a3 a4 a5 a6; have XA := Lib.hid hxa; clear hxa)
      | (go_at_call 130; refine (HC2.out _ XA.out).mono ?_; rintro e wb ⟨rfl, hxb⟩; have q0 := HCX.out 0 wb (Ext.trans XA.out hxb); have q1 := HCX.out 1 wb (Ext.trans XA.out hxb); have q2 := HCX.out 2 wb (Ext.trans XA.out hxb); have q3 := HCX.out 3 wb (Ext.trans XA.out hxb); have q4 := HCX.out 4 wb (Ext.trans XA.out hxb); have q5 := HCX.out 5 wb (Ext.trans XA.out hxb); have q6 := HCX.out 6 wb (Ext.trans XA.out hxb); simp only [List.getElem?_cons_zero, List.getElem?_cons_succ] at q0 q1 q2 q3 q4 q5 q6; have XB := Lib.hid (Ext.trans XA.out hxb); clear hxb))
    first
    | (go_ret
       first | exact ⟨ret_bool (by rw [HG.out]), Ext.trans X0.out XB.out⟩ | exact ⟨ret_bool (by rw [HG.out]), Ext.trans X0.out XA.out⟩)
    | skip
  all_goals
    clear HC1 HC2 k0 k1 k2 k3 k4 k5 k6 a0 a1 a2 a3 a4 a5 a6 q0 q1 q2 q3 q4 q5 q6
    go_loopw [3, 4, 5] (fun vr vp vk wr => ∃ (k : Nat), k ≤ acts.length ∧ vr = .int .i64 (cntR (acts.take k)) ∧ vp = .bool (putR (acts.take k)) ∧ vk = .int .i64 k ∧ keysR key (acts.take k) = true ∧ Ext w0 wr) (fun _ _ vk _ => acts.length - (intOf vk).toNat)
    case atStart => exact ⟨0, by omega, rfl, rfl, rfl, rfl, XB.out⟩
    case round =>
      obtain ⟨k, hk, rfl, rfl, rfl, hkr, hx⟩ := hrel
      have K1 := Lib.hid hkr; have K2 := Lib.hid hx
      clear hkr hx
      have c0 := HCX.out 0 wr K2.out; have c1 := HCX.out 1 wr K2.out; have c2 := HCX.out 2 wr K2.out; have c3 := HCX.out 3 wr K2.out; have c4 := HCX.out 4 wr K2.out; have c5 := HCX.out 5 wr K2.out; have c6 := HCX.out 6 wr K2.out
      simp only [List.getElem?_cons_zero, List.getElem?_cons_succ] at c0 c1 c2 c3 c4 c5 c6
      by_cases hlt : k < acts.length
      · obtain ⟨x, hx⟩ : ∃ x, acts[k]? = some x := ⟨_, List.getElem?_eq_getElem hlt⟩
        have hcs := cntR_succ acts k x hx; have hps := putR_succ acts k x hx; have hks := keysR_succ key acts k x hx
        have hcl := cntR_le (acts.take k)
        rw [List.length_take] at hcl
        have HX := Lib.hid hx
        obtain ⟨b, off, rfl, hb, hcell⟩ := HA.out (by intro e; rw [e] at hlt; simp at hlt)
        have hcx := hcell k x hx
        have hmove : ∀ j, wr.cell? ⟨b, j, none⟩ = w.cell? ⟨b, j, none⟩ := fun j => (Ext.trans X0.out K2.out).cell (p := ⟨b, j, none⟩) hb
        obtain ⟨kd, ak, av, an⟩ := x
        have d0 := (hmove _).trans (hcx 0 _ rfl); have d1 := (hmove _).trans (hcx 1 _ rfl)
        simp only [Nat.add_zero] at d0
        have ii0 : (0 : Int) ≤ (k : Int) := by omega
        have i1 : (k : Int) < (acts.length : Int) := by omega
        have CS := Lib.hid hcs; have PS := Lib.hid hps; have KS := Lib.hid hks
        generalize putR (acts.take k) = pk at *
        generalize hck : cntR (acts.take k) = ck at *
        clear hcell hcx hmove hx hcs hps hks hck
        by_cases hkk : ak.toList = key.toList
        · have hks2 : keysR key (acts.take (k + 1)) = true := by rw [KS.out, K1.out]; simpa using hkk
          have KS2 := Lib.hid hks2
          have hbk : (ak.toList == key.toList) = true := by simpa using hkk
          clear hks2
          by_cases hk2 : kd = 2
          · subst hk2
            have hcs2 := CS.out; have hps2 := PS.out
            simp only [if_true, Nat.add_zero] at hcs2 hps2
            have CS2 := Lib.hid hcs2; have PS2 := Lib.hid hps2; clear hcs2 hps2
            cases pk
            all_goals
              go_wp2_with fail
              go_region
              go_wp2_with fail
              go_roundw
              case rel => exact ⟨k + 1, by omega, by rw [CS2.out], by rw [PS2.out]; rfl, by go_num, KS2.out, K2.out.drew⟩
              case measure => simp [intOf]; omega
          · have hcs2 := CS.out
            rw [if_neg hk2] at hcs2
            have CS2 := Lib.hid hcs2; clear hcs2
            have hb2 : (kd == 2) = false := by simpa using hk2
            by_cases hk1 : kd = 1
            · subst hk1
              have hps2 := PS.out
              cases pk
              all_goals
                simp at hps2
                have PS2 := Lib.hid hps2; clear hps2
                go_wp2_with fail
                go_region
                go_wp2_with fail
                go_roundw
                case rel => exact ⟨k + 1, by omega, by rw [CS2.out]; go_num, by rw [PS2.out], by go_num, KS2.out, K2.out.drew⟩
                case measure => simp [intOf]; omega
            · have hb1 : (kd == 1) = false := by simpa using hk1
              have hps2 := PS.out
              cases pk
              all_goals
                simp [hk1] at hps2
                have PS2 := Lib.hid hps2; clear hps2
                go_wp2_with fail
                go_region
                go_wp2_with fail
                go_roundw
                case rel => exact ⟨k + 1, by omega, by rw [CS2.out]; go_num, (by rw [PS2.out]; try simp [hk1]), by go_num, KS2.out, K2.out.drew⟩
                case measure => simp [intOf]; omega
        · have hf : res = false := by
            have hkf : keysR key acts = false := by
              unfold keysR; rw [List.all_eq_false]
              exact ⟨_, List.mem_of_getElem? HX.out, by simpa using hkk⟩
            rw [HG.out, hkf]; rfl
          have HF := Lib.hid hf; clear hf
          have hbk : (ak.toList == key.toList) = false := by simpa using hkk
          go_wp2_with fail
          go_region
          go_wp2_with fail
          go_ret
          exact ⟨ret_bool (by rw [HF.out]), (Ext.trans X0.out K2.out).drew⟩
      · obtain rfl : k = acts.length := by omega
        have hC := List.take_length (l := acts)
        rw [hC] at K1 ⊢
        clear hC
        have hG := HG.out
        rw [K1.out, Bool.true_and] at hG
        have HG2 := Lib.hid hG
        clear hG HG K1
        have hcn := cntR_le acts
        generalize putR acts = pu at *
        generalize cntR acts = cn at *
        clear c0 c1 c2 c3 c4 c5 c6
        have c0 := HCX.out 0 wr K2.out; have c3 := HCX.out 3 wr K2.out; have c4 := HCX.out 4 wr K2.out
        simp only [List.getElem?_cons_zero, List.getElem?_cons_succ] at c0 c3 c4
        go_wp2_with fail
        go_loopw [6] (fun vi ws => ∃ (k : Nat), k ≤ reads.length ∧ vi = .int .i64 k ∧ readsBad key (reads.take k) = false ∧ Ext w0 ws) (fun vi _ => reads.length - (intOf vi).toNat)
        case atStart => exact ⟨0, by omega, rfl, rfl, K2.out⟩
        case round =>
          obtain ⟨k, hk, rfl, hrb, hx⟩ := hrel
          have R1 := Lib.hid hrb; have R2 := Lib.hid hx
          clear hrb hx c0 c3 c4
          have c0 := HCX.out 0 wr R2.out; have c3 := HCX.out 3 wr R2.out; have c4 := HCX.out 4 wr R2.out; have c5 := HCX.out 5 wr R2.out
          simp only [List.getElem?_cons_zero, List.getElem?_cons_succ] at c0 c3 c4 c5
          by_cases hlt : k < reads.length
          · obtain ⟨x, hx⟩ : ∃ x, reads[k]? = some x := ⟨_, List.getElem?_eq_getElem hlt⟩
            have hrs := readsBad_succ key reads k x hx
            have hmem := List.mem_of_getElem? hx
            obtain ⟨b, off, rfl, hb, hcell⟩ := HR.out (by intro e; rw [e] at hlt; simp at hlt)
            have hcx := hcell k x hx
            have hmove : ∀ j, wr.cell? ⟨b, j, none⟩ = w.cell? ⟨b, j, none⟩ := fun j => (Ext.trans X0.out R2.out).cell (p := ⟨b, j, none⟩) hb
            obtain ⟨rk, ri, rv⟩ := x
            have d0 := (hmove _).trans (hcx 0 _ rfl); have d1 := (hmove _).trans (hcx 1 _ rfl); have d2 := (hmove _).trans (hcx 2 _ rfl)
            simp only [Nat.add_zero] at d0
            have hNn : N < wr.heap.size := by have := R2.out.size; omega
            have hne : N ≠ wr.heap.size := by omega
            have ii0 : (0 : Int) ≤ (k : Int) := by omega
            have i1 : (k : Int) < (reads.length : Int) := by omega
            rw [R1.out, Bool.false_or] at hrs
            have RS := Lib.hid hrs; have HMEM := Lib.hid hmem
            clear hx hrs hmem hcell hcx hmove
            have hch : (rk.toList == key.toList) = false ∨ (rk.toList == key.toList) = true ∧ (decide (20 < (rv.size : Int)) = true ∨ decide (20 < (rv.size : Int)) = false ∧ (ri = false ∧ rv.toList.isEmpty = false ∨ ri = true ∨ ri = false ∧ rv.toList.isEmpty = true)) := by
              generalize decide (20 < (rv.size : Int)) = b5
              generalize rv.toList.isEmpty = b6
              generalize (rk.toList == key.toList) = b7
              cases b5 <;> cases b6 <;> cases b7 <;> cases ri <;> simp
            have hbd : readBad key ⟨rk, ri, rv⟩ = (!(rk.toList == key.toList) || decide (20 < (rv.size : Int)) || (!ri && !rv.toList.isEmpty)) := by
              have hq : decide (rk.toList = key.toList) = (rk.toList == key.toList) := by rw [Bool.eq_iff_iff, decide_eq_true_eq, beq_iff_eq]
              show (!decide (rk.toList = key.toList) || _ || _) = _
              rw [hq]
            have HBD := Lib.hid hbd
            clear hbd
            rcases hch with h4 | ⟨h4, h5 | ⟨h5, ⟨rfl, h6⟩ | rfl | ⟨rfl, h6⟩⟩⟩
            all_goals
              have hb := HBD.out
              rw [h4] at hb
              (try simp only [h5] at hb)
              (try simp only [h6] at hb)
              simp only [Bool.not_true, Bool.not_false, Bool.true_or, Bool.or_true, Bool.or_false, Bool.and_true, Bool.and_false, Bool.false_and] at hb
              have HB2 := Lib.hid hb
              clear hb
              go_wp2_with fail
              first
              | (go_roundw
                 case rel => exact ⟨k + 1, by omega, by go_num, by rw [RS.out, HB2.out], R2.out.alloc R2.out.size _⟩
                 case measure => simp [intOf]; omega)
              | (go_ret
                 have hf : res = false := by
                   have hkf : readsBad key reads = true := List.any_eq_true.2 ⟨_, HMEM.out, HB2.out⟩
                   rw [HG2.out, hkf]; rfl
                 exact ⟨ret_bool (by rw [hf]), Ext.trans X0.out (R2.out.alloc R2.out.size _)⟩)
          · obtain rfl : k = reads.length := by omega
            have hC := List.take_length (l := reads)
            rw [hC] at R1
            clear hC
            have hG := HG2.out
            rw [R1.out, show (decide (reads.length = cn) = ((reads.length : Int) == (cn : Int))) from by rw [Bool.eq_iff_iff, beq_iff_eq, decide_eq_true_eq]; omega] at hG
            simp only [Bool.not_false, Bool.true_and] at hG
            have HG3 := Lib.hid hG
            clear hG HG2 R1
            have hch : ((reads.length : Int) == (cn : Int)) = false ∨ ((reads.length : Int) == (cn : Int)) = true ∧ (pu = true ∨ pu = false) := by
              generalize ((reads.length : Int) == (cn : Int)) = b5
              cases b5 <;> cases pu <;> simp
            rcases hch with h4 | ⟨h4, rfl | rfl⟩
            all_goals
              have hb := HG3.out
              rw [h4] at hb
              simp only [Bool.true_and, Bool.false_and] at hb
              have HB2 := Lib.hid hb
              clear hb
              go_wp2_with fail
              go_ret
              exact ⟨ret_bool (by rw [HB2.out]; try rfl), Ext.trans X0.out R2.out⟩

/-- The document's Right. -/
theorem holdsB_succ (ds : List HoldD) (k : Nat) (x : HoldD) (h : ds[k]? = some x) : holdsB (ds.take (k + 1)) = (holdsB (ds.take k) && holdB x) := by
  unfold holdsB
  rw [List.take_add_one, h, Option.toList_some, List.all_append]; simp
set_option maxRecDepth 100000 in
set_option maxHeartbeats 1600000 in
theorem refRightH_calls (l : List HoldV) (ds : List HoldD) (no : Nat → Prop) (ao : Option Addr) (cap : Nat) (w : World) (hl : l.length ≤ 1000000) (hr : Rows 7 encHV w.heap.size w ao l) (hd : HoldsAre w no l ds) (hok : ∀ d ∈ ds, d.ok) :
    Calls Tryz.prog 26 #[.slice ao l.length cap] w fun e w' => e = .returned (.bool (holdsB ds)) ∧ Ext w w' := by
  have HR := Lib.hid hr; have HD := Lib.hid hd; have HOK := Lib.hid hok; have HLN := Lib.hid hd.len
  clear hr hd hok
  go_enter Tryz.func26, Tryz.ntmps26
  go_wp2_with fail
  go_loopw [3] (fun vi wr => ∃ k : Nat, k ≤ l.length ∧ vi = .int .i64 k ∧ holdsB (ds.take k) = true ∧ Ext w wr) (fun vi _ => l.length - (intOf vi).toNat)
  case atStart => exact ⟨0, by omega, rfl, rfl, Below.refl _ _⟩
  case round =>
    obtain ⟨k, hk, rfl, hb, hx⟩ := hrel
    have K1 := Lib.hid hb; have K2 := Lib.hid hx
    clear hb hx
    by_cases hlt : k < l.length
    · obtain ⟨x, hx⟩ : ∃ x, l[k]? = some x := ⟨_, List.getElem?_eq_getElem hlt⟩
      obtain ⟨d, hdk, hxd⟩ := HD.out.at k x hx
      have hsu := holdsB_succ ds k d hdk
      obtain ⟨b, off, rfl, hbb, hcell⟩ := HR.out (by intro e; rw [e] at hlt; simp at hlt)
      have hcx := hcell k x hx
      have hmove : ∀ j, wr.cell? ⟨b, j, none⟩ = w.cell? ⟨b, j, none⟩ := fun j => K2.out.cell (p := ⟨b, j, none⟩) hbb
      have HC := Lib.hid (refOneH_calls x d no wr (hxd.ext K2.out) (HOK.out d (List.mem_of_getElem? hdk)))
      have HM := Lib.hid (List.mem_of_getElem? hdk)
      obtain ⟨key, cl, nm, xo, xn, xc, yo, yn, yc, put, value⟩ := x
      simp only [encHV] at HC
      have d0 := (hmove _).trans (hcx 0 _ rfl); have d1 := (hmove _).trans (hcx 1 _ rfl); have d2 := (hmove _).trans (hcx 2 _ rfl); have d3 := (hmove _).trans (hcx 3 _ rfl); have d4 := (hmove _).trans (hcx 4 _ rfl); have d5 := (hmove _).trans (hcx 5 _ rfl); have d6 := (hmove _).trans (hcx 6 _ rfl)
      simp only [Nat.add_zero] at d0
      rw [K1.out, Bool.true_and] at hsu
      have HS := Lib.hid hsu
      have i0 : (0 : Int) ≤ (k : Int) := by omega
      have i1 : (k : Int) < (l.length : Int) := by omega
      clear hx hdk hxd hcell hcx hmove hsu
      go_wp2_with fail
      generalize hbd : holdB d = bd at HC HS
      have HBD := Lib.hid hbd
      clear hbd
      refine HC.out.mono ?_
      rintro e w2 ⟨rfl, hx2⟩
      have X2 := Lib.hid (Ext.trans K2.out hx2)
      clear hx2 HC
      cases bd with
      | true =>
        go_wp2_with fail
        go_roundw
        case rel => exact ⟨k + 1, by omega, by go_num, HS.out, X2.out⟩
        case measure => simp [intOf]; omega
      | false =>
        go_wp2_with fail
        go_ret
        have : holdsB ds = false := by
          unfold holdsB; rw [List.all_eq_false]
          exact ⟨d, HM.out, by rw [HBD.out]; simp⟩
        exact ⟨ret_bool (by rw [this]), X2.out⟩
    · have hall : ds.take k = ds := List.take_of_length_le (by have := HLN.out; omega)
      rw [hall] at K1
      clear hall
      go_wp2_with fail
      go_ret
      exact ⟨ret_bool (by rw [K1.out]), K2.out⟩
end Go.Proofs.YtdmejbjpbjcfbaaGreatDoor
