/- Fit, After, InTime: the program's. -/
import Derived.Test.YtngahblgicjoiaaGreatDoorNext
namespace Go.Proofs.YtngahblgicjoiaaGreatDoor
open Go.RowKit
open Go.Maps (Keyed)

/-- A history of nothing, all of it new. -/
def BegunAt (w : World) (e : Ending) (w' : World) : Prop := ∃ hb mb, e = .returned (.pointer (some ⟨hb, 0, none⟩)) ∧ HistAt w.heap.size w' hb ([], []) (.slice none 0 0) mb 0 ∧ Ext w w'
set_option maxRecDepth 100000 in
theorem begun_calls (w : World) : Calls Tryz.prog 47 #[] w (BegunAt w) := by
  have hmm := @run_makeMap Tryz.prog
  go_enter Tryz.func47, Tryz.ntmps47
  go_wp2
  go_ret
  have hx : Ext w (w.alloc (.map #[] 0)) := (Below.refl _ w).alloc (Nat.le_refl _) _
  have hm := MapF.made Tryz.prog 34 w (.bool false)
  have hb := Blk.new (w.alloc (.map #[] 0)) [.slice none 0 0, .map (some w.heap.size)] 111
  have hx2 : Ext (w.alloc (.map #[] 0)) ((w.alloc (.map #[] 0)).alloc (.cells #[.slice none 0 0, .map (some w.heap.size)] 111)) := (Below.refl _ _).alloc (Nat.le_refl _) _
  refine ⟨_, w.heap.size, rfl, ⟨?_, ?_, World.ownsRow_nil _ _ _ _, (hm.ext hx2).congr (fun x => by simp [inNames]) (fun x => by simp [inNames]), Nat.le_refl _, List.Pairwise.nil, (fun r hr => by cases hr), by omega, (fun p hp => by cases hp)⟩, Ext.trans hx hx2⟩
  · simpa using hb
  · simp
/-- Amid Fit. -/
structure FitMid (w : World) (hb mb : Nat) (ds : List StepD) (k : Nat) (wr : World) : Prop where
  out : ∃ v, HistAt w.heap.size wr hb (histAt ds k) v mb k ∧ (∀ (j : Nat) (y : StepD), j < k → ds[j]? = some y → nextE (histAt ds j) y = 0) ∧ (histAt ds k).1.length ≤ 6 * k ∧ Ext w wr
theorem step_few {h : Hist} {x : StepD} {k : Nat} (hx : x.ok) (hr : rightS x = true) (hok : ∀ r ∈ h.1, r.ok) (hk : h.1.length ≤ 6 * k) : (stepH h x).1.length ≤ 6 * (k + 1) := by
  have h1 := (doneK_ok (rows := h.1) hx.acts hok).2
  have h2 := (rightS_kinds hr).2.1
  show (doneK h.1 x.acts).1.length ≤ _
  omega
def FitPost (w : World) (p : Nat × Int) (e : Ending) (w' : World) : Prop := e = .returned (.tuple #[.int .i64 p.1, .int .i64 p.2]) ∧ Ext w w'

set_option maxRecDepth 100000 in
set_option maxHeartbeats 1600000 in
theorem fit_calls (l : List StepZ) (ao : Option Addr) (cap : Nat) (w : World) (hl : l.length ≤ 1000) (hs : StepsAt w ao l) (hd : ∀ z ∈ l, z.d.ok) (hlv : LV w.heap.size w) :
    Calls Tryz.prog 28 #[.slice ao l.length cap] w (FitPost w (fitD (l.map (·.d)))) := by
  have HS := Lib.hid hs; have HD := Lib.hid hd; have HLV := Lib.hid hlv
  clear hs hd hlv
  go_enter Tryz.func28, Tryz.ntmps28
  go_wp2_with fail
  refine (begun_calls _).mono ?_
  rintro e w1 ⟨hb, mb, rfl, hh, hx1⟩
  have H1 := Lib.hid hh; have X1 := Lib.hid hx1
  clear hh hx1
  go_wp2_with fail
  go_loopw [11] (fun i wr => ∃ k : Nat, k ≤ l.length ∧ i = .int .i64 k ∧ FitMid w hb mb (l.map (·.d)) k wr) (fun i _ => l.length - (intOf i).toNat)
  case atStart => exact ⟨0, by omega, rfl, _, H1.out, fun j y h => by omega, by simp [histAt, histF], X1.out⟩
  case round =>
    obtain ⟨k, hk, rfl, hmid⟩ := hrel
    obtain ⟨v, hh, hz, hf, hx⟩ := hmid.out
    have K1 := Lib.hid hh; have K2 := Lib.hid hz; have K3 := Lib.hid hf; have K4 := Lib.hid hx
    clear hmid hh hz hf hx
    by_cases hlt : k < l.length
    · obtain ⟨z, hz⟩ : ∃ z, l[k]? = some z := ⟨_, List.getElem?_eq_getElem hlt⟩
      have hS := HS.out.ext K4.out
      have hzat : z.at w.heap.size wr := (HS.out.2 z (List.mem_of_getElem? hz)).ext K4.out
      have hdk := HD.out z (List.mem_of_getElem? hz)
      obtain ⟨b, off, rfl, hb', hcell⟩ := hS.1 (by intro e; rw [e] at hlt; simp at hlt)
      have hcx := hcell k z hz
      have hmap : (l.map (·.d))[k]? = some z.d := by rw [List.getElem?_map, hz]; rfl
      have hxb : Ext wr (wr.alloc (.cells (encStep z).toArray 38)) := (Below.refl _ wr).alloc (Nat.le_refl _) _
      have hszw := K4.out.size
      have hfe := K3.out
      have NC := Lib.hid (next_calls z (K1.out.ext hxb) ((HLV.out.below K4.out).ext hxb) (Nat.le_trans K4.out.size hxb.size) (hzat.ext ((hxb.mono K4.out.size))) hdk (by omega) (by omega))
      have hsucc := histAt_succ hmap
      have SU := Lib.hid hsucc; have DK := Lib.hid hdk; have MP := Lib.hid hmap; have XB := Lib.hid hxb
      obtain ⟨⟨cl, nm, acts, reads, ca, an⟩, ao2, ac2, ro2, rc2⟩ := z
      unfold encStep at hcx NC XB
      simp only at hcx NC XB hmap
      have d0 := hcx 0 _ rfl; have d1 := hcx 1 _ rfl; have d2 := hcx 2 _ rfl; have d3 := hcx 3 _ rfl; have d4 := hcx 4 _ rfl; have d5 := hcx 5 _ rfl
      simp only [Nat.add_zero] at d0
      have i0 : (0 : Int) ≤ (k : Int) := by omega
      have i1 : (k : Int) < (l.length : Int) := by omega
      clear hz hS hzat hcell hcx hmap hxb hsucc hdk hfe
      go_wp2_with fail
      refine NC.out.mono ?_
      rintro e w2 hnx
      obtain ⟨rfl, hkept, hmore⟩ := hnx
      have X2 := Lib.hid (Below.trans K4.out (Below.trans (Below.mono XB.out K4.out.size) hkept)); have MO := Lib.hid hmore
      clear hkept hmore
      obtain ⟨E, hE⟩ : ∃ E, nextE (histAt (l.map (·.d)) k) ⟨cl, nm, acts, reads, ca, an⟩ = E := ⟨_, rfl⟩
      rw [hE] at MO ⊢
      have EE := Lib.hid hE
      clear hE
      by_cases h0 : E = 0
      · have g1 : (E != 0) = false := by simp [h0]
        have E0 := Lib.hid h0; clear h0
        go_wp2_with fail
        go_roundw
        case rel =>
          obtain ⟨v', hv'⟩ := MO.out E0.out
          refine ⟨k + 1, by omega, by go_num, v', ?_, fun j y hj hy => ?_, ?_, X2.out⟩
          · rw [SU.out]; exact hv'
          · rcases Nat.lt_or_ge j k with h | h
            · exact K2.out j y h hy
            · obtain rfl : j = k := by omega
              rw [MP.out] at hy
              rw [← Option.some.inj hy, EE.out]; exact E0.out
          · rw [SU.out]
            exact step_few DK.out (nextE_zero (EE.out.trans E0.out)).1 K1.out.ok K3.out
        case measure => simp [intOf]; omega
      · have g1 : (E != 0) = true := by simp [h0]
        have E0 := Lib.hid h0; clear h0
        go_wp2_with fail
        go_ret2
        have hst := fit_stop MP.out K2.out (by rw [EE.out]; exact E0.out)
        rw [EE.out] at hst
        exact ⟨by rw [hst]; rfl, X2.out⟩
    · obtain rfl : k = l.length := by omega
      go_wp2_with fail
      go_ret2
      have hst : fitD (l.map (·.d)) = (l.length, 0) := by
        have := fit_end (l := l.map (·.d)) (fun j y hy => K2.out j y (by have := (List.getElem?_eq_some_iff.1 hy).1; simpa using this) hy)
        simpa using this
      exact ⟨by rw [hst]; rfl, K4.out⟩
/-- Amid After. -/
structure AftMid (w : World) (hb mb : Nat) (ds : List StepD) (k : Nat) (wr : World) : Prop where
  out : ∃ v, TabAt w.heap.size wr hb v (.map (some mb)) (afterD (ds.take k)) ∧ (afterD (ds.take k)).length ≤ 6 * k ∧ w.heap.size ≤ hb ∧ Ext w wr
/-- Rows of one's own, from block w's size on. -/
def AftPost (w : World) (rows : List RowD) (e : Ending) (w' : World) : Prop := ∃ v, e = .returned v ∧ w'.ownsRow w.heap.size 73 2 v rows.length (rows.flatMap encRw) ∧ Ext w w'
theorem after_rise (l : List StepD) : RiseR (afterD l) := (after_sound _ l rfl).1
theorem tab_own2 {B : Nat} {w : World} {hb : Nat} {v m : Value} {rows : List RowD} (T : TabAt B w hb v m rows) (hB : B ≤ hb) {j : Nat} (e : Own2 hb v j) : B ≤ j := by
  rcases e with e | e
  · rw [e]; exact hB
  · exact (T.row.lt j e).1

set_option maxRecDepth 100000 in
set_option maxHeartbeats 1600000 in
theorem after_calls (l : List StepZ) (ao : Option Addr) (cap : Nat) (w : World) (hl : l.length ≤ 1000) (hs : StepsAt w ao l) (hd : ∀ z ∈ l, z.d.ok) (hlv : LV w.heap.size w) :
    Calls Tryz.prog 33 #[.slice ao l.length cap] w (AftPost w (afterD (l.map (·.d)))) := by
  have HS := Lib.hid hs; have HD := Lib.hid hd; have HLV := Lib.hid hlv
  clear hs hd hlv
  go_enter Tryz.func33, Tryz.ntmps33
  go_wp2_with fail
  refine (begun_calls _).mono ?_
  rintro e w1 ⟨hb, mb, rfl, hh, hx1⟩
  have H1 := Lib.hid hh; have X1 := Lib.hid hx1
  clear hh hx1
  go_wp2_with fail
  go_loopw [9] (fun i wr => ∃ k : Nat, k ≤ l.length ∧ i = .int .i64 k ∧ AftMid w hb mb (l.map (·.d)) k wr) (fun i _ => l.length - (intOf i).toNat)
  case atStart => exact ⟨0, by omega, rfl, _, H1.out.tab, by simp [afterD], H1.out.ge, X1.out⟩
  case round =>
    obtain ⟨k, hk, rfl, hmid⟩ := hrel
    obtain ⟨v, hh, hf, hge, hx⟩ := hmid.out
    have K1 := Lib.hid hh; have K3 := Lib.hid hf; have K4 := Lib.hid hx; have K5 := Lib.hid hge
    clear hmid hh hf hx hge
    by_cases hlt : k < l.length
    · obtain ⟨z, hz⟩ : ∃ z, l[k]? = some z := ⟨_, List.getElem?_eq_getElem hlt⟩
      have hS := HS.out.ext K4.out
      have hzat : z.at w.heap.size wr := (HS.out.2 z (List.mem_of_getElem? hz)).ext K4.out
      have hdk := HD.out z (List.mem_of_getElem? hz)
      obtain ⟨b, off, rfl, hb', hcell⟩ := hS.1 (by intro e; rw [e] at hlt; simp at hlt)
      have hcx := hcell k z hz
      have hmap : (l.map (·.d))[k]? = some z.d := by rw [List.getElem?_map, hz]; rfl
      have hxb : Ext wr (wr.alloc (.cells (encStep z).toArray 38)) := (Below.refl _ wr).alloc (Nat.le_refl _) _
      have hszw := K4.out.size
      have hfe := K3.out
      have hzat2 := hzat.ext (Below.mono hxb K4.out.size)
      have RC := Lib.hid (stepRight_calls z _ (hzat2.mono (Nat.le_trans K4.out.size hxb.size)) hdk)
      have hsucc := afterD_succ hmap
      have SU := Lib.hid hsucc; have DK := Lib.hid hdk; have XB := Lib.hid hxb; have ZA := Lib.hid hzat2
      have BX := Lib.hid (Blk.new wr (encStep z) 38)
      obtain ⟨⟨cl, nm, acts, reads, ca, an⟩, ao2, ac2, ro2, rc2⟩ := z
      unfold encStep at hcx RC XB BX ZA
      simp only at hcx RC XB BX ZA hmap
      have d0 := hcx 0 _ rfl; have d1 := hcx 1 _ rfl; have d2 := hcx 2 _ rfl; have d3 := hcx 3 _ rfl; have d4 := hcx 4 _ rfl; have d5 := hcx 5 _ rfl
      simp only [Nat.add_zero] at d0
      have i0 : (0 : Int) ≤ (k : Int) := by omega
      have i1 : (k : Int) < (l.length : Int) := by omega
      clear hz hS hzat hcell hcx hmap hxb hsucc hdk hfe hzat2
      go_wp2_with fail
      refine RC.out.mono ?_
      rintro e w2 ⟨rfl, hx2⟩
      have Y2 := Lib.hid (Ext.trans XB.out hx2)
      have hbx := BX.out.ext' hx2
      have c0 := hbx.cell 0; have c1 := hbx.cell 1; have c2 := hbx.cell 2; have c3 := hbx.cell 3; have c4 := hbx.cell 4; have c5 := hbx.cell 5
      simp only [List.getElem?_cons_zero, List.getElem?_cons_succ] at c0 c1 c2 c3 c4 c5
      have X2 := Lib.hid hx2
      clear hx2 hbx d0 d1 d2 d3 d4 d5
      cases hr : rightS ⟨cl, nm, acts, reads, ca, an⟩
      · have R := Lib.hid hr; clear hr
        go_wp2_with fail
        go_roundw
        case rel =>
          have e2 : afterR (afterD ((l.map (·.d)).take k)) ⟨cl, nm, acts, reads, ca, an⟩ = afterD ((l.map (·.d)).take k) := by unfold afterR; rw [if_neg (by rw [R.out]; simp)]
          refine ⟨k + 1, by omega, by go_num, v, ?_, ?_, K5.out, Ext.trans K4.out Y2.out⟩
          · rw [SU.out, e2]; exact K1.out.ext Y2.out
          · rw [SU.out, e2]; have := K3.out; omega
        case measure => simp [intOf]; omega
      · have R := Lib.hid hr; clear hr
        obtain ⟨hk3, hal, hkz⟩ := rightS_kinds R.out
        have T2 := K1.out.ext Y2.out
        have hs2 : w.heap.size ≤ w2.heap.size := Nat.le_trans K4.out.size Y2.out.size
        have hfew : (afterD ((l.map (·.d)).take k)).length ≤ 100000 := by have := K3.out; omega
        have hDO := histDo_calls ⟨⟨cl, nm, acts, reads, ca, an⟩, ao2, ac2, ro2, rc2⟩ T2 hs2 ((HLV.out.below K4.out).below (Below.mono Y2.out K4.out.size)) K5.out
          ((ZA.out.1.ext (Below.mono X2.out (Nat.le_trans K4.out.size XB.out.size))).nrows hs2 (fun b hb3 e => by have := tab_own2 T2 K5.out e; omega)) DK.out.acts hk3 (by show acts.length ≤ 1000; simp only at hal; omega) hfew
        unfold encStep at hDO
        simp only at hDO
        have DOC := Lib.hid hDO
        have FW := Lib.hid (doneK_ok (rows := afterD ((l.map (·.d)).take k)) DK.out.acts K1.out.ok).2
        have HL := Lib.hid hal
        clear hDO T2 hs2 hfew hk3 hal hkz
        go_wp2_with fail
        refine DOC.out.mono ?_
        rintro e w3 hdone
        obtain ⟨rv, v3, rfl, -, -, hT3, -, hb3⟩ := hdone.out
        have T3 := Lib.hid hT3
        have X3 : Hid (Ext w w3) := Lib.hid (Below.trans (Ext.trans K4.out Y2.out) (hb3.below (Nat.le_trans K4.out.size Y2.out.size) (fun i e => tab_own2 (K1.out.ext Y2.out) K5.out e)))
        clear hdone hT3 hb3 c0 c1 c2 c3 c4 c5
        go_wp2_with fail
        go_roundw
        case rel =>
          have e2 : afterR (afterD ((l.map (·.d)).take k)) ⟨cl, nm, acts, reads, ca, an⟩ = (doneD (afterD ((l.map (·.d)).take k)) acts).1 := by unfold afterR; rw [if_pos R.out]
          refine ⟨k + 1, by omega, by go_num, v3, ?_, ?_, K5.out, X3.out⟩
          · rw [SU.out, e2]; exact T3.out
          · rw [SU.out, e2]
            have h1 := FW.out; have h2 := HL.out; have h3 := K3.out
            show (doneK _ acts).1.length ≤ _
            omega
        case measure => simp [intOf]; omega
    · obtain rfl : k = l.length := by omega
      have hall : (l.map (·.d)).take l.length = l.map (·.d) := List.take_of_length_le (by simp)
      rw [hall] at K1
      have c0 := K1.out.blk.cell 0
      simp only [List.getElem?_cons_zero] at c0
      clear hall
      go_wp2_with fail
      go_ret
      exact ⟨v, rfl, K1.out.row, K4.out⟩
/-- Amid InTime: nothing found so far. -/
def NoLate (ds : List StepD) (i : Nat) : Prop := ∀ (j : Nat) (u : StepD), j < i → ds[j]? = some u → ∀ (m : Nat) (z : StepD), j < m → ds[m]? = some z → lateD z u = false
def NoLate1 (ds : List StepD) (i k : Nat) : Prop := ∀ (x : StepD), ds[i]? = some x → ∀ (m : Nat) (z : StepD), m < k → ds[i + 1 + m]? = some z → lateD z x = false
def TimePost (w : World) (p : Int × Int) (e : Ending) (w' : World) : Prop := e = .returned (.tuple #[.int .i64 p.1, .int .i64 p.2]) ∧ Ext w w'
theorem elemSteps : Tryz.prog.underlying 22 = some (.slice (Tryz.prog.elem 22)) := by kernel_rfl
theorem sizeSteps : ∀ W, (sizeOf (Tryz.prog.elem 22)).run Tryz.prog W = .ok 6 W := fun W => by kernel_rfl
theorem slice_from {t : TypeId} {sz : Nat} (ht : Tryz.prog.underlying t = some (.slice (Tryz.prog.elem t))) (hz : ∀ W, (sizeOf (Tryz.prog.elem t)).run Tryz.prog W = .ok sz W) (ao : Option Addr) (len cap n : Nat) (h : n ≤ len) (hc : len ≤ cap) :
    ∃ ao', (n < len → ∀ b off, ao = some ⟨b, off, none⟩ → ao' = some ⟨b, off + n * sz, none⟩) ∧ ∀ W, (Instr.slice t (.slice ao len cap) (some (.int .i64 n)) none none).run Tryz.prog W = .ok (.slice ao' (len - n) (cap - n)) W := by
  refine ⟨if cap = n then ao else ao.map (·.add (n * sz)), fun hl b off e => ?_, fun W => ?_⟩
  · rw [if_neg (by omega), e, Option.map_some, WideShapes.add_plain]
  · rw [run_slice_l W t _ _ _ ht .i64 n (by omega) (by omega), hz W]
    simp only [Result.andThen_ok, sliced, Int.toNat_natCast]

set_option maxRecDepth 100000 in
set_option maxHeartbeats 1600000 in
theorem inTime_calls (l : List StepZ) (ao : Option Addr) (cap : Nat) (w : World) (hl : l.length ≤ 1000) (hcap : l.length ≤ cap) (hs : StepsAt w ao l) :
    Calls Tryz.prog 30 #[.slice ao l.length cap] w (TimePost w (timeD (l.map (·.d)))) := by
  have HS := Lib.hid hs
  clear hs
  go_enter Tryz.func30, Tryz.ntmps30
  go_wp2_with fail
  go_loopw [10] (fun i wr => ∃ k : Nat, k ≤ l.length ∧ i = .int .i64 k ∧ NoLate (l.map (·.d)) k ∧ Ext w wr) (fun i _ => l.length - (intOf i).toNat)
  case atStart => exact ⟨0, by omega, rfl, fun j u h => by omega, Below.refl _ _⟩
  case round =>
    obtain ⟨k, hk, rfl, hno, hx⟩ := hrel
    have K1 := Lib.hid hno; have K2 := Lib.hid hx
    clear hno hx
    by_cases hlt : k < l.length
    · obtain ⟨z, hz⟩ : ∃ z, l[k]? = some z := ⟨_, List.getElem?_eq_getElem hlt⟩
      have hS := HS.out.ext K2.out
      obtain ⟨b, off, rfl, hb', hcell⟩ := hS.1 (by intro e; rw [e] at hlt; simp at hlt)
      have hcx := hcell k z hz
      have HZ := Lib.hid hz
      have MP : Hid ((l.map (·.d))[k]? = some z.d) := Lib.hid (by rw [List.getElem?_map, hz]; rfl)
      have BX := Lib.hid (Blk.new wr (encStep z) 38)
      have XB : Hid (Ext wr (wr.alloc (.cells (encStep z).toArray 38))) := Lib.hid ((Below.refl _ wr).alloc (Nat.le_refl _) _)
      obtain ⟨lo, hlo, hsl⟩ := slice_from elemSteps sizeSteps (some ⟨b, off, none⟩) l.length cap (k + 1) (by omega) hcap
      have LO := Lib.hid hlo
      have LC := Lib.hid (fun (y : StepZ) W => late_calls y z W)
      have hdz : ∃ dz, dz = z.d := ⟨_, rfl⟩
      obtain ⟨dz, hdz⟩ := hdz
      rw [← hdz] at MP LC
      have hS0 := Lib.hid hS
      have hcc := Lib.hid hcell
      obtain ⟨⟨cl, nm, acts, reads, ca, an⟩, ao2, ac2, ro2, rc2⟩ := z
      unfold encStep at hcx BX XB LC
      simp only at hcx BX XB LC
      have d0 := hcx 0 _ rfl; have d1 := hcx 1 _ rfl; have d2 := hcx 2 _ rfl; have d3 := hcx 3 _ rfl; have d4 := hcx 4 _ rfl; have d5 := hcx 5 _ rfl
      simp only [Nat.add_zero] at d0
      have i0 : (0 : Int) ≤ (k : Int) := by omega
      have i1 : (k : Int) < (l.length : Int) := by omega
      have hsl' : ∀ W, (Instr.slice 22 (.slice (some ⟨b, off, none⟩) l.length cap) (some (.int .i64 ((k : Int) + 1))) none none).run Tryz.prog W = .ok (.slice lo (l.length - (k + 1)) (cap - (k + 1))) W := fun W => hsl W
      clear hz hS hcell hcx hlo hsl hdz
      obtain ⟨wb, hwb⟩ : ∃ wb, wb = wr.alloc (.cells #[.int .i64 cl, .int .i64 nm, .slice ao2 acts.length ac2, .slice ro2 reads.length rc2, .int .i64 ca, .int .i64 an] 38) := ⟨_, rfl⟩
      have WB := Lib.hid hwb
      rw [← hwb] at BX XB
      clear hwb
      obtain ⟨M, hM⟩ : ∃ M, M = l.length - (k + 1) := ⟨_, rfl⟩
      rw [← hM] at hsl'
      have hM2 : k + 1 + M = l.length := by omega
      clear hM
      go_wp2_with fail
      rw [← WB.out]
      have CC : Hid (∀ (i : Nat) (x : StepZ), l[i]? = some x → ∀ (j : Nat) (u : Value), (encStep x)[j]? = some u → wb.cell? ⟨b, off + i * 6 + j, none⟩ = some u) := Lib.hid (fun i x hi j u hj => (XB.out.cell (p := ⟨b, _, none⟩) hb').trans (hcc.out i x hi j u hj))
      have KB := Lib.hid (Ext.trans K2.out XB.out)
      have hbb : b < wb.heap.size := Nat.lt_of_lt_of_le hb' XB.out.size
      clear d0 d1 d2 d3 d4 d5 hsl' hcc
      go_loopw [20] (fun i ws => ∃ q : Nat, q ≤ M ∧ i = .int .i64 q ∧ NoLate1 (l.map (·.d)) k q ∧ Ext wb ws) (fun i _ => M - (intOf i).toNat)
      case atStart => exact ⟨0, by omega, rfl, fun x _ m z hm => by omega, Below.refl _ _⟩
      case round =>
        obtain ⟨q, hq, rfl, hn1, hxs⟩ := hrel
        have N1 := Lib.hid hn1; have XS := Lib.hid hxs
        clear hn1 hxs
        by_cases hqt : q < M
        · obtain ⟨y, hy⟩ : ∃ y, l[k + 1 + q]? = some y := ⟨_, List.getElem?_eq_getElem (by omega)⟩
          have hcy := CC.out (k + 1 + q) y hy
          have MY : Hid ((l.map (·.d))[k + 1 + q]? = some y.d) := Lib.hid (by rw [List.getElem?_map, hy]; rfl)
          have LY := Lib.hid (LC.out y)
          obtain ⟨O2, hO2⟩ : ∃ O2, O2 = off + (k + 1) * 6 := ⟨_, rfl⟩
          obtain rfl : lo = some ⟨b, O2, none⟩ := by rw [hO2]; exact LO.out (by omega) b off rfl
          have hmove : ∀ j, wb.cell? ⟨b, off + (k + 1 + q) * 6 + j, none⟩ = wr.cell? ⟨b, O2 + q * 6 + j, none⟩ := fun j => by
            have e : off + (k + 1 + q) * 6 + j = O2 + q * 6 + j := by omega
            rw [e]
            exact (XS.out.cell (p := ⟨b, _, none⟩) hbb).symm
          have hbx := BX.out.ext' XS.out
          have XY : Hid (Ext wr (wr.alloc (.cells (encStep y).toArray 38))) := Lib.hid ((Below.refl _ wr).alloc (Nat.le_refl _) _)
          obtain ⟨⟨cl', nm', acts', reads', ca', an'⟩, ao3, ac3, ro3, rc3⟩ := y
          unfold encStep at hcy XY
          simp only at hcy LY XY MY
          obtain ⟨dy, hdy⟩ : ∃ dy : StepD, dy = ⟨cl', nm', acts', reads', ca', an'⟩ := ⟨_, rfl⟩
          rw [← hdy] at LY MY
          have d0 := (hmove _).symm.trans (hcy 0 _ rfl); have d1 := (hmove _).symm.trans (hcy 1 _ rfl); have d2 := (hmove _).symm.trans (hcy 2 _ rfl); have d3 := (hmove _).symm.trans (hcy 3 _ rfl); have d4 := (hmove _).symm.trans (hcy 4 _ rfl); have d5 := (hmove _).symm.trans (hcy 5 _ rfl)
          simp only [Nat.add_zero] at d0
          have c0 := (hbx.ext' XY.out).cell 0; have c1 := (hbx.ext' XY.out).cell 1; have c2 := (hbx.ext' XY.out).cell 2; have c3 := (hbx.ext' XY.out).cell 3; have c4 := (hbx.ext' XY.out).cell 4; have c5 := (hbx.ext' XY.out).cell 5
          simp only [List.getElem?_cons_zero, List.getElem?_cons_succ] at c0 c1 c2 c3 c4 c5
          have j0 : (0 : Int) ≤ (q : Int) := by omega
          have j1 : (q : Int) < (M : Int) := by omega
          have hM1 : M ≤ 1000 := by omega
          clear hy hcy hmove hbx hO2 hdy hM2
          go_wp2_with fail
          refine (LY.out _).mono ?_
          rintro e w5 ⟨rfl, hx5⟩
          have X5 := Lib.hid (Ext.trans XS.out (Ext.trans XY.out hx5))
          clear hx5 c0 c1 c2 c3 c4 c5 d0 d1 d2 d3 d4 d5
          cases hlt2 : lateD dy dz
          · have L := Lib.hid hlt2; clear hlt2
            go_wp2_with fail
            go_roundw
            case rel =>
              refine ⟨q + 1, by omega, by go_num, fun x hx m z hm hz => ?_, X5.out⟩
              rcases Nat.lt_or_ge m q with h | h
              · exact N1.out x hx m z h hz
              · obtain rfl : m = q := by omega
                rw [MP.out] at hx; rw [MY.out] at hz
                rw [← Option.some.inj hx, ← Option.some.inj hz]; exact L.out
            case measure => simp [intOf]; omega
          · have L := Lib.hid hlt2; clear hlt2
            go_wp2_with fail
            go_ret2
            have hst := time_stop MP.out MY.out L.out (fun m z hm hz => N1.out _ MP.out m z hm hz) K1.out
            refine ⟨?_, Ext.trans KB.out X5.out⟩
            have e : ((k + 1 + q : Nat) : Int) = (k : Int) + 1 + (q : Int) := by omega
            rw [hst, e]; rfl
        · obtain rfl : q = M := by omega
          go_wp2_with fail
          go_roundw
          case rel =>
            refine ⟨k + 1, by omega, by go_num, fun j u hj hu m z hm hz => ?_, Ext.trans KB.out XS.out⟩
            rcases Nat.lt_or_ge j k with h | h
            · exact K1.out j u h hu m z hm hz
            · obtain rfl : j = k := by omega
              have hml : m < l.length := by have := (List.getElem?_eq_some_iff.1 hz).1; simpa using this
              exact N1.out u hu (m - (j + 1)) z (by omega) (by rw [show j + 1 + (m - (j + 1)) = m from by omega]; exact hz)
          case measure => simp [intOf]; omega
    · obtain rfl : k = l.length := by omega
      go_wp2_with fail
      go_ret2
      have hst : timeD (l.map (·.d)) = (-1, -1) := time_endG _ 0 (fun j u hu m z hm hz => K1.out j u (by have := (List.getElem?_eq_some_iff.1 hu).1; simpa using this) hu m z hm hz)
      exact ⟨by rw [hst]; rfl, K2.out⟩
end Go.Proofs.YtngahblgicjoiaaGreatDoor
