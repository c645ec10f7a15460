/- Fit, After, InTime: the program's. -/
import Derived.Test.YtbnclifpdmpjnaaGreatDoorZ17
namespace Go.Proofs.YtbnclifpdmpjnaaGreatDoor
open Go.RowKit
open Go.Maps (Keyed)
def BegunAt (w : World) (e : Ending) (w' : World) : Prop := ∃ hb mb, e = .returned (.pointer (some ⟨hb, 0, none⟩)) ∧ HistAt w.heap.size w' hb ([], []) (.slice none 0 0) mb 0 ∧ Ext w w'
set_option maxRecDepth 100000 in
theorem begun_calls (w : World) : Calls Tryz.prog 42 #[] w (BegunAt w) := by
  have hmm := @run_makeMap Tryz.prog
  go_enter Tryz.func42, Tryz.ntmps42
  go_wp2
  go_ret
  have hx : Ext w (w.alloc (.map #[] 0)) := (Below.refl _ w).alloc (Nat.le_refl _) _
  have hm := MapF.made Tryz.prog 26 w (.bool false)
  have hb := Blk.new (w.alloc (.map #[] 0)) [.slice none 0 0, .map (some w.heap.size)] 155
  have hx2 : Ext (w.alloc (.map #[] 0)) ((w.alloc (.map #[] 0)).alloc (.cells #[.slice none 0 0, .map (some w.heap.size)] 155)) := (Below.refl _ _).alloc (Nat.le_refl _) _
  refine ⟨_, w.heap.size, rfl, ⟨?_, ?_, World.ownsRow_nil _ _ _ _, (hm.ext hx2).congr (fun x => by simp [inNames]) (fun x => by simp [inNames]), Nat.le_refl _, List.Pairwise.nil, (fun r hr => by cases hr), by omega, (fun p hp => by cases hp)⟩, Ext.trans hx hx2⟩
  · simpa using hb
  · simp
structure FitMid (w : World) (hb mb : Nat) (ds : List StepD) (k : Nat) (wr : World) : Prop where
  out : ∃ v, HistAt w.heap.size wr hb (histAt ds k) v mb k ∧ (∀ (j : Nat) (y : StepD), j < k → ds[j]? = some y → nextE (histAt ds j) y = 0) ∧ (histAt ds k).1.length ≤ 6 * k ∧ Ext w wr
theorem step_few {h : Hist} {x : StepD} {k : Nat} (hx : x.ok) (hr : rightS x = true) (hok : ∀ r ∈ h.1, r.ok) (hk : h.1.length ≤ 6 * k) : (stepH h x).1.length ≤ 6 * (k + 1) := by
  have h1 := (doneK_ok (rows := h.1) hx.acts hok).2
  have h2 := (rightS_kinds hr).2.1
  show (doneK h.1 x.acts).1.length ≤ _
  omega
def FitPost (w : World) (p : Nat × Int) (e : Ending) (w' : World) : Prop := e = .returned (.tuple #[.int .i64 p.1, .int .i64 p.2]) ∧ Ext w w'
set_option maxRecDepth 100000 in
set_option maxHeartbeats 1600000 in
theorem fit_calls (l : List StepZ) (ao : Option Addr) (cap : Nat) (w : World) (hl : l.length ≤ 1000) (hs : StepsAt w ao l) (hd : ∀ z ∈ l, z.d.ok) (hlv : LV w.heap.size w) :
    Calls Tryz.prog 16 #[.slice ao l.length cap] w (FitPost w (fitD (l.map (·.d)))) := by
  have HS := Lib.hid hs; have HD := Lib.hid hd; have HLV := Lib.hid hlv
  clear hs hd hlv
  go_enter Tryz.func16, Tryz.ntmps16
  go_wp2_with fail
  refine (begun_calls _).mono ?_
  rintro e w1 ⟨hb, mb, rfl, hh, hx1⟩
  have H1 := Lib.hid hh; have X1 := Lib.hid hx1
  clear hh hx1
  go_wp2_with fail
  go_loopw [11] (fun i wr => ∃ k : Nat, k ≤ l.length ∧ i = .int .i64 k ∧ FitMid w hb mb (l.map (·.d)) k wr) (fun i _ => l.length - (intOf i).toNat)
  case atStart => exact ⟨0, by omega, rfl, _, H1.out, fun j y h => by omega, by simp [histAt, histF], X1.out⟩
  case round =>
    obtain ⟨k, hk, rfl, hmid⟩ := hrel
    obtain ⟨v, hh, hz, hf, hx⟩ := hmid.out
    have K1 := Lib.hid hh; have K2 := Lib.hid hz; have K3 := Lib.hid hf; have K4 := Lib.hid hx
    clear hmid hh hz hf hx
    by_cases hlt : k < l.length
    · obtain ⟨z, hz⟩ : ∃ z, l[k]? = some z := ⟨_, List.getElem?_eq_getElem hlt⟩
      have hS := HS.out.ext K4.out
      have hzat : z.at w.heap.size wr := (HS.out.2 z (List.mem_of_getElem? hz)).ext K4.out
      have hdk := HD.out z (List.mem_of_getElem? hz)
      obtain ⟨b, off, rfl, hb', hcell⟩ := hS.1 (by intro e; rw [e] at hlt; simp at hlt)
      have hcx := hcell k z hz
      have hmap : (l.map (·.d))[k]? = some z.d := by rw [List.getElem?_map, hz]; rfl
      have hxb : Ext wr (wr.alloc (.cells (encStep z).toArray 51)) := (Below.refl _ wr).alloc (Nat.le_refl _) _
      have hszw := K4.out.size
      have hfe := K3.out
      have NC := Lib.hid (next_calls z (K1.out.ext hxb) ((HLV.out.below K4.out).ext hxb) (Nat.le_trans K4.out.size hxb.size) (hzat.ext ((hxb.mono K4.out.size))) hdk (by omega) (by omega))
      have hsucc := histAt_succ hmap
      have SU := Lib.hid hsucc; have DK := Lib.hid hdk; have MP := Lib.hid hmap; have XB := Lib.hid hxb
      obtain ⟨⟨cl, nm, acts, reads, ca, an⟩, ao2, ac2, ro2, rc2⟩ := z
      unfold encStep at hcx NC XB
      simp only at hcx NC XB hmap
      have d0 := hcx 0 _ rfl; have d1 := hcx 1 _ rfl; have d2 := hcx 2 _ rfl; have d3 := hcx 3 _ rfl; have d4 := hcx 4 _ rfl; have d5 := hcx 5 _ rfl
      simp only [Nat.add_zero] at d0
      have i0 : (0 : Int) ≤ (k : Int) := by omega
      have i1 : (k : Int) < (l.length : Int) := by omega
      clear hz hS hzat hcell hcx hmap hxb hsucc hdk hfe
      go_wp2_with fail
      refine NC.out.mono ?_
      rintro e w2 hnx
      obtain ⟨rfl, hkept, hmore⟩ := hnx
      have X2 := Lib.hid (Below.trans K4.out (Below.trans (Below.mono XB.out K4.out.size) hkept)); have MO := Lib.hid hmore
      clear hkept hmore
      obtain ⟨E, hE⟩ : ∃ E, nextE (histAt (l.map (·.d)) k) ⟨cl, nm, acts, reads, ca, an⟩ = E := ⟨_, rfl⟩
      rw [hE] at MO ⊢
      have EE := Lib.hid hE
      clear hE
      by_cases h0 : E = 0
      · have g1 : (E != 0) = false := by simp [h0]
        have E0 := Lib.hid h0; clear h0
        go_wp2_with fail
        go_roundw
        case rel =>
          obtain ⟨v', hv'⟩ := MO.out E0.out
          refine ⟨k + 1, by omega, by go_num, v', ?_, fun j y hj hy => ?_, ?_, X2.out⟩
          · rw [SU.out]; exact hv'
          · rcases Nat.lt_or_ge j k with h | h
            · exact K2.out j y h hy
            · obtain rfl : j = k := by omega
              rw [MP.out] at hy
              rw [← Option.some.inj hy, EE.out]; exact E0.out
          · rw [SU.out]
            exact step_few DK.out (nextE_zero (EE.out.trans E0.out)).1 K1.out.ok K3.out
        case measure => simp [intOf]; omega
      · have g1 : (E != 0) = true := by simp [h0]
        have E0 := Lib.hid h0; clear h0
        go_wp2_with fail
        go_ret2
        have hst := fit_stop MP.out K2.out (by rw [EE.out]; exact E0.out)
        rw [EE.out] at hst
        exact ⟨by rw [hst]; rfl, X2.out⟩
    · obtain rfl : k = l.length := by omega
      go_wp2_with fail
      go_ret2
      have hst : fitD (l.map (·.d)) = (l.length, 0) := by
        have := fit_end (l := l.map (·.d)) (fun j y hy => K2.out j y (by have := (List.getElem?_eq_some_iff.1 hy).1; simpa using this) hy)
        simpa using this
      exact ⟨by rw [hst]; rfl, K4.out⟩
theorem elemSteps : Tryz.prog.underlying 41 = some (.slice (Tryz.prog.elem 41)) := by kernel_rfl
theorem sizeSteps : ∀ W, (sizeOf (Tryz.prog.elem 41)).run Tryz.prog W = .ok 6 W := fun W => by kernel_rfl
theorem slice_from {t : TypeId} {sz : Nat} (ht : Tryz.prog.underlying t = some (.slice (Tryz.prog.elem t))) (hz : ∀ W, (sizeOf (Tryz.prog.elem t)).run Tryz.prog W = .ok sz W) (ao : Option Addr) (len cap n : Nat) (h : n ≤ len) (hc : len ≤ cap) :
    ∃ ao', (n < len → ∀ b off, ao = some ⟨b, off, none⟩ → ao' = some ⟨b, off + n * sz, none⟩) ∧ ∀ W, (Instr.slice t (.slice ao len cap) (some (.int .i64 n)) none none).run Tryz.prog W = .ok (.slice ao' (len - n) (cap - n)) W := by
  refine ⟨if cap = n then ao else ao.map (·.add (n * sz)), fun hl b off e => ?_, fun W => ?_⟩
  · rw [if_neg (by omega), e, Option.map_some, WideShapes.add_plain]
  · rw [run_slice_l W t _ _ _ ht .i64 n (by omega) (by omega), hz W]
    simp only [Result.andThen_ok, sliced, Int.toNat_natCast]
end Go.Proofs.YtbnclifpdmpjnaaGreatDoor
/- A history's copy: a range over its names' map. -/
namespace Go.Proofs.YtbnclifpdmpjnaaGreatDoor
open Go.RowKit
open Go.Maps (Keyed)
def nameV (p : Int × Int) : Value := .agg #[.int .i64 p.1, .int .i64 p.2]
theorem i64B_of_wf {n : Int} (w : (Lit.int .i64 n).wf = true) : i64B n := by
  unfold i64B
  simpa [Lit.wf, IntKind.min, IntKind.max, IntKind.signed, IntKind.bits] using w
set_option maxRecDepth 100000 in
theorem name_inv (key : Value) (kl : Lit) (h : keyOf Tryz.prog 26 key = some kl) : ∃ p : Int × Int, key = nameV p ∧ i64B p.1 ∧ i64B p.2 ∧ kl = nameLit p := by
  have h0 := h
  unfold keyOf at h
  have hu := Tryz.underlying26
  have hk : Tryz.prog.keyType 26 = true := by kernel_rfl
  have hc2 : Tryz.prog.cellsOf 26 = 2 := by kernel_rfl
  have hci : Tryz.prog.cellsOf 3 = 1 := by kernel_rfl
  have hui := Tryz.underlying3
  have hn2 : ∃ n, Tryz.prog.types.size + 1 = n + 1 + 1 := ⟨Tryz.prog.types.size - 1, by have : 0 < Tryz.prog.types.size := (by decide +kernel); omega⟩
  obtain ⟨m, hm⟩ := hn2
  rw [hm] at h
  simp only [hu, hk, Bool.true_and] at h
  cases key with
  | agg cs =>
    simp only [Value.formed, hu, hc2] at h
    by_cases hs : cs.size = 2
    · obtain ⟨a, b, rfl⟩ : ∃ a b, cs = #[a, b] := by
        rcases cs with ⟨l⟩
        match l, hs with
        | [a, b], _ => exact ⟨a, b, rfl⟩
      simp [Program.keyLits, hu, hc2, hci, hui, Value.cells] at h
      cases a with
      | int q c =>
        by_cases hq : q = .i64 ∧ (Lit.int .i64 c).wf = true
        · cases b with
          | int q2 d =>
            by_cases hq2 : q2 = .i64 ∧ (Lit.int .i64 d).wf = true
            · obtain ⟨rfl, w1⟩ := hq
              obtain ⟨rfl, w2⟩ := hq2
              refine ⟨(c, d), rfl, i64B_of_wf w1, i64B_of_wf w2, ?_⟩
              have e := nameLit_key (i64B_of_wf w1) (i64B_of_wf w2)
              rw [h0] at e
              exact Option.some.inj e
            · simp [hq, hq2] at h
          | _ => simp [hq] at h
        · simp [hq] at h
      | _ => simp at h
    · simp [hs] at h
  | _ => simp [Value.formed, hu] at h
theorem RangeF.cnt_le {P : Program} {k : TypeId} {w : World} {b r n : Nat} {z : Value} {val : Lit → Value} {has left : Lit → Bool} {cnt : Nat} (h : RangeF P k w b r n z val has left cnt) : cnt ≤ n := by
  obtain ⟨D, ⟨es, c, s, sn, c0, _, _, h3, _, _, _, h7, _⟩, _⟩ := h.own
  rw [← h7]
  unfold leftOf
  exact Nat.le_trans (Array.size_filter_le) h3
def CopyAt (w : World) (h : Hist) (n : Nat) (e : Ending) (w' : World) : Prop := ∃ hb mb v, e = .returned (.pointer (some ⟨hb, 0, none⟩)) ∧ HistAt w.heap.size w' hb h v mb n ∧ Ext w w'
structure CopyMid (w w1 : World) (hb mb mb1 r n : Nat) (h : Hist) (v : Value) (wr : World) : Prop where
  out : ∃ (left : Lit → Bool) (cnt k : Nat), RangeF Tryz.prog 26 wr mb1 r n (.bool false) (fun kl => .bool (inNames h.2 kl)) (inNames h.2) left cnt ∧
    MapF Tryz.prog 26 wr mb k (.bool false) (fun x => .bool (inNames h.2 x && !left x)) (fun x => inNames h.2 x && !left x) ∧ k + cnt ≤ n ∧ But (fun j => j = mb ∨ j = r) w1 wr
set_option maxRecDepth 100000 in
set_option maxHeartbeats 1600000 in
theorem copiedH_calls {B : Nat} {w : World} {hb mb n : Nat} {h : Hist} {v : Value} (H : HistAt B w hb h v mb n) (hn : h.1.length ≤ 1000000) :
    Calls Tryz.prog 83 #[.pointer (some ⟨hb, 0, none⟩)] w (CopyAt w h n) := by
  have hmm := @run_makeMap Tryz.prog
  have HH := Lib.hid H
  have c0 := H.blk.cell 0
  simp only [List.getElem?_cons_zero] at c0
  obtain ⟨ao, cap, rfl, hrow⟩ := H.tab.slice
  have CL := Lib.hid (clone_rows_calls h.1 ao cap w hn hrow)
  clear H hrow hn
  go_enter Tryz.func83, Tryz.ntmps83
  go_wp2_with fail
  refine CL.out.mono ?_
  rintro e w1 ⟨v1, rfl, hv1, hn1, hx1⟩
  obtain ⟨ao1, cap1, rfl, -, -, -⟩ := Rows.own (enc := encRw) (sz := 2) (fun _ => rfl) hv1
  have V1 := Lib.hid hv1; have N1 := Lib.hid hn1; have X1 := Lib.hid hx1
  clear hv1 hn1 hx1
  have H1 := HH.out.ext X1.out
  have hm2 := MapF.made Tryz.prog 26 w1 (.bool false)
  have hxm : Ext w1 (w1.alloc (.map #[] 0)) := (Below.refl _ w1).alloc (Nat.le_refl _) _
  have hb2 := Blk.new (w1.alloc (.map #[] 0)) [.slice ao1 h.1.length cap1, .map (some w1.heap.size)] 155
  have hxb : Ext (w1.alloc (.map #[] 0)) ((w1.alloc (.map #[] 0)).alloc (.cells #[.slice ao1 h.1.length cap1, .map (some w1.heap.size)] 155)) := (Below.refl _ _).alloc (Nat.le_refl _) _
  rw [World.size_alloc] at hb2
  obtain ⟨w2, hw2⟩ : ∃ w2, w2 = (w1.alloc (.map #[] 0)).alloc (.cells #[.slice ao1 h.1.length cap1, .map (some w1.heap.size)] 155) := ⟨_, rfl⟩
  have X2 : Hid (Ext w1 w2) := Lib.hid (by rw [hw2]; exact Ext.trans hxm hxb)
  have M2 : Hid (MapF Tryz.prog 26 w2 w1.heap.size 0 (.bool false) (fun _ => .bool false) (fun _ => false)) := Lib.hid (by rw [hw2]; exact hm2.ext hxb)
  have K2 : Hid (Blk w2 (w1.heap.size + 1) [.slice ao1 h.1.length cap1, .map (some w1.heap.size)] 155) := Lib.hid (by rw [hw2]; exact hb2)
  have W2 := Lib.hid hw2
  have H2 := Lib.hid (H1.ext X2.out)
  have c1 : w2.cell? ⟨hb, 1, none⟩ = some (.map (some mb)) := H2.out.blk.cell 1
  rw [hw2] at c1
  clear hw2 hm2 hxm hb2 hxb H1 c0
  go_wp2_with (at_range; rw [← W2.out]; refine wpList_rangeF _ rfl _ 150 rfl 26 4 nameKeyed Tryz.underlying150 rfl H2.out.map ?_; intro w3 cnt hrg hg hsz)
  clear hmm
  have RG := Lib.hid hrg
  have X3 : Hid (Ext w2 w3) := Lib.hid ⟨hg.os, hg.tape, hg.output, hg.size, fun k hk => hg.block k hk (by simp)⟩
  clear hrg hg c1
  go_frame
  go_loopw [21] (fun _ wr => CopyMid w w3 (w1.heap.size + 1) w1.heap.size mb w2.heap.size n h (.slice ao1 h.1.length cap1) wr) (fun _ wr => wr.rangeLeft mb w2.heap.size)
  case atStart =>
    refine ⟨_, cnt, 0, RG.out, (M2.out.ext X3.out).congr (fun x => ?_) (fun x => ?_), by have := RG.out.cnt_le; omega, But.refl _ _⟩
    · simp
    · simp
  case round =>
    obtain ⟨left, cnt1, k, hrg, hmp, hkc, hbt⟩ := hrel.out
    have R1 := Lib.hid hrg; have M1 := Lib.hid hmp; have B1 := Lib.hid hbt
    have hcn := RG.out.cnt_le
    have hfew := HH.out.few
    clear hrel hrg hmp hbt
    go_wp2_with (at_next; refine wpList_nextF _ rfl _ rfl 26 nameKeyed nameV (fun key kl hk => by obtain ⟨p, hp, _⟩ := name_inv key kl hk; exact ⟨p, hp⟩) rfl R1.out ?_ ?_)
    · intro h0 hl
      go_wp2_with fail
      go_ret
      have hv1 := V1.out.lt
      have hs12 := X2.out.size; have hs23 := X3.out.size; have hs01 := X1.out.size
      have hn1 : ¬ (w1.heap.size + 1 = w1.heap.size ∨ w1.heap.size + 1 = w2.heap.size) := by have := K2.out.lt; omega
      have hn2 : ∀ j, (Value.slice ao1 h.1.length cap1).ownBlock = some j → ¬ (j = w1.heap.size ∨ j = w2.heap.size) := fun j e => by have := (hv1 j e).2; omega
      refine ⟨_, w1.heap.size, .slice ao1 h.1.length cap1, rfl, ⟨(K2.out.ext' X3.out).but B1.out hn1, by omega, ?_, ?_, by omega, HH.out.rise, HH.out.ok, HH.out.few, HH.out.names⟩, ?_⟩
      · exact own_base (own_but (own_ext (own_ext V1.out X2.out) X3.out) B1.out hn2) (fun k e => N1.out k e)
      · exact (M1.out.mono (by omega)).congr (fun x => by rw [hl x]; simp) (fun x => by rw [hl x]; simp)
      · exact Below.trans (Ext.trans X1.out (Ext.trans X2.out X3.out)) (B1.out.below (by omega) (fun i e => by rcases e with e | e <;> omega))
    · intro c d vv kl w4 cnt' hkey hlk hval hhas hrg' hlt hg4 hs4 hen
      unfold nameV at hkey hen ⊢
      simp only at hkey hen
      have hb4 : But (fun j => j = w2.heap.size) wr w4 := (But.of_grown hg4).mono fun i _ e => (Option.some.inj e).symm
      have hk4 : Blk w4 (w1.heap.size + 1) [.slice ao1 h.1.length cap1, .map (some w1.heap.size)] 155 :=
        ((K2.out.ext' X3.out).but B1.out (by have := K2.out.lt; omega)).but hb4 (by have := K2.out.lt; omega)
      have hm4 := M1.out.same (hb4.block _ M1.out.lt (by have := K2.out.lt; omega))
      have M4 := Lib.hid hm4; have K4 := Lib.hid hk4; have R4 := Lib.hid hrg'; have KEY := Lib.hid hkey; have B4 := Lib.hid (B1.out.trans hb4 (U := fun j => j = w1.heap.size ∨ j = w2.heap.size) (fun _ _ e => e) (fun _ _ e => .inr e))
      have HN := Lib.hid hhas
      clear hs4 hsz hb4 hk4 hm4 hrg' hkey hval hhas hlk
      have E5 : Hid (Ext w4 (w4.alloc (.cells #[.int .i64 c, .int .i64 d] 26))) := Lib.hid ((Below.refl _ w4).alloc (Nat.le_refl _) _)
      have K5 : Hid (Blk (w4.alloc (.cells #[.int .i64 c, .int .i64 d] 26)) w4.heap.size [.int .i64 c, .int .i64 d] 26) := Lib.hid (Blk.new w4 _ _)
      go_wp2_with fail
      have E5o := E5.out; have K5o := K5.out
      obtain ⟨w5, hw5⟩ : ∃ w5, w5 = w4.alloc (.cells #[.int .i64 c, .int .i64 d] 26) := ⟨_, rfl⟩
      rw [← hw5] at E5o K5o ⊢
      clear hw5 E5 K5
      have k1 := (K4.out.ext' E5o).cell 1; have n0 := K5o.cell 0; have n1 := K5o.cell 1
      simp only [List.getElem?_cons_zero, List.getElem?_cons_succ] at k1 n0 n1
      have hxd : Ext w5 w5.drew := (Below.refl _ w5).drew
      obtain ⟨w6, hrun, hmap, hg6⟩ := ((M4.out.ext E5o).ext hxd).update (e := 4) nameKeyed Tryz.underlying150 (by unfold maxLen; omega) (v := .bool true) KEY.out
      have hb6 : But (fun j => j = w1.heap.size) w5 w6 := ((But.refl (fun j => j = w1.heap.size) w5).drew).trans ((But.of_grown hg6).mono fun i _ e => (Option.some.inj e).symm) (fun _ _ e => e) (fun _ _ e => e)
      have M6 := Lib.hid hmap; have B6 := Lib.hid hb6; have E6 := Lib.hid E5o
      clear hmap hg6 hb6 hxd E5o K5o hen
      go_still_tail 5, (by kernel_rfl)
      change wpList _ _ _ _ _ w5.drew
      go_wp2_with fail
      have hR6 : RangeF Tryz.prog 26 w6 mb w2.heap.size n (.bool false) (fun kl => .bool (inNames h.2 kl)) (inNames h.2) (fun z => left z && !z.sameKey kl) cnt' := by
        have h5 := R4.out.ext E6.out
        have hmb := h5.map.lt
        have hml : mb < w1.heap.size := by have := HH.out.map.lt; have := X1.out.size; omega
        have := K2.out.lt
        exact h5.same (B6.out.block _ hmb (by omega)) (B6.out.block _ h5.lt (by omega))
      go_roundw
      case rel =>
        refine ⟨_, cnt', k + 1, hR6, M6.out.congr (fun x => ?_) (fun x => ?_), by omega, (B4.out.trans (Ext.but E6.out (fun _ => False)) (fun _ _ e => e) (fun _ _ e => e.elim)).trans B6.out (fun _ _ e => e) (fun _ _ e => .inl e)⟩
        · by_cases e : x = kl
          · subst e
            rw [if_pos rfl, HN.out, WideAt.sameKey_self (nameKeyed.key KEY.out)]; simp
          · rw [if_neg e, Maps.sameKey_ne e]; simp
        · by_cases e : x = kl
          · subst e
            rw [HN.out, WideAt.sameKey_self (nameKeyed.key KEY.out)]; simp
          · rw [Maps.sameKey_ne e]; simp [e]
      case measure => rw [hR6.left_eq, R1.out.left_eq]; exact hlt
end Go.Proofs.YtbnclifpdmpjnaaGreatDoor
