/- A reply held against what was decided; the first of tales of which a function tells yes. -/
import Derived.Test.YtbnclifpdmpjnaaGreatDoorZ32
import Derived.Test.YtbnclifpdmpjnaaGreatDoorZ26
namespace Go.Proofs.YtbnclifpdmpjnaaGreatDoor
open Go.RowKit
open Go.Maps (Keyed)
variable {B rb mb : Nat} {w w' : World} {v : Value} {r : RdS}
set_option maxRecDepth 100000 in
set_option maxHeartbeats 6400000 in
theorem replied_calls (z : TaleZ) (R : ReadAt B w rb mb v r) (hB : B ≤ w.heap.size) (hz : z.at B w) (hd : z.d.ok) (hin : z.d.kind = 2 → z.d.name ∈ r.names) (hrn : (r.kz z.d.name).k.reads.length ≤ 1000) :
    Calls Tryz.prog 23 #[.pointer (some ⟨rb, 0, none⟩), .agg (encTale z).toArray] w fun e w' => e = .returned (.bool (saidD (r.kz z.d.name).k z.d)) ∧ Ext w w' := by
  have HB := Lib.hid hB; have ZA := Lib.hid hz; have HIN := Lib.hid hin; have HRN := Lib.hid hrn; have HR := Lib.hid R
  obtain ⟨W, hW⟩ : ∃ W, W = w.alloc (.cells (encTale z).toArray 39) := ⟨_, rfl⟩
  have XW : Hid (Ext w W) := Lib.hid (by rw [hW]; exact (Below.refl _ w).alloc (Nat.le_refl _) _)
  have BW : Hid (Blk W w.heap.size (encTale z) 39) := Lib.hid (by rw [hW]; exact Blk.new w _ _)
  have hlk := R.look (n := z.d.name) hd.cl hd.nm
  have HW := Lib.hid hW
  obtain ⟨PV, hPV⟩ : ∃ PV, (if z.d.name ∈ r.names then pv (r.p z.d.name) else Value.pointer none) = PV := ⟨_, rfl⟩
  rw [hPV] at hlk
  have HPV := Lib.hid hPV
  obtain ⟨kz, hkz⟩ : ∃ kz, r.kz z.d.name = kz := ⟨_, rfl⟩
  have KB : Hid (z.d.name ∈ r.names → Blk w (r.p z.d.name) (encKn kz) 77 ∧ kz.at B w) := Lib.hid (fun h => by rw [← hkz]; exact ⟨(R.kn _ h).1, (R.kn _ h).2.2⟩)
  rw [hkz] at HRN ⊢
  clear R hB hd hz hW hrn hin hPV hkz
  obtain ⟨⟨kind, index, cl, nm, acts, commit, reads⟩, node, group, term, ao, ac, ro, rc, lo, hi, ep, st, sc, se, so, sn, sp, co, cn, cp⟩ := z
  obtain ⟨⟨kcl, knm, kix, kdec, kcm, kreads, kacts, kcalled, kans⟩, kao, kac, kro, krc⟩ := kz
  unfold encTale at HW BW ⊢
  simp only [TaleD.name] at HW BW HPV KB HIN hlk ⊢
  have hlk2 : ∀ p : ExtBy W, (Instr.lookup 67 (.map (some mb)) (.agg #[.int .i64 cl, .int .i64 nm]) false).run Tryz.prog p.W = .ok PV p.W := fun p => hlk p.W (Ext.trans XW.out p.ext)
  have c0 := ExtBy.cell (show W.cell? ⟨rb, 0, none⟩ = some (.map (some mb)) from (HR.out.blk.ext' XW.out).cell 0)
  have t0 := ExtBy.cell (BW.out.cell 0); have t5 := ExtBy.cell (BW.out.cell 5); have t6 := ExtBy.cell (BW.out.cell 6)
  clear hlk
  go_enter Tryz.func23, Tryz.ntmps23
  go_upto_region 1 with fail
  rw [← HW.out]
  refine wp_region_ext (by kernel_rfl) (by kernel_rfl) ?_
  repeat (go_big_quiet_step (fail))
  refine wpQuiet_nil ?_
  intro wc hw'
  have YC : Hid (Ext W wc) := Lib.hid (by obtain ⟨p, rfl⟩ := hw'; exact p.ext)
  have XC : Hid (Ext w wc) := Lib.hid (Ext.trans XW.out YC.out)
  clear hw' hlk2 c0 t0 t5 t6
  have BC := Lib.hid (BW.out.ext' YC.out)
  have t0 := ExtBy.cell (show wc.cell? ⟨w.heap.size, 0, none⟩ = some (.int .u8 kind) from BC.out.cell 0)
  by_cases hk : kind = 2
  · have g1 : (kind != 2) = false := by simpa using hk
    have hmem := HIN.out hk
    obtain ⟨hkb, hka⟩ := KB.out hmem
    obtain ⟨P, hP⟩ : ∃ P, r.p (cl, nm) = P := ⟨_, rfl⟩
    rw [hP] at hkb
    have hPV : PV = .pointer (some ⟨P, 0, none⟩) := by rw [← HPV.out]; simp [hmem, hP, pv]
    subst hPV
    have hkc := hkb.ext' XC.out
    have k3 := ExtBy.cell (show wc.cell? ⟨P, 3, none⟩ = some (.bool kdec) from hkc.cell 3); have k4 := ExtBy.cell (show wc.cell? ⟨P, 4, none⟩ = some (.bool kcm) from hkc.cell 4); have k5 := ExtBy.cell (show wc.cell? ⟨P, 5, none⟩ = some (.slice kro kreads.length krc) from hkc.cell 5)
    have t8 := ExtBy.cell (show wc.cell? ⟨w.heap.size, 8, none⟩ = some (.bool commit) from BC.out.cell 8); have t9 := ExtBy.cell (show wc.cell? ⟨w.heap.size, 9, none⟩ = some (.slice ro reads.length rc) from BC.out.cell 9)
    obtain ⟨E, hE⟩ : ∃ E, decide (kreads = reads) = E := ⟨_, rfl⟩
    have EQ := Lib.hid (fun p : ExtBy wc => equalReads_calls kreads reads kro ro krc rc p.W (by have := HRN.out; simp only at this; omega) ((hka.2.ext ((Ext.trans XC.out p.ext).mono HB.out)).mono (Nat.le_trans HB.out (Ext.trans XC.out p.ext).size)) ((ZA.out.2.ext ((Ext.trans XC.out p.ext).mono HB.out)).mono (Nat.le_trans HB.out (Ext.trans XC.out p.ext).size)))
    rw [hE] at EQ
    have HE := Lib.hid hE; have HKK := Lib.hid hk
    clear hmem hkb hka hP hkc hE hk
    cases kdec
    · go_wp2_with fail
      refine wp_region_ext (by kernel_rfl) (by kernel_rfl) ?_
      repeat (go_big_quiet_step ((with_reducible exact Calls.ext_of _ (EQ.out _))))
      refine wpQuiet_nil ?_
      intro wd hw'
      have XD : Hid (Ext w wd) := Lib.hid (Ext.trans XC.out (by obtain ⟨p, rfl⟩ := hw'; exact p.ext))
      clear hw'
      go_wp2_with fail
      go_ret
      exact ⟨by unfold saidD; simp [HKK.out], XD.out⟩
    · cases kcm <;> cases commit
      · go_wp2_with fail
        refine wp_region_ext (by kernel_rfl) (by kernel_rfl) ?_
        repeat (go_big_quiet_step ((with_reducible exact Calls.ext_of _ (EQ.out _))))
        refine wpQuiet_nil ?_
        intro wd hw'
        have XD : Hid (Ext w wd) := Lib.hid (Ext.trans XC.out (by obtain ⟨p, rfl⟩ := hw'; exact p.ext))
        clear hw'
        go_wp2_with fail
        go_ret
        exact ⟨by unfold saidD; simp [HKK.out], XD.out⟩
      · go_wp2_with fail
        refine wp_region_ext (by kernel_rfl) (by kernel_rfl) ?_
        repeat (go_big_quiet_step ((with_reducible exact Calls.ext_of _ (EQ.out _))))
        refine wpQuiet_nil ?_
        intro wd hw'
        have XD : Hid (Ext w wd) := Lib.hid (Ext.trans XC.out (by obtain ⟨p, rfl⟩ := hw'; exact p.ext))
        clear hw'
        go_wp2_with fail
        go_ret
        exact ⟨by unfold saidD; simp [HKK.out], XD.out⟩
      · go_wp2_with fail
        refine wp_region_ext (by kernel_rfl) (by kernel_rfl) ?_
        repeat (go_big_quiet_step ((with_reducible exact Calls.ext_of _ (EQ.out _))))
        refine wpQuiet_nil ?_
        intro wd hw'
        have XD : Hid (Ext w wd) := Lib.hid (Ext.trans XC.out (by obtain ⟨p, rfl⟩ := hw'; exact p.ext))
        clear hw'
        go_wp2_with fail
        go_ret
        exact ⟨by unfold saidD; simp [HKK.out], XD.out⟩
      · go_wp2_with fail
        refine wp_region_ext (by kernel_rfl) (by kernel_rfl) ?_
        repeat (go_big_quiet_step ((with_reducible exact Calls.ext_of _ (EQ.out _))))
        refine wpQuiet_nil ?_
        intro wd hw'
        have XD : Hid (Ext w wd) := Lib.hid (Ext.trans XC.out (by obtain ⟨p, rfl⟩ := hw'; exact p.ext))
        clear hw'
        go_wp2_with fail
        go_ret
        exact ⟨by unfold saidD; simp [HKK.out, HE.out], XD.out⟩
  · have g1 : (kind != 2) = true := by simpa using hk
    have HKK := Lib.hid hk
    clear hk
    go_wp2_with fail
    refine wp_region_ext (by kernel_rfl) (by kernel_rfl) ?_
    repeat (go_big_quiet_step (fail))
    refine wpQuiet_nil ?_
    intro wd hw'
    have XD : Hid (Ext w wd) := Lib.hid (Ext.trans XC.out (by obtain ⟨p, rfl⟩ := hw'; exact p.ext))
    clear hw'
    go_wp2_with fail
    go_ret
    exact ⟨by unfold saidD; simp [HKK.out], XD.out⟩
set_option maxRecDepth 100000 in
set_option maxHeartbeats 1600000 in
theorem saidNot_calls (z : TaleZ) (cb : Nat) (R : ReadAt B w rb mb v r) (hB : B ≤ w.heap.size) (hz : z.at B w) (hd : z.d.ok) (hin : z.d.kind = 2 → z.d.name ∈ r.names) (hrn : (r.kz z.d.name).k.reads.length ≤ 1000) (hcb : w.cell? ⟨cb, 0, none⟩ = some (.pointer (some ⟨rb, 0, none⟩))) :
    Calls Tryz.prog 22 (#[.agg (encTale z).toArray] ++ #[.pointer (some ⟨cb, 0, none⟩)]) w fun e w' => e = .returned (.bool (!saidD (r.kz z.d.name).k z.d)) ∧ Ext w w' := by
  obtain ⟨W, hW⟩ : ∃ W, W = w.alloc (.cells (encTale z).toArray 39) := ⟨_, rfl⟩
  have XW : Hid (Ext w W) := Lib.hid (by rw [hW]; exact (Below.refl _ w).alloc (Nat.le_refl _) _)
  have BW : Hid (Blk W w.heap.size (encTale z) 39) := Lib.hid (by rw [hW]; exact Blk.new w _ _)
  have SD := Lib.hid (replied_calls z (R.ext XW.out hB) (Nat.le_trans hB XW.out.size) (hz.ext (XW.out.mono hB)) hd hin hrn)
  have hcl : cb < w.heap.size := lt_of_cell hcb
  have c0 := (XW.out.cell (p := ⟨cb, 0, none⟩) hcl).trans hcb
  obtain ⟨S, hS⟩ : ∃ S, saidD (r.kz z.d.name).k z.d = S := ⟨_, rfl⟩
  rw [hS] at SD ⊢
  have HW := Lib.hid hW
  clear R hB hz hd hin hrn hcb hW hcl hS
  obtain ⟨⟨kind, index, cl, nm, acts, commit, reads⟩, node, group, term, ao, ac, ro, rc, lo, hi, ep, st, sc, se, so, sn, sp, co, cn, cp⟩ := z
  have HLD : Hid (W.rangeAt w.heap.size 0 (encTale ⟨⟨kind, index, cl, nm, acts, commit, reads⟩, node, group, term, ao, ac, ro, rc, lo, hi, ep, st, sc, se, so, sn, sp, co, cn, cp⟩)) := Lib.hid (fun j u hj => by rw [Nat.zero_add, BW.out.cell j]; exact hj)
  unfold encTale at HW SD HLD ⊢
  simp only at HW SD HLD ⊢
  clear BW
  go_enter Tryz.func22, Tryz.ntmps22
  go_upto_region 1 with fail
  rw [← HW.out]
  go_wp2_with (refine wpList_load_mid rfl 39 (.tmp 2) rfl w.heap.size 0 rfl _ _ HLD.out Tryz.underlying39 rfl sizeTale ?_)
  refine SD.out.mono ?_
  rintro e w2 ⟨rfl, hx⟩
  have X2 := Lib.hid (Ext.trans XW.out hx)
  clear hx
  go_wp2_with fail
  go_ret
  exact ⟨rfl, X2.out⟩
end Go.Proofs.YtbnclifpdmpjnaaGreatDoor
/- The first of tales of which a function tells yes. -/
namespace Go.Proofs.YtbnclifpdmpjnaaGreatDoor
open Go.RowKit
open Go.Maps (Keyed)
def FirstT (p : TaleZ → Bool) (l : List TaleZ) (k : Int) : Prop :=
  (k = -1 ∧ ∀ x ∈ l, p x = false) ∨ ∃ n : Nat, k = n ∧ n < l.length ∧ (∀ (i : Nat) (x : TaleZ), i < n → l[i]? = some x → p x = false) ∧ ∀ x, l[n]? = some x → p x = true
set_option maxRecDepth 100000 in
set_option maxHeartbeats 800000 in
theorem indexT_calls (g : Nat) (lb : Array Value) (eg : ∀ args w, (callFunc g args).run Tryz.prog w = .ok (.enter g args) w) (p : TaleZ → Bool)
    (l : List TaleZ) (ao : Option Addr) (cap : Nat) (w : World) (hl : l.length ≤ 1000000) (hr : Rows 18 encTale w.heap.size w ao l) (hq : ∀ W, Ext w W → ∀ x ∈ l, Calls Tryz.prog g (#[.agg (encTale x).toArray] ++ lb) W fun e w' => e = .returned (.bool (p x)) ∧ Ext W w') :
    Calls Tryz.prog 47 #[.slice ao l.length cap, .func (.func g) #[] lb] w fun e w' => ∃ k : Int, e = .returned (.int .i64 k) ∧ FirstT p l k ∧ Ext w w' := by
  have HR := Lib.hid hr; have HF := Lib.hid hq
  clear hr hq
  go_enter Tryz.func47, Tryz.ntmps47
  go_wp2_with fail
  go_loopw [8] (fun i wr => ∃ (k : Nat), k ≤ l.length ∧ i = .int .i64 k ∧ (∀ (i : Nat) (x : TaleZ), i < k → l[i]? = some x → p x = false) ∧ Ext w wr) (fun i _ => l.length - (intOf i).toNat)
  case atStart => exact ⟨0, by omega, rfl, fun i x h => by omega, Below.refl _ _⟩
  case round =>
    obtain ⟨k, hk, rfl, ha, hx⟩ := hrel
    have K1 := Lib.hid ha; have K2 := Lib.hid hx
    clear ha hx
    by_cases hlt : k < l.length
    · obtain ⟨x, hx⟩ : ∃ x, l[k]? = some x := ⟨_, List.getElem?_eq_getElem hlt⟩
      obtain ⟨b, off, rfl, hb, hcell⟩ := HR.out (by intro e; rw [e] at hlt; simp at hlt)
      have HLD : Hid (wr.rangeAt b (off + k * 18) (encTale x)) := Lib.hid (fun j u hj => (K2.out.cell (p := ⟨b, _, none⟩) hb).trans (hcell k x hx j u hj))
      have HX := Lib.hid hx
      have hcc : ∀ W, Ext wr W → Calls Tryz.prog g (#[.agg (encTale x).toArray] ++ lb) W fun e w' => e = .returned (.bool (p x)) ∧ Ext W w' := fun W hW => HF.out W (Ext.trans K2.out hW) x (List.mem_of_getElem? hx)
      have CC := Lib.hid hcc
      have i0 : (0 : Int) ≤ (k : Int) := by omega
      have i1 : (k : Int) < (l.length : Int) := by omega
      clear hcell hx hcc
      cases hrb : p x
      · have RB := Lib.hid hrb; clear hrb
        go_wp2_with (refine wpList_load_mid rfl 39 (.tmp 14) rfl b (off + k * 18) rfl (encTale x) _ HLD.out Tryz.underlying39 rfl sizeTale ?_)
        refine (CC.out _ (Below.refl _ _)).mono ?_
        rw [RB.out]
        rintro e w' ⟨rfl, hx2⟩
        have X2 := Lib.hid hx2; clear hx2
        go_wp2_with fail
        go_roundw
        case rel =>
          refine ⟨k + 1, by omega, by go_num, fun i x hi hx => ?_, Ext.trans K2.out X2.out⟩
          rcases Nat.lt_or_ge i k with h | h
          · exact K1.out i x h hx
          · obtain rfl : i = k := by omega
            rw [HX.out] at hx
            rw [← Option.some.inj hx]; exact RB.out
        case measure => simp [intOf]; omega
      · have RB := Lib.hid hrb; clear hrb
        go_wp2_with (refine wpList_load_mid rfl 39 (.tmp 14) rfl b (off + k * 18) rfl (encTale x) _ HLD.out Tryz.underlying39 rfl sizeTale ?_)
        refine (CC.out _ (Below.refl _ _)).mono ?_
        rw [RB.out]
        rintro e w' ⟨rfl, hx2⟩
        have X2 := Lib.hid hx2; clear hx2
        go_wp2_with fail
        go_ret
        exact ⟨k, ret_int (by omega), .inr ⟨k, rfl, hlt, K1.out, fun x hx => by rw [HX.out] at hx; rw [← Option.some.inj hx]; exact RB.out⟩, Ext.trans K2.out X2.out⟩
    · go_wp2_with fail
      go_ret
      refine ⟨-1, ret_int (by omega), .inl ⟨rfl, fun x hx => ?_⟩, K2.out⟩
      obtain ⟨i, hi⟩ := List.mem_iff_getElem?.1 hx
      exact K1.out i x (by have := (List.getElem?_eq_some_iff.1 hi).1; omega) hi
set_option maxRecDepth 100000 in
theorem containsT_calls (g : Nat) (lb : Array Value) (eg : ∀ args w, (callFunc g args).run Tryz.prog w = .ok (.enter g args) w) (p : TaleZ → Bool)
    (l : List TaleZ) (ao : Option Addr) (cap : Nat) (w : World) (hl : l.length ≤ 1000000) (hr : Rows 18 encTale w.heap.size w ao l) (hq : ∀ W, Ext w W → ∀ x ∈ l, Calls Tryz.prog g (#[.agg (encTale x).toArray] ++ lb) W fun e w' => e = .returned (.bool (p x)) ∧ Ext W w') :
    Calls Tryz.prog 21 #[.slice ao l.length cap, .func (.func g) #[] lb] w fun e w' => e = .returned (.bool (l.any p)) ∧ Ext w w' := by
  have HI := Lib.hid (indexT_calls g lb eg p l ao cap w hl hr hq)
  clear hr hq
  go_enter Tryz.func21, Tryz.ntmps21
  go_wp2_with fail
  refine HI.out.mono ?_
  rintro e w1 ⟨k, rfl, hk, hx⟩
  have X := Lib.hid hx; clear hx
  rcases hk with ⟨rfl, hno⟩ | ⟨n, rfl, hnl, _, hyes⟩
  · have ha : l.any p = false := by rw [List.any_eq_false]; intro x hx; rw [hno x hx]; simp
    have A1 := Lib.hid ha; clear ha hno
    go_wp2_with fail
    go_ret
    exact ⟨ret_bool (by rw [A1.out]), X.out⟩
  · have ha : l.any p = true := List.any_eq_true.2 ⟨l[n], List.getElem_mem hnl, hyes _ (List.getElem?_eq_getElem hnl)⟩
    have A1 := Lib.hid ha; clear ha hyes
    have i0 : (0 : Int) ≤ (n : Int) := by omega
    have g1 : decide ((0 : Int) ≤ (n : Int)) = true := decide_eq_true i0
    go_wp2_with fail
    go_ret
    exact ⟨ret_bool (by rw [A1.out]), X.out⟩
end Go.Proofs.YtbnclifpdmpjnaaGreatDoor
/- Of a row of pointers those of which a function tells yes are deleted: slices.DeleteFunc. -/
namespace Go.Proofs.YtbnclifpdmpjnaaGreatDoor
open Go.RowKit
def encP (b : Nat) : List Value := [.pointer (some ⟨b, 0, none⟩)]
theorem flat_ptrs (q : List Nat) : q.flatMap encP = q.map pv := by
  induction q with
  | nil => rfl
  | cons a q ih => rw [List.flatMap_cons, ih]; rfl
def FirstP (p : Nat → Bool) (l : List Nat) (k : Int) : Prop :=
  (k = -1 ∧ ∀ x ∈ l, p x = false) ∨ ∃ n : Nat, k = n ∧ n < l.length ∧ (∀ (i : Nat) (x : Nat), i < n → l[i]? = some x → p x = false) ∧ ∀ x, l[n]? = some x → p x = true
set_option maxRecDepth 100000 in
set_option maxHeartbeats 800000 in
theorem indexP_calls (g : Nat) (lb : Array Value) (eg : ∀ args w, (callFunc g args).run Tryz.prog w = .ok (.enter g args) w) (p : Nat → Bool)
    (l : List Nat) (ao : Option Addr) (cap : Nat) (w : World) (hl : l.length ≤ 1000000) (hr : Rows 1 encP w.heap.size w ao l) (hq : ∀ W, Ext w W → ∀ x ∈ l, Calls Tryz.prog g (#[.pointer (some ⟨x, 0, none⟩)] ++ lb) W fun e w' => e = .returned (.bool (p x)) ∧ Ext W w') :
    Calls Tryz.prog 49 #[.slice ao l.length cap, .func (.func g) #[] lb] w fun e w' => ∃ k : Int, e = .returned (.int .i64 k) ∧ FirstP p l k ∧ Ext w w' := by
  have HR := Lib.hid hr; have HF := Lib.hid hq
  clear hr hq
  go_enter Tryz.func49, Tryz.ntmps49
  go_wp2_with fail
  go_loopw [8] (fun i wr => ∃ (k : Nat), k ≤ l.length ∧ i = .int .i64 k ∧ (∀ (i : Nat) (x : Nat), i < k → l[i]? = some x → p x = false) ∧ Ext w wr) (fun i _ => l.length - (intOf i).toNat)
  case atStart => exact ⟨0, by omega, rfl, fun i x h => by omega, Below.refl _ _⟩
  case round =>
    obtain ⟨k, hk, rfl, ha, hx⟩ := hrel
    have K1 := Lib.hid ha; have K2 := Lib.hid hx
    clear ha hx
    by_cases hlt : k < l.length
    · obtain ⟨x, hx⟩ : ∃ x, l[k]? = some x := ⟨_, List.getElem?_eq_getElem hlt⟩
      obtain ⟨b, off, rfl, hb, hcell⟩ := HR.out (by intro e; rw [e] at hlt; simp at hlt)
      have d0 : wr.cell? ⟨b, off + k, none⟩ = some (.pointer (some ⟨x, 0, none⟩)) := (K2.out.cell (p := ⟨b, _, none⟩) hb).trans (by have := hcell k x hx 0 _ rfl; simpa using this)
      have HX := Lib.hid hx
      have CC := Lib.hid (HF.out wr K2.out x (List.mem_of_getElem? hx))
      have i0 : (0 : Int) ≤ (k : Int) := by omega
      have i1 : (k : Int) < (l.length : Int) := by omega
      clear hcell hx
      cases hrb : p x
      · have RB := Lib.hid hrb; clear hrb
        go_wp2_with fail
        refine CC.out.mono ?_
        rw [RB.out]
        rintro e w' ⟨rfl, hx2⟩
        have X2 := Lib.hid hx2; clear hx2
        go_wp2_with fail
        go_roundw
        case rel =>
          refine ⟨k + 1, by omega, by go_num, fun i y hi hy => ?_, Ext.trans K2.out X2.out⟩
          rcases Nat.lt_or_ge i k with h | h
          · exact K1.out i y h hy
          · obtain rfl : i = k := by omega
            rw [HX.out] at hy
            rw [← Option.some.inj hy]; exact RB.out
        case measure => simp [intOf]; omega
      · have RB := Lib.hid hrb; clear hrb
        go_wp2_with fail
        refine CC.out.mono ?_
        rw [RB.out]
        rintro e w' ⟨rfl, hx2⟩
        have X2 := Lib.hid hx2; clear hx2
        go_wp2_with fail
        go_ret
        exact ⟨k, ret_int (by omega), .inr ⟨k, rfl, hlt, K1.out, fun y hy => by rw [HX.out] at hy; rw [← Option.some.inj hy]; exact RB.out⟩, Ext.trans K2.out X2.out⟩
    · go_wp2_with fail
      go_ret
      refine ⟨-1, ret_int (by omega), .inl ⟨rfl, fun x hx => ?_⟩, K2.out⟩
      obtain ⟨i, hi⟩ := List.mem_iff_getElem?.1 hx
      exact K1.out i x (by have := (List.getElem?_eq_some_iff.1 hi).1; omega) hi
def keepP (p : Nat → Bool) (l : List Nat) : List Nat := l.filter fun x => !p x
theorem keepP_succ (p : Nat → Bool) (l : List Nat) (k x : Nat) (h : l[k]? = some x) : keepP p (l.take (k + 1)) = keepP p (l.take k) ++ (if p x = true then [] else [x]) := by
  unfold keepP
  rw [take_snoc h, List.filter_append]
  cases hp : p x <;> simp [hp]
def zeroP : Array Value := #[.pointer none]
theorem zeroP_one : ∀ n, ∀ v ∈ (Builtin.zeroCells zeroP n).toList, v.oneCell' = true := by
  intro n v hv
  simp only [Builtin.zeroCells, Array.toList_map, List.mem_map] at hv
  obtain ⟨i, _, rfl⟩ := hv
  have h : i % zeroP.size < 1 := Nat.mod_lt _ (by decide)
  have : ∀ k, k < 1 → (zeroP[k]!).oneCell' = true := by
    intro k hk
    match k, hk with
    | 0, _ => rfl
  exact this _ h
def TailP (cs : List Value) (j : Nat) (l : List Nat) : Prop := ∀ i x, j ≤ i → l[i]? = some x → cs[i]? = some (.pointer (some ⟨x, 0, none⟩))
set_option maxRecDepth 100000 in
set_option maxHeartbeats 3200000 in
theorem delP_calls (g : Nat) (lb : Array Value) (eg : ∀ args w, (callFunc g args).run Tryz.prog w = .ok (.enter g args) w) (p : Nat → Bool)
    (l : List Nat) (v : Value) (w : World) (hl : l.length ≤ 1000000) (hown : w.ownsRow 0 75 1 v l.length (l.map pv)) (hq : ∀ W, But (fun j => v.ownBlock = some j) w W → ∀ x ∈ l, Calls Tryz.prog g (#[.pointer (some ⟨x, 0, none⟩)] ++ lb) W fun e w' => e = .returned (.bool (p x)) ∧ Ext W w') :
    Calls Tryz.prog 24 #[v, .func (.func g) #[] lb] w fun e w' => ∃ v' : Value, e = .returned v' ∧ w'.ownsRow 0 75 1 v' (keepP p l).length ((keepP p l).map pv) ∧ (∀ j, v'.ownBlock = some j → v.ownBlock = some j) ∧ But (fun j => v.ownBlock = some j) w w' := by
  rw [← flat_ptrs] at hown
  obtain ⟨ao, c, rfl, hlc, hcm, hrow⟩ := Rows.own (enc := encP) (sz := 1) (fun _ => rfl) hown
  have HI := Lib.hid (indexP_calls g lb eg p l ao c w hl hrow (fun W hW => hq W (hW.but _)))
  have HOW := Lib.hid hown; have HQ := Lib.hid hq
  clear hown hq hrow
  unfold maxLen at hcm
  go_enter Tryz.func24, Tryz.ntmps24
  go_wp2_with fail
  refine HI.out.mono ?_
  rintro e w1 ⟨k, rfl, hk, hx1⟩
  have X1 := Lib.hid hx1
  clear hx1 HI
  rcases hk with ⟨rfl, hno⟩ | ⟨n, rfl, hnl, hlo, hhi⟩
  · have hkeep : keepP p l = l := by unfold keepP; rw [List.filter_eq_self]; intro x hx; rw [hno x hx]; rfl
    have HK := Lib.hid hkeep; clear hkeep hno
    go_wp2_with fail
    go_ret
    exact ⟨_, rfl, by rw [HK.out, ← flat_ptrs]; exact own_ext HOW.out X1.out, fun _ h => h, X1.out.but _⟩
  · obtain ⟨gb, rfl, cs, hblk, hcl, htk⟩ : ∃ gb, ao = some ⟨gb, 0, none⟩ ∧ ∃ cs, Blk w gb cs 75 ∧ cs.length = c ∧ cs.take l.length = l.map pv := by
      rcases HOW.out.2 with ⟨h, h0⟩ | ⟨gb, cap, cur, h, _, hg, _, _, hcs, htk⟩
      · omega
      · simp only [Value.slice.injEq, true_and] at h
        obtain ⟨rfl, rfl⟩ := h
        exact ⟨gb, rfl, cur.toList, blk_of hg, by simpa using hcs, by rw [Nat.mul_one, flat_ptrs] at htk; exact htk⟩
    have hS : ∀ j, (Value.slice (some ⟨gb, 0, none⟩) l.length c).ownBlock = some j ↔ j = gb := fun j => by simp [Value.ownBlock, eq_comm]
    have htail : TailP cs (n + 1) l := by
      intro i x _ hx
      have hil := (List.getElem?_eq_some_iff.1 hx).1
      have : (cs.take l.length)[i]? = some (.pointer (some ⟨x, 0, none⟩)) := by rw [htk, List.getElem?_map, hx]; rfl
      rw [List.getElem?_take, if_pos hil] at this
      exact this
    have hkn : keepP p (l.take (n + 1)) = l.take n := by
      obtain ⟨y, hy⟩ : ∃ y, l[n]? = some y := ⟨_, List.getElem?_eq_getElem hnl⟩
      rw [keepP_succ p l n y hy, if_pos (hhi y hy), List.append_nil]
      unfold keepP
      rw [List.filter_eq_self]
      intro x hx
      obtain ⟨i, hi⟩ := List.mem_iff_getElem?.1 hx
      rw [List.getElem?_take] at hi
      split at hi
      · rename_i hin
        rw [hlo i x hin hi]; rfl
      · cases hi
    have htn : cs.take n = (l.take n).map pv := by
      rw [List.map_take, ← htk, List.take_take]; congr 1; omega
    have hln : (l.take n).length = n := by rw [List.length_take]; omega
    have B1 := Lib.hid (hblk.ext' X1.out)
    have HT := Lib.hid htail; have HKN := Lib.hid hkn; have HTN := Lib.hid htn; have HLN := Lib.hid hln; have HS := Lib.hid hS
    have hne : ((n : Int) == -1) = false := by rw [beq_eq_false_iff_ne]; omega
    have HCL := Lib.hid hcl
    clear hlo hhi hblk htail hkn htn hln hS htk hcl
    go_wp2_with fail
    go_loopw [5, 6] (fun vi vj wr => ∃ (j K : Nat) (cs : List Value), j ≤ l.length ∧ K < j ∧ vi = .int .i64 K ∧ vj = .int .i64 j ∧ K = (keepP p (l.take j)).length ∧ Blk wr gb cs 75 ∧ cs.length = c ∧ cs.take K = (keepP p (l.take j)).map pv ∧ TailP cs j l ∧ But (fun i => (Value.slice (some ⟨gb, 0, none⟩) l.length c).ownBlock = some i) w wr) (fun _ vj _ => l.length - (intOf vj).toNat)
    case atStart => exact ⟨n + 1, n, cs, by omega, by omega, rfl, by go_num, by rw [HKN.out, HLN.out], B1.out, HCL.out, by rw [HKN.out]; exact HTN.out, HT.out, X1.out.but _⟩
    case round =>
      obtain ⟨j, K, cs', hj, hKj, rfl, rfl, hK, hblk, hcl, htk, htl, hbut⟩ := hrel
      have K1 := Lib.hid hK; have K2 := Lib.hid hblk; have K3 := Lib.hid hcl; have K4 := Lib.hid htk; have K5 := Lib.hid htl; have K6 := Lib.hid hbut
      clear hK hblk hcl htk htl hbut
      by_cases hlt : j < l.length
      · obtain ⟨x, hx⟩ : ∃ x, l[j]? = some x := ⟨_, List.getElem?_eq_getElem hlt⟩
        have hcx := K5.out j x (Nat.le_refl _) hx
        have hks := keepP_succ p l j x hx
        have d0 : wr.cell? ⟨gb, j, none⟩ = some (.pointer (some ⟨x, 0, none⟩)) := (K2.out.cell j).trans hcx
        have CC := Lib.hid (HQ.out wr K6.out x (List.mem_of_getElem? hx)); have HKS := Lib.hid hks
        have i0 : (0 : Int) ≤ (j : Int) := by omega
        have i1 : (j : Int) < (l.length : Int) := by omega
        have k0 : (0 : Int) ≤ (K : Int) := by omega
        have k1 : (K : Int) < (l.length : Int) := by omega
        clear hcx hks hx
        cases hp : p x
        · have HP := Lib.hid hp; clear hp
          go_wp2_with fail
          refine CC.out.mono ?_
          rw [HP.out]
          rintro e w2 ⟨rfl, hx2⟩
          have X2 := Lib.hid hx2
          have hg2 : Blk w2 gb cs' 75 := K2.out.ext' X2.out
          obtain ⟨u0, g0⟩ : ∃ u, w2.cell? ⟨gb, K, none⟩ = some u := ⟨cs'[K]'(by have := K3.out; omega), by rw [hg2.cell]; exact List.getElem?_eq_getElem (by have := K3.out; omega)⟩
          have f0 := hg2.free K
          have G2 := Lib.hid hg2
          clear hx2 hg2 d0
          go_wp2_with fail
          go_roundw
          case rel =>
            have hin : K < cs'.length := by have := K3.out; omega
            refine ⟨j + 1, K + 1, cs'.set K (.pointer (some ⟨x, 0, none⟩)), by omega, by omega, by go_num, by go_num, ?_, G2.out.set K _, by rw [List.length_set]; exact K3.out, ?_, ?_, ?_⟩
            · rw [HKS.out, HP.out, List.length_append, ← K1.out]; rfl
            · rw [HKS.out, HP.out, List.map_append, ← K4.out, List.take_add_one, List.getElem?_set_self hin, List.take_set_of_le (Nat.le_refl _)]
              rfl
            · intro i y hi hy
              rw [List.getElem?_set_ne (by omega)]
              exact K5.out i y (by omega) hy
            · exact (K6.out.trans (X2.out.but (fun _ => False)) (fun _ _ e => e) (fun _ _ e => e.elim)).setCell (fun _ => (HS.out gb).2 rfl) _
          case measure => simp [intOf]; omega
        · have HP := Lib.hid hp; clear hp
          go_wp2_with fail
          refine CC.out.mono ?_
          rw [HP.out]
          rintro e w2 ⟨rfl, hx2⟩
          have X2 := Lib.hid hx2
          clear hx2
          go_wp2_with fail
          go_roundw
          case rel =>
            exact ⟨j + 1, K, cs', by omega, by omega, rfl, by go_num, by rw [HKS.out, HP.out, K1.out]; simp, K2.out.ext' X2.out, K3.out, by rw [HKS.out, HP.out, K4.out]; simp, fun i y hi => K5.out i y (by omega), K6.out.trans (X2.out.but (fun _ => False)) (fun _ _ e => e) (fun _ _ e => e.elim)⟩
          case measure => simp [intOf]; omega
      · obtain rfl : j = l.length := by omega
        have hKc : ¬ (c = K) := by omega
        have hz : (Builtin.zeroCells zeroP (l.length - K)).toList.length = l.length - K := by rw [Array.length_toList, zc_size]; exact Nat.mul_one _
        have hcr : ∀ ty, (Builtin.clear_ #[68] ty #[.slice (some ⟨gb, K, none⟩) (l.length - K) (c - K)]).run Tryz.prog wr = .ok (.tuple #[]) (wr.setCells gb K (Builtin.zeroCells zeroP (l.length - K)).toList) := fun ty =>
          run_clear_k wr 68 75 ty (.pointer none) zeroP Tryz.underlying68 (fun w => by kernel_rfl) rfl zeroP_one gb K (l.length - K) (c - K) (by omega) (fun i hi => by
            have hi' : i < (l.length - K) * 1 := hi
            have := K3.out
            rw [K2.out.cell, List.getElem?_eq_getElem (by omega)]; rfl) (fun i _ => K2.out.free _)
        have k0 : (0 : Int) ≤ (K : Int) := by omega
        have k1 : (K : Int) ≤ (l.length : Int) := by omega
        have k2 : (K : Int) ≤ (c : Int) := by omega
        have HZ := Lib.hid hz
        have hall : keepP p (l.take l.length) = keepP p l := by rw [List.take_length]
        have HAL := Lib.hid hall
        clear hz hall
        go_wp2_with fail
        go_ret
        have e1 := K1.out; have e4 := K4.out; have e3 := K3.out
        rw [HAL.out] at e1 e4
        refine ⟨.slice (some ⟨gb, 0, none⟩) K c, rfl, ?_, fun j hj => hj, ?_⟩
        · rw [← e1]
          exact own_of_blk (K2.out.setCells _ K) (by rw [splice_length, e3, Nat.mul_one]) (by omega) (by unfold maxLen; omega) (by rw [Nat.mul_one, take_splice' _ _ _ (by rw [HZ.out]; omega)]; exact e4)
        · exact but_setCells ((HS.out gb).2 rfl) _ K K6.out
set_option maxRecDepth 100000 in
theorem notDecided_calls (p : Nat) (z : KnZ) (w : World) (hb : Blk w p (encKn z) 77) :
    Calls Tryz.prog 25 (#[.pointer (some ⟨p, 0, none⟩)] ++ #[]) w fun e w' => e = .returned (.bool (!z.k.decided)) ∧ Ext w w' := by
  have c3 : w.cell? ⟨p, 3, none⟩ = some (.bool z.k.decided) := hb.cell 3
  obtain ⟨D, hD⟩ : ∃ D, z.k.decided = D := ⟨_, rfl⟩
  rw [hD] at c3 ⊢
  clear hb hD
  go_enter Tryz.func25, Tryz.ntmps25
  go_wp2_with fail
  go_ret
  exact ⟨rfl, Below.refl _ _⟩
end Go.Proofs.YtbnclifpdmpjnaaGreatDoor
