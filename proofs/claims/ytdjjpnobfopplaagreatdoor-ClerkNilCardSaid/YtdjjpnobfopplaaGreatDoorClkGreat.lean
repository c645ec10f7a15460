/- clerk: a call of the law's; great over one. -/
import Derived.Test.YtdjjpnobfopplaaGreatDoorHoldDefs
namespace Go.Proofs.YtdjjpnobfopplaaGreatDoor
open Go.RowKit

structure CallZ where
  kind : Int
  c : Int
  n : Int
  acts : List ActD
  ao : Option Addr
  ac : Nat
  no : Option Addr
  nn : Nat
  nc : Nat
  group : Int
  back : Int
  err : Int
  c2 : Int
  n2 : Int
  is : Bool
  commit : Bool
  reads : List Rd
  ro : Option Addr
  rc : Nat
  scheme : Int
  stage : Int
  bo : Option Addr
  bn : Nat
  bc : Nat
def encCall (z : CallZ) : List Value := [.int .i64 z.kind, .int .i64 z.c, .int .i64 z.n, .slice z.ao z.acts.length z.ac, .slice z.no z.nn z.nc, .int .i64 z.group, .int .i64 z.back, .int .i64 z.err, .int .i64 z.c2, .int .i64 z.n2, .bool z.is, .bool z.commit, .slice z.ro z.reads.length z.rc, .int .i64 z.scheme, .int .i64 z.stage, .slice z.bo z.bn z.bc]
structure CallZ.small (z : CallZ) : Prop where
  acts : ∀ a ∈ z.acts, a.small
  reads : ∀ a ∈ z.reads, a.small
  al : z.acts.length ≤ 9223372036854775807
  rl : z.reads.length ≤ 9223372036854775807
  nl : z.nn ≤ 9223372036854775807
  bl : z.bn ≤ 9223372036854775807

set_option maxRecDepth 100000 in
set_option maxHeartbeats 3200000 in
theorem great26_calls (z : CallZ) (b : Nat) (w : World) (hb : b < w.heap.size) (hc : ∀ (j : Nat) (v : Value), (encCall z)[j]? = some v → w.cell? ⟨b, j, none⟩ = some v)
    (ha : Rows 4 encAct w.heap.size w z.ao z.acts) (hr : Rows 3 encRd w.heap.size w z.ro z.reads) (hs : z.small) :
    Calls Tryz.prog 5 #[.slice (some ⟨b, 0, none⟩) 1 1] w fun e w' => ∃ v, e = .returned (.bool v) ∧ Ext w w' := by
  obtain ⟨kind, c, n, acts, ao, ac, no, nn, nc, group, back, err, c2, n2, is, commit, reads, ro, rc, scheme, stage, bo, bn, bc⟩ := z
  obtain ⟨hs1, hs2, hal, hrl, hnl, hbl⟩ := hs
  simp only at hs1 hs2 hal hrl hnl hbl ha hr
  have HA := Lib.hid ha; have HR := Lib.hid hr; have HS1 := Lib.hid hs1; have HS2 := Lib.hid hs2
  unfold encCall at hc
  simp only at hc
  have q1 := hc 3 _ rfl; have q2 := hc 4 _ rfl; have q3 := hc 12 _ rfl; have q4 := hc 15 _ rfl
  have HQ := Lib.hid (⟨q1, q2, q3, q4⟩ : _ ∧ _ ∧ _ ∧ _)
  have hbd := actsN_bd (most := 60) (by omega) acts 0 hs1 (by omega)
  have AC := Lib.hid (fun W (hW : Ext w W) => actsOf_calls acts ao ac 60 W (by omega) hal ((ha.ext hW).mono hW.size) hs1)
  obtain ⟨A, hA⟩ : ∃ A, actsN 60 0 acts = A := ⟨_, rfl⟩
  rw [hA] at hbd AC
  clear ha hr hs1 hs2 hc q1 q2 q3 q4 hA
  go_enter Tryz.func5, Tryz.ntmps5
  go_wp2_with fail
  go_loopw [3] (fun vi wr => ∃ i : Nat, i ≤ 1 ∧ vi = .int .i64 i ∧ Ext w wr) (fun vi _ => 1 - (intOf vi).toNat)
  case atStart => exact ⟨0, by omega, rfl, Below.refl _ _⟩
  case round =>
    obtain ⟨i, hi, rfl, hx⟩ := hrel
    have K1 := Lib.hid hx; clear hx
    by_cases h0 : i = 0
    · subst h0
      obtain ⟨q1, q2, q3, q4⟩ := HQ.out
      have p1 := (K1.out.cell (p := ⟨b, 3, none⟩) hb).trans q1
      have p2 := (K1.out.cell (p := ⟨b, 4, none⟩) hb).trans q2
      have p3 := (K1.out.cell (p := ⟨b, 12, none⟩) hb).trans q3
      have p4 := (K1.out.cell (p := ⟨b, 15, none⟩) hb).trans q4
      clear q1 q2 q3 q4
      go_wp2_with fail
      refine (AC.out _ K1.out).mono ?_
      rintro e w2 ⟨rfl, hx2⟩
      have X2 := Lib.hid (Ext.trans K1.out hx2)
      have r2 := (hx2.cell (p := ⟨b, 4, none⟩) (Nat.lt_of_lt_of_le hb K1.out.size)).trans p2
      have r3 := (hx2.cell (p := ⟨b, 12, none⟩) (Nat.lt_of_lt_of_le hb K1.out.size)).trans p3
      have r4 := (hx2.cell (p := ⟨b, 15, none⟩) (Nat.lt_of_lt_of_le hb K1.out.size)).trans p4
      clear p1 p2 p3 p4 hx2
      have hch : (decide ((60 : Int) < (A : Int)) = true) ∨ (decide ((60 : Int) < (A : Int)) = false ∧ decide ((30 : Int) < (nn : Int)) = true) ∨ (decide ((60 : Int) < (A : Int)) = false ∧ decide ((30 : Int) < (nn : Int)) = false ∧ decide ((4000 : Int) < (bn : Int)) = true) ∨
          (decide ((60 : Int) < (A : Int)) = false ∧ decide ((30 : Int) < (nn : Int)) = false ∧ decide ((4000 : Int) < (bn : Int)) = false ∧ decide ((20 : Int) < (reads.length : Int)) = true) ∨
          (decide ((60 : Int) < (A : Int)) = false ∧ decide ((30 : Int) < (nn : Int)) = false ∧ decide ((4000 : Int) < (bn : Int)) = false ∧ decide ((20 : Int) < (reads.length : Int)) = false) := by
        cases decide ((60 : Int) < (A : Int)) <;> cases decide ((30 : Int) < (nn : Int)) <;> cases decide ((4000 : Int) < (bn : Int)) <;> cases decide ((20 : Int) < (reads.length : Int)) <;> simp
      rcases hch with h1 | ⟨h1, h2⟩ | ⟨h1, h2, h3⟩ | ⟨h1, h2, h3, h4⟩ | ⟨h1, h2, h3, h4⟩
      · go_wp2_with fail
        go_ret
        exact ⟨_, rfl, X2.out⟩
      · go_wp2_with fail
        go_ret
        exact ⟨_, rfl, X2.out⟩
      · go_wp2_with fail
        go_ret
        exact ⟨_, rfl, X2.out⟩
      · go_wp2_with fail
        go_ret
        exact ⟨_, rfl, X2.out⟩
      · go_wp2_with fail
        clear r2 r3 r4 h1 h2 h3 h4
        go_loopw [4] (fun vk wr3 => ∃ k : Nat, k ≤ reads.length ∧ vk = .int .i64 k ∧ Ext w wr3) (fun vk _ => reads.length - (intOf vk).toNat)
        case atStart => exact ⟨0, by omega, rfl, X2.out⟩
        case round =>
          obtain ⟨k, hk, rfl, hx3⟩ := hrel
          have q3 := HQ.out.2.2.1
          have p3 := (hx3.cell (p := ⟨b, 12, none⟩) hb).trans q3
          clear q3
          by_cases hlt : k < reads.length
          · obtain ⟨x, hx⟩ : ∃ x, reads[k]? = some x := ⟨_, List.getElem?_eq_getElem hlt⟩
            obtain ⟨hk8, hv8⟩ := HS2.out x (List.mem_of_getElem? hx)
            obtain ⟨rb, off, rfl, hrb, hcell⟩ := HR.out (by intro e; rw [e] at hlt; simp at hlt)
            have hcx := hcell k x hx
            have d0 := ExtBy.cell p3
            obtain ⟨key, ris, val⟩ := x
            have d1 := ExtBy.cell ((hx3.cell (p := ⟨rb, _, none⟩) hrb).trans (show w.cell? ⟨rb, off + k * 3, none⟩ = some (.string key) from hcx 0 _ rfl)); have d2 := ExtBy.cell ((hx3.cell (p := ⟨rb, _, none⟩) hrb).trans (hcx 2 _ rfl))
            have ii0 : (0 : Int) ≤ (k : Int) := by omega
            have i1 : (k : Int) < (reads.length : Int) := by omega
            simp only at hk8 hv8
            have X3 := Lib.hid hx3
            clear hcell hcx hx hx3
            go_wp2_with fail
            refine wp_region_ext (by kernel_rfl) (by kernel_rfl) ?_
            repeat (go_big_quiet_step (fail))
            refine wpQuiet_nil ?_
            intro wc hw'
            have hxc : Ext wr wc := by obtain ⟨p, rfl⟩ := hw'; exact p.ext
            have XC := Lib.hid (Ext.trans X3.out hxc)
            clear hxc hw' d0 d1 d2
            cases hgt : decide ((100 : Int) < (key.size : Int) + (val.size : Int)) with
            | true =>
              go_wp2_with fail
              go_ret
              exact ⟨_, rfl, XC.out⟩
            | false =>
              go_wp2_with fail
              go_roundw
              case rel => exact ⟨k + 1, by omega, by go_num, XC.out⟩
              case measure => simp [intOf]; omega
          · have X3 := Lib.hid hx3
            clear hx3
            go_wp2_with fail
            go_roundw
            case rel => exact ⟨1, by omega, by go_num, X3.out⟩
            case measure => simp [intOf]
    · have h1 : i = 1 := by omega
      subst h1
      go_wp2_with fail
      go_ret
      exact ⟨_, rfl, K1.out⟩
end Go.Proofs.YtdjjpnobfopplaaGreatDoor
