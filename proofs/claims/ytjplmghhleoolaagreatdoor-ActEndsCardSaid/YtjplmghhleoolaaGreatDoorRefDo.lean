/- The reference's Do: what acts of one key do. -/
import Derived.Test.YtjplmghhleoolaaGreatDoorDo2
import Derived.Test.YtjplmghhleoolaaGreatDoorRefStr
import Derived.Test.YtjplmghhleoolaaGreatDoorNumLaw
import Derived.Test.YtjplmghhleoolaaGreatDoorExtRegion
namespace Go.Proofs.YtjplmghhleoolaaGreatDoor
open Go.RowKit

set_option maxRecDepth 100000 in
set_option maxHeartbeats 1600000 in
theorem refDo_calls (is : Bool) (value : ByteArray) (l : List ActD) (ao : Option Addr) (cap : Nat) (w : World) (hl : l.length ≤ 1000000) (hs : value.size ≤ 140737488351232) (hok : ∀ a ∈ l, a.ok) (hr : Rows 4 encAct w.heap.size w ao l) :
    Calls Tryz.prog 9 #[.bool is, .string value, .slice ao l.length cap] w (DoPost is value l w) := by
  obtain ⟨i0, hi, hz0, hz1, hz2⟩ := info_parts infoRd
  have HR := Lib.hid hr; have H0 := Lib.hid hok
  have hsb : (St.begin is value).value.size ≤ 140737488351232 := by
    unfold St.begin; dsimp only
    split
    · exact hs
    · exact Nat.zero_le _
  clear hr hok
  have hbv : ((St.begin is value).is = is) ∧ (St.begin is value).put = false := ⟨rfl, rfl⟩
  have HBV := Lib.hid hbv; clear hbv
  cases is
  all_goals
    go_enter Tryz.func9, Tryz.ntmps9
    go_wp2_with fail
  · have hv0 : (St.begin false value).value = ⟨#[]⟩ := rfl
    have HV0 := Lib.hid hv0; clear hv0
    go_loopw [0, 1, 9, 10, 11] (fun vi vv v vp i wr => ∃ (k : Nat) (s : St), k ≤ l.length ∧ i = .int .i64 k ∧ s = (St.begin false value).after (l.take k) ∧ vi = .bool s.is ∧ vv = .string s.value ∧ vp = .bool s.put ∧ wr.ownsRow 0 53 3 v s.reads.length (s.reads.flatMap encRd) ∧ (∀ j, v.ownBlock = some j → w.heap.size ≤ j) ∧ Ext w wr) (fun _ _ _ _ i _ => l.length - (intOf i).toNat)
    case atStart => exact ⟨0, _, by omega, rfl, rfl, rfl, rfl, rfl, World.ownsRow_nil _ _ _ _, by simp [Value.ownBlock], Below.refl _ _⟩
    case round =>
      obtain ⟨k, s, hk, rfl, hs1, rfl, rfl, rfl, hown, hnew, hx⟩ := hrel
      have K1 := Lib.hid hown; have K2 := Lib.hid hnew; have K3 := Lib.hid hx
      clear hown hnew hx
      by_cases hlt : k < l.length
      · obtain ⟨x, hx⟩ : ∃ x, l[k]? = some x := ⟨_, List.getElem?_eq_getElem hlt⟩
        have hbd := St.after_bd (l.take k) (St.begin false value) hsb (fun a ha => H0.out a (List.mem_of_mem_take ha))
        have hstep := St.after_succ (St.begin false value) l k x hx
        rw [← hs1] at hbd hstep
        have hlen : s.reads.length ≤ 1000000 := by have := hbd.2; simp [St.begin] at this; omega
        have hval := hbd.1
        obtain ⟨b, off, rfl, hb, hcell⟩ := HR.out (by intro e; rw [e] at hlt; simp at hlt)
        have hcx := hcell k x hx
        have hmove : ∀ j, wr.cell? ⟨b, j, none⟩ = w.cell? ⟨b, j, none⟩ := fun j => K3.out.cell (p := ⟨b, j, none⟩) hb
        obtain ⟨kd, key, val, num⟩ := x
        have d0 := (hmove _).trans (hcx 0 _ rfl); have d1 := (hmove _).trans (hcx 1 _ rfl); have d2 := (hmove _).trans (hcx 2 _ rfl); have d3 := (hmove _).trans (hcx 3 _ rfl)
        simp only [Nat.add_zero] at d0
        have hi0 : (0 : Int) ≤ (k : Int) := by omega
        have hi1 : (k : Int) < (l.length : Int) := by omega
        have ST := Lib.hid hstep; have HS1 := Lib.hid hs1
        have hrd : (s.reads ++ [Rd.mk key s.is s.value]).flatMap encRd = s.reads.flatMap encRd ++ encRd (Rd.mk key s.is s.value) := by rw [List.flatMap_append]; simp
        have HRD := Lib.hid hrd
        clear hx hcell hcx hmove hbd hstep hs1 hrd
        have CN := Lib.hid (cells_new wr (encRd (Rd.mk key s.is s.value)) 53)
        have E2 : Hid (Ext wr (wr.alloc (.cells (encRd (Rd.mk key s.is s.value)).toArray 53))) := Lib.hid ((Below.refl _ wr).alloc (Nat.le_refl _) _)
        by_cases k1 : kd = 1
        · subst k1
          have hnx : s.step ⟨1, key, val, num⟩ = s.get key := rfl
          rw [hnx] at ST
          clear hnx
          go_wp2_with (at_builtin; refine wpList_append_at _ rfl _ _ 28 rfl 53 i0 _ 3 40 Tryz.underlying28 hi hz0 hz1 hz2 rfl (by decide) _ s.reads.length (s.reads.flatMap encRd) rfl (own_ext K1.out E2.out) ⟨wr.heap.size, 0, none⟩ 1 1 (encRd (Rd.mk key s.is s.value)) rfl rfl CN.out (by simp [encRd, Value.oneCell']) (by decide) (by unfold maxLen; omega) (by omega) ?_; intro g cap2 w1 hown' hbut hkept; have Y1 := Lib.hid hown'; have Y2 := Lib.hid hbut; have Y3 := Lib.hid hkept; clear hown' hbut hkept)
          go_roundw
          case rel =>
            refine ⟨k + 1, s.get key, by omega, by go_num, ST.out.symm, rfl, rfl, rfl, ?_, ?_, ?_⟩
            · have := Y1.out
              rw [show (s.get key).reads = s.reads ++ [Rd.mk key s.is s.value] from rfl, HRD.out, List.length_append]
              exact this
            · intro j hj
              rcases Y3.out j hj with e | e
              · exact K2.out j e
              · have := K3.out.size; simp at e; omega
            · exact Below.trans K3.out (((Ext.but E2.out (fun _ => False)).trans Y2.out (U := fun j => w.heap.size ≤ j) (fun _ _ e => e.elim) (fun i _ e => K2.out i e)).below K3.out.size (fun _ h => h))
          case measure => simp [intOf]; omega
        · have e1 : (kd == 1) = false := by simpa using k1
          by_cases k2 : kd = 2
          · subst k2
            have hnx : s.step ⟨2, key, val, num⟩ = s.puts val := rfl
            rw [hnx] at ST
            clear hnx
            go_wp2_with fail
            go_roundw
            case rel => exact ⟨k + 1, s.puts val, by omega, by go_num, ST.out.symm, rfl, rfl, rfl, K1.out, K2.out, K3.out⟩
            case measure => simp [intOf]; omega
          · have e2 : (kd == 2) = false := by simpa using k2
            by_cases k3 : kd = 3
            · subst k3
              have hnx : s.step ⟨3, key, val, num⟩ = (s.get key).puts (addV s.value num) := rfl
              rw [hnx] at ST
              clear hnx
              have hwrap : IntKind.i64.wrap (refNumberL s.value.data.toList + max (min num 4294967296) (-4294967296)) = refNumberL s.value.data.toList + clampI num := by
                rw [← number_eq]
                exact IntWalk.i64_in _ (by have := numberL_bd s.value.data.toList; have := clampI_bd num; unfold clampI at *; omega)
              go_wp2_with (at_builtin; refine wpList_append_at _ rfl _ _ 28 rfl 53 i0 _ 3 40 Tryz.underlying28 hi hz0 hz1 hz2 rfl (by decide) _ s.reads.length (s.reads.flatMap encRd) rfl (own_ext K1.out E2.out) ⟨wr.heap.size, 0, none⟩ 1 1 (encRd (Rd.mk key s.is s.value)) rfl rfl CN.out (by simp [encRd, Value.oneCell']) (by decide) (by unfold maxLen; omega) (by omega) ?_; intro g cap2 w1 hown' hbut hkept; have Y1 := Lib.hid hown'; have Y2 := Lib.hid hbut; have Y3 := Lib.hid hkept; clear hown' hbut hkept)
              have hx1 : Below w.heap.size wr w1 := ((Ext.but E2.out (fun _ => False)).trans Y2.out (U := fun j => w.heap.size ≤ j) (fun _ _ e => e.elim) (fun i _ e => K2.out i e)).below K3.out.size (fun _ h => h)
              have m3 : w1.cell? ⟨b, off + k * 4 + 3, none⟩ = some (.int .i64 num) := (hx1.cell (p := ⟨b, off + k * 4 + 3, none⟩) hb).trans d3
              have m3' := ExtBy.cell m3
              have X1 := Lib.hid hx1
              have hnum := fun W => refNumber_calls s.value W hval
              have hvl := fun W => refValue_calls (refNumberL s.value.data.toList + clampI num) W
              have HN := Lib.hid hnum; have HVL := Lib.hid hvl
              clear hx1 hnum hvl m3 d0 d1 d2 d3
              refine wp_region_ext (by kernel_rfl) (by kernel_rfl) ?_
              repeat (go_big_quiet_step ((first | (with_reducible exact Calls.ext_of_same _ (HN.out _)) | (with_reducible exact Calls.ext_of _ (HVL.out _)))))
              refine wpQuiet_nil ?_
              intro _ hw'
              obtain ⟨⟨w7, hx7⟩, hw''⟩ := hw'
              have X7 := Lib.hid hx7
              subst hw''
              clear hx7 hwrap m3'
              go_wp2_with fail
              go_roundw
              case rel =>
                refine ⟨k + 1, (s.get key).puts (addV s.value num), by omega, by go_num, ST.out.symm, rfl, ?_, rfl, ?_, ?_, ?_⟩
                · show _ = Value.string (addV s.value num)
                  unfold addV
                  rw [number_eq]
                · have := own_ext Y1.out X7.out
                  rw [show ((s.get key).puts (addV s.value num)).reads = s.reads ++ [Rd.mk key s.is s.value] from rfl, HRD.out, List.length_append]
                  exact this
                · intro j hj
                  rcases Y3.out j hj with e | e
                  · exact K2.out j e
                  · have := K3.out.size; simp at e; omega
                · exact Below.trans (Below.trans K3.out X1.out) (Below.mono X7.out (by have := X1.out.size; have := K3.out.size; omega))
              case measure => simp [intOf]; omega
            · have e3 : (kd == 3) = false := by simpa using k3
              have hnx : s.step ⟨kd, key, val, num⟩ = s := by simp [St.step, k1, k2, k3]
              rw [hnx] at ST
              clear hnx k1 k2 k3
              go_wp2_with fail
              go_roundw
              case rel => exact ⟨k + 1, s, by omega, by go_num, ST.out.symm, rfl, rfl, rfl, K1.out, K2.out, K3.out⟩
              case measure => simp [intOf]; omega
      · have hs2 : doRes false value l = s := by rw [hs1, List.take_of_length_le (by omega)]; rfl
        have HS1 := Lib.hid hs1; have HS2 := Lib.hid hs2
        clear hs1 hs2
        cases hput : s.put
        · go_wp2_with fail
          go_ret3
          refine ⟨_, ?_, by rw [HS2.out]; exact K1.out, K2.out, K3.out⟩
          unfold doAfter
          rw [HS2.out, hput]; rfl
        · go_wp2_with fail
          go_ret3
          refine ⟨_, ?_, by rw [HS2.out]; exact K1.out, K2.out, K3.out⟩
          unfold doAfter
          rw [HS2.out, hput]; rfl
  · have hv0 : (St.begin true value).value = value := rfl
    have HV0 := Lib.hid hv0; clear hv0
    go_loopw [0, 1, 9, 10, 11] (fun vi vv v vp i wr => ∃ (k : Nat) (s : St), k ≤ l.length ∧ i = .int .i64 k ∧ s = (St.begin true value).after (l.take k) ∧ vi = .bool s.is ∧ vv = .string s.value ∧ vp = .bool s.put ∧ wr.ownsRow 0 53 3 v s.reads.length (s.reads.flatMap encRd) ∧ (∀ j, v.ownBlock = some j → w.heap.size ≤ j) ∧ Ext w wr) (fun _ _ _ _ i _ => l.length - (intOf i).toNat)
    case atStart => exact ⟨0, _, by omega, rfl, rfl, rfl, rfl, rfl, World.ownsRow_nil _ _ _ _, by simp [Value.ownBlock], Below.refl _ _⟩
    case round =>
      obtain ⟨k, s, hk, rfl, hs1, rfl, rfl, rfl, hown, hnew, hx⟩ := hrel
      have K1 := Lib.hid hown; have K2 := Lib.hid hnew; have K3 := Lib.hid hx
      clear hown hnew hx
      by_cases hlt : k < l.length
      · obtain ⟨x, hx⟩ : ∃ x, l[k]? = some x := ⟨_, List.getElem?_eq_getElem hlt⟩
        have hbd := St.after_bd (l.take k) (St.begin true value) hsb (fun a ha => H0.out a (List.mem_of_mem_take ha))
        have hstep := St.after_succ (St.begin true value) l k x hx
        rw [← hs1] at hbd hstep
        have hlen : s.reads.length ≤ 1000000 := by have := hbd.2; simp [St.begin] at this; omega
        have hval := hbd.1
        obtain ⟨b, off, rfl, hb, hcell⟩ := HR.out (by intro e; rw [e] at hlt; simp at hlt)
        have hcx := hcell k x hx
        have hmove : ∀ j, wr.cell? ⟨b, j, none⟩ = w.cell? ⟨b, j, none⟩ := fun j => K3.out.cell (p := ⟨b, j, none⟩) hb
        obtain ⟨kd, key, val, num⟩ := x
        have d0 := (hmove _).trans (hcx 0 _ rfl); have d1 := (hmove _).trans (hcx 1 _ rfl); have d2 := (hmove _).trans (hcx 2 _ rfl); have d3 := (hmove _).trans (hcx 3 _ rfl)
        simp only [Nat.add_zero] at d0
        have hi0 : (0 : Int) ≤ (k : Int) := by omega
        have hi1 : (k : Int) < (l.length : Int) := by omega
        have ST := Lib.hid hstep; have HS1 := Lib.hid hs1
        have hrd : (s.reads ++ [Rd.mk key s.is s.value]).flatMap encRd = s.reads.flatMap encRd ++ encRd (Rd.mk key s.is s.value) := by rw [List.flatMap_append]; simp
        have HRD := Lib.hid hrd
        clear hx hcell hcx hmove hbd hstep hs1 hrd
        have CN := Lib.hid (cells_new wr (encRd (Rd.mk key s.is s.value)) 53)
        have E2 : Hid (Ext wr (wr.alloc (.cells (encRd (Rd.mk key s.is s.value)).toArray 53))) := Lib.hid ((Below.refl _ wr).alloc (Nat.le_refl _) _)
        by_cases k1 : kd = 1
        · subst k1
          have hnx : s.step ⟨1, key, val, num⟩ = s.get key := rfl
          rw [hnx] at ST
          clear hnx
          go_wp2_with (at_builtin; refine wpList_append_at _ rfl _ _ 28 rfl 53 i0 _ 3 40 Tryz.underlying28 hi hz0 hz1 hz2 rfl (by decide) _ s.reads.length (s.reads.flatMap encRd) rfl (own_ext K1.out E2.out) ⟨wr.heap.size, 0, none⟩ 1 1 (encRd (Rd.mk key s.is s.value)) rfl rfl CN.out (by simp [encRd, Value.oneCell']) (by decide) (by unfold maxLen; omega) (by omega) ?_; intro g cap2 w1 hown' hbut hkept; have Y1 := Lib.hid hown'; have Y2 := Lib.hid hbut; have Y3 := Lib.hid hkept; clear hown' hbut hkept)
          go_roundw
          case rel =>
            refine ⟨k + 1, s.get key, by omega, by go_num, ST.out.symm, rfl, rfl, rfl, ?_, ?_, ?_⟩
            · have := Y1.out
              rw [show (s.get key).reads = s.reads ++ [Rd.mk key s.is s.value] from rfl, HRD.out, List.length_append]
              exact this
            · intro j hj
              rcases Y3.out j hj with e | e
              · exact K2.out j e
              · have := K3.out.size; simp at e; omega
            · exact Below.trans K3.out (((Ext.but E2.out (fun _ => False)).trans Y2.out (U := fun j => w.heap.size ≤ j) (fun _ _ e => e.elim) (fun i _ e => K2.out i e)).below K3.out.size (fun _ h => h))
          case measure => simp [intOf]; omega
        · have e1 : (kd == 1) = false := by simpa using k1
          by_cases k2 : kd = 2
          · subst k2
            have hnx : s.step ⟨2, key, val, num⟩ = s.puts val := rfl
            rw [hnx] at ST
            clear hnx
            go_wp2_with fail
            go_roundw
            case rel => exact ⟨k + 1, s.puts val, by omega, by go_num, ST.out.symm, rfl, rfl, rfl, K1.out, K2.out, K3.out⟩
            case measure => simp [intOf]; omega
          · have e2 : (kd == 2) = false := by simpa using k2
            by_cases k3 : kd = 3
            · subst k3
              have hnx : s.step ⟨3, key, val, num⟩ = (s.get key).puts (addV s.value num) := rfl
              rw [hnx] at ST
              clear hnx
              have hwrap : IntKind.i64.wrap (refNumberL s.value.data.toList + max (min num 4294967296) (-4294967296)) = refNumberL s.value.data.toList + clampI num := by
                rw [← number_eq]
                exact IntWalk.i64_in _ (by have := numberL_bd s.value.data.toList; have := clampI_bd num; unfold clampI at *; omega)
              go_wp2_with (at_builtin; refine wpList_append_at _ rfl _ _ 28 rfl 53 i0 _ 3 40 Tryz.underlying28 hi hz0 hz1 hz2 rfl (by decide) _ s.reads.length (s.reads.flatMap encRd) rfl (own_ext K1.out E2.out) ⟨wr.heap.size, 0, none⟩ 1 1 (encRd (Rd.mk key s.is s.value)) rfl rfl CN.out (by simp [encRd, Value.oneCell']) (by decide) (by unfold maxLen; omega) (by omega) ?_; intro g cap2 w1 hown' hbut hkept; have Y1 := Lib.hid hown'; have Y2 := Lib.hid hbut; have Y3 := Lib.hid hkept; clear hown' hbut hkept)
              have hx1 : Below w.heap.size wr w1 := ((Ext.but E2.out (fun _ => False)).trans Y2.out (U := fun j => w.heap.size ≤ j) (fun _ _ e => e.elim) (fun i _ e => K2.out i e)).below K3.out.size (fun _ h => h)
              have m3 : w1.cell? ⟨b, off + k * 4 + 3, none⟩ = some (.int .i64 num) := (hx1.cell (p := ⟨b, off + k * 4 + 3, none⟩) hb).trans d3
              have m3' := ExtBy.cell m3
              have X1 := Lib.hid hx1
              have hnum := fun W => refNumber_calls s.value W hval
              have hvl := fun W => refValue_calls (refNumberL s.value.data.toList + clampI num) W
              have HN := Lib.hid hnum; have HVL := Lib.hid hvl
              clear hx1 hnum hvl m3 d0 d1 d2 d3
              refine wp_region_ext (by kernel_rfl) (by kernel_rfl) ?_
              repeat (go_big_quiet_step ((first | (with_reducible exact Calls.ext_of_same _ (HN.out _)) | (with_reducible exact Calls.ext_of _ (HVL.out _)))))
              refine wpQuiet_nil ?_
              intro _ hw'
              obtain ⟨⟨w7, hx7⟩, hw''⟩ := hw'
              have X7 := Lib.hid hx7
              subst hw''
              clear hx7 hwrap m3'
              go_wp2_with fail
              go_roundw
              case rel =>
                refine ⟨k + 1, (s.get key).puts (addV s.value num), by omega, by go_num, ST.out.symm, rfl, ?_, rfl, ?_, ?_, ?_⟩
                · show _ = Value.string (addV s.value num)
                  unfold addV
                  rw [number_eq]
                · have := own_ext Y1.out X7.out
                  rw [show ((s.get key).puts (addV s.value num)).reads = s.reads ++ [Rd.mk key s.is s.value] from rfl, HRD.out, List.length_append]
                  exact this
                · intro j hj
                  rcases Y3.out j hj with e | e
                  · exact K2.out j e
                  · have := K3.out.size; simp at e; omega
                · exact Below.trans (Below.trans K3.out X1.out) (Below.mono X7.out (by have := X1.out.size; have := K3.out.size; omega))
              case measure => simp [intOf]; omega
            · have e3 : (kd == 3) = false := by simpa using k3
              have hnx : s.step ⟨kd, key, val, num⟩ = s := by simp [St.step, k1, k2, k3]
              rw [hnx] at ST
              clear hnx k1 k2 k3
              go_wp2_with fail
              go_roundw
              case rel => exact ⟨k + 1, s, by omega, by go_num, ST.out.symm, rfl, rfl, rfl, K1.out, K2.out, K3.out⟩
              case measure => simp [intOf]; omega
      · have hs2 : doRes true value l = s := by rw [hs1, List.take_of_length_le (by omega)]; rfl
        have HS1 := Lib.hid hs1; have HS2 := Lib.hid hs2
        clear hs1 hs2
        cases hput : s.put
        · go_wp2_with fail
          go_ret3
          refine ⟨_, ?_, by rw [HS2.out]; exact K1.out, K2.out, K3.out⟩
          unfold doAfter
          rw [HS2.out, hput]; rfl
        · go_wp2_with fail
          go_ret3
          refine ⟨_, ?_, by rw [HS2.out]; exact K1.out, K2.out, K3.out⟩
          unfold doAfter
          rw [HS2.out, hput]; rfl
end Go.Proofs.YtjplmghhleoolaaGreatDoor
