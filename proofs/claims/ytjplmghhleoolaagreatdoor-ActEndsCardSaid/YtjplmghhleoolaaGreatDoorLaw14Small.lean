/- Small functions that the statements of layer 14 call: great. -/
import Derived.Test.YtjplmghhleoolaaGreatDoorMem
import Derived.Test.YtjplmghhleoolaaGreatDoorActDefs
import Derived.IntWalk
namespace Go.Proofs.YtjplmghhleoolaaGreatDoor
open Go.RowKit

def fitB (a : ActD) : Bool := decide (a.key.size + a.value.size ≤ 120)
/-- Are acts too many, texts too long? -/
def greatB (l : List ActD) (s : List ByteArray) : Bool := !(l.take 41).all fitB || !s.all (fun t => decide (t.size ≤ 60)) || decide (40 < l.length)
theorem not_great {l : List ActD} {s : List ByteArray} (h : greatB l s = false) : l.length ≤ 40 ∧ ∀ t ∈ s, t.size ≤ 60 := by
  unfold greatB at h
  simp only [Bool.or_eq_false_iff, Bool.not_eq_eq_eq_not, Bool.not_false, List.all_eq_true, decide_eq_true_eq, decide_eq_false_iff_not] at h
  exact ⟨by omega, h.1.2⟩

set_option maxRecDepth 100000 in
set_option maxHeartbeats 800000 in
theorem great_calls (l : List ActD) (s : List ByteArray) (ao so : Option Addr) (cap scap : Nat) (w : World) (hok : ∀ a ∈ l, a.ok) (hl : l.length ≤ 9223372036854775807) (hs : s.length ≤ 1000000) (hr : Rows 4 encAct w.heap.size w ao l) (hq : Rows 1 encStr w.heap.size w so s) :
    Calls Tryz.prog 6 #[.slice ao l.length cap, .slice so s.length scap] w fun e w' => e = .returned (.bool (greatB l s)) ∧ Ext w w' := by
  have HR := Lib.hid hr; have HQ := Lib.hid hq; have H0 := Lib.hid hok
  clear hr hq hok
  go_enter Tryz.func6, Tryz.ntmps6
  go_wp2_with fail
  go_loopw [5] (fun i wr => ∃ (k : Nat), k ≤ l.length ∧ k ≤ 41 ∧ i = .int .i64 k ∧ (l.take k).all fitB = true ∧ Ext w wr) (fun i _ => 50 - (intOf i).toNat)
  case atStart => exact ⟨0, by omega, by omega, rfl, by simp, Below.refl _ _⟩
  case round =>
    obtain ⟨k, hk, hk41, rfl, ha, hx⟩ := hrel
    have K1 := Lib.hid ha; have K2 := Lib.hid hx
    clear ha hx
    by_cases hlt : k < l.length ∧ k < 41
    · obtain ⟨hlt, h41⟩ := hlt
      obtain ⟨x, hx⟩ : ∃ x, l[k]? = some x := ⟨_, List.getElem?_eq_getElem hlt⟩
      have hmem : x ∈ l.take 41 := List.mem_of_getElem? (i := k) (by rw [List.getElem?_take, if_pos h41, hx])
      have hxok := H0.out x (List.mem_of_getElem? hx)
      have htk : (l.take (k + 1)).all fitB = ((l.take k).all fitB && fitB x) := by rw [List.take_add_one, hx]; simp
      obtain ⟨b, off, rfl, hb, hcell⟩ := HR.out (by intro e; rw [e] at hlt; simp at hlt)
      have hcx := hcell k x hx
      have hmove : ∀ j, wr.cell? ⟨b, j, none⟩ = w.cell? ⟨b, j, none⟩ := fun j => K2.out.cell (p := ⟨b, j, none⟩) hb
      have M := Lib.hid hmem; have TK := Lib.hid htk
      obtain ⟨kd, key, val, num⟩ := x
      have d1 := (hmove _).trans (hcx 1 _ rfl); have d2 := (hmove _).trans (hcx 2 _ rfl)
      have hsum : IntKind.i64.wrap ((key.size : Int) + (val.size : Int)) = (key.size : Int) + (val.size : Int) := by
        obtain ⟨_, _, h1, h2, _, _⟩ := hxok
        simp only at h1 h2
        exact IntWalk.i64_in _ ⟨by omega, by omega⟩
      have hi0 : (0 : Int) ≤ (k : Int) := by omega
      have hi1 : (k : Int) < (l.length : Int) := by omega
      have hi2 : (k : Int) < 41 := by omega
      clear hmem htk hxok hx hcell hcx hmove
      by_cases hfit : key.size + val.size ≤ 120
      · have hd : decide (120 < (key.size : Int) + (val.size : Int)) = false := by simp; omega
        have hf : fitB ⟨kd, key, val, num⟩ = true := by simp [fitB, hfit]
        have FB := Lib.hid hf; clear hf hfit
        go_wp2_with fail
        go_quiet (fail)
        go_wp2_with fail
        go_roundw
        case rel => exact ⟨k + 1, by omega, by omega, by go_num, by rw [TK.out, K1.out, FB.out]; rfl, (Ext.drewN K2.out _)⟩
        case measure => simp [intOf]; omega
      · have hd : decide (120 < (key.size : Int) + (val.size : Int)) = true := by simp; omega
        have hf : fitB ⟨kd, key, val, num⟩ = false := by simp [fitB, hfit]
        have FB := Lib.hid hf; clear hf hfit
        go_wp2_with fail
        go_quiet (fail)
        go_wp2_with fail
        go_ret
        refine ⟨ret_bool ?_, (Ext.drewN K2.out _)⟩
        have : (l.take 41).all fitB = false := by rw [List.all_eq_false]; exact ⟨_, M.out, by simp [FB.out]⟩
        simp [greatB, this]
    · have hall : (l.take 41).all fitB = true := by
        rcases Nat.lt_or_ge k l.length with h | h
        · obtain rfl : k = 41 := by omega
          exact K1.out
        · have := K1.out
          rw [List.take_of_length_le h] at this
          rw [List.all_eq_true] at this ⊢
          exact fun x hx => this x (List.mem_of_mem_take hx)
      have HA := Lib.hid hall
      have hd1 : (decide ((k : Int) < (l.length : Int)) && decide ((k : Int) < 41)) = false := by simp; omega
      have HX := Lib.hid hd1
      clear hall hd1
      rcases Nat.lt_or_ge k l.length with h | h
      · have g1 : decide ((k : Int) < (l.length : Int)) = true := by simp; omega
        have g2 : decide ((k : Int) < 41) = false := by simp; omega
        go_wp2_with fail
        go_loopw [6] (fun i wr2 => ∃ (j : Nat), j ≤ s.length ∧ i = .int .i64 j ∧ (s.take j).all (fun t => decide (t.size ≤ 60)) = true ∧ Ext w wr2) (fun i _ => s.length - (intOf i).toNat)
        case atStart => exact ⟨0, by omega, rfl, by simp, K2.out⟩
        case round =>
          obtain ⟨j, hj, rfl, hb, hx⟩ := hrel
          have J1 := Lib.hid hb; have J2 := Lib.hid hx
          clear hb hx
          by_cases hjl : j < s.length
          · obtain ⟨x, hx⟩ : ∃ x, s[j]? = some x := ⟨_, List.getElem?_eq_getElem hjl⟩
            have hmem : x ∈ s := List.mem_of_getElem? hx
            have htk : (s.take (j + 1)).all (fun t => decide (t.size ≤ 60)) = ((s.take j).all (fun t => decide (t.size ≤ 60)) && decide (x.size ≤ 60)) := by rw [List.take_add_one, hx]; simp
            obtain ⟨b, off, rfl, hb, hcell⟩ := HQ.out (by intro e; rw [e] at hjl; simp at hjl)
            have hcx := hcell j x hx 0 _ rfl
            rw [show off + j * 1 + 0 = off + j from by omega] at hcx
            have d1 := (J2.out.cell (p := ⟨b, off + j, none⟩) hb).trans hcx
            have M := Lib.hid hmem; have TK := Lib.hid htk
            clear hmem htk hx hcell hcx
            by_cases hfit : x.size ≤ 60
            · have hd : decide (60 < (x.size : Int)) = false := by simp; omega
              have hf : decide (x.size ≤ 60) = true := by simp [hfit]
              have FB := Lib.hid hf; clear hf hfit
              go_wp2_with fail
              go_roundw
              case rel => exact ⟨j + 1, by omega, by go_num, by rw [TK.out, J1.out, FB.out]; rfl, J2.out⟩
              case measure => simp [intOf]; omega
            · have hd : decide (60 < (x.size : Int)) = true := by simp; omega
              have hf : decide (x.size ≤ 60) = false := by simp; omega
              have FB := Lib.hid hf; clear hf hfit
              go_wp2_with fail
              go_ret
              refine ⟨ret_bool ?_, J2.out⟩
              have : s.all (fun t => decide (t.size ≤ 60)) = false := by rw [List.all_eq_false]; exact ⟨_, M.out, by simp [FB.out]⟩
              simp [greatB, this]
          · have hsall : s.all (fun t => decide (t.size ≤ 60)) = true := by have := J1.out; rwa [List.take_of_length_le (by omega)] at this
            have HS := Lib.hid hsall; clear hsall
            go_wp2_with fail
            go_ret
            exact ⟨ret_bool (by simp [greatB, HA.out, HS.out]; omega), J2.out⟩
      · have g1 : decide ((k : Int) < (l.length : Int)) = false := by simp; omega
        go_wp2_with fail
        go_loopw [6] (fun i wr2 => ∃ (j : Nat), j ≤ s.length ∧ i = .int .i64 j ∧ (s.take j).all (fun t => decide (t.size ≤ 60)) = true ∧ Ext w wr2) (fun i _ => s.length - (intOf i).toNat)
        case atStart => exact ⟨0, by omega, rfl, by simp, K2.out⟩
        case round =>
          obtain ⟨j, hj, rfl, hb, hx⟩ := hrel
          have J1 := Lib.hid hb; have J2 := Lib.hid hx
          clear hb hx
          by_cases hjl : j < s.length
          · obtain ⟨x, hx⟩ : ∃ x, s[j]? = some x := ⟨_, List.getElem?_eq_getElem hjl⟩
            have hmem : x ∈ s := List.mem_of_getElem? hx
            have htk : (s.take (j + 1)).all (fun t => decide (t.size ≤ 60)) = ((s.take j).all (fun t => decide (t.size ≤ 60)) && decide (x.size ≤ 60)) := by rw [List.take_add_one, hx]; simp
            obtain ⟨b, off, rfl, hb, hcell⟩ := HQ.out (by intro e; rw [e] at hjl; simp at hjl)
            have hcx := hcell j x hx 0 _ rfl
            rw [show off + j * 1 + 0 = off + j from by omega] at hcx
            have d1 := (J2.out.cell (p := ⟨b, off + j, none⟩) hb).trans hcx
            have M := Lib.hid hmem; have TK := Lib.hid htk
            clear hmem htk hx hcell hcx
            by_cases hfit : x.size ≤ 60
            · have hd : decide (60 < (x.size : Int)) = false := by simp; omega
              have hf : decide (x.size ≤ 60) = true := by simp [hfit]
              have FB := Lib.hid hf; clear hf hfit
              go_wp2_with fail
              go_roundw
              case rel => exact ⟨j + 1, by omega, by go_num, by rw [TK.out, J1.out, FB.out]; rfl, J2.out⟩
              case measure => simp [intOf]; omega
            · have hd : decide (60 < (x.size : Int)) = true := by simp; omega
              have hf : decide (x.size ≤ 60) = false := by simp; omega
              have FB := Lib.hid hf; clear hf hfit
              go_wp2_with fail
              go_ret
              refine ⟨ret_bool ?_, J2.out⟩
              have : s.all (fun t => decide (t.size ≤ 60)) = false := by rw [List.all_eq_false]; exact ⟨_, M.out, by simp [FB.out]⟩
              simp [greatB, this]
          · have hsall : s.all (fun t => decide (t.size ≤ 60)) = true := by have := J1.out; rwa [List.take_of_length_le (by omega)] at this
            have HS := Lib.hid hsall; clear hsall
            go_wp2_with fail
            go_ret
            exact ⟨ret_bool (by simp [greatB, HA.out, HS.out]; omega), J2.out⟩
end Go.Proofs.YtjplmghhleoolaaGreatDoor
