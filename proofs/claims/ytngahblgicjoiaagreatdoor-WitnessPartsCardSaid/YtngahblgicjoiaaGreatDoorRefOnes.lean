/- The reference of layer 14: Name, Older, Key, value, one, Right; and the package act's Name. -/
import Derived.Test.YtngahblgicjoiaaGreatDoorMem
import Derived.Lib.SlicesS
import Derived.Test.YtngahblgicjoiaaGreatDoorHoldDefs
import Derived.Test.YtngahblgicjoiaaGreatDoorRight
import Derived.Deep.DeepMust
namespace Go.Proofs.YtngahblgicjoiaaGreatDoor
open Go.RowKit

def nameB (c n : Int) : Bool := decide (1 ≤ c) && decide (c ≤ 8) && decide (1 ≤ n) && decide (n ≤ 1073741824)
theorem name_calls (c n : Int) (w : World) : Calls Tryz.prog 92 #[.agg #[.int .i64 c, .int .i64 n]] w fun e w' => e = .returned (.bool (nameB c n)) ∧ Ext w w' := by
  have HX := Lib.hid (show Ext w (w.alloc (.cells #[.int .i64 c, .int .i64 n] 34)) from (Below.refl _ w).alloc (Nat.le_refl _) _)
  have e0 : nameB c n = (decide (1 ≤ c) && decide (c ≤ 8) && decide (1 ≤ n) && decide (n ≤ 1073741824)) := rfl
  cases h1 : decide (1 ≤ c) <;> cases h2 : decide (c ≤ 8) <;> cases h3 : decide (1 ≤ n) <;> cases h4 : decide (n ≤ 1073741824) <;> rw [h1, h2, h3, h4] at e0
  all_goals
    have E0 := Lib.hid e0; clear e0
    go_enter Tryz.func92, Tryz.ntmps92
    go_wp2
    go_ret
    exact ⟨ret_bool (by rw [E0.out]; rfl), HX.out⟩
theorem refName_calls (c n : Int) (w : World) : Calls Tryz.prog 101 #[.agg #[.int .i64 c, .int .i64 n]] w fun e w' => e = .returned (.bool (nameB c n)) ∧ Ext w w' := by
  have HX := Lib.hid (show Ext w (w.alloc (.cells #[.int .i64 c, .int .i64 n] 34)) from (Below.refl _ w).alloc (Nat.le_refl _) _)
  have e0 : nameB c n = (decide (1 ≤ c) && decide (c ≤ 8) && decide (1 ≤ n) && decide (n ≤ 1073741824)) := rfl
  cases h1 : decide (1 ≤ c) <;> cases h2 : decide (c ≤ 8) <;> cases h3 : decide (1 ≤ n) <;> cases h4 : decide (n ≤ 1073741824) <;> rw [h1, h2, h3, h4] at e0
  all_goals
    have E0 := Lib.hid e0; clear e0
    go_enter Tryz.func101, Tryz.ntmps101
    go_wp2
    go_ret
    exact ⟨ret_bool (by rw [E0.out]; rfl), HX.out⟩

set_option maxRecDepth 100000 in
set_option maxHeartbeats 400000 in
theorem refKey_calls (s : ByteArray) (w : World) (hs : s.size ≤ 140737488351232) : Calls Tryz.prog 153 #[.string s] w fun e w' => e = .returned (.bool (keyL s.data.toList)) ∧ w = w' := by
  have hsz := Lib.size_eq s
  by_cases h1 : s.size < 1
  · have e0 : keyL s.data.toList = false := by
      have : s.data.toList = [] := List.eq_nil_of_length_eq_zero (by omega)
      rw [this]; rfl
    have h00 : s.size = 0 := by omega
    have g1 : decide ((s.size : Int) < 1) = true := decide_eq_true (by omega)
    have E0 := Lib.hid e0; clear e0 hsz
    go_enter Tryz.func153, Tryz.ntmps153
    go_wp2
    all_goals (go_ret; exact ⟨ret_bool (by rw [E0.out]), rfl⟩)
  · by_cases h20 : 20 < s.size
    · have e0 : keyL s.data.toList = false := by unfold keyL; rw [← hsz]; simp; omega
      have E0 := Lib.hid e0; clear e0 hsz
      go_enter Tryz.func153, Tryz.ntmps153
      go_wp2
      all_goals (go_ret; exact ⟨ret_bool (by rw [E0.out]), rfl⟩)
    · have e0 : keyL s.data.toList = s.data.toList.all keyC := by
        unfold keyL
        rw [← hsz]
        have : s.data.toList.isEmpty = false := by
          cases h : s.data.toList with
          | nil => rw [h, List.length_nil] at hsz; omega
          | cons a r => rfl
        rw [this]; simp; omega
      have g1 : decide ((s.size : Int) < 1) = false := decide_eq_false (by omega)
      have g2 : decide ((20 : Int) < (s.size : Int)) = false := decide_eq_false (by omega)
      have E0 := Lib.hid e0; have HZ := Lib.hid hsz; clear e0 hsz
      go_enter Tryz.func153, Tryz.ntmps153
      go_wp2
      go_loop [3] (fun i => ∃ k : Nat, k ≤ s.size ∧ i = .int .i64 k ∧ (s.data.toList.take k).all keyC = true) (fun i => s.size - (intOf i).toNat)
      case atStart => exact ⟨0, by omega, rfl, by simp⟩
      case round =>
        obtain ⟨k, hk, rfl, hall⟩ := hrel
        have HA := Lib.hid hall; clear hall
        by_cases hlt : k < s.size
        · have htk : s.data.toList.take (k + 1) = s.data.toList.take k ++ [s[k]] := by
            rw [List.take_succ_eq_append_getElem (by rw [← HZ.out]; exact hlt)]; rfl
          have hmem : s[k] ∈ s.data.toList := by
            have : s.data.toList[k]'(by rw [← HZ.out]; exact hlt) = s[k] := rfl
            rw [← this]; exact List.getElem_mem _
          have HT := Lib.hid htk; have HM := Lib.hid hmem
          clear htk hmem
          have hcases : (s[k].toNat < 48 ∨ (57 < s[k].toNat ∧ s[k].toNat < 97) ∨ 122 < s[k].toNat) ∨ (48 ≤ s[k].toNat ∧ s[k].toNat ≤ 57) ∨ (97 ≤ s[k].toNat ∧ s[k].toNat ≤ 122) := by omega
          rcases hcases with h | h
          · have hno : keyC s[k] = false := by unfold keyC; simp; omega
            have e1 : s.data.toList.all keyC = false := by
              rw [List.all_eq_false]; exact ⟨s[k], HM.out, by simp [hno]⟩
            have E1 := Lib.hid e1
            clear hno e1
            rcases h with h | ⟨ha, hb⟩ | h
            all_goals
              go_wp2
              all_goals first | (go_ret; exact ⟨ret_bool (by rw [E0.out, E1.out]), rfl⟩) | (exfalso; rename_i h; simp at h; omega)
          · have hyes : keyC s[k] = true := by unfold keyC; simp; omega
            have e1 : (s.data.toList.take (k + 1)).all keyC = true := by rw [HT.out, List.all_append, HA.out]; simp [hyes]
            have E1 := Lib.hid e1
            clear hyes e1
            rcases h with ⟨ha, hb⟩ | ⟨ha, hb⟩
            all_goals
              first
                | (have hd : decide ((s[k].toNat : Int) ≤ 57) = true := by simp; omega)
                | (have hd : decide ((s[k].toNat : Int) ≤ 122) = true := by simp; omega)
              go_wp2
              go_round
              case rel => exact ⟨k + 1, by omega, by go_num, E1.out⟩
              case measure => simp [intOf]; omega
        · have e1 : s.data.toList.all keyC = true := by
            have := HA.out
            rwa [List.take_of_length_le (by rw [← HZ.out]; omega)] at this
          have E1 := Lib.hid e1; clear e1
          go_wp2
          go_ret
          exact ⟨ret_bool (by rw [E0.out, E1.out]), rfl⟩
end Go.Proofs.YtngahblgicjoiaaGreatDoor
/- holds.right: is a hold one? -/
namespace Go.Proofs.YtngahblgicjoiaaGreatDoor
open Go.RowKit

def cntR (l : List ActD) : Nat := (l.filter fun a => !decide (a.kind = 2)).length
def putAny (l : List ActD) : Bool := l.any fun a => !decide (a.kind = 1)
def keysR (k : ByteArray) (l : List ActD) : Bool := l.all fun a => decide (a.key.toList = k.toList)
def readsBad (k : ByteArray) (l : List Rd) : Bool := l.any (readBad k)
/-- Is a hold right? -/
def holdB (d : HoldD) : Bool := keysR d.key d.acts && (nameB d.cl d.nm && (rightsB d.acts && (!readsBad d.key d.reads && (decide (d.reads.length = cntR d.acts) && ((d.put == putAny d.acts) && (decide ((d.value.size : Int) ≤ 20) && (d.put || d.value.toList.isEmpty)))))))
/-- The sizes that a hold's parts have. -/
structure HoldD.ok (d : HoldD) : Prop where
  acts : ∀ a ∈ d.acts, a.ok
  an : d.acts.length ≤ 1000000
  rn : d.reads.length ≤ 1000000
  ks : d.key.size ≤ 140737488351232
  vs : d.value.size ≤ 140737488351232
  rs : ∀ r ∈ d.reads, r.value.size ≤ 140737488351232
theorem cntR_le (l : List ActD) : cntR l ≤ l.length := List.length_filter_le ..
theorem cntR_succ (l : List ActD) (k : Nat) (x : ActD) (h : l[k]? = some x) : cntR (l.take (k + 1)) = cntR (l.take k) + (if x.kind = 2 then 0 else 1) := by
  unfold cntR; rw [List.take_add_one, h, List.filter_append, List.length_append]
  by_cases hk : x.kind = 2 <;> simp [hk]
theorem putAny_succ (l : List ActD) (k : Nat) (x : ActD) (h : l[k]? = some x) : putAny (l.take (k + 1)) = (putAny (l.take k) || !decide (x.kind = 1)) := by
  unfold putAny; rw [List.take_add_one, h, List.any_append]; simp
theorem keysR_succ (s : ByteArray) (l : List ActD) (k : Nat) (x : ActD) (h : l[k]? = some x) : keysR s (l.take (k + 1)) = (keysR s (l.take k) && decide (x.key.toList = s.toList)) := by
  unfold keysR; rw [List.take_add_one, h, List.all_append]; simp
theorem readsBad_iff (k : ByteArray) (l : List Rd) (b : Bool) (h : b = false ↔ ∀ (i : Nat) (x : Rd), l[i]? = some x → readBad k x = false) : b = readsBad k l := by
  unfold readsBad
  cases b
  · symm; rw [List.any_eq_false]
    intro x hx
    obtain ⟨i, hi⟩ := List.getElem?_of_mem hx
    rw [h.1 rfl i x hi]; simp
  · symm
    rw [List.any_eq_true]
    apply Classical.byContradiction
    intro hn
    have : true = false := h.2 fun i x hx => by
      cases hb : readBad k x
      · rfl
      · exact absurd ⟨x, List.mem_of_getElem? hx, hb⟩ hn
    cases this

end Go.Proofs.YtngahblgicjoiaaGreatDoor
/- holds.Right: are holds? -/
namespace Go.Proofs.YtngahblgicjoiaaGreatDoor
open Go.RowKit

def holdsB (ds : List HoldD) : Bool := ds.all holdB
end Go.Proofs.YtngahblgicjoiaaGreatDoor
/- The reference of layer 14: value, one, Right: what each answers is what the program answers. -/
namespace Go.Proofs.YtngahblgicjoiaaGreatDoor
open Go.RowKit

def valC (c : UInt8) : Bool := keyC c || decide (c.toNat = 45)
theorem textL_eq (l : List UInt8) : textL l = l.all valC := by
  unfold textL
  have hm : ∀ c : UInt8, c ∈ alnumL ↔ valC c = true := by
    intro c
    have hc : c = UInt8.ofNat c.toNat := by simp
    have hlt := c.toNat_lt
    constructor
    · intro h
      simp only [alnumL, List.mem_cons, List.not_mem_nil, or_false] at h
      rcases h with rfl | rfl | rfl | rfl | rfl | rfl | rfl | rfl | rfl | rfl | rfl | rfl | rfl | rfl | rfl | rfl | rfl | rfl | rfl | rfl | rfl | rfl | rfl | rfl | rfl | rfl | rfl | rfl | rfl | rfl | rfl | rfl | rfl | rfl | rfl | rfl | rfl <;> decide
    · intro h
      simp only [valC, keyC, Bool.or_eq_true, decide_eq_true_eq] at h
      have key : ∀ n : Fin 256, (97 ≤ n.val ∧ n.val ≤ 122 ∨ 48 ≤ n.val ∧ n.val ≤ 57) ∨ n.val = 45 → UInt8.ofNat n.val ∈ alnumL := by decide +kernel
      rw [hc]
      exact key ⟨c.toNat, hlt⟩ h
  rw [Bool.eq_iff_iff, decide_eq_true_eq, trim_nil, List.all_eq_true]
  exact ⟨fun h c hc => (hm c).1 (h c hc), fun h c hc => (hm c).2 (h c hc)⟩

def okText (s : ByteArray) : Bool := textL s.data.toList && decide (s.size ≤ 20)
set_option maxRecDepth 100000 in
set_option maxHeartbeats 400000 in
theorem refText_calls (s : ByteArray) (w : World) (hs : s.size ≤ 140737488351232) : Calls Tryz.prog 192 #[.string s] w fun e w' => e = .returned (.bool (okText s)) ∧ w = w' := by
  have HZ := Lib.hid (Lib.size_eq s)
  go_enter Tryz.func192, Tryz.ntmps192
  go_wp2
  go_loop [3] (fun i => ∃ k : Nat, k ≤ s.size ∧ i = .int .i64 k ∧ (s.data.toList.take k).all valC = true) (fun i => s.size - (intOf i).toNat)
  case atStart => exact ⟨0, by omega, rfl, by simp⟩
  case round =>
    obtain ⟨k, hk, rfl, hall⟩ := hrel
    have HA := Lib.hid hall; clear hall
    by_cases hlt : k < s.size
    · have htk : s.data.toList.take (k + 1) = s.data.toList.take k ++ [s[k]] := by
        rw [List.take_succ_eq_append_getElem (by rw [← HZ.out]; exact hlt)]; rfl
      have hmem : s[k] ∈ s.data.toList := by
        have : s.data.toList[k]'(by rw [← HZ.out]; exact hlt) = s[k] := rfl
        rw [← this]; exact List.getElem_mem _
      have HT := Lib.hid htk; have HM := Lib.hid hmem
      clear htk hmem
      cases hv : valC s[k]
      · have e1 : s.data.toList.all valC = false := by
          rw [List.all_eq_false]; exact ⟨s[k], HM.out, by simp [hv]⟩
        have E1 := Lib.hid e1
        have h45 : ((s[k].toNat : Int) == 45) = false := by
          unfold valC at hv; simp at hv; simp; omega
        have hcases : s[k].toNat < 48 ∨ (57 < s[k].toNat ∧ s[k].toNat < 97) ∨ 122 < s[k].toNat := by
          unfold valC keyC at hv; simp at hv; omega
        clear hv e1
        rcases hcases with h | ⟨ha, hb⟩ | h
        all_goals
          go_wp2
          all_goals first | (go_ret; exact ⟨ret_bool (by unfold okText; rw [textL_eq, E1.out]; rfl), rfl⟩) | (exfalso; rename_i h; simp at h; omega)
      · have e1 : (s.data.toList.take (k + 1)).all valC = true := by rw [HT.out, List.all_append, HA.out]; simp [hv]
        have E1 := Lib.hid e1
        have hcases : (48 ≤ s[k].toNat ∧ s[k].toNat ≤ 57) ∨ (97 ≤ s[k].toNat ∧ s[k].toNat ≤ 122) ∨ s[k].toNat = 45 := by
          unfold valC keyC at hv; simp at hv; omega
        clear hv e1
        rcases hcases with ⟨ha, hb⟩ | ⟨ha, hb⟩ | h45
        · have hd : decide ((s[k].toNat : Int) ≤ 57) = true := by simp; omega
          go_wp2
          go_round
          case rel => exact ⟨k + 1, by omega, by go_num, E1.out⟩
          case measure => simp [intOf]; omega
        · have hd : decide ((s[k].toNat : Int) ≤ 122) = true := by simp; omega
          go_wp2
          go_round
          case rel => exact ⟨k + 1, by omega, by go_num, E1.out⟩
          case measure => simp [intOf]; omega
        · have hd : ((s[k].toNat : Int) == 45) = true := by simp; omega
          have hlo : s[k].toNat < 48 := by omega
          clear h45
          go_wp2
          all_goals first
            | (go_round
               case rel => exact ⟨k + 1, by omega, by go_num, E1.out⟩
               case measure => simp [intOf]; omega)
            | (exfalso; rename_i h; simp at h; omega)
    · have e1 : s.data.toList.all valC = true := by
        have := HA.out
        rwa [List.take_of_length_le (by rw [← HZ.out]; omega)] at this
      have E1 := Lib.hid e1; clear e1
      go_wp2
      go_ret
      exact ⟨ret_bool (by unfold okText; rw [textL_eq, E1.out, Bool.true_and]; exact decide_eq_decide.2 (by omega)), rfl⟩

set_option maxRecDepth 100000 in
set_option maxHeartbeats 2000000 in
theorem one_calls (a : ActD) (w : World) (hok : a.ok) : Calls Tryz.prog 152 #[.agg (encAct a).toArray] w fun e w' => e = .returned (.bool (rightB a)) ∧ Ext w w' := by
  obtain ⟨kd, key, val, num⟩ := a
  obtain ⟨_, _, hk, hvs, _, _⟩ := hok
  simp only at hk hvs
  have HX := Lib.hid (show Ext w (w.alloc (.cells #[.int .u8 kd, .string key, .string val, .int .i64 num] 53)) from (Below.refl _ w).alloc (Nat.le_refl _) _)
  unfold encAct
  have hem : val.toList.isEmpty = decide (val.data.toList = []) := by
    rw [Lib.toList_data]
    cases val.data.toList <;> simp
  have hnz : (num == 0) = decide (num = 0) := by rw [Bool.eq_iff_iff]; simp
  have hsz := Lib.size_eq val
  by_cases k1 : kd = 1
  · subst k1
    cases hK : keyL key.data.toList <;> cases hE : decide (val.data.toList = []) <;> cases hN : decide (num = 0) <;> rw [hE] at hem <;> rw [hN] at hnz
    all_goals
      have E0 : Hid (rightB ⟨1, key, val, num⟩ = _) := Lib.hid (show rightB ⟨1, key, val, num⟩ = (keyL key.data.toList && (decide (val.data.toList = []) && decide (num = 0))) from rfl)
      rw [hK, hE, hN] at E0
      have HK := Lib.hid hK
      clear hK hE hN hsz
      go_enter Tryz.func152, Tryz.ntmps152
      go_wp2_with (go_at_call 153; refine (refKey_calls _ _ hk).mono ?_; rw [HK.out]; rintro e w' ⟨rfl, rfl⟩)
      go_ret
      exact ⟨ret_bool (by rw [E0.out]; rfl), HX.out⟩
  · by_cases k2 : kd = 2
    · subst k2
      cases hK : keyL key.data.toList <;> cases hT : okText val <;> cases hN : decide (num = 0) <;> rw [hN] at hnz
      all_goals
        have E0 : Hid (rightB ⟨2, key, val, num⟩ = (keyL key.data.toList && (okText val && decide (num = 0)))) := Lib.hid (by
          show (keyL key.data.toList && (decide (val.data.toList.length ≤ 20) && textL val.data.toList && decide (num = 0))) = _
          unfold okText
          rw [hsz, Bool.and_comm (textL val.data.toList)])
        rw [hK, hT, hN] at E0
        have HK := Lib.hid hK; have HT := Lib.hid hT
        clear hK hT hN hsz hem
        go_enter Tryz.func152, Tryz.ntmps152
        go_wp2_with (first
          | (go_at_call 153; refine (refKey_calls _ _ hk).mono ?_; rw [HK.out]; rintro e w' ⟨rfl, rfl⟩)
          | (go_at_call 192; refine (refText_calls _ _ hvs).mono ?_; rw [HT.out]; rintro e w' ⟨rfl, rfl⟩))
        go_ret
        exact ⟨ret_bool (by rw [E0.out]; rfl), HX.out⟩
    · by_cases k3 : kd = 3
      · subst k3
        cases hK : keyL key.data.toList <;> cases hE : decide (val.data.toList = []) <;> cases hL : decide (-1073741824 ≤ num) <;> cases hH : decide (num ≤ 1073741824) <;> rw [hE] at hem
        all_goals
          have E0 : Hid (rightB ⟨3, key, val, num⟩ = (keyL key.data.toList && (decide (val.data.toList = []) && (decide (-1073741824 ≤ num) && decide (num ≤ 1073741824))))) := Lib.hid (by
            show (keyL key.data.toList && (decide (val.data.toList = []) && decide (num = cutI num))) = _
            congr 2
            rw [Bool.eq_iff_iff]
            unfold cutI
            simp only [decide_eq_true_eq, Bool.and_eq_true]
            omega)
          rw [hK, hE, hL, hH] at E0
          have HK := Lib.hid hK
          clear hK hE hsz hnz
          go_enter Tryz.func152, Tryz.ntmps152
          go_wp2_with (go_at_call 153; refine (refKey_calls _ _ hk).mono ?_; rw [HK.out]; rintro e w' ⟨rfl, rfl⟩)
          go_ret
          exact ⟨ret_bool (by rw [E0.out]; rfl), HX.out⟩
      · have E0 : Hid (rightB ⟨kd, key, val, num⟩ = false) := Lib.hid (by
          show (keyL key.data.toList && kindB ⟨kd, key, val, num⟩) = false
          unfold kindB
          simp [k1, k2, k3])
        have e1 : (kd == 1) = false := by simpa using k1
        have e2 : (kd == 2) = false := by simpa using k2
        have e3 : (kd == 3) = false := by simpa using k3
        clear k1 k2 k3 hsz hnz hem
        go_enter Tryz.func152, Tryz.ntmps152
        go_wp2_with fail
        go_ret
        exact ⟨ret_bool (by rw [E0.out]), HX.out⟩

set_option maxRecDepth 100000 in
set_option maxHeartbeats 800000 in
theorem refRight_calls (l : List ActD) (ao : Option Addr) (cap : Nat) (w : World) (hl : l.length ≤ 1000000) (hok : ∀ a ∈ l, a.ok) (hr : Rows 4 encAct w.heap.size w ao l) :
    Calls Tryz.prog 102 #[.slice ao l.length cap] w fun e w' => e = .returned (.bool (rightsB l)) ∧ Ext w w' := by
  have HR := Lib.hid hr; have H0 := Lib.hid hok
  clear hr hok
  go_enter Tryz.func102, Tryz.ntmps102
  go_wp2_with fail
  go_loopw [3] (fun i wr => ∃ (k : Nat), k ≤ l.length ∧ i = .int .i64 k ∧ (l.take k).all rightB = true ∧ Ext w wr) (fun i _ => l.length - (intOf i).toNat)
  case atStart => exact ⟨0, by omega, rfl, by simp, Below.refl _ _⟩
  case round =>
    obtain ⟨k, hk, rfl, ha, hx⟩ := hrel
    have K1 := Lib.hid ha; have K2 := Lib.hid hx
    clear ha hx
    by_cases hlt : k < l.length
    · obtain ⟨x, hx⟩ : ∃ x, l[k]? = some x := ⟨_, List.getElem?_eq_getElem hlt⟩
      have hxok := H0.out x (List.mem_of_getElem? hx)
      have htk : (l.take (k + 1)).all rightB = ((l.take k).all rightB && rightB x) := by rw [List.take_add_one, hx]; simp
      obtain ⟨b, off, rfl, hb, hcell⟩ := HR.out (by intro e; rw [e] at hlt; simp at hlt)
      have hcx := hcell k x hx
      have hmove : ∀ j, wr.cell? ⟨b, j, none⟩ = w.cell? ⟨b, j, none⟩ := fun j => K2.out.cell (p := ⟨b, j, none⟩) hb
      have hmem : x ∈ l := List.mem_of_getElem? hx
      have M := Lib.hid hmem; have TK := Lib.hid htk
      have ho := one_calls x wr hxok
      obtain ⟨kd, key, val, num⟩ := x
      have d0 := (hmove _).trans (hcx 0 _ rfl); have d1 := (hmove _).trans (hcx 1 _ rfl); have d2 := (hmove _).trans (hcx 2 _ rfl); have d3 := (hmove _).trans (hcx 3 _ rfl)
      simp only [Nat.add_zero] at d0
      have HO := Lib.hid ho
      have hi0 : (0 : Int) ≤ (k : Int) := by omega
      have hi1 : (k : Int) < (l.length : Int) := by omega
      clear hcx hmove hcell hmem htk hxok hx ho
      go_wp2_with fail
      refine HO.out.mono ?_
      rintro e w' ⟨rfl, hx2⟩
      have X2 := Lib.hid hx2; clear hx2
      cases hrb : rightB ⟨kd, key, val, num⟩
      · have RB := Lib.hid hrb; clear hrb
        go_wp2_with fail
        go_ret
        have : l.all rightB = false := by rw [List.all_eq_false]; exact ⟨_, M.out, by simp [RB.out]⟩
        exact ⟨ret_bool (by unfold rightsB; rw [this]; simp), Ext.trans K2.out X2.out⟩
      · have RB := Lib.hid hrb; clear hrb
        go_wp2_with fail
        go_roundw
        case rel => exact ⟨k + 1, by omega, by go_num, by rw [TK.out, K1.out, RB.out]; rfl, Ext.trans K2.out X2.out⟩
        case measure => simp [intOf]; omega
    · have hall : l.all rightB = true := by have h := K1.out; rwa [List.take_of_length_le (by omega)] at h
      have E0 : Hid (rightsB l = (decide ((1 : Int) ≤ (l.length : Int)) && decide ((l.length : Int) ≤ 6))) := Lib.hid (by
        unfold rightsB
        rw [hall, Bool.and_true]
        congr 1
        · exact decide_eq_decide.2 (by omega)
        · exact decide_eq_decide.2 (by omega))
      clear hall
      cases h1 : decide ((1 : Int) ≤ (l.length : Int)) <;> cases h2 : decide ((l.length : Int) ≤ 6) <;> rw [h1, h2] at E0
      all_goals
        go_wp2_with fail
        go_ret
        exact ⟨ret_bool (by rw [E0.out]; rfl), K2.out⟩
end Go.Proofs.YtngahblgicjoiaaGreatDoor
/- The document's layer 16: is a hold right, are holds? -/
namespace Go.Proofs.YtngahblgicjoiaaGreatDoor
open Go.RowKit

/-- The same as holdB, in the document's order. -/
theorem holdB_ref (d : HoldD) : holdB d = (nameB d.cl d.nm && (rightsB d.acts && (decide ((d.value.size : Int) ≤ 20) && ((d.put || d.value.toList.isEmpty) && (keysR d.key d.acts && (!readsBad d.key d.reads && (decide (d.reads.length = cntR d.acts) && (d.put == putAny d.acts)))))))) := by
  unfold holdB
  generalize keysR d.key d.acts = a1
  generalize nameB d.cl d.nm = a2
  generalize rightsB d.acts = a3
  generalize readsBad d.key d.reads = a4
  generalize decide (d.reads.length = cntR d.acts) = a5
  generalize (d.put == putAny d.acts) = a6
  generalize decide ((d.value.size : Int) ≤ 20) = a7
  generalize (d.put || d.value.toList.isEmpty) = a8
  cases a1 <;> cases a2 <;> cases a3 <;> cases a4 <;> cases a5 <;> cases a6 <;> cases a7 <;> cases a8 <;> rfl
theorem readsBad_succ (s : ByteArray) (l : List Rd) (k : Nat) (x : Rd) (h : l[k]? = some x) : readsBad s (l.take (k + 1)) = (readsBad s (l.take k) || readBad s x) := by
  unfold readsBad
  rw [List.take_add_one, h, Option.toList_some, List.any_append]; simp

/-- The document's Right. -/
theorem holdsB_succ (ds : List HoldD) (k : Nat) (x : HoldD) (h : ds[k]? = some x) : holdsB (ds.take (k + 1)) = (holdsB (ds.take k) && holdB x) := by
  unfold holdsB
  rw [List.take_add_one, h, Option.toList_some, List.all_append]; simp
end Go.Proofs.YtngahblgicjoiaaGreatDoor
