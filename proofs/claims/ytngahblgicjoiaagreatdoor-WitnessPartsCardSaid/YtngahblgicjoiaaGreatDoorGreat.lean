/- How much is gone through; rows that are a table; witness.Do. -/
import Derived.Test.YtngahblgicjoiaaGreatDoorOrderP
import Derived.Test.YtngahblgicjoiaaGreatDoorOpenS
namespace Go.Proofs.YtngahblgicjoiaaGreatDoor
open Go.RowKit

def greatN : Nat → List StepD → Nat
  | n, [] => n
  | n, x :: l => if n ≤ 120 then greatN (n + actsN 1200 0 x.acts / 10 + x.reads.length / 10) l else n
def greatD (l : List StepD) : Bool := decide (120 < greatN l.length l)
theorem greatN_over {n : Nat} (h : ¬ n ≤ 120) (l : List StepD) : greatN n l = n := by
  cases l with
  | nil => rfl
  | cons x l => rw [greatN, if_neg h]
theorem greatN_ge : ∀ (l : List StepD) (n : Nat), n ≤ greatN n l
  | [], n => Nat.le_refl _
  | x :: l, n => by
    rw [greatN]
    split
    · have := greatN_ge l (n + actsN 1200 0 x.acts / 10 + x.reads.length / 10); omega
    · exact Nat.le_refl _
theorem greatN_few : ∀ (l : List StepD) (n : Nat), 1 ≤ n → greatN n l ≤ 120 → ∀ x ∈ l, x.acts.length ≤ 1200 ∧ x.reads.length ≤ 1200
  | [], _, _, _ => fun x hx => by cases hx
  | a :: l, n, h1, h => by
    rw [greatN] at h
    split at h
    · have hg := greatN_ge l (n + actsN 1200 0 a.acts / 10 + a.reads.length / 10)
      have ih := greatN_few l _ (by omega) h
      have ha := actsN_le (most := 1200) a.acts 0 (by omega)
      intro x hx
      rcases List.mem_cons.1 hx with rfl | hx
      · omega
      · exact ih x hx
    · omega
/-- What is not too great is small. -/
theorem great_few {l : List StepD} (h : greatD l = false) : l.length ≤ 120 ∧ ∀ x ∈ l, x.acts.length ≤ 1200 ∧ x.reads.length ≤ 1200 := by
  unfold greatD at h
  have h1 : greatN l.length l ≤ 120 := by simpa using h
  have h2 := greatN_ge l l.length
  refine ⟨by omega, ?_⟩
  cases l with
  | nil => intro x hx; cases hx
  | cons a l => exact greatN_few _ _ (by simp) h1
theorem greatN_drop {n : Nat} (h : n ≤ 120) (l : List StepD) (k : Nat) (x : StepD) (hx : l[k]? = some x) : greatN n (l.drop k) = greatN (n + actsN 1200 0 x.acts / 10 + x.reads.length / 10) (l.drop (k + 1)) := by
  obtain ⟨hlt, he⟩ := List.getElem?_eq_some_iff.1 hx
  rw [List.drop_eq_getElem_cons hlt, greatN, if_pos h, he]

set_option maxRecDepth 100000 in
set_option maxHeartbeats 1600000 in
theorem great_calls (l : List StepZ) (ao : Option Addr) (cap : Nat) (w : World) (hl : l.length ≤ 9223372036854775807) (hs : StepsAt w ao l) (hd : ∀ z ∈ l, z.d.small) :
    Calls Tryz.prog 11 #[.slice ao l.length cap] w fun e w' => e = .returned (.bool (greatD (l.map (·.d)))) ∧ Ext w w' := by
  have HS := Lib.hid hs; have HD := Lib.hid hd
  clear hs hd
  obtain ⟨R, hR⟩ : ∃ R, R = greatN l.length (l.map (·.d)) := ⟨_, rfl⟩
  have H0 := Lib.hid hR
  have hgd : greatD (l.map (·.d)) = decide (120 < R) := by unfold greatD; rw [hR, List.length_map]
  rw [hgd]
  clear hR hgd
  go_enter Tryz.func11, Tryz.ntmps11
  go_wp2_with fail
  go_loopw [3, 4] (fun vn vi wr => ∃ n k : Nat, k ≤ l.length ∧ vn = .int .i64 n ∧ vi = .int .i64 k ∧ n ≤ 9223372036854775807 ∧ R = greatN n ((l.map (·.d)).drop k) ∧ Ext w wr) (fun _ vi _ => l.length - (intOf vi).toNat)
  case atStart => exact ⟨l.length, 0, by omega, rfl, rfl, hl, H0.out, Below.refl _ _⟩
  case round =>
    obtain ⟨n, k, hk, rfl, rfl, hn, hR, hx⟩ := hrel
    have K1 := Lib.hid hx; have K2 := Lib.hid hR; clear hx hR
    by_cases hlt : k < l.length
    · by_cases hle : n ≤ 120
      · obtain ⟨x, hx⟩ : ∃ x, l[k]? = some x := ⟨_, List.getElem?_eq_getElem hlt⟩
        have hxm := List.mem_of_getElem? hx
        have hsm := HD.out x hxm
        have hxr := (HS.out.2 x hxm).1
        obtain ⟨b, off, rfl, hb, hcell⟩ := HS.out.1 (by intro e; rw [e] at hlt; simp at hlt)
        have hcx := hcell k x hx
        have hmove : ∀ j, wr.cell? ⟨b, j, none⟩ = w.cell? ⟨b, j, none⟩ := fun j => K1.out.cell (p := ⟨b, j, none⟩) hb
        have hdr := greatN_drop hle (l.map (·.d)) k x.d (by rw [List.getElem?_map, hx]; rfl)
        have AC := Lib.hid (fun p : ExtBy wr => actsOf_calls x.d.acts x.ao x.ac 1200 p.W (by omega) hsm.al ((hxr.ext (Ext.trans K1.out p.ext)).mono (Ext.trans K1.out p.ext).size) (fun a ha => by have := hsm.acts a ha; exact ⟨this.2.2.1, this.2.2.2.1⟩))
        have hbd := actsN_bd (most := 1200) (by omega) x.d.acts 0 (fun a ha => by have := hsm.acts a ha; exact ⟨this.2.2.1, this.2.2.2.1⟩) (by omega)
        have hrl := hsm.rl
        obtain ⟨A, hA⟩ : ∃ A, actsN 1200 0 x.d.acts = A := ⟨_, rfl⟩
        rw [hA] at AC hdr hbd
        obtain ⟨⟨cl, nm, acts, reads, ca, an⟩, ao2, ac2, ro2, rc2⟩ := x
        unfold encStep at hcx
        simp only at hcx hdr hrl AC
        have d1 := ExtBy.cell ((hmove _).trans (hcx 2 _ rfl)); have d2 := ExtBy.cell ((hmove _).trans (hcx 3 _ rfl))
        have ii0 : (0 : Int) ≤ (k : Int) := by omega
        have i1 : (k : Int) < (l.length : Int) := by omega
        have HDR := Lib.hid hdr
        clear hcell hcx hmove hx hdr hA hsm hxr hxm
        go_wp2_with fail
        refine wp_region_ext (by kernel_rfl) (by kernel_rfl) ?_
        repeat (go_big_quiet_step ((with_reducible exact Calls.ext_of _ (AC.out _))))
        refine wpQuiet_nil ?_
        intro wc hw'
        have hxc : Ext wr wc := by obtain ⟨p, rfl⟩ := hw'; exact p.ext
        have XC := Lib.hid hxc
        clear hxc hw' d1 d2
        go_wp2_with fail
        go_roundw
        case rel => exact ⟨n + A / 10 + reads.length / 10, k + 1, by omega, by go_num, by go_num, by omega, by rw [K2.out, HDR.out], Ext.trans K1.out XC.out⟩
        case measure => simp [intOf]; omega
      · have hov := greatN_over hle ((l.map (·.d)).drop k)
        have HO := Lib.hid hov; clear hov
        go_wp2_with fail
        go_ret
        exact ⟨ret_bool (by rw [K2.out, HO.out]; exact (decide_eq_true (by omega)).symm), K1.out⟩
    · have hov : greatN n ((l.map (·.d)).drop k) = n := by rw [List.drop_of_length_le (by simp; omega)]; rfl
      have HO := Lib.hid hov; clear hov
      go_wp2_with fail
      go_ret
      have e120 : decide ((120 : Int) < (n : Int)) = decide (120 < n) := decide_eq_decide.2 (by omega)
      exact ⟨ret_bool (by rw [K2.out, HO.out]; exact e120), K1.out⟩
/- how many rows, and how great -/
def linesN (most : Nat) : Nat → List RowD → Nat
  | n, [] => n
  | n, x :: l => if n ≤ most then linesN most (n + 1 + x.key.size / 8 + x.value.size / 8) l else n
theorem linesN_over {most n : Nat} (h : ¬ n ≤ most) (l : List RowD) : linesN most n l = n := by
  cases l with
  | nil => rfl
  | cons x l => rw [linesN, if_neg h]
theorem linesN_drop {most n : Nat} (h : n ≤ most) (l : List RowD) (k : Nat) (x : RowD) (hx : l[k]? = some x) : linesN most n (l.drop k) = linesN most (n + 1 + x.key.size / 8 + x.value.size / 8) (l.drop (k + 1)) := by
  obtain ⟨hk, he⟩ := List.getElem?_eq_some_iff.1 hx
  rw [List.drop_eq_getElem_cons hk, he, linesN, if_pos h]
theorem linesN_le {most : Nat} : ∀ (l : List RowD) (n : Nat), linesN most n l ≤ most → n + l.length ≤ most
  | [], n, h => by simpa [linesN] using h
  | a :: l, n, h => by
    rw [linesN] at h
    split at h
    · have := linesN_le l _ h
      rw [List.length_cons]; omega
    · omega

set_option maxRecDepth 100000 in
set_option maxHeartbeats 1600000 in
theorem linesOf_calls (l : List RowD) (ao : Option Addr) (cap most : Nat) (w : World) (hm : most ≤ 1000000) (hl : l.length ≤ 9223372036854775807) (hr : Rows 2 encRw w.heap.size w ao l) (hs : ∀ a ∈ l, a.ok) :
    Calls Tryz.prog 17 #[.slice ao l.length cap, .int .i64 most] w fun e w' => e = .returned (.int .i64 (linesN most 0 l)) ∧ Ext w w' := by
  have HR := Lib.hid hr; have HS := Lib.hid hs
  clear hr hs
  obtain ⟨R, hR⟩ : ∃ R, R = linesN most 0 l := ⟨_, rfl⟩
  have H0 := Lib.hid hR
  rw [← hR]
  clear hR
  go_enter Tryz.func17, Tryz.ntmps17
  go_wp2_with fail
  go_loopw [5, 6] (fun vn vi wr => ∃ n k : Nat, k ≤ l.length ∧ vn = .int .i64 n ∧ vi = .int .i64 k ∧ n ≤ 100000000000000 ∧ R = linesN most n (l.drop k) ∧ Ext w wr) (fun _ vi _ => l.length - (intOf vi).toNat)
  case atStart => exact ⟨0, 0, by omega, rfl, rfl, by omega, H0.out, Below.refl _ _⟩
  case round =>
    obtain ⟨n, k, hk, rfl, rfl, hn, hR, hx⟩ := hrel
    have K1 := Lib.hid hx; have K2 := Lib.hid hR; clear hx hR
    by_cases hlt : k < l.length
    · by_cases hle : n ≤ most
      · obtain ⟨x, hx⟩ : ∃ x, l[k]? = some x := ⟨_, List.getElem?_eq_getElem hlt⟩
        obtain ⟨hk8, hv8⟩ := HS.out x (List.mem_of_getElem? hx)
        obtain ⟨b, off, rfl, hb, hcell⟩ := HR.out (by intro e; rw [e] at hlt; simp at hlt)
        have hcx := hcell k x hx
        have hmove : ∀ j, wr.cell? ⟨b, j, none⟩ = w.cell? ⟨b, j, none⟩ := fun j => K1.out.cell (p := ⟨b, j, none⟩) hb
        have hdr := linesN_drop hle l k x hx
        obtain ⟨key, val⟩ := x
        have d1 := ExtBy.cell ((hmove _).trans (hcx 0 _ rfl)); have d2 := ExtBy.cell ((hmove _).trans (hcx 1 _ rfl))
        simp only [Nat.add_zero] at d1
        have ii0 : (0 : Int) ≤ (k : Int) := by omega
        have i1 : (k : Int) < (l.length : Int) := by omega
        simp only at hk8 hv8 hdr
        have HDR := Lib.hid hdr
        clear hcell hcx hmove hx hdr
        go_wp2_with fail
        refine wp_region_ext (by kernel_rfl) (by kernel_rfl) ?_
        repeat (go_big_quiet_step (fail))
        refine wpQuiet_nil ?_
        intro wc hw'
        have hxc : Ext wr wc := by obtain ⟨p, rfl⟩ := hw'; exact p.ext
        have XC := Lib.hid hxc
        clear hxc hw' d1 d2
        go_wp2_with fail
        go_roundw
        case rel => exact ⟨n + 1 + key.size / 8 + val.size / 8, k + 1, by omega, by go_num, by go_num, by omega, by rw [K2.out, HDR.out], Ext.trans K1.out XC.out⟩
        case measure => simp [intOf]; omega
      · have hov := linesN_over hle (l.drop k)
        have HO := Lib.hid hov; clear hov
        go_wp2_with fail
        go_ret
        exact ⟨ret_int (by rw [K2.out, HO.out]), K1.out⟩
    · have hov : linesN most n (l.drop k) = n := by rw [List.drop_of_length_le (by omega)]; rfl
      have HO := Lib.hid hov; clear hov
      go_wp2_with fail
      go_ret
      exact ⟨ret_int (by rw [K2.out, HO.out]), K1.out⟩
/- a table -/
def soundAt (p x : RowD) : Bool := okRow x && decide (rkey p < rkey x)
/-- Are rows a table? -/
def soundG : Option RowD → List RowD → Bool
  | _, [] => true
  | none, x :: l => okRow x && soundG (some x) l
  | some p, x :: l => soundAt p x && soundG (some x) l
theorem soundG_iff : ∀ (l : List RowD) (p : Option RowD), soundG p l = true ↔ SoundR l ∧ ∀ q, p = some q → ∀ x ∈ l.head?, rkey q < rkey x
  | [], p => by
    cases p <;> simp [soundG, SoundR, RiseR]
  | x :: l, p => by
    have ih := soundG_iff l (some x)
    have h1 : (∀ q, some x = some q → ∀ y ∈ l.head?, rkey q < rkey y) ↔ ∀ y ∈ l.head?, rkey x < rkey y := ⟨fun h => h x rfl, fun h q e => by cases e; exact h⟩
    rw [h1] at ih
    have hcons : SoundR (x :: l) ↔ okRow x = true ∧ SoundR l ∧ ∀ y ∈ l.head?, rkey x < rkey y := by
      unfold SoundR RiseR
      rw [List.pairwise_cons]
      constructor
      · rintro ⟨⟨h2, h3⟩, h4⟩
        refine ⟨h4 x (by simp), ⟨h3, fun r hr => h4 r (by simp [hr])⟩, fun y hy => h2 y (List.mem_of_mem_head? hy)⟩
      · rintro ⟨h2, ⟨h3, h4⟩, h5⟩
        refine ⟨⟨fun y hy => ?_, h3⟩, fun r hr => ?_⟩
        · cases l with
          | nil => cases hy
          | cons z l =>
            have hz := h5 z (by simp)
            rcases List.mem_cons.1 hy with rfl | hy
            · exact hz
            · exact lt_tr hz ((List.pairwise_cons.1 h3).1 y hy)
        · rcases List.mem_cons.1 hr with rfl | hr
          · exact h2
          · exact h4 r hr
    cases p with
    | none =>
      rw [soundG, Bool.and_eq_true, ih, hcons]
      simp
    | some q =>
      unfold soundG soundAt
      simp only [Bool.and_eq_true, decide_eq_true_eq]
      rw [ih, hcons]
      simp only [Option.some.injEq, List.head?_cons, Option.mem_def]
      constructor
      · rintro ⟨⟨h2, h3⟩, h4, h5⟩
        exact ⟨⟨h2, h4, h5⟩, fun q' e x' e' => by subst e; subst e'; exact h3⟩
      · rintro ⟨⟨h2, h4, h5⟩, h6⟩
        exact ⟨⟨h2, h6 q rfl x rfl⟩, h4, h5⟩
def soundB (l : List RowD) : Bool := soundG none l
theorem soundB_iff (l : List RowD) : soundB l = true ↔ SoundR l := by
  unfold soundB
  rw [soundG_iff]
  simp
theorem soundG_take : ∀ (l : List RowD) (p : Option RowD) (k : Nat) (x : RowD), l[k]? = some x → soundG p (l.take k) = true → soundG p (l.take (k + 1)) = (okRow x && (match (if k = 0 then p else l[k - 1]?) with | none => true | some q => decide (rkey q < rkey x)))
  | [], _, k, x, h, _ => by simp at h
  | y :: l, p, 0, x, h, _ => by
    simp only [List.getElem?_cons_zero, Option.some.injEq] at h
    subst h
    cases p <;> simp [soundG, soundAt]
  | y :: l, p, k + 1, x, h, hs => by
    rw [List.getElem?_cons_succ] at h
    have hs' : soundG (some y) (l.take k) = true := by
      cases p <;> simp only [List.take_succ_cons, soundG, Bool.and_eq_true] at hs <;> exact hs.2
    have hy : soundG p (y :: l.take (k + 1)) = soundG (some y) (l.take (k + 1)) := by
      cases p <;> simp only [List.take_succ_cons, soundG, Bool.and_eq_true] at hs <;> simp only [soundG, hs.1, Bool.true_and]
    rw [List.take_succ_cons, hy, soundG_take l (some y) k x h hs']
    cases k with
    | zero => simp
    | succ k => simp
theorem soundG_no : ∀ (l : List RowD) (p : Option RowD) (k : Nat), soundG p (l.take k) = false → soundG p l = false
  | [], p, k, h => by cases p <;> simp [soundG] at h
  | y :: l, p, 0, h => by cases p <;> simp [soundG] at h
  | y :: l, p, k + 1, h => by
    rw [List.take_succ_cons] at h
    cases p with
    | none =>
      unfold soundG at h ⊢
      rw [Bool.and_eq_false_iff] at h ⊢
      exact h.imp id (soundG_no l _ k)
    | some q =>
      unfold soundG at h ⊢
      rw [Bool.and_eq_false_iff] at h ⊢
      exact h.imp id (soundG_no l _ k)
end Go.Proofs.YtngahblgicjoiaaGreatDoor
