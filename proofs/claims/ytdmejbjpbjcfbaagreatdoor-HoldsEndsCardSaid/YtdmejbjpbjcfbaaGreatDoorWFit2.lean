/- Holds that are few are small. -/
import Derived.Test.YtdmejbjpbjcfbaaGreatDoorHoldW
import Derived.Test.YtdmejbjpbjcfbaaGreatDoorWire
import Derived.Test.YtdmejbjpbjcfbaaGreatDoorHoldR
namespace Go.Proofs.YtdmejbjpbjcfbaaGreatDoor
open Go.RowKit
theorem actsN_small {most : Nat} : ∀ (l : List ActD) (n : Nat), actsN most n l ≤ most → n ≤ most ∧ ∀ a ∈ l, a.value.size / 8 ≤ most
  | [], n, h => ⟨by simpa [actsN] using h, fun _ h => by simp at h⟩
  | a :: l, n, h => by
    rw [actsN] at h
    split at h
    · have ih := actsN_small l _ h
      refine ⟨by omega, fun b hb => ?_⟩
      rcases List.mem_cons.1 hb with rfl | hb
      · omega
      · exact ih.2 b hb
    · omega
theorem readsN_small {most : Nat} : ∀ (l : List Rd) (n : Nat), readsN most n l ≤ most → n ≤ most ∧ ∀ a ∈ l, a.value.size / 8 ≤ most
  | [], n, h => ⟨by simpa [readsN] using h, fun _ h => by simp at h⟩
  | a :: l, n, h => by
    rw [readsN] at h
    split at h
    · have ih := readsN_small l _ h
      refine ⟨by omega, fun b hb => ?_⟩
      rcases List.mem_cons.1 hb with rfl | hb
      · omega
      · exact ih.2 b hb
    · omega
theorem holdsN_small {most : Nat} : ∀ (l : List HoldD) (n : Nat), holdsN most n l ≤ most → n ≤ most ∧ ∀ d ∈ l, d.key.size / 8 ≤ most ∧ d.value.size / 8 ≤ most ∧ (∀ a ∈ d.acts, a.value.size / 8 ≤ most) ∧ ∀ r ∈ d.reads, r.value.size / 8 ≤ most
  | [], n, h => ⟨by simpa [holdsN] using h, fun _ h => by simp at h⟩
  | a :: l, n, h => by
    rw [holdsN] at h
    split at h
    · have ih := holdsN_small l _ h
      have h1 := readsN_small (most := most) a.reads (holdN most n a) ih.1
      have h0 : n + 1 + a.key.size / 8 + a.value.size / 8 + actsN most 0 a.acts ≤ most := h1.1
      have h2 := actsN_small (most := most) a.acts 0 (by omega)
      refine ⟨by omega, fun d hd => ?_⟩
      rcases List.mem_cons.1 hd with rfl | hd
      · exact ⟨by omega, by omega, h2.2, h1.2⟩
      · exact ih.2 d hd
    · omega
structure Few (dl : List HoldD) : Prop where
  len : dl.length ≤ 1500
  ok : ∀ d ∈ dl, d.ok
  fits : ∀ d ∈ dl, d.fits
  wfit : ∀ d ∈ dl, d.wfit
theorem few_of {dl : List HoldD} (h : holdsN 1500 0 dl ≤ 1500) (hok : ∀ d ∈ dl, d.acts.length ≤ 1000000 → d.reads.length ≤ 1000000 → d.ok) : Few dl := by
  obtain ⟨h1, h2⟩ := holdsN_le dl 0 h
  obtain ⟨_, h3⟩ := holdsN_small dl 0 h
  have ok : ∀ d ∈ dl, d.ok := fun d hd => hok d hd (by have := h2 d hd; omega) (by have := h2 d hd; omega)
  refine ⟨by omega, ok, fun d hd => ⟨by have := h2 d hd; omega, by have := h2 d hd; omega⟩, fun d hd => ?_⟩
  obtain ⟨a1, a2⟩ := h2 d hd
  obtain ⟨b1, b2, b3, b4⟩ := h3 d hd
  exact ⟨by omega, by omega, by omega, by omega, fun a ha => ⟨by have := b3 a ha; omega, ((ok d hd).acts a ha).1, ((ok d hd).acts a ha).2.1⟩, fun r hr => by have := b4 r hr; omega⟩
set_option maxRecDepth 100000 in
set_option maxHeartbeats 800000 in
theorem sameBytes_calls (l : List UInt8) (ao bo : Option Addr) (cap cap' : Nat) (w : World) (hl : l.length ≤ 1000000000000000) (hr : Rows 1 encU8 w.heap.size w ao l) (hq : Rows 1 encU8 w.heap.size w bo l) :
    Calls Tryz.prog 24 #[.slice ao l.length cap, .slice bo l.length cap'] w fun e w' => e = .returned (.bool true) ∧ Ext w w' := by
  have HR := Lib.hid hr; have HQ := Lib.hid hq
  clear hr hq
  go_enter Tryz.func24, Tryz.ntmps24
  have hd : ((l.length : Int) != (l.length : Int)) = false := by simp
  go_wp2_with fail
  go_loopw [5] (fun i wr => ∃ (k : Nat), k ≤ l.length ∧ i = .int .i64 k ∧ Ext w wr) (fun i _ => l.length - (intOf i).toNat)
  case atStart => exact ⟨0, by omega, rfl, Below.refl _ _⟩
  case round =>
    obtain ⟨k, hk, rfl, hx⟩ := hrel
    have K2 := Lib.hid hx
    clear hx
    by_cases hlt : k < l.length
    · obtain ⟨x, hx⟩ : ∃ x, l[k]? = some x := ⟨_, List.getElem?_eq_getElem hlt⟩
      obtain ⟨b, off, rfl, hb, hcell⟩ := HR.out (by intro e; rw [e] at hlt; simp at hlt)
      obtain ⟨b', off', rfl, hb', hcell'⟩ := HQ.out (by intro e; rw [e] at hlt; simp at hlt)
      have hcx := hcell k x hx 0 _ rfl; have hcy := hcell' k x hx 0 _ rfl
      rw [show off + k * 1 + 0 = off + k from by omega] at hcx
      rw [show off' + k * 1 + 0 = off' + k from by omega] at hcy
      have d0 : wr.cell? ⟨b, off + k, none⟩ = some (.int .u8 (x.toNat : Int)) := (K2.out.cell (p := ⟨b, off + k, none⟩) hb).trans hcx
      have c0 : wr.cell? ⟨b', off' + k, none⟩ = some (.int .u8 (x.toNat : Int)) := (K2.out.cell (p := ⟨b', off' + k, none⟩) hb').trans hcy
      have hi0 : (0 : Int) ≤ (k : Int) := by omega
      have hi1 : (k : Int) < (l.length : Int) := by omega
      clear hx hcell hcell' hcx hcy
      generalize x.toNat = y at d0 c0
      have he : ((y : Int) == (y : Int)) = true := by simp
      have he2 : ((y : Int) != (y : Int)) = false := by simp
      go_wp2_with fail
      go_quiet (fail)
      go_wp2_with fail
      go_roundw
      case rel => exact ⟨k + 1, by omega, by go_num, (Ext.drewN K2.out _)⟩
      case measure => simp [intOf]; omega
    · go_wp2_with fail
      go_ret
      exact ⟨rfl, K2.out⟩
theorem holdsK_okD {s : RSt} : ∀ {k : Nat} {l : List HoldD} {s1 : RSt}, holdsK s k = some (l, s1) → ∀ d ∈ l, d.ok
  | 0, l, s1, h => by
    simp only [holdsK, Option.some.injEq, Prod.mk.injEq] at h
    rw [← h.1]; intro d hd; simp at hd
  | k + 1, l, s1, h => by
    obtain ⟨l0, s0, h1, rfl, _⟩ := holdsK_prev h
    intro d hd
    rcases List.mem_append.1 hd with hd | hd
    · exact holdsK_okD h1 d hd
    · rw [List.mem_singleton] at hd
      subst hd
      exact holdS_ok s0
theorem holdsS_some {s s1 : RSt} {l : List HoldD} (h : holdsS s = some (l, s1)) : s1.fl = false ∧ l.length ≤ 60 ∧ ∀ d ∈ l, d.fits := by
  unfold holdsS at h
  have hn := numS_le 60 s
  cases hk : holdsK (numS 60 s).2 (numS 60 s).1 with
  | none => rw [hk] at h; cases h
  | some p =>
    obtain ⟨l0, s0⟩ := p
    rw [hk] at h
    simp only at h
    split at h
    · cases h
    · rename_i hf
      simp only [Option.some.injEq, Prod.mk.injEq] at h
      obtain ⟨rfl, rfl⟩ := h
      exact ⟨by simpa using hf, by rw [holdsK_len hk]; exact hn, fun d hd => ⟨(holdsK_okD hk d hd).an, (holdsK_okD hk d hd).rn⟩⟩
end Go.Proofs.YtdmejbjpbjcfbaaGreatDoor
