/- HoldsNil: no table, and one that nobody made. -/
import Derived.Test.YtdmejbjpbjcfbaaGreatDoorAwakeH
import Derived.Test.YtdmejbjpbjcfbaaGreatDoorCountH
namespace Go.Proofs.YtdmejbjpbjcfbaaGreatDoor
open Go.RowKit

theorem busyL_none (nm : List UInt8 → Int × Int) (c n : Int) : ∀ l : List (List UInt8), busyL (fun _ => false) nm c n l = (0, 0, false)
  | [] => rfl
  | k :: ks => by
    unfold busyL
    rw [if_neg (by simp)]
    exact busyL_none nm c n ks

set_option maxRecDepth 100000 in
set_option maxHeartbeats 3200000 in
theorem holdsNil_calls (ls : List HoldV) (dl : List HoldD) (ao : Option Addr) (cap : Nat) (key : ByteArray) (w : World) (hl : ls.length ≤ 9223372036854775807) (hr : Rows 7 encHV w.heap.size w ao ls) (hd : HoldsAre w (fun _ => False) ls dl) (hs : ∀ d ∈ dl, d.small) (hk : key.size ≤ 140737488351232) :
    Calls Tryz.prog 7 #[.slice ao ls.length cap, .string key] w fun e w' => e = .returned (.bool true) ∧ Ext w w' := by
  have HO := Lib.hid (fun W (hW : Ext w W) => holdsOf_calls ls dl (fun _ => False) ao cap 1500 W (by omega) hl ((hr.ext hW).mono hW.size) (hd.ext hW) hs)
  clear hr hd hs
  go_enter Tryz.func7, Tryz.ntmps7
  go_wp2_with fail
  refine (awake_calls w).mono ?_
  rintro e w1 ⟨rfl, hx1⟩
  have X1 := Lib.hid hx1; clear hx1
  go_wp2_with fail
  refine (HO.out _ X1.out).mono ?_
  rintro e w2 ⟨rfl, hx2⟩
  have X2 := Lib.hid (Ext.trans X1.out hx2); clear hx2
  generalize holdsN 1500 0 dl = N
  by_cases hN : 1500 < N
  · go_wp2_with fail
    go_ret
    exact ⟨rfl, X2.out⟩
  · by_cases hK : 1500 < key.size
    · go_wp2_with fail
      go_ret
      exact ⟨rfl, X2.out⟩
    · have hw : ∃ w3, w3 = (w2.alloc (.cells #[.slice none 0 0, .bool false] 90)).alloc (.cells #[.pointer none, .pointer (some ⟨w2.heap.size, 0, none⟩)] 27) ∧ Ext w2 w3 ∧ Blk w3 w2.heap.size [.slice none 0 0, .bool false] 90 ∧ Blk w3 (w2.heap.size + 1) [.pointer none, .pointer (some ⟨w2.heap.size, 0, none⟩)] 27 := by
        refine ⟨_, rfl, ((Below.refl _ w2).alloc (Nat.le_refl _) _).alloc (by simp) _, (Blk.new w2 _ _).alloc _, ?_⟩
        have := Blk.new (w2.alloc (.cells #[.slice none 0 0, .bool false] 90)) [.pointer none, .pointer (some ⟨w2.heap.size, 0, none⟩)] 27
        rwa [World.size_alloc] at this
      obtain ⟨w3, e3, x3, b0, b1⟩ := hw
      have E3 := Lib.hid e3; have X3 := Lib.hid (Ext.trans X2.out x3); have B0 := Lib.hid b0; have B1 := Lib.hid b1
      clear e3 x3 b0 b1
      go_wp2_with fail
      rw [← E3.out]
      clear E3
      generalize hN1 : w2.heap.size + 1 = N1 at B1 ⊢
      generalize w2.heap.size = N0 at B0 B1 ⊢
      clear hN1
      go_loopw [7] (fun vi wr => ∃ k : Nat, k ≤ 2 ∧ vi = .int .i64 k ∧ Ext w3 wr) (fun vi _ => 2 - (intOf vi).toNat)
      case atStart => exact ⟨0, by omega, rfl, Below.refl _ _⟩
      case round =>
        obtain ⟨k, hk2, rfl, hx⟩ := hrel
        have K1 := Lib.hid hx; clear hx
        by_cases hlt : k < 2
        · obtain ⟨p, hp, hth⟩ : ∃ p, wr.cell? ⟨N1, k, none⟩ = some (.pointer p) ∧ ThereIs wr p false := by
            have h1 := (B1.out.ext' K1.out).cell k
            have h0 := (B0.out.ext' K1.out).cell 1
            match k, hlt with
            | 0, _ => exact ⟨none, h1, .inl ⟨rfl, rfl⟩⟩
            | 1, _ => exact ⟨_, h1, .inr ⟨_, rfl, h0⟩⟩
          have HTH := Lib.hid hth
          have i0 : (0 : Int) ≤ (k : Int) := by omega
          have i1 : (k : Int) < 2 := by omega
          clear hth
          go_wp2_with fail
          refine (nilOf_calls p key wr HTH.out).mono ?_
          rintro e w4 ⟨rfl, hx4⟩
          have Y4 := Lib.hid hx4
          have hw : Ext wr ((w4.alloc (.cells #[.string ⟨#[]⟩, .int .i64 0, .int .i64 0, .slice none 0 0, .slice none 0 0, .bool false, .string ⟨#[]⟩] 35)).alloc (.cells #[.string key] 9)) := Ext.trans hx4 (((Below.refl _ w4).alloc (Nat.le_refl _) _).alloc (by simp) _)
          have Y5 := Lib.hid hw
          have hrk := (rows_fresh (enc := encStr) (sz := 1) (fun _ => rfl) [key] (Blk.new (w4.alloc (.cells #[.string ⟨#[]⟩, .int .i64 0, .int .i64 0, .slice none 0 0, .slice none 0 0, .bool false, .string ⟨#[]⟩] 35)) [.string key] 9) (fun _ => False) (fun e => e)).rows
          have hsz : (w4.alloc (.cells #[.string ⟨#[]⟩, .int .i64 0, .int .i64 0, .slice none 0 0, .slice none 0 0, .bool false, .string ⟨#[]⟩] 35)).heap.size = w4.heap.size + 1 := by simp
          rw [hsz] at hrk
          have HRK := Lib.hid hrk
          clear hx4 hw hrk hsz
          simp only [encHV, HoldV.zero]
          go_wp2_with fail
          refine (busy_calls (fun _ => false) (fun _ => (0, 0)) p 0 0 [key] _ _ _ (by simp) HRK.out (fun s W hW => (nilOf_calls p s W (HTH.out.ext (Ext.trans Y5.out hW))).mono (fun e w' h => ⟨HoldV.zero, h.1, (fun e => by cases e), h.2⟩))).mono ?_
          rintro e w5 ⟨⟨r, hr, rfl⟩, hx5⟩
          rw [busyL_none] at hr
          subst hr
          have Y6 := Lib.hid (Ext.trans Y5.out (Ext.trans hx5 ((Below.refl _ w5).alloc (Nat.le_refl _) (.cells #[.int .i64 0, .int .i64 0] 24))))
          clear hx5
          go_wp2_with fail
          refine (nilPut_calls p _ _ (HTH.out.ext Y6.out)).mono ?_
          rintro e w6 ⟨rfl, rfl⟩
          go_wp2_with fail
          refine (nilMany_calls p _ (HTH.out.ext Y6.out)).mono ?_
          rintro e w6 ⟨rfl, rfl⟩
          go_wp2_with fail
          refine (nilCopy_calls p _ (HTH.out.ext Y6.out)).mono ?_
          rintro e w6 ⟨rfl, rfl⟩
          go_wp2_with fail
          refine (nilBy_calls p 0 0 _ (HTH.out.ext Y6.out)).mono ?_
          rintro e w6 ⟨rfl, hx6⟩
          have Y7 := Lib.hid (Ext.trans Y6.out hx6); clear hx6
          go_wp2_with fail
          refine (nilNames_calls p _ (HTH.out.ext Y7.out)).mono ?_
          rintro e w7 ⟨rfl, rfl⟩
          go_wp2_with fail
          refine (nilFree_calls p _ _ _ _ (HTH.out.ext (Ext.trans Y7.out ((Below.refl _ w6).alloc (Nat.le_refl _) _)))).mono ?_
          rintro e w7 ⟨rfl, hx7⟩
          have Y8 := Lib.hid (Ext.trans Y7.out (Ext.trans ((Below.refl _ w6).alloc (Nat.le_refl _) _) hx7)); clear hx7
          go_wp2_with fail
          refine (nilIn_calls p _ _ _ (HTH.out.ext Y8.out)).mono ?_
          rintro e w8 ⟨rfl, hx8⟩
          have Y9 := Lib.hid (Ext.trans Y8.out hx8); clear hx8
          go_wp2_with fail
          refine (nilTake_calls p _ _ _ (HTH.out.ext Y9.out)).mono ?_
          rintro e w9 ⟨rfl, hx9⟩
          have Y10 := Lib.hid (Ext.trans Y9.out hx9); clear hx9
          go_wp2_with fail
          go_roundw
          case rel => exact ⟨k + 1, by omega, by go_num, Ext.trans K1.out Y10.out⟩
          case measure => simp [intOf]; omega
        · go_wp2_with fail
          go_ret
          exact ⟨rfl, Ext.trans X3.out K1.out⟩
end Go.Proofs.YtdmejbjpbjcfbaaGreatDoor
