/- The stable sort of what is known, by its index: the merge, and the whole. -/
import Derived.Test.YtbnclifpdmpjnaaGreatDoorZ19
import Derived.Deep.CutRange
import Derived.Deep.DeepCutAuto
namespace Go.Proofs.YtbnclifpdmpjnaaGreatDoor
open Go.RowKit
structure SymIn (f : Nat → Int) (q : List Nat) (a m b L rb : Nat) (tl : List Value) (w : World) : Prop where
  row : RowP w rb q tl
  len : q.length = L
  keys : KeysAt w rb f q
  am : a < m
  mb : m < b
  bl : b ≤ L
  few : L ≤ 1000
  s1 : SortedOn f q a m
  s2 : SortedOn f q m b
theorem egK : ∀ args w, (callFunc 27 args).run Tryz.prog w = .ok (.enter 27 args) w := enters_of Tryz.func27 (by kernel_rfl) rfl
theorem wrapU {n : Int} (h0 : 0 ≤ n) (h1 : n < 2 ^ 63) : IntKind.u64.wrap n = n := by
  have e : n % 2 ^ 64 = n := Int.emod_eq_of_lt h0 (by omega)
  simp only [IntKind.wrap, IntKind.bits, IntKind.signed, Bool.false_and, e]
  simp
theorem RowP.ext {w w' : World} {b : Nat} {q : List Nat} {tl : List Value} (h : RowP w b q tl) (hx : Ext w w') : RowP w' b q tl := Blk.ext' h hx
theorem KeysAt.ext {w w' : World} {rb : Nat} {f : Nat → Int} {q : List Nat} (h : KeysAt w rb f q) (hx : Ext w w') : KeysAt w' rb f q := h.but (Ext.but hx _)
set_option maxRecDepth 100000 in
set_option maxHeartbeats 3200000 in
theorem symOne_calls (f : Nat → Int) (q : List Nat) (a m b L cap rb : Nat) (tl : List Value) (w : World) (hI : SymIn f q a m b L rb tl w) (h1 : m = a + 1) :
    Calls Tryz.prog 85 #[.slice (some ⟨rb, 0, none⟩) L cap, .int .i64 a, .int .i64 m, .int .i64 b, .func (.func 27) #[] #[]] w (SortPost f q a b rb tl w) := by
  obtain ⟨hrow, hL, hkeys, ham, hmb, hb, hl, hs1, hs2⟩ := hI
  have HR := Lib.hid hrow; have RL := Lib.hid hL; have HK := Lib.hid hkeys; have S1 := Lib.hid hs1; have S2 := Lib.hid hs2
  have eg := egK
  have g0 : ((m : Int) - (a : Int) == 1) = true := by simp; omega
  have H1 := Lib.hid h1
  clear hrow hL hkeys hs1 hs2 h1 S1
  go_enter Tryz.func85, Tryz.ntmps85
  go_wp2_with fail
  go_loopw [10, 11] (fun i j wr => ∃ x y : Nat, m ≤ x ∧ x ≤ y ∧ y ≤ b ∧ i = .int .i64 x ∧ j = .int .i64 y ∧ Hid (∀ t, m ≤ t → t < x → keyAt f q t < keyAt f q a) ∧ Hid (∀ t, y ≤ t → t < b → keyAt f q a ≤ keyAt f q t) ∧ Hid (Ext w wr)) (fun i j _ => (intOf j).toNat - (intOf i).toNat)
  case atStart => exact ⟨m, b, Nat.le_refl _, by omega, Nat.le_refl _, rfl, rfl, Lib.hid (fun t h1 h2 => by omega), Lib.hid (fun t h1 h2 => by omega), Lib.hid (Below.refl _ _)⟩
  case round =>
    obtain ⟨x, y, hmx, hxy, hyb, rfl, rfl, A1, B1, X1⟩ := hrel
    have R1 : Hid (RowP wr rb q tl) := Lib.hid (HR.out.ext X1.out)
    by_cases hlt : x < y
    · obtain ⟨h, hh⟩ : ∃ h, h = (x + y) / 2 := ⟨_, rfl⟩
      have hx : x ≤ h := by omega
      have hy : h < y := by omega
      have g1 : decide (x < y) = true := by simpa using hlt
      have u1 : IntKind.u64.wrap ((x : Int) + (y : Int)) = (x : Int) + (y : Int) := wrapU (by omega) (by omega)
      have e1 : ((x : Int) + (y : Int)) / 2 = (h : Int) := by omega
      clear hh
      have kk := HK.out.ext X1.out
      have k1 := kk.cell (i := h) (by have := RL.out; omega); have k2 := kk.cell (i := a) (by have := RL.out; omega)
      have c1 := R1.out.cell (i := h) (by have := RL.out; omega); have c2 := R1.out.cell (i := a) (by have := RL.out; omega)
      obtain ⟨p1, hp1⟩ : ∃ p, q.getD h 0 = p := ⟨_, rfl⟩
      obtain ⟨p2, hp2⟩ : ∃ p, q.getD a 0 = p := ⟨_, rfl⟩
      rw [hp1] at k1 c1; rw [hp2] at k2 c2
      obtain ⟨cc, hcc⟩ : ∃ cc, cmpI (keyAt f q h) (keyAt f q a) = cc := ⟨_, rfl⟩
      have CK := Lib.hid (fun p : ExtBy wr => cmpK_calls p1 p2 (keyAt f q h) (keyAt f q a) p.W (ExtBy.cell k1 p) (ExtBy.cell k2 p))
      rw [hcc] at CK
      have HCC : Hid (cc < 0 ↔ keyAt f q h < keyAt f q a) := Lib.hid (by rw [← hcc]; exact cmpI_lt _ _)
      replace c1 := ExtBy.cell c1; replace c2 := ExtBy.cell c2
      have y0 : (0 : Int) ≤ (h : Int) := by omega
      have y1 : (h : Int) < (L : Int) := by omega
      have z0 : (0 : Int) ≤ (a : Int) := by omega
      have z1 : (a : Int) < (L : Int) := by omega
      clear kk k1 k2 hp1 hp2 hcc
      go_wp2_with fail
      refine wp_region_ext (by kernel_rfl) (by kernel_rfl) ?_
      repeat (go_big_quiet_step ((with_reducible exact Calls.ext_of _ (CK.out _))))
      refine wpQuiet_nil ?_
      intro wc hw'
      have XC : Hid (Ext wr wc) := Lib.hid (by obtain ⟨p, rfl⟩ := hw'; exact p.ext)
      clear hw' CK c1 c2 y0 y1 z0 z1
      clear e1 u1
      by_cases hc : cc < 0
      · have HLT := Lib.hid (HCC.out.1 hc)
        clear HCC
        go_wp2_with fail
        exact ⟨⟨h + 1, y, by omega, by omega, hyb, by go_num, rfl, Lib.hid (fun t t1 t2 => by
          by_cases e : t = h
          · subst e; exact HLT.out
          · have := S2.out t h t1 (by omega) (by omega); have := HLT.out; omega), B1, Lib.hid (Ext.trans X1.out XC.out)⟩, by simp [intOf]; omega⟩
      · have HLT : Hid (keyAt f q a ≤ keyAt f q h) := Lib.hid (by have := HCC.out; omega)
        have g3 : 0 ≤ cc := by omega
        clear HCC hc
        go_wp2_with fail
        exact ⟨⟨x, h, hmx, by omega, by omega, rfl, rfl, A1, Lib.hid (fun t t1 t2 => by
          by_cases e2 : t = h
          · subst e2; have := HLT.out; omega
          · have := S2.out h t (by omega) (by omega) t2; have := HLT.out; omega), Lib.hid (Ext.trans X1.out XC.out)⟩, by simp [intOf]; omega⟩
    · obtain rfl : x = y := by omega
      have g1 : decide (x < x) = false := by simp
      obtain ⟨z, hz⟩ : ∃ z, z = x - 1 := ⟨_, rfl⟩
      have ez : (x : Int) - 1 = (z : Int) := by omega
      have hza : a ≤ z := by have := H1.out; omega
      have hzb : z < b := by omega
      have HZ := Lib.hid hz
      clear hz
      go_wp2_with fail
      go_loopw [13] (fun i wr => ∃ (k : Nat) (r : List Nat), a ≤ k ∧ k ≤ z ∧ i = .int .i64 k ∧ Hid (RowP wr rb r tl) ∧ Hid (Up q r a k) ∧ Hid (Moved q r a b) ∧ Hid (But (fun j => j = rb) w wr)) (fun i _ => z - (intOf i).toNat)
      case atStart => exact ⟨a, q, Nat.le_refl _, hza, rfl, R1, Lib.hid (Up.start _ _), Lib.hid (Moved.refl _ _ _), Lib.hid (Ext.but X1.out _)⟩
      case round =>
        clear R1 X1
        obtain ⟨k, r, hak, hkz, rfl, R1, U1, M1, X1⟩ := hrel
        replace RL : Hid (r.length = L) := Lib.hid (M1.out.len.trans RL.out)
        by_cases hlt : k < z
        · have g2 : decide (k < z) = true := by simpa using hlt
          obtain ⟨k1, hk1⟩ : ∃ k1, k1 = k + 1 := ⟨_, rfl⟩
          have e1 : (k : Int) + 1 = (k1 : Int) := by omega
          have HK1 := Lib.hid hk1
          have c1 := R1.out.cell (i := k) (by have := RL.out; omega); have c2 := R1.out.cell (i := k1) (by have := RL.out; omega)
          obtain ⟨p1, hp1⟩ : ∃ p, r.getD k 0 = p := ⟨_, rfl⟩
          obtain ⟨p2, hp2⟩ : ∃ p, r.getD k1 0 = p := ⟨_, rfl⟩
          rw [hp1] at c1; rw [hp2] at c2
          have W := Lib.hid (RowP.swap R1.out (i := k) (j := k1) (by have := RL.out; omega) (by have := RL.out; omega))
          rw [hp1, hp2] at W
          have f1 := Blk.free R1.out k; have f2 := Blk.free R1.out k1
          have y0 : (0 : Int) ≤ (k : Int) := by omega
          have y1 : (k : Int) < (L : Int) := by omega
          have z0 : (0 : Int) ≤ (k1 : Int) := by omega
          have z1 : (k1 : Int) < (L : Int) := by omega
          have HLT2 := Lib.hid hlt
          clear hlt
          have hne : k ≠ k1 := by omega
          clear hp1 hp2 hk1
          go_wp2_with fail
          go_region
          go_wp2_with fail
          exact ⟨⟨k + 1, swapL r k (k + 1), by omega, by have := HLT2.out; omega, by rw [HK1.out], Lib.hid (by rw [← HK1.out]; exact Blk.drew W.out), Lib.hid (U1.out.step hak (by have := RL.out; have := HLT2.out; omega)), Lib.hid (M1.out.trans (swap_moved (by have := HLT2.out; omega) (by have := HLT2.out; omega) (by have := RL.out; omega))), Lib.hid (((X1.out.setCell (p := ⟨rb, k, none⟩) (fun _ => rfl) _).setCell (p := ⟨rb, k1, none⟩) (fun _ => rfl) _).drew)⟩, by have := HLT2.out; simp [intOf]; omega⟩
        · obtain rfl : k = z := by omega
          have g2 : decide (k < k) = false := by simp
          go_wp2_with fail
          go_end0
          refine ⟨rfl, r, R1.out, M1.out, U1.out.sorted hak (by omega) (by rw [← H1.out]; exact S2.out) (fun t t1 t2 => A1.out t (by have := H1.out; omega) (by have := HZ.out; omega)) (fun t t1 t2 => by have := B1.out t (by have := HZ.out; omega) t2; omega), X1.out⟩
set_option maxRecDepth 100000 in
set_option maxHeartbeats 3200000 in
theorem symLast_calls (f : Nat → Int) (q : List Nat) (a m b L cap rb : Nat) (tl : List Value) (w : World) (hI : SymIn f q a m b L rb tl w) (h0 : m ≠ a + 1) (h1 : b = m + 1) :
    Calls Tryz.prog 85 #[.slice (some ⟨rb, 0, none⟩) L cap, .int .i64 a, .int .i64 m, .int .i64 b, .func (.func 27) #[] #[]] w (SortPost f q a b rb tl w) := by
  obtain ⟨hrow, hL, hkeys, ham, hmb, hb, hl, hs1, hs2⟩ := hI
  have HR := Lib.hid hrow; have RL := Lib.hid hL; have HK := Lib.hid hkeys; have S1 := Lib.hid hs1; have S2 := Lib.hid hs2
  have eg := egK
  have g0 : ((m : Int) - (a : Int) == 1) = false := by simp; omega
  have g00 : ((b : Int) - (m : Int) == 1) = true := by simp; omega
  have H1 := Lib.hid h1
  clear hrow hL hkeys hs1 hs2 h1 h0 S2
  go_enter Tryz.func85, Tryz.ntmps85
  go_wp2_with fail
  go_loopw [14, 15] (fun i j wr => ∃ x y : Nat, a ≤ x ∧ x ≤ y ∧ y ≤ m ∧ i = .int .i64 x ∧ j = .int .i64 y ∧ Hid (∀ t, a ≤ t → t < x → keyAt f q t ≤ keyAt f q m) ∧ Hid (∀ t, y ≤ t → t < m → keyAt f q m < keyAt f q t) ∧ Hid (Ext w wr)) (fun i j _ => (intOf j).toNat - (intOf i).toNat)
  case atStart => exact ⟨a, m, Nat.le_refl _, by omega, Nat.le_refl _, rfl, rfl, Lib.hid (fun t h1 h2 => by omega), Lib.hid (fun t h1 h2 => by omega), Lib.hid (Below.refl _ _)⟩
  case round =>
    obtain ⟨x, y, hmx, hxy, hyb, rfl, rfl, A1, B1, X1⟩ := hrel
    have R1 : Hid (RowP wr rb q tl) := Lib.hid (HR.out.ext X1.out)
    by_cases hlt : x < y
    · obtain ⟨h, hh⟩ : ∃ h, h = (x + y) / 2 := ⟨_, rfl⟩
      have hx : x ≤ h := by omega
      have hy : h < y := by omega
      have g1 : decide (x < y) = true := by simpa using hlt
      have u1 : IntKind.u64.wrap ((x : Int) + (y : Int)) = (x : Int) + (y : Int) := wrapU (by omega) (by omega)
      have e1 : ((x : Int) + (y : Int)) / 2 = (h : Int) := by omega
      clear hh
      have kk := HK.out.ext X1.out
      have k1 := kk.cell (i := m) (by have := RL.out; omega); have k2 := kk.cell (i := h) (by have := RL.out; omega)
      have c1 := R1.out.cell (i := m) (by have := RL.out; omega); have c2 := R1.out.cell (i := h) (by have := RL.out; omega)
      obtain ⟨p1, hp1⟩ : ∃ p, q.getD m 0 = p := ⟨_, rfl⟩
      obtain ⟨p2, hp2⟩ : ∃ p, q.getD h 0 = p := ⟨_, rfl⟩
      rw [hp1] at k1 c1; rw [hp2] at k2 c2
      obtain ⟨cc, hcc⟩ : ∃ cc, cmpI (keyAt f q m) (keyAt f q h) = cc := ⟨_, rfl⟩
      have CK := Lib.hid (fun p : ExtBy wr => cmpK_calls p1 p2 (keyAt f q m) (keyAt f q h) p.W (ExtBy.cell k1 p) (ExtBy.cell k2 p))
      rw [hcc] at CK
      have HCC : Hid (cc < 0 ↔ keyAt f q m < keyAt f q h) := Lib.hid (by rw [← hcc]; exact cmpI_lt _ _)
      replace c1 := ExtBy.cell c1; replace c2 := ExtBy.cell c2
      have y0 : (0 : Int) ≤ (m : Int) := by omega
      have y1 : (m : Int) < (L : Int) := by omega
      have z0 : (0 : Int) ≤ (h : Int) := by omega
      have z1 : (h : Int) < (L : Int) := by omega
      clear kk k1 k2 hp1 hp2 hcc
      go_wp2_with fail
      refine wp_region_ext (by kernel_rfl) (by kernel_rfl) ?_
      repeat (go_big_quiet_step ((with_reducible exact Calls.ext_of _ (CK.out _))))
      refine wpQuiet_nil ?_
      intro wc hw'
      have XC : Hid (Ext wr wc) := Lib.hid (by obtain ⟨p, rfl⟩ := hw'; exact p.ext)
      clear hw' CK c1 c2 y0 y1 z0 z1
      clear e1 u1
      by_cases hc : cc < 0
      · have HLT := Lib.hid (HCC.out.1 hc)
        have g3 : (!decide (cc < 0)) = false := by simpa using hc
        clear HCC
        go_wp2_with fail
        all_goals first | (exfalso; omega) | (exfalso; rename_i hh; simp at hh; omega) | skip
        exact ⟨⟨x, h, hmx, by omega, by omega, rfl, rfl, A1, Lib.hid (fun t t1 t2 => by
          by_cases e : t = h
          · subst e; exact HLT.out
          · have := S1.out h t (by omega) (by omega) t2; have := HLT.out; omega), Lib.hid (Ext.trans X1.out XC.out)⟩, by simp [intOf]; omega⟩
      · have HLT : Hid (keyAt f q h ≤ keyAt f q m) := Lib.hid (by have := HCC.out; omega)
        have g3 : 0 ≤ cc := by omega
        have g4 : (!decide (cc < 0)) = true := by simpa using hc
        clear HCC hc
        go_wp2_with fail
        all_goals first | (exfalso; omega) | (exfalso; rename_i hh; simp at hh; omega) | skip
        exact ⟨⟨h + 1, y, by omega, by omega, hyb, by go_num, rfl, Lib.hid (fun t t1 t2 => by
          by_cases e2 : t = h
          · subst e2; have := HLT.out; omega
          · have := S1.out t h t1 (by omega) (by omega); have := HLT.out; omega), B1, Lib.hid (Ext.trans X1.out XC.out)⟩, by simp [intOf]; omega⟩
    · obtain rfl : x = y := by omega
      have g1 : decide (x < x) = false := by simp
      go_wp2_with fail
      go_loopw [17] (fun i wr => ∃ (k : Nat) (r : List Nat), x ≤ k ∧ k ≤ m ∧ i = .int .i64 k ∧ Hid (RowP wr rb r tl) ∧ Hid (Down q r m k) ∧ Hid (Moved q r a b) ∧ Hid (But (fun j => j = rb) w wr)) (fun i _ => (intOf i).toNat)
      case atStart => exact ⟨m, q, by omega, Nat.le_refl _, rfl, R1, Lib.hid (Down.start _ _), Lib.hid (Moved.refl _ _ _), Lib.hid (Ext.but X1.out _)⟩
      case round =>
        clear R1 X1
        obtain ⟨k, r, hxk, hkm, rfl, R1, U1, M1, X1⟩ := hrel
        replace RL : Hid (r.length = L) := Lib.hid (M1.out.len.trans RL.out)
        by_cases hlt : x < k
        · have g2 : decide (x < k) = true := by simpa using hlt
          obtain ⟨k1, hk1⟩ : ∃ k1, k1 = k - 1 := ⟨_, rfl⟩
          have e1 : (k : Int) - 1 = (k1 : Int) := by omega
          have HK1 := Lib.hid hk1; have HLT := Lib.hid hlt
          have c1 := R1.out.cell (i := k) (by have := RL.out; omega); have c2 := R1.out.cell (i := k1) (by have := RL.out; omega)
          obtain ⟨p1, hp1⟩ : ∃ p, r.getD k 0 = p := ⟨_, rfl⟩
          obtain ⟨p2, hp2⟩ : ∃ p, r.getD k1 0 = p := ⟨_, rfl⟩
          rw [hp1] at c1; rw [hp2] at c2
          have W := Lib.hid (RowP.swap R1.out (i := k) (j := k1) (by have := RL.out; omega) (by have := RL.out; omega))
          rw [hp1, hp2] at W
          have f1 := Blk.free R1.out k; have f2 := Blk.free R1.out k1
          have y0 : (0 : Int) ≤ (k : Int) := by omega
          have y1 : (k : Int) < (L : Int) := by omega
          have z0 : (0 : Int) ≤ (k1 : Int) := by omega
          have z1 : (k1 : Int) < (L : Int) := by omega
          have hne : k ≠ k1 := by omega
          clear hk1 hlt
          clear hp1 hp2
          go_wp2_with fail
          go_region
          go_wp2_with fail
          exact ⟨⟨k1, swapL r k k1, by have := HK1.out; have := HLT.out; omega, by have := HK1.out; omega, rfl, Lib.hid (Blk.drew W.out), Lib.hid (by rw [HK1.out]; exact U1.out.step hkm (by have := HLT.out; omega) (by have := RL.out; omega)), Lib.hid (M1.out.trans (swap_moved (by have := HLT.out; omega) (by have := HK1.out; have := HLT.out; omega) (by have := RL.out; omega))), Lib.hid (((X1.out.setCell (p := ⟨rb, k, none⟩) (fun _ => rfl) _).setCell (p := ⟨rb, k1, none⟩) (fun _ => rfl) _).drew)⟩, by have := HK1.out; have := HLT.out; simp [intOf]; omega⟩
        · obtain rfl : x = k := by omega
          have g2 : decide (x < x) = false := by simp
          go_wp2_with fail
          go_end0
          refine ⟨rfl, r, R1.out, M1.out, by rw [H1.out]; exact U1.out.sorted hmx hkm S1.out (fun t t1 t2 => by have := A1.out t t1 t2; omega) (fun t t1 t2 => B1.out t t1 t2), X1.out⟩
end Go.Proofs.YtbnclifpdmpjnaaGreatDoor
