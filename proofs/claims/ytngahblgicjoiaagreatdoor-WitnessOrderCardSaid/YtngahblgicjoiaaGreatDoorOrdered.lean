/- ordered: a row of steps that fits, is in time, and has every step of another. -/
import Derived.Test.YtngahblgicjoiaaGreatDoorAwake
namespace Go.Proofs.YtngahblgicjoiaaGreatDoor
open Go.RowKit

/-- The chain of five. -/
theorem chain5 : ∀ a b c d e : Bool, (a = false) ∨ (a = true ∧ b = false) ∨ (a = true ∧ b = true ∧ c = false) ∨ (a = true ∧ b = true ∧ c = true ∧ d = false) ∨ (a = true ∧ b = true ∧ c = true ∧ d = true ∧ e = false) ∨ (a = true ∧ b = true ∧ c = true ∧ d = true ∧ e = true) := by decide
set_option maxRecDepth 100000 in
set_option maxHeartbeats 3200000 in
theorem ordered_calls (l m : List StepZ) (ao bo : Option Addr) (cap cap' : Nat) (w : World) (hl : l.length ≤ 1000) (hlm : l.length = m.length) (hcap : l.length ≤ cap) (hs : StepsAt w ao l) (hq : StepsAt w bo m) (hd : ∀ z ∈ l, z.d.ok) (hfit : fitD (l.map (·.d)) = (m.length, 0)) (htime : timeD (l.map (·.d)) = (-1, -1)) (hall : ∀ x ∈ m, ∃ y ∈ l, y.d = x.d) (hlv : LV w.heap.size w) :
    Calls Tryz.prog 38 #[.slice ao l.length cap, .slice bo m.length cap'] w fun e w' => e = .returned (.bool true) ∧ Ext w w' := by
  have HS := Lib.hid hs; have HQ := Lib.hid hq; have HD := Lib.hid hd; have HF := Lib.hid hfit; have HT := Lib.hid htime; have HA := Lib.hid hall; have HLV := Lib.hid hlv; have HLM := Lib.hid hlm
  have hm1 : m.length ≤ 1000 := by omega
  clear hs hq hd hfit htime hall hlv hlm
  go_enter Tryz.func38, Tryz.ntmps38
  go_wp2_with fail
  refine (fit_calls l ao cap w hl HS.out HD.out HLV.out).mono ?_
  rintro e w1 ⟨rfl, hx1⟩
  rw [HF.out]
  have X1 := Lib.hid hx1
  clear hx1
  go_wp2_with fail
  refine (inTime_calls l ao cap w1 hl hcap (HS.out.ext X1.out)).mono ?_
  rintro e w2 ⟨rfl, hx2⟩
  rw [HT.out]
  have X2 := Lib.hid (Ext.trans X1.out hx2)
  clear hx2 X1
  have b1 : ((((m.length : Nat) : Int) != ((m.length : Nat) : Int)) = false) := by simp
  have b2 : ((((l.length : Nat) : Int) != ((m.length : Nat) : Int)) = false) := by have := HLM.out; simp [this]
  go_wp2_with fail
  go_loopw [9] (fun i wr => ∃ k : Nat, k ≤ m.length ∧ i = .int .i64 k ∧ Ext w2 wr) (fun i _ => m.length - (intOf i).toNat)
  case atStart => exact ⟨0, by omega, rfl, Below.refl _ _⟩
  case round =>
    obtain ⟨k, hk, rfl, hx⟩ := hrel
    have K2 := Lib.hid hx
    clear hx
    by_cases hlt : k < m.length
    · obtain ⟨x, hx⟩ : ∃ x, m[k]? = some x := ⟨_, List.getElem?_eq_getElem hlt⟩
      have AL := Lib.hid (HA.out x (List.mem_of_getElem? hx))
      have XA := Lib.hid ((HQ.out.2 x (List.mem_of_getElem? hx)))
      obtain ⟨bx, ox, rfl, hbx, hcellx⟩ := HQ.out.1 (by intro e; rw [e] at hlt; simp at hlt)
      have HCX := Lib.hid (hcellx k x hx)
      have HBX := Lib.hid hbx
      have i0 : (0 : Int) ≤ (k : Int) := by omega
      have i1 : (k : Int) < (m.length : Int) := by omega
      clear hx hbx hcellx
      obtain ⟨⟨cl, nm, acts, reads, ca, an⟩, pa, qa, ra, sa⟩ := x
      go_wp2_with fail
      obtain ⟨wb, hwb⟩ : ∃ wb, wb = wr := ⟨_, rfl⟩
      have K3 : Hid (Ext w2 wb) := Lib.hid (by rw [hwb]; exact K2.out)
      rw [← hwb]
      clear K2 hwb
      go_loopw [10, 11] (fun vf vi ws => ∃ (q : Nat) (b : Bool), q ≤ l.length ∧ vf = .bool b ∧ vi = .int .i64 q ∧ b = (l.take q).any (fun y => sameS y.d ⟨cl, nm, acts, reads, ca, an⟩) ∧ Ext w2 ws) (fun _ vi _ => l.length - (intOf vi).toNat)
      case atStart => exact ⟨0, false, by omega, rfl, rfl, by simp, K3.out⟩
      case round =>
        obtain ⟨q, b, hq, rfl, rfl, hb, hxs⟩ := hrel
        have HB := Lib.hid hb; have XS := Lib.hid hxs
        clear hb hxs
        by_cases hqt : q < l.length
        · obtain ⟨y, hy⟩ : ∃ y, l[q]? = some y := ⟨_, List.getElem?_eq_getElem hqt⟩
          have TK := Lib.hid (show l.take (q + 1) = l.take q ++ [y] by rw [List.take_add_one, hy]; rfl)
          have YA := Lib.hid ((HS.out.2 y (List.mem_of_getElem? hy)))
          have YD := Lib.hid (HD.out y (List.mem_of_getElem? hy))
          obtain ⟨by', oy, rfl, hby, hcelly⟩ := HS.out.1 (by intro e; rw [e] at hqt; simp at hqt)
          have HCY := Lib.hid (hcelly q y hy)
          have X2' := Ext.trans X2.out XS.out
          have fx : ∀ (j : Nat) (u : Value), (encStep ⟨⟨cl, nm, acts, reads, ca, an⟩, pa, qa, ra, sa⟩)[j]? = some u → wr.cell? ⟨bx, ox + k * 6 + j, none⟩ = some u := fun j u hj => (X2'.cell (p := ⟨bx, _, none⟩) HBX.out).trans (HCX.out j u hj)
          have fy : ∀ (j : Nat) (u : Value), (encStep y)[j]? = some u → wr.cell? ⟨by', oy + q * 6 + j, none⟩ = some u := fun j u hj => (X2'.cell (p := ⟨by', _, none⟩) hby).trans (HCY.out j u hj)
          have j0 : (0 : Int) ≤ (q : Int) := by omega
          have j1 : (q : Int) < (l.length : Int) := by omega
          clear hy hby hcelly X2'
          obtain ⟨⟨cl', nm', acts', reads', ca', an'⟩, pb, qb, rb, sb⟩ := y
          have c0 := fx 0 _ rfl; have c1 := fx 1 _ rfl; have c2 := fx 2 _ rfl; have c3 := fx 3 _ rfl; have c4 := fx 4 _ rfl; have c5 := fx 5 _ rfl
          have d0 := fy 0 _ rfl; have d1 := fy 1 _ rfl; have d2 := fy 2 _ rfl; have d3 := fy 3 _ rfl; have d4 := fy 4 _ rfl; have d5 := fy 5 _ rfl
          simp only [Nat.add_zero] at c0 d0
          clear fx fy
          have C0 := ExtBy.cell c0; have C1 := ExtBy.cell c1; have C2 := ExtBy.cell c2; have C3 := ExtBy.cell c3; have C4 := ExtBy.cell c4; have C5 := ExtBy.cell c5
          have D0 := ExtBy.cell d0; have D1 := ExtBy.cell d1; have D2 := ExtBy.cell d2; have D3 := ExtBy.cell d3; have D4 := ExtBy.cell d4; have D5 := ExtBy.cell d5
          have X2' := Ext.trans X2.out XS.out
          have HSA : Hid (∀ p : ExtBy wr, Calls Tryz.prog 51 #[.slice pb acts'.length qb, .slice pa acts.length qa] p.W fun e w' => e = .returned (.bool (decide (acts' = acts))) ∧ Ext p.W w') := Lib.hid (fun p => sameActs_calls acts' acts pb pa qb qa p.W YD.out.an ((YA.out.1.ext (Ext.trans X2' p.ext)).mono (Ext.trans X2' p.ext).size) ((XA.out.1.ext (Ext.trans X2' p.ext)).mono (Ext.trans X2' p.ext).size))
          have HSR : Hid (∀ p : ExtBy wr, Calls Tryz.prog 22 #[.slice rb reads'.length sb, .slice ra reads.length sa] p.W fun e w' => e = .returned (.bool (decide (reads' = reads))) ∧ Ext p.W w') := Lib.hid (fun p => sameReads_calls reads' reads rb ra sb sa p.W YD.out.rn ((YA.out.2.ext (Ext.trans X2' p.ext)).mono (Ext.trans X2' p.ext).size) ((XA.out.2.ext (Ext.trans X2' p.ext)).mono (Ext.trans X2' p.ext).size))
          have FIN : Hid (∀ b', (b || sameS ⟨cl', nm', acts', reads', ca', an'⟩ ⟨cl, nm, acts, reads, ca, an⟩) = b' → ∃ (q' : Nat) (b2 : Bool), q' ≤ l.length ∧ Value.bool b' = .bool b2 ∧ Value.int .i64 ((q : Int) + 1) = .int .i64 q' ∧ b2 = (l.take q').any (fun y => sameS y.d ⟨cl, nm, acts, reads, ca, an⟩)) := Lib.hid (fun b' e => ⟨q + 1, b', by omega, rfl, by simp, by rw [TK.out, List.any_append, ← HB.out, ← e]; simp⟩)
          clear c0 c1 c2 c3 c4 c5 d0 d1 d2 d3 d4 d5 X2'
          cases b
          case true =>
            go_wp2_with fail
            refine wp_region_ext (by kernel_rfl) (by kernel_rfl) ?_
            repeat (go_big_quiet_step (fail))
            refine wpQuiet_nil ?_
            intro wc hw'
            have XC := Lib.hid (show Ext w2 wc by obtain ⟨p, rfl⟩ := hw'; exact Ext.trans XS.out p.ext)
            clear hw'
            go_wp2_with fail
            refine ⟨?_, by simp [intOf]; omega⟩
            obtain ⟨q', b2, h1, h2, h3, h4⟩ := FIN.out true (by simp)
            exact ⟨q', b2, h1, h2, h3, h4, XC.out⟩
          case false =>
            have key2 := chain5 (cl' == cl && nm' == nm) (decide (acts' = acts)) (decide (reads' = reads)) (ca' == ca) (an' == an)
            have hEq := fun W => eql_name cl' nm' cl nm W
            have SE : Hid (sameS ⟨cl', nm', acts', reads', ca', an'⟩ ⟨cl, nm, acts, reads, ca, an⟩ = ((cl' == cl && nm' == nm) && (decide (acts' = acts) && (decide (reads' = reads) && ((ca' == ca) && (an' == an)))))) := Lib.hid rfl
            go_wp2_with fail
            rcases key2 with hA | ⟨hA, hB⟩ | ⟨hA, hB, hC⟩ | ⟨hA, hB, hC, hE⟩ | ⟨hA, hB, hC, hE, hF⟩ | ⟨hA, hB, hC, hE, hF⟩
            case' inl => have se : sameS ⟨cl', nm', acts', reads', ca', an'⟩ ⟨cl, nm, acts, reads, ca, an⟩ = false := by rw [SE.out, hA]; rfl
            case' inr.inl => have se : sameS ⟨cl', nm', acts', reads', ca', an'⟩ ⟨cl, nm, acts, reads, ca, an⟩ = false := by rw [SE.out, hA, hB]; rfl
            case' inr.inr.inl => have se : sameS ⟨cl', nm', acts', reads', ca', an'⟩ ⟨cl, nm, acts, reads, ca, an⟩ = false := by rw [SE.out, hA, hB, hC]; rfl
            case' inr.inr.inr.inl => have se : sameS ⟨cl', nm', acts', reads', ca', an'⟩ ⟨cl, nm, acts, reads, ca, an⟩ = false := by rw [SE.out, hA, hB, hC, hE]; rfl
            case' inr.inr.inr.inr.inl => have se : sameS ⟨cl', nm', acts', reads', ca', an'⟩ ⟨cl, nm, acts, reads, ca, an⟩ = false := by rw [SE.out, hA, hB, hC, hE, hF]; rfl
            case' inr.inr.inr.inr.inr => have se : sameS ⟨cl', nm', acts', reads', ca', an'⟩ ⟨cl, nm, acts, reads, ca, an⟩ = true := by rw [SE.out, hA, hB, hC, hE, hF]; rfl
            all_goals
              have SV := Lib.hid se
              have HA2 := HSA.out
              have HR2 := HSR.out
              clear se
              try rw [hB] at HA2
              try rw [hC] at HR2
              have HA3 := Lib.hid HA2
              have HR3 := Lib.hid HR2
              clear HA2 HR2
              try clear hB
              try clear hC
              refine wp_region_ext (by kernel_rfl) (by kernel_rfl) ?_
              repeat (go_big_quiet_step (first
                | (with_reducible exact Calls.ext_of _ (HA3.out _))
                | (with_reducible exact Calls.ext_of _ (HR3.out _))))
              refine wpQuiet_nil ?_
              intro wc hw'
              have XC := Lib.hid (show Ext w2 wc by obtain ⟨p, rfl⟩ := hw'; exact Ext.trans XS.out p.ext)
              clear hw'
              go_wp2_with fail
              refine ⟨?_, by simp [intOf]; omega⟩
              obtain ⟨q', b2, h1, h2, h3, h4⟩ := FIN.out _ (by rw [SV.out])
              exact ⟨q', b2, h1, h2, h3, h4, XC.out⟩
        · obtain rfl : q = l.length := by omega
          have hb' : b = true := by
            rw [HB.out, List.take_of_length_le (Nat.le_refl _)]
            obtain ⟨y, hy, e⟩ := AL.out
            exact List.any_eq_true.2 ⟨y, hy, by rw [e]; exact sameS_self _⟩
          subst hb'
          go_wp2_with fail
          go_roundw
          case rel => exact ⟨k + 1, by omega, by go_num, XS.out⟩
          case measure => simp [intOf]; omega
    · obtain rfl : k = m.length := by omega
      go_wp2_with fail
      go_ret
      exact ⟨rfl, Ext.trans X2.out K2.out⟩
end Go.Proofs.YtngahblgicjoiaaGreatDoor
