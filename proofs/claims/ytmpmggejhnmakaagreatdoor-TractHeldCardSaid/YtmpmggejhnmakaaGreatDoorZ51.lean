/- TractHeld: while a key is held, its row does not change but by its holder's Finish, and no other one holds it. -/
import Derived.Test.YtmpmggejhnmakaaGreatDoorZ43
import Derived.Test.YtmpmggejhnmakaaGreatDoorZ44
import Derived.Test.YtmpmggejhnmakaaGreatDoorZ30
import Derived.Test.YtmpmggejhnmakaaGreatDoorZ50
import Derived.Test.YtmpmggejhnmakaaGreatDoorZ23
import Derived.Test.YtmpmggejhnmakaaGreatDoorZ25
namespace Go.Proofs.YtmpmggejhnmakaaGreatDoor
open Go.RowKit
theorem TrIs.good {w : World} {k : TrK} {d : TrD} (T : TrIs w k d) (h : Roomy d.rows d.holds) : GoodR d.rows d.holds := ⟨T.rt.rise, T.ht.rise, T.rt.ok, fun x hx => (T.ht.ok x hx).2, h⟩
structure HeldI (w w9 W : World) (tb b6 : Nat) (j : Nat) (k : TrK) (d : TrD) : Prop where
 is : TrIs W k d
 tb : k.tb = tb
 room : Roomy d.rows d.holds
 few : d.parts.length ≤ 1 + 2 * j
 own : ∀ b, k.owns b → w.heap.size ≤ b ∧ b ≠ b6
 but : But (fun b => w.heap.size ≤ b ∧ b ≠ b6) w9 W
theorem HeldI.ext {w w9 W W' : World} {tb b6 j : Nat} {k : TrK} {d : TrD} (h : HeldI w w9 W tb b6 j k d) (hx : Ext W W') : HeldI w w9 W' tb b6 j k d :=
 ⟨h.is.ext hx, h.tb, h.room, h.few, h.own, h.but.trans (Ext.but hx (fun _ => False)) (fun _ _ e => e) (fun _ _ e => e.elim)⟩
structure DeedZ.wf (z : DeedZ) : Prop where
 fit : z.fit
 ok : ∀ a ∈ z.acts, a.ok
 cl : -9223372036854775808 ≤ z.cl ∧ z.cl ≤ 9223372036854775807
structure Seen (W0 W : World) (rl : List RowD) (hl : List HoldD) (ro : Option Addr) (rc : Nat) (ho : Option Addr) (hc : Nat) (L : List HoldV) : Prop where
 rows : W.ownsRow 0 52 2 (.slice ro rl.length rc) rl.length (rl.flatMap encRw)
 rnew : ∀ j, (Value.slice ro rl.length rc).ownBlock = some j → W0.heap.size ≤ j
 holds : W.ownsRow 0 48 7 (.slice ho L.length hc) L.length (L.flatMap encHV)
 hnew : ∀ j, (Value.slice ho L.length hc).ownBlock = some j → W0.heap.size ≤ j
 are : HoldsAre W (fun b => b < W0.heap.size) L hl
theorem Seen.but {W0 W W' : World} {rl : List RowD} {hl : List HoldD} {ro : Option Addr} {rc : Nat} {ho : Option Addr} {hc : Nat} {L : List HoldV} {S : Nat → Prop} (h : Seen W0 W rl hl ro rc ho hc L) (hx : But S W W') (hS : ∀ b, S b → b < W0.heap.size) : Seen W0 W' rl hl ro rc ho hc L :=
 ⟨own_but h.rows hx (fun j e e2 => by have := h.rnew j e; have := hS j e2; omega), h.rnew, own_but h.holds hx (fun j e e2 => by have := h.hnew j e; have := hS j e2; omega), h.hnew, h.are.but hx (fun b _ e => hS b e)⟩
theorem Seen.ext {W0 W W' : World} {rl : List RowD} {hl : List HoldD} {ro : Option Addr} {rc : Nat} {ho : Option Addr} {hc : Nat} {L : List HoldV} (h : Seen W0 W rl hl ro rc ho hc L) (hx : Ext W W') : Seen W0 W' rl hl ro rc ho hc L := h.but (Ext.but hx (fun _ => False)) (fun _ e => e.elim)
theorem Seen.rrows {W0 W : World} {rl : List RowD} {hl : List HoldD} {ro : Option Addr} {rc : Nat} {ho : Option Addr} {hc : Nat} {L : List HoldV} (h : Seen W0 W rl hl ro rc ho hc L) : Rows 2 encRw W.heap.size W ro rl := by
 obtain ⟨_, _, hv, _, _, hr⟩ := Rows.own (enc := encRw) (sz := 2) (fun _ => rfl) h.rows
 simp only [Value.slice.injEq, true_and] at hv
 obtain ⟨rfl, rfl⟩ := hv
 exact hr
theorem Seen.hrows {W0 W : World} {rl : List RowD} {hl : List HoldD} {ro : Option Addr} {rc : Nat} {ho : Option Addr} {hc : Nat} {L : List HoldV} (h : Seen W0 W rl hl ro rc ho hc L) : Rows 7 encHV W.heap.size W ho L := by
 obtain ⟨_, _, hv, _, _, hr⟩ := Rows.own (enc := encHV) (sz := 7) (fun _ => rfl) h.holds
 simp only [Value.slice.injEq, true_and] at hv
 obtain ⟨rfl, rfl⟩ := hv
 exact hr
def mineB (p : Int) (z : DeedZ) : List HoldD → Bool
 | [h] => (p == 2) && (h.cl == z.cl && h.nm == z.nm)
 | _ => false
theorem nrows_low {α : Type} {sz : Nat} {enc : α → List Value} {no : Nat → Prop} {B : Nat} {w : World} {ao : Option Addr} {l : List α} (h : Rows sz enc B w ao l) (hB : B ≤ w.heap.size) (hno : ∀ b, b < B → ¬ no b) : NRows sz enc no w ao l := fun hne =>
 let ⟨b, off, e, hb, hc⟩ := h hne
 ⟨b, off, e, Nat.lt_of_lt_of_le hb hB, hno b hb, hc⟩
theorem rowsKey_calls (k : TrK) (d : TrD) (key hi : ByteArray) (w : World) (T : TrIs w k d) (hhi : hi.data.toList = key.data.toList ++ [48]) (hs : spanB key.data.toList hi.data.toList = true) (hl : key.size ≤ 140737488351232) (hh : hi.size ≤ 140737488351232) :
 Calls Tryz.prog 13 #[.pointer (some ⟨k.tb, 0, none⟩), .agg #[.string key, .string hi]] w fun e w' => ∃ ro rc, e = .returned (.slice ro (mineR key.data.toList d.rows).length rc) ∧ w'.ownsRow 0 52 2 (.slice ro (mineR key.data.toList d.rows).length rc) (mineR key.data.toList d.rows).length ((mineR key.data.toList d.rows).flatMap encRw) ∧ (∀ j, (Value.slice ro (mineR key.data.toList d.rows).length rc).ownBlock = some j → w.heap.size ≤ j) ∧ Ext w w' := by
 refine (trRows_calls k d key hi w T hl hh).mono ?_
 rintro e w' ⟨r, rfl, h1, h2, h3⟩
 have hin : inR key.data.toList hi.data.toList d.rows = mineR key.data.toList d.rows := by
  rw [hhi] at hs ⊢
  exact inR_key T.rt.rise hs T.rt.ok
 rw [hin] at h1
 obtain ⟨ro, rc, rfl⟩ := own_slice h1
 exact ⟨ro, rc, rfl, h1, h2, h3⟩
theorem holdsKey_calls (k : TrK) (d : TrD) (key hi : ByteArray) (w : World) (T : TrIs w k d) (hhi : hi.data.toList = key.data.toList ++ [48]) (hs : spanB key.data.toList hi.data.toList = true) (hl : key.size ≤ 140737488351232) (hh : hi.size ≤ 140737488351232) :
 Calls Tryz.prog 14 #[.pointer (some ⟨k.tb, 0, none⟩), .agg #[.string key, .string hi]] w fun e w' => ∃ (ho : Option Addr) (hc : Nat) (L : List HoldV), e = .returned (.slice ho L.length hc) ∧ w'.ownsRow 0 48 7 (.slice ho L.length hc) L.length (L.flatMap encHV) ∧ (∀ j, (Value.slice ho L.length hc).ownBlock = some j → w.heap.size ≤ j) ∧ HoldsAre w' (fun b => b < w.heap.size) L (mineH key.data.toList d.holds) ∧ Ext w w' := by
 refine (trHolds_calls k d key hi w T hl hh).mono ?_
 rintro e w' ⟨r, L, rfl, _, h1, h2, h3, _, h4⟩
 rw [inD_key hhi hs (fun x hx => hold_key (T.ht.ok x hx).2)] at h3
 obtain ⟨ro, rc, rfl⟩ := own_slice h1
 exact ⟨ro, rc, L, rfl, h1, h2, h3.mono (fun b _ e => .inr e), h4⟩
set_option maxRecDepth 100000 in
set_option maxHeartbeats 12800000 in
theorem tractHeld_calls {B : Nat} (l : List DeedZ) (lo : Option Addr) (cap : Nat) (key : ByteArray) (w : World) (hv : LV B w) (hB : B ≤ w.heap.size) (hl : l.length ≤ 9223372036854775807) (hr : Rows 10 encDeed w.heap.size w lo l) (ha : ∀ z ∈ l, Rows 4 encAct w.heap.size w z.ao z.acts) (hf : ∀ z ∈ l, z.wf) (hk : key.size ≤ 140737488351232) :
 Calls Tryz.prog 3 #[.slice lo l.length cap, .string key] w fun e w' => e = .returned (.bool true) ∧ Ext w w' := by
 have HV := Lib.hid hv; have HR := Lib.hid hr; have HA := Lib.hid ha; have HF := Lib.hid hf
 have AW := Lib.hid (awake_calls w hv hB)
 have GR := Lib.hid (fun W (hW : Ext w W) => great_calls l lo cap W hl ((hr.ext hW).mono hW.size) (fun z hz => ((ha z hz).ext hW).mono hW.size) (fun z hz => (hf z hz).fit))
 clear hv hr ha hf
 go_enter Tryz.func3, Tryz.ntmps3
 go_wp2_with fail
 refine AW.out.mono ?_
 rintro e w1 ⟨rfl, hx1⟩
 have X1 : Hid (Ext w w1) := Lib.hid hx1
 have hk2 : key.size ≤ 140737488351232 := by omega
 clear hx1 AW
 cases hg : greatD l with
 | true =>
   rw [hg] at GR
   clear hg
   go_wp2_with fail
   refine (GR.out _ X1.out).mono ?_
   rintro e w2 ⟨rfl, hx2⟩
   have X2 := Lib.hid (Ext.trans X1.out hx2)
   clear hx2
   go_wp2_with fail
   go_ret
   exact ⟨rfl, X2.out⟩
 | false =>
   rw [hg] at GR
   have NG := Lib.hid (great_no hg)
   clear hg
   by_cases h60 : 60 < key.size
   · have g60 : (60 : Int) < (key.size : Int) := by omega
     clear h60
     go_wp2_with fail
     refine (GR.out _ X1.out).mono ?_
     rintro e w2 ⟨rfl, hx2⟩
     have X2 := Lib.hid (Ext.trans X1.out hx2)
     clear hx2
     go_wp2_with fail
     go_ret
     exact ⟨rfl, X2.out⟩
   · have g60 : ¬ (60 : Int) < (key.size : Int) := by omega
     clear h60
     go_wp2_with fail
     refine (GR.out _ X1.out).mono ?_
     rintro e w2 ⟨rfl, hx2⟩
     have X2 := Lib.hid (Ext.trans X1.out hx2)
     have WH := Lib.hid (whole_calls w2)
     clear hx2 GR X1
     go_wp2_with fail
     refine WH.out.mono ?_
     rintro e w3 ⟨cs, rfl, rfl, hb3, hx3⟩
     have NW := Lib.hid (newWhole_calls w2.heap.size 1 w3 hb3)
     have X3 := Lib.hid (Ext.trans X2.out hx3)
     clear hb3 hx3 WH X2
     go_wp2_with fail
     refine NW.out.mono ?_
     rintro e w4 ⟨k0, rfl, hT, ⟨o1, o2, o3, o4, o5⟩, ⟨o6, o7⟩, hx4⟩
     have X4 := Lib.hid (Ext.trans X3.out hx4); have T4 := Lib.hid hT
     have OWN : Hid (∀ b, k0.owns b → w.heap.size ≤ b) := Lib.hid (fun b h => by
      have := X3.out.size
      rcases h with e | e | e | e | e | e | e
      · omega
      · omega
      · omega
      · omega
      · rw [o6] at e; simp [Value.ownBlock] at e
      · rw [o7] at e; simp [Value.ownBlock] at e
      · have := o5 b e; omega)
     clear o1 o2 o3 o4 o5 o6 o7 hT hx4 NW X3
     obtain ⟨tb, htb⟩ : ∃ tb, tb = k0.tb := ⟨_, rfl⟩
     rw [← htb]
     have TB := Lib.hid htb
     clear htb
     go_upto_region 7 with fail
     obtain ⟨hi, hhi⟩ : ∃ hi, hi = key ++ (⟨#[48]⟩ : ByteArray) := ⟨_, rfl⟩
     have hlist : hi.data.toList = key.data.toList ++ [48] := by rw [hhi]; simp [ByteArray.data_append]
     have hh2 : hi.size ≤ 140737488351232 := by rw [hhi, ByteArray.size_append]; show _ + 1 ≤ _; omega
     obtain ⟨w9, hw9⟩ : ∃ w9, w9 = w4.alloc (.cells #[.string key, .string hi] 30) := ⟨_, rfl⟩
     obtain ⟨b6, hb6⟩ : ∃ b6, b6 = w4.heap.size := ⟨_, rfl⟩
     have X49 : Hid (Ext w4 w9) := Lib.hid (by rw [hw9]; exact (Below.refl _ w4).alloc (Nat.le_refl _) _)
     have B6 : Hid (Blk w9 b6 [.string key, .string hi] 30) := Lib.hid (by rw [hw9, hb6]; exact Blk.new _ _ _)
     have OWN6 : Hid (∀ b, k0.owns b → w.heap.size ≤ b ∧ b ≠ b6) := Lib.hid (fun b h => ⟨OWN.out b h, fun e => by have := T4.out.owns_lt b h; omega⟩)
     have HLI := Lib.hid hlist
     rw [← hhi, ← hw9, ← hb6]
     clear hhi hw9 hb6 hlist OWN g60
     have s60 := B6.out.cell 0; have s61 := B6.out.cell 1
     simp only [List.getElem?_cons_zero, List.getElem?_cons_succ] at s60 s61
     have HKY := Lib.hid (fun W => key_calls key W hk2)
     have HSP := Lib.hid (fun W => spanRight_calls key hi W hk2 hh2)
     cases hkk : keyL key.data.toList with
     | false =>
       rw [hkk] at HKY
       clear hkk
       go_wp2_with fail
       refine (HKY.out _).mono ?_
       rintro e w' ⟨rfl, rfl⟩
       go_wp2_with fail
       go_ret
       exact ⟨rfl, Ext.trans X4.out X49.out⟩
     | true =>
       rw [hkk] at HKY
       clear hkk
       cases hsp : spanB key.data.toList hi.data.toList with
       | false =>
         rw [hsp] at HSP
         clear hsp
         go_wp2_with fail
         refine (HKY.out _).mono ?_
         rintro e w' ⟨rfl, rfl⟩
         go_wp2_with fail
         refine (HSP.out _).mono ?_
         rintro e wf ⟨rfl, hxf⟩
         have XF := Lib.hid hxf
         clear hxf
         go_wp2_with fail
         go_ret
         exact ⟨rfl, Ext.trans X4.out (Ext.trans X49.out XF.out)⟩
       | true =>
         rw [hsp] at HSP
         have HSB := Lib.hid hsp
         clear hsp
         go_wp2_with fail
         refine (HKY.out _).mono ?_
         rintro e w' ⟨rfl, rfl⟩
         go_wp2_with fail
         refine (HSP.out _).mono ?_
         rintro e w10 ⟨rfl, hxf⟩
         have XT := Lib.hid (Ext.trans X49.out hxf); have X10 := Lib.hid (Ext.trans X4.out (Ext.trans X49.out hxf)); have B10 := Lib.hid (B6.out.ext' hxf)
         clear hxf s60 s61 HKY HSP B6 X49
         go_wp2_with fail
         go_loopw [7] (fun i W => ∃ (j : Nat) (k : TrK) (d : TrD), j ≤ l.length ∧ i = .int .i64 j ∧ HeldI w w10 W tb b6 j k d) (fun i _ => l.length - (intOf i).toNat)
         case atStart => exact ⟨0, k0, _, by omega, rfl, T4.out.ext XT.out, TB.out.symm, by simp [Roomy, newsD], by simp, OWN6.out, But.refl _ _⟩
         case round =>
          obtain ⟨j, k, d, hj, rfl, hI⟩ := hrel
          have HI := Lib.hid hI
          have htb := hI.tb
          clear hI TB OWN6 T4
          subst htb
          by_cases hlt : j < l.length
          · obtain ⟨z, hz⟩ : ∃ z, l[j]? = some z := ⟨_, List.getElem?_eq_getElem hlt⟩
            have XW : Hid (Ext w wr) := Lib.hid (((Ext.but X10.out (fun _ => False)).trans HI.out.but (U := fun b => w.heap.size ≤ b) (fun _ _ e => e.elim) (fun _ _ e => e.1)).ext (fun j hj e => by omega))
            obtain ⟨b, off, hlo, hb, hcell⟩ := HR.out (by intro e; rw [e] at hlt; simp at hlt)
            subst hlo
            have hcx := hcell j z hz
            have hzm := List.mem_of_getElem? hz
            have d0 := (XW.out.cell (p := ⟨b, _, none⟩) hb).trans (hcx 0 _ rfl)
            rw [Nat.add_zero] at d0
            have HCX := Lib.hid hcx; have HZM := Lib.hid hzm; have HBB := Lib.hid hb
            have ii0 : (0 : Int) ≤ (j : Int) := by omega
            have ii1 : (j : Int) < (l.length : Int) := by omega
            have PK := Lib.hid (pickN_calls z.kind 9 wr rfl)
            obtain ⟨p, hp⟩ : ∃ p, p = pickD z.kind := ⟨_, rfl⟩
            rw [← hp] at PK
            have HP := Lib.hid hp
            clear hp hcell hcx hz hzm hb
            by_cases h4 : p ≤ 4
            · have p4 : ¬ (4 : Int) < p := by omega
              go_upto_region 12 with fail
              go_wp2_with fail
              refine PK.out.mono ?_
              rintro e w' ⟨rfl, rfl⟩
              go_upto_region 14 with fail
              obtain ⟨rl, hrl⟩ : ∃ x, x = mineR key.data.toList d.rows := ⟨_, rfl⟩
              obtain ⟨hs, hhs⟩ : ∃ x, x = mineH key.data.toList d.holds := ⟨_, rfl⟩
              have ROWS := Lib.hid (fun W (hW : Ext wr W) => rowsKey_calls k d key hi W (HI.out.is.ext hW) HLI.out HSB.out hk2 hh2)
              have HOLDS := Lib.hid (fun W (hW : Ext wr W) => holdsKey_calls k d key hi W (HI.out.is.ext hW) HLI.out HSB.out hk2 hh2)
              rw [← hrl] at ROWS; rw [← hhs] at HOLDS
              have RL := Lib.hid hrl; have HL := Lib.hid hhs
              have s60 := (B10.out.but HI.out.but (fun e => e.2 rfl)).cell 0; have s61 := (B10.out.but HI.out.but (fun e => e.2 rfl)).cell 1
              simp only [List.getElem?_cons_zero, List.getElem?_cons_succ] at s60 s61
              replace s60 := ExtBy.cell s60; replace s61 := ExtBy.cell s61
              clear hrl hhs
              go_cut [9, 10] from 52 to 57 (fun r h W => ∃ (ro : Option Addr) (rc : Nat) (ho : Option Addr) (hc : Nat) (L : List HoldV), r = .slice ro rl.length rc ∧ h = .slice ho L.length hc ∧ Hid (Seen wr W rl hs ro rc ho hc L) ∧ Hid (Ext wr W))
              case first =>
               refine wp_region_firstC (fun W => ∃ p : ExtBy wr, W = p.W) [0, 1, 3, 4] 4 (by kernel_rfl) (by kernel_rfl) (fun _ _ _ _ h => h) ⟨⟨wr.drew, (Below.refl _ wr).drew⟩, rfl⟩ ?_
               simp only [opsAt, List.getElem?_toArray, List.getElem?_cons_succ, List.getElem?_cons_zero]
               repeat (go_big_quiet_step (fail))
               refine wpQuiet_nil ?_
               obtain ⟨wq, hwq⟩ : ∃ wq, wq = wr.drew := ⟨_, rfl⟩
               have XQ : Hid (Ext wr wq) := Lib.hid (by rw [hwq]; exact (Below.refl _ wr).drew)
               rw [← hwq]
               clear hwq s60 s61
               refine wpAnyH_ready (rs := [2]) (by kernel_rfl) (by simp) ?_
               refine AllReadyH.cons rfl (fun K hK => ?_) AllReadyH.nil
               go_simp
               refine (ROWS.out _ XQ.out).mono ?_
               rintro e wu ⟨ro, rc, rfl, h1, h2, hxu⟩
               have XU := Lib.hid (Ext.trans XQ.out hxu); have RO := Lib.hid h1; have RNW : Hid (∀ j, (Value.slice ro rl.length rc).ownBlock = some j → wr.heap.size ≤ j) := Lib.hid (fun j e => Nat.le_trans XQ.out.size (h2 j e))
               refine hK.out _ _ ⟨⟨_, XU.out⟩, rfl⟩ (fun _ => ?_)
               clear hK K hxu h1 h2
               refine wpAnyH_ready (rs := [5]) (by kernel_rfl) (by simp) ?_
               refine AllReadyH.cons rfl (fun K hK => ?_) AllReadyH.nil
               go_simp
               refine (HOLDS.out _ XU.out).mono ?_
               rintro e wv ⟨ho, hc, L, rfl, h3, h4', h5, hxv⟩
               have XV := Lib.hid (Ext.trans XU.out hxv)
               have SE : Hid (Seen wr wv rl hs ro rc ho hc L) := Lib.hid ⟨own_ext RO.out hxv, RNW.out, h3, fun j e => Nat.le_trans XU.out.size (h4' j e), h5.mono (fun b _ e => Nat.lt_of_lt_of_le e XU.out.size)⟩
               refine hK.out _ _ ⟨⟨_, XV.out⟩, rfl⟩ (fun _ => ?_)
               clear hK K hxv h3 h4' h5
               refine wp_takesC (f := 0) [6, 7] (by kernel_rfl) (fun _ _ _ _ h => h) ⟨⟨_, XV.out⟩, rfl⟩ ?_
               simp only [opsAt, List.getElem?_toArray, List.getElem?_cons_succ, List.getElem?_cons_zero]
               repeat (go_big_quiet_step (fail))
               refine wpQuiet_nil ?_
               refine wpAnyH_done (by kernel_rfl) ?_ _
               go_wp2_with fail
               go_meet
               exact ⟨ro, rc, ho, hc, L, rfl, rfl, SE, XV⟩
              case rest =>
               obtain ⟨ro, rc, ho, hc, L, rfl, rfl, SE, XA⟩ := hcut
               obtain ⟨wa, rfl⟩ : ∃ w, w = wc := ⟨_, rfl⟩
               clear ROWS HOLDS s60 s61
               have XWA := Lib.hid (Ext.trans XW.out XA.out)
               have q0 := (XWA.out.cell (p := ⟨b, _, none⟩) HBB.out).trans (HCX.out 0 _ rfl)
               have q1 := (XWA.out.cell (p := ⟨b, _, none⟩) HBB.out).trans (HCX.out 1 _ rfl)
               have q2 := (XWA.out.cell (p := ⟨b, _, none⟩) HBB.out).trans (HCX.out 2 _ rfl)
               have q3 := (XWA.out.cell (p := ⟨b, _, none⟩) HBB.out).trans (HCX.out 3 _ rfl)
               have q4 := (XWA.out.cell (p := ⟨b, _, none⟩) HBB.out).trans (HCX.out 4 _ rfl)
               have q5 := (XWA.out.cell (p := ⟨b, _, none⟩) HBB.out).trans (HCX.out 5 _ rfl)
               have q6 := (XWA.out.cell (p := ⟨b, _, none⟩) HBB.out).trans (HCX.out 6 _ rfl)
               have q7 := (XWA.out.cell (p := ⟨b, _, none⟩) HBB.out).trans (HCX.out 7 _ rfl)
               have q8 := (XWA.out.cell (p := ⟨b, _, none⟩) HBB.out).trans (HCX.out 8 _ rfl)
               have q9 := (XWA.out.cell (p := ⟨b, _, none⟩) HBB.out).trans (HCX.out 9 _ rfl)
               rw [Nat.add_zero] at q0
               have DOES : Hid (Calls Tryz.prog 15 #[.pointer (some ⟨k.tb, 0, none⟩), .agg #[.int .i64 z.kind, .int .i64 z.cl, .int .i64 z.nm, .int .i64 z.ep, .slice z.ao z.acts.length z.ac, .bool z.commit, .int .i64 z.scheme, .string z.lo, .string z.hi, .slice z.bo z.bytes.length z.bc]] wa fun e w' => e = .returned (.int .i64 (doesD z d).1) ∧ TrTo k (doesD z d).2 wa w') := Lib.hid (by
                have hng := NG.out.2 z HZM.out; have hwz := HF.out z HZM.out; have hnl := NG.out.1; have hfw := HI.out.few
                have han := actsN_le z.acts 0 hng.1
                refine does_calls k d z wa (HV.out.ext XWA.out) (Nat.le_trans hB XWA.out.size) (HI.out.is.ext XA.out) ((nrows_low (HA.out z HZM.out) (Nat.le_refl _) (fun b hb e => by have := (HI.out.own b e).1; omega)).ext XWA.out) (by omega) hwz.ok (fun a ha => (hwz.ok a ha).2.2.1) hwz.cl (by omega) (by omega) (by omega) (by rw [← HP.out]; exact h4))
               have LAW := Lib.hid (held_law key.data.toList z d (HI.out.is.good HI.out.room))
               obtain ⟨E, hE⟩ : ∃ E, E = (doesD z d).1 := ⟨_, rfl⟩
               obtain ⟨d2, hd2⟩ : ∃ E, E = (doesD z d).2 := ⟨_, rfl⟩
               rw [← hE, ← hd2] at DOES LAW
               clear hE hd2
               go_wp2_with fail
               refine DOES.out.mono ?_
               rintro e w2' ⟨rfl, k2, t2, e1, e2, e3, e4, o2, x2⟩
               have hb6 : b6 < wa.heap.size := Nat.lt_of_lt_of_le (B10.out.but HI.out.but (fun e => e.2 rfl)).lt XA.out.size
               have HI2 : Hid (HeldI w w10 w2' k.tb b6 (j + 1) k2 d2) := Lib.hid ⟨t2, e1, LAW.out.room, by have := LAW.out.few; have := HI.out.few; omega, fun b hb => by
                rcases o2 b hb with h | h
                · exact HI.out.own b h
                · exact ⟨Nat.le_trans XWA.out.size h, by omega⟩, HI.out.but.trans ((Ext.but XA.out (fun _ => False)).trans x2 (U := fun b => w.heap.size ≤ b ∧ b ≠ b6) (fun _ _ e => e.elim) (fun b _ e => HI.out.own b e)) (fun _ _ e => e) (fun _ _ e => e)⟩
               have SE2 := Lib.hid (SE.out.but x2 HI.out.is.owns_lt)
               have XW2 : Hid (Ext w w2') := Lib.hid (((Ext.but X10.out (fun _ => False)).trans HI2.out.but (U := fun b => w.heap.size ≤ b) (fun _ _ e => e.elim) (fun _ _ e => e.1)).ext (fun j hj e => by omega))
               have E1 := Lib.hid e1
               clear q0 q1 q2 q3 q4 q5 q6 q7 q8 q9 DOES t2 e1 e2 e3 e4 o2 x2 hb6 d0
               go_upto_region 16 with fail
               obtain ⟨rl2, hrl2⟩ : ∃ x, x = mineR key.data.toList d2.rows := ⟨_, rfl⟩
               obtain ⟨hs2, hhs2⟩ : ∃ x, x = mineH key.data.toList d2.holds := ⟨_, rfl⟩
               have ROWS := Lib.hid (fun W (hW : Ext w2' W) => rowsKey_calls k2 d2 key hi W (HI2.out.is.ext hW) HLI.out HSB.out hk2 hh2)
               have HOLDS := Lib.hid (fun W (hW : Ext w2' W) => holdsKey_calls k2 d2 key hi W (HI2.out.is.ext hW) HLI.out HSB.out hk2 hh2)
               rw [← hrl2] at ROWS; rw [← hhs2] at HOLDS
               rw [E1.out] at ROWS HOLDS
               have RL2 := Lib.hid hrl2; have HL2 := Lib.hid hhs2
               have s60 := (B10.out.but HI2.out.but (fun e => e.2 rfl)).cell 0; have s61 := (B10.out.but HI2.out.but (fun e => e.2 rfl)).cell 1
               simp only [List.getElem?_cons_zero, List.getElem?_cons_succ] at s60 s61
               replace s60 := ExtBy.cell s60; replace s61 := ExtBy.cell s61
               clear hrl2 hhs2
               go_cut [12, 13] from 64 to 69 (fun r h W => ∃ (ro : Option Addr) (rc : Nat) (ho : Option Addr) (hc : Nat) (L : List HoldV), r = .slice ro rl2.length rc ∧ h = .slice ho L.length hc ∧ Hid (Seen w2' W rl2 hs2 ro rc ho hc L) ∧ Hid (Ext w2' W))
               case first =>
                refine wp_region_firstC (fun W => ∃ p : ExtBy w2', W = p.W) [0, 1, 3, 4] 4 (by kernel_rfl) (by kernel_rfl) (fun _ _ _ _ h => h) ⟨⟨w2'.drew, (Below.refl _ w2').drew⟩, rfl⟩ ?_
                simp only [opsAt, List.getElem?_toArray, List.getElem?_cons_succ, List.getElem?_cons_zero]
                repeat (go_big_quiet_step (fail))
                refine wpQuiet_nil ?_
                obtain ⟨wq, hwq⟩ : ∃ wq, wq = w2'.drew := ⟨_, rfl⟩
                have XQ : Hid (Ext w2' wq) := Lib.hid (by rw [hwq]; exact (Below.refl _ w2').drew)
                rw [← hwq]
                clear hwq s60 s61
                refine wpAnyH_ready (rs := [2]) (by kernel_rfl) (by simp) ?_
                refine AllReadyH.cons rfl (fun K hK => ?_) AllReadyH.nil
                go_simp
                refine (ROWS.out _ XQ.out).mono ?_
                rintro e wu ⟨ro, rc, rfl, h1, h2, hxu⟩
                have XU := Lib.hid (Ext.trans XQ.out hxu); have RO := Lib.hid h1; have RNW : Hid (∀ j, (Value.slice ro rl2.length rc).ownBlock = some j → w2'.heap.size ≤ j) := Lib.hid (fun j e => Nat.le_trans XQ.out.size (h2 j e))
                refine hK.out _ _ ⟨⟨_, XU.out⟩, rfl⟩ (fun _ => ?_)
                clear hK K hxu h1 h2
                refine wpAnyH_ready (rs := [5]) (by kernel_rfl) (by simp) ?_
                refine AllReadyH.cons rfl (fun K hK => ?_) AllReadyH.nil
                go_simp
                refine (HOLDS.out _ XU.out).mono ?_
                rintro e wv ⟨ho, hc, L, rfl, h3, h4', h5, hxv⟩
                have XV := Lib.hid (Ext.trans XU.out hxv)
                have SE : Hid (Seen w2' wv rl2 hs2 ro rc ho hc L) := Lib.hid ⟨own_ext RO.out hxv, RNW.out, h3, fun j e => Nat.le_trans XU.out.size (h4' j e), h5.mono (fun b _ e => Nat.lt_of_lt_of_le e XU.out.size)⟩
                refine hK.out _ _ ⟨⟨_, XV.out⟩, rfl⟩ (fun _ => ?_)
                clear hK K hxv h3 h4' h5
                refine wp_takesC (f := 0) [6, 7] (by kernel_rfl) (fun _ _ _ _ h => h) ⟨⟨_, XV.out⟩, rfl⟩ ?_
                simp only [opsAt, List.getElem?_toArray, List.getElem?_cons_succ, List.getElem?_cons_zero]
                repeat (go_big_quiet_step (fail))
                refine wpQuiet_nil ?_
                refine wpAnyH_done (by kernel_rfl) ?_ _
                go_wp2_with fail
                go_meet
                exact ⟨ro, rc, ho, hc, L, rfl, rfl, SE, XV⟩
               case rest =>
                obtain ⟨ro2, rc2, ho2, hc2, L2, rfl, rfl, SE3, X23⟩ := hcut
                obtain ⟨w3, rfl⟩ : ∃ w, w = wc := ⟨_, rfl⟩
                clear ROWS HOLDS s60 s61
                have SEx := Lib.hid (SE2.out.ext X23.out); have XW3 := Lib.hid (Ext.trans XW2.out X23.out); have HI3 := Lib.hid (HI2.out.ext X23.out)
                clear SE SE2 HI2 XW2 XWA
                have G1 : Hid (hs.length ≤ 1) := Lib.hid (by rw [HL.out]; exact mineH_one HI.out.is.ht.rise)
                have G2 : Hid (rl.length ≤ 1) := Lib.hid (by rw [RL.out]; exact mineR_one HI.out.is.rt.rise)
                have LW : Hid ((E ≠ 0 → E ≠ 23 → rl2 = rl ∧ hs2 = hs) ∧ (¬ (∃ h, hs = [h] ∧ p = 2 ∧ h.cl = z.cl ∧ h.nm = z.nm) → rl2 = rl ∧ (hs ≠ [] → hs2 = hs)) ∧ (∀ h, hs = [h] → p = 2 → h.cl = z.cl → h.nm = z.nm → hs2 = [] → z.commit = true → h.put = true → rl2 = [⟨h.key, h.value⟩])) := Lib.hid (by
                 rw [RL.out, HL.out, RL2.out, HL2.out, HP.out]; exact ⟨LAW.out.same, LAW.out.other, LAW.out.mine⟩)
                have g1 : L.length ≤ 1 := by rw [SEx.out.are.len]; exact G1.out
                have FITS : Hid (∀ x ∈ hs, x.fits) := Lib.hid (by rw [HL.out]; intro x hx; exact (HI.out.is.ht.ok x (List.mem_filter.1 hx).1).1.fits)
                clear LAW RL HL RL2 HL2
                obtain ⟨MB, hMB⟩ : ∃ M : Bool, M = mineB p z hs := ⟨_, rfl⟩
                have KMB := Lib.hid hMB
                clear hMB
                have q1 := (XW3.out.cell (p := ⟨b, _, none⟩) HBB.out).trans (HCX.out 1 _ rfl); have q2 := (XW3.out.cell (p := ⟨b, _, none⟩) HBB.out).trans (HCX.out 2 _ rfl)
                replace q1 := ExtBy.cell q1; replace q2 := ExtBy.cell q2
                go_upto_region 17 with fail
                go_cut [14] from 70 to 88 (fun m W => m = .bool MB ∧ Hid (Ext w3 W))
                case first =>
                 cases hs with
                 | nil =>
                   have MV : Hid (MB = false) := Lib.hid KMB.out
                   have hL0 : L = [] := List.length_eq_zero_iff.1 (by rw [SEx.out.are.len]; rfl)
                   subst hL0
                   simp only [List.length_nil]
                   refine wp_region_ext (by kernel_rfl) (by kernel_rfl) ?_
                   repeat (go_big_quiet_step (fail))
                   refine wpQuiet_nil ?_
                   intro wd hw'
                   have XD : Hid (Ext w3 wd) := Lib.hid (by obtain ⟨p, rfl⟩ := hw'; exact p.ext)
                   clear hw'
                   go_wp2_with fail
                   go_meet
                   exact ⟨by rw [MV.out], XD⟩
                 | cons h hs' =>
                   obtain rfl : hs' = [] := by have := G1.out; cases hs' with | nil => rfl | cons _ _ => simp at this
                   obtain ⟨x, rfl⟩ : ∃ x, L = [x] := List.length_eq_one_iff.1 (by rw [SEx.out.are.len]; rfl)
                   have hxi := SEx.out.are.1
                   have hcl := hxi.cl; have hnm := hxi.nm; have hpu := hxi.put; have hva := hxi.value
                   obtain ⟨bh, oh, hho, hbh, hch⟩ := SEx.out.hrows (by simp)
                   subst hho
                   have c1 := hch 0 x rfl 1 _ rfl; have c2 := hch 0 x rfl 2 _ rfl
                   rw [hcl] at c1; rw [hnm] at c2
                   simp only [Nat.zero_mul, Nat.add_zero] at c1 c2
                   replace c1 := ExtBy.cell c1; replace c2 := ExtBy.cell c2
                   have KM2 : Hid (MB = ((p == 2) && (h.cl == z.cl && h.nm == z.nm))) := Lib.hid KMB.out
                   have heq := eql_Nm h.cl h.nm z.cl z.nm
                   have HP3 := Lib.hid hxi
                   clear hxi hcl hnm hpu hva hch
                   simp only [List.length_cons, List.length_nil, Nat.zero_add]
                   by_cases hp2 : p = 2
                   · subst hp2
                     refine wp_region_ext (by kernel_rfl) (by kernel_rfl) ?_
                     repeat (go_big_quiet_step (fail))
                     refine wpQuiet_nil ?_
                     intro wd hw'
                     have XD : Hid (Ext w3 wd) := Lib.hid (by obtain ⟨p, rfl⟩ := hw'; exact p.ext)
                     clear hw'
                     go_wp2_with fail
                     go_meet
                     exact ⟨by rw [KM2.out]; rfl, XD⟩
                   · have g2 : (p == 2) = false := by simpa using hp2
                     have MV : Hid (MB = false) := Lib.hid (by rw [KM2.out, g2]; rfl)
                     clear hp2
                     refine wp_region_ext (by kernel_rfl) (by kernel_rfl) ?_
                     repeat (go_big_quiet_step (fail))
                     refine wpQuiet_nil ?_
                     intro wd hw'
                     have XD : Hid (Ext w3 wd) := Lib.hid (by obtain ⟨p, rfl⟩ := hw'; exact p.ext)
                     clear hw'
                     go_wp2_with fail
                     go_meet
                     exact ⟨by rw [MV.out], XD⟩
                case rest =>
                 obtain ⟨rfl, hx4⟩ := hcut
                 obtain ⟨w4, rfl⟩ : ∃ w, w = wc := ⟨_, rfl⟩
                 clear q1 q2
                 have XW4 := Lib.hid (Ext.trans XW3.out hx4.out); have HI4 := Lib.hid (HI3.out.ext hx4.out); have SEa := Lib.hid (SEx.out.ext hx4.out); have SEb := Lib.hid (SE3.out.ext hx4.out)
                 clear hx4 SEx SE3 HI3 XW3
                 have SL : Hid (rl2 = rl → ∀ W, Ext w4 W → Calls Tryz.prog 16 #[.slice ro rl.length rc, .slice ro2 rl2.length rc2] W fun e w' => e = .returned (.bool true) ∧ Ext W w') := Lib.hid (fun he W hW => by
                  have h := sameLines_calls rl rl2 ro ro2 rc rc2 W (by have := G2.out; omega) ((SEa.out.rrows.ext hW).mono hW.size) ((SEb.out.rrows.ext hW).mono hW.size)
                  rw [show decide (rl = rl2) = true from by rw [he]; simp] at h
                  exact h)
                 have SH : Hid (hs2 = hs → ∀ W, Ext w4 W → Calls Tryz.prog 17 #[.slice ho L.length hc, .slice ho2 L2.length hc2] W fun e w' => e = .returned (.bool true) ∧ Ext W w') := Lib.hid (fun he W hW => by
                  subst he
                  exact sameHolds_calls L L2 hs2 _ _ ho ho2 hc hc2 W (by omega) ((SEa.out.hrows.ext hW).mono hW.size) ((SEb.out.hrows.ext hW).mono hW.size) (SEa.out.are.ext hW) (SEb.out.are.ext hW) FITS.out)
                 have l1 : ¬ (1 : Int) < (L.length : Int) := by omega
                 have l2 : ¬ (1 : Int) < (rl.length : Int) := by have := G2.out; omega
                 go_upto_region 18 with fail
                 go_cut [116] from 89 to 116 (fun c W => c = .bool false ∧ Hid (Ext w4 W))
                 case first =>
                  by_cases hE0 : E = 0
                  · subst hE0
                    go_wp2_with fail
                    go_meet
                    exact ⟨rfl, Lib.hid (Below.refl _ _)⟩
                  · by_cases hE1 : E = 23
                    · subst hE1
                      go_wp2_with fail
                      go_meet
                      exact ⟨rfl, Lib.hid (Below.refl _ _)⟩
                    · have SLx := Lib.hid (SL.out (LW.out.1 hE0 hE1).1); have SHx := Lib.hid (SH.out (LW.out.1 hE0 hE1).2)
                      go_wp2_with fail
                      refine (SLx.out _ (Below.refl _ _)).mono ?_
                      rintro e w5 ⟨rfl, hx5⟩
                      have X5 := Lib.hid hx5
                      clear hx5
                      go_wp2_with fail
                      refine (SHx.out _ X5.out).mono ?_
                      rintro e w6 ⟨rfl, hx6⟩
                      have X6 := Lib.hid (Ext.trans X5.out hx6)
                      clear hx6
                      go_wp2_with fail
                      go_meet
                      exact ⟨rfl, X6⟩
                 case rest =>
                  obtain ⟨rfl, hx5⟩ := hcut
                  obtain ⟨w5, rfl⟩ : ∃ w, w = wc := ⟨_, rfl⟩
                  have NM : Hid (MB = false → rl2 = rl ∧ (hs ≠ [] → hs2 = hs)) := Lib.hid (fun hm => LW.out.2.1 (fun ⟨h, h1, h2, h3, h4⟩ => by rw [KMB.out, h1] at hm; simp [mineB, h2, h3, h4] at hm))
                  clear l1 l2
                  go_upto_region 20 with fail
                  go_cut [135] from 117 to 135 (fun c W => c = .bool false ∧ Hid (Ext w4 W))
                  case first =>
                   cases MB with
                   | true =>
                     go_wp2_with fail
                     go_meet
                     exact ⟨rfl, hx5⟩
                   | false =>
                     have SLx := Lib.hid (SL.out (NM.out rfl).1)
                     by_cases hs0 : hs = []
                     · have hL0 : L = [] := List.length_eq_zero_iff.1 (by rw [SEa.out.are.len, hs0]; rfl)
                       subst hL0
                       simp only [List.length_nil]
                       go_wp2_with fail
                       refine (SLx.out _ hx5.out).mono ?_
                       rintro e w6 ⟨rfl, hx6⟩
                       have X6 := Lib.hid (Ext.trans hx5.out hx6)
                       clear hx6
                       go_wp2_with fail
                       go_meet
                       exact ⟨rfl, X6⟩
                     · have SHx := Lib.hid (SH.out ((NM.out rfl).2 hs0))
                       obtain ⟨x, rfl⟩ : ∃ x, L = [x] := List.length_eq_one_iff.1 (by have h1 := SEa.out.are.len; have h2 := List.length_pos_iff.2 hs0; omega)
                       simp only [List.length_cons, List.length_nil, Nat.zero_add] at SHx ⊢
                       go_wp2_with fail
                       refine (SLx.out _ hx5.out).mono ?_
                       rintro e w6 ⟨rfl, hx6⟩
                       have X6 := Lib.hid (Ext.trans hx5.out hx6)
                       clear hx6
                       go_wp2_with fail
                       refine (SHx.out _ X6.out).mono ?_
                       rintro e w7 ⟨rfl, hx7⟩
                       have X7 := Lib.hid (Ext.trans X6.out hx7)
                       clear hx7
                       go_wp2_with fail
                       go_meet
                       exact ⟨rfl, X7⟩
                  case rest =>
                   obtain ⟨rfl, hx6⟩ := hcut
                   obtain ⟨w6, rfl⟩ : ∃ w, w = wc := ⟨_, rfl⟩
                   have HI6 := Lib.hid (HI4.out.ext hx6.out); have SE6 := Lib.hid (SEa.out.ext hx6.out); have SF6 := Lib.hid (SEb.out.ext hx6.out); have XW6 := Lib.hid (Ext.trans XW4.out hx6.out)
                   clear SL SH NM HI4 SEa SEb XW4 hx5 hx6
                   have q5 := (XW6.out.cell (p := ⟨b, _, none⟩) HBB.out).trans (HCX.out 5 _ rfl)
                   replace q5 := ExtBy.cell q5
                   go_upto_region 22 with fail
                   go_cut [170] from 136 to 170 (fun c W => c = .bool false ∧ Hid (Ext w6 W))
                   case first =>
                    cases MB with
                    | false =>
                      refine wp_region_ext (by kernel_rfl) (by kernel_rfl) ?_
                      repeat (go_big_quiet_step (fail))
                      refine wpQuiet_nil ?_
                      intro wd hw'
                      have XD : Hid (Ext w6 wd) := Lib.hid (by obtain ⟨p, rfl⟩ := hw'; exact p.ext)
                      clear hw'
                      go_wp2_with fail
                      go_meet
                      exact ⟨rfl, XD⟩
                    | true =>
                      cases hs with
                      | nil => exact Bool.noConfusion (show true = false from KMB.out)
                      | cons h hs' =>
                        obtain rfl : hs' = [] := by have := G1.out; cases hs' with | nil => rfl | cons _ _ => simp at this
                        have KM2 : true = ((p == 2) && (h.cl == z.cl && h.nm == z.nm)) := KMB.out
                        simp only [Bool.and_eq_true, beq_iff_eq, Bool.true_eq] at KM2
                        obtain ⟨k1, k2', k3⟩ := KM2
                        have LM := Lib.hid (LW.out.2.2 h rfl k1 k2' k3)
                        clear k1 k2' k3
                        by_cases hL2 : L2 = []
                        · have hs20 : hs2 = [] := List.length_eq_zero_iff.1 (by rw [← SF6.out.are.len, hL2]; rfl)
                          have l0 : (((L2.length : Nat) : Int) == 0) = true := by rw [hL2]; rfl
                          rcases (show z.commit = false ∨ z.commit = true by cases z.commit; exact .inl rfl; exact .inr rfl) with hco | hco
                          · rw [hco] at q5
                            clear hL2 hs20 hco
                            refine wp_region_ext (by kernel_rfl) (by kernel_rfl) ?_
                            repeat (go_big_quiet_step (fail))
                            refine wpQuiet_nil ?_
                            intro wd hw'
                            have XD : Hid (Ext w6 wd) := Lib.hid (by obtain ⟨p, rfl⟩ := hw'; exact p.ext)
                            clear hw'
                            go_wp2_with fail
                            go_meet
                            exact ⟨rfl, XD⟩
                          · rw [hco] at q5
                            have HCO := Lib.hid hco
                            clear hco
                            obtain ⟨x, hLx⟩ : ∃ x, L = [x] := List.length_eq_one_iff.1 (by rw [SE6.out.are.len]; rfl)
                            have hx0 : L[0]? = some x := by rw [hLx]; rfl
                            obtain ⟨h', hh', hxi⟩ := SE6.out.are.at 0 x hx0
                            obtain rfl : h = h' := by simpa using hh'
                            have hpu := hxi.put; have hva := hxi.value
                            obtain ⟨bh, oh, hho, hbh, hch⟩ := SE6.out.hrows (by rw [hLx]; simp)
                            subst hho
                            have c5 := hch 0 x hx0 5 _ rfl; have c6 := hch 0 x hx0 6 _ rfl
                            rw [hpu] at c5; rw [hva] at c6
                            simp only [Nat.zero_mul, Nat.add_zero] at c5 c6
                            replace c5 := ExtBy.cell c5; replace c6 := ExtBy.cell c6
                            have n0 : (0 : Int) < (L.length : Int) := by rw [hLx]; simp
                            clear hxi hpu hva hch hLx hx0 hh'
                            cases hput : h.put with
                            | false =>
                              rw [hput] at c5
                              clear hL2 hs20
                              refine wp_region_ext (by kernel_rfl) (by kernel_rfl) ?_
                              repeat (go_big_quiet_step (fail))
                              refine wpQuiet_nil ?_
                              intro wd hw'
                              have XD : Hid (Ext w6 wd) := Lib.hid (by obtain ⟨p, rfl⟩ := hw'; exact p.ext)
                              clear hw'
                              go_wp2_with fail
                              go_meet
                              exact ⟨rfl, XD⟩
                            | true =>
                              rw [hput] at c5
                              have hr2 := LM.out hs20 HCO.out hput
                              have hr0 : rl2[0]? = some ⟨h.key, h.value⟩ := by rw [hr2]; rfl
                              obtain ⟨br, orr, hro, hbr, hcr⟩ := SF6.out.rrows (by rw [hr2]; simp)
                              subst hro
                              have c7 := hcr 0 _ hr0 1 _ rfl
                              simp only [Nat.zero_mul, Nat.add_zero] at c7
                              replace c7 := ExtBy.cell c7
                              have m0 : (0 : Int) < (rl2.length : Int) := by rw [hr2]; simp
                              have m1 : (((rl2.length : Nat) : Int) != 1) = false := by rw [hr2]; rfl
                              clear hcr hput hr2 hr0 hs20 hL2
                              refine wp_region_ext (by kernel_rfl) (by kernel_rfl) ?_
                              repeat (go_big_quiet_step (fail))
                              refine wpQuiet_nil ?_
                              intro wd hw'
                              have XD : Hid (Ext w6 wd) := Lib.hid (by obtain ⟨p, rfl⟩ := hw'; exact p.ext)
                              clear hw'
                              go_wp2_with fail
                              go_meet
                              exact ⟨rfl, XD⟩
                        · have l0 : (((L2.length : Nat) : Int) == 0) = false := by have := List.length_pos_iff.2 hL2; simp; omega
                          refine wp_region_ext (by kernel_rfl) (by kernel_rfl) ?_
                          repeat (go_big_quiet_step (fail))
                          refine wpQuiet_nil ?_
                          intro wd hw'
                          have XD : Hid (Ext w6 wd) := Lib.hid (by obtain ⟨p, rfl⟩ := hw'; exact p.ext)
                          clear hw'
                          go_wp2_with fail
                          go_meet
                          exact ⟨rfl, XD⟩
                   case rest =>
                    obtain ⟨rfl, hx7⟩ := hcut
                    obtain ⟨w7, rfl⟩ : ∃ w, w = wc := ⟨_, rfl⟩
                    have HI7 := Lib.hid (HI6.out.ext hx7.out)
                    clear q5 hx7
                    go_wp2_with fail
                    go_roundw
                    case rel => exact ⟨j + 1, k2, d2, by omega, by go_num, HI7.out⟩
                    case measure => simp [intOf]; omega
            · have p4 : (4 : Int) < p := by omega
              clear h4
              go_upto_region 12 with fail
              go_wp2_with fail
              refine PK.out.mono ?_
              rintro e w' ⟨rfl, rfl⟩
              go_wp2_with fail
              go_roundw
              case rel => exact ⟨j + 1, k, d, by omega, by go_num, HI.out.is, rfl, HI.out.room, by have := HI.out.few; omega, HI.out.own, HI.out.but⟩
              case measure => simp [intOf]; omega
          · have h1 : ¬ (j : Int) < (l.length : Int) := by omega
            have XW : Hid (Ext w wr) := Lib.hid (((Ext.but X10.out (fun _ => False)).trans HI.out.but (U := fun b => w.heap.size ≤ b) (fun _ _ e => e.elim) (fun _ _ e => e.1)).ext (fun j hj e => by omega))
            clear hlt
            go_wp2_with fail
            go_ret
            exact ⟨rfl, XW.out⟩
end Go.Proofs.YtmpmggejhnmakaaGreatDoor
