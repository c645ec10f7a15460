/- tract: awake, walked through. -/
import Derived.Test.YtmpmggejhnmakaaGreatDoorZ49
import Derived.Test.YtmpmggejhnmakaaGreatDoorZ30
namespace Go.Proofs.YtmpmggejhnmakaaGreatDoor
open Go.RowKit
theorem TrIs.owns_lt {w : World} {k : TrK} {d : TrD} (T : TrIs w k d) : ∀ b, k.owns b → b < w.heap.size := fun b h => by
 rcases h with e | e | e | e | e | e | e
 · rw [e]; exact T.blk.lt
 · rw [e]; exact T.rt.blk.lt
 · rw [e]; exact T.ht.blk.lt
 · rw [e]; exact T.pt.blk.lt
 · exact (T.rt.row.lt b e).2
 · exact T.ht.lt e
 · exact (T.po.lt b e).2
theorem NRows.not2 {α : Type} {sz : Nat} {enc : α → List Value} {no : Nat → Prop} {w : World} {ao : Option Addr} {l : List α} {b6 : Nat} {c0 c1 : Value} {t : TypeId} (h : NRows sz enc no w ao l) (hb : Blk w b6 [c0, c1] t) (h2 : ∀ x, ∃ v, (enc x)[2]? = some v) : NRows sz enc (fun b => no b ∨ b = b6) w ao l := fun hne => by
 obtain ⟨b, off, e, hb', hn, hc⟩ := h hne
 refine ⟨b, off, e, hb', fun q => q.elim hn (fun q => ?_), hc⟩
 subst q
 cases l with
 | nil => exact hne rfl
 | cons x l =>
   obtain ⟨v, hv⟩ := h2 x
   have := hc 0 x rfl 2 v hv
   rw [hb.cell] at this
   simp at this
theorem HoldsAre.not2 {no : Nat → Prop} {w : World} {b6 : Nat} {c0 c1 : Value} {t : TypeId} (hb : Blk w b6 [c0, c1] t) : ∀ {l : List HoldV} {ds : List HoldD}, HoldsAre w no l ds → HoldsAre w (fun b => no b ∨ b = b6) l ds
 | [], [], _ => trivial
 | [], _ :: _, h => h.elim
 | _ :: _, [], h => h.elim
 | _ :: _, _ :: _, h => ⟨⟨h.1.key, h.1.cl, h.1.nm, h.1.an, h.1.rn, h.1.put, h.1.value, h.1.acts.not2 hb (fun _ => ⟨_, rfl⟩), h.1.reads.not2 hb (fun _ => ⟨_, rfl⟩)⟩, HoldsAre.not2 hb h.2⟩
theorem TrIs.but6 {w w' : World} {k : TrK} {d : TrD} {b6 : Nat} {c0 c1 : Value} {t : TypeId} (h : TrIs w k d) (hb : Blk w b6 [c0, c1] t) (ho : ¬ k.owns b6) (hx : But (fun j => j = b6) w w') : TrIs w' k d := by
 have n : ∀ b, k.owns b → ¬ b = b6 := fun b e q => ho (q ▸ e)
 obtain ⟨l, r1, r2⟩ := h.ht.row
 have ht : TabN (fun b => k.noH b ∨ b = b6) w k.hb k.hv d.holds := ⟨h.ht.blk, ⟨l, r1, (r2.not2 hb).mono (fun _ _ e => e.elim (fun e => .inl (.inl e)) (fun e => e.elim (fun e => .inl (.inr e)) .inr))⟩, h.ht.rise, h.ht.ok, h.ht.few⟩
 exact ⟨h.blk.but hx (n _ (.inl rfl)), h.rt.but hx (n _ (.inr (.inl rfl))) (fun j e => n _ (.inr (.inr (.inr (.inr (.inl e)))))), (ht.but' hx (n _ (.inr (.inr (.inl rfl)))) (fun j e => n _ (.inr (.inr (.inr (.inr (.inr (.inl e))))))) (fun b _ e => .inr e)).mono' (fun _ _ e => .inl e), h.pt.but hx (n _ (.inr (.inr (.inr (.inl rfl))))), own_but h.po hx (fun j e => n _ (.inr (.inr (.inr (.inr (.inr (.inr e))))))), h.ps, h.pn⟩
theorem TrIs.not_u8 {w : World} {k : TrK} {d : TrD} {n : Nat} {u : Value} {xs : List Value} (h : TrIs w k d) (hu : w.ownsRow 0 5 1 u n xs) : ∀ j, u.ownBlock = some j → ¬ k.owns j := fun j hj e => by
 rcases e with e | e | e | e | e | e | e
 · exact own_bk hu h.blk (by decide) (e ▸ hj)
 · exact own_bk hu h.rt.blk (by decide) (e ▸ hj)
 · exact own_bk hu h.ht.blk (by decide) (e ▸ hj)
 · exact own_bk hu h.pt.blk (by decide) (e ▸ hj)
 · exact own_own hu h.rt.row (by decide) j hj e
 · obtain ⟨_, _, h2⟩ := h.ht.own
   exact own_own hu h2 (by decide) j hj e
 · exact own_own hu h.po (by decide) j hj e
theorem wKs : ∀ x ∈ putAllR [(⟨⟨#[107]⟩, ⟨#[53]⟩⟩ : RowD)] [], x.key.size ≤ 1000 := by
 have h : putAllR [(⟨⟨#[107]⟩, ⟨#[53]⟩⟩ : RowD)] [] = [⟨⟨#[107]⟩, ⟨#[53]⟩⟩] := by kernel_rfl
 intro x hx
 rw [h, List.mem_singleton] at hx
 subst hx
 decide
theorem wIn : inR [107] noBytes.data.toList (putAllR (putAllR [⟨⟨#[107]⟩, ⟨#[53]⟩⟩] []) []) = [⟨⟨#[107]⟩, ⟨#[53]⟩⟩] := by kernel_rfl
theorem wEql (W : World) : (binOp .eql 52 (.agg #[.string ⟨#[107]⟩, .string ⟨#[53]⟩]) (.agg #[.string ⟨#[107]⟩, .string ⟨#[53]⟩])).run Tryz.prog W = .ok (.bool true) W := by kernel_rfl
theorem wA_ok : wA.ok := by refine ⟨?_, ?_, ?_, ?_, ?_, ?_⟩ <;> decide
set_option maxRecDepth 100000 in
theorem wAdd_calls (w : World) : Calls Tryz.prog 29 #[.string ⟨#[107]⟩, .int .i64 5] w fun e w' => e = .returned (.agg (encAct wA).toArray) ∧ Ext w w' := by
 go_enter Tryz.func29, Tryz.ntmps29
 go_wp2_with fail
 exact bodyPost_ret (results_cell_row rfl _ _ w.heap.size 74 #[.int .u8 3, .string ⟨#[107]⟩, .string ⟨#[]⟩, .int .i64 5] (0, 0) _ rfl (Blk.new w _ _) Tryz.underlying74 rfl (by kernel_rfl)) rfl ⟨rfl, (Below.refl _ w).alloc (Nat.le_refl _) _⟩
set_option maxRecDepth 100000 in
set_option maxHeartbeats 12800000 in
theorem awake_calls {B : Nat} (w : World) (hv : LV B w) (hB : B ≤ w.heap.size) : Calls Tryz.prog 6 #[] w fun e w' => e = .returned (.bool true) ∧ Ext w w' := by
 have HV := Lib.hid hv
 clear hv
 go_enter Tryz.func6, Tryz.ntmps6
 go_wp2_with fail
 refine (whole_calls w).mono ?_
 rintro e w1 ⟨cs, rfl, rfl, hb, hx⟩
 have NW := Lib.hid (newWhole_calls w.heap.size 1 w1 hb)
 have X1 := Lib.hid hx
 clear hb hx
 go_wp2_with fail
 refine NW.out.mono ?_
 rintro e w2 ⟨k, rfl, hT, hl, ⟨hk1, hk2⟩, hx⟩
 have X2 := Lib.hid (Ext.trans X1.out hx); have T2 := Lib.hid hT
 have KL := Lib.hid (show ∀ b, k.owns b → w.heap.size ≤ b from fun b e => by
  have := X1.out.size
  rcases e with e | e | e | e | e | e | e
  · omega
  · omega
  · omega
  · omega
  · rw [hk1] at e; simp [Value.ownBlock] at e
  · rw [hk2] at e; simp [Value.ownBlock] at e
  · have := hl.2.2.2.2 b e; omega)
 clear hT hl hx NW hk1 hk2
 go_wp2_with fail
 refine (newNone_calls w2).mono ?_
 rintro e w3 ⟨u, rfl, hU, hul, ⟨hu1, hu2, hu3⟩, hx⟩
 obtain ⟨tu, ru, hu, pu, rvu, hvu, pvu⟩ := u
 subst hu1 hu2 hu3
 have hU0 : TrO w3 tu ru hu pu none := ⟨hU.blk, hU.rt, tab0 hU.ht, hU.pt⟩
 obtain ⟨w5, hw5⟩ : ∃ w5, w5 = (w3.alloc (.cells #[.int .i64 1, .int .i64 1] 35)).alloc (.cells #[.string ⟨#[107]⟩, .string ⟨#[]⟩] 30) := ⟨_, rfl⟩
 have hx5 : Ext w3 w5 := by rw [hw5]; exact ((Below.refl _ w3).alloc (Nat.le_refl _) _).alloc (by simp) _
 have hn5 : Blk w5 w3.heap.size [.int .i64 1, .int .i64 1] 35 := by rw [hw5]; exact (Blk.new w3 _ _).alloc _
 have hs5 : Blk w5 (w3.heap.size + 1) [.string ⟨#[107]⟩, .string ⟨#[]⟩] 30 := by
  rw [hw5]
  have := Blk.new (w3.alloc (.cells #[.int .i64 1, .int .i64 1] 35)) [.string ⟨#[107]⟩, .string ⟨#[]⟩] 30
  rwa [World.size_alloc] at this
 have X5 := Lib.hid (Ext.trans X2.out (Ext.trans hx hx5)); have T5 := Lib.hid ((T2.out.ext hx).ext hx5); have U5 := Lib.hid (hU0.ext hx5)
 have N5 := Lib.hid hn5; have S5 := Lib.hid hs5; have W5 := Lib.hid hw5
 have OL2 := Lib.hid T2.out.owns_lt
 have UL := Lib.hid hul
 have hs3 := hn5.lt
 have OL := Lib.hid (show ∀ b, k.owns b → b < w5.heap.size from fun b e => by have := OL2.out b e; have := hx.size; omega)
 have hs23 := hx.size
 have ULT : Hid (tu < w3.heap.size ∧ ru < w3.heap.size ∧ hu < w3.heap.size ∧ pu < w3.heap.size) := Lib.hid ⟨hU.blk.lt, hU.rt.blk.lt, hU.ht.blk.lt, hU.pt.blk.lt⟩
 clear hU hU0 hul hx hx5 hn5 hs5 hw5
 go_upto_region 4 with fail
 rw [← W5.out]
 clear W5
 generalize w3.heap.size = M at *
 go_cut [7] from 23 to 30 (fun a W => a = .int .i64 0 ∧ ∃ k1 : TrK, TrIs W k1 wD1 ∧ k1.tb = k.tb ∧ (∀ b, k1.owns b → k.owns b ∨ w5.heap.size ≤ b) ∧ But k.owns w5 W)
 case first =>
  have HPC : Hid (∀ W sb, Ext w5 W → Blk W sb (encAct wA) 74 → w5.heap.size ≤ sb → Calls Tryz.prog 28 #[.pointer (some ⟨k.tb, 0, none⟩), .agg #[.int .i64 1, .int .i64 1], .int .i64 1, .slice (some ⟨sb, 0, none⟩) 1 1] W (fun e w' => ∃ (rv : Value) (n1 n2 : Int), e = .returned (.tuple #[rv, .agg #[.int .i64 n1, .int .i64 n2], .int .i64 0]) ∧ TrTo k wD1 W w')) := Lib.hid (fun W sb hW hb hl => by
   have hx := Ext.trans X5.out hW
   have h := prepare_calls (B := B) k wD0 1 1 1 [wA] (some ⟨sb, 0, none⟩) 1 W (HV.out.ext hx) (Nat.le_trans hB hx.size) (T5.out.ext hW) (by simp) (fun a ha => by rw [List.mem_singleton] at ha; subst ha; exact wA_ok) (nrow_blk (enc := encAct) (sz := 4) (fun _ => rfl) [wA] (by simpa using hb) (fun e => absurd (OL.out sb e) (Nat.not_lt.2 hl))) (fun a ha => by rw [List.mem_singleton] at ha; subst ha; exact wA_ok.2.2.1) (by decide)
   unfold PrepPost at h
   rwa [wPrep] at h)
  have n0 := N5.out.cell 0; have n1 := N5.out.cell 1
  simp only [List.getElem?_cons_zero, List.getElem?_cons_succ] at n0 n1
  have q0 := ButBy.cell (S := k.owns) n0 (fun e => by have := OL2.out _ e; omega); have q1 := ButBy.cell (S := k.owns) n1 (fun e => by have := OL2.out _ e; omega)
  refine wp_region_firstC (fun W => ∃ p : ButBy k.owns w5, W = p.W) [0, 1] 11 (by kernel_rfl) (by kernel_rfl) (fun _ _ _ _ h => h) ⟨⟨w5.drew, (But.refl _ w5).drew⟩, rfl⟩ ?_
  simp only [opsAt, List.getElem?_toArray, List.getElem?_cons_succ, List.getElem?_cons_zero]
  repeat (go_big_quiet_step (fail))
  refine wpQuiet_nil ?_
  clear q0 q1 n0 n1
  obtain ⟨w6, hw6⟩ : ∃ w6, w6 = w5.drew := ⟨_, rfl⟩
  have X : Hid (Ext w5 w6) := Lib.hid (by rw [hw6]; exact (Below.refl _ w5).drew)
  rw [← hw6]
  clear hw6
  refine wpAnyH_ready (rs := [2, 9]) (by kernel_rfl) (by simp) ?_
  refine AllReadyH.cons rfl (fun K hK => ?_) (AllReadyH.cons rfl (fun K hK => ?_) AllReadyH.nil)
  · go_simp
    refine (wAdd_calls w6).mono ?_
    rintro e v1 ⟨rfl, hx⟩
    simp only [encAct, wA]
    have X := Lib.hid (Ext.trans X.out hx); clear hx
    refine hK.out _ _ ⟨⟨_, Ext.but X.out _⟩, rfl⟩ (fun _ => ?_)
    clear hK K
    refine wpAnyH_ready (rs := [3, 9]) (by kernel_rfl) (by simp) ?_
    refine AllReadyH.cons rfl (fun K hK => ?_) (AllReadyH.cons rfl (fun K hK => ?_) AllReadyH.nil)
    · go_simp
      obtain ⟨v2, hv⟩ : ∃ v, v = v1.alloc (.cells #[.int .u8 3, .string ⟨#[107]⟩, .string noBytes, .int .i64 5] 74) := ⟨_, rfl⟩
      have hx : Ext v1 v2 := by rw [hv]; exact (Below.refl _ v1).alloc (Nat.le_refl _) _
      have hs : Blk v2 v1.heap.size (encAct wA) 74 := by rw [hv]; exact Blk.new v1 _ _
      rw [← hv]
      have HP := Lib.hid (HPC.out v2 v1.heap.size (Ext.trans X.out hx) hs X.out.size)
      have SB := Lib.hid hs; have SL : Hid (w5.heap.size ≤ v1.heap.size) := Lib.hid X.out.size
      have X := Lib.hid (Ext.trans X.out hx); clear hx hs hv
      refine hK.out _ _ ⟨⟨_, Ext.but X.out _⟩, rfl⟩ (fun _ => ?_)
      clear hK K
      refine wpAnyH_ready (rs := [4, 9]) (by kernel_rfl) (by simp) ?_
      refine AllReadyH.cons rfl (fun K hK => ?_) (AllReadyH.cons rfl (fun K hK => ?_) AllReadyH.nil)
      · go_simp
        refine HP.out.mono ?_
        rintro e v3 ⟨rv, n1, n2, rfl, k1, i1, e1, _, _, _, o1, b1⟩
        have BC := Lib.hid ((Ext.but X.out (fun _ => False)).trans b1 (U := k.owns) (fun _ _ e => e.elim) (fun _ _ e => e))
        have I1 := Lib.hid i1; have O1 := Lib.hid (show ∀ b, k1.owns b → k.owns b ∨ w5.heap.size ≤ b from fun b e => (o1 b e).imp_right (fun e => Nat.le_trans X.out.size e)); have E1 := Lib.hid e1
        clear i1 b1 o1 e1
        refine hK.out _ _ ⟨⟨_, BC.out⟩, rfl⟩ (fun _ => ?_)
        clear hK K
        refine wp_takesC (f := 4) [5, 6, 7, 8] (by kernel_rfl) (fun _ _ _ _ h => h) ⟨⟨_, BC.out⟩, rfl⟩ ?_
        simp only [opsAt, List.getElem?_toArray, List.getElem?_cons_succ, List.getElem?_cons_zero]
        repeat (go_big_quiet_step (fail))
        refine wpQuiet_nil ?_
        refine wpAnyH_ready (rs := [9]) (by kernel_rfl) (by simp) ?_
        refine AllReadyH.cons rfl (fun K hK => ?_) AllReadyH.nil
        go_simp
        obtain ⟨v4, hv⟩ : ∃ v, v = v3.alloc (.cells #[.int .i64 0, .int .i64 0] 35) := ⟨_, rfl⟩
        have hx : Ext v3 v4 := by rw [hv]; exact (Below.refl _ v3).alloc (Nat.le_refl _) _
        have A : Hid (Blk v4 v3.heap.size [.int .i64 0, .int .i64 0] 35) := Lib.hid (by rw [hv]; exact Blk.new v3 _ _)
        rw [← hv]
        have L6 : Hid (w5.heap.size ≤ v3.heap.size) := Lib.hid BC.out.size
        have hn6 : ¬ k1.owns v3.heap.size := fun e => absurd (I1.out.owns_lt _ e) (Nat.lt_irrefl _)
        generalize v3.heap.size = b6 at *
        have I1 := Lib.hid (I1.out.ext hx); have BC := Lib.hid (BC.out.trans (Ext.but hx (fun _ => False)) (U := k.owns) (fun _ _ e => e) (fun _ _ e => e.elim)); clear hx hv
        refine hK.out _ _ ⟨⟨_, BC.out⟩, rfl⟩ (fun _ => ?_)
        clear hK K
        refine wp_takesC (f := 2) [10] (by kernel_rfl) (fun _ _ _ _ h => h) ⟨⟨_, BC.out⟩, rfl⟩ ?_
        simp only [opsAt, List.getElem?_toArray, List.getElem?_cons_succ, List.getElem?_cons_zero]
        repeat (go_big_quiet_step (fail))
        refine wpQuiet_nil ?_
        refine wpAnyH_ready (rs := [11]) (by kernel_rfl) (by simp) ?_
        refine AllReadyH.cons rfl (fun K hK => ?_) AllReadyH.nil
        have a0 := A.out.cell 0; have a1 := A.out.cell 1; have f0 := A.out.free 0; have f1 := A.out.free 1
        simp only [List.getElem?_cons_zero, List.getElem?_cons_succ] at a0 a1
        go_simp
        have hset := But.set2 v4 b6 0 1 (.int .i64 n1) (.int .i64 n2)
        have I2 := Lib.hid (I1.out.but6 A.out hn6 hset)
        have BC := Lib.hid ((BC.out.trans hset (U := fun j => k.owns j ∨ w5.heap.size ≤ j) (fun _ _ e => .inl e) (fun _ _ e => .inr (by rw [e]; exact L6.out))).mono (fun i hi e => e.elim id (fun e => absurd hi (Nat.not_lt.2 e))))
        clear hset a0 a1 f0 f1
        refine hK.out _ _ ⟨⟨_, BC.out⟩, rfl⟩ (fun _ => ?_)
        clear hK K
        refine wp_takesC (f := 0) [12] (by kernel_rfl) (fun _ _ _ _ h => h) ⟨⟨_, BC.out⟩, rfl⟩ ?_
        simp only [opsAt, List.getElem?_toArray, List.getElem?_cons_succ, List.getElem?_cons_zero]
        repeat (go_big_quiet_step (fail))
        refine wpQuiet_nil ?_
        refine wpAnyH_done (by kernel_rfl) ?_ _
        go_wp2_with fail
        go_meet
        exact ⟨rfl, k1, I2.out, E1.out, O1.out, BC.out⟩
      · go_simp
        obtain ⟨v5, hv⟩ : ∃ v, v = v2.alloc (.cells #[.int .i64 0, .int .i64 0] 35) := ⟨_, rfl⟩
        have hx : Ext v2 v5 := by rw [hv]; exact (Below.refl _ v2).alloc (Nat.le_refl _) _
        have A : Hid (Blk v5 v2.heap.size [.int .i64 0, .int .i64 0] 35) := Lib.hid (by rw [hv]; exact Blk.new v2 _ _)
        rw [← hv]
        have L6 : Hid (w5.heap.size ≤ v2.heap.size) := Lib.hid X.out.size
        have HP := Lib.hid (HPC.out _ _ (Ext.trans X.out hx) (SB.out.ext' hx) SL.out)
        generalize v2.heap.size = b6 at *
        have X := Lib.hid (Ext.trans X.out hx); clear hx hv
        refine hK.out _ _ ⟨⟨_, Ext.but X.out _⟩, rfl⟩ (fun _ => ?_)
        clear hK K
        refine wpAnyH_ready (rs := [4]) (by kernel_rfl) (by simp) ?_
        refine AllReadyH.cons rfl (fun K hK => ?_) AllReadyH.nil
        go_simp
        refine HP.out.mono ?_
        rintro e v6 ⟨rv, n1, n2, rfl, k1, i1, e1, _, _, _, o1, b1⟩
        have BC := Lib.hid ((Ext.but X.out (fun _ => False)).trans b1 (U := k.owns) (fun _ _ e => e.elim) (fun _ _ e => e))
        have hn6 : ¬ k1.owns b6 := fun e => (o1 b6 e).elim (fun e => absurd (OL.out b6 e) (Nat.not_lt.2 L6.out)) (fun e => absurd e (Nat.not_le.2 A.out.lt))
        have A := Lib.hid (A.out.but b1 (fun e => absurd (OL.out b6 e) (Nat.not_lt.2 L6.out)))
        have I1 := Lib.hid i1; have O1 := Lib.hid (show ∀ b, k1.owns b → k.owns b ∨ w5.heap.size ≤ b from fun b e => (o1 b e).imp_right (fun e => Nat.le_trans X.out.size e)); have E1 := Lib.hid e1
        clear i1 b1 o1 e1
        refine hK.out _ _ ⟨⟨_, BC.out⟩, rfl⟩ (fun _ => ?_)
        clear hK K
        refine wp_takesC (f := 3) [5, 6, 7, 8] (by kernel_rfl) (fun _ _ _ _ h => h) ⟨⟨_, BC.out⟩, rfl⟩ ?_
        simp only [opsAt, List.getElem?_toArray, List.getElem?_cons_succ, List.getElem?_cons_zero]
        repeat (go_big_quiet_step (fail))
        refine wpQuiet_nil ?_
        refine wp_takesC (f := 2) [10] (by kernel_rfl) (fun _ _ _ _ h => h) ⟨⟨_, BC.out⟩, rfl⟩ ?_
        simp only [opsAt, List.getElem?_toArray, List.getElem?_cons_succ, List.getElem?_cons_zero]
        repeat (go_big_quiet_step (fail))
        refine wpQuiet_nil ?_
        refine wpAnyH_ready (rs := [11]) (by kernel_rfl) (by simp) ?_
        refine AllReadyH.cons rfl (fun K hK => ?_) AllReadyH.nil
        have a0 := A.out.cell 0; have a1 := A.out.cell 1; have f0 := A.out.free 0; have f1 := A.out.free 1
        simp only [List.getElem?_cons_zero, List.getElem?_cons_succ] at a0 a1
        go_simp
        have hset := But.set2 v6 b6 0 1 (.int .i64 n1) (.int .i64 n2)
        have I2 := Lib.hid (I1.out.but6 A.out hn6 hset)
        have BC := Lib.hid ((BC.out.trans hset (U := fun j => k.owns j ∨ w5.heap.size ≤ j) (fun _ _ e => .inl e) (fun _ _ e => .inr (by rw [e]; exact L6.out))).mono (fun i hi e => e.elim id (fun e => absurd hi (Nat.not_lt.2 e))))
        clear hset a0 a1 f0 f1
        refine hK.out _ _ ⟨⟨_, BC.out⟩, rfl⟩ (fun _ => ?_)
        clear hK K
        refine wp_takesC (f := 0) [12] (by kernel_rfl) (fun _ _ _ _ h => h) ⟨⟨_, BC.out⟩, rfl⟩ ?_
        simp only [opsAt, List.getElem?_toArray, List.getElem?_cons_succ, List.getElem?_cons_zero]
        repeat (go_big_quiet_step (fail))
        refine wpQuiet_nil ?_
        refine wpAnyH_done (by kernel_rfl) ?_ _
        go_wp2_with fail
        go_meet
        exact ⟨rfl, k1, I2.out, E1.out, O1.out, BC.out⟩
    · go_simp
      obtain ⟨v7, hv⟩ : ∃ v, v = v1.alloc (.cells #[.int .i64 0, .int .i64 0] 35) := ⟨_, rfl⟩
      have hx : Ext v1 v7 := by rw [hv]; exact (Below.refl _ v1).alloc (Nat.le_refl _) _
      have A : Hid (Blk v7 v1.heap.size [.int .i64 0, .int .i64 0] 35) := Lib.hid (by rw [hv]; exact Blk.new v1 _ _)
      rw [← hv]
      have L6 : Hid (w5.heap.size ≤ v1.heap.size) := Lib.hid X.out.size
      generalize v1.heap.size = b6 at *
      have X := Lib.hid (Ext.trans X.out hx); clear hx hv
      refine hK.out _ _ ⟨⟨_, Ext.but X.out _⟩, rfl⟩ (fun _ => ?_)
      clear hK K
      refine wpAnyH_ready (rs := [3]) (by kernel_rfl) (by simp) ?_
      refine AllReadyH.cons rfl (fun K hK => ?_) AllReadyH.nil
      go_simp
      obtain ⟨v8, hv⟩ : ∃ v, v = v7.alloc (.cells #[.int .u8 3, .string ⟨#[107]⟩, .string noBytes, .int .i64 5] 74) := ⟨_, rfl⟩
      have hx : Ext v7 v8 := by rw [hv]; exact (Below.refl _ v7).alloc (Nat.le_refl _) _
      have hs : Blk v8 v7.heap.size (encAct wA) 74 := by rw [hv]; exact Blk.new v7 _ _
      rw [← hv]
      have HP := Lib.hid (HPC.out v8 v7.heap.size (Ext.trans X.out hx) hs X.out.size)
      have A := Lib.hid (A.out.ext' hx)
      have SB := Lib.hid hs; have SL : Hid (w5.heap.size ≤ v7.heap.size) := Lib.hid X.out.size
      have X := Lib.hid (Ext.trans X.out hx); clear hx hs hv
      refine hK.out _ _ ⟨⟨_, Ext.but X.out _⟩, rfl⟩ (fun _ => ?_)
      clear hK K
      refine wpAnyH_ready (rs := [4]) (by kernel_rfl) (by simp) ?_
      refine AllReadyH.cons rfl (fun K hK => ?_) AllReadyH.nil
      go_simp
      refine HP.out.mono ?_
      rintro e v9 ⟨rv, n1, n2, rfl, k1, i1, e1, _, _, _, o1, b1⟩
      have BC := Lib.hid ((Ext.but X.out (fun _ => False)).trans b1 (U := k.owns) (fun _ _ e => e.elim) (fun _ _ e => e))
      have hn6 : ¬ k1.owns b6 := fun e => (o1 b6 e).elim (fun e => absurd (OL.out b6 e) (Nat.not_lt.2 L6.out)) (fun e => absurd e (Nat.not_le.2 A.out.lt))
      have A := Lib.hid (A.out.but b1 (fun e => absurd (OL.out b6 e) (Nat.not_lt.2 L6.out)))
      have I1 := Lib.hid i1; have O1 := Lib.hid (show ∀ b, k1.owns b → k.owns b ∨ w5.heap.size ≤ b from fun b e => (o1 b e).imp_right (fun e => Nat.le_trans X.out.size e)); have E1 := Lib.hid e1
      clear i1 b1 o1 e1
      refine hK.out _ _ ⟨⟨_, BC.out⟩, rfl⟩ (fun _ => ?_)
      clear hK K
      refine wp_takesC (f := 3) [5, 6, 7, 8] (by kernel_rfl) (fun _ _ _ _ h => h) ⟨⟨_, BC.out⟩, rfl⟩ ?_
      simp only [opsAt, List.getElem?_toArray, List.getElem?_cons_succ, List.getElem?_cons_zero]
      repeat (go_big_quiet_step (fail))
      refine wpQuiet_nil ?_
      refine wp_takesC (f := 2) [10] (by kernel_rfl) (fun _ _ _ _ h => h) ⟨⟨_, BC.out⟩, rfl⟩ ?_
      simp only [opsAt, List.getElem?_toArray, List.getElem?_cons_succ, List.getElem?_cons_zero]
      repeat (go_big_quiet_step (fail))
      refine wpQuiet_nil ?_
      refine wpAnyH_ready (rs := [11]) (by kernel_rfl) (by simp) ?_
      refine AllReadyH.cons rfl (fun K hK => ?_) AllReadyH.nil
      have a0 := A.out.cell 0; have a1 := A.out.cell 1; have f0 := A.out.free 0; have f1 := A.out.free 1
      simp only [List.getElem?_cons_zero, List.getElem?_cons_succ] at a0 a1
      go_simp
      have hset := But.set2 v9 b6 0 1 (.int .i64 n1) (.int .i64 n2)
      have I2 := Lib.hid (I1.out.but6 A.out hn6 hset)
      have BC := Lib.hid ((BC.out.trans hset (U := fun j => k.owns j ∨ w5.heap.size ≤ j) (fun _ _ e => .inl e) (fun _ _ e => .inr (by rw [e]; exact L6.out))).mono (fun i hi e => e.elim id (fun e => absurd hi (Nat.not_lt.2 e))))
      clear hset a0 a1 f0 f1
      refine hK.out _ _ ⟨⟨_, BC.out⟩, rfl⟩ (fun _ => ?_)
      clear hK K
      refine wp_takesC (f := 0) [12] (by kernel_rfl) (fun _ _ _ _ h => h) ⟨⟨_, BC.out⟩, rfl⟩ ?_
      simp only [opsAt, List.getElem?_toArray, List.getElem?_cons_succ, List.getElem?_cons_zero]
      repeat (go_big_quiet_step (fail))
      refine wpQuiet_nil ?_
      refine wpAnyH_done (by kernel_rfl) ?_ _
      go_wp2_with fail
      go_meet
      exact ⟨rfl, k1, I2.out, E1.out, O1.out, BC.out⟩
  · go_simp
    obtain ⟨v10, hv⟩ : ∃ v, v = w6.alloc (.cells #[.int .i64 0, .int .i64 0] 35) := ⟨_, rfl⟩
    have hx : Ext w6 v10 := by rw [hv]; exact (Below.refl _ w6).alloc (Nat.le_refl _) _
    have A : Hid (Blk v10 w6.heap.size [.int .i64 0, .int .i64 0] 35) := Lib.hid (by rw [hv]; exact Blk.new w6 _ _)
    rw [← hv]
    have L6 : Hid (w5.heap.size ≤ w6.heap.size) := Lib.hid X.out.size
    generalize w6.heap.size = b6 at *
    have X := Lib.hid (Ext.trans X.out hx); clear hx hv
    refine hK.out _ _ ⟨⟨_, Ext.but X.out _⟩, rfl⟩ (fun _ => ?_)
    clear hK K
    refine wpAnyH_ready (rs := [2]) (by kernel_rfl) (by simp) ?_
    refine AllReadyH.cons rfl (fun K hK => ?_) AllReadyH.nil
    go_simp
    refine (wAdd_calls v10).mono ?_
    rintro e v11 ⟨rfl, hx⟩
    simp only [encAct, wA]
    have A := Lib.hid (A.out.ext' hx)
    have X := Lib.hid (Ext.trans X.out hx); clear hx
    refine hK.out _ _ ⟨⟨_, Ext.but X.out _⟩, rfl⟩ (fun _ => ?_)
    clear hK K
    refine wpAnyH_ready (rs := [3]) (by kernel_rfl) (by simp) ?_
    refine AllReadyH.cons rfl (fun K hK => ?_) AllReadyH.nil
    go_simp
    obtain ⟨v12, hv⟩ : ∃ v, v = v11.alloc (.cells #[.int .u8 3, .string ⟨#[107]⟩, .string noBytes, .int .i64 5] 74) := ⟨_, rfl⟩
    have hx : Ext v11 v12 := by rw [hv]; exact (Below.refl _ v11).alloc (Nat.le_refl _) _
    have hs : Blk v12 v11.heap.size (encAct wA) 74 := by rw [hv]; exact Blk.new v11 _ _
    rw [← hv]
    have HP := Lib.hid (HPC.out v12 v11.heap.size (Ext.trans X.out hx) hs X.out.size)
    have A := Lib.hid (A.out.ext' hx)
    have SB := Lib.hid hs; have SL : Hid (w5.heap.size ≤ v11.heap.size) := Lib.hid X.out.size
    have X := Lib.hid (Ext.trans X.out hx); clear hx hs hv
    refine hK.out _ _ ⟨⟨_, Ext.but X.out _⟩, rfl⟩ (fun _ => ?_)
    clear hK K
    refine wpAnyH_ready (rs := [4]) (by kernel_rfl) (by simp) ?_
    refine AllReadyH.cons rfl (fun K hK => ?_) AllReadyH.nil
    go_simp
    refine HP.out.mono ?_
    rintro e v13 ⟨rv, n1, n2, rfl, k1, i1, e1, _, _, _, o1, b1⟩
    have BC := Lib.hid ((Ext.but X.out (fun _ => False)).trans b1 (U := k.owns) (fun _ _ e => e.elim) (fun _ _ e => e))
    have hn6 : ¬ k1.owns b6 := fun e => (o1 b6 e).elim (fun e => absurd (OL.out b6 e) (Nat.not_lt.2 L6.out)) (fun e => absurd e (Nat.not_le.2 A.out.lt))
    have A := Lib.hid (A.out.but b1 (fun e => absurd (OL.out b6 e) (Nat.not_lt.2 L6.out)))
    have I1 := Lib.hid i1; have O1 := Lib.hid (show ∀ b, k1.owns b → k.owns b ∨ w5.heap.size ≤ b from fun b e => (o1 b e).imp_right (fun e => Nat.le_trans X.out.size e)); have E1 := Lib.hid e1
    clear i1 b1 o1 e1
    refine hK.out _ _ ⟨⟨_, BC.out⟩, rfl⟩ (fun _ => ?_)
    clear hK K
    refine wp_takesC (f := 3) [5, 6, 7, 8] (by kernel_rfl) (fun _ _ _ _ h => h) ⟨⟨_, BC.out⟩, rfl⟩ ?_
    simp only [opsAt, List.getElem?_toArray, List.getElem?_cons_succ, List.getElem?_cons_zero]
    repeat (go_big_quiet_step (fail))
    refine wpQuiet_nil ?_
    refine wp_takesC (f := 2) [10] (by kernel_rfl) (fun _ _ _ _ h => h) ⟨⟨_, BC.out⟩, rfl⟩ ?_
    simp only [opsAt, List.getElem?_toArray, List.getElem?_cons_succ, List.getElem?_cons_zero]
    repeat (go_big_quiet_step (fail))
    refine wpQuiet_nil ?_
    refine wpAnyH_ready (rs := [11]) (by kernel_rfl) (by simp) ?_
    refine AllReadyH.cons rfl (fun K hK => ?_) AllReadyH.nil
    have a0 := A.out.cell 0; have a1 := A.out.cell 1; have f0 := A.out.free 0; have f1 := A.out.free 1
    simp only [List.getElem?_cons_zero, List.getElem?_cons_succ] at a0 a1
    go_simp
    have hset := But.set2 v13 b6 0 1 (.int .i64 n1) (.int .i64 n2)
    have I2 := Lib.hid (I1.out.but6 A.out hn6 hset)
    have BC := Lib.hid ((BC.out.trans hset (U := fun j => k.owns j ∨ w5.heap.size ≤ j) (fun _ _ e => .inl e) (fun _ _ e => .inr (by rw [e]; exact L6.out))).mono (fun i hi e => e.elim id (fun e => absurd hi (Nat.not_lt.2 e))))
    clear hset a0 a1 f0 f1
    refine hK.out _ _ ⟨⟨_, BC.out⟩, rfl⟩ (fun _ => ?_)
    clear hK K
    refine wp_takesC (f := 0) [12] (by kernel_rfl) (fun _ _ _ _ h => h) ⟨⟨_, BC.out⟩, rfl⟩ ?_
    simp only [opsAt, List.getElem?_toArray, List.getElem?_cons_succ, List.getElem?_cons_zero]
    repeat (go_big_quiet_step (fail))
    refine wpQuiet_nil ?_
    refine wpAnyH_done (by kernel_rfl) ?_ _
    go_wp2_with fail
    go_meet
    exact ⟨rfl, k1, I2.out, E1.out, O1.out, BC.out⟩
 case rest =>
  obtain ⟨rfl, k1, hi1, he1, ho1, hb1⟩ := hcut
  obtain ⟨w6, rfl⟩ : ∃ w6, w6 = wc := ⟨_, rfl⟩
  have NO : Hid (∀ b, w2.heap.size ≤ b → ¬ k.owns b) := Lib.hid (fun b hb e => by have := OL2.out b e; omega)
  have hM : w2.heap.size ≤ M := hs23
  have N6 := Lib.hid (N5.out.but hb1 (NO.out _ hM)); have S6 := Lib.hid (S5.out.but hb1 (NO.out _ (by omega)))
  have U6 := Lib.hid (U5.out.but hb1 (NO.out _ UL.out.1) (NO.out _ UL.out.2.1) (NO.out _ UL.out.2.2.1) (NO.out _ UL.out.2.2.2))
  have NO1 : Hid (∀ b, w2.heap.size ≤ b → b < w5.heap.size → ¬ k1.owns b) := Lib.hid (fun b h1 h2 e => (ho1 b e).elim (NO.out b h1) (fun e => by omega))
  have G6 := Lib.hid ((Ext.but X5.out (fun _ => False)).trans hb1 (U := fun j => w.heap.size ≤ j) (fun _ _ e => e.elim) (fun j _ e => KL.out j e))
  have KL1 := Lib.hid (show ∀ b, k1.owns b → w.heap.size ≤ b from fun b e => (ho1 b e).elim (KL.out b) (fun e => Nat.le_trans X5.out.size e))
  have hS5 := S5.out.lt
  have FN := Lib.hid (finish_calls k1 wD1 1 1 true w6 hi1)
  rw [he1, wFin, wFinE] at FN
  have n0 := N6.out.cell 0; have n1 := N6.out.cell 1
  simp only [List.getElem?_cons_zero, List.getElem?_cons_succ] at n0 n1
  have h65 := hb1.size
  clear hi1 ho1 hb1
  go_wp2_with fail
  refine FN.out.mono ?_
  rintro e w7 ⟨rfl, k2, hi2, he2, _, _, _, ho2, hb2⟩
  have S7 := Lib.hid (S6.out.but hb2 (NO1.out _ (by omega) hS5))
  have U7 := Lib.hid (U6.out.but hb2 (NO1.out _ UL.out.1 (by have := ULT.out; omega)) (NO1.out _ UL.out.2.1 (by have := ULT.out; omega)) (NO1.out _ UL.out.2.2.1 (by have := ULT.out; omega)) (NO1.out _ UL.out.2.2.2 (by have := ULT.out; omega)))
  have NO2 : Hid (∀ b, w2.heap.size ≤ b → b < w5.heap.size → ¬ k2.owns b) := Lib.hid (fun b h1 h2 e => (ho2 b e).elim (NO1.out b h1 h2) (fun e => by omega))
  have G7 := Lib.hid (G6.out.trans hb2 (U := fun j => w.heap.size ≤ j) (fun _ _ e => e) (fun j _ e => KL1.out j e))
  have KL2 := Lib.hid (show ∀ b, k2.owns b → w.heap.size ≤ b from fun b e => (ho2 b e).elim (KL1.out b) (fun e => Nat.le_trans G6.out.size e))
  have h75 : w5.heap.size ≤ w7.heap.size := Nat.le_trans h65 hb2.size
  have FZ := freeze_calls k2 wD2 1 ⟨#[107]⟩ noBytes 1 w7 hi2 (by decide) (by decide) (by decide)
  unfold FrzPost at FZ
  rw [wFrz, he2, he1] at FZ
  have FRZ := Lib.hid FZ
  have s0 := S7.out.cell 0; have s1 := S7.out.cell 1
  simp only [List.getElem?_cons_zero, List.getElem?_cons_succ] at s0 s1
  clear hi2 ho2 hb2 FN n0 n1 FZ
  go_wp2_with fail
  refine FRZ.out.mono ?_
  rintro e w8 ⟨v, rfl, hown, hvn, k3, hi3, he3, _, _, _, ho3, hb3⟩
  obtain ⟨vo, vc, rfl⟩ := own_slice hown
  have NO3 : Hid (∀ b, w2.heap.size ≤ b → b < w5.heap.size → ¬ k3.owns b) := Lib.hid (fun b h1 h2 e => (ho3 b e).elim (NO2.out b h1 h2) (fun e => by omega))
  have S8 := Lib.hid (S7.out.but hb3 (NO2.out _ (by omega) hS5))
  have U8 := Lib.hid (U7.out.but hb3 (NO2.out _ UL.out.1 (by have := ULT.out; omega)) (NO2.out _ UL.out.2.1 (by have := ULT.out; omega)) (NO2.out _ UL.out.2.2.1 (by have := ULT.out; omega)) (NO2.out _ UL.out.2.2.2 (by have := ULT.out; omega)))
  have G8 := Lib.hid (G7.out.trans hb3 (U := fun j => w.heap.size ≤ j) (fun _ _ e => e) (fun j _ e => KL2.out j e))
  have KL3 := Lib.hid (show ∀ b, k3.owns b → w.heap.size ≤ b from fun b e => (ho3 b e).elim (KL2.out b) (fun e => Nat.le_trans G7.out.size e))
  have V8 := Lib.hid hown
  have I3 := Lib.hid hi3
  have VN := Lib.hid (hi3.not_u8 hown)
  have E3 : Hid (k3.tb = k.tb) := Lib.hid (by rw [he3, he2, he1])
  have h85 : w5.heap.size ≤ w8.heap.size := Nat.le_trans h75 hb3.size
  clear hi3 ho3 hb3 hown hvn FRZ s0 s1
  go_wp2_with fail
  refine (wAdd_calls w8).mono ?_
  rintro e w9 ⟨rfl, hx⟩
  simp only [encAct, wA]
  obtain ⟨wa, hwa⟩ : ∃ wa, wa = w9.alloc (.cells #[.int .u8 3, .string ⟨#[107]⟩, .string noBytes, .int .i64 5] 74) := ⟨_, rfl⟩
  have hxa : Ext w9 wa := by rw [hwa]; exact (Below.refl _ w9).alloc (Nat.le_refl _) _
  have hsa : Blk wa w9.heap.size (encAct wA) 74 := by rw [hwa]; exact Blk.new w9 _ _
  have hx8 := Ext.trans hx hxa
  have PL := prepare_calls (B := B) k3 wD3 1 2 1 [wA] (some ⟨w9.heap.size, 0, none⟩) 1 wa ((HV.out.below (G8.out.below hB (fun i e => Nat.le_trans hB e))).ext hx8) (by have := G8.out.size; have := hx8.size; omega) (I3.out.ext hx8) (by simp) (fun a ha => by rw [List.mem_singleton] at ha; subst ha; exact wA_ok) (nrow_blk (enc := encAct) (sz := 4) (fun _ => rfl) [wA] (by simpa using hsa) (fun e => absurd (I3.out.owns_lt _ e) (Nat.not_lt.2 hx.size))) (fun a ha => by rw [List.mem_singleton] at ha; subst ha; exact wA_ok.2.2.1) (by decide)
  unfold PrepPost at PL
  rw [wLate, E3.out] at PL
  have PLL := Lib.hid PL; have WA := Lib.hid hwa; have Xa := Lib.hid hx8
  clear hx hxa hsa hx8 PL hwa
  go_wp2_with (rw [← WA.out])
  refine PLL.out.mono ?_
  rintro e wb ⟨rv, n1, n2, rfl, k4, _, _, _, _, _, _, hb4⟩
  have hbx : But k3.owns w8 wb := (Ext.but Xa.out (fun _ => False)).trans hb4 (fun _ _ e => e.elim) (fun _ _ e => e)
  have Vb := Lib.hid (own_but V8.out hbx VN.out)
  have Sb := Lib.hid (S8.out.but hbx (NO3.out _ (by omega) hS5))
  have Ub := Lib.hid (U8.out.but hbx (NO3.out _ UL.out.1 (by have := ULT.out; omega)) (NO3.out _ UL.out.2.1 (by have := ULT.out; omega)) (NO3.out _ UL.out.2.2.1 (by have := ULT.out; omega)) (NO3.out _ UL.out.2.2.2 (by have := ULT.out; omega)))
  have Gb := Lib.hid (G8.out.trans hbx (U := fun j => w.heap.size ≤ j) (fun _ _ e => e) (fun j _ e => KL3.out j e))
  have hb5 : w5.heap.size ≤ wb.heap.size := Nat.le_trans h85 hbx.size
  obtain ⟨wd, hwd⟩ : ∃ wd, wd = wb.alloc (.cells #[.int .i64 n1, .int .i64 n2] 35) := ⟨_, rfl⟩
  have hxd : Ext wb wd := by rw [hwd]; exact (Below.refl _ wb).alloc (Nat.le_refl _) _
  have Vd := Lib.hid (own_ext Vb.out hxd); have Sd := Lib.hid (Sb.out.ext' hxd); have Ud := Lib.hid (Ub.out.ext hxd)
  have Gd := Lib.hid (Gb.out.trans (Ext.but hxd (fun _ => False)) (U := fun j => w.heap.size ≤ j) (fun _ _ e => e) (fun _ _ e => e.elim))
  have WD := Lib.hid hwd
  have hd5 : w5.heap.size ≤ wd.heap.size := Nat.le_trans hb5 hxd.size
  clear hbx hb4 hxd hwd PLL WA
  go_upto_region 8 with fail
  rw [← WD.out]
  clear WD
  have s0 := Sd.out.cell 0; have s1 := Sd.out.cell 1
  simp only [List.getElem?_cons_zero, List.getElem?_cons_succ] at s0 s1
  obtain ⟨uo, uc, huv, _, _, hur⟩ := Rows.own (enc := encU8) (sz := 1) (fun _ => rfl) Vd.out
  simp only [Value.slice.injEq, true_and] at huv
  obtain ⟨rfl, rfl⟩ := huv
  have AB := Lib.hid (absorb1_calls tu ru hu pu wL vo vc [⟨⟨#[107]⟩, ⟨#[53]⟩⟩] [1, 0, 0, 0, 0, 0, 0, 0] 1 ⟨#[107]⟩ noBytes wd Ud.out (by decide) hur wGood (by kernel_rfl) (by decide) (by decide) (by kernel_rfl) (by kernel_rfl))
  have hut : tu < wd.heap.size ∧ ru < wd.heap.size ∧ hu < wd.heap.size ∧ pu < wd.heap.size := by have := ULT.out; omega
  have hut2 : (¬ M + 1 = tu) ∧ (¬ M + 1 = ru) ∧ (¬ M + 1 = hu) ∧ (¬ M + 1 = pu) := by have := ULT.out; omega
  have HU := Lib.hid hut; have HU2 := Lib.hid hut2
  clear hur hut hut2
  go_wp2_with fail
  refine AB.out.mono ?_
  rintro e we ⟨cb, crb, chb, cpb, crv, chv, rfl, hT, hC, hbE⟩
  have Se := Lib.hid (Sd.out.but hbE HU2.out.1)
  have OP := Lib.hid (trOpen_calls wd.heap.size tu ru hu pu cb crb chb cpb crv chv _ _ 1 2 ⟨#[107]⟩ noBytes we hT hC HU.out (by kernel_rfl) (by kernel_rfl) (by kernel_rfl) (by kernel_rfl) (by decide) wKs)
  have hl2 := UL.out
  have Ge := Lib.hid (Gd.out.trans hbE (U := fun j => w.heap.size ≤ j) (fun _ _ e => e) (fun j _ e => by have := X2.out.size; omega))
  clear hT hC hbE AB s0 s1
  go_wp2_with fail
  refine OP.out.mono ?_
  rintro e wf ⟨rfl, ⟨kf, hkf, hif⟩, hbF⟩
  have Sf := Lib.hid (Se.out.but hbF (fun e => by have := HU2.out; omega))
  have Gf := Lib.hid (Ge.out.trans hbF (U := fun j => w.heap.size ≤ j) (fun _ _ e => e) (fun j _ e => by have := X2.out.size; omega))
  have RW := trRows_calls kf _ ⟨#[107]⟩ noBytes wf hif (by decide) (by decide)
  rw [hkf] at RW
  simp only [wIn] at RW
  have RWS := Lib.hid RW
  have s0 := Sf.out.cell 0; have s1 := Sf.out.cell 1
  simp only [List.getElem?_cons_zero, List.getElem?_cons_succ] at s0 s1
  clear hif hbF hkf OP RW
  go_wp2_with fail
  refine RWS.out.mono ?_
  rintro e wg ⟨r, rfl, hro, _, hxg⟩
  obtain ⟨ro, rc, rfl, _, _, hrw⟩ := Rows.own (enc := encRw) (sz := 2) (fun _ => rfl) hro
  obtain ⟨b, off, rfl, _, hc⟩ := hrw (by simp)
  have c0 := hc 0 _ rfl 0 _ rfl; have c1 := hc 0 _ rfl 1 _ rfl
  simp only [Nat.zero_mul, Nat.add_zero] at c0 c1
  have Gg := Lib.hid ((Gf.out.trans (Ext.but hxg (fun _ => False)) (U := fun j => w.heap.size ≤ j) (fun _ _ e => e) (fun _ _ e => e.elim)).ext (fun j hj e => by omega))
  have eq := wEql
  clear hro hxg hrw hc s0 s1 RWS
  go_wp2_with fail
  go_ret
  exact ⟨rfl, Gg.out⟩
end Go.Proofs.YtmpmggejhnmakaaGreatDoor
