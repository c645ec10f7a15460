/- An order of steps behind a history: the walk. -/
import Derived.Test.YtbnclifpdmpjnaaGreatDoorZ21
import Derived.Deep.DeepMust
namespace Go.Proofs.YtbnclifpdmpjnaaGreatDoor
open Go.RowKit Go.Shelf
attribute [local go_sem] Oper.semAt_some
def OrdPost (r : Option (List StepZ)) (w : World) (e : Ending) (w' : World) : Prop :=
  ∃ v, e = .returned (.tuple #[v, .bool r.isSome]) ∧ w'.ownsRow 0 51 6 v (r.getD []).length ((r.getD []).flatMap encStep) ∧ (∀ j, v.ownBlock = some j → w.heap.size ≤ j) ∧ Ext w w'
set_option maxRecDepth 100000 in
theorem order_nil (hb cap : Nat) (ao : Option Addr) (h : Hist) (w : World) : Calls Tryz.prog 44 #[.pointer (some ⟨hb, 0, none⟩), .slice ao 0 cap] w (OrdPost (ordP nextZ lateZ 0 h []) w) := by
  have g1 : (((0 : Nat) : Int) == 0) = true := rfl
  go_enter Tryz.func44, Tryz.ntmps44
  go_wp2_with fail
  have b1 := Blk.new (w.alloc (.cells #[.pointer (some ⟨hb, 0, none⟩)] 119)) [.slice none 0 0] 41
  have b2 := Blk.new ((w.alloc (.cells #[.pointer (some ⟨hb, 0, none⟩)] 119)).alloc (.cells #[.slice none 0 0] 41)) [.bool true] 4
  have c1 := (b1.alloc (.cells #[.bool true] 4)).cell 0
  have c2 := b2.cell 0
  simp only [World.size_alloc, List.getElem?_cons_zero] at c1 c2
  refine bodyPost_ret (v := .tuple #[.slice none 0 0, .bool true]) (by simp [results, Tryz.f44, go_sem, c1, c2]) rfl ?_
  refine ⟨.slice none 0 0, by rw [ordP]; rfl, by rw [ordP]; exact World.ownsRow_nil _ _ _ _, (fun j e => by cases e), ?_⟩
  exact (((Below.refl _ w).alloc (Nat.le_refl _) _).alloc (by simp) _).alloc (by simp; omega) _
theorem blk_own {β : Type} (B b : Nat) (cs : List Value) (t : TypeId) : OwnFrom B (fun (_ : β) W => Blk W b cs t) := fun _ X _ _ hs hg hr =>
  (hg.block b hs.lt (fun e => by
    obtain ⟨_, o, ho, hc⟩ := hr b e.symm
    rw [show X.heap[b]? = _ from hs] at ho; cases ho; cases hc)).trans hs
theorem turned_noCells {X : World} {row : Option Nat} {B : Nat} (hr : ∀ r, row = some r → B ≤ r ∧ ∃ o : Obj, X.heap[r]? = some o ∧ o.isCells = false) {r : Nat} (e : row = some r) : NoCells X r := by
  obtain ⟨_, o, ho, hc⟩ := hr r e
  intro cs t x h
  rw [h] at ho; cases ho; cases hc
theorem rows_own {β α : Type} {sz : Nat} {enc : α → List Value} (B : Nat) (ao : Option Addr) (l : List α) : OwnFrom B (fun (_ : β) W => Rows sz enc W.heap.size W ao l) := fun _ X Y row hs hg hr => by
  have hb : But (fun k => row = some k) X Y := But.of_grown hg
  have := (NRows.step (no := fun _ => False) (no' := fun _ => False) (hs.nrows (Nat.le_refl _) (fun _ _ e => e)) hb (fun b _ e => .inr (turned_noCells hr e)) (fun _ _ e => e))
  exact this.rows
theorem ownsRow_own {β : Type} (B D : Nat) (e : TypeId) (sz n : Nat) (v : Value) (xs : List Value) : OwnFrom B (fun (_ : β) W => W.ownsRow D e sz v n xs) := fun _ _ _ _ hs hg hr =>
  own_but hs (But.of_grown hg) (fun _ hk e => own_noCells hs (turned_noCells hr e) hk)
structure OrdFound (B : Nat) (w : World) (r4 r5 : Nat) (out : List StepZ) (W : World) : Prop where
  out : ∃ v, Blk W r4 [v] 41 ∧ Blk W r5 [.bool true] 4 ∧ W.ownsRow B 51 6 v out.length (out.flatMap encStep)
theorem ordFound_own {β : Type} (B D : Nat) (w : World) (r4 r5 : Nat) (out : List StepZ) : OwnFrom B (fun (_ : β) W => OrdFound D w r4 r5 out W) := fun s X Y row hs hg hr => by
  obtain ⟨v, h1, h2, h3⟩ := hs.out
  exact ⟨v, blk_own (β := β) B _ _ _ s X Y row h1 hg hr, blk_own (β := β) B _ _ _ s X Y row h2 hg hr, ownsRow_own (β := β) B _ _ _ _ _ _ s X Y row h3 hg hr⟩
theorem keeps_ext {B : Nat} {W W' : World} (hx : Ext W W') : KeepsFrom B W W' := ⟨hx.size, fun k _ _ hk _ => (hx.block k (Array.getElem?_eq_some_iff.1 hk).1).trans hk⟩
theorem ext_but_new {w w1 w2 : World} {S : Nat → Prop} (hx : Ext w w1) (hb : But S w1 w2) (hS : ∀ i, S i → w.heap.size ≤ i) : Ext w w2 := Below.trans hx (hb.below hx.size hS)
theorem own_pos {w : World} {B : Nat} {e : TypeId} {size n : Nat} {v : Value} {xs : List Value} (h : w.ownsRow B e size v n xs) (hn : 0 < n) : ∃ g cap, v = .slice (some ⟨g, 0, none⟩) n cap := by
  rcases own_cases h with ⟨_, h0⟩ | ⟨g, cap, hv, _, _⟩
  · omega
  · exact ⟨g, cap, hv⟩
set_option maxRecDepth 100000 in
set_option maxHeartbeats 3200000 in
theorem order_calls : ∀ (k : Nat) (l : List StepZ) (ao : Option Addr) (cap : Nat) (w : World) (B hb mb n : Nat) (h : Hist) (v : Value), l.length = k → k ≤ 8 → StepsAt w ao l → (∀ z ∈ l, z.d.ok) → LV w.heap.size w → HistAt B w hb h v mb n → n + k ≤ 900 → h.1.length + 6 * k ≤ 10000 →
    Calls Tryz.prog 44 #[.pointer (some ⟨hb, 0, none⟩), .slice ao l.length cap] w (OrdPost (ordP nextZ lateZ k h l) w)
  | 0, l, ao, cap, w, _, hb, _, _, h, _, hl, _, _, _, _, _, _, _ => by
    rw [List.length_eq_zero_iff] at hl
    subst hl
    exact order_nil hb cap ao h w
  | k + 1, l, ao, cap, w, B, hb, mb, n, h, v, hl, hk, hs, hd, hlv, H, hn, hrl => by
    refine (callsIn_wide (n := 9)).1 ?_
    refine callsIn_of_wp_marks Tryz.func44 rfl trivial ?_ rfl
    simp only [Tryz.ntmps44, List.size_toArray, List.length_cons, List.length_nil, Nat.reduceAdd, Nat.reduceSub, Array.replicate_succ, Array.replicate_zero, List.push_toArray, List.append_toArray, List.nil_append, List.cons_append]
    have g1 : ((l.length : Int) == 0) = false := by rw [hl]; simp; omega
    have HS := Lib.hid hs; have HD := Lib.hid hd; have HLV := Lib.hid hlv; have HH := Lib.hid H; have HL := Lib.hid hl
    clear hs hd hlv H hl
    gi_wp2_with (refine ⟨trivial, ?_⟩; gi_at_call 79; refine (callsIn_wide.2 (picks_calls l ao cap _)).mono ?_; rintro e w' ⟨rfl, rfl⟩)
    obtain ⟨w1, hw1⟩ : ∃ w1, w1 = (((w.alloc (.cells #[.pointer (some ⟨hb, 0, none⟩)] 119)).alloc (.cells #[.slice none 0 0] 41)).alloc (.cells #[.bool false] 4)).alloc (.cells #[.slice ao l.length cap] 41) := ⟨_, rfl⟩
    have b2 : Blk w1 w.heap.size [.pointer (some ⟨hb, 0, none⟩)] 119 := by rw [hw1]; exact (((Blk.new w _ _).alloc _).alloc _).alloc _
    have b4 : Blk w1 (w.heap.size + 1) [.slice none 0 0] 41 := by
      have := ((Blk.new (w.alloc (.cells #[.pointer (some ⟨hb, 0, none⟩)] 119)) [.slice none 0 0] 41).alloc (.cells #[.bool false] 4)).alloc (.cells #[.slice ao l.length cap] 41)
      rw [hw1]; simpa using this
    have b5 : Blk w1 (w.heap.size + 1 + 1) [.bool false] 4 := by
      have := (Blk.new ((w.alloc (.cells #[.pointer (some ⟨hb, 0, none⟩)] 119)).alloc (.cells #[.slice none 0 0] 41)) [.bool false] 4).alloc (.cells #[.slice ao l.length cap] 41)
      rw [hw1]; simpa using this
    have bp : Blk w1 (w.heap.size + 1 + 1 + 1) [.slice ao l.length cap] 41 := by
      have := Blk.new (((w.alloc (.cells #[.pointer (some ⟨hb, 0, none⟩)] 119)).alloc (.cells #[.slice none 0 0] 41)).alloc (.cells #[.bool false] 4)) [.slice ao l.length cap] 41
      rw [hw1]; simpa using this
    have X1 : Hid (Ext w w1) := Lib.hid (by rw [hw1]; exact ((((Below.refl _ w).alloc (Nat.le_refl _) _).alloc (by simp) _).alloc (by simp; omega) _).alloc (by simp; omega) _)
    have hsz : w.heap.size + 4 = w1.heap.size := by rw [hw1]; simp
    rw [← hw1]
    clear hw1
    have B2 := Lib.hid b2; have B4 := Lib.hid b4; have B5 := Lib.hid b5
    have hle : w.heap.size + 4 ≤ w1.heap.size := by omega
    have h8 : l.length ≤ 8 := by have := HL.out; omega
    clear hsz
    refine wpIn_rangeAt (F := Fence.wide) (n := 9) rfl (by omega) (gf := 116) (lb := #[.pointer (some ⟨w.heap.size + 1 + 1 + 1, 0, none⟩)]) rfl trivial (enters_of Tryz.func116 (by kernel_rfl) rfl)
      (picks1_seq (9 - 1) l ao cap (w.heap.size + 1 + 1 + 1) w1 (by omega) (bp.cell 0) (HS.out.ext X1.out).1) belowK_t (belowK_b (Nat.le_refl _)) (Below.refl _ _) (fun _ => rfl)
      (fun pre W => (∀ i, i < pre.length → ordAt k h l i = none) ∧ Below w1.heap.size w1 W)
      (fun c _ W => (c = .ret ∧ ∃ out, ordP nextZ lateZ (k + 1) h l = some out ∧ OrdFound w.heap.size w (w.heap.size + 1) (w.heap.size + 1 + 1) out W) ∧ Below w.heap.size w W)
      (OwnFrom.and (ownFrom_pure _ _) (ownFrom_below (Nat.le_refl _) (Nat.le_refl _)))
      (fun c => OwnFrom.and (fun s X Y row hs hg hr => by obtain ⟨e, out, ho, hf⟩ := hs; exact ⟨e, out, ho, ordFound_own (β := List PickX) _ _ _ _ _ _ s X Y row hf hg hr⟩) (ownFrom_below (Nat.le_refl _) (by omega)))
      ⟨fun i h => by simp at h, Below.refl _ _⟩
      (fun pre x a' W => ∃ Bx, w1.heap.size ≤ Bx ∧ Blk W Bx (encStep x.step) 51 ∧ (l[pre.length]? = some x.step ∧ x.rn = l.length - 1 ∧ x.rn ≤ x.rc) ∧ Rows 6 encStep W.heap.size W x.ro (l.eraseIdx pre.length) ∧ a' = { tmps := #[.pointer (some ⟨hb, 0, none⟩), .slice ao l.length cap, .pointer (some ⟨w.heap.size, 0, none⟩), undef, .pointer (some ⟨w.heap.size + 1, 0, none⟩), .pointer (some ⟨w.heap.size + 1 + 1, 0, none⟩), .pointer (some ⟨Bx, 0, none⟩), .slice x.ro x.rn x.rc, undef, undef, undef, .slice ao l.length cap, .int .i64 l.length, .bool false, .slice ao l.length cap, .func (.func 116) #[] #[.pointer (some ⟨w.heap.size + 1 + 1 + 1, 0, none⟩)], .agg (encStep x.step).toArray, .slice x.ro x.rn x.rc, undef, undef, undef, undef, undef, undef, undef, undef, undef, undef, undef, undef, undef, undef, undef, undef, undef, undef, undef, undef], defers := [] })
      (fun pre x a' _ X Y row hs hg hr => by
        obtain ⟨Bx, e1, e2, e3, e4, e5⟩ := hs
        exact ⟨Bx, e1, blk_own (β := Unit) _ _ _ _ () X Y row e2 hg hr, e3, rows_own (β := Unit) _ _ _ () X Y row e4 hg hr, e5⟩)
      ?assign ?body ?done ?stop
    case assign =>
      intro lp pre x W K hi hat hK
      have AT := Lib.hid hat; have IH := Lib.hid hi; have HK := Lib.hid (fun a' W' => hK a' W')
      clear hat hi hK
      obtain ⟨⟨⟨cl, nm, acts, reads, ca, an⟩, ao2, ac2, ro2, rc2⟩, ro, rn, rc⟩ := x
      unfold encPick encStep at *
      simp only at *
      gi_wp2
      have hx : Ext W (W.alloc (.cells #[.int .i64 cl, .int .i64 nm, .slice ao2 acts.length ac2, .slice ro2 reads.length rc2, .int .i64 ca, .int .i64 an] 51)) := (Below.refl _ W).alloc (Nat.le_refl _) _
      exact HK.out _ _ (keeps_ext hx) (Below.mono hx IH.out.2.size) ⟨IH.out.1, Below.trans IH.out.2 (Below.mono hx IH.out.2.size)⟩ ⟨W.heap.size, IH.out.2.size, Blk.new W _ _, ⟨AT.out.1, AT.out.2.1, AT.out.2.2.1⟩, (AT.out.2.2.2.ext hx).mono hx.size, rfl⟩
    case body =>
      rintro lp pre x a' W ⟨hno, hbw⟩ ⟨Bx, hBx, hbX, ⟨hx1, hx2, hx3⟩, hrows, rfl⟩
      have NO := Lib.hid hno; have BW := Lib.hid hbw; have BX := Lib.hid hbX; have HX := Lib.hid hx1; have RW := Lib.hid hrows
      have hlen : (l.eraseIdx pre.length).length = l.length - 1 := by rw [List.length_eraseIdx, if_pos (List.getElem?_eq_some_iff.1 hx1).1]
      have hlk : (l.eraseIdx pre.length).length = k := by rw [hlen, HL.out]; rfl
      obtain ⟨rest, hrest⟩ : ∃ rest, rest = l.eraseIdx pre.length := ⟨_, rfl⟩
      rw [← hrest] at RW hlen hlk
      rw [hx2, ← hlen]
      have HR := Lib.hid hrest; have LK := Lib.hid hlk
      have CC := Lib.hid (containsS_calls 81 #[.pointer (some ⟨Bx, 0, none⟩)] (enters_of Tryz.func81 (by kernel_rfl) rfl) (fun y => lateZ y x.step) rest x.ro x.rc W (by omega) RW.out (fun W' hW y _ => order1_calls y x.step Bx W' (BX.out.ext' hW)))
      clear hno hbw hbX hx1 hx2 hx3 hrows hrest hlen hlk
      gi_wp2_with fail
      refine ⟨trivial, ?_⟩
      refine (CallsIn.inRound lp (callsIn_wide.2 CC.out)).mono ?_
      rintro e w2 ⟨rfl, hx2⟩
      have X2 := Lib.hid hx2
      clear hx2
      have hxl : x.step ∈ l := List.mem_of_getElem? HX.out
      have NS : Hid (ordAt k h l pre.length = none → ∀ i, i < (pre ++ [x]).length → ordAt k h l i = none) := Lib.hid (fun h0 i hi => by
        rcases Nat.lt_or_ge i pre.length with h1 | h1
        · exact NO.out i h1
        · rw [List.length_append] at hi
          have : i = pre.length := by simp at hi; omega
          rw [this]; exact h0)
      cases ha : rest.any (fun y => lateZ y x.step)
      · have AN := Lib.hid ha; clear ha
        have Y2 := Lib.hid (Ext.trans X1.out (Below.trans BW.out (Below.mono X2.out BW.out.size)))
        have c2 := ((B2.out.ext' BW.out).ext' X2.out).cell 0
        simp only [List.getElem?_cons_zero] at c2
        have hh10 : h.1.length ≤ 1000000 := by omega
        have CP := Lib.hid (copiedH_calls (HH.out.ext Y2.out) hh10)
        gi_wp2_with fail
        refine ⟨trivial, ?_⟩
        refine (CallsIn.inRound lp (callsIn_wide.2 CP.out)).mono ?_
        rintro e w3 ⟨hb3, mb3, v3, rfl, hH3, hx3⟩
        have H3 := Lib.hid hH3; have X3 := Lib.hid hx3
        have Y3 := Lib.hid (Ext.trans Y2.out hx3)
        have Z3 := Lib.hid (Ext.trans X2.out hx3)
        have hwW : w.heap.size ≤ W.heap.size := Nat.le_trans X1.out.size BW.out.size
        have hW2 := X2.out.size
        have NX := Lib.hid (next_calls x.step H3.out ((HLV.out.ext Y3.out).up Y2.out.size) hx3.size (((HS.out.2 _ hxl).ext Y3.out).mono Y2.out.size) (HD.out _ hxl) (by omega) (by omega))
        have bx := BX.out.ext' Z3.out
        obtain ⟨z, hz⟩ : ∃ z, z = x.step := ⟨_, rfl⟩
        rw [← hz] at NX bx HX BX hxl AN ⊢
        have HZ := Lib.hid hz
        clear hH3 hx3 c2 hz
        obtain ⟨⟨cl, nm, acts, reads, ca, an⟩, ao2, ac2, ro2, rc2⟩ := z
        unfold encStep at bx NX BX
        simp only at bx NX BX
        have d0 := bx.cell 0; have d1 := bx.cell 1; have d2 := bx.cell 2; have d3 := bx.cell 3; have d4 := bx.cell 4; have d5 := bx.cell 5
        simp only [List.getElem?_cons_zero, List.getElem?_cons_succ] at d0 d1 d2 d3 d4 d5
        clear bx
        gi_wp2_with fail
        refine ⟨trivial, ?_⟩
        refine (CallsIn.inRound lp (callsIn_wide.2 NX.out)).mono ?_
        rintro e w4 hnx
        obtain ⟨rfl, hkept, hmore⟩ := hnx
        have X4 := Lib.hid hkept; have MO := Lib.hid hmore
        clear hkept hmore d0 d1 d2 d3 d4 d5
        obtain ⟨E, hE⟩ : ∃ E, nextE h ⟨cl, nm, acts, reads, ca, an⟩ = E := ⟨_, rfl⟩
        rw [hE] at MO ⊢
        have ND : Hid (nextZ h ⟨⟨cl, nm, acts, reads, ca, an⟩, ao2, ac2, ro2, rc2⟩ = if E ≠ 0 then none else some (stepH h ⟨cl, nm, acts, reads, ca, an⟩)) := Lib.hid (by unfold nextZ nextD; simp only; rw [hE]; rfl)
        have EE := Lib.hid hE
        clear hE
        have Y4 := Lib.hid (Below.trans (Below.mono Z3.out (Nat.le_refl _)) (Below.mono X4.out hW2))
        by_cases h0 : E = 0
        · have g2 : (E != 0) = false := by simp [h0]
          obtain ⟨v4, hH4⟩ := MO.out h0
          have E0 := Lib.hid h0
          have H4 := Lib.hid hH4
          have hsub : ∀ y ∈ rest, y ∈ l := fun y hy => by rw [HR.out] at hy; exact List.mem_of_mem_eraseIdx hy
          have hZ4 : Below w.heap.size w w4 := Below.trans Y3.out (Below.mono X4.out Y2.out.size)
          have hwl := Y3.out.size
          have hs4 : StepsAt w4 x.ro rest := ⟨(RW.out.ext Y4.out).mono (Nat.le_trans Z3.out.size X4.out.size), fun y hy => ((HS.out.2 y (hsub y hy)).ext hZ4).mono (Nat.le_trans hwl X4.out.size)⟩
          have hfew : (stepH h ⟨cl, nm, acts, reads, ca, an⟩).1.length + 6 * k ≤ 10000 := by
            have h1 := (doneK_ok (rows := h.1) (HD.out _ hxl).acts HH.out.ok).2
            have h2 := (rightS_kinds (nextE_zero (EE.out.trans h0)).1).2.1
            have h3 : (stepH h ⟨cl, nm, acts, reads, ca, an⟩).1 = (doneK h.1 acts).1 := rfl
            simp only at h1 h2
            rw [h3]; omega
          have OC := Lib.hid (order_calls k rest x.ro x.rc w4 w2.heap.size hb3 mb3 (n + 1) (stepH h ⟨cl, nm, acts, reads, ca, an⟩) v4 LK.out (by omega) hs4 (fun y hy => HD.out y (hsub y hy)) ((HLV.out.below hZ4).up (Nat.le_trans hwl X4.out.size)) hH4 (by omega) hfew)
          have W4 := Lib.hid hZ4
          clear h0 hH4 hsub hs4 hfew hZ4
          gi_wp2_with fail
          refine ⟨trivial, ?_⟩
          refine (CallsIn.inRound lp (callsIn_wide.2 OC.out)).mono ?_
          rintro e w5 ⟨v5, rfl, hown5, hfr5, hx5⟩
          have Y5 := Lib.hid (Ext.trans Y4.out hx5)
          have O5 := Lib.hid hown5; have F5 := Lib.hid hfr5
          clear hown5 hfr5 hx5
          obtain ⟨r, hr⟩ : ∃ r, ordP nextZ lateZ k (stepH h ⟨cl, nm, acts, reads, ca, an⟩) rest = r := ⟨_, rfl⟩
          rw [hr] at O5 ⊢
          have hgo : ordAt k h l pre.length = r.map (⟨⟨cl, nm, acts, reads, ca, an⟩, ao2, ac2, ro2, rc2⟩ :: ·) := by
            rw [← hr, HR.out]
            exact ordAt_go HX.out (by rw [← HR.out]; exact AN.out) (by rw [ND.out, if_neg (fun e => e E0.out)])
          have GO := Lib.hid hgo
          have RP := Lib.hid (fun out (e : r = some out) => (ordP_spec k _ rest out LK.out (hr.trans e)).1.length_eq)
          have hpl : pre.length < l.length := (List.getElem?_eq_some_iff.1 HX.out).1
          clear hr hgo
          cases r with
          | none =>
            simp only [Option.isSome_none]
            gi_wp2_with fail
            exact ⟨keeps_ext Y5.out, Below.mono Y5.out BW.out.size, NS.out (by rw [GO.out]; rfl), Below.trans BW.out (Below.mono Y5.out BW.out.size)⟩
          | some out =>
            simp only [Option.isSome_some]
            simp only [Option.getD_some] at O5
            have hol : out.length ≤ 8 := by
              have h1 := RP.out out rfl; have h2 := LK.out; omega
            obtain ⟨oo, oc, rfl, -, -, hor⟩ := Rows.own (enc := encStep) (sz := 6) (fun _ => rfl) O5.out
            obtain ⟨i0, hi, hz0, hz1, hz2⟩ := info_parts infoStep
            have OR := Lib.hid hor
            have bx5 := BX.out.ext' Y5.out
            have d0 := bx5.cell 0; have d1 := bx5.cell 1; have d2 := bx5.cell 2; have d3 := bx5.cell 3; have d4 := bx5.cell 4; have d5 := bx5.cell 5
            simp only [List.getElem?_cons_zero, List.getElem?_cons_succ] at d0 d1 d2 d3 d4 d5
            have hxn : Ext w5 (w5.alloc (.cells #[.int .i64 cl, .int .i64 nm, .slice ao2 acts.length ac2, .slice ro2 reads.length rc2, .int .i64 ca, .int .i64 an] 51)) := (Below.refl _ w5).alloc (Nat.le_refl _) _
            have hbn := Blk.new w5 [.int .i64 cl, .int .i64 nm, .slice ao2 acts.length ac2, .slice ro2 reads.length rc2, .int .i64 ca, .int .i64 an] 51
            have hon := own_of_blk (n := 1) (cap := 1) (sz := 6) hbn rfl (Nat.le_refl _) (by unfold maxLen; omega) rfl
            have XN := Lib.hid hxn; have ON := Lib.hid hon
            have K5 := Lib.hid (Ext.trans X1.out (Below.trans BW.out (Below.mono Y5.out BW.out.size)))
            have hws := K5.out.size
            have b4 := (B4.out.ext' BW.out).ext' Y5.out; have b5 := (B5.out.ext' BW.out).ext' Y5.out
            have R4 := Lib.hid b4; have R5 := Lib.hid b5
            clear hor bx5 hxn hbn hon b4 b5 hws
            gi_wp2_with (gi_at_builtin; refine wpListIn_append_rows (enc := encStep) (size := 6) (fun _ => rfl) one_step rfl _ _ 41 rfl 51 i0 _ 80 Tryz.underlying41 hi hz0 hz1 hz2 rfl (by decide) (.slice (some ⟨w5.heap.size, 0, none⟩) 1 1) 1 _ rfl ON.out oo out oc rfl ((OR.out.ext XN.out).mono XN.out.size) (by unfold maxLen; omega) (by omega) ?_; intro v6 w7 hown7 hbut7 hk7; go_must (obtain ⟨g6, c6, rfl⟩ := own_pos hown7 (by omega); have X7 := Lib.hid (ext_but_new XN.out hbut7 (fun i e => by simp [Value.ownBlock] at e; omega)); have O7 := Lib.hid hown7; have Q7 := Lib.hid hk7; have c4 := (R4.out.ext' X7.out).cell 0; have c5 := (R5.out.ext' X7.out).cell 0; have f4 := (R4.out.ext' X7.out).free 0; have f5 := (R5.out.ext' X7.out).free 0; simp only [List.getElem?_cons_zero] at c4 c5; clear hown7 hbut7 hk7))
            have hK7 := Ext.trans K5.out X7.out
            have hs5 := K5.out.size
            have hq : ∀ j, (Value.slice (some ⟨g6, 0, none⟩) (1 + out.length) c6).ownBlock = some j → w5.heap.size ≤ j := fun j e => by
              rcases Q7.out j e with e2 | e2
              · simp [Value.ownBlock] at e2; omega
              · have := XN.out.size; omega
            have hkp : KeepsFrom w1.heap.size W w7 := keeps_ext (Ext.trans Y5.out X7.out)
            have hbw7 : Below w1.heap.size w1 w7 := Below.trans BW.out (Below.mono (Ext.trans Y5.out X7.out) BW.out.size)
            have h17 := hbw7.size
            have h15 := (Below.trans BW.out (Below.mono Y5.out BW.out.size)).size
            refine ⟨(hkp.trans ((KeepsOthers.setCell _ _ _).from _)).trans ((KeepsOthers.setCell _ _ _).from _), ⟨rfl, ⟨⟨cl, nm, acts, reads, ca, an⟩, ao2, ac2, ro2, rc2⟩ :: out, ordP_some2 hpl NO.out (by rw [GO.out]; rfl), ⟨.slice (some ⟨g6, 0, none⟩) (1 + out.length) c6, ?_, ?_, ?_⟩⟩, ?_⟩
            · exact ((R4.out.ext' X7.out).set 0 _).other (a := ⟨w.heap.size + 1 + 1, 0, none⟩) (by simp) _
            · exact ((R5.out.ext' X7.out).other (a := ⟨w.heap.size + 1, 0, none⟩) (by simp) _).set 0 _
            · rw [List.length_cons, Nat.add_comm out.length 1, List.flatMap_cons]
              exact own_setOther (a := ⟨w.heap.size + 1 + 1, 0, none⟩) (own_setOther (a := ⟨w.heap.size + 1, 0, none⟩) (own_base O7.out (fun j e => by have := hq j e; omega)) (fun e => by have := hq _ e; simp at this; omega) _) (fun e => by have := hq _ e; simp at this; omega) _
            · exact (Below.setCell (p := ⟨w.heap.size + 1, 0, none⟩) hK7 (by simp) _).setCell (p := ⟨w.heap.size + 1 + 1, 0, none⟩) (by simp; omega) _
        · have g2 : (E != 0) = true := by simp [h0]
          have h1 : ordAt k h l pre.length = none := ordAt_bad HX.out (by rw [ND.out, if_pos h0])
          have N1 := Lib.hid h1
          clear h0 h1
          gi_wp2_with fail
          exact ⟨keeps_ext Y4.out, Below.mono Y4.out BW.out.size, NS.out N1.out, Below.trans BW.out (Below.mono Y4.out BW.out.size)⟩
      · have AN := Lib.hid ha; clear ha
        gi_wp2_with fail
        have h0 : ordAt k h l pre.length = none := ordAt_late HX.out (by rw [← HR.out]; exact AN.out)
        exact ⟨keeps_ext X2.out, Below.mono X2.out BW.out.size, NS.out h0, Below.trans BW.out (Below.mono X2.out BW.out.size)⟩
    case done =>
      rintro D xs W hD hS ⟨hno, hbw⟩ hK
      have NO := Lib.hid hno; have BW := Lib.hid hbw; have HSX := Lib.hid hS
      have b4 := B4.out.ext' hbw; have b5 := B5.out.ext' hbw
      have c4 := b4.cell 0; have f4 := b4.free 0; have c5 := b5.cell 0; have f5 := b5.free 0
      simp only [List.getElem?_cons_zero] at c4 c5
      have R4 := Lib.hid b4; have R5 := Lib.hid b5
      have DK := Lib.hid hK
      clear hno hbw hS b4 b5 hK
      gi_wp2
      obtain ⟨W2, hW2⟩ : ∃ W2, W2 = (W.setCell ⟨w.heap.size + 1, 0, none⟩ (.slice none 0 0)).setCell ⟨w.heap.size + 1 + 1, 0, none⟩ (.bool false) := ⟨_, rfl⟩
      have q4 : Blk W2 (w.heap.size + 1) [.slice none 0 0] 41 := by rw [hW2]; exact (R4.out.set 0 _).other (a := ⟨w.heap.size + 1 + 1, 0, none⟩) (by simp) _
      have q5 : Blk W2 (w.heap.size + 1 + 1) [.bool false] 4 := by rw [hW2]; exact (R5.out.other (a := ⟨w.heap.size + 1, 0, none⟩) (by simp) _).set 0 _
      have hK' : W2.heap[D]? = some (.deferred (some [])) := by rw [hW2]; exact (KeepsOthers.setCell _ _ _).same D _ ((KeepsOthers.setCell _ _ _).same D _ DK.out rfl) rfl
      have hbel : Below w.heap.size w W2 := by
        have h0 : Below w.heap.size w W := Below.trans X1.out (Below.mono BW.out X1.out.size)
        rw [hW2]; exact (h0.setCell (p := ⟨w.heap.size + 1, 0, none⟩) (by simp) _).setCell (p := ⟨w.heap.size + 1 + 1, 0, none⟩) (by simp; omega) _
      rw [← hW2]
      clear hW2 c4 c5 f4 f5
      refine ⟨by simp, .inl ⟨_, _, rfl, run_takeDeferred hK', ?_⟩⟩
      have hc4 := cell_kept (q4.cell 0) (grownBy_putObj' _ D (.deferred none)) (fun r e => by cases e; exact ⟨_, hK', rfl⟩)
      have hc5 := cell_kept (q5.cell 0) (grownBy_putObj' _ D (.deferred none)) (fun r e => by cases e; exact ⟨_, hK', rfl⟩)
      have hnone : ordP nextZ lateZ (k + 1) h l = none := ordP_none (fun i hi => NO.out i (by rw [HSX.out]; exact hi))
      refine ⟨.tuple #[.slice none 0 0, .bool false], by simp [results, Tryz.f44, go_sem, hc4, hc5], .slice none 0 0, by rw [hnone]; rfl, by rw [hnone]; exact World.ownsRow_nil _ _ _ _, (fun j e => by cases e), ?_⟩
      exact Below.trans hbel (belowK_b (w := w) (Nat.le_refl _) W2 D _ _ (by omega) hK' rfl rfl)
    case stop =>
      rintro D c pre W hD ⟨⟨rfl, out, ho, hf⟩, hbw⟩ hK'
      obtain ⟨v6, q4, q5, o6⟩ := hf.out
      gi_wp2
      refine ⟨by simp, .inl ⟨_, _, rfl, run_takeDeferred hK', ?_⟩⟩
      have hc4 := cell_kept (q4.cell 0) (grownBy_putObj' _ D (.deferred none)) (fun r e => by cases e; exact ⟨_, hK', rfl⟩)
      have hc5 := cell_kept (q5.cell 0) (grownBy_putObj' _ D (.deferred none)) (fun r e => by cases e; exact ⟨_, hK', rfl⟩)
      have ho6 := ownsRow_own (β := Unit) D _ _ _ _ _ _ () W (W.putObj D (.deferred none)) _ o6 (grownBy_putObj' _ D (.deferred none)) (fun r e => by cases e; exact ⟨Nat.le_refl _, _, hK', rfl⟩)
      refine ⟨.tuple #[v6, .bool true], by simp [results, Tryz.f44, go_sem, hc4, hc5], v6, by rw [ho]; rfl, by rw [ho]; exact own_base ho6 (fun _ _ => Nat.zero_le _), fun j e => own_ge o6 j e, ?_⟩
      exact Below.trans hbw (belowK_b (w := w) (Nat.le_refl _) W D _ _ (by omega) hK' rfl rfl)
end Go.Proofs.YtbnclifpdmpjnaaGreatDoor
