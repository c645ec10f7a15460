/- Right steps: witness.right, Right; late. -/
import Derived.Test.YtbnclifpdmpjnaaGreatDoorZ10
import Derived.Test.YtbnclifpdmpjnaaGreatDoorZ04
import Derived.Test.YtbnclifpdmpjnaaGreatDoorZ06
import Derived.Test.YtbnclifpdmpjnaaGreatDoorZ16
namespace Go.Proofs.YtbnclifpdmpjnaaGreatDoor
open Go.RowKit
theorem stepName_calls (c n : Int) (w : World) : Calls Tryz.prog 108 #[.agg #[.int .i64 c, .int .i64 n]] w fun e w' => e = .returned (.bool (nameS c n)) ∧ Ext w w' := by
  have HX := Lib.hid (show Ext w (w.alloc (.cells #[.int .i64 c, .int .i64 n] 26)) from (Below.refl _ w).alloc (Nat.le_refl _) _)
  have e0 : nameS c n = (decide (1 ≤ c) && decide (c ≤ 8) && decide (1 ≤ n) && decide (n ≤ 1073741824)) := rfl
  cases h1 : decide (1 ≤ c) <;> cases h2 : decide (c ≤ 8) <;> cases h3 : decide (1 ≤ n) <;> cases h4 : decide (n ≤ 1073741824) <;> rw [h1, h2, h3, h4] at e0
  all_goals
    have E0 := Lib.hid e0; clear e0
    go_enter Tryz.func108, Tryz.ntmps108
    go_wp2
    go_ret
    exact ⟨ret_bool (by rw [E0.out]; rfl), HX.out⟩
theorem chain4 : ∀ a b c d : Bool, (a = true ∧ b = true ∧ c = true ∧ d = true) ∨ a = false ∨ (a = true ∧ b = false) ∨ (a = true ∧ b = true ∧ c = false) ∨ (a = true ∧ b = true ∧ c = true ∧ d = false) := by decide
theorem chain2 : ∀ a b : Bool, (a = false ∧ b = false) ∨ (a = false ∧ b = true) ∨ a = true := by decide
set_option maxRecDepth 100000 in
theorem stepRight_calls (z : StepZ) (w : World) (hz : z.at w.heap.size w) (hd : z.d.ok) :
    Calls Tryz.prog 77 #[.agg (encStep z).toArray] w fun e w' => e = .returned (.bool (rightS z.d)) ∧ Ext w w' := by
  obtain ⟨⟨cl, nm, acts, reads, ca, an⟩, ao, ac, ro, rc⟩ := z
  have hok := hd.acts; have han := hd.an
  obtain ⟨hza, -⟩ := hz
  simp only at hok han hza ⊢
  have HX := Lib.hid (show Ext w (w.alloc (.cells #[.int .i64 cl, .int .i64 nm, .slice ao acts.length ac, .slice ro reads.length rc, .int .i64 ca, .int .i64 an] 51)) from (Below.refl _ w).alloc (Nat.le_refl _) _)
  have HB := Lib.hid (Blk.new w [.int .i64 cl, .int .i64 nm, .slice ao acts.length ac, .slice ro reads.length rc, .int .i64 ca, .int .i64 an] 51)
  have HR := Lib.hid (fun W (hW : Ext w W) => rights_calls right_calls acts ao ac W han hok ((hza.ext hW).mono hW.size))
  have e0 : rightS ⟨cl, nm, acts, reads, ca, an⟩ = ((decide (0 ≤ ca) && decide (ca ≤ 1073741824) && decide (0 ≤ an) && decide (an ≤ 1073741824)) && nameS cl nm && rightsB acts && ((an == 0) || decide (ca < an))) := by
    unfold rightS timeB
    rfl
  generalize rightS _ = res at e0 ⊢
  obtain ⟨b1, h1⟩ : ∃ b, decide (0 ≤ ca) = b := ⟨_, rfl⟩
  obtain ⟨b2, h2⟩ : ∃ b, decide (ca ≤ 1073741824) = b := ⟨_, rfl⟩
  obtain ⟨b3, h3⟩ : ∃ b, decide (0 ≤ an) = b := ⟨_, rfl⟩
  obtain ⟨b4, h4⟩ : ∃ b, decide (an ≤ 1073741824) = b := ⟨_, rfl⟩
  obtain ⟨b5, h5⟩ : ∃ b, (an == 0) = b := ⟨_, rfl⟩
  obtain ⟨b6, h6⟩ : ∃ b, decide (ca < an) = b := ⟨_, rfl⟩
  rw [h1, h2, h3, h4, h5, h6] at e0
  have E0 := Lib.hid e0
  unfold encStep
  clear e0 hza hok hd
  rcases chain4 b1 b2 b3 b4 with ⟨rfl, rfl, rfl, rfl⟩ | h
  · go_enter Tryz.func77, Tryz.ntmps77
    go_wp2_with fail
    refine (stepName_calls cl nm _).mono ?_
    rintro e w2 ⟨rfl, hx⟩
    have X2 := Lib.hid (Ext.trans HX.out hx)
    have hb := HB.out.ext' hx
    have c2 := hb.cell 2; have c4 := hb.cell 4; have c5 := hb.cell 5
    simp only [List.getElem?_cons_zero, List.getElem?_cons_succ] at c2 c4 c5
    have B2 := Lib.hid hb; clear hx hb
    cases hn : nameS cl nm
    · have HN := Lib.hid hn; clear hn
      go_wp2_with fail
      go_ret
      exact ⟨ret_bool (by rw [E0.out, HN.out]; simp), X2.out⟩
    · have HN := Lib.hid hn; clear hn
      go_wp2_with fail
      refine (HR.out _ X2.out).mono ?_
      rintro e w3 ⟨rfl, hx⟩
      have X3 := Lib.hid (Ext.trans X2.out hx)
      have hb := B2.out.ext' hx
      have c4 := hb.cell 4; have c5 := hb.cell 5
      simp only [List.getElem?_cons_zero, List.getElem?_cons_succ] at c4 c5
      clear hx hb
      cases hr : rightsB acts
      · have HR2 := Lib.hid hr; clear hr
        go_wp2_with fail
        go_ret
        exact ⟨ret_bool (by rw [E0.out, HN.out, HR2.out]; simp), X3.out⟩
      · have HR2 := Lib.hid hr; clear hr
        rcases chain2 b5 b6 with ⟨rfl, rfl⟩ | ⟨rfl, rfl⟩ | rfl
        all_goals
          go_wp2_with fail
          go_ret
          exact ⟨ret_bool (by rw [E0.out, HN.out, HR2.out]; simp), X3.out⟩
  · rcases h with rfl | ⟨rfl, rfl⟩ | ⟨rfl, rfl, rfl⟩ | ⟨rfl, rfl, rfl, rfl⟩
    all_goals
      go_enter Tryz.func77, Tryz.ntmps77
      go_wp2_with fail
      go_ret
      exact ⟨ret_bool (by rw [E0.out]; simp), HX.out⟩
def StepsAt (w : World) (ao : Option Addr) (l : List StepZ) : Prop := Rows 6 encStep w.heap.size w ao l ∧ ∀ z ∈ l, z.at w.heap.size w
theorem StepsAt.ext {w w' : World} {ao : Option Addr} {l : List StepZ} (h : StepsAt w ao l) (hx : Ext w w') : StepsAt w' ao l :=
  ⟨(h.1.ext hx).mono hx.size, fun z hz => ((h.2 z hz).ext hx).mono hx.size⟩
theorem late_calls (a b : StepZ) (w : World) : Calls Tryz.prog 82 #[.agg (encStep a).toArray, .agg (encStep b).toArray] w fun e w' => e = .returned (.bool (lateD a.d b.d)) ∧ Ext w w' := by
  obtain ⟨⟨cl, nm, acts, reads, ca, an⟩, ao, ac, ro, rc⟩ := a
  obtain ⟨⟨cl', nm', acts', reads', ca', an'⟩, ao', ac', ro', rc'⟩ := b
  have e0 : lateD ⟨cl, nm, acts, reads, ca, an⟩ ⟨cl', nm', acts', reads', ca', an'⟩ = ((an != 0) && decide (an ≤ ca')) := rfl
  generalize lateD _ _ = res at e0 ⊢
  have hX : Ext w ((w.alloc (.cells (encStep ⟨⟨cl, nm, acts, reads, ca, an⟩, ao, ac, ro, rc⟩).toArray 51)).alloc (.cells (encStep ⟨⟨cl', nm', acts', reads', ca', an'⟩, ao', ac', ro', rc'⟩).toArray 51)) := ((Below.refl _ w).alloc (Nat.le_refl _) _).alloc (by simp) _
  have HX := Lib.hid hX; clear hX
  unfold encStep at HX ⊢
  cases h1 : (an != 0) <;> cases h2 : decide (an ≤ ca')
  all_goals
    rw [h1, h2] at e0
    have E0 := Lib.hid e0; clear e0
    go_enter Tryz.func82, Tryz.ntmps82
    go_wp2_with fail
    go_ret
    exact ⟨ret_bool (by rw [E0.out]; rfl), HX.out⟩
end Go.Proofs.YtbnclifpdmpjnaaGreatDoor
/- What steps leave and tell, in plain words: laws that ask no document. -/
namespace Go.Proofs.YtbnclifpdmpjnaaGreatDoor
def stepH (h : Hist) (x : StepD) : Hist := ((doneD h.1 x.acts).1, h.2 ++ [(x.cl, x.nm)])
def histF (h : Hist) (l : List StepD) : Hist := l.foldl stepH h
def histAt (l : List StepD) (i : Nat) : Hist := histF ([], []) (l.take i)
theorem fit_stopF : ∀ (l : List StepD) (h : Hist) (n i : Nat) (x : StepD), l[i]? = some x → (∀ (j : Nat) (y : StepD), j < i → l[j]? = some y → nextE (histF h (l.take j)) y = 0) → nextE (histF h (l.take i)) x ≠ 0 → fitGo h n l = (n + i, nextE (histF h (l.take i)) x)
  | [], _, _, i, x, hx, _, _ => by simp at hx
  | y :: l, h, n, 0, x, hx, _, he => by
    simp only [List.getElem?_cons_zero, Option.some.injEq] at hx
    subst hx
    rw [List.take_zero] at he ⊢
    rw [fitGo]
    exact if_pos he
  | y :: l, h, n, i + 1, x, hx, ha, he => by
    have h0 := ha 0 y (by omega) rfl
    rw [List.take_zero] at h0
    rw [fitGo, if_neg (fun e => e h0)]
    simp only [List.getElem?_cons_succ] at hx
    have := fit_stopF l (stepH h y) (n + 1) i x hx (fun j z hj hz => ha (j + 1) z (by omega) (by simpa using hz)) he
    rw [show n + (i + 1) = n + 1 + i from by omega]
    exact this
theorem fit_endF : ∀ (l : List StepD) (h : Hist) (n : Nat), (∀ (j : Nat) (y : StepD), l[j]? = some y → nextE (histF h (l.take j)) y = 0) → fitGo h n l = (n + l.length, 0)
  | [], _, n, _ => rfl
  | y :: l, h, n, ha => by
    have h0 := ha 0 y rfl
    rw [List.take_zero] at h0
    rw [fitGo, if_neg (fun e => e h0), List.length_cons, show n + (l.length + 1) = n + 1 + l.length from by omega]
    exact fit_endF l (stepH h y) (n + 1) (fun j z hz => ha (j + 1) z (by simpa using hz))
theorem fit_stop {l : List StepD} {i : Nat} {x : StepD} (hx : l[i]? = some x) (ha : ∀ (j : Nat) (y : StepD), j < i → l[j]? = some y → nextE (histAt l j) y = 0) (he : nextE (histAt l i) x ≠ 0) : fitD l = (i, nextE (histAt l i) x) := by
  have := fit_stopF l ([], []) 0 i x hx ha he
  rwa [Nat.zero_add] at this
theorem fit_end {l : List StepD} (ha : ∀ (j : Nat) (y : StepD), l[j]? = some y → nextE (histAt l j) y = 0) : fitD l = (l.length, 0) := by
  have := fit_endF l ([], []) 0 ha
  rwa [Nat.zero_add] at this
theorem histAt_succ {l : List StepD} {i : Nat} {x : StepD} (hx : l[i]? = some x) : histAt l (i + 1) = stepH (histAt l i) x := by
  unfold histAt histF
  rw [List.take_add_one, hx, Option.toList_some, List.foldl_append]; rfl
theorem nextE_zero {h : Hist} {x : StepD} (he : nextE h x = 0) : rightS x = true ∧ (x.cl, x.nm) ∉ h.2 ∧ (doneD h.1 x.acts).2 = x.reads := by
  unfold nextE at he
  split at he
  · cases he
  · rename_i h1
    split at he
    · cases he
    · rename_i h2
      split at he
      · cases he
      · rename_i h3
        exact ⟨by simpa using h1, h2, Classical.not_not.1 h3⟩
end Go.Proofs.YtbnclifpdmpjnaaGreatDoor
/- A history's next step; a history begun, and copied. -/
namespace Go.Proofs.YtbnclifpdmpjnaaGreatDoor
open Go.RowKit
open Go.Maps (Keyed)
structure NextAt (B hb mb n : Nat) (h : Hist) (x : StepD) (w : World) (e : Ending) (w' : World) : Prop where
  ret : e = .returned (.int .i64 (nextE h x))
  kept : Below B w w'
  more : nextE h x = 0 → ∃ v', HistAt B w' hb (stepH h x) v' mb (n + 1)
variable {B : Nat} {w w' : World} {hb mb n : Nat} {h : Hist} {v : Value}
theorem HistAt.tab (H : HistAt B w hb h v mb n) : TabAt B w hb v (.map (some mb)) h.1 := ⟨H.blk, H.row, H.rise, H.ok⟩
theorem LV.up {B B' : Nat} {w : World} (hl : LV B w) (hB : B ≤ B') : LV B' w := ⟨hl.pow10, hl.errSyntax, hl.errRange, by have := hl.bd; omega⟩
theorem own2_ge (H : HistAt B w hb h v mb n) {j : Nat} (e : Own2 hb v j) : B ≤ j := by
  rcases e with e | e
  · rw [e]; exact H.ge
  · exact (H.row.lt j e).1
theorem HistAt.but {S : Nat → Prop} (H : HistAt B w hb h v mb n) (hx : But S w w') (h1 : ¬ S hb) (h2 : ∀ k, v.ownBlock = some k → ¬ S k) (h3 : ¬ S mb) : HistAt B w' hb h v mb n :=
  ⟨H.blk.but hx h1, H.ge, own_but H.row hx h2, H.map.same (hx.block _ H.map.lt h3), H.mge, H.rise, H.ok, H.few, H.names⟩
theorem own_noCells {w : World} {B : Nat} {e : TypeId} {size n b : Nat} {v : Value} {xs : List Value} (h : w.ownsRow B e size v n xs) (hn : NoCells w b) : v.ownBlock ≠ some b := by
  intro hv
  rcases h.2 with ⟨rfl, _⟩ | ⟨g, cap, cur, rfl, _, hg, _⟩
  · cases hv
  · simp only [Value.ownBlock, Option.some.injEq] at hv
    subst hv; exact hn _ _ _ hg
theorem Blk.noCells {w : World} {b g : Nat} {cs : List Value} {t : TypeId} (h : Blk w g cs t) (hn : NoCells w b) : g ≠ b := fun e => by subst e; exact hn _ _ _ h
theorem inNames_snoc (ns : List (Int × Int)) (p : Int × Int) (x : Lit) : inNames (ns ++ [p]) x = (decide (x = nameLit p) || inNames ns x) := by
  unfold inNames
  rw [Bool.eq_iff_iff]
  simp only [List.map_append, List.map_cons, List.map_nil, List.mem_append, List.mem_singleton, decide_eq_true_eq, Bool.or_eq_true]
  exact Or.comm
set_option maxRecDepth 100000 in
set_option maxHeartbeats 3200000 in
theorem next_calls (z : StepZ) (H : HistAt B w hb h v mb n) (hlv : LV B w) (hB : B ≤ w.heap.size) (hz : z.at B w) (hd : z.d.ok) (hn : n < 1000) (hrl : h.1.length ≤ 100000) :
    Calls Tryz.prog 43 #[.pointer (some ⟨hb, 0, none⟩), .agg (encStep z).toArray] w (NextAt B hb mb n h z.d w) := by
  obtain ⟨d, ao, ac, ro, rc⟩ := z
  obtain ⟨cl, nm, acts, reads, ca, an⟩ := d
  have HR := Lib.hid (fun W (hW : Ext w W) => stepRight_calls ⟨⟨cl, nm, acts, reads, ca, an⟩, ao, ac, ro, rc⟩ W ((hz.mono hB).ext hW |>.mono hW.size) hd)
  have HH := Lib.hid H; have HLV := Lib.hid hlv; have HB := Lib.hid hB; have HZ := Lib.hid hz; have HD := Lib.hid hd
  have hrk := fun hr => rightS_kinds (x := ⟨cl, nm, acts, reads, ca, an⟩) hr
  have HRK := Lib.hid hrk
  have hdef : nextE h ⟨cl, nm, acts, reads, ca, an⟩ = if rightS ⟨cl, nm, acts, reads, ca, an⟩ = false then 2 else if (cl, nm) ∈ h.2 then 7 else if (doneD h.1 acts).2 ≠ reads then 4 else 0 := rfl
  have ND := Lib.hid hdef
  clear H hlv hB hz hd hrk hdef
  unfold encStep at HR ⊢
  simp only at HR ⊢
  obtain ⟨w1, hw1⟩ : ∃ w1, w1 = w.alloc (.cells #[.int .i64 cl, .int .i64 nm, .slice ao acts.length ac, .slice ro reads.length rc, .int .i64 ca, .int .i64 an] 51) := ⟨_, rfl⟩
  have X1 : Hid (Ext w w1) := Lib.hid (by rw [hw1]; exact (Below.refl _ w).alloc (Nat.le_refl _) _)
  have B1 : Hid (Blk w1 w.heap.size [.int .i64 cl, .int .i64 nm, .slice ao acts.length ac, .slice ro reads.length rc, .int .i64 ca, .int .i64 an] 51) := Lib.hid (by rw [hw1]; exact Blk.new w _ _)
  have HW := Lib.hid hw1
  clear hw1
  have hb1 := B1.out.cell 0; have hb2 := B1.out.cell 1; have hb3 := B1.out.cell 2; have hb4 := B1.out.cell 3; have hb5 := B1.out.cell 4; have hb6 := B1.out.cell 5
  simp only [List.getElem?_cons_zero, List.getElem?_cons_succ] at hb1 hb2 hb3 hb4 hb5 hb6
  go_enter Tryz.func43, Tryz.ntmps43
  go_wp2_with fail
  rw [← HW.out]
  refine (HR.out _ X1.out).mono ?_
  rintro e w2 ⟨rfl, hx2⟩
  have X2 := Lib.hid hx2
  have Y2 := Lib.hid (Ext.trans X1.out hx2)
  have B2 := Lib.hid (B1.out.ext' hx2)
  clear hx2 hb1 hb2 hb3 hb4 hb5 hb6
  cases hr : rightS ⟨cl, nm, acts, reads, ca, an⟩
  · have R := Lib.hid hr; clear hr
    go_wp2_with fail
    go_ret
    have e2 : nextE h ⟨cl, nm, acts, reads, ca, an⟩ = 2 := by rw [ND.out, if_pos R.out]
    exact ⟨by rw [e2]; rfl, Y2.out.mono HB.out, fun e => by rw [e2] at e; cases e⟩
  · have R := Lib.hid hr; clear hr
    have H2 := HH.out.ext Y2.out
    have hkey : keyOf Tryz.prog 26 (.agg #[.int .i64 cl, .int .i64 nm]) = some (nameLit (cl, nm)) := nameLit_key HD.out.cl HD.out.nm
    have hhas := H2.has HD.out.cl HD.out.nm
    have hlk : ∀ p : ExtBy w2, (Instr.lookup 150 (.map (some mb)) (.agg #[.int .i64 cl, .int .i64 nm]) false).run Tryz.prog p.W = .ok (.bool (inNames h.2 (nameLit (cl, nm)))) p.W := fun p =>
      (H2.map.ext p.ext).lookup nameKeyed Tryz.underlying150 (by kernel_rfl) hkey
    rw [hhas] at hlk
    have c1 := ExtBy.cell (show w2.cell? ⟨hb, 1, none⟩ = some (.map (some mb)) from H2.blk.cell 1)
    have d0 := ExtBy.cell (show w2.cell? ⟨w.heap.size, 0, none⟩ = some (.int .i64 cl) from B2.out.cell 0); have d1 := ExtBy.cell (show w2.cell? ⟨w.heap.size, 1, none⟩ = some (.int .i64 nm) from B2.out.cell 1)
    have HH2 := Lib.hid H2; have KEY := Lib.hid hkey
    clear H2 hkey hhas
    cases hin : decide ((cl, nm) ∈ h.2)
    all_goals
      rw [hin] at hlk
      have IN := Lib.hid hin; clear hin
      go_wp2_with fail
      refine wp_region_ext (by kernel_rfl) (by kernel_rfl) ?_
      repeat (go_big_quiet_step (fail))
      refine wpQuiet_nil ?_
      intro wc hw'
      have hxc : Ext w2 wc := by obtain ⟨p, rfl⟩ := hw'; exact p.ext
      have XC := Lib.hid hxc
      clear hw' hlk c1 d0 d1 hxc
    · go_wp2_with fail
      have H3 := HH2.out.ext XC.out
      have hnc := H3.map.noCells
      have hnb : hb ≠ mb := H3.blk.noCells hnc
      have hno : v.ownBlock ≠ some mb := own_noCells H3.row hnc
      have B3 := B2.out.ext' XC.out
      have c1 := H3.blk.cell 1; have d0 := B3.cell 0; have d1 := B3.cell 1
      simp only [List.getElem?_cons_zero, List.getElem?_cons_succ] at c1 d0 d1
      have hxd : Ext wc wc.drew := (Below.refl _ wc).drew
      obtain ⟨w4, hrun, hmap, hg⟩ := (H3.map.ext hxd).update (e := 4) nameKeyed Tryz.underlying150 (by unfold maxLen; omega) (v := .bool true) KEY.out
      have hb4 : But (fun j => j = mb) wc w4 := ((But.refl (fun j => j = mb) wc).drew).trans ((But.of_grown hg).mono fun i _ e => (Option.some.inj e).symm) (fun _ _ e => e) (fun _ _ e => e)
      have M4 := Lib.hid hmap; have BB4 := Lib.hid hb4
      have Y3 := Lib.hid (Ext.trans Y2.out XC.out)
      have T4 := Lib.hid (H3.tab.but hb4 hnb (fun k e e2 => hno (by rw [e, show k = mb from e2])))
      have K4 : Hid (Blk w4 w.heap.size [.int .i64 cl, .int .i64 nm, .slice ao acts.length ac, .slice ro reads.length rc, .int .i64 ca, .int .i64 an] 51) := Lib.hid (B3.but hb4 (B3.noCells hnc))
      have NB := Lib.hid hnb; have NO := Lib.hid hno
      have hms := H3.mge
      have L4 : Hid (Below B w w4) := Lib.hid ((Y3.out.mono HB.out).trans (hb4.below (by have := HB.out; have := Y3.out.size; omega) (fun i e => by rw [show i = mb from e]; exact hms)))
      clear hmap hg hb4 hxd B3 hnc H3 hnb hno
      go_still_tail 6, (by kernel_rfl)
      change wpList _ _ _ _ _ wc.drew
      go_wp2_with fail
      clear c1 d0 d1 hrun
      obtain ⟨hk3, hal, hkz⟩ := HRK.out R.out
      have hs4 : B ≤ w4.heap.size := Nat.le_trans HB.out L4.out.size
      have hge : ∀ j, Own2 hb v j → B ≤ j := fun j e => own2_ge HH.out e
      have na : NRows 4 encAct (Own2 hb v) w4 ao acts := ((HZ.out.1).ext L4.out).nrows hs4 (fun b hb3 e => by have := hge b e; omega)
      have nr : NRows 3 encRd (Own2 hb v) w4 ro reads := ((HZ.out.2).ext L4.out).nrows hs4 (fun b hb3 e => by have := hge b e; omega)
      have hDO := histDo_calls ⟨⟨cl, nm, acts, reads, ca, an⟩, ao, ac, ro, rc⟩ (T4.out.ext (Below.refl _ w4).drew) hs4 ((HLV.out.below L4.out).below (Below.refl _ w4).drew) HH.out.ge (na.ext (Below.refl _ w4).drew) HD.out.acts hk3 (by show acts.length ≤ 1000; omega) hrl
      unfold encStep at hDO
      simp only at hDO
      have DOC := Lib.hid hDO
      have NA := Lib.hid na; have NR := Lib.hid nr; have GE := Lib.hid hge
      have hnS : ¬ Own2 hb v w.heap.size := fun e => by
        rcases e with e | e
        · have := HH.out.blk.lt; omega
        · have := (HH.out.row.lt _ e).2; omega
      have a0 := ButBy.cell (S := Own2 hb v) (show w4.cell? ⟨w.heap.size, 0, none⟩ = some (.int .i64 cl) from K4.out.cell 0) hnS
      have a1 := ButBy.cell (S := Own2 hb v) (show w4.cell? ⟨w.heap.size, 1, none⟩ = some (.int .i64 nm) from K4.out.cell 1) hnS
      have a2 := ButBy.cell (S := Own2 hb v) (show w4.cell? ⟨w.heap.size, 2, none⟩ = some (.slice ao acts.length ac) from K4.out.cell 2) hnS
      have a3 := ButBy.cell (S := Own2 hb v) (show w4.cell? ⟨w.heap.size, 3, none⟩ = some (.slice ro reads.length rc) from K4.out.cell 3) hnS
      have a4 := ButBy.cell (S := Own2 hb v) (show w4.cell? ⟨w.heap.size, 4, none⟩ = some (.int .i64 ca) from K4.out.cell 4) hnS
      have a5 := ButBy.cell (S := Own2 hb v) (show w4.cell? ⟨w.heap.size, 5, none⟩ = some (.int .i64 an) from K4.out.cell 5) hnS
      have BD : Hid (But (Own2 hb v) w4 w4.drew) := Lib.hid (But.refl _ w4).drew
      clear hDO na nr hge hnS hms hk3 hal hkz hs4
      refine wp_region_firstC (fun W => ∃ p : ButBy (Own2 hb v) w4, W = p.W) [0, 1, 3, 4] 3 (by kernel_rfl) (by kernel_rfl) (fun _ _ _ _ h => h) ⟨⟨w4.drew, BD.out⟩, rfl⟩ ?_
      simp only [opsAt, List.getElem?_toArray, List.getElem?_cons_succ, List.getElem?_cons_zero]
      repeat (go_big_quiet_step (fail))
      refine wpQuiet_nil ?_
      clear a0 a1 a2 a3 a4 a5
      refine wpAnyH_ready (rs := [2]) (by kernel_rfl) (by simp) ?_
      refine AllReadyH.cons rfl (fun K hK => ?_) AllReadyH.nil
      go_simp
      refine DOC.out.mono ?_
      rintro e w6 hdone
      obtain ⟨rv, v6, rfl, hrv, -, hT6, -, hb6⟩ := hdone.out
      obtain ⟨ra, rcap, rfl, -, -, hrr⟩ := Rows.own (enc := encRd) (sz := 3) (fun _ => rfl) hrv
      have BB6 := Lib.hid (BD.out.trans hb6 (fun _ _ e => e) (fun _ _ e => e))
      have T6 := Lib.hid hT6
      have EQ := Lib.hid (equalReads_calls (doneD h.1 acts).2 reads ra ro rcap rc w6 (Nat.le_trans (tell_len _ _) HD.out.an) hrr ((NR.out.but BB6.out (fun _ _ e => e)).rows))
      clear hdone hrv hT6 hb6 hrr
      refine hK.out _ _ ⟨⟨_, BB6.out⟩, rfl⟩ (fun _ => ?_)
      clear hK K
      refine wpAnyH_ready (rs := [5]) (by kernel_rfl) (by simp) ?_
      refine AllReadyH.cons rfl (fun K hK => ?_) AllReadyH.nil
      go_simp
      refine EQ.out.mono ?_
      rintro e w7 ⟨rfl, hx7⟩
      have BB7 := Lib.hid (BB6.out.trans (Ext.but hx7 (fun _ => False)) (fun _ _ e => e) (fun _ _ e => e.elim))
      have X7 := Lib.hid hx7
      clear hx7
      refine hK.out _ _ ⟨⟨_, BB7.out⟩, rfl⟩ (fun _ => ?_)
      clear hK K
      refine wp_takesC (f := 0) [6] (by kernel_rfl) (fun _ _ _ _ h => h) ⟨⟨_, BB7.out⟩, rfl⟩ ?_
      simp only [opsAt, List.getElem?_toArray, List.getElem?_cons_succ, List.getElem?_cons_zero]
      repeat (go_big_quiet_step (fail))
      refine wpQuiet_nil ?_
      refine wpAnyH_done (by kernel_rfl) ?_ _
      have L7 : Hid (Below B w w7) := Lib.hid (L4.out.trans (BB7.out.below (Nat.le_trans HB.out L4.out.size) (fun i e => GE.out i e)))
      cases hq : decide ((doneD h.1 acts).2 = reads)
      · have Q := Lib.hid hq; clear hq
        go_wp2_with fail
        go_ret
        have e2 : nextE h ⟨cl, nm, acts, reads, ca, an⟩ = 4 := by rw [ND.out, if_neg (by rw [R.out]; simp), if_neg (of_decide_eq_false IN.out), if_pos (of_decide_eq_false Q.out)]
        exact ⟨by rw [e2]; rfl, L7.out, fun e => by rw [e2] at e; cases e⟩
      · have Q := Lib.hid hq; clear hq
        go_wp2_with fail
        go_ret
        have e2 : nextE h ⟨cl, nm, acts, reads, ca, an⟩ = 0 := by rw [ND.out, if_neg (by rw [R.out]; simp), if_neg (of_decide_eq_false IN.out), if_neg (fun e => e (of_decide_eq_true Q.out))]
        refine ⟨by rw [e2]; rfl, L7.out, fun _ => ⟨v6, ?_⟩⟩
        have T7 := T6.out.ext X7.out
        have hm7 : MapF Tryz.prog 26 w7 mb (n + 1) (.bool false) (fun x => if x = nameLit (cl, nm) then .bool true else .bool (inNames h.2 x)) (fun x => decide (x = nameLit (cl, nm)) || inNames h.2 x) :=
          M4.out.same (BB7.out.block _ M4.out.lt (fun e => by
            rcases e with e | e
            · exact NB.out e.symm
            · exact NO.out e))
        refine ⟨T7.blk, HH.out.ge, T7.row, hm7.congr (fun x => ?_) (fun x => (inNames_snoc _ _ _).symm), HH.out.mge, T7.rise, T7.ok, by omega, fun p hp => ?_⟩
        · show _ = Value.bool (inNames (h.2 ++ [(cl, nm)]) x)
          rw [inNames_snoc]
          by_cases e : x = nameLit (cl, nm) <;> simp [e]
        · rcases List.mem_append.1 hp with hp | hp
          · exact HH.out.names p hp
          · rw [List.mem_singleton] at hp
            subst hp; exact ⟨HD.out.cl, HD.out.nm⟩
    · go_wp2_with fail
      go_ret
      have e2 : nextE h ⟨cl, nm, acts, reads, ca, an⟩ = 7 := by rw [ND.out, if_neg (by rw [R.out]; simp), if_pos (of_decide_eq_true IN.out)]
      exact ⟨by rw [e2]; rfl, (Ext.trans Y2.out XC.out).mono HB.out, fun e => by rw [e2] at e; cases e⟩
end Go.Proofs.YtbnclifpdmpjnaaGreatDoor
