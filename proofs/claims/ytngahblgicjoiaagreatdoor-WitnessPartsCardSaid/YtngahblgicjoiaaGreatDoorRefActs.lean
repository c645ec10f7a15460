/- The reference's Keys, by insertion, are the program's: plain lists. -/
import Derived.Test.YtngahblgicjoiaaGreatDoorKeysLaw
import Derived.Test.YtngahblgicjoiaaGreatDoorKeys
import Derived.Test.YtngahblgicjoiaaGreatDoorMem
import Derived.Test.YtngahblgicjoiaaGreatDoorSame
import Derived.Test.YtngahblgicjoiaaGreatDoorOf
import Derived.Test.YtngahblgicjoiaaGreatDoorStr
import Derived.Lib.ItoaLen
import Derived.Test.YtngahblgicjoiaaGreatDoorDo2
namespace Go.Proofs.YtngahblgicjoiaaGreatDoor

/-- How many texts stand ahead of a key in a rising row. -/
def placeT (key : Txt) (q : List Txt) : Nat := (q.takeWhile fun x => decide (x < key)).length
def insT (key : Txt) (q : List Txt) : List Txt := if q[placeT key q]? = some key then q else q.take (placeT key q) ++ [key] ++ q.drop (placeT key q)
def insAll (l : List Txt) : List Txt := l.foldl (fun q k => insT k q) []

theorem takeWhile_len {α : Type} (p : α → Bool) : ∀ (q : List α) (j : Nat), j ≤ q.length → (∀ (i : Nat) (x : α), i < j → q[i]? = some x → p x = true) → (∀ x, q[j]? = some x → p x = false) → (q.takeWhile p).length = j
  | [], j, hj, _, _ => by simp at hj; simp [hj]
  | a :: q, 0, _, _, h => by
    have := h a rfl
    simp [this]
  | a :: q, j + 1, hj, h1, h2 => by
    have ha := h1 0 a (by omega) rfl
    rw [List.takeWhile_cons, if_pos ha, List.length_cons, takeWhile_len p q j (by simpa using hj) (fun i x hi hx => h1 (i + 1) x (by omega) (by simpa using hx)) (fun x hx => h2 x (by simpa using hx))]
theorem place_at (key : Txt) (q : List Txt) (j : Nat) (hj : j ≤ q.length) (h1 : ∀ (i : Nat) (x : Txt), i < j → q[i]? = some x → x < key) (h2 : ∀ x, q[j]? = some x → ¬ x < key) : placeT key q = j :=
  takeWhile_len _ q j hj (fun i x hi hx => by simpa using h1 i x hi hx) (fun x hx => by simpa using h2 x hx)

theorem insT_spec (key : Txt) (q : List Txt) (hq : q.Pairwise fun a b => a < b) : (insT key q).Pairwise (fun a b => a < b) ∧ ∀ x, x ∈ insT key q ↔ x = key ∨ x ∈ q := by
  unfold insT placeT
  have hsplit := List.takeWhile_append_dropWhile (p := fun x => decide (x < key)) (l := q)
  generalize hA : q.takeWhile (fun x => decide (x < key)) = A at *
  generalize hB : q.dropWhile (fun x => decide (x < key)) = B at *
  have hAlt : ∀ x ∈ A, x < key := by
    intro x hx
    rw [← hA] at hx
    simpa using List.all_eq_true.1 (List.all_takeWhile (p := fun x => decide (x < key)) (l := q)) x hx
  have hBhd : ∀ b, B.head? = some b → ¬ b < key := by
    intro b hb
    have := List.head?_dropWhile_not (fun x => decide (x < key)) q
    rw [hB, hb] at this
    simpa using this
  have htk : q.take A.length = A := by rw [← hsplit]; simp
  have hdr : q.drop A.length = B := by rw [← hsplit]; simp
  have hget : q[A.length]? = B.head? := by rw [← hsplit, List.getElem?_append_right (Nat.le_refl _), Nat.sub_self]; cases B <;> rfl
  rw [htk, hdr, hget]
  rw [← hsplit] at hq ⊢
  obtain ⟨pA, pB, pAB⟩ := List.pairwise_append.1 hq
  split
  · rename_i hk
    refine ⟨hq, fun x => ⟨fun h => .inr h, fun h => ?_⟩⟩
    rcases h with rfl | h
    · exact List.mem_append_right _ (List.mem_of_head? hk)
    · exact h
  · rename_i hk
    have hBgt : ∀ b ∈ B, key < b := by
      cases B with
      | nil => intro b hb; cases hb
      | cons b0 B =>
        have h0 : key < b0 := by
          have h1 := hBhd b0 rfl
          refine lt_of_le_ne (List.not_lt.1 h1) fun e => hk (by rw [e]; rfl)
        intro b hb
        rcases List.mem_cons.1 hb with rfl | hb
        · exact h0
        · exact List.lt_trans h0 ((List.pairwise_cons.1 pB).1 b hb)
    refine ⟨?_, fun x => ?_⟩
    · rw [List.append_assoc]
      refine List.pairwise_append.2 ⟨pA, ?_, ?_⟩
      · rw [List.singleton_append]
        exact List.pairwise_cons.2 ⟨hBgt, pB⟩
      · intro a ha b hb
        rcases List.mem_append.1 hb with hb | hb
        · rw [List.mem_singleton] at hb; rw [hb]; exact hAlt a ha
        · exact pAB a ha b hb
    · simp only [List.mem_append, List.mem_singleton]
      constructor
      · rintro ((h | h) | h)
        · exact .inr (.inl h)
        · exact .inl h
        · exact .inr (.inr h)
      · rintro (h | h | h)
        · exact .inl (.inr h)
        · exact .inl (.inl h)
        · exact .inr h
theorem insAll_succ (l : List Txt) (k : Nat) (x : Txt) (h : l[k]? = some x) : insAll (l.take (k + 1)) = insT x (insAll (l.take k)) := by
  unfold insAll
  rw [List.take_add_one, h]
  simp
theorem insFold_spec : ∀ (l : List Txt) (q : List Txt), q.Pairwise (fun a b => a < b) → (l.foldl (fun q k => insT k q) q).Pairwise (fun a b => a < b) ∧ ∀ x, x ∈ l.foldl (fun q k => insT k q) q ↔ x ∈ l ∨ x ∈ q
  | [], q, hq => ⟨hq, fun x => by simp⟩
  | k :: l, q, hq => by
    obtain ⟨h1, h2⟩ := insT_spec k q hq
    obtain ⟨h3, h4⟩ := insFold_spec l (insT k q) h1
    refine ⟨h3, fun x => ?_⟩
    rw [List.foldl_cons, h4, h2, List.mem_cons]
    constructor
    · rintro (h | h | h)
      · exact .inl (.inr h)
      · exact .inl (.inl h)
      · exact .inr h
    · rintro ((h | h) | h)
      · exact .inr (.inl h)
      · exact .inl h
      · exact .inr (.inr h)
theorem insAll_len (l : List Txt) : (insAll l).length ≤ l.length := by
  have key : ∀ (l q : List Txt), (l.foldl (fun q k => insT k q) q).length ≤ q.length + l.length := by
    intro l
    induction l with
    | nil => intro q; simp
    | cons k l ih =>
      intro q
      have h1 := ih (insT k q)
      have h2 : (insT k q).length ≤ q.length + 1 := by
        unfold insT
        split
        · omega
        · simp; omega
      rw [List.foldl_cons, List.length_cons]
      omega
  have := key l []
  simpa [insAll] using this
/-- Two strictly rising rows of the same texts are one. -/
theorem riseT_ext : ∀ (a b : List Txt), a.Pairwise (fun x y => x < y) → b.Pairwise (fun x y => x < y) → (∀ x, x ∈ a ↔ x ∈ b) → a = b
  | [], [], _, _, _ => rfl
  | [], y :: b, _, _, h => absurd ((h y).2 (by simp)) (by simp)
  | x :: a, [], _, _, h => absurd ((h x).1 (by simp)) (by simp)
  | x :: a, y :: b, ha, hb, h => by
    obtain ⟨ha1, ha2⟩ := List.pairwise_cons.1 ha
    obtain ⟨hb1, hb2⟩ := List.pairwise_cons.1 hb
    have hxy : x = y := by
      rcases List.mem_cons.1 ((h x).1 (by simp)) with e | e
      · exact e
      · rcases List.mem_cons.1 ((h y).2 (by simp)) with e' | e'
        · exact e'.symm
        · exact absurd (List.lt_trans (ha1 y e') (hb1 x e)) (List.lt_irrefl _)
    subst hxy
    congr 1
    refine riseT_ext a b ha2 hb2 fun z => ?_
    constructor
    · intro hz
      rcases List.mem_cons.1 ((h z).1 (List.mem_cons_of_mem _ hz)) with e | e
      · subst e; exact absurd (ha1 z hz) (List.lt_irrefl _)
      · exact e
    · intro hz
      rcases List.mem_cons.1 ((h z).2 (List.mem_cons_of_mem _ hz)) with e | e
      · subst e; exact absurd (hb1 z hz) (List.lt_irrefl _)
      · exact e
theorem refKeys_eq (l : List ActD) : insAll (l.map keyT) = keysL l := by
  obtain ⟨h1, h2⟩ := insFold_spec (l.map keyT) [] (by simp)
  refine riseT_ext _ _ h1 (keysL_pw l) fun x => ?_
  unfold insAll
  rw [h2, keysL_mem]
  simp [List.mem_map]
end Go.Proofs.YtngahblgicjoiaaGreatDoor
/- The reference's Keys: the acts' keys, each once, rising, by insertion. -/
namespace Go.Proofs.YtngahblgicjoiaaGreatDoor
open Go.RowKit

theorem one_txt : ∀ (x : Txt), ∀ u ∈ encT x, u.oneCell' = true := by
  intro x u hu
  simp only [encT, List.mem_cons, List.not_mem_nil, or_false] at hu
  subst hu; rfl

set_option maxRecDepth 100000 in
set_option maxHeartbeats 1600000 in
theorem refKeys_calls (l : List ActD) (ao : Option Addr) (cap : Nat) (w : World) (hl : l.length ≤ 1000000) (hr : Rows 4 encAct w.heap.size w ao l) :
    Calls Tryz.prog 104 #[.slice ao l.length cap] w fun e w' => ∃ ko kcap, e = .returned (.slice ko (keysL l).length kcap) ∧ Rows 1 encT w'.heap.size w' ko (keysL l) ∧ Ext w w' := by
  obtain ⟨i0, hi, hz0, hz1, hz2⟩ := info_parts infoStr
  have HR := Lib.hid hr
  clear hr
  go_enter Tryz.func104, Tryz.ntmps104
  go_wp2_with fail
  go_loopw [3, 4] (fun v i wr => ∃ (k : Nat) (q : List Txt), k ≤ l.length ∧ i = .int .i64 k ∧ q = insAll ((l.map keyT).take k) ∧ wr.ownsRow 0 9 1 v q.length (q.flatMap encT) ∧ (∀ j, v.ownBlock = some j → w.heap.size ≤ j) ∧ Ext w wr) (fun _ i _ => l.length - (intOf i).toNat)
  case atStart => exact ⟨0, [], by omega, rfl, rfl, World.ownsRow_nil _ _ _ _, by simp [Value.ownBlock], Below.refl _ _⟩
  case round =>
    obtain ⟨k, q, hk, rfl, hq, hown, hnew, hx⟩ := hrel
    have K1 := Lib.hid hown; have K2 := Lib.hid hnew; have K3 := Lib.hid hx
    clear hown hnew hx
    by_cases hlt : k < l.length
    · obtain ⟨x, hx⟩ : ∃ x, l[k]? = some x := ⟨_, List.getElem?_eq_getElem hlt⟩
      obtain ⟨b, off, rfl, hb, hcell⟩ := HR.out (by intro e; rw [e] at hlt; simp at hlt)
      have hcx := hcell k x hx
      have hmove : ∀ j, wr.cell? ⟨b, j, none⟩ = w.cell? ⟨b, j, none⟩ := fun j => K3.out.cell (p := ⟨b, j, none⟩) hb
      have hql : q.length ≤ k := by
        have := insAll_len ((l.map keyT).take k)
        rw [← hq, List.length_take] at this; omega
      have hnx : insAll ((l.map keyT).take (k + 1)) = insT (keyT x) q := by
        rw [insAll_succ _ k (keyT x) (by rw [List.getElem?_map, hx]; rfl), ← hq]
      obtain ⟨kd, ky, val, num⟩ := x
      have d1 := (hmove _).trans (hcx 1 _ rfl)
      have hkt : keyT ⟨kd, ky, val, num⟩ = ky.data.toList := rfl
      rw [hkt] at hnx
      have HN := Lib.hid hnx
      have hi0 : (0 : Int) ≤ (k : Int) := by omega
      have hi1 : (k : Int) < (l.length : Int) := by omega
      clear hx hcell hcx hmove hq hnx hkt
      obtain ⟨ro, rcap, rfl, hle, hmax, hrr⟩ := Rows.own (enc := encT) (sz := 1) (fun _ => rfl) K1.out
      have R1 := Lib.hid hrr; clear hrr
      unfold maxLen at hmax
      obtain ⟨wo, rfl⟩ : ∃ wo : World, wo = wr := ⟨_, rfl⟩
      go_wp2_with fail
      go_loopw [5] (fun i wr => ∃ (j : Nat), j ≤ q.length ∧ i = .int .i64 j ∧ (∀ (i : Nat) (x : Txt), i < j → q[i]? = some x → x < ky.data.toList) ∧ Ext wo wr) (fun i _ => q.length - (intOf i).toNat)
      case atStart => exact ⟨0, by omega, rfl, fun i x hi => by omega, Below.refl _ _⟩
      case round =>
        obtain ⟨j, hj, rfl, hlow, hx⟩ := hrel
        have J1 := Lib.hid hlow; have J2 := Lib.hid hx
        clear hlow hx
        have d1' := (J2.out.cell (p := ⟨b, off + k * 4 + 1, none⟩) (by have := K3.out.size; simp; omega)).trans d1
        by_cases hjl : j < q.length
        · obtain ⟨y, hy⟩ : ∃ y, q[j]? = some y := ⟨_, List.getElem?_eq_getElem hjl⟩
          obtain ⟨g, goff, hro, hg, hc⟩ := R1.out (by intro e; rw [e] at hjl; simp at hjl)
          have hcy := hc j y hy 0 _ rfl
          rw [show goff + j * 1 + 0 = goff + j from by omega] at hcy
          have d2 : wr.cell? ⟨g, goff + j, none⟩ = some (.string ⟨y.toArray⟩) := (J2.out.cell (p := ⟨g, goff + j, none⟩) hg).trans hcy
          have HRO := Lib.hid hro
          have j0 : (0 : Int) ≤ (j : Int) := by omega
          have j1 : (j : Int) < (q.length : Int) := by omega
          have g1 : decide ((j : Int) < (q.length : Int)) = true := decide_eq_true j1
          have HY := Lib.hid hy
          subst hro
          clear hc hcy hy
          by_cases hyk : y < ky.data.toList
          · have hb1 : Op.bytesLess y ky.toList = true := by rw [Lib.toList_data, bytesLess_eq]; simpa using hyk
            have HYK := Lib.hid hyk; clear hyk
            go_wp2_with fail
            go_quiet (fail)
            go_wp2_with fail
            go_roundw
            case rel =>
              refine ⟨j + 1, by omega, by go_num, fun i x hi hx => ?_, (Ext.drewN J2.out _)⟩
              rcases Nat.lt_or_ge i j with h | h
              · exact J1.out i x h hx
              · obtain rfl : i = j := by omega
                rw [HY.out] at hx
                rw [← Option.some.inj hx]; exact HYK.out
            case measure => simp [intOf]; omega
          · have hb1 : Op.bytesLess y ky.toList = false := by rw [Lib.toList_data, bytesLess_eq]; simpa using hyk
            have hpl : placeT ky.data.toList q = j := place_at _ _ _ hj J1.out (fun x hx => by rw [HY.out] at hx; rw [← Option.some.inj hx]; exact hyk)
            have HPL := Lib.hid hpl; clear hpl hyk
            by_cases hek : y = ky.data.toList
            · have he : (y == ky.toList) = true := by rw [Lib.toList_data]; simp [hek]
              have hins : insT ky.data.toList q = q := by unfold insT; rw [HPL.out, HY.out, hek, if_pos rfl]
              have HI := Lib.hid hins; clear hek hins
              go_wp2_with fail
              go_quiet (fail)
              go_wp2_with fail
              go_quiet (fail)
              go_wp2_with fail
              go_roundw
              case rel => exact ⟨k + 1, q, by omega, by go_num, by rw [HN.out, HI.out], own_ext K1.out (Ext.drewN J2.out _), K2.out, Ext.trans K3.out (Ext.drewN J2.out _)⟩
              case measure => simp [intOf]; omega
            · have he : (y == ky.toList) = false := by rw [Lib.toList_data]; simp [hek]
              have hins : insT ky.data.toList q = q.take j ++ [ky.data.toList] ++ q.drop j := by
                unfold insT; rw [HPL.out, HY.out, if_neg (fun e => hek (Option.some.inj e))]
              have HI := Lib.hid hins; clear hek hins
              go_wp2_with fail
              go_quiet (fail)
              go_wp2_with fail
              go_quiet (fail)
              have rd : Rows 1 encT wo.heap.size wo (some ⟨g, goff + j, none⟩) (q.drop j) := by
                have h := Rows.drop R1.out j
                rwa [Nat.mul_one] at h
              generalize hwv : (wr.drewN _).drewN _ = wv
              have hv2 : Ext wo wv := by rw [← hwv]; exact Ext.drewN (Ext.drewN J2.out _) _
              have V2 := Lib.hid hv2
              have e2 : Ext wv (wv.alloc (.cells #[] 9)) := (Below.refl _ wv).alloc (Nat.le_refl _) _
              have V3 := Lib.hid (Ext.trans hv2 e2); have E2 := Lib.hid e2
              clear hwv hv2 e2
              have j0 : (0 : Int) ≤ (j : Int) := by omega
              have j1 : (j : Int) ≤ (q.length : Int) := by omega
              have j2 : (j : Int) ≤ (rcap : Int) := by omega
              have rn : rcap = j → q.drop j = [] := fun e => List.drop_eq_nil_of_le (by omega)
              have hdl : (q.drop j).length = q.length - j := List.length_drop
              have RD := Lib.hid rd; have RN := Lib.hid rn; have DL := Lib.hid hdl
              clear rd rn hdl
              by_cases hck : rcap = j
              · subst hck
                have DN := Lib.hid (RN.out rfl); clear RN
                go_wp2_with fail
                have hov : (wv.alloc (.cells #[] 9)).ownsRow 0 9 1 (.slice (some ⟨wv.heap.size, 0, none⟩) 0 0) (q.drop rcap).length ((q.drop rcap).flatMap encT) := by
                  rw [DN.out]; exact World.ownsRow_made wv #[] 0 (Nat.zero_le _) (Nat.zero_le _) rfl
                have hnv : ∀ i, (Value.slice (some ⟨wv.heap.size, 0, none⟩) 0 0).ownBlock = some i → wv.heap.size ≤ i := fun i e => by simp [Value.ownBlock] at e; omega
                have DX : Hid ((q.drop rcap).length = 0) := Lib.hid (by rw [DN.out]; rfl)
                have V4 := V3
                generalize wv.alloc (.cells #[] 9) = w1 at *
                generalize Value.slice (some ⟨wv.heap.size, 0, none⟩) 0 0 = v1 at *
                have hsz1 : wo.heap.size ≤ wv.heap.size := V2.out.size
                obtain ⟨r1, c1, rfl, hle1, hmax1, -⟩ := Rows.own (enc := encT) (sz := 1) (fun _ => rfl) hov
                have OV1 := Lib.hid hov; have NV1 := Lib.hid hnv; have LE1 := Lib.hid hle1
                have hcut : ∀ W, Ext w1 W → W.ownsRow 0 9 1 (.slice (some ⟨g, goff, none⟩) rcap rcap) rcap ((q.take rcap).flatMap encT) := fun W hW => by
                  have h := own_cut (own_ext K1.out (Ext.trans V4.out hW)) rcap (by omega)
                  rwa [flat_take (enc := encT) (sz := 1) (fun _ => rfl)] at h
                have hfresh : ∀ (i : Nat) (cc : Nat), (Value.slice (some ⟨g, goff, none⟩) rcap cc).ownBlock = some i → w.heap.size ≤ i ∧ i < wo.heap.size := fun i cc e => by
                  have e' : (Value.slice (some ⟨g, goff, none⟩) q.length rcap).ownBlock = some i := by
                    revert e; unfold Value.ownBlock; cases hr0 : ((some ⟨g, goff, none⟩) : Option Addr) <;> simp
                  exact ⟨K2.out i e', (K1.out.lt i e').2⟩
                have hkey : ∀ W, Ext w1 W → W.cell? ⟨b, off + k * 4 + 1, none⟩ = some (.string ky) := fun W hW =>
                  ((Ext.trans V4.out hW).cell (p := ⟨b, off + k * 4 + 1, none⟩) (by have := K3.out.size; simp; omega)).trans d1
                have hbw : b < w.heap.size := hb
                have HCUT := Lib.hid hcut; have HF := Lib.hid hfresh; have HKY := Lib.hid hkey
                have hcell1 := HKY.out w1 (Below.refl _ _)
                have hrow := Rows.fresh' (enc := encT) (sz := 1) (fun _ => rfl) [ky.data.toList]
                have HROW := Lib.hid hrow
                clear hov hnv hle1 hcut hfresh hkey hmax1 hrow
                have hbw1 : b < w1.heap.size := by have := K3.out.size; have := V4.out.size; simp at *; omega
                have hqt : (q.take rcap).length = rcap := by rw [List.length_take]; omega
                have HQT := Lib.hid hqt; clear hqt
                have hlast : ∀ W, Ext w1 W → w1.heap.size ≤ W.heap.size := fun W hW => hW.size
                have HLA := Lib.hid hlast; clear hlast
                go_region_held3 (fun W => W.cell? ⟨b, off + k * 4 + 1, none⟩ = some (.string ky)) (first | exact hcell1 | exact hc2 | exact hc3 | exact HKY.out _ (Below.refl _ _).drew | exact HKY.out _ (((Below.refl _ w1).alloc (Nat.le_refl _) _).drew))
                  (first
                  | ((refine step_append_rows (enc := encT) (size := 1) (fun _ => rfl) one_txt (by rfl) (.tmp 54) (.tmp 60) 76 (by rfl) 9 i0 _ 16 Tryz.underlying76 hi hz0 hz1 hz2 rfl (by decide) (.slice (some ⟨g, goff, none⟩) rcap rcap) rcap ((q.take rcap).flatMap encT) (by rfl) (HCUT.out _ (((Below.refl _ w1).alloc (Nat.le_refl _) _).drew)) (some ⟨w1.heap.size, 0, none⟩) [ky.data.toList] 1 (by rfl) (by exact HROW.out w1 9) (by simp only [List.length_singleton]; unfold maxLen; omega) (by simp only [List.length_singleton]; omega) ?_
                      intro v2 w2 hown2 hbut2 hkept2
                      have hc2 : w2.cell? ⟨b, off + k * 4 + 1, none⟩ = some (.string ky) := (hbut2.cell (p := ⟨b, off + k * 4 + 1, none⟩) (by simp; omega) (fun e => by have := (HF.out b rcap e).1; omega)).trans (HKY.out _ (((Below.refl _ w1).alloc (Nat.le_refl _) _).drew))
                      have hov2 := own_but (own_ext OV1.out (((Below.refl _ w1).alloc (Nat.le_refl _) (.cells #[.string ky] 9)).drew)) hbut2 (fun i hi e => by have := NV1.out i hi; have := (HF.out i rcap e).2; omega)
                      have hrw2 := rows_of_own (enc := encT) (fun _ => rfl) hov2
                      have O2 := Lib.hid hown2; have B2 := Lib.hid hbut2; have P2 := Lib.hid hkept2; have R2 := Lib.hid hrw2
                      clear hown2 hbut2 hkept2 hov2 hrw2))
                  | ((refine step_append_rows (enc := encT) (size := 1) (fun _ => rfl) one_txt (by rfl) (.tmp 61) (.tmp 62) 76 (by rfl) 9 i0 _ 16 Tryz.underlying76 hi hz0 hz1 hz2 rfl (by decide) v2 _ _ (by rfl) O2.out r1 (q.drop rcap) c1 (by rw [DX.out]; rfl) R2.out (by rw [DL.out, List.length_singleton]; unfold maxLen; omega) (by rw [DL.out, List.length_singleton]; omega) ?_
                      intro v3 w3 hown3 hbut3 hkept3
                      have hc3 : w3.cell? ⟨b, off + k * 4 + 1, none⟩ = some (.string ky) := (hbut3.cell (p := ⟨b, off + k * 4 + 1, none⟩) (block_lt_of_cell hc2) (fun e => by
                        rcases P2.out b e with e | e
                        · have := (HF.out b rcap e).1; omega
                        · simp at e; omega)).trans hc2
                      have O3 := Lib.hid hown3; have B3 := Lib.hid hbut3; have P3 := Lib.hid hkept3
                      clear hown3 hbut3 hkept3)))
                rename_i hHeld
                clear hHeld
                go_wp2_with fail
                go_roundw
                case rel =>
                  have hW := ((Below.refl _ w1).alloc (Nat.le_refl _) (.cells #[.string ky] 9)).drew
                  refine ⟨k + 1, insT ky.data.toList q, by omega, by go_num, HN.out.symm, ?_, ?_, ?_⟩
                  · rw [HI.out]
                    have h := O3.out
                    have e1 : (q.take rcap ++ [ky.data.toList] ++ q.drop rcap).length = rcap + [ky.data.toList].length + (q.drop rcap).length := by rw [List.length_append, List.length_append, HQT.out]
                    rw [e1, List.flatMap_append, List.flatMap_append]
                    exact h
                  · intro i hi
                    rcases P3.out i hi with e | e
                    · rcases P2.out i e with e | e
                      · exact (HF.out i rcap e).1
                      · have := V4.out.size; have := K3.out.size; simp at e; omega
                    · have := B2.out.size; have := V4.out.size; have := K3.out.size; simp at *; omega
                  · refine Below.trans K3.out (Below.trans (Below.mono V4.out K3.out.size) ?_)
                    have h12 : But (fun i => w.heap.size ≤ i) w1 w3 := ((Ext.but hW (fun _ => False)).trans B2.out (U := fun i => w.heap.size ≤ i) (fun _ _ e => e.elim) (fun i _ e => (HF.out i rcap e).1)).trans B3.out (U := fun i => w.heap.size ≤ i) (fun _ _ e => e) (fun i _ e => by
                      rcases P2.out i e with e | e
                      · exact (HF.out i rcap e).1
                      · have := V4.out.size; have := K3.out.size; simp at e; omega)
                    exact h12.below (by have := V4.out.size; have := K3.out.size; omega) (fun _ h => h)
                case measure => simp [intOf]; omega
              · go_wp2_with (at_builtin; refine wpList_append_rows (enc := encT) (size := 1) (fun _ => rfl) one_txt rfl (.tmp 47) (.tmp 50) 76 rfl 9 i0 _ 16 Tryz.underlying76 hi hz0 hz1 hz2 rfl (by decide) (.slice (some ⟨wv.heap.size, 0, none⟩) 0 0) 0 [] rfl (World.ownsRow_made wv #[] 0 (Nat.zero_le _) (Nat.zero_le _) rfl) _ (q.drop j) _ (by rw [DL.out]; rfl) ((RD.out.ext V3.out).mono V3.out.size) (by rw [DL.out]; unfold maxLen; omega) (by rw [DL.out]; omega) ?_; intro v1 w1 hown1 hbut1 hkept1; have O1 := Lib.hid hown1; have B1 := Lib.hid hbut1; have P1 := Lib.hid hkept1; clear hown1 hbut1 hkept1)
                have hov : w1.ownsRow 0 9 1 v1 (q.drop j).length ((q.drop j).flatMap encT) := by
                  have := O1.out
                  rwa [Nat.zero_add, List.nil_append] at this
                have hnv : ∀ i, v1.ownBlock = some i → wv.heap.size ≤ i := fun i e => by
                  rcases P1.out i e with e | e
                  · simp [Value.ownBlock] at e; omega
                  · have := E2.out.size; omega
                have DX : Hid ((q.drop j).length = q.length - j) := DL
                have V4 : Hid (Ext wo w1) := Lib.hid (Ext.trans V2.out ((((Ext.but E2.out (fun _ => False)).trans B1.out (U := fun i => i = wv.heap.size) (fun _ _ e => e.elim) (fun i _ e => by simp [Value.ownBlock] at e; exact e.symm))).ext (fun i hi e => by omega)))
                clear O1 B1 P1
                have hsz1 : wo.heap.size ≤ wv.heap.size := V2.out.size
                obtain ⟨r1, c1, rfl, hle1, hmax1, -⟩ := Rows.own (enc := encT) (sz := 1) (fun _ => rfl) hov
                have OV1 := Lib.hid hov; have NV1 := Lib.hid hnv; have LE1 := Lib.hid hle1
                have hcut : ∀ W, Ext w1 W → W.ownsRow 0 9 1 (.slice (some ⟨g, goff, none⟩) j rcap) j ((q.take j).flatMap encT) := fun W hW => by
                  have h := own_cut (own_ext K1.out (Ext.trans V4.out hW)) j (by omega)
                  rwa [flat_take (enc := encT) (sz := 1) (fun _ => rfl)] at h
                have hfresh : ∀ (i : Nat) (cc : Nat), (Value.slice (some ⟨g, goff, none⟩) j cc).ownBlock = some i → w.heap.size ≤ i ∧ i < wo.heap.size := fun i cc e => by
                  have e' : (Value.slice (some ⟨g, goff, none⟩) q.length rcap).ownBlock = some i := by
                    revert e; unfold Value.ownBlock; cases hr0 : ((some ⟨g, goff, none⟩) : Option Addr) <;> simp
                  exact ⟨K2.out i e', (K1.out.lt i e').2⟩
                have hkey : ∀ W, Ext w1 W → W.cell? ⟨b, off + k * 4 + 1, none⟩ = some (.string ky) := fun W hW =>
                  ((Ext.trans V4.out hW).cell (p := ⟨b, off + k * 4 + 1, none⟩) (by have := K3.out.size; simp; omega)).trans d1
                have hbw : b < w.heap.size := hb
                have HCUT := Lib.hid hcut; have HF := Lib.hid hfresh; have HKY := Lib.hid hkey
                have hcell1 := HKY.out w1 (Below.refl _ _)
                have hrow := Rows.fresh' (enc := encT) (sz := 1) (fun _ => rfl) [ky.data.toList]
                have HROW := Lib.hid hrow
                clear hov hnv hle1 hcut hfresh hkey hmax1 hrow
                have hbw1 : b < w1.heap.size := by have := K3.out.size; have := V4.out.size; simp at *; omega
                have hqt : (q.take j).length = j := by rw [List.length_take]; omega
                have HQT := Lib.hid hqt; clear hqt
                have hlast : ∀ W, Ext w1 W → w1.heap.size ≤ W.heap.size := fun W hW => hW.size
                have HLA := Lib.hid hlast; clear hlast
                go_region_held3 (fun W => W.cell? ⟨b, off + k * 4 + 1, none⟩ = some (.string ky)) (first | exact hcell1 | exact hc2 | exact hc3 | exact HKY.out _ (Below.refl _ _).drew | exact HKY.out _ (((Below.refl _ w1).alloc (Nat.le_refl _) _).drew))
                  (first
                  | ((refine step_append_rows (enc := encT) (size := 1) (fun _ => rfl) one_txt (by rfl) (.tmp 54) (.tmp 60) 76 (by rfl) 9 i0 _ 16 Tryz.underlying76 hi hz0 hz1 hz2 rfl (by decide) (.slice (some ⟨g, goff, none⟩) j rcap) j ((q.take j).flatMap encT) (by rfl) (HCUT.out _ (((Below.refl _ w1).alloc (Nat.le_refl _) _).drew)) (some ⟨w1.heap.size, 0, none⟩) [ky.data.toList] 1 (by rfl) (by exact HROW.out w1 9) (by simp only [List.length_singleton]; unfold maxLen; omega) (by simp only [List.length_singleton]; omega) ?_
                      intro v2 w2 hown2 hbut2 hkept2
                      have hc2 : w2.cell? ⟨b, off + k * 4 + 1, none⟩ = some (.string ky) := (hbut2.cell (p := ⟨b, off + k * 4 + 1, none⟩) (by simp; omega) (fun e => by have := (HF.out b rcap e).1; omega)).trans (HKY.out _ (((Below.refl _ w1).alloc (Nat.le_refl _) _).drew))
                      have hov2 := own_but (own_ext OV1.out (((Below.refl _ w1).alloc (Nat.le_refl _) (.cells #[.string ky] 9)).drew)) hbut2 (fun i hi e => by have := NV1.out i hi; have := (HF.out i rcap e).2; omega)
                      have hrw2 := rows_of_own (enc := encT) (fun _ => rfl) hov2
                      have O2 := Lib.hid hown2; have B2 := Lib.hid hbut2; have P2 := Lib.hid hkept2; have R2 := Lib.hid hrw2
                      clear hown2 hbut2 hkept2 hov2 hrw2))
                  | ((refine step_append_rows (enc := encT) (size := 1) (fun _ => rfl) one_txt (by rfl) (.tmp 61) (.tmp 62) 76 (by rfl) 9 i0 _ 16 Tryz.underlying76 hi hz0 hz1 hz2 rfl (by decide) v2 _ _ (by rfl) O2.out r1 (q.drop j) c1 (by rw [DX.out]; rfl) R2.out (by rw [DL.out, List.length_singleton]; unfold maxLen; omega) (by rw [DL.out, List.length_singleton]; omega) ?_
                      intro v3 w3 hown3 hbut3 hkept3
                      have hc3 : w3.cell? ⟨b, off + k * 4 + 1, none⟩ = some (.string ky) := (hbut3.cell (p := ⟨b, off + k * 4 + 1, none⟩) (block_lt_of_cell hc2) (fun e => by
                        rcases P2.out b e with e | e
                        · have := (HF.out b rcap e).1; omega
                        · simp at e; omega)).trans hc2
                      have O3 := Lib.hid hown3; have B3 := Lib.hid hbut3; have P3 := Lib.hid hkept3
                      clear hown3 hbut3 hkept3)))
                rename_i hHeld
                clear hHeld
                go_wp2_with fail
                go_roundw
                case rel =>
                  have hW := ((Below.refl _ w1).alloc (Nat.le_refl _) (.cells #[.string ky] 9)).drew
                  refine ⟨k + 1, insT ky.data.toList q, by omega, by go_num, HN.out.symm, ?_, ?_, ?_⟩
                  · rw [HI.out]
                    have h := O3.out
                    have e1 : (q.take j ++ [ky.data.toList] ++ q.drop j).length = j + [ky.data.toList].length + (q.drop j).length := by rw [List.length_append, List.length_append, HQT.out]
                    rw [e1, List.flatMap_append, List.flatMap_append]
                    exact h
                  · intro i hi
                    rcases P3.out i hi with e | e
                    · rcases P2.out i e with e | e
                      · exact (HF.out i rcap e).1
                      · have := V4.out.size; have := K3.out.size; simp at e; omega
                    · have := B2.out.size; have := V4.out.size; have := K3.out.size; simp at *; omega
                  · refine Below.trans K3.out (Below.trans (Below.mono V4.out K3.out.size) ?_)
                    have h12 : But (fun i => w.heap.size ≤ i) w1 w3 := ((Ext.but hW (fun _ => False)).trans B2.out (U := fun i => w.heap.size ≤ i) (fun _ _ e => e.elim) (fun i _ e => (HF.out i rcap e).1)).trans B3.out (U := fun i => w.heap.size ≤ i) (fun _ _ e => e) (fun i _ e => by
                      rcases P2.out i e with e | e
                      · exact (HF.out i rcap e).1
                      · have := V4.out.size; have := K3.out.size; simp at e; omega)
                    exact h12.below (by have := V4.out.size; have := K3.out.size; omega) (fun _ h => h)
                case measure => simp [intOf]; omega
        · have hjq : j = q.length := by omega
          have hpl : placeT ky.data.toList q = j := place_at _ _ _ hj J1.out (fun x hx => by rw [hjq] at hx; simp at hx)
          have hins : insT ky.data.toList q = q.take j ++ [ky.data.toList] ++ q.drop j := by
            unfold insT; rw [hpl, if_neg (by rw [hjq]; simp)]
          have HI := Lib.hid hins
          have g1 : decide ((j : Int) < (q.length : Int)) = false := decide_eq_false (by omega)
          have g2 : decide (j < q.length) = false := decide_eq_false (by omega)
          clear hjq hpl hins
          go_wp2_with fail
          go_quiet (fail)
          go_wp2_with fail
          go_quiet (fail)
          rcases own_cases K1.out with ⟨hv, h0⟩ | ⟨g, cap3, hv, -, -⟩
          · simp only [Value.slice.injEq] at hv
            obtain ⟨rfl, -, hc0⟩ := hv
            have hrj : rcap = j := by omega
            clear hc0
            have HRJ := Lib.hid hrj; clear hrj
            have rd : Rows 1 encT wo.heap.size wo none (q.drop j) := by
              rw [List.drop_eq_nil_of_le (by omega)]; exact Rows.nil _ _ _ _ _
            generalize hwv : (wr.drewN _).drewN _ = wv
            have hv2 : Ext wo wv := by rw [← hwv]; exact Ext.drewN (Ext.drewN J2.out _) _
            have V2 := Lib.hid hv2
            have e2 : Ext wv (wv.alloc (.cells #[] 9)) := (Below.refl _ wv).alloc (Nat.le_refl _) _
            have V3 := Lib.hid (Ext.trans hv2 e2); have E2 := Lib.hid e2
            clear hwv hv2 e2
            have j0 : (0 : Int) ≤ (j : Int) := by omega
            have j1 : (j : Int) ≤ (q.length : Int) := by omega
            have j2 : (j : Int) ≤ (rcap : Int) := by omega
            have rn : rcap = j → q.drop j = [] := fun e => List.drop_eq_nil_of_le (by omega)
            have hdl : (q.drop j).length = q.length - j := List.length_drop
            have RD := Lib.hid rd; have RN := Lib.hid rn; have DL := Lib.hid hdl
            clear rd rn hdl
            have hck := HRJ.out
            subst hck
            have DN := Lib.hid (RN.out rfl); clear RN
            go_wp2_with fail
            have hov : (wv.alloc (.cells #[] 9)).ownsRow 0 9 1 (.slice (some ⟨wv.heap.size, 0, none⟩) 0 0) (q.drop rcap).length ((q.drop rcap).flatMap encT) := by
              rw [DN.out]; exact World.ownsRow_made wv #[] 0 (Nat.zero_le _) (Nat.zero_le _) rfl
            have hnv : ∀ i, (Value.slice (some ⟨wv.heap.size, 0, none⟩) 0 0).ownBlock = some i → wv.heap.size ≤ i := fun i e => by simp [Value.ownBlock] at e; omega
            have DX : Hid ((q.drop rcap).length = 0) := Lib.hid (by rw [DN.out]; rfl)
            have V4 := V3
            generalize wv.alloc (.cells #[] 9) = w1 at *
            generalize Value.slice (some ⟨wv.heap.size, 0, none⟩) 0 0 = v1 at *
            have hsz1 : wo.heap.size ≤ wv.heap.size := V2.out.size
            obtain ⟨r1, c1, rfl, hle1, hmax1, -⟩ := Rows.own (enc := encT) (sz := 1) (fun _ => rfl) hov
            have OV1 := Lib.hid hov; have NV1 := Lib.hid hnv; have LE1 := Lib.hid hle1
            have hcut : ∀ W, Ext w1 W → W.ownsRow 0 9 1 (.slice none rcap rcap) rcap ((q.take rcap).flatMap encT) := fun W hW => by
              have h := own_cut (own_ext K1.out (Ext.trans V4.out hW)) rcap (by omega)
              rwa [flat_take (enc := encT) (sz := 1) (fun _ => rfl)] at h
            have hfresh : ∀ (i : Nat) (cc : Nat), (Value.slice none rcap cc).ownBlock = some i → w.heap.size ≤ i ∧ i < wo.heap.size := fun i cc e => by
              have e' : (Value.slice none q.length rcap).ownBlock = some i := by
                revert e; unfold Value.ownBlock; cases hr0 : (none : Option Addr) <;> simp
              exact ⟨K2.out i e', (K1.out.lt i e').2⟩
            have hkey : ∀ W, Ext w1 W → W.cell? ⟨b, off + k * 4 + 1, none⟩ = some (.string ky) := fun W hW =>
              ((Ext.trans V4.out hW).cell (p := ⟨b, off + k * 4 + 1, none⟩) (by have := K3.out.size; simp; omega)).trans d1
            have hbw : b < w.heap.size := hb
            have HCUT := Lib.hid hcut; have HF := Lib.hid hfresh; have HKY := Lib.hid hkey
            have hcell1 := HKY.out w1 (Below.refl _ _)
            have hrow := Rows.fresh' (enc := encT) (sz := 1) (fun _ => rfl) [ky.data.toList]
            have HROW := Lib.hid hrow
            clear hov hnv hle1 hcut hfresh hkey hmax1 hrow
            have hbw1 : b < w1.heap.size := by have := K3.out.size; have := V4.out.size; simp at *; omega
            have hqt : (q.take rcap).length = rcap := by rw [List.length_take]; omega
            have HQT := Lib.hid hqt; clear hqt
            have hlast : ∀ W, Ext w1 W → w1.heap.size ≤ W.heap.size := fun W hW => hW.size
            have HLA := Lib.hid hlast; clear hlast
            go_region_held3 (fun W => W.cell? ⟨b, off + k * 4 + 1, none⟩ = some (.string ky)) (first | exact hcell1 | exact hc2 | exact hc3 | exact HKY.out _ (Below.refl _ _).drew | exact HKY.out _ (((Below.refl _ w1).alloc (Nat.le_refl _) _).drew))
              (first
              | ((refine step_append_rows (enc := encT) (size := 1) (fun _ => rfl) one_txt (by rfl) (.tmp 54) (.tmp 60) 76 (by rfl) 9 i0 _ 16 Tryz.underlying76 hi hz0 hz1 hz2 rfl (by decide) (.slice none rcap rcap) rcap ((q.take rcap).flatMap encT) (by rfl) (HCUT.out _ (((Below.refl _ w1).alloc (Nat.le_refl _) _).drew)) (some ⟨w1.heap.size, 0, none⟩) [ky.data.toList] 1 (by rfl) (by exact HROW.out w1 9) (by simp only [List.length_singleton]; unfold maxLen; omega) (by simp only [List.length_singleton]; omega) ?_
                  intro v2 w2 hown2 hbut2 hkept2
                  have hc2 : w2.cell? ⟨b, off + k * 4 + 1, none⟩ = some (.string ky) := (hbut2.cell (p := ⟨b, off + k * 4 + 1, none⟩) (by simp; omega) (fun e => by have := (HF.out b rcap e).1; omega)).trans (HKY.out _ (((Below.refl _ w1).alloc (Nat.le_refl _) _).drew))
                  have hov2 := own_but (own_ext OV1.out (((Below.refl _ w1).alloc (Nat.le_refl _) (.cells #[.string ky] 9)).drew)) hbut2 (fun i hi e => by have := NV1.out i hi; have := (HF.out i rcap e).2; omega)
                  have hrw2 := rows_of_own (enc := encT) (fun _ => rfl) hov2
                  have O2 := Lib.hid hown2; have B2 := Lib.hid hbut2; have P2 := Lib.hid hkept2; have R2 := Lib.hid hrw2
                  clear hown2 hbut2 hkept2 hov2 hrw2))
              | ((refine step_append_rows (enc := encT) (size := 1) (fun _ => rfl) one_txt (by rfl) (.tmp 61) (.tmp 62) 76 (by rfl) 9 i0 _ 16 Tryz.underlying76 hi hz0 hz1 hz2 rfl (by decide) v2 _ _ (by rfl) O2.out r1 (q.drop rcap) c1 (by rw [DX.out]; rfl) R2.out (by rw [DL.out, List.length_singleton]; unfold maxLen; omega) (by rw [DL.out, List.length_singleton]; omega) ?_
                  intro v3 w3 hown3 hbut3 hkept3
                  have hc3 : w3.cell? ⟨b, off + k * 4 + 1, none⟩ = some (.string ky) := (hbut3.cell (p := ⟨b, off + k * 4 + 1, none⟩) (block_lt_of_cell hc2) (fun e => by
                    rcases P2.out b e with e | e
                    · have := (HF.out b rcap e).1; omega
                    · simp at e; omega)).trans hc2
                  have O3 := Lib.hid hown3; have B3 := Lib.hid hbut3; have P3 := Lib.hid hkept3
                  clear hown3 hbut3 hkept3)))
            rename_i hHeld
            clear hHeld
            go_wp2_with fail
            go_roundw
            case rel =>
              have hW := ((Below.refl _ w1).alloc (Nat.le_refl _) (.cells #[.string ky] 9)).drew
              refine ⟨k + 1, insT ky.data.toList q, by omega, by go_num, HN.out.symm, ?_, ?_, ?_⟩
              · rw [HI.out]
                have h := O3.out
                have e1 : (q.take rcap ++ [ky.data.toList] ++ q.drop rcap).length = rcap + [ky.data.toList].length + (q.drop rcap).length := by rw [List.length_append, List.length_append, HQT.out]
                rw [e1, List.flatMap_append, List.flatMap_append]
                exact h
              · intro i hi
                rcases P3.out i hi with e | e
                · rcases P2.out i e with e | e
                  · exact (HF.out i rcap e).1
                  · have := V4.out.size; have := K3.out.size; simp at e; omega
                · have := B2.out.size; have := V4.out.size; have := K3.out.size; simp at *; omega
              · refine Below.trans K3.out (Below.trans (Below.mono V4.out K3.out.size) ?_)
                have h12 : But (fun i => w.heap.size ≤ i) w1 w3 := ((Ext.but hW (fun _ => False)).trans B2.out (U := fun i => w.heap.size ≤ i) (fun _ _ e => e.elim) (fun i _ e => (HF.out i rcap e).1)).trans B3.out (U := fun i => w.heap.size ≤ i) (fun _ _ e => e) (fun i _ e => by
                  rcases P2.out i e with e | e
                  · exact (HF.out i rcap e).1
                  · have := V4.out.size; have := K3.out.size; simp at e; omega)
                exact h12.below (by have := V4.out.size; have := K3.out.size; omega) (fun _ h => h)
            case measure => simp [intOf]; omega
          · simp only [Value.slice.injEq, true_and] at hv
            obtain ⟨rfl, rfl⟩ := hv
            have rd : Rows 1 encT wo.heap.size wo (some ⟨g, 0 + j, none⟩) (q.drop j) := by
              have h := Rows.drop R1.out j
              rwa [Nat.mul_one] at h
            rw [Nat.zero_add] at rd
            generalize hwv : (wr.drewN _).drewN _ = wv
            have hv2 : Ext wo wv := by rw [← hwv]; exact Ext.drewN (Ext.drewN J2.out _) _
            have V2 := Lib.hid hv2
            have e2 : Ext wv (wv.alloc (.cells #[] 9)) := (Below.refl _ wv).alloc (Nat.le_refl _) _
            have V3 := Lib.hid (Ext.trans hv2 e2); have E2 := Lib.hid e2
            clear hwv hv2 e2
            have j0 : (0 : Int) ≤ (j : Int) := by omega
            have j1 : (j : Int) ≤ (q.length : Int) := by omega
            have j2 : (j : Int) ≤ (rcap : Int) := by omega
            have rn : rcap = j → q.drop j = [] := fun e => List.drop_eq_nil_of_le (by omega)
            have hdl : (q.drop j).length = q.length - j := List.length_drop
            have RD := Lib.hid rd; have RN := Lib.hid rn; have DL := Lib.hid hdl
            clear rd rn hdl
            by_cases hck : rcap = j
            · subst hck
              have DN := Lib.hid (RN.out rfl); clear RN
              go_wp2_with fail
              have hov : (wv.alloc (.cells #[] 9)).ownsRow 0 9 1 (.slice (some ⟨wv.heap.size, 0, none⟩) 0 0) (q.drop rcap).length ((q.drop rcap).flatMap encT) := by
                rw [DN.out]; exact World.ownsRow_made wv #[] 0 (Nat.zero_le _) (Nat.zero_le _) rfl
              have hnv : ∀ i, (Value.slice (some ⟨wv.heap.size, 0, none⟩) 0 0).ownBlock = some i → wv.heap.size ≤ i := fun i e => by simp [Value.ownBlock] at e; omega
              have DX : Hid ((q.drop rcap).length = 0) := Lib.hid (by rw [DN.out]; rfl)
              have V4 := V3
              generalize wv.alloc (.cells #[] 9) = w1 at *
              generalize Value.slice (some ⟨wv.heap.size, 0, none⟩) 0 0 = v1 at *
              have hsz1 : wo.heap.size ≤ wv.heap.size := V2.out.size
              obtain ⟨r1, c1, rfl, hle1, hmax1, -⟩ := Rows.own (enc := encT) (sz := 1) (fun _ => rfl) hov
              have OV1 := Lib.hid hov; have NV1 := Lib.hid hnv; have LE1 := Lib.hid hle1
              have hcut : ∀ W, Ext w1 W → W.ownsRow 0 9 1 (.slice (some ⟨g, 0, none⟩) rcap rcap) rcap ((q.take rcap).flatMap encT) := fun W hW => by
                have h := own_cut (own_ext K1.out (Ext.trans V4.out hW)) rcap (by omega)
                rwa [flat_take (enc := encT) (sz := 1) (fun _ => rfl)] at h
              have hfresh : ∀ (i : Nat) (cc : Nat), (Value.slice (some ⟨g, 0, none⟩) rcap cc).ownBlock = some i → w.heap.size ≤ i ∧ i < wo.heap.size := fun i cc e => by
                have e' : (Value.slice (some ⟨g, 0, none⟩) q.length rcap).ownBlock = some i := by
                  revert e; unfold Value.ownBlock; cases hr0 : ((some ⟨g, 0, none⟩) : Option Addr) <;> simp
                exact ⟨K2.out i e', (K1.out.lt i e').2⟩
              have hkey : ∀ W, Ext w1 W → W.cell? ⟨b, off + k * 4 + 1, none⟩ = some (.string ky) := fun W hW =>
                ((Ext.trans V4.out hW).cell (p := ⟨b, off + k * 4 + 1, none⟩) (by have := K3.out.size; simp; omega)).trans d1
              have hbw : b < w.heap.size := hb
              have HCUT := Lib.hid hcut; have HF := Lib.hid hfresh; have HKY := Lib.hid hkey
              have hcell1 := HKY.out w1 (Below.refl _ _)
              have hrow := Rows.fresh' (enc := encT) (sz := 1) (fun _ => rfl) [ky.data.toList]
              have HROW := Lib.hid hrow
              clear hov hnv hle1 hcut hfresh hkey hmax1 hrow
              have hbw1 : b < w1.heap.size := by have := K3.out.size; have := V4.out.size; simp at *; omega
              have hqt : (q.take rcap).length = rcap := by rw [List.length_take]; omega
              have HQT := Lib.hid hqt; clear hqt
              have hlast : ∀ W, Ext w1 W → w1.heap.size ≤ W.heap.size := fun W hW => hW.size
              have HLA := Lib.hid hlast; clear hlast
              go_region_held3 (fun W => W.cell? ⟨b, off + k * 4 + 1, none⟩ = some (.string ky)) (first | exact hcell1 | exact hc2 | exact hc3 | exact HKY.out _ (Below.refl _ _).drew | exact HKY.out _ (((Below.refl _ w1).alloc (Nat.le_refl _) _).drew))
                (first
                | ((refine step_append_rows (enc := encT) (size := 1) (fun _ => rfl) one_txt (by rfl) (.tmp 54) (.tmp 60) 76 (by rfl) 9 i0 _ 16 Tryz.underlying76 hi hz0 hz1 hz2 rfl (by decide) (.slice (some ⟨g, 0, none⟩) rcap rcap) rcap ((q.take rcap).flatMap encT) (by rfl) (HCUT.out _ (((Below.refl _ w1).alloc (Nat.le_refl _) _).drew)) (some ⟨w1.heap.size, 0, none⟩) [ky.data.toList] 1 (by rfl) (by exact HROW.out w1 9) (by simp only [List.length_singleton]; unfold maxLen; omega) (by simp only [List.length_singleton]; omega) ?_
                    intro v2 w2 hown2 hbut2 hkept2
                    have hc2 : w2.cell? ⟨b, off + k * 4 + 1, none⟩ = some (.string ky) := (hbut2.cell (p := ⟨b, off + k * 4 + 1, none⟩) (by simp; omega) (fun e => by have := (HF.out b rcap e).1; omega)).trans (HKY.out _ (((Below.refl _ w1).alloc (Nat.le_refl _) _).drew))
                    have hov2 := own_but (own_ext OV1.out (((Below.refl _ w1).alloc (Nat.le_refl _) (.cells #[.string ky] 9)).drew)) hbut2 (fun i hi e => by have := NV1.out i hi; have := (HF.out i rcap e).2; omega)
                    have hrw2 := rows_of_own (enc := encT) (fun _ => rfl) hov2
                    have O2 := Lib.hid hown2; have B2 := Lib.hid hbut2; have P2 := Lib.hid hkept2; have R2 := Lib.hid hrw2
                    clear hown2 hbut2 hkept2 hov2 hrw2))
                | ((refine step_append_rows (enc := encT) (size := 1) (fun _ => rfl) one_txt (by rfl) (.tmp 61) (.tmp 62) 76 (by rfl) 9 i0 _ 16 Tryz.underlying76 hi hz0 hz1 hz2 rfl (by decide) v2 _ _ (by rfl) O2.out r1 (q.drop rcap) c1 (by rw [DX.out]; rfl) R2.out (by rw [DL.out, List.length_singleton]; unfold maxLen; omega) (by rw [DL.out, List.length_singleton]; omega) ?_
                    intro v3 w3 hown3 hbut3 hkept3
                    have hc3 : w3.cell? ⟨b, off + k * 4 + 1, none⟩ = some (.string ky) := (hbut3.cell (p := ⟨b, off + k * 4 + 1, none⟩) (block_lt_of_cell hc2) (fun e => by
                      rcases P2.out b e with e | e
                      · have := (HF.out b rcap e).1; omega
                      · simp at e; omega)).trans hc2
                    have O3 := Lib.hid hown3; have B3 := Lib.hid hbut3; have P3 := Lib.hid hkept3
                    clear hown3 hbut3 hkept3)))
              rename_i hHeld
              clear hHeld
              go_wp2_with fail
              go_roundw
              case rel =>
                have hW := ((Below.refl _ w1).alloc (Nat.le_refl _) (.cells #[.string ky] 9)).drew
                refine ⟨k + 1, insT ky.data.toList q, by omega, by go_num, HN.out.symm, ?_, ?_, ?_⟩
                · rw [HI.out]
                  have h := O3.out
                  have e1 : (q.take rcap ++ [ky.data.toList] ++ q.drop rcap).length = rcap + [ky.data.toList].length + (q.drop rcap).length := by rw [List.length_append, List.length_append, HQT.out]
                  rw [e1, List.flatMap_append, List.flatMap_append]
                  exact h
                · intro i hi
                  rcases P3.out i hi with e | e
                  · rcases P2.out i e with e | e
                    · exact (HF.out i rcap e).1
                    · have := V4.out.size; have := K3.out.size; simp at e; omega
                  · have := B2.out.size; have := V4.out.size; have := K3.out.size; simp at *; omega
                · refine Below.trans K3.out (Below.trans (Below.mono V4.out K3.out.size) ?_)
                  have h12 : But (fun i => w.heap.size ≤ i) w1 w3 := ((Ext.but hW (fun _ => False)).trans B2.out (U := fun i => w.heap.size ≤ i) (fun _ _ e => e.elim) (fun i _ e => (HF.out i rcap e).1)).trans B3.out (U := fun i => w.heap.size ≤ i) (fun _ _ e => e) (fun i _ e => by
                    rcases P2.out i e with e | e
                    · exact (HF.out i rcap e).1
                    · have := V4.out.size; have := K3.out.size; simp at e; omega)
                  exact h12.below (by have := V4.out.size; have := K3.out.size; omega) (fun _ h => h)
              case measure => simp [intOf]; omega
            · go_wp2_with (at_builtin; refine wpList_append_rows (enc := encT) (size := 1) (fun _ => rfl) one_txt rfl (.tmp 47) (.tmp 50) 76 rfl 9 i0 _ 16 Tryz.underlying76 hi hz0 hz1 hz2 rfl (by decide) (.slice (some ⟨wv.heap.size, 0, none⟩) 0 0) 0 [] rfl (World.ownsRow_made wv #[] 0 (Nat.zero_le _) (Nat.zero_le _) rfl) _ (q.drop j) _ (by rw [DL.out]; rfl) ((RD.out.ext V3.out).mono V3.out.size) (by rw [DL.out]; unfold maxLen; omega) (by rw [DL.out]; omega) ?_; intro v1 w1 hown1 hbut1 hkept1; have O1 := Lib.hid hown1; have B1 := Lib.hid hbut1; have P1 := Lib.hid hkept1; clear hown1 hbut1 hkept1)
              have hov : w1.ownsRow 0 9 1 v1 (q.drop j).length ((q.drop j).flatMap encT) := by
                have := O1.out
                rwa [Nat.zero_add, List.nil_append] at this
              have hnv : ∀ i, v1.ownBlock = some i → wv.heap.size ≤ i := fun i e => by
                rcases P1.out i e with e | e
                · simp [Value.ownBlock] at e; omega
                · have := E2.out.size; omega
              have DX : Hid ((q.drop j).length = q.length - j) := DL
              have V4 : Hid (Ext wo w1) := Lib.hid (Ext.trans V2.out ((((Ext.but E2.out (fun _ => False)).trans B1.out (U := fun i => i = wv.heap.size) (fun _ _ e => e.elim) (fun i _ e => by simp [Value.ownBlock] at e; exact e.symm))).ext (fun i hi e => by omega)))
              clear O1 B1 P1
              have hsz1 : wo.heap.size ≤ wv.heap.size := V2.out.size
              obtain ⟨r1, c1, rfl, hle1, hmax1, -⟩ := Rows.own (enc := encT) (sz := 1) (fun _ => rfl) hov
              have OV1 := Lib.hid hov; have NV1 := Lib.hid hnv; have LE1 := Lib.hid hle1
              have hcut : ∀ W, Ext w1 W → W.ownsRow 0 9 1 (.slice (some ⟨g, 0, none⟩) j rcap) j ((q.take j).flatMap encT) := fun W hW => by
                have h := own_cut (own_ext K1.out (Ext.trans V4.out hW)) j (by omega)
                rwa [flat_take (enc := encT) (sz := 1) (fun _ => rfl)] at h
              have hfresh : ∀ (i : Nat) (cc : Nat), (Value.slice (some ⟨g, 0, none⟩) j cc).ownBlock = some i → w.heap.size ≤ i ∧ i < wo.heap.size := fun i cc e => by
                have e' : (Value.slice (some ⟨g, 0, none⟩) q.length rcap).ownBlock = some i := by
                  revert e; unfold Value.ownBlock; cases hr0 : ((some ⟨g, 0, none⟩) : Option Addr) <;> simp
                exact ⟨K2.out i e', (K1.out.lt i e').2⟩
              have hkey : ∀ W, Ext w1 W → W.cell? ⟨b, off + k * 4 + 1, none⟩ = some (.string ky) := fun W hW =>
                ((Ext.trans V4.out hW).cell (p := ⟨b, off + k * 4 + 1, none⟩) (by have := K3.out.size; simp; omega)).trans d1
              have hbw : b < w.heap.size := hb
              have HCUT := Lib.hid hcut; have HF := Lib.hid hfresh; have HKY := Lib.hid hkey
              have hcell1 := HKY.out w1 (Below.refl _ _)
              have hrow := Rows.fresh' (enc := encT) (sz := 1) (fun _ => rfl) [ky.data.toList]
              have HROW := Lib.hid hrow
              clear hov hnv hle1 hcut hfresh hkey hmax1 hrow
              have hbw1 : b < w1.heap.size := by have := K3.out.size; have := V4.out.size; simp at *; omega
              have hqt : (q.take j).length = j := by rw [List.length_take]; omega
              have HQT := Lib.hid hqt; clear hqt
              have hlast : ∀ W, Ext w1 W → w1.heap.size ≤ W.heap.size := fun W hW => hW.size
              have HLA := Lib.hid hlast; clear hlast
              go_region_held3 (fun W => W.cell? ⟨b, off + k * 4 + 1, none⟩ = some (.string ky)) (first | exact hcell1 | exact hc2 | exact hc3 | exact HKY.out _ (Below.refl _ _).drew | exact HKY.out _ (((Below.refl _ w1).alloc (Nat.le_refl _) _).drew))
                (first
                | ((refine step_append_rows (enc := encT) (size := 1) (fun _ => rfl) one_txt (by rfl) (.tmp 54) (.tmp 60) 76 (by rfl) 9 i0 _ 16 Tryz.underlying76 hi hz0 hz1 hz2 rfl (by decide) (.slice (some ⟨g, 0, none⟩) j rcap) j ((q.take j).flatMap encT) (by rfl) (HCUT.out _ (((Below.refl _ w1).alloc (Nat.le_refl _) _).drew)) (some ⟨w1.heap.size, 0, none⟩) [ky.data.toList] 1 (by rfl) (by exact HROW.out w1 9) (by simp only [List.length_singleton]; unfold maxLen; omega) (by simp only [List.length_singleton]; omega) ?_
                    intro v2 w2 hown2 hbut2 hkept2
                    have hc2 : w2.cell? ⟨b, off + k * 4 + 1, none⟩ = some (.string ky) := (hbut2.cell (p := ⟨b, off + k * 4 + 1, none⟩) (by simp; omega) (fun e => by have := (HF.out b rcap e).1; omega)).trans (HKY.out _ (((Below.refl _ w1).alloc (Nat.le_refl _) _).drew))
                    have hov2 := own_but (own_ext OV1.out (((Below.refl _ w1).alloc (Nat.le_refl _) (.cells #[.string ky] 9)).drew)) hbut2 (fun i hi e => by have := NV1.out i hi; have := (HF.out i rcap e).2; omega)
                    have hrw2 := rows_of_own (enc := encT) (fun _ => rfl) hov2
                    have O2 := Lib.hid hown2; have B2 := Lib.hid hbut2; have P2 := Lib.hid hkept2; have R2 := Lib.hid hrw2
                    clear hown2 hbut2 hkept2 hov2 hrw2))
                | ((refine step_append_rows (enc := encT) (size := 1) (fun _ => rfl) one_txt (by rfl) (.tmp 61) (.tmp 62) 76 (by rfl) 9 i0 _ 16 Tryz.underlying76 hi hz0 hz1 hz2 rfl (by decide) v2 _ _ (by rfl) O2.out r1 (q.drop j) c1 (by rw [DX.out]; rfl) R2.out (by rw [DL.out, List.length_singleton]; unfold maxLen; omega) (by rw [DL.out, List.length_singleton]; omega) ?_
                    intro v3 w3 hown3 hbut3 hkept3
                    have hc3 : w3.cell? ⟨b, off + k * 4 + 1, none⟩ = some (.string ky) := (hbut3.cell (p := ⟨b, off + k * 4 + 1, none⟩) (block_lt_of_cell hc2) (fun e => by
                      rcases P2.out b e with e | e
                      · have := (HF.out b rcap e).1; omega
                      · simp at e; omega)).trans hc2
                    have O3 := Lib.hid hown3; have B3 := Lib.hid hbut3; have P3 := Lib.hid hkept3
                    clear hown3 hbut3 hkept3)))
              rename_i hHeld
              clear hHeld
              go_wp2_with fail
              go_roundw
              case rel =>
                have hW := ((Below.refl _ w1).alloc (Nat.le_refl _) (.cells #[.string ky] 9)).drew
                refine ⟨k + 1, insT ky.data.toList q, by omega, by go_num, HN.out.symm, ?_, ?_, ?_⟩
                · rw [HI.out]
                  have h := O3.out
                  have e1 : (q.take j ++ [ky.data.toList] ++ q.drop j).length = j + [ky.data.toList].length + (q.drop j).length := by rw [List.length_append, List.length_append, HQT.out]
                  rw [e1, List.flatMap_append, List.flatMap_append]
                  exact h
                · intro i hi
                  rcases P3.out i hi with e | e
                  · rcases P2.out i e with e | e
                    · exact (HF.out i rcap e).1
                    · have := V4.out.size; have := K3.out.size; simp at e; omega
                  · have := B2.out.size; have := V4.out.size; have := K3.out.size; simp at *; omega
                · refine Below.trans K3.out (Below.trans (Below.mono V4.out K3.out.size) ?_)
                  have h12 : But (fun i => w.heap.size ≤ i) w1 w3 := ((Ext.but hW (fun _ => False)).trans B2.out (U := fun i => w.heap.size ≤ i) (fun _ _ e => e.elim) (fun i _ e => (HF.out i rcap e).1)).trans B3.out (U := fun i => w.heap.size ≤ i) (fun _ _ e => e) (fun i _ e => by
                    rcases P2.out i e with e | e
                    · exact (HF.out i rcap e).1
                    · have := V4.out.size; have := K3.out.size; simp at e; omega)
                  exact h12.below (by have := V4.out.size; have := K3.out.size; omega) (fun _ h => h)
              case measure => simp [intOf]; omega
    · have hall : (l.map keyT).take k = l.map keyT := List.take_of_length_le (by simp; omega)
      have hq2 : q = keysL l := by rw [hq, hall, refKeys_eq]
      have HQ := Lib.hid hq2
      clear hall hq hq2
      obtain ⟨ro, rcap, rfl, hle, hmax, hrr⟩ := Rows.own (enc := encT) (sz := 1) (fun _ => rfl) K1.out
      have R1 := Lib.hid hrr; clear hrr
      go_wp2_with fail
      go_ret
      exact ⟨ro, rcap, by rw [← HQ.out]; rfl, by rw [← HQ.out]; exact R1.out, K3.out⟩
end Go.Proofs.YtngahblgicjoiaaGreatDoor
/- The reference's Of. -/
namespace Go.Proofs.YtngahblgicjoiaaGreatDoor
open Go.RowKit

set_option maxRecDepth 100000 in
set_option maxHeartbeats 800000 in
theorem refOf_calls (key : ByteArray) (l : List ActD) (ao : Option Addr) (cap : Nat) (w : World) (hl : l.length ≤ 1000000) (hr : Rows 4 encAct w.heap.size w ao l) :
    Calls Tryz.prog 107 #[.string key, .slice ao l.length cap] w fun e w' => ∃ rv, e = .returned rv ∧ w'.ownsRow 0 53 4 rv (ofL key.data.toList l).length ((ofL key.data.toList l).flatMap encAct) ∧ (∀ j, rv.ownBlock = some j → w.heap.size ≤ j) ∧ Ext w w' := by
  obtain ⟨i0, hi, hz0, hz1, hz2⟩ := info_parts infoAct
  have HR := Lib.hid hr
  clear hr
  go_enter Tryz.func107, Tryz.ntmps107
  go_wp2_with fail
  go_loopw [5, 6] (fun v i wr => ∃ (k : Nat), k ≤ l.length ∧ i = .int .i64 k ∧ wr.ownsRow 0 53 4 v (ofL key.data.toList (l.take k)).length ((ofL key.data.toList (l.take k)).flatMap encAct) ∧ (∀ j, v.ownBlock = some j → w.heap.size ≤ j) ∧ Ext w wr) (fun _ i _ => l.length - (intOf i).toNat)
  case atStart => exact ⟨0, by omega, rfl, World.ownsRow_nil _ _ _ _, by simp [Value.ownBlock], Below.refl _ _⟩
  case round =>
    obtain ⟨k, hk, rfl, hown, hnew, hx⟩ := hrel
    have K1 := Lib.hid hown; have K2 := Lib.hid hnew; have K3 := Lib.hid hx
    clear hown hnew hx
    by_cases hlt : k < l.length
    · obtain ⟨x, hx⟩ : ∃ x, l[k]? = some x := ⟨_, List.getElem?_eq_getElem hlt⟩
      obtain ⟨b, off, rfl, hb, hcell⟩ := HR.out (by intro e; rw [e] at hlt; simp at hlt)
      have hcx := hcell k x hx
      have hmove : ∀ j, wr.cell? ⟨b, j, none⟩ = w.cell? ⟨b, j, none⟩ := fun j => K3.out.cell (p := ⟨b, j, none⟩) hb
      have hof := ofL_succ key.data.toList l k x hx
      have hbd : (ofL key.data.toList (l.take k)).length ≤ 1000000 := Nat.le_trans (ofL_len _ _) (by simp; omega)
      generalize ofL key.data.toList (l.take k) = q at *
      have HO := Lib.hid hof
      obtain ⟨kd, ky, val, num⟩ := x
      have d0 := (hmove _).trans (hcx 0 _ rfl); have d1 := (hmove _).trans (hcx 1 _ rfl); have d2 := (hmove _).trans (hcx 2 _ rfl); have d3 := (hmove _).trans (hcx 3 _ rfl)
      simp only [Nat.add_zero] at d0
      have hi0 : (0 : Int) ≤ (k : Int) := by omega
      have hi1 : (k : Int) < (l.length : Int) := by omega
      clear hof hx hcell hcx hmove
      by_cases hkey : ky = key
      · have g1 : (ky.toList == key.toList) = true := by simp [hkey]
        have HK := Lib.hid hkey; clear hkey
        have CN := Lib.hid (cells_new wr [.int .u8 kd, .string ky, .string val, .int .i64 num] 53)
        have E2 : Hid (Ext wr (wr.alloc (.cells #[.int .u8 kd, .string ky, .string val, .int .i64 num] 53))) := Lib.hid ((Below.refl _ wr).alloc (Nat.le_refl _) _)
        go_wp2_with (at_builtin; refine wpList_append_at _ rfl _ _ 35 rfl 53 i0 _ 4 48 Tryz.underlying35 hi hz0 hz1 hz2 rfl (by decide) _ q.length (q.flatMap encAct) rfl (own_ext K1.out E2.out) ⟨wr.heap.size, 0, none⟩ 1 1 (encAct ⟨kd, ky, val, num⟩) rfl rfl CN.out (by simp [encAct, Value.oneCell']) (by decide) (by unfold maxLen; omega) (by omega) ?_; intro g cap2 w1 hown' hbut hkept; have X1 := Lib.hid hown'; have X2 := Lib.hid hbut; have X3 := Lib.hid hkept; clear hown' hbut hkept)
        go_roundw
        case rel =>
          refine ⟨k + 1, by omega, by go_num, ?_, ?_, ?_⟩
          · rw [HO.out, if_pos ((keyT_iff _ _).2 HK.out)]
            have := X1.out
            rw [List.length_append, List.flatMap_append]
            simpa using this
          · intro j hj
            rcases X3.out j hj with e | e
            · exact K2.out j e
            · have := K3.out.size; have := E2.out.size; omega
          · exact Below.trans K3.out (((Ext.but E2.out (fun _ => False)).trans X2.out (U := fun j => w.heap.size ≤ j) (fun _ _ e => e.elim) (fun i _ e => K2.out i e)).below K3.out.size (fun _ h => h))
        case measure => simp [intOf]; omega
      · have g1 : (ky.toList == key.toList) = false := by rw [Lib.bytes_beq_false_iff]; exact hkey
        have HK := Lib.hid hkey; clear hkey
        go_wp2_with fail
        go_roundw
        case rel => exact ⟨k + 1, by omega, by go_num, by rw [HO.out, if_neg (fun e => HK.out ((keyT_iff _ _).1 e)), List.append_nil]; exact K1.out, K2.out, K3.out⟩
        case measure => simp [intOf]; omega
    · have hall : l.take k = l := List.take_of_length_le (by omega)
      have HA := Lib.hid hall; clear hall
      go_wp2_with fail
      go_ret
      exact ⟨_, rfl, by have := K1.out; rwa [HA.out] at this, K2.out, K3.out⟩
end Go.Proofs.YtngahblgicjoiaaGreatDoor
/- The reference's numbers and texts: what each returns. -/
namespace Go.Proofs.YtngahblgicjoiaaGreatDoor
open Go.RowKit

theorem run_one_byte (W : World) (x : Int) : (convert 89 9 (.slice (some ⟨W.heap.size, 0, none⟩) 1 1)).run Tryz.prog (W.alloc (.cells #[.int .u8 x] 5)) = .ok (.string ⟨#[UInt8.ofNat x.toNat]⟩) (W.alloc (.cells #[.int .u8 x] 5)) :=
  run_convert_bytes_arg (P := Tryz.prog) (w := W.alloc (.cells #[.int .u8 x] 5)) 89 5 Tryz.underlying89 Tryz.underlying5 W.heap.size 0 1 1 [x] rfl (fun i hi => by
    obtain rfl : i = 0 := by omega
    simp) 9 Tryz.underlying9

/-- What the numeral's lower places are when n is what is left. -/
def lowIs (u n : Nat) (s : List UInt8) : Prop := Lib.decDigits u = (if n < 10 then [] else Lib.decDigits (n / 10)) ++ s
theorem lowIs_start (u : Nat) : lowIs u u [UInt8.ofNat (48 + u % 10)] := by
  unfold lowIs
  rw [Lib.decDigits]
  split
  · rename_i h; rw [Nat.mod_eq_of_lt h]; rfl
  · rfl
theorem lowIs_step {u n : Nat} {s : List UInt8} (h : lowIs u n s) (hn : ¬ n < 10) : lowIs u (n / 10) (UInt8.ofNat (48 + n / 10 % 10) :: s) := by
  unfold lowIs at h ⊢
  rw [h, if_neg hn, Lib.decDigits]
  split
  · rename_i h; rw [Nat.mod_eq_of_lt h]; rfl
  · simp
theorem lowIs_end {u n : Nat} {s : List UInt8} (h : lowIs u n s) (hn : n < 10) : s = Lib.decDigits u := by
  unfold lowIs at h
  rw [h, if_pos hn]; rfl

set_option maxRecDepth 100000 in
theorem refValue_pos (x : Int) (n : Nat) (w : World) (hn : n ≤ 1073741824) (hmin : min x 1073741824 = (n : Int)) : Calls Tryz.prog 154 #[.int .i64 x] w fun e w' => e = .returned (.string ⟨(Lib.decDigits n).toArray⟩) ∧ Ext w w' := by
  have hmax : max (n : Int) (-1073741824) = (n : Int) := by omega
  have hcv := run_one_byte
  go_enter Tryz.func154, Tryz.ntmps154
  go_wp2_with fail
  go_loopw [0, 3] (fun nv s wr => ∃ (k : Nat) (l : List UInt8), k ≤ n ∧ nv = .int .i64 k ∧ s = .string ⟨l.toArray⟩ ∧ lowIs n k l ∧ l.length + k ≤ n + 1 ∧ Ext w wr) (fun nv _ _ => (intOf nv).toNat)
  case atStart => exact ⟨n, _, by omega, rfl, rfl, lowIs_start n, by simp; omega, (Below.refl _ _).alloc (Nat.le_refl _) _⟩
  case round =>
    obtain ⟨k, l, hk, rfl, rfl, hlow, hlen, hx⟩ := hrel
    have HL := Lib.hid hlow
    clear hlow
    by_cases h10 : k < 10
    · go_wp2_with fail
      go_ret
      exact ⟨ret_str (lowIs_end HL.out h10), hx⟩
    · go_wp2_with fail
      go_roundw
      case rel => exact ⟨k / 10, UInt8.ofNat (48 + k / 10 % 10) :: l, by omega, by go_num, by simp [ByteArray.mk_append_mk], lowIs_step HL.out h10, by simp; omega, hx.alloc hx.size _⟩
      case measure => simp [intOf]; omega

/-- The reference's numeral is the program's. -/
theorem refValue_calls (n : Int) (w : World) : Calls Tryz.prog 154 #[.int .i64 n] w fun e w' => e = .returned (.string ⟨(valueL n).toArray⟩) ∧ Ext w w' := by
  by_cases hneg : n < 0
  · obtain ⟨u, hu, hu1, hu0⟩ : ∃ u : Nat, cutI n = -(u : Int) ∧ u ≤ 1073741824 ∧ 1 ≤ u := ⟨(-(cutI n)).toNat, by unfold cutI; omega, by unfold cutI; omega, by unfold cutI; omega⟩
    have hv : valueL n = 45 :: Lib.decDigits u := by unfold valueL; rw [hu]; exact Lib.itoa_neg u hu0
    have hmin : min n 1073741824 = n := by omega
    have hmax : max n (-1073741824) = -(u : Int) := by unfold cutI at hu; rw [hmin] at hu; exact hu
    have HV := Lib.hid hv; clear hv hu
    have hlen : (Lib.decDigits u).length ≤ 20 := by rw [Lib.decDigits_length]; exact Lib.nDigits_le20 u (by omega)
    go_enter Tryz.func154, Tryz.ntmps154
    go_wp2_with (go_at_call 154; refine (refValue_pos _ u _ hu1 (by omega)).mono ?_; rintro e w1 ⟨rfl, hx1⟩)
    go_ret
    exact ⟨by rw [HV.out]; simp [ByteArray.mk_append_mk], hx1⟩
  · obtain ⟨u, hu⟩ : ∃ u : Nat, cutI n = (u : Int) := ⟨(cutI n).toNat, by unfold cutI; omega⟩
    have hv : valueL n = Lib.decDigits u := by unfold valueL; rw [hu]; exact Lib.itoa_nonneg u
    rw [hv]
    exact refValue_pos n u w (by unfold cutI at hu; omega) (by unfold cutI at hu; omega)

set_option maxHeartbeats 800000 in
theorem refNumber_calls (s : ByteArray) (w : World) (hs : s.size ≤ 140737488351232) : Calls Tryz.prog 155 #[.string s] w fun e w' => e = .returned (.int .i64 (refNumberL s.data.toList)) ∧ w = w' := by
  by_cases h0 : 0 < s.size
  · have hhead : s.data.toList.head? = some s[0] := by
      have : s.data.toList[0]? = some s[0] := by
        rw [Array.getElem?_toList]
        exact Array.getElem?_eq_getElem h0
      rwa [List.head?_eq_getElem?]
    by_cases hm : s[0] = 45
    · obtain ⟨t, ht⟩ : ∃ t, s.extract 1 s.size = t := ⟨_, rfl⟩
      have htl : t.data.toList = s.data.toList.tail := by rw [← ht, Lib.extract_data]; simp; exact List.take_of_length_le (by simp)
      have he : refNumberL s.data.toList = refEnd true (refMag 0 t.data.toList) := by unfold refNumberL; rw [hhead, hm, if_pos rfl, htl]
      have hts : t.size ≤ 140737488351232 := by rw [Lib.size_eq, htl, List.length_tail, ← Lib.size_eq]; omega
      clear htl hhead
      have HE : Hid (refNumberL s.data.toList = refEnd true (refMag 0 t.data.toList)) := Lib.hid he
      clear he
      go_enter Tryz.func155, Tryz.ntmps155
      go_wp2
      go_loop [4, 5] (fun nv i => ∃ (k : Nat) (m : Int), k ≤ t.size ∧ i = .int .i64 k ∧ nv = .int .i64 m ∧ 0 ≤ m ∧ m ≤ 2147483648 ∧ refMag m (t.data.toList.drop k) = refMag 0 t.data.toList) (fun _ i => t.size - (intOf i).toNat)
      case atStart => exact ⟨0, 0, by omega, rfl, rfl, by omega, by omega, by simp⟩
      case round =>
        obtain ⟨k, m, hk, rfl, rfl, hm0, hm1, hrest⟩ := hrel
        have HR := Lib.hid hrest; clear hrest
        by_cases hlt : k < t.size
        · have hd : t.data.toList.drop k = t[k] :: t.data.toList.drop (k + 1) := List.drop_eq_getElem_cons (by simpa using hlt)
          have HD := Lib.hid hd; clear hd
          by_cases hbad : t[k].toNat < 48 ∨ 57 < t[k].toNat
          · have hnone : refMag 0 t.data.toList = none := by rw [← HR.out, HD.out, refMag, if_pos hbad]
            have HN := Lib.hid hnone; clear hnone
            rcases hbad with hb | hb
            all_goals
              go_wp2
              go_ret
              exact ⟨ret_int (by rw [HE.out, HN.out]; rfl), rfl⟩
          · obtain ⟨hb1, hb2⟩ : 48 ≤ t[k].toNat ∧ t[k].toNat ≤ 57 := by omega
            have hstep : refMag (min (m * 10 + ((t[k].toNat : Int) - 48)) 2147483648) (t.data.toList.drop (k + 1)) = refMag 0 t.data.toList := by rw [← HR.out, HD.out, refMag, if_neg (by omega)]
            have HS := Lib.hid hstep; clear hstep hbad
            go_wp2
            all_goals
              go_round
              case rel => exact ⟨k + 1, min (m * 10 + ((t[k].toNat : Int) - 48)) 2147483648, by omega, by go_num, by first | rfl | (congr 1; omega), by omega, by omega, HS.out⟩
              case measure => simp [intOf]; omega
        · have hend : refMag 0 t.data.toList = some m := by rw [← HR.out, List.drop_eq_nil_of_le (by rw [← Lib.size_eq]; omega), refMag]
          have HN := Lib.hid hend; clear hend
          go_wp2
          all_goals (go_ret; exact ⟨ret_int (by rw [HE.out, HN.out]; first | (rw [refEnd_big (by omega)]) | (rw [refEnd_neg (by omega)]) | (rw [refEnd_pos (by omega)])), rfl⟩)
    · have he : refNumberL s.data.toList = refEnd false (refMag 0 s.data.toList) := by unfold refNumberL; rw [hhead, if_neg (by simpa using hm)]
      have hmn : ((s[0].toNat : Int) == 45) = false := by
        rw [beq_eq_false_iff_ne]; intro h; exact hm (UInt8.toNat_inj.1 (show s[0].toNat = 45 by omega))
      clear hhead
      have HE : Hid (refNumberL s.data.toList = refEnd false (refMag 0 s.data.toList)) := Lib.hid he
      clear he
      go_enter Tryz.func155, Tryz.ntmps155
      go_wp2
      go_loop [4, 5] (fun nv i => ∃ (k : Nat) (m : Int), k ≤ s.size ∧ i = .int .i64 k ∧ nv = .int .i64 m ∧ 0 ≤ m ∧ m ≤ 2147483648 ∧ refMag m (s.data.toList.drop k) = refMag 0 s.data.toList) (fun _ i => s.size - (intOf i).toNat)
      case atStart => exact ⟨0, 0, by omega, rfl, rfl, by omega, by omega, by simp⟩
      case round =>
        obtain ⟨k, m, hk, rfl, rfl, hm0, hm1, hrest⟩ := hrel
        have HR := Lib.hid hrest; clear hrest
        by_cases hlt : k < s.size
        · have hd : s.data.toList.drop k = s[k] :: s.data.toList.drop (k + 1) := List.drop_eq_getElem_cons (by simpa using hlt)
          have HD := Lib.hid hd; clear hd
          by_cases hbad : s[k].toNat < 48 ∨ 57 < s[k].toNat
          · have hnone : refMag 0 s.data.toList = none := by rw [← HR.out, HD.out, refMag, if_pos hbad]
            have HN := Lib.hid hnone; clear hnone
            rcases hbad with hb | hb
            all_goals
              go_wp2
              go_ret
              exact ⟨ret_int (by rw [HE.out, HN.out]; rfl), rfl⟩
          · obtain ⟨hb1, hb2⟩ : 48 ≤ s[k].toNat ∧ s[k].toNat ≤ 57 := by omega
            have hstep : refMag (min (m * 10 + ((s[k].toNat : Int) - 48)) 2147483648) (s.data.toList.drop (k + 1)) = refMag 0 s.data.toList := by rw [← HR.out, HD.out, refMag, if_neg (by omega)]
            have HS := Lib.hid hstep; clear hstep hbad
            go_wp2
            all_goals
              go_round
              case rel => exact ⟨k + 1, min (m * 10 + ((s[k].toNat : Int) - 48)) 2147483648, by omega, by go_num, by first | rfl | (congr 1; omega), by omega, by omega, HS.out⟩
              case measure => simp [intOf]; omega
        · have hend : refMag 0 s.data.toList = some m := by rw [← HR.out, List.drop_eq_nil_of_le (by rw [← Lib.size_eq]; omega), refMag]
          have HN := Lib.hid hend; clear hend
          go_wp2
          all_goals (go_ret; exact ⟨ret_int (by rw [HE.out, HN.out]; first | (rw [refEnd_big (by omega)]) | (rw [refEnd_neg (by omega)]) | (rw [refEnd_pos (by omega)])), rfl⟩)
  · have he : refNumberL s.data.toList = refEnd false (refMag 0 s.data.toList) := by
      have : s.data.toList = [] := List.eq_nil_of_length_eq_zero (by rw [← Lib.size_eq]; omega)
      unfold refNumberL; rw [this]; rfl
    have HE : Hid (refNumberL s.data.toList = refEnd false (refMag 0 s.data.toList)) := Lib.hid he
    clear he
    go_enter Tryz.func155, Tryz.ntmps155
    go_wp2
    go_loop [4, 5] (fun nv i => ∃ (k : Nat) (m : Int), k ≤ s.size ∧ i = .int .i64 k ∧ nv = .int .i64 m ∧ 0 ≤ m ∧ m ≤ 2147483648 ∧ refMag m (s.data.toList.drop k) = refMag 0 s.data.toList) (fun _ i => s.size - (intOf i).toNat)
    case atStart => exact ⟨0, 0, by omega, rfl, rfl, by omega, by omega, by simp⟩
    case round =>
      obtain ⟨k, m, hk, rfl, rfl, hm0, hm1, hrest⟩ := hrel
      have HR := Lib.hid hrest; clear hrest
      by_cases hlt : k < s.size
      · exact absurd hlt (by omega)
      · have hend : refMag 0 s.data.toList = some m := by rw [← HR.out, List.drop_eq_nil_of_le (by rw [← Lib.size_eq]; omega), refMag]
        have HN := Lib.hid hend; clear hend
        go_wp2
        all_goals (go_ret; exact ⟨ret_int (by rw [HE.out, HN.out]; first | (rw [refEnd_big (by omega)]) | (rw [refEnd_neg (by omega)]) | (rw [refEnd_pos (by omega)])), rfl⟩)
end Go.Proofs.YtngahblgicjoiaaGreatDoor
/- The reference's Do: what acts of one key do. -/
namespace Go.Proofs.YtngahblgicjoiaaGreatDoor
open Go.RowKit

set_option maxRecDepth 100000 in
set_option maxHeartbeats 1600000 in
theorem refDo_calls (is : Bool) (value : ByteArray) (l : List ActD) (ao : Option Addr) (cap : Nat) (w : World) (hl : l.length ≤ 1000000) (hs : value.size ≤ 140737488351232) (hok : ∀ a ∈ l, a.ok) (hr : Rows 4 encAct w.heap.size w ao l) :
    Calls Tryz.prog 106 #[.bool is, .string value, .slice ao l.length cap] w (DoPost is value l w) := by
  obtain ⟨i0, hi, hz0, hz1, hz2⟩ := info_parts infoRd
  have HR := Lib.hid hr; have H0 := Lib.hid hok
  have hsb : (St.begin is value).value.size ≤ 140737488351232 := by
    unfold St.begin; dsimp only
    split
    · exact hs
    · exact Nat.zero_le _
  clear hr hok
  have hbv : ((St.begin is value).is = is) ∧ (St.begin is value).put = false := ⟨rfl, rfl⟩
  have HBV := Lib.hid hbv; clear hbv
  cases is
  all_goals
    go_enter Tryz.func106, Tryz.ntmps106
    go_wp2_with fail
  · have hv0 : (St.begin false value).value = ⟨#[]⟩ := rfl
    have HV0 := Lib.hid hv0; clear hv0
    go_loopw [0, 1, 9, 10, 11] (fun vi vv v vp i wr => ∃ (k : Nat) (s : St), k ≤ l.length ∧ i = .int .i64 k ∧ s = (St.begin false value).after (l.take k) ∧ vi = .bool s.is ∧ vv = .string s.value ∧ vp = .bool s.put ∧ wr.ownsRow 0 78 3 v s.reads.length (s.reads.flatMap encRd) ∧ (∀ j, v.ownBlock = some j → w.heap.size ≤ j) ∧ Ext w wr) (fun _ _ _ _ i _ => l.length - (intOf i).toNat)
    case atStart => exact ⟨0, _, by omega, rfl, rfl, rfl, rfl, rfl, World.ownsRow_nil _ _ _ _, by simp [Value.ownBlock], Below.refl _ _⟩
    case round =>
      obtain ⟨k, s, hk, rfl, hs1, rfl, rfl, rfl, hown, hnew, hx⟩ := hrel
      have K1 := Lib.hid hown; have K2 := Lib.hid hnew; have K3 := Lib.hid hx
      clear hown hnew hx
      by_cases hlt : k < l.length
      · obtain ⟨x, hx⟩ : ∃ x, l[k]? = some x := ⟨_, List.getElem?_eq_getElem hlt⟩
        have hbd := St.after_bd (l.take k) (St.begin false value) hsb (fun a ha => H0.out a (List.mem_of_mem_take ha))
        have hstep := St.after_succ (St.begin false value) l k x hx
        rw [← hs1] at hbd hstep
        have hlen : s.reads.length ≤ 1000000 := by have := hbd.2; simp [St.begin] at this; omega
        have hval := hbd.1
        obtain ⟨b, off, rfl, hb, hcell⟩ := HR.out (by intro e; rw [e] at hlt; simp at hlt)
        have hcx := hcell k x hx
        have hmove : ∀ j, wr.cell? ⟨b, j, none⟩ = w.cell? ⟨b, j, none⟩ := fun j => K3.out.cell (p := ⟨b, j, none⟩) hb
        obtain ⟨kd, key, val, num⟩ := x
        have d0 := (hmove _).trans (hcx 0 _ rfl); have d1 := (hmove _).trans (hcx 1 _ rfl); have d2 := (hmove _).trans (hcx 2 _ rfl); have d3 := (hmove _).trans (hcx 3 _ rfl)
        simp only [Nat.add_zero] at d0
        have hi0 : (0 : Int) ≤ (k : Int) := by omega
        have hi1 : (k : Int) < (l.length : Int) := by omega
        have ST := Lib.hid hstep; have HS1 := Lib.hid hs1
        have hrd : (s.reads ++ [Rd.mk key s.is s.value]).flatMap encRd = s.reads.flatMap encRd ++ encRd (Rd.mk key s.is s.value) := by rw [List.flatMap_append]; simp
        have HRD := Lib.hid hrd
        clear hx hcell hcx hmove hbd hstep hs1 hrd
        have CN := Lib.hid (cells_new wr (encRd (Rd.mk key s.is s.value)) 78)
        have E2 : Hid (Ext wr (wr.alloc (.cells (encRd (Rd.mk key s.is s.value)).toArray 78))) := Lib.hid ((Below.refl _ wr).alloc (Nat.le_refl _) _)
        by_cases k1 : kd = 1
        · subst k1
          have hnx : s.step ⟨1, key, val, num⟩ = s.get key := rfl
          rw [hnx] at ST
          clear hnx
          go_wp2_with (at_builtin; refine wpList_append_at _ rfl _ _ 36 rfl 78 i0 _ 3 40 Tryz.underlying36 hi hz0 hz1 hz2 rfl (by decide) _ s.reads.length (s.reads.flatMap encRd) rfl (own_ext K1.out E2.out) ⟨wr.heap.size, 0, none⟩ 1 1 (encRd (Rd.mk key s.is s.value)) rfl rfl CN.out (by simp [encRd, Value.oneCell']) (by decide) (by unfold maxLen; omega) (by omega) ?_; intro g cap2 w1 hown' hbut hkept; have Y1 := Lib.hid hown'; have Y2 := Lib.hid hbut; have Y3 := Lib.hid hkept; clear hown' hbut hkept)
          go_roundw
          case rel =>
            refine ⟨k + 1, s.get key, by omega, by go_num, ST.out.symm, rfl, rfl, rfl, ?_, ?_, ?_⟩
            · have := Y1.out
              rw [show (s.get key).reads = s.reads ++ [Rd.mk key s.is s.value] from rfl, HRD.out, List.length_append]
              exact this
            · intro j hj
              rcases Y3.out j hj with e | e
              · exact K2.out j e
              · have := K3.out.size; simp at e; omega
            · exact Below.trans K3.out (((Ext.but E2.out (fun _ => False)).trans Y2.out (U := fun j => w.heap.size ≤ j) (fun _ _ e => e.elim) (fun i _ e => K2.out i e)).below K3.out.size (fun _ h => h))
          case measure => simp [intOf]; omega
        · have e1 : (kd == 1) = false := by simpa using k1
          by_cases k2 : kd = 2
          · subst k2
            have hnx : s.step ⟨2, key, val, num⟩ = s.puts val := rfl
            rw [hnx] at ST
            clear hnx
            go_wp2_with fail
            go_roundw
            case rel => exact ⟨k + 1, s.puts val, by omega, by go_num, ST.out.symm, rfl, rfl, rfl, K1.out, K2.out, K3.out⟩
            case measure => simp [intOf]; omega
          · have e2 : (kd == 2) = false := by simpa using k2
            by_cases k3 : kd = 3
            · subst k3
              have hnx : s.step ⟨3, key, val, num⟩ = (s.get key).puts (addV s.value num) := rfl
              rw [hnx] at ST
              clear hnx
              have hwrap : IntKind.i64.wrap (refNumberL s.value.data.toList + max (min num 4294967296) (-4294967296)) = refNumberL s.value.data.toList + clampI num := by
                rw [← number_eq]
                exact IntWalk.i64_in _ (by have := numberL_bd s.value.data.toList; have := clampI_bd num; unfold clampI at *; omega)
              go_wp2_with (at_builtin; refine wpList_append_at _ rfl _ _ 36 rfl 78 i0 _ 3 40 Tryz.underlying36 hi hz0 hz1 hz2 rfl (by decide) _ s.reads.length (s.reads.flatMap encRd) rfl (own_ext K1.out E2.out) ⟨wr.heap.size, 0, none⟩ 1 1 (encRd (Rd.mk key s.is s.value)) rfl rfl CN.out (by simp [encRd, Value.oneCell']) (by decide) (by unfold maxLen; omega) (by omega) ?_; intro g cap2 w1 hown' hbut hkept; have Y1 := Lib.hid hown'; have Y2 := Lib.hid hbut; have Y3 := Lib.hid hkept; clear hown' hbut hkept)
              have hx1 : Below w.heap.size wr w1 := ((Ext.but E2.out (fun _ => False)).trans Y2.out (U := fun j => w.heap.size ≤ j) (fun _ _ e => e.elim) (fun i _ e => K2.out i e)).below K3.out.size (fun _ h => h)
              have m3 : w1.cell? ⟨b, off + k * 4 + 3, none⟩ = some (.int .i64 num) := (hx1.cell (p := ⟨b, off + k * 4 + 3, none⟩) hb).trans d3
              have m3' := ExtBy.cell m3
              have X1 := Lib.hid hx1
              have hnum := fun W => refNumber_calls s.value W hval
              have hvl := fun W => refValue_calls (refNumberL s.value.data.toList + clampI num) W
              have HN := Lib.hid hnum; have HVL := Lib.hid hvl
              clear hx1 hnum hvl m3 d0 d1 d2 d3
              refine wp_region_ext (by kernel_rfl) (by kernel_rfl) ?_
              repeat (go_big_quiet_step ((first | (with_reducible exact Calls.ext_of_same _ (HN.out _)) | (with_reducible exact Calls.ext_of _ (HVL.out _)))))
              refine wpQuiet_nil ?_
              intro _ hw'
              obtain ⟨⟨w7, hx7⟩, hw''⟩ := hw'
              have X7 := Lib.hid hx7
              subst hw''
              clear hx7 hwrap m3'
              go_wp2_with fail
              go_roundw
              case rel =>
                refine ⟨k + 1, (s.get key).puts (addV s.value num), by omega, by go_num, ST.out.symm, rfl, ?_, rfl, ?_, ?_, ?_⟩
                · show _ = Value.string (addV s.value num)
                  unfold addV
                  rw [number_eq]
                · have := own_ext Y1.out X7.out
                  rw [show ((s.get key).puts (addV s.value num)).reads = s.reads ++ [Rd.mk key s.is s.value] from rfl, HRD.out, List.length_append]
                  exact this
                · intro j hj
                  rcases Y3.out j hj with e | e
                  · exact K2.out j e
                  · have := K3.out.size; simp at e; omega
                · exact Below.trans (Below.trans K3.out X1.out) (Below.mono X7.out (by have := X1.out.size; have := K3.out.size; omega))
              case measure => simp [intOf]; omega
            · have e3 : (kd == 3) = false := by simpa using k3
              have hnx : s.step ⟨kd, key, val, num⟩ = s := by simp [St.step, k1, k2, k3]
              rw [hnx] at ST
              clear hnx k1 k2 k3
              go_wp2_with fail
              go_roundw
              case rel => exact ⟨k + 1, s, by omega, by go_num, ST.out.symm, rfl, rfl, rfl, K1.out, K2.out, K3.out⟩
              case measure => simp [intOf]; omega
      · have hs2 : doRes false value l = s := by rw [hs1, List.take_of_length_le (by omega)]; rfl
        have HS1 := Lib.hid hs1; have HS2 := Lib.hid hs2
        clear hs1 hs2
        cases hput : s.put
        · go_wp2_with fail
          go_ret3
          refine ⟨_, ?_, by rw [HS2.out]; exact K1.out, K2.out, K3.out⟩
          unfold doAfter
          rw [HS2.out, hput]; rfl
        · go_wp2_with fail
          go_ret3
          refine ⟨_, ?_, by rw [HS2.out]; exact K1.out, K2.out, K3.out⟩
          unfold doAfter
          rw [HS2.out, hput]; rfl
  · have hv0 : (St.begin true value).value = value := rfl
    have HV0 := Lib.hid hv0; clear hv0
    go_loopw [0, 1, 9, 10, 11] (fun vi vv v vp i wr => ∃ (k : Nat) (s : St), k ≤ l.length ∧ i = .int .i64 k ∧ s = (St.begin true value).after (l.take k) ∧ vi = .bool s.is ∧ vv = .string s.value ∧ vp = .bool s.put ∧ wr.ownsRow 0 78 3 v s.reads.length (s.reads.flatMap encRd) ∧ (∀ j, v.ownBlock = some j → w.heap.size ≤ j) ∧ Ext w wr) (fun _ _ _ _ i _ => l.length - (intOf i).toNat)
    case atStart => exact ⟨0, _, by omega, rfl, rfl, rfl, rfl, rfl, World.ownsRow_nil _ _ _ _, by simp [Value.ownBlock], Below.refl _ _⟩
    case round =>
      obtain ⟨k, s, hk, rfl, hs1, rfl, rfl, rfl, hown, hnew, hx⟩ := hrel
      have K1 := Lib.hid hown; have K2 := Lib.hid hnew; have K3 := Lib.hid hx
      clear hown hnew hx
      by_cases hlt : k < l.length
      · obtain ⟨x, hx⟩ : ∃ x, l[k]? = some x := ⟨_, List.getElem?_eq_getElem hlt⟩
        have hbd := St.after_bd (l.take k) (St.begin true value) hsb (fun a ha => H0.out a (List.mem_of_mem_take ha))
        have hstep := St.after_succ (St.begin true value) l k x hx
        rw [← hs1] at hbd hstep
        have hlen : s.reads.length ≤ 1000000 := by have := hbd.2; simp [St.begin] at this; omega
        have hval := hbd.1
        obtain ⟨b, off, rfl, hb, hcell⟩ := HR.out (by intro e; rw [e] at hlt; simp at hlt)
        have hcx := hcell k x hx
        have hmove : ∀ j, wr.cell? ⟨b, j, none⟩ = w.cell? ⟨b, j, none⟩ := fun j => K3.out.cell (p := ⟨b, j, none⟩) hb
        obtain ⟨kd, key, val, num⟩ := x
        have d0 := (hmove _).trans (hcx 0 _ rfl); have d1 := (hmove _).trans (hcx 1 _ rfl); have d2 := (hmove _).trans (hcx 2 _ rfl); have d3 := (hmove _).trans (hcx 3 _ rfl)
        simp only [Nat.add_zero] at d0
        have hi0 : (0 : Int) ≤ (k : Int) := by omega
        have hi1 : (k : Int) < (l.length : Int) := by omega
        have ST := Lib.hid hstep; have HS1 := Lib.hid hs1
        have hrd : (s.reads ++ [Rd.mk key s.is s.value]).flatMap encRd = s.reads.flatMap encRd ++ encRd (Rd.mk key s.is s.value) := by rw [List.flatMap_append]; simp
        have HRD := Lib.hid hrd
        clear hx hcell hcx hmove hbd hstep hs1 hrd
        have CN := Lib.hid (cells_new wr (encRd (Rd.mk key s.is s.value)) 78)
        have E2 : Hid (Ext wr (wr.alloc (.cells (encRd (Rd.mk key s.is s.value)).toArray 78))) := Lib.hid ((Below.refl _ wr).alloc (Nat.le_refl _) _)
        by_cases k1 : kd = 1
        · subst k1
          have hnx : s.step ⟨1, key, val, num⟩ = s.get key := rfl
          rw [hnx] at ST
          clear hnx
          go_wp2_with (at_builtin; refine wpList_append_at _ rfl _ _ 36 rfl 78 i0 _ 3 40 Tryz.underlying36 hi hz0 hz1 hz2 rfl (by decide) _ s.reads.length (s.reads.flatMap encRd) rfl (own_ext K1.out E2.out) ⟨wr.heap.size, 0, none⟩ 1 1 (encRd (Rd.mk key s.is s.value)) rfl rfl CN.out (by simp [encRd, Value.oneCell']) (by decide) (by unfold maxLen; omega) (by omega) ?_; intro g cap2 w1 hown' hbut hkept; have Y1 := Lib.hid hown'; have Y2 := Lib.hid hbut; have Y3 := Lib.hid hkept; clear hown' hbut hkept)
          go_roundw
          case rel =>
            refine ⟨k + 1, s.get key, by omega, by go_num, ST.out.symm, rfl, rfl, rfl, ?_, ?_, ?_⟩
            · have := Y1.out
              rw [show (s.get key).reads = s.reads ++ [Rd.mk key s.is s.value] from rfl, HRD.out, List.length_append]
              exact this
            · intro j hj
              rcases Y3.out j hj with e | e
              · exact K2.out j e
              · have := K3.out.size; simp at e; omega
            · exact Below.trans K3.out (((Ext.but E2.out (fun _ => False)).trans Y2.out (U := fun j => w.heap.size ≤ j) (fun _ _ e => e.elim) (fun i _ e => K2.out i e)).below K3.out.size (fun _ h => h))
          case measure => simp [intOf]; omega
        · have e1 : (kd == 1) = false := by simpa using k1
          by_cases k2 : kd = 2
          · subst k2
            have hnx : s.step ⟨2, key, val, num⟩ = s.puts val := rfl
            rw [hnx] at ST
            clear hnx
            go_wp2_with fail
            go_roundw
            case rel => exact ⟨k + 1, s.puts val, by omega, by go_num, ST.out.symm, rfl, rfl, rfl, K1.out, K2.out, K3.out⟩
            case measure => simp [intOf]; omega
          · have e2 : (kd == 2) = false := by simpa using k2
            by_cases k3 : kd = 3
            · subst k3
              have hnx : s.step ⟨3, key, val, num⟩ = (s.get key).puts (addV s.value num) := rfl
              rw [hnx] at ST
              clear hnx
              have hwrap : IntKind.i64.wrap (refNumberL s.value.data.toList + max (min num 4294967296) (-4294967296)) = refNumberL s.value.data.toList + clampI num := by
                rw [← number_eq]
                exact IntWalk.i64_in _ (by have := numberL_bd s.value.data.toList; have := clampI_bd num; unfold clampI at *; omega)
              go_wp2_with (at_builtin; refine wpList_append_at _ rfl _ _ 36 rfl 78 i0 _ 3 40 Tryz.underlying36 hi hz0 hz1 hz2 rfl (by decide) _ s.reads.length (s.reads.flatMap encRd) rfl (own_ext K1.out E2.out) ⟨wr.heap.size, 0, none⟩ 1 1 (encRd (Rd.mk key s.is s.value)) rfl rfl CN.out (by simp [encRd, Value.oneCell']) (by decide) (by unfold maxLen; omega) (by omega) ?_; intro g cap2 w1 hown' hbut hkept; have Y1 := Lib.hid hown'; have Y2 := Lib.hid hbut; have Y3 := Lib.hid hkept; clear hown' hbut hkept)
              have hx1 : Below w.heap.size wr w1 := ((Ext.but E2.out (fun _ => False)).trans Y2.out (U := fun j => w.heap.size ≤ j) (fun _ _ e => e.elim) (fun i _ e => K2.out i e)).below K3.out.size (fun _ h => h)
              have m3 : w1.cell? ⟨b, off + k * 4 + 3, none⟩ = some (.int .i64 num) := (hx1.cell (p := ⟨b, off + k * 4 + 3, none⟩) hb).trans d3
              have m3' := ExtBy.cell m3
              have X1 := Lib.hid hx1
              have hnum := fun W => refNumber_calls s.value W hval
              have hvl := fun W => refValue_calls (refNumberL s.value.data.toList + clampI num) W
              have HN := Lib.hid hnum; have HVL := Lib.hid hvl
              clear hx1 hnum hvl m3 d0 d1 d2 d3
              refine wp_region_ext (by kernel_rfl) (by kernel_rfl) ?_
              repeat (go_big_quiet_step ((first | (with_reducible exact Calls.ext_of_same _ (HN.out _)) | (with_reducible exact Calls.ext_of _ (HVL.out _)))))
              refine wpQuiet_nil ?_
              intro _ hw'
              obtain ⟨⟨w7, hx7⟩, hw''⟩ := hw'
              have X7 := Lib.hid hx7
              subst hw''
              clear hx7 hwrap m3'
              go_wp2_with fail
              go_roundw
              case rel =>
                refine ⟨k + 1, (s.get key).puts (addV s.value num), by omega, by go_num, ST.out.symm, rfl, ?_, rfl, ?_, ?_, ?_⟩
                · show _ = Value.string (addV s.value num)
                  unfold addV
                  rw [number_eq]
                · have := own_ext Y1.out X7.out
                  rw [show ((s.get key).puts (addV s.value num)).reads = s.reads ++ [Rd.mk key s.is s.value] from rfl, HRD.out, List.length_append]
                  exact this
                · intro j hj
                  rcases Y3.out j hj with e | e
                  · exact K2.out j e
                  · have := K3.out.size; simp at e; omega
                · exact Below.trans (Below.trans K3.out X1.out) (Below.mono X7.out (by have := X1.out.size; have := K3.out.size; omega))
              case measure => simp [intOf]; omega
            · have e3 : (kd == 3) = false := by simpa using k3
              have hnx : s.step ⟨kd, key, val, num⟩ = s := by simp [St.step, k1, k2, k3]
              rw [hnx] at ST
              clear hnx k1 k2 k3
              go_wp2_with fail
              go_roundw
              case rel => exact ⟨k + 1, s, by omega, by go_num, ST.out.symm, rfl, rfl, rfl, K1.out, K2.out, K3.out⟩
              case measure => simp [intOf]; omega
      · have hs2 : doRes true value l = s := by rw [hs1, List.take_of_length_le (by omega)]; rfl
        have HS1 := Lib.hid hs1; have HS2 := Lib.hid hs2
        clear hs1 hs2
        cases hput : s.put
        · go_wp2_with fail
          go_ret3
          refine ⟨_, ?_, by rw [HS2.out]; exact K1.out, K2.out, K3.out⟩
          unfold doAfter
          rw [HS2.out, hput]; rfl
        · go_wp2_with fail
          go_ret3
          refine ⟨_, ?_, by rw [HS2.out]; exact K1.out, K2.out, K3.out⟩
          unfold doAfter
          rw [HS2.out, hput]; rfl
end Go.Proofs.YtngahblgicjoiaaGreatDoor
