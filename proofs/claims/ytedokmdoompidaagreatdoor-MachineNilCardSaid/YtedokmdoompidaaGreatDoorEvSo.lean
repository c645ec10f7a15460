/- The evaluator: slices.Sorted(slices.Values(texts)), strings.Compare by their contracts. -/
import Derived.Test.YtedokmdoompidaaGreatDoorEwG
import Derived.Test.YtedokmdoompidaaGreatDoorBusy
import Derived.Lib.Bytealg
namespace Go.Proofs.YtedokmdoompidaaGreatDoor.Ev

def leN : List Nat → List Nat → Bool
  | [], _ => true
  | _ :: _, [] => false
  | a :: l, b :: m => bif Nat.blt a b then true else bif Nat.beq a b then leN l m else false
def insN (x : List Nat) : List (List Nat) → List (List Nat)
  | [] => [x]
  | y :: l => bif leN x y then x :: y :: l else y :: insN x l
def srtN : List (List Nat) → List (List Nat)
  | [] => []
  | x :: l => insN x (srtN l)
def strsA : List AV → Option (List (List Nat))
  | [] => some []
  | .str s :: l => (match strsA l with
    | some r => some (s :: r)
    | none => none)
  | _ :: _ => none
def rowA (x : AV) : Option (Nat × Nat × Nat) := match x with
  | .sl b o n _ => some (b, o, n)
  | .slu b o n _ => some (b, o, n)
  | _ => none
def sortA (g : FuncId) (e : TypeId) (args : List AV) (S : St) : Option (AV × St) := match args with
  | [.fn g' [] [.ptr c 0]] => bif Nat.beq g' g then (match loadC S c 0 1 with
    | some [x] => (match rowA x with
      | some (b, o, n) => bif Nat.ble n 1000000 && Nat.blt 0 n then (match loadC S b o n with
        | some l => (match strsA l with
          | some zs => (match newC S e true false ((srtN zs).map AV.str) with
            | some S' => some (.slu S.nx 0 n 1, S')
            | none => none)
          | none => none)
        | none => none) else none
      | none => none)
    | _ => none) else none
  | _ => none
def sortHk (f g : FuncId) (e : TypeId) : Hk := fun f' => bif Nat.beq f' f then some (sortA g e) else none
def cmpN : List Nat → List Nat → Int
  | [], [] => 0
  | [], _ :: _ => .negSucc 0
  | _ :: _, [] => 1
  | x :: a, y :: b => bif Nat.blt x y then .negSucc 0 else bif Nat.blt y x then 1 else cmpN a b
def cmpA (args : List AV) (S : St) : Option (AV × St) := match args with
  | [.str a, .str b] => (match cmpN a b with
    | .ofNat 0 => some (.int .i64 (.ofNat 0), S)
    | .ofNat (_ + 1) => some (.int .i64 (.ofNat 1), S)
    | .negSucc _ => some (.int .i64 (.negSucc 0), S))
  | _ => none
/-- Both. -/
def libHk (f g : FuncId) (e : TypeId) (c : FuncId) : Hk := fun f' => bif Nat.beq f' c then some cmpA else sortHk f g e f'

/-- The bytes of a text as numbers. -/
def nums (l : List UInt8) : List Nat := l.map (·.toNat)
theorem leN_eq : ∀ x y : List UInt8, leN (nums x) (nums y) = decide (x ≤ y)
  | [], y => by simp [nums, leN]
  | a :: l, [] => by
    have : ¬ (a :: l ≤ []) := by simp
    simp [nums, leN]
  | a :: l, b :: m => by
    have ih := leN_eq l m
    simp only [nums] at ih
    simp only [nums, List.map_cons, leN, ih]
    have h := @List.cons_le_cons_iff UInt8 _ _ _ a b l m
    cases h1 : Nat.blt a.toNat b.toNat with
    | true =>
      have hlt : a < b := UInt8.lt_iff_toNat_lt.2 (Nat.le_of_ble_eq_true h1)
      simp only [cond_true]
      exact (decide_eq_true (h.2 (.inl hlt))).symm
    | false =>
      have hnlt : ¬ a < b := fun hh => by
        have := UInt8.lt_iff_toNat_lt.1 hh
        have h2 : Nat.blt a.toNat b.toNat = true := Nat.ble_eq_true_of_le this
        rw [h1] at h2; cases h2
      simp only [cond_false]
      cases h2 : Nat.beq a.toNat b.toNat with
      | true =>
        have he : a = b := UInt8.toNat_inj.1 (Nat.eq_of_beq_eq_true h2)
        simp only [cond_true]
        rw [decide_eq_decide]
        rw [h]
        exact ⟨fun h => .inr ⟨he, h⟩, fun h => h.elim (fun h => absurd h hnlt) (·.2)⟩
      | false =>
        simp only [cond_false]
        refine (decide_eq_false ?_).symm
        rw [h]
        rintro (h | ⟨h, _⟩)
        · exact hnlt h
        · rw [h] at h2
          exact absurd (Nat.beq_refl b.toNat) (by rw [h2]; simp)
def insU (x : List UInt8) : List (List UInt8) → List (List UInt8)
  | [] => [x]
  | y :: l => bif decide (x ≤ y) then x :: y :: l else y :: insU x l
def srtU : List (List UInt8) → List (List UInt8)
  | [] => []
  | x :: l => insU x (srtU l)
theorem insN_map (x : List UInt8) : ∀ l, insN (nums x) (l.map nums) = (insU x l).map nums
  | [] => rfl
  | y :: l => by
    simp only [List.map_cons, insN, insU, leN_eq, insN_map x l]
    cases decide (x ≤ y) <;> rfl
theorem srtN_map : ∀ l : List (List UInt8), srtN (l.map nums) = (srtU l).map nums
  | [] => rfl
  | x :: l => by simp only [List.map_cons, srtN, srtU, srtN_map l, insN_map]
theorem insU_perm (x : List UInt8) : ∀ l, (insU x l).Perm (x :: l)
  | [] => .refl _
  | y :: l => by
    simp only [insU]
    cases decide (x ≤ y) with
    | true => exact .refl _
    | false => exact ((insU_perm x l).cons y).trans (.swap x y l)
theorem srtU_perm : ∀ l, (srtU l).Perm l
  | [] => .refl _
  | x :: l => (insU_perm x _).trans ((srtU_perm l).cons x)
theorem insU_sorted (x : List UInt8) : ∀ l, (l.Pairwise fun a b => a ≤ b) → (insU x l).Pairwise fun a b => a ≤ b
  | [], _ => by simp [insU]
  | y :: l, h => by
    have h1 := List.pairwise_cons.1 h
    simp only [insU]
    cases hd : decide (x ≤ y) with
    | true =>
      have hxy : x ≤ y := of_decide_eq_true hd
      refine List.pairwise_cons.2 ⟨fun z hz => ?_, h⟩
      rcases List.mem_cons.1 hz with rfl | hz
      · exact hxy
      · exact List.le_trans hxy (h1.1 z hz)
    | false =>
      have hxy : y ≤ x := (List.le_total x y).resolve_left (of_decide_eq_false hd)
      refine List.pairwise_cons.2 ⟨fun z hz => ?_, insU_sorted x l h1.2⟩
      rcases List.mem_cons.1 ((insU_perm x l).mem_iff.1 hz) with rfl | hz
      · exact hxy
      · exact h1.1 z hz
theorem srtU_sorted : ∀ l, (srtU l).Pairwise fun a b => a ≤ b
  | [] => .nil
  | x :: l => insU_sorted x _ (srtU_sorted l)
theorem srtU_eq (l : List (List UInt8)) : srtU l = sortL l := by
  refine List.Perm.eq_of_pairwise (le := fun a b => a ≤ b) (fun a b _ _ h1 h2 => List.le_antisymm h1 h2) (srtU_sorted l) ?_ ((srtU_perm l).trans (List.mergeSort_perm l _).symm)
  have h := List.pairwise_mergeSort (le := fun x y : List UInt8 => decide (x ≤ y)) (fun a b c h1 h2 => by
    simp only [decide_eq_true_eq] at *
    exact List.le_trans h1 h2) (fun a b => by
    rcases List.le_total a b with h | h
    · simp [h]
    · simp [h]) l
  exact h.imp (fun h => by simpa using h)

section
variable (σ : Nat → Value)
/-- A block that a call has laid comes into sight. -/
theorem Post.adopt {φ : Phi} {S S' : St} {w w' : World} {r n : Nat} {blk : Blk} {o : Obj} (hW : W σ φ S w) (hb : RowKit.Below w.heap.size w w') (hr : w.heap.size ≤ r) (ho : w'.heap[r]? = some o)
    (hput : ∀ m, S'.h.get m = if m = S.nx then some blk else S.h.get m) (hnx : S'.nx = S.nx + 1) (hBR : BR σ (φ.set S.nx (r, n)) blk n o) : Post σ φ S w (φ.set S.nx (r, n)) S' w' := by
  have hnone : φ S.nx = none := by
    cases h : φ S.nx with
    | none => rfl
    | some y => exact absurd (hW.lt S.nx y.1 y.2 h).2 (Nat.lt_irrefl _)
  have hle : φ.le (φ.set S.nx (r, n)) := fun b x h => by
    unfold Phi.set
    split
    · rename_i e; rw [e, hnone] at h; cases h
    · exact h
  have hrl : r < w'.heap.size := (Array.getElem?_eq_some_iff.1 ho).1
  exact {
  wr := {
    at_ := fun b1 blk1 r1 n1 h1 h2 => by
      rw [hput] at h1
      unfold Phi.set at h2
      by_cases he : b1 = S.nx
      · rw [if_pos he] at h1 h2
        injection h2 with h2; injection h2 with h2 h3; subst h2; subst h3
        injection h1 with h1; subst h1
        exact ⟨o, ho, hBR⟩
      · rw [if_neg he] at h1 h2
        obtain ⟨o', h3, h4⟩ := hW.at_ b1 blk1 r1 n1 h1 h2
        refine ⟨o', ?_, h4.mono σ hle⟩
        rw [hb.block _ (hW.lt _ _ _ h2).1]
        exact h3
    inj := fun b1 b2 blk1 blk2 r1 n1 n2 h1 h2 h3 h4 => by
      rw [hput] at h1 h2
      unfold Phi.set at h3 h4
      by_cases e1 : b1 = S.nx <;> by_cases e2 : b2 = S.nx
      · rw [e1, e2]
      · rw [if_pos e1] at h3; rw [if_neg e2] at h4
        injection h3 with h3; injection h3 with h3 _
        exact absurd (hW.lt _ _ _ h4).1 (by omega)
      · rw [if_neg e1] at h3; rw [if_pos e2] at h4
        injection h4 with h4; injection h4 with h4 _
        exact absurd (hW.lt _ _ _ h3).1 (by omega)
      · rw [if_neg e1] at h1 h3; rw [if_neg e2] at h2 h4
        exact hW.inj b1 b2 blk1 blk2 r1 n1 n2 h1 h2 h3 h4
    lt := fun b1 r1 n1 h => by
      rw [hnx]
      unfold Phi.set at h
      split at h
      · injection h with h; injection h with h _; omega
      · have := hW.lt b1 r1 n1 h; have := hb.size; omega
    dom := fun b1 blk1 h => by
      rw [hnx]
      rw [hput] at h
      by_cases he : b1 = S.nx
      · omega
      · rw [if_neg he] at h; have := hW.dom _ _ h; omega }
  le := hle
  new := fun b x hx => by
    unfold Phi.set at hx
    split at hx
    · rename_i e; subst e; exact .inr ⟨hnone, Nat.le_refl _⟩
    · exact .inl hx
  nx := by omega
  sz := hb.size
  real := fun b r n h1 h2 => by
    unfold Phi.set at h1
    split at h1
    · injection h1 with h1; injection h1 with h1 _; exact .inl (by omega)
    · rw [h1] at h2; cases h2
  live := fun b blk' hb h => by
    rw [hput, if_neg (by omega)] at h
    exact ⟨blk', h, rfl⟩
  away := fun b hb _ => by rw [hput, if_neg (by omega)]
  frame := fun r hr _ => hb.block r hr
  rest := ⟨hb.os, hb.tape, hb.output⟩ }
theorem strs_spec {φ : Phi} : ∀ {l : List AV} {us : List Value} {zs : List (List Nat)}, VL σ φ l us → strsA l = some zs → ∃ bs : List (List UInt8), us = bs.map Go.Proofs.encStr ∧ bs.map nums = zs
  | [], us, zs, hv, h => by
    simp only [VL] at hv; subst hv
    simp only [strsA, Option.some.injEq] at h; subst h
    exact ⟨[], rfl, rfl⟩
  | x :: l, us, zs, hv, h => by
    simp only [VL] at hv
    obtain ⟨v, vs, rfl, h1, h2⟩ := hv
    unfold strsA at h
    split at h
    · rename_i hx; cases hx
    · rename_i s l' hx
      injection hx with hx hx'
      subst hx; subst hx'
      split at h
      · rename_i r hr
        injection h with h; subst h
        obtain ⟨bs, h3, h4⟩ := strs_spec h2 hr
        simp only [V] at h1
        obtain ⟨b, rfl, hb⟩ := h1
        refine ⟨b.data.toList :: bs, ?_, ?_⟩
        · rw [h3]; rfl
        · simp only [List.map_cons, h4, nums, hb]
      · cases h
    · cases h
theorem rowA_spec {φ : Phi} {x : AV} {u : Value} {b o n : Nat} (hv : V σ φ x u) (h : rowA x = some (b, o, n)) : ∃ r m c, φ b = some (r, m) ∧ u = .slice (some ⟨r, o, none⟩) n c := by
  unfold rowA at h
  split at h
  · injection h with h; injection h with h1 h2; injection h2 with h2 h3; subst h1 h2 h3
    simp only [V] at hv
    obtain ⟨r, m, h1, h2⟩ := hv
    exact ⟨r, m, _, h1, h2⟩
  · injection h with h; injection h with h1 h2; injection h2 with h2 h3; subst h1 h2 h3
    simp only [V] at hv
    obtain ⟨r, m, c, h1, h2, _⟩ := hv
    exact ⟨r, m, c, h1, h2⟩
  · cases h
theorem sortHk_snd (GS : Nat → Option Nat) : HkSnd σ Tryz.prog GS (sortHk 224 282 9) := by
  intro f g hf args S v S' h φ w vs hW hg hv
  unfold sortHk at hf
  cases hff : Nat.beq f 224 with
  | false => rw [hff] at hf; cases hf
  | true =>
    rw [hff] at hf
    injection hf with hf; subst hf
    have := Nat.eq_of_beq_eq_true hff
    subst this
    unfold sortA at h
    split at h
    · rename_i g' c
      cases hgg : Nat.beq g' 282 with
      | false => rw [hgg] at h; cases h
      | true =>
        rw [hgg, cond_true] at h
        have := Nat.eq_of_beq_eq_true hgg
        subst this
        simp only [VL, V] at hv
        obtain ⟨v0, l0, rfl, ⟨xs, cs, rfl, rfl, ⟨p, l1, rfl, ⟨r, m, hc, rfl⟩, rfl⟩⟩, rfl⟩ := hv
        split at h
        · rename_i x hx
          obtain ⟨us, k1, k2, k3⟩ := loadC_spec σ hW hc hx
          simp only [VL] at k1
          obtain ⟨u, l1, rfl, k4, rfl⟩ := k1
          have hcell := k3 0 u rfl
          split at h
          · rename_i b o n hrow
            obtain ⟨rb, mb, cap, hb, rfl⟩ := rowA_spec σ k4 hrow
            cases hn : (Nat.ble n 1000000 && Nat.blt 0 n) with
            | false => rw [hn] at h; cases h
            | true =>
              rw [hn, cond_true] at h
              simp only [Bool.and_eq_true] at hn
              have hn1 : n ≤ 1000000 := Nat.le_of_ble_eq_true hn.1
              have hn2 : 0 < n := Nat.le_of_ble_eq_true hn.2
              split at h
              · rename_i l hl
                obtain ⟨ws, j1, j2, j3⟩ := loadC_spec σ hW hb hl
                split at h
                · rename_i zs hzs
                  obtain ⟨bs, e1, e2⟩ := strs_spec σ j1 hzs
                  have hbl : bs.length = n := by rw [← j2, e1, List.length_map]
                  split at h
                  · rename_i S1 hS1
                    injection h with h; injection h with h1 h2; subst h1; subst h2
                    have hseq := values1_gives r (some ⟨rb, o, none⟩) cap bs w (by omega) (hW.lt _ _ _ hc).1 (by rw [hbl]; exact hcell) (fun _ => ⟨rb, o, rfl, (hW.lt _ _ _ hb).1, fun j x hj => j3 j _ (by rw [e1, List.getElem?_map, hj]; rfl)⟩)
                    refine (sorted_calls _ _ (enters_of Tryz.func282 (by kernel_rfl) rfl) bs (by omega) w hseq).mono ?_
                    rintro e w' ⟨v, rfl, hrow', hx'⟩
                    rcases hrow'.2 with ⟨_, hz⟩ | ⟨gb, cap', cur, rfl, hbase, hgb, r1, r2, r3, r4⟩
                    · omega
                    · rw [hbl] at r1 r4
                      rw [Nat.mul_one] at r3 r4
                      have hlen : ((srtN zs).map AV.str).length = n := by
                        rw [← e2, srtN_map, List.length_map, List.length_map, (srtU_perm bs).length_eq, hbl]
                      unfold newC at hS1
                      split at hS1
                      · rename_i cs hcs
                        split at hS1
                        · rename_i h' hh
                          injection hS1 with hS1; subst hS1
                          refine ⟨_, φ.set S.nx (gb, cur.size), rfl, Post.adopt σ hW hx' hbase hgb (Tr.get_put _ _ _ _ _ hh) rfl ?_, ?_⟩
                          · refine ⟨cur, (0, 0), rfl, rfl, by rw [hlen, r3]; exact r1, (fun h => by cases h), fun i hi => ?_, .inl (Nat.le_refl _), fun _ => rfl⟩
                            rw [hlen] at hi
                            have hget := Tr.get_putAll _ _ _ _ hcs i
                            rw [if_pos (by rw [hlen]; omega), Nat.sub_zero, ← e2, srtN_map, srtU_eq, List.map_map, List.getElem?_map] at hget
                            have hsl : (sortL bs).length = n := by rw [← srtU_eq, (srtU_perm bs).length_eq, hbl]
                            have hsi : (sortL bs)[i]? = some ((sortL bs)[i]'(by rw [hsl]; exact hi)) := List.getElem?_eq_getElem _
                            rw [hsi] at hget
                            have hci : cur.toList[i]? = some (Go.Proofs.encStr ((sortL bs)[i]'(by rw [hsl]; exact hi))) := by
                              have : (cur.toList.take n)[i]? = some (Go.Proofs.encStr ((sortL bs)[i]'(by rw [hsl]; exact hi))) := by
                                rw [r4, List.getElem?_map, hsi]; rfl
                              rwa [List.getElem?_take_of_lt hi] at this
                            refine ⟨_, _, hget, by rw [← Array.getElem?_toList]; exact hci, ?_⟩
                            simp only [V, Function.comp]
                            exact ⟨_, rfl, rfl⟩
                          · simp only [V]
                            exact ⟨gb, cur.size, cap', by simp [Phi.set], by rw [hbl], by rw [r3]; omega, r1⟩
                        · cases hS1
                      · cases hS1
                  · cases h
                · cases h
              · cases h
          · cases h
        · cases h
    · cases h
theorem cmpN_eq : ∀ a b : List UInt8, cmpN (nums a) (nums b) = Lib.compareBytes a b
  | [], [] => rfl
  | [], _ :: _ => rfl
  | _ :: _, [] => rfl
  | x :: a, y :: b => by
    have ih := cmpN_eq a b
    simp only [nums] at ih
    simp only [nums, List.map_cons, cmpN, ih, Lib.compareBytes]
    have k : ∀ p q : UInt8, Nat.blt p.toNat q.toNat = decide (p < q) := fun p q => by
      by_cases h : p < q
      · rw [decide_eq_true h]; exact Nat.ble_eq_true_of_le (UInt8.lt_iff_toNat_lt.1 h)
      · rw [decide_eq_false h]
        cases hb : Nat.blt p.toNat q.toNat with
        | false => rfl
        | true => exact absurd (UInt8.lt_iff_toNat_lt.2 (Nat.le_of_ble_eq_true hb)) h
    rw [k, k]
    by_cases h1 : x < y
    · simp [h1]
    · by_cases h2 : y < x
      · simp [h1, h2]
      · simp [h1, h2]
theorem compareBytes_three : ∀ a b : List UInt8, Lib.compareBytes a b = 0 ∨ Lib.compareBytes a b = 1 ∨ Lib.compareBytes a b = -1
  | [], [] => .inl rfl
  | [], _ :: _ => .inr (.inr rfl)
  | _ :: _, [] => .inr (.inl rfl)
  | x :: a, y :: b => by
    rw [Lib.compareBytes]
    split
    · exact .inr (.inr rfl)
    · split
      · exact .inr (.inl rfl)
      · exact compareBytes_three a b
set_option maxRecDepth 100000 in
theorem cmpString_calls (a b : ByteArray) (w : World) : Calls Tryz.prog 275 #[.string a, .string b] w fun e w' => e = .returned (.int .i64 (Lib.compareBytes a.data.toList b.data.toList)) ∧ w = w' := by
  go_enter Tryz.func275, Tryz.ntmps275
  go_wp2
  rw [run_callFunc_extern Tryz.func315 (by kernel_rfl) (by kernel_rfl) (by kernel_rfl) (e := Extern.BytealgCompare.compare) (by kernel_rfl), Lib.run_compareString]
  simp only [Result.andThen]
  rw [Oper.upon_value]
  go_wp2
  go_ret
  exact ⟨rfl, rfl⟩
theorem libHk_snd (GS : Nat → Option Nat) : HkSnd σ Tryz.prog GS (libHk 224 282 9 275) := by
  intro f g hf
  unfold libHk at hf
  cases hff : Nat.beq f 275 with
  | false => rw [hff] at hf; exact sortHk_snd σ GS f g hf
  | true =>
    rw [hff] at hf
    injection hf with hf; subst hf
    have := Nat.eq_of_beq_eq_true hff
    subst this
    intro args S v S' h φ w vs hW hg hv
    unfold cmpA at h
    split at h
    · rename_i a b
      simp only [VL, V] at hv
      obtain ⟨v0, l0, rfl, ⟨x, rfl, hx⟩, v1, l1, rfl, ⟨y, rfl, hy⟩, rfl⟩ := hv
      have he : cmpN a b = Lib.compareBytes x.data.toList y.data.toList := by rw [← hx, ← hy]; exact cmpN_eq _ _
      refine (cmpString_calls x y w).mono ?_
      rintro e w' ⟨rfl, rfl⟩
      rw [← he]
      have h3 := compareBytes_three x.data.toList y.data.toList
      rw [← he] at h3
      refine ⟨_, φ, rfl, ?_⟩
      split at h
      · rename_i h0
        injection h with h; injection h with h1 h2; subst h1; subst h2
        exact ⟨Post.refl σ hW, by simp only [V]; rw [h0]⟩
      · rename_i k h0
        injection h with h; injection h with h1 h2; subst h1; subst h2
        refine ⟨Post.refl σ hW, ?_⟩
        have h4 : cmpN a b = ((k + 1 : Nat) : Int) := h0
        have : cmpN a b = 1 := by omega
        simp only [V]; rw [this]; rfl
      · rename_i k h0
        injection h with h; injection h with h1 h2; subst h1; subst h2
        refine ⟨Post.refl σ hW, ?_⟩
        have h4 : cmpN a b = -((k : Int) + 1) := by rw [h0]; exact Int.negSucc_eq k
        have : cmpN a b = -1 := by omega
        simp only [V]; rw [this]; rfl
    · cases h
end
end Go.Proofs.YtedokmdoompidaaGreatDoor.Ev
