/- holds: what is written is read back, plainly. -/
import Derived.Test.YtdmejbjpbjcfbaaGreatDoorHoldR
import Derived.Test.YtdmejbjpbjcfbaaGreatDoorHoldW
import Derived.Test.YtdmejbjpbjcfbaaGreatDoorOneH
namespace Go.Proofs.YtdmejbjpbjcfbaaGreatDoor
open Go.RowKit

theorem ba_of_list {a b : ByteArray} (h : a.toList = b.toList) : a = b := (toList_iff a b).1 h
theorem ba_back (b : ByteArray) : (⟨b.data.toList.toArray⟩ : ByteArray) = b := by cases b; simp
theorem numZ_back {most m : Nat} {n : Int} (rest : List UInt8) (hn : n = (m : Int)) (h1 : m ≤ most) (h2 : m ≤ 4611686018427387903) : numS most ⟨false, numZ n ++ rest⟩ = (m, ⟨false, rest⟩) := by
  subst hn
  have ho : okN (m : Int) = true := by simp [okN]; omega
  rw [numZ, if_pos ho, Int.toNat_natCast]
  exact numS_back rest h2 h1
theorem rowB_back {most : Nat} (l rest : List UInt8) (h1 : l.length ≤ most) (h2 : l.length ≤ 4611686018427387903) : rowS most ⟨false, rowB l ++ rest⟩ = (l, ⟨false, rest⟩) := rowS_back l rest h2 h1
/-- An act that is written so that it is read back. -/
structure ActD.back (key : ByteArray) (a : ActD) : Prop where
  ky : a.key = key
  k0 : 0 ≤ a.kind
  k3 : a.kind ≤ 3
  vl : a.value.data.toList.length ≤ 20
  n0 : -1073741824 ≤ a.num
  n1 : a.num ≤ 1073741824
theorem absZ_small {n : Int} (h0 : -1073741824 ≤ n) (h1 : n ≤ 1073741824) : absZ n = if n < 0 then -n else n := by
  have e : wrap64 (-n) = -n := by unfold wrap64; omega
  rw [absZ, e]; split <;> omega
theorem act_back {key : ByteArray} {a : ActD} (h : a.back key) (rest : List UInt8) : actS key ⟨false, actW a ++ rest⟩ = (a, true, ⟨false, rest⟩) := by
  obtain ⟨kd, ky, vl, nm⟩ := a
  obtain ⟨h1, h2, h3, h4, h5, h6⟩ := h
  simp only at h1 h2 h3 h4 h5 h6
  subst h1
  have e1 : numS 3 ⟨false, actW ⟨kd, ky, vl, nm⟩ ++ rest⟩ = (kd.toNat, ⟨false, rowB vl.data.toList ++ (flagB (decide (nm < 0)) ++ (numZ (absZ nm) ++ rest))⟩) := by
    simp only [actW, List.append_assoc]
    exact numZ_back _ (by omega) (by omega) (by omega)
  have e2 := rowB_back (most := 20) vl.data.toList (flagB (decide (nm < 0)) ++ (numZ (absZ nm) ++ rest)) h4 (by omega)
  have e3 := flagS_back (decide (nm < 0)) (numZ (absZ nm) ++ rest)
  have e4 : numS 1073741824 ⟨false, numZ (absZ nm) ++ rest⟩ = (nm.natAbs, ⟨false, rest⟩) := by
    refine numZ_back _ ?_ (by omega) (by omega)
    rw [absZ_small h5 h6]; split <;> omega
  rw [actS_eq e1 e2 e3 e4, ba_back]
  refine Prod.ext ?_ (Prod.ext ?_ rfl)
  · simp only [ActD.mk.injEq, true_and]
    refine ⟨by omega, ?_⟩
    split
    · rename_i h; simp at h; omega
    · rename_i h; simp at h; omega
  · simp only
    by_cases h : nm < 0
    · simp [h]; omega
    · simp [h]
theorem acts_back {key : ByteArray} : ∀ (l : List ActD), (∀ a ∈ l, a.back key) → ∀ (rest : List UInt8) (k : Nat), k ≤ l.length → actsK key ⟨false, l.flatMap actW ++ rest⟩ k = (l.take k, true, ⟨false, (l.drop k).flatMap actW ++ rest⟩) := by
  intro l h rest k
  induction k with
  | zero => intro _; simp [actsK]
  | succ k ih =>
    intro hk
    have hlt : k < l.length := by omega
    obtain ⟨x, hx⟩ : ∃ x, l[k]? = some x := ⟨_, List.getElem?_eq_getElem hlt⟩
    have hd : l.drop k = x :: l.drop (k + 1) := by
      rw [List.drop_eq_getElem_cons hlt]; congr 1; exact Option.some.inj ((List.getElem?_eq_getElem hlt).symm.trans hx)
    have hb := act_back (h x (List.mem_of_getElem? hx)) ((l.drop (k + 1)).flatMap actW ++ rest)
    rw [actsK, ih (by omega)]
    simp only
    rw [hd, List.flatMap_cons, List.append_assoc, hb]
    simp only [Bool.and_self, List.take_add_one, hx, Option.toList_some]
structure Rd.back (key : ByteArray) (r : Rd) : Prop where
  ky : r.key = key
  vl : r.value.data.toList.length ≤ 20
theorem read_back {key : ByteArray} {r : Rd} (h : r.back key) (rest : List UInt8) : readS key ⟨false, readW r ++ rest⟩ = (r, ⟨false, rest⟩) := by
  obtain ⟨ky, is, vl⟩ := r
  obtain ⟨h1, h2⟩ := h
  simp only at h1 h2
  subst h1
  have e1 := flagS_back is (rowB vl.data.toList ++ rest)
  have e2 := rowB_back (most := 20) vl.data.toList rest h2 (by omega)
  simp only [readS, readW, List.append_assoc, e1, e2, ba_back]
theorem reads_back {key : ByteArray} : ∀ (l : List Rd), (∀ a ∈ l, a.back key) → ∀ (rest : List UInt8) (k : Nat), k ≤ l.length → readsK key ⟨false, l.flatMap readW ++ rest⟩ k = (l.take k, ⟨false, (l.drop k).flatMap readW ++ rest⟩) := by
  intro l h rest k
  induction k with
  | zero => intro _; simp [readsK]
  | succ k ih =>
    intro hk
    have hlt : k < l.length := by omega
    obtain ⟨x, hx⟩ : ∃ x, l[k]? = some x := ⟨_, List.getElem?_eq_getElem hlt⟩
    have hd : l.drop k = x :: l.drop (k + 1) := by
      rw [List.drop_eq_getElem_cons hlt]; congr 1; exact Option.some.inj ((List.getElem?_eq_getElem hlt).symm.trans hx)
    have hb := read_back (h x (List.mem_of_getElem? hx)) ((l.drop (k + 1)).flatMap readW ++ rest)
    rw [readsK, ih (by omega)]
    simp only
    rw [hd, List.flatMap_cons, List.append_assoc, hb]
    simp only [List.take_add_one, hx, Option.toList_some]
/-- What a right hold's parts are. -/
theorem holdB_back {d : HoldD} (h : holdB d = true) : (∀ a ∈ d.acts, a.back d.key) ∧ (∀ r ∈ d.reads, r.back d.key) ∧ d.acts.length ≤ 6 ∧ d.reads.length ≤ 6 ∧ d.key.data.toList.length ≤ 20 ∧ d.value.data.toList.length ≤ 20 ∧ (1 ≤ d.cl ∧ d.cl ≤ 8) ∧ (1 ≤ d.nm ∧ d.nm ≤ 1073741824) := by
  have hk := holdB_key h
  unfold holdB at h
  simp only [Bool.and_eq_true, decide_eq_true_eq, Bool.not_eq_true'] at h
  obtain ⟨h1, h2, h3, h4, h5, _, h7, _⟩ := h
  unfold rightsB at h3
  simp only [Bool.and_eq_true, decide_eq_true_eq] at h3
  obtain ⟨⟨_, h32⟩, h33⟩ := h3
  unfold nameB at h2
  simp only [Bool.and_eq_true, decide_eq_true_eq] at h2
  unfold keyL at hk
  simp only [Bool.and_eq_true, decide_eq_true_eq] at hk
  refine ⟨fun a ha => ?_, fun r hr => ?_, h32, by have := cntR_le d.acts; omega, hk.1.2, by rw [size_data]; omega, ⟨h2.1.1.1, h2.1.1.2⟩, h2.1.2, h2.2⟩
  · have hky := List.all_eq_true.1 h1 a ha
    have hr := List.all_eq_true.1 h33 a ha
    simp only [decide_eq_true_eq] at hky
    unfold rightB at hr
    simp only [Bool.and_eq_true] at hr
    have hkd := hr.2
    unfold kindB at hkd
    split at hkd
    · rename_i hk1
      simp only [Bool.and_eq_true, decide_eq_true_eq] at hkd
      exact ⟨ba_of_list hky, by omega, by omega, by rw [hkd.1]; simp, by omega, by omega⟩
    · split at hkd
      · rename_i _ hk1
        simp only [Bool.and_eq_true, decide_eq_true_eq] at hkd
        exact ⟨ba_of_list hky, by omega, by omega, hkd.1.1, by omega, by omega⟩
      · split at hkd
        · rename_i _ _ hk1
          simp only [Bool.and_eq_true, decide_eq_true_eq] at hkd
          have hc := hkd.2
          unfold cutI at hc
          exact ⟨ba_of_list hky, by omega, by omega, by rw [hkd.1]; simp, by omega, by omega⟩
        · cases hkd
  · have hb : readBad d.key r = false := by
      cases hh : readBad d.key r with
      | false => rfl
      | true =>
        have : readsBad d.key d.reads = true := List.any_eq_true.2 ⟨r, hr, hh⟩
        rw [h4] at this; cases this
    unfold readBad at hb
    simp only [Bool.or_eq_false_iff, Bool.not_eq_false', decide_eq_true_eq, decide_eq_false_iff_not] at hb
    exact ⟨ba_of_list hb.1.1, by rw [size_data]; omega⟩
theorem hold_back {d : HoldD} (h : holdB d = true) (rest : List UInt8) : holdS ⟨false, holdW d ++ rest⟩ = (d, true, ⟨false, rest⟩) := by
  obtain ⟨ha, hr, han, hrn, hkl, hvl, hc, hn⟩ := holdB_back h
  have e1 : rowS 20 ⟨false, holdW d ++ rest⟩ = (d.key.data.toList, ⟨false, numZ d.cl ++ (numZ d.nm ++ (numZ (d.acts.length : Int) ++ (d.acts.flatMap actW ++ (numZ (d.reads.length : Int) ++ (d.reads.flatMap readW ++ (flagB d.put ++ (rowB d.value.data.toList ++ rest)))))))⟩) := by
    simp only [holdW, headW, List.append_assoc]
    exact rowB_back _ _ hkl (by omega)
  have e2 := numZ_back (most := 8) (m := d.cl.toNat) (n := d.cl) (numZ d.nm ++ (numZ (d.acts.length : Int) ++ (d.acts.flatMap actW ++ (numZ (d.reads.length : Int) ++ (d.reads.flatMap readW ++ (flagB d.put ++ (rowB d.value.data.toList ++ rest))))))) (by omega) (by omega) (by omega)
  have e3 := numZ_back (most := 1073741824) (m := d.nm.toNat) (n := d.nm) (numZ (d.acts.length : Int) ++ (d.acts.flatMap actW ++ (numZ (d.reads.length : Int) ++ (d.reads.flatMap readW ++ (flagB d.put ++ (rowB d.value.data.toList ++ rest)))))) (by omega) (by omega) (by omega)
  have e4 : actsS d.key ⟨false, numZ (d.acts.length : Int) ++ (d.acts.flatMap actW ++ (numZ (d.reads.length : Int) ++ (d.reads.flatMap readW ++ (flagB d.put ++ (rowB d.value.data.toList ++ rest)))))⟩ = (d.acts, true, ⟨false, numZ (d.reads.length : Int) ++ (d.reads.flatMap readW ++ (flagB d.put ++ (rowB d.value.data.toList ++ rest)))⟩) := by
    have hz := numZ_back (most := 6) (m := d.acts.length) (n := (d.acts.length : Int)) (d.acts.flatMap actW ++ (numZ (d.reads.length : Int) ++ (d.reads.flatMap readW ++ (flagB d.put ++ (rowB d.value.data.toList ++ rest))))) rfl han (by omega)
    simp only [actsS, hz]
    rw [acts_back d.acts ha _ _ (Nat.le_refl _)]
    simp
  have e5 : readsS d.key ⟨false, numZ (d.reads.length : Int) ++ (d.reads.flatMap readW ++ (flagB d.put ++ (rowB d.value.data.toList ++ rest)))⟩ = (d.reads, ⟨false, flagB d.put ++ (rowB d.value.data.toList ++ rest)⟩) := by
    have hz := numZ_back (most := 6) (m := d.reads.length) (n := (d.reads.length : Int)) (d.reads.flatMap readW ++ (flagB d.put ++ (rowB d.value.data.toList ++ rest))) rfl hrn (by omega)
    simp only [readsS, hz]
    rw [reads_back d.reads hr _ _ (Nat.le_refl _)]
    simp
  have e6 := flagS_back d.put (rowB d.value.data.toList ++ rest)
  have e7 := rowB_back (most := 20) d.value.data.toList rest hvl (by omega)
  rw [← ba_back d.key] at e4 e5
  have e8 := holdS_eq e1 e2 e3 e4 e5 e6 e7
  have hd : (⟨⟨d.key.data.toList.toArray⟩, (d.cl.toNat : Int), (d.nm.toNat : Int), d.acts, d.reads, d.put, ⟨d.value.data.toList.toArray⟩⟩ : HoldD) = d := by
    rw [ba_back, ba_back, Int.toNat_of_nonneg (by omega), Int.toNat_of_nonneg (by omega)]
  rw [hd] at e8
  rw [e8, h]
  rfl
theorem next_rise {ds : List HoldD} (hr : RiseD ds) {k : Nat} {x : HoldD} (hx : ds[k]? = some x) : nextB (ds.take k) x = true := by
  unfold nextB
  cases hl : (ds.take k).getLast? with
  | none => rfl
  | some y =>
    simp only [decide_eq_true_eq]
    rw [List.getLast?_eq_getElem?] at hl
    have hk : k ≤ ds.length := Nat.le_of_lt (List.getElem?_eq_some_iff.1 hx).1
    rw [List.length_take, Nat.min_eq_left hk, List.getElem?_take] at hl
    split at hl
    · rename_i hlt
      obtain ⟨h1, h2⟩ := List.getElem?_eq_some_iff.1 hl
      obtain ⟨h3, h4⟩ := List.getElem?_eq_some_iff.1 hx
      have := List.pairwise_iff_getElem.1 hr (k - 1) k h1 h3 (by omega)
      rw [h2, h4] at this
      exact this
    · cases hl
theorem holds_backK {ds : List HoldD} (hb : ∀ d ∈ ds, holdB d = true) (hr : RiseD ds) (rest : List UInt8) : ∀ k, k ≤ ds.length → holdsK ⟨false, ds.flatMap holdW ++ rest⟩ k = some (ds.take k, ⟨false, (ds.drop k).flatMap holdW ++ rest⟩) := by
  intro k
  induction k with
  | zero => intro _; simp [holdsK]
  | succ k ih =>
    intro hk
    have hlt : k < ds.length := by omega
    obtain ⟨x, hx⟩ : ∃ x, ds[k]? = some x := ⟨_, List.getElem?_eq_getElem hlt⟩
    have hd : ds.drop k = x :: ds.drop (k + 1) := by
      rw [List.drop_eq_getElem_cons hlt]; congr 1; exact Option.some.inj ((List.getElem?_eq_getElem hlt).symm.trans hx)
    have hbk := hold_back (hb x (List.mem_of_getElem? hx)) ((ds.drop (k + 1)).flatMap holdW ++ rest)
    have hk1 := ih (by omega)
    rw [hd, List.flatMap_cons, List.append_assoc] at hk1
    rw [holdsK_some hk1, hbk]
    simp only [next_rise hr hx, Bool.not_false, Bool.and_self, if_true, List.take_add_one, hx, Option.toList_some]
theorem holds_back {ds : List HoldD} (hb : ∀ d ∈ ds, holdB d = true) (hr : RiseD ds) (hl : ds.length ≤ 60) : holdsS ⟨false, writeW ds⟩ = some (ds, ⟨false, []⟩) := by
  have e1 := numZ_back (most := 60) (m := ds.length) (n := (ds.length : Int)) (ds.flatMap holdW) rfl hl (by omega)
  have e2 := holds_backK hb hr [] ds.length (Nat.le_refl _)
  simp only [List.append_nil, List.take_length, List.drop_length, List.flatMap_nil] at e2
  simp only [holdsS, writeW, e1, e2]
  simp
end Go.Proofs.YtdmejbjpbjcfbaaGreatDoor
/- HoldsSpans, plainly: a span parted, what is taken and put back. -/
namespace Go.Proofs.YtdmejbjpbjcfbaaGreatDoor
open Go.RowKit

theorem insAll_mem {x : HoldD} : ∀ (dl ds : List HoldD), x ∈ insAll dl ds ↔ x ∈ dl ∨ x ∈ ds
  | [], ds => by simp [insAll]
  | d :: dl, ds => by
    have h := insAll_mem (x := x) dl (insD d ds)
    rw [insD_mem] at h
    show x ∈ insAll dl (insD d ds) ↔ _
    rw [h, List.mem_cons]
    constructor
    · rintro (h | h | h)
      · exact .inl (.inr h)
      · exact .inl (.inl h)
      · exact .inr h
    · rintro ((h | h) | h)
      · exact .inr (.inl h)
      · exact .inl h
      · exact .inr (.inr h)
theorem rise_unique : ∀ {l m : List HoldD}, RiseD l → RiseD m → (∀ x, x ∈ l ↔ x ∈ m) → l = m
  | [], [], _, _, _ => rfl
  | [], y :: m, _, _, h => by have := (h y).2 (by simp); cases this
  | x :: l, [], _, _, h => by have := (h x).1 (by simp); cases this
  | x :: l, y :: m, hl, hm, h => by
    have hl2 := List.pairwise_cons.1 hl
    have hm2 := List.pairwise_cons.1 hm
    have hxy : x = y := by
      rcases List.mem_cons.1 ((h x).1 (by simp)) with e | e
      · exact e
      · rcases List.mem_cons.1 ((h y).2 (by simp)) with e2 | e2
        · exact e2.symm
        · exact absurd (List.lt_trans (hl2.1 y e2) (hm2.1 x e)) (List.lt_irrefl _)
    subst hxy
    rw [rise_unique hl2.2 hm2.2 (fun z => ?_)]
    have hz := h z
    simp only [List.mem_cons] at hz
    constructor
    · intro hzl
      rcases hz.1 (.inr hzl) with e | e
      · subst e; exact absurd (hl2.1 z hzl) (List.lt_irrefl _)
      · exact e
    · intro hzm
      rcases hz.2 (.inr hzm) with e | e
      · subst e; exact absurd (hm2.1 z hzm) (List.lt_irrefl _)
      · exact e
theorem rise_filter {ds : List HoldD} (h : RiseD ds) (p : HoldD → Bool) : RiseD (ds.filter p) := List.Pairwise.sublist List.filter_sublist h
/-- Two filters of a rising row, the first one's all ahead of the second one's. -/
theorem filter_both (c : List UInt8) (p q r : HoldD → Bool) : ∀ {ds : List HoldD}, RiseD ds → (∀ d, p d = true → dkey d < c) → (∀ d, q d = true → ¬ dkey d < c) → (∀ d ∈ ds, r d = (p d || q d)) → ds.filter p ++ ds.filter q = ds.filter r
  | [], _, _, _, _ => rfl
  | d :: ds, hr, hp, hq, hpq => by
    have hr2 := List.pairwise_cons.1 hr
    have ih := filter_both c p q r hr2.2 hp hq (fun x hx => hpq x (List.mem_cons_of_mem _ hx))
    have hd := hpq d (by simp)
    cases h1 : p d with
    | true =>
      have h2 : q d = false := by
        cases h : q d with
        | false => rfl
        | true => exact absurd (hp d h1) (hq d h)
      rw [h1] at hd
      rw [List.filter_cons, List.filter_cons, List.filter_cons, h1, h2, hd]
      simp only [Bool.true_or, if_true, Bool.false_eq_true, if_false, List.cons_append]
      rw [ih]
    | false =>
      cases h2 : q d with
      | false =>
        rw [h1, h2] at hd
        rw [List.filter_cons, List.filter_cons, List.filter_cons, h1, h2, hd]
        simpa using ih
      | true =>
        have hnil : ds.filter p = [] := by
          rw [List.filter_eq_nil_iff]
          intro x hx hpx
          exact absurd (List.lt_trans (hr2.1 x hx) (hp x hpx)) (hq d h2)
        rw [h1, h2] at hd
        rw [hnil] at ih
        rw [List.filter_cons, List.filter_cons, List.filter_cons, h1, h2, hd, hnil]
        simp only [Bool.false_eq_true, if_false, if_true, Bool.false_or, List.nil_append]
        rw [← ih]; rfl
theorem above_lt {h t : List UInt8} (hh : h.isEmpty = false) : aboveB h t = decide (t < h) := by simp [aboveB, hh]
theorem key_ne {k : List UInt8} (h : keyL k = true) : k.isEmpty = false := by
  unfold keyL at h
  simp only [Bool.and_eq_true, Bool.not_eq_true'] at h
  exact h.1.1
/-- A span that is parted at one of its keys. -/
theorem has_split {lo hi at_ : List UInt8} (h : hasB lo hi at_ = true) (hne : at_ ≠ lo) (k : List UInt8) : hasB lo hi k = (hasB lo at_ k || hasB at_ hi k) := by
  unfold hasB at h
  simp only [Bool.and_eq_true, decide_eq_true_eq] at h
  obtain ⟨⟨⟨hs, hk⟩, hlo⟩, hab⟩ := h
  have hat := key_ne hk
  have hla : lo < at_ := by
    rcases Classical.em (lo < at_) with e | e
    · exact e
    · exact absurd (List.le_antisymm (List.not_lt.1 e) (List.not_lt.1 hlo)) hne
  have hs' := hs
  unfold spanB at hs'
  simp only [Bool.and_eq_true] at hs'
  have s1 : spanB lo at_ = true := by
    unfold spanB
    rw [above_lt hat, hs'.1.1, hk]
    simp [hla]
  have s2 : spanB at_ hi = true := by
    unfold spanB
    rw [hs'.1.2, hk, hab]
    simp
  unfold hasB
  rw [hs, s1, s2, above_lt hat]
  cases hkk : keyL k with
  | false => simp
  | true =>
    by_cases h1 : k < lo
    · have h2 : k < at_ := List.lt_trans h1 hla
      simp [h1, h2]
    · by_cases h2 : k < at_
      · have h3 : aboveB hi k = true := by
          unfold aboveB at hab ⊢
          simp only [Bool.or_eq_true, decide_eq_true_eq] at hab ⊢
          rcases hab with e | e
          · exact .inl e
          · exact .inr (List.lt_trans h2 e)
        simp [h1, h2, h3]
      · simp [h1, h2]
theorem in_split {ds : List HoldD} (hr : RiseD ds) (lo hi at_ : ByteArray) (h : hasB lo.data.toList hi.data.toList at_.data.toList = true) (hne : at_.data.toList ≠ lo.data.toList) : inD lo at_ ds ++ inD at_ hi ds = inD lo hi ds := by
  have hat : at_.data.toList.isEmpty = false := by
    unfold hasB at h
    simp only [Bool.and_eq_true] at h
    exact key_ne h.1.1.2
  refine filter_both at_.data.toList _ _ _ hr (fun d hd => ?_) (fun d hd => ?_) (fun d _ => has_split h hne _)
  · have hd : hasB lo.data.toList at_.data.toList d.key.data.toList = true := hd
    unfold hasB at hd
    rw [above_lt hat] at hd
    simp only [Bool.and_eq_true, decide_eq_true_eq] at hd
    exact hd.2
  · have hd : hasB at_.data.toList hi.data.toList d.key.data.toList = true := hd
    unfold hasB at hd
    simp only [Bool.and_eq_true, decide_eq_true_eq] at hd
    exact hd.1.2
theorem in_out (lo hi : ByteArray) (ds : List HoldD) : inD lo hi (outD lo hi ds) = [] := by
  unfold inD outD
  rw [List.filter_eq_nil_iff]
  intro x hx hp
  have := (List.mem_filter.1 hx).2
  simp only [hp] at this
  cases this
theorem filter_lens {α : Type} (p : α → Bool) : ∀ l : List α, (l.filter p).length + (l.filter fun x => !p x).length = l.length
  | [] => rfl
  | x :: l => by
    have := filter_lens p l
    cases h : p x <;> simp [h] <;> omega
theorem in_out_len (lo hi : ByteArray) (ds : List HoldD) : (inD lo hi ds).length + (outD lo hi ds).length = ds.length := filter_lens _ ds
theorem in_mem {lo hi : ByteArray} {ds : List HoldD} {d : HoldD} (h : d ∈ inD lo hi ds) : d ∈ ds := (List.mem_filter.1 h).1
theorem out_mem {lo hi : ByteArray} {ds : List HoldD} {d : HoldD} (h : d ∈ outD lo hi ds) : d ∈ ds := (List.mem_filter.1 h).1
theorem rise_inj {ds : List HoldD} (h : RiseD ds) {x y : HoldD} (hx : x ∈ ds) (hy : y ∈ ds) (e : dkey x = dkey y) : x = y := by
  obtain ⟨i, hi⟩ := List.mem_iff_getElem?.1 hx
  obtain ⟨j, hj⟩ := List.mem_iff_getElem?.1 hy
  obtain ⟨hi1, hi2⟩ := List.getElem?_eq_some_iff.1 hi
  obtain ⟨hj1, hj2⟩ := List.getElem?_eq_some_iff.1 hj
  rcases Nat.lt_trichotomy i j with h1 | h1 | h1
  · have := List.pairwise_iff_getElem.1 h i j hi1 hj1 h1
    rw [hi2, hj2, e] at this
    exact absurd this (List.lt_irrefl _)
  · subst h1; rw [hi] at hj; exact Option.some.inj hj
  · have := List.pairwise_iff_getElem.1 h j i hj1 hi1 h1
    rw [hi2, hj2, e] at this
    exact absurd this (List.lt_irrefl _)
/-- What was taken is put back. -/
theorem back_E {lo hi : ByteArray} {ds : List HoldD} (hr : RiseD ds) (hb : ∀ d ∈ ds, holdB d = true) (hl : ds.length ≤ 60) : putE (inD lo hi ds) (outD lo hi ds) = 0 := by
  have h1 : dupD (inD lo hi ds) = false := by
    rw [dupD_iff]
    refine List.pairwise_map.2 ((rise_filter hr _).imp (fun hlt e => ?_))
    rw [e] at hlt; exact List.lt_irrefl _ hlt
  have h2 : holdsB (inD lo hi ds) = true := List.all_eq_true.2 fun d hd => hb d (in_mem hd)
  have h3 : thereD (inD lo hi ds) (outD lo hi ds) = false := by
    cases h : thereD (inD lo hi ds) (outD lo hi ds) with
    | false => rfl
    | true =>
      obtain ⟨x, hx, hy⟩ := List.any_eq_true.1 h
      obtain ⟨y, hyo, e⟩ := List.any_eq_true.1 hy
      have : y = x := rise_inj hr (out_mem hyo) (in_mem hx) (by simpa using e)
      subst this
      have h1 := (List.mem_filter.1 hx).2
      have h2 := (List.mem_filter.1 hyo).2
      simp only [h1] at h2
      cases h2
  have h4 := in_out_len lo hi ds
  unfold putE
  rw [h1, h2, h3]
  simp
  omega
theorem back_T {lo hi : ByteArray} {ds : List HoldD} (hr : RiseD ds) (hr2 : RiseD (insAll (inD lo hi ds) (outD lo hi ds))) : insAll (inD lo hi ds) (outD lo hi ds) = ds := by
  refine rise_unique hr2 hr (fun x => ?_)
  rw [insAll_mem]
  constructor
  · rintro (h | h)
    · exact in_mem h
    · exact out_mem h
  · intro h
    cases hp : HoldD.tells (fun k _ _ => hasB lo.data.toList hi.data.toList k.data.toList) x with
    | true => exact .inl (List.mem_filter.2 ⟨h, hp⟩)
    | false => exact .inr (List.mem_filter.2 ⟨h, by simp [hp]⟩)
end Go.Proofs.YtdmejbjpbjcfbaaGreatDoor
/- Rows of holds that were told; what right holds are for a writer. -/
namespace Go.Proofs.YtdmejbjpbjcfbaaGreatDoor
open Go.RowKit

/-- A row of holds that was told: it, and all that its holds lead to, lies at B or above. -/
structure HRow (w : World) (B : Nat) (ao : Option Addr) (cap : Nat) (l : List HoldV) (ds : List HoldD) : Prop where
  own : w.ownsRow 0 35 7 (.slice ao l.length cap) l.length (l.flatMap encHV)
  new : ∀ j, (Value.slice ao l.length cap).ownBlock = some j → B ≤ j
  are : HoldsAre w (fun b => (Value.slice ao l.length cap).ownBlock = some b ∨ b < B) l ds
theorem HRow.but {w w' : World} {B cap : Nat} {ao : Option Addr} {l : List HoldV} {ds : List HoldD} {S : Nat → Prop} (h : HRow w B ao cap l ds) (hx : But S w w') (hS : ∀ b, S b → b < B) : HRow w' B ao cap l ds :=
  ⟨own_but h.own hx (fun j hj e => by have := h.new j hj; have := hS j e; omega), h.new, h.are.but hx (fun b _ e => .inr (hS b e))⟩
theorem HRow.ext {w w' : World} {B cap : Nat} {ao : Option Addr} {l : List HoldV} {ds : List HoldD} (h : HRow w B ao cap l ds) (hx : Ext w w') : HRow w' B ao cap l ds := h.but (Ext.but hx (fun _ => False)) (fun _ e => e.elim)
theorem HRow.rows {w : World} {B cap : Nat} {ao : Option Addr} {l : List HoldV} {ds : List HoldD} (h : HRow w B ao cap l ds) : Rows 7 encHV w.heap.size w ao l := rows_of_own (fun _ => rfl) h.own
theorem HRow.nrows {w : World} {B cap : Nat} {ao : Option Addr} {l : List HoldV} {ds : List HoldD} (h : HRow w B ao cap l ds) (no : Nat → Prop) (hno : ∀ b, no b → b < B) : NRows 7 encHV no w ao l ∧ HoldsAre w no l ds :=
  ⟨nrows_of_own (fun _ => rfl) h.own (fun j hj e => by have := h.new j hj; have := hno j e; omega), h.are.mono (fun b _ e => .inr (hno b e))⟩
theorem HRow.len {w : World} {B cap : Nat} {ao : Option Addr} {l : List HoldV} {ds : List HoldD} (h : HRow w B ao cap l ds) : l.length = ds.length := h.are.len
theorem HRow.mono {w : World} {B B' cap : Nat} {ao : Option Addr} {l : List HoldV} {ds : List HoldD} (h : HRow w B ao cap l ds) (hB : B' ≤ B) : HRow w B' ao cap l ds :=
  ⟨h.own, fun j hj => Nat.le_trans hB (h.new j hj), h.are.mono (fun _ _ e => e.elim .inl (fun e => .inr (by omega)))⟩
theorem RowPost.row {yes : List HoldD} {w w' : World} {e : Ending} (h : RowPost yes w e w') : ∃ ao cap l, e = .returned (.slice ao l.length cap) ∧ HRow w' w.heap.size ao cap l yes ∧ Mine w' w.heap.size l ∧ Ext w w' := by
  obtain ⟨r, l, rfl, _, ho, hn, ha, hm, hx⟩ := h
  obtain ⟨ao, cap, rfl⟩ := own_slice ho
  exact ⟨ao, cap, l, rfl, ⟨ho, hn, ha⟩, hm, hx⟩
theorem LessPostN.row {no0 : Nat → Prop} {hb : Nat} {v : Value} {yes no : List HoldD} {w w' : World} {e : Ending} (h : LessPostN no0 hb v yes no w e w') : ∃ ao cap l v', e = .returned (.slice ao l.length cap) ∧ HRow w' w.heap.size ao cap l yes ∧ Mine w' w.heap.size l ∧ TabN no0 w' hb v' no ∧ (∀ j, v'.ownBlock = some j → v.ownBlock = some j) ∧ But (fun j => j = hb ∨ v.ownBlock = some j) w w' := by
  obtain ⟨r, l, v', rfl, _, ho, hn, ha, hm, ht, hv, hx⟩ := h
  obtain ⟨ao, cap, rfl⟩ := own_slice ho
  exact ⟨ao, cap, l, v', rfl, ⟨ho, hn, ha⟩, hm, ht, hv, hx⟩
theorem same_rows {w : World} {B B' cap cap' : Nat} {ao bo : Option Addr} {l m : List HoldV} {ds : List HoldD} (h : HRow w B ao cap l ds) (k : HRow w B' bo cap' m ds) (hl : ds.length ≤ 1000000) (hok : ∀ d ∈ ds, d.fits) :
    Calls Tryz.prog 31 #[.slice ao l.length cap, .slice bo m.length cap'] w fun e w' => e = .returned (.bool true) ∧ Ext w w' :=
  sameHolds_calls l m ds _ _ ao bo cap cap' w (by rw [h.len]; exact hl) h.rows k.rows h.are k.are hok
theorem Ext.butNew {S : Nat → Prop} {w w1 w2 : World} (hx : Ext w w1) (hb : But S w1 w2) (hS : ∀ j, S j → w.heap.size ≤ j) : Ext w w2 :=
  ((Ext.but hx (fun _ => False)).trans hb (U := fun j => w.heap.size ≤ j) (fun _ _ e => e.elim) (fun i _ e => hS i e)).ext (fun _ hi e => absurd hi (Nat.not_lt.2 e))
theorem wr_new {b wb : Nat} (e : b = wb ∨ (Value.slice none 0 0).ownBlock = some b) : b = wb := e.elim id (fun e => by simp [Value.ownBlock] at e)
theorem right_wfit {d : HoldD} (h : holdB d = true) : d.wfit := by
  obtain ⟨ha, hr, han, hrn, hkl, hvl, _, _⟩ := holdB_back h
  rw [size_data] at hkl hvl
  exact ⟨by omega, by omega, by omega, by omega, fun a hm => ⟨by have := (ha a hm).vl; rw [size_data] at this; omega, (ha a hm).k0, by have := (ha a hm).k3; omega⟩, fun r hm => by have := (hr r hm).vl; rw [size_data] at this; omega⟩
theorem right_bad {d : HoldD} (h : holdB d = true) : holdBad d = false := by
  obtain ⟨ha, _, _, _, _, _, hc, hn⟩ := holdB_back h
  have h1 : okN d.cl = true := by simp [okN]; omega
  have h2 : okN d.nm = true := by simp [okN]; omega
  have h3 : d.acts.any actBad = false := by
    rw [List.any_eq_false]
    intro a hm
    obtain ⟨_, k0, k3, _, n0, n1⟩ := ha a hm
    have e1 : okN a.kind = true := by simp [okN]; omega
    have e2 : okN (absZ a.num) = true := by rw [absZ_small n0 n1]; split <;> (simp [okN]; omega)
    simp [actBad, e1, e2]
  simp [holdBad, h1, h2, h3]
theorem rights_bad {ds : List HoldD} (h : ∀ d ∈ ds, holdB d = true) : ds.any holdBad = false := by
  rw [List.any_eq_false]
  intro d hd
  rw [right_bad (h d hd)]; simp
theorem writeW_len {ds : List HoldD} (h : ∀ d ∈ ds, d.wfit) (hl : ds.length ≤ 10000) : (writeW ds).length ≤ 22000000000000 := by
  have h1 := flat_len holdW 2100000000 ds (fun d hd => holdW_len d (h d hd))
  have h2 := numZ_len (ds.length : Int)
  rw [writeW, List.length_append]; omega
end Go.Proofs.YtdmejbjpbjcfbaaGreatDoor
