/- tract.Freeze: the pieces of a stretch; plain. -/
import Derived.Test.YtmpmggejhnmakaaGreatDoorZ36
namespace Go.Proofs.YtmpmggejhnmakaaGreatDoor
open Go.RowKit
theorem two_sorted {a b : List UInt8} : ∀ {K : List (List UInt8)}, K.Pairwise (fun x y => x < y) → (∀ x, x ∈ K ↔ x = a ∨ x = b) → a < b → K = [a, b]
 | [], _, hm, _ => by have := (hm a).2 (.inl rfl); simp at this
 | [x], _, hm, hab => by
   have h1 := (hm a).2 (.inl rfl); have h2 := (hm b).2 (.inr rfl)
   simp only [List.mem_singleton] at h1 h2
   rw [h1, h2] at hab; exact absurd hab (lt_irr _)
 | x :: y :: K, hs, hm, hab => by
   have hp := List.pairwise_cons.1 hs
   have hxy := hp.1 y (by simp)
   have hx : x = a := by
    rcases (hm x).1 (by simp) with h | h
    · exact h
    · rcases (hm y).1 (by simp) with h2 | h2
      · rw [h, h2] at hxy; exact absurd (lt_tr hxy hab) (lt_irr _)
      · rw [h, h2] at hxy; exact absurd hxy (lt_irr _)
   have hy : y = b := by
    rcases (hm y).1 (by simp) with h | h
    · rw [hx, h] at hxy; exact absurd hxy (lt_irr _)
    · exact h
   have hK : K = [] := by
    cases K with
    | nil => rfl
    | cons z K =>
      have h1 := hp.1 z (by simp)
      have h2 := (List.pairwise_cons.1 hp.2).1 z (by simp)
      rcases (hm z).1 (by simp) with h | h
      · rw [hx, h] at h1; exact absurd h1 (lt_irr _)
      · rw [hy, h] at h2; exact absurd h2 (lt_irr _)
   rw [hx, hy, hK]
theorem one_sorted {a : List UInt8} : ∀ {K : List (List UInt8)}, K.Pairwise (fun x y => x < y) → (∀ x, x ∈ K ↔ x = a) → K = [a]
 | [], _, hm => by have := (hm a).2 rfl; simp at this
 | [x], _, hm => by rw [(hm x).1 (by simp)]
 | x :: y :: K, hs, hm => by
   have hxy := (List.pairwise_cons.1 hs).1 y (by simp)
   rw [(hm x).1 (by simp), (hm y).1 (by simp)] at hxy
   exact absurd hxy (lt_irr _)
theorem cutKs_pw (l : List ByteArray) : (cutKs l).Pairwise (fun a b => a < b) := (compact_spec _ (sortT_pw (bytesL l))).1
theorem cutKs_iff (l : List ByteArray) (k : List UInt8) : k ∈ cutKs l ↔ ∃ s ∈ l, s.data.toList = k := by
 unfold cutKs
 have hs : (sortL (bytesL l)).Pairwise (fun a b => a ≤ b) := sortT_pw (bytesL l)
 rw [(compact_spec _ hs).2]
 unfold sortL bytesL
 rw [List.mem_mergeSort, List.mem_map]
theorem bytes_ext {a b : ByteArray} (h : a.data.toList = b.data.toList) : a = b := ByteArray.ext (Array.toList_inj.1 h)
theorem toArray_back (a : ByteArray) : (⟨a.data.toList.toArray⟩ : ByteArray) = a := by cases a; simp
theorem nil_lt_of {a : List UInt8} (h : a ≠ []) : [] < a := by
 cases a with
 | nil => exact absurd rfl h
 | cons x a => exact List.nil_lt_cons _ _
theorem cut_has {xlo xhi lo hi : ByteArray} (h : withinB lo.data.toList hi.data.toList xlo.data.toList xhi.data.toList = true) : (lo, hi) ∈ cutD xlo xhi [lo, hi] := by
 unfold withinB at h
 simp only [Bool.and_eq_true, decide_eq_true_eq] at h
 obtain ⟨⟨⟨h1, h2⟩, h3⟩, h4⟩ := h
 have h3' : ¬ lo.data.toList < xlo.data.toList := by
  have := cmpT_le xlo.data.toList lo.data.toList
  rw [decide_eq_true h3] at this
  exact of_decide_eq_true this.symm
 unfold spanB at h1 h2
 simp only [Bool.and_eq_true, Bool.or_eq_true] at h1 h2
 obtain ⟨⟨l1, l2⟩, l3⟩ := h1
 obtain ⟨⟨x1, x2⟩, x3⟩ := h2
 have stepLo : ∀ (P : List SpZ), (cutStep xhi (P, xlo) lo.data.toList).2 = lo := by
  intro P
  unfold cutStep
  split
  · exact toArray_back lo
  · rename_i hn
    by_cases he : lo.data.toList = xlo.data.toList
    · exact (bytes_ext he).symm
    · exfalso
      apply hn
      have hlo : xlo.data.toList < lo.data.toList := by
       rcases lt_tri xlo.data.toList lo.data.toList with e | e | e
       · exact e
       · exact absurd e.symm he
       · exact absurd e h3'
      have hne : lo.data.toList ≠ [] := fun e => by rw [e] at hlo; simp at hlo
      have hk : keyL lo.data.toList = true := by
       rcases l1 with e | e
       · exact absurd (List.isEmpty_iff.1 e) hne
       · exact e
      have hab : aboveB xhi.data.toList lo.data.toList = true := by
       unfold overB at h4
       unfold aboveB at l3 ⊢
       simp only [Bool.or_eq_true, Bool.and_eq_true, decide_eq_true_eq, Bool.not_eq_true'] at h4 l3 ⊢
       rcases h4 with e | ⟨e1, e2⟩
       · exact .inl e
       · right
         rcases l3 with e | e
         · rw [e] at e1; cases e1
         · have : ¬ xhi.data.toList < hi.data.toList := fun e => by have := (cmpT_neg _ _).2 e; omega
           rcases lt_tri hi.data.toList xhi.data.toList with q | q | q
           · exact lt_tr e q
           · rw [← q]; exact e
           · exact absurd q this
      unfold hasB spanB
      simp only [Bool.and_eq_true, Bool.or_eq_true, decide_eq_true_eq, Bool.not_eq_true', beq_eq_false_iff_ne]
      exact ⟨⟨⟨⟨⟨⟨x1, x2⟩, x3⟩, hk⟩, h3'⟩, hab⟩, he⟩
 unfold cutD cutFold
 by_cases hhe : hi.data.toList = []
 · -- the end is open
   have hxe : xhi.data.toList = [] := by
    unfold overB at h4
    simp only [Bool.or_eq_true, Bool.and_eq_true, Bool.not_eq_true', hhe, List.isEmpty_nil] at h4
    rcases h4 with e | ⟨e, _⟩
    · exact List.isEmpty_iff.1 e
    · cases e
   have hxh : xhi = hi := bytes_ext (hxe.trans hhe.symm)
   have hskip : ∀ st, cutStep xhi st [] = st := fun st => by
    unfold cutStep
    rw [if_neg (by simp [hasB, keyL])]
   by_cases hle : lo.data.toList = []
   · have hK : cutKs [lo, hi] = [[]] := one_sorted (cutKs_pw _) (fun x => by
      rw [cutKs_iff]
      simp only [List.mem_cons, List.not_mem_nil, or_false, exists_eq_or_imp, exists_eq_left, hle, hhe, or_self]
      exact eq_comm)
     have hx : xlo = lo := by
      apply bytes_ext
      rcases lt_tri xlo.data.toList lo.data.toList with e | e | e
      · rw [hle] at e; simp at e
      · exact e
      · exact absurd e h3'
     rw [hK, List.foldl_cons, List.foldl_nil, hskip, hxh, hx]
     simp
   · have hK : cutKs [lo, hi] = [[], lo.data.toList] := two_sorted (cutKs_pw _) (fun x => by
      rw [cutKs_iff]
      simp only [List.mem_cons, List.not_mem_nil, or_false, exists_eq_or_imp, exists_eq_left, hhe]
      constructor
      · rintro (e | e)
        · exact .inr e.symm
        · exact .inl e.symm
      · rintro (e | e)
        · exact .inr e.symm
        · exact .inl e.symm) (nil_lt_of hle)
     rw [hK, List.foldl_cons, hskip, List.foldl_cons, List.foldl_nil, stepLo, hxh]
     simp
 · have hlt : lo.data.toList < hi.data.toList := by
    unfold aboveB at l3
    simp only [Bool.or_eq_true, decide_eq_true_eq] at l3
    rcases l3 with e | e
    · exact absurd (List.isEmpty_iff.1 e) hhe
    · exact e
   have hkh : keyL hi.data.toList = true := by
    rcases l2 with e | e
    · exact absurd (List.isEmpty_iff.1 e) hhe
    · exact e
   have hK : cutKs [lo, hi] = [lo.data.toList, hi.data.toList] := two_sorted (cutKs_pw _) (fun x => by
    rw [cutKs_iff]
    simp only [List.mem_cons, List.not_mem_nil, or_false, exists_eq_or_imp, exists_eq_left]
    constructor
    · rintro (e | e)
      · exact .inl e.symm
      · exact .inr e.symm
    · rintro (e | e)
      · exact .inl e.symm
      · exact .inr e.symm) hlt
   rw [hK, List.foldl_cons, List.foldl_cons, List.foldl_nil]
   have h2 := stepLo []
   generalize cutStep xhi ([], xlo) lo.data.toList = st at h2 ⊢
   obtain ⟨P, q⟩ := st
   simp only at h2
   subst h2
   have hab : aboveB xhi.data.toList q.data.toList = true := by
    unfold overB at h4
    unfold aboveB
    simp only [Bool.or_eq_true, Bool.and_eq_true, decide_eq_true_eq, Bool.not_eq_true'] at h4 ⊢
    rcases h4 with e | ⟨e1, e2⟩
    · exact .inl e
    · right
      have : ¬ xhi.data.toList < hi.data.toList := fun e => by have := (cmpT_neg _ _).2 e; omega
      rcases lt_tri hi.data.toList xhi.data.toList with q | q | q
      · exact lt_tr hlt q
      · rw [← q]; exact hlt
      · exact absurd q this
   unfold cutStep
   by_cases hh : (hasB q.data.toList xhi.data.toList hi.data.toList && !(hi.data.toList == q.data.toList)) = true
   · rw [if_pos hh, toArray_back]
     simp
   · rw [if_neg hh]
     have hx : xhi = hi := by
      apply bytes_ext
      rcases lt_tri hi.data.toList xhi.data.toList with e | e | e
      · exfalso
        apply hh
        unfold hasB spanB
        have hne : ¬ hi.data.toList = q.data.toList := fun e => by rw [e] at hlt; exact lt_irr _ hlt
        simp only [Bool.and_eq_true, Bool.or_eq_true, decide_eq_true_eq, Bool.not_eq_true', beq_eq_false_iff_ne]
        refine ⟨⟨⟨⟨⟨⟨l1, x2⟩, hab⟩, hkh⟩, fun e => lt_irr _ (lt_tr hlt e)⟩, ?_⟩, hne⟩
        unfold aboveB
        simp [e]
      · exact e.symm
      · unfold overB at h4
        simp only [Bool.or_eq_true, Bool.and_eq_true, decide_eq_true_eq, Bool.not_eq_true'] at h4
        rcases h4 with e1 | ⟨_, e2⟩
        · exfalso
          apply hh
          unfold hasB spanB
          have hne : ¬ hi.data.toList = q.data.toList := fun e => by rw [e] at hlt; exact lt_irr _ hlt
          simp only [Bool.and_eq_true, Bool.or_eq_true, decide_eq_true_eq, Bool.not_eq_true', beq_eq_false_iff_ne]
          refine ⟨⟨⟨⟨⟨⟨l1, x2⟩, hab⟩, hkh⟩, fun e => lt_irr _ (lt_tr hlt e)⟩, ?_⟩, hne⟩
          unfold aboveB
          simp [e1]
        · exact absurd ((cmpT_neg _ _).2 e) (by omega)
     rw [hx]
     simp
def frzP (scheme ep : Int) (lo hi : ByteArray) (q : SpZ) : StrZ := if q.1 = lo ∧ q.2 = hi then ⟨q.1, q.2, ep, 2, scheme⟩ else ⟨q.1, q.2, ep, 1, 0⟩
def frzNew (scheme ep : Int) (lo hi : ByteArray) (x : StrZ) : List StrZ := (cutD x.lo x.hi [lo, hi]).map (frzP scheme ep lo hi)
theorem frz_closed {scheme ep : Int} {lo hi : ByteArray} {ps : List StrZ} {n : Nat} {x : StrZ} (hn : closedN ps = none) (hw : withinB lo.data.toList hi.data.toList x.lo.data.toList x.hi.data.toList = true) :
 ∃ m y, closedN (repD ps (frzNew scheme ep lo hi x) n (n + 1)) = some m ∧ (repD ps (frzNew scheme ep lo hi x) n (n + 1))[m]? = some y ∧ y.lo = lo ∧ y.hi = hi := by
 have hno := List.findIdx?_eq_none_iff.1 hn
 have hmem : (⟨lo, hi, ep, 2, scheme⟩ : StrZ) ∈ repD ps (frzNew scheme ep lo hi x) n (n + 1) := by
  unfold repD
  refine List.mem_append_left _ (List.mem_append_right _ ?_)
  unfold frzNew
  rw [List.mem_map]
  exact ⟨(lo, hi), cut_has hw, by unfold frzP; simp⟩
 cases hc : closedN (repD ps (frzNew scheme ep lo hi x) n (n + 1)) with
 | none =>
   have := List.findIdx?_eq_none_iff.1 hc _ hmem
   simp at this
 | some m =>
   obtain ⟨hml, hp, _⟩ := List.findIdx?_eq_some_iff_getElem.1 hc
   refine ⟨m, _, rfl, List.getElem?_eq_getElem hml, ?_⟩
   have hym : (repD ps (frzNew scheme ep lo hi x) n (n + 1))[m] ∈ repD ps (frzNew scheme ep lo hi x) n (n + 1) := List.getElem_mem _
   generalize (repD ps (frzNew scheme ep lo hi x) n (n + 1))[m] = y at hp hym ⊢
   rcases repD_mem hym with h | h
   · have := hno y h; rw [hp] at this; cases this
   · unfold frzNew at h
     rw [List.mem_map] at h
     obtain ⟨q, _, rfl⟩ := h
     unfold frzP at hp ⊢
     split
     · rename_i hq; exact hq
     · rename_i hq; rw [if_neg hq] at hp; simp at hp
theorem cutD_len (xlo xhi lo hi : ByteArray) : (cutD xlo xhi [lo, hi]).length ≤ 3 := by
 have h1 := cutFold_len xhi (cutKs [lo, hi]) ([], xlo)
 have h2 : (cutKs [lo, hi]).length ≤ 2 := by
  unfold cutKs
  refine Nat.le_trans (compact_len _) ?_
  unfold sortL
  rw [List.length_mergeSort]; simp [bytesL]
 unfold cutD
 rw [List.length_append]
 simp only [List.length_cons, List.length_nil] at h1 ⊢
 unfold cutFold
 omega
end Go.Proofs.YtmpmggejhnmakaaGreatDoor
