/- HoldsOne: what is plain. -/
import Derived.Test.YtdmejbjpbjcfbaaGreatDoorOneH
namespace Go.Proofs.YtdmejbjpbjcfbaaGreatDoor
open Go.RowKit

theorem holdB_parts {d : HoldD} (h : holdB d = true) : keysR d.key d.acts = true ∧ nameB d.cl d.nm = true ∧ rightsB d.acts = true := by
  unfold holdB at h
  simp only [Bool.and_eq_true] at h
  exact ⟨h.1, h.2.1, h.2.2.1⟩
theorem holdB_key {d : HoldD} (h : holdB d = true) : keyL (dkey d) = true := by
  obtain ⟨h1, _, h3⟩ := holdB_parts h
  unfold rightsB at h3
  simp only [Bool.and_eq_true, decide_eq_true_eq] at h3
  obtain ⟨⟨h4, _⟩, h5⟩ := h3
  cases ha : d.acts with
  | nil => rw [ha] at h4; simp at h4
  | cons a l =>
    have hm : a ∈ d.acts := by rw [ha]; simp
    have hr := List.all_eq_true.1 h5 a hm
    have hk := List.all_eq_true.1 h1 a hm
    rw [decide_eq_true_eq, Lib.toList_data, Lib.toList_data] at hk
    unfold rightB at hr
    rw [Bool.and_eq_true, hk] at hr
    exact hr.1
theorem has_all (k : List UInt8) (h : keyL k = true) : hasB [] [] k = true := by
  unfold hasB spanB aboveB
  rw [h]
  have : ¬ k < [] := List.not_lt_nil k
  simp [this]
theorem inD_all (ds : List HoldD) (h : ∀ d ∈ ds, holdB d = true) : inD ⟨#[]⟩ ⟨#[]⟩ ds = ds := by
  unfold inD
  rw [List.filter_eq_self]
  intro d hd
  exact has_all _ (holdB_key (h d hd))
theorem rise_ne {ds : List HoldD} (h : RiseD ds) : ds.Pairwise fun a b => dkey a ≠ dkey b := h.imp fun {a b} hab e => by rw [e] at hab; exact List.lt_irrefl _ hab
theorem filter_key {k : List UInt8} : ∀ {ds : List HoldD}, (ds.Pairwise fun a b => dkey a ≠ dkey b) → ds.filter (fun d => decide (dkey d = k)) = (ofD k ds).toList
  | [], _ => rfl
  | a :: l, h => by
    obtain ⟨h1, h2⟩ := List.pairwise_cons.1 h
    unfold ofD
    rw [List.filter_cons, List.find?_cons]
    by_cases hk : dkey a = k
    · have : l.filter (fun d => decide (dkey d = k)) = [] := by
        rw [List.filter_eq_nil_iff]
        intro b hb e
        rw [decide_eq_true_eq] at e
        exact h1 b hb (by rw [hk, e])
      simp [hk, this]
    · have ih := filter_key (k := k) h2
      unfold ofD at ih
      simp [hk, ih]
theorem among_one (key s : ByteArray) : amongB [key] s = decide (s.data.toList = key.data.toList) := by
  unfold amongB
  simp only [List.any_cons, List.any_nil, Bool.or_false]
  rw [Bool.eq_iff_iff, decide_eq_true_eq, decide_eq_true_eq]
  exact ⟨fun h => h.symm, fun h => h.symm⟩
theorem ofKeys_one {ds : List HoldD} (hr : RiseD ds) (key : ByteArray) : ofKeys [key] ds = (ofD key.data.toList ds).toList := by
  unfold ofKeys
  rw [← filter_key (rise_ne hr)]
  congr 1
  funext d
  exact among_one key d.key
theorem notKeys_len (ls : List ByteArray) (ds : List HoldD) : (ofKeys ls ds).length + (notKeys ls ds).length = ds.length := by
  unfold ofKeys notKeys
  induction ds with
  | nil => rfl
  | cons d l ih =>
    rw [List.filter_cons, List.filter_cons]
    cases d.tells fun k _ _ => amongB ls k <;> simp <;> omega
theorem notKeys_has (key : ByteArray) (ds : List HoldD) : hasD key.data.toList (notKeys [key] ds) = false := by
  unfold hasD notKeys
  rw [List.any_eq_false]
  intro d hd h
  rw [decide_eq_true_eq] at h
  have := (List.mem_filter.1 hd).2
  unfold HoldD.tells at this
  dsimp only at this
  rw [among_one, show d.key.data.toList = key.data.toList from h] at this
  simp at this
theorem dup_one (d : HoldD) : dupD [d] = false := by rw [dupD_iff]; simp
theorem thereD_one (d : HoldD) (ds : List HoldD) : thereD [d] ds = hasD (dkey d) ds := by simp [thereD]
theorem putE_there {d : HoldD} {ds : List HoldD} (hr : holdB d = true) (hd : d ∈ ds) : putE [d] ds = 7 := by
  have h1 : hasD (dkey d) ds = true := List.any_eq_true.2 ⟨d, hd, by simp⟩
  unfold putE
  rw [dup_one, thereD_one, h1, show holdsB [d] = true by simp [holdsB, hr]]
  simp
theorem putE_ok {d : HoldD} {ds : List HoldD} (hr : holdB d = true) (hd : hasD (dkey d) ds = false) (hl : ds.length + 1 ≤ 60) : putE [d] ds = 0 := by
  unfold putE
  rw [dup_one, thereD_one, hd, show holdsB [d] = true by simp [holdsB, hr]]
  simp; omega
/-- The same hold under another name. -/
def otherD (d : HoldD) : HoldD := { d with cl := 1 + d.cl % 8, nm := 1 }
theorem otherD_right {d : HoldD} (h : holdB d = true) : holdB (otherD d) = true := by
  have hn : nameB (1 + d.cl % 8) 1 = true := by
    obtain ⟨_, h2, _⟩ := holdB_parts h
    unfold nameB at h2 ⊢
    simp only [Bool.and_eq_true, decide_eq_true_eq] at h2 ⊢
    omega
  unfold holdB at h ⊢
  simp only [Bool.and_eq_true] at h ⊢
  exact ⟨h.1, hn, h.2.2⟩
theorem name_bd {d : HoldD} (h : holdB d = true) : 1 ≤ d.cl ∧ d.cl ≤ 8 := by
  obtain ⟨_, h2, _⟩ := holdB_parts h
  unfold nameB at h2
  simp only [Bool.and_eq_true, decide_eq_true_eq] at h2
  omega
/-- How many of some holds have a key. -/
def cntD (k : List UInt8) (ds : List HoldD) : Nat := (ds.filter fun d => decide (dkey d = k)).length
theorem cntD_succ (k : List UInt8) (ds : List HoldD) (i : Nat) (d : HoldD) (h : ds[i]? = some d) : cntD k (ds.take (i + 1)) = cntD k (ds.take i) + (if dkey d = k then 1 else 0) := by
  unfold cntD
  rw [filter_succ _ ds i d h, List.length_append]
  by_cases hk : dkey d = k <;> simp [hk]
theorem cntD_all {k : List UInt8} {ds : List HoldD} (h : RiseD ds) : cntD k ds = if hasD k ds = true then 1 else 0 := by
  unfold cntD
  rw [filter_key (rise_ne h), ← ofD_has]
  cases ofD k ds <;> rfl
theorem cntD_le (k : List UInt8) (ds : List HoldD) : cntD k ds ≤ ds.length := List.length_filter_le ..
theorem busy_one (ds : List HoldD) (c n : Int) (key : ByteArray) : busyL (fun k => hasD k ds) (nameD ds) c n (sortL (bytesL [key])) = if (hasD key.data.toList ds && !((nameD ds key.data.toList).1 == c && (nameD ds key.data.toList).2 == n)) = true then ((nameD ds key.data.toList).1, (nameD ds key.data.toList).2, true) else (0, 0, false) := by
  have : sortL (bytesL [key]) = [key.data.toList] := by simp [sortL, bytesL]
  rw [this]; rfl
theorem manyT_calls (hb : Nat) (v : Value) (ds : List HoldD) (W : World) (hT : Tab W hb v ds) : Calls Tryz.prog 16 #[.pointer (some ⟨hb, 0, none⟩)] W fun e w' => e = .returned (.int .i64 ds.length) ∧ W = w' := by
  obtain ⟨l, ao, cap, hv, _, hll, _, _, _, _⟩ := hT.rows
  have h0 := hT.blk.cell 0
  simp only [List.getElem?_cons_zero] at h0
  rw [hv] at h0
  have := many_calls hb ao l.length cap W h0 (hT.blk.cell 1)
  rw [hll] at this
  exact this
end Go.Proofs.YtdmejbjpbjcfbaaGreatDoor
