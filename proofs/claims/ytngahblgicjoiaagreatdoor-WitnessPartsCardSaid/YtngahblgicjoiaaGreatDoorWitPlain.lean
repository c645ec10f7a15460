/- What steps leave and tell, in plain words: laws that ask no document. -/
import Derived.Test.YtngahblgicjoiaaGreatDoorWitLaw
namespace Go.Proofs.YtngahblgicjoiaaGreatDoor

theorem getR_nil (k : List UInt8) : getR k [] = none := rfl
theorem getR_lt {k : List UInt8} {d : RowD} {l : List RowD} (h : rkey d < k) : getR k (d :: l) = getR k l := by
  have hp : placeR k (d :: l) = placeR k l + 1 := by unfold placeR; rw [List.takeWhile_cons_of_pos (by simpa using h)]; rfl
  unfold getR
  rw [hp, List.getElem?_cons_succ]
theorem getR_eq {k : List UInt8} {d : RowD} {l : List RowD} (h : rkey d = k) : getR k (d :: l) = some d.value := by
  have hp : placeR k (d :: l) = 0 := by unfold placeR; rw [List.takeWhile_cons_of_neg (by rw [h]; simp)]; rfl
  unfold getR
  rw [hp, List.getElem?_cons_zero]
  simp [h]
theorem getR_gt {k : List UInt8} {d : RowD} {l : List RowD} (h : k < rkey d) : getR k (d :: l) = none := by
  have hn : ¬ rkey d < k := fun e => lt_irr _ (lt_tr e h)
  have hp : placeR k (d :: l) = 0 := by unfold placeR; rw [List.takeWhile_cons_of_neg (by simpa using hn)]; rfl
  have hne : rkey d ≠ k := fun e => by rw [e] at h; exact lt_irr _ h
  unfold getR
  rw [hp, List.getElem?_cons_zero]
  simp [hne]
theorem getR_none {k : List UInt8} : ∀ {l : List RowD}, (∀ d ∈ l, k < rkey d) → getR k l = none
  | [], _ => rfl
  | d :: l, h => getR_gt (h d (by simp))
theorem getR_mem {l : List RowD} (h : RiseR l) {d : RowD} (hd : d ∈ l) : getR (rkey d) l = some d.value := by
  induction l with
  | nil => cases hd
  | cons a l ih =>
    have hp := List.pairwise_cons.1 h
    rcases List.mem_cons.1 hd with rfl | hd
    · exact getR_eq rfl
    · rw [getR_lt (hp.1 d hd)]; exact ih hp.2 hd
theorem getR_some {k : List UInt8} {v : ByteArray} {l : List RowD} (h : getR k l = some v) : ∃ d ∈ l, rkey d = k ∧ d.value = v := by
  unfold getR at h
  cases hp : l[placeR k l]? with
  | none => rw [hp] at h; cases h
  | some d =>
    rw [hp] at h
    simp only at h
    split at h
    · rename_i e
      exact ⟨d, List.mem_of_getElem? hp, e, Option.some.inj h⟩
    · cases h
theorem getR_put {x : RowD} (k : List UInt8) : ∀ {l : List RowD}, RiseR l → getR k (putR x l) = if k = rkey x then some x.value else getR k l := by
  intro l h
  rw [← with_put h]
  induction l with
  | nil =>
    rw [withGo]
    rcases lt_tri (rkey x) k with e | e | e
    · have : k ≠ rkey x := fun h => by rw [h] at e; exact lt_irr _ e
      rw [getR_lt e, if_neg this]
    · rw [getR_eq e, if_pos e.symm]
    · have : k ≠ rkey x := fun h => by rw [h] at e; exact lt_irr _ e
      rw [getR_gt e, if_neg this, getR_nil]
  | cons d l ih =>
    have hp := List.pairwise_cons.1 h
    by_cases hlt : rkey d < rkey x
    · rw [withGo, if_pos hlt]
      rcases lt_tri (rkey d) k with e | e | e
      · rw [getR_lt e, getR_lt e, ih hp.2]
      · have : k ≠ rkey x := fun h => by rw [← h, ← e] at hlt; exact lt_irr _ hlt
        rw [getR_eq e, getR_eq e, if_neg this]
      · have : k ≠ rkey x := fun h => by rw [h] at e; exact lt_irr _ (lt_tr e hlt)
        rw [getR_gt e, getR_gt e, if_neg this]
    · have hne : ∀ e ∈ l, rkey e ≠ rkey x := fun e he hk => by
        have h1 := lt_of_not_lt hlt (hp.1 e he)
        rw [hk] at h1
        exact lt_irr _ h1
      rw [withGo, if_neg hlt, withGo_true hne]
      by_cases hk : rkey d = rkey x
      · rw [if_pos hk, List.nil_append]
        rcases lt_tri (rkey x) k with e | e | e
        · have : k ≠ rkey x := fun h => by rw [h] at e; exact lt_irr _ e
          rw [getR_lt e, getR_lt (by rw [hk]; exact e), if_neg this]
        · rw [getR_eq e, if_pos e.symm]
        · have : k ≠ rkey x := fun h => by rw [h] at e; exact lt_irr _ e
          rw [getR_gt e, getR_gt (by rw [hk]; exact e), if_neg this]
      · rw [if_neg hk]
        have hxd : rkey x < rkey d := by
          rcases lt_tri (rkey d) (rkey x) with e | e | e
          · exact absurd e hlt
          · exact absurd e hk
          · exact e
        show getR k (x :: d :: l) = _
        rcases lt_tri (rkey x) k with e | e | e
        · have : k ≠ rkey x := fun h => by rw [h] at e; exact lt_irr _ e
          rw [getR_lt e, if_neg this]
        · rw [getR_eq e, if_pos e.symm]
        · have : k ≠ rkey x := fun h => by rw [h] at e; exact lt_irr _ e
          rw [getR_gt e, getR_gt (lt_tr e hxd), if_neg this]
theorem row_eq {a b : RowD} (h : rkey a = rkey b) (hv : a.value = b.value) : a = b := by
  obtain ⟨⟨⟨k⟩⟩, v⟩ := a
  obtain ⟨⟨⟨k'⟩⟩, v'⟩ := b
  simp only [rkey] at h
  simp only at hv
  subst h; subst hv; rfl
/-- Rows that rise are what they hold. -/
theorem rise_ext : ∀ {l m : List RowD}, RiseR l → RiseR m → (∀ k, getR k l = getR k m) → l = m
  | [], [], _, _, _ => rfl
  | [], b :: m, _, _, h => by have := h (rkey b); rw [getR_nil, getR_eq rfl] at this; cases this
  | a :: l, [], _, _, h => by have := h (rkey a); rw [getR_nil, getR_eq rfl] at this; cases this
  | a :: l, b :: m, h1, h2, h => by
    have p1 := List.pairwise_cons.1 h1
    have p2 := List.pairwise_cons.1 h2
    rcases lt_tri (rkey a) (rkey b) with e | e | e
    · have := h (rkey a); rw [getR_eq rfl, getR_gt e] at this; cases this
    · have hv := h (rkey a)
      rw [getR_eq rfl, getR_eq e.symm, Option.some.injEq] at hv
      rw [row_eq e hv, rise_ext p1.2 p2.2 (fun k => ?_)]
      rcases lt_tri (rkey a) k with e2 | e2 | e2
      · have := h k
        rwa [getR_lt e2, getR_lt (by rw [← e]; exact e2)] at this
      · rw [getR_none (fun d hd => by rw [← e2]; exact p1.1 d hd), getR_none (fun d hd => by rw [← e2, e]; exact p2.1 d hd)]
      · rw [getR_none (fun d hd => lt_tr e2 (p1.1 d hd)), getR_none (fun d hd => lt_tr (by rw [← e]; exact e2) (p2.1 d hd))]
    · have := h (rkey b); rw [getR_gt e, getR_eq rfl] at this; cases this
theorem keySt_congr {acts : List ActD} {r1 r2 : List RowD} {k : Txt} (h : getR k r1 = getR k r2) : keySt acts r1 k = keySt acts r2 k := by unfold keySt; rw [h]
/-- What keys' acts leave, and tell. -/
theorem doneAt_get {rows : List RowD} {acts : List ActD} (h : RiseR rows) : ∀ (n : Nat) (ks : List Txt), ks.length = n → ks.Nodup →
    (∀ x, getR x (doneAt acts rows ks).1 = if x ∈ ks ∧ (keySt acts rows x).put = true then some (keySt acts rows x).value else getR x rows) ∧ ∀ x, (doneAt acts rows ks).2 x = if x ∈ ks then (keySt acts rows x).reads else [] := by
  intro n
  induction n with
  | zero => intro ks hn _; rw [List.length_eq_zero_iff] at hn; subst hn; exact ⟨fun x => by simp [doneAt], fun x => by simp [doneAt]⟩
  | succ n ih =>
    intro ks hn hd
    rcases List.eq_nil_or_concat ks with rfl | ⟨L, b, rfl⟩
    · simp at hn
    · simp only [List.concat_eq_append] at hn hd ⊢
      simp only [List.length_append, List.length_cons, List.length_nil] at hn
      rw [List.nodup_append] at hd
      have hb : b ∉ L := fun hb => hd.2.2 b hb b (by simp) rfl
      obtain ⟨i1, i2⟩ := ih L (by omega) hd.1
      have hg : getR b (doneAt acts rows L).1 = getR b rows := by rw [i1 b, if_neg (fun e => hb e.1)]
      have hk : keySt acts (doneAt acts rows L).1 b = keySt acts rows b := keySt_congr hg
      rw [doneAt_snoc]
      unfold doneKey
      simp only [hk]
      refine ⟨fun x => ?_, fun x => ?_⟩
      · by_cases hput : (keySt acts rows b).put = true
        · rw [if_pos hput, getR_put x (doneAt_rise h _ L rfl)]
          have e1 : rkey ⟨⟨b.toArray⟩, (keySt acts rows b).value⟩ = b := by simp [rkey]
          rw [e1]
          by_cases e : x = b
          · subst e; simp [hput]
          · rw [if_neg e, i1 x]; simp [e]
        · rw [if_neg hput, i1 x]
          by_cases e : x = b
          · subst e; simp [hput, hb]
          · simp [e]
      · by_cases e : x = b
        · subst e; simp
        · rw [if_neg e, i2 x]; simp [e]
theorem keysL_nodup (acts : List ActD) : (keysL acts).Nodup := (keysL_pw acts).imp fun h e => by rw [e] at h; exact lt_irr _ h
theorem doneK_get {rows : List RowD} {acts : List ActD} (h : RiseR rows) (x : Txt) : getR x (doneK rows acts).1 = if x ∈ keysL acts ∧ (keySt acts rows x).put = true then some (keySt acts rows x).value else getR x rows := (doneAt_get h _ _ rfl (keysL_nodup acts)).1 x
theorem doneK_told {rows : List RowD} {acts : List ActD} (h : RiseR rows) (x : Txt) : (doneK rows acts).2 x = if x ∈ keysL acts then (keySt acts rows x).reads else [] := (doneAt_get h _ _ rfl (keysL_nodup acts)).2 x
theorem told_congr {r1 r2 : List RowD} {acts : List ActD} (h1 : RiseR r1) (h2 : RiseR r2) (h : ∀ x ∈ keysL acts, getR x r1 = getR x r2) : (doneK r1 acts).2 = (doneK r2 acts).2 := by
  funext x
  rw [doneK_told h1, doneK_told h2]
  by_cases hx : x ∈ keysL acts
  · rw [if_pos hx, if_pos hx, keySt_congr (h x hx)]
  · rw [if_neg hx, if_neg hx]
theorem reads_congr {r1 r2 : List RowD} {acts : List ActD} (h1 : RiseR r1) (h2 : RiseR r2) (h : ∀ x ∈ keysL acts, getR x r1 = getR x r2) : (doneD r1 acts).2 = (doneD r2 acts).2 := by
  unfold doneD
  simp only
  rw [told_congr h1 h2 h]
/-- Steps of other keys leave the same in either order, and tell the same. -/
theorem apart_done {rows : List RowD} {a b : List ActD} (h : RiseR rows) (hd : ∀ x ∈ keysL a, x ∉ keysL b) :
    (doneD (doneD rows a).1 b).1 = (doneD (doneD rows b).1 a).1 ∧ (doneD rows a).2 = (doneD (doneD rows b).1 a).2 ∧ (doneD (doneD rows a).1 b).2 = (doneD rows b).2 := by
  have ha : RiseR (doneD rows a).1 := doneK_rise h
  have hb : RiseR (doneD rows b).1 := doneK_rise h
  have ga : ∀ x ∈ keysL b, getR x (doneD rows a).1 = getR x rows := fun x hx => by
    show getR x (doneK rows a).1 = _
    rw [doneK_get h, if_neg (fun e => hd x e.1 hx)]
  have gb : ∀ x ∈ keysL a, getR x (doneD rows b).1 = getR x rows := fun x hx => by
    show getR x (doneK rows b).1 = _
    rw [doneK_get h, if_neg (fun e => hd x hx e.1)]
  refine ⟨rise_ext (doneK_rise ha) (doneK_rise hb) (fun x => ?_), reads_congr h hb (fun x hx => (gb x hx).symm), reads_congr ha h ga⟩
  show getR x (doneK (doneD rows a).1 b).1 = getR x (doneK (doneD rows b).1 a).1
  rw [doneK_get ha, doneK_get hb]
  by_cases xa : x ∈ keysL a
  · have xb := hd x xa
    have e1 : getR x (doneD rows a).1 = if x ∈ keysL a ∧ (keySt a rows x).put = true then some (keySt a rows x).value else getR x rows := doneK_get h x
    rw [if_neg (fun e => xb e.1), e1, keySt_congr (gb x xa), gb x xa]
  · rw [if_neg (c := x ∈ keysL a ∧ _) (fun e => xa e.1)]
    have e1 : getR x (doneD rows b).1 = if x ∈ keysL b ∧ (keySt b rows x).put = true then some (keySt b rows x).value else getR x rows := doneK_get h x
    have e2 : getR x (doneD rows a).1 = getR x rows := by
      show getR x (doneK rows a).1 = _
      rw [doneK_get h, if_neg (fun e => xa e.1)]
    rw [keySt_congr e2, e2, e1]
theorem keys_apart {a b : List ActD} (h : ∀ x ∈ a, ∀ y ∈ b, x.key ≠ y.key) : ∀ x ∈ keysL a, x ∉ keysL b := by
  intro x hx hy
  obtain ⟨p, hp, rfl⟩ := (keysL_mem a x).1 hx
  obtain ⟨q, hq, he⟩ := (keysL_mem b _).1 hy
  refine h p hp q hq ?_
  unfold keyT at he
  obtain ⟨kd, ⟨⟨k⟩⟩, v, n⟩ := p
  obtain ⟨kd', ⟨⟨k'⟩⟩, v', n'⟩ := q
  simp only at he ⊢
  rw [he]
/-- Rows that are a table. -/
def okRow (r : RowD) : Bool := keyL (rkey r) && decide (r.value.size ≤ 20)
def SoundR (l : List RowD) : Prop := RiseR l ∧ ∀ r ∈ l, okRow r = true
theorem nDigits_le : ∀ (k u : Nat), u < 10 ^ (k + 1) → Lib.nDigits u ≤ k + 1
  | 0, u, h => by rw [Lib.nDigits_small (by simpa using h)]; omega
  | k + 1, u, h => by
    by_cases hs : u < 10
    · rw [Lib.nDigits_small hs]; omega
    · rw [Lib.nDigits_big hs]
      have := nDigits_le k (u / 10) (by rw [Nat.pow_succ] at h; omega)
      omega
theorem valueL_le20 (n : Int) : (valueL n).length ≤ 20 := by
  unfold valueL
  have h1 : -1073741824 ≤ cutI n := by unfold cutI; omega
  have h2 : cutI n ≤ 1073741824 := by unfold cutI; omega
  generalize cutI n = c at *
  by_cases hneg : c < 0
  · obtain ⟨u, rfl⟩ : ∃ u : Nat, c = -(u : Int) := ⟨c.natAbs, by omega⟩
    rw [Lib.itoa_neg u (by omega), List.length_cons, Lib.decDigits_length]
    have := nDigits_le 9 u (by omega)
    omega
  · obtain ⟨u, rfl⟩ : ∃ u : Nat, c = u := ⟨c.toNat, by omega⟩
    rw [Lib.itoa_nonneg, Lib.decDigits_length]
    have := nDigits_le 9 u (by omega)
    omega
theorem St.step_20 {s : St} {a : ActD} (hs : s.value.size ≤ 20) (ha : rightB a = true) : (s.step a).value.size ≤ 20 := by
  unfold St.step
  split
  · exact hs
  · split
    · rename_i e
      unfold rightB kindB at ha
      simp [e] at ha
      exact ha.2.1.1
    · split
      · show (addV _ _).size ≤ 20
        have := valueL_le20 (numberL s.value.data.toList + clampI a.num)
        unfold addV
        simp only [ByteArray.size, List.size_toArray]
        exact this
      · exact hs
theorem St.after_20 : ∀ (l : List ActD) {s : St}, s.value.size ≤ 20 → (∀ a ∈ l, rightB a = true) → (s.after l).value.size ≤ 20
  | [], _, hs, _ => hs
  | a :: l, s, hs, h => by
    have := St.after_20 l (St.step_20 hs (h a (by simp))) (fun x hx => h x (by simp [hx]))
    unfold St.after at *
    exact this
theorem rightsB_all {l : List ActD} (h : rightsB l = true) : ∀ a ∈ l, rightB a = true := by
  unfold rightsB at h
  simp only [Bool.and_eq_true, List.all_eq_true] at h
  exact h.2
theorem getR_20 {rows : List RowD} (h : ∀ r ∈ rows, okRow r = true) (k : Txt) : ((getR k rows).getD noBytes).size ≤ 20 := by
  cases hg : getR k rows with
  | none => exact Nat.zero_le _
  | some v =>
    obtain ⟨d, hd, _, rfl⟩ := getR_some hg
    have := h d hd
    unfold okRow at this
    simp only [Bool.and_eq_true, decide_eq_true_eq] at this
    exact this.2
/-- A right step leaves a table. -/
theorem done_sound {rows : List RowD} {acts : List ActD} (h : SoundR rows) (hr : rightsB acts = true) : SoundR (doneD rows acts).1 := by
  have hrise : RiseR (doneD rows acts).1 := doneK_rise h.1
  refine ⟨hrise, fun r hr' => ?_⟩
  have hg := getR_mem hrise hr'
  rw [show (doneD rows acts).1 = (doneK rows acts).1 from rfl, doneK_get h.1] at hg
  split at hg
  · rename_i hc
    obtain ⟨a, ha, he⟩ := (keysL_mem acts _).1 hc.1
    have hra := rightsB_all hr a ha
    have hv := Option.some.inj hg
    unfold okRow
    rw [Bool.and_eq_true]
    refine ⟨?_, decide_eq_true ?_⟩
    · rw [← he]
      unfold rightB at hra
      exact (Bool.and_eq_true _ _ ▸ hra).1
    · rw [← hv]
      unfold keySt
      refine St.after_20 _ ?_ (fun x hx => rightsB_all hr x (List.mem_filter.1 hx).1)
      unfold St.begin
      simp only
      split
      · exact getR_20 h.2 _
      · exact Nat.zero_le _
  · obtain ⟨d, hd, hk, hv⟩ := getR_some hg
    rw [← row_eq hk hv]; exact h.2 d hd

/-- A history, one step more; of steps. -/
def stepH (h : Hist) (x : StepD) : Hist := ((doneD h.1 x.acts).1, h.2 ++ [(x.cl, x.nm)])
def histF (h : Hist) (l : List StepD) : Hist := l.foldl stepH h
def histAt (l : List StepD) (i : Nat) : Hist := histF ([], []) (l.take i)
theorem fit_stopF : ∀ (l : List StepD) (h : Hist) (n i : Nat) (x : StepD), l[i]? = some x → (∀ (j : Nat) (y : StepD), j < i → l[j]? = some y → nextE (histF h (l.take j)) y = 0) → nextE (histF h (l.take i)) x ≠ 0 → fitGo h n l = (n + i, nextE (histF h (l.take i)) x)
  | [], _, _, i, x, hx, _, _ => by simp at hx
  | y :: l, h, n, 0, x, hx, _, he => by
    simp only [List.getElem?_cons_zero, Option.some.injEq] at hx
    subst hx
    rw [List.take_zero] at he ⊢
    rw [fitGo]
    exact if_pos he
  | y :: l, h, n, i + 1, x, hx, ha, he => by
    have h0 := ha 0 y (by omega) rfl
    rw [List.take_zero] at h0
    rw [fitGo, if_neg (fun e => e h0)]
    simp only [List.getElem?_cons_succ] at hx
    have := fit_stopF l (stepH h y) (n + 1) i x hx (fun j z hj hz => ha (j + 1) z (by omega) (by simpa using hz)) he
    rw [show n + (i + 1) = n + 1 + i from by omega]
    exact this
theorem fit_endF : ∀ (l : List StepD) (h : Hist) (n : Nat), (∀ (j : Nat) (y : StepD), l[j]? = some y → nextE (histF h (l.take j)) y = 0) → fitGo h n l = (n + l.length, 0)
  | [], _, n, _ => rfl
  | y :: l, h, n, ha => by
    have h0 := ha 0 y rfl
    rw [List.take_zero] at h0
    rw [fitGo, if_neg (fun e => e h0), List.length_cons, show n + (l.length + 1) = n + 1 + l.length from by omega]
    exact fit_endF l (stepH h y) (n + 1) (fun j z hz => ha (j + 1) z (by simpa using hz))
theorem fit_stop {l : List StepD} {i : Nat} {x : StepD} (hx : l[i]? = some x) (ha : ∀ (j : Nat) (y : StepD), j < i → l[j]? = some y → nextE (histAt l j) y = 0) (he : nextE (histAt l i) x ≠ 0) : fitD l = (i, nextE (histAt l i) x) := by
  have := fit_stopF l ([], []) 0 i x hx ha he
  rwa [Nat.zero_add] at this
theorem fit_end {l : List StepD} (ha : ∀ (j : Nat) (y : StepD), l[j]? = some y → nextE (histAt l j) y = 0) : fitD l = (l.length, 0) := by
  have := fit_endF l ([], []) 0 ha
  rwa [Nat.zero_add] at this
theorem histAt_succ {l : List StepD} {i : Nat} {x : StepD} (hx : l[i]? = some x) : histAt l (i + 1) = stepH (histAt l i) x := by
  unfold histAt histF
  rw [List.take_add_one, hx, Option.toList_some, List.foldl_append]; rfl
/-- How far steps fit: the two cases. -/
theorem fit_cases (l : List StepD) : (fitD l = (l.length, 0) ∧ ∀ (j : Nat) (y : StepD), l[j]? = some y → nextE (histAt l j) y = 0) ∨
    ∃ (i : Nat) (x : StepD), l[i]? = some x ∧ (∀ (j : Nat) (y : StepD), j < i → l[j]? = some y → nextE (histAt l j) y = 0) ∧ nextE (histAt l i) x ≠ 0 ∧ fitD l = (i, nextE (histAt l i) x) := by
  have key : ∀ n, (∀ (j : Nat) (y : StepD), j < n → l[j]? = some y → nextE (histAt l j) y = 0) ∨ ∃ (i : Nat) (x : StepD), l[i]? = some x ∧ (∀ (j : Nat) (y : StepD), j < i → l[j]? = some y → nextE (histAt l j) y = 0) ∧ nextE (histAt l i) x ≠ 0 := by
    intro n
    induction n with
    | zero => exact .inl (fun j y hj => by omega)
    | succ n ih =>
      rcases ih with ih | ih
      · cases hx : l[n]? with
        | none => exact .inl (fun j y hj hy => by
            rcases Nat.lt_or_ge j n with h | h
            · exact ih j y h hy
            · obtain rfl : j = n := by omega
              rw [hx] at hy; cases hy)
        | some x =>
          by_cases he : nextE (histAt l n) x = 0
          · exact .inl (fun j y hj hy => by
              rcases Nat.lt_or_ge j n with h | h
              · exact ih j y h hy
              · obtain rfl : j = n := by omega
                rw [hx] at hy
                rw [← Option.some.inj hy]; exact he)
          · exact .inr ⟨n, x, hx, ih, he⟩
      · exact .inr ih
  rcases key l.length with h | ⟨i, x, hx, ha, he⟩
  · have ha : ∀ (j : Nat) (y : StepD), l[j]? = some y → nextE (histAt l j) y = 0 := fun j y hy => h j y (List.getElem?_eq_some_iff.1 hy).1 hy
    exact .inl ⟨fit_end ha, ha⟩
  · exact .inr ⟨i, x, hx, ha, he, fit_stop hx ha he⟩
theorem histAt_take (l : List StepD) {i n : Nat} (h : i ≤ n) : histAt (l.take n) i = histAt l i := by
  unfold histAt; rw [List.take_take, Nat.min_eq_left h]
/-- The steps ahead fit. -/
theorem fit_ahead {l : List StepD} {n : Nat} (hn : n ≤ l.length) (ha : ∀ (j : Nat) (y : StepD), j < n → l[j]? = some y → nextE (histAt l j) y = 0) : fitD (l.take n) = (n, 0) := by
  have h1 := fit_end (l := l.take n) (fun j y hy => by
    have hj : j < (l.take n).length := (List.getElem?_eq_some_iff.1 hy).1
    rw [List.length_take] at hj
    rw [List.getElem?_take_of_lt (by omega)] at hy
    rw [histAt_take l (by omega)]
    exact ha j y (by omega) hy)
  rwa [List.length_take, Nat.min_eq_left hn] at h1
/-- What steps leave: wrong ones leave nothing. -/
def afterR (rows : List RowD) (x : StepD) : List RowD := if rightS x = true then (doneD rows x.acts).1 else rows
def afterD (l : List StepD) : List RowD := l.foldl afterR []
theorem afterD_succ {l : List StepD} {i : Nat} {x : StepD} (hx : l[i]? = some x) : afterD (l.take (i + 1)) = afterR (afterD (l.take i)) x := by
  unfold afterD
  rw [List.take_add_one, hx, Option.toList_some, List.foldl_append]; rfl
theorem nextE_zero {h : Hist} {x : StepD} (he : nextE h x = 0) : rightS x = true ∧ (x.cl, x.nm) ∉ h.2 ∧ (doneD h.1 x.acts).2 = x.reads := by
  unfold nextE at he
  split at he
  · cases he
  · rename_i h1
    split at he
    · cases he
    · rename_i h2
      split at he
      · cases he
      · rename_i h3
        exact ⟨by simpa using h1, h2, Classical.not_not.1 h3⟩
theorem rightS_acts {x : StepD} (h : rightS x = true) : rightsB x.acts = true := by
  unfold rightS at h
  simp only [Bool.and_eq_true] at h
  exact h.1.2
theorem hist_after {l : List StepD} : ∀ {n : Nat}, n ≤ l.length → (∀ (j : Nat) (y : StepD), j < n → l[j]? = some y → nextE (histAt l j) y = 0) → (histAt l n).1 = afterD (l.take n)
  | 0, _, _ => by simp [histAt, histF, afterD]
  | n + 1, hn, ha => by
    have hx : l[n]? = some l[n] := List.getElem?_eq_getElem (by omega)
    rw [histAt_succ hx, afterD_succ hx]
    have h1 := (nextE_zero (ha n _ (by omega) hx)).1
    unfold afterR stepH
    rw [if_pos h1, hist_after (by omega) (fun j y hj hy => ha j y (by omega) hy)]
theorem after_sound : ∀ (n : Nat) (l : List StepD), l.length = n → SoundR (afterD l) := by
  intro n
  induction n with
  | zero => intro l hn; rw [List.length_eq_zero_iff] at hn; subst hn; exact ⟨List.Pairwise.nil, fun r hr => by cases hr⟩
  | succ n ih =>
    intro l hn
    rcases List.eq_nil_or_concat l with rfl | ⟨L, b, rfl⟩
    · simp at hn
    · simp only [List.concat_eq_append, List.length_append, List.length_cons, List.length_nil] at hn
      have h1 := ih L (by omega)
      rw [List.concat_eq_append]
      unfold afterD at h1 ⊢
      rw [List.foldl_append]
      show SoundR (afterR _ b)
      unfold afterR
      split
      · rename_i hb
        exact done_sound h1 (rightS_acts hb)
      · exact h1
theorem time_stopG : ∀ (l : List StepD) (n i k : Nat) (x y : StepD), l[i]? = some x → l[i + 1 + k]? = some y → lateD y x = true → (∀ (m : Nat) (z : StepD), m < k → l[i + 1 + m]? = some z → lateD z x = false) →
    (∀ (j : Nat) (u : StepD), j < i → l[j]? = some u → ∀ (m : Nat) (z : StepD), j < m → l[m]? = some z → lateD z u = false) → timeGo n l = (((n + i : Nat) : Int), ((n + i + 1 + k : Nat) : Int))
  | [], _, i, _, _, _, hx, _, _, _, _ => by simp at hx
  | a :: l, n, 0, k, x, y, hx, hy, hl, hb, _ => by
    simp only [List.getElem?_cons_zero, Option.some.injEq] at hx
    subst hx
    have e1 : ∀ m, (a :: l)[0 + 1 + m]? = l[m]? := fun m => by rw [show 0 + 1 + m = m + 1 from by omega, List.getElem?_cons_succ]
    rw [e1] at hy
    obtain ⟨hk, he⟩ := List.getElem?_eq_some_iff.1 hy
    have hf : l.findIdx? (fun y => lateD y a) = some k := by
      rw [List.findIdx?_eq_some_iff_getElem]
      refine ⟨hk, by rw [he]; exact hl, fun j hj => ?_⟩
      rw [hb j l[j] hj (by rw [e1]; exact List.getElem?_eq_getElem (by omega))]
      simp
    rw [timeGo, hf]
    simp only [Prod.mk.injEq]
    omega
  | a :: l, n, i + 1, k, x, y, hx, hy, hl, hb, ha => by
    have hf : l.findIdx? (fun y => lateD y a) = none := by
      rw [List.findIdx?_eq_none_iff]
      intro z hz
      obtain ⟨m, hm⟩ := List.mem_iff_getElem?.1 hz
      exact ha 0 a (by omega) rfl (m + 1) z (by omega) (by simpa using hm)
    rw [timeGo, hf]
    simp only
    have e1 : ∀ m, (a :: l)[i + 1 + 1 + m]? = l[i + 1 + m]? := fun m => by rw [show i + 1 + 1 + m = (i + 1 + m) + 1 from by omega, List.getElem?_cons_succ]
    rw [time_stopG l (n + 1) i k x y (by simpa using hx) (by rw [← e1]; exact hy) hl (fun m z hm hz => hb m z hm (by rw [e1]; exact hz)) (fun j u hj hu m z hm hz => ha (j + 1) u (by omega) (by simpa using hu) (m + 1) z (by omega) (by simpa using hz))]
    simp only [Prod.mk.injEq]
    omega
theorem time_stop {l : List StepD} {i k : Nat} {x y : StepD} (hx : l[i]? = some x) (hy : l[i + 1 + k]? = some y) (hl : lateD y x = true) (hb : ∀ (m : Nat) (z : StepD), m < k → l[i + 1 + m]? = some z → lateD z x = false)
    (ha : ∀ (j : Nat) (u : StepD), j < i → l[j]? = some u → ∀ (m : Nat) (z : StepD), j < m → l[m]? = some z → lateD z u = false) : timeD l = ((i : Int), ((i + 1 + k : Nat) : Int)) := by
  have := time_stopG l 0 i k x y hx hy hl hb ha
  rw [Nat.zero_add] at this
  exact this
theorem time_endG : ∀ (l : List StepD) (n : Nat), (∀ (j : Nat) (u : StepD), l[j]? = some u → ∀ (m : Nat) (z : StepD), j < m → l[m]? = some z → lateD z u = false) → timeGo n l = (-1, -1)
  | [], _, _ => rfl
  | a :: l, n, ha => by
    have hf : l.findIdx? (fun y => lateD y a) = none := by
      rw [List.findIdx?_eq_none_iff]
      intro z hz
      obtain ⟨m, hm⟩ := List.mem_iff_getElem?.1 hz
      exact ha 0 a rfl (m + 1) z (by omega) (by simpa using hm)
    rw [timeGo, hf]
    exact time_endG l (n + 1) (fun j u hu m z hm hz => ha (j + 1) u (by simpa using hu) (m + 1) z (by omega) (by simpa using hz))
theorem time_neg : ∀ (l : List StepD) (n : Nat), (timeGo n l).1 < 0 → timeGo n l = (-1, -1)
  | [], _, _ => rfl
  | a :: l, n, h => by
    rw [timeGo] at h ⊢
    cases hf : l.findIdx? (fun y => lateD y a) with
    | some k => rw [hf] at h; simp only at h; omega
    | none => rw [hf] at h; exact time_neg l (n + 1) h
/-- What is found fits and is in time; where one fits and is in time, one is found. -/
theorem order_fits {l a : List StepD} (h : ordP nextD lateD l.length ([], []) l = some a) : a.Perm l ∧ fitD a = (l.length, 0) ∧ timeD a = (-1, -1) := by
  obtain ⟨h1, h2, h3⟩ := ordP_spec _ _ _ _ rfl h
  refine ⟨h1, ?_, time_neg a 0 ((time_all a 0).1 h3)⟩
  have := (fit_all a ([], []) 0).1 h2
  rw [Nat.zero_add, h1.length_eq] at this
  exact this
theorem order_there {l : List StepD} (hf : fitD l = (l.length, 0)) (ht : (timeD l).1 < 0) : (ordP nextD lateD l.length ([], []) l).isSome = true :=
  ordP_some _ _ _ _ rfl (List.Perm.refl _) ((fit_all l ([], []) 0).2 (by rw [Nat.zero_add]; exact hf)) ((time_all l 0).2 ht)
end Go.Proofs.YtngahblgicjoiaaGreatDoor
