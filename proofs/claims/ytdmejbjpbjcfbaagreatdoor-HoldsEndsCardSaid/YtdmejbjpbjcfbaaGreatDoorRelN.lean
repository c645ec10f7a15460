/- A drawn region whose values are told by what holds of them, in whatever order its operations come. -/
import Derived.Test.YtdmejbjpbjcfbaaGreatDoorMem
namespace Go.Proofs.YtdmejbjpbjcfbaaGreatDoor
open Go.RowKit
structure RItem where
  i : Nat
  d : Tmp
def putsR : List RItem → (Nat → Value) → Nat → Go.Act → Go.Act
  | [], _, _, a => a
  | x :: xs, us, k, a => putsR xs us (k + 1) (a.put (some x.d) (us k))
def depR (md : Region.Mode) (o : Oper) (i : Nat) : Bool := o.after.any (fun e => Region.binds md e && e.on == i)
def itemsB (md : Region.Mode) (ops : Array Oper) (xs : List RItem) : Bool :=
  xs.all fun x => match ops[x.i]? with | some o => o.dst == some x.d && o.after.all (fun e => !Region.binds md e || decide (e.on < x.i)) | none => false
def relB (md : Region.Mode) (ops : Array Oper) (l0 : Array Bool) (xs : List RItem) (f : Nat) : Bool :=
  decide (l0.size = ops.size) && nodupB (xs.map (·.i)) && nodupB (xs.map (·.d)) && (List.range ops.size).all (fun i => l0.getD i true == !(xs.map (·.i)).contains i) && itemsB md ops xs && decide (unl l0.toList ≤ f)
theorem putsR_congr : ∀ (xs : List RItem) (us us' : Nat → Value) (k : Nat) (a : Go.Act), (∀ n, k ≤ n → us n = us' n) → putsR xs us k a = putsR xs us' k a
  | [], _, _, _, _, _ => rfl
  | x :: xs, us, us', k, a, h => by
    rw [putsR, putsR, h k (Nat.le_refl _)]
    exact putsR_congr xs us us' (k + 1) _ (fun n hn => h n (by omega))
theorem putsR_comm : ∀ (xs : List RItem) (us : Nat → Value) (k : Nat) (a : Go.Act) (d : Tmp) (v : Value), d ∉ xs.map (·.d) → (putsR xs us k a).put (some d) v = putsR xs us k (a.put (some d) v)
  | [], _, _, _, _, _, _ => rfl
  | x :: xs, us, k, a, d, v, h => by
    simp only [List.map_cons, List.mem_cons, not_or] at h
    rw [putsR, putsR, putsR_comm xs us (k + 1) _ d v h.2, Act.put_comm a (us k) v (fun e he h2 => by cases he; cases h2; exact h.1 rfl)]
theorem put_twice (a : Go.Act) (d : Tmp) (u v : Value) : (a.put (some d) u).put (some d) v = a.put (some d) v := by
  simp [Act.put, Array.setIfInBounds_setIfInBounds]
theorem putsR_set : ∀ (xs : List RItem) (us : Nat → Value) (k j : Nat) (a : Go.Act) (x : RItem) (v : Value), (xs.map (·.d)).Nodup → xs[j]? = some x → (putsR xs us k a).put (some x.d) v = putsR xs (fun n => if n = k + j then v else us n) k a
  | [], _, _, j, _, x, _, _, h => by simp at h
  | y :: xs, us, k, 0, a, x, v, hn, h => by
    simp only [List.getElem?_cons_zero, Option.some.injEq] at h
    subst h
    have hn := List.nodup_cons.1 hn
    rw [putsR, putsR, putsR_comm xs us (k + 1) _ y.d v hn.1, put_twice]
    simp only [Nat.add_zero, if_true]
    exact putsR_congr xs _ _ (k + 1) _ (fun n hn => by rw [if_neg (by omega)])
  | y :: xs, us, k, j + 1, a, x, v, hn, h => by
    have hn := List.nodup_cons.1 hn
    rw [putsR, putsR, putsR_set xs us (k + 1) j _ x v hn.2 (by simpa using h)]
    simp only [if_neg (show ¬ k = k + (j + 1) by omega)]
    exact putsR_congr xs _ _ (k + 1) _ (fun n _ => by
      by_cases e : n = k + 1 + j
      · rw [if_pos e, if_pos (by omega)]
      · rw [if_neg e, if_neg (by omega)])
def RelStep (P : Program) (md : Region.Mode) (ops : Array Oper) (Q : Exit → Go.Act → World → Prop) (xs : List RItem) (a0 : Go.Act) (T : World → World → Prop) (R : Nat → Value → World → Prop) (w0 : World) (j : Nat) (x : RItem) : Prop :=
  ∀ (us : Nat → Value) (w : World), T w0 w → (∀ k y, xs[k]? = some y → ((ops[x.i]?).map fun o => depR md o y.i) = some true → R k (us k) w) →
    ∀ K : Go.Act → World → Prop, Shut (∀ v w' a', T w w' → R j v w' → a' = (putsR xs us 0 a0).put (some x.d) v → K a' w') →
    match ops[x.i]? with
    | some o => if Region.wanted o (yielded ops (putsR xs us 0 a0).tmps) = true then Oper.wp P o (putsR xs us 0 a0) w K Q else K ((putsR xs us 0 a0).put o.dst undef) w
    | none => True
theorem wp_rel {P : Program} {ops : Array Oper} {md : Region.Mode} {Q : Exit → Go.Act → World → Prop} {S : World → Prop} {f : Nat} {l0 : Array Bool} {a0 : Go.Act} {w0 : World} (xs : List RItem) (T : World → World → Prop) (R : Nat → Value → World → Prop)
    (hB : relB md ops l0 xs f = true) (hS : ∀ w, T w0 w → S w) (hT0 : T w0 w0) (hTt : ∀ w w', T w0 w → T w w' → T w0 w') (hR : ∀ k v w w', R k v w → T w w' → R k v w')
    (hstep : ∀ j x, xs[j]? = some x → RelStep P md ops Q xs a0 T R w0 j x)
    (hend : ∀ us w, T w0 w → (∀ k y, xs[k]? = some y → R k (us k) w) → Q .normal (putsR xs us 0 a0) w) : wpAnyH P md ops Q S f l0 a0 w0 := by
  simp only [relB, Bool.and_eq_true, decide_eq_true_eq] at hB
  obtain ⟨⟨⟨⟨⟨hsz, hni⟩, hnd⟩, hl0⟩, hit⟩, hf⟩ := hB
  have hni := nodupB_iff _ hni
  have hnd := nodupB_iff _ hnd
  have hit : ∀ x ∈ xs, ∃ o, ops[x.i]? = some o ∧ o.dst = some x.d ∧ ∀ e ∈ o.after, Region.binds md e = true → e.on < x.i := fun x hx => by
    have h := List.all_eq_true.1 hit x hx
    cases ho : ops[x.i]? with
    | none => rw [ho] at h; cases h
    | some o =>
      rw [ho] at h
      simp only [Bool.and_eq_true, beq_iff_eq, Array.all_eq_true_iff_forall_mem, Bool.or_eq_true, Bool.not_eq_true', decide_eq_true_eq] at h
      exact ⟨o, rfl, h.1, fun e he hb => (h.2 e he).resolve_left (by simp [hb])⟩
  have hidx : ∀ i, i ∉ xs.map (·.i) → l0.getD i true = true := fun i hi => by
    rcases Nat.lt_or_ge i ops.size with h | h
    · have := List.all_eq_true.1 hl0 i (List.mem_range.2 h)
      simpa [hi] using this
    · rw [Array.getD_eq_getD_getElem?, Array.getElem?_eq_none (by rw [hsz]; exact h)]; rfl
  have hidx0 : ∀ x ∈ xs, l0.getD x.i true = false := fun x hx => by
    obtain ⟨o, ho, _⟩ := hit x hx
    have := List.all_eq_true.1 hl0 x.i (List.mem_range.2 (Array.getElem?_eq_some_iff.1 ho).1)
    have hm : x.i ∈ xs.map (·.i) := List.mem_map.2 ⟨x, hx, rfl⟩
    simpa [hm] using this
  have hinj : ∀ {j k : Nat} {x y : RItem}, xs[j]? = some x → xs[k]? = some y → x.i = y.i → j = k := fun {j k x y} hx hy e => by
    have h1 : (xs.map (·.i))[j]? = some x.i := by rw [List.getElem?_map, hx]; rfl
    have h2 : (xs.map (·.i))[k]? = some x.i := by rw [List.getElem?_map, hy, e]; rfl
    have hj : j < (xs.map (·.i)).length := (List.getElem?_eq_some_iff.1 h1).1
    exact (List.getElem?_inj hj hni).1 (by rw [h1, h2])
  refine wpAnyH_inv (fun l a w => ∃ us, l.size = ops.size ∧ (∀ i, i ∉ xs.map (·.i) → l.getD i true = true) ∧ a = putsR xs us 0 a0 ∧ T w0 w ∧ ∀ k y, xs[k]? = some y → l.getD y.i true = true → R k (us k) w) (fun l a w ⟨_, _, _, _, h, _⟩ => hS w h) ?_ ?_ f l0 a0 w0 hf ?_
  · rintro l a w ⟨us, h1, h2, rfl, h4, h5⟩ i hi
    obtain ⟨hun, o, ho, hdep⟩ := mem_ready.1 hi
    have hmi : i ∈ xs.map (·.i) := by
      rcases Classical.em (i ∈ xs.map (·.i)) with h | h
      · exact h
      · rw [h2 i h] at hun; cases hun
    obtain ⟨x, hx, rfl⟩ := List.mem_map.1 hmi
    obtain ⟨j, hj⟩ := List.mem_iff_getElem?.1 hx
    obtain ⟨o', ho', hd, _⟩ := hit x hx
    rw [ho] at ho'
    obtain rfl := Option.some.inj ho'
    have hs := hstep j x hj us w h4 (fun k y hy hdp => h5 k y hy (by
      rw [ho] at hdp
      simp only [Option.map_some, Option.some.injEq, depR, Array.any_eq_true', Bool.and_eq_true, beq_iff_eq] at hdp
      obtain ⟨e, he, hb, hon⟩ := hdp
      rw [← hon]
      exact true_of_true (hdep e he hb)))
    refine wpOp_step ho (fun K' hK => ?_)
    have hs := hs K' (fun v w' a' hT hRv ha => hK _ _ ⟨fun n => if n = j then v else us n, by simp [h1], fun i hi => set_true (h2 i hi), by
        have := putsR_set xs us 0 j a0 x v hnd hj
        rw [Nat.zero_add] at this
        rw [ha]; exact this, hTt _ _ h4 hT, fun k y hy hl => by
        by_cases e : k = j
        · subst e; simp only [if_true]; exact hRv
        · simp only [if_neg e]
          rw [getD_set, if_neg (fun e' => e (hinj hy hj e'.1.symm))] at hl
          exact hR _ _ _ _ (h5 k y hy hl) hT⟩)
    rw [ho] at hs
    exact hs
  · rintro l a w ⟨us, h1, h2, rfl, h4, h5⟩ hr
    have hnr : ∀ i, i ∉ Region.ready md ops l := fun i hi => by rw [hr] at hi; cases hi
    have hall : ∀ n, ∀ x ∈ xs, x.i < n → l.getD x.i true = true := by
      intro n
      induction n with
      | zero => intro x _ h; omega
      | succ n ih =>
        intro x hx hlt
        cases hb : l.getD x.i true with
        | true => rfl
        | false =>
          exfalso
          obtain ⟨o, ho, _, hlow⟩ := hit x hx
          refine hnr x.i (mem_ready.2 ⟨hb, o, ho, fun e he hbe => ?_⟩)
          have hel := hlow e he hbe
          have hes : e.on < l.size := by rw [h1]; have := (Array.getElem?_eq_some_iff.1 ho).1; omega
          rw [getD_both hes]
          rcases Classical.em (e.on ∈ xs.map (·.i)) with hm | hm
          · obtain ⟨y, hy, he2⟩ := List.mem_map.1 hm
            rw [← he2]
            exact ih y hy (by omega)
          · exact h2 _ hm
    exact hend us w h4 (fun k y hy => h5 k y hy (hall (y.i + 1) y (List.mem_of_getElem? hy) (by omega)))
  · refine ⟨fun k => (a0.tmps.getD ((xs[k]?.map (·.d)).getD 0) undef), hsz, hidx, ?_, hT0, fun k y hy hl => by rw [hidx0 y (List.mem_of_getElem? hy)] at hl; cases hl⟩
    have key : ∀ (ys : List RItem) (k : Nat) (us : Nat → Value), (∀ n y, ys[n]? = some y → us (k + n) = a0.tmps.getD y.d undef) → putsR ys us k a0 = a0 := by
      intro ys
      induction ys with
      | nil => intro k us _; rfl
      | cons y ys ih =>
        intro k us h
        have h0 : a0.put (some y.d) (us k) = a0 := by
          have := h 0 y rfl
          rw [Nat.add_zero] at this
          rw [this]
          simp only [Act.put]
          congr 1
          apply Array.ext
          · simp
          · intro i h1 h2
            simp only [Array.getElem_setIfInBounds h2, Array.getD_eq_getD_getElem?]
            by_cases e : y.d = i
            · subst e
              simp [Array.getElem?_eq_getElem h2]
            · simp [e]
        rw [putsR, h0]
        exact ih (k + 1) us (fun n z hz => by
          have := h (n + 1) z (by simpa using hz)
          rw [show k + (n + 1) = k + 1 + n from by omega] at this
          exact this)
    exact (key xs 0 _ (fun n y hy => by rw [Nat.zero_add, hy]; rfl)).symm
theorem getD_putsR_other : ∀ (xs : List RItem) (us : Nat → Value) (k : Nat) (a : Go.Act) (t : Tmp), t ∉ xs.map (·.d) → (putsR xs us k a).tmps.getD t undef = a.tmps.getD t undef
  | [], _, _, _, _, _ => rfl
  | x :: xs, us, k, a, t, h => by
    simp only [List.map_cons, List.mem_cons, not_or] at h
    rw [putsR, getD_putsR_other xs us (k + 1) _ t h.2]
    simp only [Act.put, Array.getD_eq_getD_getElem?, Array.getElem?_setIfInBounds]
    rw [if_neg (fun e => h.1 e.symm)]
theorem getD_putsR : ∀ (xs : List RItem) (us : Nat → Value) (k : Nat) (a : Go.Act) (j : Nat) (y : RItem), (xs.map (·.d)).Nodup → (∀ x ∈ xs, x.d < a.tmps.size) → xs[j]? = some y → (putsR xs us k a).tmps.getD y.d undef = us (k + j)
  | [], _, _, _, _, _, _, _, h => by simp at h
  | x :: xs, us, k, a, 0, y, hn, hs, h => by
    simp only [List.getElem?_cons_zero, Option.some.injEq] at h
    subst h
    have hn := List.nodup_cons.1 hn
    rw [putsR, getD_putsR_other xs us (k + 1) _ x.d hn.1, getD_put _ _ _ _ (hs x (by simp)), if_pos rfl, Nat.add_zero]
  | x :: xs, us, k, a, j + 1, y, hn, hs, h => by
    have hn := List.nodup_cons.1 hn
    rw [putsR, getD_putsR xs us (k + 1) _ j y hn.2 (fun z hz => by rw [size_put]; exact hs z (by simp [hz])) (by simpa using h), show k + 1 + j = k + (j + 1) from by omega]
def RelStepA (P : Program) (md : Region.Mode) (ops : Array Oper) (Q : Exit → Go.Act → World → Prop) (xs : List RItem) (a0 : Go.Act) (T : World → World → Prop) (R : Nat → Value → World → Prop) (w0 : World) (j : Nat) (x : RItem) : Prop :=
  ∀ (a : Go.Act) (w : World), T w0 w → Shut (∀ t, (xs.map (·.d)).contains t = false → a.tmps.getD t undef = a0.tmps.getD t undef) → (∀ k y, xs[k]? = some y → ((ops[x.i]?).map fun o => depR md o y.i) = some true → R k (a.tmps.getD y.d undef) w) →
    ∀ K : Go.Act → World → Prop, Shut (∀ v w', T w w' → R j v w' → K (a.put (some x.d) v) w') →
    match ops[x.i]? with
    | some o => if Region.wanted o (yielded ops a.tmps) = true then Oper.wp P o a w K Q else K (a.put o.dst undef) w
    | none => True
theorem wp_relA {P : Program} {ops : Array Oper} {md : Region.Mode} {Q : Exit → Go.Act → World → Prop} {S : World → Prop} {f : Nat} {l0 : Array Bool} {a0 : Go.Act} {w0 : World} (xs : List RItem) (T : World → World → Prop) (R : Nat → Value → World → Prop)
    (hB : relB md ops l0 xs f = true) (hs : ∀ x ∈ xs, x.d < a0.tmps.size) (hS : ∀ w, T w0 w → S w) (hT0 : T w0 w0) (hTt : ∀ w w', T w0 w → T w w' → T w0 w') (hR : ∀ k v w w', R k v w → T w w' → R k v w')
    (hstep : ∀ j x, xs[j]? = some x → RelStepA P md ops Q xs a0 T R w0 j x)
    (hend : ∀ us w, T w0 w → (∀ k y, xs[k]? = some y → R k (us k) w) → Q .normal (putsR xs us 0 a0) w) : wpAnyH P md ops Q S f l0 a0 w0 := by
  have hnd : (xs.map (·.d)).Nodup := by
    have h := hB
    simp only [relB, Bool.and_eq_true] at h
    exact nodupB_iff _ h.1.1.1.2
  refine wp_rel xs T R hB hS hT0 hTt hR (fun j x hx us w hT hdep K hK => ?_) hend
  refine hstep j x hx (putsR xs us 0 a0) w hT (fun t ht => getD_putsR_other xs us 0 a0 t (by simpa using ht)) (fun k y hy hd => ?_) K (fun v w' hT' hR' => hK.out v w' _ hT' hR' rfl)
  rw [getD_putsR xs us 0 a0 k y hnd hs hy, Nat.zero_add]
  exact hdep k y hy hd
theorem slot_bool {a : Go.Act} {t : Tmp} {b : Bool} (h : a.tmps.getD t undef = .bool b) : a.tmps[t]? = some (.bool b) := by
  rw [Array.getD_eq_getD_getElem?] at h
  cases hx : a.tmps[t]? with
  | none => rw [hx] at h; cases h
  | some v => rw [hx] at h; exact congrArg some h
theorem slot_get {a : Go.Act} {t : Tmp} {v : Value} (h : a.tmps.getD t undef = v) : a.tmps[t]?.getD undef = v := by
  rw [← Array.getD_eq_getD_getElem?]; exact h
end Go.Proofs.YtdmejbjpbjcfbaaGreatDoor
