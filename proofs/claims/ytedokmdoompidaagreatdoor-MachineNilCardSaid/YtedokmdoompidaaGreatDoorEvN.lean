/- The evaluator's appends and copies, and the model's. -/
import Derived.Test.YtedokmdoompidaaGreatDoorEvM
namespace Go.Proofs.YtedokmdoompidaaGreatDoor.Ev

section
variable (σ : Nat → Value)
theorem growA_post {φ : Phi} {S S' : St} {w : World} (hW : W σ φ S w) {e : TypeId} {size n cap : Nat} {xs : List AV} {arr zs : Array Value} {v : AV} (hv : VL σ φ xs arr.toList) (ha : arr.size = n * size) (hz : zs.size = (cap - n) * size) (hc : n ≤ cap) (h : growA S e size n xs = some (v, S')) :
    ∃ φ', Post σ φ S w φ' S' (w.drew.alloc (.cells (arr ++ zs) e)) ∧ V σ φ' v (.slice (some ⟨w.heap.size, 0, none⟩) n cap) := by
  unfold growA at h
  split at h
  · rename_i blk hb
    split at h
    · rename_i h' hh
      injection h with h; injection h with h1 h2; subst h1; subst h2
      have hnone : φ S.nx = none := by
        cases h : φ S.nx with
        | none => rfl
        | some y => exact absurd (hW.lt S.nx y.1 y.2 h).2 (Nat.lt_irrefl _)
      have hle : φ.le (φ.set S.nx (w.heap.size, (arr ++ zs).size)) := fun b x h => by
        unfold Phi.set
        split
        · rename_i e; rw [e, hnone] at h; cases h
        · exact h
      have hxl : xs.length = arr.size := by rw [← VL.len σ hv, Array.length_toList]
      have hBR : BR σ (φ.set S.nx (w.heap.size, (arr ++ zs).size)) blk (arr ++ zs).size (.cells (arr ++ zs) e (0, 0)) :=
        rowBlk_BR σ hb (by rw [Array.size_append]; omega) (fun h => by cases h) (fun j x hx => by
          obtain ⟨v, k1, k2⟩ := VL.at σ hv j x hx
          have hj : j < arr.size := by rw [← hxl]; exact (List.getElem?_eq_some_iff.1 hx).1
          exact ⟨v, by rw [Array.getElem?_append_left hj, ← Array.getElem?_toList]; exact k1, V.mono σ hle _ _ k2⟩) (.inl (Nat.le_refl _)) (fun _ => rfl)
      refine ⟨φ.set S.nx (w.heap.size, (arr ++ zs).size), Post.alloc σ hW (Tr.get_put _ _ _ _ _ hh) rfl (o := .cells (arr ++ zs) e (0, 0)) rfl ⟨rfl, rfl, rfl⟩ hBR, ?_⟩
      simp only [V]
      refine ⟨w.heap.size, (arr ++ zs).size, cap, by simp [Phi.set], rfl, ?_, hc⟩
      rw [Array.size_append, ha, hz, ← Nat.add_mul, show n + (cap - n) = cap by omega, Nat.zero_add]
    · cases h
  · cases h

theorem storeCells_nil (P : Program) (a : Addr) (w : World) : (storeCells a []).run P w = .ok () w := rfl

theorem appendA_run {P : Program} (hσ : Okσ σ) {φ : Phi} {S S' : St} {w : World} (hW : W σ φ S w) {t xt ty : TypeId} {s x v : AV} {sv xv : Value} (hs : V σ φ s sv) (hx : V σ φ x xv) (h : appendA P S t xt s x = some (v, S')) :
    ∃ u w' φ', (Builtin.append_ #[t, xt] ty #[sv, xv]).run P w = .ok u w' ∧ Post σ φ S w φ' S' w' ∧ V σ φ' v u := by
  unfold appendA at h
  split at h
  · rename_i e ht
    split at h
    · rename_i i z hi hz
      cases hc : (Nat.beq z.cells.length i.size && Nat.blt 0 i.size && Nat.blt i.bytes 1000000) with
      | false => simp [hc] at h
      | true =>
        simp only [hc, cond_true] at h
        simp only [Bool.and_eq_true] at hc
        obtain ⟨⟨hzl, hpos⟩, hby⟩ := hc
        have hzl := Nat.eq_of_beq_eq_true hzl
        have hpos : 0 < i.size := Nat.le_of_ble_eq_true hpos
        have hby : i.bytes < 1000000 := Nat.le_of_ble_eq_true hby
        split at h
        · rename_i n new hsrc
          cases hsc : allScalar new with
          | false => simp [hsc] at h
          | true =>
            simp only [hsc, cond_true] at h
            have hsz : szOf P e = some i.size := by simp [szOf, hi]
            obtain ⟨hnl, ⟨m, hl1, hl2, _⟩, ⟨vs, hv1, hv2⟩, d, hd1, hd2⟩ := srcA_run σ (P := P) hW hx hsrc
            have hnm := hl2 rfl
            subst hnm
            obtain ⟨zv, hzv, hz2⟩ : ∃ zv, i.zero = some zv ∧ zv.cells.size = i.size := by
              obtain ⟨zv, g1, g2⟩ := zeroA_run (σ := σ) (φ := φ) hz w
              have : i.zero = some zv := by
                unfold zeroA at hz
                rw [hi] at hz
                simp only at hz
                split at hz
                · rename_i zv' hzv'
                  have : (zeroValue e).run P w = .ok zv' w := by simp [zeroValue, typeInfo, hi, hzv']
                  rw [this] at g1; injection g1 with g1; rw [hzv', g1]
                · cases hz
              refine ⟨zv, this, ?_⟩
              cases z with
              | agg l => simp only [V] at g2; obtain ⟨l', rfl, h2⟩ := g2; simp only [Value.cells, List.size_toArray, VL.len σ h2]; exact hzl
              | tup l => simp only [V] at g2; obtain ⟨l', rfl, h2⟩ := g2; simpa [Value.cells, AV.cells] using hzl
              | _ =>
                have h1 := V.cells σ hσ.small g2 rfl
                rw [← hzl, ← VL.len σ h1, Array.length_toList]
            have hroom : ∀ (base : Option Addr) (len cap : Nat), len + n ≤ cap → _ := fun base len cap hle => app_room (P := P) (w := w) (ty := ty) (base := base) (sLen := len) (sCap := cap) ht hd1 hd2 hsz hl1 (hv2 w rfl) hle
            have hgrow : ∀ (base : Option Addr) (len cap : Nat) (old : Array Value), (Builtin.firstCells i.size len (.slice base len cap)).run P w.drew = .ok old w.drew → cap < len + n → len + n < 1000000 → _ := fun base len cap old ho h1 h2 => app_grow (P := P) (w := w) (ty := ty) (base := base) ht hd1 hd2 hi hzv hl1 (hv2 w.drew rfl) ho h1 h2 hby
            have hcapge : ∀ need old, need ≤ grownCap w need old e := fun need old => by unfold grownCap; simp only [Question.cut]; omega
            have hzs : ∀ k, (Builtin.zeroCells zv.cells k).size = k * i.size := fun k => by simp [Builtin.zeroCells, hz2]
            have hvsl : vs.toArray.size = n * i.size := by rw [List.size_toArray, VL.len σ hv1, hnl]
            split at h
            · -- nil
              simp only [V] at hs; subst hs
              cases hn0 : Nat.beq n 0 with
              | true =>
                simp only [hn0, cond_true, Option.some.injEq, Prod.mk.injEq] at h
                obtain ⟨rfl, rfl⟩ := h
                have := Nat.eq_of_beq_eq_true hn0; subst this
                have hr := hroom none 0 0 (by omega)
                exact ⟨_, _, φ, hr, Post.refl σ hW, by simp only [V]⟩
              | false =>
                simp only [hn0, cond_false] at h
                cases hlt : Nat.blt n 1000000 with
                | false => simp [hlt] at h
                | true =>
                  simp only [hlt, cond_true] at h
                  have hn0 := Nat.ne_of_beq_eq_false hn0
                  have hlt : n < 1000000 := Nat.le_of_ble_eq_true hlt
                  have hr := hgrow none 0 0 #[] (by simp [Builtin.firstCells]) (by omega) (by omega)
                  simp only [Nat.zero_add] at hr
                  obtain ⟨φ', p1, p2⟩ := growA_post σ hW (arr := #[] ++ vs.toArray) (zs := Builtin.zeroCells zv.cells (grownCap w n 0 e - n)) (cap := grownCap w n 0 e) (by simpa using hv1) (by simpa using hvsl) (hzs _) (hcapge _ _) h
                  exact ⟨_, _, φ', hr, p1, p2⟩
            · -- empty, of no known place
              simp only [V] at hs; obtain ⟨a, c, rfl⟩ := hs
              cases hn0 : Nat.beq n 0 with
              | true =>
                simp only [hn0, cond_true, Option.some.injEq, Prod.mk.injEq] at h
                obtain ⟨rfl, rfl⟩ := h
                have := Nat.eq_of_beq_eq_true hn0; subst this
                have hv0 : vs = [] := List.length_eq_zero_iff.1 (by rw [VL.len σ hv1, hnl]; simp)
                have hr := hroom (some a) 0 c (by omega)
                subst hv0
                simp only [storeCells_nil, Result.andThen_ok] at hr
                exact ⟨_, _, φ, hr, Post.refl σ hW, by simp only [V]; exact ⟨_, _, rfl⟩⟩
              | false => simp [hn0] at h
            · -- capacity known
              rename_i b o len cap
              simp only [V] at hs; obtain ⟨r, q, hφ, rfl⟩ := hs
              cases hle : Nat.ble (len + n) cap with
              | true =>
                simp only [hle, cond_true] at h
                have hle := Nat.le_of_ble_eq_true hle
                have hr := hroom (some ⟨r, o, none⟩) len cap hle
                cases hn0 : Nat.beq n 0 with
                | true =>
                  simp only [hn0, cond_true, Option.some.injEq, Prod.mk.injEq] at h
                  obtain ⟨rfl, rfl⟩ := h
                  have := Nat.eq_of_beq_eq_true hn0; subst this
                  have hv0 : vs = [] := List.length_eq_zero_iff.1 (by rw [VL.len σ hv1, hnl]; simp)
                  subst hv0
                  simp only [storeCells_nil, Result.andThen_ok] at hr
                  exact ⟨_, _, φ, hr, Post.refl σ hW, by simp only [V]; exact ⟨_, _, hφ, rfl⟩⟩
                | false =>
                  simp only [hn0, cond_false] at h
                  split at h
                  · rename_i S1 hst
                    simp only [Option.some.injEq, Prod.mk.injEq] at h
                    obtain ⟨rfl, rfl⟩ := h
                    obtain ⟨w', g1, g2⟩ := storeC_run σ (P := P) hσ.small hW hφ hv1 hst
                    simp only [addr_add, g1, Result.andThen_ok] at hr
                    exact ⟨_, _, φ, hr, g2, by simp only [V]; exact ⟨_, _, hφ, rfl⟩⟩
                  · cases h
              | false =>
                simp only [hle, cond_false] at h
                cases hb : (Nat.blt (len + n) 1000000 && Nat.ble len cap) with
                | false => simp [hb] at h
                | true =>
                  simp only [hb, cond_true] at h
                  simp only [Bool.and_eq_true] at hb
                  have hlt : len + n < 1000000 := Nat.le_of_ble_eq_true hb.1
                  have hgt : cap < len + n := by
                    rcases Nat.lt_or_ge cap (len + n) with h | h
                    · exact h
                    · rw [Nat.ble_eq_true_of_le h] at hle; cases hle
                  split at h
                  · rename_i old hold
                    obtain ⟨os, k1, k2, k3⟩ := loadC_spec σ hW hφ hold
                    have ho : (Builtin.firstCells i.size len (.slice (some ⟨r, o, none⟩) len cap)).run P w.drew = .ok os.toArray w.drew := by
                      simp only [Builtin.firstCells]
                      rw [← k2]
                      exact run_loadCells_list w.drew _ os (fun j v hv => by rw [addr_add]; exact k3 j v hv)
                    have hr := hgrow (some ⟨r, o, none⟩) len cap os.toArray ho hgt hlt
                    obtain ⟨φ', p1, p2⟩ := growA_post σ hW (arr := os.toArray ++ vs.toArray) (zs := Builtin.zeroCells zv.cells (grownCap w (len + n) cap e - (len + n))) (cap := grownCap w (len + n) cap e) (by simpa using VL.append σ k1 hv1) (by rw [Array.size_append, hvsl, List.size_toArray, k2, Nat.add_mul]) (hzs _) (hcapge _ _) h
                    exact ⟨_, _, φ', hr, p1, p2⟩
                  · cases h
            · -- capacity unknown
              rename_i b o len u
              simp only [V] at hs; obtain ⟨r, q, c, hφ, rfl, hcq, hlc⟩ := hs
              cases hu : Nat.beq u i.size with
              | false => simp [hu] at h
              | true =>
                simp only [hu, cond_true] at h
                have hu := Nat.eq_of_beq_eq_true hu
                subst hu
                cases hn0 : Nat.beq n 0 with
                | true =>
                  simp only [hn0, cond_true, Option.some.injEq, Prod.mk.injEq] at h
                  obtain ⟨rfl, rfl⟩ := h
                  have := Nat.eq_of_beq_eq_true hn0; subst this
                  have hr := hroom (some ⟨r, o, none⟩) len c (by omega)
                  have hv0 : vs = [] := List.length_eq_zero_iff.1 (by rw [VL.len σ hv1, hnl]; simp)
                  subst hv0
                  simp only [storeCells_nil, Result.andThen_ok] at hr
                  exact ⟨_, _, φ, hr, Post.refl σ hW, by simp only [V]; exact ⟨_, _, _, hφ, rfl, hcq, hlc⟩⟩
                | false =>
                  simp only [hn0, cond_false] at h
                  have hn0 := Nat.ne_of_beq_eq_false hn0
                  split at h
                  · rename_i e0 n0 sp ro sh cs hb
                    obtain ⟨ob, hob, carr, fz, rfl, b2, b3, b4, b5, b6, b7⟩ := hW.at_ _ _ _ _ hb hφ
                    cases hfit : Nat.ble (o + (len + n) * i.size) n0 with
                    | true =>
                      simp only [hfit, cond_true] at h
                      have hfit := Nat.le_of_ble_eq_true hfit
                      have hle : len + n ≤ c := by
                        have : (len + n) * i.size ≤ c * i.size := by omega
                        exact Nat.le_of_mul_le_mul_right this hpos
                      have hr := hroom (some ⟨r, o, none⟩) len c hle
                      split at h
                      · rename_i S1 hst
                        simp only [Option.some.injEq, Prod.mk.injEq] at h
                        obtain ⟨rfl, rfl⟩ := h
                        obtain ⟨w', g1, g2⟩ := storeC_run σ (P := P) hσ.small hW hφ hv1 hst
                        simp only [addr_add, g1, Result.andThen_ok] at hr
                        exact ⟨_, _, φ, hr, g2, by simp only [V]; exact ⟨_, _, _, hφ, rfl, hcq, hle⟩⟩
                      · cases h
                    | false =>
                      simp only [hfit, cond_false] at h
                      cases hcc : (Nat.beq o 0 && Nat.beq (len * i.size) n0 && sp && !ro && Nat.beq e0 e && Nat.blt (len + n) 1000000) with
                      | false => simp [hcc] at h
                      | true =>
                        simp only [hcc, cond_true] at h
                        simp only [Bool.and_eq_true, Bool.not_eq_true'] at hcc
                        obtain ⟨⟨⟨⟨⟨ho0, hn00⟩, hsp⟩, hro⟩, he0⟩, hlt⟩ := hcc
                        have ho0 := Nat.eq_of_beq_eq_true ho0
                        have hn00 := Nat.eq_of_beq_eq_true hn00
                        have he0 := Nat.eq_of_beq_eq_true he0
                        have hlt : len + n < 1000000 := Nat.le_of_ble_eq_true hlt
                        subst ho0; subst he0; subst hsp; subst hro
                        split at h
                        · rename_i cs' hcs
                          split at h
                          · rename_i h1 hh1
                            split at h
                            · rename_i h2 hh2
                              simp only [Option.some.injEq, Prod.mk.injEq] at h
                              obtain ⟨rfl, rfl⟩ := h
                              have hbn := hW.dom _ _ hb
                              have hcsget : ∀ j, cs'.get j = if n0 ≤ j ∧ j < n0 + new.length then new[j - n0]? else cs.get j := Tr.get_putAll new cs n0 cs' hcs
                              rcases Nat.lt_or_ge c (len + n) with hgt | hle
                              · -- moved
                                have hold : ∃ os : List Value, os.length = len * i.size ∧ (∀ j, j < n0 → ∃ x v, cs.get j = some x ∧ os[j]? = some v ∧ V σ φ x v) ∧ ∀ j v, os[j]? = some v → w.cell? ⟨r, 0 + j, none⟩ = some v := by
                                  refine ⟨carr.toList.take n0, by rw [List.length_take, Array.length_toList, b2]; omega, fun j hj => ?_, fun j v hv => ?_⟩
                                  · obtain ⟨x, v, a1, a2, a3⟩ := b5 j hj
                                    exact ⟨x, v, a1, by rw [List.getElem?_take, if_pos hj, Array.getElem?_toList]; exact a2, a3⟩
                                  · rw [List.getElem?_take] at hv
                                    split at hv
                                    · rw [Array.getElem?_toList] at hv
                                      simp [World.cell?, hob, hv]
                                    · cases hv
                                obtain ⟨os, k1, k2, k3⟩ := hold
                                have ho : (Builtin.firstCells i.size len (.slice (some ⟨r, 0, none⟩) len c)).run P w.drew = .ok os.toArray w.drew := by
                                  simp only [Builtin.firstCells]
                                  rw [← k1]
                                  exact run_loadCells_list w.drew _ os (fun j v hv => by rw [addr_add]; exact k3 j v hv)
                                have hr := hgrow (some ⟨r, 0, none⟩) len c os.toArray ho hgt hlt
                                generalize hzz : Builtin.zeroCells zv.cells (grownCap w (len + n) c e0 - (len + n)) = zz at hr
                                have hzzs : zz.size = (grownCap w (len + n) c e0 - (len + n)) * i.size := by rw [← hzz]; exact hzs _
                                have hasize : (os.toArray ++ vs.toArray ++ zz).size = grownCap w (len + n) c e0 * i.size := by
                                  rw [Array.size_append, Array.size_append, hvsl, List.size_toArray, k1, hzzs, ← Nat.add_mul, ← Nat.add_mul]
                                  have := hcapge (len + n) c
                                  congr 1; omega
                                have hnone : φ S.nx = none := by
                                  cases h : φ S.nx with
                                  | none => rfl
                                  | some y => exact absurd (hW.lt S.nx y.1 y.2 h).2 (Nat.lt_irrefl _)
                                have hlep : φ.le (φ.set S.nx (w.heap.size, (os.toArray ++ vs.toArray ++ zz).size)) := fun b x h => by
                                  unfold Phi.set
                                  split
                                  · rename_i e; rw [e, hnone] at h; cases h
                                  · exact h
                                have hcap := hcapge (len + n) c
                                have hBR : BR σ (φ.set S.nx (w.heap.size, (os.toArray ++ vs.toArray ++ zz).size)) (.cells e0 (n0 + new.length) true false sh cs') (os.toArray ++ vs.toArray ++ zz).size (.cells (os.toArray ++ vs.toArray ++ zz) e0 (0, 0)) := by
                                  refine ⟨_, _, rfl, rfl, ?_, fun h => (by cases h), fun j hj => ?_, .inl (Nat.le_refl _), fun _ => rfl⟩
                                  · rw [hasize, hnl, ← hn00, ← Nat.add_mul]; exact Nat.mul_le_mul_right _ hcap
                                  · rw [hcsget j]
                                    by_cases hj0 : j < n0
                                    · rw [if_neg (by omega)]
                                      obtain ⟨x, v, a1, a2, a3⟩ := k2 j hj0
                                      refine ⟨x, v, a1, ?_, V.mono σ hlep _ _ a3⟩
                                      rw [Array.getElem?_append_left (by rw [Array.size_append, List.size_toArray, k1]; omega), Array.getElem?_append_left (by rw [List.size_toArray, k1]; omega)]
                                      simpa using a2
                                    · rw [if_pos (by omega)]
                                      have hx' : new[j - n0]? = some (new[j - n0]'(by omega)) := List.getElem?_eq_getElem _
                                      obtain ⟨v, a1, a2⟩ := VL.at σ hv1 (j - n0) _ hx'
                                      refine ⟨_, v, hx', ?_, V.mono σ hlep _ _ a2⟩
                                      rw [Array.getElem?_append_left (by rw [Array.size_append, List.size_toArray, k1, hvsl]; rw [hnl] at hj; omega), Array.getElem?_append_right (by rw [List.size_toArray, k1]; omega), List.size_toArray, k1, hn00]
                                      simpa using a1
                                have p1 := Post.alloc σ hW (S' := ⟨h1, S.nx + 1⟩) (w' := w.drew.alloc (.cells (os.toArray ++ vs.toArray ++ zz) e0)) (Tr.get_put _ _ _ _ _ hh1) rfl (o := .cells (os.toArray ++ vs.toArray ++ zz) e0 (0, 0)) rfl ⟨rfl, rfl, rfl⟩ hBR
                                have p2 := Post.forget σ (S' := ⟨h2, S.nx + 1⟩) (b := b) p1.wr (Tr.get_put _ _ _ _ _ hh2) rfl ⟨_, p1.le _ _ hφ⟩
                                refine ⟨_, _, _, hr, p1.trans σ p2 hW, ?_⟩
                                simp only [V]
                                exact ⟨w.heap.size, (os.toArray ++ vs.toArray ++ zz).size, grownCap w (len + n) c e0, by simp [Phi.set], rfl, by rw [hasize]; omega, hcap⟩
                              · -- in place
                                have hr := hroom (some ⟨r, 0, none⟩) len c hle
                                have hfits : 0 + len * i.size + vs.length ≤ carr.size := by
                                  rw [VL.len σ hv1, hnl, b2, ← hcq]
                                  have : (len + n) * i.size ≤ c * i.size := Nat.mul_le_mul_right _ hle
                                  rw [Nat.add_mul] at this
                                  omega
                                obtain ⟨c', g1, g2, g3⟩ := run_cells_put (P := P) r (0 + len * i.size) e0 fz vs 0 carr w hob (by rw [b2]; exact b6) (by omega) (VL.scalar σ hσ.small hv1 hsc)
                                simp only [addr_add, g1, Result.andThen_ok] at hr
                                have hnone : φ S.nx = none := by
                                  cases h : φ S.nx with
                                  | none => rfl
                                  | some y => exact absurd (hW.lt S.nx y.1 y.2 h).2 (Nat.lt_irrefl _)
                                have hlep : φ.le (φ.set S.nx (r, q)) := fun b x h => by
                                  unfold Phi.set
                                  split
                                  · rename_i e; rw [e, hnone] at h; cases h
                                  · exact h
                                have hvl := VL.len σ hv1
                                have hBR : BR σ (φ.set S.nx (r, q)) (.cells e0 (n0 + new.length) true false sh cs') q (.cells c' e0 fz) := by
                                  refine ⟨c', fz, rfl, by rw [g2, b2], ?_, fun h => (by cases h), fun j hj => ?_, b6, b7⟩
                                  · rw [← hvl, ← hn00, ← b2]; omega
                                  · rw [hcsget j, g3 j]
                                    simp only [Nat.zero_add, Nat.add_zero, hn00, hvl]
                                    by_cases hj0 : j < n0
                                    · rw [if_neg (by omega), if_neg (by omega)]
                                      obtain ⟨x, v, a1, a2, a3⟩ := b5 j hj0
                                      exact ⟨x, v, a1, a2, V.mono σ hlep _ _ a3⟩
                                    · rw [if_pos (by omega), if_pos (by omega)]
                                      have hx' : new[j - n0]? = some (new[j - n0]'(by omega)) := List.getElem?_eq_getElem _
                                      obtain ⟨v, a1, a2⟩ := VL.at σ hv1 (j - n0) _ hx'
                                      exact ⟨_, v, hx', a1, V.mono σ hlep _ _ a2⟩
                                have hput : ∀ m, h2.get m = if m = S.nx then some (.cells e0 (n0 + new.length) true false sh cs') else if m = b then none else S.h.get m := fun m => by
                                  rw [Tr.get_put _ _ _ _ _ hh2, Tr.get_put _ _ _ _ _ hh1]
                                  by_cases e1 : m = b
                                  · rw [if_pos e1, if_neg (by omega), if_pos e1]
                                  · rw [if_neg e1, if_neg e1]
                                have p := Post.renew σ (S' := ⟨h2, S.nx + 1⟩) hW hb hφ rfl hput rfl (w' := { w with heap := w.heap.setIfInBounds r (.cells c' e0 fz) }) rfl ⟨rfl, rfl, rfl⟩ hBR
                                refine ⟨_, _, _, hr, p, ?_⟩
                                simp only [V]
                                exact ⟨r, q, c, by simp [Phi.set], rfl, hcq, hle⟩
                            · cases h
                          · cases h
                        · cases h
                  · cases h
            · cases h
        · cases h
    · cases h
  · cases h
end
end Go.Proofs.YtedokmdoompidaaGreatDoor.Ev
