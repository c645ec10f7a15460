/- slices.Delete of one step. -/
import Derived.Test.YtngahblgicjoiaaGreatDoorFit
namespace Go.Proofs.YtngahblgicjoiaaGreatDoor
open Go.RowKit

theorem Blk.setRow {w : World} {g : Nat} {cs : List Value} {t : TypeId} (h : Blk w g cs t) (cs' : List Value) : Blk (w.setRow g cs'.toArray) g cs' t := by
  unfold Blk at h ⊢
  unfold World.setRow
  simp only [Array.getElem?_modify, if_true, h, Option.map_some]
theorem But.setRow {S : Nat → Prop} {w w' : World} {g : Nat} (hb : S g) (h : But S w w') (cs : Array Value) : But S w (w'.setRow g cs) :=
  ⟨h.os, h.tape, h.output, by simp only [World.setRow, Array.size_modify]; exact h.size, fun k hk hS => by
    have : k ≠ g := fun e => hS (e ▸ hb)
    simp only [World.setRow, Array.getElem?_modify]
    rw [if_neg (fun e => this e.symm)]
    exact h.block k hk hS⟩
def zeroStep : Array Value := #[.int .i64 0, .int .i64 0, .slice none 0 0, .slice none 0 0, .int .i64 0, .int .i64 0]
theorem zeroStep_one : ∀ n, ∀ v ∈ (Builtin.zeroCells zeroStep n).toList, v.oneCell' = true := by
  intro n v hv
  simp only [Builtin.zeroCells, Array.toList_map, List.mem_map] at hv
  obtain ⟨i, _, rfl⟩ := hv
  have h : i % zeroStep.size < 6 := Nat.mod_lt _ (by decide)
  have : ∀ k, k < 6 → (zeroStep[k]!).oneCell' = true := by
    intro k hk
    match k, hk with
    | 0, _ => rfl
    | 1, _ => rfl
    | 2, _ => rfl
    | 3, _ => rfl
    | 4, _ => rfl
    | 5, _ => rfl
  exact this _ h
theorem flat_len6 (l : List StepZ) : (l.flatMap encStep).length = l.length * 6 := by
  induction l with
  | nil => rfl
  | cons a l ih => rw [List.flatMap_cons, List.length_append, ih, List.length_cons]; show 6 + _ = _; omega

theorem slice_fromS (g len cap n : Nat) (h : n ≤ len) (hc : len ≤ cap) :
    ∃ A : Addr, (n < len → A = ⟨g, n * 6, none⟩) ∧ ∀ W, (Instr.slice 22 (.slice (some ⟨g, 0, none⟩) len cap) (some (.int .i64 n)) none none).run Tryz.prog W = .ok (.slice (some A) (len - n) (cap - n)) W := by
  by_cases e : cap = n
  · refine ⟨⟨g, 0, none⟩, fun hl => by omega, fun W => ?_⟩
    rw [run_slice_l W _ _ _ _ elemSteps .i64 n (by omega) (by omega), sizeSteps W]
    simp only [Result.andThen_ok, sliced, Int.toNat_natCast]
    rw [if_pos e]
  · refine ⟨⟨g, n * 6, none⟩, fun _ => rfl, fun W => ?_⟩
    rw [run_slice_l W _ _ _ _ elemSteps .i64 n (by omega) (by omega), sizeSteps W]
    simp only [Result.andThen_ok, sliced, Int.toNat_natCast]
    rw [if_neg e, Option.map_some, WideShapes.add_plain, Nat.zero_add]
theorem slice_toS (g len cap n : Nat) (h : n ≤ cap) : ∀ W, (Instr.slice 22 (.slice (some ⟨g, 0, none⟩) len cap) none (some (.int .i64 n)) none).run Tryz.prog W = .ok (.slice (some ⟨g, 0, none⟩) n cap) W := by
  intro W
  rw [run_slice_h W _ _ _ _ elemSteps .i64 n (by omega) (by omega), sizeSteps W]
  simp only [Result.andThen_ok, sliced, Int.toNat_natCast, Nat.sub_zero]
  by_cases e : cap = 0 <;> simp [e, WideShapes.add_plain]
theorem slice_midS (g len cap n k : Nat) (h : n ≤ k) (hk : k ≤ cap) (hn : n < cap) : ∀ W, (Instr.slice 22 (.slice (some ⟨g, 0, none⟩) len cap) (some (.int .i64 n)) (some (.int .i64 k)) none).run Tryz.prog W = .ok (.slice (some ⟨g, n * 6, none⟩) (k - n) (cap - n)) W := by
  intro W
  rw [run_slice_lh W _ _ _ _ elemSteps .i64 .i64 n k (by omega) (by omega) (by omega), sizeSteps W]
  simp only [Result.andThen_ok, sliced, Int.toNat_natCast]
  rw [if_neg (by omega), Option.map_some, WideShapes.add_plain, Nat.zero_add]

theorem wpList_append_run {P : Program} {ops : Array Oper} {rest : List Oper} {o : Oper} {a : Go.Act} {Q : Exit → Go.Act → World → Prop} {w w' : World} (hgd : o.guard = none) (s x : Operand) (t : TypeId)
    (ho : o.op = .call { callee := .builtin .append, args := #[s, x], argTypes := #[t, t] }) (u v r : Value) (hs : a.eval s = u) (hx : a.eval x = v) (hr : ∀ ty, (Builtin.append_ #[t, t] ty #[u, v]).run P w = .ok r w')
    (h : wpList P ops Q rest (a.put o.dst r) w') : wpList P ops Q (o :: rest) a w := by
  refine wpList_plain hgd fun K hK => ?_
  unfold Oper.wp execOp
  simp only [ho, resolve, invoke, builtin, Sem.run_bind, Sem.run_pure, Result.andThen_ok, List.map_toArray, List.map_cons, List.map_nil, hs, hx, hr]
  exact hK _ _ h

set_option maxRecDepth 100000 in
set_option maxHeartbeats 1600000 in
theorem delS_calls (l : List StepZ) (i g c : Nat) (cur : List Value) (w : World) (hl : l.length ≤ 1000000) (hi : i < l.length) (hcap : l.length ≤ c) (hcm : c ≤ maxLen) (hcur : cur.length = c * 6) (htk : cur.take (l.length * 6) = l.flatMap encStep) (hb : Blk w g cur 38) :
    Calls Tryz.prog 140 #[.slice (some ⟨g, 0, none⟩) l.length c, .int .i64 i, .int .i64 ((i : Int) + 1)] w fun e w' =>
      e = .returned (.slice (some ⟨g, 0, none⟩) (l.length - 1) c) ∧ w'.ownsRow 0 38 6 (.slice (some ⟨g, 0, none⟩) (l.length - 1) c) (l.length - 1) ((l.eraseIdx i).flatMap encStep) ∧ But (fun j => j = g) w w' := by
  obtain ⟨i0, hinf, hz0, hz1, hz2⟩ := info_parts infoStep
  obtain ⟨news, hnews⟩ : ∃ news, news = (l.drop (i + 1)).flatMap encStep := ⟨_, rfl⟩
  obtain ⟨m, hm⟩ : ∃ m, m = l.length - (i + 1) := ⟨_, rfl⟩
  have hnl : news.length = m * 6 := by rw [hnews, flat_len6, List.length_drop, hm]
  obtain ⟨A, hA, hs2⟩ := slice_fromS g l.length c (i + 1) (by omega) hcap
  rw [← hm] at hs2
  have hs1 := slice_toS g l.length c i (by omega)
  have hsrc : ∀ (j : Nat) (u : Value), news[j]? = some u → w.drew.cell? (A.add j) = some u := by
    intro j u hu
    have hj : j < m * 6 := by rw [← hnl]; exact (List.getElem?_eq_some_iff.1 hu).1
    rw [hA (by omega)]
    have e : ((⟨g, (i + 1) * 6, none⟩ : Addr).add j) = ⟨g, (i + 1) * 6 + j, none⟩ := WideShapes.add_plain _ _ _
    rw [e, (hb.drew).cell]
    have h1 : (l.flatMap encStep)[(i + 1) * 6 + j]? = some u := by
      rw [← hu, hnews]
      conv => lhs; rw [← List.take_append_drop (i + 1) l, List.flatMap_append, List.getElem?_append_right (by rw [flat_len6, List.length_take]; omega), flat_len6, List.length_take]
      congr 1
      omega
    rw [← htk, List.getElem?_take] at h1
    split at h1
    · exact h1
    · cases h1
  have hone : ∀ u ∈ news, u.oneCell' = true := by
    intro u hu
    rw [hnews, List.mem_flatMap] at hu
    obtain ⟨x, _, hx⟩ := hu
    exact one_step x u hx
  have happ := fun ty => run_append_room (P := Tryz.prog) w.drew 22 ty 38 i0 Tryz.underlying22 hinf g i c cur.toArray hb.drew A m (c - (i + 1)) news (by rw [hz1, hnl]) hsrc hone (by omega) (by rw [hz1, hnl]; simp; omega)
  rw [hz1] at happ
  obtain ⟨q, hq⟩ : ∃ q, i + m = q := ⟨_, rfl⟩
  rw [hq] at happ
  obtain ⟨nc, hnc⟩ : ∃ nc, nc = cur.take (i * 6) ++ news ++ cur.drop (i * 6 + news.length) := ⟨_, rfl⟩
  have hnc' : (cur.toArray.toList.take (i * 6) ++ news ++ cur.toArray.toList.drop (i * 6 + news.length)).toArray = nc.toArray := by rw [hnc]
  rw [hnc'] at happ
  have hB5 : Blk (w.drew.setRow g nc.toArray) g nc 38 := (hb.drew).setRow nc
  have hncl : nc.length = c * 6 := by rw [hnc]; simp only [List.length_append, List.length_take, List.length_drop, hnl, hcur]; omega
  have hq1 : q = l.length - 1 := by omega
  have hs3 := slice_midS g q c q l.length (by omega) hcap (by omega)
  have hlq : l.length - q = 1 := by omega
  rw [hlq] at hs3
  have hclr : ∀ ty, (Builtin.clear_ #[22] ty #[.slice (some ⟨g, q * 6, none⟩) 1 (c - q)]).run Tryz.prog (w.drew.setRow g nc.toArray) = .ok (.tuple #[]) ((w.drew.setRow g nc.toArray).setCells g (q * 6) (Builtin.zeroCells zeroStep 1).toList) := fun ty =>
    run_clear_k _ 22 38 ty (.agg zeroStep) zeroStep Tryz.underlying22 (fun w => by kernel_rfl) rfl zeroStep_one g (q * 6) 1 (c - q) (by omega) (fun j hj => by
      have hj' : j < 1 * 6 := hj
      rw [hB5.cell, List.getElem?_eq_getElem (by omega)]; rfl) (fun j _ => hB5.free _)
  have htk2 : nc.take (q * 6) = (l.eraseIdx i).flatMap encStep := by
    have h1 : (cur.take (i * 6) ++ news).length = q * 6 := by rw [List.length_append, List.length_take, hnl, hcur]; omega
    rw [hnc, ← h1, List.take_left, hnews, List.eraseIdx_eq_take_drop_succ, List.flatMap_append]
    congr 1
    have h2 := flat_take (enc := encStep) (sz := 6) (fun _ => rfl) l i
    rw [← h2, ← htk, List.take_take, Nat.min_eq_left (by omega)]
  have AP := Lib.hid happ; have CL := Lib.hid hncl; have TK := Lib.hid htk2; have B5 := Lib.hid hB5
  have i1 : (0 : Int) ≤ (i : Int) := by omega
  have i2 : (i : Int) + 1 ≤ (l.length : Int) := by omega
  have i3 : (l.length : Int) ≤ (c : Int) := by omega
  have i4 : ((i : Int) == (i : Int) + 1) = false := by simp; omega
  have hs2' : ∀ W, (Instr.slice 22 (.slice (some ⟨g, 0, none⟩) l.length c) (some (.int .i64 ((i : Int) + 1))) none none).run Tryz.prog W = .ok (.slice (some A) m (c - (i + 1))) W := fun W => hs2 W
  have HQ := Lib.hid hq1
  clear happ hs2 hsrc hone hnc hnc' hncl htk2 hB5 hcur htk hA hnews hnl hm hq hq1 hlq hinf hz0 hz1 hz2
  have BB : Hid (But (fun j => j = g) w (w.drew.setRow g nc.toArray)) := Lib.hid (But.setRow (S := fun j => j = g) rfl (But.refl (fun j => j = g) w).drew _)
  clear hb
  go_enter Tryz.func140, Tryz.ntmps140
  go_wp2_with fail
  go_still_tail 6, (by kernel_rfl)
  change wpList _ _ _ _ _ w.drew
  go_wp2_with (at_builtin; refine wpList_append_run rfl _ _ 22 rfl _ _ _ rfl rfl AP.out ?_)
  go_ret
  have hq := HQ.out
  rw [← HQ.out]
  refine ⟨rfl, ?_, ?_⟩
  · exact own_of_blk (B5.out.setCells _ (q * 6)) (by rw [splice_length, CL.out]) (by omega) hcm (by rw [take_splice' _ _ _ (by rw [CL.out, Array.length_toList, zc_size]; show q * 6 + 1 * 6 ≤ c * 6; omega)]; exact TK.out)
  · exact but_setCells (S := fun j => j = g) rfl _ (q * 6) BB.out
end Go.Proofs.YtngahblgicjoiaaGreatDoor
