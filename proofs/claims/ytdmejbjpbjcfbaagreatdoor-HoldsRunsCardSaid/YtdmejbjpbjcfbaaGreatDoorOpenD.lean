/- A row of texts, a row of deeds, opened. -/
import Derived.Test.YtdmejbjpbjcfbaaGreatDoorLiftH
import Derived.Test.YtdmejbjpbjcfbaaGreatDoorRuns
namespace Go.Proofs.YtdmejbjpbjcfbaaGreatDoor
open Go.ChangeShapes Go.WideShapes Go.ChangeAt Go.RowKit Go.ChangeMaps Go.Joins

theorem slice_len {H : Type} {enc : TypeId × Value → H} {W : World} {sp : Nat → Bool} {held : Bool} {fuel : Nat} {ao : Option Addr} {n cap : Nat} {x : DataW H × List MemPlace} {T E : TypeId} (hu : Tryz.prog.underlying T = some (.slice E)) (hb : 1 ≤ Tryz.prog.bytesOf E) (h : DataW.trod enc Tryz.prog W 0 sp held fuel T [.slice ao n cap] = some x)
    (hw : (x.1.weights Tryz.prog T).all (· ≤ reachBytes) = true) : n ≤ 140737488351232 := by
  rcases Go.Deep.open_slice hu h with ⟨hcs, _⟩ | ⟨a, len, cap', m, k, D, Pl, hcs, _, hl, _, hmm, rfl, _⟩
  · simp only [List.cons.injEq, Value.slice.injEq, and_true] at hcs
    omega
  · simp only [List.cons.injEq, Value.slice.injEq, and_true] at hcs
    obtain ⟨-, rfl, -⟩ := hcs
    have hlm : n ≤ m := by rw [hmm]; split <;> omega
    have h1 := List.all_eq_true.1 hw (m * Tryz.prog.bytesOf E) (by
      simp only [DataW.weights, hu, List.length_map, List.length_range, Nat.add_sub_cancel' hlm]
      exact List.mem_cons_self ..)
    have h2 : m * Tryz.prog.bytesOf E ≤ 140737488351232 := of_decide_eq_true h1
    have h3 : m ≤ m * Tryz.prog.bytesOf E := Nat.le_mul_of_pos_right m hb
    omega
set_option maxRecDepth 10000 in
theorem open_texts {H : Type} {enc : TypeId × Value → H} {W : World} {sp : Nat → Bool} {held : Bool} {fuel : Nat} {cs : List Value} {x : DataW H × List MemPlace} (h : DataW.trod enc Tryz.prog W 0 sp held fuel 74 cs = some x) :
    ∃ (ao : Option Addr) (cap : Nat) (l : List ByteArray), cs = [.slice ao l.length cap] ∧ l.length ≤ cap ∧ cap ≤ maxLen ∧ Rows 1 encStr W.heap.size W ao l ∧ ∀ a ∈ l, a.size ∈ x.1.weights Tryz.prog 74 := by
  refine open_rows encStr (fun a ws => a.size ∈ ws) ⟨#[]⟩ Tryz.underlying74 (E := 9) (by kernel_rfl) (fun q => ⟨_, rfl⟩) (fun _ => rfl) (fun n cs' y hlen h2 => ?_) (fun q ws ws' hw hq => hw _ hq) h
  obtain ⟨key, e0, hy, _⟩ := DataW.trod_string Tryz.underlying9 h2
  refine ⟨key, by rw [e0]; rfl, ?_⟩
  rw [hy, Lib.size_eq]
  simp [DataW.weights]
def DGood (W : World) (p : DeedV × DeedD) (ws : List Nat) : Prop := ws.all (· ≤ reachBytes) = true → p.1.is W (fun _ => False) p.2
theorem all_sub {ws ws' : List Nat} (h : ∀ z ∈ ws, z ∈ ws') (ha : ws'.all (· ≤ reachBytes) = true) : ws.all (· ≤ reachBytes) = true := by
  rw [List.all_eq_true] at ha ⊢
  exact fun z hz => ha z (h z hz)
set_option maxRecDepth 10000 in
theorem open_deeds {H : Type} {enc : TypeId × Value → H} {W : World} {sp : Nat → Bool} {held : Bool} {fuel : Nat} {cs : List Value} {x : DataW H × List MemPlace} (h : DataW.trod enc Tryz.prog W 0 sp held fuel 73 cs = some x) (hall : (x.1.weights Tryz.prog 73).all (· ≤ reachBytes) = true) :
    ∃ (ao : Option Addr) (cap : Nat) (ls : List DeedV) (dl : List DeedD), cs = [.slice ao ls.length cap] ∧ ls.length ≤ cap ∧ cap ≤ maxLen ∧ Rows 5 encDV W.heap.size W ao ls ∧ DeedsAre W (fun _ => False) ls dl := by
  have key : ∃ (ao : Option Addr) (cap : Nat) (l : List (DeedV × DeedD)), cs = [.slice ao l.length cap] ∧ l.length ≤ cap ∧ cap ≤ maxLen ∧ Rows 5 (fun p : DeedV × DeedD => encDV p.1) W.heap.size W ao l ∧ ∀ a ∈ l, DGood W a (x.1.weights Tryz.prog 73) := by
    refine open_rows (fun p : DeedV × DeedD => encDV p.1) (DGood W) (⟨0, none, 0, 0, none, 0, 0, ⟨#[]⟩, ⟨#[]⟩⟩, ⟨[], [], []⟩) Tryz.underlying73 (E := 77) (by kernel_rfl) (fun q => ⟨_, rfl⟩) (fun _ => rfl) (fun n cs' y hlen h2 => ?_) (fun q ws ws' hw hq ha => hq (all_sub hw ha)) h
    have c0 : Tryz.prog.cellsOf 3 = 1 := by kernel_rfl
    have c1 : Tryz.prog.cellsOf 22 = 1 := by kernel_rfl
    have c2 : Tryz.prog.cellsOf 74 = 1 := by kernel_rfl
    have c3 : Tryz.prog.cellsOf 31 = 2 := by kernel_rfl
    have c4 : Tryz.prog.cellsOf 9 = 1 := by kernel_rfl
    obtain ⟨y0, y1, y2, y3, k, hxy, _, g0, g1, g2, g3⟩ := trod_struct4 Tryz.underlying77 h2
    match cs', hlen with
    | [v0, v1, v2, v3, v4], _ =>
      simp [c0, c1, c2, c3] at g0 g1 g2 g3
      obtain ⟨kd, e0, _, _⟩ := DataW.trod_int Tryz.underlying3 g0
      obtain ⟨ho, hc, hs, dl, e1, a1, a2, hr, hd, hf⟩ := open_holds g1
      obtain ⟨ko, kc, ls, e2, b1, b2, hk, hkf⟩ := open_texts g2
      obtain ⟨z0, z1, k2, hz, _, m0, m1⟩ := trod_struct2 Tryz.underlying31 g3
      simp [c4] at m0 m1
      obtain ⟨lo, e3, hz0, _⟩ := DataW.trod_string Tryz.underlying9 m0
      obtain ⟨hi, e4, hz1, _⟩ := DataW.trod_string Tryz.underlying9 m1
      simp only [List.cons.injEq, and_true] at e0 e1 e2 e3 e4
      subst e0 e1 e2 e3 e4
      have hwt : y.1.weights Tryz.prog 77 = DataW.weightsEach Tryz.prog [3, 22, 74, 31] [y0.1, y1.1, y2.1, y3.1] := by
        rw [hxy]; simp only [DataW.weights, Tryz.underlying77]; rfl
      have hup : ∀ (j : Nat) (t : TypeId) (d : DataW H), [3, 22, 74, 31][j]? = some t → [y0.1, y1.1, y2.1, y3.1][j]? = some d → ∀ z ∈ d.weights Tryz.prog t, z ∈ y.1.weights Tryz.prog 77 := fun j t d ht hd z hz => by
        rw [hwt]; exact DataW.weights_mem_each ht hd z hz
      refine ⟨(⟨kd, ho, hs.length, hc, ko, ls.length, kc, lo, hi⟩, ⟨hs, dl, ls⟩), rfl, fun hall => ?_⟩
      have hw1 := all_sub (hup 1 _ _ rfl rfl) hall
      have hw2 := all_sub (hup 2 _ _ rfl rfl) hall
      have hw3 := all_sub (hup 3 _ _ rfl rfl) hall
      have hb : ∀ z ∈ y3.1.weights Tryz.prog 31, z ≤ 140737488351232 := fun z hz => of_decide_eq_true (List.all_eq_true.1 hw3 z hz)
      have hb2 : ∀ z ∈ y2.1.weights Tryz.prog 74, z ≤ 140737488351232 := fun z hz => of_decide_eq_true (List.all_eq_true.1 hw2 z hz)
      have hln := slice_len Tryz.underlying74 (by decide) g2 hw2
      refine ⟨rfl, rfl, hr.nfree, hd, hk.nfree, hb _ ?_, hb _ ?_, by show hs.length ≤ _; unfold maxLen at a2; omega, by show ls.length ≤ _; omega, fun h hh => (hf h hh).small hw1, fun h hh h1 h2 => (hf h hh).ok hw1 h1 h2, fun q hq => hb2 _ (hkf q hq)⟩
      · rw [Lib.size_eq, hz]; simp [DataW.weights, Tryz.underlying31, DataW.weightsEach, hz0]
      · rw [Lib.size_eq, hz]; simp [DataW.weights, Tryz.underlying31, DataW.weightsEach, hz1]
  obtain ⟨ao, cap, l, hcs, hlc, hcm, hr, hg⟩ := key
  refine ⟨ao, cap, l.map (·.1), l.map (·.2), by rw [List.length_map]; exact hcs, by rw [List.length_map]; exact hlc, hcm, ?_, by simp, fun i v hi => ?_⟩
  · intro hne
    obtain ⟨b, off, rfl, hb, hc⟩ := hr (by intro e; rw [e] at hne; exact hne rfl)
    refine ⟨b, off, rfl, hb, fun i x hi j v hj => ?_⟩
    rw [List.getElem?_map] at hi
    cases hli : l[i]? with
    | none => rw [hli] at hi; cases hi
    | some q =>
      rw [hli] at hi
      have := Option.some.inj hi
      subst this
      exact hc i q hli j v hj
  · rw [List.getElem?_map] at hi
    cases hli : l[i]? with
    | none => rw [hli] at hi; cases hi
    | some q =>
      rw [hli] at hi
      have := Option.some.inj hi
      subst this
      exact ⟨q.2, by rw [List.getElem?_map, hli]; rfl, hg q (List.mem_of_getElem? hli) hall⟩
theorem trodAll_five {H : Type} {enc : TypeId × Value → H} {P : Program} {w : World} {base : Nat} {spare : Nat → Bool} {held : Bool} {t0 t1 t2 t3 t4 : TypeId} {args : Array Value} {ds : List (DataW H)} {ps : List MemPlace} (h : DataW.TrodAll enc P w base spare held [t0, t1, t2, t3, t4] args.toList ds ps) :
    ∃ v0 v1 v2 v3 v4 d0 d1 d2 d3 d4 p0 p1 p2 p3 p4, args = #[v0, v1, v2, v3, v4] ∧ ds = [d0, d1, d2, d3, d4] ∧ ps = p0 ++ p1 ++ p2 ++ p3 ++ p4 ∧ DataW.Trod enc P w base spare held t0 v0 d0 p0 ∧ DataW.Trod enc P w base spare held t1 v1 d1 p1 ∧ DataW.Trod enc P w base spare held t2 v2 d2 p2 ∧ DataW.Trod enc P w base spare held t3 v3 d3 p3 ∧ DataW.Trod enc P w base spare held t4 v4 d4 p4 := by
  obtain ⟨v0, vs0, d0, ds0, p0, q0, hargs, rfl, rfl, h0, r0⟩ := trodAll_cons h
  obtain ⟨v1, vs1, d1, ds1, p1, q1, rfl, rfl, rfl, h1, r1⟩ := trodAll_cons r0
  obtain ⟨v2, vs2, d2, ds2, p2, q2, rfl, rfl, rfl, h2, r2⟩ := trodAll_cons r1
  obtain ⟨v3, vs3, d3, ds3, p3, q3, rfl, rfl, rfl, h3, r3⟩ := trodAll_cons r2
  obtain ⟨v4, vs4, d4, ds4, p4, q4, rfl, rfl, rfl, h4, r4⟩ := trodAll_cons r3
  obtain ⟨rfl, rfl, rfl⟩ := trodAll_nil r4
  exact ⟨v0, v1, v2, v3, v4, d0, d1, d2, d3, d4, p0, p1, p2, p3, p4, by cases args; simp_all, rfl, by simp, h0, h1, h2, h3, h4⟩
end Go.Proofs.YtdmejbjpbjcfbaaGreatDoor
