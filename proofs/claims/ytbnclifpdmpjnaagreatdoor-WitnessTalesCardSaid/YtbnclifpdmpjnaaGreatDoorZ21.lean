/- A range over a function whose rounds lean on what the iterator lays ahead of each call of yield. -/
import Derived.RangeFuncNested
import Derived.RangeFuncBound
import Derived.RangeFuncCalls
import Derived.RangeFuncLeaves
import Derived.Shelf.Abstract
import Derived.Shelf.RegionOpen
import Derived.OwnWalkIn
import Derived.TacticsInMore
import Derived.LoopNIn
import Derived.LoopIn
import Derived.Test.YtbnclifpdmpjnaaGreatDoorZ01
import Derived.Test.YtbnclifpdmpjnaaGreatDoorZ20
namespace Go.Proofs.YtbnclifpdmpjnaaGreatDoor
open Go.RowKit Go.Shelf
section
variable {α : Type} {F : Fence} {n : Nat} {P : Program}
def SeqAt (F : Fence) (n : Nat) (P : Program) (g : Nat) (lb : Array Value) (encs : α → Array Value) (Kp : World → World → Prop) (At : List α → α → World → Prop) (S : List α → Prop) (w : World) : Prop :=
  ∀ (l : Nat) (J Jx : List α → World → Prop) (W : World), Below w.heap.size w W → AbidesFrom W.heap.size J →
    (∀ pre x V, J pre V → At pre x V → YieldAt F (n - 1) P l (encs x) V fun e V' => (e = .returned (.bool true) ∧ J (pre ++ [x]) V' ∧ Kp V V') ∨ (e = .returned (.bool false) ∧ Jx (pre ++ [x]) V')) →
    J [] W → CallsIn F n P g (#[.func (.yield l) #[] #[]] ++ lb) W fun e V => (∃ v, e = .returned v) ∧ ((∃ xs, S xs ∧ J xs V) ∨ ∃ pre, Jx pre V)
structure RecAt (B : Nat) (W : World) (r : Loop) : Prop where
  rc : W.heap[B + 1]? = some (.loop r)
  df : W.heap[B]? = some (.deferred (some []))
theorem RecAt.lt {B : Nat} {W : World} {r : Loop} (h : RecAt B W r) : B + 1 < W.heap.size := (Array.getElem?_eq_some_iff.1 h.rc).1
theorem RecAt.keeps {B : Nat} {W W' : World} {r : Loop} (h : RecAt B W r) (hk : KeepsFrom B W W') : RecAt B W' r := ⟨hk.same _ _ (by omega) h.rc rfl, hk.same _ _ (Nat.le_refl _) h.df rfl⟩
theorem RecAt.put {B : Nat} {W : World} {r : Loop} (h : RecAt B W r) (r' : Loop) : RecAt B (W.putObj (B + 1) (.loop r')) r' := ⟨World.putObj_heap_same h.lt, (World.putObj_heap_other (by omega)).trans h.df⟩
theorem RecAt.grown {B : Nat} {W W' : World} {r : Loop} {row : Option Nat} (h : RecAt B W r) (hg : W.grownBy W' row) (hr : ∀ k, row = some k → ∃ o : Obj, W.heap[k]? = some o ∧ o.isWalk = true) : RecAt B W' r :=
  ⟨(grownBy_keeps hg hr h.rc rfl).trans h.rc, (grownBy_keeps hg hr h.df rfl).trans h.df⟩
theorem wpIn_rangeAt {g : Operand} {ps : Array Tmp} {assign body : Code} {Q : Exit → Go.Act → World → Prop} {a : Go.Act} {w : World}
    (hro : F.round = none) (h1 : 1 ≤ n) {gf : Nat} {lb : Array Value} (hg : a.eval g = .func (.func gf) #[] lb) (hFg : F.fn gf) (eg : ∀ args w, (callFunc gf args).run P w = .ok (.enter gf args) w)
    {encs : α → Array Value} {Kp : World → World → Prop} {At : List α → α → World → Prop} {S : List α → Prop} {w0 : World} (hseq : SeqAt F (n - 1) P gf lb encs Kp At S w0)
    (hKt : ∀ {A B C : World}, Kp A B → Kp B C → Kp A C) (hKb : ∀ (W : World) (l : Nat) (o o' : Obj), w.heap.size ≤ l → W.heap[l]? = some o → o.isCells = false → o.isWalk = false → Kp W (W.putObj l o')) (hb0 : Below w0.heap.size w0 w) (hps : ∀ x, (encs x).size = ps.size)
    (I : List α → World → Prop) (Ix : Code → List α → World → Prop) (hI : OwnFrom w.heap.size I) (hIx : ∀ c, OwnFrom w.heap.size (Ix c)) (h0 : I [] w) (Ax : List α → α → Go.Act → World → Prop) (hAx : ∀ pre x a', OwnFrom w.heap.size (fun (_ : Unit) W => Ax pre x a' W))
    (hassign : ∀ (l : Nat) (pre : List α) (x : α) (W : World) (K : Go.Act → World → Prop), I pre W → At pre x W → (∀ a' W', KeepsFrom w.heap.size W W' → Kp W W' → I pre W' → Ax pre x a' W' → K a' W') →
      assign.wpIn (F.inRound l) (n - 1 - 1) P (Exit.then K (fun _ _ _ => False)) { tmps := (ps.zip (encs x)).foldl (fun t (p, v) => t.setIfInBounds p v) a.tmps, defers := [] } W)
    (hbody : ∀ (l : Nat) (pre : List α) (x : α) (a' : Go.Act) (W : World), I pre W → Ax pre x a' W → body.wpIn (F.inRound l) (n - 1 - 1) P (ownPostG w.heap.size Kp I Ix (pre ++ [x]) W) a' W)
    (hdone : ∀ (D : Nat) (xs : List α) (W : World), w.heap.size ≤ D → S xs → I xs W → W.heap[D]? = some (.deferred (some [])) → Q .normal { a with defers := { target := .collected D, args := #[] } :: a.defers } W)
    (hstop : ∀ (D : Nat) (c : Code) (pre : List α) (W : World), w.heap.size ≤ D → Ix c pre W → W.heap[D]? = some (.deferred (some [])) → c.wpIn F n P Q { a with defers := { target := .collected D, args := #[] } :: a.defers } W) :
    (Code.rangeFunc g ps assign body).wpIn F n P Q a w := by
  refine wpIn_rangeFunc fun fn hfn => ?_
  rw [hro]
  obtain ⟨B, hB⟩ : ∃ B, B = w.heap.size := ⟨_, rfl⟩
  rw [← hB] at hKb hI hIx hAx hassign hbody hdone hstop
  obtain ⟨mk, hmk⟩ : ∃ mk : LoopState → Option Code → Loop, mk = fun s p => { state := s, pending := p, fn, tmps := a.tmps, params := ps, assign, body, defers := B } := ⟨_, rfl⟩
  have hst : ∀ s p, (mk s p).state = s := fun s p => by rw [hmk]
  have hpd : ∀ s p, (mk s p).pending = p := fun s p => by rw [hmk]
  have hup : ∀ s p s' p', { mk s p with state := s', pending := p' } = mk s' p' := fun s p s' p' => by rw [hmk]
  have hus : ∀ s p s', { mk s p with state := s' } = mk s' p := fun s p s' => by rw [hmk]
  obtain ⟨V, hV⟩ : ∃ V, V = (w.alloc (.deferred (some []))).alloc (.loop (mk .ready none)) := ⟨_, rfl⟩
  have e0 := run_enterLoop_outer (P := P) (w := w) fn a.tmps ps assign body
  have hrec : RecAt B V (mk .ready none) := by
    rw [hV, hB]
    refine ⟨?_, (Below.heap_alloc _ _ _ (by simp)).trans (World.alloc_heap_new w _)⟩
    have := World.alloc_heap_new (w.alloc (.deferred (some []))) (.loop (mk .ready none))
    rwa [World.size_alloc] at this
  have hIV : I [] V := by rw [hV]; exact hI.alloc _ (hI.alloc _ h0)
  have hbV : Below w0.heap.size w0 V := by
    rw [hV]; exact hb0.trans ((((Below.refl _ w).alloc (Nat.le_refl _) _).alloc (by simp) _).mono hb0.size)
  refine ⟨B + 1, [{ target := .collected B, args := #[] }], V, { target := .fn (.func gf) lb, args := #[.func (.yield (B + 1)) #[] #[]] }, V, gf, #[.func (.yield (B + 1)) #[] #[]] ++ lb, V, ?_, ?_, ?_, ?_, fun _ => h1, ?_⟩
  · rw [hV, hmk, hB]; exact e0
  · simp only [resolve, hg]; simp [go_sem]
  · intro f' hf'; simp [Target.leads] at hf'; subst hf'; exact hFg
  · simp [invoke, go_sem, eg]
  have hsz : B + 2 = V.heap.size := by rw [hV, hB]; simp
  have cells : ∀ {A : World} {row : Option Nat}, (∀ r, row = some r → V.heap.size ≤ r ∧ ∃ o : Obj, A.heap[r]? = some o ∧ o.isWalk = true) → ∀ r, row = some r → B ≤ r ∧ ∃ o : Obj, A.heap[r]? = some o ∧ o.isCells = false :=
    fun hr r e => by obtain ⟨hle, o, ho, hw⟩ := hr r e; exact ⟨by omega, o, ho, Obj.not_cells_of_walk hw⟩
  refine (hseq (B + 1) (fun pre W => I pre W ∧ RecAt B W (mk .ready none)) (fun pre W => ∃ c, Ix c pre W ∧ RecAt B W (mk .done (some c))) V hbV
    (fun s A C row hs hgr hr => ⟨hI s A C row hs.1 hgr (cells (A := A) hr), hs.2.grown hgr fun r e => (hr r e).2⟩) ?_ ⟨hIV, hrec⟩).mono ?_
  · rintro pre x W ⟨hi, hl⟩ hat
    have hy := run_yield (P := P) (args := encs x) hl.rc (by rw [hmk]; exact hps x)
    have e1 : (mk .ready none).fn = fn ∧ (mk .ready none).params = ps ∧ (mk .ready none).tmps = a.tmps ∧ (mk .ready none).assign = assign ∧ (mk .ready none).body = body := by rw [hmk]; exact ⟨rfl, rfl, rfl, rfl, rfl⟩
    rw [e1.1, e1.2.1, e1.2.2.1, e1.2.2.2.1, e1.2.2.2.2] at hy
    refine ⟨fn, _, assign, body, hy, roundIn_of_wpIn hfn (hassign _ pre x W _ hi hat ?_)⟩
    intro a' W2 k2 p2 i2 ax2
    have l2 := hl.keeps k2
    have l3 := l2.put { mk .ready none with state := .busy }
    have p3 := hKb W2 (B + 1) _ (.loop { mk .ready none with state := .busy }) (by omega) l2.rc rfl rfl
    refine ⟨_, run_beginRound l2.rc (hst _ _), wpIn_mono (hbody _ pre x a' _ (hI.putObj _ i2 (by omega) l2.rc rfl) ((hAx pre x a').putObj (s := ()) _ ax2 (by omega) l2.rc rfl)) ?_⟩
    have fin : ∀ (j : Option Code) (W3 : World), KeepsFrom B (W2.putObj (B + 1) (.loop { mk .ready none with state := .busy })) W3 →
        (Instr.endRound (B + 1) j).run P W3 = .ok (.bool j.isNone) (W3.putObj (B + 1) (.loop (mk (if j.isNone then .ready else .done) j))) ∧ RecAt B W3 { mk .ready none with state := .busy } ∧ RecAt B (W3.putObj (B + 1) (.loop (mk (if j.isNone then .ready else .done) j))) (mk (if j.isNone then .ready else .done) j) := fun j W3 k3 => by
      have l4 := l3.keeps k3
      have e := run_endRound (P := P) j l4.rc
      rw [hus, hup] at e
      exact ⟨e, l4, l4.put _⟩
    intro e a3 W3 hp
    cases e with
    | normal =>
      obtain ⟨k3, p4, i3⟩ := hp
      obtain ⟨hr, l4, l5⟩ := fin none W3 k3
      exact ⟨_, _, hr, .inl ⟨rfl, ⟨hI.putObj _ i3 (by omega) l4.rc rfl, l5⟩, hKt p2 (hKt (hKt p3 p4) (hKb _ _ _ _ (by omega) l4.rc rfl rfl))⟩⟩
    | ret =>
      obtain ⟨hr, l4, l5⟩ := fin (some .ret) W3 hp.1
      exact ⟨_, _, hr, .inr ⟨rfl, .ret, (hIx _).putObj _ hp.2 (by omega) l4.rc rfl, l5⟩⟩
    | exit id =>
      obtain ⟨hr, l4, l5⟩ := fin (some (.exit id)) W3 hp.1
      exact ⟨_, _, hr, .inr ⟨rfl, .exit id, (hIx _).putObj _ hp.2 (by omega) l4.rc rfl, l5⟩⟩
    | goto t =>
      obtain ⟨hr, l4, l5⟩ := fin (some (.goto t)) W3 hp.1
      exact ⟨_, _, hr, .inr ⟨rfl, .goto t, (hIx _).putObj _ hp.2 (by omega) l4.rc rfl, l5⟩⟩
    | panic ch => exact hp.elim
    | outgrown => exact hp.elim
  · rintro e W2 ⟨⟨v, rfl⟩, ⟨xs, hS, hi, hl⟩ | ⟨pre, c, hi, hl⟩⟩
    · have e := run_endLoop (P := P) hl.rc (by rw [hst]; simp)
      rw [hpd] at e
      exact ⟨none, _, e, hdone _ xs _ (Nat.le_refl _) hS (hI.putObj _ hi (by omega) hl.rc rfl) ((World.putObj_heap_other (by omega)).trans hl.df)⟩
    · have e := run_endLoop (P := P) hl.rc (by rw [hst]; simp)
      rw [hpd] at e
      exact ⟨some c, _, e, hstop _ c pre _ (Nat.le_refl _) ((hIx c).putObj _ hi (by omega) hl.rc rfl) ((World.putObj_heap_other (by omega)).trans hl.df)⟩
end
end Go.Proofs.YtbnclifpdmpjnaaGreatDoor
/- slices.Delete of one step. -/
namespace Go.Proofs.YtbnclifpdmpjnaaGreatDoor
open Go.RowKit
theorem Blk.setRow {w : World} {g : Nat} {cs : List Value} {t : TypeId} (h : Blk w g cs t) (cs' : List Value) : Blk (w.setRow g cs'.toArray) g cs' t := by
  unfold Blk at h ⊢
  unfold World.setRow
  simp only [Array.getElem?_modify, if_true, h, Option.map_some]
theorem But.setRow {S : Nat → Prop} {w w' : World} {g : Nat} (hb : S g) (h : But S w w') (cs : Array Value) : But S w (w'.setRow g cs) :=
  ⟨h.os, h.tape, h.output, by simp only [World.setRow, Array.size_modify]; exact h.size, fun k hk hS => by
    have : k ≠ g := fun e => hS (e ▸ hb)
    simp only [World.setRow, Array.getElem?_modify]
    rw [if_neg (fun e => this e.symm)]
    exact h.block k hk hS⟩
def zeroStep : Array Value := #[.int .i64 0, .int .i64 0, .slice none 0 0, .slice none 0 0, .int .i64 0, .int .i64 0]
theorem zeroStep_one : ∀ n, ∀ v ∈ (Builtin.zeroCells zeroStep n).toList, v.oneCell' = true := by
  intro n v hv
  simp only [Builtin.zeroCells, Array.toList_map, List.mem_map] at hv
  obtain ⟨i, _, rfl⟩ := hv
  have h : i % zeroStep.size < 6 := Nat.mod_lt _ (by decide)
  have : ∀ k, k < 6 → (zeroStep[k]!).oneCell' = true := by
    intro k hk
    match k, hk with
    | 0, _ => rfl
    | 1, _ => rfl
    | 2, _ => rfl
    | 3, _ => rfl
    | 4, _ => rfl
    | 5, _ => rfl
  exact this _ h
theorem flat_len6 (l : List StepZ) : (l.flatMap encStep).length = l.length * 6 := by
  induction l with
  | nil => rfl
  | cons a l ih => rw [List.flatMap_cons, List.length_append, ih, List.length_cons]; show 6 + _ = _; omega
theorem slice_fromS (g len cap n : Nat) (h : n ≤ len) (hc : len ≤ cap) :
    ∃ A : Addr, (n < len → A = ⟨g, n * 6, none⟩) ∧ ∀ W, (Instr.slice 41 (.slice (some ⟨g, 0, none⟩) len cap) (some (.int .i64 n)) none none).run Tryz.prog W = .ok (.slice (some A) (len - n) (cap - n)) W := by
  by_cases e : cap = n
  · refine ⟨⟨g, 0, none⟩, fun hl => by omega, fun W => ?_⟩
    rw [run_slice_l W _ _ _ _ elemSteps .i64 n (by omega) (by omega), sizeSteps W]
    simp only [Result.andThen_ok, sliced, Int.toNat_natCast]
    rw [if_pos e]
  · refine ⟨⟨g, n * 6, none⟩, fun _ => rfl, fun W => ?_⟩
    rw [run_slice_l W _ _ _ _ elemSteps .i64 n (by omega) (by omega), sizeSteps W]
    simp only [Result.andThen_ok, sliced, Int.toNat_natCast]
    rw [if_neg e, Option.map_some, WideShapes.add_plain, Nat.zero_add]
theorem slice_toS (g len cap n : Nat) (h : n ≤ cap) : ∀ W, (Instr.slice 41 (.slice (some ⟨g, 0, none⟩) len cap) none (some (.int .i64 n)) none).run Tryz.prog W = .ok (.slice (some ⟨g, 0, none⟩) n cap) W := by
  intro W
  rw [run_slice_h W _ _ _ _ elemSteps .i64 n (by omega) (by omega), sizeSteps W]
  simp only [Result.andThen_ok, sliced, Int.toNat_natCast, Nat.sub_zero]
  by_cases e : cap = 0 <;> simp [e, WideShapes.add_plain]
theorem slice_midS (g len cap n k : Nat) (h : n ≤ k) (hk : k ≤ cap) (hn : n < cap) : ∀ W, (Instr.slice 41 (.slice (some ⟨g, 0, none⟩) len cap) (some (.int .i64 n)) (some (.int .i64 k)) none).run Tryz.prog W = .ok (.slice (some ⟨g, n * 6, none⟩) (k - n) (cap - n)) W := by
  intro W
  rw [run_slice_lh W _ _ _ _ elemSteps .i64 .i64 n k (by omega) (by omega) (by omega), sizeSteps W]
  simp only [Result.andThen_ok, sliced, Int.toNat_natCast]
  rw [if_neg (by omega), Option.map_some, WideShapes.add_plain, Nat.zero_add]
theorem wpList_append_run {P : Program} {ops : Array Oper} {rest : List Oper} {o : Oper} {a : Go.Act} {Q : Exit → Go.Act → World → Prop} {w w' : World} (hgd : o.guard = none) (s x : Operand) (t : TypeId)
    (ho : o.op = .call { callee := .builtin .append, args := #[s, x], argTypes := #[t, t] }) (u v r : Value) (hs : a.eval s = u) (hx : a.eval x = v) (hr : ∀ ty, (Builtin.append_ #[t, t] ty #[u, v]).run P w = .ok r w')
    (h : wpList P ops Q rest (a.put o.dst r) w') : wpList P ops Q (o :: rest) a w := by
  refine wpList_plain hgd fun K hK => ?_
  unfold Oper.wp execOp
  simp only [ho, resolve, invoke, builtin, Sem.run_bind, Sem.run_pure, Result.andThen_ok, List.map_toArray, List.map_cons, List.map_nil, hs, hx, hr]
  exact hK _ _ h
set_option maxRecDepth 100000 in
set_option maxHeartbeats 1600000 in
theorem delS_calls (l : List StepZ) (i g c : Nat) (cur : List Value) (w : World) (hl : l.length ≤ 1000000) (hi : i < l.length) (hcap : l.length ≤ c) (hcm : c ≤ maxLen) (hcur : cur.length = c * 6) (htk : cur.take (l.length * 6) = l.flatMap encStep) (hb : Blk w g cur 51) :
    Calls Tryz.prog 117 #[.slice (some ⟨g, 0, none⟩) l.length c, .int .i64 i, .int .i64 ((i : Int) + 1)] w fun e w' =>
      e = .returned (.slice (some ⟨g, 0, none⟩) (l.length - 1) c) ∧ w'.ownsRow 0 51 6 (.slice (some ⟨g, 0, none⟩) (l.length - 1) c) (l.length - 1) ((l.eraseIdx i).flatMap encStep) ∧ But (fun j => j = g) w w' := by
  obtain ⟨i0, hinf, hz0, hz1, hz2⟩ := info_parts infoStep
  obtain ⟨news, hnews⟩ : ∃ news, news = (l.drop (i + 1)).flatMap encStep := ⟨_, rfl⟩
  obtain ⟨m, hm⟩ : ∃ m, m = l.length - (i + 1) := ⟨_, rfl⟩
  have hnl : news.length = m * 6 := by rw [hnews, flat_len6, List.length_drop, hm]
  obtain ⟨A, hA, hs2⟩ := slice_fromS g l.length c (i + 1) (by omega) hcap
  rw [← hm] at hs2
  have hs1 := slice_toS g l.length c i (by omega)
  have hsrc : ∀ (j : Nat) (u : Value), news[j]? = some u → w.drew.cell? (A.add j) = some u := by
    intro j u hu
    have hj : j < m * 6 := by rw [← hnl]; exact (List.getElem?_eq_some_iff.1 hu).1
    rw [hA (by omega)]
    have e : ((⟨g, (i + 1) * 6, none⟩ : Addr).add j) = ⟨g, (i + 1) * 6 + j, none⟩ := WideShapes.add_plain _ _ _
    rw [e, (hb.drew).cell]
    have h1 : (l.flatMap encStep)[(i + 1) * 6 + j]? = some u := by
      rw [← hu, hnews]
      conv => lhs; rw [← List.take_append_drop (i + 1) l, List.flatMap_append, List.getElem?_append_right (by rw [flat_len6, List.length_take]; omega), flat_len6, List.length_take]
      congr 1
      omega
    rw [← htk, List.getElem?_take] at h1
    split at h1
    · exact h1
    · cases h1
  have hone : ∀ u ∈ news, u.oneCell' = true := by
    intro u hu
    rw [hnews, List.mem_flatMap] at hu
    obtain ⟨x, _, hx⟩ := hu
    exact one_step x u hx
  have happ := fun ty => run_append_room (P := Tryz.prog) w.drew 41 ty 51 i0 Tryz.underlying41 hinf g i c cur.toArray hb.drew A m (c - (i + 1)) news (by rw [hz1, hnl]) hsrc hone (by omega) (by rw [hz1, hnl]; simp; omega)
  rw [hz1] at happ
  obtain ⟨q, hq⟩ : ∃ q, i + m = q := ⟨_, rfl⟩
  rw [hq] at happ
  obtain ⟨nc, hnc⟩ : ∃ nc, nc = cur.take (i * 6) ++ news ++ cur.drop (i * 6 + news.length) := ⟨_, rfl⟩
  have hnc' : (cur.toArray.toList.take (i * 6) ++ news ++ cur.toArray.toList.drop (i * 6 + news.length)).toArray = nc.toArray := by rw [hnc]
  rw [hnc'] at happ
  have hB5 : Blk (w.drew.setRow g nc.toArray) g nc 51 := (hb.drew).setRow nc
  have hncl : nc.length = c * 6 := by rw [hnc]; simp only [List.length_append, List.length_take, List.length_drop, hnl, hcur]; omega
  have hq1 : q = l.length - 1 := by omega
  have hs3 := slice_midS g q c q l.length (by omega) hcap (by omega)
  have hlq : l.length - q = 1 := by omega
  rw [hlq] at hs3
  have hclr : ∀ ty, (Builtin.clear_ #[41] ty #[.slice (some ⟨g, q * 6, none⟩) 1 (c - q)]).run Tryz.prog (w.drew.setRow g nc.toArray) = .ok (.tuple #[]) ((w.drew.setRow g nc.toArray).setCells g (q * 6) (Builtin.zeroCells zeroStep 1).toList) := fun ty =>
    run_clear_k _ 41 51 ty (.agg zeroStep) zeroStep Tryz.underlying41 (fun w => by kernel_rfl) rfl zeroStep_one g (q * 6) 1 (c - q) (by omega) (fun j hj => by
      have hj' : j < 1 * 6 := hj
      rw [hB5.cell, List.getElem?_eq_getElem (by omega)]; rfl) (fun j _ => hB5.free _)
  have htk2 : nc.take (q * 6) = (l.eraseIdx i).flatMap encStep := by
    have h1 : (cur.take (i * 6) ++ news).length = q * 6 := by rw [List.length_append, List.length_take, hnl, hcur]; omega
    rw [hnc, ← h1, List.take_left, hnews, List.eraseIdx_eq_take_drop_succ, List.flatMap_append]
    congr 1
    have h2 := flat_take (enc := encStep) (sz := 6) (fun _ => rfl) l i
    rw [← h2, ← htk, List.take_take, Nat.min_eq_left (by omega)]
  have AP := Lib.hid happ; have CL := Lib.hid hncl; have TK := Lib.hid htk2; have B5 := Lib.hid hB5
  have i1 : (0 : Int) ≤ (i : Int) := by omega
  have i2 : (i : Int) + 1 ≤ (l.length : Int) := by omega
  have i3 : (l.length : Int) ≤ (c : Int) := by omega
  have i4 : ((i : Int) == (i : Int) + 1) = false := by simp; omega
  have hs2' : ∀ W, (Instr.slice 41 (.slice (some ⟨g, 0, none⟩) l.length c) (some (.int .i64 ((i : Int) + 1))) none none).run Tryz.prog W = .ok (.slice (some A) m (c - (i + 1))) W := fun W => hs2 W
  have HQ := Lib.hid hq1
  clear happ hs2 hsrc hone hnc hnc' hncl htk2 hB5 hcur htk hA hnews hnl hm hq hq1 hlq hinf hz0 hz1 hz2
  have BB : Hid (But (fun j => j = g) w (w.drew.setRow g nc.toArray)) := Lib.hid (But.setRow (S := fun j => j = g) rfl (But.refl (fun j => j = g) w).drew _)
  clear hb
  go_enter Tryz.func117, Tryz.ntmps117
  go_wp2_with fail
  go_still_tail 6, (by kernel_rfl)
  change wpList _ _ _ _ _ w.drew
  go_wp2_with (at_builtin; refine wpList_append_run rfl _ _ 41 rfl _ _ _ rfl rfl AP.out ?_)
  go_ret
  have hq := HQ.out
  rw [← HQ.out]
  refine ⟨rfl, ?_, ?_⟩
  · exact own_of_blk (B5.out.setCells _ (q * 6)) (by rw [splice_length, CL.out]) (by omega) hcm (by rw [take_splice' _ _ _ (by rw [CL.out, Array.length_toList, zc_size]; show q * 6 + 1 * 6 ≤ c * 6; omega)]; exact TK.out)
  · exact but_setCells (S := fun j => j = g) rfl _ (q * 6) BB.out
end Go.Proofs.YtbnclifpdmpjnaaGreatDoor
/- The iterator over steps, each with the others. -/
namespace Go.Proofs.YtbnclifpdmpjnaaGreatDoor
open Go.RowKit Go.Shelf
attribute [local go_sem] Oper.semAt_some
structure PickX where
  step : StepZ
  ro : Option Addr
  rn : Nat
  rc : Nat
def encPick (x : PickX) : Array Value := #[.agg (encStep x.step).toArray, .slice x.ro x.rn x.rc]
def PickAt (l : List StepZ) (pre : List PickX) (x : PickX) (W : World) : Prop := l[pre.length]? = some x.step ∧ x.rn = l.length - 1 ∧ x.rn ≤ x.rc ∧ Rows 6 encStep W.heap.size W x.ro (l.eraseIdx pre.length)
theorem picks_calls (l : List StepZ) (ao : Option Addr) (cap : Nat) (w : World) : Calls Tryz.prog 79 #[.slice ao l.length cap] w fun e w' =>
    e = .returned (.func (.func 116) #[] #[.pointer (some ⟨w.heap.size, 0, none⟩)]) ∧ w' = w.alloc (.cells #[.slice ao l.length cap] 41) := by
  go_enter Tryz.func79, Tryz.ntmps79
  go_wp2
  go_ret
  exact ⟨rfl, rfl⟩
def YAlt (J Jx : List PickX → World → Prop) (n₀ : Nat) (pre : List PickX) (x : PickX) (V : World) (c : Bool) (V' : World) : Prop := (c = true ∧ J (pre ++ [x]) V' ∧ Below n₀ V V') ∨ (c = false ∧ Jx (pre ++ [x]) V')
def YPost (J Jx : List PickX → World → Prop) (n₀ : Nat) (pre : List PickX) (x : PickX) (V : World) (e : Ending) (V' : World) : Prop := ∃ c, e = .returned (.bool c) ∧ YAlt J Jx n₀ pre x V c V'
theorem ypost_of {J Jx : List PickX → World → Prop} {n₀ : Nat} {pre : List PickX} {x : PickX} {V V' : World} {e : Ending} (h : (e = .returned (.bool true) ∧ J (pre ++ [x]) V' ∧ Below n₀ V V') ∨ (e = .returned (.bool false) ∧ Jx (pre ++ [x]) V')) : YPost J Jx n₀ pre x V e V' := by
  rcases h with ⟨rfl, h⟩ | ⟨rfl, h⟩
  · exact ⟨true, rfl, .inl ⟨rfl, h⟩⟩
  · exact ⟨false, rfl, .inr ⟨rfl, h⟩⟩
theorem rows_of_ownE {w : World} {g c i : Nat} {l : List StepZ} (h : w.ownsRow 0 51 6 (.slice (some ⟨g, 0, none⟩) (l.length - 1) c) (l.length - 1) ((l.eraseIdx i).flatMap encStep)) (hi : i < l.length) : Rows 6 encStep w.heap.size w (some ⟨g, 0, none⟩) (l.eraseIdx i) := by
  have e : (l.eraseIdx i).length = l.length - 1 := by rw [List.length_eraseIdx, if_pos hi]
  rw [← e] at h
  exact rows_of_own (fun _ => rfl) h
theorem Ext.grownN {w w' : World} (h : Ext w w') : w.grownBy w' none := ⟨h.os, h.tape, h.output, h.size, fun k hk _ => h.block k hk⟩
structure OwnS (w : World) (g c : Nat) (cur : List Value) (l : List StepZ) : Prop where
  fit : l.length ≤ c
  max : c ≤ maxLen
  len : cur.length = c * 6
  tk : cur.take (l.length * 6) = l.flatMap encStep
  blk : Blk w g cur 51
theorem ownS_of {w : World} {v : Value} {l : List StepZ} (h : w.ownsRow 0 51 6 v l.length (l.flatMap encStep)) {i : Nat} (hi : i < l.length) : ∃ g c cur, v = .slice (some ⟨g, 0, none⟩) l.length c ∧ OwnS w g c cur l := by
  rcases h.2 with ⟨_, h0⟩ | ⟨g, c, cur, hv, _, hg, hn, hm, hcs, htk⟩
  · omega
  · exact ⟨g, c, cur.toList, hv, hn, hm, by simpa using hcs, htk, by unfold Blk; exact hg⟩
theorem OwnS.del {w : World} {g c : Nat} {cur : List Value} {l : List StepZ} (h : OwnS w g c cur l) (hl : l.length ≤ 1000000) {i : Nat} (hi : i < l.length) :
    Calls Tryz.prog 117 #[.slice (some ⟨g, 0, none⟩) l.length c, .int .i64 i, .int .i64 ((i : Int) + 1)] w fun e w' =>
      e = .returned (.slice (some ⟨g, 0, none⟩) (l.length - 1) c) ∧ w'.ownsRow 0 51 6 (.slice (some ⟨g, 0, none⟩) (l.length - 1) c) (l.length - 1) ((l.eraseIdx i).flatMap encStep) ∧ But (fun j => j = g) w w' :=
  delS_calls l i g c cur w hl hi h.fit h.max h.len h.tk h.blk
set_option maxRecDepth 100000 in
set_option maxHeartbeats 1600000 in
theorem picks1_seq (n : Nat) (l : List StepZ) (ao : Option Addr) (cap Bn : Nat) (w : World) (hl : l.length ≤ 1000) (hc : w.cell? ⟨Bn, 0, none⟩ = some (.slice ao l.length cap)) (hr : Rows 6 encStep w.heap.size w ao l) :
    SeqAt Fence.wide n Tryz.prog 116 #[.pointer (some ⟨Bn, 0, none⟩)] encPick (Below w.heap.size) (PickAt l) (fun xs => xs.length = l.length) w := by
  intro lp J Jx W hW hJ hY h0
  have HW := Lib.hid hW; have HJ := Lib.hid hJ; have HY := Lib.hid hY; have HR := Lib.hid hr; have HC := Lib.hid hc; have H0 := Lib.hid h0
  have hbn : Bn < w.heap.size := by
    rcases Nat.lt_or_ge Bn w.heap.size with h | h
    · exact h
    · simp [World.cell?, Array.getElem?_eq_none h] at hc
  have c0 := (hW.cell (p := ⟨Bn, 0, none⟩) hbn).trans hc
  clear hW hJ hY hr hc h0
  refine callsIn_of_wp Tryz.func116 rfl trivial ?_ rfl
  simp only [Tryz.ntmps116, List.size_toArray, List.length_cons, List.length_nil, Nat.reduceAdd, Nat.reduceSub, Array.replicate_succ, Array.replicate_zero, List.push_toArray, List.append_toArray, List.nil_append, List.cons_append]
  gi_wp2
  clear c0
  gi_loopw [7] (fun i wr => ∃ pre : List PickX, pre.length ≤ l.length ∧ i = .int .i64 pre.length ∧ J pre wr ∧ Below w.heap.size w wr) (fun i _ => l.length - (intOf i).toNat)
  case atStart => exact ⟨[], by simp, rfl, H0.out, HW.out⟩
  case round =>
    obtain ⟨pre, hk, rfl, hj, hx⟩ := hrel
    have K1 := Lib.hid hj; have K2 := Lib.hid hx
    clear hj hx
    by_cases hlt : pre.length < l.length
    · obtain ⟨z, hz⟩ : ∃ z, l[pre.length]? = some z := ⟨_, List.getElem?_eq_getElem hlt⟩
      obtain ⟨b, off, rfl, hb', hcell⟩ := HR.out (by intro e; rw [e] at hlt; simp at hlt)
      have hcx := hcell pre.length z hz
      have hmove : ∀ j, wr.cell? ⟨b, j, none⟩ = w.cell? ⟨b, j, none⟩ := fun j => K2.out.cell (p := ⟨b, j, none⟩) hb'
      have HZ := Lib.hid hz
      have XB := Lib.hid (show Ext wr (wr.alloc (.cells (encStep z).toArray 51)) from (Below.refl _ wr).alloc (Nat.le_refl _) _)
      obtain ⟨⟨cl, nm, acts, reads, ca, an⟩, ao2, ac2, ro2, rc2⟩ := z
      unfold encStep at hcx XB
      simp only at hcx XB
      have d0 := (hmove _).trans (hcx 0 _ rfl); have d1 := (hmove _).trans (hcx 1 _ rfl); have d2 := (hmove _).trans (hcx 2 _ rfl); have d3 := (hmove _).trans (hcx 3 _ rfl); have d4 := (hmove _).trans (hcx 4 _ rfl); have d5 := (hmove _).trans (hcx 5 _ rfl)
      simp only [Nat.add_zero] at d0
      have c0 := (K2.out.cell (p := ⟨Bn, 0, none⟩) hbn).trans HC.out
      have i0 : (0 : Int) ≤ (pre.length : Int) := by omega
      have i1 : (pre.length : Int) < (l.length : Int) := by omega
      clear hz hcell hcx hmove
      have mixed : Tryz.prog.follows .mixedOrders = true := by kernel_rfl
      obtain ⟨w0, hw0⟩ : ∃ w0, w0 = wr.alloc (.cells #[.int .i64 cl, .int .i64 nm, .slice ao2 acts.length ac2, .slice ro2 reads.length rc2, .int .i64 ca, .int .i64 an] 51) := ⟨_, rfl⟩
      have B0 : Hid (Blk w0 wr.heap.size [.int .i64 cl, .int .i64 nm, .slice ao2 acts.length ac2, .slice ro2 reads.length rc2, .int .i64 ca, .int .i64 an] 51) := Lib.hid (by rw [hw0]; exact Blk.new wr _ _)
      have W0 := Lib.hid hw0
      rw [← hw0] at XB
      clear hw0
      have K3 := Lib.hid (Below.trans K2.out (Below.mono XB.out K2.out.size))
      have X0 : Hid (Ext w0 w0.drew) := Lib.hid (Below.refl _ w0).drew
      have CLC := Lib.hid (clone_steps_calls l (some ⟨b, off, none⟩) cap w0.drew (by omega) ((HR.out.ext (Below.trans K3.out (Below.mono X0.out K3.out.size))).mono (Nat.le_trans K3.out.size X0.out.size)))
      have a0 := B0.out.drew.cell 0; have a1 := B0.out.drew.cell 1; have a2 := B0.out.drew.cell 2; have a3 := B0.out.drew.cell 3; have a4 := B0.out.drew.cell 4; have a5 := B0.out.drew.cell 5
      simp only [List.getElem?_cons_zero, List.getElem?_cons_succ] at a0 a1 a2 a3 a4 a5
      have e0 : w0.drew.cell? ⟨Bn, 0, none⟩ = some (.slice (some ⟨b, off, none⟩) l.length cap) := (Below.trans K3.out (Below.mono X0.out K3.out.size)).cell (p := ⟨Bn, 0, none⟩) hbn |>.trans HC.out
      gi_wp2
      rw [← W0.out]
      clear d0 d1 d2 d3 d4 d5 c0
      have hsum := IntWalk.i64_in ((pre.length : Int) + 1) (by omega)
      gi_region_with_o (first
        | (refine ⟨trivial, fun h => absurd h (by decide), ?_⟩; refine (callsIn_wide.2 CLC.out).mono ?_; rintro e w2 ⟨cv, rfl, hcv, hcn, hx2⟩; obtain ⟨g, c, cur, rfl, hgc⟩ := ownS_of hcv hlt; have OS := Lib.hid hgc; have X2 := Lib.hid (Ext.trans X0.out hx2); have GN := Lib.hid (hcn g rfl); have a0 := (B0.out.ext' X2.out).cell 0; have a1 := (B0.out.ext' X2.out).cell 1; have a2 := (B0.out.ext' X2.out).cell 2; have a3 := (B0.out.ext' X2.out).cell 3; have a4 := (B0.out.ext' X2.out).cell 4; have a5 := (B0.out.ext' X2.out).cell 5; simp only [List.getElem?_cons_zero, List.getElem?_cons_succ] at a0 a1 a2 a3 a4 a5; clear hcv hcn hx2 hgc)
        | (refine ⟨trivial, fun h => absurd h (by decide), ?_⟩; refine (callsIn_wide.2 (OS.out.del (by omega) hlt)).mono ?_; rintro e w3 ⟨rfl, hov, hbt⟩; have X3 := Lib.hid (show Ext w0 w3 from Below.trans X2.out (hbt.below X2.out.size (fun j hj => by rw [show j = g from hj]; exact GN.out))); have hj3 := HJ.out pre wr w3 none K1.out (Ext.trans XB.out X3.out).grownN (fun r e => by cases e); have hat : PickAt l pre ⟨⟨⟨cl, nm, acts, reads, ca, an⟩, ao2, ac2, ro2, rc2⟩, some ⟨g, 0, none⟩, l.length - 1, c⟩ w3 := ⟨HZ.out, rfl, Nat.le_trans (Nat.sub_le _ _) OS.out.fit, rows_of_ownE hov hlt⟩; obtain ⟨fn, tmps, assign, body, hy, hR⟩ := HY.out pre _ w3 hj3 hat; have RR := Lib.hid (hR.mono (R' := YPost J Jx w.heap.size pre ⟨⟨⟨cl, nm, acts, reads, ca, an⟩, ao2, ac2, ro2, rc2⟩, some ⟨g, 0, none⟩, l.length - 1, c⟩ w3) (fun e V' h => ypost_of h)); unfold encPick encStep at hy; simp only at hy; have a0 := (B0.out.ext' X3.out).cell 0; have a1 := (B0.out.ext' X3.out).cell 1; have a2 := (B0.out.ext' X3.out).cell 2; have a3 := (B0.out.ext' X3.out).cell 3; have a4 := (B0.out.ext' X3.out).cell 4; have a5 := (B0.out.ext' X3.out).cell 5; simp only [List.getElem?_cons_zero, List.getElem?_cons_succ] at a0 a1 a2 a3 a4 a5; clear hov hbt hj3 hat hR)
        | (refine ⟨fun h => absurd h (by decide), ?_⟩; refine RR.out.mono ?_; rintro e w4 ⟨cc, rfl, hcc⟩; have YA := Lib.hid hcc; clear hcc))
      all_goals
        clear a0 a1 a2 a3 a4 a5 e0 hsum hy
        cases cc
        · gi_wp2
          refine bodyPost_ret (results_none rfl _ _ _) rfl ?_
          rcases YA.out with ⟨e, _⟩ | ⟨_, h⟩
          · cases e
          · exact ⟨⟨_, rfl⟩, .inr ⟨_, h⟩⟩
        · gi_wp2
          go_roundw
          case rel =>
            rcases YA.out with ⟨_, h, hb4⟩ | ⟨e, _⟩
            · exact ⟨_, by simp; omega, by simp, h, Below.trans K3.out (Below.trans (Below.mono X3.out K3.out.size) hb4)⟩
            · cases e
          case measure => simp [intOf]; omega
    · obtain he : pre.length = l.length := by omega
      have HE := Lib.hid he; clear he
      gi_wp2
      go_end0
      exact ⟨⟨_, rfl⟩, .inl ⟨pre, HE.out, K1.out⟩⟩
end Go.Proofs.YtbnclifpdmpjnaaGreatDoor
/- An order of steps behind a history: the program's search. -/
namespace Go.Proofs.YtbnclifpdmpjnaaGreatDoor
open Go.RowKit Go.Shelf
attribute [local go_sem] Oper.semAt_some
def lateZ (a b : StepZ) : Bool := lateD a.d b.d
def nextZ (h : Hist) (z : StepZ) : Option Hist := nextD h z.d
theorem eraseIdx_map {α β : Type} (f : α → β) : ∀ (l : List α) (i : Nat), (l.map f).eraseIdx i = (l.eraseIdx i).map f
  | [], _ => rfl
  | a :: l, 0 => rfl
  | a :: l, i + 1 => by simp only [List.map_cons, List.eraseIdx_cons_succ, eraseIdx_map f l i]
theorem findSome_congr2 {β γ : Type} (u : β → γ) : ∀ (l : List Nat) (f : Nat → Option β) (g : Nat → Option γ), (∀ i ∈ l, (f i).map u = g i) → (l.findSome? f).map u = l.findSome? g
  | [], _, _, _ => rfl
  | x :: l, f, g, h => by
    have h1 := h x (by simp)
    have ih := findSome_congr2 u l f g (fun i hi => h i (by simp [hi]))
    simp only [List.findSome?_cons, ← h1]
    cases f x with
    | some y => rfl
    | none => exact ih
theorem ordP_map : ∀ (n : Nat) (h : Hist) (l : List StepZ), (ordP nextZ lateZ n h l).map (List.map (·.d)) = ordP nextD lateD n h (l.map (·.d))
  | 0, h, l => by rw [ordP, ordP]; rfl
  | n + 1, h, l => by
    rw [ordP, ordP, List.length_map]
    refine findSome_congr2 _ _ _ _ fun i hi => ?_
    rw [List.getElem?_map, eraseIdx_map]
    cases hx : l[i]? with
    | none => rfl
    | some x =>
      simp only [Option.map_some]
      have e : (((l.eraseIdx i).map (·.d)).any fun y => lateD y x.d) = (l.eraseIdx i).any fun y => lateZ y x := by
        rw [List.any_map]; rfl
      rw [e]
      split
      · rfl
      · rw [show nextZ h x = nextD h x.d from rfl]
        cases nextD h x.d with
        | none => rfl
        | some g =>
          simp only
          rw [← ordP_map n g (l.eraseIdx i), Option.map_map, Option.map_map]
          rfl
def ordAt (n : Nat) (h : Hist) (l : List StepZ) (i : Nat) : Option (List StepZ) := match l[i]? with
  | none => none
  | some x => if (l.eraseIdx i).any (fun y => lateZ y x) = true then none else match nextZ h x with
    | none => none
    | some g => (ordP nextZ lateZ n g (l.eraseIdx i)).map (x :: ·)
theorem ordP_step (n : Nat) (h : Hist) (l : List StepZ) : ordP nextZ lateZ (n + 1) h l = (List.range l.length).findSome? (ordAt n h l) := by
  rw [ordP]
  congr 1
  funext i
  unfold ordAt
  cases l[i]? with
  | none => rfl
  | some x =>
    simp only
    split
    · rfl
    · cases nextZ h x <;> rfl
theorem ordAt_late {n : Nat} {h : Hist} {l : List StepZ} {i : Nat} {x : StepZ} (hx : l[i]? = some x) (ha : ((l.eraseIdx i).any fun y => lateZ y x) = true) : ordAt n h l i = none := by
  unfold ordAt; rw [hx]; simp only; rw [if_pos ha]
theorem ordAt_bad {n : Nat} {h : Hist} {l : List StepZ} {i : Nat} {x : StepZ} (hx : l[i]? = some x) (hn : nextZ h x = none) : ordAt n h l i = none := by
  unfold ordAt; rw [hx]; simp only
  split
  · rfl
  · rw [hn]
theorem ordAt_go {n : Nat} {h g : Hist} {l : List StepZ} {i : Nat} {x : StepZ} (hx : l[i]? = some x) (ha : ((l.eraseIdx i).any fun y => lateZ y x) = false) (hn : nextZ h x = some g) : ordAt n h l i = (ordP nextZ lateZ n g (l.eraseIdx i)).map (x :: ·) := by
  unfold ordAt; rw [hx]; simp only; rw [if_neg (by rw [ha]; simp), hn]
theorem ordP_none {n : Nat} {h : Hist} {l : List StepZ} (ha : ∀ i, i < l.length → ordAt n h l i = none) : ordP nextZ lateZ (n + 1) h l = none := by
  rw [ordP_step]
  exact findSome_none fun i hi => ha i (List.mem_range.1 hi)
theorem findSome_range {β : Type} (f : Nat → Option β) : ∀ (m i : Nat) (y : β), i < m → (∀ j, j < i → f j = none) → f i = some y → (List.range m).findSome? f = some y
  | 0, _, _, h, _, _ => by omega
  | m + 1, i, y, h, ha, hy => by
    rw [List.range_succ, List.findSome?_append]
    rcases Nat.lt_or_ge i m with h1 | h1
    · rw [findSome_range f m i y h1 ha hy]; rfl
    · obtain rfl : i = m := by omega
      rw [findSome_none (fun j hj => ha j (List.mem_range.1 hj))]
      simp [hy]
theorem ordP_some2 {n : Nat} {h : Hist} {l : List StepZ} {i : Nat} {out : List StepZ} (hi : i < l.length) (ha : ∀ j, j < i → ordAt n h l j = none) (ho : ordAt n h l i = some out) : ordP nextZ lateZ (n + 1) h l = some out := by
  rw [ordP_step]
  exact findSome_range _ _ i out hi ha ho
set_option maxRecDepth 100000 in
theorem order1_calls (y x : StepZ) (Bx : Nat) (w : World) (hb : Blk w Bx (encStep x) 51) :
    Calls Tryz.prog 81 #[.agg (encStep y).toArray, .pointer (some ⟨Bx, 0, none⟩)] w fun e w' => e = .returned (.bool (lateZ y x)) ∧ Ext w w' := by
  have XB := Lib.hid (show Ext w (w.alloc (.cells (encStep y).toArray 51)) from (Below.refl _ w).alloc (Nat.le_refl _) _)
  have LC := Lib.hid (fun W => late_calls y x W)
  obtain ⟨L, hL⟩ : ∃ L, lateD y.d x.d = L := ⟨_, rfl⟩
  have e : lateZ y x = L := hL
  rw [hL] at LC
  rw [e]
  clear hL e
  have hbx := hb.alloc (.cells (encStep y).toArray 51)
  clear hb
  obtain ⟨⟨cl, nm, acts, reads, ca, an⟩, ao, ac, ro, rc⟩ := y
  obtain ⟨⟨cl', nm', acts', reads', ca', an'⟩, ao', ac', ro', rc'⟩ := x
  unfold encStep at XB LC hbx ⊢
  simp only at XB LC hbx ⊢
  have d0 := hbx.cell 0; have d1 := hbx.cell 1; have d2 := hbx.cell 2; have d3 := hbx.cell 3; have d4 := hbx.cell 4; have d5 := hbx.cell 5
  simp only [List.getElem?_cons_zero, List.getElem?_cons_succ] at d0 d1 d2 d3 d4 d5
  clear hbx
  go_enter Tryz.func81, Tryz.ntmps81
  go_wp2_with fail
  refine (LC.out _).mono ?_
  rintro e w2 ⟨rfl, hx⟩
  have X2 := Lib.hid (Ext.trans XB.out hx); clear hx
  go_wp2_with fail
  go_ret
  exact ⟨rfl, X2.out⟩
theorem wpListIn_append_rows {α : Type} {enc : α → List Value} {size : Nat} (hsz : ∀ x, (enc x).length = size) (hone : ∀ x, ∀ u ∈ enc x, u.oneCell' = true) {F : Fence} {m : Nat} {P : Program} {ops : Array Oper} {rest : List Oper} {o : Oper} {a : Go.Act} {Q : Exit → Go.Act → World → Prop} {w : World} (hg : o.guard = none) (s x : Operand) (t : TypeId)
    (ho : o.op = .call { callee := .builtin .append, args := #[s, x], argTypes := #[t, t] })
    (e : TypeId) (i : TypeInfo) (z : Value) (bytes : Nat) (ht : P.underlying t = some (.slice e)) (hi : P.info? e = some i) (hz : i.zero = some z)
    (hsize : i.size = size) (hby : i.bytes = bytes) (hzs : z.cells.size = size) (h0 : 0 < size)
    (v : Value) (n : Nat) (xs : List Value) (hs : a.eval s = v) (hown : w.ownsRow 0 e size v n xs)
    (xo : Option Addr) (l : List α) (c : Nat) (hx : a.eval x = .slice xo l.length c) (hr : Rows size enc w.heap.size w xo l)
    (h63 : n + l.length ≤ maxLen) (hbytes : (n + l.length) * bytes ≤ 140737488355328)
    (hK : ∀ v' w', w'.ownsRow 0 e size v' (n + l.length) (xs ++ l.flatMap enc) → But (fun k => v.ownBlock = some k) w w' → Kept1 w v v' → wpListIn F m P ops Q rest (a.put o.dst v') w') : wpListIn F m P ops Q (o :: rest) a w := by
  refine wpListIn_plain hg fun K hK' => ?_
  obtain ⟨v', w', hrun, r1, r2, r3⟩ := exec_append_rows hsz hone (o := o) (a := a) s x t ho e i z bytes ht hi hz hsize hby hzs h0 v n xs hs hown xo l c hx hr h63 hbytes
  unfold Oper.wpIn
  refine ⟨?_, ?_⟩
  · simp [Oper.about, ho, resolve, Target.leads, Sem.run_pure]
  · rw [Oper.semAt_plain F _ _ (by rw [ho]; intro c hc'; cases hc'), hrun]
    exact hK' _ _ (hK v' w' r1 r2 r3)
end Go.Proofs.YtbnclifpdmpjnaaGreatDoor
