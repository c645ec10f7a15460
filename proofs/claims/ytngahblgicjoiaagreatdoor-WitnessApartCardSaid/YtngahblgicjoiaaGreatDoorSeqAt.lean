/- A range over a function whose rounds lean on what the iterator lays ahead of each call of yield. -/
import Derived.RangeFuncNested
import Derived.RangeFuncBound
import Derived.RangeFuncCalls
import Derived.RangeFuncLeaves
import Derived.Shelf.Abstract
import Derived.Shelf.RegionOpen
import Derived.OwnWalkIn
import Derived.TacticsInMore
import Derived.LoopNIn
import Derived.LoopIn
import Derived.Test.YtngahblgicjoiaaGreatDoorBase
namespace Go.Proofs.YtngahblgicjoiaaGreatDoor
open Go.RowKit Go.Shelf

section
variable {α : Type} {F : Fence} {n : Nat} {P : Program}
/-- The iterator's word: ahead of each round of x, 'At pre x' holds. -/
def SeqAt (F : Fence) (n : Nat) (P : Program) (g : Nat) (lb : Array Value) (encs : α → Array Value) (Kp : World → World → Prop) (At : List α → α → World → Prop) (S : List α → Prop) (w : World) : Prop :=
  ∀ (l : Nat) (J Jx : List α → World → Prop) (W : World), Below w.heap.size w W → AbidesFrom W.heap.size J →
    (∀ pre x V, J pre V → At pre x V → YieldAt F (n - 1) P l (encs x) V fun e V' => (e = .returned (.bool true) ∧ J (pre ++ [x]) V' ∧ Kp V V') ∨ (e = .returned (.bool false) ∧ Jx (pre ++ [x]) V')) →
    J [] W → CallsIn F n P g (#[.func (.yield l) #[] #[]] ++ lb) W fun e V => (∃ v, e = .returned v) ∧ ((∃ xs, S xs ∧ J xs V) ∨ ∃ pre, Jx pre V)
/-- The loop's record and the block of its rounds' deferred calls. -/
structure RecAt (B : Nat) (W : World) (r : Loop) : Prop where
  rc : W.heap[B + 1]? = some (.loop r)
  df : W.heap[B]? = some (.deferred (some []))
theorem RecAt.lt {B : Nat} {W : World} {r : Loop} (h : RecAt B W r) : B + 1 < W.heap.size := (Array.getElem?_eq_some_iff.1 h.rc).1
theorem RecAt.keeps {B : Nat} {W W' : World} {r : Loop} (h : RecAt B W r) (hk : KeepsFrom B W W') : RecAt B W' r := ⟨hk.same _ _ (by omega) h.rc rfl, hk.same _ _ (Nat.le_refl _) h.df rfl⟩
theorem RecAt.put {B : Nat} {W : World} {r : Loop} (h : RecAt B W r) (r' : Loop) : RecAt B (W.putObj (B + 1) (.loop r')) r' := ⟨World.putObj_heap_same h.lt, (World.putObj_heap_other (by omega)).trans h.df⟩
theorem RecAt.grown {B : Nat} {W W' : World} {r : Loop} {row : Option Nat} (h : RecAt B W r) (hg : W.grownBy W' row) (hr : ∀ k, row = some k → ∃ o : Obj, W.heap[k]? = some o ∧ o.isWalk = true) : RecAt B W' r :=
  ⟨(grownBy_keeps hg hr h.rc rfl).trans h.rc, (grownBy_keeps hg hr h.df rfl).trans h.df⟩
theorem wpIn_rangeAt {g : Operand} {ps : Array Tmp} {assign body : Code} {Q : Exit → Go.Act → World → Prop} {a : Go.Act} {w : World}
    (hro : F.round = none) (h1 : 1 ≤ n) {gf : Nat} {lb : Array Value} (hg : a.eval g = .func (.func gf) #[] lb) (hFg : F.fn gf) (eg : ∀ args w, (callFunc gf args).run P w = .ok (.enter gf args) w)
    {encs : α → Array Value} {Kp : World → World → Prop} {At : List α → α → World → Prop} {S : List α → Prop} {w0 : World} (hseq : SeqAt F (n - 1) P gf lb encs Kp At S w0)
    (hKt : ∀ {A B C : World}, Kp A B → Kp B C → Kp A C) (hKb : ∀ (W : World) (l : Nat) (o o' : Obj), w.heap.size ≤ l → W.heap[l]? = some o → o.isCells = false → o.isWalk = false → Kp W (W.putObj l o')) (hb0 : Below w0.heap.size w0 w) (hps : ∀ x, (encs x).size = ps.size)
    (I : List α → World → Prop) (Ix : Code → List α → World → Prop) (hI : OwnFrom w.heap.size I) (hIx : ∀ c, OwnFrom w.heap.size (Ix c)) (h0 : I [] w) (Ax : List α → α → Go.Act → World → Prop) (hAx : ∀ pre x a', OwnFrom w.heap.size (fun (_ : Unit) W => Ax pre x a' W))
    (hassign : ∀ (l : Nat) (pre : List α) (x : α) (W : World) (K : Go.Act → World → Prop), I pre W → At pre x W → (∀ a' W', KeepsFrom w.heap.size W W' → Kp W W' → I pre W' → Ax pre x a' W' → K a' W') →
      assign.wpIn (F.inRound l) (n - 1 - 1) P (Exit.then K (fun _ _ _ => False)) { tmps := (ps.zip (encs x)).foldl (fun t (p, v) => t.setIfInBounds p v) a.tmps, defers := [] } W)
    (hbody : ∀ (l : Nat) (pre : List α) (x : α) (a' : Go.Act) (W : World), I pre W → Ax pre x a' W → body.wpIn (F.inRound l) (n - 1 - 1) P (ownPostG w.heap.size Kp I Ix (pre ++ [x]) W) a' W)
    (hdone : ∀ (D : Nat) (xs : List α) (W : World), w.heap.size ≤ D → S xs → I xs W → W.heap[D]? = some (.deferred (some [])) → Q .normal { a with defers := { target := .collected D, args := #[] } :: a.defers } W)
    (hstop : ∀ (D : Nat) (c : Code) (pre : List α) (W : World), w.heap.size ≤ D → Ix c pre W → W.heap[D]? = some (.deferred (some [])) → c.wpIn F n P Q { a with defers := { target := .collected D, args := #[] } :: a.defers } W) :
    (Code.rangeFunc g ps assign body).wpIn F n P Q a w := by
  refine wpIn_rangeFunc fun fn hfn => ?_
  rw [hro]
  obtain ⟨B, hB⟩ : ∃ B, B = w.heap.size := ⟨_, rfl⟩
  rw [← hB] at hKb hI hIx hAx hassign hbody hdone hstop
  obtain ⟨mk, hmk⟩ : ∃ mk : LoopState → Option Code → Loop, mk = fun s p => { state := s, pending := p, fn, tmps := a.tmps, params := ps, assign, body, defers := B } := ⟨_, rfl⟩
  have hst : ∀ s p, (mk s p).state = s := fun s p => by rw [hmk]
  have hpd : ∀ s p, (mk s p).pending = p := fun s p => by rw [hmk]
  have hup : ∀ s p s' p', { mk s p with state := s', pending := p' } = mk s' p' := fun s p s' p' => by rw [hmk]
  have hus : ∀ s p s', { mk s p with state := s' } = mk s' p := fun s p s' => by rw [hmk]
  obtain ⟨V, hV⟩ : ∃ V, V = (w.alloc (.deferred (some []))).alloc (.loop (mk .ready none)) := ⟨_, rfl⟩
  have e0 := run_enterLoop_outer (P := P) (w := w) fn a.tmps ps assign body
  have hrec : RecAt B V (mk .ready none) := by
    rw [hV, hB]
    refine ⟨?_, (Below.heap_alloc _ _ _ (by simp)).trans (World.alloc_heap_new w _)⟩
    have := World.alloc_heap_new (w.alloc (.deferred (some []))) (.loop (mk .ready none))
    rwa [World.size_alloc] at this
  have hIV : I [] V := by rw [hV]; exact hI.alloc _ (hI.alloc _ h0)
  have hbV : Below w0.heap.size w0 V := by
    rw [hV]; exact hb0.trans ((((Below.refl _ w).alloc (Nat.le_refl _) _).alloc (by simp) _).mono hb0.size)
  refine ⟨B + 1, [{ target := .collected B, args := #[] }], V, { target := .fn (.func gf) lb, args := #[.func (.yield (B + 1)) #[] #[]] }, V, gf, #[.func (.yield (B + 1)) #[] #[]] ++ lb, V, ?_, ?_, ?_, ?_, fun _ => h1, ?_⟩
  · rw [hV, hmk, hB]; exact e0
  · simp only [resolve, hg]; simp [go_sem]
  · intro f' hf'; simp [Target.leads] at hf'; subst hf'; exact hFg
  · simp [invoke, go_sem, eg]
  have hsz : B + 2 = V.heap.size := by rw [hV, hB]; simp
  have cells : ∀ {A : World} {row : Option Nat}, (∀ r, row = some r → V.heap.size ≤ r ∧ ∃ o : Obj, A.heap[r]? = some o ∧ o.isWalk = true) → ∀ r, row = some r → B ≤ r ∧ ∃ o : Obj, A.heap[r]? = some o ∧ o.isCells = false :=
    fun hr r e => by obtain ⟨hle, o, ho, hw⟩ := hr r e; exact ⟨by omega, o, ho, Obj.not_cells_of_walk hw⟩
  refine (hseq (B + 1) (fun pre W => I pre W ∧ RecAt B W (mk .ready none)) (fun pre W => ∃ c, Ix c pre W ∧ RecAt B W (mk .done (some c))) V hbV
    (fun s A C row hs hgr hr => ⟨hI s A C row hs.1 hgr (cells (A := A) hr), hs.2.grown hgr fun r e => (hr r e).2⟩) ?_ ⟨hIV, hrec⟩).mono ?_
  · rintro pre x W ⟨hi, hl⟩ hat
    have hy := run_yield (P := P) (args := encs x) hl.rc (by rw [hmk]; exact hps x)
    have e1 : (mk .ready none).fn = fn ∧ (mk .ready none).params = ps ∧ (mk .ready none).tmps = a.tmps ∧ (mk .ready none).assign = assign ∧ (mk .ready none).body = body := by rw [hmk]; exact ⟨rfl, rfl, rfl, rfl, rfl⟩
    rw [e1.1, e1.2.1, e1.2.2.1, e1.2.2.2.1, e1.2.2.2.2] at hy
    refine ⟨fn, _, assign, body, hy, roundIn_of_wpIn hfn (hassign _ pre x W _ hi hat ?_)⟩
    intro a' W2 k2 p2 i2 ax2
    have l2 := hl.keeps k2
    have l3 := l2.put { mk .ready none with state := .busy }
    have p3 := hKb W2 (B + 1) _ (.loop { mk .ready none with state := .busy }) (by omega) l2.rc rfl rfl
    refine ⟨_, run_beginRound l2.rc (hst _ _), wpIn_mono (hbody _ pre x a' _ (hI.putObj _ i2 (by omega) l2.rc rfl) ((hAx pre x a').putObj (s := ()) _ ax2 (by omega) l2.rc rfl)) ?_⟩
    have fin : ∀ (j : Option Code) (W3 : World), KeepsFrom B (W2.putObj (B + 1) (.loop { mk .ready none with state := .busy })) W3 →
        (Instr.endRound (B + 1) j).run P W3 = .ok (.bool j.isNone) (W3.putObj (B + 1) (.loop (mk (if j.isNone then .ready else .done) j))) ∧ RecAt B W3 { mk .ready none with state := .busy } ∧ RecAt B (W3.putObj (B + 1) (.loop (mk (if j.isNone then .ready else .done) j))) (mk (if j.isNone then .ready else .done) j) := fun j W3 k3 => by
      have l4 := l3.keeps k3
      have e := run_endRound (P := P) j l4.rc
      rw [hus, hup] at e
      exact ⟨e, l4, l4.put _⟩
    intro e a3 W3 hp
    cases e with
    | normal =>
      obtain ⟨k3, p4, i3⟩ := hp
      obtain ⟨hr, l4, l5⟩ := fin none W3 k3
      exact ⟨_, _, hr, .inl ⟨rfl, ⟨hI.putObj _ i3 (by omega) l4.rc rfl, l5⟩, hKt p2 (hKt (hKt p3 p4) (hKb _ _ _ _ (by omega) l4.rc rfl rfl))⟩⟩
    | ret =>
      obtain ⟨hr, l4, l5⟩ := fin (some .ret) W3 hp.1
      exact ⟨_, _, hr, .inr ⟨rfl, .ret, (hIx _).putObj _ hp.2 (by omega) l4.rc rfl, l5⟩⟩
    | exit id =>
      obtain ⟨hr, l4, l5⟩ := fin (some (.exit id)) W3 hp.1
      exact ⟨_, _, hr, .inr ⟨rfl, .exit id, (hIx _).putObj _ hp.2 (by omega) l4.rc rfl, l5⟩⟩
    | goto t =>
      obtain ⟨hr, l4, l5⟩ := fin (some (.goto t)) W3 hp.1
      exact ⟨_, _, hr, .inr ⟨rfl, .goto t, (hIx _).putObj _ hp.2 (by omega) l4.rc rfl, l5⟩⟩
    | panic ch => exact hp.elim
    | outgrown => exact hp.elim
  · rintro e W2 ⟨⟨v, rfl⟩, ⟨xs, hS, hi, hl⟩ | ⟨pre, c, hi, hl⟩⟩
    · have e := run_endLoop (P := P) hl.rc (by rw [hst]; simp)
      rw [hpd] at e
      exact ⟨none, _, e, hdone _ xs _ (Nat.le_refl _) hS (hI.putObj _ hi (by omega) hl.rc rfl) ((World.putObj_heap_other (by omega)).trans hl.df)⟩
    · have e := run_endLoop (P := P) hl.rc (by rw [hst]; simp)
      rw [hpd] at e
      exact ⟨some c, _, e, hstop _ c pre _ (Nat.le_refl _) ((hIx c).putObj _ hi (by omega) hl.rc rfl) ((World.putObj_heap_other (by omega)).trans hl.df)⟩
end
end Go.Proofs.YtngahblgicjoiaaGreatDoor
