/- HoldsEnds: what is plain. -/
import Derived.Test.YtdmejbjpbjcfbaaGreatDoorWFit2
import Derived.Test.YtdmejbjpbjcfbaaGreatDoorOfH
namespace Go.Proofs.YtdmejbjpbjcfbaaGreatDoor
open Go.RowKit
def niceB (d : HoldD) : Bool := decide (d.key.size ≤ 100) && decide (d.value.size ≤ 100) && decide (d.acts.length ≤ 10) && decide (d.reads.length ≤ 10) &&
  d.acts.all (fun a => decide (a.key.size ≤ 100) && decide (a.value.size ≤ 100) && decide (0 ≤ a.kind) && decide (a.kind ≤ 255) && decide (-1000 ≤ a.num) && decide (a.num ≤ 1000)) && d.reads.all (fun r => decide (r.key.size ≤ 100) && decide (r.value.size ≤ 100))
structure NiceD (d : HoldD) : Prop where
  small : d.small
  ok : d.ok
  wfit : d.wfit
theorem nice_of {d : HoldD} (h : niceB d = true) : NiceD d := by
  unfold niceB at h
  simp only [Bool.and_eq_true, decide_eq_true_eq, List.all_eq_true] at h
  obtain ⟨⟨⟨⟨⟨h1, h2⟩, h3⟩, h4⟩, h5⟩, h6⟩ := h
  refine ⟨⟨by omega, by omega, by omega, by omega, fun a ha => ?_, fun r hr => ?_⟩, ⟨fun a ha => ?_, by omega, by omega, by omega, by omega, fun r hr => ?_⟩, ⟨by omega, by omega, by omega, by omega, fun a ha => ?_, fun r hr => ?_⟩⟩
  · obtain ⟨⟨⟨⟨⟨q1, q2⟩, q3⟩, q4⟩, q5⟩, q6⟩ := h5 a ha; exact ⟨by omega, by omega⟩
  · obtain ⟨q1, q2⟩ := h6 r hr; exact ⟨by omega, by omega⟩
  · obtain ⟨⟨⟨⟨⟨q1, q2⟩, q3⟩, q4⟩, q5⟩, q6⟩ := h5 a ha; exact ⟨by omega, by omega, by omega, by omega, by omega, by omega⟩
  · obtain ⟨q1, q2⟩ := h6 r hr; omega
  · obtain ⟨⟨⟨⟨⟨q1, q2⟩, q3⟩, q4⟩, q5⟩, q6⟩ := h5 a ha; exact ⟨by omega, by omega, by omega⟩
  · obtain ⟨q1, q2⟩ := h6 r hr; omega
theorem plain_nice (k : ByteArray) (c : Int) (hk : k.size ≤ 100) : NiceD (plainD k c) := by
  apply nice_of
  simp [niceB, plainD, hk, empty_size]
def mB : ByteArray := ⟨#[109]⟩
def aB : ByteArray := ⟨#[97]⟩
def a21B : ByteArray := ⟨#[97, 97, 97, 97, 97, 97, 97, 97, 97, 97, 97, 97, 97, 97, 97, 97, 97, 97, 97, 97, 97]⟩
def acts3 : List ActD := [⟨3, kB, ⟨#[]⟩, -4⟩, ⟨2, kB, aB, 0⟩, ⟨1, kB, ⟨#[]⟩, 0⟩]
def reads2 : List Rd := [⟨kB, true, ⟨#[53]⟩⟩, ⟨kB, true, aB⟩]
def reads7 : List Rd := [⟨kB, false, ⟨#[53]⟩⟩, ⟨kB, true, ⟨#[]⟩⟩]
def acts8 : List ActD := [⟨1, kB, ⟨#[]⟩, 0⟩, ⟨1, kB, ⟨#[]⟩, 0⟩]
def reads9 : List Rd := [⟨mB, true, ⟨#[]⟩⟩, ⟨kB, true, ⟨#[]⟩⟩]
def goodD : HoldD := ⟨kB, 2, 3, acts3, reads2, true, aB⟩
def ds10 : List HoldD := [goodD, { goodD with key := mB }, { goodD with cl := 9, nm := 1 }, { goodD with acts := acts3.take 2 }, { goodD with reads := reads2.take 1 }, { goodD with put := false }, { goodD with value := a21B }, { goodD with reads := reads7 }, { goodD with acts := acts8 }, { goodD with reads := reads9 }]
theorem ds10_nice : ∀ d ∈ ds10, NiceD d := fun d hd => nice_of (List.all_eq_true.1 (show ds10.all niceB = true by kernel_rfl) d hd)
def goodV (A R : Nat) : HoldV := ⟨kB, 2, 3, some ⟨A, 0, none⟩, 3, 3, some ⟨R, 0, none⟩, 2, 2, true, aB⟩
def vs10 (A R R7 A8 R9 : Nat) : List HoldV := [goodV A R, { goodV A R with key := mB }, { goodV A R with cl := 9, nm := 1 }, { goodV A R with an := 2 }, { goodV A R with rn := 1 }, { goodV A R with put := false }, { goodV A R with value := a21B },
  { goodV A R with ro := some ⟨R7, 0, none⟩, rn := 2, rc := 2 }, { goodV A R with ao := some ⟨A8, 0, none⟩, an := 2, ac := 2 }, { goodV A R with ro := some ⟨R9, 0, none⟩, rn := 2, rc := 2 }]
theorem rowsB {α : Type} {sz : Nat} {enc : α → List Value} (hsz : ∀ x, (enc x).length = sz) (l : List α) {w : World} {b : Nat} {t : TypeId} (hb : Blk w b (l.flatMap enc) t) : NRows sz enc (fun _ => False) w (some ⟨b, 0, none⟩) l := rows_fresh hsz l hb _ (fun e => e)
theorem nrows_take {α : Type} {sz : Nat} {enc : α → List Value} {no : Nat → Prop} {w : World} {ao : Option Addr} {l : List α} (h : NRows sz enc no w ao l) (k : Nat) : NRows sz enc no w ao (l.take k) := by
  intro hne
  obtain ⟨b, off, e, hb, hn, hc⟩ := h (by intro e; rw [e] at hne; simp at hne)
  refine ⟨b, off, e, hb, hn, fun i x hx => hc i x ?_⟩
  rw [List.getElem?_take] at hx
  split at hx
  · exact hx
  · cases hx
theorem are10 {w : World} {A R R7 A8 R9 : Nat} {ta tr : TypeId} (hA : Blk w A (acts3.flatMap encAct) ta) (hR : Blk w R (reads2.flatMap encRd) tr) (h7 : Blk w R7 (reads7.flatMap encRd) tr) (h8 : Blk w A8 (acts8.flatMap encAct) ta) (h9 : Blk w R9 (reads9.flatMap encRd) tr) :
    HoldsAre w (fun _ => False) (vs10 A R R7 A8 R9) ds10 := by
  have rA := rowsB (sz := 4) (fun _ => rfl) acts3 hA; have rR := rowsB (sz := 3) (fun _ => rfl) reads2 hR; have r7 := rowsB (sz := 3) (fun _ => rfl) reads7 h7; have r8 := rowsB (sz := 4) (fun _ => rfl) acts8 h8; have r9 := rowsB (sz := 3) (fun _ => rfl) reads9 h9
  exact ⟨⟨rfl, rfl, rfl, rfl, rfl, rfl, rfl, rA, rR⟩, ⟨rfl, rfl, rfl, rfl, rfl, rfl, rfl, rA, rR⟩, ⟨rfl, rfl, rfl, rfl, rfl, rfl, rfl, rA, rR⟩, ⟨rfl, rfl, rfl, rfl, rfl, rfl, rfl, nrows_take rA 2, rR⟩, ⟨rfl, rfl, rfl, rfl, rfl, rfl, rfl, rA, nrows_take rR 1⟩,
    ⟨rfl, rfl, rfl, rfl, rfl, rfl, rfl, rA, rR⟩, ⟨rfl, rfl, rfl, rfl, rfl, rfl, rfl, rA, rR⟩, ⟨rfl, rfl, rfl, rfl, rfl, rfl, rfl, rA, r7⟩, ⟨rfl, rfl, rfl, rfl, rfl, rfl, rfl, r8, rR⟩, ⟨rfl, rfl, rfl, rfl, rfl, rfl, rfl, rA, r9⟩, trivial⟩
theorem alloc3 (w : World) (c1 c2 c3 : List Value) (t1 t2 t3 : TypeId) : Blk (((w.alloc (.cells c1.toArray t1)).alloc (.cells c2.toArray t2)).alloc (.cells c3.toArray t3)) w.heap.size c1 t1 ∧ Blk (((w.alloc (.cells c1.toArray t1)).alloc (.cells c2.toArray t2)).alloc (.cells c3.toArray t3)) (w.heap.size + 1) c2 t2 ∧
    Blk (((w.alloc (.cells c1.toArray t1)).alloc (.cells c2.toArray t2)).alloc (.cells c3.toArray t3)) (w.heap.size + 1 + 1) c3 t3 ∧ Ext w (((w.alloc (.cells c1.toArray t1)).alloc (.cells c2.toArray t2)).alloc (.cells c3.toArray t3)) := by
  refine ⟨((Blk.new w c1 t1).alloc _).alloc _, ?_, ?_, (((Below.refl _ w).alloc (Nat.le_refl _) _).alloc (by simp) _).alloc (by simp; omega) _⟩
  · have := (Blk.new (w.alloc (.cells c1.toArray t1)) c2 t2).alloc (.cells c3.toArray t3)
    rwa [World.size_alloc] at this
  · have := Blk.new ((w.alloc (.cells c1.toArray t1)).alloc (.cells c2.toArray t2)) c3 t3
    rwa [World.size_alloc, World.size_alloc] at this
theorem Blk.conv {w : World} {b : Nat} {cs cs' : List Value} {t : TypeId} (h : Blk w b cs t) (e : cs = cs') : Blk w b cs' t := e ▸ h
theorem are_one {w : World} {no : Nat → Prop} {vs : List HoldV} {ds : List HoldD} (h : HoldsAre w no vs ds) {i : Nat} {x : HoldV} (hx : vs[i]? = some x) : ∃ d, d ∈ ds ∧ HoldsAre w no [x] [d] := by
  obtain ⟨d, h1, h2⟩ := h.at i x hx
  exact ⟨d, List.mem_of_getElem? h1, h2, trivial⟩
theorem rows_at {w : World} {B L : Nat} {vs : List HoldV} (h : Rows 7 encHV B w (some ⟨L, 0, none⟩) vs) {i : Nat} {x : HoldV} (hx : vs[i]? = some x) : Rows 7 encHV B w (some ⟨L, i * 7, none⟩) [x] := by
  have h1 := (Rows.drop h i).take 1
  rw [List.drop_eq_getElem_cons (List.getElem?_eq_some_iff.1 hx).1, (List.getElem?_eq_some_iff.1 hx).2, Nat.zero_add] at h1
  exact h1
def tenL (A R : Nat) : List Value := [.string ⟨#[107]⟩, .int .i64 2, .int .i64 3, .slice (some ⟨A, 0, none⟩) 3 3, .slice (some ⟨R, 0, none⟩) 2 2, .bool true, .string ⟨#[97]⟩, .string ⟨#[107]⟩, .int .i64 2, .int .i64 3, .slice (some ⟨A, 0, none⟩) 3 3, .slice (some ⟨R, 0, none⟩) 2 2, .bool true, .string ⟨#[97]⟩, .string ⟨#[107]⟩, .int .i64 2, .int .i64 3, .slice (some ⟨A, 0, none⟩) 3 3, .slice (some ⟨R, 0, none⟩) 2 2, .bool true, .string ⟨#[97]⟩, .string ⟨#[107]⟩, .int .i64 2, .int .i64 3, .slice (some ⟨A, 0, none⟩) 3 3, .slice (some ⟨R, 0, none⟩) 2 2, .bool true, .string ⟨#[97]⟩, .string ⟨#[107]⟩, .int .i64 2, .int .i64 3, .slice (some ⟨A, 0, none⟩) 3 3, .slice (some ⟨R, 0, none⟩) 2 2, .bool true, .string ⟨#[97]⟩, .string ⟨#[107]⟩, .int .i64 2, .int .i64 3, .slice (some ⟨A, 0, none⟩) 3 3, .slice (some ⟨R, 0, none⟩) 2 2, .bool true, .string ⟨#[97]⟩, .string ⟨#[107]⟩, .int .i64 2, .int .i64 3, .slice (some ⟨A, 0, none⟩) 3 3, .slice (some ⟨R, 0, none⟩) 2 2, .bool true, .string ⟨#[97]⟩, .string ⟨#[107]⟩, .int .i64 2, .int .i64 3, .slice (some ⟨A, 0, none⟩) 3 3, .slice (some ⟨R, 0, none⟩) 2 2, .bool true, .string ⟨#[97]⟩, .string ⟨#[107]⟩, .int .i64 2, .int .i64 3, .slice (some ⟨A, 0, none⟩) 3 3, .slice (some ⟨R, 0, none⟩) 2 2, .bool true, .string ⟨#[97]⟩, .string ⟨#[107]⟩, .int .i64 2, .int .i64 3, .slice (some ⟨A, 0, none⟩) 3 3, .slice (some ⟨R, 0, none⟩) 2 2, .bool true, .string ⟨#[97]⟩]
theorem wpW {P : Program} {c : Code} {Q : Exit → Go.Act → World → Prop} {a : Go.Act} {w w' : World} (h : w' = w) (hw : Code.wp P c Q a w') : Code.wp P c Q a w := h ▸ hw
end Go.Proofs.YtdmejbjpbjcfbaaGreatDoor
