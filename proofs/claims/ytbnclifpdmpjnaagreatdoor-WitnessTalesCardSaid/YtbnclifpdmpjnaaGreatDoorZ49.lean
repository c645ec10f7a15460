/- WitnessTales: its loops taken out of its code; rows of tales put behind rows; a tale of a row changed. -/
import Derived.Test.YtbnclifpdmpjnaaGreatDoorZ48
namespace Go.Proofs.YtbnclifpdmpjnaaGreatDoor
open Go.RowKit
noncomputable def talesBody : Code := (Tryz.f4.body.bind firstLoop).getD .skip
noncomputable def talesIn : Code := (firstLoop talesBody).getD .skip
noncomputable def turnBody : Code := (firstLoop talesIn).getD .skip
noncomputable def tReg9 : Code := (regOf 9 talesBody).getD .skip
noncomputable def tReg10 : Code := (regOf 10 talesBody).getD .skip
noncomputable def tReg11 : Code := (regOf 11 talesBody).getD .skip
theorem elemTl : Tryz.prog.underlying 22 = some (.slice (Tryz.prog.elem 22)) := by kernel_rfl
theorem sizeTl : ∀ W, (sizeOf (Tryz.prog.elem 22)).run Tryz.prog W = .ok 18 W := fun W => by kernel_rfl
theorem rowsOneTl {w : World} {p : Nat} {z : TaleZ} {t : TypeId} (h : Blk w p (encTale z) t) : Rows 18 encTale w.heap.size w (some ⟨p, 0, none⟩) [z] := rows_blk (enc := encTale) (sz := 18) (fun _ => rfl) (l := [z]) (by simpa using h) (by simp)
theorem taleAdd {ops : Array Oper} {o : Oper} {a : Act} {K : Act → World → Prop} {Q : Exit → Act → World → Prop} {E : Prop} (hgd : o.guard = none) (s x : Operand)
    (ho : o.op = .call { callee := .builtin .append, args := #[s, x], argTypes := #[22, 22] })
    {base W : World} {acc l : List TaleZ} {v : Value} {xo : Option Addr} {c : Nat} (hs : a.eval s = v) (hx : a.eval x = .slice xo l.length c)
    (hown : W.ownsRow 0 39 18 v acc.length (acc.flatMap encTale)) (hnew : ∀ j, v.ownBlock = some j → base.heap.size ≤ j) (hext : Ext base W) (hr : Rows 18 encTale W.heap.size W xo l) (hlen : acc.length + l.length ≤ 1000) (m : List TaleZ) (hm : acc ++ l = m)
    (h : ∀ so c' w', w'.ownsRow 0 39 18 (.slice so m.length c') m.length (m.flatMap encTale) → (∀ j, (Value.slice so m.length c').ownBlock = some j → base.heap.size ≤ j) → m.length ≤ c' → Ext base w' → But (fun k => v.ownBlock = some k) W w' → K (a.put o.dst (.slice so m.length c')) w') :
    if Region.wanted o (yielded ops a.tmps) = true then Oper.wp Tryz.prog o a W K Q else E := by
  obtain ⟨i0, hi, hz0, hz1, hz2⟩ := info_parts infoTale
  refine step_append_rows (enc := encTale) (size := 18) (fun _ => rfl) one_taleL hgd s x 22 ho 39 i0 _ 224 Tryz.underlying22 hi hz0 hz1 hz2 rfl (by decide) v acc.length (acc.flatMap encTale) hs hown xo l c hx hr (by unfold maxLen; omega) (by omega) ?_
  intro v' w' h1 h2 h3
  have h4 : w'.ownsRow 0 39 18 v' m.length (m.flatMap encTale) := by
    rw [← hm, List.length_append, List.flatMap_append]; exact h1
  obtain ⟨so, c', rfl, hc, -, -⟩ := Rows.own (enc := encTale) (sz := 18) (fun _ => rfl) h4
  refine h so c' w' h4 (fun j e => ?_) hc ?_ h2
  · rcases h3 j e with e | e
    · exact hnew j e
    · exact Nat.le_trans hext.size e
  · exact Below.trans hext (h2.below hext.size (fun i e => hnew i e))
theorem wpQuiet_load_mid {P : Program} {ops : Array Oper} {C : World → Prop} {Q : Act → Prop} {a : Act} {o : Oper} {rest : List Oper} (hgd : o.guard = none) (ty : TypeId) (x : Operand) (ho : o.op = .load ty x)
    (b off : Nat) (hx : a.eval x = .pointer (some ⟨b, off, none⟩)) (cs : List Value) (d : TypeDesc) (hc : ∀ w, C w → w.rangeAt b off cs) (hu : P.underlying ty = some d) (hd : d.isRow = true) (hi : (P.info? ty).map (·.size) = some cs.length)
    (h : wpQuiet P ops C Q rest (a.put o.dst (.agg cs.toArray))) : wpQuiet P ops C Q (o :: rest) a :=
  BigFrame.wpQuiet_want (by simp [Region.wanted, hgd]) (fun K hK => ⟨_, fun w hw => by
    unfold Oper.quietAt execOp
    simp only [ho, hx, Instr.loadAt, Instr.sureAddr, Sem.run_bind, Sem.run_pure, Result.andThen_ok, run_loadVar_mid w b off ty cs d (hc w hw) hu hd hi]
    exact ⟨rfl, rfl⟩, hK _ h⟩)
def isMin : Op → Bool
  | .call c => match c.callee with | .builtin .min => true | _ => false
  | _ => false
def valM (o : Op) : Bool := valN2 o || isMin o
theorem valM_value {P : Program} {ρ : Operand → Value} {o : Oper} (ho : valM o.op = true) {w w' : World} {n : Next} (h : (execOp ρ o).run P w = .ok n w') : ∃ v, n = .value v := by
  by_cases hb : valN2 o.op = true
  · exact valN2_value hb h
  · have hm : isMin o.op = true := by
      unfold valM at ho
      rcases Bool.or_eq_true _ _ ▸ ho with h | h
      · exact absurd h hb
      · exact h
    clear ho hb
    unfold execOp at h
    cases hop : o.op <;> simp only [hop, isMin] at hm h <;> try contradiction
    case call c =>
      cases hc : c.callee with
      | builtin b =>
        rw [hc] at hm
        cases b <;> simp at hm
        all_goals
          unfold resolve at h
          simp only [hc, Sem.run_bind, Sem.run_pure, Result.andThen_ok, invoke] at h
          exact val_of_bind h
      | invoke r nm => rw [hc] at hm; cases hm
      | value f => rw [hc] at hm; cases hm
def takesM (ops : Array Oper) : List Nat → Array Bool → Bool
  | [], _ => true
  | i :: is, listed => (Region.ready .any ops listed).contains i && Region.free .any ops listed i && ((ops[i]?).map fun o => valM o.op).getD false && takesM ops is (listed.setIfInBounds i true)
theorem wpAnyH_takesM {P : Program} {ops : Array Oper} {Q : Exit → Go.Act → World → Prop} {S : World → Prop} {w : World} (hS : S w) (hsel : Region.noSelect ops = true) (hQ : ∀ (c : _) (a : Go.Act) (t : Array Value) (w : World), Q (.panic c) { a with tmps := t } w → Q (.panic c) a w) (f : Nat) :
    ∀ (is : List Nat) (listed : Array Bool) (a : Go.Act), takesM ops is listed = true → wpQuiet P ops S (fun a' => wpAnyH P .any ops Q S f (listedBy is listed) a' w) (opsAt ops is) a → wpAnyH P .any ops Q S (f + is.length) listed a w
  | [], _, _, _, h => h
  | i :: is, listed, a, hB, h => by
    unfold takesM at hB
    simp only [Bool.and_eq_true] at hB
    obtain ⟨⟨⟨h1, h2⟩, h3⟩, h4⟩ := hB
    cases ho : ops[i]? with
    | none => rw [ho] at h3; cases h3
    | some o =>
      rw [ho] at h3
      have hv : valM o.op = true := h3
      unfold opsAt at h
      rw [ho] at h
      simp only at h
      unfold wpQuiet at h
      rw [show f + (i :: is).length = (f + is.length) + 1 from by rw [List.length_cons]; omega]
      split at h
      · rename_i hw
        obtain ⟨v, hq, hK⟩ := h
        refine wpAnyH_take (v := v) ho hsel h2 h1 (fun c a w h => by obtain ⟨t, ht⟩ := put_tmps a o.dst _; rw [ht] at h; exact hQ c a t w h) (.inl ⟨hw, fun w' hw' => ?_⟩) hS (wpAnyH_takesM hS hsel hQ f is _ _ h4 hK)
        exact quietUpon_value (hq w' hw') (fun n w'' h => valM_value hv h)
      · rename_i hw
        exact wpAnyH_take (v := undef) ho hsel h2 h1 (fun c a w h => by obtain ⟨t, ht⟩ := put_tmps a o.dst _; rw [ht] at h; exact hQ c a t w h) (.inr ⟨by simpa using hw, rfl⟩) hS (wpAnyH_takesM hS hsel hQ f is _ _ h4 h)
theorem wp_region_firstM {P : Program} {id : Nat} {Q : Exit → Go.Act → World → Prop} {a : Go.Act} {w : World} {l : List Oper} (S : World → Prop) (is : List Nat) (f : Nat) (hm : P.follows .mixedOrders = true) (hB : (Region.noSelect l.toArray && takesM l.toArray is (Array.replicate l.toArray.size false) && decide (l.toArray.size = f + is.length)) = true)
    (hQ : ∀ (c : _) (a : Go.Act) (t : Array Value) (w : World), Q (.panic c) { a with tmps := t } w → Q (.panic c) a w) (hS : S w.drew)
    (h : wpQuiet P l.toArray S (fun a' => wpAnyH P .any l.toArray Q S f (listedBy is (Array.replicate l.toArray.size false)) a' w.drew) (opsAt l.toArray is) a) : (Code.region id l.toArray true).wp P Q a w := by
  simp only [Bool.and_eq_true, decide_eq_true_eq] at hB
  obtain ⟨⟨h1, h2⟩, h3⟩ := hB
  refine wp_region_held_drew (S := S) hm hS (fun hS => ?_)
  have h5 := wpAnyH_takesM hS h1 hQ f is _ a h2 h
  rw [← h3] at h5
  exact h5
theorem flatT_set {f : Nat} {v : Value} {z z' : TaleZ} (he : encTale z' = (encTale z).set f v) (hf : f < 18) : ∀ (l : List TaleZ) (j : Nat), l[j]? = some z → (l.flatMap encTale).set (j * 18 + f) v = (l.set j z').flatMap encTale
  | [], _, h => by simp at h
  | x :: l, 0, h => by
    simp only [List.getElem?_cons_zero, Option.some.injEq] at h
    subst h
    rw [List.flatMap_cons, List.set_cons_zero, List.flatMap_cons, Nat.zero_mul, Nat.zero_add, List.set_append_left _ _ (show f < (encTale x).length from hf), he]
  | x :: l, j + 1, h => by
    have ih := flatT_set he hf l j (by simpa using h)
    have hx : (encTale x).length = 18 := rfl
    rw [List.flatMap_cons, List.set_cons_succ, List.flatMap_cons, ← ih, List.set_append_right _ _ (by rw [hx]; omega), hx]
    congr 2; omega
structure MyTales (w : World) (g : Nat) (c : Nat) (q : List TaleZ) : Prop where
  own : w.ownsRow 0 39 18 (.slice (some ⟨g, 0, none⟩) q.length c) q.length (q.flatMap encTale)
  lent : ∀ z ∈ q, NRows 4 encAct (fun b => b = g) w z.ao z.d.acts ∧ NRows 3 encRd (fun b => b = g) w z.ro z.d.reads
theorem MyTales.at {w : World} {g c : Nat} {q : List TaleZ} (h : MyTales w g c q) : TalesAt w (some ⟨g, 0, none⟩) q := ⟨rows_of_own (fun _ => rfl) h.own, fun z hz => ⟨(h.lent z hz).1.rows, (h.lent z hz).2.rows⟩⟩
theorem MyTales.set {w : World} {g c : Nat} {q : List TaleZ} (h : MyTales w g c q) {j f : Nat} {v : Value} {z z' : TaleZ} (hz : q[j]? = some z) (he : encTale z' = (encTale z).set f v) (hf : f < 18)
    (h1 : NRows 4 encAct (fun b => b = g) w z'.ao z'.d.acts) (h2 : NRows 3 encRd (fun b => b = g) w z'.ro z'.d.reads) : MyTales (w.setCell ⟨g, j * 18 + f, none⟩ v) g c (q.set j z') := by
  have hb : But (fun b => b = g) w (w.setCell ⟨g, j * 18 + f, none⟩ v) := (But.refl (fun b => b = g) w).setCell (p := ⟨g, j * 18 + f, none⟩) (fun _ => rfl) v
  refine ⟨?_, fun y hy => ?_⟩
  · have := own_set2 h.own (j * 18 + f) v
    rw [flatT_set he hf q j hz] at this
    rw [List.length_set]; exact this
  · rcases List.mem_or_eq_of_mem_set hy with hy | rfl
    · exact ⟨(h.lent y hy).1.step hb (fun _ _ e => .inl e) (fun _ _ e => e), (h.lent y hy).2.step hb (fun _ _ e => .inl e) (fun _ _ e => e)⟩
    · exact ⟨h1.step hb (fun _ _ e => .inl e) (fun _ _ e => e), h2.step hb (fun _ _ e => .inl e) (fun _ _ e => e)⟩
end Go.Proofs.YtbnclifpdmpjnaaGreatDoor
