/- The evaluator's operations that lay a new block and do no more. -/
import Derived.Test.YtedokmdoompidaaGreatDoorEvK
import Derived.Laws.MakeOwn
import Derived.Lib.ConvBytes
namespace Go.Proofs.YtedokmdoompidaaGreatDoor.Ev

def rowBlk (e : TypeId) (sp sh : Bool) (xs : List AV) : Option Blk :=
  match Tr.putAll xs .leaf 0 with
  | some cs => some (.cells e xs.length sp false sh cs)
  | none => none
def repL (z : List AV) : Nat → List AV
  | 0 => []
  | n + 1 => z ++ repL z n
/-- The block that is laid, and the value, by the block's name. -/
def alA (P : Program) (GS : Nat → Option Nat) (T : Tr AV) (op : Op) : Option (Blk × (Nat → AV)) :=
  match op with
  | .alloc e => (match zeroA P e with
    | some z => bif allScalar z.cells then (match rowBlk e false false z.cells with
      | some blk => some (blk, fun b => .ptr b 0)
      | none => none) else none
    | none => none)
  | .box e x => (match opd GS T x with
    | some v => bif allScalar v.cells then (match rowBlk e false false v.cells with
      | some blk => some (blk, fun b => .ptr b 0)
      | none => none) else none
    | none => none)
  | .buildSlice t len ps => (match P.underlying t, parts GS T ps.toList with
    | some (.slice e), some l => (match szOf P e, zeroA P e with
      | some s, some z => bif Nat.blt (len * s) 1000000 && allScalar z.cells && Nat.beq z.cells.length s then
          (match fillA (fun i => some (i * s, s)) (repL z.cells len) l with
          | some cs => (match rowBlk e false false cs with
            | some blk => some (blk, fun b => .sl b 0 len len)
            | none => none)
          | none => none) else none
      | _, _ => none)
    | _, _ => none)
  | .makeMap _ none => some (.map [], fun b => .map b)
  | .makeSlice t l c => (match P.underlying t, opd GS T l, opd GS T c with
    | some (.slice e), some (.int .i64 (.ofNat l)), some (.int .i64 (.ofNat c)) => (match P.info? e, zeroA P e with
      | some i, some z => bif Nat.ble l c && Nat.blt c 1000000 && Nat.blt i.bytes 1000000 && allScalar z.cells && Nat.beq z.cells.length i.size then
          (match rowBlk e false false (repL z.cells c) with
          | some blk => some (blk, fun b => .sl b 0 l c)
          | none => none) else none
      | _, _ => none)
    | _, _, _ => none)
  | .convert src dst x => (match P.underlying src, P.underlying dst, opd GS T x with
    | some .string, some (.slice e), some (.str s) => (match P.underlying e with
      | some (.int .u8) => bif Nat.blt s.length 1000000 then (match rowBlk e true true (s.map fun (n : Nat) => AV.int .u8 n) with
        | some blk => some (blk, fun b => .slu b 0 s.length 1)
        | none => none) else none
      | _ => none)
    | _, _, _ => none)
  | .range t x => (match P.underlying t, opd GS T x with
    | some .string, some (.str s) => some (.siter s 0, fun b => .ptr b 0)
    | _, _ => none)
  | _ => none

section
variable (σ : Nat → Value)
theorem rowBlk_BR {φ : Phi} {e : TypeId} {sp sh : Bool} {xs : List AV} {blk : Blk} (h : rowBlk e sp sh xs = some blk) {c : Array Value} {fz : Nat × Nat}
    (hl : xs.length ≤ c.size) (hsp : sp = false → c.size = xs.length) (hv : ∀ (j : Nat) (x : AV), xs[j]? = some x → ∃ v, c[j]? = some v ∧ V σ φ x v) (hfz : fz.2 ≤ fz.1 ∨ c.size ≤ fz.1) (hsh : sh = false → fz = (0, 0)) :
    BR σ φ blk c.size (.cells c e fz) := by
  unfold rowBlk at h
  split at h
  · rename_i cs hcs
    injection h with h; subst h
    refine ⟨c, fz, rfl, rfl, hl, hsp, fun i hi => ?_, hfz, hsh⟩
    have hx : xs[i]? = some xs[i] := List.getElem?_eq_getElem hi
    obtain ⟨v, k1, k2⟩ := hv i _ hx
    refine ⟨xs[i], v, ?_, k1, k2⟩
    rw [Tr.get_putAll xs .leaf 0 cs hcs i, if_pos (by omega), Nat.sub_zero, hx]
  · cases h
theorem rowBlk_VL {φ : Phi} {e : TypeId} {xs : List AV} {blk : Blk} (h : rowBlk e false false xs = some blk) {c : Array Value} (hv : VL σ φ xs c.toList) :
    BR σ φ blk c.size (.cells c e (0, 0)) :=
  rowBlk_BR σ h (by rw [← VL.len σ hv, Array.length_toList]; exact Nat.le_refl _) (fun _ => by rw [← VL.len σ hv, Array.length_toList]) (fun j x hx => by
    obtain ⟨v, h1, h2⟩ := VL.at σ hv j x hx
    exact ⟨v, by simpa using h1, h2⟩) (.inl (Nat.le_refl _)) (fun _ => rfl)
theorem repL_VL {φ : Phi} {z : List AV} {zs : List Value} (h : VL σ φ z zs) : ∀ n, VL σ φ (repL z n) ((List.replicate n zs).flatten)
  | 0 => by simp [repL, VL]
  | n + 1 => by
    simp only [repL, List.replicate_succ, List.flatten_cons]
    exact VL.append σ h (repL_VL h n)
theorem repL_nil : ∀ (n : Nat), repL [] n = []
  | 0 => rfl
  | n + 1 => by simp [repL, repL_nil n]
theorem rep_range (zs : Array Value) : ∀ n, ((Array.range (n * zs.size)).map (zs[· % zs.size]!)).toList = (List.replicate n zs.toList).flatten := by
  intro n
  rw [Array.toList_map, Array.toList_range]
  induction n with
  | zero => simp
  | succ n ih =>
    rw [List.replicate_succ', List.flatten_append, ← ih, Nat.succ_mul, List.range_add, List.map_append]
    congr 1
    simp only [List.flatten_cons, List.flatten_nil, List.append_nil, List.map_map]
    apply List.ext_getElem?
    intro j
    by_cases hj : j < zs.size
    · rw [List.getElem?_map, List.getElem?_range hj]
      simp only [Option.map_some, Function.comp_apply, Array.getElem?_toList]
      rw [Nat.mul_comm, Nat.mul_add_mod, Nat.mod_eq_of_lt hj, getElem!_pos zs j hj, Array.getElem?_eq_getElem hj]
    · rw [List.getElem?_eq_none (by simpa using hj), List.getElem?_eq_none (by simpa using hj)]

theorem alA_run {P : Program} (hσ : Okσ σ) {GS : Nat → Option Nat} {φ : Phi} {T : Tr AV} {a : Act} (w : World) (ht : TR σ φ T a) (hg : Glob GS φ) (o : Oper) {blk : Blk} {mk : Nat → AV} (h : alA P GS T o.op = some (blk, mk)) :
    ∃ u w' ob n, (execOp a.eval o).run P w = .ok (.value u) w' ∧ w'.heap = w.heap.push ob ∧ (w'.os = w.os ∧ w'.tape = w.tape ∧ w'.output = w.output) ∧ BR σ φ blk n ob ∧ ∀ (ψ : Phi) b, ψ b = some (w.heap.size, n) → V σ ψ (mk b) u := by
  obtain ⟨dst, op, type, pos, after, guard⟩ := o
  simp only at h
  unfold alA at h
  split at h
  · rename_i e
    split at h
    · rename_i z hz
      cases hsc : allScalar z.cells with
      | false => simp [hsc] at h
      | true =>
        simp only [hsc, cond_true] at h
        split at h
        · rename_i blk' hb
          injection h with h; injection h with h1 h2; subst h1; subst h2
          obtain ⟨v, z1, z2⟩ := zeroA_run σ hz w (φ := φ) (P := P)
          refine ⟨.pointer (some ⟨w.heap.size, 0, none⟩), { w with heap := w.heap.push (.cells v.cells e) }, .cells v.cells e, v.cells.size, ?_, rfl, ⟨rfl, rfl, rfl⟩, rowBlk_VL σ hb (V.cells σ hσ.small z2 hsc), fun ψ b hψ => by simp only [V]; exact ⟨_, _, hψ, rfl⟩⟩
          simp [execOp, Instr.alloc, z1, newVar, newRow]
        · cases h
    · cases h
  · rename_i e x
    split at h
    · rename_i v hv
      cases hsc : allScalar v.cells with
      | false => simp [hsc] at h
      | true =>
        simp only [hsc, cond_true] at h
        split at h
        · rename_i blk' hb
          injection h with h; injection h with h1 h2; subst h1; subst h2
          have hV := opd_V σ ht hg hv
          refine ⟨.pointer (some ⟨w.heap.size, 0, none⟩), { w with heap := w.heap.push (.cells (a.eval x).cells e) }, .cells (a.eval x).cells e, (a.eval x).cells.size, ?_, rfl, ⟨rfl, rfl, rfl⟩, rowBlk_VL σ hb (V.cells σ hσ.small hV hsc), fun ψ b hψ => by simp only [V]; exact ⟨_, _, hψ, rfl⟩⟩
          simp [execOp, Instr.box, newVar, newRow]
        · cases h
    · cases h
  · rename_i t len ps
    split at h
    · rename_i e l hu hl
      split at h
      · rename_i s z hs hz
        cases hc : (Nat.blt (len * s) 1000000 && allScalar z.cells && Nat.beq z.cells.length s) with
        | false => simp [hc] at h
        | true =>
          simp only [hc, cond_true] at h
          simp only [Bool.and_eq_true] at hc
          obtain ⟨⟨hlt, hsc⟩, hzl⟩ := hc
          have hlt : len * s < 1000000 := Nat.le_of_ble_eq_true hlt
          have hzl := Nat.eq_of_beq_eq_true hzl
          split at h
          · rename_i cs hf
            split at h
            · rename_i blk' hb
              injection h with h; injection h with h1 h2; subst h1; subst h2
              obtain ⟨v, z1, z2⟩ := zeroA_run σ hz w (φ := φ) (P := P)
              have hzc := V.cells σ hσ.small z2 hsc
              have hvs : v.cells.size = s := by rw [← hzl, ← VL.len σ hzc, Array.length_toList]
              have hbig : ¬ (len * s > 2 ^ 24) := by omega
              have hpl := parts_PL σ ht hg hl
              by_cases h0 : len * s = 0
              · have hre : repL z.cells len = [] := by
                  rcases Nat.mul_eq_zero.1 h0 with h1 | h1
                  · subst h1; rfl
                  · rw [List.length_eq_zero_iff.1 (by rw [hzl, h1] : z.cells.length = 0), repL_nil]
                rw [hre] at hf
                obtain ⟨arr, f1, f2⟩ := fillA_run σ hσ.small (fun i => some (i * s, s)) l (ps.map fun (i, x) => (i, a.eval x)).toList [] cs #[] (by rw [Array.toList_map]; exact hpl) (by simp only [VL]) hf
                refine ⟨.slice (some ⟨w.heap.size, 0, none⟩) len len, { w with heap := w.heap.push (.cells arr e) }, .cells arr e, arr.size, ?_, rfl, ⟨rfl, rfl, rfl⟩, rowBlk_VL σ hb f2, fun ψ b hψ => by simp only [V]; exact ⟨_, _, hψ, rfl⟩⟩
                generalize hgen : (ps.map fun (i, x) => (i, a.eval x)) = vv at f1
                have key : (Instr.buildSlice t len vv).run P w = .ok (.slice (some ⟨w.heap.size, 0, none⟩) len len) { w with heap := w.heap.push (.cells arr e) } := by
                  simp [Instr.buildSlice, run_underlying hu, run_szOf P hs, h0, f1, newRow, Array.range_zero']
                simp only [execOp, hgen, Sem.run_bind, key, Result.andThen_ok, Sem.run_pure]
              · have hbase : VL σ φ (repL z.cells len) ((Array.range (len * s)).map (v.cells[· % v.cells.size]!)).toList := by
                  have := rep_range v.cells len
                  rw [hvs] at this ⊢
                  rw [this]
                  exact repL_VL σ hzc len
                obtain ⟨arr, f1, f2⟩ := fillA_run σ hσ.small (fun i => some (i * s, s)) l (ps.map fun (i, x) => (i, a.eval x)).toList _ cs _ (by rw [Array.toList_map]; exact hpl) hbase hf
                refine ⟨.slice (some ⟨w.heap.size, 0, none⟩) len len, { w with heap := w.heap.push (.cells arr e) }, .cells arr e, arr.size, ?_, rfl, ⟨rfl, rfl, rfl⟩, rowBlk_VL σ hb f2, fun ψ b hψ => by simp only [V]; exact ⟨_, _, hψ, rfl⟩⟩
                generalize hgen : (ps.map fun (i, x) => (i, a.eval x)) = vv at f1
                have key : (Instr.buildSlice t len vv).run P w = .ok (.slice (some ⟨w.heap.size, 0, none⟩) len len) { w with heap := w.heap.push (.cells arr e) } := by
                  simp only [Instr.buildSlice, Sem.run_bind, run_underlying hu, run_szOf P hs, Result.andThen_ok, if_neg hbig, h0, if_false, z1, Sem.run_pure, f1, newRow, run_newObj]
                simp only [execOp, hgen, Sem.run_bind, key, Result.andThen_ok, Sem.run_pure]
            · cases h
          · cases h
      · cases h
    · cases h
  · injection h with h; injection h with h1 h2; subst h1; subst h2
    exact ⟨.map (some w.heap.size), { w with heap := w.heap.push (.map #[] 0) }, .map #[] 0, 0, by simp only [execOp, Instr.makeMap, Sem.run_bind, run_newObj, Option.map_none, Result.andThen_ok, Sem.run_pure], rfl, ⟨rfl, rfl, rfl⟩, ⟨#[], 0, rfl, [], .refl _, rfl⟩, fun ψ b hψ => by simp only [V]; exact ⟨_, _, hψ, rfl⟩⟩
  · rename_i t l c
    split at h
    · rename_i e l' c' hu hl hc
      split at h
      · rename_i i z hi hz
        cases hcc : (Nat.ble l' c' && Nat.blt c' 1000000 && Nat.blt i.bytes 1000000 && allScalar z.cells && Nat.beq z.cells.length i.size) with
        | false => simp [hcc] at h
        | true =>
          simp only [hcc, cond_true] at h
          simp only [Bool.and_eq_true] at hcc
          obtain ⟨⟨⟨⟨hle, hlt⟩, hby⟩, hsc⟩, hzl⟩ := hcc
          have hle := Nat.le_of_ble_eq_true hle
          have hlt : c' < 1000000 := Nat.le_of_ble_eq_true hlt
          have hby : i.bytes < 1000000 := Nat.le_of_ble_eq_true hby
          have hzl := Nat.eq_of_beq_eq_true hzl
          split at h
          · rename_i blk' hb
            injection h with h; injection h with h1 h2; subst h1; subst h2
            obtain ⟨v, z1, z2⟩ := zeroA_run σ hz w (φ := φ) (P := P)
            have hzc := V.cells σ hσ.small z2 hsc
            have hvs : v.cells.size = i.size := by rw [← hzl, ← VL.len σ hzc, Array.length_toList]
            have hl' := opd_V σ ht hg hl
            have hc' := opd_V σ ht hg hc
            simp only [V] at hl' hc'
            obtain ⟨zv, hzv⟩ : ∃ zv, i.zero = some zv := by
              unfold zeroA at hz
              rw [hi] at hz
              simp only at hz
              split at hz
              · rename_i zv hzv; exact ⟨zv, hzv⟩
              · cases hz
            have hvz : v = zv := by
              have : (zeroValue e).run P w = .ok zv w := by simp [zeroValue, typeInfo, hi, hzv]
              rw [this] at z1; injection z1 with z1; exact z1.symm
            subst hvz
            have hmul : (i.bytes : Int) * ((c' : Nat) : Int) ≤ 281474976710656 := by
              have : i.bytes * c' ≤ 1000000 * 1000000 := Nat.mul_le_mul (by omega) (by omega)
              have h2 : ((i.bytes * c' : Nat) : Int) ≤ ((1000000 * 1000000 : Nat) : Int) := Int.ofNat_le.2 this
              simp only [Int.natCast_mul] at h2
              omega
            have hrun := run_make (P := P) w t e i v hu hi hzv .i64 .i64 (l' : Int) (c' : Int) (by omega) (by omega) hmul (by omega)
            simp only [Int.toNat_natCast] at hrun
            have hbase : VL σ φ (repL z.cells c') (madeCells v.cells (c' * i.size)).toList := by
              have := rep_range v.cells c'
              rw [hvs] at this
              unfold madeCells
              rw [hvs, this]
              exact repL_VL σ hzc c'
            refine ⟨.slice (some ⟨w.heap.size, 0, none⟩) l' c', w.alloc (.cells (madeCells v.cells (c' * i.size)) e), .cells (madeCells v.cells (c' * i.size)) e, _, ?_, rfl, ⟨rfl, rfl, rfl⟩, rowBlk_VL σ hb hbase, fun ψ b hψ => by simp only [V]; exact ⟨_, _, hψ, rfl⟩⟩
            simp only [execOp, hl', hc', Sem.run_bind]
            rw [show (Value.int .i64 (Int.ofNat l')) = .int .i64 (l' : Int) from rfl, show (Value.int .i64 (Int.ofNat c')) = .int .i64 (c' : Int) from rfl, hrun]
            rfl
          · cases h
      · cases h
    · cases h
  · rename_i src dst x
    split at h
    · rename_i e s hs hd hx
      split at h
      · rename_i he
        cases hlt : Nat.blt s.length 1000000 with
        | false => simp [hlt] at h
        | true =>
          simp only [hlt, cond_true] at h
          have hlt : s.length < 1000000 := Nat.le_of_ble_eq_true hlt
          split at h
          · rename_i blk' hb
            injection h with h; injection h with h1 h2; subst h1; subst h2
            have hV := opd_V σ ht hg hx
            simp only [V] at hV
            obtain ⟨bs, hbe, hbs⟩ := hV
            have hrun := Lib.run_convert_string_bytes (P := P) w src dst e bs hs hd he
            have hlen : s.length = bs.size := by rw [← hbs]; simp
            have hcap : bs.size ≤ grownCap w bs.size 0 e := by unfold grownCap; simp only [Question.cut]; omega
            have hsize : (Lib.bytesCells w e bs).size = grownCap w bs.size 0 e := by simp [Lib.bytesCells]; omega
            have hheap : (Lib.bytesWorld w e bs).heap = w.heap.push (.cells (Lib.bytesCells w e bs) e ((Lib.bytesCells w e bs).size, (Lib.bytesCells w e bs).size + 1)) := by
              apply Array.ext
              · rw [Lib.bytesWorld_size]; simp
              · intro j h1 h2
                have hlt : j < w.heap.size + 1 := by simpa using h2
                apply Option.some.inj
                rw [← Array.getElem?_eq_getElem, ← Array.getElem?_eq_getElem]
                by_cases hj : j < w.heap.size
                · rw [Lib.bytesWorld_at_old w e bs j hj, Array.getElem?_push, if_neg (by omega)]
                · have : j = w.heap.size := by omega
                  subst this
                  rw [Lib.bytesWorld_at_new]; simp
            refine ⟨.slice (some ⟨w.heap.size, 0, none⟩) bs.size (grownCap w bs.size 0 e), Lib.bytesWorld w e bs, _, (Lib.bytesCells w e bs).size, ?_, hheap, ?_, rowBlk_BR σ hb ?_ (fun h => by cases h) ?_ (.inr (Nat.le_refl _)) (fun h => by cases h), fun ψ b hψ => ?_⟩
            · simp only [execOp, hbe, Sem.run_bind, hrun, Result.andThen_ok, Sem.run_pure]
            · refine ⟨?_, ?_, ?_⟩ <;> simp [Lib.bytesWorld, World.freeze, World.alloc, World.drew, -World.alloc_eq, -World.drew_eq]
            · rw [List.length_map, hlen, hsize]; exact hcap
            · intro j y hy
              rw [List.getElem?_map, Option.map_eq_some_iff] at hy
              obtain ⟨m, hm, rfl⟩ := hy
              refine ⟨.int .u8 m, ?_, by simp only [V]⟩
              have hj : j < bs.size := by rw [← hlen]; exact (List.getElem?_eq_some_iff.1 hm).1
              rw [← hbs, List.getElem?_map, Option.map_eq_some_iff] at hm
              obtain ⟨c, hc1, hc2⟩ := hm
              unfold Lib.bytesCells
              rw [Array.getElem?_append_left (by simpa using hj), Array.getElem?_map]
              rw [Array.getElem?_toList] at hc1
              rw [hc1]
              simp [← hc2]
            · simp only [V, hlen]
              exact ⟨_, _, _, hψ, rfl, by rw [hsize]; omega, hcap⟩
          · cases h
      · cases h
    · cases h
  · rename_i t x
    split at h
    · rename_i s hu hx
      injection h with h; injection h with h1 h2; subst h1; subst h2
      have hV := opd_V σ ht hg hx
      simp only [V] at hV
      obtain ⟨bs, hbe, hbs⟩ := hV
      exact ⟨.pointer (some ⟨w.heap.size, 0, none⟩), { w with heap := w.heap.push (.stringIter bs 0) }, .stringIter bs 0, 0, by simp [execOp, Instr.range, run_underlying hu, hbe], rfl, ⟨rfl, rfl, rfl⟩, ⟨bs, rfl, hbs⟩, fun ψ b hψ => by simp only [V]; exact ⟨_, _, hψ, rfl⟩⟩
    · cases h
  · cases h
end
end Go.Proofs.YtedokmdoompidaaGreatDoor.Ev
