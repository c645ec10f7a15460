/- The evaluator's operations that write: stores, appends, copies. -/
import Derived.Test.YtedokmdoompidaaGreatDoorEvL
import Derived.Laws.Append
namespace Go.Proofs.YtedokmdoompidaaGreatDoor.Ev

def storeA (P : Program) (S : St) (t : TypeId) (a x : AV) : Option St :=
  match a, szOf P t with
  | .ptr b o, some n => bif Nat.beq x.cells.length n && allScalar x.cells then storeC S b o x.cells else none
  | _, _ => none
/-- The elements of what is appended, or copied: so many, their cells. -/
def srcA (P : Program) (S : St) (t : TypeId) (size : Nat) (x : AV) (most : Option Nat) : Option (Nat × List AV) :=
  match P.underlying t, x with
  | some .string, .str s => bif Nat.beq size 1 then (match most with
    | some m => some (min s.length m, ((s.map fun (n : Nat) => AV.int .u8 n).take (min s.length m)))
    | none => some (s.length, s.map fun (n : Nat) => AV.int .u8 n)) else none
  | some (.slice _), .nils => some (0, [])
  | some (.slice _), .emp => some (0, [])
  | some (.slice _), .sl b o n _ => (match most with
    | some m => (match loadC S b o (min n m * size) with | some l => some (min n m, l) | none => none)
    | none => (match loadC S b o (n * size) with | some l => some (n, l) | none => none))
  | some (.slice _), .slu b o n _ => (match most with
    | some m => (match loadC S b o (min n m * size) with | some l => some (min n m, l) | none => none)
    | none => (match loadC S b o (n * size) with | some l => some (n, l) | none => none))
  | _, _ => none
/-- A new row, its capacity unknown. -/
def growA (S : St) (e : TypeId) (size n : Nat) (xs : List AV) : Option (AV × St) :=
  match rowBlk e true false xs with
  | some blk => (match S.h.put (some blk) 24 S.nx with
    | some h => some (.slu S.nx 0 n size, ⟨h, S.nx + 1⟩)
    | none => none)
  | none => none
def appendA (P : Program) (S : St) (t xt : TypeId) (s x : AV) : Option (AV × St) :=
  match P.underlying t with
  | some (.slice e) => (match P.info? e, zeroA P e with
    | some i, some z => bif Nat.beq z.cells.length i.size && Nat.blt 0 i.size && Nat.blt i.bytes 1000000 then
      (match srcA P S xt i.size x none with
      | some (n, new) => bif allScalar new then (match s with
        | .nils => bif Nat.beq n 0 then some (.nils, S) else bif Nat.blt n 1000000 then growA S e i.size n new else none
        | .emp => bif Nat.beq n 0 then some (.emp, S) else none
        | .sl b o len cap => bif Nat.ble (len + n) cap then
            (bif Nat.beq n 0 then some (.sl b o len cap, S) else
            match storeC S b (o + len * i.size) new with
            | some S' => some (.sl b o (len + n) cap, S')
            | none => none)
          else bif Nat.blt (len + n) 1000000 && Nat.ble len cap then (match loadC S b o (len * i.size) with
            | some old => growA S e i.size (len + n) (old ++ new)
            | none => none) else none
        | .slu b o len u => bif Nat.beq u i.size then (bif Nat.beq n 0 then some (.slu b o len u, S) else
          match S.h.get b with
          | some (.cells e0 n0 sp ro sh cs) => bif Nat.ble (o + (len + n) * i.size) n0 then
              (match storeC S b (o + len * i.size) new with
              | some S' => some (.slu b o (len + n) u, S')
              | none => none)
            else bif Nat.beq o 0 && Nat.beq (len * i.size) n0 && sp && !ro && Nat.beq e0 e && Nat.blt (len + n) 1000000 then
              (match Tr.putAll new cs n0 with
              | some cs' => (match S.h.put (some (.cells e0 (n0 + new.length) true false sh cs')) 24 S.nx with
                | some h1 => (match h1.put none 24 b with
                  | some h2 => some (.slu S.nx 0 (len + n) u, ⟨h2, S.nx + 1⟩)
                  | none => none)
                | none => none)
              | none => none) else none
          | _ => none) else none
        | _ => none) else none
      | none => none) else none
    | _, _ => none)
  | _ => none
def copyA (P : Program) (S : St) (t xt : TypeId) (d x : AV) : Option (AV × St) :=
  match P.underlying t with
  | some (.slice e) => (match szOf P e with
    | some size => (match d with
      | .nils => (match srcA P S xt size x (some 0) with
        | some (_, _) => some (.int .i64 0, S)
        | none => none)
      | .emp => (match srcA P S xt size x (some 0) with
        | some (_, _) => some (.int .i64 0, S)
        | none => none)
      | .sl b o len _ => (match srcA P S xt size x (some len) with
        | some (n, new) => (match storeC S b o new with | some S' => some (.int .i64 n, S') | none => none)
        | none => none)
      | .slu b o len _ => (match srcA P S xt size x (some len) with
        | some (n, new) => (match storeC S b o new with | some S' => some (.int .i64 n, S') | none => none)
        | none => none)
      | _ => none)
    | none => none)
  | _ => none

section
variable (σ : Nat → Value)
theorem storeA_run {P : Program} (hσ : Okσ σ) {φ : Phi} {S S' : St} {w : World} (hW : W σ φ S w) {t : TypeId} {a x : AV} {av xv : Value} (ha : V σ φ a av) (hx : V σ φ x xv) (h : storeA P S t a x = some S') :
    ∃ w', (Instr.storeAt t av xv).run P w = .ok () w' ∧ Post σ φ S w φ S' w' := by
  unfold storeA at h
  split at h
  · rename_i b o n hs
    cases hc : (Nat.beq x.cells.length n && allScalar x.cells) with
    | false => simp [hc] at h
    | true =>
      simp only [hc, cond_true] at h
      simp only [Bool.and_eq_true] at hc
      have h1 := Nat.eq_of_beq_eq_true hc.1
      simp only [V] at ha
      obtain ⟨r, m, hφ, rfl⟩ := ha
      have hcells := V.cells σ hσ.small hx hc.2
      obtain ⟨w', g1, g2⟩ := storeC_run σ (P := P) hσ.small hW hφ hcells h
      refine ⟨w', ?_, g2⟩
      have hl : xv.cells.size = n := by rw [← h1, ← VL.len σ hcells, Array.length_toList]
      simp [Instr.storeAt, Instr.sureAddr, storeVar, run_szOf P hs, hl, g1]
  · cases h

/-- The source, as the model reads it in any world with the heap's cells. -/
theorem strCells (bs : ByteArray) (n : Nat) : ((bs.extract 0 n).data.map fun b => Value.int .u8 b.toNat).toList = (((bytesOf bs).map fun (m : Nat) => Value.int .u8 m).take n) := by
  simp only [bytesOf, ByteArray.data_extract, Array.toList_map, List.map_map, Function.comp_def]
  simp
theorem VL_bytes {φ : Phi} : ∀ (l : List Nat), VL σ φ (l.map fun (n : Nat) => AV.int .u8 n) (l.map fun (m : Nat) => Value.int .u8 m)
  | [] => by simp [VL]
  | n :: l => by simp only [List.map_cons, VL]; exact ⟨_, _, rfl, by simp only [V], VL_bytes l⟩
theorem srcA_run {P : Program} {φ : Phi} {S : St} {w : World} (hW : W σ φ S w) {t : TypeId} {size : Nat} {x : AV} {xv : Value} {most : Option Nat} {n : Nat} {l : List AV} (hx : V σ φ x xv) (h : srcA P S t size x most = some (n, l)) : l.length = n * size ∧
    (∃ m, (Builtin.lenOf xv).run P w = .ok m w ∧ (most = none → n = m) ∧ (∀ k, most = some k → n = min m k)) ∧
    (∃ vs : List Value, VL σ φ l vs ∧ ∀ w', w'.heap = w.heap → (Builtin.firstCells size n xv).run P w' = .ok vs.toArray w') ∧ ∃ d, P.underlying t = some d ∧ (d = .string ∨ ∃ e, d = .slice e) := by
  unfold srcA at h
  split at h
  · rename_i s hu
    simp only [V] at hx
    obtain ⟨bs, rfl, hbs⟩ := hx
    have hlen : s.length = bs.size := by rw [← hbs]; simp
    cases hs1 : Nat.beq size 1 with
    | false => simp [hs1] at h
    | true =>
    simp only [hs1, cond_true] at h
    have hs1 := Nat.eq_of_beq_eq_true hs1
    subst hs1
    refine ⟨by
      cases most with
      | none => simp only [Option.some.injEq, Prod.mk.injEq] at h; rw [← h.1, ← h.2]; simp
      | some k => simp only [Option.some.injEq, Prod.mk.injEq] at h; rw [← h.1, ← h.2]; simp, ⟨bs.size, by simp [Builtin.lenOf], ?_, ?_⟩, ?_, _, hu, by first | exact .inl rfl | exact .inr ⟨_, rfl⟩⟩
    · intro hm; subst hm; simp only [Option.some.injEq, Prod.mk.injEq] at h; rw [← h.1, hlen]
    · intro k hk; subst hk; simp only [Option.some.injEq, Prod.mk.injEq] at h; rw [← h.1, hlen]
    · have hl : l = (s.map fun (n : Nat) => AV.int .u8 n).take n := by
        cases most with
        | none => simp only [Option.some.injEq, Prod.mk.injEq] at h; rw [← h.1, ← h.2, ← List.length_map (f := fun (n : Nat) => AV.int .u8 n), List.take_length]
        | some k => simp only [Option.some.injEq, Prod.mk.injEq] at h; rw [← h.1, ← h.2]
      refine ⟨(s.map fun (m : Nat) => Value.int .u8 m).take n, by rw [hl]; exact VL.take σ n (VL_bytes σ s), fun w' _ => ?_⟩
      simp only [Builtin.firstCells, Sem.run_pure]
      congr 1
      rw [← Array.toList_inj, strCells]
      rw [show bytesOf bs = s from hbs]
  · rename_i e hu
    simp only [V] at hx; subst hx
    simp only [Option.some.injEq, Prod.mk.injEq] at h
    obtain ⟨rfl, rfl⟩ := h
    exact ⟨by simp, ⟨0, rfl, fun _ => rfl, fun k _ => by simp⟩, ⟨[], by simp only [VL], fun w' _ => rfl⟩, _, hu, by first | exact .inl rfl | exact .inr ⟨_, rfl⟩⟩
  · rename_i e hu
    simp only [V] at hx; obtain ⟨a, c, rfl⟩ := hx
    simp only [Option.some.injEq, Prod.mk.injEq] at h
    obtain ⟨rfl, rfl⟩ := h
    exact ⟨by simp, ⟨0, rfl, fun _ => rfl, fun k _ => by simp⟩, ⟨[], by simp only [VL], fun w' _ => by simp [Builtin.firstCells, loadCells, loadCellsFrom]⟩, _, hu, by first | exact .inl rfl | exact .inr ⟨_, rfl⟩⟩
  · rename_i e b o m c hu
    simp only [V] at hx; obtain ⟨r, q, hφ, rfl⟩ := hx
    have hlen : ∀ k, loadC S b o (k * size) = some l → l.length = k * size := fun k hk => by
      obtain ⟨vs, g1, g2, _⟩ := loadC_spec σ hW hφ hk
      rw [← g2, VL.len σ g1]
    have key : ∀ k, loadC S b o (k * size) = some l → ∃ vs : List Value, VL σ φ l vs ∧ ∀ w', w'.heap = w.heap → (Builtin.firstCells size k (.slice (some ⟨r, o, none⟩) m c)).run P w' = .ok vs.toArray w' := fun k hk => by
      obtain ⟨vs, g1, g2, g3⟩ := loadC_spec σ hW hφ hk
      refine ⟨vs, g1, fun w' hw' => ?_⟩
      simp only [Builtin.firstCells]
      rw [← g2]
      exact run_loadCells_list w' _ vs (fun j v hv => by rw [addr_add]; have := g3 j v hv; simpa [World.cell?, hw'] using this)
    refine ⟨?_, ⟨m, rfl, ?_, ?_⟩, ?_, _, hu, by first | exact .inl rfl | exact .inr ⟨_, rfl⟩⟩
    · split at h
      · split at h
        · rename_i hl; simp only [Option.some.injEq, Prod.mk.injEq] at h; obtain ⟨rfl, rfl⟩ := h; exact hlen _ hl
        · cases h
      · split at h
        · rename_i hl; simp only [Option.some.injEq, Prod.mk.injEq] at h; obtain ⟨rfl, rfl⟩ := h; exact hlen _ hl
        · cases h
    · intro hm; subst hm; simp only at h; split at h
      · simp only [Option.some.injEq, Prod.mk.injEq] at h; exact h.1.symm
      · cases h
    · intro k hk; subst hk; simp only at h; split at h
      · simp only [Option.some.injEq, Prod.mk.injEq] at h; exact h.1.symm
      · cases h
    · split at h
      · split at h
        · rename_i hl; simp only [Option.some.injEq, Prod.mk.injEq] at h; obtain ⟨rfl, rfl⟩ := h; exact key _ hl
        · cases h
      · split at h
        · rename_i hl; simp only [Option.some.injEq, Prod.mk.injEq] at h; obtain ⟨rfl, rfl⟩ := h; exact key _ hl
        · cases h
  · rename_i e b o m z hu
    simp only [V] at hx; obtain ⟨r, q, c, hφ, rfl, _⟩ := hx
    have hlen : ∀ k, loadC S b o (k * size) = some l → l.length = k * size := fun k hk => by
      obtain ⟨vs, g1, g2, _⟩ := loadC_spec σ hW hφ hk
      rw [← g2, VL.len σ g1]
    have key : ∀ k, loadC S b o (k * size) = some l → ∃ vs : List Value, VL σ φ l vs ∧ ∀ w', w'.heap = w.heap → (Builtin.firstCells size k (.slice (some ⟨r, o, none⟩) m c)).run P w' = .ok vs.toArray w' := fun k hk => by
      obtain ⟨vs, g1, g2, g3⟩ := loadC_spec σ hW hφ hk
      refine ⟨vs, g1, fun w' hw' => ?_⟩
      simp only [Builtin.firstCells]
      rw [← g2]
      exact run_loadCells_list w' _ vs (fun j v hv => by rw [addr_add]; have := g3 j v hv; simpa [World.cell?, hw'] using this)
    refine ⟨?_, ⟨m, rfl, ?_, ?_⟩, ?_, _, hu, by first | exact .inl rfl | exact .inr ⟨_, rfl⟩⟩
    · split at h
      · split at h
        · rename_i hl; simp only [Option.some.injEq, Prod.mk.injEq] at h; obtain ⟨rfl, rfl⟩ := h; exact hlen _ hl
        · cases h
      · split at h
        · rename_i hl; simp only [Option.some.injEq, Prod.mk.injEq] at h; obtain ⟨rfl, rfl⟩ := h; exact hlen _ hl
        · cases h
    · intro hm; subst hm; simp only at h; split at h
      · simp only [Option.some.injEq, Prod.mk.injEq] at h; exact h.1.symm
      · cases h
    · intro k hk; subst hk; simp only at h; split at h
      · simp only [Option.some.injEq, Prod.mk.injEq] at h; exact h.1.symm
      · cases h
    · split at h
      · split at h
        · rename_i hl; simp only [Option.some.injEq, Prod.mk.injEq] at h; obtain ⟨rfl, rfl⟩ := h; exact key _ hl
        · cases h
      · split at h
        · rename_i hl; simp only [Option.some.injEq, Prod.mk.injEq] at h; obtain ⟨rfl, rfl⟩ := h; exact key _ hl
        · cases h
  · cases h

theorem app_room {P : Program} {w : World} {t xt e ty : TypeId} {d : TypeDesc} {size n sLen sCap : Nat} {x : Value} {base : Option Addr} {new : Array Value} (ht : P.underlying t = some (.slice e)) (hx : P.underlying xt = some d) (hd : d = .string ∨ ∃ e, d = .slice e)
    (hs : szOf P e = some size) (hl : (Builtin.lenOf x).run P w = .ok n w) (hf : (Builtin.firstCells size n x).run P w = .ok new w) (hle : sLen + n ≤ sCap) :
    (Builtin.append_ #[t, xt] ty #[.slice base sLen sCap, x]).run P w = (match base with
      | some a => ((storeCells (a.add (sLen * size)) new.toList).run P w).andThen fun _ w' => .ok (.slice (some a) (sLen + n) sCap) w'
      | none => .ok (.slice none (sLen + n) sCap) w) := by
  rcases hd with rfl | ⟨e', rfl⟩
  · cases base <;> simp [Builtin.append_, run_underlying ht, run_underlying hx, run_szOf P hs, hl, hf, hle]
  · cases base <;> simp [Builtin.append_, run_underlying ht, run_underlying hx, run_szOf P hs, hl, hf, hle]
theorem app_grow {P : Program} {w : World} {t xt e ty : TypeId} {d : TypeDesc} {i : TypeInfo} {z : Value} {n sLen sCap : Nat} {x : Value} {base : Option Addr} {old new : Array Value} (ht : P.underlying t = some (.slice e)) (hx : P.underlying xt = some d) (hd : d = .string ∨ ∃ e, d = .slice e)
    (hi : P.info? e = some i) (hz : i.zero = some z) (hl : (Builtin.lenOf x).run P w = .ok n w) (hf : (Builtin.firstCells i.size n x).run P w.drew = .ok new w.drew) (hfo : (Builtin.firstCells i.size sLen (.slice base sLen sCap)).run P w.drew = .ok old w.drew) (hle : sCap < sLen + n) (hn : sLen + n < 1000000) (hb : i.bytes < 1000000) :
    (Builtin.append_ #[t, xt] ty #[.slice base sLen sCap, x]).run P w =
      .ok (.slice (some ⟨w.heap.size, 0, none⟩) (sLen + n) (grownCap w (sLen + n) sCap e)) (w.drew.alloc (.cells (old ++ new ++ Builtin.zeroCells z.cells (grownCap w (sLen + n) sCap e - (sLen + n))) e)) := by
  have hfit : Builtin.nextslicecap (sLen + n) sCap * i.bytes ≤ 281474976710656 := growslice_fits hle (by
    have : (sLen + n) * i.bytes ≤ 1000000 * 1000000 := Nat.mul_le_mul (by omega) (by omega)
    omega)
  have c1 : ¬ (sLen + n ≤ sCap) := by omega
  have c2 : ¬ (9223372036854775807 < ((sLen : Int) + (n : Int))) := by omega
  have c3 : ¬ (281474976710656 < Builtin.nextslicecap (sLen + n) sCap * i.bytes) := by omega
  rcases hd with rfl | ⟨e', rfl⟩
  · simp [Builtin.append_, run_underlying ht, run_underlying hx, sizeOf, typeInfo, zeroValue, hi, hz, hl, c1, c2, c3, Question.forced, hf, hfo, newRow, grownCap]
  · simp [Builtin.append_, run_underlying ht, run_underlying hx, sizeOf, typeInfo, zeroValue, hi, hz, hl, c1, c2, c3, Question.forced, hf, hfo, newRow, grownCap]
end
end Go.Proofs.YtedokmdoompidaaGreatDoor.Ev
