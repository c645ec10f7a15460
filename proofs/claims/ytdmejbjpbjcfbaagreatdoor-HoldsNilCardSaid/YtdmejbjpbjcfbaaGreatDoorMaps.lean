/- Maps with keys of a plain kind, told by their entries. -/
import Derived.Test.YtdmejbjpbjcfbaaGreatDoorMem
import Derived.MapKept
namespace Go.Proofs.YtdmejbjpbjcfbaaGreatDoor
open Go.RowKit

/-- Kinds of keys that are told apart at sight. -/
def plainKey : TypeDesc → Bool
  | .int _ | .string | .bool => true
  | _ => false
theorem set_push {α : Type} (xs : Array α) (a b : α) : (xs.push a).setIfInBounds xs.size b = xs.push b := by
  apply Array.ext_getElem?
  intro i
  by_cases h : i = xs.size
  · subst h; simp
  · rw [Array.getElem?_setIfInBounds_ne (fun e => h e.symm), Array.getElem?_push, Array.getElem?_push]
    simp [h]
section
variable {P : Program}
theorem run_checkKey {k : TypeId} {d : TypeDesc} (hk : P.underlying k = some d) (hd : plainKey d = true) (em : Bool) (v : Value) (w : World) : (Instr.checkKey em 10000 k v).run P w = .ok () w := by
  rw [show (10000 : Nat) = 9999 + 1 from rfl, Instr.checkKey]
  cases d <;> simp [plainKey] at hd <;> simp [run_underlying hk]
theorem run_lookup_hit {t k e : TypeId} {d : TypeDesc} (ht : P.underlying t = some (.map k e)) (hk : P.underlying k = some d) (hd : plainKey d = true) {w : World} {r : Nat} {es : Array MapEntry} {c : Nat}
    (hb : w.heap[r]? = some (.map es c)) {key v : Value} {i : Nat} (hf : Instr.findNow d key es.toList 0 = some (some (i, v))) (ok : Bool) :
    (Instr.lookup t (.map (some r)) key ok).run P w = .ok (if ok then .tuple #[v, .bool true] else v) w := by
  have h1 := MapKept.run_findKey (w := w) hk hf
  simp [Instr.lookup, run_underlying ht, MapKept.run_getObj_map hb, run_checkKey hk hd, h1]
theorem run_lookup_miss {t k e : TypeId} {d : TypeDesc} (ht : P.underlying t = some (.map k e)) (hk : P.underlying k = some d) (hd : plainKey d = true) {w : World} {r : Nat} {es : Array MapEntry} {c : Nat}
    (hb : w.heap[r]? = some (.map es c)) {key z : Value} (hz : (zeroValue e).run P w = .ok z w) (hf : Instr.findNow d key es.toList 0 = some none) (ok : Bool) :
    (Instr.lookup t (.map (some r)) key ok).run P w = .ok (if ok then .tuple #[z, .bool false] else z) w := by
  have h1 := MapKept.run_findKey (w := w) hk hf
  simp [Instr.lookup, run_underlying ht, MapKept.run_getObj_map hb, run_checkKey hk hd, h1, hz]
theorem run_mapUpdate_add {t k e : TypeId} {d : TypeDesc} (ht : P.underlying t = some (.map k e)) (hk : P.underlying k = some d) (hd : plainKey d = true) (W : World) (n : Nat) (hn : n = W.heap.size) (es : Array MapEntry) (c : Nat)
    {key v : Value} (hf : Instr.findNow d key es.toList 0 = some none) :
    (Instr.mapUpdate t (.map (some n)) key v).run P (W.alloc (.map es c)) = .ok () (W.alloc (.map (es.push { key, val := v, born := c }) (c + 1))) := by
  subst hn
  have h1 := MapKept.run_findKey (w := W.alloc (.map es c)) hk hf
  have hb : (W.alloc (.map es c)).heap[W.heap.size]? = some (.map es c) := heap_alloc_new W _
  simp [Instr.mapUpdate, run_underlying ht, MapKept.run_getObj_map hb, run_checkKey hk hd, h1, MapKept.run_setObj_map _ hb]
  show World.mk ((W.heap.push _).setIfInBounds W.heap.size _) _ _ _ _ = World.mk (W.heap.push _) _ _ _ _
  rw [set_push]
  rfl
/-- The same behind the draw of a region's order, the entries as a list. -/
theorem run_mapUpdate_drew {t k e : TypeId} {d : TypeDesc} (ht : P.underlying t = some (.map k e)) (hk : P.underlying k = some d) (hd : plainKey d = true) (W : World) (n : Nat) (hn : n = W.heap.size) (es : List MapEntry) (c : Nat)
    (key v : Value) (hf : Instr.findNow d key es 0 = some none) :
    (Instr.mapUpdate t (.map (some n)) key v).run P (W.alloc (.map es.toArray c)).drew = .ok () (W.alloc (.map (es ++ [MapEntry.mk key v c]).toArray (c + 1))).drew := by
  have h := run_mapUpdate_add (P := P) ht hk hd W.drew n hn es.toArray c (key := key) (v := v) hf
  rw [List.push_toArray] at h
  exact h
end
end Go.Proofs.YtdmejbjpbjcfbaaGreatDoor
