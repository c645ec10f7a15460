/- Holds: as data, and as they lie in cells. -/
import Derived.Test.YtdmejbjpbjcfbaaGreatDoorMem
import Derived.Test.YtdmejbjpbjcfbaaGreatDoorActDefs
import Derived.Test.YtdmejbjpbjcfbaaGreatDoorKeyDefs
namespace Go.Proofs.YtdmejbjpbjcfbaaGreatDoor
open Go.RowKit

/-- A hold as it lies in cells. -/
structure HoldV where
  key : ByteArray
  cl : Int
  nm : Int
  ao : Option Addr
  an : Nat
  ac : Nat
  ro : Option Addr
  rn : Nat
  rc : Nat
  put : Bool
  value : ByteArray
def encHV (h : HoldV) : List Value := [.string h.key, .int .i64 h.cl, .int .i64 h.nm, .slice h.ao h.an h.ac, .slice h.ro h.rn h.rc, .bool h.put, .string h.value]
/-- A hold as data. -/
structure HoldD where
  key : ByteArray
  cl : Int
  nm : Int
  acts : List ActD
  reads : List Rd
  put : Bool
  value : ByteArray
theorem one_hold : ∀ (x : HoldV), ∀ u ∈ encHV x, u.oneCell' = true := by
  intro x u hu
  simp only [encHV, List.mem_cons, List.not_mem_nil, or_false] at hu
  rcases hu with rfl | rfl | rfl | rfl | rfl | rfl | rfl <;> rfl

/-- A row of elements that lies in no block of 'no'. -/
def NRows {α : Type} (sz : Nat) (enc : α → List Value) (no : Nat → Prop) (w : World) (ao : Option Addr) (l : List α) : Prop :=
  l ≠ [] → ∃ b off, ao = some ⟨b, off, none⟩ ∧ b < w.heap.size ∧ ¬ no b ∧ ∀ (i : Nat) (x : α), l[i]? = some x → ∀ (j : Nat) (v : Value), (enc x)[j]? = some v → w.cell? ⟨b, off + i * sz + j, none⟩ = some v
theorem NRows.rows {α : Type} {sz : Nat} {enc : α → List Value} {no : Nat → Prop} {w : World} {ao : Option Addr} {l : List α} (h : NRows sz enc no w ao l) : Rows sz enc w.heap.size w ao l := by
  intro hne
  obtain ⟨b, off, rfl, hb, _, hc⟩ := h hne
  exact ⟨b, off, rfl, hb, hc⟩
theorem Rows.nrows {α : Type} {sz : Nat} {enc : α → List Value} {no : Nat → Prop} {B : Nat} {w : World} {ao : Option Addr} {l : List α} (h : Rows sz enc B w ao l) (hB : B ≤ w.heap.size) (hno : ∀ b, b < B → ¬ no b) : NRows sz enc no w ao l := by
  intro hne
  obtain ⟨b, off, rfl, hb, hc⟩ := h hne
  exact ⟨b, off, rfl, by omega, hno b hb, hc⟩
theorem NRows.but {α : Type} {sz : Nat} {enc : α → List Value} {no S : Nat → Prop} {w w' : World} {ao : Option Addr} {l : List α} (h : NRows sz enc no w ao l) (hx : But S w w') (hS : ∀ b, b < w.heap.size → S b → no b) : NRows sz enc no w' ao l := by
  intro hne
  obtain ⟨b, off, rfl, hb, hn, hc⟩ := h hne
  exact ⟨b, off, rfl, by have := hx.size; omega, hn, fun i x hi j v hj => (hx.cell (p := ⟨b, _, none⟩) hb (fun e => hn (hS b hb e))).trans (hc i x hi j v hj)⟩
theorem NRows.ext {α : Type} {sz : Nat} {enc : α → List Value} {no : Nat → Prop} {w w' : World} {ao : Option Addr} {l : List α} (h : NRows sz enc no w ao l) (hx : Ext w w') : NRows sz enc no w' ao l :=
  h.but (Ext.but hx (fun _ => False)) (fun _ _ e => e.elim)
theorem NRows.mono {α : Type} {sz : Nat} {enc : α → List Value} {no no' : Nat → Prop} {w : World} {ao : Option Addr} {l : List α} (h : NRows sz enc no w ao l) (hno : ∀ b, b < w.heap.size → no' b → no b) : NRows sz enc no' w ao l := by
  intro hne
  obtain ⟨b, off, rfl, hb, hn, hc⟩ := h hne
  exact ⟨b, off, rfl, hb, fun e => hn (hno b hb e), hc⟩

theorem nrows_of_own {α : Type} {sz : Nat} {enc : α → List Value} {no : Nat → Prop} {B : Nat} {e : TypeId} {w : World} {ro : Option Addr} {cap : Nat} {l : List α} (hsz : ∀ x, (enc x).length = sz) (h : w.ownsRow B e sz (.slice ro l.length cap) l.length (l.flatMap enc)) (hno : ∀ k, (Value.slice ro l.length cap).ownBlock = some k → ¬ no k) : NRows sz enc no w ro l := by
  obtain ⟨ao, c, hv, _, _, hr⟩ := Rows.own hsz h
  simp only [Value.slice.injEq, true_and] at hv
  obtain ⟨rfl, rfl⟩ := hv
  intro hne
  obtain ⟨b, off, rfl, hb, hc⟩ := hr hne
  exact ⟨b, off, rfl, hb, hno b (by simp [Value.ownBlock]), hc⟩
/-- A hold's cells say the hold; its rows lie in no block of 'no'. -/
structure HoldV.is (w : World) (no : Nat → Prop) (v : HoldV) (d : HoldD) : Prop where
  key : v.key = d.key
  cl : v.cl = d.cl
  nm : v.nm = d.nm
  an : v.an = d.acts.length
  rn : v.rn = d.reads.length
  put : v.put = d.put
  value : v.value = d.value
  acts : NRows 4 encAct no w v.ao d.acts
  reads : NRows 3 encRd no w v.ro d.reads
theorem HoldV.is.but {w w' : World} {no S : Nat → Prop} {v : HoldV} {d : HoldD} (h : v.is w no d) (hx : But S w w') (hS : ∀ b, b < w.heap.size → S b → no b) : v.is w' no d :=
  ⟨h.key, h.cl, h.nm, h.an, h.rn, h.put, h.value, h.acts.but hx hS, h.reads.but hx hS⟩
theorem HoldV.is.ext {w w' : World} {no : Nat → Prop} {v : HoldV} {d : HoldD} (h : v.is w no d) (hx : Ext w w') : v.is w' no d :=
  ⟨h.key, h.cl, h.nm, h.an, h.rn, h.put, h.value, h.acts.ext hx, h.reads.ext hx⟩
theorem HoldV.is.mono {w : World} {no no' : Nat → Prop} {v : HoldV} {d : HoldD} (h : v.is w no d) (hno : ∀ b, b < w.heap.size → no' b → no b) : v.is w no' d :=
  ⟨h.key, h.cl, h.nm, h.an, h.rn, h.put, h.value, h.acts.mono hno, h.reads.mono hno⟩
/-- Rows of holds, one for one. -/
def HoldsAre (w : World) (no : Nat → Prop) : List HoldV → List HoldD → Prop
  | [], [] => True
  | v :: vs, d :: ds => v.is w no d ∧ HoldsAre w no vs ds
  | _, _ => False
theorem HoldsAre.len {w : World} {no : Nat → Prop} : ∀ {vs : List HoldV} {ds : List HoldD}, HoldsAre w no vs ds → vs.length = ds.length
  | [], [], _ => rfl
  | [], _ :: _, h => h.elim
  | _ :: _, [], h => h.elim
  | _ :: _, _ :: _, h => by rw [List.length_cons, List.length_cons, HoldsAre.len h.2]
theorem HoldsAre.but {w w' : World} {no S : Nat → Prop} (hx : But S w w') (hS : ∀ b, b < w.heap.size → S b → no b) : ∀ {vs : List HoldV} {ds : List HoldD}, HoldsAre w no vs ds → HoldsAre w' no vs ds
  | [], [], _ => trivial
  | [], _ :: _, h => h.elim
  | _ :: _, [], h => h.elim
  | _ :: _, _ :: _, h => ⟨h.1.but hx hS, HoldsAre.but hx hS h.2⟩
theorem HoldsAre.ext {w w' : World} {no : Nat → Prop} (hx : Ext w w') : ∀ {vs : List HoldV} {ds : List HoldD}, HoldsAre w no vs ds → HoldsAre w' no vs ds :=
  HoldsAre.but (Ext.but hx (fun _ => False)) (fun _ _ e => e.elim)
theorem HoldsAre.mono {w : World} {no no' : Nat → Prop} (hno : ∀ b, b < w.heap.size → no' b → no b) : ∀ {vs : List HoldV} {ds : List HoldD}, HoldsAre w no vs ds → HoldsAre w no' vs ds
  | [], [], _ => trivial
  | [], _ :: _, h => h.elim
  | _ :: _, [], h => h.elim
  | _ :: _, _ :: _, h => ⟨h.1.mono hno, HoldsAre.mono hno h.2⟩
theorem HoldsAre.at {w : World} {no : Nat → Prop} : ∀ {vs : List HoldV} {ds : List HoldD}, HoldsAre w no vs ds → ∀ (i : Nat) (v : HoldV), vs[i]? = some v → ∃ d, ds[i]? = some d ∧ v.is w no d
  | [], [], _, i, v, h => by simp at h
  | [], _ :: _, h, _, _, _ => h.elim
  | _ :: _, [], h, _, _, _ => h.elim
  | v0 :: vs, d0 :: ds, h, 0, v, hv => ⟨d0, rfl, by simp at hv; subst hv; exact h.1⟩
  | v0 :: vs, d0 :: ds, h, i + 1, v, hv => HoldsAre.at h.2 i v (by simpa using hv)
theorem HoldsAre.append {w : World} {no : Nat → Prop} : ∀ {vs : List HoldV} {ds : List HoldD} {vs' : List HoldV} {ds' : List HoldD}, HoldsAre w no vs ds → HoldsAre w no vs' ds' → HoldsAre w no (vs ++ vs') (ds ++ ds')
  | [], [], _, _, _, h => h
  | [], _ :: _, _, _, h, _ => h.elim
  | _ :: _, [], _, _, h, _ => h.elim
  | _ :: _, _ :: _, _, _, h, h' => ⟨h.1, HoldsAre.append h.2 h'⟩
theorem HoldsAre.take {w : World} {no : Nat → Prop} : ∀ {vs : List HoldV} {ds : List HoldD}, HoldsAre w no vs ds → ∀ k, HoldsAre w no (vs.take k) (ds.take k)
  | [], [], _, k => by simp [HoldsAre]
  | [], _ :: _, h, _ => h.elim
  | _ :: _, [], h, _ => h.elim
  | _ :: _, _ :: _, _, 0 => trivial
  | _ :: _, _ :: _, h, k + 1 => ⟨h.1, HoldsAre.take h.2 k⟩
theorem HoldsAre.drop {w : World} {no : Nat → Prop} : ∀ {vs : List HoldV} {ds : List HoldD}, HoldsAre w no vs ds → ∀ k, HoldsAre w no (vs.drop k) (ds.drop k)
  | [], [], _, k => by simp [HoldsAre]
  | [], _ :: _, h, _ => h.elim
  | _ :: _, [], h, _ => h.elim
  | _ :: _, _ :: _, h, 0 => h
  | _ :: _, _ :: _, h, k + 1 => HoldsAre.drop h.2 k
theorem HoldsAre.keys {w : World} {no : Nat → Prop} : ∀ {vs : List HoldV} {ds : List HoldD}, HoldsAre w no vs ds → vs.map (·.key) = ds.map (·.key)
  | [], [], _ => rfl
  | [], _ :: _, h => h.elim
  | _ :: _, [], h => h.elim
  | _ :: _, _ :: _, h => by rw [List.map_cons, List.map_cons, h.1.key, HoldsAre.keys h.2]
end Go.Proofs.YtdmejbjpbjcfbaaGreatDoor
