/- A slice of acts, opened: from the data that a row reads to the cells that a walk reads. -/
import Derived.Test.YtbnclifpdmpjnaaGreatDoorZ02
import Derived.ProofKit
import Derived.Deep.Slices
import Derived.Deep.Strs
import Derived.Lib.SmallJoins
import Derived.SizedLaws
import Derived.IntWalk
import Derived.Test.YtbnclifpdmpjnaaGreatDoorZ01
import Derived.Test.YtbnclifpdmpjnaaGreatDoorShelf
import Derived.Shelf.Strings.SlTrimAscii
namespace Go.Proofs.YtbnclifpdmpjnaaGreatDoor
open Go.ChangeShapes Go.WideShapes Go.ChangeAt Go.RowKit Go.Deep Go.Joins
theorem weightsAll_mem {H : Type} {P : Program} {e : TypeId} : ∀ {l : List (DataW H)} {d : DataW H}, d ∈ l → ∀ n ∈ d.weights P e, n ∈ DataW.weightsAll P e l
  | x :: r, d, hd, n, hn => by
    unfold DataW.weightsAll
    rcases List.mem_cons.1 hd with rfl | h
    · exact List.mem_append_left _ hn
    · exact List.mem_append_right _ (weightsAll_mem h n hn)
def ActD.fits (a : ActD) (ws : List Nat) : Prop := (0 ≤ a.kind ∧ a.kind ≤ 255) ∧ (-9223372036854775808 ≤ a.num ∧ a.num ≤ 9223372036854775807) ∧ a.key.size ∈ ws ∧ a.value.size ∈ ws
theorem ActD.fits.ok {a : ActD} {ws : List Nat} (h : a.fits ws) (hw : ws.all (· ≤ reachBytes) = true) : a.ok := by
  obtain ⟨⟨k0, k1⟩, ⟨n0, n1⟩, h1, h2⟩ := h
  have b1 := List.all_eq_true.1 hw _ h1
  have b2 := List.all_eq_true.1 hw _ h2
  simp only [decide_eq_true_eq] at b1 b2
  exact ⟨k0, k1, b1, b2, n0, n1⟩
set_option maxRecDepth 10000 in
theorem open_acts {H : Type} {enc : TypeId × Value → H} {W : World} {sp : Nat → Bool} {held : Bool} {fuel : Nat} {cs : List Value} {x : DataW H × List MemPlace} (h : DataW.trod enc Tryz.prog W 0 sp held fuel 27 cs = some x) :
    ∃ (ao : Option Addr) (cap : Nat) (l : List ActD), cs = [.slice ao l.length cap] ∧ l.length ≤ cap ∧ cap ≤ maxLen ∧ Rows 4 encAct W.heap.size W ao l ∧ ∀ a ∈ l, a.fits (x.1.weights Tryz.prog 27) := by
  rcases open_slice Tryz.underlying27 h with ⟨rfl, rfl⟩ | ⟨a, len, cap, m, n, D, Pl, rfl, hb, hl, hm, hmm, rfl, hx⟩
  · exact ⟨none, 0, [], rfl, Nat.le_refl _, by simp [maxLen], Rows.nil _ _ _ _ _, fun _ h => by cases h⟩
  have hlm : len ≤ m := by rw [hmm]; split <;> omega
  have each : ∀ i, i < len → ∃ q : ActD, (∀ (j : Nat) (v : Value), (encAct q)[j]? = some v → W.cell? (a.add (i * 4 + j)) = some v) ∧ q.fits ((D i).weights Tryz.prog 114) := by
    intro i hi
    obtain ⟨cs', h1, h2⟩ := hx i (by omega)
    have ce : Tryz.prog.cellsOf 114 = 4 := by kernel_rfl
    have c0 : Tryz.prog.cellsOf 112 = 1 := by kernel_rfl
    have c1 : Tryz.prog.cellsOf 9 = 1 := by kernel_rfl
    have c3 : Tryz.prog.cellsOf 3 = 1 := by kernel_rfl
    rw [ce] at h1
    obtain ⟨_, hlen, hcell⟩ := World.cells?_some h1
    obtain ⟨y0, y1, y2, y3, k, hxy, _, g0, g1, g2, g3⟩ := trod_struct4 Tryz.underlying114 h2
    match cs', hlen with
    | [v0, v1, v2, v3], _ =>
      simp [c0, c1, c3] at g0 g1 g2 g3
      obtain ⟨kd, e0, rfl, w0⟩ := DataW.trod_int Tryz.underlying112 g0
      obtain ⟨key, e1, rfl, _⟩ := DataW.trod_string Tryz.underlying9 g1
      obtain ⟨val, e2, rfl, _⟩ := DataW.trod_string Tryz.underlying9 g2
      obtain ⟨num, e3, rfl, w3⟩ := DataW.trod_int Tryz.underlying3 g3
      simp only [List.cons.injEq, and_true] at e0 e1 e2 e3
      subst e0 e1 e2 e3
      refine ⟨⟨kd, key, val, num⟩, fun j v hj => ?_, ?_, ?_, ?_, ?_⟩
      · have hj4 : j < 4 := (List.getElem?_eq_some_iff.1 hj).1
        have := hcell j hj4
        rw [add_add] at this
        rw [this]; exact hj
      · simpa [Lit.wf, IntKind.min, IntKind.max, IntKind.signed, IntKind.bits] using w0
      · simpa [Lit.wf, IntKind.min, IntKind.max, IntKind.signed, IntKind.bits] using w3
      · rw [show D i = _ from (Prod.mk.inj hxy).1, Lib.size_eq]
        simp [DataW.weights, Tryz.underlying114, DataW.weightsEach]
      · rw [show D i = _ from (Prod.mk.inj hxy).1, Lib.size_eq]
        simp [DataW.weights, Tryz.underlying114, DataW.weightsEach]
  obtain ⟨q, hq⟩ := choose_lt each
  refine ⟨some a, cap, (List.range len).map q, by simp, by simpa using hl, hm, ?_, ?_⟩
  · intro hne
    have hpos : 0 < len := by
      rcases Nat.eq_zero_or_pos len with h0 | h0
      · subst h0; exact absurd rfl hne
      · exact h0
    obtain ⟨b, off, spot⟩ := a
    have h00 := (hq 0 hpos).1 0 _ rfl
    have hs : spot = none ∧ b < W.heap.size := by
      unfold Addr.add at h00
      simp only [Nat.zero_mul, Nat.add_zero, if_true] at h00
      unfold World.cell? at h00
      cases hb : W.heap[b]? with
      | none => simp [hb] at h00
      | some o =>
        refine ⟨?_, lt_of_block hb⟩
        cases spot with
        | none => rfl
        | some s => cases o <;> simp [hb] at h00
    obtain ⟨rfl, hbl⟩ := hs
    refine ⟨b, off, rfl, hbl, fun i x hi j v hj => ?_⟩
    obtain ⟨hil, hix⟩ : i < len ∧ q i = x := by
      rw [List.getElem?_map] at hi
      by_cases hil : i < len
      · simp [hil] at hi; exact ⟨hil, hi⟩
      · rw [List.getElem?_eq_none (by simpa using hil)] at hi; cases hi
    subst hix
    have := (hq i hil).1 j v hj
    rw [add_plain] at this
    rw [Nat.add_assoc]
    exact this
  · intro y hy
    obtain ⟨i, hi, rfl⟩ := List.mem_map.1 hy
    have hi' := List.mem_range.1 hi
    obtain ⟨r1, r2, r3, r4⟩ := (hq i hi').2
    have up : ∀ z ∈ (D i).weights Tryz.prog 114, z ∈ DataW.weights Tryz.prog 27 (.slice ((List.range len).map D) ((List.range (m - len)).map fun j => D (len + j))) := fun z hz => by
      simp only [DataW.weights, Tryz.underlying27]
      exact List.mem_cons_of_mem _ (List.mem_append_left _ (weightsAll_mem (List.mem_map.2 ⟨i, hi, rfl⟩) z hz))
    exact ⟨r1, r2, up _ r3, up _ r4⟩
end Go.Proofs.YtbnclifpdmpjnaaGreatDoor
/- Holds: as data, and as they lie in cells. -/
namespace Go.Proofs.YtbnclifpdmpjnaaGreatDoor
open Go.RowKit
structure HoldV where
  key : ByteArray
  cl : Int
  nm : Int
  ao : Option Addr
  an : Nat
  ac : Nat
  ro : Option Addr
  rn : Nat
  rc : Nat
  put : Bool
  value : ByteArray
def encHV (h : HoldV) : List Value := [.string h.key, .int .i64 h.cl, .int .i64 h.nm, .slice h.ao h.an h.ac, .slice h.ro h.rn h.rc, .bool h.put, .string h.value]
structure HoldD where
  key : ByteArray
  cl : Int
  nm : Int
  acts : List ActD
  reads : List Rd
  put : Bool
  value : ByteArray
def NRows {α : Type} (sz : Nat) (enc : α → List Value) (no : Nat → Prop) (w : World) (ao : Option Addr) (l : List α) : Prop :=
  l ≠ [] → ∃ b off, ao = some ⟨b, off, none⟩ ∧ b < w.heap.size ∧ ¬ no b ∧ ∀ (i : Nat) (x : α), l[i]? = some x → ∀ (j : Nat) (v : Value), (enc x)[j]? = some v → w.cell? ⟨b, off + i * sz + j, none⟩ = some v
theorem NRows.rows {α : Type} {sz : Nat} {enc : α → List Value} {no : Nat → Prop} {w : World} {ao : Option Addr} {l : List α} (h : NRows sz enc no w ao l) : Rows sz enc w.heap.size w ao l := by
  intro hne
  obtain ⟨b, off, rfl, hb, _, hc⟩ := h hne
  exact ⟨b, off, rfl, hb, hc⟩
theorem Rows.nrows {α : Type} {sz : Nat} {enc : α → List Value} {no : Nat → Prop} {B : Nat} {w : World} {ao : Option Addr} {l : List α} (h : Rows sz enc B w ao l) (hB : B ≤ w.heap.size) (hno : ∀ b, b < B → ¬ no b) : NRows sz enc no w ao l := by
  intro hne
  obtain ⟨b, off, rfl, hb, hc⟩ := h hne
  exact ⟨b, off, rfl, by omega, hno b hb, hc⟩
theorem NRows.but {α : Type} {sz : Nat} {enc : α → List Value} {no S : Nat → Prop} {w w' : World} {ao : Option Addr} {l : List α} (h : NRows sz enc no w ao l) (hx : But S w w') (hS : ∀ b, b < w.heap.size → S b → no b) : NRows sz enc no w' ao l := by
  intro hne
  obtain ⟨b, off, rfl, hb, hn, hc⟩ := h hne
  exact ⟨b, off, rfl, by have := hx.size; omega, hn, fun i x hi j v hj => (hx.cell (p := ⟨b, _, none⟩) hb (fun e => hn (hS b hb e))).trans (hc i x hi j v hj)⟩
theorem NRows.ext {α : Type} {sz : Nat} {enc : α → List Value} {no : Nat → Prop} {w w' : World} {ao : Option Addr} {l : List α} (h : NRows sz enc no w ao l) (hx : Ext w w') : NRows sz enc no w' ao l :=
  h.but (Ext.but hx (fun _ => False)) (fun _ _ e => e.elim)
theorem NRows.mono {α : Type} {sz : Nat} {enc : α → List Value} {no no' : Nat → Prop} {w : World} {ao : Option Addr} {l : List α} (h : NRows sz enc no w ao l) (hno : ∀ b, b < w.heap.size → no' b → no b) : NRows sz enc no' w ao l := by
  intro hne
  obtain ⟨b, off, rfl, hb, hn, hc⟩ := h hne
  exact ⟨b, off, rfl, hb, fun e => hn (hno b hb e), hc⟩
theorem nrows_of_own {α : Type} {sz : Nat} {enc : α → List Value} {no : Nat → Prop} {B : Nat} {e : TypeId} {w : World} {ro : Option Addr} {cap : Nat} {l : List α} (hsz : ∀ x, (enc x).length = sz) (h : w.ownsRow B e sz (.slice ro l.length cap) l.length (l.flatMap enc)) (hno : ∀ k, (Value.slice ro l.length cap).ownBlock = some k → ¬ no k) : NRows sz enc no w ro l := by
  obtain ⟨ao, c, hv, _, _, hr⟩ := Rows.own hsz h
  simp only [Value.slice.injEq, true_and] at hv
  obtain ⟨rfl, rfl⟩ := hv
  intro hne
  obtain ⟨b, off, rfl, hb, hc⟩ := hr hne
  exact ⟨b, off, rfl, hb, hno b (by simp [Value.ownBlock]), hc⟩
structure HoldV.is (w : World) (no : Nat → Prop) (v : HoldV) (d : HoldD) : Prop where
  key : v.key = d.key
  cl : v.cl = d.cl
  nm : v.nm = d.nm
  an : v.an = d.acts.length
  rn : v.rn = d.reads.length
  put : v.put = d.put
  value : v.value = d.value
  acts : NRows 4 encAct no w v.ao d.acts
  reads : NRows 3 encRd no w v.ro d.reads
theorem HoldV.is.but {w w' : World} {no S : Nat → Prop} {v : HoldV} {d : HoldD} (h : v.is w no d) (hx : But S w w') (hS : ∀ b, b < w.heap.size → S b → no b) : v.is w' no d :=
  ⟨h.key, h.cl, h.nm, h.an, h.rn, h.put, h.value, h.acts.but hx hS, h.reads.but hx hS⟩
theorem HoldV.is.ext {w w' : World} {no : Nat → Prop} {v : HoldV} {d : HoldD} (h : v.is w no d) (hx : Ext w w') : v.is w' no d :=
  ⟨h.key, h.cl, h.nm, h.an, h.rn, h.put, h.value, h.acts.ext hx, h.reads.ext hx⟩
theorem HoldV.is.mono {w : World} {no no' : Nat → Prop} {v : HoldV} {d : HoldD} (h : v.is w no d) (hno : ∀ b, b < w.heap.size → no' b → no b) : v.is w no' d :=
  ⟨h.key, h.cl, h.nm, h.an, h.rn, h.put, h.value, h.acts.mono hno, h.reads.mono hno⟩
def HoldsAre (w : World) (no : Nat → Prop) : List HoldV → List HoldD → Prop
  | [], [] => True
  | v :: vs, d :: ds => v.is w no d ∧ HoldsAre w no vs ds
  | _, _ => False
theorem HoldsAre.len {w : World} {no : Nat → Prop} : ∀ {vs : List HoldV} {ds : List HoldD}, HoldsAre w no vs ds → vs.length = ds.length
  | [], [], _ => rfl
  | [], _ :: _, h => h.elim
  | _ :: _, [], h => h.elim
  | _ :: _, _ :: _, h => by rw [List.length_cons, List.length_cons, HoldsAre.len h.2]
theorem HoldsAre.but {w w' : World} {no S : Nat → Prop} (hx : But S w w') (hS : ∀ b, b < w.heap.size → S b → no b) : ∀ {vs : List HoldV} {ds : List HoldD}, HoldsAre w no vs ds → HoldsAre w' no vs ds
  | [], [], _ => trivial
  | [], _ :: _, h => h.elim
  | _ :: _, [], h => h.elim
  | _ :: _, _ :: _, h => ⟨h.1.but hx hS, HoldsAre.but hx hS h.2⟩
theorem HoldsAre.ext {w w' : World} {no : Nat → Prop} (hx : Ext w w') : ∀ {vs : List HoldV} {ds : List HoldD}, HoldsAre w no vs ds → HoldsAre w' no vs ds :=
  HoldsAre.but (Ext.but hx (fun _ => False)) (fun _ _ e => e.elim)
theorem HoldsAre.mono {w : World} {no no' : Nat → Prop} (hno : ∀ b, b < w.heap.size → no' b → no b) : ∀ {vs : List HoldV} {ds : List HoldD}, HoldsAre w no vs ds → HoldsAre w no' vs ds
  | [], [], _ => trivial
  | [], _ :: _, h => h.elim
  | _ :: _, [], h => h.elim
  | _ :: _, _ :: _, h => ⟨h.1.mono hno, HoldsAre.mono hno h.2⟩
theorem HoldsAre.at {w : World} {no : Nat → Prop} : ∀ {vs : List HoldV} {ds : List HoldD}, HoldsAre w no vs ds → ∀ (i : Nat) (v : HoldV), vs[i]? = some v → ∃ d, ds[i]? = some d ∧ v.is w no d
  | [], [], _, i, v, h => by simp at h
  | [], _ :: _, h, _, _, _ => h.elim
  | _ :: _, [], h, _, _, _ => h.elim
  | v0 :: vs, d0 :: ds, h, 0, v, hv => ⟨d0, rfl, by simp at hv; subst hv; exact h.1⟩
  | v0 :: vs, d0 :: ds, h, i + 1, v, hv => HoldsAre.at h.2 i v (by simpa using hv)
theorem HoldsAre.append {w : World} {no : Nat → Prop} : ∀ {vs : List HoldV} {ds : List HoldD} {vs' : List HoldV} {ds' : List HoldD}, HoldsAre w no vs ds → HoldsAre w no vs' ds' → HoldsAre w no (vs ++ vs') (ds ++ ds')
  | [], [], _, _, _, h => h
  | [], _ :: _, _, _, h, _ => h.elim
  | _ :: _, [], _, _, h, _ => h.elim
  | _ :: _, _ :: _, _, _, h, h' => ⟨h.1, HoldsAre.append h.2 h'⟩
theorem HoldsAre.take {w : World} {no : Nat → Prop} : ∀ {vs : List HoldV} {ds : List HoldD}, HoldsAre w no vs ds → ∀ k, HoldsAre w no (vs.take k) (ds.take k)
  | [], [], _, k => by simp [HoldsAre]
  | [], _ :: _, h, _ => h.elim
  | _ :: _, [], h, _ => h.elim
  | _ :: _, _ :: _, _, 0 => trivial
  | _ :: _, _ :: _, h, k + 1 => ⟨h.1, HoldsAre.take h.2 k⟩
theorem HoldsAre.drop {w : World} {no : Nat → Prop} : ∀ {vs : List HoldV} {ds : List HoldD}, HoldsAre w no vs ds → ∀ k, HoldsAre w no (vs.drop k) (ds.drop k)
  | [], [], _, k => by simp [HoldsAre]
  | [], _ :: _, h, _ => h.elim
  | _ :: _, [], h, _ => h.elim
  | _ :: _, _ :: _, h, 0 => h
  | _ :: _, _ :: _, h, k + 1 => HoldsAre.drop h.2 k
theorem HoldsAre.keys {w : World} {no : Nat → Prop} : ∀ {vs : List HoldV} {ds : List HoldD}, HoldsAre w no vs ds → vs.map (·.key) = ds.map (·.key)
  | [], [], _ => rfl
  | [], _ :: _, h => h.elim
  | _ :: _, [], h => h.elim
  | _ :: _, _ :: _, h => by rw [List.map_cons, List.map_cons, h.1.key, HoldsAre.keys h.2]
def ThereIs (w : World) (p : Option Addr) (b : Bool) : Prop := (p = none ∧ b = false) ∨ ∃ hb, p = some ⟨hb, 0, none⟩ ∧ w.cell? ⟨hb, 1, none⟩ = some (.bool b)
theorem ThereIs.ext {w w' : World} {p : Option Addr} {b : Bool} (h : ThereIs w p b) (hx : Ext w w') : ThereIs w' p b := by
  rcases h with h | ⟨hb, rfl, hc⟩
  · exact .inl h
  · exact .inr ⟨hb, rfl, (hx.cell (p := ⟨hb, 1, none⟩) (block_lt_of_cell hc)).trans hc⟩
def ActD.small (a : ActD) : Prop := a.key.size ≤ 140737488351232 ∧ a.value.size ≤ 140737488351232
def Rd.small (a : Rd) : Prop := a.key.size ≤ 140737488351232 ∧ a.value.size ≤ 140737488351232
structure HoldD.small (d : HoldD) : Prop where
  ks : d.key.size ≤ 140737488351232
  vs : d.value.size ≤ 140737488351232
  an : d.acts.length ≤ 9223372036854775807
  rn : d.reads.length ≤ 9223372036854775807
  acts : ∀ a ∈ d.acts, a.small
  reads : ∀ r ∈ d.reads, r.small
end Go.Proofs.YtbnclifpdmpjnaaGreatDoor
/- The package act's cut; strings.Trim. -/
namespace Go.Proofs.YtbnclifpdmpjnaaGreatDoor
open Go.RowKit
theorem cutI_bd (n : Int) : -1073741824 ≤ cutI n ∧ cutI n ≤ 1073741824 := by unfold cutI; omega
theorem cut_calls (n : Int) (w : World) : Calls Tryz.prog 139 #[.int .i64 n] w fun e w' => e = .returned (.int .i64 (cutI n)) ∧ w = w' := by
  go_enter Tryz.func139, Tryz.ntmps139
  go_wp2
  all_goals (go_ret; exact ⟨ret_int (by unfold cutI; omega), rfl⟩)
theorem trim_calls (s : ByteArray) (cs : ByteArray) (w : World) (hs : s.size ≤ 9223372036854775807) (hc : cs.size < 4294967281) (ha : cs.data.toList.all (fun b => decide (b.toNat < 128)) = true) :
    Calls Tryz.prog 138 #[.string s, .string cs] w fun e w' => e = .returned (.string ⟨(Lib.trimS s.data.toList cs.data.toList).toArray⟩) ∧ Ext w w' :=
  Any.strings_Trim_laid Tryz.lays160 (by kernel_rfl) s cs w hs hc (ascii_of_all ha)
set_option maxRecDepth 100000 in
set_option maxHeartbeats 400000 in
theorem key_calls (s : ByteArray) (w : World) (hs : s.size ≤ 140737488351232) : Calls Tryz.prog 140 #[.string s] w fun e w' => e = .returned (.bool (keyL s.data.toList)) ∧ w = w' := by
  have hsz := Lib.size_eq s
  by_cases h0 : s.data.toList = []
  · have e0 : keyL s.data.toList = false := by rw [h0]; rfl
    have hem : s.toList.isEmpty = true := by rw [Lib.toList_data, h0]; rfl
    have E0 := Lib.hid e0; clear e0 h0
    go_enter Tryz.func140, Tryz.ntmps140
    go_wp2
    go_ret
    exact ⟨ret_bool (by rw [E0.out]), rfl⟩
  · have hem : s.toList.isEmpty = false := by rw [Lib.toList_data]; cases h : s.data.toList with
      | nil => exact absurd h h0
      | cons a r => rfl
    by_cases h20 : 20 < s.size
    · have e0 : keyL s.data.toList = false := by unfold keyL; rw [← hsz]; simp; omega
      have E0 := Lib.hid e0; clear e0 h0 hsz
      go_enter Tryz.func140, Tryz.ntmps140
      go_wp2
      go_ret
      exact ⟨ret_bool (by rw [E0.out]), rfl⟩
    · have e0 : keyL s.data.toList = s.data.toList.all keyC := by
        unfold keyL
        rw [← hsz]
        have : s.data.toList.isEmpty = false := by rw [← Lib.toList_data]; exact hem
        rw [this]; simp; omega
      have E0 := Lib.hid e0; have HZ := Lib.hid hsz; clear e0 h0 hsz
      go_enter Tryz.func140, Tryz.ntmps140
      go_wp2
      go_loop [3, 4, 14] (fun _ _ i => ∃ k : Nat, k ≤ s.size ∧ i = .int .i64 k ∧ (s.data.toList.take k).all keyC = true) (fun _ _ i => s.size - (intOf i).toNat)
      case atStart => exact ⟨0, by omega, rfl, by simp⟩
      case round =>
        obtain ⟨k, hk, rfl, hall⟩ := hrel
        have HA := Lib.hid hall; clear hall
        by_cases hlt : k < s.size
        · have htk : s.data.toList.take (k + 1) = s.data.toList.take k ++ [s[k]] := by
            rw [List.take_succ_eq_append_getElem (by rw [← HZ.out]; exact hlt)]; rfl
          have hmem : s[k] ∈ s.data.toList := by
            have : s.data.toList[k]'(by rw [← HZ.out]; exact hlt) = s[k] := rfl
            rw [← this]; exact List.getElem_mem _
          have HT := Lib.hid htk; have HM := Lib.hid hmem
          clear htk hmem
          have hcases : (s[k].toNat < 48 ∨ (57 < s[k].toNat ∧ s[k].toNat < 97) ∨ 122 < s[k].toNat) ∨ (48 ≤ s[k].toNat ∧ s[k].toNat ≤ 57) ∨ (97 ≤ s[k].toNat ∧ s[k].toNat ≤ 122) := by omega
          rcases hcases with h | h
          · have hno : keyC s[k] = false := by unfold keyC; simp; omega
            have e1 : s.data.toList.all keyC = false := by
              rw [List.all_eq_false]; exact ⟨s[k], HM.out, by simp [hno]⟩
            have E1 := Lib.hid e1
            clear hno e1
            rcases h with h | ⟨ha, hb⟩ | h
            all_goals
              go_wp2
              all_goals first | (go_ret; exact ⟨ret_bool (by rw [E0.out, E1.out]), rfl⟩) | (exfalso; rename_i h; simp at h; omega)
          · have hyes : keyC s[k] = true := by unfold keyC; simp; omega
            have e1 : (s.data.toList.take (k + 1)).all keyC = true := by rw [HT.out, List.all_append, HA.out]; simp [hyes]
            have E1 := Lib.hid e1
            clear hyes e1
            rcases h with ⟨ha, hb⟩ | ⟨ha, hb⟩
            all_goals
              first
                | (have hd : decide ((s[k].toNat : Int) ≤ 57) = true := by simp; omega)
                | (have hd : decide ((s[k].toNat : Int) ≤ 122) = true := by simp; omega)
              go_wp2
              go_round
              case rel => exact ⟨k + 1, by omega, by go_num, E1.out⟩
              case measure => simp [intOf]; omega
        · have e1 : s.data.toList.all keyC = true := by
            have := HA.out
            rwa [List.take_of_length_le (by rw [← HZ.out]; omega)] at this
          have E1 := Lib.hid e1; clear e1
          go_wp2
          go_ret
          exact ⟨ret_bool (by rw [E0.out, E1.out]), rfl⟩
theorem run_eight_bytes (W : World) (x0 x1 x2 x3 x4 x5 x6 x7 : Int) : (convert 37 9 (.slice (some ⟨W.heap.size, 0, none⟩) 8 8)).run Tryz.prog (W.alloc (.cells #[.int .u8 x0, .int .u8 x1, .int .u8 x2, .int .u8 x3, .int .u8 x4, .int .u8 x5, .int .u8 x6, .int .u8 x7] 5)) = .ok (.string ⟨#[UInt8.ofNat x0.toNat, UInt8.ofNat x1.toNat, UInt8.ofNat x2.toNat, UInt8.ofNat x3.toNat, UInt8.ofNat x4.toNat, UInt8.ofNat x5.toNat, UInt8.ofNat x6.toNat, UInt8.ofNat x7.toNat]⟩) (W.alloc (.cells #[.int .u8 x0, .int .u8 x1, .int .u8 x2, .int .u8 x3, .int .u8 x4, .int .u8 x5, .int .u8 x6, .int .u8 x7] 5)) :=
  run_convert_bytes_arg (P := Tryz.prog) (w := W.alloc (.cells #[.int .u8 x0, .int .u8 x1, .int .u8 x2, .int .u8 x3, .int .u8 x4, .int .u8 x5, .int .u8 x6, .int .u8 x7] 5)) 37 5 Tryz.underlying37 Tryz.underlying5 W.heap.size 0 8 8 [x0, x1, x2, x3, x4, x5, x6, x7] rfl (fun i hi => by
    obtain rfl | rfl | rfl | rfl | rfl | rfl | rfl | rfl : i = 0 ∨ i = 1 ∨ i = 2 ∨ i = 3 ∨ i = 4 ∨ i = 5 ∨ i = 6 ∨ i = 7 := by omega
    all_goals simp) 9 Tryz.underlying9
def markB (k i : Int) : ByteArray := ⟨#[35, UInt8.ofNat (k % 256).toNat, UInt8.ofNat (k / 256 % 256).toNat, UInt8.ofNat (k / 65536 % 256).toNat, 47, UInt8.ofNat (i % 256).toNat, UInt8.ofNat (i / 256 % 256).toNat, UInt8.ofNat (i / 65536 % 256).toNat]⟩
theorem markText_calls (k i : Int) (w : World) : Calls Tryz.prog 76 #[.int .i64 k, .int .i64 i] w fun e w' => e = .returned (.string (markB k i)) ∧ Ext w w' := by
  have hcv := run_eight_bytes
  go_enter Tryz.func76, Tryz.ntmps76
  go_wp2_with fail
  go_ret
  exact ⟨rfl, (Below.refl _ w).alloc (Nat.le_refl _) _⟩
def Room (w : World) (g : Nat) (t : TypeId) (n : Nat) : Prop := ∃ cur : Array Value, w.heap[g]? = some (.cells cur t (0, 0)) ∧ cur.size = n
theorem Room.lt {w : World} {g : Nat} {t : TypeId} {n : Nat} (h : Room w g t n) : g < w.heap.size := by
  obtain ⟨cur, h, _⟩ := h; exact lt_of_block h
theorem Room.cell {w : World} {g : Nat} {t : TypeId} {n : Nat} (h : Room w g t n) (i : Nat) (hi : i < n) : ∃ u, w.cell? ⟨g, i, none⟩ = some u := by
  obtain ⟨cur, h, hs⟩ := h
  exact ⟨cur[i], by rw [cell_of_row w g i cur t _ h]; exact Array.getElem?_eq_getElem (by omega)⟩
theorem Room.free {w : World} {g : Nat} {t : TypeId} {n : Nat} (h : Room w g t n) (i : Nat) : w.frozen? ⟨g, i, none⟩ = false := by
  obtain ⟨cur, h, _⟩ := h; exact frozen_of_row w g i cur t h
theorem Room.set {w : World} {g : Nat} {t : TypeId} {n : Nat} (h : Room w g t n) (i : Nat) (v : Value) : Room (w.setCell ⟨g, i, none⟩ v) g t n := by
  obtain ⟨cur, h, hs⟩ := h
  exact ⟨_, heap_setCell_same w g i cur t v h, by simpa using hs⟩
theorem Room.ext {w w' : World} {g : Nat} {t : TypeId} {n : Nat} (h : Room w g t n) (hx : Ext w w') : Room w' g t n := by
  obtain ⟨cur, h, hs⟩ := h
  exact ⟨cur, (hx.block g (lt_of_block h)).trans h, hs⟩
theorem own_form {w : World} {B : Nat} {e : TypeId} {size n : Nat} {v : Value} {xs : List Value} (h : w.ownsRow B e size v n xs) : (v = .slice none 0 0 ∧ n = 0) ∨ ∃ g cap, v = .slice (some ⟨g, 0, none⟩) n cap := by
  obtain ⟨_, h2⟩ := h
  rcases h2 with ⟨rfl, h0⟩ | ⟨g, cap, cur, rfl, _⟩
  · exact .inl ⟨rfl, h0⟩
  · exact .inr ⟨g, cap, rfl⟩
end Go.Proofs.YtbnclifpdmpjnaaGreatDoor
/- Operations that yield a value, the check of a pointer among them, may be taken first in a region that draws its order. -/
namespace Go.Proofs.YtbnclifpdmpjnaaGreatDoor
open Go.RowKit
def valN2 : Op → Bool
  | .nilCheck _ => true
  | o => valB o
theorem nilDeref_not_ok {P : Program} {α : Type} {w w' : World} {n : α} (h : (runtimePanic .nilDeref : Sem α).run P w = .ok n w') : False := by
  unfold runtimePanic at h
  simp [Sem.run_bind, Result.andThen, goPanic] at h
theorem valN2_value {P : Program} {ρ : Operand → Value} {o : Oper} (ho : valN2 o.op = true) {w w' : World} {n : Next} (h : (execOp ρ o).run P w = .ok n w') : ∃ v, n = .value v := by
  by_cases hb : valB o.op = true
  · exact valB_value hb h
  · have hx : ∃ x, o.op = .nilCheck x := by
      cases hop : o.op <;> rw [hop] at ho hb <;> first | exact ⟨_, rfl⟩ | exact absurd ho hb
    obtain ⟨x, hx⟩ := hx
    unfold execOp at h
    simp only [hx] at h
    split at h
    all_goals first
      | exact (nilDeref_not_ok h).elim
      | skip
    · split at h
      · exact (nilDeref_not_ok h).elim
      · rename_i ty wv _
        simp only [Sem.run_bind, run_program, Result.andThen_ok] at h
        generalize (nilAhead _ _ _ _).run P w = r at h
        cases r with
        | halt _ _ => simp [Result.andThen] at h
        | ok a w1 =>
          simp only [Result.andThen_ok] at h
          split at h
          · simp [unsupported] at h
          · simp at h; exact ⟨_, h.1.symm⟩
      · simp at h; exact ⟨_, h.1.symm⟩
    · simp at h; exact ⟨_, h.1.symm⟩
def takesC (ops : Array Oper) : List Nat → Array Bool → Bool
  | [], _ => true
  | i :: is, listed => (Region.ready .any ops listed).contains i && Region.free .any ops listed i && ((ops[i]?).map fun o => valN2 o.op).getD false && takesC ops is (listed.setIfInBounds i true)
theorem wpAnyH_takesC {P : Program} {ops : Array Oper} {Q : Exit → Go.Act → World → Prop} {S : World → Prop} {w : World} (hS : S w) (hsel : Region.noSelect ops = true) (hQ : ∀ (c : _) (a : Go.Act) (t : Array Value) (w : World), Q (.panic c) { a with tmps := t } w → Q (.panic c) a w) (f : Nat) :
    ∀ (is : List Nat) (listed : Array Bool) (a : Go.Act), takesC ops is listed = true → wpQuiet P ops S (fun a' => wpAnyH P .any ops Q S f (listedBy is listed) a' w) (opsAt ops is) a → wpAnyH P .any ops Q S (f + is.length) listed a w
  | [], _, _, _, h => h
  | i :: is, listed, a, hB, h => by
    unfold takesC at hB
    simp only [Bool.and_eq_true] at hB
    obtain ⟨⟨⟨h1, h2⟩, h3⟩, h4⟩ := hB
    cases ho : ops[i]? with
    | none => rw [ho] at h3; cases h3
    | some o =>
      rw [ho] at h3
      have hv : valN2 o.op = true := h3
      unfold opsAt at h
      rw [ho] at h
      simp only at h
      unfold wpQuiet at h
      rw [show f + (i :: is).length = (f + is.length) + 1 from by rw [List.length_cons]; omega]
      split at h
      · rename_i hw
        obtain ⟨v, hq, hK⟩ := h
        refine wpAnyH_take (v := v) ho hsel h2 h1 (fun c a w h => by obtain ⟨t, ht⟩ := put_tmps a o.dst _; rw [ht] at h; exact hQ c a t w h) (.inl ⟨hw, fun w' hw' => ?_⟩) hS (wpAnyH_takesC hS hsel hQ f is _ _ h4 hK)
        exact quietUpon_value (hq w' hw') (fun n w'' h => valN2_value hv h)
      · rename_i hw
        exact wpAnyH_take (v := undef) ho hsel h2 h1 (fun c a w h => by obtain ⟨t, ht⟩ := put_tmps a o.dst _; rw [ht] at h; exact hQ c a t w h) (.inr ⟨by simpa using hw, rfl⟩) hS (wpAnyH_takesC hS hsel hQ f is _ _ h4 h)
theorem wp_region_firstC {P : Program} {id : Nat} {Q : Exit → Go.Act → World → Prop} {a : Go.Act} {w : World} {l : List Oper} (S : World → Prop) (is : List Nat) (f : Nat) (hm : P.follows .mixedOrders = true) (hB : (Region.noSelect l.toArray && takesC l.toArray is (Array.replicate l.toArray.size false) && decide (l.toArray.size = f + is.length)) = true)
    (hQ : ∀ (c : _) (a : Go.Act) (t : Array Value) (w : World), Q (.panic c) { a with tmps := t } w → Q (.panic c) a w) (hS : S w.drew)
    (h : wpQuiet P l.toArray S (fun a' => wpAnyH P .any l.toArray Q S f (listedBy is (Array.replicate l.toArray.size false)) a' w.drew) (opsAt l.toArray is) a) : (Code.region id l.toArray true).wp P Q a w := by
  simp only [Bool.and_eq_true, decide_eq_true_eq] at hB
  obtain ⟨⟨h1, h2⟩, h3⟩ := hB
  refine wp_region_held_drew (S := S) hm hS (fun hS => ?_)
  have h5 := wpAnyH_takesC hS h1 hQ f is _ a h2 h
  rw [← h3] at h5
  exact h5
theorem wp_takesC {P : Program} {ops : Array Oper} {Q : Exit → Go.Act → World → Prop} {S : World → Prop} {listed : Array Bool} {a : Go.Act} {w : World} (is : List Nat) (f : Nat) (hB : (Region.noSelect ops && takesC ops is listed) = true)
    (hQ : ∀ (c : _) (a : Go.Act) (t : Array Value) (w : World), Q (.panic c) { a with tmps := t } w → Q (.panic c) a w) (hS : S w)
    (h : wpQuiet P ops S (fun a' => wpAnyH P .any ops Q S f (listedBy is listed) a' w) (opsAt ops is) a) : wpAnyH P .any ops Q S (f + is.length) listed a w := by
  simp only [Bool.and_eq_true] at hB
  exact wpAnyH_takesC hS hB.1 hQ f is listed a hB.2 h
end Go.Proofs.YtbnclifpdmpjnaaGreatDoor
