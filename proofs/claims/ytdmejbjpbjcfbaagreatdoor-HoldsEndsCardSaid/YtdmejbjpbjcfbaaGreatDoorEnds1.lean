/- HoldsEnds: the statements that it calls, and what is told of the values of its drawn regions. -/
import Derived.Test.YtdmejbjpbjcfbaaGreatDoorRuns
import Derived.Test.YtdmejbjpbjcfbaaGreatDoorHoldsBytes
import Derived.Test.YtdmejbjpbjcfbaaGreatDoorEnds0
import Derived.Test.YtdmejbjpbjcfbaaGreatDoorRelN
namespace Go.Proofs.YtdmejbjpbjcfbaaGreatDoor
open Go.RowKit
theorem hb_calls (vs : List HoldV) (ds : List HoldD) (ao : Option Addr) (cap : Nat) (b : List UInt8) (bo : Option Addr) (bc : Nat) (W : World) (hl : vs.length ≤ 1000) (hr : Rows 7 encHV W.heap.size W ao vs) (hd : HoldsAre W (fun _ => False) vs ds) (hn : ∀ d ∈ ds, NiceD d) (hbl : b.length ≤ bc) (hbm : bc ≤ maxLen) (hb : Rows 1 encU8 W.heap.size W bo b) :
    Calls Tryz.prog 4 #[.slice ao vs.length cap, .slice bo b.length bc] W fun e w' => e = .returned (.bool true) ∧ Ext W w' :=
  holdsBytes_calls vs ds ao cap b bo bc W (by omega) hr hd (fun d hd => (hn d hd).small) (fun d hd _ _ => (hn d hd).ok) hbl hbm hb
theorem hr_calls (vs : List DeedV) (ds : List DeedD) (ao : Option Addr) (cap : Nat) (fork : Int) (ls : List ByteArray) (ko : Option Addr) (kc : Nat) (c n : Int) (W : World) (hl : vs.length ≤ 1000) (hr : Rows 5 encDV W.heap.size W ao vs) (hd : DeedsAre W (fun _ => False) vs ds) (hkl : ls.length ≤ 1000) (hk : Rows 1 encStr W.heap.size W ko ls) (hks : ∀ k ∈ ls, k.size ≤ 1000) :
    Calls Tryz.prog 6 #[.slice ao vs.length cap, .int .i64 fork, .slice none 0 0, .slice ko ls.length kc, .agg #[.int .i64 c, .int .i64 n]] W fun e w' => e = .returned (.bool true) ∧ Ext W w' :=
  holdsRuns_calls vs ds ao cap fork [] [] none 0 ls ko kc c n W (by omega) hr hd (by simp) (Rows.nil _ _ _ _ _) ⟨rfl, fun i v h => by simp at h⟩ (by omega) hk (fun k hk => by have := hks k hk; omega)
theorem deed_holds {W : World} {ho : Option Addr} {hc : Nat} {hs : List HoldV} {dl : List HoldD} (hr : Rows 7 encHV W.heap.size W ho hs) (hd : HoldsAre W (fun _ => False) hs dl) (hn : ∀ d ∈ dl, NiceD d) (hl : hs.length ≤ 1000) :
    (⟨0, ho, hs.length, hc, none, 0, 0, ⟨#[]⟩, ⟨#[]⟩⟩ : DeedV).is W (fun _ => False) ⟨hs, dl, []⟩ :=
  ⟨rfl, rfl, hr.nrows (Nat.le_refl _) (fun _ _ e => e), hd, fun e => absurd rfl e, by show (⟨#[]⟩ : ByteArray).size ≤ _; rw [empty_size]; omega, by show (⟨#[]⟩ : ByteArray).size ≤ _; rw [empty_size]; omega, by show hs.length ≤ _; omega, by simp, fun h hh => (hn h hh).small, fun h hh _ _ => (hn h hh).ok, fun k h => by simp at h⟩
theorem deed_keys {W : World} {ko : Option Addr} {kc : Nat} {ls : List ByteArray} (kd : Int) (hr : Rows 1 encStr W.heap.size W ko ls) (hl : ls.length ≤ 1000) (hks : ∀ k ∈ ls, k.size ≤ 1000) :
    (⟨kd, none, 0, 0, ko, ls.length, kc, ⟨#[]⟩, ⟨#[]⟩⟩ : DeedV).is W (fun _ => False) ⟨[], [], ls⟩ :=
  ⟨rfl, rfl, fun e => absurd rfl e, trivial, hr.nrows (Nat.le_refl _) (fun _ _ e => e), by show (⟨#[]⟩ : ByteArray).size ≤ _; rw [empty_size]; omega, by show (⟨#[]⟩ : ByteArray).size ≤ _; rw [empty_size]; omega, by simp, by show ls.length ≤ _; omega, fun h hh => by simp at hh, fun h hh => by simp at hh, fun k h => by have := hks k h; omega⟩
def PlainAt (k : ByteArray) (c : Int) (v : Value) (W : World) : Prop := ∃ x : HoldV, v = .agg (encHV x).toArray ∧ x.is W (fun _ => False) (plainD k c)
def HoldsAt (n : Nat) (dl : List HoldD) (v : Value) (W : World) : Prop := ∃ (b : Nat) (hs : List HoldV), hs.length = n ∧ v = .slice (some ⟨b, 0, none⟩) n n ∧ Rows 7 encHV W.heap.size W (some ⟨b, 0, none⟩) hs ∧ HoldsAre W (fun _ => False) hs dl
def DeedAt (v : Value) (W : World) : Prop := ∃ (x : DeedV) (d : DeedD), v = .agg (encDV x).toArray ∧ x.is W (fun _ => False) d
def DeedsAt (n : Nat) (v : Value) (W : World) : Prop := ∃ (b : Nat) (vs : List DeedV) (ds : List DeedD), vs.length = n ∧ v = .slice (some ⟨b, 0, none⟩) n n ∧ Rows 5 encDV W.heap.size W (some ⟨b, 0, none⟩) vs ∧ DeedsAre W (fun _ => False) vs ds
def TextsAt (n : Nat) (ls : List ByteArray) (v : Value) (W : World) : Prop := ∃ b : Nat, ls.length = n ∧ v = .slice (some ⟨b, 0, none⟩) n n ∧ Rows 1 encStr W.heap.size W (some ⟨b, 0, none⟩) ls
theorem rowsE {α : Type} {sz : Nat} {enc : α → List Value} {W W' : World} {ao : Option Addr} {l : List α} (h : Rows sz enc W.heap.size W ao l) (hx : Ext W W') : Rows sz enc W'.heap.size W' ao l := (h.ext hx).mono hx.size
theorem PlainAt.ext {k : ByteArray} {c : Int} {v : Value} {W W' : World} (h : PlainAt k c v W) (hx : Ext W W') : PlainAt k c v W' := by obtain ⟨x, h1, h2⟩ := h; exact ⟨x, h1, h2.ext hx⟩
theorem HoldsAt.ext {n : Nat} {dl : List HoldD} {v : Value} {W W' : World} (h : HoldsAt n dl v W) (hx : Ext W W') : HoldsAt n dl v W' := by obtain ⟨b, hs, h0, h1, h2, h3⟩ := h; exact ⟨b, hs, h0, h1, rowsE h2 hx, h3.ext hx⟩
theorem DeedAt.ext {v : Value} {W W' : World} (h : DeedAt v W) (hx : Ext W W') : DeedAt v W' := by obtain ⟨x, d, h1, h2⟩ := h; exact ⟨x, d, h1, h2.ext hx⟩
theorem DeedsAt.ext {n : Nat} {v : Value} {W W' : World} (h : DeedsAt n v W) (hx : Ext W W') : DeedsAt n v W' := by obtain ⟨b, vs, ds, h0, h1, h2, h3⟩ := h; exact ⟨b, vs, ds, h0, h1, rowsE h2 hx, h3.ext hx⟩
theorem TextsAt.ext {n : Nat} {ls : List ByteArray} {v : Value} {W W' : World} (h : TextsAt n ls v W) (hx : Ext W W') : TextsAt n ls v W' := by obtain ⟨b, h0, h1, h2⟩ := h; exact ⟨b, h0, h1, rowsE h2 hx⟩
theorem ext_alloc (W : World) (o : Obj) : Ext W (W.alloc o) := (Below.refl _ W).alloc (Nat.le_refl _) _
theorem holds_made (hs : List HoldV) (dl : List HoldD) (W : World) (t : TypeId) (h : HoldsAre W (fun _ => False) hs dl) : HoldsAt hs.length dl (.slice (some ⟨W.heap.size, 0, none⟩) hs.length hs.length) (W.alloc (.cells (hs.flatMap encHV).toArray t)) :=
  ⟨W.heap.size, hs, rfl, rfl, (rows_fresh (enc := encHV) (sz := 7) (fun _ => rfl) hs (Blk.new W (hs.flatMap encHV) t) (fun _ => False) (fun e => e)).rows, h.ext (ext_alloc _ _)⟩
theorem deeds_made (vs : List DeedV) (ds : List DeedD) (W : World) (t : TypeId) (h : DeedsAre W (fun _ => False) vs ds) : DeedsAt vs.length (.slice (some ⟨W.heap.size, 0, none⟩) vs.length vs.length) (W.alloc (.cells (vs.flatMap encDV).toArray t)) :=
  ⟨W.heap.size, vs, ds, rfl, rfl, (rows_fresh (enc := encDV) (sz := 5) (fun _ => rfl) vs (Blk.new W (vs.flatMap encDV) t) (fun _ => False) (fun e => e)).rows, h.ext (ext_alloc _ _)⟩
theorem texts_made (ls : List ByteArray) (W : World) (t : TypeId) : TextsAt ls.length ls (.slice (some ⟨W.heap.size, 0, none⟩) ls.length ls.length) (W.alloc (.cells (ls.flatMap encStr).toArray t)) :=
  ⟨W.heap.size, rfl, rfl, (rows_fresh (enc := encStr) (sz := 1) (fun _ => rfl) ls (Blk.new W (ls.flatMap encStr) t) (fun _ => False) (fun e => e)).rows⟩
theorem DeedsAre.cons {w : World} {no : Nat → Prop} {v : DeedV} {d : DeedD} {vs : List DeedV} {ds : List DeedD} (h : v.is w no d) (hs : DeedsAre w no vs ds) : DeedsAre w no (v :: vs) (d :: ds) :=
  ⟨by simp [hs.1], fun i x hi => by
    cases i with
    | zero => simp only [List.getElem?_cons_zero, Option.some.injEq] at hi; subst hi; exact ⟨d, rfl, h⟩
    | succ i => simpa using hs.2 i x (by simpa using hi)⟩
theorem DeedsAre.nil {w : World} {no : Nat → Prop} : DeedsAre w no [] [] := ⟨rfl, fun i v h => by simp at h⟩
theorem own_ptr {w : World} {B : Nat} {e : TypeId} {size n : Nat} {v : Value} {xs : List Value} (h : w.ownsRow B e size v n xs) (hn : 0 < n) : ∃ (g cap : Nat) (cs : List Value), v = .slice (some ⟨g, 0, none⟩) n cap ∧ Blk w g cs e ∧ n ≤ cap ∧ cap ≤ maxLen ∧ B ≤ g := by
  rcases h.2 with ⟨_, h0⟩ | ⟨g, cap, cur, hv, hB, hg, hnc, hm, _⟩
  · omega
  · exact ⟨g, cap, cur.toList, hv, by unfold Blk; rw [hg], hnc, hm, hB⟩
set_option maxRecDepth 20000 in
theorem xor1 (x : UInt8) : bits .xor .u8 ((x.toNat : Nat) : Int) 1 = (((x ^^^ 1).toNat : Nat) : Int) := by
  have h : ∀ m : Fin 256, bits .xor .u8 ((m.val : Nat) : Int) 1 = ((m.val ^^^ 1 : Nat) : Int) := by decide
  have := h ⟨x.toNat, x.toNat_lt⟩
  simp only at this
  rw [this, UInt8.toNat_xor]
  rfl
theorem set_u8 : ∀ (s : List UInt8) (n : Nat) (y : UInt8), (s.set n y).flatMap encU8 = (s.flatMap encU8).set n (.int .u8 ((y.toNat : Nat) : Int))
  | [], _, _ => by simp
  | x :: s, 0, y => rfl
  | x :: s, n + 1, y => by
    have := set_u8 s n y
    simp only [List.set_cons_succ, List.flatMap_cons, this]
    rfl
theorem conv2 (i : Nat) (hi : i < 61) (w : World) : ∃ t : ByteArray, t.size = 2 ∧ (convert 46 9 (.slice (some ⟨w.heap.size, 0, none⟩) 2 2)).run Tryz.prog (w.alloc (.cells #[.int .u8 (97 + (i : Int) / 10), .int .u8 (48 + (i : Int) % 10)] 5)) = .ok (.string t) (w.alloc (.cells #[.int .u8 (97 + (i : Int) / 10), .int .u8 (48 + (i : Int) % 10)] 5)) := by
  have hp : ((UInt8.ofNat (97 + i / 10)).toNat : Int) = 97 + (i : Int) / 10 := by rw [UInt8.toNat_ofNat']; omega
  have hq : ((UInt8.ofNat (48 + i % 10)).toNat : Int) = 48 + (i : Int) % 10 := by rw [UInt8.toNat_ofNat']; omega
  have e : (#[.int .u8 (97 + (i : Int) / 10), .int .u8 (48 + (i : Int) % 10)] : Array Value) = ([UInt8.ofNat (97 + i / 10), UInt8.ofNat (48 + i % 10)].flatMap encU8).toArray := by
    rw [← hp, ← hq]; rfl
  rw [e]
  refine ⟨⟨[UInt8.ofNat (97 + i / 10), UInt8.ofNat (48 + i % 10)].toArray⟩, rfl, ?_⟩
  exact conv_rows _ (some ⟨w.heap.size, 0, none⟩) 2 [UInt8.ofNat (97 + i / 10), UInt8.ofNat (48 + i % 10)] (Rows.fresh' (enc := encU8) (sz := 1) (fun _ => rfl) _ w _)
def ka3B : ByteArray := ⟨#[107, 97, 51]⟩
def kg0B : ByteArray := ⟨#[107, 103, 48]⟩
end Go.Proofs.YtdmejbjpbjcfbaaGreatDoor
