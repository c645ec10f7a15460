/- The reference of layer 14: Name, Older, Key, value, one, Right; and the package act's Name. -/
import Derived.Test.YtdjjpnobfopplaaGreatDoorMem
import Derived.Lib.SlicesS
import Derived.Test.YtdjjpnobfopplaaGreatDoorHoldDefs
import Derived.Test.YtdjjpnobfopplaaGreatDoorRight
import Derived.Deep.DeepMust
namespace Go.Proofs.YtdjjpnobfopplaaGreatDoor
open Go.RowKit

def nameB (c n : Int) : Bool := decide (1 ≤ c) && decide (c ≤ 8) && decide (1 ≤ n) && decide (n ≤ 1073741824)
theorem actName_calls (c n : Int) (w : World) : Calls Tryz.prog 16 #[.agg #[.int .i64 c, .int .i64 n]] w fun e w' => e = .returned (.bool (nameB c n)) ∧ Ext w w' := by
  have HX := Lib.hid (show Ext w (w.alloc (.cells #[.int .i64 c, .int .i64 n] 23)) from (Below.refl _ w).alloc (Nat.le_refl _) _)
  have e0 : nameB c n = (decide (1 ≤ c) && decide (c ≤ 8) && decide (1 ≤ n) && decide (n ≤ 1073741824)) := rfl
  cases h1 : decide (1 ≤ c) <;> cases h2 : decide (c ≤ 8) <;> cases h3 : decide (1 ≤ n) <;> cases h4 : decide (n ≤ 1073741824) <;> rw [h1, h2, h3, h4] at e0
  all_goals
    have E0 := Lib.hid e0; clear e0
    go_enter Tryz.func16, Tryz.ntmps16
    go_wp2
    go_ret
    exact ⟨ret_bool (by rw [E0.out]; rfl), HX.out⟩
end Go.Proofs.YtdjjpnobfopplaaGreatDoor
/- holds.right: is a hold one? -/
namespace Go.Proofs.YtdjjpnobfopplaaGreatDoor
open Go.RowKit

def cntR (l : List ActD) : Nat := (l.filter fun a => !decide (a.kind = 2)).length
def putAny (l : List ActD) : Bool := l.any fun a => !decide (a.kind = 1)
def keysR (k : ByteArray) (l : List ActD) : Bool := l.all fun a => decide (a.key.toList = k.toList)
def readsBad (k : ByteArray) (l : List Rd) : Bool := l.any (readBad k)
/-- Is a hold right? -/
def holdB (d : HoldD) : Bool := keysR d.key d.acts && (nameB d.cl d.nm && (rightsB d.acts && (!readsBad d.key d.reads && (decide (d.reads.length = cntR d.acts) && ((d.put == putAny d.acts) && (decide ((d.value.size : Int) ≤ 20) && (d.put || d.value.toList.isEmpty)))))))
/-- The sizes that a hold's parts have. -/
structure HoldD.ok (d : HoldD) : Prop where
  acts : ∀ a ∈ d.acts, a.ok
  an : d.acts.length ≤ 1000000
  rn : d.reads.length ≤ 1000000
  ks : d.key.size ≤ 140737488351232
  vs : d.value.size ≤ 140737488351232
  rs : ∀ r ∈ d.reads, r.value.size ≤ 140737488351232
theorem cntR_le (l : List ActD) : cntR l ≤ l.length := List.length_filter_le ..
theorem cntR_succ (l : List ActD) (k : Nat) (x : ActD) (h : l[k]? = some x) : cntR (l.take (k + 1)) = cntR (l.take k) + (if x.kind = 2 then 0 else 1) := by
  unfold cntR; rw [List.take_add_one, h, List.filter_append, List.length_append]
  by_cases hk : x.kind = 2 <;> simp [hk]
theorem putAny_succ (l : List ActD) (k : Nat) (x : ActD) (h : l[k]? = some x) : putAny (l.take (k + 1)) = (putAny (l.take k) || !decide (x.kind = 1)) := by
  unfold putAny; rw [List.take_add_one, h, List.any_append]; simp
theorem keysR_succ (s : ByteArray) (l : List ActD) (k : Nat) (x : ActD) (h : l[k]? = some x) : keysR s (l.take (k + 1)) = (keysR s (l.take k) && decide (x.key.toList = s.toList)) := by
  unfold keysR; rw [List.take_add_one, h, List.all_append]; simp
theorem readsBad_iff (k : ByteArray) (l : List Rd) (b : Bool) (h : b = false ↔ ∀ (i : Nat) (x : Rd), l[i]? = some x → readBad k x = false) : b = readsBad k l := by
  unfold readsBad
  cases b
  · symm; rw [List.any_eq_false]
    intro x hx
    obtain ⟨i, hi⟩ := List.getElem?_of_mem hx
    rw [h.1 rfl i x hi]; simp
  · symm
    rw [List.any_eq_true]
    apply Classical.byContradiction
    intro hn
    have : true = false := h.2 fun i x hx => by
      cases hb : readBad k x
      · rfl
      · exact absurd ⟨x, List.mem_of_getElem? hx, hb⟩ hn
    cases this

end Go.Proofs.YtdjjpnobfopplaaGreatDoor
/- holds.Right: are holds? -/
namespace Go.Proofs.YtdjjpnobfopplaaGreatDoor
open Go.RowKit

def holdsB (ds : List HoldD) : Bool := ds.all holdB
end Go.Proofs.YtdjjpnobfopplaaGreatDoor
/- The reference of layer 14: value, one, Right: what each answers is what the program answers. -/
namespace Go.Proofs.YtdjjpnobfopplaaGreatDoor
open Go.RowKit

def valC (c : UInt8) : Bool := keyC c || decide (c.toNat = 45)
theorem textL_eq (l : List UInt8) : textL l = l.all valC := by
  unfold textL
  have hm : ∀ c : UInt8, c ∈ alnumL ↔ valC c = true := by
    intro c
    have hc : c = UInt8.ofNat c.toNat := by simp
    have hlt := c.toNat_lt
    constructor
    · intro h
      simp only [alnumL, List.mem_cons, List.not_mem_nil, or_false] at h
      rcases h with rfl | rfl | rfl | rfl | rfl | rfl | rfl | rfl | rfl | rfl | rfl | rfl | rfl | rfl | rfl | rfl | rfl | rfl | rfl | rfl | rfl | rfl | rfl | rfl | rfl | rfl | rfl | rfl | rfl | rfl | rfl | rfl | rfl | rfl | rfl | rfl | rfl <;> decide
    · intro h
      simp only [valC, keyC, Bool.or_eq_true, decide_eq_true_eq] at h
      have key : ∀ n : Fin 256, (97 ≤ n.val ∧ n.val ≤ 122 ∨ 48 ≤ n.val ∧ n.val ≤ 57) ∨ n.val = 45 → UInt8.ofNat n.val ∈ alnumL := by decide +kernel
      rw [hc]
      exact key ⟨c.toNat, hlt⟩ h
  rw [Bool.eq_iff_iff, decide_eq_true_eq, trim_nil, List.all_eq_true]
  exact ⟨fun h c hc => (hm c).1 (h c hc), fun h c hc => (hm c).2 (h c hc)⟩

def okText (s : ByteArray) : Bool := textL s.data.toList && decide (s.size ≤ 20)
end Go.Proofs.YtdjjpnobfopplaaGreatDoor
/- The document's layer 16: is a hold right, are holds? -/
namespace Go.Proofs.YtdjjpnobfopplaaGreatDoor
open Go.RowKit

/-- The same as holdB, in the document's order. -/
theorem holdB_ref (d : HoldD) : holdB d = (nameB d.cl d.nm && (rightsB d.acts && (decide ((d.value.size : Int) ≤ 20) && ((d.put || d.value.toList.isEmpty) && (keysR d.key d.acts && (!readsBad d.key d.reads && (decide (d.reads.length = cntR d.acts) && (d.put == putAny d.acts)))))))) := by
  unfold holdB
  generalize keysR d.key d.acts = a1
  generalize nameB d.cl d.nm = a2
  generalize rightsB d.acts = a3
  generalize readsBad d.key d.reads = a4
  generalize decide (d.reads.length = cntR d.acts) = a5
  generalize (d.put == putAny d.acts) = a6
  generalize decide ((d.value.size : Int) ≤ 20) = a7
  generalize (d.put || d.value.toList.isEmpty) = a8
  cases a1 <;> cases a2 <;> cases a3 <;> cases a4 <;> cases a5 <;> cases a6 <;> cases a7 <;> cases a8 <;> rfl
theorem readsBad_succ (s : ByteArray) (l : List Rd) (k : Nat) (x : Rd) (h : l[k]? = some x) : readsBad s (l.take (k + 1)) = (readsBad s (l.take k) || readBad s x) := by
  unfold readsBad
  rw [List.take_add_one, h, Option.toList_some, List.any_append]; simp

/-- The document's Right. -/
theorem holdsB_succ (ds : List HoldD) (k : Nat) (x : HoldD) (h : ds[k]? = some x) : holdsB (ds.take (k + 1)) = (holdsB (ds.take k) && holdB x) := by
  unfold holdsB
  rw [List.take_add_one, h, Option.toList_some, List.all_append]; simp
end Go.Proofs.YtdjjpnobfopplaaGreatDoor
