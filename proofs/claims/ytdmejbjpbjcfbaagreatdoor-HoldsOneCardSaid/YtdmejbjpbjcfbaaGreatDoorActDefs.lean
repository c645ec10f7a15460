/- Acts, reads, and what acts of one key do: plain data and functions. -/
import Derived.Test.YtdmejbjpbjcfbaaGreatDoorNumDefs
import GoSem.Core.Value
import Derived.Lib.ItoaLen
namespace Go.Proofs.YtdmejbjpbjcfbaaGreatDoor

structure ActD where
  kind : Int
  key : ByteArray
  value : ByteArray
  num : Int
structure Rd where
  key : ByteArray
  is : Bool
  value : ByteArray
instance : Inhabited ActD := ⟨⟨0, ⟨#[]⟩, ⟨#[]⟩, 0⟩⟩
instance : Inhabited Rd := ⟨⟨⟨#[]⟩, false, ⟨#[]⟩⟩⟩
def encAct (a : ActD) : List Value := [.int .u8 a.kind, .string a.key, .string a.value, .int .i64 a.num]
def encRd (r : Rd) : List Value := [.string r.key, .bool r.is, .string r.value]
def encStr (s : ByteArray) : List Value := [.string s]

/-- Where acts are done. -/
structure St where
  reads : List Rd
  is : Bool
  put : Bool
  value : ByteArray
def clampI (n : Int) : Int := max (min n 4294967296) (-4294967296)
def St.get (s : St) (key : ByteArray) : St := { s with reads := s.reads ++ [⟨key, s.is, s.value⟩] }
def St.puts (s : St) (v : ByteArray) : St := { s with is := true, put := true, value := v }
def addV (v : ByteArray) (n : Int) : ByteArray := ⟨(valueL (numberL v.data.toList + clampI n)).toArray⟩
def St.step (s : St) (a : ActD) : St :=
  if a.kind = 1 then s.get a.key
  else if a.kind = 2 then s.puts a.value
  else if a.kind = 3 then (s.get a.key).puts (addV s.value a.num)
  else s
def St.after (s : St) (l : List ActD) : St := l.foldl St.step s
def noBytes : ByteArray := ⟨#[]⟩
def St.begin (is : Bool) (value : ByteArray) : St := ⟨[], is, false, if is then value else noBytes⟩

/-- The sizes and ranges that values of these types have. -/
def ActD.ok (a : ActD) : Prop := 0 ≤ a.kind ∧ a.kind ≤ 255 ∧ a.key.size ≤ 140737488351232 ∧ a.value.size ≤ 140737488351232 ∧ -9223372036854775808 ≤ a.num ∧ a.num ≤ 9223372036854775807

theorem St.after_succ (s : St) (l : List ActD) (k : Nat) (x : ActD) (h : l[k]? = some x) : s.after (l.take (k + 1)) = (s.after (l.take k)).step x := by
  unfold St.after
  rw [List.take_add_one, h]
  simp
theorem valueL_le (n : Int) : (valueL n).length ≤ 21 := by
  unfold valueL cutI
  exact Lib.itoa_length_le _ (by omega) (by omega)
theorem St.step_bd (s : St) (a : ActD) (hs : s.value.size ≤ 140737488351232) (ha : a.ok) : (s.step a).value.size ≤ 140737488351232 ∧ (s.step a).reads.length ≤ s.reads.length + 1 := by
  unfold St.step
  split
  · exact ⟨hs, by simp [St.get]⟩
  · split
    · exact ⟨ha.2.2.2.1, by simp [St.puts]⟩
    · split
      · refine ⟨?_, by simp [St.get, St.puts]⟩
        have := valueL_le (numberL s.value.data.toList + clampI a.num)
        simp only [St.puts, addV, ByteArray.size, List.size_toArray]
        omega
      · exact ⟨hs, by omega⟩
theorem St.after_bd (l : List ActD) : ∀ (s : St), s.value.size ≤ 140737488351232 → (∀ a ∈ l, a.ok) → (s.after l).value.size ≤ 140737488351232 ∧ (s.after l).reads.length ≤ s.reads.length + l.length := by
  induction l with
  | nil => intro s hs _; exact ⟨hs, by simp [St.after]⟩
  | cons a l ih =>
    intro s hs ha
    have h1 := St.step_bd s a hs (ha a (by simp))
    have h2 := ih (s.step a) h1.1 fun x hx => ha x (by simp [hx])
    exact ⟨h2.1, by have := h2.2; unfold St.after at *; simp only [List.foldl_cons, List.length_cons]; omega⟩
end Go.Proofs.YtdmejbjpbjcfbaaGreatDoor
