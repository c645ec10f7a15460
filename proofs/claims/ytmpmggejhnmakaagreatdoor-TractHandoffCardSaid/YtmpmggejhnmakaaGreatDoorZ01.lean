/- Small facts that all later texts of this claim use: the world behind a call, the library's variables, slices that are read. -/
import Derived.Test.YtmpmggejhnmakaaGreatDoorProg
import Derived.WalkKit
import Derived.WalkSmall
import Derived.WalkSpells
import Derived.WalkLawsBesides
import Derived.Deep.QuietTactic
import Derived.BigQuiet
import Derived.Lib.Hide
import Derived.Lib.LaidTab
import Derived.Lib.SmallJoins
import Derived.Lib.ConvBytes
import Derived.Lib.AppendIntMem
import Derived.Deep.Onto
import Derived.Deep.AppendLies
namespace Go.Proofs.YtmpmggejhnmakaaGreatDoor
open Go.RowKit
theorem ret_int {k:IntKind}{a b:Int}(h:a=b):Ending.returned (.int k a)= .returned (.int k b):=by rw[h]
theorem ret_bool {a b:Bool}(h:a=b):Ending.returned (.bool a)= .returned (.bool b):=by rw[h]
theorem ret_str {a b:List UInt8}(h:a=b):Ending.returned (.string ⟨a.toArray⟩)= .returned (.string ⟨b.toArray⟩):=by rw[h]
/-- Everything that lay in w lies unturned in w'. -/
abbrev Ext (w w':World):Prop:=Below w.heap.size w w'
theorem Ext.refl (w:World):Ext w w:=Below.refl _ _
theorem Ext.trans {a b c:World}(h:Ext a b)(k:Ext b c):Ext a c:=Below.trans h (Below.mono k h.size)
theorem Ext.drewN {a b:World}(h:Ext a b)(n:Nat):Ext a (b.drewN n):=below_drewN h n
theorem ext_bytesWorld {w:World}{e:TypeId}{s:ByteArray}:Ext w (Lib.bytesWorld w e s):=Joins.below_bytesWorld _ w e s (Nat.le_refl _)
theorem var_lt {P:Program}{w:World}{n:String}{g:Nat}{cs:Array Value}(hg:P.globalNamed n=some g)(h:w.var? P n=some cs):g<w.heap.size:=by
 unfold World.var? at h;simp only[hg,Option.bind_some]at h;rcases Nat.lt_or_ge g w.heap.size with k | k
 · exact k
 · simp[Array.getElem?_eq_none k]at h
end Go.Proofs.YtmpmggejhnmakaaGreatDoor
/- The library's variables that the walks of layer 14 lean on. -/
namespace Go.Proofs.YtmpmggejhnmakaaGreatDoor
open Go.RowKit
structure LV (B:Nat)(w:World):Prop where
 pow10:Lib.TabIs Tryz.prog w "internal/strconv.uint64pow10" .u64 Lib.pow10Tab
 errSyntax:∃tp p,w.var? Tryz.prog "strconv.ErrSyntax" =some #[.iface tp p]
 errRange:∃tp p,w.var? Tryz.prog "strconv.ErrRange" =some #[.iface tp p]
 bd:5<B/\3<B/\4<B
theorem gPow10:Tryz.prog.globalNamed "internal/strconv.uint64pow10" =some 5:=by kernel_rfl
theorem gErrSyntax:Tryz.prog.globalNamed "strconv.ErrSyntax" =some 3:=by kernel_rfl
theorem gErrRange:Tryz.prog.globalNamed "strconv.ErrRange" =some 4:=by kernel_rfl
theorem LV.ext {B:Nat}{w w':World}(h:LV B w)(hx:Ext w w'):LV B w':=by
 obtain⟨h1,⟨t2,p2,h2⟩,⟨t3,p3,h3⟩,hb⟩:=h;exact⟨var?_below hx gPow10 (var_lt gPow10 h1) h1,⟨t2,p2,var?_below hx gErrSyntax (var_lt gErrSyntax h2) h2⟩,⟨t3,p3,var?_below hx gErrRange (var_lt gErrRange h3) h3⟩,hb⟩
theorem LV.below {B:Nat}{w w':World}(h:LV B w)(hx:Below B w w'):LV B w':=by
 obtain⟨h1,⟨t2,p2,h2⟩,⟨t3,p3,h3⟩,hb1,hb2,hb3⟩:=h;exact⟨var?_below hx gPow10 hb1 h1,⟨t2,p2,var?_below hx gErrSyntax hb2 h2⟩,⟨t3,p3,var?_below hx gErrRange hb3 h3⟩,hb1,hb2,hb3⟩
theorem qA {p : Prop} (h : p) : RowKit.Hid p := Lib.hid h
theorem qB {α : Type _} {a : α} {l : List α} : (a :: l)[0]? = some a := rfl
theorem qC {α : Type _} {a : α} {i : Nat} {l : List α} : (a :: l)[i + 1]? = l[i]? := rfl
theorem qD {α : Type _} {xs : List α} {i : Nat} : xs.toArray[i]? = xs[i]? := List.getElem?_toArray
theorem qE {α : Type _} {l : List α} {i : Nat} (h : i < l.length) : l[i]? = some l[i] := List.getElem?_eq_getElem h
theorem qF {α : Type _} {i : Nat} {a : α} {l : List α} : l[i]? = some a ↔ ∃ h : i < l.length, l[i] = a := List.getElem?_eq_some_iff
theorem qG {α : Type _} {a b : List α} : (a ++ b).length = a.length + b.length := List.length_append
theorem qH {α : Type _} {l : List α} {i : Nat} {a : α} (h : l[i]? = some a) : a ∈ l := List.mem_of_getElem? h
theorem qJ {a b c : World} (h : Ext a b) (k : Ext b c) : Ext a c := Ext.trans h k
theorem qK (B : Nat) (w : World) : Below B w w := Below.refl B w
theorem qL (n : Nat) : n ≤ n := Nat.le_refl n
theorem qM {n m k : Nat} (h : n ≤ m) (j : m ≤ k) : n ≤ k := Nat.le_trans h j
theorem qN {n m k : Nat} (h : n < m) (j : m ≤ k) : n < k := Nat.lt_of_lt_of_le h j
end Go.Proofs.YtmpmggejhnmakaaGreatDoor
