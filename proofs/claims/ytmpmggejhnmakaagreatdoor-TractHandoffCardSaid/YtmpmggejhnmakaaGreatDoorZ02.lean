/- What the package act's and the reference's functions on numbers compute: plain functions on lists of bytes. -/
import Derived.Lib.AtoiAll
import Derived.Lib.ItoaNum
import Derived.Lib.SlTrimSet
import Derived.Lib.Strings
import GoSem.Core.Value
import Derived.Lib.ItoaLen
import Derived.Test.YtmpmggejhnmakaaGreatDoorZ01
import Derived.RangeFuncBox
import Derived.Deep.Upon
import Derived.Deep.RegionHeld3
import Derived.Deep.Quiet
import Derived.StillTailTactics
import Derived.MapKept
import Derived.Lib.AtoiAllCases
namespace Go.Proofs.YtmpmggejhnmakaaGreatDoor
def cutI (n:Int):Int:=max (min n 1073741824) (-1073741824)
def valueL (n:Int):List UInt8:=Lib.itoa (cutI n)
def digitsL:List UInt8:=[48,49,50,51,52,53,54,55,56,57]
def numberL (l:List UInt8):Int:=
 if Lib.trimPrefix l [45]=[] then 0
 else if Lib.trimS (Lib.trimPrefix l [45]) digitsL=[] then
  match Lib.atoiAll l with
  | .ok n=>if n=cutI n then n else 0
  | _=>0
 else 0
end Go.Proofs.YtmpmggejhnmakaaGreatDoor
/- Acts, reads, and what acts of one key do: plain data and functions. -/
namespace Go.Proofs.YtmpmggejhnmakaaGreatDoor
structure ActD where
 kind:Int
 key:ByteArray
 value:ByteArray
 num:Int
structure Rd where
 key:ByteArray
 is:Bool
 value:ByteArray
instance:Inhabited ActD:=⟨⟨0,⟨#[]⟩,⟨#[]⟩,0⟩⟩
instance:Inhabited Rd:=⟨⟨⟨#[]⟩,false,⟨#[]⟩⟩⟩
def encAct (a:ActD):List Value:=[.int .u8 a.kind,.string a.key,.string a.value,.int .i64 a.num]
def encRd (r:Rd):List Value:=[.string r.key,.bool r.is,.string r.value]
def encStr (s:ByteArray):List Value:=[.string s]
structure St where
 reads:List Rd
 is:Bool
 put:Bool
 value:ByteArray
def clampI (n:Int):Int:=max (min n 4294967296) (-4294967296)
def St.get (s:St)(key:ByteArray):St:={ s with reads:=s.reads++[⟨key,s.is,s.value⟩] }
def St.puts (s:St)(v:ByteArray):St:={ s with is:=true,put:=true,value:=v }
def addV (v:ByteArray)(n:Int):ByteArray:=⟨(valueL (numberL v.data.toList+clampI n)).toArray⟩
def St.step (s:St)(a:ActD):St:=
 if a.kind=1 then s.get a.key
 else if a.kind=2 then s.puts a.value
 else if a.kind=3 then (s.get a.key).puts (addV s.value a.num)
 else s
def St.after (s:St)(l:List ActD):St:=l.foldl St.step s
def noBytes:ByteArray:=⟨#[]⟩
def St.begin (is:Bool)(value:ByteArray):St:=⟨[],is,false,if is then value else noBytes⟩
def ActD.ok (a:ActD):Prop:=0<=a.kind/\a.kind<=255/\a.key.size<=140737488351232/\a.value.size<=140737488351232/\ -9223372036854775808<=a.num/\a.num<=9223372036854775807
theorem St.after_succ (s:St)(l:List ActD)(k:Nat)(x:ActD)(h:l[k]? =some x):s.after (l.take (k+1))=(s.after (l.take k)).step x:=by
 unfold St.after;rw[List.take_add_one,h];simp
theorem valueL_le (n:Int):(valueL n).length<=21:=by
 unfold valueL cutI;exact Lib.itoa_length_le _ (by omega) (by omega)
theorem St.step_bd (s:St)(a:ActD)(hs:s.value.size<=140737488351232)(ha:a.ok):(s.step a).value.size<=140737488351232/\(s.step a).reads.length<=s.reads.length+1:=by
 unfold St.step
 split
 · exact⟨hs,by simp[St.get]⟩
 · split
   · exact⟨ha.2.2.2.1,by simp[St.puts]⟩
   · split
     · refine⟨?_,by simp[St.get,St.puts]⟩
       have:=valueL_le (numberL s.value.data.toList+clampI a.num)
       simp only[St.puts,addV,ByteArray.size,List.size_toArray];omega
     · exact⟨hs,by omega⟩
theorem St.after_bd (l:List ActD):∀(s:St),s.value.size<=140737488351232->(∀a∈l,a.ok)->(s.after l).value.size<=140737488351232/\(s.after l).reads.length<=s.reads.length+l.length:=by
 induction l with
 | nil=>intro s hs _;exact⟨hs,by simp[St.after]⟩
 | cons a l ih=>
   intro s hs ha;have h1:=St.step_bd s a hs (ha a (by simp));have h2:=ih (s.step a) h1.1 λx hx=>ha x (by simp[hx]);exact⟨h2.1,by have:=h2.2;unfold St.after at *;simp only[List.foldl_cons,List.length_cons];omega⟩
end Go.Proofs.YtmpmggejhnmakaaGreatDoor
/- Keys, and acts that are right: plain functions. -/
namespace Go.Proofs.YtmpmggejhnmakaaGreatDoor
def keyC (c:UInt8):Bool:=decide (97<=c.toNat/\c.toNat<=122)||decide (48<=c.toNat/\c.toNat<=57)
def keyL (l:List UInt8):Bool:= !l.isEmpty&&decide (l.length<=20)&&l.all keyC
def alnumL:List UInt8:=[97,98,99,100,101,102,103,104,105,106,107,108,109,110,111,112,113,114,115,116,117,118,119,120,121,122,48,49,50,51,52,53,54,55,56,57,45]
def textL (l:List UInt8):Bool:=decide (Lib.trimS l alnumL=[])
def kindB (a:ActD):Bool:=
 if a.kind=1 then decide (a.value.data.toList=[])&&decide (a.num=0)
 else if a.kind=2 then decide (a.value.data.toList.length<=20)&&textL a.value.data.toList&&decide (a.num=0)
 else if a.kind=3 then decide (a.value.data.toList=[])&&decide (a.num=cutI a.num)
 else false
def rightB (a:ActD):Bool:=keyL a.key.data.toList&&kindB a
def rightsB (l:List ActD):Bool:=decide (1<=l.length)&&decide (l.length<=6)&&l.all rightB
end Go.Proofs.YtmpmggejhnmakaaGreatDoor
/- Blocks of cells, rows that a call owns, and slices that are read: small facts on worlds. -/
namespace Go.Proofs.YtmpmggejhnmakaaGreatDoor
open Go.RowKit
def Blk (w:World)(b:Nat)(cs:List Value)(t:TypeId):Prop:=w.heap[b]? =some (.cells cs.toArray t (0,0))
theorem Blk.lt {w:World}{b:Nat}{cs:List Value}{t:TypeId}(h:Blk w b cs t):b<w.heap.size:=lt_of_block h
theorem Blk.cell {w:World}{b:Nat}{cs:List Value}{t:TypeId}(h:Blk w b cs t)(i:Nat):w.cell? ⟨b,i,none⟩=cs[i]? :=by
 rw[cell_of_row w b i _ t _ h];simp
theorem Blk.free {w:World}{b:Nat}{cs:List Value}{t:TypeId}(h:Blk w b cs t)(i:Nat):w.frozen? ⟨b,i,none⟩=false:=frozen_of_row w b i _ t h
theorem Blk.set {w:World}{b:Nat}{cs:List Value}{t:TypeId}(h:Blk w b cs t)(i:Nat)(v:Value):Blk (w.setCell ⟨b,i,none⟩ v) b (cs.set i v) t:=by
 unfold Blk;rw[heap_setCell_same w b i _ t v h];simp
theorem Blk.other {w:World}{b:Nat}{cs:List Value}{t:TypeId}(h:Blk w b cs t){a:Addr}(ha:b≠a.block)(v:Value):Blk (w.setCell a v) b cs t:=(heap_setCell_other w a b v ha).trans h
theorem Blk.alloc {w:World}{b:Nat}{cs:List Value}{t:TypeId}(h:Blk w b cs t)(o:Obj):Blk (w.alloc o) b cs t:=(heap_alloc_old w o h.lt).trans h
theorem Blk.drewN {w:World}{b:Nat}{cs:List Value}{t:TypeId}(h:Blk w b cs t)(n:Nat):Blk (w.drewN n) b cs t:=h
theorem Blk.drew {w:World}{b:Nat}{cs:List Value}{t:TypeId}(h:Blk w b cs t):Blk w.drew b cs t:=h
theorem Blk.ext {w w':World}{b B:Nat}{cs:List Value}{t:TypeId}(h:Blk w b cs t)(hx:Below B w w')(hb:b<B):Blk w' b cs t:=(hx.block b hb).trans h
theorem Blk.ext' {w w':World}{b:Nat}{cs:List Value}{t:TypeId}(h:Blk w b cs t)(hx:Ext w w'):Blk w' b cs t:=h.ext hx h.lt
theorem Blk.grown {w w':World}{b:Nat}{cs:List Value}{t:TypeId}{row:Option Nat}(h:Blk w b cs t)(hg:w.grownBy w' row)(hr:row≠some b):Blk w' b cs t:=
 (hg.block b h.lt (λe=>hr e.symm)).trans h
theorem Blk.new (w:World)(cs:List Value)(t:TypeId):Blk (w.alloc (.cells cs.toArray t)) w.heap.size cs t:=heap_alloc_new w _
theorem own_ne {w:World}{B:Nat}{e t:TypeId}{size n:Nat}{v:Value}{xs:List Value}{b:Nat}{cs:List Value}(hown:w.ownsRow B e size v n xs)(hb:Blk w b cs t)(hte:t≠e):v.ownBlock≠some b:=by
 intro h;rcases hown.2 with ⟨rfl,_⟩ | ⟨g,cap,cur,rfl,_,hg,_⟩
 · simp[Value.ownBlock]at h
 · simp[Value.ownBlock]at h
   subst h;unfold Blk at hb;rw[hg]at hb;simp at hb;exact hte hb.2.symm
theorem own_ge {w:World}{B:Nat}{e:TypeId}{size n:Nat}{v:Value}{xs:List Value}(hown:w.ownsRow B e size v n xs):∀k,v.ownBlock=some k->B<=k:=λk hk=>(hown.lt k hk).1
theorem own_ext {w w':World}{B:Nat}{e:TypeId}{size n:Nat}{v:Value}{xs:List Value}(hown:w.ownsRow B e size v n xs)(hx:Ext w w'):w'.ownsRow B e size v n xs:=
 hown.kept (row:=none) ⟨hx.os,hx.tape,hx.output,hx.size,λk hk _=>hx.block k hk⟩ (by
  cases h:v.ownBlock with
  | none=>exact .inl rfl
  | some k=>exact .inr (by simp))
theorem own_setOther {w:World}{B:Nat}{e:TypeId}{size n:Nat}{v:Value}{xs:List Value}(hown:w.ownsRow B e size v n xs){a:Addr}(ha:v.ownBlock≠some a.block)(u:Value):(w.setCell a u).ownsRow B e size v n xs:=
 ownsRow_setCell_other hown ha u
theorem cells_new (w:World)(cs:List Value)(t:TypeId):∀(j:Nat)(u:Value),cs[j]? =some u->(w.alloc (.cells cs.toArray t)).cell? ((⟨w.heap.size,0,none⟩:Addr).add j)=some u:=by
 intro j u hj;have h:=(Blk.new w cs t).cell j;rw[hj]at h;unfold Addr.add
 split
 · rename_i e;subst e;exact h
 · simpa using h
def Rows {α:Type}(sz:Nat)(enc:α->List Value)(B:Nat)(w:World)(ao:Option Addr)(l:List α):Prop:=
 l≠[]->∃b off,ao=some ⟨b,off,none⟩/\b<B/\∀(i:Nat) (x:α),l[i]? =some x->∀(j:Nat) (v:Value),(enc x)[j]? =some v->w.cell? ⟨b,off+i * sz+j,none⟩=some v
theorem Rows.nil {α:Type}(sz:Nat)(enc:α->List Value)(B:Nat)(w:World)(ao:Option Addr):Rows sz enc B w ao []:=λh=>absurd rfl h
theorem Rows.ext {α:Type}{sz:Nat}{enc:α->List Value}{B:Nat}{w w':World}{ao:Option Addr}{l:List α}(h:Rows sz enc B w ao l)(hx:Below B w w'):Rows sz enc B w' ao l:=by
 intro hne;obtain⟨b,off,rfl,hb,hc⟩:=h hne;exact⟨b,off,rfl,hb,λi x hi j v hj=>(hx.cell (p:=⟨b,_,none⟩) hb).trans (hc i x hi j v hj)⟩
theorem Rows.mono {α:Type}{sz:Nat}{enc:α->List Value}{B B':Nat}{w:World}{ao:Option Addr}{l:List α}(h:Rows sz enc B w ao l)(hB:B<=B'):Rows sz enc B' w ao l:=by
 intro hne;obtain⟨b,off,rfl,hb,hc⟩:=h hne;exact⟨b,off,rfl,by omega,hc⟩
theorem Rows.take {α:Type}{sz:Nat}{enc:α->List Value}{B:Nat}{w:World}{ao:Option Addr}{l:List α}(h:Rows sz enc B w ao l)(k:Nat):Rows sz enc B w ao (l.take k):=by
 intro hne;obtain⟨b,off,rfl,hb,hc⟩:=h (λe=>hne (by rw[e];simp));refine⟨b,off,rfl,hb,λi x hi=>hc i x ?_⟩;rw[List.getElem?_take]at hi
 split at hi
 · exact hi
 · cases hi
theorem Rows.drop {α:Type}{sz:Nat}{enc:α->List Value}{B b off:Nat}{w:World}{l:List α}(h:Rows sz enc B w (some ⟨b,off,none⟩) l)(k:Nat):Rows sz enc B w (some ⟨b,off+k * sz,none⟩) (l.drop k):=by
 intro hne;obtain⟨b',off',he,hb,hc⟩:=h (λe=>hne (by rw[e];simp));obtain⟨rfl,rfl⟩:b=b'/\off=off':=by simpa using he
 refine⟨b,_,rfl,hb,λi x hi j v hj=>?_⟩
 have:=hc (k+i) x (by simpa using hi) j v hj
 rw[show off+k * sz+i * sz+j=off+(k+i) * sz+j from by rw[Nat.add_mul];omega];exact this
theorem flat_at {α:Type}{sz:Nat}{enc:α->List Value}(hsz:∀x,(enc x).length=sz):∀(l:List α)(i:Nat)(x:α),l[i]? =some x->∀(j:Nat)(v:Value),(enc x)[j]? =some v->(l.flatMap enc)[i * sz+j]? =some v:=by
 intro l
 induction l with
 | nil=>intro i x hi;simp at hi
 | cons y l ih=>
   intro i x hi j v hj;have hj':j<sz:=by rw[<- hsz x];exact (qF.1 hj).1
   cases i with
   | zero=>
     simp at hi;subst hi;rw[List.flatMap_cons,List.getElem?_append_left (by rw[hsz];omega)];simpa using hj
   | succ i=>
     rw[List.flatMap_cons,List.getElem?_append_right (by rw[hsz,Nat.succ_mul];omega),hsz];rw[show (i+1) * sz+j - sz=i * sz+j from by rw[Nat.succ_mul];omega];exact ih i x (by simpa using hi) j v hj
theorem Rows.own {α:Type}{sz:Nat}{enc:α->List Value}{B:Nat}{e:TypeId}{w:World}{v:Value}{l:List α}(hsz:∀x,(enc x).length=sz)(h:w.ownsRow B e sz v l.length (l.flatMap enc)):
 ∃ao cap,v= .slice ao l.length cap/\l.length<=cap/\cap<=maxLen/\Rows sz enc w.heap.size w ao l:=by
 obtain⟨hlen,h2⟩:=h;rcases h2 with ⟨rfl,h0⟩ | ⟨g,cap,cur,rfl,hB,hg,hn,hm,hcs,htk⟩
 · have:l=[]:=List.eq_nil_of_length_eq_zero h0
   subst this;exact⟨none,0,rfl,qL _,by simp[maxLen],Rows.nil _ _ _ _ _⟩
 · refine⟨_,cap,rfl,hn,hm,λ_=>⟨g,0,rfl,lt_of_block hg,λi x hi j v hj=>?_⟩⟩
   have hj':j<sz:=by rw[<- hsz x];exact (qF.1 hj).1
   have hi':i<l.length:=(qF.1 hi).1;have key:(l.flatMap enc)[i * sz+j]? =some v:=flat_at hsz l i x hi j v hj;rw[cell_of_row w g _ cur e _ hg];rw[<- htk]at key;rw[List.getElem?_take]at key
   split at key
   · simpa using key
   · cases key
structure But (S:Nat->Prop)(w w':World):Prop where
 os:w'.os=w.os
 tape:w'.tape=w.tape
 output:w'.output=w.output
 size:w.heap.size<=w'.heap.size
 block:∀k,k<w.heap.size->¬S k->w'.heap[k]? =w.heap[k]?
theorem But.refl (S:Nat->Prop)(w:World):But S w w:=⟨rfl,rfl,rfl,qL _,λ_ _ _=>rfl⟩
theorem But.trans {S T U:Nat->Prop}{a b c:World}(h:But S a b)(k:But T b c)(hS:∀i,i<a.heap.size->S i->U i)(hT:∀i,i<a.heap.size->T i->U i):But U a c:=
 ⟨k.os.trans h.os,k.tape.trans h.tape,k.output.trans h.output,qM h.size k.size,λi hi hU=>
  (k.block i (qN hi h.size) (λe=>hU (hT i hi e))).trans (h.block i hi (λe=>hU (hS i hi e)))⟩
theorem But.mono {S T:Nat->Prop}{a b:World}(h:But S a b)(hS:∀i,i<a.heap.size->S i->T i):But T a b:=⟨h.os,h.tape,h.output,h.size,λi hi hT=>h.block i hi λe=>hT (hS i hi e)⟩
theorem But.ext {S:Nat->Prop}{a b:World}(h:But S a b)(hS:∀i,i<a.heap.size->¬S i):Ext a b:=⟨h.os,h.tape,h.output,h.size,λi hi=>h.block i hi (hS i hi)⟩
theorem Ext.but {a b:World}(h:Ext a b)(S:Nat->Prop):But S a b:=⟨h.os,h.tape,h.output,h.size,λi hi _=>h.block i hi⟩
theorem But.below {S:Nat->Prop}{a b:World}{B:Nat}(h:But S a b)(hB:B<=a.heap.size)(hS:∀i,S i->B<=i):Below B a b:=
 ⟨h.os,h.tape,h.output,h.size,λi hi=>h.block i (by omega) (λe=>by have:=hS i e;omega)⟩
theorem But.of_grown {a b:World}{row:Option Nat}(h:a.grownBy b row):But (λk=>row=some k) a b:=⟨h.os,h.tape,h.output,h.size,λi hi hS=>h.block i hi λe=>hS e.symm⟩
theorem But.alloc {S:Nat->Prop}{a b:World}(h:But S a b)(o:Obj):But S a (b.alloc o):=
 h.trans ((qK _ b).alloc (qL _) o |> λx=>Ext.but x (λ_=>False)) (λ_ _ e=>e) (λ_ _ e=>e.elim)
theorem But.drew {S:Nat->Prop}{a b:World}(h:But S a b):But S a b.drew:=⟨h.os,h.tape,h.output,h.size,h.block⟩
theorem But.drewN {S:Nat->Prop}{a b:World}(h:But S a b)(n:Nat):But S a (b.drewN n):=⟨h.os,h.tape,h.output,h.size,h.block⟩
theorem But.setCell {S:Nat->Prop}{a b:World}(h:But S a b){p:Addr}(hp:p.block<a.heap.size->S p.block)(u:Value):But S a (b.setCell p u):=
 ⟨h.os,h.tape,h.output,by simpa using h.size,λi hi hS=>by
  rw[heap_setCell_other b p i u (λe=>hS (e▸hp (e▸hi)))]
  exact h.block i hi hS⟩
theorem But.cell {S:Nat->Prop}{a b:World}(h:But S a b){p:Addr}(hp:p.block<a.heap.size)(hS:¬S p.block):b.cell? p=a.cell? p:=World.cell?_of_block (w:=a) (h.block p.block hp hS)
theorem Blk.but {S:Nat->Prop}{w w':World}{b:Nat}{cs:List Value}{t:TypeId}(h:Blk w b cs t)(hx:But S w w')(hS:¬S b):Blk w' b cs t:=(hx.block b h.lt hS).trans h
theorem own_but {S:Nat->Prop}{w w':World}{B:Nat}{e:TypeId}{size n:Nat}{v:Value}{xs:List Value}(h:w.ownsRow B e size v n xs)(hx:But S w w')(hS:∀k,v.ownBlock=some k->¬S k):w'.ownsRow B e size v n xs:=by
 obtain⟨h1,h2⟩:=h;refine⟨h1,?_⟩;rcases h2 with h2 | ⟨g,cap,cur,rfl,hB,hg,r⟩
 · exact .inl h2
 · exact .inr ⟨g,cap,cur,rfl,hB,(hx.block g (lt_of_block hg) (hS g rfl)).trans hg,r⟩
theorem own_base {w:World}{B B':Nat}{e:TypeId}{size n:Nat}{v:Value}{xs:List Value}(h:w.ownsRow B e size v n xs)(hB:∀k,v.ownBlock=some k->B'<=k):w.ownsRow B' e size v n xs:=by
 obtain⟨h1,h2⟩:=h;refine⟨h1,?_⟩;rcases h2 with h2 | ⟨g,cap,cur,rfl,_,r⟩
 · exact .inl h2
 · exact .inr ⟨g,cap,cur,rfl,hB g rfl,r⟩
theorem Rows.but {α:Type}{sz:Nat}{enc:α->List Value}{B:Nat}{S:Nat->Prop}{w w':World}{ao:Option Addr}{l:List α}(h:Rows sz enc B w ao l)(hx:But S w w')(hB:B<=w.heap.size)(hS:∀k,k<B->¬S k):Rows sz enc B w' ao l:=
 h.ext (⟨hx.os,hx.tape,hx.output,hx.size,λi hi=>hx.block i (by omega) (hS i hi)⟩:Below B w w')
def Kept1 (w:World)(v v':Value):Prop:=∀k,v'.ownBlock=some k->v.ownBlock=some k\/w.heap.size<=k
section
variable {P:Program} (w:World)
theorem append_where (base:Nat)(t ty e:TypeId)(i:TypeInfo)(z:Value)(size bytes:Nat)(ht:P.underlying t=some (.slice e))(hi:P.info? e=some i)(hz:i.zero=some z)
 (hsize:i.size=size) (hby:i.bytes=bytes) (v:Value) (n:Nat) (xs:List Value) (hown:w.ownsRow base e size v n xs)
 (a:Addr) (m c:Nat) (news:List Value) (hl:news.length=m * size) (hnews:∀(j:Nat) (u:Value),news[j]? =some u->w.cell? (a.add j)=some u) (h1:∀u∈news,u.oneCell'=true) (h0:0<m)
 (h63:n+m<=maxLen) (hbytes:(n+m) * bytes<=140737488355328) (v':Value) (w':World) (hr:(Builtin.append_ #[t,t] ty #[v,.slice (some a) m c]).run P w= .ok v' w'):Kept1 w v v':=by
 subst hsize;subst hby;simp only[maxLen]at h63;rcases hown.2 with ⟨rfl,rfl⟩ | ⟨g,cap,cur,rfl,_,hg,hnc,_,hcs,_⟩
 · rw[run_append_nil (P:=P) w t ty e i z ht hi hz a m c news hl hnews h0 (by omega) (by simp only[Nat.zero_add]at hbytes;omega)]at hr
   injection hr with hr _;subst hr;intro k hk;simp[Value.ownBlock]at hk
   right;omega
 · by_cases hroom:n+m<=cap
   · have hfit:n * i.size+news.length<=cur.size:=by rw[hl,hcs,<- Nat.add_mul];exact Nat.mul_le_mul_right _ hroom
     rw[run_append_room (P:=P) w t ty e i ht hi g n cap cur hg a m c news hl hnews h1 hroom hfit]at hr;injection hr with hr _;subst hr;intro k hk
     left;exact hk
   · rw[run_append_grow (P:=P) w t ty e i z ht hi hz ⟨g,0,none⟩ n cap xs hown.1 (hown.cells (g:=g) rfl) a m c news hl hnews (by omega) (by omega) (growslice_fits (by omega) hbytes)]at hr
     injection hr with hr _;subst hr;intro k hk;simp[Value.ownBlock]at hk
     right;omega
theorem wpList_append_at {ops:Array Oper}{rest:List Oper}{o:Oper}{a:Act}{Q:Exit->Act->World->Prop}(hgd:o.guard=none)(s x:Operand)(t:TypeId)
 (ho:o.op= .call { callee:= .builtin .append,args:= #[s,x],argTypes:= #[t,t] })
 (e:TypeId) (i:TypeInfo) (z:Value) (size bytes:Nat) (ht:P.underlying t=some (.slice e)) (hi:P.info? e=some i) (hz:i.zero=some z)
 (hsize:i.size=size) (hby:i.bytes=bytes) (hzs:z.cells.size=size) (hsz:0<size)
 (v:Value) (n:Nat) (xs:List Value) (hs:a.eval s=v) (hown:w.ownsRow 0 e size v n xs)
 (ad:Addr) (m c:Nat) (news:List Value) (hx:a.eval x= .slice (some ad) m c) (hl:news.length=m * size) (hnews:∀(j:Nat) (u:Value),news[j]? =some u->w.cell? (ad.add j)=some u) (h1:∀u∈news,u.oneCell'=true) (h0:0<m)
 (h63:n+m<=maxLen) (hbytes:(n+m) * bytes<=140737488355328)
 (h:∀g cap w',w'.ownsRow 0 e size (.slice (some ⟨g,0,none⟩) (n+m) cap) (n+m) (xs++news)->But (λk=>v.ownBlock=some k) w w'->Kept1 w v (.slice (some ⟨g,0,none⟩) (n+m) cap)->wpList P ops Q rest (a.put o.dst (.slice (some ⟨g,0,none⟩) (n+m) cap)) w'):wpList P ops Q (o::rest) a w:=by
 refine wpList_plain hgd λK hK=>?_;obtain⟨v',w',hr,h2,h3,h4⟩:=run_append_own (P:=P) w 0 t o.type e i z size bytes ht hi hz hsize hby hzs hsz v n xs hown ad m c news hl hnews h1 h63 hbytes (Nat.zero_le _);have h5:=append_where (P:=P) w 0 t o.type e i z size bytes ht hi hz hsize hby v n xs hown ad m c news hl hnews h1 h0 h63 hbytes v' w' hr
 obtain⟨g,cap,rfl⟩:∃g cap,v'= .slice (some ⟨g,0,none⟩) (n+m) cap:=by
  rcases h2.2 with ⟨_,h6⟩ | ⟨g,cap,_,h6,_⟩
  · omega
  · exact⟨g,cap,h6⟩
 unfold Oper.wp execOp;simp only[ho,resolve,invoke,builtin,Sem.run_bind,Sem.run_pure,Result.andThen_ok,List.map_toArray,List.map_cons,List.map_nil,hs,hx,hr];exact hK _ _ (h g cap w' h2 (.of_grown h3) h5)
end
end Go.Proofs.YtmpmggejhnmakaaGreatDoor
/- append(s, x...) where s is a row of the call's own and x any row, the empty one too. -/
namespace Go.Proofs.YtmpmggejhnmakaaGreatDoor
open Go.RowKit
theorem Rows.flat {α:Type}{sz:Nat}{enc:α->List Value}(hsz:∀x,(enc x).length=sz)(h0:0<sz){b off:Nat}{w:World}:∀(l:List α)(_:∀(i:Nat)(x:α),l[i]? =some x->∀(j:Nat)(v:Value),(enc x)[j]? =some v->w.cell? ⟨b,off+i * sz+j,none⟩=some v)
 (j:Nat) (u:Value),(l.flatMap enc)[j]? =some u->w.cell? ((⟨b,off,none⟩:Addr).add j)=some u:=by
 intro l h j u hj
 have hlen:(l.flatMap enc).length=l.length * sz:=by
  clear h hj
  induction l with
  | nil=>simp
  | cons y l ih=>rw[List.flatMap_cons,qG,hsz,ih,List.length_cons,Nat.succ_mul];omega
 have hjl:j<l.length * sz:=by rw[<- hlen];exact (qF.1 hj).1
 have hil:j / sz<l.length:=Nat.div_lt_of_lt_mul (by rw[Nat.mul_comm];exact hjl);obtain⟨x,hx⟩:∃x,l[j / sz]? =some x:=⟨_,qE hil⟩;have hjm:j % sz<(enc x).length:=by rw[hsz];exact Nat.mod_lt _ h0
 obtain⟨v,hv⟩:∃v,(enc x)[j % sz]? =some v:=⟨_,qE hjm⟩;have e1:=flat_at hsz l (j / sz) x hx (j % sz) v hv;have e0:j / sz * sz+j % sz=j:=by rw[Nat.mul_comm];exact Nat.div_add_mod j sz
 rw[e0,hj]at e1;cases e1
 have:=h _ x hx _ _ hv
 rw[Nat.add_assoc,e0]at this;unfold Addr.add
 split
 · rename_i e;subst e;simpa using this
 · simpa using this
section
variable {P:Program} {w:World}
theorem wpList_append_rows {α:Type}{enc:α->List Value}{size:Nat}(hsz:∀x,(enc x).length=size)(hone:∀x,∀u∈enc x,u.oneCell'=true){ops:Array Oper}{rest:List Oper}{o:Oper}{a:Act}{Q:Exit->Act->World->Prop}(hgd:o.guard=none)(s x:Operand)(t:TypeId)
 (ho:o.op= .call { callee:= .builtin .append,args:= #[s,x],argTypes:= #[t,t] })
 (e:TypeId) (i:TypeInfo) (z:Value) (bytes:Nat) (ht:P.underlying t=some (.slice e)) (hi:P.info? e=some i) (hz:i.zero=some z)
 (hsize:i.size=size) (hby:i.bytes=bytes) (hzs:z.cells.size=size) (h0:0<size)
 (v:Value) (n:Nat) (xs:List Value) (hs:a.eval s=v) (hown:w.ownsRow 0 e size v n xs)
 (xo:Option Addr) (l:List α) (c:Nat) (hx:a.eval x= .slice xo l.length c) (hr:Rows size enc w.heap.size w xo l)
 (h63:n+l.length<=maxLen) (hbytes:(n+l.length) * bytes<=140737488355328)
 (h:∀v' w',w'.ownsRow 0 e size v' (n+l.length) (xs++l.flatMap enc)->But (λk=>v.ownBlock=some k) w w'->Kept1 w v v'->wpList P ops Q rest (a.put o.dst v') w'):wpList P ops Q (o::rest) a w:=by
 by_cases hl:l=[]
 · subst hl
   refine wpList_plain hgd λK hK=>?_
   obtain⟨so,scap,rfl,hle⟩:∃so scap,v= .slice so n scap/\n<=scap:=by
    rcases hown.2 with ⟨rfl,rfl⟩ | ⟨g,cap,cur,rfl,_,_,hnc,_⟩
    · exact⟨none,0,rfl,qL _⟩
    · exact⟨_,cap,rfl,hnc⟩
   have hsrc:Go.Src P i.size t (.slice xo 0 c) 0 [] w:=by
    cases xo with
    | none=>exact Go.Src.ofNil _ ht c
    | some ad=>exact Go.Src.ofSlice _ ht ad 0 c [] (by simp) (by simp) (by simp)
   have hrun:=Go.run_append_nothing w t t o.type e i ht hi so n scap hle _ hsrc;unfold Oper.wp execOp;simp only[ho,resolve,invoke,builtin,Sem.run_bind,Sem.run_pure,Result.andThen_ok,List.map_toArray,List.map_cons,List.map_nil,hs,hx,List.length_nil,hrun];exact hK _ _ (h _ w (by simpa using hown) (But.refl _ _) (λk hk=> .inl hk))
 · obtain⟨b,off,rfl,hb,hcell⟩:=hr hl
   have hlen:(l.flatMap enc).length=l.length * size:=by
    clear hcell hr hx h63 hbytes h hl
    induction l with
    | nil=>simp
    | cons y l ih=>rw[List.flatMap_cons,qG,hsz,ih,List.length_cons,Nat.succ_mul];omega
   refine wpList_append_at w hgd s x t ho e i z size bytes ht hi hz hsize hby hzs h0 v n xs hs hown ⟨b,off,none⟩ l.length c (l.flatMap enc) hx hlen (Rows.flat hsz h0 l hcell) ?_ (List.length_pos_iff.2 hl) h63 hbytes (λg cap w' h1 h2 h3=>h _ w' h1 h2 h3);intro u hu;obtain⟨x,_,hxu⟩:=List.mem_flatMap.1 hu;exact hone x u hxu
end
end Go.Proofs.YtmpmggejhnmakaaGreatDoor
/- append at a step of a region that draws its order: of a row to a row of the call's own. -/
namespace Go.Proofs.YtmpmggejhnmakaaGreatDoor
open Go.RowKit
theorem Rows.fresh' {α:Type}{sz:Nat}{enc:α->List Value}(hsz:∀x,(enc x).length=sz)(l:List α)(w:World)(t:TypeId):Rows sz enc (w.alloc (.cells (l.flatMap enc).toArray t)).heap.size (w.alloc (.cells (l.flatMap enc).toArray t)) (some ⟨w.heap.size,0,none⟩) l:=by
 intro _;refine⟨_,0,rfl,by simp,λi x hi j v hj=>?_⟩;rw[(Blk.new w (l.flatMap enc) t).cell,Nat.zero_add];exact flat_at hsz l i x hi j v hj
theorem rows_of_own {α:Type}{sz:Nat}{enc:α->List Value}{B:Nat}{e:TypeId}{w:World}{ro:Option Addr}{cap:Nat}{l:List α}(hsz:∀x,(enc x).length=sz)(h:w.ownsRow B e sz (.slice ro l.length cap) l.length (l.flatMap enc)):Rows sz enc w.heap.size w ro l:=by
 obtain⟨ao,c,hv,_,_,hr⟩:=Rows.own hsz h;simp only[Value.slice.injEq,true_and]at hv;rw[hv.1];exact hr
theorem flat_take {α:Type}{sz:Nat}{enc:α->List Value}(hsz:∀x,(enc x).length=sz):∀(l:List α)(k:Nat),(l.flatMap enc).take (k * sz)=(l.take k).flatMap enc
 | [],k=>by simp
 | a::l,0=>by simp
 | a::l,k+1=>by
   rw[List.flatMap_cons,List.take_succ_cons,List.flatMap_cons,List.take_append,hsz,Nat.succ_mul,Nat.add_sub_cancel,flat_take hsz l k,List.take_of_length_le (by rw[hsz];omega)]
section
variable {P:Program} {w:World}
theorem exec_append_rows {α:Type}{enc:α->List Value}{size:Nat}(hsz:∀x,(enc x).length=size)(hone:∀x,∀u∈enc x,u.oneCell'=true){o:Oper}{a:Act}(s x:Operand)(t:TypeId)
 (ho:o.op= .call { callee:= .builtin .append,args:= #[s,x],argTypes:= #[t,t] })
 (e:TypeId) (i:TypeInfo) (z:Value) (bytes:Nat) (ht:P.underlying t=some (.slice e)) (hi:P.info? e=some i) (hz:i.zero=some z)
 (hsize:i.size=size) (hby:i.bytes=bytes) (hzs:z.cells.size=size) (h0:0<size)
 (v:Value) (n:Nat) (xs:List Value) (hs:a.eval s=v) (hown:w.ownsRow 0 e size v n xs)
 (xo:Option Addr) (l:List α) (c:Nat) (hx:a.eval x= .slice xo l.length c) (hr:Rows size enc w.heap.size w xo l)
 (h63:n+l.length<=maxLen) (hbytes:(n+l.length) * bytes<=140737488355328):
 ∃v' w',(execOp a.eval o).run P w= .ok (.value v') w'/\w'.ownsRow 0 e size v' (n+l.length) (xs++l.flatMap enc)/\But (λk=>v.ownBlock=some k) w w'/\Kept1 w v v':=by
 by_cases hl:l=[]
 · subst hl
   obtain⟨so,scap,rfl,hle⟩:∃so scap,v= .slice so n scap/\n<=scap:=by
    rcases hown.2 with ⟨rfl,rfl⟩ | ⟨g,cap,cur,rfl,_,_,hnc,_⟩
    · exact⟨none,0,rfl,qL _⟩
    · exact⟨_,cap,rfl,hnc⟩
   have hsrc:Go.Src P i.size t (.slice xo 0 c) 0 [] w:=by
    cases xo with
    | none=>exact Go.Src.ofNil _ ht c
    | some ad=>exact Go.Src.ofSlice _ ht ad 0 c [] (by simp) (by simp) (by simp)
   have hrun:=Go.run_append_nothing w t t o.type e i ht hi so n scap hle _ hsrc;refine⟨_,w,?_,by simpa using hown,But.refl _ _,λk hk=> .inl hk⟩;unfold execOp;simp only[ho,resolve,invoke,builtin,Sem.run_bind,Sem.run_pure,Result.andThen_ok,List.map_toArray,List.map_cons,List.map_nil,hs,hx,List.length_nil,hrun]
 · obtain⟨b,off,rfl,hb,hcell⟩:=hr hl
   have hlen:(l.flatMap enc).length=l.length * size:=by
    clear hcell hr hx h63 hbytes hl
    induction l with
    | nil=>simp
    | cons y l ih=>rw[List.flatMap_cons,qG,hsz,ih,List.length_cons,Nat.succ_mul];omega
   have hone':∀u∈l.flatMap enc,u.oneCell'=true:=by
    intro u hu;obtain⟨x,_,hxu⟩:=List.mem_flatMap.1 hu;exact hone x u hxu
   have hnews:=Rows.flat hsz h0 l hcell;obtain⟨v',w',hr',h2,h3,_⟩:=run_append_own (P:=P) w 0 t o.type e i z size bytes ht hi hz hsize hby hzs h0 v n xs hown ⟨b,off,none⟩ l.length c (l.flatMap enc) hlen hnews hone' h63 hbytes (Nat.zero_le _);have h5:=append_where (P:=P) w 0 t o.type e i z size bytes ht hi hz hsize hby v n xs hown ⟨b,off,none⟩ l.length c (l.flatMap enc) hlen hnews hone' (List.length_pos_iff.2 hl) h63 hbytes v' w' hr';refine⟨v',w',?_,h2,.of_grown h3,h5⟩;unfold execOp;simp only[ho,resolve,invoke,builtin,Sem.run_bind,Sem.run_pure,Result.andThen_ok,List.map_toArray,List.map_cons,List.map_nil,hs,hx,hr']
theorem step_append_rows {α:Type}{enc:α->List Value}{size:Nat}(hsz:∀x,(enc x).length=size)(hone:∀x,∀u∈enc x,u.oneCell'=true){ops:Array Oper}{o:Oper}{a:Act}{K:Act->World->Prop}{Q:Exit->Act->World->Prop}{E:Prop}(hgd:o.guard=none)(s x:Operand)(t:TypeId)
 (ho:o.op= .call { callee:= .builtin .append,args:= #[s,x],argTypes:= #[t,t] })
 (e:TypeId) (i:TypeInfo) (z:Value) (bytes:Nat) (ht:P.underlying t=some (.slice e)) (hi:P.info? e=some i) (hz:i.zero=some z)
 (hsize:i.size=size) (hby:i.bytes=bytes) (hzs:z.cells.size=size) (h0:0<size)
 (v:Value) (n:Nat) (xs:List Value) (hs:a.eval s=v) (hown:w.ownsRow 0 e size v n xs)
 (xo:Option Addr) (l:List α) (c:Nat) (hx:a.eval x= .slice xo l.length c) (hr:Rows size enc w.heap.size w xo l)
 (h63:n+l.length<=maxLen) (hbytes:(n+l.length) * bytes<=140737488355328)
 (h:∀v' w',w'.ownsRow 0 e size v' (n+l.length) (xs++l.flatMap enc)->But (λk=>v.ownBlock=some k) w w'->Kept1 w v v'->K (a.put o.dst v') w'):
 if Region.wanted o (yielded ops a.tmps)=true then Oper.wp P o a w K Q else E:=by
 have hw:Region.wanted o (yielded ops a.tmps)=true:=by simp[Region.wanted,hgd]
 rw[if_pos hw];obtain⟨v',w',h1,h2,h3,h4⟩:=exec_append_rows (P:=P) hsz hone (o:=o) (a:=a) s x t ho e i z bytes ht hi hz hsize hby hzs h0 v n xs hs hown xo l c hx hr h63 hbytes;unfold Oper.wp;rw[h1];exact h v' w' h2 h3 h4
end
end Go.Proofs.YtmpmggejhnmakaaGreatDoor
/- A region that draws its order, whose operations only read and whose callees read, draw and lay blocks of their own: walked once, at the class of worlds in which all that lay there lies unturned. -/
namespace Go.Proofs.YtmpmggejhnmakaaGreatDoor
open Go.RowKit
structure ExtBy (w:World) where
 W:World
 ext:Ext w W
instance (w:World):Inhabited (ExtBy w):=⟨⟨w,qK _ _⟩⟩
theorem wp_region_ext {P:Program}{id:Nat}{Q:Exit->Go.Act->World->Prop}{a:Go.Act}{w:World}{l:List Oper}(hm:P.follows .mixedOrders=true)(hB:Region.lexB .any l.toArray=true)
 (h:wpQuiet P l.toArray (λw'=>∃p:ExtBy w,w'=p.W) (λa'=>∀w',(∃p:ExtBy w,w'=p.W)->Q .normal a' w') l a):(Code.region id l.toArray true).wp P Q a w:=
 wp_region_quiet (C:=λw'=>∃p:ExtBy w,w'=p.W) hm hB ⟨⟨w.drew,(qK _ w).drew⟩,rfl⟩ (by simpa using h)
theorem Calls.ext_of {P:Program}{f:FuncId}{args:Array Value}{w:World}{v:Value}(p:ExtBy w)
 (h:Calls P f args p.W λe w'=>e= .returned v/\Ext p.W w'):Calls P f args p.W λe w''=>e= .returned v/\∃q:ExtBy w,w''=q.W:=
 h.mono λ_ w' ⟨he,hx⟩=>⟨he,⟨w',qJ p.ext hx⟩,rfl⟩
theorem Calls.ext_of_same {P:Program}{f:FuncId}{args:Array Value}{w:World}{v:Value}(p:ExtBy w)
 (h:Calls P f args p.W λe w'=>e= .returned v/\p.W=w'):Calls P f args p.W λe w''=>e= .returned v/\∃q:ExtBy w,w''=q.W:=
 h.mono λ_ _ ⟨he,hx⟩=>⟨he,p,hx.symm⟩
theorem ExtBy.cell {w:World}{b i:Nat}{v:Value}(h:w.cell? ⟨b,i,none⟩=some v):∀p:ExtBy w,p.W.cell? ⟨b,i,none⟩=some v:=
 λp=>(p.ext.cell (p:=⟨b,i,none⟩) (block_lt_of_cell h)).trans h
def valB:Op->Bool
 | .move _ | .assign _ | .pick _ _ _ | .build _ _ | .load _ _ | .binOp _ _ _ _ _ | .unOp _ _ _ | .fieldAddr _ _ _ | .field _ _ _ | .indexAddr _ _ _ | .index _ _ _ | .extract _ _ | .slice _ _ _ _ _ | .convert _ _ _=>true
 | .call c=>match c.callee with | .builtin .len=>true | .builtin .max=>true | _=>false
 | _=>false
theorem val_of_bind {P:Program}{s:Sem Value}{w w':World}{n:Next}(h:(do pure (Next.value (<- s)):Sem Next).run P w= .ok n w'):∃v,n= .value v:=by
 simp only[Sem.run_bind]at h;cases hs:s.run P w<;>simp[hs,Result.andThen]at h;exact⟨_,h.1.symm⟩
theorem valB_value {P:Program}{ρ:Operand->Value}{o:Oper}(ho:valB o.op=true){w w':World}{n:Next}(h:(execOp ρ o).run P w= .ok n w'):∃v,n= .value v:=by
 unfold execOp at h;cases hop:o.op<;>simp only[hop,valB]at ho h<;>try contradiction
 case call c=>
  cases hc:c.callee with
  | builtin b=>
    rw[hc]at ho;cases b<;>simp at ho
    all_goals
     unfold resolve at h;simp only[hc,Sem.run_bind,Sem.run_pure,Result.andThen_ok,invoke]at h;exact val_of_bind h
  | invoke r nm=>rw[hc]at ho;cases ho
  | value f=>rw[hc]at ho;cases ho
 case pick c x y=>
  simp only[Sem.run_bind]at h;cases hs:(asBool (ρ c)).run P w<;>simp[hs,Result.andThen]at h;exact⟨_,h.1.symm⟩
 all_goals first
  | exact val_of_bind h
  | (simp at h;exact⟨_,h.1.symm⟩)
def takesB (ops:Array Oper):List Nat->Array Bool->Bool
 | [],_=>true
 | i::is,listed=>(Region.ready .any ops listed).contains i&&Region.free .any ops listed i&&((ops[i]?).map λo=>valB o.op).getD false&&takesB ops is (listed.setIfInBounds i true)
def listedBy:List Nat->Array Bool->Array Bool
 | [],l=>l
 | i::is,l=>listedBy is (l.setIfInBounds i true)
def opsAt (ops:Array Oper):List Nat->List Oper
 | []=>[]
 | i::is=>match ops[i]? with | some o=>o::opsAt ops is | none=>opsAt ops is
theorem put_tmps (a:Go.Act)(d:Option Tmp)(v:Value):∃t,a.put d v={ a with tmps:=t }:=by
 cases d with
 | none=>exact⟨a.tmps,rfl⟩
 | some i=>exact⟨_,rfl⟩
theorem quietUpon_value {P:Program}{C:World->Prop}{w:World}{v:Value}{r:Result Next}(h:Oper.quietUpon P C w v r)(hval:∀n w'',r= .ok n w''->∃u,n= .value u):r= .ok (.value v) w:=by
 cases r with
 | ok n w''=>
   obtain⟨u,rfl⟩:=hval _ _ rfl;obtain⟨rfl,rfl⟩:=h;rfl
 | _=>exact h.elim
theorem wpAnyH_takes {P:Program}{ops:Array Oper}{Q:Exit->Go.Act->World->Prop}{S:World->Prop}{w:World}(hS:S w)(hsel:Region.noSelect ops=true)(hQ:∀(c:_)(a:Go.Act)(t:Array Value)(w:World),Q (.panic c) { a with tmps:=t } w->Q (.panic c) a w)(f:Nat):
 ∀(is:List Nat) (listed:Array Bool) (a:Go.Act),takesB ops is listed=true->wpQuiet P ops S (λa'=>wpAnyH P .any ops Q S f (listedBy is listed) a' w) (opsAt ops is) a->wpAnyH P .any ops Q S (f+is.length) listed a w
 | [],_,_,_,h=>h
 | i::is,listed,a,hB,h=>by
   unfold takesB at hB;simp only[Bool.and_eq_true]at hB;obtain⟨⟨⟨h1,h2⟩,h3⟩,h4⟩:=hB;cases ho:ops[i]? with
   | none=>rw[ho]at h3;cases h3
   | some o=>
     rw[ho]at h3;have hv:valB o.op=true:=h3;unfold opsAt at h;rw[ho]at h;simp only at h;unfold wpQuiet at h;rw[show f+(i::is).length=(f+is.length)+1 from by rw[List.length_cons];omega]
     split at h
     · rename_i hw
       obtain⟨v,hq,hK⟩:=h;refine wpAnyH_take (v:=v) ho hsel h2 h1 (λc a w h=>by obtain⟨t,ht⟩:=put_tmps a o.dst _;rw[ht]at h;exact hQ c a t w h) (.inl ⟨hw,λw' hw'=>?_⟩) hS (wpAnyH_takes hS hsel hQ f is _ _ h4 hK);exact quietUpon_value (hq w' hw') (λn w'' h=>valB_value hv h)
     · rename_i hw
       exact wpAnyH_take (v:=undef) ho hsel h2 h1 (λc a w h=>by obtain⟨t,ht⟩:=put_tmps a o.dst _;rw[ht]at h;exact hQ c a t w h) (.inr ⟨by simpa using hw,rfl⟩) hS (wpAnyH_takes hS hsel hQ f is _ _ h4 h)
theorem wp_region_firstS {P:Program}{id:Nat}{Q:Exit->Go.Act->World->Prop}{a:Go.Act}{w:World}{l:List Oper}(S:World->Prop)(is:List Nat)(f:Nat)(hm:P.follows .mixedOrders=true)(hB:(Region.noSelect l.toArray&&takesB l.toArray is (Array.replicate l.toArray.size false)&&decide (l.toArray.size=f+is.length))=true)
 (hQ:∀(c:_) (a:Go.Act) (t:Array Value) (w:World),Q (.panic c) { a with tmps:=t } w->Q (.panic c) a w) (hS:S w.drew)
 (h:wpQuiet P l.toArray S (λa'=>wpAnyH P .any l.toArray Q S f (listedBy is (Array.replicate l.toArray.size false)) a' w.drew) (opsAt l.toArray is) a):(Code.region id l.toArray true).wp P Q a w:=by
 simp only[Bool.and_eq_true,decide_eq_true_eq]at hB;obtain⟨⟨h1,h2⟩,h3⟩:=hB;refine wp_region_held_drew (S:=S) hm hS (λhS=>?_);have h5:=wpAnyH_takes hS h1 hQ f is _ a h2 h;rw[<- h3]at h5;exact h5
structure ButBy (S:Nat->Prop)(w:World) where
 W:World
 but:But S w W
instance (S:Nat->Prop) (w:World):Inhabited (ButBy S w):=⟨⟨w,But.refl _ _⟩⟩
theorem ButBy.cell {S:Nat->Prop}{w:World}{b i:Nat}{v:Value}(h:w.cell? ⟨b,i,none⟩=some v)(hS:¬S b):∀p:ButBy S w,p.W.cell? ⟨b,i,none⟩=some v:=
 λp=>(p.but.cell (p:=⟨b,i,none⟩) (block_lt_of_cell h) hS).trans h
end Go.Proofs.YtmpmggejhnmakaaGreatDoor
/- Maps with keys of a plain kind, told by their entries. -/
namespace Go.Proofs.YtmpmggejhnmakaaGreatDoor
open Go.RowKit
def plainKey:TypeDesc->Bool
 | .int _ | .string | .bool=>true
 | _=>false
theorem set_push {α:Type}(xs:Array α)(a b:α):(xs.push a).setIfInBounds xs.size b=xs.push b:=by
 apply Array.ext_getElem?;intro i;by_cases h:i=xs.size
 · subst h;simp
 · rw[Array.getElem?_setIfInBounds_ne (λe=>h e.symm),Array.getElem?_push,Array.getElem?_push]
   simp[h]
section
variable {P:Program}
theorem run_checkKey {k:TypeId}{d:TypeDesc}(hk:P.underlying k=some d)(hd:plainKey d=true)(em:Bool)(v:Value)(w:World):(Instr.checkKey em 10000 k v).run P w= .ok () w:=by
 rw[show (10000:Nat)=9999+1 from rfl,Instr.checkKey];cases d<;>simp[plainKey]at hd<;>simp[run_underlying hk]
theorem run_lookup_hit {t k e:TypeId}{d:TypeDesc}(ht:P.underlying t=some (.map k e))(hk:P.underlying k=some d)(hd:plainKey d=true){w:World}{r:Nat}{es:Array MapEntry}{c:Nat}
 (hb:w.heap[r]? =some (.map es c)) {key v:Value} {i:Nat} (hf:Instr.findNow d key es.toList 0=some (some (i,v))) (ok:Bool):
 (Instr.lookup t (.map (some r)) key ok).run P w= .ok (if ok then .tuple #[v,.bool true] else v) w:=by
 have h1:=MapKept.run_findKey (w:=w) hk hf;simp[Instr.lookup,run_underlying ht,MapKept.run_getObj_map hb,run_checkKey hk hd,h1]
theorem run_lookup_miss {t k e:TypeId}{d:TypeDesc}(ht:P.underlying t=some (.map k e))(hk:P.underlying k=some d)(hd:plainKey d=true){w:World}{r:Nat}{es:Array MapEntry}{c:Nat}
 (hb:w.heap[r]? =some (.map es c)) {key z:Value} (hz:(zeroValue e).run P w= .ok z w) (hf:Instr.findNow d key es.toList 0=some none) (ok:Bool):
 (Instr.lookup t (.map (some r)) key ok).run P w= .ok (if ok then .tuple #[z,.bool false] else z) w:=by
 have h1:=MapKept.run_findKey (w:=w) hk hf;simp[Instr.lookup,run_underlying ht,MapKept.run_getObj_map hb,run_checkKey hk hd,h1,hz]
theorem run_mapUpdate_add {t k e:TypeId}{d:TypeDesc}(ht:P.underlying t=some (.map k e))(hk:P.underlying k=some d)(hd:plainKey d=true)(W:World)(n:Nat)(hn:n=W.heap.size)(es:Array MapEntry)(c:Nat)
 {key v:Value} (hf:Instr.findNow d key es.toList 0=some none):
 (Instr.mapUpdate t (.map (some n)) key v).run P (W.alloc (.map es c))= .ok () (W.alloc (.map (es.push { key,val:=v,born:=c }) (c+1))):=by
 subst hn;have h1:=MapKept.run_findKey (w:=W.alloc (.map es c)) hk hf;have hb:(W.alloc (.map es c)).heap[W.heap.size]? =some (.map es c):=heap_alloc_new W _;simp[Instr.mapUpdate,run_underlying ht,MapKept.run_getObj_map hb,run_checkKey hk hd,h1,MapKept.run_setObj_map _ hb];show World.mk ((W.heap.push _).setIfInBounds W.heap.size _) _ _ _ _=World.mk (W.heap.push _) _ _ _ _;rw[set_push];rfl
theorem run_mapUpdate_drew {t k e:TypeId}{d:TypeDesc}(ht:P.underlying t=some (.map k e))(hk:P.underlying k=some d)(hd:plainKey d=true)(W:World)(n:Nat)(hn:n=W.heap.size)(es:List MapEntry)(c:Nat)
 (key v:Value) (hf:Instr.findNow d key es 0=some none):
 (Instr.mapUpdate t (.map (some n)) key v).run P (W.alloc (.map es.toArray c)).drew= .ok () (W.alloc (.map (es++[MapEntry.mk key v c]).toArray (c+1))).drew:=by
 have h:=run_mapUpdate_add (P:=P) ht hk hd W.drew n hn es.toArray c (key:=key) (v:=v) hf;rw[List.push_toArray]at h;exact h
end
end Go.Proofs.YtmpmggejhnmakaaGreatDoor
/- The program's number of a text is the reference's: plain lists and integers, no program. -/
namespace Go.Proofs.YtmpmggejhnmakaaGreatDoor
def unl:List Bool->Nat
 | []=>0
 | b::l=>(if b=true then 0 else 1)+unl l
theorem unl_set:∀(l:List Bool)(i:Nat),l[i]? =some false->unl (l.set i true)+1=unl l
 | [],i,h=>by simp at h
 | b::l,0,h=>by
   simp only[qB,Option.some.injEq]at h;subst h;simp[unl];omega
 | b::l,i+1,h=>by
   have:=unl_set l i (by simpa using h)
   simp only[List.set_cons_succ,unl];omega
theorem unl_pos (l:List Bool)(i:Nat)(h:l[i]? =some false):0<unl l:=by
 have:=unl_set l i h;omega
theorem get_false {l:Array Bool}{i:Nat}(h:l.getD i true=false):l.toList[i]? =some false:=by
 rw[Array.getD_eq_getD_getElem?]at h;cases hi:l[i]? with
 | none=>rw[hi]at h;cases h
 | some b=>rw[hi]at h;simp only[Option.getD_some]at h;subst h;rw[Array.getElem?_toList];exact hi
theorem wpAnyH_inv {P:Program}{ops:Array Oper}{md:Region.Mode}{Q:Exit->Go.Act->World->Prop}{S:World->Prop}(I:Array Bool->Go.Act->World->Prop)(hS:∀l a w,I l a w->S w)
 (hstep:∀l a w,I l a w->∀i∈Region.ready md ops l,wpOp P ops Q i (λa' w'=>I (l.setIfInBounds i true) a' w') a w) (hend:∀l a w,I l a w->Region.ready md ops l=[]->Q .normal a w):
 ∀(f:Nat) (l:Array Bool) (a:Go.Act) (w:World),unl l.toList<=f->I l a w->wpAnyH P md ops Q S f l a w:=by
 intro f
 induction f with
 | zero=>
   intro l a w hf hI
   have hr:Region.ready md ops l=[]:=by
    cases hrd:Region.ready md ops l with
    | nil=>rfl
    | cons i r=>
      have hi:i∈Region.ready md ops l:=by rw[hrd];simp
      have:=unl_pos _ _ (get_false (mem_ready.1 hi).1)
      omega
   exact⟨hr,hend l a w hI hr⟩
 | succ f ih=>
   intro l a w hf hI;refine⟨λhr=>hend l a w hI hr,λi hi=>?_⟩;refine wpOp_mono (λa' w' h=>⟨hS _ _ _ h,ih _ a' w' ?_ h⟩) (hstep l a w hI i hi);have h1:=unl_set _ _ (get_false (mem_ready.1 hi).1);rw[Array.toList_setIfInBounds];omega
structure CItem where
 b:Nat
 c:Nat
 db:Tmp
 dc:Tmp
def idxC (xs:List CItem):List Nat:=xs.flatMap λx=>[x.b,x.c]
def slotC (xs:List CItem):List Tmp:=xs.flatMap λx=>[x.db,x.dc]
def chainB (md:Region.Mode)(ops:Array Oper)(l0:Array Bool):List CItem->List Nat->Bool
 | [],_=>true
 | x::xs,pre=>
   (match ops[x.b]? with | some o=>o.guard.isNone&&o.dst==some x.db&&o.after.toList.all (λe=> !Region.binds md e||l0.getD e.on false) | none=>false)&&
   (match ops[x.c]? with
     | some o=>o.guard.isNone&&o.dst==some x.dc&&o.after.toList.any (λe=>Region.binds md e&&e.on==x.b)&&(match pre.getLast? with | none=>true | some p=>o.after.toList.any (λe=>Region.binds md e&&e.on==p))&&
       o.after.toList.all (λe=> !Region.binds md e||l0.getD e.on false||e.on==x.b||pre.contains e.on)
     | none=>false)&&chainB md ops l0 xs (pre++[x.b,x.c])
def nodupB:List Nat->Bool
 | []=>true
 | x::l=> !l.contains x&&nodupB l
theorem nodupB_iff:∀l:List Nat,nodupB l=true->l.Nodup
 | [],_=>List.nodup_nil
 | x::l,h=>by
   simp only[nodupB,Bool.and_eq_true,Bool.not_eq_true',List.contains_eq_mem,decide_eq_false_iff_not]at h;exact List.nodup_cons.2 ⟨h.1,nodupB_iff l h.2⟩
def startB (ops:Array Oper)(l0:Array Bool)(xs:List CItem):Bool:=
 decide (l0.size=ops.size)&&nodupB (idxC xs)&&nodupB (slotC xs)&&(List.range ops.size).all (λi=>l0.getD i true== !(idxC xs).contains i)
structure LikeA (xs:List CItem)(a a':Go.Act):Prop where
 defers:a'.defers=a.defers
 size:a'.tmps.size=a.tmps.size
 get:∀t,t∉slotC xs->a'.tmps.getD t undef=a.tmps.getD t undef
def ChainAll (P:Program)(ops:Array Oper)(xs0:List CItem)(a:Go.Act)(ptr:Value)(R:Nat->World->Prop)(H:Nat->Value->World->Prop):Nat->Option Tmp->List CItem->Prop
 | _,_,[]=>True
 | j,prev,x::xs=>
   (∀o a' w,ops[x.b]? =some o->LikeA xs0 a a'->∃u w',(execOp a'.eval o).run P w= .ok (.value u) w'/\Ext w w'/\H j u w')/\
   (∀o a' w u,ops[x.c]? =some o->LikeA xs0 a a'->a'.tmps.getD x.db undef=u->(∀p,prev=some p->a'.tmps.getD p undef=ptr)->R j w->H j u w->
     ∃f args,(execOp a'.eval o).run P w= .ok (.enter f args) w/\Calls P f args w λe w'=>e= .returned ptr/\R (j+1) w'/\∀i v,H i v w->H i v w')/\
   ChainAll P ops xs0 a ptr R H (j+1) (some x.dc) xs
def putsC (ptr:Value):List CItem->List Value->Go.Act->Go.Act
 | [],_,a=>a
 | _,[],a=>a
 | x::xs,u::us,a=>putsC ptr xs us ((a.put (some x.db) u).put (some x.dc) ptr)
theorem getD_put (a:Go.Act)(d t:Tmp)(v:Value)(hd:d<a.tmps.size):(a.put (some d) v).tmps.getD t undef=if t=d then v else a.tmps.getD t undef:=by
 simp only[Act.put,Array.getD_eq_getD_getElem?,Array.getElem?_setIfInBounds];by_cases h:d=t
 · subst h;simp[hd]
 · rw[if_neg h,if_neg (λe=>h e.symm)]
theorem size_put (a:Go.Act)(d:Tmp)(v:Value):(a.put (some d) v).tmps.size=a.tmps.size:=by simp[Act.put]
theorem slotC_cons (x:CItem)(xs:List CItem):slotC (x::xs)=x.db::x.dc::slotC xs:=rfl
theorem putsC_eq (ptr:Value):∀(xs:List CItem)(us:List Value)(a a':Go.Act),(slotC xs).Nodup->(∀d∈slotC xs,d<a.tmps.size)->us.length=xs.length->LikeA xs a a'->
 (∀(j:Nat) (x:CItem),xs[j]? =some x->a'.tmps.getD x.db undef=us.getD j undef/\a'.tmps.getD x.dc undef=ptr)->a'=putsC ptr xs us a
 | [],us,a,a',_,_,_,hl,_=>by
   obtain⟨t',d'⟩:=a';obtain⟨t,d⟩:=a;have h1:=hl.defers;have h2:=hl.size;have h3:=hl.get;simp only at h1 h2 h3;subst h1;rw[putsC]
   congr 1
   apply Array.ext h2;intro i hi1 hi2
   have:=h3 i (by simp[slotC])
   simp only[Array.getD_eq_getD_getElem?]at this;rw[Array.getElem?_eq_getElem hi1,Array.getElem?_eq_getElem hi2]at this;simpa using this
 | x::xs,[],a,a',_,_,h,_,_=>by simp at h
 | x::xs,u::us,a,a',hn,hs,hu,hl,hv=>by
   rw[putsC];rw[slotC_cons]at hn hs;have hn1:=List.nodup_cons.1 hn;have hn2:=List.nodup_cons.1 hn1.2;have hdb:x.db<a.tmps.size:=hs _ (by simp);have hdc:x.dc<a.tmps.size:=hs _ (by simp);have hne:¬x.db=x.dc:=λe=>hn1.1 (by rw[e];simp);refine putsC_eq ptr xs us _ a' hn2.2 (λd hd=>by rw[size_put,size_put];exact hs d (by simp[hd])) (by simpa using hu) ⟨hl.defers,by rw[size_put,size_put];exact hl.size,λt ht=>?_⟩ (λj y hy=>by simpa using hv (j+1) y (by simpa using hy));rw[getD_put _ _ _ _ (by rw[size_put];exact hdc),getD_put _ _ _ _ hdb];have h0:=hv 0 x rfl;by_cases e1:t=x.dc
   · rw[if_pos e1,e1];exact h0.2
   · rw[if_neg e1]
     by_cases e2:t=x.db
     · rw[if_pos e2,e2];simpa using h0.1
     · rw[if_neg e2]
       exact hl.get t (by rw[slotC_cons];simp only[List.mem_cons,not_or];exact⟨e2,e1,ht⟩)
theorem ChainAll.at {P:Program}{ops:Array Oper}{xs0:List CItem}{a:Go.Act}{ptr:Value}{R:Nat->World->Prop}{H:Nat->Value->World->Prop}:∀(xs:List CItem)(k:Nat)(prev:Option Tmp),ChainAll P ops xs0 a ptr R H k prev xs->
 ∀(j:Nat) (x:CItem),xs[j]? =some x->
  (∀o a' w,ops[x.b]? =some o->LikeA xs0 a a'->∃u w',(execOp a'.eval o).run P w= .ok (.value u) w'/\Ext w w'/\H (k+j) u w')/\
  (∀o a' w u,ops[x.c]? =some o->LikeA xs0 a a'->a'.tmps.getD x.db undef=u->(∀i y,j=i+1->xs[i]? =some y->a'.tmps.getD y.dc undef=ptr)->(j=0->∀p,prev=some p->a'.tmps.getD p undef=ptr)->R (k+j) w->H (k+j) u w->
    ∃f args,(execOp a'.eval o).run P w= .ok (.enter f args) w/\Calls P f args w λe w'=>e= .returned ptr/\R (k+j+1) w'/\∀i v,H i v w->H i v w')
 | [],_,_,_,j,x,hx=>by simp at hx
 | y::xs,k,prev,h,0,x,hx=>by
   simp only[qB,Option.some.injEq]at hx;subst hx;refine⟨h.1,λo a' w u ho hl hu _ hp hR hH=>h.2.1 o a' w u ho hl hu (hp rfl) hR hH⟩
 | y::xs,k,prev,h,j+1,x,hx=>by
   have:=ChainAll.at xs (k+1) (some y.dc) h.2.2 j x (by simpa using hx)
   rw[show k+1+j=k+(j+1) from by omega]at this;refine⟨this.1,λo a' w u ho hl hu hq _ hR hH=>this.2 o a' w u ho hl hu (λi z e hz=>hq (i+1) z (by omega) (by simpa using hz)) (λe p hp=>?_) hR hH⟩;subst e;cases hp;exact hq 0 y rfl rfl
theorem chainB_at {md:Region.Mode}{ops:Array Oper}{l0:Array Bool}:∀(xs:List CItem)(pre:List Nat),chainB md ops l0 xs pre=true->∀(j:Nat)(x:CItem),xs[j]? =some x->
 (∃o,ops[x.b]? =some o/\o.guard=none/\o.dst=some x.db/\∀e∈o.after,Region.binds md e=true->l0.getD e.on false=true)/\
 (∃o,ops[x.c]? =some o/\o.guard=none/\o.dst=some x.dc/\(∃e∈o.after,Region.binds md e=true/\e.on=x.b)/\(∀i y,j=i+1->xs[i]? =some y->∃e∈o.after,Region.binds md e=true/\e.on=y.c)/\
   (∀e∈o.after,Region.binds md e=true->l0.getD e.on false=true\/e.on=x.b\/e.on∈pre\/∃i y,i<j/\xs[i]? =some y/\(e.on=y.b\/e.on=y.c)))
 | [],_,_,j,x,hx=>by simp at hx
 | y::xs,pre,h,j,x,hx=>by
   rw[chainB]at h;simp only[Bool.and_eq_true]at h;obtain⟨⟨h1,h2⟩,h3⟩:=h;cases j with
   | zero=>
     simp only[qB,Option.some.injEq]at hx;subst hx;constructor
     · cases ho:ops[y.b]? with
       | none=>rw[ho]at h1;cases h1
       | some o=>
         rw[ho]at h1;simp only[Bool.and_eq_true,Option.isNone_iff_eq_none,beq_iff_eq,Array.mem_toList_iff,List.all_eq_true,Bool.or_eq_true,Bool.not_eq_true']at h1;refine⟨o,rfl,h1.1.1,h1.1.2,λe he hb=>?_⟩;rcases h1.2 e he with h | h
         · rw[h]at hb;cases hb
         · exact h
     · cases ho:ops[y.c]? with
       | none=>rw[ho]at h2;cases h2
       | some o=>
         rw[ho]at h2;simp only[Bool.and_eq_true,Option.isNone_iff_eq_none,beq_iff_eq,Array.mem_toList_iff,List.all_eq_true,List.any_eq_true,Bool.or_eq_true,Bool.not_eq_true',List.contains_eq_mem,decide_eq_true_eq]at h2;obtain⟨⟨⟨⟨g1,g2⟩,g3⟩,g4⟩,g5⟩:=h2;obtain⟨e,he,hb,hon⟩:=g3;refine⟨o,rfl,g1,g2,⟨e,he,hb,hon⟩,λi z e=>by omega,λe he hb=>?_⟩;rcases g5 e he with ((h | h) | h) | h
         · rw[h]at hb;cases hb
         · exact .inl h
         · exact .inr (.inl h)
         · exact .inr (.inr (.inl h))
   | succ j=>
     obtain⟨a1,o,b1,b2,b3,b4,b5,b6⟩:=chainB_at xs _ h3 j x (by simpa using hx);refine⟨a1,o,b1,b2,b3,b4,λi z e hz=>?_,λe he hb=>?_⟩
     · cases i with
       | succ i=>exact b5 i z (by omega) (by simpa using hz)
       | zero=>
         simp only[qB,Option.some.injEq]at hz;subst hz;have hj0:j=0:=by omega
         subst hj0;rw[show xs=x::xs.tail from by cases xs with | nil=>simp at hx | cons w l=>simp at hx;subst hx;rfl]at h3;rw[chainB]at h3;simp only[Bool.and_eq_true]at h3;have h4:=h3.1.2;rw[b1]at h4;simp only[Bool.and_eq_true,List.getLast?_append,List.getLast?_cons_cons,List.getLast?_singleton,Option.some_or,Array.mem_toList_iff,List.any_eq_true,beq_iff_eq]at h4;obtain⟨e,he,hb,hon⟩:=h4.1.2;exact⟨e,he,hb,hon⟩
     · rcases b6 e he hb with h | h | h | ⟨i,z,hi,hz,h⟩
       · exact .inl h
       · exact .inr (.inl h)
       · rcases List.mem_append.1 h with h | h
         · exact .inr (.inr (.inl h))
         · refine .inr (.inr (.inr ⟨0,y,by omega,rfl,?_⟩))
           simpa using h
       · exact .inr (.inr (.inr ⟨i+1,z,by omega,by simpa using hz,h⟩))
structure ChainAt (ops:Array Oper)(xs:List CItem)(a0:Go.Act)(ptr:Value)(R:Nat->World->Prop)(H:Nat->Value->World->Prop)(l:Array Bool)(a:Go.Act)(w:World)(k:Nat)(us:Nat->Value):Prop where
 le:k<=xs.length
 lsize:l.size=ops.size
 others:∀i,i∉idxC xs->l.getD i true=true
 like:LikeA xs a0 a
 r:R k w
 done:∀j x,xs[j]? =some x->j<k->l.getD x.c true=true/\l.getD x.b true=true/\a.tmps.getD x.dc undef=ptr/\a.tmps.getD x.db undef=us j
 undone:∀j x,xs[j]? =some x->k<=j->l.getD x.c true=false
 built:∀j x,xs[j]? =some x->k<=j->l.getD x.b true=true->a.tmps.getD x.db undef=us j/\H j (us j) w
theorem mem_idxC {xs:List CItem}{i:Nat}:i∈idxC xs↔ ∃(j:Nat)(x:CItem),xs[j]? =some x/\(i=x.b\/i=x.c):=by
 unfold idxC;rw[List.mem_flatMap];constructor
 · rintro ⟨x,hx,hi⟩
   obtain⟨j,hj⟩:=List.mem_iff_getElem?.1 hx;exact⟨j,x,hj,by simpa using hi⟩
 · rintro ⟨j,x,hx,hi⟩
   exact⟨x,qH hx,by simpa using hi⟩
theorem mem_slotC {xs:List CItem}{i:Nat}:i∈slotC xs↔ ∃(j:Nat)(x:CItem),xs[j]? =some x/\(i=x.db\/i=x.dc):=by
 unfold slotC;rw[List.mem_flatMap];constructor
 · rintro ⟨x,hx,hi⟩
   obtain⟨j,hj⟩:=List.mem_iff_getElem?.1 hx;exact⟨j,x,hj,by simpa using hi⟩
 · rintro ⟨j,x,hx,hi⟩
   exact⟨x,qH hx,by simpa using hi⟩
theorem pair_inj {f g:CItem->Nat}:∀{xs:List CItem},(xs.flatMap λx=>[f x,g x]).Nodup->∀{i j:Nat}{x y:CItem},xs[i]? =some x->xs[j]? =some y->
 (f x=f y->i=j)/\(g x=g y->i=j)/\f x≠g y
 | [],_,i,j,x,y,hx,_=>by simp at hx
 | z::xs,hn,i,j,x,y,hx,hy=>by
   rw[List.flatMap_cons]at hn;have hn1:=List.nodup_cons.1 hn;have hn2:=List.nodup_cons.1 hn1.2
   have hf:∀{k:Nat} {u:CItem},xs[k]? =some u->f u∈(xs.flatMap λx=>[f x,g x])/\g u∈(xs.flatMap λx=>[f x,g x]):=λ{k u} hu=>
    ⟨List.mem_flatMap.2 ⟨u,qH hu,by simp⟩,List.mem_flatMap.2 ⟨u,qH hu,by simp⟩⟩
   have h1:∀u,u∈(xs.flatMap λx=>[f x,g x])->f z≠u/\g z≠u:=λu hu=>
    ⟨λe=>hn1.1 (by rw[e];exact List.mem_cons_of_mem _ hu),λe=>hn2.1 (by rw[e];exact hu)⟩
   have h2:f z≠g z:=λe=>hn1.1 (by rw[e];simp);cases i with
   | zero=>
     simp only[qB,Option.some.injEq]at hx;subst hx;cases j with
     | zero=>
       simp only[qB,Option.some.injEq]at hy;subst hy;exact⟨λ_=>rfl,λ_=>rfl,h2⟩
     | succ j=>
       have hm:=hf (k:=j) (u:=y) (by simpa using hy);exact⟨λe=>absurd e (h1 _ hm.1).1,λe=>absurd e (h1 _ hm.2).2,(h1 _ hm.2).1⟩
   | succ i=>
     have hmx:=hf (k:=i) (u:=x) (by simpa using hx);cases j with
     | zero=>
       simp only[qB,Option.some.injEq]at hy;subst hy;exact⟨λe=>absurd e.symm (h1 _ hmx.1).1,λe=>absurd e.symm (h1 _ hmx.2).2,λe=>(h1 _ hmx.1).2 e.symm⟩
     | succ j=>
       have:=pair_inj hn2.2 (i:=i) (j:=j) (x:=x) (y:=y) (by simpa using hx) (by simpa using hy)
       exact⟨λe=>by rw[this.1 e],λe=>by rw[this.2.1 e],this.2.2⟩
theorem getD_set (l:Array Bool)(i j:Nat)(d:Bool):(l.setIfInBounds i true).getD j d=if i=j/\i<l.size then true else l.getD j d:=by
 simp only[Array.getD_eq_getD_getElem?,Array.getElem?_setIfInBounds];by_cases h:i=j
 · subst h
   by_cases h2:i<l.size
   · simp[h2]
   · simp[h2]
 · simp[h]
theorem getD_both {l:Array Bool}{i:Nat}(hi:i<l.size):l.getD i false=l.getD i true:=by
 simp[Array.getD_eq_getD_getElem?,Array.getElem?_eq_getElem hi]
theorem LikeA.put {xs:List CItem}{a a':Go.Act}(h:LikeA xs a a'){d:Tmp}(hd:d∈slotC xs)(v:Value):LikeA xs a (a'.put (some d) v):=by
 refine⟨h.defers,by rw[size_put];exact h.size,λt ht=>?_⟩;rw[<- h.get t ht];simp only[Act.put,Array.getD_eq_getD_getElem?,Array.getElem?_setIfInBounds];rw[if_neg (λe=>ht (by rw[<- e];exact hd))]
theorem LikeA.refl (xs:List CItem)(a:Go.Act):LikeA xs a a:=⟨rfl,rfl,λ_ _=>rfl⟩
theorem inb_of_false {l:Array Bool}{i:Nat}(h:l.getD i true=false):i<l.size:=by
 rcases Nat.lt_or_ge i l.size with h1 | h1
 · exact h1
 · rw[Array.getD_eq_getD_getElem?,Array.getElem?_eq_none h1]at h;cases h
theorem inb_of_true {l:Array Bool}{i:Nat}(h:l.getD i false=true):i<l.size:=by
 rcases Nat.lt_or_ge i l.size with h1 | h1
 · exact h1
 · rw[Array.getD_eq_getD_getElem?,Array.getElem?_eq_none h1]at h;cases h
theorem true_of_true {l:Array Bool}{i:Nat}(h:l.getD i false=true):l.getD i true=true:=by rw[<- getD_both (inb_of_true h)];exact h
theorem set_true {l:Array Bool}{i j:Nat}(h:l.getD j true=true):(l.setIfInBounds i true).getD j true=true:=by
 rw[getD_set];split
 · rfl
 · exact h
theorem wp_chain {P:Program}{ops:Array Oper}{md:Region.Mode}{Q:Exit->Go.Act->World->Prop}{S:World->Prop}{f:Nat}{l0:Array Bool}{a0:Go.Act}{w0:World}(xs:List CItem)(ptr:Value)(R:Nat->World->Prop)(H:Nat->Value->World->Prop)
 (hB:(startB ops l0 xs&&chainB md ops l0 xs []&&decide (unl l0.toList<=f))=true) (hs:∀d∈slotC xs,d<a0.tmps.size) (hS:∀k w,R k w->S w)
 (hRx:∀k w w',R k w->Ext w w'->R k w') (hHx:∀j u w w',H j u w->Ext w w'->H j u w') (hall:ChainAll P ops xs a0 ptr R H 0 none xs) (h0:R 0 w0)
 (hend:∀us w,us.length=xs.length->R xs.length w->Q .normal (putsC ptr xs us a0) w):wpAnyH P md ops Q S f l0 a0 w0:=by
 simp only[Bool.and_eq_true,decide_eq_true_eq]at hB;obtain⟨⟨hst,hch⟩,hf⟩:=hB;simp only[startB,Bool.and_eq_true,decide_eq_true_eq]at hst;obtain⟨⟨⟨hsz,hni⟩,hns⟩,hl0⟩:=hst;have hni:=nodupB_iff _ hni;have hns:=nodupB_iff _ hns
 have hl0:∀i,i<ops.size->l0.getD i true= !(idxC xs).contains i:=λi hi=>by
  have:=List.all_eq_true.1 hl0 i (List.mem_range.2 hi)
  simpa using this
 have hat:=chainB_at xs [] hch;have hal:=ChainAll.at xs 0 none hall
 have hin:∀{i:Nat},l0.getD i false=true->i∉idxC xs:=λ{i} h hm=>by
  have h1:=hl0 i (by rw[<- hsz];exact inb_of_true h);rw[true_of_true h]at h1;simp[hm]at h1
 have hinx:∀{j:Nat} {x:CItem},xs[j]? =some x->x.b<ops.size/\x.c<ops.size:=λ{j x} hx=>by
  obtain⟨⟨o,ho,_⟩,o2,ho2,_⟩:=hat j x hx;exact⟨(Array.getElem?_eq_some_iff.1 ho).1,(Array.getElem?_eq_some_iff.1 ho2).1⟩
 refine wpAnyH_inv (λl a w=>∃k us,ChainAt ops xs a0 ptr R H l a w k us) (λl a w ⟨k,us,h⟩=>hS k w h.r) ?_ ?_ f l0 a0 w0 hf ⟨0,λ_=>undef,Nat.zero_le _,hsz,?_,LikeA.refl _ _,h0,λj x _ h=>absurd h (by omega),?_,?_⟩
 · rintro l a w ⟨k,us,hI⟩ i hi
   obtain⟨hun,o,ho,hdep⟩:=mem_ready.1 hi
   have hmi:i∈idxC xs:=by
    rcases Classical.em (i∈idxC xs) with h | h
    · exact h
    · have:=hI.others i h;rw[this]at hun;cases hun
   obtain⟨j,x,hx,hix⟩:=mem_idxC.1 hmi;obtain⟨⟨ob,hob,hbg,hbd,_⟩,oc,hoc,hcg,hcd,hdb,hdp,_⟩:=hat j x hx
   have hkj:k<=j:=by
    rcases Nat.lt_or_ge j k with h | h
    · have h2:=hI.done j x hx h
      rcases hix with rfl | rfl
      · rw[h2.2.1]at hun;cases hun
      · rw[h2.1]at hun;cases hun
    · exact h
   have hxs:x.db<a.tmps.size/\x.dc<a.tmps.size:=by
    rw[hI.like.size];exact⟨hs _ (mem_slotC.2 ⟨j,x,hx,.inl rfl⟩),hs _ (mem_slotC.2 ⟨j,x,hx,.inr rfl⟩)⟩
   rcases hix with rfl | rfl
   · rw[hob]at ho
     simp only[Option.some.injEq]at ho;subst ho;obtain⟨u,w',he,hx1,hH⟩:=(hal j x hx).1 ob a w hob hI.like;have hw:Region.wanted ob (yielded ops a.tmps)=true:=by simp[Region.wanted,hbg]
     unfold wpOp;rw[hob];simp only[hw,if_true]
     left
     unfold Oper.wp;rw[he,Oper.upon_value,hbd];refine⟨k,λn=>if n=j then u else us n,hI.le,by simp[hI.lsize],λi hi=>?_,hI.like.put (mem_slotC.2 ⟨j,x,hx,.inl rfl⟩) u,hRx _ _ _ hI.r hx1,λj' x' hx' hj'=>?_,λj' x' hx' hj'=>?_,λj' x' hx' hj' hl'=>?_⟩
     · exact set_true (hI.others i hi)
     · obtain⟨d1,d2,d3,d4⟩:=hI.done j' x' hx' hj'
       have hp:=pair_inj (f:=(·.db)) (g:=(·.dc)) hns hx' hx;have hp2:=pair_inj (f:=(·.db)) (g:=(·.dc)) hns hx hx';refine⟨set_true d1,set_true d2,?_,?_⟩
       · rw[getD_put _ _ _ _ hxs.1,if_neg (λe=>hp2.2.2 e.symm)];exact d3
       · rw[getD_put _ _ _ _ hxs.1,if_neg (λe=>by have:=hp.1 e;omega),if_neg (by omega)];exact d4
     · have hp:=pair_inj (f:=(·.b)) (g:=(·.c)) hni hx hx'
       rw[getD_set,if_neg (λe=>hp.2.2 e.1)];exact hI.undone j' x' hx' hj'
     · have hp:=pair_inj (f:=(·.b)) (g:=(·.c)) hni hx hx'
       have hq:=pair_inj (f:=(·.db)) (g:=(·.dc)) hns hx' hx;rcases Classical.em (j'=j) with rfl | hne
       · rw[hx]at hx'
         simp only[Option.some.injEq]at hx';subst hx';rw[getD_put _ _ _ _ hxs.1,if_pos rfl,if_pos rfl];exact⟨rfl,by have:=hH;rwa [Nat.zero_add]at this⟩
       · rw[getD_set,if_neg (λe=>hne (hp.1 e.1).symm)]at hl'
         obtain⟨b1,b2⟩:=hI.built j' x' hx' hj' hl';rw[getD_put _ _ _ _ hxs.1,if_neg (λe=>hne (hq.1 e)),if_neg hne];exact⟨b1,hHx _ _ _ _ b2 hx1⟩
   · rw[hoc]at ho
     simp only[Option.some.injEq]at ho;subst ho;obtain⟨e,he,hbe,hon⟩:=hdb;have hlb:l.getD x.b true=true:=true_of_true (by rw[<- hon];exact hdep e he hbe)
     have hjk:j=k:=by
      cases j with
      | zero=>omega
      | succ i=>
        have hi':i<xs.length:=by have:=(qF.1 hx).1;omega
        obtain⟨e,he,hbe,hon⟩:=hdp i xs[i] rfl (qE hi');have hlc:=true_of_true (hdep e he hbe);rw[hon]at hlc;rcases Nat.lt_or_ge i k with h | h
        · omega
        · have:=hI.undone i _ (qE hi') h
          rw[this]at hlc;cases hlc
     subst hjk;obtain⟨b1,b2⟩:=hI.built j x hx (qL _) hlb;obtain⟨fn,args,hex,hcalls⟩:=(hal j x hx).2 oc a w (us j) hoc hI.like b1 (λi y e hy=>(hI.done i y hy (by omega)).2.2.1) (λ_ p hp=>by cases hp) (by rw[Nat.zero_add];exact hI.r) (by rw[Nat.zero_add];exact b2);have hw:Region.wanted oc (yielded ops a.tmps)=true:=by simp[Region.wanted,hcg]
     unfold wpOp;rw[hoc];simp only[hw,if_true]
     left
     unfold Oper.wp;rw[hex,Oper.upon_enter,hcd];refine hcalls.mono ?_;rintro e w' ⟨rfl,hR,hH⟩;have hxc:x.c<l.size:=inb_of_false hun;refine⟨j+1,us,(qF.1 hx).1,by simp[hI.lsize],λi hi=>?_,hI.like.put (mem_slotC.2 ⟨j,x,hx,.inr rfl⟩) _,by rw[Nat.zero_add]at hR;exact hR,λj' x' hx' hj'=>?_,λj' x' hx' hj'=>?_,λj' x' hx' hj' hl'=>?_⟩
     · exact set_true (hI.others i hi)
     · have hq:=pair_inj (f:=(·.db)) (g:=(·.dc)) hns hx' hx
       rcases Classical.em (j'=j) with rfl | hne
       · rw[hx]at hx'
         simp only[Option.some.injEq]at hx';subst hx';refine⟨by rw[getD_set,if_pos ⟨rfl,hxc⟩],set_true hlb,by rw[getD_put _ _ _ _ hxs.2,if_pos rfl],?_⟩;rw[getD_put _ _ _ _ hxs.2,if_neg hq.2.2];exact b1
       · obtain⟨d1,d2,d3,d4⟩:=hI.done j' x' hx' (by omega)
         refine⟨set_true d1,set_true d2,?_,?_⟩
         · rw[getD_put _ _ _ _ hxs.2,if_neg (λe=>hne (hq.2.1 e))];exact d3
         · rw[getD_put _ _ _ _ hxs.2,if_neg hq.2.2];exact d4
     · have hp:=pair_inj (f:=(·.b)) (g:=(·.c)) hni hx hx'
       rw[getD_set,if_neg (λe=>by have:=hp.2.1 e.1;omega)];exact hI.undone j' x' hx' (by omega)
     · have hp:=pair_inj (f:=(·.b)) (g:=(·.c)) hni hx' hx
       have hq:=pair_inj (f:=(·.db)) (g:=(·.dc)) hns hx' hx;rw[getD_set,if_neg (λe=>hp.2.2 e.1.symm)]at hl';obtain⟨c1,c2⟩:=hI.built j' x' hx' (by omega) hl';rw[getD_put _ _ _ _ hxs.2,if_neg hq.2.2];exact⟨c1,hH _ _ c2⟩
 · rintro l a w ⟨k,us,hI⟩ hr
   have hk:k=xs.length:=by
    rcases Nat.lt_or_ge k xs.length with hlt | h
    · exfalso
      have hx:=qE hlt;obtain⟨⟨ob,hob,_,_,hbdep⟩,oc,hoc,_,_,_,_,hcdep⟩:=hat k xs[k] hx
      have hold:∀{i:Nat},l0.getD i false=true->l.getD i false=true:=λ{i} h=>by
       rw[getD_both (by rw[hI.lsize,<- hsz];exact inb_of_true h)];exact hI.others i (hin h)
      have hnr:∀i,i∉Region.ready md ops l:=λi hi=>by rw[hr]at hi;cases hi
      cases hb:l.getD (xs[k]).b true with
      | false=>exact hnr _ (mem_ready.2 ⟨hb,ob,hob,λe he hbe=>hold (hbdep e he hbe)⟩)
      | true=>
        refine hnr _ (mem_ready.2 ⟨hI.undone k _ hx (qL _),oc,hoc,λe he hbe=>?_⟩);rcases hcdep e he hbe with h | h | h | ⟨i,y,hi,hy,h⟩
        · exact hold h
        · rw[h,getD_both (by rw[hI.lsize];exact (hinx hx).1)];exact hb
        · cases h
        · obtain⟨d1,d2,_⟩:=hI.done i y hy hi
          rcases h with h | h
          · rw[h,getD_both (by rw[hI.lsize];exact (hinx hy).1)];exact d2
          · rw[h,getD_both (by rw[hI.lsize];exact (hinx hy).2)];exact d1
    · exact Nat.le_antisymm hI.le h
   have hp:=putsC_eq ptr xs ((List.range xs.length).map us) a0 a hns hs (by simp) hI.like (λj x hx=>by
    have hj:=(qF.1 hx).1;obtain⟨_,_,d3,d4⟩:=hI.done j x hx (by omega);refine⟨?_,d3⟩;rw[d4]
    simp[List.getD_eq_getElem?_getD,hj])
   rw[hp];refine hend _ w (by simp) ?_;rw[<- hk];exact hI.r
 · intro i hi
   rcases Nat.lt_or_ge i ops.size with h | h
   · rw[hl0 i h];simp[hi]
   · rw[Array.getD_eq_getD_getElem?,Array.getElem?_eq_none (by rw[hsz];exact h)];rfl
 · intro j x hx _
   rw[hl0 _ (hinx hx).2]
   have:x.c∈idxC xs:=mem_idxC.2 ⟨j,x,hx,.inr rfl⟩
   simp[this]
 · intro j x hx _ hl
   rw[hl0 _ (hinx hx).1]at hl
   have:x.b∈idxC xs:=mem_idxC.2 ⟨j,x,hx,.inl rfl⟩
   simp[this]at hl
end Go.Proofs.YtmpmggejhnmakaaGreatDoor
