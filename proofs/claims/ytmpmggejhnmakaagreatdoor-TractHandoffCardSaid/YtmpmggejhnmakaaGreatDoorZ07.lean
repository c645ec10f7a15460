/- What the rows' listed variables are; a world in which they hold. -/
import Derived.Test.YtmpmggejhnmakaaGreatDoorZ01
import Derived.Test.YtmpmggejhnmakaaGreatDoorRows
import Derived.ProofKit
import Derived.Lay
import Derived.LaidMore
import Derived.Stop.Joined
import Derived.Stop.LaidErr
import Derived.Lib.LaidTab
import Derived.Test.YtmpmggejhnmakaaGreatDoorZ03
import Derived.Test.YtmpmggejhnmakaaGreatDoorZ06
import Derived.Test.YtmpmggejhnmakaaGreatDoorCards
import Derived.Test.YtmpmggejhnmakaaGreatDoorTie
import Derived.SevenTiedAt
import Derived.Test.YtmpmggejhnmakaaGreatDoorZ02
import Derived.Lib.SlicesCompact
set_option maxRecDepth 10000
namespace Go.Proofs.YtmpmggejhnmakaaGreatDoor
open Go.RowKit
theorem own:ownKnob Tryz.prog.godebug=none:=by kernel_rfl
end Go.Proofs.YtmpmggejhnmakaaGreatDoor
/- A slice of holds, opened: from the data that a row reads to the cells that a walk reads. -/
namespace Go.Proofs.YtmpmggejhnmakaaGreatDoor
open Go.ChangeShapes Go.WideShapes Go.ChangeAt Go.RowKit Go.Deep Go.Joins
theorem open_rows {H α:Type}{enc':TypeId×Value->H}{W:World}{sp:Nat->Bool}{held:Bool}{fuel:Nat}{cs:List Value}{x:DataW H×List MemPlace}{T E:TypeId}{sz:Nat}(enc:α->List Value)(good:α->List Nat->Prop)
 (inh:α) (hu:Tryz.prog.underlying T=some (.slice E)) (ce:Tryz.prog.cellsOf E=sz) (h0:∀q,∃v,(enc q)[0]? =some v) (hsz:∀q,(enc q).length=sz)
 (each:∀(n:Nat) (cs':List Value) (y:DataW H×List MemPlace),cs'.length=sz->DataW.trod enc' Tryz.prog W 0 sp held n E cs'=some y->∃q:α,enc q=cs'/\good q (y.1.weights Tryz.prog E))
 (mono:∀q ws ws',(∀z∈ws,z∈ws')->good q ws->good q ws')
 (h:DataW.trod enc' Tryz.prog W 0 sp held fuel T cs=some x):
 ∃(ao:Option Addr) (cap:Nat) (l:List α),cs=[.slice ao l.length cap]/\l.length<=cap/\cap<=maxLen/\Rows sz enc W.heap.size W ao l/\∀a∈l,good a (x.1.weights Tryz.prog T):=by
 rcases open_slice hu h with ⟨rfl,rfl⟩ | ⟨a,len,cap,m,n,D,Pl,rfl,hb,hl,hm,hmm,rfl,hx⟩
 · exact⟨none,0,[],rfl,qL _,by simp[maxLen],Rows.nil _ _ _ _ _,λ_ h=>by cases h⟩
 have hlm:len<=m:=by rw[hmm];split<;>omega
 have each':∀i,i<len->∃q:α,(∀(j:Nat) (v:Value),(enc q)[j]? =some v->W.cell? (a.add (i * sz+j))=some v)/\good q ((D i).weights Tryz.prog E):=by
  intro i hi;obtain⟨cs',h1,h2⟩:=hx i (by omega);rw[ce]at h1;obtain⟨_,hlen,hcell⟩:=World.cells?_some h1;obtain⟨q,rfl,hq⟩:=each _ cs' _ hlen h2;refine⟨q,λj v hj=>?_,hq⟩;have hjs:j<sz:=by rw[<- hsz q];exact (qF.1 hj).1
  have:=hcell j hjs
  rw[add_add]at this;rw[this];exact hj
 haveI:Inhabited α:=⟨inh⟩
 obtain⟨q,hq⟩:=choose_lt each';refine⟨some a,cap,(List.range len).map q,by simp,by simpa using hl,hm,?_,?_⟩
 · intro hne
   have hpos:0<len:=by
    rcases Nat.eq_zero_or_pos len with h0 | h0
    · subst h0;exact absurd rfl hne
    · exact h0
   obtain⟨b,off,spot⟩:=a;obtain⟨v0,hv0⟩:=h0 (q 0);have h00:=(hq 0 hpos).1 0 _ hv0
   have hs:spot=none/\b<W.heap.size:=by
    unfold Addr.add at h00;simp only[Nat.zero_mul,Nat.add_zero,if_true]at h00;unfold World.cell? at h00;cases hb:W.heap[b]? with
    | none=>simp[hb]at h00
    | some o=>
      refine⟨?_,lt_of_block hb⟩;cases spot with
      | none=>rfl
      | some s=>cases o<;>simp[hb]at h00
   obtain⟨rfl,hbl⟩:=hs;refine⟨b,off,rfl,hbl,λi x hi j v hj=>?_⟩
   obtain⟨hil,hix⟩:i<len/\q i=x:=by
    rw[List.getElem?_map]at hi;by_cases hil:i<len
    · simp[hil]at hi;exact⟨hil,hi⟩
    · rw[List.getElem?_eq_none (by simpa using hil)]at hi;cases hi
   subst hix
   have:=(hq i hil).1 j v hj
   rw[add_plain]at this;rw[Nat.add_assoc];exact this
 · intro y hy
   obtain⟨i,hi,rfl⟩:=List.mem_map.1 hy;have hi':=List.mem_range.1 hi;refine mono _ _ _ (λz hz=>?_) (hq i hi').2;simp only[DataW.weights,hu];exact List.mem_cons_of_mem _ (List.mem_append_left _ (weightsAll_mem (List.mem_map.2 ⟨i,hi,rfl⟩) z hz))
def Rd.fits (r:Rd)(ws:List Nat):Prop:=r.key.size∈ws/\r.value.size∈ws
section
variable {H:Type} {P:Program} {enc:TypeId×Value->H} {w:World} {base:Nat} {spare:Nat->Bool} {held:Bool}
end
structure HoldD.fitsW (d:HoldD)(ws:List Nat):Prop where
 ks:d.key.size∈ws
 vs:d.value.size∈ws
 cl: -9223372036854775808<=d.cl/\d.cl<=9223372036854775807
 nm: -9223372036854775808<=d.nm/\d.nm<=9223372036854775807
 an:d.acts.length<=9223372036854775807
 rn:d.reads.length<=9223372036854775807
 acts:∀a∈d.acts,a.fits ws
 reads:∀r∈d.reads,r.fits ws
theorem HoldD.fitsW.small {d:HoldD}{ws:List Nat}(h:d.fitsW ws)(hw:ws.all (· <=reachBytes)=true):d.small:=by
 have hb:∀z∈ws,z<=140737488351232:=λz hz=>of_decide_eq_true (List.all_eq_true.1 hw z hz);exact⟨hb _ h.ks,hb _ h.vs,h.an,h.rn,λa ha=>⟨hb _ (h.acts a ha).2.2.1,hb _ (h.acts a ha).2.2.2⟩,λr hr=>⟨hb _ (h.reads r hr).1,hb _ (h.reads r hr).2⟩⟩
theorem HoldD.fitsW.ok {d:HoldD}{ws:List Nat}(h:d.fitsW ws)(hw:ws.all (· <=reachBytes)=true)(ha:d.acts.length<=1000000)(hr:d.reads.length<=1000000):d.ok:=by
 have hs:=h.small hw;exact⟨λa ha=>(h.acts a ha).ok hw,ha,hr,hs.ks,hs.vs,λr hr=>(hs.reads r hr).2⟩
end Go.Proofs.YtmpmggejhnmakaaGreatDoor
/- What every lift of this seat uses: all arguments stay, a Name by value is opened. -/
namespace Go.Proofs.YtmpmggejhnmakaaGreatDoor
open Go.ChangeShapes Go.WideShapes Go.ChangeAt Go.RowKit Go.ChangeMaps Go.Joins
theorem laidOut:laidOutB Tryz.prog=true:=by kernel_rfl
theorem below_trodAll {H:Type}{enc:TypeId×Value->H}{P:Program}(hl:laidOutB P=true){W W':World}(hb:Below W.heap.size W W'):
 ∀{ts:List TypeId} {vs:List Value} {ds:List (DataW H)} {ps:List MemPlace},(ts.all λt=>P.readableRec t&&decide (t<P.types.size))=true->DataW.TrodAll enc P W 0 (λ_=>true) true ts vs ds ps->(∀x∈ps,x.block<W.heap.size)->
  DataW.TrodAll enc P W' 0 (λb=>decide (b<W.heap.size)) true ts vs ds ps
 | [],[],[],_,_,h,_=>h
 | [],_::_,_,_,_,h,_=>h.elim
 | [],[],_::_,_,_,h,_=>h.elim
 | _::_,[],_,_,_,h,_=>h.elim
 | _::_,_::_,[],_,_,h,_=>h.elim
 | t::ts,v::vs,d::ds,_,hr,h,hlt=>by
   obtain⟨p,q,h1,h2,rfl⟩:=h;rw[List.all_cons,Bool.and_eq_true,Bool.and_eq_true]at hr;exact⟨p,q,Below.trod hl hr.1.1 (of_decide_eq_true hr.1.2) h1 hb (λx hx=>hlt x (List.mem_append_left _ hx)),below_trodAll hl hb hr.2 h2 (λx hx=>hlt x (List.mem_append_right _ hx)),rfl⟩
end Go.Proofs.YtmpmggejhnmakaaGreatDoor
/- A span, opened: from the data that a row reads. -/
namespace Go.Proofs.YtmpmggejhnmakaaGreatDoor
open Go.ChangeShapes Go.WideShapes Go.ChangeAt Go.RowKit Go.ChangeMaps Go.Joins
theorem open_span {H:Type}{enc:TypeId×Value->H}{w:World}{base b0:Nat}{spare:Nat->Bool}{held:Bool}{r:Reach}{v:Value}{d:DataW H}{p:List MemPlace}(hv:Value.okWide Tryz.prog w r b0 30 v)(h:DataW.Trod enc Tryz.prog w base spare held 30 v d p):
 ∃a b:ByteArray,v= .agg #[.string a,.string b]/\a.size∈DataW.weights Tryz.prog 30 d/\b.size∈DataW.weights Tryz.prog 30 d:=by
 obtain⟨v0,v1,y0,y1,n,rfl,rfl,rfl,h0,h1⟩:=open_agg2 Tryz.underlying30 (by kernel_rfl) (by kernel_rfl) hv h;obtain⟨a,e0,g0,-⟩:=DataW.trod_string Tryz.underlying9 h0;obtain⟨b,e1,g1,-⟩:=DataW.trod_string Tryz.underlying9 h1;simp only[List.cons.injEq,and_true]at e0 e1;subst e0 e1;refine⟨a,b,rfl,?_,?_⟩
 · rw[Lib.size_eq];simp[DataW.weights,Tryz.underlying30,DataW.weightsEach,g0]
 · rw[Lib.size_eq];simp[DataW.weights,Tryz.underlying30,DataW.weightsEach,g1]
end Go.Proofs.YtmpmggejhnmakaaGreatDoor
/- Rows that rise by key: a row put where it belongs, and the document's way of it. -/
namespace Go.Proofs.YtmpmggejhnmakaaGreatDoor
structure RowD where
 key:ByteArray
 value:ByteArray
def encRw (r:RowD):List Value:=[.string r.key,.string r.value]
def rkey (r:RowD):List UInt8:=r.key.data.toList
def RiseR (l:List RowD):Prop:=l.Pairwise λa b=>rkey a<rkey b
def placeR (k:List UInt8)(l:List RowD):Nat:=(l.takeWhile λd=>decide (rkey d<k)).length
def thereR (k:List UInt8)(l:List RowD):Bool:=match l[placeR k l]? with | some d=>decide (rkey d=k) | none=>false
def getR (k:List UInt8)(l:List RowD):Option ByteArray:=match l[placeR k l]? with | some d=>if rkey d=k then some d.value else none | none=>none
def putR (x:RowD)(l:List RowD):List RowD:=l.take (placeR (rkey x) l)++x::l.drop (placeR (rkey x) l+if thereR (rkey x) l=true then 1 else 0)
def withGo (x:RowD):Bool->List RowD->List RowD
 | true,[]=>[]
 | false,[]=>[x]
 | true,d::l=>(if rkey d=rkey x then [] else [d])++withGo x true l
 | false,d::l=>if rkey d<rkey x then d::withGo x false l else x::((if rkey d=rkey x then [] else [d])++withGo x true l)
theorem lt_irr (a:List UInt8):¬a<a:=List.lt_irrefl a
theorem lt_tr {a b c:List UInt8}(h:a<b)(k:b<c):a<c:=List.lt_trans h k
theorem withGo_true {x:RowD}:∀{l:List RowD},(∀d∈l,rkey d≠rkey x)->withGo x true l=l
 | [],_=>rfl
 | d::l,h=>by
   rw[withGo,if_neg (h d (by simp)),withGo_true (λe he=>h e (by simp[he]))];rfl
theorem lt_tri (a b:List UInt8):a<b\/a=b\/b<a:=by
 by_cases h1:a<b
 · exact .inl h1
 · by_cases h2:b<a
   · exact .inr (.inr h2)
   · exact .inr (.inl (List.le_antisymm (List.not_lt.1 h2) (List.not_lt.1 h1)))
theorem lt_of_not_lt {a b c:List UInt8}(h:¬a<b)(k:a<c):b<c:=by
 rcases lt_tri a b with e | e | e
 · exact absurd e h
 · rw[<- e];exact k
 · exact lt_tr e k
theorem with_put {x:RowD}:∀{l:List RowD},RiseR l->withGo x false l=putR x l
 | [],_=>by simp[withGo,putR,placeR]
 | d::l,h=>by
   have hp:=List.pairwise_cons.1 h;by_cases hlt:rkey d<rkey x
   · have hpl:placeR (rkey x) (d::l)=placeR (rkey x) l+1:=by
      unfold placeR;rw[List.takeWhile_cons_of_pos (by simpa using hlt)];rfl
     have hth:thereR (rkey x) (d::l)=thereR (rkey x) l:=by
      unfold thereR;rw[hpl,qC]
     rw[withGo,if_pos hlt,with_put hp.2];unfold putR;rw[hpl,hth,List.take_succ_cons,show placeR (rkey x) l+1+(if thereR (rkey x) l=true then 1 else 0)=(placeR (rkey x) l+(if thereR (rkey x) l=true then 1 else 0))+1 from by omega,List.drop_succ_cons];rfl
   · have hpl:placeR (rkey x) (d::l)=0:=by
      unfold placeR;rw[List.takeWhile_cons_of_neg (by simpa using hlt)];rfl
     have hne:∀e∈l,rkey e≠rkey x:=λe he hk=>by
      have h1:=lt_of_not_lt hlt (hp.1 e he);rw[hk]at h1;exact lt_irr _ h1
     rw[withGo,if_neg hlt,withGo_true hne];unfold putR thereR;rw[hpl,qB];by_cases hk:rkey d=rkey x
     · simp[hk]
     · simp[hk]
theorem putR_rise {x:RowD}:∀{l:List RowD},RiseR l->RiseR (putR x l)
 | l,h=>by
   rw[<- with_put h]
   have key:∀(l:List RowD),RiseR l->RiseR (withGo x false l)/\∀e∈withGo x false l,e=x\/e∈l:=by
    intro l
    induction l with
    | nil=>intro _;exact⟨List.pairwise_singleton _ _,λe he=> .inl (by simpa [withGo] using he)⟩
    | cons d l ih=>
      intro h;have hp:=List.pairwise_cons.1 h;by_cases hlt:rkey d<rkey x
      · rw[withGo,if_pos hlt]
        obtain⟨i1,i2⟩:=ih hp.2;refine⟨List.pairwise_cons.2 ⟨λe he=>?_,i1⟩,λe he=>?_⟩
        · rcases i2 e he with rfl | he
          · exact hlt
          · exact hp.1 e he
        · rcases List.mem_cons.1 he with rfl | he
          · exact .inr (by simp)
          · exact (i2 e he).elim .inl (λh=> .inr (by simp[h]))
      · have hne:∀e∈l,rkey e≠rkey x:=λe he hk=>by
         have h1:=lt_of_not_lt hlt (hp.1 e he);rw[hk]at h1;exact lt_irr _ h1
        rw[withGo,if_neg hlt,withGo_true hne];by_cases hk:rkey d=rkey x
        · rw[if_pos hk]
          exact⟨List.pairwise_cons.2 ⟨λe he=>by rw[<- hk];exact hp.1 e he,hp.2⟩,λe he=>(List.mem_cons.1 he).elim .inl (λh=> .inr (by simp[show e∈l by simpa using h]))⟩
        · rw[if_neg hk]
          have hxd:rkey x<rkey d:=by
           rcases lt_tri (rkey d) (rkey x) with e | e | e
           · exact absurd e hlt
           · exact absurd e hk
           · exact e
          refine⟨List.pairwise_cons.2 ⟨λe he=>?_,h⟩,λe he=>(List.mem_cons.1 he).elim .inl (λh=> .inr h)⟩;rcases List.mem_cons.1 (show e∈d::l from he) with rfl | he
          · exact hxd
          · exact lt_tr hxd (hp.1 e he)
   exact (key l h).1
end Go.Proofs.YtmpmggejhnmakaaGreatDoor
/- Orders of steps: the program's search (which leaves a step that another one must come ahead of) and the document's (which tries each order and looks at its beginning) find the same. -/
namespace Go.Proofs.YtmpmggejhnmakaaGreatDoor
section
variable {α σ:Type} (next:σ->α->Option σ) (late:α->α->Bool)
variable {next late}
end
section
variable {α σ:Type} {next:σ->α->Option σ} {late:α->α->Bool}
end
end Go.Proofs.YtmpmggejhnmakaaGreatDoor
/- Keys, Of: the plain law: keys rise, each act is of one of them; numbers there and back. No program. -/
namespace Go.Proofs.YtmpmggejhnmakaaGreatDoor
abbrev Txt:=List UInt8
def leT (x y:Txt):Bool:=decide (x<=y)
theorem leT_trans (a b c:Txt)(h1:leT a b=true)(h2:leT b c=true):leT a c=true:=by
 simp only[leT,decide_eq_true_eq]at *;exact List.le_trans h1 h2
theorem leT_total (a b:Txt):(leT a b||leT b a)=true:=by
 simp only[leT,Bool.or_eq_true,decide_eq_true_eq];exact List.le_total a b
theorem lt_of_le_ne {a b:Txt}(h:a<=b)(hne:a≠b):a<b:=by
 rcases Classical.em (a<b) with h1 | h1
 · exact h1
 · exact absurd (List.le_antisymm h (List.not_lt.1 h1)) hne
theorem lt_of_le_of_lt {a b c:Txt}(h:a<=b)(k:b<c):a<c:=by
 refine lt_of_le_ne (List.le_trans h (List.le_of_lt k)) λe=>?_;subst e;exact absurd k (List.not_lt.2 h)
def sortT (l:List Txt):List Txt:=l.mergeSort leT
theorem sortT_pw (l:List Txt):(sortT l).Pairwise (λa b=>a<=b):=by
 have h:=List.pairwise_mergeSort leT_trans leT_total l;exact h.imp λh=>by simpa [leT] using h
theorem compactUpTo_spec (d:Array Txt)(hs:d.toList.Pairwise (λa b=>a<=b)):∀m,m<=d.size->
 (Lib.compactUpTo d m).Pairwise (λa b=>a<b)/\(∀x∈Lib.compactUpTo d m,∃j,j<m/\d[j]! =x)/\(∀j,j<m->d[j]! ∈Lib.compactUpTo d m)/\(∀x∈Lib.compactUpTo d m,∀(_:0<m),x<=d[m - 1]!):=by
 have hget:∀i j,i<j->j<d.size->d[i]! <=d[j]! :=by
  intro i j hij hj
  have:=List.pairwise_iff_getElem.1 hs i j (by simp;omega) (by simpa using hj) hij
  rw[getElem!_pos d i (by omega),getElem!_pos d j hj];simpa using this
 intro m
 induction m with
 | zero=>intro _;exact⟨by simp[Lib.compactUpTo],by simp[Lib.compactUpTo],by omega,by omega⟩
 | succ m ih=>
   intro hm;obtain⟨h1,h2,h3,h4⟩:=ih (by omega);rw[Lib.compactUpTo_succ];cases hk:Lib.keeps d m
   · have hk':m≠0/\d[m]! =d[m - 1]! :=by
      have:=hk
      simp only[Lib.keeps,decide_eq_false_iff_not,not_or,Decidable.not_not]at this;exact this
     simp only[Bool.false_eq_true,if_false,List.append_nil];refine⟨h1,λx hx=>?_,λj hj=>?_,λx hx _=>?_⟩
     · obtain⟨j,hj,e⟩:=h2 x hx;exact⟨j,by omega,e⟩
     · rcases Nat.lt_or_ge j m with h | h
       · exact h3 j h
       · obtain rfl:j=m:=by omega
         rw[hk'.2];exact h3 _ (by omega)
     · have:=h4 x hx (by omega)
       rw[Nat.add_sub_cancel,hk'.2];exact this
   · simp only[if_true]
     have hlt:∀x∈Lib.compactUpTo d m,x<d[m]! :=by
      intro x hx;obtain⟨j,hj,e⟩:=h2 x hx;have hle:=h4 x hx (by omega)
      have hk':d[m]! ≠d[m - 1]! :=by
       have:=hk
       simp only[Lib.keeps,decide_eq_true_eq]at this;rcases this with h | h
       · omega
       · exact h
      exact lt_of_le_of_lt hle (lt_of_le_ne (hget (m - 1) m (by omega) (by omega)) (λe=>hk' e.symm))
     refine⟨List.pairwise_append.2 ⟨h1,by simp,λa ha b hb=>?_⟩,λx hx=>?_,λj hj=>?_,λx hx _=>?_⟩
     · rw[List.mem_singleton]at hb;subst hb;exact hlt a ha
     · rcases List.mem_append.1 hx with hx | hx
       · obtain⟨j,hj,e⟩:=h2 x hx;exact⟨j,by omega,e⟩
       · rw[List.mem_singleton]at hx;exact⟨m,by omega,hx.symm⟩
     · rcases Nat.lt_or_ge j m with h | h
       · exact List.mem_append_left _ (h3 j h)
       · obtain rfl:j=m:=by omega
         exact List.mem_append_right _ (by simp)
     · rw[Nat.add_sub_cancel]
       rcases List.mem_append.1 hx with hx | hx
       · exact List.le_of_lt (hlt x hx)
       · rw[List.mem_singleton]at hx;rw[hx];exact List.le_refl _
theorem compact_spec (l:List Txt)(hs:l.Pairwise (λa b=>a<=b)):(Lib.compact l).Pairwise (λa b=>a<b)/\∀x,x∈Lib.compact l↔x∈l:=by
 obtain⟨h1,h2,h3,_⟩:=compactUpTo_spec l.toArray (by simpa using hs) l.length (by simp);refine⟨h1,λx=>⟨λhx=>?_,λhx=>?_⟩⟩
 · obtain⟨j,hj,e⟩:=h2 x hx
   rw[<- e]
   have:l.toArray[j]! =l[j]:=by simp[hj]
   rw[this];exact List.getElem_mem _
 · obtain⟨j,hj,e⟩:=List.mem_iff_getElem.1 hx
   have:=h3 j hj
   have e2:l.toArray[j]! =l[j]:=by simp[hj]
   rw[e2,e]at this;exact this
theorem compact_len (l:List Txt):(Lib.compact l).length<=l.length:=by
 unfold Lib.compact Lib.compactUpTo;rw[List.length_map];exact qM (List.length_filter_le _ _) (by simp)
def keyT (a:ActD):Txt:=a.key.data.toList
def keysL (l:List ActD):List Txt:=Lib.compact (sortT (l.map keyT))
theorem keysL_mem (l:List ActD)(x:Txt):x∈keysL l↔ ∃a∈l,keyT a=x:=by
 unfold keysL;rw[(compact_spec _ (sortT_pw _)).2];unfold sortT;rw[(List.mergeSort_perm _ _).mem_iff];simp[List.mem_map]
theorem keysL_len (l:List ActD):(keysL l).length<=l.length:=by
 unfold keysL;refine qM (compact_len _) ?_;unfold sortT;rw[List.length_mergeSort,List.length_map];exact qL _
def ofL (key:Txt)(l:List ActD):List ActD:=l.filter (λa=>decide (keyT a=key))
theorem ofL_len (key:Txt)(l:List ActD):(ofL key l).length<=l.length:=List.length_filter_le _ _
end Go.Proofs.YtmpmggejhnmakaaGreatDoor
