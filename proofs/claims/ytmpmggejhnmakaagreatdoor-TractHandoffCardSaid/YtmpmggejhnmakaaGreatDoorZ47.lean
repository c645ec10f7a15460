/- handoffs: the rows and holds of a span, plainly: what stays when others turn; what is told of bytes that tell them. -/
import Derived.Test.YtmpmggejhnmakaaGreatDoorZ39
import Derived.Test.YtmpmggejhnmakaaGreatDoorZ46
import Derived.Test.YtmpmggejhnmakaaGreatDoorZ24
import Derived.Test.YtmpmggejhnmakaaGreatDoorZ35
import Derived.Test.YtmpmggejhnmakaaGreatDoorZ40
import Derived.Test.YtmpmggejhnmakaaGreatDoorZ01
namespace Go.Proofs.YtmpmggejhnmakaaGreatDoor
open Go.RowKit
theorem withGo_filterT (x:RowD)(p:RowD->Bool)(hp:∀r,rkey r=rkey x->p r=false):∀l,(withGo x true l).filter p=l.filter p
 | []=>rfl
 | d::l=>by
   rw[withGo,List.filter_append,withGo_filterT x p hp l];by_cases h:rkey d=rkey x
   · rw[if_pos h,List.filter_cons,if_neg (by simp[hp d h])];rfl
   · rw[if_neg h,List.filter_cons,List.filter_cons]
     split<;>simp
theorem withGo_filter (x:RowD)(p:RowD->Bool)(hp:∀r,rkey r=rkey x->p r=false):∀l,(withGo x false l).filter p=l.filter p
 | []=>by rw[withGo,List.filter_cons,if_neg (by simp[hp x rfl])]
 | d::l=>by
   by_cases h:rkey d<rkey x
   · rw[withGo,if_pos h,List.filter_cons,List.filter_cons,withGo_filter x p hp l]
   · have ht:=withGo_filterT x p hp (d::l)
     rw[withGo]at ht;rw[withGo,if_neg h,List.filter_cons,if_neg (by simp[hp x rfl]),ht]
theorem putR_filter {x:RowD}{l:List RowD}(h:RiseR l)(p:RowD->Bool)(hp:∀r,rkey r=rkey x->p r=false):(putR x l).filter p=l.filter p:=by
 rw[<- with_put h];exact withGo_filter x p hp l
theorem insD_filter (d:HoldD)(ds:List HoldD)(p:HoldD->Bool)(h:p d=false):(insD d ds).filter p=ds.filter p:=by
 unfold insD;rw[List.filter_append,List.filter_cons,if_neg (by simp[h]),<- List.filter_append,List.take_append_drop]
theorem insAll_filter (p:HoldD->Bool):∀(dl ds:List HoldD),(∀d∈dl,p d=false)->(insAll dl ds).filter p=ds.filter p
 | [],_,_=>rfl
 | d::dl,ds,h=>by
   show (insAll dl (insD d ds)).filter p=_;rw[insAll_filter p dl _ (λx hx=>h x (by simp[hx])),insD_filter d ds p (h d (by simp))]
theorem notKeys_filter {k:ByteArray}{ds:List HoldD}(p:HoldD->Bool)(h:∀d,dkey d=k.data.toList->p d=false):(notKeys [k] ds).filter p=ds.filter p:=by
 unfold notKeys;rw[List.filter_filter];refine List.filter_congr (λd hd=>?_);by_cases he:dkey d=k.data.toList
 · simp[h d he]
 · have:(d.tells λk' _ _=>amongB [k] k')=false:=by
    unfold HoldD.tells amongB;simp only[List.any_cons,List.any_nil,Bool.or_false];unfold dkey at he;exact decide_eq_false (λe=>he e.symm)
   simp[this]
theorem drop_rows {lo:List UInt8}:∀{l:List RowD},RiseR l->l.drop (placeR lo l)=l.filter λr=> !decide (rkey r<lo)
 | [],_=>by simp[placeR]
 | d::l,h=>by
   have hp:=List.pairwise_cons.1 h;by_cases h2:rkey d<lo
   · have e2:placeR lo (d::l)=placeR lo l+1:=by unfold placeR;rw[List.takeWhile_cons_of_pos (by simpa using h2)];rfl
     rw[e2,List.drop_succ_cons,drop_rows hp.2,List.filter_cons,if_neg (by simp[h2])]
   · have e2:placeR lo (d::l)=0:=by unfold placeR;rw[List.takeWhile_cons_of_neg (by simpa using h2)];rfl
     rw[e2,List.drop_zero]
     symm
     rw[List.filter_eq_self];intro e he;simp only[Bool.not_eq_true',decide_eq_false_iff_not];rcases List.mem_cons.1 he with rfl | he
     · exact h2
     · exact λq=>h2 (lt_tr (hp.1 e he) q)
def spR (lo hi:List UInt8)(r:RowD):Bool:=hasB lo hi (rkey r)
theorem inR_filter {lo hi:List UInt8}{l:List RowD}(h:RiseR l)(hs:spanB lo hi=true)(hok:∀r∈l,rwB r=true):inR lo hi l=l.filter (spR lo hi):=by
 have hk:∀r∈l,keyL (rkey r)=true:=λr hr=>by
  have:=hok r hr
  unfold rwB at this;simp only[Bool.and_eq_true]at this;exact this.1
 unfold inR boundsR;rw[if_pos hs];by_cases he:hi.isEmpty=true
 · rw[if_pos he,List.take_length,drop_rows h]
   refine List.filter_congr (λr hr=>?_);unfold spR hasB aboveB;rw[hs,hk r hr,he];simp only[Bool.true_and,Bool.and_true,decide_not,Bool.true_or]
 · rw[if_neg he]
   have hlh:¬hi<lo:=λe=>by
    unfold spanB aboveB at hs;simp only[Bool.and_eq_true,Bool.or_eq_true,decide_eq_true_eq]at hs;rcases hs.2 with q | q
    · exact he q
    · exact lt_irr _ (lt_tr e q)
   rw[cut_rows h hlh];refine List.filter_congr (λr hr=>?_);unfold spR hasB aboveB;rw[hs,hk r hr];simp only[Bool.not_eq_true]at he;rw[he];simp only[Bool.true_and,decide_not,Bool.false_or]
theorem inR_rise {lo hi:List UInt8}{l:List RowD}(h:RiseR l):RiseR (inR lo hi l):=by
 unfold inR;exact (h.sublist (List.take_sublist _ _)).sublist (List.drop_sublist _ _)
theorem putR_last {x:RowD}:∀{l:List RowD},(∀r∈l,rkey r<rkey x)->putR x l=l++[x]:=λ{l} h=>by
 have hp:placeR (rkey x) l=l.length:=by
  unfold placeR
  have key:∀l:List RowD,(∀r∈l,rkey r<rkey x)->(l.takeWhile λd=>decide (rkey d<rkey x))=l:=λl=>by
   induction l with
   | nil=>intro _;rfl
   | cons d l ih=>intro h;rw[List.takeWhile_cons_of_pos (by simpa using h d (by simp)),ih (λr hr=>h r (by simp[hr]))]
  rw[key l h]
 unfold putR;rw[hp,List.take_length,List.drop_eq_nil_of_le (by omega)]
theorem putAllR_onto:∀(l m:List RowD),RiseR (m++l)->putAllR l m=m++l
 | [],m,_=>by simp[putAllR]
 | x::l,m,h=>by
   have hp:=List.pairwise_append.1 h;show putAllR l (putR x m)=_;rw[putR_last (λr hr=>hp.2.2 r hr x (by simp)),putAllR_onto l (m++[x]) (by simpa using h)];simp
theorem putAllR_self {l:List RowD}(h:RiseR l):putAllR l []=l:=by
 have:=putAllR_onto l [] (by simpa using h)
 simpa using this
theorem line_back (r:RowD)(hr:rwB r=true)(rest:List UInt8):lineS ⟨false,rowW r++rest⟩=(r,⟨false,rest⟩):=by
 unfold rwB keyL at hr;simp only[Bool.and_eq_true,decide_eq_true_eq]at hr;have h1:r.key.data.toList.length<=20:=hr.1.1.2;have h2:r.value.data.toList.length<=20:=by have:=hr.2;rw[size_data];omega
 have e1:rowS 20 ⟨false,rowW r++rest⟩=(r.key.data.toList,⟨false,rowB r.value.data.toList++rest⟩):=by
  simp only[rowW,List.append_assoc];exact rowB_back _ _ h1 (by omega)
 have e2:=rowB_back (most:=20) r.value.data.toList rest h2 (by omega);simp only[lineS,e1,e2,ba_back]
theorem lines_back:∀(l:List RowD),(∀r∈l,rwB r=true)->∀(rest:List UInt8)(k:Nat),k<=l.length->linesK ⟨false,l.flatMap rowW++rest⟩ k=(l.take k,⟨false,(l.drop k).flatMap rowW++rest⟩)
 | l,h,rest,0,_=>by simp[linesK]
 | l,h,rest,k+1,hk=>by
   have hlt:k<l.length:=by omega
   rw[linesK,lines_back l h rest k (by omega)];have hd:l.drop k=l[k]::l.drop (k+1):=List.drop_eq_getElem_cons hlt;rw[hd,List.flatMap_cons,List.append_assoc,line_back _ (h _ (List.getElem_mem hlt))];rw[List.take_succ_eq_append_getElem hlt]
theorem lines_good {l:List RowD}(hr:RiseR l)(h:∀r∈l,rwB r=true)(rest:List UInt8):linesG ⟨false,l.flatMap rowW++rest⟩ l.length:=λk hk=>by
 rw[lines_back l h rest k (by omega)];have hd:l.drop k=l[k]::l.drop (k+1):=List.drop_eq_getElem_cons hk;unfold lineG;rw[hd,List.flatMap_cons,List.append_assoc,line_back _ (h _ (List.getElem_mem hk))];simp only[h _ (List.getElem_mem hk),Bool.not_false,Bool.and_self,Bool.true_and];unfold nextR;rcases Nat.eq_zero_or_pos k with h0 | h0
 · subst h0;simp
 · have hl:(l.take k).getLast? =some l[k - 1]:=by
    rw[List.getLast?_eq_getElem?,List.length_take,Nat.min_eq_left (by omega),List.getElem?_take,if_pos (by omega),qE (by omega)]
   rw[hl];exact decide_eq_true (List.pairwise_iff_getElem.1 hr (k - 1) k (by omega) hk (by omega))
theorem pnum_back:∀(ns:List Int),(∀n∈ns,0<=n/\n<=1073741824)->∀(rest:List UInt8)(k:Nat),k<=ns.length->pnumK ⟨false,ns.flatMap numZ++rest⟩ k=(ns.take k,⟨false,(ns.drop k).flatMap numZ++rest⟩)
 | ns,h,rest,0,_=>by simp[pnumK]
 | ns,h,rest,k+1,hk=>by
   have hlt:k<ns.length:=by omega
   have hn:=h _ (List.getElem_mem hlt);rw[pnumK,pnum_back ns h rest k (by omega)];have hd:ns.drop k=ns[k]::ns.drop (k+1):=List.drop_eq_getElem_cons hlt;have e:=numZ_back (most:=1073741824) (m:=ns[k].toNat) (n:=ns[k]) ((ns.drop (k+1)).flatMap numZ++rest) (by omega) (by omega) (by omega);rw[hd,List.flatMap_cons,List.append_assoc,e];rw[List.take_succ_eq_append_getElem hlt,Int.toNat_of_nonneg hn.1]
theorem holds_backR {ds:List HoldD}(hb:∀d∈ds,holdB d=true)(hr:RiseD ds)(hl:ds.length<=60)(rest:List UInt8):holdsS ⟨false,writeW ds++rest⟩=some (ds,⟨false,rest⟩):=by
 unfold holdsS writeW;rw[List.append_assoc,numZ_back (most:=60) (m:=ds.length) (n:=(ds.length:Int)) _ rfl hl (by omega)];simp only[holds_backK hb hr rest _ (qL _),List.take_length,List.drop_length,List.flatMap_nil,List.nil_append];simp
theorem putRE_self {l:List RowD}(hr:RiseR l)(h:∀r∈l,rwB r=true)(hl:l.length<=400):putRE l []=0:=by
 unfold putRE;rw[if_neg,if_neg (by rw[putAllR_self hr];omega)];intro e;rw[List.any_eq_true]at e;obtain⟨x,hx,e⟩:=e;simp[h x hx]at e
theorem tab_back {w:World}{k:TrK}{d:TrD}(T:TrIs w k d)(lo hi:ByteArray)(hpe:putE (inD lo hi d.holds) []=0):GoodG ⟨false,tabW lo hi d⟩ (inR lo.data.toList hi.data.toList d.rows) (inD lo hi d.holds) d.ns ⟨false,[]⟩:=by
 have hrr:=inR_rise (lo:=lo.data.toList) (hi:=hi.data.toList) T.rt.rise;have hro:∀r∈inR lo.data.toList hi.data.toList d.rows,rwB r=true:=λr hr=>T.rt.ok r (inR_mem hr)
 have hrl:(inR lo.data.toList hi.data.toList d.rows).length<=400:=by
  have:=T.rt.few
  unfold inR;rw[List.length_drop,List.length_take];omega
 have hdr:RiseD (inD lo hi d.holds):=rise_filter T.ht.rise _;have hdo:∀x∈inD lo hi d.holds,holdB x=true:=λx hx=>(T.ht.ok x (inD_mem hx)).2;have hdl:(inD lo hi d.holds).length<=60:=qM (List.length_filter_le _ _) T.ht.few;have hpt:=T.pt.ok;have hpl:=T.pt.len
 have hE:tabW lo hi d=numZ ((inR lo.data.toList hi.data.toList d.rows).length:Int)++((inR lo.data.toList hi.data.toList d.rows).flatMap rowW++(writeW (inD lo hi d.holds)++pastW d.ns)):=by
  unfold tabW rowsW;simp only[List.append_assoc]
 rw[hE];generalize inR lo.data.toList hi.data.toList d.rows=rs at *;generalize inD lo hi d.holds=ds at *;refine⟨rs.length,⟨false,rs.flatMap rowW++(writeW ds++pastW d.ns)⟩,⟨false,pastW d.ns⟩,numZ_back _ rfl hrl (by omega),rfl,lines_good hrr hro _,?_,?_,?_,rfl,putRE_self hrr hro hrl,hpe⟩
 · rw[lines_back _ hro _ _ (qL _),List.take_length]
 · rw[lines_back _ hro _ _ (qL _),List.drop_length,List.flatMap_nil,List.nil_append]
   exact holds_backR hdo hdr hdl _
 · have:=pnum_back d.ns hpt [] 8 (by omega)
   rw[List.append_nil]at this;unfold pastW;rw[this,List.take_of_length_le (by omega),List.drop_eq_nil_of_le (by omega)];rfl
end Go.Proofs.YtmpmggejhnmakaaGreatDoor
/- handoffs: what Prepare and Finish leave of a span that is shut; what Freeze makes of a whole tract, plainly. -/
namespace Go.Proofs.YtmpmggejhnmakaaGreatDoor
open Go.RowKit
def Shut (lo hi:List UInt8)(parts:List StrZ):Prop:=∀k q,hasB lo hi k=true->openL parts k q=false
def spD (lo hi:List UInt8)(d:HoldD):Bool:=hasB lo hi (dkey d)
theorem inD_spD (lo hi:ByteArray)(ds:List HoldD):inD lo hi ds=ds.filter (spD lo.data.toList hi.data.toList):=rfl
theorem putRT_rise {x:RowD}{l:List RowD}(h:RiseR l):RiseR (putRT [x] l):=by
 unfold putRT
 split
 · exact putAllR_rise _ _ h
 · exact h
theorem putRT_filter {x:RowD}{l:List RowD}(h:RiseR l)(p:RowD->Bool)(hp:∀r,rkey r=rkey x->p r=false):(putRT [x] l).filter p=l.filter p:=by
 unfold putRT
 split
 · exact putR_filter h p hp
 · rfl
theorem fin_stays {lo hi:List UInt8}{parts:List StrZ}(S:Shut lo hi parts)(commit:Bool):∀(todo:List HoldD)(rows:List RowD)(ds:List HoldD)(e:Int),RiseR rows->
 (todo.foldl (finStep parts commit) (rows,ds,e)).1.filter (spR lo hi)=rows.filter (spR lo hi)/\(todo.foldl (finStep parts commit) (rows,ds,e)).2.1.filter (spD lo hi)=ds.filter (spD lo hi)
 | [],_,_,_,_=>⟨rfl,rfl⟩
 | h::todo,rows,ds,e,hr=>by
   rw[List.foldl_cons];by_cases ho:openL parts (dkey h) (λ_=>true)=true
   · have hk:hasB lo hi (dkey h)=false:=by
      cases q:hasB lo hi (dkey h) with
      | false=>rfl
      | true=>rw[S _ _ q]at ho;cases ho
     have hs:finStep parts commit (rows,ds,e) h=((if (commit&&h.put)=true then putRT [⟨h.key,h.value⟩] rows else rows),notKeys [h.key] ds,e):=by
      unfold finStep;rw[if_pos ho]
     rw[hs];have hn:=notKeys_filter (k:=h.key) (ds:=ds) (spD lo hi) (λd hd=>by unfold spD;rw[hd];exact hk)
     split
     · obtain⟨h1,h2⟩:=fin_stays S commit todo (putRT [⟨h.key,h.value⟩] rows) (notKeys [h.key] ds) e (putRT_rise hr)
       exact⟨h1.trans (putRT_filter hr _ (λr hd=>by unfold spR;rw[hd];exact hk)),h2.trans hn⟩
     · obtain⟨h1,h2⟩:=fin_stays S commit todo rows (notKeys [h.key] ds) e hr
       exact⟨h1,h2.trans hn⟩
   · have hs:finStep parts commit (rows,ds,e) h=(rows,ds,23):=by
      unfold finStep;rw[if_neg ho]
     rw[hs];exact fin_stays S commit todo rows ds 23 hr
theorem finD_stays {lo hi:List UInt8}{d:TrD}(S:Shut lo hi d.parts)(c n:Int)(commit:Bool)(hr:RiseR d.rows):(finD c n commit d).rows.filter (spR lo hi)=d.rows.filter (spR lo hi)/\(finD c n commit d).holds.filter (spD lo hi)=d.holds.filter (spD lo hi):=by
 unfold finD
 split
 · exact fin_stays S commit _ _ _ _ hr
 · exact⟨rfl,rfl⟩
theorem prepD_stays {lo hi:List UInt8}{d:TrD}(S:Shut lo hi d.parts)(c n ep:Int)(acts:List ActD):(prepD c n ep acts d).2.rows=d.rows/\(prepD c n ep acts d).2.holds.filter (spD lo hi)=d.holds.filter (spD lo hi):=by
 unfold prepD
 split
 · exact⟨rfl,rfl⟩
 split
 · exact⟨rfl,rfl⟩
 split
 · exact⟨rfl,rfl⟩
 split
 · exact⟨rfl,rfl⟩
 rename_i ha
 split
 · exact⟨rfl,rfl⟩
 split
 · exact⟨rfl,rfl⟩
 refine⟨rfl,?_⟩;simp only;unfold putT
 split
 · refine insAll_filter _ _ _ (λx hx=>?_)
   unfold prepL at hx;obtain⟨k,hk,rfl⟩:=List.mem_map.1 hx;unfold spD;show hasB lo hi k=false;cases q:hasB lo hi k with
   | false=>rfl
   | true=>
     refine absurd ?_ ha;rw[List.any_eq_true];exact⟨k,hk,by rw[S _ _ q];rfl⟩
 · rfl
theorem sort_two (a b:List UInt8):sortL [a,b]=if a<=b then [a,b] else [b,a]:=by
 unfold sortL;by_cases h:a<=b<;>simp[List.mergeSort,List.MergeSort.Internal.splitInTwo,h]
theorem compact_two (a b:List UInt8)(h:a≠b):Lib.compact [a,b]=[a,b]:=by
 unfold Lib.compact Lib.compactUpTo;show ((List.range 2).filter _).map _=_;rw[show List.range 2=[0,1] from rfl];simp[Lib.keeps,Ne.symm h]
theorem has_open (cur k:List UInt8)(hc:cur=[]\/keyL cur=true)(hk:keyL k=true)(h:¬k<cur):hasB cur [] k=true:=by
 unfold hasB spanB aboveB;rw[hk];rcases hc with rfl | hc
 · simp
 · rw[hc];simp[h]
theorem cutStep_on {cur:ByteArray}{k:List UInt8}{st:List SpZ}(hc:cur.data.toList=[]\/keyL cur.data.toList=true)(hk:keyL k=true)(h:cur.data.toList<k):cutStep noBytes (st,cur) k=(st++[(cur,⟨k.toArray⟩)],⟨k.toArray⟩):=by
 unfold cutStep;have h1:=has_open _ _ hc hk (λe=>lt_irr _ (lt_tr e h))
 have h2:(k==cur.data.toList)=false:=by
  rw[beq_eq_false_iff_ne];intro e;rw[e]at h;exact lt_irr _ h
 show (if (hasB cur.data.toList noBytes.data.toList k&& !(k==cur.data.toList))=true then _ else _)=_;rw[show noBytes.data.toList=[] from rfl,h1,h2];rfl
theorem cutStep_nil (st:List SpZ×ByteArray):cutStep noBytes st []=st:=by
 unfold cutStep;rw[if_neg];unfold hasB keyL;simp
theorem frz_whole {lo hi:ByteArray}(scheme:Int)(hs:spanB lo.data.toList hi.data.toList=true):∃a b:List StrZ,frzNew scheme 1 lo hi st0=a++⟨lo,hi,1,2,scheme⟩::b/\(∀s∈a++b,s.st=1/\∀k,hasB lo.data.toList hi.data.toList k=true->hasB s.lo.data.toList s.hi.data.toList k=false)/\a.length<=1/\b.length<=1:=by
 obtain⟨L,rfl⟩:∃L:List UInt8,lo=⟨L.toArray⟩:=⟨_,(ba_back lo).symm⟩;obtain⟨H,rfl⟩:∃H:List UInt8,hi=⟨H.toArray⟩:=⟨_,(ba_back hi).symm⟩;have hs':spanB L H=true:=hs;have hsp:=hs';unfold spanB at hsp;simp only[Bool.and_eq_true,Bool.or_eq_true]at hsp;obtain⟨⟨hL,hH⟩,ha⟩:=hsp
 have low:∀k,hasB L H k=true->keyL L=true->hasB [] L k=false:=λk h hl=>by
  cases q:hasB [] L k with
  | false=>rfl
  | true=>
    unfold hasB aboveB at h q;simp only[Bool.and_eq_true,Bool.or_eq_true,decide_eq_true_eq]at h q;rcases q.2 with e | e
    · rw[key_ne hl]at e;cases e
    · exact absurd e h.1.2
 have high:∀k,hasB L H k=true->keyL H=true->hasB H [] k=false:=λk h hh=>by
  cases q:hasB H [] k with
  | false=>rfl
  | true=>
    unfold hasB aboveB at h q;simp only[Bool.and_eq_true,Bool.or_eq_true,decide_eq_true_eq]at h q;rcases h.2 with e | e
    · rw[key_ne hh]at e;cases e
    · exact absurd e q.1.2
 have hK:cutKs [⟨L.toArray⟩,⟨H.toArray⟩]=Lib.compact (sortL [L,H]):=rfl;rw[sort_two]at hK;have hN:frzNew scheme 1 ⟨L.toArray⟩ ⟨H.toArray⟩ st0=((cutFold noBytes noBytes (cutKs [⟨L.toArray⟩,⟨H.toArray⟩])).1++[((cutFold noBytes noBytes (cutKs [⟨L.toArray⟩,⟨H.toArray⟩])).2,noBytes)]).map (frzP scheme 1 ⟨L.toArray⟩ ⟨H.toArray⟩):=rfl;rw[hN];cases L with
 | nil=>
   cases H with
   | nil=>
     refine⟨[],[],?_,by simp,by simp,by simp⟩
     have h1:cutKs [⟨([]:List UInt8).toArray⟩,⟨([]:List UInt8).toArray⟩]=[[]]:=by
      have h:Lib.compact ([[],[]]:List (List UInt8))=[[]]:=by kernel_rfl
      rw[hK,if_pos (by simp)];exact h
     rw[h1];simp only[cutFold,List.foldl_cons,List.foldl_nil,cutStep_nil];rfl
   | cons x H=>
     have hk:keyL (x::H)=true:=by rcases hH with e | e;· simp at e
                                  · exact e
     have h1:cutKs [⟨([]:List UInt8).toArray⟩,⟨(x::H).toArray⟩]=[[],x::H]:=by rw[hK,if_pos (by simp)];exact compact_two _ _ (by simp)
     rw[h1];have h2:=cutStep_on (cur:=noBytes) (k:=x::H) (st:=[]) (.inl rfl) hk (by show ([]:List UInt8)<x::H;simp);simp only[cutFold,List.foldl_cons,List.foldl_nil,cutStep_nil,h2,List.nil_append];refine⟨[],[⟨⟨(x::H).toArray⟩,noBytes,1,1,0⟩],?_,?_,by simp,by simp⟩
     · simp[frzP,noBytes]
     · intro s hs
       simp only[List.nil_append,List.mem_singleton]at hs;subst hs;exact⟨rfl,λk h=>high k h hk⟩
 | cons y L=>
   have hl:keyL (y::L)=true:=by rcases hL with e | e;· simp at e
                                · exact e
   have h2:=cutStep_on (cur:=noBytes) (k:=y::L) (st:=[]) (.inl rfl) hl (by show ([]:List UInt8)<y::L;simp);cases H with
   | nil=>
     have h1:cutKs [⟨(y::L).toArray⟩,⟨([]:List UInt8).toArray⟩]=[[],y::L]:=by rw[hK,if_neg (by simp)];exact compact_two _ _ (by simp)
     rw[h1];simp only[cutFold,List.foldl_cons,List.foldl_nil,cutStep_nil,h2,List.nil_append];refine⟨[⟨noBytes,⟨(y::L).toArray⟩,1,1,0⟩],[],?_,?_,by simp,by simp⟩
     · simp[frzP,noBytes]
     · intro s hs
       simp only[List.append_nil,List.mem_singleton]at hs;subst hs;exact⟨rfl,λk h=>low k h hl⟩
   | cons x H=>
     have hk:keyL (x::H)=true:=by rcases hH with e | e;· simp at e
                                  · exact e
     have hlt:(y::L)<(x::H):=by
      unfold aboveB at ha;simpa using ha
     have h1:cutKs [⟨(y::L).toArray⟩,⟨(x::H).toArray⟩]=[y::L,x::H]:=by
      rw[hK,if_pos (List.le_of_lt hlt)];exact compact_two _ _ (λe=>lt_irr _ (e▸hlt))
     have h3:=cutStep_on (cur:=⟨(y::L).toArray⟩) (k:=x::H) (st:=[(noBytes,⟨(y::L).toArray⟩)]) (.inr hl) hk hlt;rw[h1];simp only[cutFold,List.foldl_cons,List.foldl_nil,h2,List.nil_append,h3];refine⟨[⟨noBytes,⟨(y::L).toArray⟩,1,1,0⟩],[⟨⟨(x::H).toArray⟩,noBytes,1,1,0⟩],?_,?_,by simp,by simp⟩
     · simp[frzP,noBytes]
     · intro s hs
       simp only[List.cons_append,List.nil_append,List.mem_cons,List.not_mem_nil,or_false]at hs;rcases hs with rfl | rfl
       · exact⟨rfl,λk h=>low k h hl⟩
       · exact⟨rfl,λk h=>high k h hk⟩
end Go.Proofs.YtmpmggejhnmakaaGreatDoor
