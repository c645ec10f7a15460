/- slices.Sorted(slices.Values(keys)): the keys in their order, in a row of the call's own. -/
import Derived.Test.YtmpmggejhnmakaaGreatDoorShelf
import Derived.Test.YtmpmggejhnmakaaGreatDoorZ02
import Derived.Shelf.SlIter.Sorted
import Derived.Ground.GgzProg
import Derived.RangeFuncBox
import Derived.RangeFuncLeaves
import Derived.Shelf.Abstract
import Derived.WalkKit
import Derived.OwnWalkIn
import Derived.TacticsInMore
import Derived.LoopNIn
import Derived.LoopIn
import Derived.Test.YtmpmggejhnmakaaGreatDoorZ03
import Derived.Laws.ResultCell
import Derived.Laws.Rows
import Derived.Test.YtmpmggejhnmakaaGreatDoorZ01
set_option maxRecDepth 100000
set_option maxHeartbeats 3200000
namespace Go.Proofs
open Go.RowKit Go.Maps Go.Sort Go.Shelf
def Tryz.apSeqZ_ren:Go.Shelf.Ren:=⟨λ| 11=>214 | n=>n,λ| 24=>145 | 26=>9 | 28=>190 | 0=>0 | 33=>31 | 4=>4 | n=>n,λ| n=>n⟩
theorem Tryz.apSeqZ:Go.Proofs.SlLaysZ.n11 Tryz.prog Tryz.apSeqZ_ren:={
 mixed:=by kernel_rfl
 f11:=⟨Tryz.f214.name,by decide,Tryz.func214.trans (congrArg some (by kernel_rfl))⟩
 t0:=Tryz.underlying0
 a0:=Tryz.isAgg0
 z0:=Tryz.sizeOf0
 v0:=Tryz.zeroValue0
 t24:=Tryz.underlying145
 a24:=Tryz.isAgg145
 z24:=Tryz.sizeOf145
 v24:=Tryz.zeroValue145
 t26:=Tryz.underlying9
 a26:=Tryz.isAgg9
 z26:=Tryz.sizeOf9
 v26:=Tryz.zeroValue9
 t28:=Tryz.underlying190
 a28:=Tryz.isAgg190
 z28:=Tryz.sizeOf190
 v28:=Tryz.zeroValue190
 i26:=by kernel_rfl }
end Go.Proofs
namespace Go.Proofs.YtmpmggejhnmakaaGreatDoor
open Go.RowKit Go.Maps Go.Sort Go.Shelf
attribute [local go_sem] Oper.semAt_some
def GivesB (F:Fence)(n:Nat)(P:Program)(g:Nat)(lb:Array Value)(S:List (List UInt8)->Prop)(N:Nat)(w:World):Prop:=
 ∀(l:Nat) (J:List (List UInt8)->World->Prop) (W:World),Below w.heap.size w W->(∀s W',J s W'->Below w.heap.size w W')->
  (∀pre x W1,J pre W1->pre.length<N->YieldAt F (n - 1) P l #[Go.Proofs.encStr x] W1 λe W'=>e= .returned (.bool true)/\J (pre++[x]) W'/\KeepsWalks W1 W')->
  J [] W->
  CallsIn F n P g (#[.func (.yield l) #[] #[]]++lb) W λe W'=>(∃v,e= .returned v)/\∃xs,S xs/\J xs W'
theorem values1_gives (Bs:Nat)(ao:Option Addr)(cap:Nat)(zs:List (List UInt8))(w:World)(hlen:zs.length<=1000000)(hBs:Bs<w.heap.size)
 (hc:w.cell? ⟨Bs,0,none⟩=some (.slice ao zs.length cap)) (hr:zs≠[]->∃b off,ao=some ⟨b,off,none⟩/\b<w.heap.size/\∀j x,zs[j]? =some x->w.cell? ⟨b,off+j,none⟩=some (Go.Proofs.encStr x)):
 GivesB Fence.wide 2 Tryz.prog 175 #[.pointer (some ⟨Bs,0,none⟩)] (λys=>ys=zs) zs.length w:=λl J W hW hJB hY h0=>by
 have hcW:=(hW.cell (p:=⟨Bs,0,none⟩) hBs).trans hc;refine callsIn_of_wp Tryz.func175 rfl trivial ?_ rfl;simp only[Tryz.ntmps175,List.size_toArray,List.length_cons,List.length_nil,Nat.reduceAdd,Nat.reduceSub,Array.replicate_succ,Array.replicate_zero,List.push_toArray,List.append_toArray,List.nil_append,List.cons_append]
 gi_wp2
 gi_loopw [7] (λi wr=>∃k:Nat,k<=zs.length/\i= .int .i64 k/\J (zs.take k) wr) (λi _=>zs.length - (intOf i).toNat)
 case atStart=>exact⟨0,Nat.zero_le _,rfl,h0⟩
 case round=>
  obtain⟨k,hk,rfl,hJs⟩:=hrel;by_cases hlt:k<zs.length
  · obtain⟨x,hx⟩:∃x,zs[k]? =some x:=⟨_,qE hlt⟩
    obtain⟨b,off,rfl,hb,hcell⟩:=hr (by intro e;rw[e]at hlt;simp at hlt);have hcx:=((hJB _ _ hJs).cell (p:=⟨b,off+k,none⟩) hb).trans (hcell k x hx);have hsucc:zs.take (k+1)=zs.take k++[x]:=by rw[List.take_add_one,hx];rfl
    obtain⟨fn,tmps,assign,body,hy,hR⟩:=hY _ x wr hJs (by rw[List.length_take];omega);have i0:(0:Int)<=(k:Int):=by omega
    have i1:(k:Int)<(zs.length:Int):=by omega
    clear hcell
    gi_wp2
    refine hR.mono ?_;rintro e W3 ⟨rfl,hJ3,hk3⟩
    gi_wp2
    go_roundw
    case rel=>exact⟨k+1,by omega,by simp,by rw[hsucc];exact hJ3⟩
    case measure=>simp[intOf];omega
  · obtain rfl:k=zs.length:=by omega
    rw[List.take_length]at hJs
    gi_wp2
    go_end0
    exact⟨⟨_,rfl⟩,zs,rfl,hJs⟩
theorem appendSeq_calls (g:Nat)(lb:Array Value)(eg:∀args w,(callFunc g args).run Tryz.prog w= .ok (.enter g args) w)
 (S:List (List UInt8)->Prop) (N:Nat) (hN:N<=maxLen) (hNb:N * 16<=140737488355328) (w:World) (hseq:GivesB Fence.wide 2 Tryz.prog g lb S N w):
 CallsIn Fence.wide 3 Tryz.prog 214 #[.slice none 0 0,.func (.func g) #[] lb] w λe w'=>∃(v:Value) (ss:List (List UInt8)),e= .returned v/\S ss/\w'.ownsRow w.heap.size 9 1 v ss.length (ss.map Go.Proofs.encStr)/\Below w.heap.size w w':=by
 refine callsIn_of_wp_marks Tryz.func214 rfl trivial ?_ rfl;simp only[Tryz.ntmps214,List.size_toArray,List.length_cons,List.length_nil,Nat.reduceAdd,Nat.reduceSub,Array.replicate_succ,Array.replicate_zero,List.push_toArray,List.append_toArray,List.nil_append,List.cons_append]
 gi_wp2
 refine wpIn_rangeFunc ?_;intro fn hfn;obtain⟨W0,hW0⟩:∃W0,w.alloc (.cells #[.slice none 0 0] 145)=W0:=⟨_,rfl⟩;have hs0:W0.heap.size=w.heap.size+1:=by rw[<- hW0];simp
 have hv0:W0.heap[w.heap.size]? =some (.cells #[.slice none 0 0] 145 (0,0)):=by rw[<- hW0];exact World.alloc_heap_new w _
 have hb0:Below w.heap.size w W0:=by rw[<- hW0];exact (qK _ w).alloc (qL _) _
 rw[hW0];obtain⟨W1,hW1⟩:∃W1,(W0.alloc (.deferred (some []))).alloc (.loop (AnyZ.apRec Tryz.apSeqZ_ren fn (.func (.func g) #[] lb) w.heap.size W0.heap.size .ready none))=W1:=⟨_,rfl⟩
 have hold:∀k,k<W0.heap.size->W1.heap[k]? =W0.heap[k]? :=λk hk=>by
  rw[<- hW1];exact (Below.heap_alloc _ _ k (by simp;omega)).trans (Below.heap_alloc _ _ k hk)
 have hb1:Below w.heap.size w W1:=by rw[<- hW1];exact (hb0.alloc hb0.size _).alloc (by have:=hb0.size;simp;omega) _
 have hs1:W1.heap.size=W0.heap.size+2:=by rw[<- hW1];simp
 have hM:AnyZ.ApAt Tryz.apSeqZ_ren w fn (.func (.func g) #[] lb) w.heap.size (W0.heap.size+1) W0.heap.size [] W1:=
  ⟨⟨_,(hold w.heap.size (by omega)).trans hv0,⟨rfl,.inl ⟨rfl,rfl⟩⟩,by simp⟩,
   by rw[<- hW1];have:=World.alloc_heap_new (W0.alloc (.deferred (some []))) (.loop (AnyZ.apRec Tryz.apSeqZ_ren fn (.func (.func g) #[] lb) w.heap.size W0.heap.size .ready none));rwa [World.size_alloc]at this,
   by rw[<- hW1];exact (Below.heap_alloc _ _ _ (by simp)).trans (World.alloc_heap_new W0 _),hb1⟩
 refine⟨W0.heap.size+1,[{ target:= .collected W0.heap.size,args:= #[] }],W1,{ target:= .fn (.func g) lb,args:= #[.func (.yield (W0.heap.size+1)) #[] #[]] },W1,g,
  #[.func (.yield (W0.heap.size+1)) #[] #[]]++lb,W1,?_,?_,?_,?_,λ_=>(by decide),?_⟩
 · rw[<- hW1];exact run_enterLoop_outer _ _ _ _ _
 · simp[resolve,go_sem]
 · intro f' hf';trivial
 · simp[invoke,go_sem,eg]
 · refine (hseq (W0.heap.size+1) (AnyZ.ApAt Tryz.apSeqZ_ren w fn (.func (.func g) #[] lb) w.heap.size (W0.heap.size+1) W0.heap.size) W1 hb1 (λs W' h=>h.below)
    (λpre x W hJ hl=>AnyZ.apYield { Tryz.apSeqZ with } Fence.wide 1 w fn hfn _ w.heap.size (W0.heap.size+1) W0.heap.size (by omega) (by omega) (by omega) (qL _) (by omega) N hN hNb pre x W hJ hl) hM).mono ?_
   rintro e W2 ⟨⟨v0,rfl⟩,ss,hS,h2⟩;obtain⟨v,hv,hrow,hnil⟩:=h2.box;have hend:=run_endLoop (P:=Tryz.prog) h2.L (by simp[AnyZ.apRec]);obtain⟨W3,hW3⟩:∃W3,W2.putObj (W0.heap.size+1) (.loop { AnyZ.apRec Tryz.apSeqZ_ren fn (.func (.func g) #[] lb) w.heap.size W0.heap.size .ready none with state:= .exhausted })=W3:=⟨_,rfl⟩;rw[hW3]at hend;have hg3:W2.grownBy W3 (some (W0.heap.size+1)):=by rw[<- hW3];exact grownBy_putObj_a _ _ _
   have hv3:W3.heap[w.heap.size]? =some (.cells #[v] 145 (0,0)):=by rw[<- hW3];exact (World.putObj_heap_other (by omega)).trans hv
   have hK3:W3.heap[W0.heap.size]? =some (.deferred (some [])):=by rw[<- hW3];exact (World.putObj_heap_other (by omega)).trans h2.K
   have hrow3:=hrow.kept hg3 (ownsRow_ne_a hrow h2.L (λcur e=>by cases e));have hb3:Below w.heap.size w W3:=h2.below.grown hg3 h2.below.size (λk e=>by cases e;omega);obtain⟨hc3,hf3⟩:=cell_of_box_a hv3;clear hW3;refine⟨none,W3,hend,?_⟩
   gi_wp2
   rw[<- hs0];refine⟨by simp,.inl ⟨_,_,rfl,run_takeDeferred hK3,?_⟩⟩;exact⟨_,results_tmp rfl _ _ _,v,ss,rfl,hS,hrow3.kept (grownBy_putObj_a _ _ _) (ownsRow_ne_a hrow3 hK3 (λcur e=>by cases e)),hb3.grown (grownBy_putObj_a _ _ _) hb3.size (λk e=>by cases e;omega)⟩
theorem collect_calls (g:Nat)(lb:Array Value)(eg:∀args w,(callFunc g args).run Tryz.prog w= .ok (.enter g args) w)
 (S:List (List UInt8)->Prop) (N:Nat) (hN:N<=maxLen) (hNb:N * 16<=140737488355328) (w:World) (hseq:GivesB Fence.wide 2 Tryz.prog g lb S N w):
 Calls Tryz.prog 174 #[.func (.func g) #[] lb] w λe w'=>∃(v:Value) (ss:List (List UInt8)),e= .returned v/\S ss/\w'.ownsRow w.heap.size 9 1 v ss.length (ss.map Go.Proofs.encStr)/\Below w.heap.size w w':=by
 have HC:=qA (callsIn_wide.1 (appendSeq_calls g lb eg S N hN hNb w hseq));clear hseq;go_enter Tryz.func174,Tryz.ntmps174;go_wp2_with fail;refine HC.out.mono ?_;rintro e w' ⟨v,ss,rfl,hS,hrow,hb⟩;have H1:=qA hS;have H2:=qA hrow;have H3:=qA hb;clear hS hrow hb;go_wp2_with fail;go_ret;exact⟨v,ss,rfl,H1.out,H2.out,H3.out⟩
end Go.Proofs.YtmpmggejhnmakaaGreatDoor
/- slices.Sorted at slices.Values: the texts of a row in their order, in a row of the call's own. -/
namespace Go.Proofs.YtmpmggejhnmakaaGreatDoor
open Go.RowKit Go.Maps Go.Sort Go.Shelf
def sortL (zs:List (List UInt8)):List (List UInt8):=zs.mergeSort (λx y=>decide (x<=y))
theorem sorted_calls (g:Nat)(lb:Array Value)(eg:∀args w,(callFunc g args).run Tryz.prog w= .ok (.enter g args) w)
 (zs:List (List UInt8)) (hN:zs.length<=1000000) (w:World) (hseq:GivesB Fence.wide 2 Tryz.prog g lb (λss=>ss=zs) zs.length w):
 Calls Tryz.prog 116 #[.func (.func g) #[] lb] w λe w'=>∃v:Value,e= .returned v/\w'.ownsRow w.heap.size 9 1 v zs.length ((sortL zs).map Go.Proofs.encStr)/\Ext w w':=by
 have HC:=qA (collect_calls g lb eg (λss=>ss=zs) zs.length (by unfold maxLen;omega) (by omega) w hseq);clear hseq;go_enter Tryz.func116,Tryz.ntmps116;go_wp2_with fail;refine HC.out.mono ?_;rintro e W ⟨v,ss,rfl,rfl,hrow,hb⟩;rcases hrow.2 with ⟨rfl,hz⟩ | ⟨gb,cap,cur,rfl,hbase,hgb,r1,r2,r3,r4⟩
 · have hss:ss=[]:=List.eq_nil_of_length_eq_zero hz
   subst hss;have H3:=qA hb;have H2:=qA hrow;clear hb hrow hz HC;go_wp2_with (go_at_call 157;refine (Tryz.slices_Sort_string_none none 0 W).mono ?_;rintro e w' ⟨rfl,rfl⟩);go_ret;exact⟨.slice none 0 0,rfl,by simpa [sortL] using H2.out,H3.out⟩
 · have hH:Holds Go.Proofs.encStr W gb 0 ss.toArray:=holds_of_block hgb (by simpa using r4)
   have hgl:gb<W.heap.size:=(Array.getElem?_eq_some_iff.1 hgb).1;have cS:=Tryz.slices_Sort_string gb 0 cap ss W hH hgl (by omega);have HS:=qA cS;have H1:=qA hrow;have H2:=qA hgb;have H3:=qA hb;have H4:=qA r4;clear cS hrow hgb hb r4 HC hH;go_wp2_with fail;refine HS.out.mono ?_;rintro e w' ⟨rfl,nn,os,rfl⟩;go_wp2_with fail;go_ret;exact⟨_,rfl,ownsRow_sorted (by simp) hbase H2.out r1 r2 r3,H3.out.grown (grownBy_sorted _) H3.out.size (λj hj=>by cases hj;exact hbase)⟩
theorem values_calls (ao:Option Addr)(n c:Nat)(w:World):
 Calls Tryz.prog 117 #[.slice ao n c] w λe w'=>e= .returned (.func (.func 175) #[] #[.pointer (some ⟨w.heap.size,0,none⟩)])/\w'=w.alloc (.cells #[.slice ao n c] 145):=by
 go_enter Tryz.func117,Tryz.ntmps117;go_wp2_with fail;go_ret;exact⟨rfl,rfl⟩
def bytesL (l:List ByteArray):List (List UInt8):=l.map λs=>s.data.toList
theorem sortedOf_calls (l:List ByteArray)(ao:Option Addr)(cap:Nat)(w:World)(hl:l.length<=1000000)(hr:Rows 1 encStr w.heap.size w ao l):
 Calls Tryz.prog 116 #[.func (.func 175) #[] #[.pointer (some ⟨w.heap.size,0,none⟩)]] (w.alloc (.cells #[.slice ao l.length cap] 145)) λe w'=>∃v:Value,e= .returned v/\w'.ownsRow w.heap.size 9 1 v l.length ((sortL (bytesL l)).map Go.Proofs.encStr)/\Ext (w.alloc (.cells #[.slice ao l.length cap] 145)) w':=by
 have hlen:(bytesL l).length=l.length:=by simp[bytesL]
 have hx:Ext w (w.alloc (.cells #[.slice ao l.length cap] 145)):=(qK _ w).alloc (qL _) _;have hB:=Blk.new w [.slice ao l.length cap] 145
 have hseq:=values1_gives w.heap.size ao cap (bytesL l) (w.alloc (.cells #[.slice ao l.length cap] 145)) (by omega) hB.lt (by rw[hlen];exact hB.cell 0) (by
  intro hne;obtain⟨b,off,rfl,hb,hc⟩:=hr (by intro e;subst e;exact hne rfl);refine⟨b,off,rfl,by have:=hx.size;omega,λj x hj=>?_⟩;unfold bytesL at hj;rw[List.getElem?_map]at hj;cases hlj:l[j]? with
  | none=>rw[hlj]at hj;cases hj
  | some s=>
    rw[hlj]at hj
    have:=Option.some.inj hj
    subst this;have h:=hc j s hlj 0 (.string s) rfl;rw[Nat.mul_one,Nat.add_zero]at h
    exact (hx.cell (p:=⟨b,off+j,none⟩) hb).trans h)
 refine (sorted_calls _ _ (enters_of Tryz.func175 (by kernel_rfl) rfl) (bytesL l) (by omega) _ hseq).mono ?_;rintro e w' ⟨v,he,ho,hx'⟩;rw[hlen]at ho;exact⟨v,he,ownsRow_base_a ho (by simp),hx'⟩
end Go.Proofs.YtmpmggejhnmakaaGreatDoor
/- Of where there is no table; Busy, over whatever Of answers. -/
namespace Go.Proofs.YtmpmggejhnmakaaGreatDoor
open Go.RowKit
theorem res_row_tmp {P:Program}{fn:Func}{p u:Tmp}{ty:TypeId}(h:fn.results= #[.cell p ty,.tmp u])(tmps:Array Value)(w:World)(g:Nat)(t:TypeId)(cs:List Value)(d:TypeDesc)
 (hp:tmps.getD p undef= .pointer (some ⟨g,0,none⟩)) (hg:Blk w g cs t)
 (hu:P.underlying ty=some d) (hd:(match d with | .struct _ | .array _ _=>true | _=>false)=true) (hi:(P.info? ty).map (·.size)=some cs.toArray.size):
 (results fn tmps).run P w= .ok (.tuple #[.agg cs.toArray,tmps.getD u undef]) w:=by
 rw[results_cell_tmp h,hp]
 have:=run_loadVar_row (P:=P) w g t ty cs.toArray (0,0) d hg hu hd hi
 simp[asAddr,this,Result.andThen]
def HoldV.zero:HoldV:=⟨⟨#[]⟩,0,0,none,0,0,none,0,0,false,⟨#[]⟩⟩
def busyL (th:List UInt8->Bool)(nm:List UInt8->Int×Int)(c n:Int):List (List UInt8)->Int×Int×Bool
 | []=>(0,0,false)
 | k::ks=>if (th k&& !((nm k).1==c&&(nm k).2==n))=true then ((nm k).1,(nm k).2,true) else busyL th nm c n ks
theorem busyL_drop (th:List UInt8->Bool)(nm:List UInt8->Int×Int)(c n:Int)(l:List (List UInt8))(k:Nat)(x:List UInt8)(h:l[k]? =some x):
 busyL th nm c n (l.drop k)=if (th x&& !((nm x).1==c&&(nm x).2==n))=true then ((nm x).1,(nm x).2,true) else busyL th nm c n (l.drop (k+1)):=by
 obtain⟨hk,hx⟩:=qF.1 h;rw[List.drop_eq_getElem_cons hk,hx];rfl
theorem busy_calls (th:List UInt8->Bool)(nm:List UInt8->Int×Int)(p:Option Addr)(c n:Int)(l:List ByteArray)(ao:Option Addr)(cap:Nat)(w:World)(hl:l.length<=1000000)(hr:Rows 1 encStr w.heap.size w ao l)
 (hof:∀(k:ByteArray) W,Ext w W->Calls Tryz.prog 158 #[.pointer p,.string k] W λe w'=>∃v:HoldV,e= .returned (.tuple #[.agg (encHV v).toArray,.bool (th k.data.toList)])/\(th k.data.toList=true->nm k.data.toList=(v.cl,v.nm))/\Ext W w'):
 Calls Tryz.prog 83 #[.pointer p,.agg #[.int .i64 c,.int .i64 n],.slice ao l.length cap] w λe w'=>(∃r,r=busyL th nm c n (sortL (bytesL l))/\e= .returned (.tuple #[.agg #[.int .i64 r.1,.int .i64 r.2.1],.bool r.2.2]))/\Ext w w':=by
 have hw2:∃w2,w2=(w.alloc (.cells #[.int .i64 c,.int .i64 n] 35)).alloc (.cells #[.int .i64 0,.int .i64 0] 35)/\Ext w w2/\Blk w2 w.heap.size [.int .i64 c,.int .i64 n] 35/\Blk w2 (w.heap.size+1) [.int .i64 0,.int .i64 0] 35:=by
  refine⟨_,rfl,((qK _ w).alloc (qL _) _).alloc (by simp) _,(Blk.new w _ _).alloc _,?_⟩
  have:=Blk.new (w.alloc (.cells #[.int .i64 c,.int .i64 n] 35)) [.int .i64 0,.int .i64 0] 35
  rwa [World.size_alloc]at this
 obtain⟨w2,e2,x2,b1,b2⟩:=hw2;have HV:=qA (λW=>values_calls ao l.length cap W);have HS:=qA (λW (hW:Ext w W)=>sortedOf_calls l ao cap W hl ((hr.ext hW).mono hW.size));have HO:=qA hof;have X2:=qA x2;have B1:=qA b1;have B2:=qA b2;clear hr hof x2 b1 b2;go_enter Tryz.func83,Tryz.ntmps83;go_wp2_with fail;rw[<- e2];clear e2;refine (HV.out w2).mono ?_;rintro e w' ⟨rfl,rfl⟩;go_wp2_with fail;refine (HS.out w2 X2.out).mono ?_;rintro e w3 ⟨v,rfl,hown,hx3⟩;have X3:=qA (qJ ((qK _ w2).alloc (qL _) _) hx3);have hsl:(sortL (bytesL l)).length=l.length:=by unfold sortL bytesL;rw[List.length_mergeSort,List.length_map]
 obtain⟨zs,hzs⟩:∃zs,sortL (bytesL l)=zs:=⟨_,rfl⟩;rw[hzs]at hown hsl;have HZS:=qA hzs;clear hzs
 obtain⟨sp,sc,rfl,hrow⟩:∃sp sc,v= .slice sp l.length sc/\(zs≠[]->∃b,sp=some ⟨b,0,none⟩/\b<w3.heap.size/\∀(j:Nat) (x:List UInt8),zs[j]? =some x->w3.cell? ⟨b,j,none⟩=some (Proofs.encStr x)):=by
  rcases hown.2 with ⟨rfl,hz⟩ | ⟨g,c',cur,rfl,_,hg,h1,h2,h3,h4⟩
  · exact⟨none,0,by rw[hz],λhne=>absurd (List.eq_nil_of_length_eq_zero (by omega)) hne⟩
  · refine⟨_,c',rfl,λ_=>⟨g,rfl,lt_of_block hg,λj x hj=>?_⟩⟩
    rw[cell_of_row w3 g j _ _ _ hg]
    have:(cur.toList.take (l.length * 1))[j]? =some (Proofs.encStr x):=by rw[h4,List.getElem?_map,hj];rfl
    rw[List.getElem?_take]at this
    split at this
    · simpa using this
    · cases this
 have HROW:=qA hrow;have HO2:=qA (λk W (hW:Ext w3 W)=>HO.out k W (qJ X2.out (qJ X3.out hW)));clear hrow hown hx3 HS HV HO;have hB1:=B1.out.lt;have hB2:=B2.out.lt;have hsz3:=X3.out.size
 have hcells:∀W,Ext w3 W->W.cell? ⟨w.heap.size,0,none⟩=some (.int .i64 c)/\W.cell? ⟨w.heap.size,1,none⟩=some (.int .i64 n)/\Blk W (w.heap.size+1) [.int .i64 0,.int .i64 0] 35/\Ext w W:=λW hW=>by
  have hb:=B1.out.ext' (qJ X3.out hW);exact⟨hb.cell 0,hb.cell 1,B2.out.ext' (qJ X3.out hW),qJ X2.out (qJ X3.out hW)⟩
 have HCC:=qA hcells;have h01:w.heap.size+1<w3.heap.size:=by have:=hB2;have:=X3.out.size;omega
 clear hcells X2 X3 B1 B2 hB1 hB2 hsz3;go_wp2_with fail;have hge:w.heap.size<=w.heap.size:=qL _;generalize hN1:w.heap.size+1=N1 at HCC h01 ⊢;have hge1:w.heap.size<=N1:=by omega
 have hlt01:w.heap.size<N1:=by omega
 clear hN1;generalize w.heap.size=N0 at HCC hge hlt01 ⊢;go_loopw [16] (λi wr=>∃(k:Nat),k<=l.length/\i= .int .i64 k/\busyL th nm c n zs=busyL th nm c n (zs.drop k)/\Ext w3 wr) (λi _=>l.length - (intOf i).toNat)
 case atStart=>exact⟨0,by omega,rfl,rfl,qK _ _⟩
 case round=>
  obtain⟨k,hk,rfl,hbu,hx⟩:=hrel;have K1:=qA hbu;have K2:=qA hx;clear hbu hx;by_cases hlt:k<l.length
  · obtain⟨x,hx⟩:∃x,zs[k]? =some x:=⟨_,qE (by omega)⟩
    obtain⟨b,rfl,hb,hcell⟩:=HROW.out (by intro e;rw[e]at hx;simp at hx);have hcx:=(K2.out.cell (p:=⟨b,k,none⟩) hb).trans (hcell k x hx);have hdrop:=busyL_drop th nm c n zs k x hx;have HD:=qA hdrop;have hof:Calls Tryz.prog 158 #[.pointer p,.string ⟨x.toArray⟩] wr λe w'=>∃v:HoldV,e= .returned (.tuple #[.agg (encHV v).toArray,.bool (th x)])/\(th x=true->nm x=(v.cl,v.nm))/\Ext wr w':=HO2.out ⟨x.toArray⟩ wr K2.out;have HOF:=qA hof;have i0:(0:Int)<=(k:Int):=by omega
    have i1:(k:Int)<(l.length:Int):=by omega
    clear hcell hx hdrop hof;go_wp2_with fail;refine HOF.out.mono ?_;rintro e w4 ⟨v,rfl,hnm,hx4⟩;obtain⟨a0,a1,a2,a3⟩:=HCC.out w4 (qJ K2.out hx4);have X4:=qA a3;have A2:=qA a2;have K4:=qA (qJ K2.out hx4);have hsz4:=hx4.size;have hlt4:=a2.lt;have f0:=a2.free 0;have f1:=a2.free 1;have k0:=a2.cell 0;have k1:=a2.cell 1;simp only[qB,qC]at k0 k1;have HNM:=qA hnm;clear hx4 a2 a3 hnm HOF;obtain⟨key,cl,vn,xo,xn,xc,yo,yn,yc,put,value⟩:=v;simp only[encHV];have hsz3:=K4.out.size;have hl0:N0<w4.heap.size:=by omega
    have hl1:N1<w4.heap.size:=by omega
    have hne0:N0≠w4.heap.size:=by omega
    have hne1:N1≠w4.heap.size:=by omega
    cases hth:th x
    · have hd2:busyL th nm c n (zs.drop k)=busyL th nm c n (zs.drop (k+1)):=by rw[HD.out,hth];rfl
      have HD2:=qA hd2;have HT:=qA hth;clear hd2 hth;go_wp2_with fail;go_roundw
      case rel=>exact⟨k+1,by omega,by go_num,K1.out.trans HD2.out,K4.out.alloc K4.out.size _⟩
      case measure=>simp[intOf];omega
    · have hnx:=HNM.out hth
      simp only at hnx;cases hc1:(cl==c)<;>cases hc2:(vn==n)
      case true.true=>
       have hd2:busyL th nm c n (zs.drop k)=busyL th nm c n (zs.drop (k+1)):=by rw[HD.out,hth,hnx];simp only[hc1,hc2];rfl
       have HD2:=qA hd2;have HT:=qA hth;clear hd2 hth hnx;go_wp2_with fail;go_roundw
       case rel=>exact⟨k+1,by omega,by go_num,K1.out.trans HD2.out,K4.out.alloc K4.out.size _⟩
       case measure=>simp[intOf];omega
      all_goals
       have hd2:busyL th nm c n (zs.drop k)=(cl,vn,true):=by rw[HD.out,hth,hnx];simp only[hc1,hc2];rfl
       have HD2:=qA hd2;have HT:=qA hth;clear hd2 hth hnx;go_wp2_with fail
       (try simp only[Exit.inBlock,Exit.then])
       refine bodyPost_ret (res_row_tmp rfl _ _ N1 35 [.int .i64 cl,.int .i64 vn] _ rfl (((A2.out.set 0 _).set 1 _).alloc _) Tryz.underlying35 rfl (by kernel_rfl)) rfl ?_;have hxe:=(X4.out.setCell (p:=⟨N1,0,none⟩) hge1 (.int .i64 cl)).setCell (p:=⟨N1,1,none⟩) hge1 (.int .i64 vn);exact⟨by rw[HZS.out,K1.out,HD2.out];first | rfl | exact⟨_,rfl,rfl⟩,hxe.alloc hxe.size _⟩
  · obtain rfl:k=l.length:=by omega
    obtain⟨a0,a1,a2,a3⟩:=HCC.out wr K2.out;have f0:=a2.free 0;have f1:=a2.free 1;have k0:=a2.cell 0;have k1:=a2.cell 1;simp only[qB,qC]at k0 k1;have hlt4:=a2.lt;have k0:=a2.cell 0;have k1:=a2.cell 1;simp only[qB,qC]at k0 k1;have A2:=qA a2;have X4:=qA a3;have hz:busyL th nm c n zs=(0,0,false):=by rw[K1.out,List.drop_of_length_le (by omega)];rfl
    have HZ:=qA hz;clear a2 a3 hz;go_wp2_with fail
    (try simp only[Exit.inBlock,Exit.then])
    refine bodyPost_ret (res_row_tmp rfl _ _ N1 35 [.int .i64 0,.int .i64 0] _ rfl ((A2.out.set 0 _).set 1 _) Tryz.underlying35 rfl (by kernel_rfl)) rfl ?_;exact⟨by rw[HZS.out,HZ.out];first | rfl | exact⟨_,rfl,rfl⟩,(X4.out.setCell (p:=⟨N1,0,none⟩) hge1 _).setCell (p:=⟨N1,1,none⟩) hge1 _⟩
end Go.Proofs.YtmpmggejhnmakaaGreatDoor
