/- A deed over a tract: does, at the kinds that TractHeld reaches. -/
import Derived.Test.YtmpmggejhnmakaaGreatDoorZ38
import Derived.IntWalk
import Derived.Test.YtmpmggejhnmakaaGreatDoorZ01
set_option maxRecDepth 100000
set_option maxHeartbeats 3200000
namespace Go.Proofs.YtmpmggejhnmakaaGreatDoor
open Go.RowKit
def pickD (x:Int):Int:=if x.tmod 9<0 then x.tmod 9+9 else x.tmod 9
theorem pickD_bd (x:Int):0<=pickD x/\pickD x<9:=by
 have hm1:=Int.tmod_lt_of_pos x (show 0<(9:Int) by omega)
 have hm0: -9<x.tmod 9:=by
  have h:=Int.lt_tmod_of_pos x (show 0<(9:Int) by omega);omega
 unfold pickD
 split<;>omega
theorem pickN_calls (x n:Int)(w:World)(hn:n=9):Calls Tryz.prog 12 #[.int .i64 x,.int .i64 n] w λe w'=>e= .returned (.int .i64 (pickD x))/\w=w':=by
 have hn0:1<=n:=by omega
 have hn1:n<=1000000:=by omega
 have hp:pickD x=if x.tmod n<0 then x.tmod n+n else x.tmod n:=by rw[hn];rfl
 have HP:=qA hp;clear hp hn;have hm1:=Int.tmod_lt_of_pos x (show 0<n by omega)
 have hm0: -n<x.tmod n:=by
  have h:=Int.lt_tmod_of_pos x (show 0<n by omega);omega
 go_enter Tryz.func12,Tryz.ntmps12
 go_wp2
 all_goals go_ret
 · exact⟨ret_int (by rw[HP.out,if_pos (by omega)]),rfl⟩
 · exact⟨ret_int (by rw[HP.out,if_neg (by omega)]),rfl⟩
structure DeedZ where
 kind:Int
 cl:Int
 nm:Int
 ep:Int
 ao:Option Addr
 ac:Nat
 acts:List ActD
 commit:Bool
 scheme:Int
 lo:ByteArray
 hi:ByteArray
 bo:Option Addr
 bc:Nat
 bytes:List UInt8
def encDeed (z:DeedZ):List Value:=[.int .i64 z.kind,.int .i64 z.cl,.int .i64 z.nm,.int .i64 z.ep,.slice z.ao z.acts.length z.ac,.bool z.commit,.int .i64 z.scheme,.string z.lo,.string z.hi,.slice z.bo z.bytes.length z.bc]
def doesD (z:DeedZ)(d:TrD):Int×TrD:=
 if pickD z.kind=2 then (finE z.cl z.nm z.commit d,finD z.cl z.nm z.commit d)
 else if pickD z.kind=3 then ((frzD z.scheme z.lo z.hi z.ep d).2.1,(frzD z.scheme z.lo z.hi z.ep d).2.2)
 else if pickD z.kind=4 then ((beforeD z.scheme true d.ended).1,thawD z.scheme d)
 else prepD z.cl z.nm z.ep z.acts d
theorem does_calls {B:Nat}(k:TrK)(d:TrD)(z:DeedZ)(w:World)(hv:LV B w)(hB:B<=w.heap.size)(T:TrIs w k d)(hnr:NRows 4 encAct k.owns w z.ao z.acts)(hl:z.acts.length<=1000)(hok:∀a∈z.acts,a.ok)(hks:∀a∈z.acts,a.key.size<=140737488351232)
 (hc: -9223372036854775808<=z.cl/\z.cl<=9223372036854775807) (hlo:z.lo.size<=1000) (hhi:z.hi.size<=1000) (hfew:d.parts.length<=990) (h4:pickD z.kind<=4):
 Calls Tryz.prog 15 #[.pointer (some ⟨k.tb,0,none⟩),.agg (encDeed z).toArray] w λe w'=>e= .returned (.int .i64 (doesD z d).1)/\TrTo k (doesD z d).2 w w':=by
 obtain⟨w1,hw1⟩:∃w1,w1=w.alloc (.cells (encDeed z).toArray 39):=⟨_,rfl⟩;have hx1:Ext w w1:=by rw[hw1];exact (qK _ w).alloc (qL _) _
 have hb1:Blk w1 w.heap.size (encDeed z) 39:=by rw[hw1];exact Blk.new w _ _
 obtain⟨p,hp⟩:∃p,p=pickD z.kind:=⟨_,rfl⟩;have hbd:=pickD_bd z.kind;have FIN:=qA (finish_calls k d z.cl z.nm z.commit w1 (T.ext hx1));have FRZ:=qA (freeze_calls k d z.scheme z.lo z.hi z.ep w1 (T.ext hx1) hlo hhi hfew);have THW:=qA (thaw_calls k d z.scheme w1 (T.ext hx1));have PRE:=qA (prepare_calls k d z.cl z.nm z.ep z.acts z.ao z.ac w1 (hv.ext hx1) (qM hB hx1.size) (T.ext hx1) hl hok (hnr.ext hx1) hks hc);have PK:=qA (pickN_calls z.kind 9 w1 rfl);rw[<- hp]at hbd h4 PK;have HP:=qA hp;have X1:=qA hx1;have W1:=qA hw1;have h0:=hb1.cell 0;have h1:=hb1.cell 1;have h2:=hb1.cell 2;have h3:=hb1.cell 3;have h4c:=hb1.cell 4;have h5:=hb1.cell 5;have h6:=hb1.cell 6;have h7:=hb1.cell 7;have h8:=hb1.cell 8
 have HD:Hid (doesD z d=if p=2 then (finE z.cl z.nm z.commit d,finD z.cl z.nm z.commit d)
  else if p=3 then ((frzD z.scheme z.lo z.hi z.ep d).2.1,(frzD z.scheme z.lo z.hi z.ep d).2.2)
  else if p=4 then ((beforeD z.scheme true d.ended).1,thawD z.scheme d)
  else prepD z.cl z.nm z.ep z.acts d):=qA (by rw[hp];rfl)
 rw[HD.out];clear HD hp hx1 hw1 hb1 hv hB T hnr hok hks hlo hhi hc hfew HP;obtain⟨kd,cl,nm,ep,zo,zc,acts,cm,sch,lo,hi,bo,bc,bytes⟩:=z;simp only[encDeed,qB,qC]at h0 h1 h2 h3 h4c h5 h6 h7 h8 FIN FRZ THW PRE PK W1 ⊢;rcases (by omega:p=0\/p=1\/p=2\/p=3\/p=4) with rfl | rfl | rfl | rfl | rfl
 all_goals
  go_enter Tryz.func15,Tryz.ntmps15;go_upto_region 1 with fail;rw[<- W1.out];clear W1 hbd h4;go_wp2_with fail;refine PK.out.mono ?_;rintro e w' ⟨rfl,rfl⟩;go_wp2_with fail
 · refine PRE.out.mono ?_
   rintro e w2 ⟨rv,n1,n2,rfl,ht⟩;have HT:=qA ht;clear ht;go_wp2_with fail;go_ret;exact⟨rfl,(HT.out.pre X1.out).post ((qK _ _).alloc (qL _) _)⟩
 · refine PRE.out.mono ?_
   rintro e w2 ⟨rv,n1,n2,rfl,ht⟩;have HT:=qA ht;clear ht;go_wp2_with fail;go_ret;exact⟨rfl,(HT.out.pre X1.out).post ((qK _ _).alloc (qL _) _)⟩
 · refine FIN.out.mono ?_
   rintro e w2 ⟨rfl,ht⟩;have HT:=qA ht;clear ht;go_wp2_with fail;go_ret;exact⟨rfl,HT.out.pre X1.out⟩
 · refine FRZ.out.mono ?_
   rintro e w2 ⟨u,rfl,ho,hj,ht⟩;obtain⟨uo,uc,rfl⟩:=own_slice ho;have HT:=qA ht;clear ht ho hj;go_wp2_with fail;go_ret;exact⟨rfl,HT.out.pre X1.out⟩
 · refine THW.out.mono ?_
   rintro e w2 ⟨rfl,ht⟩;have HT:=qA ht;clear ht;go_wp2_with fail;go_ret;exact⟨rfl,HT.out.pre X1.out⟩
end Go.Proofs.YtmpmggejhnmakaaGreatDoor
/- TractHeld: the plain law of rows and holds of one key. -/
namespace Go.Proofs.YtmpmggejhnmakaaGreatDoor
def mineR (k:List UInt8)(l:List RowD):List RowD:=l.filter λr=>decide (rkey r=k)
def mineH (k:List UInt8)(l:List HoldD):List HoldD:=l.filter λr=>decide (dkey r=k)
theorem withGo_mineT (x:RowD)(k:List UInt8):∀l,mineR k (withGo x true l)=if rkey x=k then [] else mineR k l
 | []=>by unfold mineR;simp[withGo]
 | d::l=>by
   have ih:=withGo_mineT x k l;unfold mineR at ih ⊢;rw[withGo,List.filter_append,ih];by_cases h2:rkey x=k
   · simp only[h2,if_true,List.append_nil]
     split<;>simp_all
   · simp only[h2,if_false]
     by_cases h1:rkey d=rkey x
     · simp[h1,h2]
     · rw[if_neg h1,List.filter_cons,List.filter_cons]
       split<;>simp
theorem withGo_mine (x:RowD)(k:List UInt8):∀l,mineR k (withGo x false l)=if rkey x=k then [x] else mineR k l
 | []=>by
   unfold mineR;by_cases h2:rkey x=k<;>simp[withGo,h2]
 | d::l=>by
   have ih:=withGo_mine x k l;have it:=withGo_mineT x k (d::l);by_cases h1:rkey d<rkey x
   · rw[withGo,if_pos h1]
     unfold mineR at ih ⊢;rw[List.filter_cons,ih,List.filter_cons];by_cases h2:rkey x=k
     · rw[if_pos h2,if_pos h2,if_neg (by simp;intro e;rw[e,h2]at h1;exact lt_irr _ h1)]
     · rw[if_neg h2,if_neg h2]
   · rw[withGo,if_neg h1]
     rw[withGo]at it;unfold mineR at it ⊢;rw[List.filter_cons,it];by_cases h2:rkey x=k<;>simp[h2]
theorem putR_mine {x:RowD}{l:List RowD}(h:RiseR l)(k:List UInt8):mineR k (putR x l)=if rkey x=k then [x] else mineR k l:=by
 rw[<- with_put h];exact withGo_mine x k l
theorem mineH_one {k:List UInt8}:∀{l:List HoldD},RiseD l->(mineH k l).length<=1
 | [],_=>by simp[mineH]
 | d::l,h=>by
   have hp:=List.pairwise_cons.1 h;have ih:=mineH_one (k:=k) hp.2;unfold mineH at ih ⊢;rw[List.filter_cons]
   split
   · rename_i hk
     rw[List.filter_eq_nil_iff.2 (λe he hke=>by
      simp only[decide_eq_true_eq]at hk hke
      have:=hp.1 e he
      rw[hk,hke]at this
      exact lt_irr _ this)]
     simp
   · exact ih
theorem cut_rows {lo hi:List UInt8}:∀{l:List RowD},RiseR l->¬hi<lo->(l.take (placeR hi l)).drop (placeR lo l)=l.filter λr=> !decide (rkey r<lo)&&decide (rkey r<hi)
 | [],_,_=>by simp[placeR]
 | d::l,h,hlh=>by
   have hp:=List.pairwise_cons.1 h;have ih:=cut_rows hp.2 hlh;by_cases h1:rkey d<hi
   · have e1:placeR hi (d::l)=placeR hi l+1:=by unfold placeR;rw[List.takeWhile_cons_of_pos (by simpa using h1)];rfl
     by_cases h2:rkey d<lo
     · have e2:placeR lo (d::l)=placeR lo l+1:=by unfold placeR;rw[List.takeWhile_cons_of_pos (by simpa using h2)];rfl
       rw[e1,e2,List.take_succ_cons,List.drop_succ_cons,ih,List.filter_cons,if_neg (by simp[h2])]
     · have e2:placeR lo (d::l)=0:=by unfold placeR;rw[List.takeWhile_cons_of_neg (by simpa using h2)];rfl
       have e3:placeR lo l=0:=by
        cases l with
        | nil=>rfl
        | cons b l=>
          unfold placeR;rw[List.takeWhile_cons_of_neg (by simp only[decide_eq_true_eq];exact λe=>h2 (lt_tr (hp.1 b (by simp)) e))];rfl
       rw[e3,List.drop_zero]at ih;rw[e1,e2,List.take_succ_cons,List.drop_zero,ih,List.filter_cons,if_pos (by simp[h1,h2])]
   · have e1:placeR hi (d::l)=0:=by unfold placeR;rw[List.takeWhile_cons_of_neg (by simpa using h1)];rfl
     rw[e1,List.take_zero,List.drop_nil]
     symm
     rw[List.filter_eq_nil_iff];intro e he hc;simp only[Bool.and_eq_true,decide_eq_true_eq]at hc;rcases List.mem_cons.1 he with rfl | he
     · exact h1 hc.2
     · exact h1 (lt_tr (hp.1 e he) hc.2)
theorem insD_mine (d:HoldD)(ds:List HoldD)(k:List UInt8)(h:dkey d≠k):mineH k (insD d ds)=mineH k ds:=by
 unfold mineH insD;rw[List.filter_append,List.filter_cons,if_neg (by simpa using h),<- List.filter_append,List.take_append_drop]
theorem insAll_mine (k:List UInt8):∀(dl ds:List HoldD),(∀d∈dl,dkey d≠k)->mineH k (insAll dl ds)=mineH k ds
 | [],_,_=>rfl
 | d::dl,ds,h=>by
   show mineH k (insAll dl (insD d ds))=_;rw[insAll_mine k dl _ (λx hx=>h x (by simp[hx])),insD_mine d ds k (h d (by simp))]
theorem putT_mine (dl ds:List HoldD)(k:List UInt8)(h:mineH k ds≠[]):mineH k (putT dl ds)=mineH k ds:=by
 unfold putT
 split
 · rename_i h0
   refine insAll_mine k dl ds (λd hd he=>?_)
   have ht:thereD dl ds=true:=by
    unfold thereD;rw[List.any_eq_true];refine⟨d,hd,?_⟩;unfold hasD;rw[List.any_eq_true];obtain⟨x,hx⟩:=List.exists_mem_of_ne_nil _ h;unfold mineH at hx;rw[List.mem_filter]at hx;exact⟨x,hx.1,by rw[he];exact hx.2⟩
   have h1:putE dl ds=2\/putE dl ds=7:=by
    unfold putE
    split
    · exact .inl rfl
    · exact .inr rfl
   omega
 · rfl
theorem getR_some {k:List UInt8}:∀{l:List RowD},RiseR l->(getR k l).isSome= !(mineR k l).isEmpty
 | [],_=>by simp[getR,mineR,placeR]
 | d::l,h=>by
   have hp:=List.pairwise_cons.1 h;have ih:=getR_some (k:=k) hp.2;by_cases h1:rkey d<k
   · have e1:placeR k (d::l)=placeR k l+1:=by unfold placeR;rw[List.takeWhile_cons_of_pos (by simpa using h1)];rfl
     have hne:rkey d≠k:=λe=>by rw[e]at h1;exact lt_irr _ h1
     unfold getR mineR at ih ⊢;rw[e1,qC,List.filter_cons,if_neg (by simpa using hne)];exact ih
   · have e1:placeR k (d::l)=0:=by unfold placeR;rw[List.takeWhile_cons_of_neg (by simpa using h1)];rfl
     unfold getR mineR;rw[e1,qB,List.filter_cons];by_cases h2:rkey d=k
     · simp[h2]
     · simp only[h2,if_false,decide_false]
       rw[List.filter_eq_nil_iff.2 (λe he hc=>by
        simp only[decide_eq_true_eq]at hc;have h3:=hp.1 e he;rw[hc]at h3
        exact h1 h3)]
       rfl
theorem newsD_ins (rows:List RowD)(d:HoldD)(ds:List HoldD):newsD (insD d ds) rows=newsD (d::ds) rows:=by
 unfold newsD insD;rw[List.filter_append,List.filter_cons,List.filter_cons]
 conv=>rhs;rw[<- List.take_append_drop (placeD (dkey d) ds) ds,List.filter_append]
 split
 · simp only[qG,List.length_cons]
   omega
 · rfl
theorem newsD_app (rows:List RowD)(a b:List HoldD):newsD (a++b) rows=newsD a rows+newsD b rows:=by
 unfold newsD;rw[List.filter_append,qG]
theorem newsD_all (rows:List RowD):∀(dl ds:List HoldD),newsD (insAll dl ds) rows=newsD (ds++dl) rows
 | [],ds=>by rw[List.append_nil];rfl
 | d::dl,ds=>by
   show newsD (insAll dl (insD d ds)) rows=_;rw[newsD_all rows dl,newsD_app,newsD_ins,newsD_app,show d::ds=[d]++ds from rfl,show d::dl=[d]++dl from rfl,newsD_app,newsD_app];omega
def Roomy (rows:List RowD)(ds:List HoldD):Prop:=rows.length+newsD ds rows<=400
theorem roomy_put {rows:List RowD}{ds dl:List HoldD}(h:roomD rows ds dl=true)(h0:Roomy rows ds):Roomy rows (putT dl ds):=by
 unfold putT
 split
 · unfold Roomy
   rw[newsD_all];unfold roomD at h;simp only[Bool.and_eq_true,decide_eq_true_eq]at h;omega
 · exact h0
theorem putR_length (x:RowD)(l:List RowD)(h:RiseR l):(putR x l).length=l.length+if (mineR (rkey x) l).isEmpty=true then 1 else 0:=by
 have hg:=getR_some (k:=rkey x) h;unfold getR at hg;unfold putR thereR;have hpl:placeR (rkey x) l<=l.length:=(List.takeWhile_sublist _).length_le;cases hx:l[placeR (rkey x) l]? with
 | none=>
   rw[hx]at hg
   have:(mineR (rkey x) l).isEmpty=true:=by simpa using hg
   rw[if_pos this];simp;omega
 | some d=>
   rw[hx]at hg;have hlt:=(qF.1 hx).1;by_cases hk:rkey d=rkey x
   · simp only[hk,if_true]at hg
     have:¬(mineR (rkey x) l).isEmpty=true:=by simpa using hg
     rw[if_neg this];simp[hk];omega
   · simp only[hk,if_false]at hg
     have:(mineR (rkey x) l).isEmpty=true:=by simpa using hg
     rw[if_pos this];simp[hk];omega
structure GoodR (rows:List RowD)(ds:List HoldD):Prop where
 rise:RiseR rows
 riseH:RiseD ds
 ok:∀r∈rows,rwB r=true
 okH:∀d∈ds,holdB d=true
 room:Roomy rows ds
theorem notKeys_mem {k:ByteArray}{ds:List HoldD}{d:HoldD}:d∈notKeys [k] ds↔d∈ds/\dkey d≠k.data.toList:=by
 unfold notKeys HoldD.tells amongB;rw[List.mem_filter];simp only[List.any_cons,List.any_nil,Bool.or_false,Bool.not_eq_true',decide_eq_false_iff_not];exact⟨λh=>⟨h.1,λe=>h.2 e.symm⟩,λh=>⟨h.1,λe=>h.2 e.symm⟩⟩
theorem notKeys_mine {k:ByteArray}{ds:List HoldD}(q:List UInt8):mineH q (notKeys [k] ds)=if k.data.toList=q then [] else mineH q ds:=by
 unfold mineH notKeys;rw[List.filter_filter];by_cases h:k.data.toList=q
 · rw[if_pos h,List.filter_eq_nil_iff]
   intro d _ hc;unfold HoldD.tells amongB at hc;simp only[List.any_cons,List.any_nil,Bool.or_false,Bool.and_eq_true,decide_eq_true_eq,Bool.not_eq_true',decide_eq_false_iff_not]at hc;exact hc.2 (h.trans hc.1.symm)
 · rw[if_neg h]
   refine List.filter_congr (λd _=>?_);unfold HoldD.tells amongB;rw[Bool.eq_iff_iff];simp only[List.any_cons,List.any_nil,Bool.or_false,Bool.and_eq_true,decide_eq_true_eq,Bool.not_eq_true',decide_eq_false_iff_not];exact⟨λhc=>hc.1,λhc=>⟨hc,λe=>h (e.trans hc)⟩⟩
theorem newsD_not (rows:List RowD)(k:ByteArray)(ds:List HoldD):newsD (notKeys [k] ds) rows<=newsD ds rows:=by
 unfold newsD notKeys;rw[List.filter_filter];refine List.Sublist.length_le ?_
 have:(λa:HoldD=>(a.put&& !(getR (dkey a) rows).isSome)&& !a.tells λk' _ _=>amongB [k] k')=λa:HoldD=>(!a.tells λk' _ _=>amongB [k] k')&&(a.put&& !(getR (dkey a) rows).isSome):=by funext a;rw[Bool.and_comm]
 rw[this,<- List.filter_filter];exact List.filter_sublist
theorem newsD_out (rows:List RowD){d:HoldD}(hp:d.put=true)(hg:(getR (dkey d) rows).isSome=false):∀{ds:List HoldD},d∈ds->newsD (notKeys [d.key] ds) rows+1<=newsD ds rows
 | [],h=>by simp at h
 | e::ds,h=>by
   rcases List.mem_cons.1 h with rfl | h
   · have:=newsD_not rows d.key ds
     unfold newsD notKeys at this ⊢;rw[List.filter_cons,if_neg (by unfold HoldD.tells amongB;simp),List.filter_cons (x:=d) (xs:=ds),if_pos (by rw[hp,hg];rfl),List.length_cons];omega
   · have ih:=newsD_out rows hp hg h
     unfold newsD notKeys at ih ⊢;rw[List.filter_cons (x:=e) (xs:=ds),List.filter_cons (x:=e) (xs:=ds)];by_cases h1:(!e.tells λk _ _=>amongB [d.key] k)=true
     · rw[if_pos h1,List.filter_cons]
       by_cases h2:(e.put&& !(getR (dkey e) rows).isSome)=true
       · rw[if_pos h2,if_pos h2];simp only[List.length_cons];omega
       · rw[if_neg h2,if_neg h2];exact ih
     · rw[if_neg h1]
       by_cases h2:(e.put&& !(getR (dkey e) rows).isSome)=true
       · rw[if_pos h2];simp only[List.length_cons];omega
       · rw[if_neg h2];exact ih
theorem newsD_congr {rows rows':List RowD}:∀{ds:List HoldD},(∀d∈ds,(getR (dkey d) rows').isSome=(getR (dkey d) rows).isSome)->newsD ds rows'=newsD ds rows:=by
 intro ds h;unfold newsD;rw[List.filter_congr (λd hd=>by rw[h d hd])]
theorem riseD_filter {ds:List HoldD}(p:HoldD->Bool)(h:RiseD ds):RiseD (ds.filter p):=List.Pairwise.filter p h
theorem hold_val {d:HoldD}(h:holdB d=true):((d.value.size:Int)<=20):=by
 unfold holdB at h;simp only[Bool.and_eq_true,decide_eq_true_eq]at h;exact h.2.2.2.2.2.2.1
theorem putRT_one {rows:List RowD}{ds:List HoldD}(G:GoodR rows ds){h:HoldD}(hm:h∈ds)(hp:h.put=true):putRT [⟨h.key,h.value⟩] rows=putR ⟨h.key,h.value⟩ rows/\GoodR (putR ⟨h.key,h.value⟩ rows) (notKeys [h.key] ds):=by
 have hB:=G.okH h hm
 have hrw:rwB ⟨h.key,h.value⟩=true:=by
  unfold rwB;have h1:=hold_key hB;have h2:=hold_val hB;rw[show rkey ⟨h.key,h.value⟩=dkey h from rfl,h1];simpa using h2
 have hlen:=putR_length ⟨h.key,h.value⟩ rows G.rise;have hkr:rkey ⟨h.key,h.value⟩=dkey h:=rfl;rw[hkr]at hlen;have hget:=getR_some (k:=dkey h) G.rise;have hroom:=G.room;unfold Roomy at hroom;have hrise:=putR_rise (x:=⟨h.key,h.value⟩) G.rise
 have hn:newsD (notKeys [h.key] ds) (putR ⟨h.key,h.value⟩ rows)=newsD (notKeys [h.key] ds) rows:=newsD_congr (λd hd=>by
  have hd2:=notKeys_mem.1 hd
  rw[getR_some hrise,getR_some G.rise,putR_mine G.rise,if_neg (by rw[hkr];exact λe=>hd2.2 e.symm)])
 have hfit:(putR ⟨h.key,h.value⟩ rows).length+newsD (notKeys [h.key] ds) (putR ⟨h.key,h.value⟩ rows)<=400:=by
  rw[hn,hlen];by_cases he:(mineR (dkey h) rows).isEmpty=true
  · rw[if_pos he]
    have:=newsD_out rows hp (by rw[hget,he];rfl) hm
    omega
  · rw[if_neg he]
    have:=newsD_not rows h.key ds
    omega
 refine⟨?_,hrise,riseD_filter _ G.riseH,λr hr=>?_,λd hd=>G.okH d (notKeys_mem.1 hd).1,hfit⟩
 · unfold putRT putRE
   have hany:([⟨h.key,h.value⟩]:List RowD).any (λx=> !rwB x)=false:=by simp[hrw]
   have hle:¬400<(putR ⟨h.key,h.value⟩ rows).length:=by omega
   rw[hany,show putAllR [⟨h.key,h.value⟩] rows=putR ⟨h.key,h.value⟩ rows from rfl];simp[hle]
 · have hx:r∈putR ⟨h.key,h.value⟩ rows:=hr
   unfold putR at hx;rcases List.mem_append.1 hx with h1 | h1
   · exact G.ok r (List.mem_of_mem_take h1)
   · rcases List.mem_cons.1 h1 with rfl | h1
     · exact hrw
     · exact G.ok r (List.mem_of_mem_drop h1)
theorem good_free {rows:List RowD}{ds:List HoldD}(G:GoodR rows ds)(k:ByteArray):GoodR rows (notKeys [k] ds):=
 ⟨G.rise,riseD_filter _ G.riseH,G.ok,λd hd=>G.okH d (notKeys_mem.1 hd).1,by have:=newsD_not rows k ds;have h2:=G.room;unfold Roomy at h2 ⊢;omega⟩
structure FinK (k:List UInt8)(commit:Bool)(todo:List HoldD)(rows:List RowD)(ds:List HoldD)(rows':List RowD)(ds':List HoldD):Prop where
 good:GoodR rows' ds'
 none:(∀h∈todo,dkey h≠k)->mineR k rows'=mineR k rows/\mineH k ds'=mineH k ds
 one:∀h∈todo,dkey h=k->(mineH k ds'=mineH k ds/\mineR k rows'=mineR k rows)\/mineH k ds'=[]/\mineR k rows'=(if (commit&&h.put)=true then [⟨h.key,h.value⟩] else mineR k rows)
theorem fin_mine (parts:List StrZ)(commit:Bool)(k:List UInt8):∀(todo:List HoldD)(rows:List RowD)(ds:List HoldD)(e:Int),GoodR rows ds->RiseD todo->(∀h∈todo,h∈ds)->
 FinK k commit todo rows ds (todo.foldl (finStep parts commit) (rows,ds,e)).1 (todo.foldl (finStep parts commit) (rows,ds,e)).2.1
 | [],rows,ds,e,G,_,_=>⟨G,λ_=>⟨rfl,rfl⟩,λh hh=>by simp at hh⟩
 | h::todo,rows,ds,e,G,hr,hm=>by
   rw[List.foldl_cons];have hp:=List.pairwise_cons.1 hr
   have hne:∀x∈todo,dkey x≠dkey h:=λx hx he=>by
    have:=hp.1 x hx
    rw[he]at this;exact lt_irr _ this
   have hmh:=hm h (by simp);by_cases ho:openL parts (dkey h) (λ_=>true)=true
   · by_cases hc:(commit&&h.put)=true
     · have hput:h.put=true:=by simp only[Bool.and_eq_true]at hc;exact hc.2
       obtain⟨h1,h2⟩:=putRT_one G hmh hput
       have hs:finStep parts commit (rows,ds,e) h=(putR ⟨h.key,h.value⟩ rows,notKeys [h.key] ds,e):=by
        unfold finStep;rw[if_pos ho];simp only;rw[if_pos hc,h1]
       rw[hs];have ih:=fin_mine parts commit k todo _ _ e h2 hp.2 (λx hx=>notKeys_mem.2 ⟨hm x (by simp[hx]),hne x hx⟩);have e1:=putR_mine (x:=⟨h.key,h.value⟩) G.rise k;have e2:=notKeys_mine (k:=h.key) (ds:=ds) k;have ek:rkey ⟨h.key,h.value⟩=dkey h:=rfl;rw[ek]at e1;rw[show h.key.data.toList=dkey h from rfl]at e2;refine⟨ih.good,λhn=>?_,λx hx hxk=>?_⟩
       · have h3:=ih.none (λx hx=>hn x (by simp[hx]))
         have h4:=hn h (by simp);rw[h3.1,h3.2,e1,e2,if_neg h4,if_neg h4];exact⟨rfl,rfl⟩
       · rcases List.mem_cons.1 hx with rfl | hx
         · have h3:=ih.none (λy hy he=>hne y hy (he.trans hxk.symm))
           right
           rw[h3.1,h3.2,e1,e2,if_pos hxk,if_pos hxk,if_pos hc];exact⟨rfl,rfl⟩
         · have h4:dkey h≠k:=λhe=>hne x hx (hxk.trans he.symm)
           have h3:=ih.one x hx hxk;rw[e1,e2,if_neg h4,if_neg h4]at h3;exact h3
     · have hs:finStep parts commit (rows,ds,e) h=(rows,notKeys [h.key] ds,e):=by
        unfold finStep;rw[if_pos ho];simp only;rw[if_neg hc]
       rw[hs];have ih:=fin_mine parts commit k todo _ _ e (good_free G h.key) hp.2 (λx hx=>notKeys_mem.2 ⟨hm x (by simp[hx]),hne x hx⟩);have e2:=notKeys_mine (k:=h.key) (ds:=ds) k;rw[show h.key.data.toList=dkey h from rfl]at e2;refine⟨ih.good,λhn=>?_,λx hx hxk=>?_⟩
       · have h3:=ih.none (λx hx=>hn x (by simp[hx]))
         have h4:=hn h (by simp);rw[h3.1,h3.2,e2,if_neg h4];exact⟨rfl,rfl⟩
       · rcases List.mem_cons.1 hx with rfl | hx
         · have h3:=ih.none (λy hy he=>hne y hy (he.trans hxk.symm))
           right
           rw[h3.1,h3.2,e2,if_pos hxk,if_neg hc];exact⟨rfl,rfl⟩
         · have h4:dkey h≠k:=λhe=>hne x hx (hxk.trans he.symm)
           have h3:=ih.one x hx hxk;rw[e2,if_neg h4]at h3;exact h3
   · have hs:finStep parts commit (rows,ds,e) h=(rows,ds,23):=by
      unfold finStep;rw[if_neg ho]
     rw[hs];have ih:=fin_mine parts commit k todo rows ds 23 G hp.2 (λx hx=>hm x (by simp[hx]));refine⟨ih.good,λhn=>ih.none (λx hx=>hn x (by simp[hx])),λx hx hxk=>?_⟩;rcases List.mem_cons.1 hx with rfl | hx
     · have h3:=ih.none (λy hy he=>hne y hy (he.trans hxk.symm))
       exact .inl ⟨h3.2,h3.1⟩
     · exact ih.one x hx hxk
theorem finSt_mine (c n:Int)(commit:Bool)(d:TrD)(k:List UInt8)(G:GoodR d.rows d.holds):FinK k commit (byD c n d.holds) d.rows d.holds (finSt c n commit d).1 (finSt c n commit d).2.1:=
 fin_mine d.parts commit k _ _ _ 0 G (riseD_filter _ G.riseH) (λ_ h=>(List.mem_filter.1 h).1)
theorem repD_le (l new:List StrZ)(i j:Nat):(repD l new i j).length<=i+new.length+(l.length - j):=by
 unfold repD;simp only[qG,List.length_take,List.length_drop];omega
theorem frz_parts (scheme:Int)(lo hi:ByteArray)(ep:Int)(d:TrD):(frzD scheme lo hi ep d).2.2.parts.length<=d.parts.length+2/\(frzD scheme lo hi ep d).2.2.rows=d.rows/\(frzD scheme lo hi ep d).2.2.holds=d.holds:=by
 unfold frzD frzOn
 split
 · exact⟨Nat.le_add_right _ _,rfl,rfl⟩
 · split
   · split
     · split<;>exact⟨by simp,rfl,rfl⟩
     · exact⟨by simp,rfl,rfl⟩
   · split
     · rename_i n hn
       split
       · rename_i x hx
         refine⟨?_,rfl,rfl⟩;have hl:n<d.parts.length:=(qF.1 hx).1;have h1:=repD_le d.parts (frzNew scheme ep lo hi x) n (n+1);have h2:=cutD_len x.lo x.hi lo hi;have h3:(frzNew scheme ep lo hi x).length=(cutD x.lo x.hi [lo,hi]).length:=by unfold frzNew;rw[List.length_map]
         show (repD _ _ _ _).length<=_;omega
       · exact⟨by simp,rfl,rfl⟩
     · exact⟨by simp,rfl,rfl⟩
theorem thaw_parts (scheme:Int)(d:TrD):(thawD scheme d).parts.length<=d.parts.length+2/\(thawD scheme d).rows=d.rows/\(thawD scheme d).holds=d.holds:=by
 unfold thawD
 split
 · refine⟨?_,rfl,rfl⟩
   show (thawAll scheme d.parts).length<=_;unfold thawAll
   split
   · rename_i n hn
     split
     · rename_i x hx
       split
       · unfold thawPs
         have hl:n<d.parts.length:=(qF.1 hx).1;have h1:=repD_le d.parts [(thawR d.parts n (thawL d.parts n { x with st:=1,sc:=0 }).2).2] (thawL d.parts n { x with st:=1,sc:=0 }).1 (thawR d.parts n (thawL d.parts n { x with st:=1,sc:=0 }).2).1
         have h2:(thawL d.parts n { x with st:=1,sc:=0 }).1<=n:=by
          unfold thawL
          split
          · omega
          · split
            · split<;>simp
            · simp
         have h3:n+1<=(thawR d.parts n (thawL d.parts n { x with st:=1,sc:=0 }).2).1:=by
          unfold thawR
          split
          · split<;>simp
          · simp
         simp only[List.length_singleton]at h1;omega
       · omega
     · omega
   · omega
 · exact⟨by omega,rfl,rfl⟩
theorem fin_err (parts:List StrZ)(commit:Bool):∀(todo:List HoldD)(st:List RowD×List HoldD×Int),(st.2.2=0\/st.2.2=23)->(todo.foldl (finStep parts commit) st).2.2=0\/(todo.foldl (finStep parts commit) st).2.2=23
 | [],_,h=>h
 | h::todo,st,hs=>by
   rw[List.foldl_cons];refine fin_err parts commit todo _ ?_;unfold finStep
   split
   · exact hs
   · exact .inr rfl
structure HeldL (key:List UInt8)(z:DeedZ)(e:Int)(d d':TrD):Prop where
 same:e≠0->e≠23->mineR key d'.rows=mineR key d.rows/\mineH key d'.holds=mineH key d.holds
 other:¬(∃h,mineH key d.holds=[h]/\pickD z.kind=2/\h.cl=z.cl/\h.nm=z.nm)->mineR key d'.rows=mineR key d.rows/\(mineH key d.holds≠[]->mineH key d'.holds=mineH key d.holds)
 mine:∀h,mineH key d.holds=[h]->pickD z.kind=2->h.cl=z.cl->h.nm=z.nm->mineH key d'.holds=[]->z.commit=true->h.put=true->mineR key d'.rows=[⟨h.key,h.value⟩]
 room:Roomy d'.rows d'.holds
 few:d'.parts.length<=d.parts.length+2
theorem held_same {key:List UInt8}{z:DeedZ}{e:Int}{d d':TrD}(hr:d'.rows=d.rows)(hh:d'.holds=d.holds)(hroom:Roomy d.rows d.holds)(hf:d'.parts.length<=d.parts.length+2)(hp:pickD z.kind≠2):HeldL key z e d d':=by
 refine⟨λ_ _=>by rw[hr,hh];exact⟨rfl,rfl⟩,λ_=>by rw[hr,hh];exact⟨rfl,λ_=>rfl⟩,λh _ h2=>absurd h2 hp,by rw[hr,hh];exact hroom,hf⟩
theorem held_fin (key:List UInt8)(z:DeedZ)(d:TrD)(G:GoodR d.rows d.holds)(hp:pickD z.kind=2):HeldL key z (finE z.cl z.nm z.commit d) d (finD z.cl z.nm z.commit d):=by
 unfold finE finD;by_cases hn:nameB z.cl z.nm=true
 · rw[if_pos hn,if_pos hn]
   have F:=finSt_mine z.cl z.nm z.commit d key G;have hE:=fin_err d.parts z.commit (byD z.cl z.nm d.holds) (d.rows,d.holds,0) (.inl rfl)
   have hby:∀h,h∈byD z.cl z.nm d.holds↔h∈d.holds/\h.cl=z.cl/\h.nm=z.nm:=λh=>by
    unfold byD;rw[List.mem_filter];simp[HoldD.tells]
   refine⟨λh0 h23=>?_,λhno=>?_,λh hm _ hc hnm he hco hpu=>?_,F.good.room,by show d.parts.length<=_;omega⟩
   · exact absurd hE (λe=>e.elim h0 h23)
   · have hz:∀h∈byD z.cl z.nm d.holds,dkey h≠key:=λh hh hk=>by
      obtain⟨h1,h2,h3⟩:=(hby h).1 hh;have hm:h∈mineH key d.holds:=List.mem_filter.2 ⟨h1,by simpa using hk⟩;have h1l:=mineH_one (k:=key) G.riseH;cases hx:mineH key d.holds with
      | nil=>rw[hx]at hm;cases hm
      | cons x r=>
        rw[hx]at hm h1l;obtain rfl:r=[]:=by cases r with | nil=>rfl | cons _ _=>simp at h1l
        rw[List.mem_singleton]at hm;exact hno ⟨x,hx,hp,by rw[<- hm];exact h2,by rw[<- hm];exact h3⟩
     exact⟨(F.none hz).1,λ_=>(F.none hz).2⟩
   · have hmem:h∈mineH key d.holds:=by rw[hm];simp
     obtain⟨h1,h2⟩:=List.mem_filter.1 hmem;have h2:dkey h=key:=by simpa using h2
     rcases F.one h ((hby h).2 ⟨h1,hc,hnm⟩) h2 with ⟨e1,_⟩ | ⟨_,e2⟩
     · have:mineH key d.holds=[]:=e1.symm.trans he
       rw[hm]at this;cases this
     · show mineR key (finSt z.cl z.nm z.commit d).1=_
       rw[e2,if_pos (by rw[hco,hpu];rfl)]
 · rw[if_neg hn,if_neg hn]
   refine⟨λ_ _=>⟨rfl,rfl⟩,λ_=>⟨rfl,λ_=>rfl⟩,λh hm _ hc hnm he=>?_,G.room,by omega⟩;rw[hm]at he;cases he
theorem held_prep (key:List UInt8)(z:DeedZ)(d:TrD)(G:GoodR d.rows d.holds)(hp:pickD z.kind≠2):HeldL key z (prepD z.cl z.nm z.ep z.acts d).1 d (prepD z.cl z.nm z.ep z.acts d).2:=by
 have h0:∀e:Int,HeldL key z e d d:=λe=>held_same rfl rfl G.room (by omega) hp;unfold prepD
 split
 · exact h0 _
 · split
   · exact h0 _
   · split
     · exact h0 _
     · split
       · exact h0 _
       · split
         · exact h0 _
         · split
           · exact h0 _
           · rename_i hrm
             have hrm:roomD d.rows d.holds (prepL z.cl z.nm z.acts d.rows (keysL z.acts))=true:=by simpa using hrm
             refine⟨λh _=>absurd rfl h,λ_=>⟨rfl,λh=>putT_mine _ _ _ h⟩,λh _ h2=>absurd h2 hp,roomy_put hrm G.room,by show d.parts.length<=_;omega⟩
theorem held_law (key:List UInt8)(z:DeedZ)(d:TrD)(G:GoodR d.rows d.holds):HeldL key z (doesD z d).1 d (doesD z d).2:=by
 unfold doesD
 split
 · rename_i h;exact held_fin key z d G h
 · rename_i h2
   split
   · exact held_same (frz_parts ..).2.1 (frz_parts ..).2.2 G.room (frz_parts ..).1 h2
   · split
     · exact held_same (thaw_parts ..).2.1 (thaw_parts ..).2.2 G.room (thaw_parts ..).1 h2
     · exact held_prep key z d G h2
end Go.Proofs.YtmpmggejhnmakaaGreatDoor
