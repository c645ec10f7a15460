/- HoldsOne, its parts: SameHold at one and the same hold, made, and what is plain. -/
import Derived.Test.YtmpmggejhnmakaaGreatDoorZ13
import Derived.Test.YtmpmggejhnmakaaGreatDoorZ03
import Derived.Test.YtmpmggejhnmakaaGreatDoorZ08
import Derived.Test.YtmpmggejhnmakaaGreatDoorZ02
import Derived.Test.YtmpmggejhnmakaaGreatDoorZ22
import Derived.Test.YtmpmggejhnmakaaGreatDoorZ23
import Derived.Test.YtmpmggejhnmakaaGreatDoorZ01
set_option maxRecDepth 100000
set_option maxHeartbeats 1600000
namespace Go.Proofs.YtmpmggejhnmakaaGreatDoor
open Go.RowKit
theorem sameHold_calls (x y:HoldV)(d:HoldD)(no no':Nat->Prop)(w:World)(hx:x.is w no d)(hy:y.is w no' d)(ha:d.acts.length<=1000000)(hr:d.reads.length<=1000000):
 Calls Tryz.prog 43 #[.agg (encHV x).toArray,.agg (encHV y).toArray] w λe w'=>e= .returned (.bool true)/\Ext w w':=by
 obtain⟨key,cl,nm,xo,xn,xc,yo,yn,yc,put,value⟩:=x;obtain⟨key2,cl2,nm2,xo2,xn2,xc2,yo2,yn2,yc2,put2,value2⟩:=y;obtain⟨key',cl',nm',acts,reads,put',value'⟩:=d;obtain⟨e1,e2,e3,e4,e5,e6,e7,a1,r1⟩:=hx;obtain⟨f1,f2,f3,f4,f5,f6,f7,a2,r2⟩:=hy;simp only at e1 e2 e3 e4 e5 e6 e7 f1 f2 f3 f4 f5 f6 f7 a1 r1 a2 r2 ha hr;subst e1 e2 e3 e4 e5 e6 e7 f1 f2 f3 f4 f5 f6 f7
 have hw:∃w2,w2=(w.alloc (.cells #[.string key2,.int .i64 cl2,.int .i64 nm2,.slice xo acts.length xc,.slice yo reads.length yc,.bool put2,.string value2] 48)).alloc (.cells #[.string key2,.int .i64 cl2,.int .i64 nm2,.slice xo2 acts.length xc2,.slice yo2 reads.length yc2,.bool put2,.string value2] 48)/\Ext w w2/\Blk w2 w.heap.size [.string key2,.int .i64 cl2,.int .i64 nm2,.slice xo acts.length xc,.slice yo reads.length yc,.bool put2,.string value2] 48/\Blk w2 (w.heap.size+1) [.string key2,.int .i64 cl2,.int .i64 nm2,.slice xo2 acts.length xc2,.slice yo2 reads.length yc2,.bool put2,.string value2] 48:=by
  refine⟨_,rfl,((qK _ w).alloc (qL _) _).alloc (by simp) _,(Blk.new w _ _).alloc _,?_⟩
  have:=Blk.new (w.alloc (.cells #[.string key2,.int .i64 cl2,.int .i64 nm2,.slice xo acts.length xc,.slice yo reads.length yc,.bool put2,.string value2] 48)) [.string key2,.int .i64 cl2,.int .i64 nm2,.slice xo2 acts.length xc2,.slice yo2 reads.length yc2,.bool put2,.string value2] 48
  rwa [World.size_alloc]at this
 obtain⟨w2,e2,x2,b1,b2⟩:=hw;have HA:Hid (∀W,Ext w W->Calls Tryz.prog 111 #[.slice xo acts.length xc,.slice xo2 acts.length xc2] W λe w'=>e= .returned (.bool true)/\Ext W w'):=qA (λW (hW:Ext w W)=>(sameActs_calls acts acts xo xo2 xc xc2 W ha ((a1.rows.ext hW).mono hW.size) ((a2.rows.ext hW).mono hW.size)).mono (λe w' h=>⟨h.1.trans (ret_bool (decide_eq_true rfl)),h.2⟩));have HR:Hid (∀W,Ext w W->Calls Tryz.prog 112 #[.slice yo reads.length yc,.slice yo2 reads.length yc2] W λe w'=>e= .returned (.bool true)/\Ext W w'):=qA (λW (hW:Ext w W)=>(sameReads_calls reads reads yo yo2 yc yc2 W hr ((r1.rows.ext hW).mono hW.size) ((r2.rows.ext hW).mono hW.size)).mono (λe w' h=>⟨h.1.trans (ret_bool (decide_eq_true rfl)),h.2⟩));have E2:=qA e2;have X2:=qA x2;have B1:=qA b1;have B2:=qA b2;clear e2 x2 b1 b2 a1 r1 a2 r2;simp only[encHV];go_enter Tryz.func43,Tryz.ntmps43;go_wp2_with fail;rw[<- E2.out];refine (HA.out w2 X2.out).mono ?_;rintro e w3 ⟨rfl,hx3⟩;have c3:=(B1.out.ext' hx3).cell 4;have g3:=(B2.out.ext' hx3).cell 4;simp only[qB,qC]at c3 g3;have X3:=qA hx3;clear hx3;go_wp2_with fail;refine (HR.out w3 (qJ X2.out X3.out)).mono ?_;rintro e w4 ⟨rfl,hx4⟩;have hx34:=qJ X3.out hx4;have c5:=(B1.out.ext' hx34).cell 5;have g5:=(B2.out.ext' hx34).cell 5;have c6:=(B1.out.ext' hx34).cell 6;have g6:=(B2.out.ext' hx34).cell 6;simp only[qB,qC]at c5 g5 c6 g6;have X4:=qA (qJ X2.out hx34);clear hx4 hx34;go_wp2_with fail;go_ret;exact⟨ret_bool (by simp),X4.out⟩
theorem holdB_parts {d:HoldD}(h:holdB d=true):keysR d.key d.acts=true/\nameB d.cl d.nm=true/\rightsB d.acts=true:=by
 unfold holdB at h;simp only[Bool.and_eq_true]at h;exact⟨h.1,h.2.1,h.2.2.1⟩
theorem holdB_key {d:HoldD}(h:holdB d=true):keyL (dkey d)=true:=by
 obtain⟨h1,_,h3⟩:=holdB_parts h;unfold rightsB at h3;simp only[Bool.and_eq_true,decide_eq_true_eq]at h3;obtain⟨⟨h4,_⟩,h5⟩:=h3;cases ha:d.acts with
 | nil=>rw[ha]at h4;simp at h4
 | cons a l=>
   have hm:a∈d.acts:=by rw[ha];simp
   have hr:=List.all_eq_true.1 h5 a hm;have hk:=List.all_eq_true.1 h1 a hm;rw[decide_eq_true_eq,Lib.toList_data,Lib.toList_data]at hk;unfold rightB at hr;rw[Bool.and_eq_true,hk]at hr;exact hr.1
theorem manyT_calls (hb:Nat)(v:Value)(ds:List HoldD)(W:World)(hT:Tab W hb v ds):Calls Tryz.prog 129 #[.pointer (some ⟨hb,0,none⟩)] W λe w'=>e= .returned (.int .i64 ds.length)/\W=w':=by
 obtain⟨l,ao,cap,hv,_,hll,_,_,_,_⟩:=hT.rows;have h0:=hT.blk.cell 0;simp only[qB]at h0;rw[hv]at h0
 have:=many_calls hb ao l.length cap W h0 (hT.blk.cell 1)
 rw[hll]at this;exact this
theorem sameHolds_calls (l m:List HoldV)(ds:List HoldD)(no no':Nat->Prop)(ao bo:Option Addr)(cap cap':Nat)(w:World)(hl:l.length<=1000000)(hr:Rows 7 encHV w.heap.size w ao l)(hq:Rows 7 encHV w.heap.size w bo m)(ha:HoldsAre w no l ds)(hb:HoldsAre w no' m ds)(hok:∀d∈ds,d.fits):
 Calls Tryz.prog 17 #[.slice ao l.length cap,.slice bo m.length cap'] w λe w'=>e= .returned (.bool true)/\Ext w w':=by
 have hlm:m.length=l.length:=ha.len.symm▸hb.len;have HR:=qA hr;have HQ:=qA hq;have HA:=qA ha;have HB:=qA hb;have HO:=qA hok;rw[hlm];have HLM:=qA hlm;clear hr hq ha hb hok hlm;go_enter Tryz.func17,Tryz.ntmps17;go_wp2_with fail;go_loopw [5] (λvi wr=>∃k:Nat,k<=l.length/\vi= .int .i64 k/\Ext w wr) (λvi _=>l.length - (intOf vi).toNat)
 case atStart=>exact⟨0,by omega,rfl,qK _ _⟩
 case round=>
  obtain⟨k,hk,rfl,hx⟩:=hrel;have K1:=qA hx;clear hx;by_cases hlt:k<l.length
  · obtain⟨x,hx⟩:∃x,l[k]? =some x:=⟨_,qE hlt⟩
    obtain⟨y,hy⟩:∃y,m[k]? =some y:=⟨_,qE (by have:=HLM.out;omega)⟩;obtain⟨d,hdk,hxd⟩:=HA.out.at k x hx;obtain⟨d',hdk',hyd⟩:=HB.out.at k y hy;rw[hdk]at hdk';obtain rfl:=Option.some.inj hdk';obtain⟨hfa,hfr⟩:=HO.out d (qH hdk);obtain⟨xb,xoff,rfl,hxb,hxc⟩:=HR.out (by intro e;rw[e]at hlt;simp at hlt);obtain⟨yb,yoff,rfl,hyb,hyc⟩:=HQ.out (by intro e;rw[e]at hy;simp at hy);have hcx:=hxc k x hx;have hcy:=hyc k y hy;have hmx:∀j,wr.cell? ⟨xb,j,none⟩=w.cell? ⟨xb,j,none⟩:=λj=>K1.out.cell (p:=⟨xb,j,none⟩) hxb;have hmy:∀j,wr.cell? ⟨yb,j,none⟩=w.cell? ⟨yb,j,none⟩:=λj=>K1.out.cell (p:=⟨yb,j,none⟩) hyb;have HC:Hid (∀p:ExtBy wr,Calls Tryz.prog 43 #[.agg (encHV x).toArray,.agg (encHV y).toArray] p.W λe w'=>e= .returned (.bool true)/\Ext p.W w'):=qA λp=>sameHold_calls x y d no no' p.W ((hxd.ext K1.out).ext p.ext) ((hyd.ext K1.out).ext p.ext) hfa hfr;obtain⟨k1,cl1,nm1,xo1,xn1,xc1,yo1,yn1,yc1,put1,value1⟩:=x;obtain⟨k2,cl2,nm2,xo2,xn2,xc2,yo2,yn2,yc2,put2,value2⟩:=y;simp only[encHV]at HC;have d0:=(hmx _).trans (hcx 0 _ rfl);have d1:=(hmx _).trans (hcx 1 _ rfl);have d2:=(hmx _).trans (hcx 2 _ rfl);have d3:=(hmx _).trans (hcx 3 _ rfl);have d4:=(hmx _).trans (hcx 4 _ rfl);have d5:=(hmx _).trans (hcx 5 _ rfl);have d6:=(hmx _).trans (hcx 6 _ rfl);have e0:=(hmy _).trans (hcy 0 _ rfl);have e1:=(hmy _).trans (hcy 1 _ rfl);have e2:=(hmy _).trans (hcy 2 _ rfl);have e3:=(hmy _).trans (hcy 3 _ rfl);have e4:=(hmy _).trans (hcy 4 _ rfl);have e5:=(hmy _).trans (hcy 5 _ rfl);have e6:=(hmy _).trans (hcy 6 _ rfl);simp only[Nat.add_zero]at d0 e0
    have q0:=ExtBy.cell d0;have q1:=ExtBy.cell d1;have q2:=ExtBy.cell d2;have q3:=ExtBy.cell d3;have q4:=ExtBy.cell d4;have q5:=ExtBy.cell d5;have q6:=ExtBy.cell d6;have r0:=ExtBy.cell e0;have r1:=ExtBy.cell e1;have r2:=ExtBy.cell e2;have r3:=ExtBy.cell e3;have r4:=ExtBy.cell e4;have r5:=ExtBy.cell e5;have r6:=ExtBy.cell e6;have i0:(0:Int)<=(k:Int):=by omega
    have i1:(k:Int)<(l.length:Int):=by omega
    clear hx hy hdk hdk' hxd hyd hxc hyc hcx hcy hmx hmy d0 d1 d2 d3 d4 d5 d6 e0 e1 e2 e3 e4 e5 e6;go_wp2_with fail;refine wp_region_ext (by kernel_rfl) (by kernel_rfl) ?_
    repeat (go_big_quiet_step (with_reducible exact Calls.ext_of _ (HC.out _)))
    refine wpQuiet_nil ?_;intro wd hw';have hxd:Ext wr wd:=by obtain⟨p,rfl⟩:=hw';exact p.ext
    have XD:=qA hxd;clear hxd hw' q0 q1 q2 q3 q4 q5 q6 r0 r1 r2 r3 r4 r5 r6 HC;go_wp2_with fail;go_roundw
    case rel=>exact⟨k+1,by omega,by go_num,qJ K1.out XD.out⟩
    case measure=>simp[intOf];omega
  · go_wp2_with fail
    go_ret;exact⟨rfl,K1.out⟩
end Go.Proofs.YtmpmggejhnmakaaGreatDoor
/- holds: what is written is read back, plainly. -/
namespace Go.Proofs.YtmpmggejhnmakaaGreatDoor
open Go.RowKit
theorem ba_of_list {a b:ByteArray}(h:a.toList=b.toList):a=b:=(toList_iff a b).1 h
theorem ba_back (b:ByteArray):(⟨b.data.toList.toArray⟩:ByteArray)=b:=by cases b;simp
theorem numZ_back {most m:Nat}{n:Int}(rest:List UInt8)(hn:n=(m:Int))(h1:m<=most)(h2:m<=4611686018427387903):numS most ⟨false,numZ n++rest⟩=(m,⟨false,rest⟩):=by
 subst hn;have ho:okN (m:Int)=true:=by simp[okN];omega
 rw[numZ,if_pos ho,Int.toNat_natCast];exact numS_back rest h2 h1
theorem rowB_back {most:Nat}(l rest:List UInt8)(h1:l.length<=most)(h2:l.length<=4611686018427387903):rowS most ⟨false,rowB l++rest⟩=(l,⟨false,rest⟩):=rowS_back l rest h2 h1
structure ActD.back (key:ByteArray)(a:ActD):Prop where
 ky:a.key=key
 k0:0<=a.kind
 k3:a.kind<=3
 vl:a.value.data.toList.length<=20
 n0: -1073741824<=a.num
 n1:a.num<=1073741824
theorem absZ_small {n:Int}(h0: -1073741824<=n)(h1:n<=1073741824):absZ n=if n<0 then -n else n:=by
 have e:wrap64 (-n)= -n:=by unfold wrap64;omega
 rw[absZ,e];split<;>omega
theorem act_back {key:ByteArray}{a:ActD}(h:a.back key)(rest:List UInt8):actS key ⟨false,actW a++rest⟩=(a,true,⟨false,rest⟩):=by
 obtain⟨kd,ky,vl,nm⟩:=a;obtain⟨h1,h2,h3,h4,h5,h6⟩:=h;simp only at h1 h2 h3 h4 h5 h6;subst h1
 have e1:numS 3 ⟨false,actW ⟨kd,ky,vl,nm⟩++rest⟩=(kd.toNat,⟨false,rowB vl.data.toList++(flagB (decide (nm<0))++(numZ (absZ nm)++rest))⟩):=by
  simp only[actW,List.append_assoc];exact numZ_back _ (by omega) (by omega) (by omega)
 have e2:=rowB_back (most:=20) vl.data.toList (flagB (decide (nm<0))++(numZ (absZ nm)++rest)) h4 (by omega);have e3:=flagS_back (decide (nm<0)) (numZ (absZ nm)++rest)
 have e4:numS 1073741824 ⟨false,numZ (absZ nm)++rest⟩=(nm.natAbs,⟨false,rest⟩):=by
  refine numZ_back _ ?_ (by omega) (by omega);rw[absZ_small h5 h6];split<;>omega
 rw[actS_eq e1 e2 e3 e4,ba_back];refine Prod.ext ?_ (Prod.ext ?_ rfl)
 · simp only[ActD.mk.injEq,true_and]
   refine⟨by omega,?_⟩
   split
   · rename_i h;simp at h;omega
   · rename_i h;simp at h;omega
 · simp only
   by_cases h:nm<0
   · simp[h];omega
   · simp[h]
theorem acts_back {key:ByteArray}:∀(l:List ActD),(∀a∈l,a.back key)->∀(rest:List UInt8)(k:Nat),k<=l.length->actsK key ⟨false,l.flatMap actW++rest⟩ k=(l.take k,true,⟨false,(l.drop k).flatMap actW++rest⟩):=by
 intro l h rest k
 induction k with
 | zero=>intro _;simp[actsK]
 | succ k ih=>
   intro hk;have hlt:k<l.length:=by omega
   obtain⟨x,hx⟩:∃x,l[k]? =some x:=⟨_,qE hlt⟩
   have hd:l.drop k=x::l.drop (k+1):=by
    rw[List.drop_eq_getElem_cons hlt];congr 1;exact Option.some.inj ((qE hlt).symm.trans hx)
   have hb:=act_back (h x (qH hx)) ((l.drop (k+1)).flatMap actW++rest);rw[actsK,ih (by omega)];simp only;rw[hd,List.flatMap_cons,List.append_assoc,hb];simp only[Bool.and_self,List.take_add_one,hx,Option.toList_some]
structure Rd.back (key:ByteArray)(r:Rd):Prop where
 ky:r.key=key
 vl:r.value.data.toList.length<=20
theorem read_back {key:ByteArray}{r:Rd}(h:r.back key)(rest:List UInt8):readS key ⟨false,readW r++rest⟩=(r,⟨false,rest⟩):=by
 obtain⟨ky,is,vl⟩:=r;obtain⟨h1,h2⟩:=h;simp only at h1 h2;subst h1;have e1:=flagS_back is (rowB vl.data.toList++rest);have e2:=rowB_back (most:=20) vl.data.toList rest h2 (by omega);simp only[readS,readW,List.append_assoc,e1,e2,ba_back]
theorem reads_back {key:ByteArray}:∀(l:List Rd),(∀a∈l,a.back key)->∀(rest:List UInt8)(k:Nat),k<=l.length->readsK key ⟨false,l.flatMap readW++rest⟩ k=(l.take k,⟨false,(l.drop k).flatMap readW++rest⟩):=by
 intro l h rest k
 induction k with
 | zero=>intro _;simp[readsK]
 | succ k ih=>
   intro hk;have hlt:k<l.length:=by omega
   obtain⟨x,hx⟩:∃x,l[k]? =some x:=⟨_,qE hlt⟩
   have hd:l.drop k=x::l.drop (k+1):=by
    rw[List.drop_eq_getElem_cons hlt];congr 1;exact Option.some.inj ((qE hlt).symm.trans hx)
   have hb:=read_back (h x (qH hx)) ((l.drop (k+1)).flatMap readW++rest);rw[readsK,ih (by omega)];simp only;rw[hd,List.flatMap_cons,List.append_assoc,hb];simp only[List.take_add_one,hx,Option.toList_some]
theorem holdB_back {d:HoldD}(h:holdB d=true):(∀a∈d.acts,a.back d.key)/\(∀r∈d.reads,r.back d.key)/\d.acts.length<=6/\d.reads.length<=6/\d.key.data.toList.length<=20/\d.value.data.toList.length<=20/\(1<=d.cl/\d.cl<=8)/\(1<=d.nm/\d.nm<=1073741824):=by
 have hk:=holdB_key h;unfold holdB at h;simp only[Bool.and_eq_true,decide_eq_true_eq,Bool.not_eq_true']at h;obtain⟨h1,h2,h3,h4,h5,_,h7,_⟩:=h;unfold rightsB at h3;simp only[Bool.and_eq_true,decide_eq_true_eq]at h3;obtain⟨⟨_,h32⟩,h33⟩:=h3;unfold nameB at h2;simp only[Bool.and_eq_true,decide_eq_true_eq]at h2;unfold keyL at hk;simp only[Bool.and_eq_true,decide_eq_true_eq]at hk;refine⟨λa ha=>?_,λr hr=>?_,h32,by have:=cntR_le d.acts;omega,hk.1.2,by rw[size_data];omega,⟨h2.1.1.1,h2.1.1.2⟩,h2.1.2,h2.2⟩
 · have hky:=List.all_eq_true.1 h1 a ha
   have hr:=List.all_eq_true.1 h33 a ha;simp only[decide_eq_true_eq]at hky;unfold rightB at hr;simp only[Bool.and_eq_true]at hr;have hkd:=hr.2;unfold kindB at hkd
   split at hkd
   · rename_i hk1
     simp only[Bool.and_eq_true,decide_eq_true_eq]at hkd;exact⟨ba_of_list hky,by omega,by omega,by rw[hkd.1];simp,by omega,by omega⟩
   · split at hkd
     · rename_i _ hk1
       simp only[Bool.and_eq_true,decide_eq_true_eq]at hkd;exact⟨ba_of_list hky,by omega,by omega,hkd.1.1,by omega,by omega⟩
     · split at hkd
       · rename_i _ _ hk1
         simp only[Bool.and_eq_true,decide_eq_true_eq]at hkd;have hc:=hkd.2;unfold cutI at hc;exact⟨ba_of_list hky,by omega,by omega,by rw[hkd.1];simp,by omega,by omega⟩
       · cases hkd
 · have hb:readBad d.key r=false:=by
    cases hh:readBad d.key r with
    | false=>rfl
    | true=>
      have:readsBad d.key d.reads=true:=List.any_eq_true.2 ⟨r,hr,hh⟩
      rw[h4]at this;cases this
   unfold readBad at hb;simp only[Bool.or_eq_false_iff,Bool.not_eq_false',decide_eq_true_eq,decide_eq_false_iff_not]at hb;exact⟨ba_of_list hb.1.1,by rw[size_data];omega⟩
theorem hold_back {d:HoldD}(h:holdB d=true)(rest:List UInt8):holdS ⟨false,holdW d++rest⟩=(d,true,⟨false,rest⟩):=by
 obtain⟨ha,hr,han,hrn,hkl,hvl,hc,hn⟩:=holdB_back h
 have e1:rowS 20 ⟨false,holdW d++rest⟩=(d.key.data.toList,⟨false,numZ d.cl++(numZ d.nm++(numZ (d.acts.length:Int)++(d.acts.flatMap actW++(numZ (d.reads.length:Int)++(d.reads.flatMap readW++(flagB d.put++(rowB d.value.data.toList++rest)))))))⟩):=by
  simp only[holdW,headW,List.append_assoc];exact rowB_back _ _ hkl (by omega)
 have e2:=numZ_back (most:=8) (m:=d.cl.toNat) (n:=d.cl) (numZ d.nm++(numZ (d.acts.length:Int)++(d.acts.flatMap actW++(numZ (d.reads.length:Int)++(d.reads.flatMap readW++(flagB d.put++(rowB d.value.data.toList++rest))))))) (by omega) (by omega) (by omega);have e3:=numZ_back (most:=1073741824) (m:=d.nm.toNat) (n:=d.nm) (numZ (d.acts.length:Int)++(d.acts.flatMap actW++(numZ (d.reads.length:Int)++(d.reads.flatMap readW++(flagB d.put++(rowB d.value.data.toList++rest)))))) (by omega) (by omega) (by omega)
 have e4:actsS d.key ⟨false,numZ (d.acts.length:Int)++(d.acts.flatMap actW++(numZ (d.reads.length:Int)++(d.reads.flatMap readW++(flagB d.put++(rowB d.value.data.toList++rest)))))⟩=(d.acts,true,⟨false,numZ (d.reads.length:Int)++(d.reads.flatMap readW++(flagB d.put++(rowB d.value.data.toList++rest)))⟩):=by
  have hz:=numZ_back (most:=6) (m:=d.acts.length) (n:=(d.acts.length:Int)) (d.acts.flatMap actW++(numZ (d.reads.length:Int)++(d.reads.flatMap readW++(flagB d.put++(rowB d.value.data.toList++rest))))) rfl han (by omega);simp only[actsS,hz];rw[acts_back d.acts ha _ _ (qL _)];simp
 have e5:readsS d.key ⟨false,numZ (d.reads.length:Int)++(d.reads.flatMap readW++(flagB d.put++(rowB d.value.data.toList++rest)))⟩=(d.reads,⟨false,flagB d.put++(rowB d.value.data.toList++rest)⟩):=by
  have hz:=numZ_back (most:=6) (m:=d.reads.length) (n:=(d.reads.length:Int)) (d.reads.flatMap readW++(flagB d.put++(rowB d.value.data.toList++rest))) rfl hrn (by omega);simp only[readsS,hz];rw[reads_back d.reads hr _ _ (qL _)];simp
 have e6:=flagS_back d.put (rowB d.value.data.toList++rest);have e7:=rowB_back (most:=20) d.value.data.toList rest hvl (by omega);rw[<- ba_back d.key]at e4 e5;have e8:=holdS_eq e1 e2 e3 e4 e5 e6 e7
 have hd:(⟨⟨d.key.data.toList.toArray⟩,(d.cl.toNat:Int),(d.nm.toNat:Int),d.acts,d.reads,d.put,⟨d.value.data.toList.toArray⟩⟩:HoldD)=d:=by
  rw[ba_back,ba_back,Int.toNat_of_nonneg (by omega),Int.toNat_of_nonneg (by omega)]
 rw[hd]at e8;rw[e8,h];rfl
theorem next_rise {ds:List HoldD}(hr:RiseD ds){k:Nat}{x:HoldD}(hx:ds[k]? =some x):nextB (ds.take k) x=true:=by
 unfold nextB;cases hl:(ds.take k).getLast? with
 | none=>rfl
 | some y=>
   simp only[decide_eq_true_eq];rw[List.getLast?_eq_getElem?]at hl;have hk:k<=ds.length:=Nat.le_of_lt (qF.1 hx).1;rw[List.length_take,Nat.min_eq_left hk,List.getElem?_take]at hl
   split at hl
   · rename_i hlt
     obtain⟨h1,h2⟩:=qF.1 hl;obtain⟨h3,h4⟩:=qF.1 hx
     have:=List.pairwise_iff_getElem.1 hr (k - 1) k h1 h3 (by omega)
     rw[h2,h4]at this;exact this
   · cases hl
theorem holds_backK {ds:List HoldD}(hb:∀d∈ds,holdB d=true)(hr:RiseD ds)(rest:List UInt8):∀k,k<=ds.length->holdsK ⟨false,ds.flatMap holdW++rest⟩ k=some (ds.take k,⟨false,(ds.drop k).flatMap holdW++rest⟩):=by
 intro k
 induction k with
 | zero=>intro _;simp[holdsK]
 | succ k ih=>
   intro hk;have hlt:k<ds.length:=by omega
   obtain⟨x,hx⟩:∃x,ds[k]? =some x:=⟨_,qE hlt⟩
   have hd:ds.drop k=x::ds.drop (k+1):=by
    rw[List.drop_eq_getElem_cons hlt];congr 1;exact Option.some.inj ((qE hlt).symm.trans hx)
   have hbk:=hold_back (hb x (qH hx)) ((ds.drop (k+1)).flatMap holdW++rest);have hk1:=ih (by omega);rw[hd,List.flatMap_cons,List.append_assoc]at hk1;rw[holdsK_some hk1,hbk];simp only[next_rise hr hx,Bool.not_false,Bool.and_self,if_true,List.take_add_one,hx,Option.toList_some]
theorem rise_filter {ds:List HoldD}(h:RiseD ds)(p:HoldD->Bool):RiseD (ds.filter p):=List.Pairwise.sublist List.filter_sublist h
theorem key_ne {k:List UInt8}(h:keyL k=true):k.isEmpty=false:=by
 unfold keyL at h;simp only[Bool.and_eq_true,Bool.not_eq_true']at h;exact h.1.1
structure HRow (w:World)(B:Nat)(ao:Option Addr)(cap:Nat)(l:List HoldV)(ds:List HoldD):Prop where
 own:w.ownsRow 0 48 7 (.slice ao l.length cap) l.length (l.flatMap encHV)
 new:∀j,(Value.slice ao l.length cap).ownBlock=some j->B<=j
 are:HoldsAre w (λb=>(Value.slice ao l.length cap).ownBlock=some b\/b<B) l ds
theorem HRow.but {w w':World}{B cap:Nat}{ao:Option Addr}{l:List HoldV}{ds:List HoldD}{S:Nat->Prop}(h:HRow w B ao cap l ds)(hx:But S w w')(hS:∀b,S b->b<B):HRow w' B ao cap l ds:=
 ⟨own_but h.own hx (λj hj e=>by have:=h.new j hj;have:=hS j e;omega),h.new,h.are.but hx (λb _ e=> .inr (hS b e))⟩
theorem HRow.ext {w w':World}{B cap:Nat}{ao:Option Addr}{l:List HoldV}{ds:List HoldD}(h:HRow w B ao cap l ds)(hx:Ext w w'):HRow w' B ao cap l ds:=h.but (Ext.but hx (λ_=>False)) (λ_ e=>e.elim)
theorem HRow.rows {w:World}{B cap:Nat}{ao:Option Addr}{l:List HoldV}{ds:List HoldD}(h:HRow w B ao cap l ds):Rows 7 encHV w.heap.size w ao l:=rows_of_own (λ_=>rfl) h.own
theorem HRow.nrows {w:World}{B cap:Nat}{ao:Option Addr}{l:List HoldV}{ds:List HoldD}(h:HRow w B ao cap l ds)(no:Nat->Prop)(hno:∀b,no b->b<B):NRows 7 encHV no w ao l/\HoldsAre w no l ds:=
 ⟨nrows_of_own (λ_=>rfl) h.own (λj hj e=>by have:=h.new j hj;have:=hno j e;omega),h.are.mono (λb _ e=> .inr (hno b e))⟩
theorem HRow.len {w:World}{B cap:Nat}{ao:Option Addr}{l:List HoldV}{ds:List HoldD}(h:HRow w B ao cap l ds):l.length=ds.length:=h.are.len
theorem HRow.mono {w:World}{B B' cap:Nat}{ao:Option Addr}{l:List HoldV}{ds:List HoldD}(h:HRow w B ao cap l ds)(hB:B'<=B):HRow w B' ao cap l ds:=
 ⟨h.own,λj hj=>qM hB (h.new j hj),h.are.mono (λ_ _ e=>e.elim .inl (λe=> .inr (by omega)))⟩
theorem RowPost.row {yes:List HoldD}{w w':World}{e:Ending}(h:RowPost yes w e w'):∃ao cap l,e= .returned (.slice ao l.length cap)/\HRow w' w.heap.size ao cap l yes/\Mine w' w.heap.size l/\Ext w w':=by
 obtain⟨r,l,rfl,_,ho,hn,ha,hm,hx⟩:=h;obtain⟨ao,cap,rfl⟩:=own_slice ho;exact⟨ao,cap,l,rfl,⟨ho,hn,ha⟩,hm,hx⟩
theorem LessPostN.row {no0:Nat->Prop}{hb:Nat}{v:Value}{yes no:List HoldD}{w w':World}{e:Ending}(h:LessPostN no0 hb v yes no w e w'):∃ao cap l v',e= .returned (.slice ao l.length cap)/\HRow w' w.heap.size ao cap l yes/\Mine w' w.heap.size l/\TabN no0 w' hb v' no/\(∀j,v'.ownBlock=some j->v.ownBlock=some j)/\But (λj=>j=hb\/v.ownBlock=some j) w w':=by
 obtain⟨r,l,v',rfl,_,ho,hn,ha,hm,ht,hv,hx⟩:=h;obtain⟨ao,cap,rfl⟩:=own_slice ho;exact⟨ao,cap,l,v',rfl,⟨ho,hn,ha⟩,hm,ht,hv,hx⟩
theorem Ext.butNew {S:Nat->Prop}{w w1 w2:World}(hx:Ext w w1)(hb:But S w1 w2)(hS:∀j,S j->w.heap.size<=j):Ext w w2:=
 ((Ext.but hx (λ_=>False)).trans hb (U:=λj=>w.heap.size<=j) (λ_ _ e=>e.elim) (λi _ e=>hS i e)).ext (λ_ hi e=>absurd hi (Nat.not_lt.2 e))
theorem right_wfit {d:HoldD}(h:holdB d=true):d.wfit:=by
 obtain⟨ha,hr,han,hrn,hkl,hvl,_,_⟩:=holdB_back h;rw[size_data]at hkl hvl;exact⟨by omega,by omega,by omega,by omega,λa hm=>⟨by have:=(ha a hm).vl;rw[size_data]at this;omega,(ha a hm).k0,by have:=(ha a hm).k3;omega⟩,λr hm=>by have:=(hr r hm).vl;rw[size_data]at this;omega⟩
theorem right_bad {d:HoldD}(h:holdB d=true):holdBad d=false:=by
 obtain⟨ha,_,_,_,_,_,hc,hn⟩:=holdB_back h;have h1:okN d.cl=true:=by simp[okN];omega
 have h2:okN d.nm=true:=by simp[okN];omega
 have h3:d.acts.any actBad=false:=by
  rw[List.any_eq_false];intro a hm;obtain⟨_,k0,k3,_,n0,n1⟩:=ha a hm;have e1:okN a.kind=true:=by simp[okN];omega
  have e2:okN (absZ a.num)=true:=by rw[absZ_small n0 n1];split<;>(simp[okN];omega)
  simp[actBad,e1,e2]
 simp[holdBad,h1,h2,h3]
theorem rights_bad {ds:List HoldD}(h:∀d∈ds,holdB d=true):ds.any holdBad=false:=by
 rw[List.any_eq_false];intro d hd;rw[right_bad (h d hd)];simp
theorem writeW_len {ds:List HoldD}(h:∀d∈ds,d.wfit)(hl:ds.length<=10000):(writeW ds).length<=22000000000000:=by
 have h1:=flat_len holdW 2100000000 ds (λd hd=>holdW_len d (h d hd));have h2:=numZ_len (ds.length:Int);rw[writeW,qG];omega
end Go.Proofs.YtmpmggejhnmakaaGreatDoor
