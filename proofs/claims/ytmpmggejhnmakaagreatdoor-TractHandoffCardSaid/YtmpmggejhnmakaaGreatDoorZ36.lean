/- tract.told: what acts tell, taken out of the rows of holds; slices.Equal at acts. -/
import Derived.Test.YtmpmggejhnmakaaGreatDoorZ10
import Derived.Test.YtmpmggejhnmakaaGreatDoorZ14
import Derived.Test.YtmpmggejhnmakaaGreatDoorZ08
import Derived.Test.YtmpmggejhnmakaaGreatDoorZ35
import Derived.Test.YtmpmggejhnmakaaGreatDoorZ01
set_option maxRecDepth 100000
set_option maxHeartbeats 3200000
namespace Go.Proofs.YtmpmggejhnmakaaGreatDoor
open Go.RowKit
theorem equalActs_calls (l m:List ActD)(ao bo:Option Addr)(cap cap':Nat)(w:World)(hl:l.length<=1000000)(hr:Rows 4 encAct w.heap.size w ao l)(hq:Rows 4 encAct w.heap.size w bo m):
 Calls Tryz.prog 159 #[.slice ao l.length cap,.slice bo m.length cap'] w λe w'=>e= .returned (.bool (decide (l=m)))/\Ext w w':=by
 have HR:=qA hr;have HQ:=qA hq;clear hr hq;by_cases hlen:l.length=m.length
 · have HL:=qA hlen
   go_enter Tryz.func159,Tryz.ntmps159;have hd:((l.length:Int) != (m.length:Int))=false:=by simp[hlen]
   have hneq:=neq_ActD;clear hlen;go_wp2_with fail;go_loopw [13] (λi wr=>∃(k:Nat),k<=l.length/\i= .int .i64 k/\l.take k=m.take k/\Ext w wr) (λi _=>l.length - (intOf i).toNat)
   case atStart=>exact⟨0,by omega,rfl,by simp,qK _ _⟩
   case round=>
    obtain⟨k,hk,rfl,ha,hx⟩:=hrel;have K1:=qA ha;have K2:=qA hx;clear ha hx;by_cases hlt:k<l.length
    · have hlt':k<m.length:=by have:=HL.out;omega
      obtain⟨x,hx⟩:∃x,l[k]? =some x:=⟨_,qE hlt⟩;obtain⟨y,hy⟩:∃y,m[k]? =some y:=⟨_,qE hlt'⟩;obtain⟨b,off,rfl,hb,hcell⟩:=HR.out (by intro e;rw[e]at hlt;simp at hlt);obtain⟨b',off',rfl,hb',hcell'⟩:=HQ.out (by intro e;rw[e]at hlt';simp at hlt');have hcx:=hcell k x hx;have hcy:=hcell' k y hy;have hmove:∀j,wr.cell? ⟨b,j,none⟩=w.cell? ⟨b,j,none⟩:=λj=>K2.out.cell (p:=⟨b,j,none⟩) hb;have hmove':∀j,wr.cell? ⟨b',j,none⟩=w.cell? ⟨b',j,none⟩:=λj=>K2.out.cell (p:=⟨b',j,none⟩) hb';have TK:=qA (show l.take (k+1)=l.take k++[x] by rw[List.take_add_one,hx];rfl);have TM:=qA (show m.take (k+1)=m.take k++[y] by rw[List.take_add_one,hy];rfl);have HX:=qA hx;have HY:=qA hy;obtain⟨k1,i1,v1,n1⟩:=x;obtain⟨k2,i2,v2,n2⟩:=y;have d0:=(hmove _).trans (hcx 0 _ rfl);have d1:=(hmove _).trans (hcx 1 _ rfl);have d2:=(hmove _).trans (hcx 2 _ rfl);have d3:=(hmove _).trans (hcx 3 _ rfl);have c0:=(hmove' _).trans (hcy 0 _ rfl);have c1:=(hmove' _).trans (hcy 1 _ rfl);have c2:=(hmove' _).trans (hcy 2 _ rfl);have c3:=(hmove' _).trans (hcy 3 _ rfl);simp only[Nat.add_zero]at d0 c0;have hi0:(0:Int)<=(k:Int):=by omega
      have hi1:(k:Int)<(l.length:Int):=by omega
      have hi2:(k:Int)<(m.length:Int):=by omega
      clear hx hy hcell hcell' hcx hcy hmove hmove';by_cases heq:(⟨k1,i1,v1,n1⟩:ActD)=⟨k2,i2,v2,n2⟩
      · have he:sameActD ⟨k1,i1,v1,n1⟩ ⟨k2,i2,v2,n2⟩=true:=decide_eq_true heq
        have E:=qA heq;clear heq;go_wp2_with fail
        go_quiet (fail)
        go_wp2_with fail;go_roundw
        case rel=>exact⟨k+1,by omega,by go_num,by rw[TK.out,TM.out,K1.out,E.out],(Ext.drewN K2.out _)⟩
        case measure=>simp[intOf];omega
      · have he:sameActD ⟨k1,i1,v1,n1⟩ ⟨k2,i2,v2,n2⟩=false:=decide_eq_false heq
        have E:=qA heq;clear heq;go_wp2_with fail
        go_quiet (fail)
        go_wp2_with fail;go_ret;refine⟨ret_bool (Eq.symm (decide_eq_false λe=>?_)),(Ext.drewN K2.out _)⟩;have h1:=HX.out;have h2:=HY.out;rw[e,h2]at h1;exact E.out (Option.some.inj h1).symm
    · have hall:l=m:=by
       have:=K1.out
       rwa [List.take_of_length_le (by omega),List.take_of_length_le (by have:=HL.out;omega)]at this
      have HA:=qA hall;clear hall;go_wp2_with fail;go_ret;exact⟨ret_bool (by simp[HA.out]),K2.out⟩
 · go_enter Tryz.func159,Tryz.ntmps159
   have hd:((l.length:Int) != (m.length:Int))=true:=by simp;omega
   go_wp2_with fail;go_ret;exact⟨ret_bool (Eq.symm (decide_eq_false λe=>hlen (by rw[e]))),qK _ _⟩
def toldM (ds:List HoldD):Told:=ds.foldl (λm d x=>if x=dkey d then d.reads else m x) (λ_=>[])
theorem toldM_succ (ds:List HoldD)(k:Nat)(d:HoldD)(h:ds[k]? =some d):toldM (ds.take (k+1))=λx=>if x=dkey d then d.reads else toldM (ds.take k) x:=by
 unfold toldM;rw[List.take_add_one,h,List.foldl_append];rfl
def ToldPostT (w:World)(l:List Rd)(e:Ending)(w':World):Prop:=
 ∃rv,e= .returned rv/\w'.ownsRow 0 239 3 rv l.length (l.flatMap encRd)/\(∀j,rv.ownBlock=some j->w.heap.size<=j)/\Ext w w'
theorem toldT_calls (ls:List HoldV)(ds:List HoldD)(no:Nat->Prop)(lo:Option Addr)(lc:Nat)(acts:List ActD)(ao:Option Addr)(cap:Nat)(w:World)(hll:ls.length<=1000)(hl:acts.length<=1000)(hok:∀a∈acts,a.ok)(hls:Rows 7 encHV w.heap.size w lo ls)(hare:HoldsAre w no ls ds)
 (hcap:∀x∈ls,x.rn<=x.rc) (hks:∀d∈ds,d.key.size<=140737488351232) (hr:Rows 4 encAct w.heap.size w ao acts) (hm:∀x,(toldM ds x).length=cntK x acts):
 Calls Tryz.prog 88 #[.slice lo ls.length lc,.slice ao acts.length cap] w (ToldPostT w (tellAt (toldM ds) acts).1):=by
 obtain⟨i0,hi,hz0,hz1,hz2⟩:=info_parts infoRd;have hmm:= @run_makeMap Tryz.prog;have HLS:=qA hls;have HARE:=qA hare;have HCAP:=qA hcap;have HR:=qA hr;have HM:=qA hm;have HOK:=qA hok;have HKS:=qA hks;have HLD:=qA hare.len;clear hls hare hcap hr hm hok hks;obtain⟨w1,hw1⟩:∃w1,w1=w.alloc (.map #[] 0):=⟨_,rfl⟩;have X1:Hid (Ext w w1):=qA (by rw[hw1];exact (qK _ w).alloc (qL _) _);obtain⟨mb,hmb⟩:∃mb,mb=w.heap.size:=⟨_,rfl⟩;have M1:Hid (ToldAt (λb=>w.heap.size<=b) w1 mb 0 (λ_=>[])):=qA (by rw[hw1,hmb];exact ToldAt.made _ w);have HMB:=qA hmb;have W1:=qA hw1;have SZ:Hid (w1.heap.size=w.heap.size+1):=qA (by rw[hw1];simp);clear hw1;go_enter Tryz.func88,Tryz.ntmps88;go_upto_region 2 with fail;rw[<- W1.out];clear W1
 conv in (Value.map (some w.heap.size))=>rw[<- hmb]
 clear hmb;go_wp2_with fail;go_loopw [14] (λi wr=>∃(k:Nat),k<=ls.length/\i= .int .i64 k/\ToldAt (λb=>w.heap.size<=b) wr mb k (toldM (ds.take k))/\But (λj=>j=mb) w1 wr) (λi _=>ls.length - (intOf i).toNat)
 case atStart=>exact⟨0,by omega,rfl,M1.out,But.refl _ _⟩
 case round=>
  obtain⟨k,hk,rfl,htold,hx⟩:=hrel;have K3:=qA htold;have K4:=qA hx;clear htold hx;by_cases hlt:k<ls.length
  · obtain⟨x,hx⟩:∃x,ls[k]? =some x:=⟨_,qE hlt⟩
    obtain⟨d,hd,hxd⟩:=HARE.out.at k x hx;obtain⟨b,off,hlo,hb,hcell⟩:=HLS.out (by intro e;rw[e]at hlt;simp at hlt);subst hlo;have hcx:=hcell k x hx;have hmv:∀i,wr.cell? ⟨b,i,none⟩=w.cell? ⟨b,i,none⟩:=λi=>(K4.out.cell (p:=⟨b,i,none⟩) (qN hb X1.out.size) (λe=>by have e':b=mb:=e;have:=HMB.out;omega)).trans (X1.out.cell (p:=⟨b,i,none⟩) hb);have hsucc:=toldM_succ ds k d hd;have hkz:=HKS.out d (qH hd);have hkey:=hxd.key;have hrn:=hxd.rn;have hcp:=HCAP.out x (qH hx);have hB0:But (λj=>j=mb) w wr:=(Ext.but X1.out (λ_=>False)).trans K4.out (λ_ _ e=>e.elim) (λ_ _ e=>e);have hrd:=hxd.reads.rows.nrows (no:=λb=>w.heap.size<=b) (qL _) (λb hb e=>by omega);obtain⟨key,cl,nm,xo,xn,xc,yo,yn,yc,put,value⟩:=x;simp only at hkey hrn hcp hrd;subst hrn;have d0:=(hmv _).trans (hcx 0 _ rfl);have d1:=(hmv _).trans (hcx 1 _ rfl);have d2:=(hmv _).trans (hcx 2 _ rfl);have d3:=(hmv _).trans (hcx 3 _ rfl);have d4:=(hmv _).trans (hcx 4 _ rfl);have d5:=(hmv _).trans (hcx 5 _ rfl);have d6:=(hmv _).trans (hcx 6 _ rfl);simp only[Nat.add_zero]at d0;have ii0:(0:Int)<=(k:Int):=by omega
    have ii1:(k:Int)<(ls.length:Int):=by omega
    obtain⟨wa,hwa⟩:∃wa,wa=wr.alloc (.cells #[.string key,.int .i64 cl,.int .i64 nm,.slice xo xn xc,.slice yo d.reads.length yc,.bool put,.string value] 48):=⟨_,rfl⟩;have xa:Ext wr wa:=by rw[hwa];exact (qK _ wr).alloc (qL _) _
    have ba:Blk wa wr.heap.size [.string key,.int .i64 cl,.int .i64 nm,.slice xo xn xc,.slice yo d.reads.length yc,.bool put,.string value] 48:=by rw[hwa];exact Blk.new wr _ _
    have a0:=ba.cell 0;have a4:=ba.cell 4;simp only[qB,qC]at a0 a4;obtain⟨w4,hrun,T4,B4⟩:=(K3.out.ext xa).put (by omega) key (by rw[hkey];exact hkz) d.reads yo yc hcp (hrd.step (hB0.trans (Ext.but xa (λ_=>False)) (λ_ _ e=>e) (λ_ _ e=>e.elim)) (λb hb e=>by have e':b=mb:=e;have:=HMB.out;omega) (λ_ _ e=>e));have TT:=qA T4;have BB:=qA ((K4.out.trans (Ext.but xa (λ_=>False)) (λ_ _ e=>e) (λ_ _ e=>e.elim)).trans B4 (U:=λj=>j=mb) (λ_ _ e=>e) (λ_ _ e=>e));have SU:=qA hsucc;have KY:=qA hkey;have WA:=qA hwa;clear hx hd hxd hcell hcx hmv hsucc hkz hkey hcp hrd hB0 hwa xa ba T4 B4;go_upto_region 5 with fail;rw[<- WA.out];clear WA d0 d1 d2 d3 d4 d5 d6;go_wp2_with fail;go_roundw
    case rel=>
     refine⟨k+1,by omega,by go_num,?_,BB.out⟩;rw[SU.out]
     have:=TT.out
     rw[KY.out]at this;exact this
    case measure=>simp[intOf];omega
  · obtain⟨wl,rfl⟩:∃wl,wl=wr:=⟨_,rfl⟩
    have hall:ds.take k=ds:=List.take_of_length_le (by have:=HLD.out;omega);rw[hall]at K3;have hB0:But (λj=>j=mb) w wl:=(Ext.but X1.out (λ_=>False)).trans K4.out (λ_ _ e=>e.elim) (λ_ _ e=>e);have XL:Hid (Ext w wl):=qA (hB0.ext (λj hj e=>by have e':j=mb:=e;have:=HMB.out;omega));have MBW:Hid (w.heap.size<=mb):=qA (by have:=HMB.out;omega);replace HR:=qA ((HR.out.ext XL.out).mono XL.out.size);have HT:Hid (ToldAt (λb=>wl.heap.size<=b) wl mb k (toldM ds)):=qA (K3.out.step (But.refl (λ_=>False) _) id (λ_ _ e=>e.elim) (λb _ e=>qM XL.out.size e));have hmb:=HT.out.lt;obtain⟨n,hn⟩:∃n,n=k:=⟨_,rfl⟩;rw[<- hn]at HT;have hn1:n<=1000:=by omega
    clear hall hB0 K3 K4 hn SZ HMB X1 M1 HLS HARE HCAP HKS HLD;go_wp2_with fail;go_loopw [8,26] (λv i wr=>∃(k:Nat),k<=acts.length/\i= .int .i64 k/\wr.ownsRow 0 239 3 v (tellAt (toldM ds) (acts.take k)).1.length ((tellAt (toldM ds) (acts.take k)).1.flatMap encRd)/\(∀j,v.ownBlock=some j->wl.heap.size<=j)/\ToldAt (λb=>wl.heap.size<=b) wr mb (n+k) (tellAt (toldM ds) (acts.take k)).2/\But (λj=>j=mb) wl wr) (λ_ i _=>acts.length - (intOf i).toNat)
    case atStart=>exact⟨0,by omega,rfl,World.ownsRow_nil _ _ _ _,by simp[Value.ownBlock],HT.out,But.refl _ _⟩
    case round=>
     obtain⟨k,hk,rfl,hown,hnew,htold,hx⟩:=hrel;have K1:=qA hown;have K2:=qA hnew;have K3:=qA htold;have K4:=qA hx;clear hown hnew htold hx;by_cases hlt:k<acts.length
     · obtain⟨x,hx⟩:∃x,acts[k]? =some x:=⟨_,qE hlt⟩
       obtain⟨b,off,rfl,hb,_,hcell⟩:=(NRows.step (no:=λ_=>False) (no':=λ_=>False) (HR.out.nrows (qL _) (λ_ _ e=>e)) K4.out (λb _ e=>by subst e;exact .inr HT.out.noCells) (λ_ _ e=>e)) (by intro e;rw[e]at hlt;simp at hlt);have hcx:=hcell k x hx;have hsucc:tellAt (toldM ds) (acts.take (k+1))=tellAct (tellAt (toldM ds) (acts.take k)) x:=by rw[List.take_add_one,hx,Option.toList_some,tellAt_snoc]
       have hbd:(tellAt (toldM ds) (acts.take k)).1.length<=1000:=qM (tell_len _ _) (by simp;omega);have hsome:=λh=>tell_some HM.out hx h;have hkz:=(HOK.out x (qH hx)).2.2.1;obtain⟨q,hq⟩:∃q,tellAt (toldM ds) (acts.take k)=q:=⟨_,rfl⟩;rw[hq]at K1 K3 hsucc hbd hsome;have SU:=qA hsucc;obtain⟨kd,ky,val,num⟩:=x;have d0:=hcx 0 _ rfl;have d1:=hcx 1 _ rfl;have d2:=hcx 2 _ rfl;have d3:=hcx 3 _ rfl;simp only[Nat.add_zero]at d0;have hi0:(0:Int)<=(k:Int):=by omega
       have hi1:(k:Int)<(acts.length:Int):=by omega
       have SO:=qA hsome;clear hsucc hx hcell hcx hq hsome;have E1:Hid (Ext wr (wr.alloc (.cells #[.int .u8 kd,.string ky,.string val,.int .i64 num] 74))):=qA ((qK _ wr).alloc (qL _) _);by_cases hkd:kd=2
       · have g1:(kd != 2)=false:=by simp[hkd]
         have HK:=qA hkd;clear hkd;go_wp2_with fail;go_roundw
         case rel=>exact⟨k+1,by omega,by go_num,by rw[SU.out,tellAct_skip HK.out];exact own_ext K1.out E1.out,K2.out,by rw[SU.out,tellAct_skip HK.out];exact ((K3.out.ext E1.out).moreN (by omega)),K4.out.trans (Ext.but E1.out (λ_=>False)) (λ_ _ e=>e) (λ_ _ e=>e.elim)⟩
         case measure=>simp[intOf];omega
       · have g1:(kd != 2)=true:=by simp[hkd]
         obtain⟨r,rs,hrs⟩:=SO.out hkd;have HK:=qA hkd;clear hkd;obtain⟨ao2,cap2,hc2,hr2,hlk⟩:=K3.out.look ky hkz;have hrs2:q.2 ky.data.toList=r::rs:=hrs;rw[hrs2]at hc2 hr2 hlk;obtain⟨b2,off2,rfl,hb2,hno2,hcell2⟩:=hr2 (by simp);have hcr:=hcell2 0 r rfl;have hlk0:=hlk _ E1.out;simp only[List.length_cons]at hlk0 hc2;have RS:=qA hrs2;obtain⟨rk,ri,rv⟩:=r;have e0:=(E1.out.cell (p:=⟨b2,_,none⟩) hb2).trans (hcr 0 _ rfl);have e1:=(E1.out.cell (p:=⟨b2,_,none⟩) hb2).trans (hcr 1 _ rfl);have e2:=(E1.out.cell (p:=⟨b2,_,none⟩) hb2).trans (hcr 2 _ rfl);simp only[Nat.zero_mul,Nat.add_zero]at e0 e1 e2;have j0:(0:Int)<((rs.length+1:Nat):Int):=by omega
         have j1:0<rs.length+1:=by omega
         have CN:=qA (cells_new (wr.alloc (.cells #[.int .u8 kd,.string ky,.string val,.int .i64 num] 74)) [.string rk,.bool ri,.string rv] 239);rw[show (wr.alloc (.cells #[.int .u8 kd,.string ky,.string val,.int .i64 num] 74)).heap.size=wr.heap.size+1 from by simp]at CN;have E2:Hid (Ext wr ((wr.alloc (.cells #[.int .u8 kd,.string ky,.string val,.int .i64 num] 74)).alloc (.cells #[.string rk,.bool ri,.string rv] 239))):=qA (((qK _ wr).alloc (qL _) _).alloc (by simp) _);have BX:Hid (Blk ((wr.alloc (.cells #[.int .u8 kd,.string ky,.string val,.int .i64 num] 74)).alloc (.cells #[.string rk,.bool ri,.string rv] 239)) wr.heap.size [.int .u8 kd,.string ky,.string val,.int .i64 num] 74):=qA ((Blk.new wr _ _).alloc _);clear hc2 hr2 hlk hb2 hno2 hcell2 hcr hrs2 hrs;go_wp2_with (at_builtin;refine wpList_append_at _ rfl _ _ 46 rfl 239 i0 _ 3 40 Tryz.underlying46 hi hz0 hz1 hz2 rfl (by decide) _ q.1.length (q.1.flatMap encRd) rfl (own_ext K1.out E2.out) ⟨wr.heap.size+1,0,none⟩ 1 1 (encRd ⟨rk,ri,rv⟩) rfl rfl CN.out (by simp[encRd,Value.oneCell']) (by decide) (by unfold maxLen;omega) (by omega) ?_;intro g cap3 w1 hown' hbut hkept;have X1:=qA hown';have X2:=qA hbut;have X3:=qA hkept;clear hown' hbut hkept);have hlt0:=K1.out.lt;have hbx:Blk w1 wr.heap.size [.int .u8 kd,.string ky,.string val,.int .i64 num] 74:=BX.out.but X2.out (λe=>by have:=(hlt0 _ e).2;omega);have b1:=hbx.cell 1;simp only[qB,qC]at b1;have T1:ToldAt (λb=>wl.heap.size<=b) w1 mb (n+k) q.2:=(K3.out.ext E2.out).step X2.out (λe=>by have:=K2.out _ e;omega) (λb _ e=>K2.out b e) (λ_ _ e=>e)
         obtain⟨ao3,cap4,hc3,hr3,hlk3⟩:=T1.look ky hkz;rw[RS.out]at hc3 hr3 hlk3;simp only[List.length_cons]at hc3 hlk3;obtain⟨ao4,h4,hsl⟩:=slice_one3 elemRds sizeRds ao3 (rs.length+1) cap4 (by omega) hc3;have hxd:Ext w1 w1.drew:=(qK _ w1).drew;have hl1:=hlk3 w1 (qK _ _);have hl2:=hlk3 _ hxd;obtain⟨w4,hrun,T4,B4⟩:=(T1.ext hxd).put (by omega) ky hkz rs ao4 (cap4 - 1) (by omega) ((hr3.ext hxd).drop3 (λhne b off e=>h4 (by have:=List.length_pos_iff.2 hne;omega) b off e));have hs1:=hsl w1;have hs2:=hsl w1.drew;simp only[Nat.add_sub_cancel]at hs1 hs2;have TT:=qA T4;have BB:=qA (But.trans ((But.refl (λj=>j=mb) w1).drew) B4 (U:=λj=>j=mb) (λ_ _ e=>e) (λ_ _ e=>e));clear hbx T1 hc3 hr3 hlk3 h4 hsl hxd T4 B4 e0 e1 e2 hlk0 hlt0
         go_still_tail 8,(by kernel_rfl)
         change wpList _ _ _ _ _ w1.drew;go_wp2_with fail;go_roundw
         case rel=>
          refine⟨k+1,by omega,by go_num,?_,?_,?_,?_⟩
          · rw[SU.out,tellAct_take HK.out RS.out]
            have:=own_but X1.out BB.out (λj hj e=>by
             have hj2:=X3.out j hj;have e':j=mb:=e;subst e';rcases hj2 with e | e
             · have:=K2.out _ e;omega
             · have:=K3.out.lt;have:=E2.out.size;omega)
            rw[qG,List.flatMap_append];simpa using this
          · intro j hj
            rcases X3.out j hj with e | e
            · exact K2.out j e
            · have:=K4.out.size;have:=E2.out.size;omega
          · rw[SU.out,tellAct_take HK.out RS.out,show n+(k+1)=n+k+1 from by omega]
            exact TT.out
          · exact ((K4.out.trans (Ext.but E2.out (λ_=>False)) (λ_ _ e=>e) (λ_ _ e=>e.elim)).trans X2.out (λ_ _ e=>e) (λi hi e=>by have:=K2.out i e;omega)).trans BB.out (λ_ _ e=>e) (λ_ _ e=>e)
         case measure=>simp[intOf];omega
     · have hall:acts.take k=acts:=List.take_of_length_le (by omega)
       have HA:=qA hall;clear hall;go_wp2_with fail;go_ret;exact⟨_,rfl,by have:=K1.out;rwa [HA.out]at this,λj hj=>qM XL.out.size (K2.out j hj),Ext.butNew XL.out K4.out (λj e=>by rw[e];exact MBW.out)⟩
end Go.Proofs.YtmpmggejhnmakaaGreatDoor
