/- The reference of layer 14: Name, Older, Key, value, one, Right; and the package act's Name. -/
import Derived.Test.YtmpmggejhnmakaaGreatDoorZ02
import Derived.Lib.SlicesS
import Derived.Test.YtmpmggejhnmakaaGreatDoorZ03
import Derived.Test.YtmpmggejhnmakaaGreatDoorZ05
import Derived.Deep.DeepMust
import Derived.Test.YtmpmggejhnmakaaGreatDoorZ01
set_option maxRecDepth 100000
set_option maxHeartbeats 3200000
namespace Go.Proofs.YtmpmggejhnmakaaGreatDoor
open Go.RowKit
def nameB (c n:Int):Bool:=decide (1<=c)&&decide (c<=8)&&decide (1<=n)&&decide (n<=1073741824)
theorem actName_calls (c n:Int)(w:World):Calls Tryz.prog 79 #[.agg #[.int .i64 c,.int .i64 n]] w λe w'=>e= .returned (.bool (nameB c n))/\Ext w w':=by
 have HX:=qA (show Ext w (w.alloc (.cells #[.int .i64 c,.int .i64 n] 35)) from (qK _ w).alloc (qL _) _);have e0:nameB c n=(decide (1<=c)&&decide (c<=8)&&decide (1<=n)&&decide (n<=1073741824)):=rfl;cases h1:decide (1<=c)<;>cases h2:decide (c<=8)<;>cases h3:decide (1<=n)<;>cases h4:decide (n<=1073741824)<;>rw[h1,h2,h3,h4]at e0
 all_goals
  have E0:=qA e0;clear e0;go_enter Tryz.func79,Tryz.ntmps79
  go_wp2
  go_ret;exact⟨ret_bool (by rw[E0.out];rfl),HX.out⟩
def cntR (l:List ActD):Nat:=(l.filter λa=> !decide (a.kind=2)).length
def putAny (l:List ActD):Bool:=l.any λa=> !decide (a.kind=1)
def keysR (k:ByteArray)(l:List ActD):Bool:=l.all λa=>decide (a.key.toList=k.toList)
def readsBad (k:ByteArray)(l:List Rd):Bool:=l.any (readBad k)
def holdB (d:HoldD):Bool:=keysR d.key d.acts&&(nameB d.cl d.nm&&(rightsB d.acts&&(!readsBad d.key d.reads&&(decide (d.reads.length=cntR d.acts)&&((d.put==putAny d.acts)&&(decide ((d.value.size:Int)<=20)&&(d.put||d.value.toList.isEmpty)))))))
structure HoldD.ok (d:HoldD):Prop where
 acts:∀a∈d.acts,a.ok
 an:d.acts.length<=1000000
 rn:d.reads.length<=1000000
 ks:d.key.size<=140737488351232
 vs:d.value.size<=140737488351232
 rs:∀r∈d.reads,r.value.size<=140737488351232
theorem cntR_le (l:List ActD):cntR l<=l.length:=List.length_filter_le ..
theorem cntR_succ (l:List ActD)(k:Nat)(x:ActD)(h:l[k]? =some x):cntR (l.take (k+1))=cntR (l.take k)+(if x.kind=2 then 0 else 1):=by
 unfold cntR;rw[List.take_add_one,h,List.filter_append,qG];by_cases hk:x.kind=2<;>simp[hk]
theorem putAny_succ (l:List ActD)(k:Nat)(x:ActD)(h:l[k]? =some x):putAny (l.take (k+1))=(putAny (l.take k)|| !decide (x.kind=1)):=by
 unfold putAny;rw[List.take_add_one,h,List.any_append];simp
theorem keysR_succ (s:ByteArray)(l:List ActD)(k:Nat)(x:ActD)(h:l[k]? =some x):keysR s (l.take (k+1))=(keysR s (l.take k)&&decide (x.key.toList=s.toList)):=by
 unfold keysR;rw[List.take_add_one,h,List.all_append];simp
theorem readsBad_iff (k:ByteArray)(l:List Rd)(b:Bool)(h:b=false↔ ∀(i:Nat)(x:Rd),l[i]? =some x->readBad k x=false):b=readsBad k l:=by
 unfold readsBad;cases b
 · symm;rw[List.any_eq_false]
   intro x hx;obtain⟨i,hi⟩:=List.getElem?_of_mem hx;rw[h.1 rfl i x hi];simp
 · symm
   rw[List.any_eq_true];apply Classical.byContradiction;intro hn
   have:true=false:=h.2 λi x hx=>by
    cases hb:readBad k x
    · rfl
    · exact absurd ⟨x,qH hx,hb⟩ hn
   cases this
theorem holdRight_calls (v:HoldV)(d:HoldD)(no:Nat->Prop)(w:World)(hv:v.is w no d)(hok:d.ok):
 Calls Tryz.prog 186 #[.agg (encHV v).toArray] w λe w'=>e= .returned (.bool (holdB d))/\Ext w w':=by
 obtain⟨key,cl,nm,xo,xn,xc,yo,yn,yc,put,value⟩:=v;obtain⟨key',cl',nm',acts,reads,put',value'⟩:=d;obtain⟨e1,e2,e3,e4,e5,e6,e7,ha,hr⟩:=hv;simp only at e1 e2 e3 e4 e5 e6 e7 ha hr;subst e1 e2 e3 e4 e5 e6 e7;obtain⟨hok,han,hrn,_,_,_⟩:=hok;simp only at hok han hrn;have HX:=qA (show Ext w (w.alloc (.cells #[.string key,.int .i64 cl,.int .i64 nm,.slice xo acts.length xc,.slice yo reads.length yc,.bool put,.string value] 48)) from (qK _ w).alloc (qL _) _);have HB:=qA (Blk.new w [.string key,.int .i64 cl,.int .i64 nm,.slice xo acts.length xc,.slice yo reads.length yc,.bool put,.string value] 48);have HA:=qA ha.rows;have HR:=qA hr.rows;have HOK:=qA hok;have HG:Hid (holdB ⟨key,cl,nm,acts,reads,put,value⟩=(keysR key acts&&(nameB cl nm&&(rightsB acts&&(!readsBad key reads&&(decide (reads.length=cntR acts)&&((put==putAny acts)&&(decide ((value.size:Int)<=20)&&(put||value.toList.isEmpty)))))))) ):=qA rfl;clear ha hr hok;generalize holdB _=res at HG ⊢;unfold encHV;go_enter Tryz.func186,Tryz.ntmps186;go_wp2_with fail;have hbx:=HB.out;have hxx:=HX.out;generalize w.alloc _=w0 at hbx hxx ⊢;have hN:=hbx.lt;generalize w.heap.size=N at hbx hN ⊢;have B0:=qA hbx;have X0:=qA hxx;clear hbx hxx HB HX;have hcx:∀(i:Nat) W,Ext w0 W->W.cell? ⟨N,i,none⟩=[.string key,.int .i64 cl,.int .i64 nm,.slice xo acts.length xc,.slice yo reads.length yc,.bool put,.string value][i]? :=λi W hW=>(B0.out.ext' hW).cell i;have HCX:=qA hcx;clear hcx;go_loopw [3,4,11] (λvr vp vk wr=>∃(k:Nat),k<=acts.length/\vr= .int .i64 (cntR (acts.take k))/\vp= .bool (putAny (acts.take k))/\vk= .int .i64 k/\keysR key (acts.take k)=true/\Ext w0 wr) (λ_ _ vk _=>acts.length - (intOf vk).toNat)
 case atStart=>exact⟨0,by omega,rfl,rfl,rfl,rfl,qK _ _⟩
 case round=>
  obtain⟨k,hk,rfl,rfl,rfl,hkr,hx⟩:=hrel;have K1:=qA hkr;have K2:=qA hx;clear hkr hx;have c0:=HCX.out 0 wr K2.out;have c1:=HCX.out 1 wr K2.out;have c2:=HCX.out 2 wr K2.out;have c3:=HCX.out 3 wr K2.out;have c4:=HCX.out 4 wr K2.out;have c5:=HCX.out 5 wr K2.out;have c6:=HCX.out 6 wr K2.out;simp only[qB,qC]at c0 c1 c2 c3 c4 c5 c6;by_cases hlt:k<acts.length
  · obtain⟨x,hx⟩:∃x,acts[k]? =some x:=⟨_,qE hlt⟩
    have hcs:=cntR_succ acts k x hx;have hps:=putAny_succ acts k x hx;have hks:=keysR_succ key acts k x hx;have hcl:=cntR_le (acts.take k);rw[List.length_take]at hcl;have HX:=qA hx;obtain⟨b,off,rfl,hb,hcell⟩:=HA.out (by intro e;rw[e]at hlt;simp at hlt);have hcx:=hcell k x hx;have hmove:∀j,wr.cell? ⟨b,j,none⟩=w.cell? ⟨b,j,none⟩:=λj=>(qJ X0.out K2.out).cell (p:=⟨b,j,none⟩) hb;obtain⟨kd,ak,av,an⟩:=x;have d0:=(hmove _).trans (hcx 0 _ rfl);have d1:=(hmove _).trans (hcx 1 _ rfl);have d2:=(hmove _).trans (hcx 2 _ rfl);have d3:=(hmove _).trans (hcx 3 _ rfl);simp only[Nat.add_zero]at d0;have ii0:(0:Int)<=(k:Int):=by omega
    have i1:(k:Int)<(acts.length:Int):=by omega
    have hNn:N<wr.heap.size:=by have:=K2.out.size;omega
    have hne:N≠wr.heap.size:=by omega
    have CS:=qA hcs;have PS:=qA hps;have KS:=qA hks;generalize putAny (acts.take k)=pk at *;generalize hck:cntR (acts.take k)=ck at *;clear hcell hcx hmove hx hcs hps hks hck;by_cases hkk:ak.toList=key.toList
    · have hks2:keysR key (acts.take (k+1))=true:=by rw[KS.out,K1.out];simpa using hkk
      have KS2:=qA hks2;clear hks2;by_cases hk2:kd=2
      · subst hk2
        have hcs2:=CS.out;have hps2:=PS.out;simp only[if_true,Nat.add_zero]at hcs2 hps2;have CS2:=qA hcs2;have PS2:=qA hps2;clear hcs2 hps2;cases pk
        all_goals
         go_wp2_with fail;go_roundw
         case rel=>exact⟨k+1,by omega,by rw[CS2.out],by rw[PS2.out];rfl,by go_num,KS2.out,(K2.out.alloc K2.out.size _)⟩
         case measure=>simp[intOf];omega
      · have hcs2:=CS.out
        rw[if_neg hk2]at hcs2;have CS2:=qA hcs2;clear hcs2;have hb2:(kd==2)=false:=by simpa using hk2
        by_cases hk1:kd=1
        · subst hk1
          have hps2:=PS.out;cases pk
          all_goals
           simp at hps2;have PS2:=qA hps2;clear hps2;go_wp2_with fail;go_roundw
           case rel=>exact⟨k+1,by omega,by rw[CS2.out];go_num,by rw[PS2.out],by go_num,KS2.out,(K2.out.alloc K2.out.size _)⟩
           case measure=>simp[intOf];omega
        · have hb1:(kd==1)=false:=by simpa using hk1
          have hps2:=PS.out;cases pk
          all_goals
           simp[hk1]at hps2;have PS2:=qA hps2;clear hps2;go_wp2_with fail;go_roundw
           case rel=>exact⟨k+1,by omega,by rw[CS2.out];go_num,(by rw[PS2.out];try simp[hk1]),by go_num,KS2.out,(K2.out.alloc K2.out.size _)⟩
           case measure=>simp[intOf];omega
    · have hf:res=false:=by
       have hkf:keysR key acts=false:=by
        unfold keysR;rw[List.all_eq_false];exact⟨_,qH HX.out,by simpa using hkk⟩
       rw[HG.out,hkf];rfl
      have HF:=qA hf;clear hf;have hbk:(ak.toList==key.toList)=false:=by simpa using hkk
      go_wp2_with fail;go_ret;exact⟨ret_bool (by rw[HF.out]),(qJ X0.out K2.out).alloc (by have:=X0.out.size;have:=K2.out.size;omega) _⟩
  · obtain rfl:k=acts.length:=by omega
    have hC:=List.take_length (l:=acts);rw[hC]at K1 ⊢;have K1':=K1.out
    have hr2:∀W,Ext wr W->Rows 3 encRd W.heap.size W yo reads:=λW hW=>by
     have hx:=qJ (qJ X0.out K2.out) hW;exact (HR.out.ext hx).mono hx.size
    have hcont:∀W,Ext wr W->Calls Tryz.prog 219 #[.slice yo reads.length yc,.func (.func 220) #[] #[.pointer (some ⟨N,0,none⟩)]] W λe w'=>e= .returned (.bool (readsBad key reads))/\Ext W w':=λW hW=>
     (containsR_calls (λ_=>readBad key) N reads yo yc W hrn (hr2 W hW) (λi x hi W2 hW2=>readBad_calls x key N W2 (by have:=(qJ (qJ K2.out hW) hW2).size;omega) (HCX.out 0 W2 (qJ (qJ K2.out hW) hW2)))).mono λe w' ⟨b,he,hb,hx⟩=>⟨by rw[he,readsBad_iff key reads b hb],hx⟩
    have HC:=qA hcont;clear hcont hr2 hC K1';go_wp2_with fail;refine (HC.out _ (qK _ _)).mono ?_;rintro e w3 ⟨rfl,hx3⟩;have X3:=qA (qJ K2.out hx3)
    have HG2:Hid (res=(nameB cl nm&&(rightsB acts&&(!readsBad key reads&&(((reads.length:Int)==(cntR acts:Int))&&((put==putAny acts)&&(decide ((value.size:Int)<=20)&&(put||value.toList.isEmpty)))))))):=qA (by
     rw[HG.out,K1.out,Bool.true_and,show (((reads.length:Int)==(cntR acts:Int))=decide (reads.length=cntR acts)) from by rw[Bool.eq_iff_iff,beq_iff_eq,decide_eq_true_eq];omega])
    have HC1:Hid (∀W,Calls Tryz.prog 79 #[.agg #[.int .i64 cl,.int .i64 nm]] W λe w'=>e= .returned (.bool (nameB cl nm))/\Ext W w'):=qA λW=>actName_calls cl nm W
    have HC2:Hid (∀W,Ext w3 W->Calls Tryz.prog 80 #[.slice xo acts.length xc] W λe w'=>e= .returned (.bool (rightsB acts))/\Ext W w'):=qA λW hW=>by
     have hx:=qJ (qJ X0.out X3.out) hW;exact rights_calls right_calls acts xo xc W han HOK.out ((HA.out.ext hx).mono hx.size)
    have hcells:∀W,Ext w3 W->W.cell? ⟨N,0,none⟩=some (.string key)/\W.cell? ⟨N,1,none⟩=some (.int .i64 cl)/\W.cell? ⟨N,2,none⟩=some (.int .i64 nm)/\W.cell? ⟨N,3,none⟩=some (.slice xo acts.length xc)/\W.cell? ⟨N,4,none⟩=some (.slice yo reads.length yc)/\W.cell? ⟨N,5,none⟩=some (.bool put)/\W.cell? ⟨N,6,none⟩=some (.string value):=λW hW=>
     ⟨HCX.out 0 W (qJ X3.out hW),HCX.out 1 W (qJ X3.out hW),HCX.out 2 W (qJ X3.out hW),HCX.out 3 W (qJ X3.out hW),HCX.out 4 W (qJ X3.out hW),HCX.out 5 W (qJ X3.out hW),HCX.out 6 W (qJ X3.out hW)⟩
    obtain⟨k0,k1,k2,k3,k4,k5,k6⟩:=hcells w3 (qK _ _);have HCC:=qA hcells;clear hcells;have FX:=qA (λW (hW:Ext w3 W)=>qJ (qJ X0.out X3.out) hW);clear HC hx3 HG K1 c0 c1 c2 c3 c4 c5 c6 HCX HOK HA HR B0;generalize nameB cl nm=b1 at *;generalize rightsB acts=b2 at *;generalize readsBad key reads=b3 at *;generalize putAny acts=pu at *;generalize cntR acts=cn at *
    have hch:b1=false\/b1=true/\(b2=false\/b2=true/\(b3=true\/b3=false/\(((reads.length:Int)==(cn:Int))=false\/((reads.length:Int)==(cn:Int))=true/\((put=false/\pu=true)\/(put=true/\pu=false)\/(put=false/\pu=false/\(decide ((value.size:Int)<=20)=false\/decide ((value.size:Int)<=20)=true/\(value.toList.isEmpty=false\/value.toList.isEmpty=true)))\/(put=true/\pu=true/\(decide ((value.size:Int)<=20)=false\/decide ((value.size:Int)<=20)=true)))))):=by
     generalize ((reads.length:Int)==(cn:Int))=b4;generalize decide ((value.size:Int)<=20)=b5;generalize value.toList.isEmpty=b6;cases b1<;>cases b2<;>cases b3<;>cases b4<;>cases b5<;>cases b6<;>cases put<;>cases pu<;>simp
    rcases hch with rfl | ⟨rfl,rfl | ⟨rfl,rfl | ⟨rfl,h4 | ⟨h4,⟨rfl,rfl⟩ | ⟨rfl,rfl⟩ | ⟨rfl,rfl,h5 | ⟨h5,h6 | h6⟩⟩ | ⟨rfl,rfl,h5 | h5⟩⟩⟩⟩⟩
    all_goals
     have hres:=HG2.out
     (try simp only[h4]at hres)
     (try simp only[h5]at hres)
     (try simp only[h6]at hres)
     simp at hres;subst hres;clear HG2
     go_wp2_with (first
      | (go_at_call 79;refine (HC1.out _).mono ?_;rintro e wa ⟨rfl,hxa⟩;obtain⟨a0,a1,a2,a3,a4,a5,a6⟩:=HCC.out wa hxa;have XA:=qA hxa;clear hxa)
      | (go_at_call 80;refine (HC2.out _ XA.out).mono ?_;rintro e wb ⟨rfl,hxb⟩;obtain⟨q0,q1,q2,q3,q4,q5,q6⟩:=HCC.out wb (qJ XA.out hxb);have XB:=qA (qJ XA.out hxb);clear hxb))
     go_ret
     first | exact⟨ret_bool rfl,FX.out _ XB.out⟩ | exact⟨ret_bool rfl,FX.out _ XA.out⟩
theorem holdRight1_calls (v:HoldV)(d:HoldD)(no:Nat->Prop)(w:World)(hv:v.is w no d)(hok:d.ok):
 Calls Tryz.prog 185 #[.agg (encHV v).toArray] w λe w'=>e= .returned (.bool (!holdB d))/\Ext w w':=by
 have HX:=qA (show Ext w (w.alloc (.cells (encHV v).toArray 48)) from (qK _ w).alloc (qL _) _);have HC:=qA (holdRight_calls v d no _ (hv.ext HX.out) hok);clear hv hok;generalize holdB d=res at HC ⊢;obtain⟨key,cl,nm,xo,xn,xc,yo,yn,yc,put,value⟩:=v;simp only[encHV]at HC HX ⊢;go_enter Tryz.func185,Tryz.ntmps185;go_wp2_with fail;refine HC.out.mono ?_;rintro e w' ⟨rfl,hx⟩;have X2:=qA (qJ HX.out hx);clear hx HC HX;go_wp2_with fail;go_ret;exact⟨ret_bool rfl,X2.out⟩
def holdsB (ds:List HoldD):Bool:=ds.all holdB
theorem holdsRight_calls (l:List HoldV)(ds:List HoldD)(no:Nat->Prop)(ao:Option Addr)(cap:Nat)(w:World)(hl:l.length<=1000000)(hr:Rows 7 encHV w.heap.size w ao l)(hd:HoldsAre w no l ds)(hok:∀d∈ds,d.ok):
 Calls Tryz.prog 135 #[.slice ao l.length cap] w λe w'=>e= .returned (.bool (holdsB ds))/\Ext w w':=by
 have hq:∀(i:Nat) (x:HoldV),l[i]? =some x->∀W,Ext w W->Calls Tryz.prog 185 #[.agg (encHV x).toArray] W λe w'=>e= .returned (.bool (match ds[i]? with | some d=> !holdB d | none=>false))/\Ext W w':=by
  intro i x hi W hW;obtain⟨d,hdi,hx⟩:=hd.at i x hi;rw[hdi];exact holdRight1_calls x d no W (hx.ext hW) (hok d (qH hdi))
 have hc:=containsH_calls (λi _=>match ds[i]? with | some d=> !holdB d | none=>false) l ao cap w hl hr hq
 have hres:∀b:Bool,(b=false↔ ∀(i:Nat) (x:HoldV),l[i]? =some x->(match ds[i]? with | some d=> !holdB d | none=>false)=false)->(!b)=holdsB ds:=by
  intro b hb;have hlen:=hd.len
  have h2:(b=false)↔holdsB ds=true:=by
   rw[hb];unfold holdsB;rw[List.all_eq_true];constructor
   · intro h d hdm
     obtain⟨i,hi⟩:=List.getElem?_of_mem hdm;have hil:=(qF.1 hi).1
     have:=h i l[i] (qE (by omega))
     rw[hi]at this;simpa using this
   · intro h i x hx
     cases hi:ds[i]? with
     | none=>rfl
     | some d=>simp[h d (qH hi)]
  cases b<;>cases hh:holdsB ds<;>simp_all
 have HC:=qA hc;have HRES:=qA hres;clear hc hq hr hd hok hres;generalize holdsB ds=res at HRES ⊢;go_enter Tryz.func135,Tryz.ntmps135;go_wp2_with fail;refine HC.out.mono ?_;rintro e w' ⟨b,rfl,hb,hx⟩;have X2:=qA hx;have HB:=qA hb;clear hx hb;go_wp2_with fail;go_ret;exact⟨ret_bool (HRES.out b HB.out),X2.out⟩
end Go.Proofs.YtmpmggejhnmakaaGreatDoor
