/- TractHandoff. -/
import Derived.Test.YtmpmggejhnmakaaGreatDoorZ46
import Derived.Test.YtmpmggejhnmakaaGreatDoorZ51
import Derived.Test.YtmpmggejhnmakaaGreatDoorZ44
import Derived.Test.YtmpmggejhnmakaaGreatDoorZ01
set_option maxRecDepth 100000
set_option maxHeartbeats 12800000
namespace Go.Proofs.YtmpmggejhnmakaaGreatDoor
open Go.RowKit
structure HandI (w w9 W:World)(U:Nat->Prop)(tb:Nat)(ps:List StrZ)(en:Int)(k:TrK)(d:TrD):Prop where
 is:TrIs W k d
 tb:k.tb=tb
 room:Roomy d.rows d.holds
 ps:d.parts=ps
 en:d.ended=en
 own:∀b,k.owns b->w.heap.size<=b/\¬U b
 but:But (λb=>w.heap.size<=b/\¬U b) w9 W
theorem HandI.ext {w w9 W W':World}{U:Nat->Prop}{tb:Nat}{ps:List StrZ}{en:Int}{k:TrK}{d:TrD}(h:HandI w w9 W U tb ps en k d)(hx:Ext W W'):HandI w w9 W' U tb ps en k d:=
 ⟨h.is.ext hx,h.tb,h.room,h.ps,h.en,h.own,h.but.trans (Ext.but hx (λ_=>False)) (λ_ _ e=>e) (λ_ _ e=>e.elim)⟩
theorem HandI.deed {w w9 W W':World}{U:Nat->Prop}{tb:Nat}{ps:List StrZ}{en:Int}{k:TrK}{d:TrD}{z:DeedZ}(h:HandI w w9 W U tb ps en k d)(hU:∀b,U b->b<w9.heap.size)(hw:w.heap.size<=w9.heap.size)(hz:pickD z.kind<3)(ht:TrTo k (doesD z d).2 W W'):∃k2,HandI w w9 W' U tb ps en k2 (doesD z d).2:=by
 obtain⟨k2,t2,e1,_,_,_,o2,x2⟩:=ht;have hs:=h.but.size;have LAW:=held_law [] z d (h.is.good h.room);obtain⟨p1,p2⟩:=deed_parts z d hz;refine⟨k2,t2,e1.trans h.tb,LAW.room,p1.trans h.ps,p2.trans h.en,λb hb=>?_,h.but.trans x2 (λ_ _ e=>e) (λb _ e=>h.own b e)⟩;rcases o2 b hb with e | e
 · exact h.own b e
 · exact⟨by omega,λu=>by have:=hU b u;omega⟩
theorem frz_cases {d:TrD}(lo hi:ByteArray)(scheme:Int)(hp:d.parts=[st0])(he:d.ended=0):(∃E:Int,E≠0/\frzD scheme lo hi 1 d=([],E,d))\/(spanB lo.data.toList hi.data.toList=true/\beforeD scheme true 0=(0,true)/\frzD scheme lo hi 1 d=(tabW lo hi d,0,{ d with parts:=frzNew scheme 1 lo hi st0 })):=by
 cases hs:spanB lo.data.toList hi.data.toList with
 | false=>
   refine .inl ⟨2,by decide,?_⟩;unfold frzD beforeD;rw[hs];simp
 | true=>
   cases hb:badN scheme with
   | true=>
     refine .inl ⟨2,by decide,?_⟩;unfold frzD beforeD;rw[hb];simp
   | false=>
     have hbd:beforeD scheme true 0=(0,true):=by
      unfold beforeD;rw[hb];unfold badN at hb;simp at hb ⊢;omega
     exact .inr ⟨rfl,hbd,frzD_whole hp hs (by rw[he];exact hbd)⟩
theorem tractHandoff_calls {B:Nat}(l m:List DeedZ)(lo mo:Option Addr)(cap mcap:Nat)(slo shi:ByteArray)(scheme epoch:Int)(w:World)(hv:LV B w)(hB:B<=w.heap.size)(hl:l.length<=9223372036854775807)(hm:m.length<=9223372036854775807)
 (hr:Rows 10 encDeed w.heap.size w lo l) (ha:∀z∈l,Rows 4 encAct w.heap.size w z.ao z.acts) (hf:∀z∈l,z.wf)
 (hr2:Rows 10 encDeed w.heap.size w mo m) (ha2:∀z∈m,Rows 4 encAct w.heap.size w z.ao z.acts) (hf2:∀z∈m,z.wf) (hs1:slo.size<=140737488351232) (hs2:shi.size<=140737488351232):
 Calls Tryz.prog 4 #[.slice lo l.length cap,.agg #[.string slo,.string shi],.int .i64 scheme,.int .i64 epoch,.slice mo m.length mcap] w λe w'=>e= .returned (.bool true)/\Ext w w':=by
 have HV:=qA hv;have HR:=qA hr;have HA:=qA ha;have HF:=qA hf;have HR2:=qA hr2;have HA2:=qA ha2;have HF2:=qA hf2;obtain⟨w0,hw0⟩:∃w0,w0=w.alloc (.cells #[.string slo,.string shi] 30):=⟨_,rfl⟩;have hx0:Ext w w0:=by rw[hw0];exact (qK _ w).alloc (qL _) _
 have hb0:Blk w0 w.heap.size [.string slo,.string shi] 30:=by rw[hw0];exact Blk.new w _ _
 have AW:=qA (awake_calls w0 (hv.ext hx0) (qM hB hx0.size));have GR:=qA (λW (hW:Ext w W)=>great_calls l lo cap W hl ((hr.ext hW).mono hW.size) (λz hz=>((ha z hz).ext hW).mono hW.size) (λz hz=>(hf z hz).fit));have GM:=qA (λW (hW:Ext w W)=>great_calls m mo mcap W hm ((hr2.ext hW).mono hW.size) (λz hz=>((ha2 z hz).ext hW).mono hW.size) (λz hz=>(hf2 z hz).fit));have X0:=qA hx0;have B0:=qA hb0;have W0:=qA hw0;clear hv hr ha hf hr2 ha2 hf2 hx0 hb0 hw0;obtain⟨b6,hb6⟩:∃b6,b6=w.heap.size:=⟨_,rfl⟩;rw[<- hb6]at B0;go_enter Tryz.func4,Tryz.ntmps4;go_upto_region 1 with fail;rw[<- W0.out,<- hb6];have HB6:=qA hb6;clear W0 hb6;go_wp2_with fail;refine AW.out.mono ?_;rintro e w1 ⟨rfl,hx1⟩;have Y1:=qA hx1;clear hx1 AW;have s0:=(B0.out.ext' Y1.out).cell 0;have s1:=(B0.out.ext' Y1.out).cell 1;simp only[qB,qC]at s0 s1;cases hg:greatD l with
 | true=>
   rw[hg]at GR;clear hg;go_wp2_with fail;refine (GR.out _ (qJ X0.out Y1.out)).mono ?_;rintro e w2 ⟨rfl,hx2⟩;have X2:=qA (qJ X0.out (qJ Y1.out hx2));clear hx2;go_wp2_with fail;go_ret;exact⟨rfl,X2.out⟩
 | false=>
   rw[hg]at GR;have NG:=qA (great_no hg);clear hg;cases hg:greatD m with
   | true=>
     rw[hg]at GM;clear hg;go_wp2_with fail;refine (GR.out _ (qJ X0.out Y1.out)).mono ?_;rintro e w2 ⟨rfl,hx2⟩;have X2:=qA (qJ X0.out (qJ Y1.out hx2));clear hx2;go_wp2_with fail;refine (GM.out _ X2.out).mono ?_;rintro e w3 ⟨rfl,hx3⟩;have X3:=qA (qJ X2.out hx3);clear hx3;go_wp2_with fail;go_ret;exact⟨rfl,X3.out⟩
   | false=>
     rw[hg]at GM;have NM:=qA (great_no hg);clear hg;go_wp2_with fail;refine (GR.out _ (qJ X0.out Y1.out)).mono ?_;rintro e w2 ⟨rfl,hx2⟩;have Y2:=qA (qJ Y1.out hx2);clear hx2;go_wp2_with fail;refine (GM.out _ (qJ X0.out Y2.out)).mono ?_;rintro e w3 ⟨rfl,hx3⟩;have Y3:=qA (qJ Y2.out hx3);clear hx3 GR GM Y1 Y2 s0 s1;have s0:=(B0.out.ext' Y3.out).cell 0;have s1:=(B0.out.ext' Y3.out).cell 1;simp only[qB,qC]at s0 s1;by_cases h100:100<slo.size+shi.size
     · have g100:(100:Int)<(slo.size:Int)+(shi.size:Int):=by omega
       go_wp2_with fail;go_ret;exact⟨rfl,qJ X0.out Y3.out⟩
     · have g100:¬(100:Int)<(slo.size:Int)+(shi.size:Int):=by omega
       go_wp2_with fail;refine (whole_calls w3).mono ?_;rintro e w4 ⟨cs,rfl,rfl,hb,hx⟩;have NW:=qA (newWhole_calls w3.heap.size 1 w4 hb);have Y4:=qA (qJ Y3.out hx);clear hb hx s0 s1;go_wp2_with fail;refine NW.out.mono ?_;rintro e w5 ⟨k0,rfl,hT,⟨o1,o2,o3,o4,o5⟩,⟨o6,o7⟩,hx⟩;have hx5:=qJ Y4.out hx
       have OWN:Hid (∀b,k0.owns b->w0.heap.size<=b/\b<w5.heap.size):=qA (λb h=>⟨by
        have:=Y4.out.size
        rcases h with e | e | e | e | e | e | e
        · omega
        · omega
        · omega
        · omega
        · rw[o6]at e;simp[Value.ownBlock]at e
        · rw[o7]at e;simp[Value.ownBlock]at e
        · have:=o5 b e;omega,hT.owns_lt b h⟩)
       have T5:=qA hT;have Y5:=qA hx5;clear o1 o2 o3 o4 o5 o6 o7 hT hx hx5 NW Y3 Y4;go_wp2_with fail;refine (newNone_calls w5).mono ?_;rintro e w6 ⟨u,rfl,hU,hul,⟨hu1,hu2,hu3⟩,hx⟩;obtain⟨tu,ru,hu,pu,rvu,hvu,pvu⟩:=u;subst hu1 hu2 hu3;have U6:=qA (show TrO w6 tu ru hu pu none from ⟨hU.blk,hU.rt,tab0 hU.ht,hU.pt⟩);have Y6:=qA (qJ Y5.out hx);have T6:=qA (T5.out.ext hx);have UL:=qA hul;clear hU hul hx;obtain⟨U,hUd⟩:∃U:Nat->Prop,U=λb=>b=b6\/b=tu\/b=ru\/b=hu\/b=pu:=⟨_,rfl⟩;have UD:=qA hUd
       have ULT:Hid (∀b,U b->b<w6.heap.size):=qA (λb h=>by
        rw[hUd]at h;rcases h with e | e | e | e | e
        · rw[e];exact (B0.out.ext' Y6.out).lt
        · rw[e];exact U6.out.bt.lt
        · rw[e];exact U6.out.rt.blk.lt
        · rw[e];exact U6.out.ht.blk.lt
        · rw[e];exact U6.out.pt.blk.lt)
       have OWN6:Hid (∀b,k0.owns b->w.heap.size<=b/\¬U b):=qA (λb h=>by
        obtain⟨h1,h2⟩:=OWN.out b h;have h3:=B0.out.lt;have h4:=HB6.out;have h5:=UL.out;refine⟨by omega,λe=>?_⟩;rw[hUd]at e;simp only at h5
        rcases e with e | e | e | e | e<;>omega)
       clear hUd OWN;go_wp2_with fail;go_loopw [13] (λi W=>∃(j:Nat) (k:TrK) (d:TrD),j<=l.length/\i= .int .i64 j/\HandI w w6 W U k0.tb [st0] 0 k d) (λi _=>l.length - (intOf i).toNat)
       case atStart=>exact⟨0,k0,_,by omega,rfl,T6.out,rfl,by simp[Roomy,newsD],rfl,rfl,OWN6.out,But.refl _ _⟩
       case round=>
        obtain⟨j,k,d,hj,rfl,hI⟩:=hrel;have HI:=qA hI;have HTB:=qA hI.tb;have XW:Hid (Ext w wr):=qA (((Ext.but (qJ X0.out Y6.out) (λ_=>False)).trans hI.but (U:=λb=>w.heap.size<=b) (λ_ _ e=>e.elim) (λ_ _ e=>e.1)).ext (λj hj e=>by omega));clear hI;by_cases hlt:j<l.length
        · obtain⟨z,hz⟩:∃z,l[j]? =some z:=⟨_,qE hlt⟩
          obtain⟨b,off,hlo,hb,hcell⟩:=HR.out (by intro e;rw[e]at hlt;simp at hlt);subst hlo;have hcx:=hcell j z hz;have hzm:=qH hz;have HZM:=qA hzm;have q0:=(XW.out.cell (p:=⟨b,_,none⟩) hb).trans (hcx 0 _ rfl);have q1:=(XW.out.cell (p:=⟨b,_,none⟩) hb).trans (hcx 1 _ rfl);have q2:=(XW.out.cell (p:=⟨b,_,none⟩) hb).trans (hcx 2 _ rfl);have q3:=(XW.out.cell (p:=⟨b,_,none⟩) hb).trans (hcx 3 _ rfl);have q4:=(XW.out.cell (p:=⟨b,_,none⟩) hb).trans (hcx 4 _ rfl);have q5:=(XW.out.cell (p:=⟨b,_,none⟩) hb).trans (hcx 5 _ rfl);have q6:=(XW.out.cell (p:=⟨b,_,none⟩) hb).trans (hcx 6 _ rfl);have q7:=(XW.out.cell (p:=⟨b,_,none⟩) hb).trans (hcx 7 _ rfl);have q8:=(XW.out.cell (p:=⟨b,_,none⟩) hb).trans (hcx 8 _ rfl);have q9:=(XW.out.cell (p:=⟨b,_,none⟩) hb).trans (hcx 9 _ rfl);rw[Nat.add_zero]at q0;have ii0:(0:Int)<=(j:Int):=by omega
          have ii1:(j:Int)<(l.length:Int):=by omega
          have PK:=qA (pickN_calls z.kind 9 wr rfl);obtain⟨p,hp⟩:∃p,p=pickD z.kind:=⟨_,rfl⟩;rw[<- hp]at PK;have HP:=qA hp;clear hp hcell hcx hz hzm hb;by_cases h3:p<3
          · have DOES:Hid (Calls Tryz.prog 15 #[.pointer (some ⟨k.tb,0,none⟩),.agg #[.int .i64 z.kind,.int .i64 z.cl,.int .i64 z.nm,.int .i64 z.ep,.slice z.ao z.acts.length z.ac,.bool z.commit,.int .i64 z.scheme,.string z.lo,.string z.hi,.slice z.bo z.bytes.length z.bc]] wr λe w'=>e= .returned (.int .i64 (doesD z d).1)/\TrTo k (doesD z d).2 wr w'):=qA (by
             have hng:=NG.out.2 z HZM.out;have hwz:=HF.out z HZM.out;have hnl:=NG.out.1;have han:=actsN_le z.acts 0 hng.1
             refine does_calls k d z wr (HV.out.ext XW.out) (qM hB XW.out.size) HI.out.is ((nrows_low (HA.out z HZM.out) (qL _) (λb hb e=>by have:=(HI.out.own b e).1;omega)).ext XW.out) (by omega) hwz.ok (λa ha=>(hwz.ok a ha).2.2.1) hwz.cl (by omega) (by omega) (by rw[HI.out.ps];simp) (by rw[<- HP.out];omega))
            rw[HTB.out]at DOES;go_wp2_with fail;refine PK.out.mono ?_;rintro e w' ⟨rfl,rfl⟩;go_wp2_with fail;refine DOES.out.mono ?_;rintro e w' ⟨rfl,hto⟩;obtain⟨k2,hI2⟩:=HI.out.deed ULT.out (qJ X0.out Y6.out).size (by rw[<- HP.out];exact h3) hto;have HI2:=qA hI2;clear hto hI2 q0 q1 q2 q3 q4 q5 q6 q7 q8 q9;go_wp2_with fail;go_roundw
            case rel=>exact⟨j+1,k2,_,by omega,by go_num,HI2.out⟩
            case measure=>simp[intOf];omega
          · clear q1 q2 q3 q4 q5 q6 q7 q8 q9
            go_wp2_with fail;refine PK.out.mono ?_;rintro e w' ⟨rfl,rfl⟩;go_wp2_with fail;go_roundw
            case rel=>exact⟨j+1,k,d,by omega,by go_num,HI.out⟩
            case measure=>simp[intOf];omega
        · obtain rfl:j=l.length:=by omega
          obtain⟨rs,hrs⟩:∃rs,rs=inR slo.data.toList shi.data.toList d.rows:=⟨_,rfl⟩;obtain⟨hs,hhs⟩:∃hs,hs=inD slo shi d.holds:=⟨_,rfl⟩;obtain⟨an,han⟩:∃n,n=(inR [] [] d.rows).length:=⟨_,rfl⟩;obtain⟨ah,hah⟩:∃n,n=(inD noBytes noBytes d.holds).length:=⟨_,rfl⟩;have ROWS:=qA (λW (hW:Ext wr W)=>trRows_calls k d slo shi W (HI.out.is.ext hW) hs1 hs2);have HOLDS:=qA (λW (hW:Ext wr W)=>trHolds_calls k d slo shi W (HI.out.is.ext hW) hs1 hs2);have ROWS0:=qA (λW (hW:Ext wr W)=>trRows_calls k d noBytes noBytes W (HI.out.is.ext hW) (by decide) (by decide));have HOLDS0:=qA (λW (hW:Ext wr W)=>trHolds_calls k d noBytes noBytes W (HI.out.is.ext hW) (by decide) (by decide));rw[<- hrs,HTB.out]at ROWS;rw[<- hhs,HTB.out]at HOLDS;rw[HTB.out]at ROWS0 HOLDS0;have RS:=qA hrs;have HS:=qA hhs;have AN:=qA han;have AH:=qA hah;have hU6:U b6:=by rw[UD.out];exact .inl rfl
          have B6:=qA ((B0.out.ext' Y6.out).but HI.out.but (λe=>e.2 hU6));have s0:=B6.out.cell 0;have s1:=B6.out.cell 1;simp only[qB,qC]at s0 s1;have t0:=ExtBy.cell s0;have t1:=ExtBy.cell s1;clear hrs hhs han hah s0 s1;go_upto_region 11 with fail;go_cut [14,15,16,17] from 62 to 75 (λr h a c W=>∃(ro:Option Addr) (rc:Nat) (ho:Option Addr) (hc:Nat) (L:List HoldV),r= .slice ro rs.length rc/\h= .slice ho L.length hc/\a= .int .i64 an/\c= .int .i64 ah/\Hid (Seen wr W rs hs ro rc ho hc L)/\Hid (Ext wr W))
          case first=>
           refine wp_region_firstC (λW=>∃p:ExtBy wr,W=p.W) [0,1,3,4,6,7,10,11] 10 (by kernel_rfl) (by kernel_rfl) (λ_ _ _ _ h=>h) ⟨⟨wr.drew,(qK _ wr).drew⟩,rfl⟩ ?_;simp only[opsAt,qD,qC,qB]
           repeat (go_big_quiet_step (fail))
           refine wpQuiet_nil ?_;obtain⟨wq,hwq⟩:∃wq,wq=wr.drew:=⟨_,rfl⟩;have XQ:Hid (Ext wr wq):=qA (by rw[hwq];exact (qK _ wr).drew);rw[<- hwq];clear hwq t0 t1;refine wpAnyH_ready (rs:=[2]) (by kernel_rfl) (by simp) ?_;refine AllReadyH.cons rfl (λK hK=>?_) AllReadyH.nil;go_simp;refine (ROWS.out _ XQ.out).mono ?_;rintro e wu ⟨r,rfl,h1,h2,hxu⟩;obtain⟨ro,rc,rfl⟩:=own_slice h1;have XU:=qA (qJ XQ.out hxu);have RO:=qA h1;have RNW:Hid (∀j,(Value.slice ro rs.length rc).ownBlock=some j->wr.heap.size<=j):=qA (λj e=>qM XQ.out.size (h2 j e));refine hK.out _ _ ⟨⟨_,XU.out⟩,rfl⟩ (λ_=>?_);clear hK K hxu h1 h2;refine wpAnyH_ready (rs:=[5]) (by kernel_rfl) (by simp) ?_;refine AllReadyH.cons rfl (λK hK=>?_) AllReadyH.nil;go_simp;refine (HOLDS.out _ XU.out).mono ?_;rintro e wv ⟨h,L,rfl,hnL,h3,h4',h5,_,hxv⟩;clear hnL;obtain⟨ho,hc,rfl⟩:=own_slice h3;have XV:=qA (qJ XU.out hxv);have SE:Hid (Seen wr wv rs hs ro rc ho hc L):=qA ⟨own_ext RO.out hxv,RNW.out,h3,λj e=>qM XU.out.size (h4' j e),h5.mono (λb _ e=> .inr (qN e XU.out.size))⟩;refine hK.out _ _ ⟨⟨_,XV.out⟩,rfl⟩ (λ_=>?_);clear hK K hxv h3 h4' h5;refine wpAnyH_ready (rs:=[8]) (by kernel_rfl) (by simp) ?_;refine AllReadyH.cons rfl (λK hK=>?_) AllReadyH.nil;go_simp;refine (ROWS0.out _ XV.out).mono ?_;rintro e wx ⟨r,rfl,h1,_,hxx⟩;obtain⟨ro2,rc2,rfl⟩:=own_slice h1;have XX:=qA (qJ XV.out hxx);have SX:=qA (SE.out.but (Ext.but hxx (λ_=>False)) (λ_ e=>e.elim));refine hK.out _ _ ⟨⟨_,XX.out⟩,rfl⟩ (λ_=>?_);clear hK K hxx h1;refine wp_takesC (f:=6) [9] (by kernel_rfl) (λ_ _ _ _ h=>h) ⟨⟨_,XX.out⟩,rfl⟩ ?_
           simp only[opsAt,qD,qC,qB]
           repeat (go_big_quiet_step (fail))
           refine wpQuiet_nil ?_;refine wpAnyH_ready (rs:=[12]) (by kernel_rfl) (by simp) ?_;refine AllReadyH.cons rfl (λK hK=>?_) AllReadyH.nil;go_simp;refine (HOLDS0.out _ XX.out).mono ?_;rintro e wy ⟨h,L0,rfl,hn0,h3,_,_,_,hxy⟩;obtain⟨ho2,hc2,rfl⟩:=own_slice h3;have XY:=qA (qJ XX.out hxy);have SY:=qA (SX.out.but (Ext.but hxy (λ_=>False)) (λ_ e=>e.elim));rw[hn0,<- AH.out];refine hK.out _ _ ⟨⟨_,XY.out⟩,rfl⟩ (λ_=>?_);clear hK K hxy h3 hn0;refine wp_takesC (f:=0) [13,14,15,16,17] (by kernel_rfl) (λ_ _ _ _ h=>h) ⟨⟨_,XY.out⟩,rfl⟩ ?_;simp only[opsAt,qD,qC,qB]
           repeat (go_big_quiet_step (fail))
           refine wpQuiet_nil ?_;refine wpAnyH_done (by kernel_rfl) ?_ _;go_wp2_with fail;go_meet;exact⟨ro,rc,ho,hc,L,rfl,rfl,by rw[AN.out];rfl,rfl,SY,XY⟩
          case rest=>
           obtain⟨ro,rc,ho,hc,L,rfl,rfl,rfl,rfl,SE,XA⟩:=hcut;obtain⟨wa,rfl⟩:∃w,w=wc:=⟨_,rfl⟩;have HIA:=qA (HI.out.ext XA.out);have BA:=qA (B6.out.ext' XA.out);have XWA:=qA (qJ XW.out XA.out);have FZ:=freeze_calls k d scheme slo shi 1 wa HIA.out.is (by omega) (by omega) (by rw[HIA.out.ps];simp);rw[HTB.out]at FZ;unfold FrzPost at FZ;have s0:=BA.out.cell 0;have s1:=BA.out.cell 1;simp only[qB,qC]at s0 s1;clear ROWS HOLDS ROWS0 HOLDS0 t0 t1 B6;rcases frz_cases slo shi scheme HI.out.ps HI.out.en with ⟨E,hE,hfz⟩ | ⟨hsp,hbd,hfz⟩
           · rw[hfz]at FZ
             have FRZ:=qA FZ;clear FZ hfz;have hE2:(E==0)=false:=by simpa using hE
             go_wp2_with fail;refine FRZ.out.mono ?_;rintro e wb ⟨v,rfl,hown,_,hto⟩;obtain⟨vo,vc,rfl⟩:=own_slice hown;obtain⟨k2,_,_,_,_,_,_,hx2⟩:=hto;have XF:=qA (((Ext.but XWA.out (λ_=>False)).trans hx2 (U:=λb=>w.heap.size<=b) (λ_ _ e=>e.elim) (λb _ e=>(HIA.out.own b e).1)).ext (λj hj e=>by omega));clear hown hx2;simp only[List.length_nil];go_wp2_with fail;go_ret;exact⟨rfl,XF.out⟩
           · rw[hfz]at FZ
             have FRZ:=qA FZ;have HSP:=qA hsp;have HBD:=qA hbd;have SH:=qA (shut_whole scheme hsp);clear FZ hfz hsp hbd;go_wp2_with fail;refine FRZ.out.mono ?_;rintro e wb ⟨v,rfl,hown,hvn,hto⟩;obtain⟨vo,vc,rfl⟩:=own_slice hown
             have hxo:But k.owns wa wb:=by
              obtain⟨_,_,_,_,_,_,_,h⟩:=hto;exact h
             have LOW:Hid (∀b,k.owns b->w.heap.size<=b/\b≠b6/\¬isZ tu ru hu pu b):=qA (λb e=>⟨(HI.out.own b e).1,λq=>(HI.out.own b e).2 (by rw[UD.out];exact .inl q),λq=>(HI.out.own b e).2 (by rw[UD.out];exact .inr q)⟩)
             have ZLT:Hid (∀b,isZ tu ru hu pu b->w.heap.size<=b/\b<wr.heap.size/\b6<b):=qA (λb e=>by
              have h1:=ULT.out b (by rw[UD.out];exact .inr e);have h2:=HI.out.but.size;have h3:=B0.out.lt;have h4:=HB6.out;have h5:=UL.out;have h6:=Y5.out.size
              refine⟨?_,by omega,?_⟩<;>rcases e with e | e | e | e<;>omega)
             have hU6':b6<wr.heap.size:=by have h1:=ULT.out b6 (by rw[UD.out];exact .inl rfl);have h2:=HI.out.but.size;omega
             have UOB:=qA (((U6.out.keep HI.out.but (λb e q=>q.2 (by rw[UD.out];exact .inr e))).ext XA.out).keep hxo (λb e q=>(LOW.out b q).2.2 e));obtain⟨kf,hSf⟩:=HandS.start (ps:=frzNew scheme 1 slo shi st0) hto HI.out.is.owns_lt LOW.out HTB.out XWA.out XA.out.size XW.out.size BA.out hU6' (λe=>Nat.lt_irrefl _ (ZLT.out b6 e).2.2) (λb e=>⟨(ZLT.out b e).1,(ZLT.out b e).2.1⟩) SE.out hown hvn (show Roomy d.rows d.holds from HI.out.room) rfl HI.out.en;obtain⟨V,hV⟩:∃V:Nat->Prop,V=λb=>b=b6\/(wr.heap.size<=b/\b<wa.heap.size)\/(Value.slice vo (tabW slo shi d).length vc).ownBlock=some b:=⟨_,rfl⟩;obtain⟨n,hn⟩:∃n,n=(tabW slo shi d).length:=⟨_,rfl⟩;have VB:Hid (∀j,(Value.slice vo n vc).ownBlock=some j->V j):=qA (λj e=>by rw[hV];rw[hn]at e;exact .inr (.inr e))
             have hPL:(frzNew scheme 1 slo shi st0).length<=990:=by
              obtain⟨a,b,hab,_,h1,h2⟩:=frz_whole scheme HSP.out;rw[hab,qG,List.length_cons];omega
             obtain⟨PS,hPS⟩:∃x,x=frzNew scheme 1 slo shi st0:=⟨_,rfl⟩;rw[<- hV,<- hPS]at hSf;rw[<- hPS]at hPL;obtain⟨d1,hd1⟩:∃x:TrD,x={ d with parts:=PS }:=⟨_,rfl⟩;rw[<- hd1]at hSf;have BY:Hid (wb.ownsRow 0 5 1 (.slice vo n vc) n ((tabW slo shi d).flatMap encU8)):=qA (by rw[hn];exact hown);have HSF:=qA hSf;have PL:=qA hPL;have PSE:=qA hPS;have D1:=qA hd1;have NE:=qA hn;rw[<- hPS]at SH;have RS1:Hid (inR slo.data.toList shi.data.toList d1.rows=rs):=qA (by rw[hd1,RS.out]);have HS1:Hid (inD slo shi d1.holds=hs):=qA (by rw[hd1,HS.out]);rw[<- hn];clear hown hvn hto hxo hU6' hSf hV hPS hPL hd1 hn FRZ s0 s1;go_wp2_with fail;go_loopw [20] (λi W=>∃(j:Nat) (k2:TrK) (d2:TrD),j<=m.length/\i= .int .i64 j/\HandS w W V (isZ tu ru hu pu) b6 slo shi k0.tb PS 0 rs hs ro rc ho hc L k2 d2/\But (λb=>¬V b/\¬isZ tu ru hu pu b) wb W/\inR slo.data.toList shi.data.toList d2.rows=rs/\inD slo shi d2.holds=hs/\(j=0->d2=d1)) (λi _=>m.length - (intOf i).toNat)
             case atStart=>exact⟨0,kf,d1,by omega,rfl,HSF.out,But.refl _ _,RS1.out,HS1.out,λ_=>rfl⟩
             case round=>
              obtain⟨j,k2,d2,hj,rfl,hS,hB,h1,h2,h0⟩:=hrel;have SS:=qA hS;have SB:=qA hB;have R2:=qA h1;have D2:=qA h2;have J0:=qA h0;clear hS hB h1 h2 h0;by_cases hlt:j<m.length
              · obtain⟨z,hz⟩:∃z,m[j]? =some z:=⟨_,qE hlt⟩
                obtain⟨b,off,hmo,hb,hcell⟩:=HR2.out (by intro e;rw[e]at hlt;simp at hlt);subst hmo;have hcx:=hcell j z hz;have hzm:=qH hz;have HZM:=qA hzm;have q0:=(SS.out.far.cell (p:=⟨b,_,none⟩) hb).trans (hcx 0 _ rfl);have q1:=(SS.out.far.cell (p:=⟨b,_,none⟩) hb).trans (hcx 1 _ rfl);have q2:=(SS.out.far.cell (p:=⟨b,_,none⟩) hb).trans (hcx 2 _ rfl);have q3:=(SS.out.far.cell (p:=⟨b,_,none⟩) hb).trans (hcx 3 _ rfl);have q4:=(SS.out.far.cell (p:=⟨b,_,none⟩) hb).trans (hcx 4 _ rfl);have q5:=(SS.out.far.cell (p:=⟨b,_,none⟩) hb).trans (hcx 5 _ rfl);have q6:=(SS.out.far.cell (p:=⟨b,_,none⟩) hb).trans (hcx 6 _ rfl);have q7:=(SS.out.far.cell (p:=⟨b,_,none⟩) hb).trans (hcx 7 _ rfl);have q8:=(SS.out.far.cell (p:=⟨b,_,none⟩) hb).trans (hcx 8 _ rfl);have q9:=(SS.out.far.cell (p:=⟨b,_,none⟩) hb).trans (hcx 9 _ rfl);rw[Nat.add_zero]at q0;have ii0:(0:Int)<=(j:Int):=by omega
                have ii1:(j:Int)<(m.length:Int):=by omega
                obtain⟨wp,hwp⟩:∃wp,wp=wr:=⟨_,rfl⟩;subst hwp;have PK:=qA (pickN_calls z.kind 9 wp rfl);obtain⟨p,hp⟩:∃p,p=pickD z.kind:=⟨_,rfl⟩;rw[<- hp]at PK;have HP:=qA hp;clear hp hcell hcx hz hzm hb;by_cases h3:p<3
                · have DOES:Hid (Calls Tryz.prog 15 #[.pointer (some ⟨k2.tb,0,none⟩),.agg #[.int .i64 z.kind,.int .i64 z.cl,.int .i64 z.nm,.int .i64 z.ep,.slice z.ao z.acts.length z.ac,.bool z.commit,.int .i64 z.scheme,.string z.lo,.string z.hi,.slice z.bo z.bytes.length z.bc]] wp λe w'=>e= .returned (.int .i64 (doesD z d2).1)/\TrTo k2 (doesD z d2).2 wp w'):=qA (by
                   have hng:=NM.out.2 z HZM.out;have hwz:=HF2.out z HZM.out;have hnl:=NM.out.1;have han:=actsN_le z.acts 0 hng.1
                   refine does_calls k2 d2 z wp (HV.out.ext SS.out.far) (qM hB SS.out.far.size) SS.out.is ((nrows_low (HA2.out z HZM.out) (qL _) (λb hb e=>by have:=(SS.out.low b e).1;omega)).ext SS.out.far) (by omega) hwz.ok (λa ha=>(hwz.ok a ha).2.2.1) hwz.cl (by omega) (by omega) (by rw[SS.out.ps];exact PL.out) (by rw[<- HP.out];omega))
                  rw[SS.out.tb]at DOES;go_wp2_with fail;refine PK.out.mono ?_;rintro e w' ⟨rfl,rfl⟩;go_wp2_with fail;refine DOES.out.mono ?_;rintro e w2 ⟨rfl,hto⟩;have hz3:pickD z.kind<3:=by rw[<- HP.out];exact h3
                  obtain⟨k3,hS3⟩:=SS.out.deed hz3 hto;obtain⟨p1,p2⟩:=seen_stays (SS.out.is.good (SS.out.room rfl)) (hS3.is.good (hS3.room rfl)) HSP.out (by rw[SS.out.ps];exact SH.out) hz3 R2.out D2.out;have hB3:=SB.out.trans (SS.out.keep hto) (U:=λb=>¬V b/\¬isZ tu ru hu pu b) (λ_ _ e=>e) (λ_ _ e=>e);obtain⟨d3,hd3⟩:∃x,x=(doesD z d2).2:=⟨_,rfl⟩;rw[<- hd3]at hS3 p1 p2;have S3:=qA hS3;have B3:=qA hB3;have P1:=qA p1;have P2:=qA p2;have s0:=hS3.box.cell 0;have s1:=hS3.box.cell 1;simp only[qB,qC]at s0 s1;have ROWS:=qA (trRows_calls k3 d3 slo shi w2 hS3.is hs1 hs2);rw[hS3.tb,p1]at ROWS;have HOLDS:=qA (λW (hW:Ext w2 W)=>trHolds_calls k3 d3 slo shi W (S3.out.is.ext hW) hs1 hs2);rw[hS3.tb,p2]at HOLDS;have FITS:Hid (∀x∈hs,x.fits):=qA (by rw[<- p2];intro x hx;exact (S3.out.is.ht.ok x (List.mem_filter.1 hx).1).1.fits)
                  have RLE:Hid (rs.length<=1000000/\L.length<=1000000):=qA (by
                   have h1:=S3.out.is.rt.few;have h2:=S3.out.is.ht.few;have h3:=S3.out.are.len;have h4:rs.length<=d3.rows.length:=by rw[<- p1];unfold inR;rw[List.length_drop,List.length_take];omega
                   have h5:hs.length<=d3.holds.length:=by rw[<- p2];exact List.length_filter_le _ _
                   omega)
                  clear hto hS3 hB3 p1 p2 hd3 DOES PK q0 q1 q2 q3 q4 q5 q6 q7 q8 q9 SS SB R2 D2 J0 hz3;go_wp2_with fail;refine ROWS.out.mono ?_;rintro e w4 ⟨r,rfl,ho1,_,hx4⟩;obtain⟨ro2,rc2,rfl,_,_,hrw⟩:=Rows.own (enc:=encRw) (sz:=2) (λ_=>rfl) ho1;have SL:=qA (sameLines_calls rs rs ro2 ro rc2 rc w4 RLE.out.1 hrw ((S3.out.rrows.ext hx4).mono hx4.size));rw[decide_eq_true (rfl:rs=rs)]at SL;have X4:=qA hx4;clear ho1 hrw hx4 ROWS;go_wp2_with fail;refine SL.out.mono ?_;rintro e w5 ⟨rfl,hx5⟩;have X5:=qA (qJ X4.out hx5);clear hx5 SL X4 s0 s1;have s0:=(S3.out.box.ext' X5.out).cell 0;have s1:=(S3.out.box.ext' X5.out).cell 1;simp only[qB,qC]at s0 s1;go_wp2_with fail;refine (HOLDS.out _ X5.out).mono ?_;rintro e w6' ⟨h,L2,rfl,hnL,h3',_,h5,_,hx6⟩;obtain⟨ho2,hc2,rfl,_,_,hhw⟩:=Rows.own (enc:=encHV) (sz:=7) (λ_=>rfl) h3';have X6:=qA (qJ X5.out hx6);have SHL:=qA (sameHolds_calls L2 L hs _ _ ho2 ho hc2 hc w6' (by have:=RLE.out.2;have:=S3.out.are.len;omega) hhw ((S3.out.hrows.ext X6.out).mono X6.out.size) h5 (S3.out.are.ext X6.out) FITS.out);clear hnL h3' h5 hx6 hhw HOLDS X5 s0 s1;go_wp2_with fail;refine SHL.out.mono ?_;rintro e w7 ⟨rfl,hx7⟩;have X7:=qA (qJ X6.out hx7);clear hx7 SHL X6;go_wp2_with fail;go_roundw
                  case rel=>exact⟨j+1,k3,d3,by omega,by go_num,S3.out.ext X7.out,B3.out.trans (Ext.but X7.out (λ_=>False)) (λ_ _ e=>e) (λ_ _ e=>e.elim),P1.out,P2.out,λe=>by omega⟩
                  case measure=>simp[intOf];omega
                · clear q1 q2 q3 q4 q5 q6 q7 q8 q9
                  go_wp2_with fail;refine PK.out.mono ?_;rintro e w' ⟨rfl,rfl⟩;go_wp2_with fail;go_roundw
                  case rel=>exact⟨j+1,k2,d2,by omega,by go_num,SS.out,SB.out,R2.out,D2.out,λe=>by omega⟩
                  case measure=>simp[intOf];omega
              · obtain rfl:j=m.length:=by omega
                obtain⟨wm,hwm⟩:∃wm,wm=wr:=⟨_,rfl⟩;subst hwm;have OV:=qA (over_of HI.out.is HI.out.room HSP.out RS.out HS.out);have UOM:=qA (UOB.out.keep SB.out (λb e q=>q.2 e));have hBYM:=own_but BY.out SB.out (λj e q=>q.1 (VB.out j e));rw[NE.out]at hBYM;obtain⟨uo,uc,huv,_,_,hur⟩:=Rows.own (enc:=encU8) (sz:=1) (λ_=>rfl) hBYM;simp only[Value.slice.injEq,true_and]at huv;obtain⟨rfl,rfl⟩:=huv;have hAB:=absorbG_calls tu ru hu pu (tabW slo shi d) vo vc rs hs d.ns scheme slo shi wm.drew (UOM.out.ext (qK _ wm).drew) OV.out.len ((hur.ext (qK _ wm).drew).mono (show wm.heap.size<=wm.drew.heap.size from qL _)) OV.out.good (by rw[OV.out.put,OV.out.inr]) (by rw[OV.out.ins,OV.out.ind]) hs1 hs2 HSP.out HBD.out (by rw[OV.out.put,OV.out.ins];exact OV.out.room);rw[OV.out.put,OV.out.ins,<- NE.out]at hAB;have AB:=qA hAB;have hb6z:¬b6=tu:=λe=>SS.out.vz b6 SS.out.bV (.inl e);have s0:=SS.out.box.cell 0;have s1:=SS.out.box.cell 1;simp only[qB,qC]at s0 s1;have q0:=ButBy.cell (S:=λj=>j=tu) s0 hb6z;have q1:=ButBy.cell (S:=λj=>j=tu) s1 hb6z;clear hBYM hur hAB s0 s1 BY UOB HSF RS1 HS1;go_upto_region 22 with fail;refine wp_region_firstC (λW=>∃p:ButBy (λj=>j=tu) wm,W=p.W) [0,1,2,3] 18 (by kernel_rfl) (by kernel_rfl) (λ_ _ _ _ h=>h) ⟨⟨wm.drew,(But.refl _ wm).drew⟩,rfl⟩ ?_;simp only[opsAt,qD,qC,qB]
                repeat (go_big_quiet_step (fail))
                refine wpQuiet_nil ?_;refine wpAnyH_ready (rs:=[4]) (by kernel_rfl) (by simp) ?_;refine AllReadyH.cons rfl (λK hK=>?_) AllReadyH.nil;go_simp;refine AB.out.mono ?_;rintro e wx ⟨cb,crb,chb,cpb,crv,chv,rfl,hT,hC,hbE⟩;have hbE2:=((Ext.but (qK _ wm).drew (λ_=>False)).trans hbE (U:=λj=>j=tu) (λ_ _ e=>e.elim) (λ_ _ e=>e));have SX:=qA (SS.out.zed hbE2 (λb e=> .inl e) UOM.out.noStr);have UX:=qA hT;have CX:=qA (hC.base (show wm.heap.size<=wm.drew.heap.size from qL _));have BX:=qA hbE2;refine hK.out _ _ ⟨⟨_,hbE2⟩,rfl⟩ (λ_=>?_);clear hK K hT hC hbE hbE2 AB;refine wp_takesC (f:=10) [5,6,7,8,11,12,16] (by kernel_rfl) (λ_ _ _ _ h=>h) ⟨⟨_,BX.out⟩,rfl⟩ ?_;simp only[opsAt,qD,qC,qB]
                repeat (go_big_quiet_step (fail))
                refine wpQuiet_nil ?_;refine wpAnyH_ready (rs:=[9]) (by kernel_rfl) (by simp) ?_;refine AllReadyH.cons rfl (λK hK=>?_) AllReadyH.nil;go_simp;refine (rowsO_calls tu ru hu pu (some cb) slo shi _ UX.out hs1 hs2).mono ?_;rintro e wy ⟨o1,c1,rfl,hx⟩;have BX:=qA (BX.out.trans (Ext.but hx (λ_=>False)) (U:=λj=>j=tu) (λ_ _ e=>e) (λ_ _ e=>e.elim));have SX:=qA (SX.out.ext hx);have UX:=qA (UX.out.ext hx);have CX:=qA (CX.out.ext hx);refine hK.out _ _ ⟨⟨_,BX.out⟩,rfl⟩ (λ_=>?_);clear hK K hx;refine wp_takesC (f:=8) [10] (by kernel_rfl) (λ_ _ _ _ h=>h) ⟨⟨_,BX.out⟩,rfl⟩ ?_;simp only[opsAt,qD,qC,qB]
                repeat (go_big_quiet_step (fail))
                refine wpQuiet_nil ?_;refine wpAnyH_ready (rs:=[13]) (by kernel_rfl) (by simp) ?_;refine AllReadyH.cons rfl (λK hK=>?_) AllReadyH.nil;go_simp;refine (holdsO_calls tu ru hu pu (some cb) slo shi _ UX.out hs1 hs2).mono ?_;rintro e wz ⟨o2,c2,rfl,hx⟩;have BX:=qA (BX.out.trans (Ext.but hx (λ_=>False)) (U:=λj=>j=tu) (λ_ _ e=>e) (λ_ _ e=>e.elim));have SX:=qA (SX.out.ext hx);have UX:=qA (UX.out.ext hx);have CX:=qA (CX.out.ext hx);refine hK.out _ _ ⟨⟨_,BX.out⟩,rfl⟩ (λ_=>?_);clear hK K hx;refine wp_takesC (f:=5) [14,15] (by kernel_rfl) (λ_ _ _ _ h=>h) ⟨⟨_,BX.out⟩,rfl⟩ ?_;simp only[opsAt,qD,qC,qB]
                repeat (go_big_quiet_step (fail))
                refine wpQuiet_nil ?_;refine wpAnyH_ready (rs:=[17]) (by kernel_rfl) (by simp) ?_;refine AllReadyH.cons rfl (λK hK=>?_) AllReadyH.nil;go_simp;refine (stretchesO_calls tu ru hu pu (some cb) _ UX.out).mono ?_;rintro e wA ⟨o3,c3,rfl,hx⟩;have BX:=qA (BX.out.trans (Ext.but hx (λ_=>False)) (U:=λj=>j=tu) (λ_ _ e=>e) (λ_ _ e=>e.elim));have SX:=qA (SX.out.ext hx);have UX:=qA (UX.out.ext hx);have CX:=qA (CX.out.ext hx);refine hK.out _ _ ⟨⟨_,BX.out⟩,rfl⟩ (λ_=>?_);clear hK K hx;refine wp_takesC (f:=0) [18,19,20,21] (by kernel_rfl) (λ_ _ _ _ h=>h) ⟨⟨_,BX.out⟩,rfl⟩ ?_;simp only[opsAt,qD,qC,qB]
                repeat (go_big_quiet_step (fail))
                refine wpQuiet_nil ?_;refine wpAnyH_done (by kernel_rfl) ?_ _;clear q0 q1;by_cases hep:badN epoch=true
                · have OB:=qA (trOpenBad_calls tu ru hu pu (some cb) scheme epoch wA UX.out hep)
                  have hor:epoch<1\/(¬epoch<1/\1073741824<epoch):=by unfold badN at hep;simp at hep;omega
                  have XF:=qA SX.out.far;clear hep;rcases hor with h1 | ⟨h1,h2⟩
                  · go_wp2_with fail
                    refine OB.out.mono ?_;rintro e wB ⟨rfl,hx⟩;have XG:=qA (qJ XF.out hx);clear hx;go_wp2_with fail;go_ret;exact⟨rfl,XG.out⟩
                  · go_wp2_with fail
                    refine OB.out.mono ?_;rintro e wB ⟨rfl,hx⟩;have XG:=qA (qJ XF.out hx);clear hx;go_wp2_with fail;go_ret;exact⟨rfl,XG.out⟩
                · have h1:¬epoch<1:=by unfold badN at hep;simp at hep;omega
                  have h2:¬1073741824<epoch:=by unfold badN at hep;simp at hep;omega
                  have EPB:Hid (badN epoch=false):=qA (by simpa using hep);clear hep;have hR0:=trRows_calls k2 d2 noBytes noBytes wA SX.out.is (by decide) (by decide);rw[SX.out.tb,show inR noBytes.data.toList noBytes.data.toList d2.rows=d2.rows from inR_all SX.out.is.rt.rise SX.out.is.rt.ok]at hR0;obtain⟨n2,hn2⟩:∃n,n=d2.rows.length:=⟨_,rfl⟩;have hn4:n2<=400:=by rw[hn2];exact SX.out.is.rt.few
                  rw[<- hn2]at hR0
                  have hrl4:rs.length<=400:=by
                   have h4:rs.length<=d2.rows.length:=by rw[<- R2.out];unfold inR;rw[List.length_drop,List.length_take];omega
                   omega
                  have R0:=qA hR0;have N2:=qA hn2;clear hR0 hn2;go_wp2_with fail;refine R0.out.mono ?_;rintro e wB ⟨r,rfl,ho1,_,hx⟩;obtain⟨rO,rC,rfl⟩:=own_slice ho1;have SX:=qA (SX.out.ext hx);have UX:=qA (UX.out.ext hx);have CX:=qA (CX.out.ext hx);have hmB:wm.heap.size<=wB.heap.size:=qM BX.out.size hx.size;clear ho1 hx R0;obtain⟨i,hi1,hi2⟩:=closed_whole scheme HSP.out;rw[<- PSE.out]at hi1 hi2;have HSC:Hid (scheme≠0):=qA (by intro e;have h:=HBD.out;rw[e]at h;exact absurd h (by decide));have hxd:Ext wB wB.drew:=(qK _ wB).drew;have SXd:=qA (SX.out.ext hxd);have UXd:=qA (UX.out.ext hxd);have hOP:=trOpenG_calls wm.heap.size tu ru hu pu cb crb chb cpb crv chv rs hs d.ns scheme epoch slo shi wB.drew UXd.out (CX.out.ext hxd) ⟨UOM.out.lt _ (.inl rfl),UOM.out.lt _ (.inr (.inl rfl)),UOM.out.lt _ (.inr (.inr (.inl rfl))),UOM.out.lt _ (.inr (.inr (.inr rfl)))⟩ HBD.out EPB.out OV.out.all OV.out.pre OV.out.pe (by omega) OV.out.keys;rw[OV.out.put,OV.out.ins]at hOP;have OPN:=qA hOP;have I1:=qA hi1;have I2:=qA hi2;have s0:=SX.out.box.cell 0;have s1:=SX.out.box.cell 1;simp only[qB,qC]at s0 s1;have q0:=ButBy.cell (S:=λj=>¬V j) s0 (λe=>e SX.out.bV);have q1:=ButBy.cell (S:=λj=>¬V j) s1 (λe=>e SX.out.bV);clear hi1 hi2 hOP s0 s1 hxd UX CX BX;go_upto_region 27 with fail;refine wp_region_firstC (λW=>∃p:ButBy (λj=>¬V j) wB,W=p.W) [0,1,2] 36 (by kernel_rfl) (by kernel_rfl) (λ_ _ _ _ h=>h) ⟨⟨wB.drew,(But.refl _ wB).drew⟩,rfl⟩ ?_;simp only[opsAt,qD,qC,qB]
                  repeat (go_big_quiet_step (fail))
                  refine wpQuiet_nil ?_;refine wpAnyH_ready (rs:=[3]) (by kernel_rfl) (by simp) ?_;refine AllReadyH.cons rfl (λK hK=>?_) AllReadyH.nil;go_simp;refine OPN.out.mono ?_;rintro e wC ⟨rfl,⟨ku,hku,hTu,hou,hht⟩,hbO⟩;have SC:=qA (SXd.out.zed hbO (λb e=>e) UXd.out.noStr);obtain⟨DU,hDU⟩:∃x:TrD,x=⟨rs,hs,mergeK d.ns 8 (List.replicate 8 0),[⟨slo,shi,epoch,1,0⟩],scheme⟩:=⟨_,rfl⟩;rw[<- hDU]at hTu;have UC:=qA (show TrU wB.drew.heap.size (isZ tu ru hu pu) wC ku DU from ⟨hTu,hou,by rw[hDU];exact hht⟩);have BD:=qA ((Ext.but (qK _ wB).drew (λ_=>False)).trans hbO (U:=λb=>¬V b) (λ_ _ e=>e.elim) (λb _ e q=>SXd.out.vz b q e));have DR:=drop1_calls k2 d2 scheme i slo shi 1 wC SC.out.is (by rw[SC.out.ps];exact I1.out) (by rw[SC.out.ps];exact I2.out) (by rw[SC.out.en];exact HBD.out) hs1 hs2;rw[SC.out.tb]at DR;obtain⟨d4,hd4⟩:∃x,x=dropD scheme slo shi i d2:=⟨_,rfl⟩;rw[<- hd4]at DR;have DRP:=qA DR;have KU:=qA hku;have DUE:=qA hDU;have D4:=qA hd4;refine hK.out _ _ ⟨⟨_,BD.out⟩,rfl⟩ (λ_=>?_);clear hK K hTu hou hht hbO OPN hku hDU DR hd4;refine wp_takesC (f:=31) [4,5,6,7] (by kernel_rfl) (λ_ _ _ _ h=>h) ⟨⟨_,BD.out⟩,rfl⟩ ?_;simp only[opsAt,qD,qC,qB]
                  repeat (go_big_quiet_step (fail))
                  refine wpQuiet_nil ?_;refine wpAnyH_ready (rs:=[8]) (by kernel_rfl) (by simp) ?_;refine AllReadyH.cons rfl (λK hK=>?_) AllReadyH.nil;go_simp;refine DRP.out.mono ?_;rintro e wD ⟨rfl,hto⟩
                  have hxo:But k2.owns wC wD:=by
                   obtain⟨_,_,_,_,_,_,_,h⟩:=hto;exact h
                  have BD:=qA (BD.out.trans (SC.out.keep hto) (U:=λb=>¬V b) (λ_ _ e=>e) (λ_ _ e=>e.1));obtain⟨k4,hS4⟩:=SC.out.to (en':=scheme) hto (λe=>absurd e HSC.out) rfl (by rw[D4.out];rfl);have UE:=qA (UC.out.but hxo (λb _ e=>⟨SXd.out.is.owns_lt b e,(SC.out.low b e).2.2⟩));have S4:=qA hS4;have N4:Hid (d4.rows.length+rs.length=n2):=qA (by rw[D4.out,N2.out,<- R2.out];exact outR_len _ _ _);have E4:Hid (inR slo.data.toList shi.data.toList d4.rows=[]/\inD slo shi d4.holds=[]):=qA (by rw[D4.out];exact⟨inR_out SC.out.is.rt.rise HSP.out SC.out.is.rt.ok,inD_out _ _ _⟩);have XD:Hid (Ext wD wD):=qA (qK _ _);have RU:=trRows_calls ku DU noBytes noBytes wD UE.out.is (by decide) (by decide);rw[KU.out,show inR noBytes.data.toList noBytes.data.toList DU.rows=rs from by rw[DUE.out];exact OV.out.all]at RU;have RUH:=qA RU;refine hK.out _ _ ⟨⟨_,BD.out⟩,rfl⟩ (λ_=>?_);clear hK K hto hxo hS4 SC UC DRP RU;refine wp_takesC (f:=24) [9,10,11,12,13,15] (by kernel_rfl) (λ_ _ _ _ h=>h) ⟨⟨_,BD.out⟩,rfl⟩ ?_;simp only[opsAt,qD,qC,qB]
                  repeat (go_big_quiet_step (fail))
                  refine wpQuiet_nil ?_;refine wpAnyH_ready (rs:=[14]) (by kernel_rfl) (by simp) ?_;refine AllReadyH.cons rfl (λK hK=>?_) AllReadyH.nil;go_simp;refine RUH.out.mono ?_;rintro e wE ⟨r,rfl,ho1,_,hx⟩;obtain⟨ro2,rc2,rfl,_,_,hrw⟩:=Rows.own (enc:=encRw) (sz:=2) (λ_=>rfl) ho1;have XD:=qA (qJ XD.out hx);have BD:=qA (BD.out.trans (Ext.but hx (λ_=>False)) (U:=λb=>¬V b) (λ_ _ e=>e) (λ_ _ e=>e.elim));have SL:=qA (sameLines_calls rs rs ro2 ro rc2 rc wE (by omega) hrw ((S4.out.rrows.ext XD.out).mono XD.out.size));rw[decide_eq_true (rfl:rs=rs)]at SL;refine hK.out _ _ ⟨⟨_,BD.out⟩,rfl⟩ (λ_=>?_);clear hK K hx ho1 hrw RUH;refine wpAnyH_ready (rs:=[16]) (by kernel_rfl) (by simp) ?_;refine AllReadyH.cons rfl (λK hK=>?_) AllReadyH.nil;go_simp;refine SL.out.mono ?_;rintro e wF ⟨rfl,hx⟩;have XD:=qA (qJ XD.out hx);have BD:=qA (BD.out.trans (Ext.but hx (λ_=>False)) (U:=λb=>¬V b) (λ_ _ e=>e) (λ_ _ e=>e.elim));refine hK.out _ _ ⟨⟨_,BD.out⟩,rfl⟩ (λ_=>?_);clear hK K hx SL;refine wp_takesC (f:=16) [17,18,19,20,21,23] (by kernel_rfl) (λ_ _ _ _ h=>h) ⟨⟨_,BD.out⟩,rfl⟩ ?_;simp only[opsAt,qD,qC,qB]
                  repeat (go_big_quiet_step (fail))
                  refine wpQuiet_nil ?_;refine wpAnyH_ready (rs:=[22]) (by kernel_rfl) (by simp) ?_;refine AllReadyH.cons rfl (λK hK=>?_) AllReadyH.nil;go_simp;have HU:=trHolds_calls ku DU noBytes noBytes wF (UE.out.is.ext XD.out) (by decide) (by decide);rw[KU.out,show inD noBytes noBytes DU.holds=hs from by rw[DUE.out];exact OV.out.allH]at HU;refine HU.mono ?_;rintro e wG ⟨h,L2,rfl,hnL,h3',_,h5,_,hx⟩;obtain⟨ho2,hc2,rfl,_,_,hhw⟩:=Rows.own (enc:=encHV) (sz:=7) (λ_=>rfl) h3';have XD:=qA (qJ XD.out hx);have BD:=qA (BD.out.trans (Ext.but hx (λ_=>False)) (U:=λb=>¬V b) (λ_ _ e=>e) (λ_ _ e=>e.elim));have SHL:=qA (sameHolds_calls L2 L hs _ _ ho2 ho hc2 hc wG (by have h1:=S4.out.are.len;have h2:hs.length<=d2.holds.length:=(by rw[<- D2.out];exact List.length_filter_le _ _);have h3:=SXd.out.is.ht.few;omega) hhw ((S4.out.hrows.ext XD.out).mono XD.out.size) h5 (S4.out.are.ext XD.out) (by rw[<- D2.out];intro x hx;exact (SXd.out.is.ht.ok x (List.mem_filter.1 hx).1).1.fits));refine hK.out _ _ ⟨⟨_,BD.out⟩,rfl⟩ (λ_=>?_);clear hK K hx h3' h5 hnL hhw HU;refine wpAnyH_ready (rs:=[24]) (by kernel_rfl) (by simp) ?_;refine AllReadyH.cons rfl (λK hK=>?_) AllReadyH.nil;go_simp;refine SHL.out.mono ?_;rintro e wH ⟨rfl,hx⟩;have XD:=qA (qJ XD.out hx);have BD:=qA (BD.out.trans (Ext.but hx (λ_=>False)) (U:=λb=>¬V b) (λ_ _ e=>e) (λ_ _ e=>e.elim));refine hK.out _ _ ⟨⟨_,BD.out⟩,rfl⟩ (λ_=>?_);clear hK K hx SHL;refine wp_takesC (f:=7) [25,26,27,28,29,32,33] (by kernel_rfl) (λ_ _ _ _ h=>h) ⟨⟨_,BD.out⟩,rfl⟩ ?_;simp only[opsAt,qD,qC,qB]
                  repeat (go_big_quiet_step (fail))
                  refine wpQuiet_nil ?_;refine wpAnyH_ready (rs:=[30]) (by kernel_rfl) (by simp) ?_;refine AllReadyH.cons rfl (λK hK=>?_) AllReadyH.nil;go_simp;have RT:=trRows_calls k4 d4 slo shi wH (S4.out.is.ext XD.out) hs1 hs2;rw[S4.out.tb,E4.out.1,List.length_nil]at RT;refine RT.mono ?_;rintro e wI ⟨r,rfl,ho1,_,hx⟩;obtain⟨ro3,rc3,rfl⟩:=own_slice ho1;have XD:=qA (qJ XD.out hx);have BD:=qA (BD.out.trans (Ext.but hx (λ_=>False)) (U:=λb=>¬V b) (λ_ _ e=>e) (λ_ _ e=>e.elim));refine hK.out _ _ ⟨⟨_,BD.out⟩,rfl⟩ (λ_=>?_);clear hK K hx ho1 RT;refine wp_takesC (f:=5) [31] (by kernel_rfl) (λ_ _ _ _ h=>h) ⟨⟨_,BD.out⟩,rfl⟩ ?_;simp only[opsAt,qD,qC,qB]
                  repeat (go_big_quiet_step (fail))
                  refine wpQuiet_nil ?_;refine wpAnyH_ready (rs:=[34]) (by kernel_rfl) (by simp) ?_;refine AllReadyH.cons rfl (λK hK=>?_) AllReadyH.nil;go_simp;have HT:=trHolds_calls k4 d4 slo shi wI (S4.out.is.ext XD.out) hs1 hs2;rw[S4.out.tb,E4.out.2]at HT;refine HT.mono ?_;rintro e wJ ⟨h,L3,rfl,hn0,h3',_,_,_,hx⟩;obtain⟨ho3,hc3,rfl⟩:=own_slice h3';rw[hn0,List.length_nil];have XD:=qA (qJ XD.out hx);have BD:=qA (BD.out.trans (Ext.but hx (λ_=>False)) (U:=λb=>¬V b) (λ_ _ e=>e) (λ_ _ e=>e.elim));refine hK.out _ _ ⟨⟨_,BD.out⟩,rfl⟩ (λ_=>?_);clear hK K hx h3' hn0 HT;refine wp_takesC (f:=0) [35,36,37,38] (by kernel_rfl) (λ_ _ _ _ h=>h) ⟨⟨_,BD.out⟩,rfl⟩ ?_;simp only[opsAt,qD,qC,qB]
                  repeat (go_big_quiet_step (fail))
                  refine wpQuiet_nil ?_;refine wpAnyH_done (by kernel_rfl) ?_ _;clear q0 q1;have R4:=trRows_calls k4 d4 noBytes noBytes wJ (S4.out.is.ext XD.out) (by decide) (by decide);rw[S4.out.tb,show inR noBytes.data.toList noBytes.data.toList d4.rows=d4.rows from inR_all S4.out.is.rt.rise S4.out.is.rt.ok]at R4;obtain⟨n4,hn4e⟩:∃n,n=d4.rows.length:=⟨_,rfl⟩;rw[<- hn4e]at R4 N4;have hEQ:(n4:Int)=(n2:Int) - (rs.length:Int):=by have:=N4.out;omega
                  have hEQ2:((n4:Int)==(n2:Int) - (rs.length:Int))=true:=by rw[hEQ];simp
                  have R4H:=qA R4;have XF:=qA (qJ S4.out.far XD.out);clear R4 hEQ hn4e;by_cases hm0:0<m.length
                  · have hm1:(0:Int)<(m.length:Int):=by omega
                    go_wp2_with fail;refine R4H.out.mono ?_;rintro e wK ⟨r,rfl,ho1,_,hx⟩;obtain⟨ro4,rc4,rfl⟩:=own_slice ho1;have XG:=qA (qJ XF.out hx);clear hx ho1 R4H;go_wp2_with fail;go_ret;exact⟨rfl,XG.out⟩
                  · have hm1:¬(0:Int)<(m.length:Int):=by omega
                    have hd21:=J0.out (by omega);have hL:=S4.out.are.len;have hHL:(outD slo shi d2.holds).length+hs.length=d2.holds.length:=by rw[<- D2.out];exact inD_out_len _ _ _
                    have hAN:an=n2:=by rw[AN.out,inR_all HI.out.is.rt.rise HI.out.is.rt.ok,N2.out,hd21,D1.out]
                    have hAH:ah=d2.holds.length:=by rw[AH.out,inD_allT HI.out.is.ht.ok,hd21,D1.out]
                    have H4:=λW (hW:Ext wJ W)=>trHolds_calls k4 d4 noBytes noBytes W (S4.out.is.ext (qJ XD.out hW)) (by decide) (by decide);rw[S4.out.tb,show inD noBytes noBytes d4.holds=d4.holds from inD_allT S4.out.is.ht.ok]at H4;obtain⟨h4,hh4⟩:∃n,n=d4.holds.length:=⟨_,rfl⟩;have hEQ3:((n2:Int) - (rs.length:Int)==(an:Int) - (rs.length:Int))=true:=by rw[hAN];simp
                    have hh5:h4+L.length=ah:=by rw[hh4,D4.out,hAH];show (outD slo shi d2.holds).length+_=_;omega
                    have ha60:ah<=60:=by rw[hAH];exact SXd.out.is.ht.few
                    have hL60:L.length<=60:=by omega
                    have han4:an<=400:=by rw[hAN];exact hn4
                    have hEQ4:((h4:Int)==(ah:Int) - (L.length:Int))=true:=by
                     have:(h4:Int)=(ah:Int) - (L.length:Int):=by omega
                     rw[this];simp
                    have H4H:=qA H4;have HH4:=qA hh4;clear hd21 hL hHL hAN hAH H4 hh4 hh5;go_wp2_with fail;refine R4H.out.mono ?_;rintro e wK ⟨r,rfl,ho1,_,hx⟩;obtain⟨ro4,rc4,rfl⟩:=own_slice ho1;have XG:=qA (qJ XF.out hx);have HK:=qA (H4H.out wK hx);clear hx ho1 R4H H4H;go_wp2_with fail;refine HK.out.mono ?_;rintro e wL ⟨h,L4,rfl,hn0,h3',_,_,_,hx⟩;obtain⟨ho4,hc4,rfl⟩:=own_slice h3';rw[hn0,<- HH4.out];have XL:=qA (qJ XG.out hx);clear hx h3' hn0 HK;go_wp2_with fail;go_ret;exact⟨rfl,XL.out⟩
end Go.Proofs.YtmpmggejhnmakaaGreatDoor
