/- tract.Open at a tract of nothing, with a cargo. -/
import Derived.Test.YtmpmggejhnmakaaGreatDoorZ44
import Derived.Test.YtmpmggejhnmakaaGreatDoorZ50
import Derived.Test.YtmpmggejhnmakaaGreatDoorZ49
import Derived.Test.YtmpmggejhnmakaaGreatDoorZ29
import Derived.Test.YtmpmggejhnmakaaGreatDoorZ01
set_option maxRecDepth 100000
set_option maxHeartbeats 6400000
namespace Go.Proofs.YtmpmggejhnmakaaGreatDoor
open Go.RowKit
theorem trOpenG_calls (B tb rb hb pb cb crb chb cpb:Nat)(crv chv:Value)(rs:List RowD)(ds:List HoldD)(ns:List Int)(scheme ep:Int)(lo hi:ByteArray)(w:World)(T:TrO w tb rb hb pb (some cb))(C:CgG B w cb crb chb cpb crv chv rs ds ns scheme lo hi)(h1:tb<B/\rb<B/\hb<B/\pb<B)(hbd:beforeD scheme true 0=(0,true))(hep:badN ep=false)(hin:inR [] [] rs=rs)(hput:putRE rs []=0)(hpd:putE ds []=0)(hsm:lo.size<=1000/\hi.size<=1000)(hks:∀x∈rs,x.key.size<=1000):
 Calls Tryz.prog 21 #[.pointer (some ⟨tb,0,none⟩),.int .i64 scheme,.int .i64 ep] w λe w'=>e= .returned (.int .i64 0)/\(∃k:TrK,k.tb=tb/\TrIs w' k ⟨putAllR rs [],insAll ds [],mergeK ns 8 (List.replicate 8 0),[⟨lo,hi,ep,1,0⟩],scheme⟩/\(∀b,k.owns b->(b=tb\/b=rb\/b=hb\/b=pb)\/w.heap.size<=b)/\TabN (λb=>b<w.heap.size\/k.noH b) w' k.hb k.hv (insAll ds []))/\But (λj=>j=tb\/j=rb\/j=hb\/j=pb) w w':=by
 have HBF:=qA (λW (hW:Ext w W)=>by
  have b:=T.bt.ext' hW;have c4:=b.cell 4;have c6:=b.cell 6;simp only[qB,qC]at c4 c6
  have:=before_calls tb scheme 0 true W c4 c6
  rwa [hbd]at this)
 have hfew:=C.ta.rt.few;have HT:=qA T;have HC:=qA C;have H1:=qA h1;have HIN:=qA hin;have HPE:=qA hput;have HPD:=qA hpd;have HKS:=qA hks;have HEP:=qA hep;clear T C h1 hbd hin hput hpd hks hep;go_enter Tryz.func21,Tryz.ntmps21;go_wp2_with fail;have HN1:=qA (number_calls1 ep w.heap.size 1 (w.alloc (.cells #[.int .i64 ep] 3)) ((Blk.new w [.int .i64 ep] 3).cell 0));rw[HEP.out]at HN1;refine HN1.out.mono ?_;rintro e w1 ⟨rfl,hx⟩;have X1:=qA (qJ ((qK _ w).alloc (qL _) (.cells #[.int .i64 ep] 3)) hx);clear hx HN1;go_wp2_with fail;refine (HBF.out w1 X1.out).mono ?_;rintro e w2 ⟨rfl,hx⟩;have hx2:=qJ X1.out hx;have T2:=qA (HT.out.ext hx2);have C2:=qA (HC.out.ext hx2);have G2:=qA hx2;clear hx hx2 X1 HBF HT HC;have t0:=T2.out.bt.cell 0;have t5:=T2.out.bt.cell 5;have k0:=C2.out.bc.cell 0;have k3:=C2.out.bc.cell 3;simp only[qB,qC,Option.map_some]at t0 t5 k0 k3;have hcbr:¬cb=rb:=by have:=C2.out.cl;have:=H1.out;omega
 have htbr:¬tb=rb:=blk_neG T2.out.bt T2.out.rt.blk (by decide);go_upto_region 7 with fail;have q0:=ButBy.cell (S:=λj=>j=rb) t0 htbr;have q1:=ButBy.cell (S:=λj=>j=rb) k0 hcbr;refine wp_region_firstC (λW=>∃p:ButBy (λj=>j=rb) w2,W=p.W) [0,1,2,3,4,5,6,7,8,9] 3 (by kernel_rfl) (by kernel_rfl) (λ_ _ _ _ h=>h) ⟨⟨w2.drew,(But.refl _ w2).drew⟩,rfl⟩ ?_;simp only[opsAt,qD,qC,qB]
 repeat (go_big_quiet_step (fail))
 refine wpQuiet_nil ?_;clear q0 q1 t0 t5 k0 k3;refine wpAnyH_ready (rs:=[10]) (by kernel_rfl) (by simp) ?_;refine AllReadyH.cons rfl (λK hK=>?_) AllReadyH.nil;go_simp;refine (spanAll_calls _).mono ?_;rintro e w3 ⟨rfl,hx⟩;have X3:=qA (qJ (qK _ w2).drew hx);clear hx;refine hK.out _ _ ⟨⟨_,Ext.but X3.out _⟩,rfl⟩ (λ_=>?_);clear hK K;refine wpAnyH_ready (rs:=[11]) (by kernel_rfl) (by simp) ?_;refine AllReadyH.cons rfl (λK hK=>?_) AllReadyH.nil;go_simp;refine (inT_calls crb crv rs noBytes noBytes w3 (C2.out.ta.rt.ext X3.out) (by decide) (by decide)).mono ?_;rw[show inR noBytes.data.toList noBytes.data.toList rs=rs from HIN.out];rintro e w4 ⟨r,rfl,ho,hj,hx⟩;obtain⟨ro,rc,rfl,_,_,hrw⟩:=Rows.own (enc:=encRw) (sz:=2) (λ_=>rfl) ho;have X4:=qA (qJ X3.out hx);have HP:=qA (rowsPut_calls rb _ [] rs ro rc w4 (T2.out.rt.ext X4.out) (by omega) hrw (λx hx=>qM (HKS.out x hx) (by omega)));rw[HPE.out]at HP;clear ho hj hx hrw X3;refine hK.out _ _ ⟨⟨_,Ext.but X4.out _⟩,rfl⟩ (λ_=>?_);clear hK K;refine wpAnyH_ready (rs:=[12]) (by kernel_rfl) (by simp) ?_;refine AllReadyH.cons rfl (λK hK=>?_) AllReadyH.nil;go_simp;refine HP.out.mono ?_;rintro e w5 ⟨rfl,⟨rv,hrt,hrf⟩,hb5⟩;rw[show putRT rs []=putAllR rs [] from by unfold putRT;rw[if_pos HPE.out]]at hrt;have hB5:=(Ext.but X4.out (λ_=>False)).trans hb5 (U:=λj=>j=rb) (λ_ _ e=>e.elim) (λ_ _ e=>e);have RT:=qA hrt
 have RF:=qA (show ∀j,rv.ownBlock=some j->w2.heap.size<=j from λj hj=>by
  rcases hrf with rfl | hrf
  · simp[Value.ownBlock]at hj
  · have:=hrf j hj;have:=X4.out.size;omega)
 have BT5:=qA (T2.out.bt.but hB5 htbr);have HT5:=qA (T2.out.ht.but' hB5 (blk_neG T2.out.ht.blk T2.out.rt.blk (by decide)) (by simp[Value.ownBlock]) (λ_ _ _=>trivial));have PT5:=qA (T2.out.pt.but hB5 (blk_neG T2.out.pt.blk T2.out.rt.blk (by decide)));have C5:=qA (C2.out.but hB5 (λb e=>by subst e;exact H1.out.2.1));have S5:=qA hB5.size;have G5:=qA ((Ext.but G2.out (λ_=>False)).trans hB5 (U:=λj=>j=tb\/j=rb\/j=hb\/j=pb) (λ_ _ e=>e.elim) (λ_ _ e=> .inr (.inl e)));refine hK.out _ _ ⟨⟨_,hB5⟩,rfl⟩ (λ_=>?_);clear hK K hrt hrf hb5 hB5 HP X4 T2 C2 hcbr htbr;refine wpAnyH_done (by kernel_rfl) ?_ _;have t1:=BT5.out.cell 1;have k0:=C5.out.bc.cell 0;have k1:=C5.out.bc.cell 1;have k2:=C5.out.bc.cell 2;simp only[qB,qC]at t1 k0 k1 k2;have hcbh:¬cb=hb:=by have:=C5.out.cl;have:=H1.out;omega
 have htbh:¬tb=hb:=blk_neG BT5.out HT5.out.blk (by decide);have q0:=ButBy.cell (S:=λj=>j=hb) t1 htbh;have q1:=ButBy.cell (S:=λj=>j=hb) k0 hcbh;have q2:=ButBy.cell (S:=λj=>j=hb) k1 hcbh;have q3:=ButBy.cell (S:=λj=>j=hb) k2 hcbh;go_upto_region 8 with fail;refine wp_region_firstC (λW=>∃p:ButBy (λj=>j=hb) w5,W=p.W) [0,1,2,3,4,5,6,7,8] 2 (by kernel_rfl) (by kernel_rfl) (λ_ _ _ _ h=>h) ⟨⟨w5.drew,(But.refl _ w5).drew⟩,rfl⟩ ?_;simp only[opsAt,qD,qC,qB]
 repeat (go_big_quiet_step (fail))
 refine wpQuiet_nil ?_;clear q0 q1 q2 q3 t1 k0 k1 k2;refine wpAnyH_ready (rs:=[9]) (by kernel_rfl) (by simp) ?_;refine AllReadyH.cons rfl (λK hK=>?_) AllReadyH.nil;go_simp;refine (all_calls crb chb cpb _ ds w5.drew _ (C5.out.ta.ht.ext (qK _ w5).drew)).mono ?_;rintro e w6 ⟨r,l',rfl,hn,ho,hj,ha,_,hx⟩;obtain⟨ra,rc,rfl⟩:=own_slice ho;have hl6:l'.length<=60:=by rw[hn];exact C5.out.ta.ht.few
 have hhl:hb<w5.drew.heap.size:=(HT5.out.blk.drew).lt;have X6:=qA (qJ (qK _ w5).drew hx);have HP:=qA (put_calls hb _ [] l' ds ra rc w6 (tab0G (no1:=λb=>b<w6.heap.size) (HT5.out.ext X6.out)) (by omega) (nrows_of_own (λ_=>rfl) ho (λj hj2 e=>by have:=hj j hj2;exact e.elim (λe=>by omega) (λe=>by simp[Value.ownBlock]at e))) (ha.mono (λb _ e=>e.elim (λe=> .inr (by omega)) (λe=>by simp[Value.ownBlock]at e))) (λd hd=>(C5.out.ta.ht.ok d hd).1) (λ_ e=>e));clear hn ho hj ha hx;refine hK.out _ _ ⟨⟨_,Ext.but X6.out _⟩,rfl⟩ (λ_=>?_);clear hK K;refine wpAnyH_ready (rs:=[10]) (by kernel_rfl) (by simp) ?_;refine AllReadyH.cons rfl (λK hK=>?_) AllReadyH.nil;go_simp;refine HP.out.mono ?_;rintro e w7 ⟨rfl,⟨hv,hht,hhf⟩,hb7,_⟩;rw[show putT ds []=insAll ds [] from by unfold putT;rw[if_pos HPD.out]]at hht;have hB7:=(Ext.but X6.out (λ_=>False)).trans (hb7.mono (λ_ _ e=>e.elim id (λe=>by simp[Value.ownBlock]at e))) (U:=λj=>j=hb) (λ_ _ e=>e.elim) (λ_ _ e=>e);have HT7:=qA hht;have SW:=qA (qM G2.out.size (qM S5.out X6.out.size))
 have LK:=qA (show tb<w6.heap.size/\rb<w6.heap.size/\pb<w6.heap.size/\∀j,rv.ownBlock=some j->j<w6.heap.size from by
  have h:=X6.out.size
  exact⟨qN BT5.out.lt h,qN RT.out.blk.lt h,qN PT5.out.blk.lt h,λj e=>qN (RT.out.row.lt j e).2 h⟩)
 have HF:=qA (show ∀j,hv.ownBlock=some j->w2.heap.size<=j from λj hj=>by
  rcases hhf j hj with e | e
  · simp[Value.ownBlock]at e
  · have:=X6.out.size;have:=S5.out;omega)
 have BT7:=qA (BT5.out.but hB7 htbh);have RT7:=qA (RT.out.but hB7 (blk_neG RT.out.blk HT5.out.blk (by decide)) (λj hj e=>own_bk RT.out.row HT5.out.blk (by decide) (e▸hj)));have PT7:=qA (PT5.out.but hB7 (blk_neG PT5.out.blk HT5.out.blk (by decide)));have C7:=qA (C5.out.but hB7 (λb e=>by subst e;exact H1.out.2.2.1));have S7:=qA (qM S5.out hB7.size);have G7:=qA (G5.out.trans hB7 (U:=λj=>j=tb\/j=rb\/j=hb\/j=pb) (λ_ _ e=>e) (λ_ _ e=> .inr (.inr (.inl e))));refine hK.out _ _ ⟨⟨_,hB7⟩,rfl⟩ (λ_=>?_);clear hK K hht hhf hb7 hB7 HP X6 HT5 BT5 RT PT5 C5 S5 hcbh htbh;refine wpAnyH_done (by kernel_rfl) ?_ _;have t2:=BT7.out.cell 2;have k2:=C7.out.bc.cell 2;simp only[qB,qC]at t2 k2;have hcbp:¬cb=pb:=by have:=C7.out.cl;have:=H1.out;omega
 have htbp:¬tb=pb:=blk_neG BT7.out PT7.out.blk (by decide);have q0:=ButBy.cell (S:=λj=>j=pb) t2 htbp;have q1:=ButBy.cell (S:=λj=>j=pb) k2 hcbp;go_upto_region 9 with fail;refine wp_region_firstC (λW=>∃p:ButBy (λj=>j=pb) w7,W=p.W) [0,1,2,3,4,5,6,7,8,9] 2 (by kernel_rfl) (by kernel_rfl) (λ_ _ _ _ h=>h) ⟨⟨w7.drew,(But.refl _ w7).drew⟩,rfl⟩ ?_;simp only[opsAt,qD,qC,qB]
 repeat (go_big_quiet_step (fail))
 refine wpQuiet_nil ?_;clear q0 q1 t2 k2;obtain⟨w8,hw8⟩:∃w8,w8=w7.drew:=⟨_,rfl⟩;have X8:Ext w7 w8:=by rw[hw8];exact (qK _ w7).drew
 rw[<- hw8];clear hw8;refine wpAnyH_ready (rs:=[10]) (by kernel_rfl) (by simp) ?_;refine AllReadyH.cons rfl (λK hK=>?_) AllReadyH.nil;go_simp;have hxa:Ext w7 (w8.alloc (.cells #[.pointer (some ⟨cpb,0,none⟩)] 80)):=qJ X8 ((qK _ w8).alloc (qL _) _);have HM:=qA (merge1_calls pb cpb w8.heap.size 1 _ ns (w8.alloc (.cells #[.pointer (some ⟨cpb,0,none⟩)] 80)) (PT7.out.ext hxa) (C7.out.ta.pt.ext hxa) ((Blk.new w8 [.pointer (some ⟨cpb,0,none⟩)] 80).cell 0));have XA:=qA hxa;clear hxa X8;refine hK.out _ _ ⟨⟨_,Ext.but XA.out _⟩,rfl⟩ (λ_=>?_);clear hK K;refine wpAnyH_ready (rs:=[11]) (by kernel_rfl) (by simp) ?_;refine AllReadyH.cons rfl (λK hK=>?_) AllReadyH.nil;go_simp;refine HM.out.mono ?_;rintro e w9 ⟨rfl,hp9,hb9⟩;have hB9:=(Ext.but XA.out (λ_=>False)).trans hb9 (U:=λj=>j=pb) (λ_ _ e=>e.elim) (λ_ _ e=>e);have PT9:=qA hp9;have BT9:=qA (BT7.out.but hB9 htbp);have RT9:=qA (RT7.out.but hB9 (blk_neG RT7.out.blk PT7.out.blk (by decide)) (λj hj e=>own_bk RT7.out.row PT7.out.blk (by decide) (e▸hj)));have HT9:=qA (HT7.out.but' hB9 (blk_neG HT7.out.blk PT7.out.blk (by decide)) (λj hj e=>by obtain⟨_,_,h⟩:=HT7.out.own;exact own_bk h PT7.out.blk (by decide) (e▸hj)) (λb _ e=>by have e':b=pb:=e;have:=LK.out;omega));have C9:=qA (C7.out.but hB9 (λb e=>by subst e;exact H1.out.2.2.2));have S9:=qA (qM S7.out hB9.size);have G9:=qA (G7.out.trans hB9 (U:=λj=>j=tb\/j=rb\/j=hb\/j=pb) (λ_ _ e=>e) (λ_ _ e=> .inr (.inr (.inr e))));refine hK.out _ _ ⟨⟨_,hB9⟩,rfl⟩ (λ_=>?_);clear hK K hp9 hb9 hB9 HM XA HT7 BT7 RT7 PT7 C7 S7 hcbp htbp
 refine wpAnyH_done (by kernel_rfl) ?_ _;have t3:=BT9.out.cell 3;have k4:=C9.out.bc.cell 4;simp only[qB,qC]at t3 k4;have q0:=ExtBy.cell t3;have q1:=ExtBy.cell k4;go_upto_region 10 with fail;refine wp_region_firstC (λW=>∃p:ExtBy w9,W=p.W) [0,1,2,3,4,5,6,7,8] 6 (by kernel_rfl) (by kernel_rfl) (λ_ _ _ _ h=>h) ⟨⟨w9.drew,(qK _ w9).drew⟩,rfl⟩ ?_;simp only[opsAt,qD,qC,qB]
 repeat (go_big_quiet_step (fail))
 refine wpQuiet_nil ?_;clear q0 q1 t3 k4;refine wpAnyH_ready (rs:=[9]) (by kernel_rfl) (by simp) ?_;refine AllReadyH.cons rfl (λK hK=>?_) AllReadyH.nil;go_simp;refine (bs0_calls lo _).mono ?_;rintro e wa ⟨rfl,hx⟩;have XA:=qA (qJ (qK _ w9).drew hx);clear hx;refine hK.out _ _ ⟨⟨_,XA.out⟩,rfl⟩ (λ_=>?_);clear hK K;refine wp_takesC (f:=0) [10,11,12,13,14] (by kernel_rfl) (λ_ _ _ _ h=>h) ⟨⟨_,XA.out⟩,rfl⟩ ?_;simp only[opsAt,qD,qC,qB]
 repeat (go_big_quiet_step (fail))
 refine wpQuiet_nil ?_;refine wpAnyH_done (by kernel_rfl) ?_ _;have BTa:=qA (BT9.out.ext' XA.out);have Ca:=qA (C9.out.ext XA.out);have k4:=Ca.out.bc.cell 4;have k5:=Ca.out.bc.cell 5;simp only[qB,qC]at k4 k5;have hsb:=Blk.new wa (encSt ⟨lo,hi,ep,1,0⟩) 92;have hxb:Ext wa (wa.alloc (.cells (encSt ⟨lo,hi,ep,1,0⟩).toArray 92)):=(qK _ wa).alloc (qL _) _;have HR:=trReplace0_calls ⟨lo,hi,ep,1,0⟩ tb wa.heap.size 1 _ _ _ _ _ _ _ (BTa.out.ext' hxb) hsb;simp only[encSt]at HR hxb;have HRR:=qA HR;have XB:=qA hxb;clear HR hsb hxb;go_wp2_with fail;refine HRR.out.mono ?_;rintro e wb ⟨rfl,pv,hb1,hb2,hb3,hb4⟩;have hX:Ext w9 (wa.alloc (.cells #[.string lo,.string hi,.int .i64 ep,.int .u8 1,.int .i64 0] 92)):=qJ XA.out XB.out;have f5:=hb1.free 5;have f4:=hb1.free 4;have c5:=hb1.cell 5;have c4:=hb1.cell 4;simp only[qB,qC]at c5 c4;have BTb:=qA hb1;have OB:=qA hb2;have OF:=qA hb3;have XX:=qA ((Ext.but hX (λ_=>False)).trans hb4 (U:=λj=>j=tb) (λ_ _ e=>e.elim) (λ_ _ e=>e));clear hb1 hb2 hb3 hb4 hX k4 k5 HRR;go_wp2_with fail;go_ret
 have NOH:=qA (show ∀b,b<w9.heap.size->(⟨tb,rb,hb,pb,rv,hv,pv⟩:TrK).noH b->b<w6.heap.size from λb hb9 e=>by
  have hk:=LK.out;rcases e with e | e | e | e | e
  · have e':b=tb:=e;omega
  · have e':b=rb:=e;omega
  · have e':b=pb:=e;omega
  · exact hk.2.2.2 b e
  · have:=OF.out b e;have:=XB.out.size;have:=XA.out.size;omega)
 have hset:But (λj=>j=tb) wb ((wb.setCell ⟨tb,5,none⟩ (.pointer none)).setCell ⟨tb,4,none⟩ (.int .i64 scheme)):=But.set2 wb tb 5 4 _ _;have hall:=XX.out.trans hset (U:=λj=>j=tb) (λ_ _ e=>e) (λ_ _ e=>e);have HTE:=((HT9.out.mono' (no1:=λb=>b<w.heap.size\/(⟨tb,rb,hb,pb,rv,hv,pv⟩:TrK).noH b) (λb hb e=>e.elim (λe=>qN e SW.out) (NOH.out b hb))).but' hall (blk_neG HT9.out.blk BT9.out (by decide)) (λj hj e=>by obtain⟨_,_,h⟩:=HT9.out.own;exact own_bk h BT9.out (by decide) (e▸hj)) (λb _ e=> .inr (.inl e)));refine⟨rfl,⟨⟨tb,rb,hb,pb,rv,hv,pv⟩,rfl,⟨(BTb.out.set 5 _).set 4 _,RT9.out.but hall (blk_neG RT9.out.blk BT9.out (by decide)) (λj hj e=>own_bk RT9.out.row BT9.out (by decide) (e▸hj)),HTE.mono' (λ_ _ e=> .inr e),PT9.out.but hall (blk_neG PT9.out.blk BT9.out (by decide)),?_,?_,by simp⟩,λb e=>?_,HTE⟩,G9.out.trans hall (λ_ _ e=>e) (λ_ _ e=> .inl e)⟩
 · exact own_but OB.out hset (λj hj e=>by have:=OF.out j hj;have:=BTa.out.lt;have:=XB.out.size;omega)
 · intro s hs
   rw[List.mem_singleton]at hs;subst hs;exact⟨by show lo.size<=_;omega,by show hi.size<=_;omega⟩
 · have hg:=G2.out.size
   rcases e with e | e | e | e | e | e | e
   · exact .inl (.inl e)
   · exact .inl (.inr (.inl e))
   · exact .inl (.inr (.inr (.inl e)))
   · exact .inl (.inr (.inr (.inr e)))
   · exact .inr (qM hg (RF.out b e))
   · exact .inr (qM hg (HF.out b e))
   · have:=OF.out b e;have:=XB.out.size;have:=XA.out.size;have:=S9.out;exact .inr (by omega)
end Go.Proofs.YtmpmggejhnmakaaGreatDoor
/- TractHandoff: what is absorbed, plainly; Open at an epoch out of its range. -/
namespace Go.Proofs.YtmpmggejhnmakaaGreatDoor
open Go.RowKit
theorem inR_all {l:List RowD}(h:RiseR l)(hok:∀r∈l,rwB r=true):inR [] [] l=l:=by
 rw[inR_filter h (by decide) hok,List.filter_eq_self];intro r hr;have h1:=hok r hr;unfold rwB at h1;simp only[Bool.and_eq_true]at h1;unfold spR hasB;rw[h1.1];simp[spanB,aboveB]
theorem inD_out (lo hi:ByteArray)(ds:List HoldD):inD lo hi (outD lo hi ds)=[]:=by
 unfold inD outD;rw[List.filter_filter,List.filter_eq_nil_iff];intro d _;simp
theorem inD_out_len (lo hi:ByteArray)(ds:List HoldD):(outD lo hi ds).length+(inD lo hi ds).length=ds.length:=by
 unfold inD outD
 induction ds with
 | nil=>rfl
 | cons d ds ih=>
   rw[List.filter_cons,List.filter_cons];cases d.tells λk _ _=>hasB lo.data.toList hi.data.toList k.data.toList<;>simp<;>omega
structure Over (slo shi:ByteArray)(d:TrD)(rs:List RowD)(hs:List HoldD):Prop where
 put:putAllR rs []=rs
 ins:insAll hs []=hs
 good:GoodG ⟨false,tabW slo shi d⟩ rs hs d.ns ⟨false,[]⟩
 inr:inR slo.data.toList shi.data.toList rs=rs
 ind:inD slo shi hs=hs
 room:rs.length+newsD hs rs<=400
 pre:putRE rs []=0
 pe:putE hs []=0
 all:inR [] [] rs=rs
 allH:inD noBytes noBytes hs=hs
 len:(tabW slo shi d).length<=140000000000000
 keys:∀x∈rs,x.key.size<=1000
theorem over_of {w:World}{k:TrK}{d:TrD}{slo shi:ByteArray}{rs:List RowD}{hs:List HoldD}(T:TrIs w k d)(hr:Roomy d.rows d.holds)(hsp:spanB slo.data.toList shi.data.toList=true)(h1:rs=inR slo.data.toList shi.data.toList d.rows)(h2:hs=inD slo shi d.holds):Over slo shi d rs hs:=by
 have hrr:=inR_rise (lo:=slo.data.toList) (hi:=shi.data.toList) T.rt.rise;have hro:∀r∈inR slo.data.toList shi.data.toList d.rows,rwB r=true:=λr hr=>T.rt.ok r (inR_mem hr)
 have hrl:(inR slo.data.toList shi.data.toList d.rows).length<=400:=by
  have:=T.rt.few
  unfold inR;rw[List.length_drop,List.length_take];omega
 have hdr:RiseD (inD slo shi d.holds):=rise_filter T.ht.rise _;have hdo:∀x∈inD slo shi d.holds,x.ok/\holdB x=true:=λx hx=>T.ht.ok x (inD_mem hx);have hdl:(inD slo shi d.holds).length<=60:=qM (List.length_filter_le _ _) T.ht.few;have hpe:=putE_id hdr (λx hx=>(hdo x hx).2) hdl;subst h1 h2;refine⟨putAllR_self hrr,insAll_id hdr,tab_back T slo shi hpe,inR_in T.rt.rise hsp T.rt.ok,inD_in _ _ _,room_in (T.good hr) hsp,putRE_self hrr hro hrl,hpe,inR_all hrr hro,inD_allT hdo,qM (tabW_len T _ _) (by omega),λx hx=>?_⟩;have h:=hro x hx;unfold rwB keyL at h;simp only[Bool.and_eq_true,decide_eq_true_eq]at h;have h3:x.key.data.toList.length<=20:=h.1.1.2;rw[size_data]at h3<;>omega
theorem trOpenBad_calls (tb rb hb pb:Nat)(c:Option Nat)(scheme ep:Int)(w:World)(T:TrO w tb rb hb pb c)(hep:badN ep=true):
 Calls Tryz.prog 21 #[.pointer (some ⟨tb,0,none⟩),.int .i64 scheme,.int .i64 ep] w λe w'=>e= .returned (.int .i64 2)/\Ext w w':=by
 have HBF:=qA (λW (hW:Ext w W)=>by
  have b:=T.bt.ext' hW;have c4:=b.cell 4;have c6:=b.cell 6;simp only[qB,qC]at c4 c6
  have:=before_calls tb scheme 0 false W c4 c6
  rwa [show beforeD scheme false 0=(2,false) from by unfold beforeD;rw[if_pos (by simp)]]at this)
 have HEP:=qA hep;clear T hep;go_enter Tryz.func21,Tryz.ntmps21;go_wp2_with fail;have HN1:=qA (number_calls1 ep w.heap.size 1 (w.alloc (.cells #[.int .i64 ep] 3)) ((Blk.new w [.int .i64 ep] 3).cell 0));rw[HEP.out]at HN1;refine HN1.out.mono ?_;rintro e w1 ⟨rfl,hx⟩;have X1:=qA (qJ ((qK _ w).alloc (qL _) (.cells #[.int .i64 ep] 3)) hx);clear hx HN1;go_wp2_with fail;refine (HBF.out w1 X1.out).mono ?_;rintro e w2 ⟨rfl,hx⟩;have X2:=qA (qJ X1.out hx);clear hx;go_wp2_with fail;go_ret;exact⟨rfl,X2.out⟩
end Go.Proofs.YtmpmggejhnmakaaGreatDoor
/- Rows, Holds, Stretches of a tract of nothing, with a cargo or none. -/
namespace Go.Proofs.YtmpmggejhnmakaaGreatDoor
open Go.RowKit
theorem rowsO_calls (tb rb hb pb:Nat)(c:Option Nat)(lo hi:ByteArray)(w:World)(T:TrO w tb rb hb pb c)(hl:lo.size<=140737488351232)(hh:hi.size<=140737488351232):
 Calls Tryz.prog 13 #[.pointer (some ⟨tb,0,none⟩),.agg #[.string lo,.string hi]] w λe w'=>∃o cp,e= .returned (.slice o 0 cp)/\Ext w w':=by
 obtain⟨w1,hw1⟩:∃w1,w1=w.alloc (.cells #[.string lo,.string hi] 30):=⟨_,rfl⟩;have hx1:Ext w w1:=by rw[hw1];exact (qK _ w).alloc (qL _) _
 have hb1:Blk w1 w.heap.size [.string lo,.string hi] 30:=by rw[hw1];exact Blk.new w _ _
 have T1:=T.ext hx1;have HI:=qA (λW (hW:Ext w W)=>inT_calls rb _ [] lo hi W (T.ext hW).rt hl hh);have c0:=T1.bt.cell 0;have c6:=T1.bt.cell 6;have s0:=hb1.cell 0;have s1:=hb1.cell 1;simp only[qB,qC]at c0 c6 s0 s1;have X1:=qA hx1;have W1:=qA hw1;have htb:tb<w.heap.size:=T.bt.lt;have htn:tb≠w.heap.size:=by omega
 clear T T1 hx1 hw1 hb1;go_enter Tryz.func13,Tryz.ntmps13;go_upto_region 1 with fail;rw[<- W1.out];clear W1;go_wp2_with (go_at_call 38;refine (trThere_calls tb true _ c6).mono ?_;rintro e w' ⟨rfl,rfl⟩)
 go_region_with (go_at_call 39;refine (HI.out _ X1.out.drew).mono ?_;rintro e w3 ⟨r,rfl,h1,h2,h3⟩;obtain⟨o,cp,rfl⟩:=own_slice h1;have P3:=qA h3;clear h1 h2 h3)
 all_goals
  go_wp2_with fail;go_ret;exact⟨o,cp,congrArg (λn=>Ending.returned (Value.slice o n cp)) (show (inR lo.data.toList hi.data.toList []).length=0 from by unfold inR;simp),qJ X1.out.drew P3.out⟩
theorem holdsO_calls (tb rb hb pb:Nat)(c:Option Nat)(lo hi:ByteArray)(w:World)(T:TrO w tb rb hb pb c)(hl:lo.size<=140737488351232)(hh:hi.size<=140737488351232):
 Calls Tryz.prog 14 #[.pointer (some ⟨tb,0,none⟩),.agg #[.string lo,.string hi]] w λe w'=>∃o cp,e= .returned (.slice o 0 cp)/\Ext w w':=by
 obtain⟨w1,hw1⟩:∃w1,w1=w.alloc (.cells #[.string lo,.string hi] 30):=⟨_,rfl⟩;have hx1:Ext w w1:=by rw[hw1];exact (qK _ w).alloc (qL _) _
 have hb1:Blk w1 w.heap.size [.string lo,.string hi] 30:=by rw[hw1];exact Blk.new w _ _
 have T1:=T.ext hx1;have HI:=qA (λW (hW:Ext w W)=>in_calls hb _ [] lo hi W (T.ext hW).ht hl hh);have c1:=T1.bt.cell 1;have c6:=T1.bt.cell 6;have s0:=hb1.cell 0;have s1:=hb1.cell 1;simp only[qB,qC]at c1 c6 s0 s1;have X1:=qA hx1;have W1:=qA hw1;have htb:tb<w.heap.size:=T.bt.lt;have htn:tb≠w.heap.size:=by omega
 clear T T1 hx1 hw1 hb1;go_enter Tryz.func14,Tryz.ntmps14;go_upto_region 1 with fail;rw[<- W1.out];clear W1;go_wp2_with (go_at_call 38;refine (trThere_calls tb true _ c6).mono ?_;rintro e w' ⟨rfl,rfl⟩)
 go_region_with (go_at_call 40;refine (HI.out _ X1.out.drew).mono ?_;rintro e w3 ⟨r,l',rfl,hn,ho,_,_,_,hx⟩;obtain⟨o,cp,rfl⟩:=own_slice ho;have P3:=qA hx;have HN:Hid (l'.length=0):=qA hn;clear hn ho hx)
 all_goals
  go_wp2_with fail;go_ret;exact⟨o,cp,congrArg (λn=>Ending.returned (Value.slice o n cp)) HN.out,qJ X1.out.drew P3.out⟩
theorem stretchesO_calls (tb rb hb pb:Nat)(c:Option Nat)(w:World)(T:TrO w tb rb hb pb c):
 Calls Tryz.prog 20 #[.pointer (some ⟨tb,0,none⟩)] w λe w'=>∃o cp,e= .returned (.slice o 0 cp)/\Ext w w':=by
 have c3:=T.bt.cell 3;have c6:=T.bt.cell 6;simp only[qB,qC]at c3 c6;clear T;go_enter Tryz.func20,Tryz.ntmps20;go_wp2_with fail;refine (trThere_calls tb true w c6).mono ?_;rintro e w1 ⟨rfl,rfl⟩;go_wp2_with fail;refine (clone_st_calls [] none 0 w (by simp) (Rows.nil _ _ _ _ _)).mono ?_;rintro e w1 ⟨v,rfl,ho,_,hx⟩;obtain⟨o,cp,rfl⟩:=own_slice ho;have X1:=qA hx;clear ho hx;go_wp2_with fail;go_ret;exact⟨o,cp,rfl,X1.out⟩
end Go.Proofs.YtmpmggejhnmakaaGreatDoor
