/- tract.had; a row of holds that grows. -/
import Derived.Test.YtmpmggejhnmakaaGreatDoorZ36
import Derived.Test.YtmpmggejhnmakaaGreatDoorZ25
import Derived.Test.YtmpmggejhnmakaaGreatDoorZ01
set_option maxRecDepth 100000
set_option maxHeartbeats 6400000
namespace Go.Proofs.YtmpmggejhnmakaaGreatDoor
open Go.RowKit
structure Grow (B:Nat)(W:World)(v:Value)(L:List HoldV)(dl:List HoldD):Prop where
 own:W.ownsRow 0 48 7 v L.length (L.flatMap encHV)
 new:∀j,v.ownBlock=some j->B<=j
 are:HoldsAre W (λb=>v.ownBlock=some b\/b<B) L dl
 cap:∀x∈L,x.rn<=x.rc
theorem Grow.nil (B:Nat)(W:World):Grow B W (.slice none 0 0) [] []:=⟨World.ownsRow_nil _ _ _ _,by simp[Value.ownBlock],trivial,by simp⟩
theorem Grow.ext {B:Nat}{W W':World}{v:Value}{L:List HoldV}{dl:List HoldD}(h:Grow B W v L dl)(hx:Ext W W'):Grow B W' v L dl:=⟨own_ext h.own hx,h.new,h.are.ext hx,h.cap⟩
theorem Grow.lt {B:Nat}{W:World}{v:Value}{L:List HoldV}{dl:List HoldD}(h:Grow B W v L dl){j:Nat}(hj:v.ownBlock=some j):j<W.heap.size:=(h.own.lt j hj).2
theorem Grow.base {B B':Nat}{W:World}{v:Value}{L:List HoldV}{dl:List HoldD}(h:Grow B W v L dl)(hB:B'<=B):Grow B' W v L dl:=⟨h.own,λj hj=>qM hB (h.new j hj),h.are.mono (λ_ _ e=>e.imp id (λe=>qN e hB)),h.cap⟩
theorem Grow.push {B:Nat}{W W':World}{v v':Value}{L:List HoldV}{dl:List HoldD}{x:HoldV}{d:HoldD}(h:Grow B W v L dl)(hx:x.is W (λb=>v.ownBlock=some b\/b<B) d)(hc:x.rn<=x.rc)(hB:B<=W.heap.size)
 (hown:W'.ownsRow 0 48 7 v' (L.length+1) (L.flatMap encHV++encHV x)) (hb:But (λj=>v.ownBlock=some j) W W') (hk:Kept1 W v v'):Grow B W' v' (L++[x]) (dl++[d]):=by
 refine⟨by rw[qG,List.flatMap_append];simpa using hown,λj hj=>?_,?_,λy hy=>?_⟩
 · rcases hk j hj with e | e
   · exact h.new j e
   · omega
 · have h1:HoldsAre W (λb=>(v.ownBlock=some b\/b<B)\/W.heap.size<=b) (L++[x]) (dl++[d]):=(HoldsAre.append h.are (show HoldsAre W _ [x] [d] from ⟨hx,trivial⟩)).mono (λb hb e=>e.elim id (λe=>by omega))
   refine (h1.but hb (λb _ e=> .inl (.inl e))).mono (λb _ e=>?_);rcases e with e | e
   · rcases hk b e with e | e
     · exact .inl (.inl e)
     · exact .inr e
   · exact .inl (.inr e)
 · rcases List.mem_append.1 hy with e | e
   · exact h.cap y e
   · rw[List.mem_singleton.1 e];exact hc
def mineD (c n:Int)(ds:List HoldD)(k:List UInt8):Option HoldD:=match ofD k ds with
 | some h=>if (h.cl==c&&h.nm==n)=true then some h else none
 | none=>none
def hadL (c n:Int)(ds:List HoldD)(ks:List (List UInt8)):List HoldD:=ks.filterMap (mineD c n ds)
def hadB (c n:Int)(ds:List HoldD)(acts:List ActD)(k:List UInt8):Bool:=match mineD c n ds k with
 | some h=>decide (h.acts=ofL k acts)
 | none=>false
def hadJ (c n:Int)(ds:List HoldD)(acts:List ActD)(ks:List (List UInt8)):Bool:=ks.all (hadB c n ds acts)
theorem hadL_succ (c n:Int)(ds:List HoldD)(ks:List (List UInt8))(j:Nat)(k:List UInt8)(h:ks[j]? =some k):hadL c n ds (ks.take (j+1))=hadL c n ds (ks.take j)++(mineD c n ds k).toList:=by
 unfold hadL;rw[List.take_add_one,h,List.filterMap_append]
 congr 1
theorem hadJ_succ (c n:Int)(ds:List HoldD)(acts:List ActD)(ks:List (List UInt8))(j:Nat)(k:List UInt8)(h:ks[j]? =some k):hadJ c n ds acts (ks.take (j+1))=(hadJ c n ds acts (ks.take j)&&hadB c n ds acts k):=by
 unfold hadJ;rw[List.take_add_one,h,List.all_append];simp only[Option.toList_some,List.all_cons,List.all_nil,Bool.and_true]
theorem hadL_len (c n:Int)(ds:List HoldD)(ks:List (List UInt8)):(hadL c n ds ks).length<=ks.length:=List.length_filterMap_le _ _
theorem had_calls (k:TrK)(d:TrD)(c n:Int)(acts:List ActD)(ao:Option Addr)(cap:Nat)(w:World)(T:TrIs w k d)(hl:acts.length<=1000)(hr:Rows 4 encAct w.heap.size w ao acts):
 Calls Tryz.prog 82 #[.pointer (some ⟨k.tb,0,none⟩),.agg #[.int .i64 c,.int .i64 n],.slice ao acts.length cap] w λe w'=>∃(v:Value) (L:List HoldV),e= .returned (.tuple #[v,.bool (hadJ c n d.holds acts (keysL acts))])/\Grow w.heap.size w' v L (hadL c n d.holds (keysL acts))/\Ext w w':=by
 obtain⟨i0,hi,hz0,hz1,hz2⟩:=info_parts infoHold;obtain⟨w1,hw1⟩:∃w1,w1=w.alloc (.cells #[.int .i64 c,.int .i64 n] 35):=⟨_,rfl⟩;have hx1:Ext w w1:=by rw[hw1];exact (qK _ w).alloc (qL _) _
 have hb1:Blk w1 w.heap.size [.int .i64 c,.int .i64 n] 35:=by rw[hw1];exact Blk.new w _ _
 have HT:=qA T;have HR:=qA hr;have X1:=qA hx1;have B1:=qA hb1;have W1:=qA hw1;have htl:=T.blk.lt;clear T hr hx1 hb1 hw1;go_enter Tryz.func82,Tryz.ntmps82;go_upto_region 1 with fail;rw[<- W1.out];clear W1;have KC:=qA (keys_calls acts ao cap w1 (by omega) ((HR.out.ext X1.out).mono X1.out.size));go_wp2_with fail;refine KC.out.mono ?_;rintro e w2 ⟨ko,kc,rfl,hkr,hx2⟩;have X2:=qA (qJ X1.out hx2);have KR:=qA hkr;have B2:=qA (B1.out.ext' hx2);have hkl:(keysL acts).length<=1000:=qM (keysL_len acts) hl;obtain⟨ks,hks⟩:∃ks,ks=keysL acts:=⟨_,rfl⟩;rw[<- hks]at KR hkl ⊢;have HKS:=qA hks;clear hx2 hkr KC hks;go_wp2_with fail;go_loopw [6,7,16] (λv b i wr=>∃(j:Nat) (L:List HoldV),j<=ks.length/\i= .int .i64 j/\b= .bool (hadJ c n d.holds acts (ks.take j))/\Grow w2.heap.size wr v L (hadL c n d.holds (ks.take j))/\Ext w2 wr) (λ_ _ i _=>ks.length - (intOf i).toNat)
 case atStart=>exact⟨0,[],by omega,rfl,rfl,Grow.nil _ _,qK _ _⟩
 case round=>
  obtain⟨j,L,hj,rfl,rfl,hg,hx⟩:=hrel;have G:=qA hg;have K2:=qA hx;clear hg hx;by_cases hlt:j<ks.length
  · obtain⟨q,hq⟩:∃q,ks[j]? =some q:=⟨_,qE hlt⟩
    obtain⟨kb,koff,hko,hkb,hcell⟩:=KR.out (by intro e;rw[e]at hlt;simp at hlt);subst hko;have d0:=(K2.out.cell (p:=⟨kb,_,none⟩) hkb).trans (hcell j q hq 0 _ rfl);simp only[Nat.mul_one,Nat.add_zero,Proofs.encStr]at d0;have HLS:=qA (hadL_succ c n d.holds ks j q hq);have HJS:=qA (hadJ_succ c n d.holds acts ks j q hq);have ii0:(0:Int)<=(j:Int):=by omega
    have ii1:(j:Int)<(ks.length:Int):=by omega
    have hLl:L.length<=1000:=by rw[G.out.are.len];exact qM (hadL_len _ _ _ _) (by rw[List.length_take];omega)
    have TR:=qA (HT.out.ext (qJ X2.out K2.out));have c1:=TR.out.blk.cell 1;simp only[qB,qC]at c1;have OF:=qA (ofM_calls k.hb k.hv d.holds ⟨q.toArray⟩ wr TR.out.ht);generalize hadJ c n d.holds acts (ks.take j)=jj at *;clear hq hcell;go_wp2_with fail;refine OF.out.mono ?_;rintro e w3 ⟨x,rfl,hxd,hxc,hx3⟩;have X3:=qA (qJ K2.out hx3);have G3:=qA (G.out.ext hx3);have B3:=qA (B2.out.ext' X3.out);have hw3:=hx3.size;have hhas:=ofD_has q d.holds;have d1:=(hx3.cell (p:=⟨kb,koff+j,none⟩) (qN hkb K2.out.size)).trans d0;obtain⟨w4,hw4⟩:∃w4,w4=w3.alloc (.cells (encHV x).toArray 48):=⟨_,rfl⟩;have hx4:Ext w3 w4:=by rw[hw4];exact (qK _ w3).alloc (qL _) _
    have hb4:Blk w4 w3.heap.size (encHV x) 48:=by rw[hw4];exact Blk.new w3 _ _
    have X4:=qA (qJ X3.out hx4);have Y4:=qA hx4;have B4:=qA hb4;have G4:=qA (G3.out.ext hx4);have W4:=qA hw4;have n0:=(B3.out.ext' hx4).cell 0;have n1:=(B3.out.ext' hx4).cell 1;simp only[qB,qC]at n0 n1;have AR:=qA (((HR.out.ext X2.out).mono X2.out.size));cases ho:ofD q d.holds with
    | none=>
      rw[ho]at hhas;have hmine:mineD c n d.holds q=none:=by unfold mineD;rw[ho]
      have hfalse:hasD q d.holds=false:=by rw[<- hhas];rfl
      have HF:=qA hfalse;have HM:=qA hmine;clear hw4 hx4 hb4 hhas hfalse hmine ho hxd d0 OF hx3 c1;have h0:=B4.out.cell 0;have h1:=B4.out.cell 1;have h2:=B4.out.cell 2;have h3:=B4.out.cell 3;have h4:=B4.out.cell 4;have h5:=B4.out.cell 5;have h6:=B4.out.cell 6;obtain⟨xk,xcl,xnm,xao,xan,xac,xro,xrn,xrc,xput,xval⟩:=x;simp only[encHV,qB,qC]at h0 h1 h2 h3 h4 h5 h6 W4;rw[HF.out];simp only[encHV];go_upto_region 6 with fail;rw[<- W4.out];clear W4;go_upto_region 7 with fail;refine wp_region_ext (by kernel_rfl) (by kernel_rfl) ?_;cases jj
      all_goals
       repeat (go_big_quiet_step (fail))
       refine wpQuiet_nil ?_;intro wd hw';have hxd:Ext w4 wd:=by obtain⟨p,rfl⟩:=hw';exact p.ext
       have XD:=qA hxd;clear hw' hxd;go_wp2_with fail;go_roundw
       case rel=>
        refine⟨j+1,L,by omega,by go_num,?_,?_,qJ X4.out XD.out⟩
        · rw[HJS.out];unfold hadB;rw[HM.out];simp
        · rw[HLS.out,HM.out];simpa using G4.out.ext XD.out
       case measure=>simp[intOf];omega
    | some dh=>
      rw[ho]at hhas hxd;simp only at hxd;have htrue:hasD q d.holds=true:=by rw[<- hhas];rfl
      have hcl:=hxd.cl;have hnm:=hxd.nm;have han:=hxd.an;have HF:=qA htrue;obtain⟨xk,xcl,xnm,xao,xan,xac,xro,xrn,xrc,xput,xval⟩:=x;simp only at hcl hnm han hxc;have HEQ:=qA (eql_Nm xcl xnm c n);have h0:=B4.out.cell 0;have h1:=B4.out.cell 1;have h2:=B4.out.cell 2;have h3:=B4.out.cell 3;have h4:=B4.out.cell 4;have h5:=B4.out.cell 5;have h6:=B4.out.cell 6;simp only[encHV,qB,qC]at h0 h1 h2 h3 h4 h5 h6 W4;rw[HF.out];simp only[encHV];cases hmm:(dh.cl==c&&dh.nm==n) with
      | false=>
        have hmine:mineD c n d.holds q=none:=by unfold mineD;rw[ho];simp only[hmm];rfl
        have HM:=qA hmine;have heq:=λW=>(HEQ.out W).trans (by rw[hcl,hnm,hmm]);clear hw4 hx4 hb4 hhas htrue hmine ho hxd d0 OF hx3 c1 hmm hcl hnm han;go_upto_region 6 with fail;rw[<- W4.out];clear W4;go_upto_region 7 with fail;refine wp_region_ext (by kernel_rfl) (by kernel_rfl) ?_;cases jj
        all_goals
         repeat (go_big_quiet_step (fail))
         refine wpQuiet_nil ?_;intro wd hw';have hxd:Ext w4 wd:=by obtain⟨p,rfl⟩:=hw';exact p.ext
         have XD:=qA hxd;clear hw' hxd;go_wp2_with fail;go_roundw
         case rel=>
          refine⟨j+1,L,by omega,by go_num,?_,?_,qJ X4.out XD.out⟩
          · rw[HJS.out];unfold hadB;rw[HM.out];simp
          · rw[HLS.out,HM.out];simpa using G4.out.ext XD.out
         case measure=>simp[intOf];omega
      | true=>
        have hmine:mineD c n d.holds q=some dh:=by unfold mineD;rw[ho];simp only[hmm];rfl
        have HM:=qA hmine;have HB:Hid (hadB c n d.holds acts q=decide (dh.acts=ofL q acts)):=qA (by unfold hadB;rw[hmine]);have heq:=λW=>(HEQ.out W).trans (by rw[hcl,hnm,hmm]);have hxd4:=hxd.ext hx4;have XD4:=qA hxd4;have hsz:=K2.out.size;have hsz2:=X2.out.size;have hlt4:∀b,u6.ownBlock=some b->b<wr.heap.size:=λb e=>G.out.lt e
        have GX:Hid ((⟨xk,xcl,xnm,xao,xan,xac,xro,xrn,xrc,xput,xval⟩:HoldV).is w4 (λb=>u6.ownBlock=some b\/b<w2.heap.size) dh):=qA (hxd4.mono (λb _ e=>by
         rcases e with e | e
         · exact hlt4 b e
         · omega))
        have hdm:dh∈d.holds:=List.mem_of_find?_eq_some ho;have hda:dh.acts.length<=1000000:=(HT.out.ht.ok dh hdm).1.fits.1;subst han;clear hw4 hx4 hb4 hhas htrue hmine ho hxd d0 OF hx3 c1 hmm hcl hnm hxd4 hsz hsz2 hlt4 hdm;go_upto_region 6 with fail;rw[<- W4.out];clear W4;go_upto_region 7 with fail;go_cut [7] from 37 to 48 (λb W=>b= .bool (jj&&decide (dh.acts=ofL q acts))/\Ext w4 W)
        case first=>
         cases jj with
         | false=>
           refine wp_region_ext (by kernel_rfl) (by kernel_rfl) ?_
           repeat (go_big_quiet_step (fail))
           refine wpQuiet_nil ?_;intro wd hw';have hxd:Ext w4 wd:=by obtain⟨p,rfl⟩:=hw';exact p.ext
           have XD:=qA hxd;clear hw' hxd;go_wp2_with fail;go_meet;exact⟨rfl,XD.out⟩
         | true=>
           have a3:=ExtBy.cell h3;refine wp_region_firstC (λW=>∃p:ExtBy w4,W=p.W) [0,1,2,3,4,5,6,7,8] 4 (by kernel_rfl) (by kernel_rfl) (λ_ _ _ _ h=>h) ⟨⟨w4.drew,(qK _ w4).drew⟩,rfl⟩ ?_;simp only[opsAt,qD,qC,qB]
           repeat (go_big_quiet_step (fail))
           refine wpQuiet_nil ?_;obtain⟨wq,hwq⟩:∃wq,wq=w4.drew:=⟨_,rfl⟩;have XQ:Hid (Ext w4 wq):=qA (by rw[hwq];exact (qK _ w4).drew);rw[<- hwq];clear hwq a3;refine wpAnyH_ready (rs:=[9]) (by kernel_rfl) (by simp) ?_;refine AllReadyH.cons rfl (λK hK=>?_) AllReadyH.nil;go_simp;refine (actOf_calls ⟨q.toArray⟩ acts ao cap wq (by omega) ((AR.out.ext (qJ X4.out XQ.out)).mono (qJ X4.out XQ.out).size)).mono ?_;rintro e we ⟨rv,rfl,hro,_,hxe⟩;obtain⟨ro,rc,rfl⟩:=own_slice hro;have XE:=qA (qJ XQ.out hxe);have RO:=qA (rows_of_own (enc:=encAct) (sz:=4) (λ_=>rfl) hro);refine hK.out _ _ ⟨⟨_,XE.out⟩,rfl⟩ (λ_=>?_);clear hK K hro hxe;refine wpAnyH_ready (rs:=[10]) (by kernel_rfl) (by simp) ?_;refine AllReadyH.cons rfl (λK hK=>?_) AllReadyH.nil;go_simp;refine (equalActs_calls dh.acts (ofL q acts) xao ro xac rc we hda ((XD4.out.acts.rows.ext XE.out).mono XE.out.size) RO.out).mono ?_;rintro e wf ⟨rfl,hxf⟩;have XF:=qA (qJ XE.out hxf);refine hK.out _ _ ⟨⟨_,XF.out⟩,rfl⟩ (λ_=>?_);clear hK K hxf;generalize hdbq:decide (dh.acts=ofL q acts)=db;have HDQ:=qA hdbq;clear hdbq;refine wp_takesC (f:=0) [11,12] (by kernel_rfl) (λ_ _ _ _ h=>h) ⟨⟨_,XF.out⟩,rfl⟩ ?_;simp only[opsAt,qD,qC,qB]
           repeat (go_big_quiet_step (fail))
           refine wpQuiet_nil ?_;refine wpAnyH_done (by kernel_rfl) ?_ _;go_wp2_with fail;go_meet;exact⟨by rw[HDQ.out];rfl,XF.out⟩
        case rest=>
         obtain⟨rfl,hx5⟩:=hcut;obtain⟨w5,rfl⟩:∃w5,w5=wc:=⟨_,rfl⟩;have X5:=qA hx5;have B5:=B4.out.ext' hx5;have h0:=B5.cell 0;have h1:=B5.cell 1;have h2:=B5.cell 2;have h3:=B5.cell 3;have h4:=B5.cell 4;have h5:=B5.cell 5;have h6:=B5.cell 6;simp only[encHV,qB,qC]at h0 h1 h2 h3 h4 h5 h6;generalize hdb:decide (dh.acts=ofL q acts)=db;have HDB:=qA hdb;have X6:Hid (Ext w5 (w5.alloc (.cells #[.string xk,.int .i64 xcl,.int .i64 xnm,.slice xao dh.acts.length xac,.slice xro xrn xrc,.bool xput,.string xval] 48))):=qA ((qK _ w5).alloc (qL _) _);have CN:=qA (cells_new w5 [.string xk,.int .i64 xcl,.int .i64 xnm,.slice xao dh.acts.length xac,.slice xro xrn xrc,.bool xput,.string xval] 48);have G6:=qA (G4.out.ext (qJ X5.out X6.out));have GX6:=qA (GX.out.ext (qJ X5.out X6.out));have hGB:w2.heap.size<=w5.heap.size:=qM X4.out.size hx5.size;have HGB:=qA hGB;clear hx5 B5 hdb hGB;go_wp2_with (at_builtin;refine wpList_append_at _ rfl _ _ 42 rfl 48 i0 _ 7 104 Tryz.underlying42 hi hz0 hz1 hz2 rfl (by decide) _ L.length (L.flatMap encHV) rfl G6.out.own ⟨w5.heap.size,0,none⟩ 1 1 (encHV ⟨xk,xcl,xnm,xao,dh.acts.length,xac,xro,xrn,xrc,xput,xval⟩) rfl rfl CN.out (one_hold _) (by decide) (by unfold maxLen;omega) (by omega) ?_;intro g2 cap2 w7 hown' hbut hkept;have Z1:=qA hown';have Z2:=qA hbut;have Z3:=qA hkept;clear hown' hbut hkept);go_roundw
         case rel=>
          refine⟨j+1,L++[⟨xk,xcl,xnm,xao,dh.acts.length,xac,xro,xrn,xrc,xput,xval⟩],by omega,by go_num,?_,?_,?_⟩
          · rw[HJS.out,HB.out,HDB.out]
          · rw[HLS.out,HM.out]
            exact G6.out.push GX6.out hxc (qM HGB.out X6.out.size) Z1.out Z2.out Z3.out
          · exact Ext.butNew (qJ X4.out (qJ X5.out X6.out)) Z2.out (λb hb=>G3.out.new b hb)
         case measure=>simp[intOf];omega
  · have hall:ks.take j=ks:=List.take_of_length_le (by omega)
    rw[hall]at G ⊢;clear hall;go_wp2_with fail;go_ret2;refine⟨_,L,?_,by rw[<- HKS.out];exact G.out.base X2.out.size,qJ X2.out K2.out⟩;rw[<- HKS.out];rfl
end Go.Proofs.YtmpmggejhnmakaaGreatDoor
