/- Of and Busy at a table of holds. -/
import Derived.Test.YtmpmggejhnmakaaGreatDoorZ12
import Derived.Test.YtmpmggejhnmakaaGreatDoorZ11
import Derived.Test.YtmpmggejhnmakaaGreatDoorZ04
import Derived.Test.YtmpmggejhnmakaaGreatDoorZ10
import Derived.Test.YtmpmggejhnmakaaGreatDoorZ01
set_option maxRecDepth 100000
set_option maxHeartbeats 1600000
namespace Go.Proofs.YtmpmggejhnmakaaGreatDoor
open Go.RowKit
variable {no0:Nat->Prop}
def ofD (k:List UInt8)(ds:List HoldD):Option HoldD:=ds.find? λd=>decide (dkey d=k)
theorem ofD_has (k:List UInt8)(ds:List HoldD):(ofD k ds).isSome=hasD k ds:=by unfold ofD hasD;rw[Bool.eq_iff_iff,List.find?_isSome,List.any_eq_true]
theorem of_at {w:World}{no:Nat->Prop}{l:List HoldV}{ds:List HoldD}(ha:HoldsAre w no l ds)(k:List UInt8)(ht:thereH k l=true):∃(x:HoldV)(d:HoldD),l[placeD k ds]? =some x/\ofD k ds=some d/\x.is w no d/\d∈ds:=by
 have hp:=ha.place k;unfold thereH at ht;rw[hp]at ht;cases hx:l[placeD k ds]? with
 | none=>rw[hx]at ht;cases ht
 | some x=>
   rw[hx]at ht;have hkx:vkey x=k:=by simpa using ht
   obtain⟨d,hd,hxd⟩:=ha.at _ x hx;have hkd:dkey d=k:=by unfold dkey;rw[<- hxd.key];exact hkx
   refine⟨x,d,rfl,?_,hxd,qH hd⟩;unfold ofD;rw[List.find?_eq_some_iff_getElem];obtain⟨hi,he⟩:=qF.1 hd;refine⟨by simpa using hkd,_,hi,he,λj hj=>?_⟩
   have:=tw_lt (λz=>decide (dkey z<k)) ds j ds[j] hj (qE (by omega))
   simp only[decide_eq_true_eq]at this;simp only[Bool.not_eq_true',decide_eq_false_iff_not];intro e;rw[e]at this;exact List.lt_irrefl _ this
def OfPost (k:List UInt8)(ds:List HoldD)(w:World)(e:Ending)(w':World):Prop:=
 ∃x:HoldV,e= .returned (.tuple #[.agg (encHV x).toArray,.bool (hasD k ds)])/\(match ofD k ds with | some d=>x.is w' (λb=>b<w.heap.size) d | none=>x=HoldV.zero)/\Ext w w'
theorem of_calls (hb:Nat)(v:Value)(ds:List HoldD)(k:ByteArray)(w:World)(T:TabN no0 w hb v ds):
 Calls Tryz.prog 158 #[.pointer (some ⟨hb,0,none⟩),.string k] w (OfPost k.data.toList ds w):=by
 obtain⟨l,ao,cap,rfl,hlc,hll,hrows,hown,hare,hrise⟩:=T.rows;have hc0:=T.blk.cell 0;have hc1:=T.blk.cell 1;simp only[qB,qC]at hc0 hc1;have hbl:=T.blk.lt;have hfew:=T.few
 have hat:∀W,Ext w W->Calls Tryz.prog 134 #[.pointer (some ⟨hb,0,none⟩),.string k] W λe w'=>e= .returned (.tuple #[.int .i64 (placeD k.data.toList ds),.bool (hasD k.data.toList ds)])/\Ext W w':=λW hW=>by
  have h:=at_calls l ao cap hb k W (by omega) ((hrows.ext hW).mono hW.size) hrise ((hW.cell (p:=⟨hb,0,none⟩) hbl).trans hc0);rw[show placeH k.data.toList l=placeD k.data.toList ds from hare.place _,show thereH k.data.toList l=hasD k.data.toList ds from there_eq hare hrise _]at h;exact h
 have HAT:=qA hat;have HTH:=qA (λW (hW:Ext w W)=>there_calls (some ⟨hb,0,none⟩) true W ((show ThereIs w (some ⟨hb,0,none⟩) true from .inr ⟨hb,rfl,hc1⟩).ext hW));have HX:Hid (Ext w (w.alloc (.cells #[.string ⟨#[]⟩,.int .i64 0,.int .i64 0,.slice none 0 0,.slice none 0 0,.bool false,.string ⟨#[]⟩] 48))):=qA ((qK _ w).alloc (qL _) _);have HB:Hid (Blk (w.alloc (.cells #[.string ⟨#[]⟩,.int .i64 0,.int .i64 0,.slice none 0 0,.slice none 0 0,.bool false,.string ⟨#[]⟩] 48)) w.heap.size [.string ⟨#[]⟩,.int .i64 0,.int .i64 0,.slice none 0 0,.slice none 0 0,.bool false,.string ⟨#[]⟩] 48):=qA (Blk.new w _ _);have hte:thereH k.data.toList l=hasD k.data.toList ds:=there_eq hare hrise _;have HC0:=qA hc0;have HRO:=qA hrows;have HLL:=qA hll;cases hh:hasD k.data.toList ds
 · have hz:ofD k.data.toList ds=none:=by
    have:=ofD_has k.data.toList ds
    rw[hh]at this;cases ho:ofD k.data.toList ds with
    | none=>rfl
    | some d=>rw[ho]at this;cases this
   rw[hh]at HAT;have HZ:=qA hz;have HH:=qA hh;clear T hc0 hc1 hrows hown hare hrise hll hat hte hz hh;go_enter Tryz.func158,Tryz.ntmps158;go_wp2_with fail;refine (HTH.out _ HX.out).mono ?_;rintro e w' ⟨rfl,rfl⟩;go_wp2_with fail;refine (HAT.out _ HX.out).mono ?_;rintro e w2 ⟨rfl,hx2⟩;have hb2:=HB.out.ext' hx2;have hg2:=hb2.lt;have c0:=hb2.cell 0;have c1:=hb2.cell 1;have c2:=hb2.cell 2;have c3:=hb2.cell 3;have c4:=hb2.cell 4;have c5:=hb2.cell 5;have c6:=hb2.cell 6;have f0:=hb2.free 0;have f1:=hb2.free 1;have f2:=hb2.free 2;have f3:=hb2.free 3;have f4:=hb2.free 4;have f5:=hb2.free 5;have f6:=hb2.free 6;simp only[qB,qC]at c0 c1 c2 c3 c4 c5 c6;have X2:=qA (qJ HX.out hx2);have B2:=qA hb2;clear hx2 hb2;go_wp2_with fail
   (try simp only[Exit.inBlock,Exit.then])
   refine bodyPost_ret (res_row_tmp rfl _ _ w.heap.size 48 (encHV HoldV.zero) _ rfl (B2.out.setCells (encHV HoldV.zero) 0) Tryz.underlying48 rfl (by kernel_rfl)) rfl ?_;refine⟨HoldV.zero,by rw[HH.out];rfl,by rw[HZ.out],?_⟩;exact (but_setCells (S:=λj=>w.heap.size<=j) (qL _) (encHV HoldV.zero) 0 (X2.out.but _)).ext (λj hj e=>by omega)
 · obtain⟨x,d,hx,hd,hxd,hdm⟩:=of_at hare k.data.toList (hte.trans hh)
   have hdf:=(T.ok d hdm).1.fits;obtain⟨b,off,rfl,hbb,hcell⟩:=hrows (by intro e;rw[e]at hx;simp at hx);have hcx:=hcell _ x hx;have hpl:=(qF.1 hx).1;generalize hP:placeD k.data.toList ds=P at *;have HXD:=qA (hxd.mono (no':=λ_=>False) (λ_ _ e=>e.elim));have HD:=qA hd;have HDF:=qA hdf;rw[hh]at HAT;have HH:=qA hh;have HCX:=qA hcx;have i0:(0:Int)<=(P:Int):=by omega
   have i1:(P:Int)<(l.length:Int):=by omega
   clear T hc0 hc1 hrows hown hare hrise hll hat hte hh hx hd hxd hdm hdf hcell hcx hP;go_enter Tryz.func158,Tryz.ntmps158;go_wp2_with fail;refine (HTH.out _ HX.out).mono ?_;rintro e w' ⟨rfl,rfl⟩;go_wp2_with fail;refine (HAT.out _ HX.out).mono ?_;rintro e w2 ⟨rfl,hx2⟩;have hx2':=qJ HX.out hx2;have hh0:=(hx2'.cell (p:=⟨hb,0,none⟩) hbl).trans HC0.out;have hmv:∀j,w2.cell? ⟨b,j,none⟩=w.cell? ⟨b,j,none⟩:=λj=>hx2'.cell (p:=⟨b,j,none⟩) hbb;have X2:=qA hx2';have B2:=qA (HB.out.ext' hx2);obtain⟨key,cl,nm,xo,xn,xc,yo,yn,yc,put,value⟩:=x;have d0:=(hmv _).trans (HCX.out 0 _ rfl);have d1:=(hmv _).trans (HCX.out 1 _ rfl);have d2:=(hmv _).trans (HCX.out 2 _ rfl);have d3:=(hmv _).trans (HCX.out 3 _ rfl);have d4:=(hmv _).trans (HCX.out 4 _ rfl);have d5:=(hmv _).trans (HCX.out 5 _ rfl);have d6:=(hmv _).trans (HCX.out 6 _ rfl);simp only[Nat.add_zero]at d0;have X3:Hid (Ext w2 (w2.alloc (.cells #[.string key,.int .i64 cl,.int .i64 nm,.slice xo xn xc,.slice yo yn yc,.bool put,.string value] 48))):=qA ((qK _ w2).alloc (qL _) _)
   have HO:=qA (own1_calls ⟨key,cl,nm,xo,xn,xc,yo,yn,yc,put,value⟩ d (some ⟨w2.heap.size,0,none⟩) 1 (w2.alloc (.cells #[.string key,.int .i64 cl,.int .i64 nm,.slice xo xn xc,.slice yo yn yc,.bool put,.string value] 48))
    (by
      intro _;refine⟨_,0,rfl,by simp,λi y hi j u hj=>?_⟩
      obtain⟨rfl,rfl⟩:i=0/\y=⟨key,cl,nm,xo,xn,xc,yo,yn,yc,put,value⟩:=by
       match i,hi with
       | 0,hi=>simp at hi;exact⟨rfl,hi.symm⟩
       | i+1,hi=>simp at hi
      rw[show 0+0 * 7+j=j from by omega]
      exact ((Blk.new w2 [.string key,.int .i64 cl,.int .i64 nm,.slice xo xn xc,.slice yo yn yc,.bool put,.string value] 48).cell j).trans hj) (HXD.out.ext (qJ X2.out X3.out)) HDF.out)
   clear hx2 hx2' hmv;go_wp2_with fail;refine HO.out.mono ?_;rintro e w3 ⟨g,c,cur,x',rfl,hc1,hcm,hgb,hct,hgn,hxi,hx3⟩;have hb3:=(B2.out.ext' (qJ X3.out hx3));have hg3:=hb3.lt;have hgl:=hgb.lt;have hsz3:=X2.out.size;have hsz4:=X3.out.size;have c0:=hb3.cell 0;have c1:=hb3.cell 1;have c2:=hb3.cell 2;have c3:=hb3.cell 3;have c4:=hb3.cell 4;have c5:=hb3.cell 5;have c6:=hb3.cell 6;have f0:=hb3.free 0;have f1:=hb3.free 1;have f2:=hb3.free 2;have f3:=hb3.free 3;have f4:=hb3.free 4;have f5:=hb3.free 5;have f6:=hb3.free 6;simp only[qB,qC]at c0 c1 c2 c3 c4 c5 c6
   have hrd:∀j u,(encHV x')[j]? =some u->w3.cell? ⟨g,j,none⟩=some u:=λj u hj=>by
    have hj7:j<7:=(qF.1 hj).1;rw[hgb.cell j];rw[<- hct,List.getElem?_take,if_pos hj7]at hj;exact hj
   have X4:=qA (qJ X2.out (qJ X3.out hx3));have B3:=qA hb3;have XI:=qA hxi;obtain⟨key',cl',nm',xo',xn',xc',yo',yn',yc',put',value'⟩:=x';have e0:=hrd 0 _ rfl;have e1:=hrd 1 _ rfl;have e2:=hrd 2 _ rfl;have e3:=hrd 3 _ rfl;have e4:=hrd 4 _ rfl;have e5:=hrd 5 _ rfl;have e6:=hrd 6 _ rfl;have GN:=qA hgn;clear hb3 hgb hct hxi hx3 hrd d0 d1 d2 d3 d4 d5 d6 HO hgn;go_wp2_with fail
   (try simp only[Exit.inBlock,Exit.then])
   refine bodyPost_ret (res_row_tmp rfl _ _ w.heap.size 48 (encHV ⟨key',cl',nm',xo',xn',xc',yo',yn',yc',put',value'⟩) _ rfl (B3.out.setCells (encHV ⟨key',cl',nm',xo',xn',xc',yo',yn',yc',put',value'⟩) 0) Tryz.underlying48 rfl (by kernel_rfl)) rfl ?_;have hbt:=but_setCells (S:=λj=>j=w.heap.size) rfl (encHV ⟨key',cl',nm',xo',xn',xc',yo',yn',yc',put',value'⟩) 0 (But.refl (λj=>j=w.heap.size) w3);refine⟨⟨key',cl',nm',xo',xn',xc',yo',yn',yc',put',value'⟩,by rw[HH.out];rfl,?_,?_⟩
   · rw[HD.out]
     have h1:w.heap.size<(w2.alloc (.cells #[.string key,.int .i64 cl,.int .i64 nm,.slice xo xn xc,.slice yo yn yc,.bool put,.string value] 48)).heap.size:=qN B2.out.lt X3.out.size;exact (XI.out.but hbt (λb _ e=> .inr (by rw[e];exact h1))).mono (λb _ e=> .inr (Nat.lt_trans e h1))
   · exact ((X4.out.but (λ_=>False)).trans hbt (U:=λj=>w.heap.size<=j) (λ_ _ e=>e.elim) (λi _ e=>by rw[e];exact qL _)).ext (λj hj e=>by omega)
def nameD (ds:List HoldD)(k:List UInt8):Int×Int:=match ofD k ds with | some d=>(d.cl,d.nm) | none=>(0,0)
theorem busyT_calls (hb:Nat)(v:Value)(ds:List HoldD)(c n:Int)(l:List ByteArray)(ao:Option Addr)(cap:Nat)(w:World)(T:TabN no0 w hb v ds)(hl:l.length<=1000000)(hr:Rows 1 encStr w.heap.size w ao l):
 Calls Tryz.prog 83 #[.pointer (some ⟨hb,0,none⟩),.agg #[.int .i64 c,.int .i64 n],.slice ao l.length cap] w λe w'=>(∃r,r=busyL (λk=>hasD k ds) (nameD ds) c n (sortL (bytesL l))/\e= .returned (.tuple #[.agg #[.int .i64 r.1,.int .i64 r.2.1],.bool r.2.2]))/\Ext w w':=by
 refine busy_calls (λk=>hasD k ds) (nameD ds) (some ⟨hb,0,none⟩) c n l ao cap w hl hr (λk W hW=>?_);refine (of_calls hb v ds k W (T.ext hW)).mono ?_;rintro e w' ⟨x,rfl,hx,hxt⟩;refine⟨x,rfl,λht=>?_,hxt⟩;have hs:=ofD_has k.data.toList ds;rw[show hasD k.data.toList ds=true from ht]at hs;unfold nameD;cases ho:ofD k.data.toList ds with
 | none=>rw[ho]at hs;cases hs
 | some d=>
   rw[ho]at hx;show (d.cl,d.nm)=(x.cl,x.nm);rw[hx.cl,hx.nm]
end Go.Proofs.YtmpmggejhnmakaaGreatDoor
/- awake of layer 16: the example that every statement looks at first. -/
namespace Go.Proofs.YtmpmggejhnmakaaGreatDoor
open Go.RowKit
variable {no0:Nat->Prop}
theorem Tab.new (w:World):TabN no0 (w.alloc (.cells #[.slice none 0 0,.bool true] 180)) w.heap.size (.slice none 0 0) []:=
 ⟨Blk.new w _ _,⟨[],World.ownsRow_nil _ _ _ _,trivial⟩,List.Pairwise.nil,λd hd=>by simp at hd,by decide⟩
end Go.Proofs.YtmpmggejhnmakaaGreatDoor
/- less: the holds of which a function tells yes are taken away. -/
namespace Go.Proofs.YtmpmggejhnmakaaGreatDoor
open Go.RowKit
variable {no0:Nat->Prop}
theorem TabN.less {w:World}{hb:Nat}{v:Value}{ds:List HoldD}(T:TabN no0 w hb v ds)(p:ByteArray->Int->Int->Bool):RiseD (ds.filter λd=> !d.tells p)/\(∀d∈ds.filter (λd=> !d.tells p),d.ok/\holdB d=true)/\(ds.filter λd=> !d.tells p).length<=60:=
 ⟨T.rise.sublist List.filter_sublist,λd hd=>T.ok d (List.mem_filter.1 hd).1,qM (List.length_filter_le ..) T.few⟩
def LessPostN (no0:Nat->Prop)(hb:Nat)(v:Value)(yes no:List HoldD)(w:World)(e:Ending)(w':World):Prop:=
 ∃(r:Value) (l':List HoldV) (v':Value),e= .returned r/\l'.length=yes.length/\w'.ownsRow 0 48 7 r l'.length (l'.flatMap encHV)/\(∀j,r.ownBlock=some j->w.heap.size<=j)/\HoldsAre w' (λb=>r.ownBlock=some b\/b<w.heap.size) l' yes/\Mine w' w.heap.size l'/\
  TabN no0 w' hb v' no/\(∀j,v'.ownBlock=some j->v.ownBlock=some j)/\But (λj=>j=hb\/v.ownBlock=some j) w w'
theorem less_calls (g:Nat)(lb:Array Value)(eg:∀args w,(callFunc g args).run Tryz.prog w= .ok (.enter g args) w)(p:ByteArray->Int->Int->Bool)
 (hb:Nat) (v:Value) (ds:List HoldD) (w:World) (T:TabN no0 w hb v ds) (hq:Asks g lb p (λj=>j=hb\/v.ownBlock=some j) w):
 Calls Tryz.prog 141 #[.pointer (some ⟨hb,0,none⟩),.func (.func g) #[] lb] w (LessPostN no0 hb v (ds.filter (·.tells p)) (ds.filter λd=> !d.tells p) w):=by
 obtain⟨l,ao,cap,rfl,hlc,hll,hrows,hown,hare,hrise⟩:=T.rowsN;have hfew:=T.few;have hc0:=T.blk.cell 0;simp only[qB]at hc0;have hbl:=T.blk.lt;have HTH:=qA (those_calls g lb eg p l ds _ ao cap hb w (by omega) hrows hare T.fits hc0 (T.keys hare) (hq.mono (λ_ e=>e.elim)));have HT:=qA T;have HOW:=qA hown;have HAR:=qA hare;have HQ:=qA hq;have HAP:=qA T.apart;have hl6:l.length<=1000000:=by omega
 clear T hrows hown hare hrise hq hll;go_enter Tryz.func141,Tryz.ntmps141;go_wp2_with fail;refine HTH.out.mono ?_;rintro e w1 ⟨r,l',rfl,h1,h2,h3,h4,h6,h5⟩;have hc1:=(h5.cell (p:=⟨hb,0,none⟩) hbl).trans hc0;have HDEL:=qA (del_calls g lb eg p l (.slice ao l.length cap) w1 hl6 (HT.out.keys HAR.out) (own_ext HOW.out h5) ((HQ.out.ext h5).mono (λi e=> .inr e)));have H1:=qA h1;have H2:=qA h2;have H3:=qA h3;have H4:=qA h4;have H5:=qA h5;have H6:=qA h6;clear h1 h2 h3 h4 h5 h6 HTH;go_wp2_with fail;refine HDEL.out.mono ?_;rintro e w2 ⟨v',rfl,g1,g2,g3⟩;have hblk:=(HT.out.ext H5.out).blk.but g3 (λe=>HAP.out e);have hc2:=hblk.cell 0;have hf2:=hblk.free 0;simp only[qB]at hc2
 have fin:∃(l'':List HoldV),(w2.setCell ⟨hb,0,none⟩ v').ownsRow 0 48 7 r l''.length (l''.flatMap encHV)/\l''.length=(ds.filter (·.tells p)).length/\HoldsAre (w2.setCell ⟨hb,0,none⟩ v') (λb=>r.ownBlock=some b\/b<w.heap.size) l'' (ds.filter (·.tells p))/\Mine (w2.setCell ⟨hb,0,none⟩ v') w.heap.size l''/\TabN no0 (w2.setCell ⟨hb,0,none⟩ v') hb v' (ds.filter λd=> !d.tells p)/\But (λj=>j=hb\/(Value.slice ao l.length cap).ownBlock=some j) w (w2.setCell ⟨hb,0,none⟩ v'):=by
  have hB:But (λj=>j=hb\/(Value.slice ao l.length cap).ownBlock=some j) w1 (w2.setCell ⟨hb,0,none⟩ v'):=(g3.mono λ_ _ e=> .inr e).setCell (λ_=> .inl rfl) v';have hs1:=H5.out.size;have hS:∀j,(j=hb\/(Value.slice ao l.length cap).ownBlock=some j)->j<w.heap.size:=λj e=>e.elim (λe=>e▸hbl) (λe=>HT.out.lt e);have hv':v'.ownBlock≠some hb:=λe=>HAP.out (g2 hb e);obtain⟨t1,t2,t3⟩:=HT.out.less p;refine⟨l',own_but H2.out hB (λj hj e=>by have:=H3.out j hj;have:=hS j e;omega),H1.out,(H4.out.but hB (λb _ e=> .inr (hS b e))),H6.out.far hB hS,⟨hblk.set 0 v',⟨keepH p l,own_setOther g1 (a:=⟨hb,0,none⟩) hv' v',?_⟩,t1,t2,t3⟩,(Ext.but H5.out (λ_=>False)).trans hB (λ_ _ e=>e.elim) (λ_ _ e=>e)⟩;exact (((HoldsAre.keep p HAR.out).ext H5.out).but hB (λb _ e=> .inl e)).mono (λb _ e=>e.elim (λe=> .inl (e.elim .inl (λe=> .inr (g2 b e)))) .inr)
 have HFIN:=qA fin;have G2:=qA g2;have hform:=own_form g1;clear fin g1 g2 g3 hblk HDEL;rcases hform with ⟨rfl,-⟩ | ⟨g5,c5,rfl⟩
 all_goals
  go_wp2_with fail;go_ret;obtain⟨l'',f1,f2,f3,f6,f4,f5⟩:=HFIN.out;exact⟨r,l'',_,rfl,f2,f1,H3.out,f3,f6,f4,G2.out,f5⟩
end Go.Proofs.YtmpmggejhnmakaaGreatDoor
/- In, Take and Free at a table of holds. -/
namespace Go.Proofs.YtmpmggejhnmakaaGreatDoor
open Go.RowKit
variable {no0:Nat->Prop}
def amongB (ls:List ByteArray)(k:ByteArray):Bool:=ls.any λs=>decide (s.data.toList=k.data.toList)
theorem indexT_calls (ls:List ByteArray)(ao:Option Addr)(cap:Nat)(k:ByteArray)(w:World)(hl:ls.length<=1000000)(hr:Rows 1 encStr w.heap.size w ao ls):
 Calls Tryz.prog 211 #[.slice ao ls.length cap,.string k] w λe w'=>∃n:Int,e= .returned (.int .i64 n)/\amongB ls k=decide (0<=n)/\w=w':=by
 have HR:=qA hr;clear hr;go_enter Tryz.func211,Tryz.ntmps211;go_wp2_with fail
 go_loop [8] (λvi=>∃j:Nat,j<=ls.length/\vi= .int .i64 j/\∀(i:Nat) (s:ByteArray),i<j->ls[i]? =some s->s.data.toList≠k.data.toList) (λvi=>ls.length - (intOf vi).toNat)
 case atStart=>exact⟨0,by omega,rfl,λi s h=>by omega⟩
 case round=>
  obtain⟨j,hj,rfl,hno⟩:=hrel;have K1:=qA hno;clear hno;by_cases hlt:j<ls.length
  · obtain⟨s,hs⟩:∃s,ls[j]? =some s:=⟨_,qE hlt⟩
    obtain⟨b,off,rfl,hb,hcell⟩:=HR.out (by intro e;rw[e]at hlt;simp at hlt);have hc:=hcell j s hs 0 _ rfl;simp only[Nat.mul_one,Nat.add_zero]at hc;have HS:=qA hs;have i0:(0:Int)<=(j:Int):=by omega
    have i1:(j:Int)<(ls.length:Int):=by omega
    clear hcell hs;cases hq:(k.toList==s.toList)
    · have HQ:=qA hq
      go_wp2_with fail
      go_round
      case rel=>
       refine⟨j+1,by omega,by go_num,λi x hi hx=>?_⟩;rcases Nat.lt_or_ge i j with h | h
       · exact K1.out i x h hx
       · obtain rfl:i=j:=by omega
         rw[HS.out]at hx;have h2:=HQ.out;rw[beq_eq_false_iff_ne,Lib.toList_data,Lib.toList_data]at h2;rw[<- Option.some.inj hx];exact λe=>h2 e.symm
      case measure=>simp[intOf];omega
    · have HQ:=qA hq
      go_wp2_with fail;go_ret;refine⟨j,rfl,?_,rfl⟩;have h2:=HQ.out;rw[beq_iff_eq,Lib.toList_data,Lib.toList_data]at h2;have h0:amongB ls k=true:=List.any_eq_true.2 ⟨s,qH HS.out,by rw[h2];simp⟩;rw[h0];simp
  · go_wp2_with fail
    go_ret;refine⟨-1,rfl,?_,rfl⟩
    have h0:amongB ls k=false:=by
     unfold amongB;rw[List.any_eq_false];intro s hs;obtain⟨i,hi⟩:=List.mem_iff_getElem?.1 hs
     have:=K1.out i s (by have:=(qF.1 hi).1;omega) hi
     simpa using this
    rw[h0];rfl
theorem containsT_calls (ls:List ByteArray)(ao:Option Addr)(cap:Nat)(k:ByteArray)(w:World)(hl:ls.length<=1000000)(hr:Rows 1 encStr w.heap.size w ao ls):
 Calls Tryz.prog 171 #[.slice ao ls.length cap,.string k] w λe w'=>e= .returned (.bool (amongB ls k))/\w=w':=by
 have HI:=qA (indexT_calls ls ao cap k w hl hr);clear hr;generalize amongB ls k=res at HI ⊢;go_enter Tryz.func171,Tryz.ntmps171;go_wp2_with fail;refine HI.out.mono ?_;rintro e w' ⟨n,rfl,hn,rfl⟩;have HN:=qA hn;clear hn;go_wp2_with fail;go_ret;exact⟨ret_bool HN.out.symm,rfl⟩
theorem free_asks (bx:Nat)(ls:List ByteArray)(ao:Option Addr)(cap:Nat)(S:Nat->Prop)(w:World)(hl:ls.length<=1000000)(hb:bx<w.heap.size)(hc:w.cell? ⟨bx,0,none⟩=some (.slice ao ls.length cap))(hS:¬S bx)(hr:NRows 1 encStr S w ao ls):
 Asks 170 #[.pointer (some ⟨bx,0,none⟩)] (λk _ _=>amongB ls k) S w:=by
 intro W hW x _;have hcW:=(hW.cell (p:=⟨bx,0,none⟩) hb hS).trans hc;have hrW:Rows 1 encStr W.heap.size W ao ls:=(hr.but hW (λ_ _ e=>e)).rows;have hbW:bx<W.heap.size:=qN hb hW.size;have hbx:bx≠W.heap.size:=by omega
 obtain⟨key,cl,nm,xo,xn,xc,yo,yn,yc,put,value⟩:=x;have HX:Hid (Ext W (W.alloc (.cells #[.string key,.int .i64 cl,.int .i64 nm,.slice xo xn xc,.slice yo yn yc,.bool put,.string value] 48))):=qA ((qK _ W).alloc (qL _) _);have HC:=qA (containsT_calls ls ao cap key _ hl ((hrW.ext HX.out).mono HX.out.size));clear hrW hc hr hW;simp only[encHV];go_enter Tryz.func170,Tryz.ntmps170;go_wp2_with fail;refine HC.out.mono ?_;rintro e w' ⟨rfl,rfl⟩;go_wp2_with fail;go_ret;exact⟨rfl,HX.out⟩
theorem in_asks (bx:Nat)(lo hi:ByteArray)(S:Nat->Prop)(w:World)(hl:lo.size<=140737488351232)(hh:hi.size<=140737488351232)(hb:bx<w.heap.size)(h0:w.cell? ⟨bx,0,none⟩=some (.string lo))(h1:w.cell? ⟨bx,1,none⟩=some (.string hi))(hS:¬S bx):
 Asks 108 #[.pointer (some ⟨bx,0,none⟩)] (λk _ _=>hasB lo.data.toList hi.data.toList k.data.toList) S w:=by
 intro W hW x hk;have hcW:=(hW.cell (p:=⟨bx,0,none⟩) hb hS).trans h0;have hdW:=(hW.cell (p:=⟨bx,1,none⟩) hb hS).trans h1;have hbW:bx<W.heap.size:=qN hb hW.size;have hbx:bx≠W.heap.size:=by omega
 obtain⟨key,cl,nm,xo,xn,xc,yo,yn,yc,put,value⟩:=x;have HX:Hid (Ext W (W.alloc (.cells #[.string key,.int .i64 cl,.int .i64 nm,.slice xo xn xc,.slice yo yn yc,.bool put,.string value] 48))):=qA ((qK _ W).alloc (qL _) _);have HC:=qA (λW=>has_calls lo hi key W hl hh hk);clear h0 h1 hW;simp only[encHV];go_enter Tryz.func108,Tryz.ntmps108;go_wp2_with fail;refine (HC.out _).mono ?_;rintro e w' ⟨rfl,hx⟩;have X2:=qA (qJ HX.out hx);clear hx;go_wp2_with fail;go_ret;exact⟨rfl,X2.out⟩
theorem take_asks (bx:Nat)(lo hi:ByteArray)(S:Nat->Prop)(w:World)(hl:lo.size<=140737488351232)(hh:hi.size<=140737488351232)(hb:bx<w.heap.size)(h0:w.cell? ⟨bx,0,none⟩=some (.string lo))(h1:w.cell? ⟨bx,1,none⟩=some (.string hi))(hS:¬S bx):
 Asks 142 #[.pointer (some ⟨bx,0,none⟩)] (λk _ _=>hasB lo.data.toList hi.data.toList k.data.toList) S w:=by
 intro W hW x hk;have hcW:=(hW.cell (p:=⟨bx,0,none⟩) hb hS).trans h0;have hdW:=(hW.cell (p:=⟨bx,1,none⟩) hb hS).trans h1;have hbW:bx<W.heap.size:=qN hb hW.size;have hbx:bx≠W.heap.size:=by omega
 obtain⟨key,cl,nm,xo,xn,xc,yo,yn,yc,put,value⟩:=x;have HX:Hid (Ext W (W.alloc (.cells #[.string key,.int .i64 cl,.int .i64 nm,.slice xo xn xc,.slice yo yn yc,.bool put,.string value] 48))):=qA ((qK _ W).alloc (qL _) _);have HC:=qA (λW=>has_calls lo hi key W hl hh hk);clear h0 h1 hW;simp only[encHV];go_enter Tryz.func142,Tryz.ntmps142;go_wp2_with fail;refine (HC.out _).mono ?_;rintro e w' ⟨rfl,hx⟩;have X2:=qA (qJ HX.out hx);clear hx;go_wp2_with fail;go_ret;exact⟨rfl,X2.out⟩
def RowPost (yes:List HoldD)(w:World)(e:Ending)(w':World):Prop:=
 ∃(r:Value) (l':List HoldV),e= .returned r/\l'.length=yes.length/\w'.ownsRow 0 48 7 r l'.length (l'.flatMap encHV)/\(∀j,r.ownBlock=some j->w.heap.size<=j)/\HoldsAre w' (λb=>r.ownBlock=some b\/b<w.heap.size) l' yes/\Mine w' w.heap.size l'/\Ext w w'
theorem RowPost.ext {yes:List HoldD}{w w0 w':World}{e:Ending}(hx:Ext w w0)(h:RowPost yes w0 e w'):RowPost yes w e w':=by
 obtain⟨r,l',h1,h2,h3,h4,h5,h7,h6⟩:=h;exact⟨r,l',h1,h2,h3,λj hj=>qM hx.size (h4 j hj),h5.mono (λb _ e=>e.elim .inl (λe=> .inr (qN e hx.size))),h7.base hx.size,qJ hx h6⟩
theorem LessPostN.ext {hb:Nat}{v:Value}{yes no:List HoldD}{w w0 w':World}{e:Ending}(hx:Ext w w0)(h:LessPostN no0 hb v yes no w0 e w'):LessPostN no0 hb v yes no w e w':=by
 obtain⟨r,l',v',h1,h2,h3,h4,h5,h9,h6,h7,h8⟩:=h;exact⟨r,l',v',h1,h2,h3,λj hj=>qM hx.size (h4 j hj),h5.mono (λb _ e=>e.elim .inl (λe=> .inr (qN e hx.size))),h9.base hx.size,h6,h7,(hx.but (λ_=>False)).trans h8 (λ_ _ e=>e.elim) (λ_ _ e=>e)⟩
def inD (lo hi:ByteArray)(ds:List HoldD):List HoldD:=ds.filter (·.tells λk _ _=>hasB lo.data.toList hi.data.toList k.data.toList)
def outD (lo hi:ByteArray)(ds:List HoldD):List HoldD:=ds.filter λd=> !d.tells λk _ _=>hasB lo.data.toList hi.data.toList k.data.toList
def ofKeys (ls:List ByteArray)(ds:List HoldD):List HoldD:=ds.filter (·.tells λk _ _=>amongB ls k)
def notKeys (ls:List ByteArray)(ds:List HoldD):List HoldD:=ds.filter λd=> !d.tells λk _ _=>amongB ls k
theorem in_calls (hb:Nat)(v:Value)(ds:List HoldD)(lo hi:ByteArray)(w:World)(T:TabN no0 w hb v ds)(hl:lo.size<=140737488351232)(hh:hi.size<=140737488351232):
 Calls Tryz.prog 40 #[.pointer (some ⟨hb,0,none⟩),.agg #[.string lo,.string hi]] w (RowPost (inD lo hi ds) w):=by
 have hc1:=T.blk.cell 1;simp only[qB,qC]at hc1;have HX:Hid (Ext w (w.alloc (.cells #[.string lo,.string hi] 30))):=qA ((qK _ w).alloc (qL _) _);have hbk:Blk (w.alloc (.cells #[.string lo,.string hi] 30)) w.heap.size [.string lo,.string hi] 30:=Blk.new w _ _;have hlt:=hbk.lt;have HTH:=qA (there_calls (some ⟨hb,0,none⟩) true _ ((show ThereIs w (some ⟨hb,0,none⟩) true from .inr ⟨hb,rfl,hc1⟩).ext HX.out));have T0:=T.ext HX.out;obtain⟨l,ao,cap,rfl,hlc,hll,hrows,hown,hare,hrise⟩:=T0.rows;have hfew:=T.few;have hc0:=T0.blk.cell 0;simp only[qB]at hc0
 have HTS:=qA (those_calls _ _ (enters_of Tryz.func108 (by kernel_rfl) rfl) _ l ds _ ao cap hb _ (by omega) hrows hare T0.fits hc0 (T0.keys hare)
  (in_asks w.heap.size lo hi (λ_=>False) _ hl hh hlt (hbk.cell 0) (hbk.cell 1) (λe=>e)))
 clear hrows hown hare hrise hll hc0 hc1 T T0 hbk;go_enter Tryz.func40,Tryz.ntmps40;go_wp2_with fail;refine HTH.out.mono ?_;rintro e w' ⟨rfl,rfl⟩;go_wp2_with fail;refine HTS.out.mono ?_;rintro e w2 ⟨r,l',rfl,h1,h2,h3,h4,h6,h5⟩;have HP:Hid (RowPost (inD lo hi ds) w (.returned r) w2):=qA (RowPost.ext HX.out ⟨r,l',rfl,h1,h2,h3,h4,h6,h5⟩);clear h1 h2 h3 h4 h5 h6 HTS HTH;go_wp2_with fail;go_ret;exact HP.out
theorem take_calls (hb:Nat)(v:Value)(ds:List HoldD)(lo hi:ByteArray)(w:World)(T:TabN no0 w hb v ds)(hl:lo.size<=140737488351232)(hh:hi.size<=140737488351232):
 Calls Tryz.prog 67 #[.pointer (some ⟨hb,0,none⟩),.agg #[.string lo,.string hi]] w (LessPostN no0 hb v (inD lo hi ds) (outD lo hi ds) w):=by
 have hc1:=T.blk.cell 1;simp only[qB,qC]at hc1;have HX:Hid (Ext w (w.alloc (.cells #[.string lo,.string hi] 30))):=qA ((qK _ w).alloc (qL _) _);have hbk:Blk (w.alloc (.cells #[.string lo,.string hi] 30)) w.heap.size [.string lo,.string hi] 30:=Blk.new w _ _;have hlt:=hbk.lt;have HTH:=qA (there_calls (some ⟨hb,0,none⟩) true _ ((show ThereIs w (some ⟨hb,0,none⟩) true from .inr ⟨hb,rfl,hc1⟩).ext HX.out));have hbl:=T.blk.lt
 have HTS:=qA (less_calls _ _ (enters_of Tryz.func142 (by kernel_rfl) rfl) _ hb v ds _ (T.ext HX.out)
  (take_asks w.heap.size lo hi (λj=>j=hb\/v.ownBlock=some j) _ hl hh hlt (hbk.cell 0) (hbk.cell 1) (λe=>e.elim (λe=>by omega) (λe=>by have:=T.lt e;omega))))
 clear hc1 T hbk;go_enter Tryz.func67,Tryz.ntmps67;go_wp2_with fail;refine HTH.out.mono ?_;rintro e w' ⟨rfl,rfl⟩;go_wp2_with fail;refine HTS.out.mono ?_;rintro e w2 h;have HP:Hid (LessPostN no0 hb v (inD lo hi ds) (outD lo hi ds) w e w2):=qA (LessPostN.ext HX.out h);obtain⟨r,l',v',rfl,-⟩:=h;clear HTS HTH;go_wp2_with fail;go_ret;exact HP.out
theorem free_calls (hb:Nat)(v:Value)(ds:List HoldD)(ls:List ByteArray)(ao:Option Addr)(cap:Nat)(w:World)(T:TabN no0 w hb v ds)(hl:ls.length<=1000000)(hr:NRows 1 encStr (λj=>j=hb\/v.ownBlock=some j) w ao ls):
 Calls Tryz.prog 96 #[.pointer (some ⟨hb,0,none⟩),.slice ao ls.length cap] w (LessPostN no0 hb v (ofKeys ls ds) (notKeys ls ds) w):=by
 have hc1:=T.blk.cell 1;simp only[qB,qC]at hc1;have HX:Hid (Ext w (w.alloc (.cells #[.slice ao ls.length cap] 145))):=qA ((qK _ w).alloc (qL _) _);have hbk:Blk (w.alloc (.cells #[.slice ao ls.length cap] 145)) w.heap.size [.slice ao ls.length cap] 145:=Blk.new w _ _;have hlt:=hbk.lt;have HTH:=qA (there_calls (some ⟨hb,0,none⟩) true _ ((show ThereIs w (some ⟨hb,0,none⟩) true from .inr ⟨hb,rfl,hc1⟩).ext HX.out));have hbl:=T.blk.lt
 have HTS:=qA (less_calls _ _ (enters_of Tryz.func170 (by kernel_rfl) rfl) _ hb v ds _ (T.ext HX.out)
  (free_asks w.heap.size ls ao cap (λj=>j=hb\/v.ownBlock=some j) _ hl hlt (hbk.cell 0) (λe=>e.elim (λe=>by omega) (λe=>by have:=T.lt e;omega)) (hr.ext HX.out)))
 clear hc1 T hbk hr;go_enter Tryz.func96,Tryz.ntmps96;go_wp2_with fail;refine HTH.out.mono ?_;rintro e w' ⟨rfl,rfl⟩;go_wp2_with fail;refine HTS.out.mono ?_;rintro e w2 h;have HP:Hid (LessPostN no0 hb v (ofKeys ls ds) (notKeys ls ds) w e w2):=qA (LessPostN.ext HX.out h);obtain⟨r,l',v',rfl,-⟩:=h;clear HTS HTH;go_wp2_with fail;go_ret;exact HP.out
end Go.Proofs.YtmpmggejhnmakaaGreatDoor
