/- tract.Drop, where a stretch is closed for its handoff. -/
import Derived.Test.YtmpmggejhnmakaaGreatDoorZ48
import Derived.Test.YtmpmggejhnmakaaGreatDoorZ35
import Derived.Test.YtmpmggejhnmakaaGreatDoorZ47
import Derived.Test.YtmpmggejhnmakaaGreatDoorZ46
import Derived.Test.YtmpmggejhnmakaaGreatDoorZ01
set_option maxRecDepth 100000
set_option maxHeartbeats 6400000
namespace Go.Proofs.YtmpmggejhnmakaaGreatDoor
open Go.RowKit
theorem TrIs.rowsIn {w w':World}{k:TrK}{d:TrD}(h:TrIs w k d){rv':Value}{rs':List RowD}(hr:RTab w' k.rb rv' rs')(hf:∀j,rv'.ownBlock=some j->k.rv.ownBlock=some j)(hx:But (λj=>j=k.rb\/k.rv.ownBlock=some j) w w'):TrIs w' { k with rv:=rv' } { d with rows:=rs' }:=by
 obtain⟨n,xs,ho⟩:=h.ht.own;have hne:∀{e:TypeId} {cs:List Value} {b:Nat},Blk w b cs e->b≠k.rb->52≠e->¬(b=k.rb\/k.rv.ownBlock=some b):=λhb h1 h2 e=>e.elim h1 (own_bk h.rt.row hb h2)
 have hno:∀{e:TypeId} {s m:Nat} {v:Value} {ys:List Value},w.ownsRow 0 e s v m ys->e≠174->e≠52->∀j,v.ownBlock=some j->¬(j=k.rb\/k.rv.ownBlock=some j):=λhv h1 h2 j hj e=>by
  rcases e with rfl | e
  · exact own_bk hv h.rt.blk h1 hj
  · exact own_own hv h.rt.row h2 j hj e
 refine⟨h.blk.but hx (hne h.blk h.tb_rb (by decide)),hr,(h.ht.but' hx (hne h.ht.blk (Ne.symm h.rb_hb) (by decide)) (hno ho (by decide) (by decide)) (λb _ e=>e.elim (λe=> .inr (.inl e)) (λe=> .inr (.inr (.inr (.inl e)))))).mono' (λb _ e=>?_),h.pt.but hx (hne h.pt.blk (Ne.symm h.rb_pb) (by decide)),own_but h.po hx (hno h.po (by decide) (by decide)),h.ps,h.pn⟩;unfold TrK.noH at e ⊢;rcases e with e | e | e | e | e
 · exact .inl e
 · exact .inr (.inl e)
 · exact .inr (.inr (.inl e))
 · exact .inr (.inr (.inr (.inl (hf b e))))
 · exact .inr (.inr (.inr (.inr e)))
theorem TrTo.comp {w w4 w5:World}{k k4:TrK}{d5:TrD}(h1:k4.tb=k.tb)(h2:k4.rb=k.rb)(h3:k4.hb=k.hb)(h4:k4.pb=k.pb)(ho:∀b,k4.owns b->k.owns b\/w.heap.size<=b)(hb:But k.owns w w4)(h:TrTo k4 d5 w4 w5):TrTo k d5 w w5:=by
 obtain⟨k5,i5,a1,a2,a3,a4,o5,b5⟩:=h;exact⟨k5,i5,a1.trans h1,a2.trans h2,a3.trans h3,a4.trans h4,λb e=>(o5 b e).elim (ho b) (λe=> .inr (qM hb.size e)),hb.trans b5 (λ_ _ e=>e) (λb hb' e=>(ho b e).elim id (λe=>absurd hb' (Nat.not_lt.2 e)))⟩
def dropD (scheme:Int)(lo hi:ByteArray)(i:Nat)(d:TrD):TrD:={ rows:=outR lo.data.toList hi.data.toList d.rows,holds:=outD lo hi d.holds,ns:=d.ns,parts:=repD d.parts [] i (i+1),ended:=scheme }
theorem drop1_calls (k:TrK)(d:TrD)(scheme:Int)(i:Nat)(lo hi:ByteArray)(ep:Int)(w:World)(T:TrIs w k d)(hcl:closedN d.parts=some i)(hpi:d.parts[i]? =some ⟨lo,hi,ep,2,scheme⟩)(hbd:beforeD scheme true d.ended=(0,true))(hl:lo.size<=140737488351232)(hh:hi.size<=140737488351232):
 Calls Tryz.prog 22 #[.pointer (some ⟨k.tb,0,none⟩),.int .i64 scheme] w λe w'=>e= .returned (.int .i64 0)/\TrTo k (dropD scheme lo hi i d) w w':=by
 obtain⟨ao,cap,hpv,hrow,c3⟩:=T.slice;have c4:=T.blk.cell 4;have c6:=T.blk.cell 6;simp only[qB,qC]at c4 c6;have HB:=qA (before_calls k.tb scheme d.ended true w c4 c6);rw[hbd]at HB;have hpn:=T.pn;have HC:=qA (λW (hW:Ext w W)=>closed_calls k.tb d.parts ao cap W ((hW.cell (p:=⟨k.tb,3,none⟩) T.blk.lt).trans c3) (by omega) ((hrow.ext hW).mono hW.size));have HT:=qA T;have hil:=(qF.1 hpi).1;have HCL:=qA hcl;have HPI:=qA hpi;clear T hrow c3 c4 c6 hpv hcl hpi hbd;go_enter Tryz.func22,Tryz.ntmps22;go_wp2_with fail;refine HB.out.mono ?_;rintro e w1 ⟨rfl,hx1⟩;have X1:=qA hx1;clear hx1;go_wp2_with fail;refine (HC.out _ X1.out).mono ?_;rintro e w2 ⟨kk,rfl,hk,hx2⟩
 obtain rfl:kk=(i:Int):=by
  rcases first_idx hk with ⟨_,hno⟩ | ⟨n,x,rfl,hyes,_,_⟩
  · have:=HCL.out;unfold closedN at this;rw[hno]at this;cases this
  · have:=HCL.out;unfold closedN at this;rw[hyes]at this;injection this with this;rw[this]
 have X2:=qA (qJ X1.out hx2);have T2:=qA (HT.out.ext X2.out);clear hk hx2 HB HC X1;obtain⟨ao,cap,hpv,hrow,c3⟩:=T2.out.slice;obtain⟨b,off,rfl,hb,hcell⟩:=hrow (by intro e;rw[e]at hil;simp at hil);have hcx:=hcell i _ HPI.out;have d0:=hcx 0 _ rfl;have d1:=hcx 1 _ rfl;have d4:=hcx 4 _ rfl;simp only[Nat.add_zero]at d0;have i0:(0:Int)<=(i:Int):=by omega
 have i1:(i:Int)<(d.parts.length:Int):=by omega
 have ilt:decide ((i:Int)<0)=false:=by simp
 have t0:=T2.out.blk.cell 0;have t1:=T2.out.blk.cell 1;simp only[qB,qC]at t0 t1
 have hbT:b≠k.tb/\b≠k.rb/\¬k.rv.ownBlock=some b/\b≠k.hb/\¬k.hv.ownBlock=some b:=by
  have hown:k.pv.ownBlock=some b:=by rw[hpv];rfl
  obtain⟨_,_,hho⟩:=T2.out.ht.own;exact⟨λe=>own_bk T2.out.po T2.out.blk (by decide) (e▸hown),λe=>own_bk T2.out.po T2.out.rt.blk (by decide) (e▸hown),own_own T2.out.po T2.out.rt.row (by decide) b hown,λe=>own_bk T2.out.po T2.out.ht.blk (by decide) (e▸hown),own_own T2.out.po hho (by decide) b hown⟩
 have HBT:=qA hbT;have hS:¬(k.tb=k.rb\/k.rv.ownBlock=some k.tb):=λe=>e.elim T2.out.tb_rb (own_bk T2.out.rt.row T2.out.blk (by decide));have hS2:¬(b=k.rb\/k.rv.ownBlock=some b):=λe=>e.elim hbT.2.1 hbT.2.2.1;have q0:=ButBy.cell (S:=λj=>j=k.rb\/k.rv.ownBlock=some j) t0 hS;have q3:=ButBy.cell (S:=λj=>j=k.rb\/k.rv.ownBlock=some j) c3 hS;have p0:=ButBy.cell (S:=λj=>j=k.rb\/k.rv.ownBlock=some j) d0 hS2;have p1:=ButBy.cell (S:=λj=>j=k.rb\/k.rv.ownBlock=some j) d1 hS2;go_upto_region 7 with fail;refine wp_region_firstC (λW=>∃p:ButBy (λj=>j=k.rb\/k.rv.ownBlock=some j) w2,W=p.W) [0,1,2,3,4,5,6,7,8,9,10,11,12] 1 (by kernel_rfl) (by kernel_rfl) (λ_ _ _ _ h=>h) ⟨⟨w2.drew,(But.refl _ w2).drew⟩,rfl⟩ ?_;simp only[opsAt,qD,qC,qB]
 repeat (go_big_quiet_step (fail))
 refine wpQuiet_nil ?_;clear q0 q3 p0 p1 t0 t1;refine wpAnyH_ready (rs:=[13]) (by kernel_rfl) (by simp) ?_;refine AllReadyH.cons rfl (λK hK=>?_) AllReadyH.nil;go_simp;refine (takeR_calls k.rb k.rv d.rows lo hi _ (T2.out.rt.ext (qK _ w2).drew) hl hh).mono ?_;rintro e w3 ⟨⟨r,rfl⟩,⟨rv',hrt,hrf⟩,hb3⟩;have hB3:=(Ext.but (qK w2.heap.size w2).drew (λ_=>False)).trans hb3 (U:=λj=>j=k.rb\/k.rv.ownBlock=some j) (λ_ _ e=>e.elim) (λ_ _ e=>e);have T3:=qA (T2.out.rowsIn hrt hrf hB3);have e0:=(hB3.cell (p:=⟨b,_,none⟩) hb hS2).trans d0;have e1:=(hB3.cell (p:=⟨b,_,none⟩) hb hS2).trans d1;have RF:=qA hrf;have B3:=qA hB3;refine hK.out _ _ ⟨⟨_,hB3⟩,rfl⟩ (λ_=>?_);clear hK K hrt hrf hb3 hB3 d0 d1 d4 c3 hcell hcx hrow hS hS2;refine wpAnyH_done (by kernel_rfl) ?_ _;have t1:=T3.out.blk.cell 1;have c3:=T3.out.blk.cell 3;simp only[qB,qC]at t1 c3;rw[hpv]at c3;have hb3':b<w3.heap.size:=qN hb B3.out.size;obtain⟨_,_,hho⟩:=T3.out.ht.own;have hS:¬(k.tb=k.hb\/k.hv.ownBlock=some k.tb):=λe=>e.elim T3.out.tb_hb (own_bk hho T3.out.blk (by decide));have hS2:¬(b=k.hb\/k.hv.ownBlock=some b):=λe=>e.elim HBT.out.2.2.2.1 HBT.out.2.2.2.2;have q1:=ButBy.cell (S:=λj=>j=k.hb\/k.hv.ownBlock=some j) t1 hS;have q3:=ButBy.cell (S:=λj=>j=k.hb\/k.hv.ownBlock=some j) c3 hS;have p0:=ButBy.cell (S:=λj=>j=k.hb\/k.hv.ownBlock=some j) e0 hS2;have p1:=ButBy.cell (S:=λj=>j=k.hb\/k.hv.ownBlock=some j) e1 hS2;go_upto_region 8 with fail;refine wp_region_firstC (λW=>∃p:ButBy (λj=>j=k.hb\/k.hv.ownBlock=some j) w3,W=p.W) [0,1,2,3,4,5,6,7,8,9,10,11,12] 1 (by kernel_rfl) (by kernel_rfl) (λ_ _ _ _ h=>h) ⟨⟨w3.drew,(But.refl _ w3).drew⟩,rfl⟩ ?_
 simp only[opsAt,qD,qC,qB]
 repeat (go_big_quiet_step (fail))
 refine wpQuiet_nil ?_;clear q1 q3 p0 p1 t1 c3 e0 e1;refine wpAnyH_ready (rs:=[13]) (by kernel_rfl) (by simp) ?_;refine AllReadyH.cons rfl (λK hK=>?_) AllReadyH.nil;go_simp;refine (take_calls k.hb k.hv d.holds lo hi _ (T3.out.ht.ext (qK _ w3).drew) hl hh).mono ?_;rintro e w4 ⟨r2,l2,hv',rfl,_,_,_,_,_,hht,hhf,hb4⟩;have hB4:=(Ext.but (qK w3.heap.size w3).drew (λ_=>False)).trans hb4 (U:=λj=>j=k.hb\/k.hv.ownBlock=some j) (λ_ _ e=>e.elim) (λ_ _ e=>e);have T4:=qA (T3.out.holds hht hB4);have HF:=qA hhf;have B4:=qA hB4;refine hK.out _ _ ⟨⟨_,hB4⟩,rfl⟩ (λ_=>?_);clear hK K hht hhf hb4 hB4 hS hS2;refine wpAnyH_done (by kernel_rfl) ?_ _;have HRP:=qA (trReplaceN_calls _ _ i (i+1) w4 T4.out (by omega) (by show i+1<=d.parts.length;omega));rw[show ((i+1:Nat):Int)=(i:Int)+1 from by omega]at HRP;have hin:(i:Int)+1<=1000:=by omega
 clear hb hb3';go_wp2_with fail;refine HRP.out.mono ?_;rintro e w5 ⟨rfl,hto⟩;obtain⟨k5,i5,a5,_⟩:=id hto;have f4:=i5.blk.free 4;have c4:=i5.blk.cell 4;rw[a5]at f4 c4;simp only[qB,qC]at f4 c4;have TO:=qA (hto.endedTo scheme);clear hto i5 a5;go_wp2_with fail;go_ret;refine⟨rfl,TrTo.comp (k4:=⟨k.tb,k.rb,k.hb,k.pb,rv',hv',k.pv⟩) (w4:=w4) rfl rfl rfl rfl (λb e=> .inl ?_) ?_ TO.out⟩
 · unfold TrK.owns at e ⊢
   rcases e with e | e | e | e | e | e | e
   · exact .inl e
   · exact .inr (.inl e)
   · exact .inr (.inr (.inl e))
   · exact .inr (.inr (.inr (.inl e)))
   · exact .inr (.inr (.inr (.inr (.inl (RF.out b e)))))
   · exact .inr (.inr (.inr (.inr (.inr (.inl (HF.out b e))))))
   · exact .inr (.inr (.inr (.inr (.inr (.inr e)))))
 · exact ((Ext.but X2.out (λ_=>False)).trans B3.out (U:=k.owns) (λ_ _ e=>e.elim) (λ_ _ e=>e.elim (λe=> .inr (.inl e)) (λe=> .inr (.inr (.inr (.inr (.inl e))))))).trans B4.out (λ_ _ e=>e) (λ_ _ e=>e.elim (λe=> .inr (.inr (.inl e))) (λe=> .inr (.inr (.inr (.inr (.inr (.inl e)))))))
end Go.Proofs.YtmpmggejhnmakaaGreatDoor
/- handoffs, plainly: what a deed of a transaction leaves, what is handed over, what is dropped. -/
namespace Go.Proofs.YtmpmggejhnmakaaGreatDoor
open Go.RowKit
theorem deed_parts (z:DeedZ)(d:TrD)(h:pickD z.kind<3):(doesD z d).2.parts=d.parts/\(doesD z d).2.ended=d.ended:=by
 unfold doesD
 split
 · unfold finD
   split<;>exact⟨rfl,rfl⟩
 · rw[if_neg (by omega),if_neg (by omega)]
   unfold prepD
   repeat' split
   all_goals exact⟨rfl,rfl⟩
theorem deed_stays {lo hi:List UInt8}{d:TrD}(S:Shut lo hi d.parts)(z:DeedZ)(hr:RiseR d.rows)(h:pickD z.kind<3):(doesD z d).2.rows.filter (spR lo hi)=d.rows.filter (spR lo hi)/\(doesD z d).2.holds.filter (spD lo hi)=d.holds.filter (spD lo hi):=by
 unfold doesD
 split
 · exact finD_stays S _ _ _ hr
 · rw[if_neg (by omega),if_neg (by omega)]
   obtain⟨h1,h2⟩:=prepD_stays S z.cl z.nm z.ep z.acts;exact⟨by rw[h1],h2⟩
theorem insD_last {x:HoldD}:∀{l:List HoldD},(∀r∈l,dkey r<dkey x)->insD x l=l++[x]:=λ{l} h=>by
 have hp:placeD (dkey x) l=l.length:=by
  have key:∀l:List HoldD,(∀r∈l,dkey r<dkey x)->placeD (dkey x) l=l.length:=λl=>by
   induction l with
   | nil=>intro _;rfl
   | cons d l ih=>
     intro h;have h1:=h d (by simp);have h2:=ih (λr hr=>h r (by simp[hr]));unfold placeD at h2 ⊢;rw[List.takeWhile_cons_of_pos (by simpa using h1),List.length_cons,h2,List.length_cons]
  exact key l h
 unfold insD;rw[hp,List.take_length,List.drop_eq_nil_of_le (by omega)]
theorem insAll_onto:∀(l m:List HoldD),RiseD (m++l)->insAll l m=m++l
 | [],m,_=>by simp[insAll]
 | x::l,m,h=>by
   have hp:=List.pairwise_append.1 h;show insAll l (insD x m)=_;rw[insD_last (λr hr=>hp.2.2 r hr x (by simp)),insAll_onto l (m++[x]) (by simpa using h)];simp
theorem insAll_id {l:List HoldD}(h:RiseD l):insAll l []=l:=by
 have:=insAll_onto l [] (by simpa using h)
 simpa using this
theorem putE_id {l:List HoldD}(hr:RiseD l)(hb:∀d∈l,holdB d=true)(hl:l.length<=60):putE l []=0:=by
 have h1:dupD l=false:=by
  rw[dupD_iff];refine List.pairwise_map.2 (hr.imp (λhlt e=>?_));rw[e]at hlt;exact List.lt_irrefl _ hlt
 have h2:holdsB l=true:=List.all_eq_true.2 λd hd=>hb d hd
 have h3:thereD l []=false:=by
  cases h:thereD l [] with
  | false=>rfl
  | true=>
    obtain⟨x,hx,hy⟩:=List.any_eq_true.1 h;simp[hasD]at hy
 unfold putE;rw[h1,h2,h3];simp;omega
theorem inR_in {lo hi:List UInt8}{l:List RowD}(h:RiseR l)(hs:spanB lo hi=true)(hok:∀r∈l,rwB r=true):inR lo hi (inR lo hi l)=inR lo hi l:=by
 have h1:=inR_filter h hs hok;rw[inR_filter (inR_rise h) hs (λr hr=>hok r (inR_mem hr)),h1,List.filter_filter];exact List.filter_congr (λr _=>by simp)
theorem inD_in (lo hi:ByteArray)(ds:List HoldD):inD lo hi (inD lo hi ds)=inD lo hi ds:=by
 rw[inD_spD,inD_spD,List.filter_filter];exact List.filter_congr (λr _=>by simp)
theorem mineR_in {lo hi k:List UInt8}{l:List RowD}(hk:hasB lo hi k=true):mineR k (l.filter (spR lo hi))=mineR k l:=by
 unfold mineR;rw[List.filter_filter];refine List.filter_congr (λr _=>?_);by_cases h:rkey r=k
 · simp[h,spR,hk]
 · simp[h]
theorem newsD_le (p:HoldD->Bool)(rows:List RowD)(ds:List HoldD):newsD (ds.filter p) rows<=newsD ds rows:=by
 unfold newsD;rw[List.filter_filter];refine (List.Sublist.length_le ?_)
 have:(ds.filter λd=>(d.put&& !(getR (dkey d) rows).isSome)&&p d)=(ds.filter λd=>d.put&& !(getR (dkey d) rows).isSome).filter p:=by
  rw[List.filter_filter];exact List.filter_congr (λd _=>Bool.and_comm _ _)
 rw[this];exact List.filter_sublist
theorem room_in {lo hi:ByteArray}{rows:List RowD}{ds:List HoldD}(G:GoodR rows ds)(hs:spanB lo.data.toList hi.data.toList=true):(inR lo.data.toList hi.data.toList rows).length+newsD (inD lo hi ds) (inR lo.data.toList hi.data.toList rows)<=400:=by
 rw[inR_filter G.rise hs G.ok]
 have h1:newsD (inD lo hi ds) (rows.filter (spR lo.data.toList hi.data.toList))=newsD (inD lo hi ds) rows:=newsD_congr (λd hd=>by
  have hk:hasB lo.data.toList hi.data.toList (dkey d)=true:=(List.mem_filter.1 hd).2;have hr2:RiseR (rows.filter (spR lo.data.toList hi.data.toList)):=List.Pairwise.filter _ G.rise
  rw[getR_some hr2,getR_some G.rise,mineR_in hk])
 rw[h1];have h2:=newsD_le (spD lo.data.toList hi.data.toList) rows ds;have h3:(rows.filter (spR lo.data.toList hi.data.toList)).length<=rows.length:=List.length_filter_le _ _;have h4:=G.room;unfold Roomy at h4;rw[inD_spD];omega
theorem outR_len (lo hi:List UInt8)(l:List RowD):(outR lo hi l).length+(inR lo hi l).length=l.length:=by
 have h:=bounds_ok lo hi l;rw[inR_len];unfold outR;rw[qG,List.length_take,List.length_drop];omega
theorem inR_out {lo hi:List UInt8}{l:List RowD}(h:RiseR l)(hs:spanB lo hi=true)(hok:∀r∈l,rwB r=true):inR lo hi (outR lo hi l)=[]:=by
 have hb:=bounds_ok lo hi l;have hf:=inR_filter h hs hok;rw[inR_filter (h.sublist (outR_sub _ _ _)) hs (λr hr=>hok r ((outR_sub _ _ _).subset hr))]
 have hsplit:l.filter (spR lo hi)=(l.take (boundsR lo hi l).1).filter (spR lo hi)++(inR lo hi l).filter (spR lo hi)++(l.drop (boundsR lo hi l).2).filter (spR lo hi):=by
  rw[<- List.filter_append,<- List.filter_append]
  congr 1
  have e1:l.take (boundsR lo hi l).1++inR lo hi l=l.take (boundsR lo hi l).2:=by
   unfold inR
   conv=>rhs;rw[<- List.take_append_drop (boundsR lo hi l).1 (l.take (boundsR lo hi l).2)]
   rw[List.take_take,Nat.min_eq_left hb.1]
  rw[e1,List.take_append_drop]
 have hmid:(inR lo hi l).filter (spR lo hi)=inR lo hi l:=by
  rw[hf,List.filter_filter];exact List.filter_congr (λr _=>by simp)
 rw[hmid,<- hf]at hsplit;have hlen:=congrArg List.length hsplit;simp only[qG]at hlen;unfold outR;rw[List.filter_append,List.eq_nil_of_length_eq_zero (show ((l.take (boundsR lo hi l).1).filter (spR lo hi)).length=0 by omega),List.eq_nil_of_length_eq_zero (show ((l.drop (boundsR lo hi l).2).filter (spR lo hi)).length=0 by omega)];rfl
theorem shut_whole {lo hi:ByteArray}(scheme:Int)(hs:spanB lo.data.toList hi.data.toList=true):Shut lo.data.toList hi.data.toList (frzNew scheme 1 lo hi st0):=λk q hk=>by
 obtain⟨a,b,hab,hout,_⟩:=frz_whole scheme hs;rw[hab];unfold openL;rw[List.any_eq_false];intro s hs2;unfold openQ;rcases List.mem_append.1 hs2 with h | h
 · rw[(hout s (by simp[h])).2 k hk];simp
 · rcases List.mem_cons.1 h with rfl | h
   · simp
   · rw[(hout s (by simp[h])).2 k hk];simp
theorem closed_whole {lo hi:ByteArray}(scheme:Int)(hs:spanB lo.data.toList hi.data.toList=true):∃i,closedN (frzNew scheme 1 lo hi st0)=some i/\(frzNew scheme 1 lo hi st0)[i]? =some ⟨lo,hi,1,2,scheme⟩:=by
 obtain⟨a,b,hab,hout,_⟩:=frz_whole scheme hs;refine⟨a.length,?_,?_⟩
 · rw[hab]
   unfold closedN;rw[List.findIdx?_append,List.findIdx?_eq_none_iff.2 (λx hx=>by rw[(hout x (by simp[hx])).1];rfl),List.findIdx?_cons];simp
 · rw[hab];simp
theorem frzD_whole {d:TrD}{lo hi:ByteArray}{scheme:Int}(hp:d.parts=[st0])(hs:spanB lo.data.toList hi.data.toList=true)(hb:beforeD scheme true d.ended=(0,true)):frzD scheme lo hi 1 d=(tabW lo hi d,0,{ d with parts:=frzNew scheme 1 lo hi st0 }):=by
 unfold frzD;rw[show (spanB lo.data.toList hi.data.toList&& !badN 1)=true from by rw[hs];rfl,hb];simp only;rw[if_neg (by simp)];unfold frzOn;rw[hp];have h1:closedN [st0]=none:=by rfl
 have h2:[st0].findIdx? (frzQ lo hi 1)=some 0:=by
  have:frzQ lo hi 1 st0=true:=by
   unfold frzQ withinB;rw[hs]
   have h3:cmpT st0.lo.data.toList lo.data.toList<=0:=by
    show cmpT [] lo.data.toList<=0;unfold cmpT;cases lo.data.toList with
    | nil=>simp
    | cons x l=>simp
   rw[decide_eq_true h3];rfl
  simp[List.findIdx?_cons,this]
 rw[h1,h2];simp[repD]
end Go.Proofs.YtmpmggejhnmakaaGreatDoor
/- TractHandoff: what stands beside the tract while it turns. -/
namespace Go.Proofs.YtmpmggejhnmakaaGreatDoor
open Go.RowKit
def NoStr (w:World)(b:Nat):Prop:=∃cs t,Blk w b cs t/\∀s,Value.string s∉cs
theorem NRows.strs {α:Type}{sz:Nat}{enc:α->List Value}{no Z:Nat->Prop}{w:World}{ao:Option Addr}{l:List α}(h:NRows sz enc no w ao l)(hz:∀b,Z b->NoStr w b)(i:Nat)(h2:∀x,∃s,(enc x)[i]? =some (.string s)):NRows sz enc (λb=>no b\/Z b) w ao l:=λhne=>by
 obtain⟨b,off,e,hb',hn,hc⟩:=h hne;refine⟨b,off,e,hb',λq=>q.elim hn (λq=>?_),hc⟩;obtain⟨cs,t,hb,hs⟩:=hz b q;cases l with
 | nil=>exact hne rfl
 | cons x l=>
   obtain⟨s,hv⟩:=h2 x
   have:=hc 0 x rfl i _ hv
   rw[hb.cell]at this;exact hs s (qH this)
theorem HoldsAre.strs {no Z:Nat->Prop}{w:World}(hz:∀b,Z b->NoStr w b):∀{l:List HoldV}{ds:List HoldD},HoldsAre w no l ds->HoldsAre w (λb=>no b\/Z b) l ds
 | [],[],_=>trivial
 | [],_::_,h=>h.elim
 | _::_,[],h=>h.elim
 | _::_,_::_,h=>⟨⟨h.1.key,h.1.cl,h.1.nm,h.1.an,h.1.rn,h.1.put,h.1.value,h.1.acts.strs hz 1 (λ_=>⟨_,rfl⟩),h.1.reads.strs hz 0 (λ_=>⟨_,rfl⟩)⟩,HoldsAre.strs hz h.2⟩
theorem TrIs.apart {w w':World}{k:TrK}{d:TrD}{Z:Nat->Prop}(h:TrIs w k d)(hz:∀b,Z b->NoStr w b)(ho:∀b,k.owns b->¬Z b)(hx:But Z w w'):TrIs w' k d:=by
 obtain⟨l,r1,r2⟩:=h.ht.row;have ht:TabN (λb=>k.noH b\/Z b) w k.hb k.hv d.holds:=⟨h.ht.blk,⟨l,r1,(r2.strs hz).mono (λ_ _ e=>e.elim (λe=> .inl (.inl e)) (λe=>e.elim (λe=> .inl (.inr e)) .inr))⟩,h.ht.rise,h.ht.ok,h.ht.few⟩;exact⟨h.blk.but hx (ho _ (.inl rfl)),h.rt.but hx (ho _ (.inr (.inl rfl))) (λj e=>ho _ (.inr (.inr (.inr (.inr (.inl e)))))),(ht.but' hx (ho _ (.inr (.inr (.inl rfl)))) (λj e=>ho _ (.inr (.inr (.inr (.inr (.inr (.inl e))))))) (λb _ e=> .inr e)).mono' (λ_ _ e=> .inl e),h.pt.but hx (ho _ (.inr (.inr (.inr (.inl rfl))))),own_but h.po hx (λj e=>ho _ (.inr (.inr (.inr (.inr (.inr (.inr e))))))),h.ps,h.pn⟩
def isZ (tu ru hu pu:Nat)(b:Nat):Prop:=b=tu\/b=ru\/b=hu\/b=pu
theorem TrO.noStr {w:World}{tu ru hu pu:Nat}{c:Option Nat}(h:TrO w tu ru hu pu c):∀b,isZ tu ru hu pu b->NoStr w b:=λb e=>by
 rcases e with rfl | rfl | rfl | rfl
 · exact⟨_,_,h.bt,by simp⟩
 · exact⟨_,_,h.rt.blk,by simp⟩
 · exact⟨_,_,h.ht.blk,by simp⟩
 · exact⟨_,_,h.pt.blk,by simp⟩
theorem TrO.lt {w:World}{tu ru hu pu:Nat}{c:Option Nat}(h:TrO w tu ru hu pu c):∀b,isZ tu ru hu pu b->b<w.heap.size:=λb e=>by
 rcases e with rfl | rfl | rfl | rfl
 · exact h.bt.lt
 · exact h.rt.blk.lt
 · exact h.ht.blk.lt
 · exact h.pt.blk.lt
theorem TrO.keep {w w':World}{tu ru hu pu:Nat}{c:Option Nat}{S:Nat->Prop}(h:TrO w tu ru hu pu c)(hx:But S w w')(hn:∀b,isZ tu ru hu pu b->¬S b):TrO w' tu ru hu pu c:=h.but hx (hn _ (.inl rfl)) (hn _ (.inr (.inl rfl))) (hn _ (.inr (.inr (.inl rfl)))) (hn _ (.inr (.inr (.inr rfl))))
structure TrU (B:Nat)(Z:Nat->Prop)(w:World)(k:TrK)(d:TrD):Prop where
 is:TrIs w k d
 own:∀b,k.owns b->Z b\/B<=b
 ht:TabN (λb=>b<B\/k.noH b) w k.hb k.hv d.holds
theorem TrU.but {B:Nat}{Z S:Nat->Prop}{w w':World}{k:TrK}{d:TrD}(h:TrU B Z w k d)(hx:But S w w')(hS:∀b,b<w.heap.size->S b->b<B/\¬Z b):TrU B Z w' k d:=by
 have no:∀b,k.owns b->¬S b:=λb e q=>by
  have hl:=h.is.owns_lt b e;obtain⟨h1,h2⟩:=hS b hl q;exact (h.own b e).elim h2 (λe=>by omega)
 have ht:=h.ht.but' hx (no _ (.inr (.inr (.inl rfl)))) (λj e=>no _ (.inr (.inr (.inr (.inr (.inr (.inl e))))))) (λb hb e=> .inl (hS b hb e).1);exact⟨⟨h.is.blk.but hx (no _ (.inl rfl)),h.is.rt.but hx (no _ (.inr (.inl rfl))) (λj e=>no _ (.inr (.inr (.inr (.inr (.inl e)))))),ht.mono' (λ_ _ e=> .inr e),h.is.pt.but hx (no _ (.inr (.inr (.inr (.inl rfl))))),own_but h.is.po hx (λj e=>no _ (.inr (.inr (.inr (.inr (.inr (.inr e))))))),h.is.ps,h.is.pn⟩,h.own,ht⟩
theorem TrU.ext {B:Nat}{Z:Nat->Prop}{w w':World}{k:TrK}{d:TrD}(h:TrU B Z w k d)(hx:Ext w w'):TrU B Z w' k d:=h.but (Ext.but hx (λ_=>False)) (λ_ _ e=>e.elim)
structure HandS (w W:World)(V Z:Nat->Prop)(b6:Nat)(slo shi:ByteArray)(tb:Nat)(ps:List StrZ)(en:Int)(rs:List RowD)(hs:List HoldD)(ro:Option Addr)(rc:Nat)(ho:Option Addr)(hc:Nat)(L:List HoldV)(k:TrK)(d:TrD):Prop where
 is:TrIs W k d
 tb:k.tb=tb
 room:en=0->Roomy d.rows d.holds
 ps:d.parts=ps
 en:d.ended=en
 far:Ext w W
 low:∀b,k.owns b->w.heap.size<=b/\¬V b/\¬Z b
 vlt:∀b,V b\/Z b->b<W.heap.size
 vz:∀b,V b->¬Z b
 zlow:∀b,Z b->w.heap.size<=b
 box:Blk W b6 [.string slo,.string shi] 30
 bV:V b6
 rows:W.ownsRow 0 52 2 (.slice ro rs.length rc) rs.length (rs.flatMap encRw)
 rV:∀j,(Value.slice ro rs.length rc).ownBlock=some j->V j
 holds:W.ownsRow 0 48 7 (.slice ho L.length hc) L.length (L.flatMap encHV)
 hV:∀j,(Value.slice ho L.length hc).ownBlock=some j->V j
 are:HoldsAre W (λb=>¬V b) L hs
section
variable {w W W':World} {V Z:Nat->Prop} {b6:Nat} {slo shi:ByteArray} {tb:Nat} {ps:List StrZ} {en:Int} {rs:List RowD} {hs:List HoldD} {ro:Option Addr} {rc:Nat} {ho:Option Addr} {hc:Nat} {L:List HoldV} {k:TrK} {d:TrD}
theorem HandS.keep (h:HandS w W V Z b6 slo shi tb ps en rs hs ro rc ho hc L k d){d':TrD}(ht:TrTo k d' W W'):But (λb=>¬V b/\¬Z b) W W':=by
 obtain⟨_,_,_,_,_,_,_,hb⟩:=ht;exact hb.mono λb _ e=>(h.low b e).2
theorem HandS.to (h:HandS w W V Z b6 slo shi tb ps en rs hs ro rc ho hc L k d){d':TrD}{ps':List StrZ}{en':Int}(ht:TrTo k d' W W')(hr:en'=0->Roomy d'.rows d'.holds)(hp:d'.parts=ps')(he:d'.ended=en'):∃k',HandS w W' V Z b6 slo shi tb ps' en' rs hs ro rc ho hc L k' d':=by
 obtain⟨k',i',a1,_,_,_,ho',hb⟩:=ht;refine⟨k',i',a1.trans h.tb,hr,hp,he,?_,λb e=>?_,λb e=>qN (h.vlt b e) hb.size,h.vz,h.zlow,h.box.but hb (λe=>(h.low _ e).2.1 h.bV),h.bV,own_but h.rows hb (λj e e2=>(h.low _ e2).2.1 (h.rV j e)),h.rV,own_but h.holds hb (λj e e2=>(h.low _ e2).2.1 (h.hV j e)),h.hV,h.are.but hb (λb _ e=>(h.low _ e).2.1)⟩
 · exact ((Ext.but h.far (λ_=>False)).trans hb (U:=λb=>w.heap.size<=b) (λ_ _ e=>e.elim) (λb _ e=>(h.low b e).1)).ext (λj hj e=>by omega)
 · rcases ho' b e with e | e
   · exact h.low b e
   · exact⟨qM h.far.size e,λq=>by have:=h.vlt b (.inl q);omega,λq=>by have:=h.vlt b (.inr q);omega⟩
theorem HandS.zed (h:HandS w W V Z b6 slo shi tb ps en rs hs ro rc ho hc L k d){S:Nat->Prop}(hx:But S W W')(hS:∀b,S b->Z b)(hz:∀b,Z b->NoStr W b):HandS w W' V Z b6 slo shi tb ps en rs hs ro rc ho hc L k d:=
 have hx:=hx.mono (T:=Z) (λb _ e=>hS b e)
 ⟨h.is.apart hz (λb e=>(h.low b e).2.2) hx,h.tb,h.room,h.ps,h.en,((Ext.but h.far (λ_=>False)).trans hx (U:=λb=>w.heap.size<=b) (λ_ _ e=>e.elim) (λb _ e=>h.zlow b e)).ext (λj hj e=>by omega),h.low,λb e=>qN (h.vlt b e) hx.size,h.vz,h.zlow,h.box.but hx (h.vz _ h.bV),h.bV,own_but h.rows hx (λj e=>h.vz _ (h.rV j e)),h.rV,own_but h.holds hx (λj e=>h.vz _ (h.hV j e)),h.hV,h.are.but hx (λb _ e q=>h.vz b q e)⟩
theorem HandS.ext (h:HandS w W V Z b6 slo shi tb ps en rs hs ro rc ho hc L k d)(hx:Ext W W'):HandS w W' V Z b6 slo shi tb ps en rs hs ro rc ho hc L k d:=
 ⟨h.is.ext hx,h.tb,h.room,h.ps,h.en,qJ h.far hx,h.low,λb e=>qN (h.vlt b e) hx.size,h.vz,h.zlow,h.box.ext' hx,h.bV,own_ext h.rows hx,h.rV,own_ext h.holds hx,h.hV,h.are.ext hx⟩
theorem HandS.deed (h:HandS w W V Z b6 slo shi tb ps 0 rs hs ro rc ho hc L k d){z:DeedZ}(hz:pickD z.kind<3)(ht:TrTo k (doesD z d).2 W W'):∃k',HandS w W' V Z b6 slo shi tb ps 0 rs hs ro rc ho hc L k' (doesD z d).2:=by
 have LAW:=held_law [] z d (h.is.good (h.room rfl));obtain⟨p1,p2⟩:=deed_parts z d hz;exact h.to ht (λ_=>LAW.room) (p1.trans h.ps) (p2.trans h.en)
theorem HandS.rrows (h:HandS w W V Z b6 slo shi tb ps en rs hs ro rc ho hc L k d):Rows 2 encRw W.heap.size W ro rs:=by
 obtain⟨_,_,hv,_,_,hr⟩:=Rows.own (enc:=encRw) (sz:=2) (λ_=>rfl) h.rows;simp only[Value.slice.injEq,true_and]at hv;obtain⟨rfl,rfl⟩:=hv;exact hr
theorem HandS.hrows (h:HandS w W V Z b6 slo shi tb ps en rs hs ro rc ho hc L k d):Rows 7 encHV W.heap.size W ho L:=by
 obtain⟨_,_,hv,_,_,hr⟩:=Rows.own (enc:=encHV) (sz:=7) (λ_=>rfl) h.holds;simp only[Value.slice.injEq,true_and]at hv;obtain⟨rfl,rfl⟩:=hv;exact hr
theorem HandS.start {w wr wa wb:World}{b6 tu ru hu pu:Nat}{slo shi:ByteArray}{tb:Nat}{ps:List StrZ}{en:Int}{rs:List RowD}{hs:List HoldD}{ro:Option Addr}{rc:Nat}{ho:Option Addr}{hc:Nat}{L:List HoldV}{k:TrK}{d':TrD}{vo:Option Addr}{vn vc:Nat}{xs:List Value}
 (hto:TrTo k d' wa wb) (hlt:∀b,k.owns b->b<wr.heap.size) (hlow:∀b,k.owns b->w.heap.size<=b/\b≠b6/\¬isZ tu ru hu pu b) (htb:k.tb=tb) (hfar:Ext w wa) (hra:wr.heap.size<=wa.heap.size) (hwr:w.heap.size<=wr.heap.size) (hb:Blk wa b6 [.string slo,.string shi] 30) (hb6:b6<wr.heap.size) (hbz:¬isZ tu ru hu pu b6) (hz:∀b,isZ tu ru hu pu b->w.heap.size<=b/\b<wr.heap.size)
 (SE:Seen wr wa rs hs ro rc ho hc L) (hown:wb.ownsRow 0 5 1 (.slice vo vn vc) vn xs) (hvn:∀j,(Value.slice vo vn vc).ownBlock=some j->wa.heap.size<=j) (hroom:Roomy d'.rows d'.holds) (hp:d'.parts=ps) (he:d'.ended=en):
 ∃k',HandS w wb (λb=>b=b6\/(wr.heap.size<=b/\b<wa.heap.size)\/(Value.slice vo vn vc).ownBlock=some b) (isZ tu ru hu pu) b6 slo shi tb ps en rs hs ro rc ho hc L k' d':=by
 obtain⟨k',i',a1,_,_,_,ho',hx⟩:=hto
 have nV:∀b,k.owns b->¬(b=b6\/(wr.heap.size<=b/\b<wa.heap.size)\/(Value.slice vo vn vc).ownBlock=some b):=λb e q=>by
  have h1:=hlt b e;obtain⟨_,h2,_⟩:=hlow b e;rcases q with q | q | q
  · exact h2 q
  · omega
  · have:=hvn b q;omega
 have hs:=hx.size;refine⟨k',i',a1.trans htb,λ_=>hroom,hp,he,?_,λb e=>?_,λb e=>?_,λb e q=>?_,λb e=>(hz b e).1,hb.but hx (λe=>(hlow _ e).2.1 rfl),.inl rfl,own_but SE.rows hx (λj e e2=>by have:=SE.rnew j e;have:=hlt j e2;omega),λj e=> .inr (.inl ⟨SE.rnew j e,(SE.rows.lt j e).2⟩),own_but SE.holds hx (λj e e2=>by have:=SE.hnew j e;have:=hlt j e2;omega),λj e=> .inr (.inl ⟨SE.hnew j e,(SE.holds.lt j e).2⟩),(SE.are.mono (λb hb e=>?_)).but hx (λb _ e=>nV b e)⟩
 · exact ((Ext.but hfar (λ_=>False)).trans hx (U:=λb=>w.heap.size<=b) (λ_ _ e=>e.elim) (λb _ e=>(hlow b e).1)).ext (λj hj e=>by omega)
 · rcases ho' b e with q | q
   · exact⟨(hlow b q).1,nV b q,(hlow b q).2.2⟩
   · refine⟨by omega,λq2=>?_,λq2=>by have:=(hz b q2).2;omega⟩
     rcases q2 with q2 | q2 | q2
     · omega
     · omega
     · exact i'.not_u8 hown b q2 e
 · rcases e with (e | e | e) | e
   · omega
   · omega
   · exact (hown.lt b e).2
   · have:=(hz b e).2;omega
 · rcases e with e | e | e
   · exact hbz (e▸q)
   · have:=(hz b q).2;omega
   · have:=(hz b q).2;have:=hvn b e;omega
 · by_cases h:b<wr.heap.size
   · exact h
   · exact absurd (.inr (.inl ⟨by omega,hb⟩)) e
theorem seen_stays {d:TrD}{z:DeedZ}(G:GoodR d.rows d.holds)(G2:GoodR (doesD z d).2.rows (doesD z d).2.holds)(hsp:spanB slo.data.toList shi.data.toList=true)(S:Shut slo.data.toList shi.data.toList d.parts)(h3:pickD z.kind<3)(hr:inR slo.data.toList shi.data.toList d.rows=rs)(hh:inD slo shi d.holds=hs):inR slo.data.toList shi.data.toList (doesD z d).2.rows=rs/\inD slo shi (doesD z d).2.holds=hs:=by
 obtain⟨p1,p2⟩:=deed_stays S z G.rise h3;rw[inR_filter G2.rise hsp G2.ok,p1,<- inR_filter G.rise hsp G.ok,hr,inD_spD,p2,<- inD_spD,hh];exact⟨rfl,rfl⟩
end
end Go.Proofs.YtmpmggejhnmakaaGreatDoor
