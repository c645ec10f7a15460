/- slices.Delete at rows; rows.Take. -/
import Derived.Test.YtmpmggejhnmakaaGreatDoorZ18
import Derived.Test.YtmpmggejhnmakaaGreatDoorZ31
import Derived.Test.YtmpmggejhnmakaaGreatDoorZ22
import Derived.Test.YtmpmggejhnmakaaGreatDoorZ33
import Derived.Laws.CopyRow
import Derived.Test.YtmpmggejhnmakaaGreatDoorZ01
set_option maxRecDepth 100000
set_option maxHeartbeats 4000000
namespace Go.Proofs.YtmpmggejhnmakaaGreatDoor
open Go.RowKit
theorem elemRwD:Tryz.prog.underlying 40=some (.slice (Tryz.prog.elem 40)):=by kernel_rfl
theorem sizeRwD:∀W,(sizeOf (Tryz.prog.elem 40)).run Tryz.prog W= .ok 2 W:=λW=>by kernel_rfl
theorem blk_ne2 {w:World}{b b':Nat}{cs cs':List Value}{t t':TypeId}(h:Blk w b cs t)(h':Blk w b' cs' t')(hn:t≠t'):b≠b':=λe=>hn (blk_ty (e▸h) h')
def zeroRwD:Array Value:= #[.string ⟨#[]⟩,.string ⟨#[]⟩]
theorem zeroRwD_one:∀n,∀v∈(Builtin.zeroCells zeroRwD n).toList,v.oneCell'=true:=by
 intro n v hv;simp only[Builtin.zeroCells,Array.toList_map,List.mem_map]at hv;obtain⟨i,_,rfl⟩:=hv;have h:i % zeroRwD.size<2:=Nat.mod_lt _ (by decide)
 have:∀k,k<2->(zeroRwD[k]!).oneCell'=true:=by
  intro k hk
  match k,hk with
  | 0,_=>rfl
  | 1,_=>rfl
 exact this _ h
theorem flat_lenRD (l:List RowD):(l.flatMap encRw).length=l.length * 2:=by
 induction l with
 | nil=>rfl
 | cons a l ih=>rw[List.flatMap_cons,qG,ih,List.length_cons];show 2+_=_;omega
theorem slice_fromRD (g len cap n:Nat)(h:n<=len)(hc:len<=cap):
 ∃A:Addr,(n<len->A=⟨g,n * 2,none⟩)/\∀W,(Instr.slice 40 (.slice (some ⟨g,0,none⟩) len cap) (some (.int .i64 n)) none none).run Tryz.prog W= .ok (.slice (some A) (len - n) (cap - n)) W:=by
 by_cases e:cap=n
 · refine⟨⟨g,0,none⟩,λhl=>by omega,λW=>?_⟩
   rw[run_slice_l W _ _ _ _ elemRwD .i64 n (by omega) (by omega),sizeRwD W];simp only[Result.andThen_ok,sliced,Int.toNat_natCast];rw[if_pos e]
 · refine⟨⟨g,n * 2,none⟩,λ_=>rfl,λW=>?_⟩
   rw[run_slice_l W _ _ _ _ elemRwD .i64 n (by omega) (by omega),sizeRwD W];simp only[Result.andThen_ok,sliced,Int.toNat_natCast];rw[if_neg e,Option.map_some,WideShapes.add_plain,Nat.zero_add]
theorem slice_toRD (g len cap n:Nat)(h:n<=cap):∀W,(Instr.slice 40 (.slice (some ⟨g,0,none⟩) len cap) none (some (.int .i64 n)) none).run Tryz.prog W= .ok (.slice (some ⟨g,0,none⟩) n cap) W:=by
 intro W;rw[run_slice_h W _ _ _ _ elemRwD .i64 n (by omega) (by omega),sizeRwD W];simp only[Result.andThen_ok,sliced,Int.toNat_natCast,Nat.sub_zero];by_cases e:cap=0<;>simp[e,WideShapes.add_plain]
theorem slice_midRD (g len cap n k:Nat)(h:n<=k)(hk:k<=cap)(hn:n<cap):∀W,(Instr.slice 40 (.slice (some ⟨g,0,none⟩) len cap) (some (.int .i64 n)) (some (.int .i64 k)) none).run Tryz.prog W= .ok (.slice (some ⟨g,n * 2,none⟩) (k - n) (cap - n)) W:=by
 intro W;rw[run_slice_lh W _ _ _ _ elemRwD .i64 .i64 n k (by omega) (by omega) (by omega),sizeRwD W];simp only[Result.andThen_ok,sliced,Int.toNat_natCast];rw[if_neg (by omega),Option.map_some,WideShapes.add_plain,Nat.zero_add]
theorem wpList_append_runR {P:Program}{ops:Array Oper}{rest:List Oper}{o:Oper}{a:Go.Act}{Q:Exit->Go.Act->World->Prop}{w w':World}(hgd:o.guard=none)(s x:Operand)(t:TypeId)
 (ho:o.op= .call { callee:= .builtin .append,args:= #[s,x],argTypes:= #[t,t] }) (u v r:Value) (hs:a.eval s=u) (hx:a.eval x=v) (hr:∀ty,(Builtin.append_ #[t,t] ty #[u,v]).run P w= .ok r w')
 (h:wpList P ops Q rest (a.put o.dst r) w'):wpList P ops Q (o::rest) a w:=by
 refine wpList_plain hgd λK hK=>?_;unfold Oper.wp execOp;simp only[ho,resolve,invoke,builtin,Sem.run_bind,Sem.run_pure,Result.andThen_ok,List.map_toArray,List.map_cons,List.map_nil,hs,hx,hr];exact hK _ _ h
theorem delR_calls (l:List RowD)(i j g c:Nat)(cur:List Value)(w:World)(hl:l.length<=1000000)(hij:i<j)(hi:j<=l.length)(hcap:l.length<=c)(hcm:c<=maxLen)(hcur:cur.length=c * 2)(htk:cur.take (l.length * 2)=l.flatMap encRw)(hb:Blk w g cur 52):
 Calls Tryz.prog 140 #[.slice (some ⟨g,0,none⟩) l.length c,.int .i64 i,.int .i64 j] w λe w'=>
  e= .returned (.slice (some ⟨g,0,none⟩) (l.take i++l.drop j).length c)/\w'.ownsRow 0 52 2 (.slice (some ⟨g,0,none⟩) (l.take i++l.drop j).length c) (l.take i++l.drop j).length ((l.take i++l.drop j).flatMap encRw)/\But (λj=>j=g) w w':=by
 obtain⟨i0,hinf,hz0,hz1,hz2⟩:=info_parts infoRow;obtain⟨news,hnews⟩:∃news,news=(l.drop j).flatMap encRw:=⟨_,rfl⟩;obtain⟨m,hm⟩:∃m,m=l.length - j:=⟨_,rfl⟩;have hnl:news.length=m * 2:=by rw[hnews,flat_lenRD,List.length_drop,hm]
 obtain⟨A,hA,hs2⟩:=slice_fromRD g l.length c j (by omega) hcap;rw[<- hm]at hs2;have hs1:=slice_toRD g l.length c i (by omega)
 have hsrc:∀(k:Nat) (u:Value),news[k]? =some u->w.drew.cell? (A.add k)=some u:=by
  intro k u hu;have hj:k<m * 2:=by rw[<- hnl];exact (qF.1 hu).1
  rw[hA (by omega)];have e:((⟨g,j * 2,none⟩:Addr).add k)=⟨g,j * 2+k,none⟩:=WideShapes.add_plain _ _ _;rw[e,(hb.drew).cell]
  have h1:(l.flatMap encRw)[j * 2+k]? =some u:=by
   rw[<- hu,hnews]
   conv=>lhs;rw[<- List.take_append_drop j l,List.flatMap_append,List.getElem?_append_right (by rw[flat_lenRD,List.length_take];omega),flat_lenRD,List.length_take]
   congr 1
   omega
  rw[<- htk,List.getElem?_take]at h1
  split at h1
  · exact h1
  · cases h1
 have hone:∀u∈news,u.oneCell'=true:=by
  intro u hu;rw[hnews,List.mem_flatMap]at hu;obtain⟨x,_,hx⟩:=hu;exact one_row x u hx
 have happ:=λty=>run_append_room (P:=Tryz.prog) w.drew 40 ty 52 i0 Tryz.underlying40 hinf g i c cur.toArray hb.drew A m (c - j) news (by rw[hz1,hnl]) hsrc hone (by omega) (by rw[hz1,hnl];simp;omega);rw[hz1]at happ;obtain⟨q,hq⟩:∃q,i+m=q:=⟨_,rfl⟩;rw[hq]at happ;obtain⟨nc,hnc⟩:∃nc,nc=cur.take (i * 2)++news++cur.drop (i * 2+news.length):=⟨_,rfl⟩;have hnc':(cur.toArray.toList.take (i * 2)++news++cur.toArray.toList.drop (i * 2+news.length)).toArray=nc.toArray:=by rw[hnc]
 rw[hnc']at happ;have hB5:Blk (w.drew.setRow g nc.toArray) g nc 52:=(hb.drew).setRowT nc;have hncl:nc.length=c * 2:=by rw[hnc];simp only[qG,List.length_take,List.length_drop,hnl,hcur];omega
 have hq1:q=(l.take i++l.drop j).length:=by rw[qG,List.length_take,List.length_drop];omega
 have hs3:=slice_midRD g q c q l.length (by omega) hcap (by omega);have hlq:l.length - q=j - i:=by omega
 rw[hlq]at hs3
 have hclr:∀ty,(Builtin.clear_ #[40] ty #[.slice (some ⟨g,q * 2,none⟩) (j - i) (c - q)]).run Tryz.prog (w.drew.setRow g nc.toArray)= .ok (.tuple #[]) ((w.drew.setRow g nc.toArray).setCells g (q * 2) (Builtin.zeroCells zeroRwD (j - i)).toList):=λty=>
  run_clear_k _ 40 52 ty (.agg zeroRwD) zeroRwD Tryz.underlying40 (λw=>by kernel_rfl) rfl zeroRwD_one g (q * 2) (j - i) (c - q) (by omega) (λk hk=>by
   have hk':k<(j - i) * 2:=hk
   rw[hB5.cell,qE (by omega)];rfl) (λk _=>hB5.free _)
 have htk2:nc.take (q * 2)=(l.take i++l.drop j).flatMap encRw:=by
  have h1:(cur.take (i * 2)++news).length=q * 2:=by rw[qG,List.length_take,hnl,hcur];omega
  rw[hnc,<- h1,List.take_left,hnews,List.flatMap_append]
  congr 1
  have h2:=flat_take (enc:=encRw) (sz:=2) (λ_=>rfl) l i;rw[<- h2,<- htk,List.take_take,Nat.min_eq_left (by omega)]
 have AP:=qA happ;have CL:=qA hncl;have TK:=qA htk2;have B5:=qA hB5;have i1:(0:Int)<=(i:Int):=by omega
 have i2:(i:Int)<=(j:Int):=by omega
 have i2':(j:Int)<=(l.length:Int):=by omega
 have i3:(l.length:Int)<=(c:Int):=by omega
 have i4:((i:Int)==(j:Int))=false:=by simp;omega
 have HQ:=qA hq1;have hsz:(Builtin.zeroCells zeroRwD (j - i)).toList.length=(j - i) * 2:=by rw[Array.length_toList,zc_size];rfl
 have hqc:q * 2+(j - i) * 2<=c * 2:=by omega
 have ZS:=qA hsz;clear happ hsrc hone hnc hnc' hncl htk2 hB5 hcur htk hA hnews hnl hm hq hq1 hlq hinf hz0 hz1 hz2 hsz;have BB:Hid (But (λj=>j=g) w (w.drew.setRow g nc.toArray)):=qA (But.setRowT (S:=λj=>j=g) rfl (But.refl (λj=>j=g) w).drew _);clear hb;go_enter Tryz.func140,Tryz.ntmps140;go_wp2_with fail
 go_still_tail 6,(by kernel_rfl)
 change wpList _ _ _ _ _ w.drew;go_wp2_with (at_builtin;refine wpList_append_runR rfl _ _ 40 rfl _ _ _ rfl rfl AP.out ?_);go_ret;rw[<- HQ.out];refine⟨rfl,?_,?_⟩
 · exact own_of_blk (B5.out.setCells _ (q * 2)) (by rw[splice_length,CL.out]) (by omega) hcm (by rw[take_splice' _ _ _ (by rw[CL.out,ZS.out];exact hqc)];exact TK.out)
 · exact but_setCells (S:=λj=>j=g) rfl _ (q * 2) BB.out
theorem delR0_calls (o:Option Addr)(n c i:Nat)(w:World)(hi:i<=n)(hc:n<=c):
 Calls Tryz.prog 140 #[.slice o n c,.int .i64 i,.int .i64 i] w λe w'=>e= .returned (.slice o n c)/\w=w':=by
 have i1:(0:Int)<=(i:Int):=by omega
 have i2:(i:Int)<=(n:Int):=by omega
 have i3:(n:Int)<=(c:Int):=by omega
 have i4:((i:Int)==(i:Int))=true:=by simp
 cases o
 all_goals
  go_enter Tryz.func140,Tryz.ntmps140;go_wp2_with fail
  all_goals
   go_ret;exact⟨rfl,rfl⟩
def outR (lo hi:List UInt8)(l:List RowD):List RowD:=l.take (boundsR lo hi l).1++l.drop (boundsR lo hi l).2
theorem outR_sub (lo hi:List UInt8)(l:List RowD):(outR lo hi l).Sublist l:=by
 have h:=bounds_ok lo hi l;unfold outR;have h2:l.drop (boundsR lo hi l).2=(l.drop (boundsR lo hi l).1).drop ((boundsR lo hi l).2 - (boundsR lo hi l).1):=by rw[List.drop_drop];congr 1;omega
 rw[h2]
 conv=>rhs;rw[<- List.take_append_drop (boundsR lo hi l).1 l]
 exact List.Sublist.append (List.Sublist.refl _) (List.drop_sublist _ _)
theorem takeR_calls (rb:Nat)(v:Value)(l:List RowD)(lo hi:ByteArray)(w:World)(T:RTab w rb v l)(hls:lo.size<=140737488351232)(hhs:hi.size<=140737488351232):
 Calls Tryz.prog 66 #[.pointer (some ⟨rb,0,none⟩),.agg #[.string lo,.string hi]] w λe w'=>(∃r,e= .returned r)/\(∃v',RTab w' rb v' (outR lo.data.toList hi.data.toList l)/\(∀j,v'.ownBlock=some j->v.ownBlock=some j))/\But (λj=>j=rb\/v.ownBlock=some j) w w':=by
 obtain⟨w0,hw0⟩:∃w0,w0=w.alloc (.cells #[.string lo,.string hi] 30):=⟨_,rfl⟩;have hx0:Ext w w0:=by rw[hw0];exact (qK _ w).alloc (qL _) _
 have ha0:Blk w0 w.heap.size [.string lo,.string hi] 30:=by rw[hw0];exact Blk.new w _ _
 have hout:RiseR (outR lo.data.toList hi.data.toList l)/\(∀d∈outR lo.data.toList hi.data.toList l,rwB d=true)/\(outR lo.data.toList hi.data.toList l).length<=400:=⟨T.rise.sublist (outR_sub _ _ _),λd hd=>T.ok d ((outR_sub _ _ _).subset hd),qM (outR_sub _ _ _).length_le T.few⟩;have HOUT:=qA hout;have W0:=qA hw0;have X0:=qA hx0;have A0:=qA ha0;have T0:=qA (T.ext hx0);have hfew:=T.few;have hb:=bounds_ok lo.data.toList hi.data.toList l;obtain⟨ao,cap,rfl,hlc,hcm,_⟩:=T.rows
 have HBD:=qA (λW (hW:Ext w0 W)=>by
  obtain⟨ao',cap',hv',_,_,hrows⟩:=(T0.out.ext hW).rows;simp only[Value.slice.injEq,true_and]at hv';obtain⟨rfl,rfl⟩:=hv';have hc0:=(T0.out.ext hW).blk.cell 0;simp only[qB]at hc0
  exact bounds_calls l ao cap rb lo hi W (by omega) hrows T0.out.rise hc0 hls hhs)
 have HO:Hid (outR lo.data.toList hi.data.toList l=l.take (boundsR lo.data.toList hi.data.toList l).1++l.drop (boundsR lo.data.toList hi.data.toList l).2):=qA rfl;clear hw0 hx0 ha0 T hout;generalize (boundsR lo.data.toList hi.data.toList l).1=a at *;generalize (boundsR lo.data.toList hi.data.toList l).2=b at *;generalize outR lo.data.toList hi.data.toList l=out at *;go_enter Tryz.func66,Tryz.ntmps66;go_upto_region 1 with fail;rw[<- W0.out];clear W0;generalize hN:w.heap.size=N at *;have HN:=qA hN;clear hN;have a0:=A0.out.cell 0;have a1:=A0.out.cell 1;simp only[qB,qC]at a0 a1;go_wp2_with fail;refine (inT_calls rb _ l lo hi w0 T0.out hls hhs).mono ?_;rintro e w1 ⟨r,rfl,_,_,hx⟩;have X1:=qA hx;clear hx a0 a1;have m1:=(T0.out.ext X1.out).blk.cell 1;simp only[qB,qC]at m1;go_wp2_with fail;refine (knownR_calls rb true w1 m1).mono ?_;rintro e w2 ⟨rfl,rfl⟩;have a0:=(A0.out.ext' X1.out).cell 0;have a1:=(A0.out.ext' X1.out).cell 1;simp only[qB,qC]at a0 a1;have q0:=ExtBy.cell a0;have q1:=ExtBy.cell a1;go_upto_region 3 with fail;refine wp_region_firstC (λW=>∃p:ExtBy w1,W=p.W) [0,1,2,3] 6 (by kernel_rfl) (by kernel_rfl) (λ_ _ _ _ h=>h) ⟨⟨w1.drew,(qK _ w1).drew⟩,rfl⟩ ?_;simp only[opsAt,qD,qC,qB]
 repeat (go_big_quiet_step (fail))
 refine wpQuiet_nil ?_;clear q0 q1 a0 a1 m1;refine wpAnyH_ready (rs:=[4]) (by kernel_rfl) (by simp) ?_;refine AllReadyH.cons rfl (λK hK=>?_) AllReadyH.nil;go_simp;refine (HBD.out _ (qJ X1.out (qK _ w1).drew)).mono ?_;rintro e w2 ⟨rfl,hx⟩;have D2:=qA (qJ (qK _ w1).drew hx);clear hx;refine hK.out _ _ ⟨⟨_,D2.out⟩,rfl⟩ (λ_=>?_);clear hK K;refine wp_takesC (f:=0) [5,6,7,8,9] (by kernel_rfl) (λ_ _ _ _ h=>h) ⟨⟨_,D2.out⟩,rfl⟩ ?_;simp only[opsAt,qD,qC,qB]
 repeat (go_big_quiet_step (fail))
 refine wpQuiet_nil ?_;refine wpAnyH_done (by kernel_rfl) ?_ _;have X2:=qA (qJ X1.out D2.out);have T2:=qA (T0.out.ext X2.out);have c0:=T2.out.blk.cell 0;have f0:=T2.out.blk.free 0;simp only[qB]at c0;rcases Nat.eq_or_lt_of_le hb.1 with rfl | hab
 · have hoo:out=l:=by rw[HO.out,List.take_append_drop]
   have HD:=qA (delR0_calls ao l.length cap a w2 hb.2 hlc);clear hb;go_wp2_with fail;refine HD.out.mono ?_;rintro e w3 ⟨rfl,rfl⟩;go_wp2_with fail;go_ret;have hset:=But.set1 w2 rb 0 (.slice ao l.length cap);refine⟨⟨_,rfl⟩,⟨.slice ao l.length cap,⟨T2.out.blk.set 0 _,?_,HOUT.out.1,HOUT.out.2.1,HOUT.out.2.2⟩,λj h=>h⟩,((Ext.but (qJ X0.out X2.out) (λ_=>False)).trans hset (λ_ _ e=>e.elim) (λ_ _ e=> .inl e))⟩;rw[hoo];exact own_but T2.out.row hset (λj hj e=>by subst e;exact own_bk T2.out.row T2.out.blk (by decide) hj)
 · rcases T2.out.row.2 with ⟨_,h0⟩ | ⟨g,c,cur,hv,_,hg,hn,hm,hcs,htk⟩
   · omega
   · simp only[Value.slice.injEq,true_and]at hv
     obtain⟨rfl,rfl⟩:=hv;have hbg:Blk w2 g cur.toList 52:=by unfold Blk;exact hg
     have HD:=qA (delR_calls l a b g cap cur.toList w2 (by omega) hab hb.2 hlc hcm (by simpa using hcs) htk hbg);rw[<- HO.out]at HD;have hgr:¬g=rb:=blk_ne2 hbg T2.out.blk (by decide);clear hb hbg hg hcs htk;go_wp2_with fail;refine HD.out.mono ?_;rintro e w3 ⟨rfl,ho3,hb3⟩;have hB3:=T2.out.blk.but hb3 (λe=>hgr e.symm);have c0:=hB3.cell 0;have f0:=hB3.free 0;simp only[qB]at c0;have O3:=qA ho3;have B3:=qA hb3;have BB3:=qA hB3;clear ho3 hb3 hB3;go_wp2_with fail;go_ret;have hset:=But.set1 w3 rb 0 (.slice (some ⟨g,0,none⟩) out.length cap);refine⟨⟨_,rfl⟩,⟨.slice (some ⟨g,0,none⟩) out.length cap,⟨BB3.out.set 0 _,own_but O3.out hset (λj hj e=>by simp only[Value.ownBlock,Option.some.injEq]at hj;omega),HOUT.out.1,HOUT.out.2.1,HOUT.out.2.2⟩,λj h=>h⟩,?_⟩;exact ((Ext.but (qJ X0.out X2.out) (λ_=>False)).trans B3.out (U:=λj=>j=rb\/(Value.slice (some ⟨g,0,none⟩) l.length cap).ownBlock=some j) (λ_ _ e=>e.elim) (λ_ _ e=> .inr (by simp[Value.ownBlock];exact e.symm))).trans hset (λ_ _ e=>e) (λ_ _ e=> .inl e)
end Go.Proofs.YtmpmggejhnmakaaGreatDoor
/- slices.Replace at stretches: a stretch goes out, none comes in its place; tract.replace. -/
namespace Go.Proofs.YtmpmggejhnmakaaGreatDoor
open Go.RowKit
theorem repFit0_calls (l:List StrZ)(i j g c:Nat)(cur:List Value)(w:World)(O:OwnSt w g c cur l)(hl:l.length<=1000)(hij:i<j)(hj:j<l.length):
 Calls Tryz.prog 118 #[.slice (some ⟨g,0,none⟩) l.length c,.int .i64 i,.int .i64 j,.slice none 0 0] w (RepPost l [] i j g w):=by
 have hlen:=repD_len l [] i j (by omega);have hflat:=repD_flat l [] i j;have hlc:=O.fit;have hcm:=O.max;have hcl:=O.len;have htk:=O.tk;have htail:∀k,j * 5<=k->k<l.length * 5->cur[k]? =(l.flatMap encSt)[k]? :=λk _ h2=>by rw[<- htk,List.getElem?_take,if_pos h2]
 have hti:cur.take (i * 5)=(l.take i).flatMap encSt:=by
  rw[<- flat_take (enc:=encSt) (sz:=5) (λ_=>rfl) l i,<- htk,List.take_take];congr 1;omega
 have hgb:=O.blk;have hB:((l.drop j).flatMap encSt).length=(l.length - j) * 5:=by rw[flat_len5,List.length_drop]
 have hdl:(l.drop j).length=l.length - j:=List.length_drop;obtain⟨n,hn⟩:∃n,n=l.length:=⟨_,rfl⟩;rw[<- hn]at hl hj hlen hlc htk htail hB hdl;obtain⟨q,hq⟩:∃q,q=n - j:=⟨_,rfl⟩;obtain⟨T,hT⟩:∃T,T=i+q:=⟨_,rfl⟩;simp only[List.length_nil,Nat.add_zero]at hlen;have hTl:(repD l [] i j).length=T:=by omega
 rw[<- hq]at hB hdl;have s1:=slice_midSt g n c i j (by omega) (by omega) (by omega);have s2:=slice_toSt g n c i (by omega);have s3:=slice_fromSt g n c j (by omega) (by omega);rw[<- hq]at s3;have s4:=slice_toSt g n c T (by omega);have s5:=slice_fromSt g T c i (by omega) (by omega);rw[show T - i=q from by omega]at s5;have c1:∀ty,(Builtin.copy_ #[57,57] ty #[.slice (some ⟨g,i * 5,none⟩) q (c - i),.slice none 0 0]).run Tryz.prog w.drew= .ok (goInt 0) w.drew:=λty=>run_copy_nil _ w.drew _ _ ty 92 _ _ _ Tryz.underlying57 (by rw[sizeStI];rfl);obtain⟨W2,hW2⟩:∃W2,W2=w.drew.drew.setCells g (i * 5) ((l.drop j).flatMap encSt):=⟨_,rfl⟩;have hg2:Blk W2 g (splice cur (i * 5) ((l.drop j).flatMap encSt)) 92:=by rw[hW2];exact hgb.drew.drew.setCells _ _
 have c2:=copySt w.drew.drew q g (i * 5) (c - i) q ⟨g,j * 5,none⟩ q (c - j) (l.drop j) _ hgb.drew.drew hdl (by omega) (by simp only[Nat.min_def];split<;>omega)
  (tail_cells hgb.drew.drew j (by omega) (λk h1 h2=>htail k h1 (by omega)))
 rw[<- hW2]at c2
 have htake:(splice cur (i * 5) ((l.drop j).flatMap encSt)).take (T * 5)=(repD l [] i j).flatMap encSt:=by
  rw[splice_eq _ _ _ (by rw[hB];omega)];have e2:(cur.take (i * 5)++(l.drop j).flatMap encSt).length=T * 5:=by rw[qG,List.length_take,hB,hcl];omega
  rw[<- e2,List.take_left,hti,hflat];simp
 have b12:But (λk=>k=g) w W2:=by
  rw[hW2];exact but_setCells (S:=λk=>k=g) rfl _ _ (But.refl _ _).drew.drew
 have hTn:T<n:=by omega
 have s7:=slice_fromSt g n c T (by omega) (by omega);obtain⟨W3,hW3⟩:∃W3,W3=W2.setCells g (T * 5) (Builtin.zeroCells zeroSt (n - T)).toList:=⟨_,rfl⟩
 have c3:∀ty,(Builtin.clear_ #[57] ty #[.slice (some ⟨g,T * 5,none⟩) (n - T) (c - T)]).run Tryz.prog W2= .ok (.tuple #[]) W3:=λty=>by
  rw[hW3]
  exact run_clear_k _ 57 92 ty (.agg zeroSt) zeroSt Tryz.underlying57 (λw=>by kernel_rfl) rfl zeroSt_one g (T * 5) (n - T) (c - T) (by omega)
   (λk hk=>(row_cells hg2 (T * 5) ((n - T) * 5) (by rw[splice_length];omega)).1 k hk) (λk hk=>(row_cells hg2 (T * 5) ((n - T) * 5) (by rw[splice_length];omega)).2 k hk)
 have b13:But (λk=>k=g) w W3:=by rw[hW3];exact but_setCells (S:=λk=>k=g) rfl _ _ b12
 have hown3:W3.ownsRow 0 92 5 (.slice (some ⟨g,0,none⟩) T c) T ((repD l [] i j).flatMap encSt):=by
  have hz5:(Builtin.zeroCells zeroSt (n - T)).toList.length=(n - T) * 5:=by rw[Array.length_toList,zc_size];rfl
  rw[hW3];exact own_of_blk (hg2.setCells _ _) (by rw[splice_length,splice_length,hcl]) (by omega) hcm (by rw[take_splice' _ _ _ (by rw[splice_length,hz5];omega)];exact htake)
 have e2:(i:Int)+(q:Int)=(T:Int):=by omega
 have z1:¬((i:Int)=(j:Int)):=by omega
 have z2:¬((j:Int)=(n:Int)):=by omega
 have z3:¬((c:Int)<(T:Int)):=by omega
 have z4:((i:Int)<=(j:Int)):=by omega
 have z5:i<=2000:=by omega
 have z7:IntKind.i64.wrap (i:Int)=(i:Int):=by rw[IntKind.wrap_i64];omega
 have z6:q<=1000:=by omega
 have P1:=qA c1;have P2:=qA c2;have P3:=qA b13;have P4:=qA hown3;have HTL:=qA hTl;have hcc:c<=9223372036854775807:=by unfold maxLen at hcm;omega
 rw[<- hn];clear c1 c2 b13 hown3 hTl O hlen hflat htk htail hti hgb hB hdl hg2 hW2 hW3 htake b12 hcl hq hT hn hTn;go_enter Tryz.func118,Tryz.ntmps118;go_wp2_with fail
 go_region_with (fail)
 go_wp2_with (with_reducible refine wpList_copy_runI _ rfl _ _ 57 57 rfl _ _ rfl rfl (P1.out _) ?_)
 go_region_law (refine step_copy_runI rfl _ _ 57 57 rfl _ _ (by simp[Act.eval,Act.put]) (by simp[Act.eval,Act.put]) (P2.out _) ?_)
 go_wp2_with fail;go_ret;refine⟨_,rfl,by rw[HTL.out];exact P4.out,λk hk=> .inl ?_,P3.out⟩;simp[Value.ownBlock]at hk;exact hk.symm
theorem repCut0_calls (l:List StrZ)(i g c:Nat)(cur:List Value)(w:World)(O:OwnSt w g c cur l)(hij:i<l.length):
 Calls Tryz.prog 118 #[.slice (some ⟨g,0,none⟩) l.length c,.int .i64 i,.int .i64 l.length,.slice none 0 0] w (RepPost l [] i l.length g w):=by
 obtain⟨i0,hinf,hz0,hz1,hz2⟩:=info_parts infoSt;have hlen:=repD_len l [] i l.length (by omega);have hflat:=repD_flat l [] i l.length;have hlc:=O.fit;have hcm:=O.max;have hcl:=O.len;have htk:=O.tk
 have hti:cur.take (i * 5)=(l.take i).flatMap encSt:=by
  rw[<- flat_take (enc:=encSt) (sz:=5) (λ_=>rfl) l i,<- htk,List.take_take];congr 1;omega
 have hgb:=O.blk;simp only[List.drop_length,List.flatMap_nil,List.append_nil]at hflat;rw[Nat.sub_self,Nat.add_zero,List.length_nil,Nat.add_zero]at hlen;obtain⟨R,hR⟩:∃R,R=repD l [] i l.length:=⟨_,rfl⟩;obtain⟨n,hn⟩:∃n,n=l.length:=⟨_,rfl⟩;unfold RepPost;rw[<- hR]at hlen hflat ⊢;rw[<- hn]at hij hlc htk ⊢;have s1:=slice_midSt g n c i n (by omega) (by omega) (by omega);have s2:=slice_toSt g n c i (by omega);have s3:=slice_fromSt g n c i (by omega) (by omega)
 have happ:∀ty,(Builtin.append_ #[57,57] ty #[.slice (some ⟨g,0,none⟩) i c,.slice none 0 0]).run Tryz.prog w= .ok (.slice (some ⟨g,0,none⟩) i c) w:=λty=>by
  simp[Builtin.append_,run_underlying Tryz.underlying57,sizeOf,typeInfo,hinf,Builtin.lenOf,Builtin.firstCells,storeCells,show i<=c from by omega]
 have htake:cur.take (i * 5)=R.flatMap encSt:=by rw[hti,hflat]
 have hz5:(Builtin.zeroCells zeroSt (n - i)).toList.length=(n - i) * 5:=by rw[Array.length_toList,zc_size];rfl
 obtain⟨W2,hW2⟩:∃W2,W2=w.setCells g (i * 5) (Builtin.zeroCells zeroSt (n - i)).toList:=⟨_,rfl⟩
 have hclr:∀ty,(Builtin.clear_ #[57] ty #[.slice (some ⟨g,i * 5,none⟩) (n - i) (c - i)]).run Tryz.prog w= .ok (.tuple #[]) W2:=λty=>by
  rw[hW2]
  exact run_clear_k _ 57 92 ty (.agg zeroSt) zeroSt Tryz.underlying57 (λw=>by kernel_rfl) rfl zeroSt_one g (i * 5) (n - i) (c - i) (by omega)
   (λk hk=>(row_cells hgb (i * 5) ((n - i) * 5) (by omega)).1 k hk) (λk hk=>(row_cells hgb (i * 5) ((n - i) * 5) (by omega)).2 k hk)
 have hown:W2.ownsRow 0 92 5 (.slice (some ⟨g,0,none⟩) i c) i (R.flatMap encSt):=by
  rw[hW2];exact own_of_blk (hgb.setCells _ _) (by rw[splice_length,hcl]) (by omega) hcm (by rw[take_splice' _ _ _ (by rw[hz5];omega)];exact htake)
 have hbut:But (λk=>k=g) w W2:=by
  rw[hW2];exact but_setCells (S:=λk=>k=g) rfl _ _ (But.refl _ _)
 have AP:=qA happ;have P3:=qA hbut;have P4:=qA hown;have HTL:=qA hlen;have z1:¬((i:Int)=(n:Int)):=by omega
 have z2:((i:Int)<(n:Int)):=by omega
 clear happ hbut hown hlen hflat htk hti hgb htake hz5 hW2 O hcl hn hR hinf hz0 hz1 hz2;go_enter Tryz.func118,Tryz.ntmps118;go_wp2_with (at_builtin;refine Lib.wpList_append_run _ rfl _ _ _ _ rfl _ _ rfl rfl _ _ (AP.out _) ?_);go_ret;refine⟨_,rfl,by rw[HTL.out];exact P4.out,λk hk=> .inl ?_,P3.out⟩;simp[Value.ownBlock]at hk;exact hk.symm
theorem replaceN_calls (l:List StrZ)(i j:Nat)(v:Value)(w:World)(hl:l.length<=1000)(hij:i<j)(hj:j<=l.length)(hown:w.ownsRow 0 92 5 v l.length (l.flatMap encSt)):
 Calls Tryz.prog 118 #[v,.int .i64 i,.int .i64 j,.slice none 0 0] w λe w'=>
  ∃v':Value,e= .returned v'/\w'.ownsRow 0 92 5 v' (repD l [] i j).length ((repD l [] i j).flatMap encSt)/\Kept1 w v v'/\But (λk=>v.ownBlock=some k) w w':=by
 obtain⟨g,c,cur,rfl,O⟩:=ownSt_of hown (by intro e;rw[e]at hj;simp at hj;omega)
 have key:Calls Tryz.prog 118 #[.slice (some ⟨g,0,none⟩) l.length c,.int .i64 i,.int .i64 j,.slice none 0 0] w (RepPost l [] i j g w):=by
  rcases Nat.lt_or_ge j l.length with h | h
  · exact repFit0_calls l i j g c cur w O hl hij h
  · obtain rfl:j=l.length:=by omega
    exact repCut0_calls l i g c cur w O hij
 refine key.mono ?_;rintro e w' ⟨v',rfl,h1,h2,h3⟩;refine⟨v',rfl,h1,λk hk=>(h2 k hk).imp (λe=>by rw[e];rfl) id,h3.mono λk _ e=>by rw[e];rfl⟩
theorem trReplaceN_calls (k:TrK)(d:TrD)(i j:Nat)(w:World)(T:TrIs w k d)(hij:i<j)(hj:j<=d.parts.length):
 Calls Tryz.prog 50 #[.pointer (some ⟨k.tb,0,none⟩),.int .i64 i,.int .i64 j,.slice none 0 0] w λe w'=>e= .returned (.tuple #[])/\TrTo k { d with parts:=repD d.parts [] i j } w w':=by
 obtain⟨ao,cap,hpv,hrow,c3⟩:=T.slice;have HC:=qA (clone_st_calls d.parts ao cap w (qM T.pn (by omega)) hrow);have HT:=qA T;have htl:=T.blk.lt;have hpn:=T.pn;clear T hrow hpv;go_enter Tryz.func50,Tryz.ntmps50;go_wp2_with fail;refine HC.out.mono ?_;rintro e w1 ⟨v1,rfl,ho1,hj1,hx1⟩;obtain⟨o1,cp1,rfl⟩:=own_slice ho1;have HR:=qA (replaceN_calls d.parts i j _ w1 hpn hij hj ho1);have X1:=qA hx1;have J1:=qA hj1;clear hx1 hj1 ho1 c3;go_wp2_with fail;refine HR.out.mono ?_;rintro e w2 ⟨v2,rfl,ho2,hk2,hb2⟩;obtain⟨o2,cp2,rfl⟩:=own_slice ho2;have hX2:Ext w w2:=((Ext.but X1.out (λ_=>False)).trans hb2 (U:=λb=>w.heap.size<=b) (λ_ _ e=>e.elim) (λb _ e=>J1.out b e)).ext (λb hb e=>by omega);have T2:=qA (HT.out.ext hX2);have f3:=T2.out.blk.free 3;have c3:=T2.out.blk.cell 3;simp only[qB,qC]at c3
 have hfresh:∀b,(Value.slice o2 (repD d.parts [] i j).length cp2).ownBlock=some b->w.heap.size<=b:=λb e=>by
  rcases hk2 b e with e | e
  · exact J1.out b e
  · exact qM X1.out.size e
 have X2:=qA hX2;have O2:=qA ho2;have FR:=qA hfresh;clear hk2 hb2 hX2 ho2 hfresh;go_wp2_with fail;refine bodyPost_end (results_none rfl _ _ _) rfl ?_;have hbut:But (λb=>b=k.tb) w2 (w2.setCell ⟨k.tb,3,none⟩ (.slice o2 (repD d.parts [] i j).length cp2)):=(But.refl (λb=>b=k.tb) w2).setCell (p:=⟨k.tb,3,none⟩) (λ_=>rfl) _;have hb0:But (λb=>b=k.tb) w (w2.setCell ⟨k.tb,3,none⟩ (.slice o2 (repD d.parts [] i j).length cp2)):=(Ext.but X2.out (λ_=>False)).trans hbut (λ_ _ e=>e.elim) (λ_ _ e=>e);refine⟨rfl,?_⟩;have hmem:∀s∈repD d.parts [] i j,s.small:=λs hs=>(repD_mem hs).elim (HT.out.ps s) (λh=>by simp at h)
 have hle:(repD d.parts [] i j).length<=1000:=by
  rw[repD_len d.parts [] i j (by omega)];simp only[List.length_nil];omega
 exact TrTo.turn (HT.out.turn (en:=d.ended) (T2.out.blk.set 3 _) hb0 (own_but O2.out hbut (λb hb e=>by have:=FR.out b hb;omega)) (.inr FR.out) hmem hle) (.inr FR.out) hb0
end Go.Proofs.YtmpmggejhnmakaaGreatDoor
