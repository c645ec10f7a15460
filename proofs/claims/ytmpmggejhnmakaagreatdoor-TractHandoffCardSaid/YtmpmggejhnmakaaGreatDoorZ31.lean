/- slices.Replace at stretches: where there is no room. -/
import Derived.Test.YtmpmggejhnmakaaGreatDoorZ30
import Derived.Test.YtmpmggejhnmakaaGreatDoorZ01
set_option maxRecDepth 100000
set_option maxHeartbeats 4000000
namespace Go.Proofs.YtmpmggejhnmakaaGreatDoor
open Go.RowKit Go.Lib
theorem repGrow_calls (l new:List StrZ)(i j g c vb vc:Nat)(cur cv:List Value)(w:World)(O:OwnSt w g c cur l)(hl:l.length<=1000)(hm:new.length<=1000)(hij:i<j)(hj:j<l.length)(hroom:c<i+new.length+(l.length - j))
 (hv:Blk w vb cv 92) (hvt:cv.take (new.length * 5)=new.flatMap encSt):
 Calls Tryz.prog 118 #[.slice (some ⟨g,0,none⟩) l.length c,.int .i64 i,.int .i64 j,.slice (some ⟨vb,0,none⟩) new.length vc] w (RepPost l new i j g w):=by
 have hlen:=repD_len l new i j (by omega);have hflat:=repD_flat l new i j;have hlc:=O.fit;have hcm:=O.max;have hcl:=O.len;have htk:=O.tk;have htail:∀k,j * 5<=k->k<l.length * 5->cur[k]? =(l.flatMap encSt)[k]? :=λk _ h2=>by rw[<- htk,List.getElem?_take,if_pos h2]
 have hti:cur.take (i * 5)=(l.take i).flatMap encSt:=by
  rw[<- flat_take (enc:=encSt) (sz:=5) (λ_=>rfl) l i,<- htk,List.take_take];congr 1;omega
 have hgb:=O.blk;have hA:(new.flatMap encSt).length=new.length * 5:=flat_len5 _;have hB:((l.drop j).flatMap encSt).length=(l.length - j) * 5:=by rw[flat_len5,List.length_drop]
 have hdl:(l.drop j).length=l.length - j:=List.length_drop;obtain⟨n,hn⟩:∃n,n=l.length:=⟨_,rfl⟩;obtain⟨m,hmm⟩:∃m,m=new.length:=⟨_,rfl⟩;rw[<- hn]at hl hj hlen hlc htk htail hB hdl hroom;rw[<- hmm]at hm hvt hlen hA hroom;obtain⟨p,hp⟩:∃p,p=i+m:=⟨_,rfl⟩;obtain⟨q,hq⟩:∃q,q=n - j:=⟨_,rfl⟩;obtain⟨T,hT⟩:∃T,T=p+q:=⟨_,rfl⟩;have hTl:(repD l new i j).length=T:=by omega
 rw[<- hq]at hB hdl;have s1:=slice_midSt g n c i j (by omega) (by omega) (by omega);have s2:=slice_toSt g n c i (by omega);have s3:=slice_fromSt g n c j (by omega) (by omega);rw[<- hq]at s3;obtain⟨i0,hi0,hz0,hzs,hzb⟩:=info_parts infoSt;obtain⟨k,hk⟩:∃k,k=T - i:=⟨_,rfl⟩
 have hold:(Builtin.firstCells i0.size i (.slice (some ⟨g,0,none⟩) i c)).run Tryz.prog w.drew.drew= .ok ((l.take i).flatMap encSt).toArray w.drew.drew:=by
  rw[hzs]
  exact run_firstCells_some w.drew.drew 5 i ⟨g,0,none⟩ i c ((l.take i).flatMap encSt) (by rw[flat_len5,List.length_take];omega) (λj v hj=>by
   rw[Addr.add_lit,Nat.zero_add,hgb.drew.drew.cell j];rw[<- hti,List.getElem?_take]at hj
   split at hj
   · exact hj
   · cases hj)
 obtain⟨G,hG⟩:∃G,G=grownCap w.drew T c 92:=⟨_,rfl⟩;have hGn:T<=G:=by rw[hG];exact grownCap_ge _ _ _ _
 have hG63:G<=maxLen:=by rw[hG];exact grownCap_le_maxLen _ _ _ _ (by unfold maxLen;omega)
 obtain⟨ROW,hROW⟩:∃ROW:List Value,ROW=(l.take i).flatMap encSt++(Builtin.zeroCells zeroSt k).toList++(Builtin.zeroCells zeroSt (G - T)).toList:=⟨_,rfl⟩;have hti5:((l.take i).flatMap encSt).length=i * 5:=by rw[flat_len5,List.length_take];omega
 have hRL:ROW.length=G * 5:=by
  have h5:zeroSt.size=5:=rfl;rw[hROW];simp only[qG,hti5,Array.length_toList,zc_size,h5];omega
 have hRT:ROW.take (i * 5)=(l.take i).flatMap encSt:=by
  rw[hROW,List.append_assoc,<- hti5,List.take_left]
 obtain⟨N,hN⟩:∃N,N=w.heap.size:=⟨_,rfl⟩;obtain⟨W1,hW1⟩:∃W1,W1=w.drew.drew.alloc (.cells ROW.toArray 92):=⟨_,rfl⟩
 have hrz:∀ty,(Builtin.append_ #[57,3] ty #[.slice (some ⟨g,0,none⟩) i c,.int .i64 (k:Int)]).run Tryz.prog w.drew= .ok (.slice (some ⟨N,0,none⟩) T G) W1:=λty=>by
  have h:=Lib.run_append_grow_zeros w.drew 57 3 ty 92 i0 _ .i64 .i64 Tryz.underlying57 Tryz.underlying3 hi0 hz0 (some ⟨g,0,none⟩) i c _ hold k (by omega) (by omega) (by omega) (by omega) (by rw[hzb];omega) (by rw[hzb,show i+k=T from by omega];exact growslice_fits (by omega) (by omega));rw[show i+k=T from by omega,<- hG]at h;rw[h,hW1,hN]
  have:ROW=((l.take i).flatMap encSt).toArray.toList++(Builtin.zeroCells zeroSt k).toList++(Builtin.zeroCells zeroSt (G - T)).toList:=hROW
  rw[this,<- Array.toList_append,<- Array.toList_append];rfl
 have hb1:Blk W1 N ROW 92:=by rw[hW1,hN];exact Blk.new w.drew.drew ROW 92
 have hgN:g≠N:=by have:=hgb.lt;omega
 have hg1:Blk W1 g cur 92:=by rw[hW1];exact hgb.drew.drew.alloc _
 have hv1:Blk W1 vb cv 92:=by rw[hW1];exact hv.drew.drew.alloc _
 obtain⟨W2,hW2⟩:∃W2,W2=W1.setCells N (i * 5) (new.flatMap encSt):=⟨_,rfl⟩;have c1:=copySt W1 m N (i * 5) (G - i) k ⟨vb,0,none⟩ m vc new _ hb1 hmm.symm (by omega) (by simp only[Nat.min_def];split<;>omega) (new_cells hv1 (by rw[<- hmm];exact hvt));rw[<- hW2]at c1;have hb2:Blk W2 N (splice ROW (i * 5) (new.flatMap encSt)) 92:=by rw[hW2];exact hb1.setCells _ _
 have hg2:Blk W2 g cur 92:=by
  unfold Blk;rw[hW2,World.heap_setCells_other _ _ _ _ hg1.lt hgN];exact hg1
 obtain⟨W3,hW3⟩:∃W3,W3=W2.drew.setCells N (p * 5) ((l.drop j).flatMap encSt):=⟨_,rfl⟩
 have c2:=copySt W2.drew q N (p * 5) (G - p) q ⟨g,j * 5,none⟩ q (c - j) (l.drop j) _ hb2.drew hdl (by rw[splice_length];omega) (by simp only[Nat.min_def];split<;>omega)
  (tail_cells hg2.drew j (by omega) (λk h1 h2=>htail k h1 (by omega)))
 rw[<- hW3]at c2;have hb3:Blk W3 N (splice (splice ROW (i * 5) (new.flatMap encSt)) (p * 5) ((l.drop j).flatMap encSt)) 92:=by rw[hW3];exact hb2.drew.setCells _ _
 have htake:(splice (splice ROW (i * 5) (new.flatMap encSt)) (p * 5) ((l.drop j).flatMap encSt)).take (T * 5)=(repD l new i j).flatMap encSt:=by
  have:=spl_ab ROW (new.flatMap encSt) ((l.drop j).flatMap encSt) (i * 5) (p * 5) (by rw[hA];omega) (by rw[hB];omega)
  rw[hB,show p * 5+q * 5=T * 5 from by omega]at this;rw[this,hRT,hflat]
 have b13:Ext w W3:=by
  have h0:But (λj=>w.heap.size<=j) w W3:=by
   rw[hW3];refine but_setCells (S:=λj=>w.heap.size<=j) (by omega) _ _ (But.drew ?_);rw[hW2];refine but_setCells (S:=λj=>w.heap.size<=j) (by omega) _ _ ?_;rw[hW1];exact ((But.refl _ w).drew.drew).alloc _
  exact h0.ext (λk hk e=>by omega)
 have hown3:W3.ownsRow 0 92 5 (.slice (some ⟨N,0,none⟩) T G) T ((repD l new i j).flatMap encSt):=
  own_of_blk hb3 (by rw[splice_length,splice_length,hRL]) hGn hG63 htake
 have s5:=slice_fromSt N T G i (by omega) (by omega);rw[<- hk]at s5;have s6:=slice_fromSt N T G p (by omega) (by omega);rw[show T - p=q from by omega]at s6;have e3:(T:Int) - (i:Int)=(k:Int):=by omega
 have hGG:G<=9223372036854775807:=by unfold maxLen at hG63;omega
 have hNw:w.heap.size<=N:=by omega
 have e1:(i:Int)+(m:Int)=(p:Int):=by omega
 have e2:(p:Int)+(q:Int)=(T:Int):=by omega
 have z1:¬((i:Int)=(j:Int)):=by omega
 have z2:¬((j:Int)=(n:Int)):=by omega
 have z3:((c:Int)<(T:Int)):=by omega
 have z8:k<=3000:=by omega
 have z5:p<=2000:=by omega
 have z7:IntKind.i64.wrap (p:Int)=(p:Int):=by rw[IntKind.wrap_i64];omega
 have z6:q<=1000:=by omega
 have P1:=qA c1;have P2:=qA c2;have P3:=qA b13;have P4:=qA hown3;have HTL:=qA hTl;have hcc:c<=9223372036854775807:=by unfold maxLen at hcm;omega
 rw[<- hn,<- hmm];have P0:=qA hrz;have PN:=qA hNw;clear c1 c2 b13 hown3 hTl O hlen hflat htk htail hti hgb hA hB hdl hg1 hg2 hv1 hb1 hb2 hb3 hW1 hW2 hW3 htake hv hvt hcl hp hq hT hn hmm hrz hROW hRL hRT hti5 hG hold hi0 hz0 hzs hzb hgN hNw hN hk;go_enter Tryz.func118,Tryz.ntmps118;go_wp2_with fail
 go_region_with (fail)
 go_wp2_with (first
  | (at_builtin;refine Lib.wpList_append_run _ rfl _ _ _ _ rfl _ _ rfl rfl _ _ (P0.out _) ?_)
  | (with_reducible refine wpList_copy_runI _ rfl _ _ 57 57 rfl _ _ rfl rfl (P1.out _) ?_))
 go_region_law (refine step_copy_runI rfl _ _ 57 57 rfl _ _ (by simp[Act.eval,Act.put]) (by simp[Act.eval,Act.put]) (P2.out _) ?_)
 go_wp2_with fail;go_ret;refine⟨_,rfl,by rw[HTL.out];exact P4.out,λk hk=> .inr ?_,Ext.but P3.out _⟩;simp[Value.ownBlock]at hk
 have:=PN.out
 omega
end Go.Proofs.YtmpmggejhnmakaaGreatDoor
/- slices.Replace at stretches: the last ones; all roads as one. -/
namespace Go.Proofs.YtmpmggejhnmakaaGreatDoor
open Go.RowKit Go.Lib
theorem Blk.setRowT {w:World}{g:Nat}{cs:List Value}{t:TypeId}(h:Blk w g cs t)(cs':List Value):Blk (w.setRow g cs'.toArray) g cs' t:=by
 unfold Blk at h ⊢;unfold World.setRow;simp only[Array.getElem?_modify,if_true,h,Option.map_some]
theorem But.setRowT {S:Nat->Prop}{w w':World}{g:Nat}(hb:S g)(h:But S w w')(cs:Array Value):But S w (w'.setRow g cs):=
 ⟨h.os,h.tape,h.output,by simp only[World.setRow,Array.size_modify];exact h.size,λk hk hS=>by
  have:k≠g:=λe=>hS (e▸hb)
  simp only[World.setRow,Array.getElem?_modify];rw[if_neg (λe=>this e.symm)]
  exact h.block k hk hS⟩
theorem repCut_calls (l new:List StrZ)(i g c vb vc:Nat)(cur cv:List Value)(w:World)(O:OwnSt w g c cur l)(hij:i<l.length)(hfit:i+new.length<l.length)
 (hv:Blk w vb cv 92) (hvt:cv.take (new.length * 5)=new.flatMap encSt):
 Calls Tryz.prog 118 #[.slice (some ⟨g,0,none⟩) l.length c,.int .i64 i,.int .i64 l.length,.slice (some ⟨vb,0,none⟩) new.length vc] w (RepPost l new i l.length g w):=by
 obtain⟨i0,hinf,hz0,hz1,hz2⟩:=info_parts infoSt;have hlen:=repD_len l new i l.length (by omega);have hflat:=repD_flat l new i l.length;have hlc:=O.fit;have hcm:=O.max;have hcl:=O.len;have htk:=O.tk
 have hti:cur.take (i * 5)=(l.take i).flatMap encSt:=by
  rw[<- flat_take (enc:=encSt) (sz:=5) (λ_=>rfl) l i,<- htk,List.take_take];congr 1;omega
 have hgb:=O.blk;have hA:(new.flatMap encSt).length=new.length * 5:=flat_len5 _;rw[List.drop_length,List.flatMap_nil,List.append_nil]at hflat;rw[Nat.sub_self,Nat.add_zero]at hlen;have hnc:=new_cells hv hvt;have hone:=one_flat5 new;obtain⟨R,hR⟩:∃R,R=repD l new i l.length:=⟨_,rfl⟩;obtain⟨n,hn⟩:∃n,n=l.length:=⟨_,rfl⟩;obtain⟨m,hmm⟩:∃m,m=new.length:=⟨_,rfl⟩;unfold RepPost;rw[<- hR]at hlen hflat ⊢;rw[<- hn]at hij hlc htk hfit ⊢;rw[<- hmm]at hfit hlen hA ⊢;obtain⟨p,hp⟩:∃p,p=i+m:=⟨_,rfl⟩;rw[<- hp]at hlen;have s1:=slice_midSt g n c i n (by omega) (by omega) (by omega);have s2:=slice_toSt g n c i (by omega);have s3:=slice_fromSt g n c p (by omega) (by omega);have happ:=λty=>run_append_room (P:=Tryz.prog) w 57 ty 92 i0 Tryz.underlying57 hinf g i c cur.toArray hgb ⟨vb,0,none⟩ m vc (new.flatMap encSt) (by rw[hz1,hA]) hnc hone (by omega) (by rw[hz1,hA];simp;omega);rw[hz1,<- hp]at happ;obtain⟨nc,hnc'⟩:∃nc,nc=cur.take (i * 5)++new.flatMap encSt++cur.drop (i * 5+(new.flatMap encSt).length):=⟨_,rfl⟩;rw[show (cur.toArray.toList.take (i * 5)++new.flatMap encSt++cur.toArray.toList.drop (i * 5+(new.flatMap encSt).length)).toArray=nc.toArray from by rw[hnc']]at happ;obtain⟨W1,hW1⟩:∃W1,W1=w.setRow g nc.toArray:=⟨_,rfl⟩;rw[<- hW1]at happ;have hb1:Blk W1 g nc 92:=by rw[hW1];exact hgb.setRowT nc
 have hncl:nc.length=c * 5:=by rw[hnc'];simp only[qG,List.length_take,List.length_drop,hA,hcl];omega
 have htake:nc.take (p * 5)=R.flatMap encSt:=by
  have h1:(cur.take (i * 5)++new.flatMap encSt).length=p * 5:=by rw[qG,List.length_take,hA,hcl];omega
  rw[hnc',<- h1,List.take_left,hti,hflat]
 have hz5:(Builtin.zeroCells zeroSt (n - p)).toList.length=(n - p) * 5:=by rw[Array.length_toList,zc_size];rfl
 obtain⟨W2,hW2⟩:∃W2,W2=W1.setCells g (p * 5) (Builtin.zeroCells zeroSt (n - p)).toList:=⟨_,rfl⟩
 have hclr:∀ty,(Builtin.clear_ #[57] ty #[.slice (some ⟨g,p * 5,none⟩) (n - p) (c - p)]).run Tryz.prog W1= .ok (.tuple #[]) W2:=λty=>by
  rw[hW2]
  exact run_clear_k _ 57 92 ty (.agg zeroSt) zeroSt Tryz.underlying57 (λw=>by kernel_rfl) rfl zeroSt_one g (p * 5) (n - p) (c - p) (by omega)
   (λk hk=>(row_cells hb1 (p * 5) ((n - p) * 5) (by omega)).1 k hk) (λk hk=>(row_cells hb1 (p * 5) ((n - p) * 5) (by omega)).2 k hk)
 have hown:W2.ownsRow 0 92 5 (.slice (some ⟨g,0,none⟩) p c) p (R.flatMap encSt):=by
  rw[hW2];exact own_of_blk (hb1.setCells _ _) (by rw[splice_length,hncl]) (by omega) hcm (by rw[take_splice' _ _ _ (by rw[hz5];omega)];exact htake)
 have hbut:But (λk=>k=g) w W2:=by
  rw[hW2];refine but_setCells (S:=λk=>k=g) rfl _ _ ?_;rw[hW1];exact But.setRowT (S:=λk=>k=g) rfl (But.refl _ _) _
 have AP:=qA happ;have P3:=qA hbut;have P4:=qA hown;have HTL:=qA hlen;have z1:¬((i:Int)=(n:Int)):=by omega
 have z2:((p:Int)<(n:Int)):=by omega
 clear happ hbut hown hlen hflat htk hti hgb hA hb1 hncl htake hz5 hW1 hW2 hnc' hnc hone O hv hvt hcl hn hmm hp hR hinf hz0 hz1 hz2;go_enter Tryz.func118,Tryz.ntmps118;go_wp2_with (at_builtin;refine Lib.wpList_append_run _ rfl _ _ _ _ rfl _ _ rfl rfl _ _ (AP.out _) ?_);go_ret;refine⟨_,rfl,by rw[HTL.out];exact P4.out,λk hk=> .inl ?_,P3.out⟩;simp[Value.ownBlock]at hk;exact hk.symm
theorem repEnd_calls (l new:List StrZ)(i g c vb vc:Nat)(cur cv:List Value)(w:World)(O:OwnSt w g c cur l)(hl:l.length<=1000)(hm:new.length<=1000)(hij:i<l.length)(hfit:l.length<=i+new.length)
 (hv:Blk w vb cv 92) (hvt:cv.take (new.length * 5)=new.flatMap encSt):
 Calls Tryz.prog 118 #[.slice (some ⟨g,0,none⟩) l.length c,.int .i64 i,.int .i64 l.length,.slice (some ⟨vb,0,none⟩) new.length vc] w (RepPost l new i l.length g w):=by
 obtain⟨i0,hinf,hz0,hz1,hz2⟩:=info_parts infoSt;have hlen:=repD_len l new i l.length (by omega);have hflat:=repD_flat l new i l.length;have hlc:=O.fit;have hcm:=O.max;have hcl:=O.len;have htk:=O.tk
 have hti:cur.take (i * 5)=(l.take i).flatMap encSt:=by
  rw[<- flat_take (enc:=encSt) (sz:=5) (λ_=>rfl) l i,<- htk,List.take_take];congr 1;omega
 have hown:=own_of_blk O.blk hcl (show i<=c by omega) hcm hti
 have hrow:Rows 5 encSt w.heap.size w (some ⟨vb,0,none⟩) new:=λ_=>⟨vb,0,rfl,hv.lt,λa x ha j v hj=>by
  have h5:j<5:=(qF.1 hj).1
  have hx:(new.flatMap encSt)[a * 5+j]? =some v:=by
   rw[<- List.getElem?_drop,flat_drop5]
   have hd:new.drop a=x::new.drop (a+1):=by
    obtain⟨hlt,he⟩:=qF.1 ha;rw[List.drop_eq_getElem_cons hlt,he]
   rw[hd,List.flatMap_cons,List.getElem?_append_left (by rw[show (encSt x).length=5 from rfl];exact h5)];exact hj
  rw[hv.cell];rw[<- hvt,List.getElem?_take]at hx
  split at hx
  · rw[Nat.zero_add];exact hx
  · cases hx⟩
 rw[List.drop_length,List.flatMap_nil,List.append_nil]at hflat;rw[Nat.sub_self,Nat.add_zero]at hlen;have HO:=qA hown;have HRW:=qA hrow;obtain⟨R,hR⟩:∃R,R=repD l new i l.length:=⟨_,rfl⟩;obtain⟨n,hn⟩:∃n,n=l.length:=⟨_,rfl⟩;unfold RepPost;rw[<- hR]at hlen hflat ⊢;rw[<- hn]at hl hij hlc hfit ⊢;have HF:=qA hflat;have HL:=qA hlen;have s1:=slice_midSt g n c i n (by omega) (by omega) (by omega);have s2:=slice_toSt g n c i (by omega);have z1:¬((i:Int)=(n:Int)):=by omega
 have z2:¬((i:Int)+(new.length:Int)<(n:Int)):=by omega
 clear hown hrow hlen hflat htk hti O hv hvt hcl hn hR;go_enter Tryz.func118,Tryz.ntmps118;go_wp2_with (at_builtin;refine wpList_append_rows (enc:=encSt) (size:=5) (λ_=>rfl) one_st rfl (.tmp 32) (.tmp 33) 57 rfl 92 i0 _ 56 Tryz.underlying57 hinf hz0 hz1 hz2 rfl (by decide) (.slice (some ⟨g,0,none⟩) i c) i _ rfl HO.out (some ⟨vb,0,none⟩) new vc rfl HRW.out (by unfold maxLen;omega) (by omega) ?_;intro v1 w2 hown1 hbut1 hkept1;obtain⟨vo,vcap,rfl⟩:=own_slice hown1;have O2:=qA hown1;have B2:=qA hbut1;have K2:=qA hkept1;clear hown1 hbut1 hkept1);go_ret;refine⟨_,rfl,by rw[HL.out,HF.out];exact O2.out,λk hk=>?_,B2.out.mono λk _ e=>?_⟩
 · rcases K2.out k hk with e | e
   · simp[Value.ownBlock]at e;exact .inl e.symm
   · exact .inr e
 · simp[Value.ownBlock]at e;exact e.symm
theorem replace_calls (l new:List StrZ)(i j:Nat)(v:Value)(vb vc:Nat)(cv:List Value)(w:World)(hl:l.length<=1000)(hm:new.length<=1000)(hij:i<j)(hj:j<=l.length)(hown:w.ownsRow 0 92 5 v l.length (l.flatMap encSt))
 (hv:Blk w vb cv 92) (hvt:cv.take (new.length * 5)=new.flatMap encSt) (hne:v.ownBlock≠some vb):
 Calls Tryz.prog 118 #[v,.int .i64 i,.int .i64 j,.slice (some ⟨vb,0,none⟩) new.length vc] w λe w'=>
  ∃v':Value,e= .returned v'/\w'.ownsRow 0 92 5 v' (repD l new i j).length ((repD l new i j).flatMap encSt)/\Kept1 w v v'/\But (λk=>v.ownBlock=some k) w w':=by
 obtain⟨g,c,cur,rfl,O⟩:=ownSt_of hown (by intro e;rw[e]at hj;simp at hj;omega);have hvg:vb≠g:=λe=>hne (by rw[e];rfl)
 have key:Calls Tryz.prog 118 #[.slice (some ⟨g,0,none⟩) l.length c,.int .i64 i,.int .i64 j,.slice (some ⟨vb,0,none⟩) new.length vc] w (RepPost l new i j g w):=by
  rcases Nat.lt_or_ge j l.length with h | h
  · rcases Nat.lt_or_ge c (i+new.length+(l.length - j)) with h2 | h2
    · exact repGrow_calls l new i j g c vb vc cur cv w O hl hm hij h h2 hv hvt
    · rcases Nat.lt_or_ge j (i+new.length) with h3 | h3
      · exact repRoom_calls l new i j g c vb vc cur cv w O hl hm hij h h3 h2 hv hvt hvg
      · exact repFit_calls l new i j g c vb vc cur cv w O hl hm hij h h3 hv hvt
  · obtain rfl:j=l.length:=by omega
    rcases Nat.lt_or_ge (i+new.length) l.length with h2 | h2
    · exact repCut_calls l new i g c vb vc cur cv w O hij h2 hv hvt
    · exact repEnd_calls l new i g c vb vc cur cv w O hl hm hij h2 hv hvt
 refine key.mono ?_;rintro e w' ⟨v',rfl,h1,h2,h3⟩;refine⟨v',rfl,h1,λk hk=>(h2 k hk).imp (λe=>by rw[e];rfl) id,h3.mono λk _ e=>by rw[e];rfl⟩
end Go.Proofs.YtmpmggejhnmakaaGreatDoor
