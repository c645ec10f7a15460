/- slices.Replace at stretches: some stretches in the place of one or more. -/
import Derived.Test.YtmpmggejhnmakaaGreatDoorZ29
import Derived.Test.YtmpmggejhnmakaaGreatDoorZ28
import Derived.Shelf.Spec.SlicesInsert
import Derived.Deep.RegionLaw
import Derived.Lib.AppendZerosOnto
import Derived.Laws.NewBlocks
import Derived.Test.YtmpmggejhnmakaaGreatDoorZ01
set_option maxRecDepth 100000
set_option maxHeartbeats 4000000
namespace Go.Proofs.YtmpmggejhnmakaaGreatDoor
open Go.RowKit Go.Lib
theorem flat_len5 (l:List StrZ):(l.flatMap encSt).length=l.length * 5:=by
 induction l with
 | nil=>rfl
 | cons a l ih=>rw[List.flatMap_cons,qG,ih,List.length_cons];show 5+_=_;omega
theorem flat_drop5 (l:List StrZ)(i:Nat):(l.flatMap encSt).drop (i * 5)=(l.drop i).flatMap encSt:=by
 rcases Nat.lt_or_ge i l.length with h | h
 · conv=>lhs;rw[<- List.take_append_drop i l,List.flatMap_append]
   have:((l.take i).flatMap encSt).length=i * 5:=by rw[flat_len5,List.length_take];omega
   rw[List.drop_append_of_le_length (by omega),List.drop_of_length_le (by omega),List.nil_append]
 · rw[List.drop_of_length_le h,List.drop_of_length_le (by rw[flat_len5];omega)];rfl
theorem one_flat5 (l:List StrZ):∀u∈l.flatMap encSt,u.oneCell'=true:=by
 intro u hu;obtain⟨x,_,hx⟩:=List.mem_flatMap.1 hu;exact one_st x u hx
theorem spl_ab (cs A B:List Value)(a b:Nat)(hb:b=a+A.length)(h:b+B.length<=cs.length):(splice (splice cs a A) b B).take (b+B.length)=cs.take a++A++B:=by
 subst hb;rw[splice_eq B _ _ (by rw[splice_length];omega),splice_eq A _ _ (by omega)]
 have e1:(cs.take a++A++cs.drop (a+A.length)).take (a+A.length)=cs.take a++A:=by
  rw[show a+A.length=(cs.take a++A).length from by rw[qG,List.length_take];omega,List.take_left]
 rw[e1];have e2:(cs.take a++A++B).length=a+A.length+B.length:=by simp only[qG,List.length_take];omega
 rw[<- e2,List.take_left]
theorem spl_ba (cs A B:List Value)(a b:Nat)(hb:b=a+A.length)(h:b+B.length<=cs.length):(splice (splice cs b B) a A).take (b+B.length)=cs.take a++A++B:=by
 subst hb;rw[splice_eq A _ _ (by rw[splice_length];omega),splice_eq B _ _ (by omega)]
 have e1:(cs.take (a+A.length)++B++cs.drop (a+A.length+B.length)).take a=cs.take a:=by
  rw[List.append_assoc,List.take_append_of_le_length (by rw[List.length_take];omega),List.take_take];congr 1;omega
 have e2:(cs.take (a+A.length)++B++cs.drop (a+A.length+B.length)).drop (a+A.length)=B++cs.drop (a+A.length+B.length):=by
  have:(cs.take (a+A.length)).length=a+A.length:=by rw[List.length_take];omega
  rw[List.append_assoc];exact List.drop_left' this
 rw[e1,e2,<- List.append_assoc];have e3:(cs.take a++A++B).length=a+A.length+B.length:=by simp only[qG,List.length_take];omega
 rw[<- e3,List.take_left]
theorem elemSt:Tryz.prog.underlying 57=some (.slice (Tryz.prog.elem 57)):=by kernel_rfl
theorem sizeSt:∀W,(sizeOf (Tryz.prog.elem 57)).run Tryz.prog W= .ok 5 W:=λW=>by kernel_rfl
theorem slice_fromSt (g len cap n:Nat)(h:n<=len)(hn:n<cap):∀W,(Instr.slice 57 (.slice (some ⟨g,0,none⟩) len cap) (some (.int .i64 n)) none none).run Tryz.prog W= .ok (.slice (some ⟨g,n * 5,none⟩) (len - n) (cap - n)) W:=by
 intro W;rw[run_slice_l W _ _ _ _ elemSt .i64 n (by omega) (by omega),sizeSt W];simp only[Result.andThen_ok,sliced,Int.toNat_natCast];rw[if_neg (by omega),Option.map_some,WideShapes.add_plain,Nat.zero_add]
theorem slice_toSt (g len cap n:Nat)(h:n<=cap):∀W,(Instr.slice 57 (.slice (some ⟨g,0,none⟩) len cap) none (some (.int .i64 n)) none).run Tryz.prog W= .ok (.slice (some ⟨g,0,none⟩) n cap) W:=by
 intro W;rw[run_slice_h W _ _ _ _ elemSt .i64 n (by omega) (by omega),sizeSt W];simp only[Result.andThen_ok,sliced,Int.toNat_natCast,Nat.sub_zero];by_cases e:cap=0<;>simp[e,WideShapes.add_plain]
theorem slice_midSt (g len cap n k:Nat)(h:n<=k)(hk:k<=cap)(hn:n<cap):∀W,(Instr.slice 57 (.slice (some ⟨g,0,none⟩) len cap) (some (.int .i64 n)) (some (.int .i64 k)) none).run Tryz.prog W= .ok (.slice (some ⟨g,n * 5,none⟩) (k - n) (cap - n)) W:=by
 intro W;rw[run_slice_lh W _ _ _ _ elemSt .i64 .i64 n k (by omega) (by omega) (by omega),sizeSt W];simp only[Result.andThen_ok,sliced,Int.toNat_natCast];rw[if_neg (by omega),Option.map_some,WideShapes.add_plain,Nat.zero_add]
def zeroSt:Array Value:= #[.string ⟨#[]⟩,.string ⟨#[]⟩,.int .i64 0,.int .u8 0,.int .i64 0]
theorem zeroSt_one:∀n,∀v∈(Builtin.zeroCells zeroSt n).toList,v.oneCell'=true:=by
 intro n v hv;simp only[Builtin.zeroCells,Array.toList_map,List.mem_map]at hv;obtain⟨i,_,rfl⟩:=hv;have h:i % zeroSt.size<5:=Nat.mod_lt _ (by decide)
 have:∀k,k<5->(zeroSt[k]!).oneCell'=true:=by
  intro k hk
  match k,hk with
  | 0,_=>rfl
  | 1,_=>rfl
  | 2,_=>rfl
  | 3,_=>rfl
  | 4,_=>rfl
 exact this _ h
structure OwnSt (w:World)(g c:Nat)(cur:List Value)(l:List StrZ):Prop where
 fit:l.length<=c
 max:c<=maxLen
 len:cur.length=c * 5
 tk:cur.take (l.length * 5)=l.flatMap encSt
 blk:Blk w g cur 92
theorem ownSt_of {w:World}{v:Value}{l:List StrZ}(h:w.ownsRow 0 92 5 v l.length (l.flatMap encSt))(hi:l≠[]):∃g c cur,v= .slice (some ⟨g,0,none⟩) l.length c/\OwnSt w g c cur l:=by
 rcases h.2 with ⟨_,h0⟩ | ⟨g,c,cur,hv,_,hg,hn,hm,hcs,htk⟩
 · exact absurd (List.eq_nil_of_length_eq_zero h0) hi
 · exact⟨g,c,cur.toList,hv,hn,hm,by simpa using hcs,htk,by unfold Blk;exact hg⟩
def repD (l new:List StrZ)(i j:Nat):List StrZ:=l.take i++new++l.drop j
def RepPost (l new:List StrZ)(i j g:Nat)(w:World)(e:Ending)(w':World):Prop:=
 ∃v':Value,e= .returned v'/\w'.ownsRow 0 92 5 v' (repD l new i j).length ((repD l new i j).flatMap encSt)/\(∀k,v'.ownBlock=some k->k=g\/w.heap.size<=k)/\But (λk=>k=g) w w'
theorem repD_flat (l new:List StrZ)(i j:Nat):(repD l new i j).flatMap encSt=(l.take i).flatMap encSt++new.flatMap encSt++(l.drop j).flatMap encSt:=by
 unfold repD;rw[List.flatMap_append,List.flatMap_append]
theorem repD_len (l new:List StrZ)(i j:Nat)(hi:i<=l.length):(repD l new i j).length=i+new.length+(l.length - j):=by
 unfold repD;simp only[qG,List.length_take,List.length_drop];omega
theorem row_cells {w:World}{g:Nat}{cs:List Value}{t:TypeId}(h:Blk w g cs t)(o n:Nat)(hn:o+n<=cs.length):(∀j,j<n->(w.cell? ⟨g,o+j,none⟩).isSome=true)/\(∀j,j<n->w.frozen? ⟨g,o+j,none⟩=false):=
 ⟨λj hj=>by rw[h.cell (o+j),qE (by omega)];rfl,λj _=>h.free _⟩
theorem sizeStI:(Tryz.prog.info? 92).map (·.size)=some 5:=by
 obtain⟨i0,hi0,_,h1,_⟩:=info_parts infoSt;rw[hi0];simp[h1]
theorem copySt (w:World)(n b o dc:Nat)(dl:Nat)(a:Addr)(sl sc:Nat)(L:List StrZ)(cs:List Value)(hb:Blk w b cs 92)(hL:L.length=n)(hfit:o+n * 5<=cs.length)(hn:n=Nat.min sl dl)
 (hsrc:∀j v,(L.flatMap encSt)[j]? =some v->w.cell? (a.add j)=some v):∀ty,(Builtin.copy_ #[57,57] ty #[.slice (some ⟨b,o,none⟩) dl dc,.slice (some a) sl sc]).run Tryz.prog w= .ok (goInt n) (w.setCells b o (L.flatMap encSt)):=λty=>by
 have hl:(L.flatMap encSt).length=n * 5:=by rw[flat_len5,hL]
 obtain⟨h1,h2⟩:=row_cells hb o (n * 5) hfit;exact run_copy_k w _ _ ty 92 5 n b o dl dc a sl sc _ Tryz.underlying57 sizeStI hn hl hsrc (by rw[hl];exact h1) (by rw[hl];exact h2) (one_flat5 _)
theorem tail_cells {w:World}{g:Nat}{cs:List Value}{l:List StrZ}(h:Blk w g cs 92)(j:Nat)(hj:j<=l.length)(ht:∀k,j * 5<=k->k<l.length * 5->cs[k]? =(l.flatMap encSt)[k]?):∀k v,((l.drop j).flatMap encSt)[k]? =some v->w.cell? ((⟨g,j * 5,none⟩:Addr).add k)=some v:=λk v hk=>by
 have hlt:k<(l.length - j) * 5:=by
  have:=(qF.1 hk).1
  rwa [flat_len5,List.length_drop]at this
 rw[Addr.add_lit,h.cell (j * 5+k),ht _ (by omega) (by omega)];rw[<- flat_drop5,List.getElem?_drop]at hk;exact hk
theorem new_cells {w:World}{vb:Nat}{cv:List Value}{new:List StrZ}(h:Blk w vb cv 92)(ht:cv.take (new.length * 5)=new.flatMap encSt):∀k v,(new.flatMap encSt)[k]? =some v->w.cell? ((⟨vb,0,none⟩:Addr).add k)=some v:=λk v hk=>by
 rw[Addr.add_lit,h.cell (0+k),Nat.zero_add];rw[<- ht,List.getElem?_take]at hk
 split at hk
 · exact hk
 · cases hk
end Go.Proofs.YtmpmggejhnmakaaGreatDoor
/- slices.Replace at stretches: the roads of it. -/
namespace Go.Proofs.YtmpmggejhnmakaaGreatDoor
open Go.RowKit Go.Lib
theorem run_clear_0 (w:World)(a:Option Addr)(c:Nat):∀ty,(Builtin.clear_ #[57] ty #[.slice a 0 c]).run Tryz.prog w= .ok (.tuple #[]) w:=λty=>by
 cases a<;>simp[Builtin.clear_,run_underlying Tryz.underlying57,Result.andThen]
theorem repFit_calls (l new:List StrZ)(i j g c vb vc:Nat)(cur cv:List Value)(w:World)(O:OwnSt w g c cur l)(hl:l.length<=1000)(hm:new.length<=1000)(hij:i<j)(hj:j<l.length)(hfit:i+new.length<=j)
 (hv:Blk w vb cv 92) (hvt:cv.take (new.length * 5)=new.flatMap encSt):
 Calls Tryz.prog 118 #[.slice (some ⟨g,0,none⟩) l.length c,.int .i64 i,.int .i64 j,.slice (some ⟨vb,0,none⟩) new.length vc] w (RepPost l new i j g w):=by
 have hlen:=repD_len l new i j (by omega);have hflat:=repD_flat l new i j;have hlc:=O.fit;have hcm:=O.max;have hcl:=O.len;have htk:=O.tk;have htail:∀k,j * 5<=k->k<l.length * 5->cur[k]? =(l.flatMap encSt)[k]? :=λk _ h2=>by rw[<- htk,List.getElem?_take,if_pos h2]
 have hti:cur.take (i * 5)=(l.take i).flatMap encSt:=by
  rw[<- flat_take (enc:=encSt) (sz:=5) (λ_=>rfl) l i,<- htk,List.take_take];congr 1;omega
 have hgb:=O.blk;have hA:(new.flatMap encSt).length=new.length * 5:=flat_len5 _;have hB:((l.drop j).flatMap encSt).length=(l.length - j) * 5:=by rw[flat_len5,List.length_drop]
 have hdl:(l.drop j).length=l.length - j:=List.length_drop;obtain⟨n,hn⟩:∃n,n=l.length:=⟨_,rfl⟩;obtain⟨m,hmm⟩:∃m,m=new.length:=⟨_,rfl⟩;rw[<- hn]at hl hj hlen hlc htk htail hB hdl;rw[<- hmm]at hm hfit hvt hlen hA;obtain⟨p,hp⟩:∃p,p=i+m:=⟨_,rfl⟩;obtain⟨q,hq⟩:∃q,q=n - j:=⟨_,rfl⟩;obtain⟨T,hT⟩:∃T,T=p+q:=⟨_,rfl⟩;have hTl:(repD l new i j).length=T:=by omega
 rw[<- hq]at hB hdl;have s1:=slice_midSt g n c i j (by omega) (by omega) (by omega);have s2:=slice_toSt g n c i (by omega);have s3:=slice_fromSt g n c j (by omega) (by omega);rw[<- hq]at s3;have s4:=slice_toSt g n c T (by omega);have s5:=slice_fromSt g T c i (by omega) (by omega);have s6:=slice_fromSt g T c p (by omega) (by omega);rw[show T - p=q from by omega]at s6;obtain⟨W1,hW1⟩:∃W1,W1=w.drew.setCells g (i * 5) (new.flatMap encSt):=⟨_,rfl⟩;have hg1:Blk W1 g (splice cur (i * 5) (new.flatMap encSt)) 92:=by rw[hW1];exact hgb.drew.setCells _ _
 have c1:=copySt w.drew m g (i * 5) (c - i) (T - i) ⟨vb,0,none⟩ m vc new cur hgb.drew hmm.symm (by omega) (by simp only[Nat.min_def];split<;>omega) (new_cells hv.drew (by rw[<- hmm];exact hvt));rw[<- hW1]at c1;obtain⟨W2,hW2⟩:∃W2,W2=W1.drew.setCells g (p * 5) ((l.drop j).flatMap encSt):=⟨_,rfl⟩;have hg2:Blk W2 g (splice (splice cur (i * 5) (new.flatMap encSt)) (p * 5) ((l.drop j).flatMap encSt)) 92:=by rw[hW2];exact hg1.drew.setCells _ _
 have c2:=copySt W1.drew q g (p * 5) (c - p) q ⟨g,j * 5,none⟩ q (c - j) (l.drop j) _ hg1.drew hdl (by rw[splice_length];omega) (by simp only[Nat.min_def];split<;>omega)
  (tail_cells hg1.drew j (by omega) (λk h1 h2=>by rw[splice_get _ _ _ _ (by rw[hA];omega)];exact htail k h1 (by omega)))
 rw[<- hW2]at c2
 have htake:(splice (splice cur (i * 5) (new.flatMap encSt)) (p * 5) ((l.drop j).flatMap encSt)).take (T * 5)=(repD l new i j).flatMap encSt:=by
  have:=spl_ab cur (new.flatMap encSt) ((l.drop j).flatMap encSt) (i * 5) (p * 5) (by rw[hA];omega) (by rw[hB];omega)
  rw[hB,show p * 5+q * 5=T * 5 from by omega]at this;rw[this,hti,hflat]
 have b12:But (λk=>k=g) w W2:=by
  rw[hW2];refine but_setCells (S:=λk=>k=g) rfl _ _ (But.drew ?_);rw[hW1];exact but_setCells (S:=λk=>k=g) rfl _ _ (But.refl _ _).drew
 obtain⟨W3,A7,L7,C7,s7,c3,b13,hown3⟩:∃(W3:World) (A7:Option Addr) (L7 C7:Nat),(∀W,(Instr.slice 57 (.slice (some ⟨g,0,none⟩) n c) (some (.int .i64 T)) none none).run Tryz.prog W= .ok (.slice A7 L7 C7) W)/\
  (∀ty,(Builtin.clear_ #[57] ty #[.slice A7 L7 C7]).run Tryz.prog W2= .ok (.tuple #[]) W3)/\But (λk=>k=g) w W3/\W3.ownsRow 0 92 5 (.slice (some ⟨g,0,none⟩) T c) T ((repD l new i j).flatMap encSt):=by
  by_cases hTn:T<n
  · refine⟨W2.setCells g (T * 5) (Builtin.zeroCells zeroSt (n - T)).toList,_,_,_,slice_fromSt g n c T (by omega) (by omega),λty=>?_,but_setCells (S:=λk=>k=g) rfl _ _ b12,?_⟩
    · exact run_clear_k _ 57 92 ty (.agg zeroSt) zeroSt Tryz.underlying57 (λw=>by kernel_rfl) rfl zeroSt_one g (T * 5) (n - T) (c - T) (by omega)
       (λk hk=>(row_cells hg2 (T * 5) ((n - T) * 5) (by rw[splice_length,splice_length];omega)).1 k hk) (λk hk=>(row_cells hg2 (T * 5) ((n - T) * 5) (by rw[splice_length,splice_length];omega)).2 k hk)
    · have hz5:(Builtin.zeroCells zeroSt (n - T)).toList.length=(n - T) * 5:=by rw[Array.length_toList,zc_size];rfl
      exact own_of_blk (hg2.setCells _ _) (by rw[splice_length,splice_length,splice_length,hcl]) (by omega) hcm (by rw[take_splice' _ _ _ (by rw[splice_length,splice_length,hz5];omega)];exact htake)
  · obtain rfl:T=n:=by omega
    refine⟨W2,(if c=T then some ⟨g,0,none⟩ else some ⟨g,T * 5,none⟩),0,c - T,λW=>?_,run_clear_0 W2 _ _,b12,own_of_blk hg2 (by rw[splice_length,splice_length,hcl]) (by omega) hcm htake⟩;by_cases hTc:c=T
    · rw[if_pos hTc,run_slice_l W _ _ _ _ elemSt .i64 T (by omega) (by omega),sizeSt W]
      simp only[Result.andThen_ok,sliced,Int.toNat_natCast,Nat.sub_self];rw[if_pos hTc]
    · rw[if_neg hTc]
      have:=slice_fromSt g T c T (by omega) (by omega) W
      rwa [Nat.sub_self]at this
 have e1:(i:Int)+(m:Int)=(p:Int):=by omega
 have e2:(p:Int)+(q:Int)=(T:Int):=by omega
 have z1:¬((i:Int)=(j:Int)):=by omega
 have z2:¬((j:Int)=(n:Int)):=by omega
 have z3:¬((c:Int)<(T:Int)):=by omega
 have z4:((p:Int)<=(j:Int)):=by omega
 have z5:p<=2000:=by omega
 have z7:IntKind.i64.wrap (p:Int)=(p:Int):=by rw[IntKind.wrap_i64];omega
 have z6:q<=1000:=by omega
 have P1:=qA c1;have P2:=qA c2;have P3:=qA b13;have P4:=qA hown3;have HTL:=qA hTl;have hcc:c<=9223372036854775807:=by unfold maxLen at hcm;omega
 rw[<- hn,<- hmm];clear c1 c2 b13 hown3 hTl O hlen hflat htk htail hti hgb hA hB hdl hg1 hg2 hW1 hW2 htake b12 hv hvt hcl hp hq hT hn hmm;go_enter Tryz.func118,Tryz.ntmps118;go_wp2_with fail
 go_region_with (fail)
 go_wp2_with (with_reducible refine wpList_copy_runI _ rfl _ _ 57 57 rfl _ _ rfl rfl (P1.out _) ?_)
 go_region_law (refine step_copy_runI rfl _ _ 57 57 rfl _ _ (by simp[Act.eval,Act.put]) (by simp[Act.eval,Act.put]) (P2.out _) ?_)
 go_wp2_with fail;go_ret;refine⟨_,rfl,by rw[HTL.out];exact P4.out,λk hk=> .inl ?_,P3.out⟩;simp[Value.ownBlock]at hk;exact hk.symm
end Go.Proofs.YtmpmggejhnmakaaGreatDoor
/- slices.Replace at stretches: where there is room for more. -/
namespace Go.Proofs.YtmpmggejhnmakaaGreatDoor
open Go.RowKit Go.Lib
theorem repRoom_calls (l new:List StrZ)(i j g c vb vc:Nat)(cur cv:List Value)(w:World)(O:OwnSt w g c cur l)(hl:l.length<=1000)(hm:new.length<=1000)(hij:i<j)(hj:j<l.length)(hfit:j<i+new.length)(hroom:i+new.length+(l.length - j)<=c)
 (hv:Blk w vb cv 92) (hvt:cv.take (new.length * 5)=new.flatMap encSt) (hne:vb≠g):
 Calls Tryz.prog 118 #[.slice (some ⟨g,0,none⟩) l.length c,.int .i64 i,.int .i64 j,.slice (some ⟨vb,0,none⟩) new.length vc] w (RepPost l new i j g w):=by
 have hlen:=repD_len l new i j (by omega);have hflat:=repD_flat l new i j;have hlc:=O.fit;have hcm:=O.max;have hcl:=O.len;have htk:=O.tk;have htail:∀k,j * 5<=k->k<l.length * 5->cur[k]? =(l.flatMap encSt)[k]? :=λk _ h2=>by rw[<- htk,List.getElem?_take,if_pos h2]
 have hti:cur.take (i * 5)=(l.take i).flatMap encSt:=by
  rw[<- flat_take (enc:=encSt) (sz:=5) (λ_=>rfl) l i,<- htk,List.take_take];congr 1;omega
 have hgb:=O.blk;have hA:(new.flatMap encSt).length=new.length * 5:=flat_len5 _;have hB:((l.drop j).flatMap encSt).length=(l.length - j) * 5:=by rw[flat_len5,List.length_drop]
 have hdl:(l.drop j).length=l.length - j:=List.length_drop;obtain⟨n,hn⟩:∃n,n=l.length:=⟨_,rfl⟩;obtain⟨m,hmm⟩:∃m,m=new.length:=⟨_,rfl⟩;rw[<- hn]at hl hj hlen hlc htk htail hB hdl hroom;rw[<- hmm]at hm hfit hvt hlen hA hroom;obtain⟨p,hp⟩:∃p,p=i+m:=⟨_,rfl⟩;obtain⟨q,hq⟩:∃q,q=n - j:=⟨_,rfl⟩;obtain⟨T,hT⟩:∃T,T=p+q:=⟨_,rfl⟩;have hTl:(repD l new i j).length=T:=by omega
 rw[<- hq]at hB hdl;have s1:=slice_midSt g n c i j (by omega) (by omega) (by omega);have s2:=slice_toSt g n c i (by omega);have s3:=slice_fromSt g n c j (by omega) (by omega);rw[<- hq]at s3;have s4:=slice_toSt g n c T (by omega);have s5:=slice_fromSt g T c i (by omega) (by omega);have s6:=slice_fromSt g T c p (by omega) (by omega);rw[show T - p=q from by omega]at s6;obtain⟨W1,hW1⟩:∃W1,W1=w.drew.drew.setCells g (p * 5) ((l.drop j).flatMap encSt):=⟨_,rfl⟩;have hgd:Blk w.drew.drew g cur 92:=hgb.drew.drew;have hg1:Blk W1 g (splice cur (p * 5) ((l.drop j).flatMap encSt)) 92:=by rw[hW1];exact hgd.setCells _ _
 have c1:=copySt w.drew.drew q g (p * 5) (c - p) q ⟨g,j * 5,none⟩ q (c - j) (l.drop j) _ hgd hdl (by omega) (by simp only[Nat.min_def];split<;>omega)
  (tail_cells hgd j (by omega) (λk h1 h2=>htail k h1 (by omega)))
 rw[<- hW1]at c1;obtain⟨W2,hW2⟩:∃W2,W2=W1.setCells g (i * 5) (new.flatMap encSt):=⟨_,rfl⟩;have hg2:Blk W2 g (splice (splice cur (p * 5) ((l.drop j).flatMap encSt)) (i * 5) (new.flatMap encSt)) 92:=by rw[hW2];exact hg1.setCells _ _
 have hv1:Blk W1 vb cv 92:=by
  unfold Blk;rw[hW1,World.heap_setCells_other _ _ _ _ hv.drew.drew.lt hne];exact hv.drew.drew
 have c2:=copySt W1 m g (i * 5) (c - i) (T - i) ⟨vb,0,none⟩ m vc new _ hg1 hmm.symm (by rw[splice_length];omega) (by simp only[Nat.min_def];split<;>omega) (new_cells hv1 (by rw[<- hmm];exact hvt));rw[<- hW2]at c2
 have htake:(splice (splice cur (p * 5) ((l.drop j).flatMap encSt)) (i * 5) (new.flatMap encSt)).take (T * 5)=(repD l new i j).flatMap encSt:=by
  have:=spl_ba cur (new.flatMap encSt) ((l.drop j).flatMap encSt) (i * 5) (p * 5) (by rw[hA];omega) (by rw[hB];omega)
  rw[hB,show p * 5+q * 5=T * 5 from by omega]at this;rw[this,hti,hflat]
 have b13:But (λk=>k=g) w W2:=by
  rw[hW2];refine but_setCells (S:=λk=>k=g) rfl _ _ ?_;rw[hW1];exact but_setCells (S:=λk=>k=g) rfl _ _ (But.refl _ _).drew.drew
 have hown3:W2.ownsRow 0 92 5 (.slice (some ⟨g,0,none⟩) T c) T ((repD l new i j).flatMap encSt):=
  own_of_blk hg2 (by rw[splice_length,splice_length,hcl]) (by omega) hcm htake
 have hcv:cv.length≠0:=λe=>by
  have:=congrArg List.length hvt
  rw[List.length_take,e,hA]at this;omega
 have hov:∀o lb cb,(callFunc 177 #[.slice (some ⟨g,o,none⟩) lb cb,.slice (some ⟨vb,0,none⟩) m vc]).run Tryz.prog w.drew= .ok (.value (.bool false)) w.drew:=λo lb cb=>by
  rw[run_callFunc_extern Tryz.func177 (by kernel_rfl) (by kernel_rfl) (by kernel_rfl) (e:=Extern.SlicesOverlaps.overlaps #[57,57] #[4]) (by kernel_rfl),
   Lib.run_overlaps_apart w.drew 57 4 92 Tryz.underlying57 5 (λw=>by kernel_rfl) ⟨g,o,none⟩ ⟨vb,0,none⟩ lb cb m vc hne.symm _ _ _ _ (shape_of hgb.drew) (shape_of hv.drew) hcv (hgb.drew.free _) (hgb.drew.free _)]
  rfl
 have e1:(i:Int)+(m:Int)=(p:Int):=by omega
 have e2:(p:Int)+(q:Int)=(T:Int):=by omega
 have z1:¬((i:Int)=(j:Int)):=by omega
 have z2:¬((j:Int)=(n:Int)):=by omega
 have z3:¬((c:Int)<(T:Int)):=by omega
 have z4:¬((p:Int)<=(j:Int)):=by omega
 have z5:p<=2000:=by omega
 have z7:IntKind.i64.wrap (p:Int)=(p:Int):=by rw[IntKind.wrap_i64];omega
 have z6:q<=1000:=by omega
 have P1:=qA c1;have P2:=qA c2;have P3:=qA b13;have P4:=qA hown3;have HTL:=qA hTl;have hcc:c<=9223372036854775807:=by unfold maxLen at hcm;omega
 rw[<- hn,<- hmm];clear c1 c2 b13 hown3 hTl O hlen hflat htk htail hti hgb hA hB hdl hg1 hg2 hgd hv1 hW1 hW2 htake hv hvt hcv hcl hp hq hT hn hmm;go_enter Tryz.func118,Tryz.ntmps118;go_wp2_with fail
 go_region_with (fail)
 go_wp2_with (simp only[hov])
 go_region_law (refine step_copy_runI rfl _ _ 57 57 rfl _ _ (by simp[Act.eval,Act.put]) (by simp[Act.eval,Act.put]) (P1.out _) ?_)
 go_wp2_with (with_reducible refine wpList_copy_runI _ rfl _ _ 57 57 rfl _ _ rfl rfl (P2.out _) ?_);go_ret;refine⟨_,rfl,by rw[HTL.out];exact P4.out,λk hk=> .inl ?_,P3.out⟩;simp[Value.ownBlock]at hk;exact hk.symm
end Go.Proofs.YtmpmggejhnmakaaGreatDoor
