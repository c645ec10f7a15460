/- slices.Insert at rows. -/
import Derived.Test.YtmpmggejhnmakaaGreatDoorZ02
import Derived.Deep.RegionHeld3
import Derived.Deep.RegionWith
import Derived.Laws.IdiomCopy
import Derived.Shelf.Spec.SlicesInsert
import Derived.Deep.RegionLaw
import Derived.Lib.AppendZerosOnto
import Derived.Laws.NewBlocks
import Derived.Test.YtmpmggejhnmakaaGreatDoorZ10
import Derived.Test.YtmpmggejhnmakaaGreatDoorZ01
set_option maxRecDepth 100000
set_option maxHeartbeats 4000000
namespace Go.Proofs.YtmpmggejhnmakaaGreatDoor
theorem insEnd_callsR (l:List RowD)(x:RowD)(v:Value)(vb vc:Nat)(w:World)(hl:l.length<=1000000)(hown:w.ownsRow 0 52 2 v l.length (l.flatMap encRw))(hx:∀j u,(encRw x)[j]? =some u->w.cell? ((⟨vb,0,none⟩:Addr).add j)=some u):
 Calls Tryz.prog 181 #[v,.int .i64 l.length,.slice (some ⟨vb,0,none⟩) 1 vc] w λe w'=>∃v':Value,e= .returned v'/\w'.ownsRow 0 52 2 v' (l.length+1) ((l++[x]).flatMap encRw)/\(∀j,v'.ownBlock=some j->v.ownBlock=some j\/w.heap.size<=j)/\But (λj=>v.ownBlock=some j) w w':=by
 obtain⟨i0,hi,hz0,hz1,hz2⟩:=info_parts infoRow
 obtain⟨ao,c,rfl,hc⟩:∃ao c,v= .slice ao l.length c/\l.length<=c:=by
  rcases hown.2 with ⟨rfl,h0⟩ | ⟨g,cap,cur,rfl,_,_,h,_⟩
  · exact⟨none,0,by rw[h0],by omega⟩
  · exact⟨_,cap,rfl,h⟩
 have HO:=qA hown;have HXX:=qA hx;clear hown hx;go_enter Tryz.func181,Tryz.ntmps181;go_wp2_with (at_builtin;refine wpList_append_at _ rfl _ _ 40 rfl 52 i0 _ 2 32 Tryz.underlying40 hi hz0 hz1 hz2 rfl (by decide) _ l.length (l.flatMap encRw) rfl HO.out ⟨vb,0,none⟩ 1 vc (encRw x) rfl rfl HXX.out (one_row _) (by decide) (by unfold maxLen;omega) (by omega) ?_;intro g cap2 w4 hown' hbut hkept;have Y1:=qA hown';have Y2:=qA hbut;have Y3:=qA hkept;clear hown' hbut hkept)
 all_goals
  have h3:∀j,(Value.slice (some ⟨g,0,none⟩) (l.length+1) cap2).ownBlock=some j->(Value.slice ao l.length c).ownBlock=some j\/w.heap.size<=j:=Y3.out;have h2:But (λj=>(Value.slice ao l.length c).ownBlock=some j) w w4:=Y2.out;have h1:=Y1.out;simp only[ownB]at h2 h3;have H1:=qA h1;have H2:=qA h2;have H3:=qA h3;clear h1 h2 h3 Y1 Y2 Y3;go_ret;refine⟨.slice (some ⟨g,0,none⟩) (l.length+1) cap2,rfl,by first | exact H1.out | simpa using H1.out,λj hj=>?_,?_⟩
  · rw[ownB]at hj ⊢;exact H3.out j hj
  · simp only[ownB];exact H2.out
end Go.Proofs.YtmpmggejhnmakaaGreatDoor
/- slices.Insert at rows, one row, ahead of others, where there is room. -/
namespace Go.Proofs.YtmpmggejhnmakaaGreatDoor
open Go.RowKit Go.Lib
theorem hflat_lenR (l:List RowD):(l.flatMap encRw).length=l.length * 2:=by
 induction l with
 | nil=>rfl
 | cons a l ih=>rw[List.flatMap_cons,qG,ih,List.length_cons];simp[encRw];omega
theorem hflat_takeR (l:List RowD)(i:Nat):(l.flatMap encRw).take (i * 2)=(l.take i).flatMap encRw:=by
 rcases Nat.lt_or_ge i l.length with h | h
 · conv=>lhs;rw[<- List.take_append_drop i l,List.flatMap_append]
   rw[List.take_append_of_le_length (by rw[hflat_lenR,List.length_take];omega),List.take_of_length_le (by rw[hflat_lenR,List.length_take];omega)]
 · rw[List.take_of_length_le h,List.take_of_length_le (by rw[hflat_lenR];omega)]
theorem hflat_dropR (l:List RowD)(i:Nat):(l.flatMap encRw).drop (i * 2)=(l.drop i).flatMap encRw:=by
 rcases Nat.lt_or_ge i l.length with h | h
 · conv=>lhs;rw[<- List.take_append_drop i l,List.flatMap_append]
   have:((l.take i).flatMap encRw).length=i * 2:=by rw[hflat_lenR,List.length_take];omega
   rw[List.drop_append_of_le_length (by omega),List.drop_of_length_le (by omega),List.nil_append]
 · rw[List.drop_of_length_le h,List.drop_of_length_le (by rw[hflat_lenR];omega)];rfl
theorem one_flatR (l:List RowD):∀u∈l.flatMap encRw,u.oneCell'=true:=by
 intro u hu;obtain⟨x,_,hx⟩:=List.mem_flatMap.1 hu;exact one_row x u hx
theorem insRowR (l:List RowD)(x:RowD)(i c:Nat)(cur:List Value)(hi:i<l.length)(hc:l.length+1<=c)(hcur:cur.length=c * 2)(htk:cur.take (l.length * 2)=l.flatMap encRw):
 (splice (splice cur ((i+1) * 2) ((l.drop i).flatMap encRw)) (i * 2) (encRw x)).take ((l.length+1) * 2)=(l.take i++x::l.drop i).flatMap encRw:=by
 have hd:((l.drop i).flatMap encRw).length=(l.length - i) * 2:=by rw[hflat_lenR,List.length_drop]
 have hx:(encRw x).length=2:=rfl;have hfit:(i+1) * 2+(l.length - i) * 2=(l.length+1) * 2:=by omega
 have hti:cur.take (i * 2)=(l.take i).flatMap encRw:=by
  rw[<- hflat_takeR,<- htk,List.take_take];congr 1;omega
 rw[splice_eq (encRw x) _ _ (by rw[splice_length,hx];omega),splice_eq _ cur _ (by rw[hd];omega),hd,hfit,hx]
 have e1:(cur.take ((i+1) * 2)++(l.drop i).flatMap encRw++cur.drop ((l.length+1) * 2)).take (i * 2)=(l.take i).flatMap encRw:=by
  rw[List.append_assoc,List.take_append_of_le_length (by rw[List.length_take];omega),List.take_take,<- hti];congr 1;omega
 have e2:(cur.take ((i+1) * 2)++(l.drop i).flatMap encRw++cur.drop ((l.length+1) * 2)).drop (i * 2+2)=(l.drop i).flatMap encRw++cur.drop ((l.length+1) * 2):=by
  have:(cur.take ((i+1) * 2)).length=i * 2+2:=by rw[List.length_take];omega
  rw[List.append_assoc,<- this,List.drop_left]
 rw[e1,e2]
 have hlen:((l.take i).flatMap encRw++encRw x++(l.drop i).flatMap encRw).length=(l.length+1) * 2:=by
  rw[qG,qG,hd,hx,hflat_lenR,List.length_take];omega
 rw[<- List.append_assoc,<- hlen,List.take_left];simp
theorem insMid_callsR (l:List RowD)(x:RowD)(i g c vb vc:Nat)(cur cv:List Value)(w:World)(hl:l.length<=1000000)(hi:i<l.length)(hroom:l.length+1<=c)(hmax:c<=maxLen)
 (hg:Blk w g cur 52) (hcur:cur.length=c * 2) (htk:cur.take (l.length * 2)=l.flatMap encRw)
 (hv:Blk w vb cv 52) (hvt:cv.take 2=encRw x) (hne:vb≠g):
 Calls Tryz.prog 181 #[.slice (some ⟨g,0,none⟩) l.length c,.int .i64 i,.slice (some ⟨vb,0,none⟩) 1 vc] w λe w'=>
  e= .returned (.slice (some ⟨g,0,none⟩) (l.length+1) c)/\w'=(w.drew.setCells g ((i+1) * 2) ((l.drop i).flatMap encRw)).setCells g (i * 2) (encRw x):=by
 have hc63:c<=9223372036854775807:=by unfold maxLen at hmax;omega
 have hz2:¬((i:Int)=(l.length:Int)):=by omega
 have hsz:(Tryz.prog.info? 52).map (·.size)=some 2:=by
  obtain⟨i0,hi0,h0,h1,h2⟩:=info_parts infoRow;rw[hi0];simp[h1]
 have hzs:∀w,(Go.sizeOf 52).run Tryz.prog w= .ok 2 w:=λw=>by kernel_rfl
 have hov:∀o lb cb,(callFunc 216 #[.slice (some ⟨vb,0,none⟩) 1 vc,.slice (some ⟨g,o,none⟩) lb cb]).run Tryz.prog w= .ok (.value (.bool false)) w:=λo lb cb=>by
  rw[run_callFunc_extern Tryz.func216 (by kernel_rfl) (by kernel_rfl) (by kernel_rfl) (e:=Extern.SlicesOverlaps.overlaps #[40,40] #[4]) (by kernel_rfl),
   Lib.run_overlaps_apart w 40 4 52 Tryz.underlying40 2 hzs ⟨vb,0,none⟩ ⟨g,o,none⟩ 1 vc lb cb hne _ _ _ _ (shape_of hv) (shape_of hg) (by omega) (hv.free 0) (hv.free _)]
  rfl
 have hd:((l.drop i).flatMap encRw).length=(l.length - i) * 2:=by rw[hflat_lenR,List.length_drop]
 have hw1:IntKind.i64.wrap ((i:Int)+1)=(i:Int)+1:=by rw[IntKind.wrap_i64];omega
 have hb1:(0:Int)<=(i:Int)+1:=by omega
 have hin:i<=l.length:=by omega
 have htn:((i:Int)+1).toNat=i+1:=by omega
 have hb2:¬(c=i+1):=by omega
 have hb3:(i:Int)<=(l.length:Int)+1:=by omega
 have hb4:¬(c=i):=by omega
 have hcell:∀(W:World) cs,Blk W g cs 52->cs.length=c * 2->∀o n,o+n<=c * 2->(∀j,j<n->(W.cell? ⟨g,o+j,none⟩).isSome=true)/\(∀j,j<n->W.frozen? ⟨g,o+j,none⟩=false):=λW cs hb hl o n hn=>
  ⟨λj hj=>by rw[hb.cell (o+j),qE (by omega)];rfl,λj _=>hb.free _⟩
 have hcp1:∀ty dc sc,(Builtin.copy_ #[40,40] ty #[.slice (some ⟨g,(i+1) * 2,none⟩) (l.length - i) dc,.slice (some ⟨g,i * 2,none⟩) (l.length+1 - i) sc]).run Tryz.prog w.drew= .ok (goInt ((l.length - i:Nat):Int)) (w.drew.setCells g ((i+1) * 2) ((l.drop i).flatMap encRw)):=λty dc sc=>by
  obtain⟨h1,h2⟩:=hcell w.drew cur hg.drew hcur ((i+1) * 2) ((l.length - i) * 2) (by omega);refine run_copy_k w.drew _ _ ty 52 2 (l.length - i) g ((i+1) * 2) (l.length - i) dc ⟨g,i * 2,none⟩ (l.length+1 - i) sc _ Tryz.underlying40 hsz (by simp only[Nat.min_def];split<;>omega) hd (λj v hj=>?_) (by rw[hd];exact h1) (by rw[hd];exact h2) (one_flatR _);rw[Addr.add_lit,hg.drew.cell (i * 2+j)];rw[<- hflat_dropR,<- htk,List.getElem?_drop,List.getElem?_take]at hj
  split at hj
  · exact hj
  · cases hj
 obtain⟨W1,hW1⟩:∃W1,W1=w.drew.setCells g ((i+1) * 2) ((l.drop i).flatMap encRw):=⟨_,rfl⟩;have hg1:Blk W1 g (splice cur ((i+1) * 2) ((l.drop i).flatMap encRw)) 52:=by rw[hW1];exact hg.drew.setCells _ _
 have hv1:Blk W1 vb cv 52:=by
  unfold Blk;rw[hW1,World.heap_setCells_other _ _ _ _ hv.drew.lt hne];exact hv.drew
 have hcp2:∀(W:World),(∀x,W.cell? x=W1.cell? x)->(∀x,W.frozen? x=W1.frozen? x)->∀ty dc,(Builtin.copy_ #[40,40] ty #[.slice (some ⟨g,i * 2,none⟩) (l.length+1 - i) dc,.slice (some ⟨vb,0,none⟩) 1 vc]).run Tryz.prog W= .ok (goInt 1) (W.setCells g (i * 2) (encRw x)):=λW hWc hWf ty dc=>by
  obtain⟨h1,h2⟩:=hcell W1 _ hg1 (by rw[splice_length,hcur]) (i * 2) 2 (by omega);refine run_copy_k W _ _ ty 52 2 1 g (i * 2) (l.length+1 - i) dc ⟨vb,0,none⟩ 1 vc (encRw x) Tryz.underlying40 hsz (by simp only[Nat.min_def];split<;>omega) rfl (λj v hj=>?_) (λj hj=>by rw[hWc];exact h1 j hj) (λj hj=>by rw[hWf];exact h2 j hj) (one_row x);rw[Addr.add_lit,hWc,hv1.cell (0+j),Nat.zero_add];rw[<- hvt,List.getElem?_take]at hj
  split at hj
  · exact hj
  · cases hj
 rw[<- hW1]at hcp1;clear hcell hd hg1 hv1 htk hvt;have HW1:=qA hW1;clear hW1;go_enter Tryz.func181,Tryz.ntmps181;go_wp2_with (simp only[hov])
 go_region_law (refine step_copy_runI rfl _ _ 40 40 rfl _ _ (by simp[Act.eval,Act.put]) (by simp[Act.eval,Act.put]) (hcp1 _ _ _) ?_)
 go_wp2_with (with_reducible refine wpList_copy_runI _ rfl _ _ 40 40 rfl _ _ rfl rfl (hcp2 _ (λ_=>rfl) (λ_=>rfl) _ _) ?_);go_ret;exact⟨rfl,by rw[HW1.out]⟩
end Go.Proofs.YtmpmggejhnmakaaGreatDoor
/- slices.Insert at rows, one row, ahead of others, where there is no room; the three roads as one. -/
namespace Go.Proofs.YtmpmggejhnmakaaGreatDoor
open Go.RowKit Go.Lib
def zeroRw:Array Value:= #[.string ⟨#[]⟩,.string ⟨#[]⟩]
def growRowR (l:List RowD)(i G:Nat):List Value:=(l.take i).flatMap encRw++(Builtin.zeroCells zeroRw (l.length+1 - i)).toList++(Builtin.zeroCells zeroRw (G - (l.length+1))).toList
theorem growRow_lenR (l:List RowD)(i G:Nat)(hi:i<=l.length)(hG:l.length+1<=G):(growRowR l i G).length=G * 2:=by
 have h7:zeroRw.size=2:=rfl;simp only[growRowR,qG,hflat_lenR,List.length_take,Array.length_toList,zc_size,h7];omega
theorem growRow_insR (l:List RowD)(x:RowD)(i G:Nat)(hi:i<l.length)(hG:l.length+1<=G):
 (splice (splice (growRowR l i G) (i * 2) (encRw x)) ((i+1) * 2) ((l.drop i).flatMap encRw)).take ((l.length+1) * 2)=(l.take i++x::l.drop i).flatMap encRw:=by
 have hL:=growRow_lenR l i G (by omega) hG;have hd:((l.drop i).flatMap encRw).length=(l.length - i) * 2:=by rw[hflat_lenR,List.length_drop]
 have hx:(encRw x).length=2:=rfl;have ht:((l.take i).flatMap encRw).length=i * 2:=by rw[hflat_lenR,List.length_take];omega
 have e1:(growRowR l i G).take (i * 2)=(l.take i).flatMap encRw:=by
  unfold growRowR;rw[List.append_assoc,<- ht,List.take_left]
 rw[splice_eq ((l.drop i).flatMap encRw) _ _ (by rw[splice_length,hd,hL];omega),splice_eq (encRw x) _ _ (by rw[hx,hL];omega),hx,hd,e1]
 have e2:(((l.take i).flatMap encRw)++encRw x++(growRowR l i G).drop (i * 2+2)).take ((i+1) * 2)=(l.take i).flatMap encRw++encRw x:=by
  rw[show (i+1) * 2=((l.take i).flatMap encRw++encRw x).length from by rw[qG,ht,hx];omega,List.take_left]
 rw[e2]
 have hlen:((l.take i).flatMap encRw++encRw x++(l.drop i).flatMap encRw).length=(l.length+1) * 2:=by
  rw[qG,qG,hd,hx,ht];omega
 rw[<- hlen,List.take_left];simp
theorem insGrow_callsR (l:List RowD)(x:RowD)(i g c vb vc:Nat)(cur cv:List Value)(w:World)(hl:l.length<=1000000)(hi:i<l.length)(hc:l.length<=c)(hroom:c<l.length+1)
 (hg:Blk w g cur 52) (htk:cur.take (l.length * 2)=l.flatMap encRw)
 (hv:Blk w vb cv 52) (hvt:cv.take 2=encRw x):
 Calls Tryz.prog 181 #[.slice (some ⟨g,0,none⟩) l.length c,.int .i64 i,.slice (some ⟨vb,0,none⟩) 1 vc] w λe w'=>
  ∃G,l.length+1<=G/\G<=maxLen/\e= .returned (.slice (some ⟨w.heap.size,0,none⟩) (l.length+1) G)/\
  w'=(((w.alloc (.cells (growRowR l i G).toArray 52)).drew.setCells w.heap.size (i * 2) (encRw x)).drew).setCells w.heap.size ((i+1) * 2) ((l.drop i).flatMap encRw):=by
 obtain⟨i0,hi0,hz0,hzs,hzb⟩:=info_parts infoRow;have hz2:¬((i:Int)=(l.length:Int)):=by omega
 have hz3:(c:Int)<(l.length:Int)+1:=by omega
 have hsz:(Tryz.prog.info? 52).map (·.size)=some 2:=by rw[hi0];simp[hzs]
 have hkk:(l.length:Int)+1 - (i:Int)=((l.length+1 - i:Nat):Int):=by omega
 have hik:i+(l.length+1 - i)=l.length+1:=by omega
 have hti:(cur.take (i * 2))=(l.take i).flatMap encRw:=by rw[<- hflat_takeR,<- htk,List.take_take];congr 1;omega
 have hcl:l.length * 2<=cur.length:=by
  have:=congrArg List.length htk
  rw[hflat_lenR,List.length_take]at this;omega
 have hold:(Builtin.firstCells i0.size i (.slice (some ⟨g,0,none⟩) i c)).run Tryz.prog w.drew= .ok ((l.take i).flatMap encRw).toArray w.drew:=by
  rw[hzs]
  exact run_firstCells_some w.drew 2 i ⟨g,0,none⟩ i c ((l.take i).flatMap encRw) (by rw[hflat_lenR,List.length_take];omega) (λj v hj=>by
   rw[Addr.add_lit,Nat.zero_add,hg.drew.cell j];rw[<- hti,List.getElem?_take]at hj
   split at hj
   · exact hj
   · cases hj)
 obtain⟨G,hG⟩:∃G,G=grownCap w (l.length+1) c 52:=⟨_,rfl⟩
 have hrz:∀ty,(Builtin.append_ #[40,3] ty #[.slice (some ⟨g,0,none⟩) i c,.int .i64 ((l.length:Int)+1 - (i:Int))]).run Tryz.prog w=
  .ok (.slice (some ⟨w.heap.size,0,none⟩) (l.length+1) G) (w.drew.alloc (.cells (growRowR l i G).toArray 52)):=λty=>by
  have h:=Lib.run_append_grow_zeros w 40 3 ty 52 i0 _ .i64 .i64 Tryz.underlying40 Tryz.underlying3 hi0 hz0 (some ⟨g,0,none⟩) i c _ hold (l.length+1 - i) (by omega) (by omega) (by omega) (by omega) (by rw[hzb];omega) (by rw[hzb,hik];exact growslice_fits hroom (by omega));rw[hik,<- hG]at h;rw[hkk,h]
  have:growRowR l i G=((l.take i).flatMap encRw).toArray.toList++(Builtin.zeroCells zeroRw (l.length+1 - i)).toList++(Builtin.zeroCells zeroRw (G - (l.length+1))).toList:=rfl
  rw[this,<- Array.toList_append,<- Array.toList_append];rfl
 have hGn:l.length+1<=G:=by rw[hG];exact grownCap_ge w _ _ _
 have hG63:G<=maxLen:=by rw[hG];exact grownCap_le_maxLen w _ _ _ (by unfold maxLen;omega)
 have hG64:G<=9223372036854775807:=by unfold maxLen at hG63;omega
 have hRL:=growRow_lenR l i G (by omega) hGn;obtain⟨ROW,hROW⟩:∃ROW,ROW=growRowR l i G:=⟨_,rfl⟩;rw[<- hROW]at hrz hRL;have HROW:=qA hROW;obtain⟨W1,hW1⟩:∃W1,W1=w.drew.alloc (.cells ROW.toArray 52):=⟨_,rfl⟩;obtain⟨N,hN⟩:∃N,N=w.heap.size:=⟨_,rfl⟩;have hb1:Blk W1 N ROW 52:=by rw[hW1,hN];exact Blk.new w.drew ROW 52
 have hgN:g≠N:=by have:=hg.lt;omega
 have hvN:vb≠N:=by have:=hv.lt;omega
 have hg1:Blk W1 g cur 52:=by rw[hW1];exact hg.drew.alloc _
 have hv1:Blk W1 vb cv 52:=by rw[hW1];exact hv.drew.alloc _
 have hd:((l.drop i).flatMap encRw).length=(l.length - i) * 2:=by rw[hflat_lenR,List.length_drop]
 have hcpA:∀(W:World),(∀x,W.cell? x=W1.cell? x)->(∀x,W.frozen? x=W1.frozen? x)->∀ty dc,(Builtin.copy_ #[40,40] ty #[.slice (some ⟨N,i * 2,none⟩) (l.length+1 - i) dc,.slice (some ⟨vb,0,none⟩) 1 vc]).run Tryz.prog W= .ok (goInt 1) (W.setCells N (i * 2) (encRw x)):=λW hWc hWf ty dc=>by
  refine run_copy_k W _ _ ty 52 2 1 N (i * 2) (l.length+1 - i) dc ⟨vb,0,none⟩ 1 vc (encRw x) Tryz.underlying40 hsz (by simp only[Nat.min_def];split<;>omega) rfl (λj v hj=>?_) (λj hj=>?_) (λj hj=>by rw[hWf];exact hb1.free _) (one_row x)
  · rw[Addr.add_lit,hWc,hv1.cell (0+j),Nat.zero_add]
    rw[<- hvt,List.getElem?_take]at hj
    split at hj
    · exact hj
    · cases hj
  · have hj7:j<2:=hj
    rw[hWc,hb1.cell,qE (by omega)];rfl
 obtain⟨W2,hW2⟩:∃W2,W2=W1.setCells N (i * 2) (encRw x):=⟨_,rfl⟩;have hb2:Blk W2 N (splice ROW (i * 2) (encRw x)) 52:=by rw[hW2];exact hb1.setCells _ _
 have hg2:Blk W2 g cur 52:=by
  unfold Blk;rw[hW2,World.heap_setCells_other _ _ _ _ hg1.lt hgN];exact hg1
 have hcpB:∀(W:World),(∀x,W.cell? x=W2.cell? x)->(∀x,W.frozen? x=W2.frozen? x)->∀ty dc sc,(Builtin.copy_ #[40,40] ty #[.slice (some ⟨N,(i+1) * 2,none⟩) (l.length - i) dc,.slice (some ⟨g,i * 2,none⟩) (l.length - i) sc]).run Tryz.prog W= .ok (goInt ((l.length - i:Nat):Int)) (W.setCells N ((i+1) * 2) ((l.drop i).flatMap encRw)):=λW hWc hWf ty dc sc=>by
  refine run_copy_k W _ _ ty 52 2 (l.length - i) N ((i+1) * 2) (l.length - i) dc ⟨g,i * 2,none⟩ (l.length - i) sc _ Tryz.underlying40 hsz (by simp only[Nat.min_def];split<;>omega) hd (λj v hj=>?_) (λj hj=>?_) (λj hj=>by rw[hWf];exact hb2.free _) (one_flatR _)
  · rw[Addr.add_lit,hWc,hg2.cell (i * 2+j)]
    rw[<- hflat_dropR,<- htk,List.getElem?_drop,List.getElem?_take]at hj
    split at hj
    · exact hj
    · cases hj
  · rw[hd]at hj
    rw[hWc,hb2.cell,qE (by rw[splice_length];omega)];rfl
 have hwd:(w.alloc (.cells ROW.toArray 52)).drew=W1:=by rw[hW1];rfl
 have hdc:∀(W:World) a,W.drew.cell? a=W.cell? a:=λ_ _=>rfl;have hdf:∀(W:World) a,W.drew.frozen? a=W.frozen? a:=λ_ _=>rfl;have hE1:∀a,((w.alloc (.cells ROW.toArray 52)).drew).cell? a=W1.cell? a:=λa=>by rw[hwd]
 have hE2:∀a,((w.alloc (.cells ROW.toArray 52)).drew).frozen? a=W1.frozen? a:=λa=>by rw[hwd]
 have hF1:∀a,(((w.alloc (.cells ROW.toArray 52)).drew.setCells N (i * 2) (encRw x)).drew).cell? a=W2.cell? a:=λa=>by rw[hdc,hwd,<- hW2]
 have hF2:∀a,(((w.alloc (.cells ROW.toArray 52)).drew.setCells N (i * 2) (encRw x)).drew).frozen? a=W2.frozen? a:=λa=>by rw[hdf,hwd,<- hW2]
 have hrz2:∀ty,(Builtin.append_ #[40,3] ty #[.slice (some ⟨g,0,none⟩) i c,.int .i64 ((l.length:Int)+1 - (i:Int))]).run Tryz.prog w=
  .ok (.slice (some ⟨N,0,none⟩) (l.length+1) G) (w.alloc (.cells ROW.toArray 52)).drew:=λty=>by rw[hrz ty,hN,hwd,hW1]
 rw[<- hN];have hw1:IntKind.i64.wrap ((i:Int)+1)=(i:Int)+1:=by rw[IntKind.wrap_i64];omega
 have hb1':(0:Int)<=(i:Int)+1:=by omega
 have hin:i<=l.length:=by omega
 have htn:((i:Int)+1).toNat=i+1:=by omega
 have hb3:(i:Int)<=(l.length:Int):=by omega
 have hGi:¬(G=i):=by omega
 have hGim:¬(G=i+1):=by omega
 have hci:¬(c=i):=by omega
 have HA:=qA hcpA;have HB:=qA hcpB;have HRZ:=qA hrz2;have HE1:=qA hE1;have HE2:=qA hE2;have HF1:=qA hF1;have HF2:=qA hF2;clear hwd hdc hdf hkk hik hold hROW hG hRL hrz hrz2 hW1 hW2 hb1 hb2 hg1 hg2 hv1 hd hcpA hcpB hE1 hE2 hF1 hF2 hti hcl htk hvt hN hz0 hzs hzb hi0 hsz hg hv;go_enter Tryz.func181,Tryz.ntmps181
 go_wp2_with (first
  | (at_builtin;refine Lib.wpList_append_run _ rfl _ _ _ _ rfl _ _ rfl rfl _ _ (HRZ.out _) ?_)
  | (with_reducible refine wpList_copy_runI _ rfl _ _ 40 40 rfl _ _ rfl rfl (HA.out _ HE1.out HE2.out _ _) ?_))
 go_region_law (refine step_copy_runI rfl _ _ 40 40 rfl (.slice (some ⟨N,(i+1) * 2,none⟩) (l.length - i) (G - (i+1))) (.slice (some ⟨g,i * 2,none⟩) (l.length - i) (c - i)) (by simp[Act.eval,Act.put]) (by simp[Act.eval,Act.put]) (HB.out _ HF1.out HF2.out 3 (G - (i+1)) (c - i)) ?_)
 go_wp2_with fail;go_ret;exact⟨G,hGn,hG63,rfl,by rw[<- HROW.out]⟩
end Go.Proofs.YtmpmggejhnmakaaGreatDoor
/- slices.Insert at rows, one row: the three roads as one. -/
namespace Go.Proofs.YtmpmggejhnmakaaGreatDoor
open Go.RowKit Go.Lib
theorem insert_callsR (l:List RowD)(x:RowD)(i:Nat)(v:Value)(vb vc:Nat)(cv:List Value)(w:World)(hl:l.length<=1000000)(hi:i<=l.length)(hown:w.ownsRow 0 52 2 v l.length (l.flatMap encRw))
 (hv:Blk w vb cv 52) (hvt:cv.take 2=encRw x) (hne:v.ownBlock≠some vb):
 Calls Tryz.prog 181 #[v,.int .i64 i,.slice (some ⟨vb,0,none⟩) 1 vc] w λe w'=>
  ∃v':Value,e= .returned v'/\w'.ownsRow 0 52 2 v' (l.length+1) ((l.take i++x::l.drop i).flatMap encRw)/\Kept1 w v v'/\But (λj=>v.ownBlock=some j) w w':=by
 rcases Nat.lt_or_ge i l.length with h | h
 · rcases hown.2 with ⟨rfl,h0⟩ | ⟨g,c,cur,rfl,_,hg,hn,hm,hcs,htk⟩
   · omega
   have hgb:=blk_of hg;have hvg:vb≠g:=λe=>hne (by rw[e];rfl);have hcs':cur.toList.length=c * 2:=by simpa using hcs
   rcases Nat.lt_or_ge c (l.length+1) with hr | hr
   · refine (insGrow_callsR l x i g c vb vc cur.toList cv w hl h hn hr hgb htk hv hvt).mono ?_
     rintro e w' ⟨G,hG1,hG2,rfl,rfl⟩;refine⟨_,rfl,own_of_blk (cs:=splice (splice (growRowR l i G) (i * 2) (encRw x)) ((i+1) * 2) ((l.drop i).flatMap encRw)) ?_ (by rw[splice_length,splice_length,growRow_lenR l i G hi hG1]) hG1 hG2 (growRow_insR l x i G h hG1),λk hk=>?_,?_⟩
     · exact (((Blk.new w (growRowR l i G) 52).drew.setCells (encRw x) (i * 2)).drew).setCells _ _
     · simp[Value.ownBlock]at hk
       right;omega
     · have h0:But (λj=>w.heap.size<=j) w (((w.alloc (.cells (growRowR l i G).toArray 52)).drew.setCells w.heap.size (i * 2) (encRw x)).drew.setCells w.heap.size ((i+1) * 2) ((l.drop i).flatMap encRw)):=
        but_setCells (qL _) _ _ ((but_setCells (qL _) _ _ (((But.refl _ w).alloc _).drew)).drew)
       exact (h0.ext (λk hk e=>by omega)).but _
   · refine (insMid_callsR l x i g c vb vc cur.toList cv w hl h hr hm hgb hcs' htk hv hvt hvg).mono ?_
     rintro e w' ⟨rfl,rfl⟩;refine⟨_,rfl,own_of_blk (cs:=splice (splice cur.toList ((i+1) * 2) ((l.drop i).flatMap encRw)) (i * 2) (encRw x)) ?_ (by rw[splice_length,splice_length,hcs']) hr hm (insRowR l x i c cur.toList h hr hcs' htk),λk hk=> .inl ?_,?_⟩
     · exact (hgb.drew.setCells _ _).setCells _ _
     · exact hk
     · exact but_setCells (by rfl) _ _ (but_setCells (by rfl) _ _ (But.refl _ w).drew)
 · obtain rfl:i=l.length:=by omega
   refine (insEnd_callsR l x v vb vc w hl hown (λj u hj=>?_)).mono ?_
   · have hj7:j<2:=(qF.1 hj).1
     rw[Addr.add_lit,Nat.zero_add,hv.cell j];rw[<- hvt,List.getElem?_take,if_pos hj7]at hj;exact hj
   · rintro e w' ⟨v',rfl,h1,h2,h3⟩
     exact⟨v',rfl,by rw[List.take_length,List.drop_length];exact h1,h2,h3⟩
end Go.Proofs.YtmpmggejhnmakaaGreatDoor
