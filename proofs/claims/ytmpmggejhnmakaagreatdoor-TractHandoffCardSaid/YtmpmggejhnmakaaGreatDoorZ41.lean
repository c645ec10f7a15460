/- rows.Read, past.Read: what is read of bytes, where all of it is right; holds.Read where there are none. -/
import Derived.Test.YtmpmggejhnmakaaGreatDoorZ29
import Derived.Test.YtmpmggejhnmakaaGreatDoorZ18
import Derived.Test.YtmpmggejhnmakaaGreatDoorZ22
import Derived.Laws.EntriesVeiled
import Derived.Test.YtmpmggejhnmakaaGreatDoorZ01
set_option maxRecDepth 100000
set_option maxHeartbeats 3200000
namespace Go.Proofs.YtmpmggejhnmakaaGreatDoor
open Go.RowKit
def lineS (s:RSt):RowD×RSt:=(⟨⟨(rowS 20 s).1.toArray⟩,⟨(rowS 20 (rowS 20 s).2).1.toArray⟩⟩,(rowS 20 (rowS 20 s).2).2)
def linesK (s:RSt):Nat->List RowD×RSt
 | 0=>([],s)
 | k+1=>((linesK s k).1++[(lineS (linesK s k).2).1],(lineS (linesK s k).2).2)
theorem linesK_len (s:RSt):∀k,(linesK s k).1.length=k
 | 0=>rfl
 | k+1=>by rw[linesK,qG,linesK_len s k];rfl
def nextR (l:List RowD)(r:RowD):Bool:=match l.getLast? with | none=>true | some x=>decide (rkey x<rkey r)
def lineG (l:List RowD)(s:RSt):Bool:=rwB (lineS s).1&& !(lineS s).2.fl&&nextR l (lineS s).1
def linesG (s:RSt)(n:Nat):Prop:=∀k,k<n->lineG (linesK s k).1 (linesK s k).2=true
def pnumK (s:RSt):Nat->List Int×RSt
 | 0=>([],s)
 | k+1=>((pnumK s k).1++[((numS 1073741824 (pnumK s k).2).1:Int)],(numS 1073741824 (pnumK s k).2).2)
theorem pnumK_len (s:RSt):∀k,(pnumK s k).1.length=k
 | 0=>rfl
 | k+1=>by rw[pnumK,qG,pnumK_len s k];rfl
theorem pnumK_ok (s:RSt):∀k,∀n∈(pnumK s k).1,0<=n/\n<=1073741824
 | 0,n,h=>by simp[pnumK]at h
 | k+1,n,h=>by
   rw[pnumK]at h;rcases List.mem_append.1 h with h | h
   · exact pnumK_ok s k n h
   · rw[List.mem_singleton]at h;subst h
     have:=numS_le 1073741824 (pnumK s k).2
     omega
theorem rfail_calls (B rb cb cap:Nat)(ao:Option Addr)(s:RSt)(w:World)(hc:w.cell? ⟨cb,0,none⟩=some (.pointer (some ⟨rb,0,none⟩)))(T:Rdr w B rb ao cap s)(hf:s.fl=false):Calls Tryz.prog 193 (#[]++ #[.pointer (some ⟨cb,0,none⟩)]) w λe w'=>e= .returned (.bool false)/\w=w':=by
 obtain⟨fl,l⟩:=s;obtain rfl:fl=false:=hf;have HT:=qA T;clear T;cases l with
 | nil=>
   go_enter Tryz.func193,Tryz.ntmps193;go_wp2_with fail;refine (left_read B rb cap ao _ w HT.out).mono ?_;rintro e w1 ⟨rfl,rfl⟩;go_wp2_with fail;refine (end_read B rb cap ao _ w HT.out).mono ?_;rintro e w1 ⟨rfl,rfl⟩;have hE:endE ⟨false,[]⟩=0:=by simp[endE]
   go_wp2_with fail;go_ret;exact⟨rfl,rfl⟩
 | cons b l=>
   have h0:((((b::l).length:Nat):Int)==0)=false:=by simp;omega
   have h1:0<(b::l).length:=by simp
   generalize b::l=r at *;go_enter Tryz.func193,Tryz.ntmps193;go_wp2_with fail;refine (left_read B rb cap ao _ w HT.out).mono ?_;rintro e w1 ⟨rfl,rfl⟩;go_wp2_with fail;go_ret;exact⟨rfl,rfl⟩
theorem oneLine_calls (B rb cb fb cap:Nat)(ao:Option Addr)(s:RSt)(w:World)(T:Rdr w B rb ao cap s)(hBw:B<=w.heap.size)(hc:w.cell? ⟨cb,0,none⟩=some (.pointer (some ⟨rb,0,none⟩)))(hf:w.cell? ⟨fb,0,none⟩=some (.func (.func 193) #[] #[.pointer (some ⟨cb,0,none⟩)]))(hcr:cb≠rb)(hfr:fb≠rb)(hg:rwB (lineS s).1=true)(hl:(lineS s).2.fl=false):
 Calls Tryz.prog 195 (#[]++ #[.pointer (some ⟨cb,0,none⟩),.pointer (some ⟨fb,0,none⟩)]) w λe w'=>e= .returned (.tuple #[.agg (encRw (lineS s).1).toArray,.bool true])/\RdPost B rb (lineS s).2 w w':=by
 have hb1:=(rowS_len 20 s).1;obtain⟨kk,s1,e1⟩:∃kk s1,rowS 20 s=(kk,s1):=⟨_,_,rfl⟩;obtain⟨vv,s2,e2⟩:∃vv s2,rowS 20 s1=(vv,s2):=⟨_,_,rfl⟩;have hL:lineS s=(⟨⟨kk.toArray⟩,⟨vv.toArray⟩⟩,s2):=by simp only[lineS,e1,e2]
 rw[hL]at hg hl ⊢;rw[e1]at hb1;simp only at hg hl hb1 ⊢;obtain⟨w0,hw0⟩:∃w0,w0=(w.alloc (.cells #[.string ⟨#[]⟩,.string ⟨#[]⟩] 52)).alloc (.cells #[.string ⟨#[]⟩,.string ⟨#[]⟩] 52):=⟨_,rfl⟩;have hx0:Ext w w0:=by rw[hw0];exact ((qK _ w).alloc (qL _) _).alloc (by simp) _
 have ha0:Blk w0 w.heap.size [.string ⟨#[]⟩,.string ⟨#[]⟩] 52:=by rw[hw0];exact (Blk.new w _ _).alloc _
 have ha1:Blk w0 (w.heap.size+1) [.string ⟨#[]⟩,.string ⟨#[]⟩] 52:=by
  rw[hw0]
  have:=Blk.new (w.alloc (.cells #[.string ⟨#[]⟩,.string ⟨#[]⟩] 52)) [.string ⟨#[]⟩,.string ⟨#[]⟩] 52
  rwa [World.size_alloc]at this
 have hcl:=block_lt_of_cell hc;have hfl:=block_lt_of_cell hf;have hrl:=T.blk.lt;have E1:=qA e1;have E2:=qA e2;have W0:=qA hw0;have X0:=qA hx0;have A0:=qA ha0;have A1:=qA ha1;have T0:=qA (T.ext hx0);have d0:=(hx0.cell (p:=⟨cb,0,none⟩) hcl).trans hc;have f0:=(hx0.cell (p:=⟨fb,0,none⟩) hfl).trans hf;have D0:=qA d0;have F0:=qA f0;clear hw0 hx0 ha0 ha1 e1 e2 T hc hf hL d0 f0;go_enter Tryz.func195,Tryz.ntmps195;go_upto_region 2 with fail;rw[<- W0.out];clear W0;generalize hN0:w.heap.size=N at *;have HN0:=qA hN0;clear hN0;have d0:=D0.out;go_wp2_with fail;refine (text_read B rb cap ao s 20 w0 T0.out (by omega)).mono ?_;rw[E1.out];rintro e w1 ⟨rfl,⟨ao1,cap1,h1⟩,h2⟩;have hA1:=A1.out.but h2 (by omega);have k0:=hA1.cell 0;have g0:=hA1.free 0;simp only[qB]at k0;have T1:=qA h1;have B1:=qA h2;have C1:=qA hA1;clear h1 h2 hA1 d0;go_upto_region 3 with fail;obtain⟨w2,hw2⟩:∃w2,w2=w1.setCell ⟨N+1,0,none⟩ (.string ⟨kk.toArray⟩):=⟨_,rfl⟩;rw[<- hw2];have hB2:But (λj=>j=rb\/j=N+1) w0 w2:=by rw[hw2];exact (B1.out.trans (But.set1 w1 (N+1) 0 _) (λ_ _ e=> .inl e) (λ_ _ e=> .inr e))
 have hT2:Rdr w2 B rb ao1 cap1 s1:=by rw[hw2];exact T1.out.but (But.set1 w1 (N+1) 0 _) (λb hb e=>by omega)
 have hC2:Blk w2 (N+1) [.string ⟨kk.toArray⟩,.string ⟨#[]⟩] 52:=by rw[hw2];exact C1.out.set 0 _
 have d0:=(hB2.cell (p:=⟨cb,0,none⟩) (block_lt_of_cell D0.out) (λe=>by simp only at e;omega)).trans D0.out;have B2:=qA hB2;have T2:=qA hT2;have C2:=qA hC2;clear hw2 hB2 hT2 hC2 k0 g0;go_wp2_with fail;refine (text_read B rb cap1 ao1 s1 20 w2 T2.out (by omega)).mono ?_;rw[E2.out];rintro e w3 ⟨rfl,⟨ao2,cap2,h1⟩,h2⟩;have hA3:=C2.out.but h2 (by omega);have k1:=hA3.cell 1;have g1:=hA3.free 1;simp only[qB,qC]at k1;have T3:=qA h1;have B3:=qA (B2.out.trans h2 (λ_ _ e=>e) (λ_ _ e=> .inl e));have C3:=qA hA3;clear h1 h2 hA3 d0;go_upto_region 4 with fail;obtain⟨w4,hw4⟩:∃w4,w4=w3.setCell ⟨N+1,1,none⟩ (.string ⟨vv.toArray⟩):=⟨_,rfl⟩;rw[<- hw4];have hB4:But (λj=>j=rb\/j=N+1) w0 w4:=by rw[hw4];exact (B3.out.trans (But.set1 w3 (N+1) 1 _) (λ_ _ e=>e) (λ_ _ e=> .inr e))
 have hT4:Rdr w4 B rb ao2 cap2 s2:=by rw[hw4];exact T3.out.but (But.set1 w3 (N+1) 1 _) (λb hb e=>by omega)
 have hC4:Blk w4 (N+1) [.string ⟨kk.toArray⟩,.string ⟨vv.toArray⟩] 52:=by rw[hw4];exact C3.out.set 1 _
 have hA4:Blk w4 N [.string ⟨#[]⟩,.string ⟨#[]⟩] 52:=A0.out.but hB4 (λe=>by omega);have c4:=(hB4.cell (p:=⟨cb,0,none⟩) (block_lt_of_cell D0.out) (λe=>by simp only at e;omega)).trans D0.out;have f4:=(hB4.cell (p:=⟨fb,0,none⟩) (block_lt_of_cell F0.out) (λe=>by simp only at e;omega)).trans F0.out;have hcl4:=block_lt_of_cell c4;have hfl4:=block_lt_of_cell f4;have BW:=qA (((Ext.but X0.out (λ_=>False)).trans hB4 (U:=λj=>j=rb\/j=N+1) (λ_ _ e=>e.elim) (λ_ _ e=>e)));have HF:Hid (∀W,But (λj=>j=N) w4 W->Calls Tryz.prog 193 (#[]++ #[.pointer (some ⟨cb,0,none⟩)]) W λe w'=>e= .returned (.bool false)/\W=w'):=qA (λW hW=>rfail_calls B rb cb cap2 ao2 s2 W ((hW.cell (p:=⟨cb,0,none⟩) hcl4 (λe=>by simp only at e;omega)).trans c4) (hT4.but hW (λb hb e=>by omega)) hl)
 have HR:Hid (∀W,Calls Tryz.prog 132 #[.agg #[.string ⟨kk.toArray⟩,.string ⟨vv.toArray⟩]] W λe w'=>e= .returned (.bool true)/\Ext W w'):=qA (λW=>by
  have:=rowRight_calls ⟨⟨kk.toArray⟩,⟨vv.toArray⟩⟩ W (by show (⟨kk.toArray⟩:ByteArray).size<=_;rw[size_mk];omega)
  rwa [hg]at this)
 have CL:Hid (∀W,But (λj=>j=N) w4 W->W.cell? ⟨N+1,0,none⟩=some (.string ⟨kk.toArray⟩)/\W.cell? ⟨N+1,1,none⟩=some (.string ⟨vv.toArray⟩)/\W.cell? ⟨fb,0,none⟩=some (.func (.func 193) #[] #[.pointer (some ⟨cb,0,none⟩)])):=qA (λW hW=>by
  have h:=hC4.but hW (by omega);have k0:=h.cell 0;have k1:=h.cell 1;simp only[qB,qC]at k0 k1
  exact⟨k0,k1,(hW.cell (p:=⟨fb,0,none⟩) hfl4 (λe=>by simp only at e;omega)).trans f4⟩)
 have T4:=qA hT4;have D4:=qA hA4;have HEND:Hid (∀W,But (λj=>j=N) w4 W->RdPost B rb s2 w W):=qA (λW hW=>⟨⟨_,_,T4.out.but hW (λb hb e=>by have:=HN0.out;omega)⟩,(BW.out.trans hW (U:=λj=>j=rb\/N<=j) (λ_ _ e=>e.elim .inl (λe=> .inr (by omega))) (λ_ _ e=> .inr (by omega))).mono (λi hi e=>e.elim id (λe=>by have:=HN0.out;omega))⟩);have q0:=λp:ButBy (λj=>j=N) w4=>(CL.out p.W p.but).1;have q1:=λp:ButBy (λj=>j=N) w4=>(CL.out p.W p.but).2.1;have q2:=λp:ButBy (λj=>j=N) w4=>(CL.out p.W p.but).2.2;clear hB4 hT4 hC4 hA4 c4 f4;refine wp_region_firstC (λW=>∃p:ButBy (λj=>j=N) w4,W=p.W) [0,1] 8 (by kernel_rfl) (by kernel_rfl) (λ_ _ _ _ h=>h) ⟨⟨w4.drew,(But.refl _ w4).drew⟩,rfl⟩ ?_;simp only[opsAt,qD,qC,qB]
 repeat (go_big_quiet_step (fail))
 refine wpQuiet_nil ?_;obtain⟨w5,hw5⟩:∃w5,w5=w4.drew:=⟨_,rfl⟩;have hB5:But (λj=>j=N) w4 w5:=by rw[hw5];exact (But.refl _ w4).drew
 have hD5:Blk w5 N [.string ⟨#[]⟩,.string ⟨#[]⟩] 52:=by rw[hw5];exact D4.out.drew
 rw[<- hw5];have B5:=qA hB5;have D5:=qA hD5;clear hw5 hB5 hD5;refine wpAnyH_ready (rs:=[2]) (by kernel_rfl) (by simp) ?_;refine AllReadyH.cons rfl (λK hK=>?_) AllReadyH.nil;go_simp;refine (HF.out w5 B5.out).mono ?_;rintro e w6 ⟨rfl,rfl⟩;refine hK.out _ _ ⟨⟨_,B5.out⟩,rfl⟩ (λ_=>?_);clear hK K;refine wp_takesC (f:=4) [3,4,5] (by kernel_rfl) (λ_ _ _ _ h=>h) ⟨⟨_,B5.out⟩,rfl⟩ ?_;simp only[opsAt,qD,qC,qB]
 repeat (go_big_quiet_step (fail))
 refine wpQuiet_nil ?_;clear q0 q1 q2;refine wpAnyH_ready (rs:=[6]) (by kernel_rfl) (by simp) ?_;refine AllReadyH.cons rfl (λK hK=>?_) AllReadyH.nil;go_simp;refine (HR.out w5).mono ?_;rintro e w6 ⟨rfl,hx⟩;have B6:=qA (B5.out.trans (Ext.but hx (λ_=>False)) (U:=λj=>j=N) (λ_ _ e=>e) (λ_ _ e=>e.elim));have D6:=qA (D5.out.ext' hx);have n0:=D6.out.cell 0;have n1:=D6.out.cell 1;have m0:=D6.out.free 0;have m1:=D6.out.free 1;simp only[qB,qC]at n0 n1;clear hx;refine hK.out _ _ ⟨⟨_,B6.out⟩,rfl⟩ (λ_=>?_);clear hK K;refine wp_takesC (f:=2) [7] (by kernel_rfl) (λ_ _ _ _ h=>h) ⟨⟨_,B6.out⟩,rfl⟩ ?_;simp only[opsAt,qD,qC,qB]
 repeat (go_big_quiet_step (fail))
 refine wpQuiet_nil ?_;refine wpAnyH_ready (rs:=[8]) (by kernel_rfl) (by simp) ?_;refine AllReadyH.cons rfl (λK hK=>?_) AllReadyH.nil;go_simp;have B7:=qA (B6.out.trans (But.set2 w6 N 0 1 (.string ⟨kk.toArray⟩) (.string ⟨vv.toArray⟩)) (U:=λj=>j=N) (λ_ _ e=>e) (λ_ _ e=>e));have D7:=qA ((D6.out.set 0 (.string ⟨kk.toArray⟩)).set 1 (.string ⟨vv.toArray⟩));refine hK.out _ _ ⟨⟨_,B7.out⟩,rfl⟩ (λ_=>?_);clear hK K n0 n1 m0 m1;refine wp_takesC (f:=0) [9] (by kernel_rfl) (λ_ _ _ _ h=>h) ⟨⟨_,B7.out⟩,rfl⟩ ?_;simp only[opsAt,qD,qC,qB]
 repeat (go_big_quiet_step (fail))
 refine wpQuiet_nil ?_;refine wpAnyH_done (by kernel_rfl) ?_ _;go_wp2_with fail;exact bodyPost_ret (res_row_tmp rfl _ _ N 52 [.string ⟨kk.toArray⟩,.string ⟨vv.toArray⟩] _ rfl D7.out Tryz.underlying52 rfl (by kernel_rfl)) rfl ⟨rfl,HEND.out _ B7.out⟩
theorem rowsLoop_calls (B rb cb fb cap n:Nat)(ao:Option Addr)(s:RSt)(w:World)(T:Rdr w B rb ao cap s)(hBw:B<=w.heap.size)(hn:n<=400)(hc:w.cell? ⟨cb,0,none⟩=some (.pointer (some ⟨rb,0,none⟩)))(hf:w.cell? ⟨fb,0,none⟩=some (.func (.func 193) #[] #[.pointer (some ⟨cb,0,none⟩)]))(hcr:cb≠rb)(hfr:fb≠rb)(hg:linesG s n):
 Calls Tryz.prog 194 #[.int .i64 n,.func (.func 195) #[] #[.pointer (some ⟨cb,0,none⟩),.pointer (some ⟨fb,0,none⟩)]] w λe w'=>(∃v,e= .returned (.tuple #[v,.bool true])/\w'.ownsRow 0 52 2 v (linesK s n).1.length ((linesK s n).1.flatMap encRw)/\(∀j,v.ownBlock=some j->w.heap.size<=j))/\RdPost B rb (linesK s n).2 w w':=by
 obtain⟨i0,hi,hz0,hz1,hz2⟩:=info_parts infoRow;have HT:=qA T;have hrb:=T.blk.lt;have hold:=T.old;have hcl:=block_lt_of_cell hc;have hfl:=block_lt_of_cell hf
 have OL:Hid (∀W ao' cap' s',But (λj=>j=rb) w W->Rdr W B rb ao' cap' s'->rwB (lineS s').1=true->(lineS s').2.fl=false->Calls Tryz.prog 195 (#[]++ #[.pointer (some ⟨cb,0,none⟩),.pointer (some ⟨fb,0,none⟩)]) W λe w'=>e= .returned (.tuple #[.agg (encRw (lineS s').1).toArray,.bool true])/\RdPost B rb (lineS s').2 W w'):=qA (λW ao' cap' s' hW hT h1 h2=>
  oneLine_calls B rb cb fb cap' ao' s' W hT (qM hBw hW.size) ((hW.cell (p:=⟨cb,0,none⟩) hcl hcr).trans hc) ((hW.cell (p:=⟨fb,0,none⟩) hfl hfr).trans hf) hcr hfr h1 h2)
 have HG:=qA hg;clear T hc hf hg;go_enter Tryz.func194,Tryz.ntmps194;go_wp2_with fail;go_loopw [6,10] (λvo vi wr=>∃(k:Nat) (ao':Option Addr) (cap':Nat),vi= .int .i64 k/\k<=n/\(k=0->vo= .slice none 0 0)/\wr.ownsRow 0 52 2 vo (linesK s k).1.length ((linesK s k).1.flatMap encRw)/\(∀j,vo.ownBlock=some j->w.heap.size<=j)/\Rdr wr B rb ao' cap' (linesK s k).2/\But (λj=>j=rb) w wr) (λ_ vi _=>n - (intOf vi).toNat)
 case atStart=>exact⟨0,ao,cap,rfl,by omega,λ_=>rfl,World.ownsRow_nil _ _ _ _,by simp[Value.ownBlock],HT.out,But.refl _ _⟩
 case round=>
  obtain⟨k,ao',cap',rfl,hk,hv0,hown,hnew,hT,hB⟩:=hrel;obtain⟨vo,vc,rfl⟩:=own_slice hown;have V0:=qA hv0;have O1:=qA hown;have N1:=qA hnew;have T1:=qA hT;have B1:=qA hB;clear hv0 hown hnew hT hB;have hlen:=linesK_len s k;have hsucc:linesK s (k+1)=((linesK s k).1++[(lineS (linesK s k).2).1],(lineS (linesK s k).2).2):=rfl;by_cases hlt:k<n
  · have hgk:=HG.out k hlt
    generalize hak:linesK s k=ak at *;obtain⟨q,s2⟩:=ak;unfold lineG at hgk;simp only at hgk hlen hsucc O1 T1;obtain⟨⟨kx,vx⟩,s3,e1⟩:∃r s3,lineS s2=(r,s3):=⟨_,_,rfl⟩;rw[e1]at hgk hsucc;simp only[Bool.and_eq_true,Bool.not_eq_true']at hgk hsucc;obtain⟨⟨hg1,hg2⟩,hg3⟩:=hgk;have OK1:=qA (OL.out wr ao' cap' s2 B1.out T1.out (by rw[e1];exact hg1) (by rw[e1];exact hg2));rw[e1]at OK1;simp only[encRw]at OK1;have HS:=qA hsucc;have HL:Hid (q.length=k):=qA hlen;have HQ3:=qA hg3;clear hsucc hlen hg1 hg2 hg3 e1 hak;go_wp2_with fail;refine OK1.out.mono ?_;rintro e w2 ⟨rfl,⟨ao2,cap2,h1⟩,h2⟩;have hbox:=Blk.new w2 [.string kx,.string vx] 52;have hxb:Ext w2 (w2.alloc (.cells #[.string kx,.string vx] 52)):=(qK _ w2).alloc (qL _) _;have hr3:=h1.ext hxb;have hB3:But (λj=>j=rb) wr (w2.alloc (.cells #[.string kx,.string vx] 52)):=h2.alloc _;have hN2:wr.heap.size<=w2.heap.size:=h2.size;obtain⟨w3,hw3⟩:∃w3,w3=w2.alloc (.cells #[.string kx,.string vx] 52):=⟨_,rfl⟩;have W3:=qA hw3;rw[<- hw3]at hbox hr3 hB3;have HB3:=qA hbox;have HR3:=qA hr3;have BB3:=qA hB3;have HN3:=qA hN2;clear hbox hxb hr3 hB3 hN2 h1 h2 hw3;go_upto_region 5 with fail;rw[<- W3.out];clear W3 OK1;generalize w2.heap.size=N at *;have c0:=HB3.out.cell 0;simp only[qB]at c0;have d0:=ExtBy.cell c0
    have key2:(k=0)\/(∃(j:Nat) (y:RowD),k=j+1/\q[j]? =some y/\Op.bytesLess y.key.toList kx.toList=true):=by
     rcases Nat.eq_zero_or_pos k with h | h
     · exact .inl h
     · right
       have hj:k - 1<q.length:=by have:=HL.out;omega
       refine⟨k - 1,q[k - 1],by omega,qE hj,?_⟩;have h3:=HQ3.out;unfold nextR at h3;rw[List.getLast?_eq_getElem?,show q.length - 1=k - 1 from by have:=HL.out;omega,qE hj]at h3;simp only[rkey]at h3;rw[Lib.toList_data,Lib.toList_data,bytesLess_eq];exact h3
    have hix:∀(j:Nat) (y:RowD),k=j+1->q[j]? =some y->∃gb go,vo=some ⟨gb,go,none⟩/\(∀p:ExtBy w3,p.W.cell? ⟨gb,go+j * 2,none⟩=some (.string y.key))/\IntKind.i64.wrap ((q.length:Int) - 1)=(j:Int)/\(0:Int)<=(j:Int)/\(j:Int)<(q.length:Int):=by
     intro j y hkj hy;obtain⟨ao3,c3,hv,_,_,hr⟩:=Rows.own (enc:=encRw) (sz:=2) (λ_=>rfl) O1.out;simp only[Value.slice.injEq,true_and]at hv;obtain⟨rfl,rfl⟩:=hv;obtain⟨gb,go,rfl,hgb,hcell⟩:=hr (by intro e;rw[e]at hy;simp at hy);have hc:=hcell j y hy 0 _ rfl;have hgr:¬gb=rb:=by have:=N1.out gb rfl;omega
     have hql:=HL.out;refine⟨gb,go,rfl,ExtBy.cell ((BB3.out.cell (p:=⟨gb,_,none⟩) hgb hgr).trans hc),?_,by omega,by have hh:=HL.out;omega⟩;have hql:=HL.out;rw[wraps_i64 _ (by omega) (by omega)];omega
    have HIX:=qA hix;clear hix;have hql:q.length<=400:=by have:=HL.out;omega
    rcases key2 with hk0 | ⟨j,y,hkj,hy,hbl⟩
    case' inl=>
     have t1:decide (0<q.length)=false:=by have hh:q.length=k:=HL.out;exact decide_eq_false (by omega)
     clear hk0
    case' inr=>
     obtain⟨gb,go,rfl,d1,hw,j0,j1⟩:=HIX.out j y hkj hy;have t1:decide (0<q.length)=true:=by have hh:q.length=k:=HL.out;exact decide_eq_true (by omega)
     clear hkj hy
    all_goals
     refine wp_region_ext (by kernel_rfl) (by kernel_rfl) ?_
     repeat (go_big_quiet_step (fail))
     refine wpQuiet_nil ?_;intro w4 hw';have hx4:Ext w3 w4:=by obtain⟨p,rfl⟩:=hw';exact p.ext
     have hb4:=HB3.out.ext' hx4;have X4:=qA hx4;have HB4:=qA hb4;clear hx4 hw' d0 c0 hb4;have c0:=HB4.out.cell 0;have c1:=HB4.out.cell 1;simp only[qB,qC]at c0 c1;have O4:=qA (own_ext (own_but O1.out BB3.out (λj hj e=>by have:=N1.out j hj;omega)) X4.out);go_wp2_with (at_builtin;go_must (refine wpList_append_at _ rfl _ _ 40 rfl 52 i0 _ 2 32 Tryz.underlying40 hi hz0 hz1 hz2 rfl (by decide) _ q.length (q.flatMap encRw) rfl (own_ext O4.out ((qK _ _).alloc (qL _) _)) ⟨w4.heap.size,0,none⟩ 1 1 (encRw ⟨kx,vx⟩) rfl rfl (cells_new w4 (encRw ⟨kx,vx⟩) _) (one_row _) (by decide) (by unfold maxLen;omega) (by omega) ?_;intro g cap3 w5 hown' hbut hkept;have Y1:=qA hown';have Y2:=qA hbut;have Y3:=qA hkept;clear hown' hbut hkept));go_roundw
     case rel=>
      have E2:Ext w4 (w4.alloc (.cells (encRw ⟨kx,vx⟩).toArray 52)):=(qK _ w4).alloc (qL _) _;have hsz:wr.heap.size<=w4.heap.size:=qM BB3.out.size X4.out.size;have hwr:=B1.out.size;have hb45:But (λj=>w.heap.size<=j) w4 w5:=(Ext.but E2 (λ_=>False)).trans Y2.out (λ_ _ e=>e.elim) (λi _ e=>N1.out i e);refine⟨k+1,ao2,cap2,by go_num,by omega,λh=>absurd h (by omega),?_,?_,?_,?_⟩
      · have:=Y1.out
        rw[HS.out];simp only[qG,List.flatMap_append,List.flatMap_singleton,List.length_singleton];exact this
      · intro j hj
        rcases Y3.out j hj with e | e
        · exact N1.out j e
        · have e':=qM E2.size e;omega
      · rw[HS.out];exact (HR3.out.ext X4.out).but hb45 (λb hb e=>by omega)
      · exact ((B1.out.trans BB3.out (λ_ _ e=>e) (λ_ _ e=>e)).trans (Ext.but X4.out (λ_=>False)) (U:=λj=>j=rb) (λ_ _ e=>e) (λ_ _ e=>e.elim)).trans hb45 (λ_ _ e=>e) (λi hi e=>absurd hi (Nat.not_lt.2 e))
     case measure=>simp[intOf];omega
  · have hkn:k=n:=by omega
    subst hkn;go_wp2_with fail;go_ret2;exact⟨⟨_,rfl,O1.out,N1.out⟩,⟨_,_,T1.out⟩,B1.out⟩
theorem rowsRead_calls (B rb cap n:Nat)(ao:Option Addr)(s s1:RSt)(w:World)(T:Rdr w B rb ao cap s)(hBw:B<=w.heap.size)(hn:numS 400 s=(n,s1))(hfl:s1.fl=false)(hg:linesG s1 n):
 Calls Tryz.prog 150 #[.pointer (some ⟨rb,0,none⟩)] w λe w'=>(∃v,e= .returned (.tuple #[v,.bool true])/\w'.ownsRow 0 52 2 v (linesK s1 n).1.length ((linesK s1 n).1.flatMap encRw)/\(∀j,v.ownBlock=some j->w.heap.size<=j))/\RdPost B rb (linesK s1 n).2 w w':=by
 have hle:=numS_le 400 s;rw[hn]at hle;simp only at hle;obtain⟨w0,hw0⟩:∃w0,w0=w.alloc (.cells #[.pointer (some ⟨rb,0,none⟩)] 67):=⟨_,rfl⟩;have hx0:Ext w w0:=by rw[hw0];exact (qK _ w).alloc (qL _) _
 have ha0:Blk w0 w.heap.size [.pointer (some ⟨rb,0,none⟩)] 67:=by rw[hw0];exact Blk.new w _ _
 have hrl:=T.blk.lt;have T0:=qA (T.ext hx0);have W0:=qA hw0;have X0:=qA hx0;have A0:=qA ha0;have HN:=qA hn;have HG:=qA hg;clear T hw0 hx0 ha0 hn hg;go_enter Tryz.func150,Tryz.ntmps150;go_upto_region 1 with fail;rw[<- W0.out];clear W0;generalize hN:w.heap.size=N at *;have HNN:=qA hN;clear hN;have a0:=A0.out.cell 0;simp only[qB]at a0;go_wp2_with fail;refine (number_read B rb cap ao s 400 w0 T0.out (by omega)).mono ?_;rw[HN.out];rintro e w1 ⟨rfl,⟨ao1,cap1,h1⟩,h2⟩;have hA1:=A0.out.but h2 (by omega);have T1:=qA h1;have B1:=qA h2;have A1:=qA hA1;clear h1 h2 hA1 a0;obtain⟨w2,hw2⟩:∃w2,w2=w1.alloc (.cells #[.func (.func 193) #[] #[.pointer (some ⟨N,0,none⟩)]] 23):=⟨_,rfl⟩;have hx2:Ext w1 w2:=by rw[hw2];exact (qK _ w1).alloc (qL _) _
 have hf2:Blk w2 w1.heap.size [.func (.func 193) #[] #[.pointer (some ⟨N,0,none⟩)]] 23:=by rw[hw2];exact Blk.new w1 _ _
 have W2:=qA hw2;have X2:=qA hx2;have F2:=qA hf2;clear hw2 hx2 hf2;go_upto_region 3 with fail;rw[<- W2.out];clear W2;have a2:=(A1.out.ext' X2.out).cell 0;have f2:=F2.out.cell 0;simp only[qB]at a2 f2;have hB2:But (λj=>j=rb) w0 w2:=B1.out.trans (Ext.but X2.out (λ_=>False)) (λ_ _ e=>e) (λ_ _ e=>e.elim);have hsz:=B1.out.size;have hNl:=A0.out.lt;have HFC:=qA (rfail_calls B rb N cap1 ao1 s1 w2 a2 (T1.out.ext X2.out) hfl);have HLC:=qA (rowsLoop_calls B rb N w1.heap.size cap1 n ao1 s1 w2 (T1.out.ext X2.out) (by have:=X0.out.size;have:=hB2.size;have:=HNN.out;omega) (by omega) a2 f2 (by omega) (by omega) HG.out);have BB2:=qA (((Ext.but X0.out (λ_=>False)).trans hB2 (U:=λj=>j=rb) (λ_ _ e=>e.elim) (λ_ _ e=>e)));clear hB2;go_wp2_with fail;refine HFC.out.mono ?_;rintro e w3 ⟨rfl,rfl⟩;go_wp2_with fail;refine HLC.out.mono ?_;rintro e w4 ⟨⟨v,rfl,ho,hj⟩,⟨ao4,cap4,h1⟩,h2⟩;have O4:=qA ho;have J4:=qA hj;have T4:=qA h1;have B4:=qA h2;clear ho hj h1 h2;go_wp2_with fail;go_ret2;exact⟨⟨v,rfl,O4.out,λj hj=>by have:=J4.out j hj;have:=BB2.out.size;have:=HNN.out;omega⟩,⟨_,_,T4.out⟩,BB2.out.trans B4.out (λ_ _ e=>e) (λ_ _ e=>e)⟩
theorem holdsRead0_calls (B rb cap:Nat)(ao:Option Addr)(s s1:RSt)(w:World)(T:Rdr w B rb ao cap s)(hn:numS 60 s=(0,s1))(hfl:s1.fl=false):
 Calls Tryz.prog 151 #[.pointer (some ⟨rb,0,none⟩)] w λe w'=>e= .returned (.tuple #[.slice none 0 0,.bool true])/\RdPost B rb s1 w w':=by
 have HT:=qA T;have HN:=qA hn;have HF:=qA hfl;clear T hn hfl;go_enter Tryz.func151,Tryz.ntmps151;go_wp2_with fail;refine (number_read B rb cap ao s 60 w HT.out (by omega)).mono ?_;rw[HN.out];rintro e w1 ⟨rfl,⟨ao1,cap1,h1⟩,h2⟩;have T1:=qA h1;have B1:=qA h2;clear h1 h2;go_wp2_with fail;go_loopw [4,12] (λvo vi wr=>vo= .slice none 0 0/\vi= .int .i64 0/\wr=w1) (λ_ _ _=>0)
 case atStart=>exact⟨rfl,rfl,rfl⟩
 case round=>
  obtain⟨rfl,rfl,rfl⟩:=hrel;go_wp2_with fail;refine (failed_calls B rb cap1 ao1 s1 wr T1.out).mono ?_;rw[HF.out];rintro e w2 ⟨rfl,rfl⟩;go_wp2_with fail;go_ret2;exact⟨rfl,⟨_,_,T1.out⟩,B1.out⟩
theorem set_mid {L:List Value}{k m:Nat}(v z t:Value)(h:L.length=k):(L++(List.replicate (m+1) z++[t])).set k v=(L++[v])++(List.replicate m z++[t]):=by
 subst h;rw[List.set_append_right _ _ (qL _),Nat.sub_self,List.replicate_succ,List.cons_append,List.set_cons_zero];simp
theorem pastRead_calls (B rb cap:Nat)(ao:Option Addr)(s:RSt)(w:World)(T:Rdr w B rb ao cap s)(hBw:B<=w.heap.size)(hfl:(pnumK s 8).2.fl=false):
 Calls Tryz.prog 152 #[.pointer (some ⟨rb,0,none⟩)] w λe w'=>(∃pb:Nat,e= .returned (.tuple #[.pointer (some ⟨pb,0,none⟩),.bool true])/\PTab w' pb (pnumK s 8).1/\w.heap.size<=pb)/\RdPost B rb (pnumK s 8).2 w w':=by
 obtain⟨w0,hw0⟩:∃w0,w0=w.alloc (.cells #[.int .i64 0,.int .i64 0,.int .i64 0,.int .i64 0,.int .i64 0,.int .i64 0,.int .i64 0,.int .i64 0,.bool true] 217):=⟨_,rfl⟩;have hx0:Ext w w0:=by rw[hw0];exact (qK _ w).alloc (qL _) _
 have ha0:Blk w0 w.heap.size ([].map (Value.int .i64)++(List.replicate 8 (Value.int .i64 0)++[.bool true])) 217:=by rw[hw0];exact Blk.new w _ _
 have hold:=T.old;have T0:=qA (T.ext hx0);have X0:=qA hx0;have A0:=qA ha0;have HFL:=qA hfl;have PN:Hid (Calls Tryz.prog 99 #[] w λe w'=>e= .returned (.pointer (some ⟨w.heap.size,0,none⟩))/\w'=w0):=qA ((pastNew_calls w).mono (by rintro e w' ⟨rfl,rfl⟩;exact⟨rfl,hw0.symm⟩));clear T hw0 hx0 ha0 hfl;go_enter Tryz.func152,Tryz.ntmps152;go_wp2_with fail;refine PN.out.mono ?_;rintro e w1 ⟨rfl,rfl⟩;clear PN;generalize hN:w.heap.size=N at *;have HN:=qA hN;clear hN;go_wp2_with fail;go_loopw [7] (λvi wr=>∃(k:Nat) (ao':Option Addr) (cap':Nat),vi= .int .i64 k/\k<=8/\Blk wr N ((pnumK s k).1.map (Value.int .i64)++(List.replicate (8 - k) (Value.int .i64 0)++[.bool true])) 217/\Rdr wr B rb ao' cap' (pnumK s k).2/\But (λj=>j=rb) w wr) (λvi _=>8 - (intOf vi).toNat)
 case atStart=>exact⟨0,ao,cap,rfl,by omega,A0.out,T0.out,Ext.but X0.out _⟩
 case round=>
  obtain⟨k,ao',cap',rfl,hk,hb,hT,hB⟩:=hrel;have A1:=qA hb;have T1:=qA hT;have B1:=qA hB;clear hb hT hB;by_cases hlt:k<8
  · have hlen:=pnumK_len s k
    have hsucc:pnumK s (k+1)=((pnumK s k).1++[((numS 1073741824 (pnumK s k).2).1:Int)],(numS 1073741824 (pnumK s k).2).2):=rfl;generalize hak:pnumK s k=ak at *;obtain⟨q,s2⟩:=ak;obtain⟨m,s3,e1⟩:∃m s3,numS 1073741824 s2=(m,s3):=⟨_,_,rfl⟩;simp only[e1]at hlen hsucc A1 T1;have HS:=qA hsucc;have HL:=qA hlen;have E1:=qA e1;clear hsucc hlen e1 hak;have i0:(0:Int)<=(k:Int):=by omega
    have i1:(k:Int)<8:=by omega
    have hNl:=A1.out.lt;have hrN:¬N=rb:=by have:=HN.out;omega
    have X9:Hid (Ext wr wr.drew):=qA (qK _ wr).drew;go_wp2_with fail
    go_region_with (go_at_call 69;refine (number_read B rb cap' ao' s2 1073741824 wr.drew (T1.out.ext X9.out) (by omega)).mono ?_;rw[E1.out];rintro e w2 ⟨rfl,⟨ao2,cap2,h1⟩,h2⟩;have A2:=qA ((A1.out.ext' X9.out).but h2 hrN);have B2:=qA ((Ext.but X9.out (λ_=>False)).trans h2 (U:=λj=>j=rb) (λ_ _ e=>e.elim) (λ_ _ e=>e));have T2:=qA h1;have hcell:w2.cell? ⟨N,k,none⟩=some (.int .i64 0):=(by rw[A2.out.cell,List.getElem?_append_right (by simp[HL.out]),List.length_map,HL.out,Nat.sub_self,show 8 - k=(7 - k)+1 by omega];simp[List.replicate_succ]);have hfree:=A2.out.free k;clear h1 h2)
    all_goals
     have hbs:But (λj=>j=N) w2 (w2.setCell ⟨N,k,none⟩ (.int .i64 m)):=But.set1 w2 N k _;have hA3:=A2.out.set k (.int .i64 m);rw[show 8 - k=(7 - k)+1 by omega,set_mid _ _ _ (by rw[List.length_map,HL.out])]at hA3;have hT3:=T2.out.but hbs (λb hb e=>by have:=HN.out;omega);have hB4:=(B1.out.trans (B2.out) (λ_ _ e=>e) (λ_ _ e=>e)).trans hbs (U:=λj=>j=rb) (λ_ _ e=>e) (λi hi e=>by have:=HN.out;omega);generalize w2.setCell ⟨N,k,none⟩ (.int .i64 m)=w3 at *;have A3:=qA hA3;have T3:=qA hT3;have B4:=qA hB4;clear hA3 hT3 hbs hcell hfree hB4;go_wp2_with fail;go_roundw
     case rel=>
      refine⟨k+1,ao2,cap2,by go_num,by omega,?_,?_,B4.out⟩
      · rw[HS.out,show 8 - (k+1)=7 - k by omega]
        simp only[List.map_append,List.map_cons,List.map_nil];exact A3.out
      · rw[HS.out];exact T3.out
     case measure=>simp[intOf];omega
  · obtain rfl:k=8:=by omega
    have hfl:=HFL.out;have hlen:=pnumK_len s 8;have hok:=pnumK_ok s 8;have A2:=A1.out;have T2:=T1.out;obtain⟨q,fl,l,hps⟩:∃q fl l,pnumK s 8=(q,⟨fl,l⟩):=⟨_,_,_,rfl⟩;rw[hps]at hfl hlen hok A2 T2;obtain rfl:fl=false:=hfl;rw[show 8 - 8=0 from rfl,List.replicate_zero,List.nil_append]at A2;have P1:=qA (show PTab wr N q from ⟨A2,hlen,hok⟩);have PS:=qA hps;clear hlen hok A2 A1 hps T1;have T1:=qA T2;clear T2;cases l with
    | nil=>
      go_wp2_with fail;refine (left_read B rb cap' ao' _ wr T1.out).mono ?_;rintro e w1 ⟨rfl,rfl⟩;go_wp2_with fail;refine (end_read B rb cap' ao' _ wr T1.out).mono ?_;rintro e w1 ⟨rfl,rfl⟩;have hE:endE ⟨false,[]⟩=0:=by simp[endE]
      go_wp2_with fail;go_ret2;rw[PS.out];exact⟨⟨N,rfl,P1.out,by have:=HN.out;omega⟩,⟨_,_,T1.out⟩,B1.out⟩
    | cons b l=>
      have h0:((((b::l).length:Nat):Int)==0)=false:=by simp;omega
      have h1:0<(b::l).length:=by simp
      generalize b::l=r at *;go_wp2_with fail;refine (left_read B rb cap' ao' _ wr T1.out).mono ?_;rintro e w1 ⟨rfl,rfl⟩;go_wp2_with fail;go_ret2;rw[PS.out];exact⟨⟨N,rfl,P1.out,by have:=HN.out;omega⟩,⟨_,_,T1.out⟩,B1.out⟩
end Go.Proofs.YtmpmggejhnmakaaGreatDoor
