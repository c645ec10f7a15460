/- tract.read of rows alone; within, room, load, Absorb at a tract of nothing. -/
import Derived.Test.YtmpmggejhnmakaaGreatDoorZ41
import Derived.Test.YtmpmggejhnmakaaGreatDoorZ32
import Derived.Test.YtmpmggejhnmakaaGreatDoorZ01
set_option maxRecDepth 100000
set_option maxHeartbeats 3200000
namespace Go.Proofs.YtmpmggejhnmakaaGreatDoor
open Go.RowKit
theorem blk_ne {w:World}{b b':Nat}{cs cs':List Value}{t t':TypeId}(h:Blk w b cs t)(h':Blk w b' cs' t')(hn:t≠t'):b≠b':=λe=>hn (blk_ty (e▸h) h')
def GoodB (s:RSt)(rs:List RowD)(ns:List Int)(s':RSt):Prop:=∃n s1 s3,numS 400 s=(n,s1)/\s1.fl=false/\linesG s1 n/\(linesK s1 n).1=rs/\numS 60 (linesK s1 n).2=(0,s3)/\s3.fl=false/\pnumK s3 8=(ns,s')/\s'.fl=false/\putRE rs []=0
theorem lineS_small (s:RSt):(lineS s).1.key.size<=20:=(rowS_len 20 s).1
theorem linesK_small (s:RSt):∀k,∀x∈(linesK s k).1,x.key.size<=20
 | 0,x,h=>by simp[linesK]at h
 | k+1,x,h=>by
   rw[linesK]at h;rcases List.mem_append.1 h with h | h
   · exact linesK_small s k x h
   · rw[List.mem_singleton]at h;subst h;exact lineS_small _
theorem tab0 {no0 no1:Nat->Prop}{w:World}{hb:Nat}{v:Value}(h:TabN no0 w hb v []):TabN no1 w hb v []:=by
 obtain⟨l,h1,h2⟩:=h.row;cases l with
 | nil=>exact⟨h.blk,⟨[],h1,trivial⟩,h.rise,h.ok,h.few⟩
 | cons x l=>exact h2.elim
structure TabsAt (B:Nat)(w:World)(rb hb pb:Nat)(rv hv:Value)(rs:List RowD)(ns:List Int):Prop where
 rt:RTab w rb rv rs
 ht:TabN (λ_=>True) w hb hv []
 pt:PTab w pb ns
 rl:B<=rb
 hl:B<=hb
 pl:B<=pb
 ro:∀j,rv.ownBlock=some j->B<=j
 ho:∀j,hv.ownBlock=some j->B<=j
theorem TabsAt.but {B:Nat}{w w':World}{rb hb pb:Nat}{rv hv:Value}{rs:List RowD}{ns:List Int}{S:Nat->Prop}(h:TabsAt B w rb hb pb rv hv rs ns)(hx:But S w w')(hS:∀b,S b->b<B):TabsAt B w' rb hb pb rv hv rs ns:=
 have k:∀b,B<=b->¬S b:=λb hb e=>absurd (hS b e) (Nat.not_lt.2 hb)
 ⟨h.rt.but hx (k _ h.rl) (λj e=>k _ (h.ro j e)),h.ht.but' hx (k _ h.hl) (λj e=>k _ (h.ho j e)) (λ_ _ _=>trivial),h.pt.but hx (k _ h.pl),h.rl,h.hl,h.pl,h.ro,h.ho⟩
theorem TabsAt.ext {B:Nat}{w w':World}{rb hb pb:Nat}{rv hv:Value}{rs:List RowD}{ns:List Int}(h:TabsAt B w rb hb pb rv hv rs ns)(hx:Ext w w'):TabsAt B w' rb hb pb rv hv rs ns:=h.but (Ext.but hx (λ_=>False)) (λ_ e=>e.elim)
theorem TabsAt.base {B B':Nat}{w:World}{rb hb pb:Nat}{rv hv:Value}{rs:List RowD}{ns:List Int}(h:TabsAt B' w rb hb pb rv hv rs ns)(hB:B<=B'):TabsAt B w rb hb pb rv hv rs ns:=
 ⟨h.rt,h.ht,h.pt,qM hB h.rl,qM hB h.hl,qM hB h.pl,λj hj=>qM hB (h.ro j hj),λj hj=>qM hB (h.ho j hj)⟩
theorem tabRead_calls (B qb cap:Nat)(ao:Option Addr)(s s':RSt)(rs:List RowD)(ns:List Int)(w:World)(T:Rdr w B qb ao cap s)(hBw:B<=w.heap.size)(hg:GoodB s rs ns s'):
 Calls Tryz.prog 71 #[.pointer (some ⟨qb,0,none⟩)] w λe w'=>(∃rb hb pb rv hv,e= .returned (.tuple #[.agg #[.pointer (some ⟨rb,0,none⟩),.pointer (some ⟨hb,0,none⟩),.pointer (some ⟨pb,0,none⟩)],.bool true])/\TabsAt w.heap.size w' rb hb pb rv hv (putAllR rs []) ns)/\RdPost B qb s' w w':=by
 obtain⟨n,s1,s3,h1,h2,h3,h4,h5,h6,h7,h8,h9⟩:=hg;have hsm:=linesK_small s1 n;have hle:=numS_le 400 s;rw[h1]at hle;simp only at hle;have hll:=linesK_len s1 n;rw[h4]at hsm hll;have hl4:rs.length<=400:=by omega
 clear hll;obtain⟨w0,hw0⟩:∃w0,w0=w.alloc (.cells #[.pointer none,.pointer none,.pointer none] 82):=⟨_,rfl⟩;have hx0:Ext w w0:=by rw[hw0];exact (qK _ w).alloc (qL _) _
 have ha0:Blk w0 w.heap.size [.pointer none,.pointer none,.pointer none] 82:=by rw[hw0];exact Blk.new w _ _
 have hold:=T.old;have HT:=qA T;have HRD:=qA (λW (hW:But (λj=>w.heap.size<=j) w W)=>rowsRead_calls B qb cap n ao s s1 W (T.but hW (λb hb e=>by omega)) (qM hBw hW.size) h1 h2 h3);have HHD:=qA (λW ao' cap' (hT:Rdr W B qb ao' cap' (linesK s1 n).2)=>holdsRead0_calls B qb cap' ao' _ s3 W hT h5 h6);have HPD:=qA (λW ao' cap' (hT:Rdr W B qb ao' cap' s3) (hW:B<=W.heap.size)=>pastRead_calls B qb cap' ao' s3 W hT hW (by rw[h7];exact h8));rw[h7]at HPD;rw[h4]at HRD;simp only at HPD;have W0:=qA hw0;have X0:=qA hx0;have A0:=qA ha0;have H9:=qA h9;have SM:=qA hsm;generalize (linesK s1 n).2=s2 at *;clear T hw0 hx0 ha0 h1 h2 h3 h4 h5 h6 h7 h8 h9 hsm;go_enter Tryz.func71,Tryz.ntmps71;go_upto_region 1 with fail;rw[<- W0.out];clear W0;generalize hN:w.heap.size=N at *;have HN:=qA hN;clear hN;have f0:=A0.out.free 0;go_wp2_with fail;refine (empty_calls w0).mono ?_;rintro e w1 ⟨rb,hb,pb,rfl,b1,b2,b3,l1,l2,l3,hx1⟩;have hA1:=A0.out.ext' hx1;have hN0:=A0.out.lt;have c0:=hA1.cell 0;have c1:=hA1.cell 1;have c2:=hA1.cell 2;have f0:=hA1.free 0;have f1:=hA1.free 1;have f2:=hA1.free 2;simp only[qB,qC]at c0 c1 c2;obtain⟨w2,hw2⟩:∃w2,w2=((w1.setCell ⟨N,0,none⟩ (.pointer (some ⟨rb,0,none⟩))).setCell ⟨N,1,none⟩ (.pointer (some ⟨hb,0,none⟩))).setCell ⟨N,2,none⟩ (.pointer (some ⟨pb,0,none⟩)):=⟨_,rfl⟩;have hA2:Blk w2 N [.pointer (some ⟨rb,0,none⟩),.pointer (some ⟨hb,0,none⟩),.pointer (some ⟨pb,0,none⟩)] 82:=by rw[hw2];exact ((hA1.set 0 _).set 1 _).set 2 _
 have hB2:But (λj=>j=N) w1 w2:=by rw[hw2];exact (But.set2 w1 N 0 1 _ _).here rfl 2 _
 have hBw2:But (λj=>N<=j) w w2:=(((Ext.but X0.out (λ_=>False)).trans (Ext.but hx1 (λ_=>False)) (U:=λ_=>False) (λ_ _ e=>e) (λ_ _ e=>e))).trans hB2 (λ_ _ e=>e.elim) (λi _ e=>by omega);have W2:=qA hw2;have A2:=qA hA2;have BW2:=qA hBw2;have R2:=qA (rtabNew (b1.but hB2 (by omega)));have D2:=qA (tabNew (λ_=>True) (b2.but hB2 (by omega)));have L:=qA (And.intro l1 (And.intro l2 l3));have LT:=qA (show N<rb/\N<hb from ⟨by omega,by omega⟩);clear hw2 hA2 hB2 hBw2 b1 b2 b3 l1 l2 l3 hx1 hA1;go_upto_region 2 with fail;rw[<- W2.out];clear W2 c0 c1 c2 f0 f1 f2;have HRD2:=qA (HRD.out w2 BW2.out);clear HRD;go_wp2_with fail;refine HRD2.out.mono ?_;rintro e w3 ⟨⟨v,rfl,ho,hj⟩,⟨ao3,cap3,h1⟩,h2⟩;obtain⟨vo,vc,rfl⟩:=own_slice ho;have hqN:∀b,N<=b->¬b=qb:=λb hb e=>by have:=HN.out;omega
 have QN:=qA hqN;have O3:=qA ho;have J3:=qA hj;have T3:=qA h1;have B3:=qA h2;clear ho hj h1 h2 HRD2 hqN;go_wp2_with fail;refine (HHD.out w3 ao3 cap3 T3.out).mono ?_;rintro e w4 ⟨rfl,⟨ao4,cap4,h1⟩,h2⟩;have T4:=qA h1;have B4:=qA (B3.out.trans h2 (λ_ _ e=>e) (λ_ _ e=>e));have O4:=qA (own_but O3.out h2 (λj hj e=>by have:=J3.out j hj;have:=BW2.out.size;have:=HN.out;omega));clear h1 h2;have hB4:B<=w4.heap.size:=by have:=BW2.out.size;have:=B4.out.size;have:=HN.out;omega
 go_wp2_with fail;refine (HPD.out w4 ao4 cap4 T4.out hB4).mono ?_;rintro e w5 ⟨⟨p5,rfl,hp,hpl⟩,⟨ao5,cap5,h1⟩,h2⟩;have hb5:=B4.out.trans h2 (U:=λj=>j=qb) (λ_ _ e=>e) (λ_ _ e=>e);have T5:=qA h1;have B5:=qA hb5;have O5:=qA (own_but O4.out h2 (λj hj e=>by have:=J3.out j hj;have:=BW2.out.size;have:=HN.out;omega));have P5:=qA hp;have PL:=qA (show N<=p5 by have:=BW2.out.size;have:=B4.out.size;have:=HN.out;omega);have A5:=qA (A2.out.but hb5 (QN.out N (qL _)));have R5:=qA (R2.out.but hb5 (QN.out rb (Nat.le_of_lt LT.out.1)) (by simp[Value.ownBlock]));have D5:=qA (D2.out.but' hb5 (QN.out hb (Nat.le_of_lt LT.out.2)) (by simp[Value.ownBlock]) (λ_ _ _=>trivial));obtain⟨ao6,cap6,hv6,_,_,hr6⟩:=Rows.own (enc:=encRw) (sz:=2) (λ_=>rfl) O5.out;simp only[Value.slice.injEq,true_and]at hv6;obtain⟨rfl,rfl⟩:=hv6;have HPT:=qA (rowsPut_calls rb _ [] rs vo vc w5 R5.out (by omega) hr6 (λx hx=>qM (SM.out x hx) (by omega)));have a0:=A5.out.cell 0;have a1:=A5.out.cell 1;simp only[qB,qC]at a0 a1;have hNr:¬N=rb:=by have:=LT.out.1;omega
 have hNl:=A5.out.lt;clear hp hpl h1 h2 hb5 hr6 HHD HPD;rw[H9.out]at HPT;go_wp2_with fail;refine HPT.out.mono ?_;rintro e w6 ⟨rfl,⟨rv,hrt,hrf⟩,h2⟩;have hputT:putRT rs []=putAllR rs []:=by unfold putRT;rw[if_pos H9.out]
 rw[hputT]at hrt;have R6:=qA hrt
 have hRF:∀j,rv.ownBlock=some j->N<=j:=λj hj=>by
  rcases hrf with rfl | hrf
  · simp[Value.ownBlock]at hj
  · have:=hrf j hj;have:=BW2.out.size;have:=B5.out.size;have:=HN.out;omega
 have RF:=qA hRF;have hb_r:hb≠rb:=blk_ne D5.out.blk R5.out.blk (by decide);have hp_r:p5≠rb:=blk_ne P5.out.blk R5.out.blk (by decide);have A6:=qA (A5.out.but h2 hNr);have P6:=qA (P5.out.but h2 hp_r);have T6:=qA (T5.out.but h2 (λb hb e=>by have:=LT.out.1;have:=HN.out;omega));have D6:=qA (D5.out.but' h2 hb_r (by simp[Value.ownBlock]) (λ_ _ _=>trivial));have B6:=qA (B5.out.trans h2 (U:=λj=>j=qb\/N<=j) (λ_ _ e=> .inl e) (λi _ e=> .inr (by have:=LT.out.1;omega)));have b1:=A6.out.cell 1;simp only[qB,qC]at b1;have HPP:=qA (put_calls hb _ [] [] [] none 0 w6 (tab0 (no1:=λ_=>False) D6.out) (by simp) (λh=>absurd rfl h) trivial (by simp) (λ_ e=>e.elim));clear hrt hrf h2 hRF hputT a0 a1;go_wp2_with fail;refine HPP.out.mono ?_;rintro e w7 ⟨rfl,⟨hv,hht,hhf⟩,h2,_⟩;rw[show putT [] []=[] from by rfl]at hht;have h2':But (λj=>j=hb) w6 w7:=h2.mono (λ_ _ e=>e.elim id (λe=>by simp[Value.ownBlock]at e));have A7:=qA (A6.out.but h2' (by have:=LT.out.2;omega));have P7:=qA (P6.out.but h2' (λe=>blk_ne P6.out.blk D6.out.blk (by decide) e));have T7:=qA (T6.out.but h2' (λb hb e=>by have:=LT.out.2;have:=HN.out;omega));have R7:=qA (R6.out.but h2' (λe=>hb_r e.symm) (λj hj e=>own_bk R6.out.row D6.out.blk (by decide) (e▸hj)));have D7:=qA (tab0 (no1:=λ_=>True) hht)
 have HF:=qA (show ∀j,hv.ownBlock=some j->N<=j from λj hj=>by
  rcases hhf j hj with e | e
  · simp[Value.ownBlock]at e
  · have:=BW2.out.size;have:=B6.out.size;have:=HN.out;omega)
 have B7:=qA (B6.out.trans h2' (U:=λj=>j=qb\/N<=j) (λ_ _ e=>e) (λi _ e=> .inr (by have:=LT.out.2;omega)));have a2:=A7.out.cell 2;have g2:=A7.out.free 2;simp only[qB,qC]at a2;have hE:putE [] []=0:=by rfl
 rw[hE];clear hht hhf h2 h2' b1 HPP HPT hE;go_upto_region 8 with fail;obtain⟨w8,hw8⟩:∃w8,w8=w7.setCell ⟨N,2,none⟩ (.pointer (some ⟨p5,0,none⟩)):=⟨_,rfl⟩;rw[<- hw8];have hB8:But (λj=>j=N) w7 w8:=by rw[hw8];exact But.set1 _ _ _ _
 have A8:=qA (show Blk w8 N [.pointer (some ⟨rb,0,none⟩),.pointer (some ⟨hb,0,none⟩),.pointer (some ⟨p5,0,none⟩)] 82 by rw[hw8];exact A7.out.set 2 _);have H8:=qA hB8;clear hw8 hB8 a2 g2;have c0:=A8.out.cell 0;have c1:=A8.out.cell 1;have c2:=A8.out.cell 2;have f0:=A8.out.free 0;have f1:=A8.out.free 1;have f2:=A8.out.free 2;simp only[qB,qC]at c0 c1 c2;go_wp2_with fail;refine bodyPost_ret (res_row_tmp rfl _ _ N 82 [.pointer (some ⟨rb,0,none⟩),.pointer (some ⟨hb,0,none⟩),.pointer (some ⟨p5,0,none⟩)] _ rfl (((A8.out.set 0 _).set 1 _).set 2 _) Tryz.underlying82 rfl (by kernel_rfl)) rfl ?_;have hb9:But (λj=>j=N) w7 (((w8.setCell ⟨N,0,none⟩ (.pointer (some ⟨rb,0,none⟩))).setCell ⟨N,1,none⟩ (.pointer (some ⟨hb,0,none⟩))).setCell ⟨N,2,none⟩ (.pointer (some ⟨p5,0,none⟩))):=H8.out.trans ((But.set2 w8 N 0 1 _ _).here rfl 2 _) (λ_ _ e=>e) (λ_ _ e=>e);rw[HN.out];refine⟨⟨rb,hb,p5,rv,hv,rfl,R7.out.but hb9 (λe=>hNr e.symm) (λj hj e=>own_bk R7.out.row A7.out (by decide) (e▸hj)),D7.out.but' hb9 (by have:=LT.out.2;omega) (λj hj e=>by obtain⟨_,_,h⟩:=D7.out.own;exact own_bk h A7.out (by decide) (e▸hj)) (λ_ _ _=>trivial),P7.out.but hb9 (blk_ne P7.out.blk A7.out (by decide)),Nat.le_of_lt LT.out.1,Nat.le_of_lt LT.out.2,PL.out,RF.out,HF.out⟩,⟨ao5,cap5,T7.out.but hb9 (λb hb e=>by have:=HN.out;omega)⟩,?_⟩;exact ((BW2.out.trans (B7.out.trans hb9 (U:=λj=>j=qb\/N<=j) (λ_ _ e=>e) (λi _ e=> .inr (by omega))) (U:=λj=>j=qb\/N<=j) (λ_ _ e=> .inr e) (λ_ _ e=>e))).mono (λi hi e=>e.elim id (λe=>by have:=HN.out;omega))
end Go.Proofs.YtmpmggejhnmakaaGreatDoor
