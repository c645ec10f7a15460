/- great: are deeds too many, too long? -/
import Derived.Test.YtmpmggejhnmakaaGreatDoorZ39
import Derived.Test.YtmpmggejhnmakaaGreatDoorZ04
import Derived.Test.YtmpmggejhnmakaaGreatDoorZ35
import Derived.Test.YtmpmggejhnmakaaGreatDoorZ01
set_option maxRecDepth 100000
set_option maxHeartbeats 3200000
namespace Go.Proofs.YtmpmggejhnmakaaGreatDoor
open Go.RowKit
def badZ (z:DeedZ):Bool:=decide (60<actsN 60 0 z.acts)||(decide (20000<z.bytes.length)||decide (100<z.lo.size+z.hi.size))
def greatD (l:List DeedZ):Bool:=(l.take 81).any badZ||decide (80<l.length)
structure DeedZ.fit (z:DeedZ):Prop where
 small:∀a∈z.acts,a.small
 an:z.acts.length<=9223372036854775807
 bn:z.bytes.length<=9223372036854775807
 lo:z.lo.size<=140737488351232
 hi:z.hi.size<=140737488351232
theorem great_no {l:List DeedZ}(h:greatD l=false):l.length<=80/\∀z∈l,actsN 60 0 z.acts<=60/\z.bytes.length<=20000/\z.lo.size+z.hi.size<=100:=by
 unfold greatD at h;simp only[Bool.or_eq_false_iff,decide_eq_false_iff_not]at h;have hl:l.length<=80:=by omega
 refine⟨hl,λz hz=>?_⟩;have h1:=h.1;rw[List.take_of_length_le (by omega),List.any_eq_false]at h1;have h2:=h1 z hz;unfold badZ at h2;simp only[Bool.or_eq_true,decide_eq_true_eq,not_or]at h2;omega
theorem great_calls (l:List DeedZ)(lo:Option Addr)(cap:Nat)(w:World)(hl:l.length<=9223372036854775807)(hr:Rows 10 encDeed w.heap.size w lo l)(ha:∀z∈l,Rows 4 encAct w.heap.size w z.ao z.acts)(hf:∀z∈l,z.fit):
 Calls Tryz.prog 7 #[.slice lo l.length cap] w λe w'=>e= .returned (.bool (greatD l))/\Ext w w':=by
 have HR:=qA hr;have HA:=qA ha;have HF:=qA hf;clear hr ha hf;go_enter Tryz.func7,Tryz.ntmps7;go_wp2_with fail;go_loopw [3] (λi wr=>∃j:Nat,j<=l.length/\j<=81/\i= .int .i64 j/\(l.take j).any badZ=false/\Ext w wr) (λi _=>l.length - (intOf i).toNat)
 case atStart=>exact⟨0,by omega,by omega,rfl,rfl,qK _ _⟩
 case round=>
  obtain⟨j,hj,hj81,rfl,hno,hx⟩:=hrel;have NO:=qA hno;have KK:=qA hx;clear hno hx;by_cases hlt:j<l.length/\j<81
  · obtain⟨z,hz⟩:∃z,l[j]? =some z:=⟨_,qE hlt.1⟩
    have hlt1:=hlt.1;have hlt2:=hlt.2;clear hlt;obtain⟨b,off,hlo,hb,hcell⟩:=HR.out (by intro e;rw[e]at hlt1;simp at hlt1);subst hlo;have hcx:=hcell j z hz;have hzm:=qH hz;have d4:=(KK.out.cell (p:=⟨b,_,none⟩) hb).trans (hcx 4 _ rfl);have d7:=(KK.out.cell (p:=⟨b,_,none⟩) hb).trans (hcx 7 _ rfl);have d8:=(KK.out.cell (p:=⟨b,_,none⟩) hb).trans (hcx 8 _ rfl);have d9:=(KK.out.cell (p:=⟨b,_,none⟩) hb).trans (hcx 9 _ rfl);have ii0:(0:Int)<=(j:Int):=by omega
    have ii1:(j:Int)<(l.length:Int):=by omega
    have ii2:(j:Int)<81:=by omega
    have fz:=HF.out z hzm;have f1:=fz.lo;have f2:=fz.hi;have f3:=fz.bn;have AC:=qA (λW (hW:Ext wr W)=>actsOf_calls z.acts z.ao z.ac 60 W (by omega) fz.an (((HA.out z hzm).ext (qJ KK.out hW)).mono (qJ KK.out hW).size) fz.small);have HZ:=qA hz;have FZ:=qA fz;clear hz hcell hcx hzm fz;go_upto_region 4 with fail;replace d4:=ExtBy.cell d4;refine wp_region_firstC (λW=>∃p:ExtBy wr,W=p.W) [0,1,2,3,4] 29 (by kernel_rfl) (by kernel_rfl) (λ_ _ _ _ h=>h) ⟨⟨wr.drew,(qK _ wr).drew⟩,rfl⟩ ?_;simp only[opsAt,qD,qC,qB]
    repeat (go_big_quiet_step (fail))
    refine wpQuiet_nil ?_;obtain⟨wq,hwq⟩:∃wq,wq=wr.drew:=⟨_,rfl⟩;have XQ:Hid (Ext wr wq):=qA (by rw[hwq];exact (qK _ wr).drew);rw[<- hwq];clear hwq d4;refine wpAnyH_ready (rs:=[5]) (by kernel_rfl) (by simp) ?_;refine AllReadyH.cons rfl (λK hK=>?_) AllReadyH.nil;go_simp;refine (AC.out _ XQ.out).mono ?_;rintro e wt ⟨rfl,hxt⟩;have XT:=qA (qJ XQ.out hxt);refine hK.out _ _ ⟨⟨_,XT.out⟩,rfl⟩ (λ_=>?_);clear hK hxt;replace d7:=ExtBy.cell d7;replace d8:=ExtBy.cell d8;replace d9:=ExtBy.cell d9;obtain⟨A,hA⟩:∃A,A=actsN 60 0 z.acts:=⟨_,rfl⟩;have HB:Hid (badZ z=(decide (60<A)||(decide (20000<z.bytes.length)||decide (100<z.lo.size+z.hi.size)))):=qA (by rw[hA];rfl);rw[<- hA];clear hA AC;refine wp_takesC (f:=0) [6,7,8,9,10,11,12,13,14,15,16,17,18,19,20,21,22,23,24,25,26,27,28,29,30,31,32,33] (by kernel_rfl) (λ_ _ _ _ h=>h) ⟨⟨_,XT.out⟩,rfl⟩ ?_;simp only[opsAt,qD,qC,qB];have BIG:Hid (badZ z=true->greatD l=true):=qA (λh=>by unfold greatD;rw[Bool.or_eq_true];exact .inl (List.any_eq_true.2 ⟨z,qH (i:=j) (by rw[List.getElem?_take,if_pos hlt2];exact HZ.out),h⟩));by_cases hA1:60<A
    · have a1:decide ((60:Int)<(A:Int))=true:=by simp;omega
      have GT:Hid (greatD l=true):=qA (BIG.out (by rw[HB.out];simp[hA1]));clear hA1
      repeat (go_big_quiet_step (fail))
      refine wpQuiet_nil ?_;refine wpAnyH_done (by kernel_rfl) ?_ _;go_wp2_with fail;go_ret;exact⟨by rw[GT.out];rfl,qJ KK.out XT.out⟩
    · have a1:decide ((60:Int)<(A:Int))=false:=by simp;omega
      by_cases hA2:20000<z.bytes.length
      · have a2:decide ((20000:Int)<(z.bytes.length:Int))=true:=by simp;omega
        have GT:Hid (greatD l=true):=qA (BIG.out (by rw[HB.out];simp[hA2]));clear hA1 hA2
        repeat (go_big_quiet_step (fail))
        refine wpQuiet_nil ?_;refine wpAnyH_done (by kernel_rfl) ?_ _;go_wp2_with fail;go_ret;exact⟨by rw[GT.out];rfl,qJ KK.out XT.out⟩
      · have a2:decide ((20000:Int)<(z.bytes.length:Int))=false:=by simp;omega
        by_cases hA3:100<z.lo.size+z.hi.size
        · have a3:decide ((100:Int)<(z.lo.size:Int)+(z.hi.size:Int))=true:=by simp;omega
          have GT:Hid (greatD l=true):=qA (BIG.out (by rw[HB.out];simp[hA3]));clear hA1 hA2 hA3
          repeat (go_big_quiet_step (fail))
          refine wpQuiet_nil ?_;refine wpAnyH_done (by kernel_rfl) ?_ _;go_wp2_with fail;go_ret;exact⟨by rw[GT.out];rfl,qJ KK.out XT.out⟩
        · have a3:decide ((100:Int)<(z.lo.size:Int)+(z.hi.size:Int))=false:=by simp;omega
          have NX:Hid ((l.take (j+1)).any badZ=false):=qA (by
           rw[List.take_add_one,HZ.out,List.any_append,NO.out]
           simp[HB.out,hA1,hA2,hA3])
          clear hA1 hA2 hA3
          repeat (go_big_quiet_step (fail))
          refine wpQuiet_nil ?_;refine wpAnyH_done (by kernel_rfl) ?_ _;go_wp2_with fail;go_roundw
          case rel=>exact⟨j+1,by omega,by omega,by go_num,NX.out,qJ KK.out XT.out⟩
          case measure=>simp[intOf];omega
  · by_cases h81:j=81
    · have h1:¬(j:Int)<81:=by omega
      have GT:Hid (greatD l=true)\/Hid (greatD l=false):=by cases greatD l;exact .inr (qA rfl);exact .inl (qA rfl)
      have GV:Hid (greatD l=decide (80<l.length)):=qA (by unfold greatD;rw[show l.take 81=l.take j from by rw[h81],NO.out,Bool.false_or]);have h2:(80:Int)<(l.length:Int):=by omega
      have GV2:Hid (greatD l=true):=qA (by rw[GV.out];simp;omega);clear GT GV hlt h81;by_cases hjl:(j:Int)<(l.length:Int)
      all_goals
       go_wp2_with fail;go_ret;exact⟨by rw[GV2.out];rfl,KK.out⟩
    · have h1:¬(j:Int)<(l.length:Int):=by omega
      have GV:Hid (greatD l=decide (80<l.length)):=qA (by unfold greatD;rw[List.take_of_length_le (show l.length<=81 by omega)];rw[List.take_of_length_le (show l.length<=j by omega)]at NO;rw[NO.out,Bool.false_or]);by_cases h80:80<l.length
      · have h2:(80:Int)<(l.length:Int):=by omega
        have GV2:Hid (greatD l=true):=qA (by rw[GV.out];simp[h80]);clear hlt h81 h80;go_wp2_with fail;go_ret;exact⟨by rw[GV2.out];rfl,KK.out⟩
      · have h2:¬(80:Int)<(l.length:Int):=by omega
        have GV2:Hid (greatD l=false):=qA (by rw[GV.out];simp[h80]);clear hlt h81 h80;go_wp2_with fail;go_ret;exact⟨by rw[GV2.out];rfl,KK.out⟩
end Go.Proofs.YtmpmggejhnmakaaGreatDoor
/- tract: New at the one share of the law. -/
namespace Go.Proofs.YtmpmggejhnmakaaGreatDoor
open Go.RowKit
def st0:StrZ:=⟨⟨#[]⟩,⟨#[]⟩,1,1,0⟩
theorem rows_st1 {w:World}{b:Nat}{s:StrZ}(h:Blk w b (encSt s) 92):Rows 5 encSt w.heap.size w (some ⟨b,0,none⟩) [s]:=λ_=>
 ⟨b,0,rfl,h.lt,λi x hi j u hj=>by
  match i,hi with
  | 0,hi=>
    simp only[qB,Option.some.injEq]at hi;subst hi;rw[h.cell];simpa using hj
  | i+1,hi=>simp at hi⟩
theorem rise1c_calls (s:StrZ)(b cap:Nat)(w:World)(hb:b<w.heap.size)(hc:∀i u,(encSt s)[i]? =some u->w.cell? ⟨b,i,none⟩=some u)(hsp:spanB s.lo.data.toList s.hi.data.toList=true)(hsm:s.lo.size<=140737488351232/\s.hi.size<=140737488351232):
 Calls Tryz.prog 34 #[.slice (some ⟨b,0,none⟩) 1 cap] w λe w'=>e= .returned (.bool true)/\Ext w w':=by
 obtain⟨lo,hi,ep,st,sc⟩:=s;have HR:Hid (∀W,Calls Tryz.prog 11 #[.agg #[.string lo,.string hi]] W λe w'=>e= .returned (.bool true)/\Ext W w'):=qA (λW=>by have h:=spanRight_calls lo hi W hsm.1 hsm.2;simp only at hsp;rwa [hsp]at h);have HB:=qA hc;clear hc hsp hsm;go_enter Tryz.func34,Tryz.ntmps34;go_wp2_with fail;go_loopw [7] (λi wr=>∃(j:Nat),j<=1/\i= .int .i64 j/\Ext w wr) (λi _=>1 - (intOf i).toNat)
 case atStart=>exact⟨0,by omega,rfl,qK _ _⟩
 case round=>
  obtain⟨j,hj,rfl,hx⟩:=hrel;have X:=qA hx;clear hx;by_cases h0:j=0
  · subst h0
    have c0:=(X.out.cell (p:=⟨b,0,none⟩) hb).trans (HB.out 0 _ rfl);have c1:=(X.out.cell (p:=⟨b,1,none⟩) hb).trans (HB.out 1 _ rfl);have c2:=(X.out.cell (p:=⟨b,2,none⟩) hb).trans (HB.out 2 _ rfl);have c3:=(X.out.cell (p:=⟨b,3,none⟩) hb).trans (HB.out 3 _ rfl);have c4:=(X.out.cell (p:=⟨b,4,none⟩) hb).trans (HB.out 4 _ rfl);have hbl:=qN hb X.out.size;have hbn:b≠wr.heap.size:=by omega
    obtain⟨w2,hw2⟩:∃w2,w2=wr.alloc (.cells #[.string lo,.string hi,.int .i64 ep,.int .u8 st,.int .i64 sc] 92):=⟨_,rfl⟩;have X2:Hid (Ext wr w2):=qA (by rw[hw2];exact (qK _ wr).alloc (qL _) _);have hb2:Blk w2 wr.heap.size [.string lo,.string hi,.int .i64 ep,.int .u8 st,.int .i64 sc] 92:=by rw[hw2];exact Blk.new wr _ _
    have B2:=qA hb2;have W2:=qA hw2;clear hw2 hb2;go_upto_region 4 with fail;rw[<- W2.out];clear W2;have q0:∀p:ExtBy w2,p.W.cell? ⟨wr.heap.size,0,none⟩=some (.string lo):=λp=>(B2.out.ext' p.ext).cell 0;have q1:∀p:ExtBy w2,p.W.cell? ⟨wr.heap.size,1,none⟩=some (.string hi):=λp=>(B2.out.ext' p.ext).cell 1;refine wp_region_ext (by kernel_rfl) (by kernel_rfl) ?_
    repeat (go_big_quiet_step (with_reducible exact Calls.ext_of _ (HR.out _)))
    refine wpQuiet_nil ?_;intro wd hw';have hxd:Ext w2 wd:=by obtain⟨p,rfl⟩:=hw';exact p.ext
    have XD:=qA (qJ X.out (qJ X2.out hxd));clear hxd hw' q0 q1;go_wp2_with fail;go_roundw
    case rel=>exact⟨1,by omega,by go_num,XD.out⟩
    case measure=>simp[intOf]
  · obtain rfl:j=1:=by omega
    go_wp2_with fail;go_ret;exact⟨rfl,X.out⟩
theorem newWhole_calls (sb cap:Nat)(w:World)(hsb:Blk w sb [.string ⟨#[]⟩,.string ⟨#[]⟩,.int .i64 1,.int .i64 1] 88):
 Calls Tryz.prog 8 #[.slice (some ⟨sb,0,none⟩) 1 cap] w λe w'=>∃k:TrK,e= .returned (.pointer (some ⟨k.tb,0,none⟩))/\TrIs w' k ⟨[],[],List.replicate 8 0,[st0],0⟩/\(w.heap.size<=k.tb/\w.heap.size<=k.rb/\w.heap.size<=k.hb/\w.heap.size<=k.pb/\∀b,k.pv.ownBlock=some b->w.heap.size<=b)/\(k.rv= .slice none 0 0/\k.hv= .slice none 0 0)/\Ext w w':=by
 obtain⟨i0,hi0,hz0,hz1,hz2⟩:=info_parts infoSt;have HI:=qA hi0;have SB:=qA hsb;clear hsb hi0;go_enter Tryz.func8,Tryz.ntmps8;go_wp2_with fail;refine (empty_calls _).mono ?_;rintro e w1 ⟨rb,hb,pb,rfl,b1,b2,b3,l1,l2,l3,hx1⟩;obtain⟨w2,hw2⟩:∃w2,w2=w1.alloc (.cells #[.pointer (some ⟨rb,0,none⟩),.pointer (some ⟨hb,0,none⟩),.pointer (some ⟨pb,0,none⟩),.slice none 0 0,.int .i64 0,.pointer none,.bool true] 86):=⟨_,rfl⟩;have x2:Ext w1 w2:=by rw[hw2];exact (qK _ w1).alloc (qL _) _
 have bt:Blk w2 w1.heap.size [.pointer (some ⟨rb,0,none⟩),.pointer (some ⟨hb,0,none⟩),.pointer (some ⟨pb,0,none⟩),.slice none 0 0,.int .i64 0,.pointer none,.bool true] 86:=by rw[hw2];exact Blk.new w1 _ _
 have B1:=qA (b1.ext' x2);have B2:=qA (b2.ext' x2);have B3:=qA (b3.ext' x2);have BT:=qA bt;have X2:=qA (qJ hx1 x2);have L1:=qA b1.lt;have L2:=qA b2.lt;have L3:=qA b3.lt;have HS1:=qA hx1.size;have W2:=qA hw2;clear b1 b2 b3 hx1 x2 bt hw2;go_upto_region 2 with fail;rw[<- W2.out];clear W2;go_wp2_with fail;have hs0:w.heap.size<=w1.heap.size:=HS1.out;generalize w1.heap.size=tb at *;have hl1:=L1.out;have hl2:=L2.out;have hl3:=L3.out;go_loopw [11] (λi wr=>∃(j:Nat) (pv:Value),j<=1/\i= .int .i64 j/\(j=0->pv= .slice none 0 0)/\Blk wr tb [.pointer (some ⟨rb,0,none⟩),.pointer (some ⟨hb,0,none⟩),.pointer (some ⟨pb,0,none⟩),pv,.int .i64 0,.pointer none,.bool true] 86/\wr.ownsRow 0 92 5 pv j ((List.replicate j st0).flatMap encSt)/\(∀b,pv.ownBlock=some b->w2.heap.size<=b)/\But (λb=>b=tb) w2 wr) (λi _=>1 - (intOf i).toNat)
 case atStart=>exact⟨0,_,by omega,rfl,λ_=>rfl,BT.out,World.ownsRow_nil _ _ _ _,by simp[Value.ownBlock],But.refl _ _⟩
 case round=>
  obtain⟨j,pv,hj,rfl,hp0,hbt,hown,hnew,hbut⟩:=hrel;have K1:=qA hbt;have K2:=qA hown;have K3:=qA hnew;have K4:=qA hbut;clear hbt hown hnew hbut;by_cases h0:j=0
  · subst h0
    obtain rfl:=hp0 rfl;have hsr:=(SB.out.ext' X2.out).but K4.out (by have:=SB.out.lt;have:=HS1.out;omega);have c0:=hsr.cell 0;have c1:=hsr.cell 1;have c2:=hsr.cell 2;have c3:=hsr.cell 3;simp only[qB,qC]at c0 c1 c2 c3;obtain⟨w3,hw3⟩:∃w3,w3=wr.alloc (.cells #[.string ⟨#[]⟩,.string ⟨#[]⟩,.int .i64 1,.int .i64 1] 88):=⟨_,rfl⟩;have W3:=qA hw3;have x3:Ext wr w3:=by rw[hw3];exact (qK _ wr).alloc (qL _) _
    have b3:Blk w3 wr.heap.size [.string ⟨#[]⟩,.string ⟨#[]⟩,.int .i64 1,.int .i64 1] 88:=by rw[hw3];exact Blk.new wr _ _
    have X3:=qA x3;have C3:=qA b3;have d2:=b3.cell 3;simp only[qB,qC]at d2;have hbl:=b3.lt;clear hw3 x3 b3 hsr;go_upto_region 5 with fail;rw[<- W3.out];clear W3 c0 c1 c2 c3;go_wp2_with fail;refine (number_calls1 1 w3.heap.size 1 _ ((Blk.new w3 [.int .i64 1] 3).cell 0)).mono ?_;rintro e w5 ⟨rfl,hx5⟩;rw[show (!badN 1)=true from by decide];have hx35:Ext w3 w5:=qJ ((qK _ w3).alloc (qL _) _) hx5;have X5:=qA (qJ X3.out hx35);have hs5:=C3.out.ext' hx35;have ht5:=K1.out.ext' X5.out;have e0:=hs5.cell 0;have e1:=hs5.cell 1;have e2:=hs5.cell 2;have e3:=hs5.cell 3;have t3:=ht5.cell 3;have f3:=ht5.free 3;simp only[qB,qC]at e0 e1 e2 e3 t3;have hl5:=ht5.lt;have hl6:=hs5.lt;have n1:tb≠w5.heap.size:=by omega
    have n2:wr.heap.size≠w5.heap.size:=by omega
    have T5:=qA ht5;have S5:=qA hs5;clear hx5 hx35 d2 e0 e1 e2 e3 t3 f3;go_upto_region 7 with fail;have hne:¬wr.heap.size=tb:=by have:=K1.out.lt;omega
    have e0:=ButBy.cell (S:=λj=>j=tb) (hs5.cell 0) hne;have e1:=ButBy.cell (S:=λj=>j=tb) (hs5.cell 1) hne;have e2:=ButBy.cell (S:=λj=>j=tb) (hs5.cell 2) hne;have e3:=ButBy.cell (S:=λj=>j=tb) (hs5.cell 3) hne;clear hs5 ht5;refine wp_region_firstC (λW=>∃p:ButBy (λj=>j=tb) w5,W=p.W) [0,1,2,3,5,6,7,8,9] 6 (by kernel_rfl) (by kernel_rfl) (λ_ _ _ _ h=>h) ⟨⟨w5.drew,(But.refl _ w5).drew⟩,rfl⟩ ?_;simp only[opsAt,qD,qC,qB]
    repeat (go_big_quiet_step (fail))
    refine wpQuiet_nil ?_;obtain⟨wq,hwq⟩:∃wq,wq=w5.drew:=⟨_,rfl⟩;have XQ:Hid (Ext w5 wq):=qA (by rw[hwq];exact (qK _ w5).drew);rw[<- hwq];clear hwq e0 e1 e2 e3;have t3:=(T5.out.ext' XQ.out).cell 3;simp only[qB,qC]at t3;refine wpAnyH_ready (rs:=[4,10]) (by kernel_rfl) (by simp) ?_;refine AllReadyH.cons rfl (λK hK=>?_) (AllReadyH.cons rfl (λK hK=>?_) AllReadyH.nil)
    · skip
      go_simp;refine hK.out _ _ ⟨⟨_,Ext.but XQ.out _⟩,rfl⟩ (λ_=>?_)
      clear hK K;refine wpAnyH_ready (rs:=[10]) (by kernel_rfl) (by simp) ?_;refine AllReadyH.cons rfl (λK hK=>?_) AllReadyH.nil;go_simp;obtain⟨wb,hwb⟩:∃wb,wb=wq.alloc (.cells #[.string ⟨#[]⟩,.string ⟨#[]⟩,.int .i64 1,.int .u8 1,.int .i64 0] 92):=⟨_,rfl⟩;have XB:Hid (Ext wq wb):=qA (by rw[hwb];exact (qK _ wq).alloc (qL _) _);have BN:Hid (Blk wb wq.heap.size (encSt st0) 92):=qA (by rw[hwb];exact Blk.new wq _ _);rw[<- hwb];refine hK.out _ _ ⟨⟨_,Ext.but (qJ XQ.out XB.out) _⟩,rfl⟩ (λ_=>?_);clear hK K hwb;refine wpAnyH_ready (rs:=[11]) (by kernel_rfl) (by simp) ?_;refine AllReadyH.cons rfl (λK hK=>?_) AllReadyH.nil;refine step_append_rows (enc:=encSt) (size:=5) (λ_=>rfl) one_st rfl (.tmp 24) (.tmp 30) 57 rfl 92 i0 _ 56 Tryz.underlying57 HI.out hz0 hz1 hz2 rfl (by decide) (.slice none 0 0) 0 [] rfl (World.ownsRow_nil _ _ _ _) (some ⟨wq.heap.size,0,none⟩) [st0] 1 rfl (rows_st1 BN.out) (by unfold maxLen;simp) (by simp) ?_;intro v1 w6 h1 h2 h3;obtain⟨o1,cp1,rfl⟩:=own_slice h1;have X6:Hid (Ext w5 w6):=qA (Ext.butNew (qJ XQ.out XB.out) h2 (λj e=>by simp[Value.ownBlock]at e));have O6:=qA h1;have N6:Hid (∀b,(Value.slice o1 (0+[st0].length) cp1).ownBlock=some b->w5.heap.size<=b):=qA (λb e=>(h3 b e).elim (λe=>by simp[Value.ownBlock]at e) (λe=>qM (qJ XQ.out XB.out).size e));have B6:=qA (T5.out.ext' X6.out);have t6:=B6.out.cell 3;have f6:=B6.out.free 3;simp only[qB,qC]at t6;simp only[List.length_cons,List.length_nil,Nat.zero_add,List.nil_append]at O6 N6 ⊢;go_simp;refine hK.out _ _ ⟨⟨_,Ext.but X6.out _⟩,rfl⟩ (λ_=>?_)
      clear hK K h1 h2 h3 t3;refine wp_takesC (f:=1) [12,13] (by kernel_rfl) (λ_ _ _ _ h=>h) ⟨⟨_,Ext.but X6.out _⟩,rfl⟩ ?_;simp only[opsAt,qD,qC,qB]
      repeat (go_big_quiet_step (fail))
      refine wpQuiet_nil ?_;refine wpAnyH_ready (rs:=[14]) (by kernel_rfl) (by simp) ?_;refine AllReadyH.cons rfl (λK hK=>?_) AllReadyH.nil;go_simp;have BF:Hid (But (λj=>j=tb) w5 (w6.setCell ⟨tb,3,none⟩ (.slice o1 1 cp1))):=qA ((Ext.but X6.out (λj=>j=tb)).setCell (p:=⟨tb,3,none⟩) (λ_=>rfl) _);refine hK.out _ _ ⟨⟨_,BF.out⟩,rfl⟩ (λ_=>?_);clear hK K;refine wpAnyH_done (by kernel_rfl) ?_ _;have h25:w2.heap.size<=w5.heap.size:=qM K4.out.size X5.out.size;have htb2:tb<w2.heap.size:=BT.out.lt;have hbf:But (λb=>b=tb) w2 (w6.setCell ⟨tb,3,none⟩ (.slice o1 1 cp1)):=(K4.out.trans (U:=λb=>b=tb) (X5.out.but (λ_=>False)) (λ_ _ e=>e) (λ_ _ e=>e.elim)).trans (U:=λb=>b=tb) BF.out (λ_ _ e=>e) (λ_ _ e=>e);have BW:=qA hbf;clear hbf;go_wp2_with fail;go_roundw
      case rel=>
       refine⟨1,_,by omega,by go_num,by omega,B6.out.set 3 _,?_,λb h=>qM h25 (N6.out b h),BW.out⟩;exact own_but (by simpa using O6.out) ((But.refl (λb=>b=tb) w6).setCell (p:=⟨tb,3,none⟩) (λ_=>rfl) _) (λb h e=>by have:=N6.out b h;omega)
      case measure=>simp[intOf]
    · skip
      go_simp;obtain⟨wb,hwb⟩:∃wb,wb=wq.alloc (.cells #[.string ⟨#[]⟩,.string ⟨#[]⟩,.int .i64 1,.int .u8 1,.int .i64 0] 92):=⟨_,rfl⟩
      have XB:Hid (Ext wq wb):=qA (by rw[hwb];exact (qK _ wq).alloc (qL _) _);have BN:Hid (Blk wb wq.heap.size (encSt st0) 92):=qA (by rw[hwb];exact Blk.new wq _ _);rw[<- hwb];refine hK.out _ _ ⟨⟨_,Ext.but (qJ XQ.out XB.out) _⟩,rfl⟩ (λ_=>?_);clear hK K hwb;have t3:=((T5.out.ext' XQ.out).ext' XB.out).cell 3;simp only[qB,qC]at t3;refine wpAnyH_ready (rs:=[4]) (by kernel_rfl) (by simp) ?_;refine AllReadyH.cons rfl (λK hK=>?_) AllReadyH.nil;go_simp;refine hK.out _ _ ⟨⟨_,Ext.but (qJ XQ.out XB.out) _⟩,rfl⟩ (λ_=>?_);clear hK K;refine wpAnyH_ready (rs:=[11]) (by kernel_rfl) (by simp) ?_;refine AllReadyH.cons rfl (λK hK=>?_) AllReadyH.nil;refine step_append_rows (enc:=encSt) (size:=5) (λ_=>rfl) one_st rfl (.tmp 24) (.tmp 30) 57 rfl 92 i0 _ 56 Tryz.underlying57 HI.out hz0 hz1 hz2 rfl (by decide) (.slice none 0 0) 0 [] rfl (World.ownsRow_nil _ _ _ _) (some ⟨wq.heap.size,0,none⟩) [st0] 1 rfl (rows_st1 BN.out) (by unfold maxLen;simp) (by simp) ?_;intro v1 w6 h1 h2 h3;obtain⟨o1,cp1,rfl⟩:=own_slice h1;have X6:Hid (Ext w5 w6):=qA (Ext.butNew (qJ XQ.out XB.out) h2 (λj e=>by simp[Value.ownBlock]at e));have O6:=qA h1;have N6:Hid (∀b,(Value.slice o1 (0+[st0].length) cp1).ownBlock=some b->w5.heap.size<=b):=qA (λb e=>(h3 b e).elim (λe=>by simp[Value.ownBlock]at e) (λe=>qM (qJ XQ.out XB.out).size e));have B6:=qA (T5.out.ext' X6.out);have t6:=B6.out.cell 3;have f6:=B6.out.free 3;simp only[qB,qC]at t6;simp only[List.length_cons,List.length_nil,Nat.zero_add,List.nil_append]at O6 N6 ⊢;go_simp;refine hK.out _ _ ⟨⟨_,Ext.but X6.out _⟩,rfl⟩ (λ_=>?_)
      clear hK K h1 h2 h3 t3;refine wp_takesC (f:=1) [12,13] (by kernel_rfl) (λ_ _ _ _ h=>h) ⟨⟨_,Ext.but X6.out _⟩,rfl⟩ ?_;simp only[opsAt,qD,qC,qB]
      repeat (go_big_quiet_step (fail))
      refine wpQuiet_nil ?_;refine wpAnyH_ready (rs:=[14]) (by kernel_rfl) (by simp) ?_;refine AllReadyH.cons rfl (λK hK=>?_) AllReadyH.nil;go_simp;have BF:Hid (But (λj=>j=tb) w5 (w6.setCell ⟨tb,3,none⟩ (.slice o1 1 cp1))):=qA ((Ext.but X6.out (λj=>j=tb)).setCell (p:=⟨tb,3,none⟩) (λ_=>rfl) _);refine hK.out _ _ ⟨⟨_,BF.out⟩,rfl⟩ (λ_=>?_);clear hK K;refine wpAnyH_done (by kernel_rfl) ?_ _;have h25:w2.heap.size<=w5.heap.size:=qM K4.out.size X5.out.size;have htb2:tb<w2.heap.size:=BT.out.lt;have hbf:But (λb=>b=tb) w2 (w6.setCell ⟨tb,3,none⟩ (.slice o1 1 cp1)):=(K4.out.trans (U:=λb=>b=tb) (X5.out.but (λ_=>False)) (λ_ _ e=>e) (λ_ _ e=>e.elim)).trans (U:=λb=>b=tb) BF.out (λ_ _ e=>e) (λ_ _ e=>e);have BW:=qA hbf;clear hbf;go_wp2_with fail;go_roundw
      case rel=>
       refine⟨1,_,by omega,by go_num,by omega,B6.out.set 3 _,?_,λb h=>qM h25 (N6.out b h),BW.out⟩;exact own_but (by simpa using O6.out) ((But.refl (λb=>b=tb) w6).setCell (p:=⟨tb,3,none⟩) (λ_=>rfl) _) (λb h e=>by have:=N6.out b h;omega)
      case measure=>simp[intOf]
  · obtain rfl:j=1:=by omega
    have hrep:List.replicate 1 st0=[st0]:=rfl;rw[hrep]at K2;rcases K2.out.2 with ⟨_,h1⟩ | ⟨g,cp,cur,rfl,_,hg,hn1,_,hcs,htk⟩
    · cases h1
    have hbg:Blk wr g cur.toList 92:=by unfold Blk;exact hg
    have RS:=qA (λW (hW:Ext wr W)=>rise1c_calls st0 g cp W (qN hbg.lt hW.size) (λi u hi=>by
     have hi5:i<5:=(qF.1 hi).1;rw[(hW.cell (p:=⟨g,i,none⟩) hbg.lt),hbg.cell i]
     have h2:(cur.toList.take (1 * 5))[i]? =some u:=by
      rw[htk];simpa using hi
     rw[List.getElem?_take,if_pos (by omega)]at h2
     exact h2) (by decide) (by decide))
    have t3:=K1.out.cell 3;simp only[qB,qC]at t3;have GN:Hid (w2.heap.size<=g):=qA (K3.out g rfl);clear hp0 hrep hg hn1 hcs htk hbg;go_wp2_with fail;refine (RS.out _ (qK _ _)).mono ?_;rintro e w8 ⟨rfl,hx8⟩;have X8:=qA hx8;clear hx8;go_wp2_with fail;go_ret;have hb2:=K4.out;have htb2:w.heap.size<=tb:=hs0;have XF:Ext w w8:=qJ (Ext.butNew X2.out hb2 (λj e=>by rw[e];exact htb2)) X8.out;have hne:∀q,q<w2.heap.size->q≠tb->¬q=tb:=λ_ _ h=>h;have ne1:¬rb=tb:=λe=>by subst e;exact absurd (blk_ty B1.out BT.out) (by decide)
    have ne2:¬hb=tb:=λe=>by subst e;exact absurd (blk_ty B2.out BT.out) (by decide)
    have ne3:¬pb=tb:=λe=>by subst e;exact absurd (blk_ty B3.out BT.out) (by decide)
    have R1:=(B1.out.but hb2 ne1).ext' X8.out;have R2:=(B2.out.but hb2 ne2).ext' X8.out;have R3:=(B3.out.but hb2 ne3).ext' X8.out;refine⟨⟨tb,rb,hb,pb,.slice none 0 0,.slice none 0 0,.slice (some ⟨g,0,none⟩) 1 cp⟩,rfl,⟨K1.out.ext' X8.out,rtabNew R1,tabNew _ R2,ptabNew R3,own_ext K2.out X8.out,?_,by simp⟩,⟨htb2,l1,l2,l3,λb hb=>?_⟩,⟨rfl,rfl⟩,XF⟩
    · intro s hs
      rw[List.mem_singleton.1 hs];exact⟨by decide,by decide⟩
    · simp only[Value.ownBlock,Option.some.injEq]at hb
      rw[<- hb];exact qM X2.out.size GN.out
end Go.Proofs.YtmpmggejhnmakaaGreatDoor
