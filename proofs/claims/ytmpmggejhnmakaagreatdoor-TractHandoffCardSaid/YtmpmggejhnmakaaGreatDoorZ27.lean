/- span: is a span within another one? -/
import Derived.Test.YtmpmggejhnmakaaGreatDoorZ10
import Derived.Deep.CutRange
import Derived.Deep.DeepCutAuto
import Derived.Test.YtmpmggejhnmakaaGreatDoorZ15
import Derived.Test.YtmpmggejhnmakaaGreatDoorZ18
import Derived.Test.YtmpmggejhnmakaaGreatDoorZ19
import Derived.Test.YtmpmggejhnmakaaGreatDoorZ13
import Derived.Test.YtmpmggejhnmakaaGreatDoorZ01
set_option maxRecDepth 100000
set_option maxHeartbeats 3200000
namespace Go.Proofs.YtmpmggejhnmakaaGreatDoor
open Go.RowKit
def overB (h g:List UInt8):Bool:=h.isEmpty||(!g.isEmpty&&decide (0<=cmpT h g))
def withinB (alo ahi lo hi:List UInt8):Bool:=spanB alo ahi&&spanB lo hi&&decide (cmpT lo alo<=0)&&overB hi ahi
theorem over_calls (h g:ByteArray)(w:World):Calls Tryz.prog 114 #[.agg #[.string h],.agg #[.string g]] w λe w'=>e= .returned (.bool (overB h.data.toList g.data.toList))/\Ext w w':=by
 have hw:∃w2,w2=(w.alloc (.cells #[.string h] 98)).alloc (.cells #[.string g] 98)/\Ext w w2/\Blk w2 w.heap.size [.string h] 98/\Blk w2 (w.heap.size+1) [.string g] 98:=by
  refine⟨_,rfl,((qK _ w).alloc (qL _) _).alloc (by simp) _,(Blk.new w _ _).alloc _,?_⟩
  have:=Blk.new (w.alloc (.cells #[.string h] 98)) [.string g] 98
  rwa [World.size_alloc]at this
 obtain⟨w2,e2,x2,b1,b2⟩:=hw;obtain⟨A,hA⟩:∃A,A=h.data.toList.isEmpty:=⟨_,rfl⟩;obtain⟨B,hB⟩:∃B,B=g.data.toList.isEmpty:=⟨_,rfl⟩;have HN:Hid (∀W,Calls Tryz.prog 36 #[.agg #[.string h]] W λe w'=>e= .returned (.bool A)/\Ext W w'):=qA (λW=>by rw[hA];exact none_calls h W);have HM:Hid (∀W,Calls Tryz.prog 36 #[.agg #[.string g]] W λe w'=>e= .returned (.bool B)/\Ext W w'):=qA (λW=>by rw[hB];exact none_calls g W);have X2:=qA x2;have B1:=qA b1;have B2:=qA b2;have HR:Hid (overB h.data.toList g.data.toList=(A||(!B&&decide (0<=cmpT h.data.toList g.data.toList)))):=qA (by rw[hA,hB];rfl);have HC:=qA (compareT_calls h g);clear x2 b1 b2 hA hB;generalize overB h.data.toList g.data.toList=res at HR ⊢;generalize cmpT h.data.toList g.data.toList=c at HR HC;go_enter Tryz.func114,Tryz.ntmps114;go_wp2_with fail;rw[<- e2];clear e2;refine (HN.out _).mono ?_;rintro e w3 ⟨rfl,hx3⟩;have c1:=(B1.out.ext' hx3).cell 0;have c2:=(B2.out.ext' hx3).cell 0;simp only[qB]at c1 c2;have X3:=qA (qJ X2.out hx3);have Y3:=qA hx3;clear hx3;cases A
 · go_wp2_with fail
   refine (HM.out _).mono ?_;rintro e w4 ⟨rfl,hx4⟩;have d1:=(B1.out.ext' (qJ Y3.out hx4)).cell 0;have d2:=(B2.out.ext' (qJ Y3.out hx4)).cell 0;simp only[qB]at d1 d2;have X4:=qA (qJ X3.out hx4);clear hx4 c1 c2;cases B
   · go_wp2_with fail
     refine (HC.out _).mono ?_;rintro e w5 ⟨rfl,hx5⟩;have X5:=qA (qJ X4.out hx5);clear hx5;go_wp2_with fail;go_ret;exact⟨ret_bool (by rw[HR.out];rfl),X5.out⟩
   · go_wp2_with fail
     go_ret;exact⟨ret_bool (by rw[HR.out];rfl),X4.out⟩
 · go_wp2_with fail
   go_ret;exact⟨ret_bool (by rw[HR.out];rfl),X3.out⟩
theorem within_calls (al ah lo hi:ByteArray)(w:World)(h1:al.size<=140737488351232)(h2:ah.size<=140737488351232)(h3:lo.size<=140737488351232)(h4:hi.size<=140737488351232):
 Calls Tryz.prog 48 #[.agg #[.string al,.string ah],.agg #[.string lo,.string hi]] w λe w'=>e= .returned (.bool (withinB al.data.toList ah.data.toList lo.data.toList hi.data.toList))/\Ext w w':=by
 obtain⟨A,hA⟩:∃A,A=spanB al.data.toList ah.data.toList:=⟨_,rfl⟩;obtain⟨B,hB⟩:∃B,B=spanB lo.data.toList hi.data.toList:=⟨_,rfl⟩;obtain⟨c,hc⟩:∃c,c=cmpT lo.data.toList al.data.toList:=⟨_,rfl⟩;obtain⟨D,hD⟩:∃D,D=overB hi.data.toList ah.data.toList:=⟨_,rfl⟩;have HR:Hid (withinB al.data.toList ah.data.toList lo.data.toList hi.data.toList=(A&&B&&decide (c<=0)&&D)):=qA (by rw[hA,hB,hc,hD];rfl);have HN1:Hid (∀W,Calls Tryz.prog 11 #[.agg #[.string al,.string ah]] W λe w'=>e= .returned (.bool A)/\Ext W w'):=qA (λW=>by rw[hA];exact spanRight_calls al ah W h1 h2);have HN2:Hid (∀W,Calls Tryz.prog 11 #[.agg #[.string lo,.string hi]] W λe w'=>e= .returned (.bool B)/\Ext W w'):=qA (λW=>by rw[hB];exact spanRight_calls lo hi W h3 h4);have HC1:Hid (∀W,Calls Tryz.prog 102 #[.agg #[.string lo],.agg #[.string al]] W λe w'=>e= .returned (.int .i64 c)/\Ext W w'):=qA (λW=>by rw[hc];exact compareT_calls lo al W);have HA:Hid (∀W,Calls Tryz.prog 114 #[.agg #[.string hi],.agg #[.string ah]] W λe w'=>e= .returned (.bool D)/\Ext W w'):=qA (λW=>by rw[hD];exact over_calls hi ah W);have HE1:=qA (ends_calls al ah);have HE2:=qA (ends_calls lo hi);generalize withinB al.data.toList ah.data.toList lo.data.toList hi.data.toList=res at HR ⊢;clear hA hB hc hD
 have hw:∃w2,w2=(w.alloc (.cells #[.string al,.string ah] 30)).alloc (.cells #[.string lo,.string hi] 30)/\Ext w w2/\Blk w2 w.heap.size [.string al,.string ah] 30/\Blk w2 (w.heap.size+1) [.string lo,.string hi] 30:=by
  refine⟨_,rfl,((qK _ w).alloc (qL _) _).alloc (by simp) _,(Blk.new w _ _).alloc _,?_⟩
  have:=Blk.new (w.alloc (.cells #[.string al,.string ah] 30)) [.string lo,.string hi] 30
  rwa [World.size_alloc]at this
 obtain⟨w2,e2,x2,b1,b2⟩:=hw;have X2':=qA x2;have B1:=qA b1;have B2:=qA b2;have c0:=b1.cell 0;have c1:=b1.cell 1;have c2:=b2.cell 0;have c3:=b2.cell 1;simp only[qB,qC]at c0 c1 c2 c3;clear x2 b1 b2;go_enter Tryz.func48,Tryz.ntmps48;go_wp2_with fail;rw[<- e2];clear e2;go_wp2_with fail;refine (HE1.out _).mono ?_;rintro e w3 ⟨rfl,hx3⟩;have d2:=(B2.out.ext' hx3).cell 0;have d3:=(B2.out.ext' hx3).cell 1;simp only[qB,qC]at d2 d3;have X3:=qA hx3;clear hx3 c0 c1 c2 c3
 have hw:∃w4,w4=(w3.alloc (.cells #[.string al] 97)).alloc (.cells #[.string ah] 98)/\Ext w3 w4/\Blk w4 w3.heap.size [.string al] 97/\Blk w4 (w3.heap.size+1) [.string ah] 98:=by
  refine⟨_,rfl,((qK _ w3).alloc (qL _) _).alloc (by simp) _,(Blk.new w3 _ _).alloc _,?_⟩
  have:=Blk.new (w3.alloc (.cells #[.string al] 97)) [.string ah] 98
  rwa [World.size_alloc]at this
 obtain⟨w4,e4,x4,b3,b4⟩:=hw;have hk1:=B1.out.lt;have hk2:=B2.out.lt;have hk3:=X3.out.size;have k1:w.heap.size≠w3.heap.size:=by omega
 have k2:w.heap.size+1≠w3.heap.size:=by omega
 have k3:w.heap.size≠w3.heap.size+1:=by omega
 have X4:=qA (qJ X3.out x4);have B3:=qA b3;have B4:=qA b4;have k4:w.heap.size+1≠w3.heap.size+1:=by omega
 have r2:=(B2.out.ext' X4.out).cell 0;have r3:=(B2.out.ext' X4.out).cell 1;simp only[qB,qC]at r2 r3;clear x4 b3 b4;go_upto_region 2 with fail;rw[<- e4];clear e4 d2 d3;go_wp2_with fail;refine (HE2.out _).mono ?_;rintro e w5 ⟨rfl,hx5⟩
 have hw:∃w6,w6=(w5.alloc (.cells #[.string lo] 97)).alloc (.cells #[.string hi] 98)/\Ext w5 w6/\Blk w6 w5.heap.size [.string lo] 97/\Blk w6 (w5.heap.size+1) [.string hi] 98:=by
  refine⟨_,rfl,((qK _ w5).alloc (qL _) _).alloc (by simp) _,(Blk.new w5 _ _).alloc _,?_⟩
  have:=Blk.new (w5.alloc (.cells #[.string lo] 97)) [.string hi] 98
  rwa [World.size_alloc]at this
 obtain⟨w6,e6,x6,b5,b6⟩:=hw;have hk5:=hx5.size;have hk6:=B4.out.lt;have X6:=qA (qJ X4.out (qJ hx5 x6));have Y6:=qA (qJ hx5 x6);have B5:=qA b5;have B6:=qA b6
 have hall:∀W,Ext w6 W->W.cell? ⟨w.heap.size,0,none⟩=some (.string al)/\W.cell? ⟨w.heap.size,1,none⟩=some (.string ah)/\W.cell? ⟨w.heap.size+1,0,none⟩=some (.string lo)/\W.cell? ⟨w.heap.size+1,1,none⟩=some (.string hi)/\W.cell? ⟨w3.heap.size,0,none⟩=some (.string al)/\W.cell? ⟨w3.heap.size+1,0,none⟩=some (.string ah)/\W.cell? ⟨w5.heap.size,0,none⟩=some (.string lo)/\W.cell? ⟨w5.heap.size+1,0,none⟩=some (.string hi):=λW hW=>
  ⟨(B1.out.ext' (qJ X6.out hW)).cell 0,(B1.out.ext' (qJ X6.out hW)).cell 1,(B2.out.ext' (qJ X6.out hW)).cell 0,(B2.out.ext' (qJ X6.out hW)).cell 1,(B3.out.ext' (qJ Y6.out hW)).cell 0,(B4.out.ext' (qJ Y6.out hW)).cell 0,(B5.out.ext' hW).cell 0,(B6.out.ext' hW).cell 0⟩
 have HALL:=qA hall;have XW:Hid (∀W,Ext w6 W->Ext w W):=qA (λW hW=>by have h0:=X2'.out;exact qJ h0 (qJ X6.out hW));clear hx5 x6 b5 b6 hall r2 r3;go_upto_region 3 with fail;rw[<- e6];clear e6;obtain⟨q0,q1,q2,q3,q4,q5,q6,q7⟩:=HALL.out w6 (qK _ _);go_wp2_with fail;refine (HN1.out _).mono ?_;rintro e w7 ⟨rfl,hx7⟩;have Y7:=qA hx7;clear q0 q1 q2 q3 q4 q5 q6 q7;obtain⟨q0,q1,q2,q3,q4,q5,q6,q7⟩:=HALL.out w7 hx7;clear hx7;cases A
 · go_wp2_with fail
   go_ret;exact⟨ret_bool (by rw[HR.out];first | rfl | simp),XW.out _ Y7.out⟩
 · go_wp2_with fail
   refine (HN2.out _).mono ?_;rintro e w8 ⟨rfl,hx8⟩;have Y8:=qA (qJ Y7.out hx8);clear q0 q1 q2 q3 q4 q5 q6 q7 hx8;obtain⟨q0,q1,q2,q3,q4,q5,q6,q7⟩:=HALL.out w8 Y8.out;cases B
   · go_wp2_with fail
     go_ret;exact⟨ret_bool (by rw[HR.out];first | rfl | simp),XW.out _ Y8.out⟩
   · go_wp2_with fail
     refine (HC1.out _).mono ?_;rintro e w9 ⟨rfl,hx9⟩;have Y9:=qA (qJ Y8.out hx9);clear q0 q1 q2 q3 q4 q5 q6 q7 hx9;obtain⟨q0,q1,q2,q3,q4,q5,q6,q7⟩:=HALL.out w9 Y9.out;cases hcz:decide (c<=0)
     · rw[hcz]at HR
       go_wp2_with fail;go_ret;exact⟨ret_bool (by rw[HR.out];first | rfl | simp),XW.out _ Y9.out⟩
     · rw[hcz]at HR
       go_wp2_with fail;refine (HA.out _).mono ?_;rintro e w10 ⟨rfl,hx10⟩;have Y10:=qA (qJ Y9.out hx10);clear hx10;go_wp2_with fail;go_ret;exact⟨ret_bool (by rw[HR.out];first | rfl | simp),XW.out _ Y10.out⟩
end Go.Proofs.YtmpmggejhnmakaaGreatDoor
/- tract: numbers, open stretches. -/
namespace Go.Proofs.YtmpmggejhnmakaaGreatDoor
open Go.RowKit
def badN (n:Int):Bool:=decide (n<1)||decide (1073741824<n)
theorem number1_calls (n:Int)(w:World):Calls Tryz.prog 101 (#[.int .i64 n]++ #[]) w λe w'=>e= .returned (.bool (badN n))/\Ext w w':=by
 have HR:Hid (badN n=(decide (n<1)||decide (1073741824<n))):=qA rfl;generalize badN n=res at *;cases h1:decide (n<1)<;>cases h2:decide (1073741824<n)
 all_goals
  rw[h1,h2]at HR;go_enter Tryz.func101,Tryz.ntmps101;go_wp2_with fail;go_ret;exact⟨by rw[HR.out];rfl,qK _ _⟩
theorem numberL_calls (l:List Int)(ao:Option Addr)(cap:Nat)(w:World)(hl:l.length<=1000000)(hr:Rows 1 encInt w.heap.size w ao l):
 Calls Tryz.prog 33 #[.slice ao l.length cap] w λe w'=>e= .returned (.bool (!l.any badN))/\Ext w w':=by
 have HC:=qA (containsInt_calls 101 #[] (enters_of Tryz.func101 (by kernel_rfl) rfl) badN l ao cap w hl hr (λW _ x _=>number1_calls x W));clear hr;go_enter Tryz.func33,Tryz.ntmps33;go_wp2_with fail;refine HC.out.mono ?_;rintro e w' ⟨rfl,hx⟩;have X1:=qA hx;clear hx;go_wp2_with fail;go_ret;exact⟨rfl,X1.out⟩
theorem rows_int1 {w:World}{b:Nat}{n:Int}(h:w.cell? ⟨b,0,none⟩=some (.int .i64 n)):Rows 1 encInt w.heap.size w (some ⟨b,0,none⟩) [n]:=λ_=>
 ⟨b,0,rfl,block_lt_of_cell h,λi x hi j v hj=>by
  match i,hi with
  | 0,hi=>
    simp only[qB,Option.some.injEq]at hi;subst hi
    match j,hj with
    | 0,hj=>
      simp only[encInt,qB,Option.some.injEq]at hj;subst hj;exact h
    | j+1,hj=>simp[encInt]at hj
  | i+1,hi=>simp at hi⟩
theorem number_calls1 (n:Int)(b cap:Nat)(w:World)(h:w.cell? ⟨b,0,none⟩=some (.int .i64 n)):Calls Tryz.prog 33 #[.slice (some ⟨b,0,none⟩) 1 cap] w λe w'=>e= .returned (.bool (!badN n))/\Ext w w':=by
 have:=numberL_calls [n] (some ⟨b,0,none⟩) cap w (by simp) (rows_int1 h)
 simpa using this
theorem trThere_calls (tb:Nat)(b:Bool)(w:World)(hc:w.cell? ⟨tb,6,none⟩=some (.bool b)):Calls Tryz.prog 38 #[.pointer (some ⟨tb,0,none⟩)] w λe w'=>e= .returned (.bool b)/\w=w':=by
 go_enter Tryz.func38,Tryz.ntmps38;go_wp2_with fail;go_ret;exact⟨rfl,rfl⟩
theorem anyOne_calls (s:StrZ)(w:World):Calls Tryz.prog 95 (#[.agg (encSt s).toArray]++ #[]) w λe w'=>e= .returned (.bool true)/\Ext w w':=by
 obtain⟨lo,hi,ep,st,sc⟩:=s;have HX:Hid (Ext w (w.alloc (.cells #[.string lo,.string hi,.int .i64 ep,.int .u8 st,.int .i64 sc] 92))):=qA ((qK _ w).alloc (qL _) _);simp only[encSt];go_enter Tryz.func95,Tryz.ntmps95;go_wp2_with fail;go_ret;exact⟨rfl,HX.out⟩
def openQ (k:List UInt8)(q:StrZ->Bool)(p:StrZ):Bool:=(p.st==1)&&hasB p.lo.data.toList p.hi.data.toList k&&q p
theorem open1_calls (s:StrZ)(key:ByteArray)(kb ib:Nat)(g:Nat)(lb:Array Value)(eg:∀args w,(callFunc g args).run Tryz.prog w= .ok (.enter g args) w)(q:StrZ->Bool)(w:World)
 (hk:w.cell? ⟨kb,0,none⟩=some (.string key)) (hi:w.cell? ⟨ib,0,none⟩=some (.func (.func g) #[] lb)) (hq:∀W,Ext w W->Calls Tryz.prog g (#[.agg (encSt s).toArray]++lb) W λe w'=>e= .returned (.bool (q s))/\Ext W w')
 (h1:s.lo.size<=140737488351232) (h2:s.hi.size<=140737488351232) (h3:key.size<=140737488351232):
 Calls Tryz.prog 161 (#[.agg (encSt s).toArray]++ #[.pointer (some ⟨kb,0,none⟩),.pointer (some ⟨ib,0,none⟩)]) w λe w'=>e= .returned (.bool (openQ key.data.toList q s))/\Ext w w':=by
 obtain⟨lo,hi',ep,st,sc⟩:=s;obtain⟨w1,hw1⟩:∃w1,w1=w.alloc (.cells #[.string lo,.string hi',.int .i64 ep,.int .u8 st,.int .i64 sc] 92):=⟨_,rfl⟩;have hx1:Ext w w1:=by rw[hw1];exact (qK _ w).alloc (qL _) _
 have hb1:Blk w1 w.heap.size [.string lo,.string hi',.int .i64 ep,.int .u8 st,.int .i64 sc] 92:=by rw[hw1];exact Blk.new w _ _
 have HC1:Hid (∀W,Calls Tryz.prog 109 #[.agg #[.string lo,.string hi'],.string key] W λe w'=>e= .returned (.bool (hasB lo.data.toList hi'.data.toList key.data.toList))/\Ext W w'):=qA λW=>has_calls lo hi' key W h1 h2 h3;have HC2:Hid (∀W,Ext w1 W->Calls Tryz.prog g (#[.agg #[.string lo,.string hi',.int .i64 ep,.int .u8 st,.int .i64 sc]]++lb) W λe w'=>e= .returned (.bool (q ⟨lo,hi',ep,st,sc⟩))/\Ext W w'):=qA λW hW=>hq W (qJ hx1 hW);have c0:=hb1.cell 0;have c1:=hb1.cell 1;have c2:=hb1.cell 2;have c3:=hb1.cell 3;have c4:=hb1.cell 4;simp only[qB,qC]at c0 c1 c2 c3 c4;have d0:=(hx1.cell (p:=⟨kb,0,none⟩) (block_lt_of_cell hk)).trans hk;have d1:=(hx1.cell (p:=⟨ib,0,none⟩) (block_lt_of_cell hi)).trans hi;have HKB:=qA d0;have HIB:=qA d1;have HSB:=qA hb1;have HR:Hid (openQ key.data.toList q ⟨lo,hi',ep,st,sc⟩=((st==1)&&hasB lo.data.toList hi'.data.toList key.data.toList&&q ⟨lo,hi',ep,st,sc⟩)):=qA rfl;have X1:=qA hx1;have W1:=qA hw1;clear hk hi hq hx1 hb1 hw1;generalize openQ key.data.toList q ⟨lo,hi',ep,st,sc⟩=res at *;generalize hasB lo.data.toList hi'.data.toList key.data.toList=b2 at *;generalize q ⟨lo,hi',ep,st,sc⟩=b3 at *;simp only[encSt];cases hs:(st==1) with
 | false=>
   rw[hs]at HR;go_enter Tryz.func161,Tryz.ntmps161;go_upto_region 1 with fail;rw[<- W1.out];clear W1;go_wp2_with fail;go_ret;exact⟨by rw[HR.out];rfl,X1.out⟩
 | true=>
   rw[hs]at HR;cases b2 with
   | false=>
     go_enter Tryz.func161,Tryz.ntmps161;go_upto_region 1 with fail;rw[<- W1.out];clear W1;go_wp2_with fail;refine (HC1.out _).mono ?_;rintro e w2 ⟨rfl,hx2⟩;have X2:=qA (qJ X1.out hx2);clear hx2;go_wp2_with fail;go_ret;exact⟨by rw[HR.out];rfl,X2.out⟩
   | true=>
     go_enter Tryz.func161,Tryz.ntmps161;go_upto_region 1 with fail;rw[<- W1.out];clear W1;go_wp2_with fail;refine (HC1.out _).mono ?_;rintro e w2 ⟨rfl,hx2⟩;have hb2:=HSB.out.ext' hx2;have e0:=hb2.cell 0;have e1:=hb2.cell 1;have e2:=hb2.cell 2;have e3:=hb2.cell 3;have e4:=hb2.cell 4;simp only[qB,qC]at e0 e1 e2 e3 e4;have e5:=(hx2.cell (p:=⟨ib,0,none⟩) (block_lt_of_cell HIB.out)).trans HIB.out;have Y2:=qA hx2;clear hb2 hx2 c0 c1 c2 c3 c4 d0 d1;go_wp2_with fail;refine (HC2.out _ Y2.out).mono ?_;rintro e w3 ⟨rfl,hx3⟩;have X3:=qA (qJ X1.out (qJ Y2.out hx3));clear hx3;go_wp2_with fail;go_ret;exact⟨by rw[HR.out];rfl,X3.out⟩
def openL (ps:List StrZ)(k:List UInt8)(q:StrZ->Bool):Bool:=ps.any (openQ k q)
def StrZ.small (s:StrZ):Prop:=s.lo.size<=140737488351232/\s.hi.size<=140737488351232
theorem open_calls (tb:Nat)(ps:List StrZ)(ao:Option Addr)(cap:Nat)(key:ByteArray)(g:Nat)(lb:Array Value)(eg:∀args w,(callFunc g args).run Tryz.prog w= .ok (.enter g args) w)(q:StrZ->Bool)(w:World)
 (hc:w.cell? ⟨tb,3,none⟩=some (.slice ao ps.length cap)) (hl:ps.length<=1000000) (hr:Rows 5 encSt w.heap.size w ao ps) (hs:∀s∈ps,s.small) (hk:key.size<=140737488351232)
 (hq:∀W,Ext w W->∀s∈ps,Calls Tryz.prog g (#[.agg (encSt s).toArray]++lb) W λe w'=>e= .returned (.bool (q s))/\Ext W w'):
 Calls Tryz.prog 86 #[.pointer (some ⟨tb,0,none⟩),.string key,.func (.func g) #[] lb] w λe w'=>e= .returned (.bool (openL ps key.data.toList q))/\Ext w w':=by
 obtain⟨w1,hw1⟩:∃w1,w1=(w.alloc (.cells #[.string key] 9)).alloc (.cells #[.func (.func g) #[] lb] 107):=⟨_,rfl⟩;have hx1:Ext w w1:=by rw[hw1];exact ((qK _ w).alloc (qL _) _).alloc (by simp) _
 have hb1:Blk w1 w.heap.size [.string key] 9:=by rw[hw1];exact (Blk.new w _ _).alloc _
 have hb2:Blk w1 (w.heap.size+1) [.func (.func g) #[] lb] 107:=by
  rw[hw1]
  have:=Blk.new (w.alloc (.cells #[.string key] 9)) [.func (.func g) #[] lb] 107
  rwa [World.size_alloc]at this
 have c0:=(hx1.cell (p:=⟨tb,3,none⟩) (block_lt_of_cell hc)).trans hc
 have HC:=qA (containsStz_calls 161 #[.pointer (some ⟨w.heap.size,0,none⟩),.pointer (some ⟨w.heap.size+1,0,none⟩)] (enters_of Tryz.func161 (by kernel_rfl) rfl) (openQ key.data.toList q) ps ao cap w1 hl ((hr.ext hx1).mono hx1.size)
  (λW hW x hx=>open1_calls x key w.heap.size (w.heap.size+1) g lb eg q W ((hb1.ext' hW).cell 0) ((hb2.ext' hW).cell 0) (λW' hW'=>hq W' (qJ hx1 (qJ hW hW')) x hx) (hs x hx).1 (hs x hx).2 hk))
 have X1:=qA hx1;have W1:=qA hw1;clear hc hr hs hk hq hx1 hb1 hb2 hw1;go_enter Tryz.func86,Tryz.ntmps86;go_upto_region 1 with fail;rw[<- W1.out];clear W1;go_wp2_with fail;refine HC.out.mono ?_;rintro e w2 ⟨rfl,hx2⟩;have X2:=qA (qJ X1.out hx2);clear hx2;go_wp2_with fail;go_ret;exact⟨rfl,X2.out⟩
end Go.Proofs.YtmpmggejhnmakaaGreatDoor
/- tract: before, closed, news. -/
namespace Go.Proofs.YtmpmggejhnmakaaGreatDoor
open Go.RowKit
def beforeD (scheme:Int)(right:Bool)(ended:Int):Int×Bool:=if (badN scheme|| !right)=true then (2,false) else (0,decide (ended<scheme))
theorem before_calls (tb:Nat)(scheme ended:Int)(right:Bool)(w:World)(h4:w.cell? ⟨tb,4,none⟩=some (.int .i64 ended))(h6:w.cell? ⟨tb,6,none⟩=some (.bool true)):
 Calls Tryz.prog 44 #[.pointer (some ⟨tb,0,none⟩),.int .i64 scheme,.bool right] w λe w'=>e= .returned (.tuple #[.int .i64 (beforeD scheme right ended).1,.bool (beforeD scheme right ended).2])/\Ext w w':=by
 obtain⟨w1,hw1⟩:∃w1,w1=w.alloc (.cells #[.int .i64 scheme] 3):=⟨_,rfl⟩;have hx1:Ext w w1:=by rw[hw1];exact (qK _ w).alloc (qL _) _
 have hb1:Blk w1 w.heap.size [.int .i64 scheme] 3:=by rw[hw1];exact Blk.new w _ _
 have HN:=qA (number_calls1 scheme w.heap.size 1 w1 (hb1.cell 0));have HD:Hid (beforeD scheme right ended=if (badN scheme|| !right)=true then (2,false) else (0,decide (ended<scheme))):=qA rfl;have X1:=qA hx1;have W1:=qA hw1;have hbl:=block_lt_of_cell h4;have H4:=qA h4;clear hx1 hb1 hw1 h4;generalize beforeD scheme right ended=bd at *;generalize badN scheme=bad at *;cases bad with
 | true=>
   have hbd:bd=(2,false):=by rw[HD.out];rfl
   have BD:=qA hbd;clear hbd HD;go_enter Tryz.func44,Tryz.ntmps44;go_wp2_with (go_at_call 38;refine (trThere_calls tb true _ h6).mono ?_;rintro e w' ⟨rfl,rfl⟩);rw[<- W1.out];refine HN.out.mono ?_;rintro e w2 ⟨rfl,hx⟩;have X2:=qA (qJ X1.out hx);clear hx;go_wp2_with fail;go_ret2;exact⟨by rw[BD.out];rfl,X2.out⟩
 | false=>
   cases right with
   | false=>
     have hbd:bd=(2,false):=by rw[HD.out];rfl
     have BD:=qA hbd;clear hbd HD;go_enter Tryz.func44,Tryz.ntmps44;go_wp2_with (go_at_call 38;refine (trThere_calls tb true _ h6).mono ?_;rintro e w' ⟨rfl,rfl⟩);rw[<- W1.out];refine HN.out.mono ?_;rintro e w2 ⟨rfl,hx⟩;have X2:=qA (qJ X1.out hx);clear hx;go_wp2_with fail;go_ret2;exact⟨by rw[BD.out];rfl,X2.out⟩
   | true=>
     have hbd:bd=(0,decide (ended<scheme)):=by rw[HD.out];rfl
     have BD:=qA hbd;clear hbd HD;go_enter Tryz.func44,Tryz.ntmps44;go_wp2_with (go_at_call 38;refine (trThere_calls tb true _ h6).mono ?_;rintro e w' ⟨rfl,rfl⟩);rw[<- W1.out];refine HN.out.mono ?_;rintro e w2 ⟨rfl,hx⟩;have d4:=((qJ X1.out hx).cell (p:=⟨tb,4,none⟩) hbl).trans H4.out;have X2:=qA (qJ X1.out hx);clear hx;go_wp2_with fail;go_region;go_wp2_with fail;go_ret2;exact⟨by rw[BD.out];rfl,X2.out.drew⟩
theorem closed1_calls (s:StrZ)(w:World):Calls Tryz.prog 113 (#[.agg (encSt s).toArray]++ #[]) w λe w'=>e= .returned (.bool (s.st==2))/\Ext w w':=by
 obtain⟨lo,hi,ep,st,sc⟩:=s;have HX:Hid (Ext w (w.alloc (.cells #[.string lo,.string hi,.int .i64 ep,.int .u8 st,.int .i64 sc] 92))):=qA ((qK _ w).alloc (qL _) _);simp only[encSt];go_enter Tryz.func113,Tryz.ntmps113;go_wp2_with fail;go_ret;exact⟨rfl,HX.out⟩
theorem closed_calls (tb:Nat)(ps:List StrZ)(ao:Option Addr)(cap:Nat)(w:World)(hc:w.cell? ⟨tb,3,none⟩=some (.slice ao ps.length cap))(hl:ps.length<=1000000)(hr:Rows 5 encSt w.heap.size w ao ps):
 Calls Tryz.prog 45 #[.pointer (some ⟨tb,0,none⟩)] w λe w'=>∃k:Int,e= .returned (.int .i64 k)/\FirstG (λp=>p.st==2) ps k/\Ext w w':=by
 have HC:=qA (indexStz_calls 113 #[] (enters_of Tryz.func113 (by kernel_rfl) rfl) (λp=>p.st==2) ps ao cap w hl hr (λW _ x _=>closed1_calls x W));clear hr;go_enter Tryz.func45,Tryz.ntmps45;go_wp2_with fail;refine HC.out.mono ?_;rintro e w' ⟨k,rfl,hk,hx⟩;have X1:=qA hx;have K1:=qA hk;clear hx hk;go_wp2_with fail;go_ret;exact⟨k,rfl,K1.out,X1.out⟩
def newsN (ls:List HoldV)(rows:List RowD):Nat:=(ls.filter λv=>v.put&& !(getR (vkey v) rows).isSome).length
theorem news_calls (rb hb pb:Nat)(rv:Value)(rows:List RowD)(ls:List HoldV)(ao:Option Addr)(cap:Nat)(w:World)(T:RTab w rb rv rows)(hl:ls.length<=1000000)(hr:Rows 7 encHV w.heap.size w ao ls):
 Calls Tryz.prog 128 #[.agg #[.pointer (some ⟨rb,0,none⟩),.pointer (some ⟨hb,0,none⟩),.pointer (some ⟨pb,0,none⟩)],.slice ao ls.length cap] w λe w'=>e= .returned (.int .i64 (newsN ls rows))/\Ext w w':=by
 obtain⟨w1,hw1⟩:∃w1,w1=w.alloc (.cells #[.pointer (some ⟨rb,0,none⟩),.pointer (some ⟨hb,0,none⟩),.pointer (some ⟨pb,0,none⟩)] 82):=⟨_,rfl⟩;have hx1:Ext w w1:=by rw[hw1];exact (qK _ w).alloc (qL _) _
 have hb1:Blk w1 w.heap.size [.pointer (some ⟨rb,0,none⟩),.pointer (some ⟨hb,0,none⟩),.pointer (some ⟨pb,0,none⟩)] 82:=by rw[hw1];exact Blk.new w _ _
 have HG:=qA (λk W (hW:Ext w W)=>getT_calls rb rv rows k W (T.ext hW));have HR:=qA hr;have X1:=qA hx1;have W1:=qA hw1;have B1:=qA hb1;clear T hr hx1 hw1 hb1;go_enter Tryz.func128,Tryz.ntmps128;go_wp2_with fail;rw[<- W1.out];clear W1;go_loopw [5,12] (λvn vi wr=>∃(k:Nat),k<=ls.length/\vn= .int .i64 (newsN (ls.take k) rows)/\vi= .int .i64 k/\Ext w1 wr) (λ_ vi _=>ls.length - (intOf vi).toNat)
 case atStart=>exact⟨0,Nat.zero_le _,rfl,rfl,qK _ _⟩
 case round=>
  obtain⟨k,hk,rfl,rfl,hx⟩:=hrel;have K1:=qA hx;clear hx;by_cases hlt:k<ls.length
  · obtain⟨x,hx⟩:∃x,ls[k]? =some x:=⟨_,qE hlt⟩
    obtain⟨b,off,rfl,hb,hcell⟩:=HR.out (by intro e;rw[e]at hlt;simp at hlt);have hcx:=hcell k x hx;have hmove:∀j,wr.cell? ⟨b,j,none⟩=w.cell? ⟨b,j,none⟩:=λj=>(qJ X1.out K1.out).cell (p:=⟨b,j,none⟩) hb
    have hstep:newsN (ls.take (k+1)) rows=newsN (ls.take k) rows+if (x.put&& !(getR (vkey x) rows).isSome)=true then 1 else 0:=by
     unfold newsN;rw[filter_succ _ ls k x hx,qG]
     split<;>simp
    have hnk:newsN (ls.take k) rows<=1000000:=by
     unfold newsN;exact qM (List.length_filter_le _ _) (by rw[List.length_take];omega)
    obtain⟨key,cl,nm,xo,xn,xc,yo,yn,yc,put,value⟩:=x;have d0:=(hmove _).trans (hcx 0 _ rfl);have d1:=(hmove _).trans (hcx 1 _ rfl);have d2:=(hmove _).trans (hcx 2 _ rfl);have d3:=(hmove _).trans (hcx 3 _ rfl);have d4:=(hmove _).trans (hcx 4 _ rfl);have d5:=(hmove _).trans (hcx 5 _ rfl);have d6:=(hmove _).trans (hcx 6 _ rfl);simp only[Nat.add_zero]at d0;have i0:(0:Int)<=(k:Int):=by omega
    have i1:(k:Int)<(ls.length:Int):=by omega
    have t0:=(B1.out.ext' K1.out).cell 0;simp only[qB]at t0;have hbl:=B1.out.lt;have hsz:=K1.out.size;have hne:w.heap.size≠wr.heap.size:=by omega
    obtain⟨w3,hw3⟩:∃w3,w3=wr.alloc (.cells #[.string key,.int .i64 cl,.int .i64 nm,.slice xo xn xc,.slice yo yn yc,.bool put,.string value] 48):=⟨_,rfl⟩;have hx3:Ext wr w3:=by rw[hw3];exact (qK _ wr).alloc (qL _) _
    have hb3:Blk w3 wr.heap.size [.string key,.int .i64 cl,.int .i64 nm,.slice xo xn xc,.slice yo yn yc,.bool put,.string value] 48:=by rw[hw3];exact Blk.new wr _ _
    have X3:=qA (qJ K1.out hx3);have W3:=qA hw3;have B3:=qA hb3;have u0:=(B1.out.ext' X3.out).cell 0;have v0:=hb3.cell 0;have v5:=hb3.cell 5;simp only[qB,qC]at u0 v0 v5;have ST:=qA hstep;have hvk:vkey ⟨key,cl,nm,xo,xn,xc,yo,yn,yc,put,value⟩=key.data.toList:=rfl;rw[hvk]at ST;clear hcell hcx hmove hx hx3 hw3 hb3 hstep hvk;generalize newsN (ls.take k) rows=nk at *;go_upto_region 5 with fail;rw[<- W3.out];clear W3 d0 d1 d2 d3 d4 d5 d6 t0;go_wp2_with fail;refine (HG.out key _ (qJ X1.out X3.out)).mono ?_;rintro e w4 ⟨rfl,hx4⟩;have y5:=(B3.out.ext' hx4).cell 5;simp only[qB,qC]at y5;have X4:=qA (qJ X3.out hx4);clear hx4 u0 v0 v5;generalize getR key.data.toList rows=gr at *;cases hp:put<;>cases hs:gr.isSome
    all_goals
     rw[hp,hs]at ST;subst hp;have ST2:=ST.out;simp only[Bool.false_and,Bool.true_and,Bool.not_true,Bool.not_false,Bool.false_eq_true,if_false,if_true,Nat.add_zero]at ST2;have ST3:=qA ST2;clear ST ST2;go_wp2_with fail;go_roundw
     case rel=>exact⟨k+1,by omega,by (first | (rw[ST3.out];done) | (rw[ST3.out];rfl) | (rw[ST3.out];go_num)),by go_num,X4.out⟩
     case measure=>simp[intOf];omega
  · obtain rfl:k=ls.length:=by omega
    go_wp2_with fail;go_ret;exact⟨by rw[List.take_length];rfl,qJ X1.out K1.out⟩
end Go.Proofs.YtmpmggejhnmakaaGreatDoor
