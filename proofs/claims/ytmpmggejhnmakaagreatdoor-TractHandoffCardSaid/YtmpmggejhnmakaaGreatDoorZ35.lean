/- tract.Freeze. -/
import Derived.Test.YtmpmggejhnmakaaGreatDoorZ34
import Derived.Test.YtmpmggejhnmakaaGreatDoorZ01
set_option maxRecDepth 100000
set_option maxHeartbeats 12800000
namespace Go.Proofs.YtmpmggejhnmakaaGreatDoor
open Go.RowKit
def frzQ (lo hi:ByteArray)(ep:Int)(p:StrZ):Bool:=(p.ep==ep)&&withinB lo.data.toList hi.data.toList p.lo.data.toList p.hi.data.toList
theorem frz1_calls (s:StrZ)(lo hi:ByteArray)(ep:Int)(eb sb:Nat)(w:World)(he:w.cell? ⟨eb,0,none⟩=some (.int .i64 ep))(h0:w.cell? ⟨sb,0,none⟩=some (.string lo))(h1:w.cell? ⟨sb,1,none⟩=some (.string hi))(hs:s.small)(hl:lo.size<=140737488351232)(hh:hi.size<=140737488351232):
 Calls Tryz.prog 47 (#[.agg (encSt s).toArray]++ #[.pointer (some ⟨eb,0,none⟩),.pointer (some ⟨sb,0,none⟩)]) w λe w'=>e= .returned (.bool (frzQ lo hi ep s))/\Ext w w':=by
 obtain⟨slo,shi,sep,st,sc⟩:=s;obtain⟨w1,hw1⟩:∃w1,w1=w.alloc (.cells #[.string slo,.string shi,.int .i64 sep,.int .u8 st,.int .i64 sc] 92):=⟨_,rfl⟩;have hx1:Ext w w1:=by rw[hw1];exact (qK _ w).alloc (qL _) _
 have hb1:Blk w1 w.heap.size [.string slo,.string shi,.int .i64 sep,.int .u8 st,.int .i64 sc] 92:=by rw[hw1];exact Blk.new w _ _
 have HC1:Hid (∀W,Calls Tryz.prog 48 #[.agg #[.string lo,.string hi],.agg #[.string slo,.string shi]] W λe w'=>e= .returned (.bool (withinB lo.data.toList hi.data.toList slo.data.toList shi.data.toList))/\Ext W w'):=qA λW=>within_calls lo hi slo shi W hl hh hs.1 hs.2;have c0:=hb1.cell 0;have c1:=hb1.cell 1;have c2:=hb1.cell 2;simp only[qB,qC]at c0 c1 c2;have d0:=(hx1.cell (p:=⟨eb,0,none⟩) (block_lt_of_cell he)).trans he;have d1:=(hx1.cell (p:=⟨sb,0,none⟩) (block_lt_of_cell h0)).trans h0;have d2:=(hx1.cell (p:=⟨sb,1,none⟩) (block_lt_of_cell h1)).trans h1;have HR:Hid (frzQ lo hi ep ⟨slo,shi,sep,st,sc⟩=((sep==ep)&&withinB lo.data.toList hi.data.toList slo.data.toList shi.data.toList)):=qA rfl;have X1:=qA hx1;have W1:=qA hw1;clear he h0 h1 hs hx1 hb1 hw1;generalize frzQ lo hi ep ⟨slo,shi,sep,st,sc⟩=res at *;generalize withinB lo.data.toList hi.data.toList slo.data.toList shi.data.toList=b2 at *;simp only[encSt];cases hs:(sep==ep) with
 | false=>
   rw[hs]at HR;go_enter Tryz.func47,Tryz.ntmps47;go_upto_region 1 with fail;rw[<- W1.out];clear W1;go_wp2_with fail;go_ret;exact⟨by rw[HR.out];rfl,X1.out⟩
 | true=>
   rw[hs]at HR;go_enter Tryz.func47,Tryz.ntmps47;go_upto_region 1 with fail;rw[<- W1.out];clear W1;go_wp2_with fail;refine (HC1.out _).mono ?_;rintro e w2 ⟨rfl,hx2⟩;have X2:=qA (qJ X1.out hx2);clear hx2;go_wp2_with fail;go_ret;exact⟨by rw[HR.out];rfl,X2.out⟩
def frzOn (scheme:Int)(lo hi:ByteArray)(ep:Int)(d:TrD):List UInt8×Int×TrD:=match closedN d.parts with
 | some n=>match d.parts[n]? with
   | some x=>if x.sc=scheme then (tabW x.lo x.hi d,0,d) else ([],26,d)
   | none=>([],0,d)
 | none=>match d.parts.findIdx? (frzQ lo hi ep) with
   | some n=>match d.parts[n]? with
     | some x=>(tabW lo hi d,0,{ d with parts:=repD d.parts (frzNew scheme ep lo hi x) n (n+1) })
     | none=>([],0,d)
   | none=>([],20,d)
def frzD (scheme:Int)(lo hi:ByteArray)(ep:Int)(d:TrD):List UInt8×Int×TrD:=
 if (beforeD scheme (spanB lo.data.toList hi.data.toList&& !badN ep) d.ended).2=false then ([],(beforeD scheme (spanB lo.data.toList hi.data.toList&& !badN ep) d.ended).1,d)
 else frzOn scheme lo hi ep d
theorem cutFold_pieces (hi:ByteArray)(B:Nat):∀(K:List (List UInt8))(st:List SpZ×ByteArray),(∀q∈st.1,q.1.size<=B/\q.2.size<=B)->st.2.size<=B->(∀k∈K,k.length<=B)->∀q∈(K.foldl (cutStep hi) st).1,q.1.size<=B/\q.2.size<=B
 | [],_,h,_,_=>h
 | k::K,st,h,h2,hK=>by
   rw[List.foldl_cons];have hk:=hK k (by simp);refine cutFold_pieces hi B K _ ?_ ?_ (λx hx=>hK x (by simp[hx]))
   · intro q hq
     unfold cutStep at hq
     split at hq
     · rcases List.mem_append.1 hq with e | e
       · exact h q e
       · rw[List.mem_singleton]at e
         subst e;exact⟨h2,by rw[size_mk];exact hk⟩
     · exact h q hq
   · unfold cutStep
     split
     · rw[size_mk];exact hk
     · exact h2
theorem cutD_small {xlo xhi lo hi:ByteArray}{B:Nat}(h1:xlo.size<=B)(h2:xhi.size<=B)(h3:lo.size<=B)(h4:hi.size<=B):∀q∈cutD xlo xhi [lo,hi],q.1.size<=B/\q.2.size<=B:=by
 have hK:∀k∈cutKs [lo,hi],k.length<=B:=λk hk=>by
  obtain⟨s,hs,rfl⟩:=cutKs_mem hk;rw[size_data];simp only[List.mem_cons,List.not_mem_nil,or_false]at hs;rcases hs with rfl | rfl
  · exact h3
  · exact h4
 intro q hq;unfold cutD at hq;rcases List.mem_append.1 hq with e | e
 · exact cutFold_pieces xhi B _ ([],xlo) (by simp) h1 hK q e
 · rw[List.mem_singleton]at e
   subst e;exact⟨cutFold_small xhi B _ ([],xlo) h1 hK,h2⟩
theorem frzNew_small {scheme ep:Int}{lo hi:ByteArray}{x:StrZ}(hx:x.small)(h3:lo.size<=1000)(h4:hi.size<=1000):∀s∈frzNew scheme ep lo hi x,s.small:=λs hs=>by
 unfold frzNew at hs;rw[List.mem_map]at hs;obtain⟨q,hq,rfl⟩:=hs
 have:=cutD_small hx.1 hx.2 (show lo.size<=140737488351232 by omega) (show hi.size<=140737488351232 by omega) q hq
 unfold frzP
 split<;>exact this
theorem TrTo.post {w w1 w2:World}{k:TrK}{d':TrD}(h:TrTo k d' w w1)(hx:Ext w1 w2):TrTo k d' w w2:=h.trans (λ_ hi _ _ _ _=>hi.self hx)
theorem TrTo.size {w w1:World}{k:TrK}{d':TrD}(h:TrTo k d' w w1):w.heap.size<=w1.heap.size:=by obtain⟨_,_,_,_,_,_,_,h⟩:=h;exact h.size
theorem within_span {lo hi xlo xhi:List UInt8}(h:withinB lo hi xlo xhi=true):spanB xlo xhi=true:=by
 unfold withinB at h;simp only[Bool.and_eq_true]at h;exact h.1.1.2
theorem rows_str2 {w:World}{b:Nat}{s1 s2:ByteArray}{t:TypeId}(h:Blk w b [.string s1,.string s2] t):Rows 1 encStr w.heap.size w (some ⟨b,0,none⟩) [s1,s2]:=λ_=>
 ⟨b,0,rfl,h.lt,λi x hi j v hj=>by
  match i,hi with
  | 0,hi=>
    simp only[qB,Option.some.injEq]at hi;subst hi
    match j,hj with
    | 0,hj=>rw[h.cell];simpa [encStr] using hj
    | j+1,hj=>simp[encStr]at hj
  | 1,hi=>
    simp only[qC,qB,Option.some.injEq]at hi;subst hi
    match j,hj with
    | 0,hj=>rw[h.cell];simpa [encStr] using hj
    | j+1,hj=>simp[encStr]at hj
  | i+2,hi=>simp at hi⟩
def FrzPost (scheme:Int)(lo hi:ByteArray)(ep:Int)(k:TrK)(d:TrD)(w:World)(e:Ending)(w':World):Prop:=
 ∃u,e= .returned (.tuple #[u,.int .i64 (frzD scheme lo hi ep d).2.1])/\w'.ownsRow 0 5 1 u (frzD scheme lo hi ep d).1.length ((frzD scheme lo hi ep d).1.flatMap encU8)/\(∀j,u.ownBlock=some j->w.heap.size<=j)/\TrTo k (frzD scheme lo hi ep d).2.2 w w'
theorem frz_none {scheme:Int}{lo hi:ByteArray}{ep E:Int}{k:TrK}{d:TrD}{w w':World}(T:TrIs w k d)(hx:Ext w w')(h:frzD scheme lo hi ep d=([],E,d)):FrzPost scheme lo hi ep k d w (.returned (.tuple #[.slice none 0 0,.int .i64 E])) w':=by
 unfold FrzPost;rw[h];exact⟨_,rfl,World.ownsRow_nil _ _ _ _,by simp[Value.ownBlock],T.self hx⟩
theorem eql_Sp (a b c e:ByteArray)(w:World):
 (binOp .eql 30 (.agg #[.string a,.string b]) (.agg #[.string c,.string e])).run Tryz.prog w= .ok (.bool (decide (a=c/\b=e))) w:=by
 have hS:Tryz.prog.underlying 30=some (.struct (Tryz.prog.fieldsOf 30)):=by kernel_rfl
 have hp:Tryz.prog.stoodInHeld 30=false:=by kernel_rfl
 have u2:=Tryz.underlying9;rw[run_eql_struct,show (10000:Nat)=9999+1 from rfl,run_equalIn_agg w 9999 30 _ _ hS hp];simp only[Program.fieldsOf,Tryz.underlying30];go_simp;by_cases h0:a=c<;>by_cases h1:b=e<;>simp[h0,h1,toList_iff_acts]
theorem tabW_len {w:World}{k:TrK}{d:TrD}(T:TrIs w k d)(lo hi:ByteArray):(tabW lo hi d).length<=30000000000000:=by
 have h1:=rowsW_len (l:=inR lo.data.toList hi.data.toList d.rows) (λr hr=>T.rt.ok r (inR_mem hr)) (by
  have:=T.rt.few
  rw[inR,List.length_drop,List.length_take];omega)
 have h2:=writeW_len (ds:=inD lo hi d.holds) (λx hx=>right_wfit (T.ht.ok x (inD_mem hx)).2) (by
  have h3:(inD lo hi d.holds).length<=d.holds.length:=List.length_filter_le _ _
  have:=T.ht.few;omega)
 have h4:=numsZ_len d.ns;have h5:=T.pt.len;unfold tabW pastW;simp only[qG];omega
theorem freeze_calls (k:TrK)(d:TrD)(scheme:Int)(lo hi:ByteArray)(ep:Int)(w:World)(T:TrIs w k d)(hl:lo.size<=1000)(hh:hi.size<=1000)(hfew:d.parts.length<=990):
 Calls Tryz.prog 18 #[.pointer (some ⟨k.tb,0,none⟩),.int .i64 scheme,.agg #[.string lo,.string hi],.int .i64 ep] w (FrzPost scheme lo hi ep k d w):=by
 obtain⟨w1,hw1⟩:∃w1,w1=(w.alloc (.cells #[.string lo,.string hi] 30)).alloc (.cells #[.int .i64 ep] 3):=⟨_,rfl⟩;have hx1:Ext w w1:=by rw[hw1];exact ((qK _ w).alloc (qL _) _).alloc (by simp) _
 have hb1:Blk w1 w.heap.size [.string lo,.string hi] 30:=by rw[hw1];exact (Blk.new w _ _).alloc _
 have hb2:Blk w1 (w.heap.size+1) [.int .i64 ep] 3:=by
  rw[hw1]
  have:=Blk.new (w.alloc (.cells #[.string lo,.string hi] 30)) [.int .i64 ep] 3
  rwa [World.size_alloc]at this
 obtain⟨R,hR⟩:∃R,R=(spanB lo.data.toList hi.data.toList&& !badN ep):=⟨_,rfl⟩;obtain⟨bd,hbd⟩:∃bd,bd=beforeD scheme R d.ended:=⟨_,rfl⟩
 have HB:Hid (∀W,Ext w1 W->Calls Tryz.prog 44 #[.pointer (some ⟨k.tb,0,none⟩),.int .i64 scheme,.bool R] W λe w'=>e= .returned (.tuple #[.int .i64 bd.1,.bool bd.2])/\Ext W w'):=qA (λW hW=>by
  have TW:=T.ext (qJ hx1 hW);have c4:=TW.blk.cell 4;have c6:=TW.blk.cell 6;simp only[qB,qC]at c4 c6
  have:=before_calls k.tb scheme d.ended R W c4 c6
  rwa [<- hbd]at this)
 have HS:=qA (λW=>spanRight_calls lo hi W (by omega) (by omega));have HN:=qA (λb cap W h=>number_calls1 ep b cap W h);have X1:=qA hx1;have B1:=qA hb1;have B2:=qA hb2;have W1:=qA hw1;have HT:=qA T;have HRR:=qA hR;have HBD:=qA hbd;have htl:=T.blk.lt;clear hw1 hx1 hb1 hb2 hR hbd T;go_enter Tryz.func18,Tryz.ntmps18;go_upto_region 1 with fail;rw[<- W1.out];clear W1;go_cut [10,11] from 19 to 31 (λa b W=>a= .int .i64 bd.1/\b= .bool bd.2/\Ext w1 W)
 case first=>
  have b0:=B1.out.cell 0;have b1:=B1.out.cell 1;have b2:=B2.out.cell 0;simp only[qB,qC]at b0 b1 b2;cases hsp:spanB lo.data.toList hi.data.toList with
  | false=>
    have hR:R=false:=by rw[HRR.out,hsp];rfl
    rw[hR]at HB;rw[hsp]at HS;clear hsp hR;go_wp2_with fail;refine (HS.out _).mono ?_;rintro e w2 ⟨rfl,hx2⟩;have X2:=qA hx2;clear hx2;go_wp2_with fail;refine (HB.out _ X2.out).mono ?_;rintro e w3 ⟨rfl,hx3⟩;have X3:=qA (qJ X2.out hx3);clear hx3;go_wp2_with fail;go_meet;exact⟨rfl,rfl,X3.out⟩
  | true=>
    have hR:R= !badN ep:=by rw[HRR.out,hsp];rfl
    rw[hR]at HB;rw[hsp]at HS;clear hsp hR;generalize badN ep=bn at *;go_wp2_with fail;refine (HS.out _).mono ?_;rintro e w2 ⟨rfl,hx2⟩;have e2:=(B2.out.ext' hx2).cell 0;simp only[qB]at e2;have X2:=qA (qJ hx2 ((qK _ w2).alloc (qL _) (.cells #[.int .i64 ep] 3)));have HN2:=qA (HN.out w2.heap.size 1 (w2.alloc (.cells #[.int .i64 ep] 3)) ((Blk.new w2 [.int .i64 ep] 3).cell 0));clear hx2;go_wp2_with fail;refine HN2.out.mono ?_;rintro e w3 ⟨rfl,hx3⟩;have X3:=qA (qJ X2.out hx3);clear hx3;go_wp2_with fail;refine (HB.out _ X3.out).mono ?_;rintro e w4 ⟨rfl,hx4⟩;have X4:=qA (qJ X3.out hx4);clear hx4;go_wp2_with fail;go_meet;exact⟨rfl,rfl,X4.out⟩
 case rest=>
  obtain⟨rfl,rfl,hx5⟩:=hcut;obtain⟨w5,rfl⟩:∃w5,w5=wc:=⟨_,rfl⟩;have X5:=qA (qJ X1.out hx5);have B5:=qA (B1.out.ext' hx5);have E5:=qA (B2.out.ext' hx5);clear hx5 B1 B2 HB HS HN;obtain⟨E,on⟩:=bd;cases on with
  | false=>
    have hd:frzD scheme lo hi ep d=([],E,d):=by
     unfold frzD;rw[<- HRR.out,<- HBD.out];rfl
    have HDD:=qA hd;clear hd;go_wp2_with fail;go_ret2;exact frz_none HT.out X5.out HDD.out
  | true=>
    have hd:frzD scheme lo hi ep d=frzOn scheme lo hi ep d:=by
     unfold frzD;rw[<- HRR.out,<- HBD.out];rfl
    have HDD:=qA hd;clear hd HRR HBD;have T5:=qA (HT.out.ext X5.out);obtain⟨ao,cap,_,hrow,c3⟩:=T5.out.slice;have HC:=qA (closed_calls k.tb d.parts ao cap w5 c3 (by omega) hrow);have HR:=qA hrow;have C3:=qA c3;clear hrow c3;go_wp2_with fail;refine HC.out.mono ?_;rintro e w6 ⟨kk,rfl,hk,hx6⟩;have X6:=qA hx6;have B6:=qA (B5.out.ext' hx6);have E6:=qA (E5.out.ext' hx6);have T6:=qA (T5.out.ext hx6);have Y6:=qA (qJ X5.out hx6);have e3:=(hx6.cell (p:=⟨k.tb,3,none⟩) (by have:=X5.out.size;show k.tb<_;omega)).trans C3.out;clear hx6;rcases first_idx hk with ⟨rfl,hno⟩ | ⟨n,x,rfl,hyes,hnx,hst⟩
    · have hQ:∀(E:Int),d.parts.findIdx? (frzQ lo hi ep)=none->frzOn scheme lo hi ep d=([],20,d):=λ_ h=>by unfold frzOn closedN;rw[hno];simp only[h]
      have hS0:=B6.out.cell 0;have hS1:=B6.out.cell 1;have hE0:=E6.out.cell 0;simp only[qB,qC]at hS0 hS1 hE0
      have HI:=qA (indexStz_calls 47 #[.pointer (some ⟨w.heap.size+1,0,none⟩),.pointer (some ⟨w.heap.size,0,none⟩)] (enters_of Tryz.func47 (by kernel_rfl) rfl) (frzQ lo hi ep) d.parts ao cap w6 (by omega) ((HR.out.ext X6.out).mono X6.out.size)
       (λW hW x hx=>frz1_calls x lo hi ep (w.heap.size+1) w.heap.size W ((hW.cell (p:=⟨w.heap.size+1,0,none⟩) E6.out.lt).trans hE0) ((hW.cell (p:=⟨w.heap.size,0,none⟩) B6.out.lt).trans hS0) ((hW.cell (p:=⟨w.heap.size,1,none⟩) B6.out.lt).trans hS1) (HT.out.ps x hx) (by omega) (by omega)))
      have HNO:Hid (closedN d.parts=none):=qA hno;clear hk hno hS0 hS1 hE0 HC;go_wp2_with fail;refine HI.out.mono ?_;rintro e w7 ⟨kk,rfl,hk,hx7⟩;have B7:=qA (B6.out.ext' hx7);have E7:=qA (E6.out.ext' hx7);have T7:=qA (T6.out.ext hx7);have Y7:=qA (qJ Y6.out hx7);have e3:=(hx7.cell (p:=⟨k.tb,3,none⟩) (by have:=Y6.out.size;show k.tb<_;omega)).trans e3;have X7:=qA (qJ X6.out hx7);clear hx7 B5 E5 T5 B6 E6 T6;rcases first_idx hk with ⟨rfl,hno2⟩ | ⟨n,x,rfl,hyes,hnx,hq⟩
      · have FD:Hid (frzD scheme lo hi ep d=([],20,d)):=qA (by rw[HDD.out];exact hQ 0 hno2)
        clear hk hno2 hQ;go_wp2_with fail;go_ret2;exact frz_none HT.out Y7.out FD.out
      · have hon:frzOn scheme lo hi ep d=(tabW lo hi d,0,{ d with parts:=repD d.parts (frzNew scheme ep lo hi x) n (n+1) }):=by unfold frzOn;rw[HNO.out];simp only[hyes,hnx]
        have hwi:withinB lo.data.toList hi.data.toList x.lo.data.toList x.hi.data.toList=true:=by
         unfold frzQ at hq;simp only[Bool.and_eq_true]at hq;exact hq.2
        have hxs:=HT.out.ps x (qH hnx);have hnl:=(qF.1 hnx).1;obtain⟨b,off,hao,hb,hcell⟩:=HR.out (by intro e;rw[e]at hnl;simp at hnl);subst hao;have hcx:=hcell n x hnx;have hmv:∀j,w7.cell? ⟨b,j,none⟩=w5.cell? ⟨b,j,none⟩:=λj=>X7.out.cell (p:=⟨b,j,none⟩) hb;obtain⟨CL,hCL⟩:∃CL,CL=cutD x.lo x.hi [lo,hi]:=⟨_,rfl⟩;have HCL:=qA hCL;have hcl3:CL.length<=3:=by rw[hCL];exact cutD_len _ _ _ _
        have HON:=qA hon;have HWI:=qA hwi;have HXS:=qA hxs;have HNEW:Hid (frzNew scheme ep lo hi x=CL.map (frzP scheme ep lo hi)):=qA (by rw[hCL];rfl);have HSM:=qA (frzNew_small (scheme:=scheme) (ep:=ep) hxs hl hh)
        have CUT:Hid (∀W vb,Blk W vb [.string lo,.string hi] 9->Calls Tryz.prog 49 #[.agg #[.string x.lo,.string x.hi],.slice (some ⟨vb,0,none⟩) 2 2] W λe w'=>∃ro rc,e= .returned (.slice ro CL.length rc)/\w'.ownsRow 0 30 2 (.slice ro CL.length rc) CL.length (CL.flatMap encSp)/\Ext W w'):=qA (λW vb hvb=>(spanCut_calls x.lo x.hi [lo,hi] (some ⟨vb,0,none⟩) 2 W (by simp) (by simp) (rows_str2 hvb) hxs.1 hxs.2 (by simp only[List.mem_cons,List.not_mem_nil,or_false,forall_eq_or_imp,forall_eq];omega) (within_span hwi)).mono (by
         rintro e w' ⟨rv,rfl,ho,_,hx⟩;rw[<- hCL]at ho;obtain⟨ro,rc,rfl⟩:=own_slice ho
         exact⟨ro,rc,rfl,ho,hx⟩))
        obtain⟨xlo,xhi,xep,xst,xsc⟩:=x;have d0:=ExtBy.cell ((hmv _).trans (hcx 0 _ rfl));have d1:=ExtBy.cell ((hmv _).trans (hcx 1 _ rfl));simp only[Nat.add_zero]at d0;have s0:=ExtBy.cell (B7.out.cell 0);have s1:=ExtBy.cell (B7.out.cell 1);have q3:=ExtBy.cell e3;have i0:(0:Int)<=(n:Int):=by omega
        have i1:(n:Int)<(d.parts.length:Int):=by omega
        have i2:¬((n:Int)<0):=by omega
        have HHL:=qA hl;have HHH:=qA hh;clear hk hyes hcell hcx hmv hnx hq hwi hxs hon hCL hQ HI;go_upto_region 12 with fail;refine wp_region_firstC (λW=>∃p:ExtBy w7,W=p.W) [0,1,2,3,4,5,6,7,8,9,10,11,15] 3 (by kernel_rfl) (by kernel_rfl) (λ_ _ _ _ h=>h) ⟨⟨w7.drew,(qK _ w7).drew⟩,rfl⟩ ?_;simp only[opsAt,qD,qC,qB]
        repeat (go_big_quiet_step (fail))
        refine wpQuiet_nil ?_;clear d0 d1 s0 s1 q3 e3;refine wpAnyH_ready (rs:=[12]) (by kernel_rfl) (by simp) ?_;refine AllReadyH.cons rfl (λK hK=>?_) AllReadyH.nil;go_simp;obtain⟨w8,hw8⟩:∃w8,w8=(w7.alloc (.cells #[.string lo,.string hi] 9)).drew:=⟨_,rfl⟩;have X8:Hid (Ext w7 w8):=qA (by rw[hw8];exact ((qK _ w7).alloc (qL _) _).drew);have V8:Hid (Blk w8 w7.heap.size [.string lo,.string hi] 9):=qA (by rw[hw8];exact (Blk.new w7 _ _).drew);rw[<- hw8];refine hK.out _ _ ⟨⟨_,X8.out⟩,rfl⟩ (λ_=>?_);clear hK K hw8;refine wpAnyH_ready (rs:=[13]) (by kernel_rfl) (by simp) ?_;refine AllReadyH.cons rfl (λK hK=>?_) AllReadyH.nil;go_simp;refine (CUT.out _ _ V8.out).mono ?_;rintro e w9 ⟨ro,rc,rfl,ho9,hx9⟩;have X9:=qA (qJ X8.out hx9);have O9:=qA ho9;refine hK.out _ _ ⟨⟨_,X9.out⟩,rfl⟩ (λ_=>?_);clear hK K ho9 hx9;refine wp_takesC (f:=0) [14] (by kernel_rfl) (λ_ _ _ _ h=>h) ⟨⟨_,X9.out⟩,rfl⟩ ?_;simp only[opsAt,qD,qC,qB]
        repeat (go_big_quiet_step (fail))
        refine wpQuiet_nil ?_;refine wpAnyH_done (by kernel_rfl) ?_ _;have Y9:=qA (qJ Y7.out X9.out);have B9:=qA (B7.out.ext' X9.out);have E9:=qA (E7.out.ext' X9.out);have T9:=qA (T7.out.ext X9.out);clear V8 X8 B7 E7 T7;obtain⟨iz,hiz,hz0,hz1,hz2⟩:=info_parts infoSt;have hrw:=Rows.own (enc:=encSp) (sz:=2) (λ_=>rfl) O9.out;obtain⟨_,_,hro,_,_,hrows⟩:=hrw;simp only[Value.slice.injEq,true_and]at hro;obtain⟨rfl,rfl⟩:=hro;have RW9:=qA hrows;clear hrows;go_wp2_with fail;go_loopw [13,76] (λv vi wr=>∃(j:Nat),j<=CL.length/\vi= .int .i64 j/\wr.ownsRow 0 92 5 v ((CL.take j).map (frzP scheme ep lo hi)).length (((CL.take j).map (frzP scheme ep lo hi)).flatMap encSt)/\(∀b,v.ownBlock=some b->w9.heap.size<=b)/\Ext w9 wr) (λ_ vi _=>CL.length - (intOf vi).toNat)
        case atStart=>exact⟨0,by omega,rfl,World.ownsRow_nil _ _ _ _,by simp[Value.ownBlock],qK _ _⟩
        case round=>
         obtain⟨j,hj,rfl,hown,hnew,hx⟩:=hrel;obtain⟨vo,vcap,rfl⟩:=own_slice hown;have K1:=qA hown;have K2:=qA hnew;have K3:=qA hx;clear hown hnew hx;by_cases hlt:j<CL.length
         · obtain⟨q,hq⟩:∃q,CL[j]? =some q:=⟨_,qE hlt⟩
           obtain⟨cb,coff,hro,hcb,hcell⟩:=RW9.out (by intro e;rw[e]at hlt;simp at hlt);subst hro;have hcx:=hcell j q hq;have hmv:∀i,wr.cell? ⟨cb,i,none⟩=w9.cell? ⟨cb,i,none⟩:=λi=>K3.out.cell (p:=⟨cb,i,none⟩) hcb;have TK:Hid (CL.take (j+1)=CL.take j++[q]):=qA (by rw[List.take_add_one,hq];rfl);obtain⟨qlo,qhi⟩:=q;have d0:=(hmv _).trans (hcx 0 _ rfl);have d1:=(hmv _).trans (hcx 1 _ rfl);simp only[Nat.add_zero]at d0;have ii0:(0:Int)<=(j:Int):=by omega
           have ii1:(j:Int)<(CL.length:Int):=by omega
           have hmn:((CL.take j).map (frzP scheme ep lo hi)).length=j:=by rw[List.length_map,List.length_take];omega
           rw[hmn]at K1 K2 ⊢;have HMN:=qA hmn;obtain⟨wa,hwa⟩:∃wa,wa=wr.alloc (.cells #[.string qlo,.string qhi] 30):=⟨_,rfl⟩;have xa:Ext wr wa:=by rw[hwa];exact (qK _ wr).alloc (qL _) _
           have ba:Blk wa wr.heap.size [.string qlo,.string qhi] 30:=by rw[hwa];exact Blk.new wr _ _
           have ea:=(E9.out.ext' (qJ K3.out xa)).cell 0;have a0:=ba.cell 0;have a1:=ba.cell 1;simp only[qB,qC]at ea a0 a1;have XA:=qA xa;have BA:=qA ba;have WA:=qA hwa;clear hq hcell hcx hmv hwa xa ba hmn;go_upto_region 15 with fail;rw[<- WA.out];clear WA d0 d1;obtain⟨wb,hwb⟩:∃wb,wb=wa.alloc (.cells #[.string qlo,.string qhi,.int .i64 ep,.int .u8 1,.int .i64 0] 92):=⟨_,rfl⟩;have xb:Ext wa wb:=by rw[hwb];exact (qK _ wa).alloc (qL _) _
           have bb:Blk wb wa.heap.size [.string qlo,.string qhi,.int .i64 ep,.int .u8 1,.int .i64 0] 92:=by rw[hwb];exact Blk.new wa _ _
           have XB:=qA (qJ XA.out xb);have BB:=qA bb;have WB:=qA hwb;have s0:=(B9.out.ext' (qJ K3.out XB.out)).cell 0;have s1:=(B9.out.ext' (qJ K3.out XB.out)).cell 1;have p0:=bb.cell 0;have p1:=bb.cell 1;have p2:=bb.cell 2;have p3:=bb.cell 3;have p4:=bb.cell 4;have f3:=bb.free 3;have f4:=bb.free 4;have y0:=(BA.out.ext' xb).cell 0;have y1:=(BA.out.ext' xb).cell 1;simp only[qB,qC]at s0 s1 p0 p1 p2 p3 p4 y0 y1;have heq:=eql_Sp qlo qhi lo hi;clear hwb xb bb;go_upto_region 16 with fail;rw[<- WB.out];clear WB a0 a1 ea;cases hc:decide (qlo=lo/\qhi=hi) with
           | false=>
             have hp:frzP scheme ep lo hi (qlo,qhi)=⟨qlo,qhi,ep,1,0⟩:=by unfold frzP;rw[if_neg (of_decide_eq_false hc)]
             have HP:=qA hp;rw[hc]at heq;clear hp hc;have XC:Hid (Ext wr (wb.alloc (.cells #[.string qlo,.string qhi,.int .i64 ep,.int .u8 1,.int .i64 0] 92))):=qA (qJ XB.out ((qK _ wb).alloc (qL _) _));have CN:=qA (cells_new wb [.string qlo,.string qhi,.int .i64 ep,.int .u8 1,.int .i64 0] 92);go_wp2_with (at_builtin;refine wpList_append_at _ rfl _ _ 57 rfl 92 iz _ 5 56 Tryz.underlying57 hiz hz0 hz1 hz2 rfl (by decide) _ j _ rfl (own_ext K1.out XC.out) ⟨wb.heap.size,0,none⟩ 1 1 (encSt ⟨qlo,qhi,ep,1,0⟩) rfl rfl CN.out (one_st _) (by decide) (by unfold maxLen;omega) (by omega) ?_;intro g2 cap2 wf hown' hbut hkept;have Z1:=qA hown';have Z2:=qA hbut;have Z3:=qA hkept;clear hown' hbut hkept);go_roundw
             case rel=>
              have hK:((CL.take (j+1)).map (frzP scheme ep lo hi))=(CL.take j).map (frzP scheme ep lo hi)++[⟨qlo,qhi,ep,1,0⟩]:=by rw[TK.out,List.map_append,List.map_cons,List.map_nil,HP.out]
              refine⟨j+1,by omega,by go_num,?_,λb hb=>?_,?_⟩
              · rw[hK,qG,HMN.out,List.flatMap_append]
                simpa using Z1.out
              · rcases Z3.out b hb with e | e
                · exact K2.out b e
                · exact qM K3.out.size (qM XC.out.size e)
              · exact Ext.butNew (qJ K3.out XC.out) Z2.out (λb hb=>K2.out b hb)
             case measure=>simp[intOf];omega
           | true=>
             have hp:frzP scheme ep lo hi (qlo,qhi)=⟨qlo,qhi,ep,2,scheme⟩:=by unfold frzP;rw[if_pos (of_decide_eq_true hc)]
             have HP:=qA hp;rw[hc]at heq;clear hp hc;obtain⟨wb2,hwb2⟩:∃wb2,wb2=(wb.setCell ⟨wa.heap.size,3,none⟩ (.int .u8 2)).setCell ⟨wa.heap.size,4,none⟩ (.int .i64 scheme):=⟨_,rfl⟩;have hba:Blk wb2 wa.heap.size [.string qlo,.string qhi,.int .i64 ep,.int .u8 2,.int .i64 scheme] 92:=by rw[hwb2];exact (BB.out.set 3 _).set 4 _
             have XB2:Hid (Ext wr wb2):=qA (by
              rw[hwb2];have h1:=XA.out.size
              exact (((Ext.but XB.out (λb=>wr.heap.size<=b)).setCell (p:=⟨wa.heap.size,3,none⟩) (λ_=>h1) _).setCell (p:=⟨wa.heap.size,4,none⟩) (λ_=>h1) _).ext (λb hb e=>by omega))
             have r0:=hba.cell 0;have r1:=hba.cell 1;have r2:=hba.cell 2;have r3:=hba.cell 3;have r4:=hba.cell 4;simp only[qB,qC]at r0 r1 r2 r3 r4;have WB2:=qA hwb2;clear hwb2 hba;go_upto_region 18 with fail;rw[<- WB2.out];clear WB2 p0 p1 p2 p3 p4 f3 f4 y0 y1 s0 s1;have XC:Hid (Ext wr (wb2.alloc (.cells #[.string qlo,.string qhi,.int .i64 ep,.int .u8 2,.int .i64 scheme] 92))):=qA (qJ XB2.out ((qK _ wb2).alloc (qL _) _));have CN:=qA (cells_new wb2 [.string qlo,.string qhi,.int .i64 ep,.int .u8 2,.int .i64 scheme] 92);go_wp2_with (at_builtin;refine wpList_append_at _ rfl _ _ 57 rfl 92 iz _ 5 56 Tryz.underlying57 hiz hz0 hz1 hz2 rfl (by decide) _ j _ rfl (own_ext K1.out XC.out) ⟨wb2.heap.size,0,none⟩ 1 1 (encSt ⟨qlo,qhi,ep,2,scheme⟩) rfl rfl CN.out (one_st _) (by decide) (by unfold maxLen;omega) (by omega) ?_;intro g2 cap2 wf hown' hbut hkept;have Z1:=qA hown';have Z2:=qA hbut;have Z3:=qA hkept;clear hown' hbut hkept);go_roundw
             case rel=>
              have hK:((CL.take (j+1)).map (frzP scheme ep lo hi))=(CL.take j).map (frzP scheme ep lo hi)++[⟨qlo,qhi,ep,2,scheme⟩]:=by rw[TK.out,List.map_append,List.map_cons,List.map_nil,HP.out]
              refine⟨j+1,by omega,by go_num,?_,λb hb=>?_,?_⟩
              · rw[hK,qG,HMN.out,List.flatMap_append]
                simpa using Z1.out
              · rcases Z3.out b hb with e | e
                · exact K2.out b e
                · exact qM K3.out.size (qM XC.out.size e)
              · exact Ext.butNew (qJ K3.out XC.out) Z2.out (λb hb=>K2.out b hb)
             case measure=>simp[intOf];omega
         · obtain rfl:j=CL.length:=by omega
           have hall:(CL.take CL.length).map (frzP scheme ep lo hi)=frzNew scheme ep lo hi ⟨xlo,xhi,xep,xst,xsc⟩:=by rw[List.take_length,HNEW.out]
           rw[hall]at K1 K2 ⊢;have hnl3:(frzNew scheme ep lo hi ⟨xlo,xhi,xep,xst,xsc⟩).length<=3:=by rw[HNEW.out,List.length_map];exact hcl3
           have hne:frzNew scheme ep lo hi ⟨xlo,xhi,xep,xst,xsc⟩≠[]:=by
            intro e
            have:=congrArg List.length e
            rw[HNEW.out,List.length_map,HCL.out]at this;unfold cutD at this;simp at this
           obtain⟨g,c,cur,hv,OS⟩:=ownSt_of K1.out hne;injection hv with hv1 hv2 hv3;subst hv1 hv3;have hTr:TrIs wr k d:=T9.out.ext K3.out
           have hfew2:(repD d.parts (frzNew scheme ep lo hi ⟨xlo,xhi,xep,xst,xsc⟩) n (n+1)).length<=1000:=by
            rw[repD_len _ _ _ _ (by omega)];omega
           have RP:=qA (trReplace_calls k d (frzNew scheme ep lo hi ⟨xlo,xhi,xep,xst,xsc⟩) n (n+1) g vcap cur wr hTr (by omega) (by omega) (by omega) hfew2 HSM.out OS.blk OS.tk);have FZ:=qA (frz_closed (scheme:=scheme) (ep:=ep) (lo:=lo) (hi:=hi) (x:=⟨xlo,xhi,xep,xst,xsc⟩) (n:=n) HNO.out HWI.out);have FD0:Hid (frzD scheme lo hi ep d=(tabW lo hi d,0,{ d with parts:=repD d.parts (frzNew scheme ep lo hi ⟨xlo,xhi,xep,xst,xsc⟩) n (n+1) })):=qA (by rw[HDD.out,HON.out]);obtain⟨NW,hNW⟩:∃NW,NW=frzNew scheme ep lo hi ⟨xlo,xhi,xep,xst,xsc⟩:=⟨_,rfl⟩;rw[<- hNW]at RP FZ FD0 hfew2 ⊢;have Y10:=qA (qJ Y9.out K3.out);clear hall hnl3 hne OS hTr hNW K1 K2 hv2;obtain⟨q,hq⟩:∃q,q=n+1:=⟨_,rfl⟩;rw[<- hq]at RP FZ FD0 hfew2;have hqi:(n:Int)+1=(q:Int):=by omega
           clear hq;go_wp2_with fail;refine RP.out.mono ?_;rintro e wt ⟨rfl,hto⟩;have TT:=qA (TrTo.pre Y10.out hto);obtain⟨k2,hi2,ht2,_⟩:=id hto;obtain⟨ao2,cap2,_,hrow2,c32⟩:=hi2.slice;rw[ht2]at c32;have HC2:=qA (closed_calls k.tb (repD d.parts NW n q) ao2 cap2 wt c32 (by omega) hrow2);clear hto hi2 ht2 hrow2 c32 hfew2;go_wp2_with fail;refine HC2.out.mono ?_;rintro e wu ⟨kk2,rfl,hk2,hxu⟩;obtain⟨m1,y1,hm1,hy1,hyl,hyh⟩:=FZ.out;rcases first_idx hk2 with ⟨rfl,hno3⟩ | ⟨m2,y2,rfl,hm2,_,_⟩
           · exfalso
             unfold closedN at hm1;rw[hno3]at hm1;cases hm1
           · have hmm:m2=m1:=by
              unfold closedN at hm1;rw[hm2]at hm1;exact Option.some.inj hm1
             subst hmm;obtain⟨D1,hD1⟩:∃D1,D1={ d with parts:=repD d.parts NW n q }:=⟨_,rfl⟩;have hTO:TrTo k D1 w wu:=by rw[hD1];exact TT.out.post hxu
             have hy1:D1.parts[m2]? =some y1:=by rw[hD1];exact hy1
             have FD:Hid (frzD scheme lo hi ep d=(tabW y1.lo y1.hi D1,0,D1)):=qA (by
              rw[FD0.out,hyl,hyh,hD1];rfl)
             clear hD1 hm1 hm2 hk2 hyl hyh hxu hqi;obtain⟨m1,hm1⟩:∃m1,m1=m2:=⟨_,rfl⟩;subst hm1;go_upto_region 22 with fail;obtain⟨WW,hWW⟩:∃WW,WW=wu:=⟨_,rfl⟩;rw[<- hWW]at hTO ⊢;clear hWW;have FT:Hid (TrTo k D1 w WW):=qA hTO;obtain⟨k1,hi1,ht1,hrb1,hhb1,hpb1,_,_⟩:=hTO;obtain⟨ao1,cap1,_,hrow1,c31⟩:=hi1.slice;have c0:=hi1.blk.cell 0;have c1:=hi1.blk.cell 1;have c2:=hi1.blk.cell 2;simp only[qB,qC]at c0 c1 c2;rw[ht1]at c0 c1 c2 c31;rw[hrb1]at c0;rw[hhb1]at c1;rw[hpb1]at c2;obtain⟨b1,off1,rfl,hbl1,hcell1⟩:=hrow1 (by intro e;rw[e]at hy1;simp at hy1);have hcy:=hcell1 m1 y1 hy1;have hml:m1<D1.parts.length:=(qF.1 hy1).1;have hys:=hi1.ps y1 (qH hy1);obtain⟨ylo,yhi,yep,yst,ysc⟩:=y1;have q0:=ExtBy.cell (hcy 0 _ rfl);have q1:=ExtBy.cell (hcy 1 _ rfl);simp only[Nat.add_zero]at q0;have p0:=ExtBy.cell c0;have p1:=ExtBy.cell c1;have p2:=ExtBy.cell c2;have p3:=ExtBy.cell c31;have j0:(0:Int)<=(m1:Int):=by omega
             have j1:(m1:Int)<(D1.parts.length:Int):=by omega
             have HTB:Hid ((tabW ylo yhi D1).length<=140000000000000):=qA (qM (tabW_len hi1 ylo yhi) (by omega));have TWR:Hid (∀wn v,WrNew WW wn WW.heap.size false v []->Calls Tryz.prog 51 #[.agg #[.pointer (some ⟨k.rb,0,none⟩),.pointer (some ⟨k.hb,0,none⟩),.pointer (some ⟨k.pb,0,none⟩)],.pointer (some ⟨WW.heap.size,0,none⟩),.agg #[.string ylo,.string yhi]] wn λe w'=>e= .returned (.pointer (some ⟨WW.heap.size,0,none⟩))/\∃v',WrNew WW w' WW.heap.size false v' (tabW ylo yhi D1)):=qA (λwn v hN=>by have:=tabWrite_calls k1 D1 ylo yhi WW.heap.size v [] WW wn hi1 hN (by simp) hys.1 hys.2;rwa [List.nil_append,hrb1,hhb1,hpb1]at this);clear hi1 hcell1 hcy hy1 c0 c1 c2 c31 hrow1 hrb1 hhb1 hpb1 ht1;refine wp_region_firstC (λW=>∃p:ExtBy WW,W=p.W) [0,1,2,3,5,6,7,8,9,10,11,12] 8 (by kernel_rfl) (by kernel_rfl) (λ_ _ _ _ h=>h) ⟨⟨WW.drew,(qK _ WW).drew⟩,rfl⟩ ?_;simp only[opsAt,qD,qC,qB]
             repeat (go_big_quiet_step (fail))
             refine wpQuiet_nil ?_;clear q0 q1 p0 p1 p2 p3;have XW:Hid (Ext WW WW.drew):=qA (qK _ WW).drew;refine wpAnyH_ready (rs:=[4]) (by kernel_rfl) (by simp) ?_;refine AllReadyH.cons rfl (λK hK=>?_) AllReadyH.nil;go_simp;refine (newWriter_calls _).mono ?_;rintro e wn ⟨rfl,hwr,hxn⟩;have WN:Hid (WrNew WW wn WW.heap.size false (.slice none 0 0) []):=qA ⟨hwr,XW.out.size,by simp[Value.ownBlock],qJ XW.out hxn⟩;refine hK.out _ _ ⟨⟨_,WN.out.ext⟩,rfl⟩ (λ_=>?_);clear hK K hwr hxn;refine wpAnyH_ready (rs:=[13]) (by kernel_rfl) (by simp) ?_;refine AllReadyH.cons rfl (λK hK=>?_) AllReadyH.nil;go_simp;refine (TWR.out _ _ WN.out).mono ?_;rintro e wo ⟨rfl,vo,hwo⟩;have WO:=qA hwo;refine hK.out _ _ ⟨⟨_,WO.out.ext⟩,rfl⟩ (λ_=>?_);clear hK K hwo;refine wpAnyH_ready (rs:=[14]) (by kernel_rfl) (by simp) ?_;refine AllReadyH.cons rfl (λK hK=>?_) AllReadyH.nil;go_simp;refine (done_calls _ false vo _ wo WO.out.wr HTB.out).mono ?_;rintro e wd ⟨⟨u,rfl,_,hown,hnew⟩,hxd⟩;have OD:=qA (hown rfl);have ND:=qA hnew;have XD:=qA (qJ WO.out.ext hxd);have SZ:=qA WO.out.ext.size;refine hK.out _ _ ⟨⟨_,XD.out⟩,rfl⟩ (λ_=>?_);clear hK K hown hnew hxd;refine wp_takesC (f:=0) [15,16,17,18,19] (by kernel_rfl) (λ_ _ _ _ h=>h) ⟨⟨_,XD.out⟩,rfl⟩ ?_;simp only[opsAt,qD,qC,qB]
             repeat (go_big_quiet_step (fail))
             refine wpQuiet_nil ?_;refine wpAnyH_done (by kernel_rfl) ?_ _;go_wp2_with fail;go_ret2;unfold FrzPost;rw[FD.out];exact⟨u,rfl,OD.out,λj hj=>qM (TrTo.size FT.out) (qM SZ.out (ND.out j hj)),FT.out.post XD.out⟩
    · have hon:frzOn scheme lo hi ep d=if x.sc=scheme then (tabW x.lo x.hi d,0,d) else ([],26,d):=by unfold frzOn closedN;rw[hyes];simp only[hnx]
      have hnl:=(qF.1 hnx).1;obtain⟨b,off,hao,hb,hcell⟩:=HR.out (by intro e;rw[e]at hnl;simp at hnl);subst hao;have hcx:=hcell n x hnx;have d4:=(X6.out.cell (p:=⟨b,_,none⟩) hb).trans (hcx 4 _ rfl);have i0:(0:Int)<=(n:Int):=by omega
      have i1:(n:Int)<(d.parts.length:Int):=by omega
      have i2:¬((n:Int)<0):=by omega
      have HON:=qA hon;by_cases hsc:x.sc=scheme
      · have FD:Hid (frzD scheme lo hi ep d=(tabW x.lo x.hi d,0,d)):=qA (by rw[HDD.out,HON.out,if_pos hsc])
        obtain⟨D1,hD1⟩:∃D1,D1=d:=⟨_,rfl⟩;have hy1:D1.parts[n]? =some x:=by rw[hD1];exact hnx
        have hTO:TrTo k D1 w w6:=by rw[hD1];exact HT.out.self Y6.out
        have FD:Hid (frzD scheme lo hi ep d=(tabW x.lo x.hi D1,0,D1)):=qA (by rw[hD1];exact FD.out);have g1:(x.sc != scheme)=false:=by simp[hsc]
        obtain⟨m1,hm1⟩:∃m1,m1=n:=⟨_,rfl⟩;clear hk hyes hcell hcx hnx hst hon hsc hD1 HC X5 B5 E5 X6;subst hm1;obtain⟨y1,hyx⟩:∃y1,y1=x:=⟨_,rfl⟩;subst hyx;go_upto_region 22 with fail;clear g1 d4 e3;obtain⟨WW,hWW⟩:∃WW,WW=w6:=⟨_,rfl⟩;rw[<- hWW]at hTO ⊢;clear hWW B6 E6 T6 Y6;have FT:Hid (TrTo k D1 w WW):=qA hTO;obtain⟨k1,hi1,ht1,hrb1,hhb1,hpb1,_,_⟩:=hTO;obtain⟨ao1,cap1,_,hrow1,c31⟩:=hi1.slice;have c0:=hi1.blk.cell 0;have c1:=hi1.blk.cell 1;have c2:=hi1.blk.cell 2;simp only[qB,qC]at c0 c1 c2;rw[ht1]at c0 c1 c2 c31;rw[hrb1]at c0;rw[hhb1]at c1;rw[hpb1]at c2;obtain⟨b1,off1,rfl,hbl1,hcell1⟩:=hrow1 (by intro e;rw[e]at hy1;simp at hy1);have hcy:=hcell1 m1 y1 hy1;have hml:m1<D1.parts.length:=(qF.1 hy1).1;have hys:=hi1.ps y1 (qH hy1);obtain⟨ylo,yhi,yep,yst,ysc⟩:=y1;have q0:=ExtBy.cell (hcy 0 _ rfl);have q1:=ExtBy.cell (hcy 1 _ rfl);simp only[Nat.add_zero]at q0;have p0:=ExtBy.cell c0;have p1:=ExtBy.cell c1;have p2:=ExtBy.cell c2;have p3:=ExtBy.cell c31;have j0:(0:Int)<=(m1:Int):=by omega
        have j1:(m1:Int)<(D1.parts.length:Int):=by omega
        have HTB:Hid ((tabW ylo yhi D1).length<=140000000000000):=qA (qM (tabW_len hi1 ylo yhi) (by omega));have TWR:Hid (∀wn v,WrNew WW wn WW.heap.size false v []->Calls Tryz.prog 51 #[.agg #[.pointer (some ⟨k.rb,0,none⟩),.pointer (some ⟨k.hb,0,none⟩),.pointer (some ⟨k.pb,0,none⟩)],.pointer (some ⟨WW.heap.size,0,none⟩),.agg #[.string ylo,.string yhi]] wn λe w'=>e= .returned (.pointer (some ⟨WW.heap.size,0,none⟩))/\∃v',WrNew WW w' WW.heap.size false v' (tabW ylo yhi D1)):=qA (λwn v hN=>by have:=tabWrite_calls k1 D1 ylo yhi WW.heap.size v [] WW wn hi1 hN (by simp) hys.1 hys.2;rwa [List.nil_append,hrb1,hhb1,hpb1]at this);clear hi1 hcell1 hcy hy1 c0 c1 c2 c31 hrow1 hrb1 hhb1 hpb1 ht1;refine wp_region_firstC (λW=>∃p:ExtBy WW,W=p.W) [0,1,2,3,5,6,7,8,9,10,11,12] 8 (by kernel_rfl) (by kernel_rfl) (λ_ _ _ _ h=>h) ⟨⟨WW.drew,(qK _ WW).drew⟩,rfl⟩ ?_;simp only[opsAt,qD,qC,qB]
        repeat (go_big_quiet_step (fail))
        refine wpQuiet_nil ?_;clear q0 q1 p0 p1 p2 p3;have XW:Hid (Ext WW WW.drew):=qA (qK _ WW).drew;refine wpAnyH_ready (rs:=[4]) (by kernel_rfl) (by simp) ?_;refine AllReadyH.cons rfl (λK hK=>?_) AllReadyH.nil;go_simp;refine (newWriter_calls _).mono ?_;rintro e wn ⟨rfl,hwr,hxn⟩;have WN:Hid (WrNew WW wn WW.heap.size false (.slice none 0 0) []):=qA ⟨hwr,XW.out.size,by simp[Value.ownBlock],qJ XW.out hxn⟩;refine hK.out _ _ ⟨⟨_,WN.out.ext⟩,rfl⟩ (λ_=>?_);clear hK K hwr hxn;refine wpAnyH_ready (rs:=[13]) (by kernel_rfl) (by simp) ?_;refine AllReadyH.cons rfl (λK hK=>?_) AllReadyH.nil;go_simp;refine (TWR.out _ _ WN.out).mono ?_;rintro e wo ⟨rfl,vo,hwo⟩;have WO:=qA hwo;refine hK.out _ _ ⟨⟨_,WO.out.ext⟩,rfl⟩ (λ_=>?_);clear hK K hwo;refine wpAnyH_ready (rs:=[14]) (by kernel_rfl) (by simp) ?_;refine AllReadyH.cons rfl (λK hK=>?_) AllReadyH.nil;go_simp;refine (done_calls _ false vo _ wo WO.out.wr HTB.out).mono ?_;rintro e wd ⟨⟨u,rfl,_,hown,hnew⟩,hxd⟩;have OD:=qA (hown rfl);have ND:=qA hnew;have XD:=qA (qJ WO.out.ext hxd);have SZ:=qA WO.out.ext.size;refine hK.out _ _ ⟨⟨_,XD.out⟩,rfl⟩ (λ_=>?_);clear hK K hown hnew hxd;refine wp_takesC (f:=0) [15,16,17,18,19] (by kernel_rfl) (λ_ _ _ _ h=>h) ⟨⟨_,XD.out⟩,rfl⟩ ?_;simp only[opsAt,qD,qC,qB]
        repeat (go_big_quiet_step (fail))
        refine wpQuiet_nil ?_;refine wpAnyH_done (by kernel_rfl) ?_ _;go_wp2_with fail;go_ret2;unfold FrzPost;rw[FD.out];exact⟨u,rfl,OD.out,λj hj=>qM (TrTo.size FT.out) (qM SZ.out (ND.out j hj)),FT.out.post XD.out⟩
      · have FD:Hid (frzD scheme lo hi ep d=([],26,d)):=qA (by rw[HDD.out,HON.out,if_neg hsc])
        have g1:(x.sc != scheme)=true:=by simp[hsc]
        clear hk hyes hcell hcx hnx hst hon hsc;go_wp2_with fail;go_ret2;exact frz_none HT.out Y6.out FD.out
end Go.Proofs.YtmpmggejhnmakaaGreatDoor
