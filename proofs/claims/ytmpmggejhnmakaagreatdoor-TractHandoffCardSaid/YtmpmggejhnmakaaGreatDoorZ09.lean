/- slices.Clone at acts and reads; own: holds in memory of their own. -/
import Derived.Test.YtmpmggejhnmakaaGreatDoorZ03
import Derived.Test.YtmpmggejhnmakaaGreatDoorZ02
import Derived.Deep.RegionHeld3
import Derived.Deep.RegionWith
import Derived.Laws.IdiomCopy
import Derived.Shelf.Spec.SlicesInsert
import Derived.Deep.RegionLaw
import Derived.Lib.AppendZerosOnto
import Derived.Laws.NewBlocks
import Derived.Test.YtmpmggejhnmakaaGreatDoorZ01
set_option maxRecDepth 100000
set_option maxHeartbeats 4000000
namespace Go.Proofs.YtmpmggejhnmakaaGreatDoor
open Go.RowKit
theorem infoAct:(Tryz.prog.info? 74).map (λi=>(i.zero,i.size,i.bytes))=some (some (.agg #[.int .u8 0,.string ⟨#[]⟩,.string ⟨#[]⟩,.int .i64 0]),4,48):=by kernel_rfl
theorem infoRd:(Tryz.prog.info? 239).map (λi=>(i.zero,i.size,i.bytes))=some (some (.agg #[.string ⟨#[]⟩,.bool false,.string ⟨#[]⟩]),3,40):=by kernel_rfl
theorem one_act:∀(x:ActD),∀u∈encAct x,u.oneCell'=true:=by
 intro x u hu;simp only[encAct,List.mem_cons,List.not_mem_nil,or_false]at hu;rcases hu with rfl | rfl | rfl | rfl<;>rfl
theorem one_rd:∀(x:Rd),∀u∈encRd x,u.oneCell'=true:=by
 intro x u hu;simp only[encRd,List.mem_cons,List.not_mem_nil,or_false]at hu;rcases hu with rfl | rfl | rfl<;>rfl
theorem clone_acts_calls (l:List ActD)(ao:Option Addr)(cap:Nat)(w:World)(hl:l.length<=1000000)(hr:Rows 4 encAct w.heap.size w ao l):
 Calls Tryz.prog 212 #[.slice ao l.length cap] w λe w'=>∃v,e= .returned v/\w'.ownsRow 0 74 4 v l.length (l.flatMap encAct)/\(∀j,v.ownBlock=some j->w.heap.size<=j)/\Ext w w':=by
 obtain⟨i0,hi,hz0,hz1,hz2⟩:=info_parts infoAct;have heq:=λW=>Lib.run_eql_slice_nil (P:=Tryz.prog) W 36 74 ao l.length cap 0 0 Tryz.underlying36;have E1:Hid (Ext w (w.alloc (.cells #[] 74))):=qA ((qK _ w).alloc (qL _) _);cases ao with
 | none=>
   have hl0:l=[]:=by
    cases l with
    | nil=>rfl
    | cons a l=>obtain⟨b,off,e,-⟩:=hr (by simp);cases e
   have HL0:=qA hl0;clear hr hl0;simp only[Option.isNone_none]at heq;go_enter Tryz.func212,Tryz.ntmps212;go_wp2_with fail;go_ret;exact⟨_,rfl,by rw[HL0.out];exact World.ownsRow_nil _ _ _ _,by simp[Value.ownBlock],qK _ _⟩
 | some a=>
   have HR:=qA hr;clear hr;simp only[Option.isNone_some]at heq;go_enter Tryz.func212,Tryz.ntmps212;go_wp2_with (at_builtin;refine wpList_append_rows (enc:=encAct) (size:=4) (λ_=>rfl) one_act rfl (.tmp 5) (.tmp 6) 36 rfl 74 i0 _ 48 Tryz.underlying36 hi hz0 hz1 hz2 rfl (by decide) (.slice (some ⟨w.heap.size,0,none⟩) 0 0) 0 [] rfl (World.ownsRow_made w #[] 0 (Nat.zero_le _) (Nat.zero_le _) rfl) (some a) l cap rfl ((HR.out.ext E1.out).mono E1.out.size) (by unfold maxLen;omega) (by omega) ?_;intro v1 w1 hown1 hbut1 hkept1;have O1:=qA hown1;have B1:=qA hbut1;have P1:=qA hkept1;clear hown1 hbut1 hkept1);go_ret;refine⟨v1,rfl,by have:=O1.out;rwa [Nat.zero_add,List.nil_append]at this,λj hj=>?_,?_⟩
   · rcases P1.out j hj with e | e
     · simp[Value.ownBlock]at e;omega
     · have:=E1.out.size;omega
   · exact ((Ext.but E1.out (λ_=>False)).trans B1.out (U:=λi=>i=w.heap.size) (λ_ _ e=>e.elim) (λi _ e=>by simp[Value.ownBlock]at e;exact e.symm)).ext (λi hi e=>by omega)
theorem clone_reads_calls (l:List Rd)(ao:Option Addr)(cap:Nat)(w:World)(hl:l.length<=1000000)(hr:Rows 3 encRd w.heap.size w ao l):
 Calls Tryz.prog 213 #[.slice ao l.length cap] w λe w'=>∃v,e= .returned v/\w'.ownsRow 0 239 3 v l.length (l.flatMap encRd)/\(∀j,v.ownBlock=some j->w.heap.size<=j)/\Ext w w':=by
 obtain⟨i0,hi,hz0,hz1,hz2⟩:=info_parts infoRd;have heq:=λW=>Lib.run_eql_slice_nil (P:=Tryz.prog) W 46 239 ao l.length cap 0 0 Tryz.underlying46;have E1:Hid (Ext w (w.alloc (.cells #[] 239))):=qA ((qK _ w).alloc (qL _) _);cases ao with
 | none=>
   have hl0:l=[]:=by
    cases l with
    | nil=>rfl
    | cons a l=>obtain⟨b,off,e,-⟩:=hr (by simp);cases e
   have HL0:=qA hl0;clear hr hl0;simp only[Option.isNone_none]at heq;go_enter Tryz.func213,Tryz.ntmps213;go_wp2_with fail;go_ret;exact⟨_,rfl,by rw[HL0.out];exact World.ownsRow_nil _ _ _ _,by simp[Value.ownBlock],qK _ _⟩
 | some a=>
   have HR:=qA hr;clear hr;simp only[Option.isNone_some]at heq;go_enter Tryz.func213,Tryz.ntmps213;go_wp2_with (at_builtin;refine wpList_append_rows (enc:=encRd) (size:=3) (λ_=>rfl) one_rd rfl (.tmp 5) (.tmp 6) 46 rfl 239 i0 _ 40 Tryz.underlying46 hi hz0 hz1 hz2 rfl (by decide) (.slice (some ⟨w.heap.size,0,none⟩) 0 0) 0 [] rfl (World.ownsRow_made w #[] 0 (Nat.zero_le _) (Nat.zero_le _) rfl) (some a) l cap rfl ((HR.out.ext E1.out).mono E1.out.size) (by unfold maxLen;omega) (by omega) ?_;intro v1 w1 hown1 hbut1 hkept1;have O1:=qA hown1;have B1:=qA hbut1;have P1:=qA hkept1;clear hown1 hbut1 hkept1);go_ret;refine⟨v1,rfl,by have:=O1.out;rwa [Nat.zero_add,List.nil_append]at this,λj hj=>?_,?_⟩
   · rcases P1.out j hj with e | e
     · simp[Value.ownBlock]at e;omega
     · have:=E1.out.size;omega
   · exact ((Ext.but E1.out (λ_=>False)).trans B1.out (U:=λi=>i=w.heap.size) (λ_ _ e=>e.elim) (λi _ e=>by simp[Value.ownBlock]at e;exact e.symm)).ext (λi hi e=>by omega)
theorem infoHold:(Tryz.prog.info? 48).map (λi=>(i.zero,i.size,i.bytes))=some (some (.agg #[.string ⟨#[]⟩,.int .i64 0,.int .i64 0,.slice none 0 0,.slice none 0 0,.bool false,.string ⟨#[]⟩]),7,104):=by kernel_rfl
def HoldD.fits (d:HoldD):Prop:=d.acts.length<=1000000/\d.reads.length<=1000000
def MineV (w:World)(B:Nat)(x:HoldV):Prop:=(∃xs,w.ownsRow B 74 4 (.slice x.ao x.an x.ac) x.an xs)/\∃ys,w.ownsRow B 239 3 (.slice x.ro x.rn x.rc) x.rn ys
def Mine (w:World)(B:Nat)(l:List HoldV):Prop:=∀x∈l,MineV w B x
theorem MineV.ext {w w':World}{B:Nat}{x:HoldV}(h:MineV w B x)(hx:Ext w w'):MineV w' B x:=by
 obtain⟨⟨xs,h1⟩,⟨ys,h2⟩⟩:=h;exact⟨⟨xs,own_ext h1 hx⟩,⟨ys,own_ext h2 hx⟩⟩
theorem MineV.far {w w':World}{B:Nat}{x:HoldV}{S:Nat->Prop}(h:MineV w B x)(hx:But S w w')(hS:∀j,S j->j<B):MineV w' B x:=by
 obtain⟨⟨xs,h1⟩,⟨ys,h2⟩⟩:=h;exact⟨⟨xs,own_but h1 hx (λj hj e=>by have:=hS j e;have:=own_ge h1 j hj;omega)⟩,⟨ys,own_but h2 hx (λj hj e=>by have:=hS j e;have:=own_ge h2 j hj;omega)⟩⟩
theorem own_blk {w:World}{B:Nat}{e:TypeId}{size n:Nat}{v:Value}{xs:List Value}(h:w.ownsRow B e size v n xs){j:Nat}(hj:v.ownBlock=some j):∃cs,Blk w j cs e:=by
 rcases h.2 with ⟨rfl,_⟩ | ⟨g,cap,cur,rfl,_,hg,_⟩
 · simp[Value.ownBlock]at hj
 · simp only[Value.ownBlock,Option.some.injEq]at hj
   subst hj;exact⟨cur.toList,by unfold Blk;simpa using hg⟩
theorem MineV.row {w w':World}{B B' n:Nat}{x:HoldV}{v:Value}{xs:List Value}(h:MineV w B x)(hx:But (λj=>v.ownBlock=some j) w w')(hv:w.ownsRow B' 48 7 v n xs):MineV w' B x:=by
 obtain⟨⟨xs,h1⟩,⟨ys,h2⟩⟩:=h;refine⟨⟨xs,own_but h1 hx (λj hj e=>?_)⟩,⟨ys,own_but h2 hx (λj hj e=>?_)⟩⟩
 · obtain⟨cs,hb⟩:=own_blk hv e
   exact own_ne h1 hb (by decide) hj
 · obtain⟨cs,hb⟩:=own_blk hv e
   exact own_ne h2 hb (by decide) hj
theorem MineV.base {w:World}{B B':Nat}{x:HoldV}(h:MineV w B x)(hB:B'<=B):MineV w B' x:=by
 obtain⟨⟨xs,h1⟩,⟨ys,h2⟩⟩:=h;exact⟨⟨xs,own_base h1 (λj hj=>qM hB (own_ge h1 j hj))⟩,⟨ys,own_base h2 (λj hj=>qM hB (own_ge h2 j hj))⟩⟩
theorem Mine.ext {w w':World}{B:Nat}{l:List HoldV}(h:Mine w B l)(hx:Ext w w'):Mine w' B l:=λx hm=>(h x hm).ext hx
theorem Mine.far {w w':World}{B:Nat}{l:List HoldV}{S:Nat->Prop}(h:Mine w B l)(hx:But S w w')(hS:∀j,S j->j<B):Mine w' B l:=λx hm=>(h x hm).far hx hS
theorem Mine.base {w:World}{B B':Nat}{l:List HoldV}(h:Mine w B l)(hB:B'<=B):Mine w B' l:=λx hm=>(h x hm).base hB
theorem own_calls (l:List HoldV)(ds:List HoldD)(ao:Option Addr)(cap:Nat)(w:World)(hl:l.length<=1000000)(hr:Rows 7 encHV w.heap.size w ao l)(hd:HoldsAre w (λ_=>False) l ds)(hfit:∀d∈ds,d.fits):
 Calls Tryz.prog 173 #[.slice ao l.length cap] w λe w'=>∃(v:Value) (l':List HoldV),e= .returned v/\l'.length=l.length/\w'.ownsRow 0 48 7 v l'.length (l'.flatMap encHV)/\(∀j,v.ownBlock=some j->w.heap.size<=j)/\HoldsAre w' (λb=>v.ownBlock=some b\/b<w.heap.size) l' ds/\Mine w' w.heap.size l'/\Ext w w':=by
 obtain⟨i0,hi,hz0,hz1,hz2⟩:=info_parts infoHold;have HR:=qA hr;have HD:=qA hd;have HF:=qA hfit;have HDL:=qA hd.len;clear hr hd hfit;go_enter Tryz.func173,Tryz.ntmps173;go_wp2_with fail;go_loopw [3,8] (λv i wr=>∃(k:Nat) (q:List HoldV),k<=l.length/\i= .int .i64 k/\q.length=k/\wr.ownsRow 0 48 7 v q.length (q.flatMap encHV)/\(∀j,v.ownBlock=some j->w.heap.size<=j)/\HoldsAre wr (λb=>v.ownBlock=some b\/b<w.heap.size) q (ds.take k)/\Mine wr w.heap.size q/\Ext w wr) (λ_ i _=>l.length - (intOf i).toNat)
 case atStart=>exact⟨0,[],by omega,rfl,rfl,World.ownsRow_nil _ _ _ _,by simp[Value.ownBlock],trivial,λx hx=>by simp at hx,qK _ _⟩
 case round=>
  obtain⟨k,q,hk,rfl,hq,hown,hnew,hare,hmin,hx⟩:=hrel;have K1:=qA hown;have K2:=qA hnew;have K3:=qA hare;have K4:=qA hx;have K5:=qA hmin;clear hown hnew hare hx hmin;by_cases hlt:k<l.length
  · obtain⟨x,hx⟩:∃x,l[k]? =some x:=⟨_,qE hlt⟩
    obtain⟨d,hdk,hxd⟩:=HD.out.at k x hx;have hfd:=HF.out d (qH hdk);obtain⟨b,off,rfl,hb,hcell⟩:=HR.out (by intro e;rw[e]at hlt;simp at hlt);have hcx:=hcell k x hx;have hmove:∀j,wr.cell? ⟨b,j,none⟩=w.cell? ⟨b,j,none⟩:=λj=>K4.out.cell (p:=⟨b,j,none⟩) hb;have htk:ds.take (k+1)=ds.take k++[d]:=by rw[List.take_add_one,hdk];rfl
    obtain⟨key0,cl,nm,xo,xn,xc,yo,yn,yc,put,value⟩:=x;have ean:xn=d.acts.length:=hxd.an;have ern:yn=d.reads.length:=hxd.rn;subst ean ern;have d0:=(hmove _).trans (hcx 0 _ rfl);have d1:=(hmove _).trans (hcx 1 _ rfl);have d2:=(hmove _).trans (hcx 2 _ rfl);have d3:=(hmove _).trans (hcx 3 _ rfl);have d4:=(hmove _).trans (hcx 4 _ rfl);have d5:=(hmove _).trans (hcx 5 _ rfl);have d6:=(hmove _).trans (hcx 6 _ rfl);simp only[Nat.add_zero]at d0;have TK:=qA htk;have XD:=qA hxd;have HQ:=qA hq;obtain⟨hfa,hfr⟩:=hfd;have hql:q.length<=1000000:=by omega
    have ii0:(0:Int)<=(k:Int):=by omega
    have i1:(k:Int)<(l.length:Int):=by omega
    have hbox:=Blk.new wr [.string key0,.int .i64 cl,.int .i64 nm,.slice xo d.acts.length xc,.slice yo d.reads.length yc,.bool put,.string value] 48;have hxb:Ext wr (wr.alloc (.cells #[.string key0,.int .i64 cl,.int .i64 nm,.slice xo d.acts.length xc,.slice yo d.reads.length yc,.bool put,.string value] 48)):=(qK _ wr).alloc (qL _) _;have HB:=qA hbox;have XB:=qA hxb;clear hx hdk hcell hcx hmove htk hxd hq hbox hxb;have hal:∀W,Ext wr W->Rows 4 encAct W.heap.size W xo d.acts:=λW hW=>((XD.out.acts.rows.ext (qJ K4.out hW)).mono (qJ K4.out hW).size);have hrl:∀W,Ext wr W->Rows 3 encRd W.heap.size W yo d.reads:=λW hW=>((XD.out.reads.rows.ext (qJ K4.out hW)).mono (qJ K4.out hW).size);have HAL:=qA hal;have HRL:=qA hrl;clear hal hrl;go_wp2_with fail;have hB:=HB.out;have hXB:=XB.out;generalize wr.alloc _=w1 at hB hXB ⊢;have hNN:wr.heap.size<=wr.heap.size:=qL _;generalize hNw:wr.heap.size=N at hB ⊢;have HN:=qA (show wr.heap.size<=N by omega);clear hNN hNw;have c3:=hB.cell 3;have c4:=hB.cell 4;have f3:=hB.free 3;have f4:=hB.free 4;simp only[qB,qC]at c3 c4;have hN:=hB.lt;have hW1:=qA (show wr.heap.size<=w1.heap.size from hXB.size);have HB1:=qA hB;have XB1:=qA hXB;clear hB hXB
    have hcx:∀W,Ext w1 W->W.cell? ⟨N,3,none⟩=some (.slice xo d.acts.length xc)/\W.cell? ⟨N,4,none⟩=some (.slice yo d.reads.length yc)/\W.frozen? ⟨N,3,none⟩=false/\W.frozen? ⟨N,4,none⟩=false:=λW hW=>
     ⟨(hW.cell (p:=⟨N,3,none⟩) hN).trans c3,(hW.cell (p:=⟨N,4,none⟩) hN).trans c4,(hW.frozen (p:=⟨N,3,none⟩) hN).trans f3,(hW.frozen (p:=⟨N,4,none⟩) hN).trans f4⟩
    have HCX:=qA hcx;clear hcx
    go_region_with (first
     | (go_at_call 212;refine (clone_acts_calls d.acts _ _ _ hfa (HAL.out _ (by first | exact (qJ XB1.out (qK _ _).drew) | exact (qJ XB1.out xr)))).mono ?_;rintro e wa ⟨va,rfl,hva,hna,hxa⟩;obtain⟨pa,qa,rfl,-⟩:=Rows.own (enc:=encAct) (sz:=4) (λ_=>rfl) hva;have xa:Ext w1 wa:=qJ (by first | exact (qK _ _).drew | exact xr) hxa;obtain⟨a3,a4,af3,af4⟩:=HCX.out wa xa;have VA:=qA hva;have NA:=qA hna;have XA:=qA hxa;clear hva hna hxa)
     | (go_at_call 213;refine (clone_reads_calls d.reads _ _ _ hfr (HRL.out _ (by first | exact (qJ XB1.out (qK _ _).drew) | exact (qJ XB1.out xa)))).mono ?_;rintro e wb ⟨vb,rfl,hvb,hnb,hxb⟩;obtain⟨pb,qb,rfl,-⟩:=Rows.own (enc:=encRd) (sz:=3) (λ_=>rfl) hvb;have xr:Ext w1 wb:=qJ (by first | exact (qK _ _).drew | exact xa) hxb;obtain⟨b3,b4,bf3,bf4⟩:=HCX.out wb xr;have VB:=qA hvb;have NB:=qA hnb;have XB:=qA hxb;clear hvb hnb hxb))
    all_goals
     have key:∀W,Ext w1 W->W.ownsRow 0 74 4 (.slice pa d.acts.length qa) d.acts.length (d.acts.flatMap encAct)->W.ownsRow 0 239 3 (.slice pb d.reads.length qb) d.reads.length (d.reads.flatMap encRd)->
      Blk ((W.setCell ⟨N,3,none⟩ (.slice pa d.acts.length qa)).setCell ⟨N,4,none⟩ (.slice pb d.reads.length qb)) N [.string key0,.int .i64 cl,.int .i64 nm,.slice pa d.acts.length qa,.slice pb d.reads.length qb,.bool put,.string value] 48/\
      Ext wr ((W.setCell ⟨N,3,none⟩ (.slice pa d.acts.length qa)).setCell ⟨N,4,none⟩ (.slice pb d.reads.length qb))/\
      (HoldV.mk key0 cl nm pa d.acts.length qa pb d.reads.length qb put value).is ((W.setCell ⟨N,3,none⟩ (.slice pa d.acts.length qa)).setCell ⟨N,4,none⟩ (.slice pb d.reads.length qb)) (λb=>b<w1.heap.size) d/\MineV ((W.setCell ⟨N,3,none⟩ (.slice pa d.acts.length qa)).setCell ⟨N,4,none⟩ (.slice pb d.reads.length qb)) w.heap.size (HoldV.mk key0 cl nm pa d.acts.length qa pb d.reads.length qb put value):=by
      intro W hW ha hb;have hsz0:w.heap.size<=w1.heap.size:=qM K4.out.size hW1.out;have na:∀j,(Value.slice pa d.acts.length qa).ownBlock=some j->w1.heap.size<=j:=λj hj=>by have:=NA.out j hj;first | exact this | (have h:=xr.size;omega)
      have nb:∀j,(Value.slice pb d.reads.length qb).ownBlock=some j->w1.heap.size<=j:=λj hj=>by have:=NB.out j hj;first | exact this | (have h:=xa.size;omega)
      have ha2:=own_setOther (own_setOther ha (a:=⟨N,3,none⟩) (λe=>by have:=na N e;omega) (.slice pa d.acts.length qa)) (a:=⟨N,4,none⟩) (λe=>by have:=na N e;omega) (.slice pb d.reads.length qb);have hb2:=own_setOther (own_setOther hb (a:=⟨N,3,none⟩) (λe=>by have:=nb N e;omega) (.slice pa d.acts.length qa)) (a:=⟨N,4,none⟩) (λe=>by have:=nb N e;omega) (.slice pb d.reads.length qb);refine⟨((HB1.out.ext' hW).set 3 _).set 4 _,((qJ XB1.out hW).setCell (p:=⟨N,3,none⟩) HN.out _).setCell (p:=⟨N,4,none⟩) HN.out _,?_⟩
      exact⟨⟨XD.out.key,XD.out.cl,XD.out.nm,rfl,rfl,XD.out.put,XD.out.value,nrows_of_own (λ_=>rfl) ha2 (λj hj e=>by have:=na j hj;omega),nrows_of_own (λ_=>rfl) hb2 (λj hj e=>by have:=nb j hj;omega)⟩,
       ⟨_,own_base ha2 (λj hj=>qM hsz0 (na j hj))⟩,⟨_,own_base hb2 (λj hj=>qM hsz0 (nb j hj))⟩⟩
    all_goals
     have hfin:=(by first | exact key wb xr (own_ext VA.out XB.out) VB.out | exact key wa xa VA.out (own_ext VB.out XA.out));clear key;obtain⟨hb2,hx2,hv2,hm2⟩:=hfin;generalize World.setCell _ ⟨N,4,none⟩ _=W2 at hb2 hx2 hv2 hm2 ⊢;have c0:=hb2.cell 0;have c1:=hb2.cell 1;have c2:=hb2.cell 2;have c3':=hb2.cell 3;have c4':=hb2.cell 4;have c5:=hb2.cell 5;have c6:=hb2.cell 6;simp only[qB,qC]at c0 c1 c2 c3' c4' c5 c6;have HX2:=qA hx2;have HV2:=qA hv2;have HM2:=qA hm2;have CN:=qA (cells_new W2 (encHV ⟨key0,cl,nm,pa,d.acts.length,qa,pb,d.reads.length,qb,put,value⟩) 48);have E2:Hid (Ext W2 (W2.alloc (.cells (encHV ⟨key0,cl,nm,pa,d.acts.length,qa,pb,d.reads.length,qb,put,value⟩).toArray 48))):=qA ((qK _ W2).alloc (qL _) _);clear hb2 hx2 hv2 hm2 c3 c4 f3 f4 a3 a4 af3 af4 b3 b4 bf3 bf4 VA VB NA NB XA XB xa xr;go_wp2_with (at_builtin;refine wpList_append_at _ rfl _ _ 42 rfl 48 i0 _ 7 104 Tryz.underlying42 hi hz0 hz1 hz2 rfl (by decide) _ q.length (q.flatMap encHV) rfl (own_ext (own_ext K1.out HX2.out) E2.out) ⟨W2.heap.size,0,none⟩ 1 1 (encHV ⟨key0,cl,nm,pa,d.acts.length,qa,pb,d.reads.length,qb,put,value⟩) rfl rfl CN.out (one_hold _) (by decide) (by unfold maxLen;omega) (by omega) ?_;intro g cap2 w4 hown' hbut hkept;have Y1:=qA hown';have Y2:=qA hbut;have Y3:=qA hkept;clear hown' hbut hkept);go_roundw
     case rel=>
      have hx3:=qJ HX2.out E2.out;have hsz2:=HX2.out.size;have hszE:=E2.out.size;have hlt3:∀j,u3.ownBlock=some j->j<wr.heap.size:=λj hj=>(K1.out.lt j hj).2;refine⟨k+1,q++[⟨key0,cl,nm,pa,d.acts.length,qa,pb,d.reads.length,qb,put,value⟩],by omega,by go_num,by rw[qG,HQ.out];rfl,?_,?_,?_,?_,?_⟩
      · have:=Y1.out
        rw[qG,List.flatMap_append];simpa using this
      · intro j hj
        rcases Y3.out j hj with e | e
        · exact K2.out j e
        · have e':=qM E2.out.size e;have:=K4.out.size;omega
      · rw[TK.out]
        have hq3:HoldsAre (W2.alloc (.cells (encHV ⟨key0,cl,nm,pa,d.acts.length,qa,pb,d.reads.length,qb,put,value⟩).toArray 48)) (λb=>u3.ownBlock=some b\/b<w.heap.size) q (ds.take k):=K3.out.ext hx3
        have hv3:HoldsAre (W2.alloc (.cells (encHV ⟨key0,cl,nm,pa,d.acts.length,qa,pb,d.reads.length,qb,put,value⟩).toArray 48)) (λb=>u3.ownBlock=some b\/b<w.heap.size) [⟨key0,cl,nm,pa,d.acts.length,qa,pb,d.reads.length,qb,put,value⟩] [d]:=
         ⟨(HV2.out.ext E2.out).mono (λb _ e=>by
          rcases e with e | e
          · have:=hlt3 b e;have:=hW1.out;omega
          · have:=K4.out.size;have:=hW1.out;omega),trivial⟩
        have hall:=HoldsAre.append hq3 hv3
        have h2:=HoldsAre.mono (no':=λb=>(u3.ownBlock=some b\/b<w.heap.size)\/((Value.slice (some ⟨g,0,none⟩) (q.length+1) cap2).ownBlock=some b\/b<w.heap.size)) (λb hb e=>by
         rcases e with e | e
         · exact e
         · rcases e with e | e
           · rcases Y3.out b e with e | e
             · exact .inl e
             · exact absurd e (Nat.not_le.2 hb)
           · exact .inr e) hall
        have h3:=HoldsAre.but Y2.out (λb _ e=> .inl (.inl e)) h2;exact h3.mono (λb _ e=> .inr e)
      · have hrow3:=own_ext (own_ext K1.out HX2.out) E2.out
        intro x hm;rcases List.mem_append.1 hm with hm | hm
        · exact ((K5.out x hm).ext hx3).row Y2.out hrow3
        · rw[List.mem_singleton.1 hm]
          exact (HM2.out.ext E2.out).row Y2.out hrow3
      · exact Below.trans K4.out (((Ext.but hx3 (λ_=>False)).trans Y2.out (U:=λj=>w.heap.size<=j) (λ_ _ e=>e.elim) (λi _ e=>K2.out i e)).below K4.out.size (λ_ h=>h))
     case measure=>simp[intOf];omega
  · have hall:ds.take k=ds:=List.take_of_length_le (by have:=HDL.out;omega)
    rw[hall]at K3;have HQ:=qA hq;clear hall hq;go_wp2_with fail;go_ret;exact⟨_,q,rfl,by have:=HQ.out;omega,K1.out,K2.out,K3.out,K5.out,K4.out⟩
theorem run_copy_k {P:Program}(w:World)(dT sT ty elem:TypeId)(sz n b o dLen dCap:Nat)(a:Addr)(sLen sCap:Nat)(cs:List Value)
 (hu:P.underlying dT=some (.slice elem)) (hs:(P.info? elem).map (·.size)=some sz) (hn:n=Nat.min sLen dLen) (hl:cs.length=n * sz)
 (hsrc:∀j v,cs[j]? =some v->w.cell? (a.add j)=some v) (hc:∀j,j<cs.length->(w.cell? ⟨b,o+j,none⟩).isSome=true) (hf:∀j,j<cs.length->w.frozen? ⟨b,o+j,none⟩=false) (h1:∀v∈cs,v.oneCell'=true):
 (Builtin.copy_ #[dT,sT] ty #[.slice (some ⟨b,o,none⟩) dLen dCap,.slice (some a) sLen sCap]).run P w= .ok (goInt n) (w.setCells b o cs):=by
 have hl':=run_loadCells_list (P:=P) w a cs hsrc;have hst:=run_storeCells_cells (P:=P) b o cs 0 w (by simpa using hc) (by simpa using hf) h1;cases hq:P.info? elem with
 | none=>simp[hq]at hs
 | some i=>
   have hi:i.size=sz:=by simpa [hq] using hs
   simp[Builtin.copy_,run_underlying hu,Builtin.lenOf,Builtin.firstCells,sizeOf,typeInfo,hq,hi,<- hn,<- hl,hl',hst]
def splice (cs:List Value)(o:Nat):List Value->List Value
 | []=>cs
 | v::vs=>splice (cs.set o v) (o+1) vs
theorem Blk.setCells {b:Nat}{t:TypeId}:∀(vs:List Value)(o:Nat){w:World}{cs:List Value},Blk w b cs t->Blk (w.setCells b o vs) b (splice cs o vs) t
 | [],_,_,_,h=>h
 | v::vs,o,_,_,h=>Blk.setCells vs (o+1) (h.set o v)
theorem splice_length:∀(vs:List Value)(cs:List Value)(o:Nat),(splice cs o vs).length=cs.length
 | [],_,_=>rfl
 | v::vs,cs,o=>by rw[splice,splice_length vs,List.length_set]
theorem splice_eq:∀(vs:List Value)(cs:List Value)(o:Nat),o+vs.length<=cs.length->splice cs o vs=cs.take o++vs++cs.drop (o+vs.length)
 | [],cs,o,_=>by simp[splice]
 | v::vs,cs,o,h=>by
   rw[List.length_cons]at h;rw[splice,splice_eq vs (cs.set o v) (o+1) (by rw[List.length_set];omega)]
   have e1:(cs.set o v).take (o+1)=cs.take o++[v]:=by
    rw[List.take_add_one,List.getElem?_set_self (by omega),List.take_set_of_le (qL _)];rfl
   have e2:(cs.set o v).drop (o+1+vs.length)=cs.drop (o+(v::vs).length):=by
    rw[List.drop_set_of_lt (by omega),List.length_cons];congr 1;omega
   rw[e1,e2];simp
theorem but_setCells {S:Nat->Prop}{b:Nat}(hb:S b):∀(vs:List Value)(o:Nat){w w':World},But S w w'->But S w (w'.setCells b o vs)
 | [],_,_,_,h=>h
 | v::vs,o,_,_,h=>but_setCells hb vs (o+1) (h.setCell (p:=⟨b,o,none⟩) (λ_=>hb) v)
theorem ownB (ao:Option Addr)(n c:Nat):(Value.slice ao n c).ownBlock=ao.map (·.block):=by cases ao<;>rfl
theorem insEnd_calls (l:List HoldV)(x:HoldV)(v:Value)(vb vc:Nat)(w:World)(hl:l.length<=1000000)(hown:w.ownsRow 0 48 7 v l.length (l.flatMap encHV))(hx:∀j u,(encHV x)[j]? =some u->w.cell? ((⟨vb,0,none⟩:Addr).add j)=some u):
 Calls Tryz.prog 187 #[v,.int .i64 l.length,.slice (some ⟨vb,0,none⟩) 1 vc] w λe w'=>∃v':Value,e= .returned v'/\w'.ownsRow 0 48 7 v' (l.length+1) ((l++[x]).flatMap encHV)/\(∀j,v'.ownBlock=some j->v.ownBlock=some j\/w.heap.size<=j)/\But (λj=>v.ownBlock=some j) w w':=by
 obtain⟨i0,hi,hz0,hz1,hz2⟩:=info_parts infoHold
 obtain⟨ao,c,rfl,hc⟩:∃ao c,v= .slice ao l.length c/\l.length<=c:=by
  rcases hown.2 with ⟨rfl,h0⟩ | ⟨g,cap,cur,rfl,_,_,h,_⟩
  · exact⟨none,0,by rw[h0],by omega⟩
  · exact⟨_,cap,rfl,h⟩
 have HO:=qA hown;have HXX:=qA hx;clear hown hx;go_enter Tryz.func187,Tryz.ntmps187;go_wp2_with (at_builtin;refine wpList_append_at _ rfl _ _ 42 rfl 48 i0 _ 7 104 Tryz.underlying42 hi hz0 hz1 hz2 rfl (by decide) _ l.length (l.flatMap encHV) rfl HO.out ⟨vb,0,none⟩ 1 vc (encHV x) rfl rfl HXX.out (one_hold _) (by decide) (by unfold maxLen;omega) (by omega) ?_;intro g cap2 w4 hown' hbut hkept;have Y1:=qA hown';have Y2:=qA hbut;have Y3:=qA hkept;clear hown' hbut hkept)
 all_goals
  have h3:∀j,(Value.slice (some ⟨g,0,none⟩) (l.length+1) cap2).ownBlock=some j->(Value.slice ao l.length c).ownBlock=some j\/w.heap.size<=j:=Y3.out;have h2:But (λj=>(Value.slice ao l.length c).ownBlock=some j) w w4:=Y2.out;have h1:=Y1.out;simp only[ownB]at h2 h3;have H1:=qA h1;have H2:=qA h2;have H3:=qA h3;clear h1 h2 h3 Y1 Y2 Y3;go_ret;refine⟨.slice (some ⟨g,0,none⟩) (l.length+1) cap2,rfl,by first | exact H1.out | simpa using H1.out,λj hj=>?_,?_⟩
  · rw[ownB]at hj ⊢;exact H3.out j hj
  · simp only[ownB];exact H2.out
end Go.Proofs.YtmpmggejhnmakaaGreatDoor
/- slices.Insert at holds, one hold, ahead of others, where there is room. -/
namespace Go.Proofs.YtmpmggejhnmakaaGreatDoor
open Go.RowKit Go.Lib
theorem hflat_len (l:List HoldV):(l.flatMap encHV).length=l.length * 7:=by
 induction l with
 | nil=>rfl
 | cons a l ih=>rw[List.flatMap_cons,qG,ih,List.length_cons];simp[encHV];omega
theorem hflat_take (l:List HoldV)(i:Nat):(l.flatMap encHV).take (i * 7)=(l.take i).flatMap encHV:=by
 rcases Nat.lt_or_ge i l.length with h | h
 · conv=>lhs;rw[<- List.take_append_drop i l,List.flatMap_append]
   rw[List.take_append_of_le_length (by rw[hflat_len,List.length_take];omega),List.take_of_length_le (by rw[hflat_len,List.length_take];omega)]
 · rw[List.take_of_length_le h,List.take_of_length_le (by rw[hflat_len];omega)]
theorem hflat_drop (l:List HoldV)(i:Nat):(l.flatMap encHV).drop (i * 7)=(l.drop i).flatMap encHV:=by
 rcases Nat.lt_or_ge i l.length with h | h
 · conv=>lhs;rw[<- List.take_append_drop i l,List.flatMap_append]
   have:((l.take i).flatMap encHV).length=i * 7:=by rw[hflat_len,List.length_take];omega
   rw[List.drop_append_of_le_length (by omega),List.drop_of_length_le (by omega),List.nil_append]
 · rw[List.drop_of_length_le h,List.drop_of_length_le (by rw[hflat_len];omega)];rfl
theorem one_flat (l:List HoldV):∀u∈l.flatMap encHV,u.oneCell'=true:=by
 intro u hu;obtain⟨x,_,hx⟩:=List.mem_flatMap.1 hu;exact one_hold x u hx
theorem insRow (l:List HoldV)(x:HoldV)(i c:Nat)(cur:List Value)(hi:i<l.length)(hc:l.length+1<=c)(hcur:cur.length=c * 7)(htk:cur.take (l.length * 7)=l.flatMap encHV):
 (splice (splice cur ((i+1) * 7) ((l.drop i).flatMap encHV)) (i * 7) (encHV x)).take ((l.length+1) * 7)=(l.take i++x::l.drop i).flatMap encHV:=by
 have hd:((l.drop i).flatMap encHV).length=(l.length - i) * 7:=by rw[hflat_len,List.length_drop]
 have hx:(encHV x).length=7:=rfl;have hfit:(i+1) * 7+(l.length - i) * 7=(l.length+1) * 7:=by omega
 have hti:cur.take (i * 7)=(l.take i).flatMap encHV:=by
  rw[<- hflat_take,<- htk,List.take_take];congr 1;omega
 rw[splice_eq (encHV x) _ _ (by rw[splice_length,hx];omega),splice_eq _ cur _ (by rw[hd];omega),hd,hfit,hx]
 have e1:(cur.take ((i+1) * 7)++(l.drop i).flatMap encHV++cur.drop ((l.length+1) * 7)).take (i * 7)=(l.take i).flatMap encHV:=by
  rw[List.append_assoc,List.take_append_of_le_length (by rw[List.length_take];omega),List.take_take,<- hti];congr 1;omega
 have e2:(cur.take ((i+1) * 7)++(l.drop i).flatMap encHV++cur.drop ((l.length+1) * 7)).drop (i * 7+7)=(l.drop i).flatMap encHV++cur.drop ((l.length+1) * 7):=by
  have:(cur.take ((i+1) * 7)).length=i * 7+7:=by rw[List.length_take];omega
  rw[List.append_assoc,<- this,List.drop_left]
 rw[e1,e2]
 have hlen:((l.take i).flatMap encHV++encHV x++(l.drop i).flatMap encHV).length=(l.length+1) * 7:=by
  rw[qG,qG,hd,hx,hflat_len,List.length_take];omega
 rw[<- List.append_assoc,<- hlen,List.take_left];simp
theorem blk_of {w:World}{b:Nat}{t:TypeId}{cur:Array Value}(h:w.heap[b]? =some (.cells cur t (0,0))):Blk w b cur.toList t:=by unfold Blk;simpa using h
theorem shape_of {w:World}{b:Nat}{t:TypeId}{cs:List Value}(h:Blk w b cs t):w.shape? b=some (t,cs.length):=by
 unfold Blk at h;simp[World.shape?,h]
theorem insMid_calls (l:List HoldV)(x:HoldV)(i g c vb vc:Nat)(cur cv:List Value)(w:World)(hl:l.length<=1000000)(hi:i<l.length)(hroom:l.length+1<=c)(hmax:c<=maxLen)
 (hg:Blk w g cur 48) (hcur:cur.length=c * 7) (htk:cur.take (l.length * 7)=l.flatMap encHV)
 (hv:Blk w vb cv 48) (hvt:cv.take 7=encHV x) (hne:vb≠g):
 Calls Tryz.prog 187 #[.slice (some ⟨g,0,none⟩) l.length c,.int .i64 i,.slice (some ⟨vb,0,none⟩) 1 vc] w λe w'=>
  e= .returned (.slice (some ⟨g,0,none⟩) (l.length+1) c)/\w'=(w.drew.setCells g ((i+1) * 7) ((l.drop i).flatMap encHV)).setCells g (i * 7) (encHV x):=by
 have hc63:c<=9223372036854775807:=by unfold maxLen at hmax;omega
 have hz2:¬((i:Int)=(l.length:Int)):=by omega
 have hsz:(Tryz.prog.info? 48).map (·.size)=some 7:=by
  obtain⟨i0,hi0,h0,h1,h2⟩:=info_parts infoHold;rw[hi0];simp[h1]
 have hzs:∀w,(Go.sizeOf 48).run Tryz.prog w= .ok 7 w:=λw=>by kernel_rfl
 have hov:∀o lb cb,(callFunc 221 #[.slice (some ⟨vb,0,none⟩) 1 vc,.slice (some ⟨g,o,none⟩) lb cb]).run Tryz.prog w= .ok (.value (.bool false)) w:=λo lb cb=>by
  rw[run_callFunc_extern Tryz.func221 (by kernel_rfl) (by kernel_rfl) (by kernel_rfl) (e:=Extern.SlicesOverlaps.overlaps #[42,42] #[4]) (by kernel_rfl),
   Lib.run_overlaps_apart w 42 4 48 Tryz.underlying42 7 hzs ⟨vb,0,none⟩ ⟨g,o,none⟩ 1 vc lb cb hne _ _ _ _ (shape_of hv) (shape_of hg) (by omega) (hv.free 0) (hv.free _)]
  rfl
 have hd:((l.drop i).flatMap encHV).length=(l.length - i) * 7:=by rw[hflat_len,List.length_drop]
 have hw1:IntKind.i64.wrap ((i:Int)+1)=(i:Int)+1:=by rw[IntKind.wrap_i64];omega
 have hb1:(0:Int)<=(i:Int)+1:=by omega
 have hin:i<=l.length:=by omega
 have htn:((i:Int)+1).toNat=i+1:=by omega
 have hb2:¬(c=i+1):=by omega
 have hb3:(i:Int)<=(l.length:Int)+1:=by omega
 have hb4:¬(c=i):=by omega
 have hcell:∀(W:World) cs,Blk W g cs 48->cs.length=c * 7->∀o n,o+n<=c * 7->(∀j,j<n->(W.cell? ⟨g,o+j,none⟩).isSome=true)/\(∀j,j<n->W.frozen? ⟨g,o+j,none⟩=false):=λW cs hb hl o n hn=>
  ⟨λj hj=>by rw[hb.cell (o+j),qE (by omega)];rfl,λj _=>hb.free _⟩
 have hcp1:∀ty dc sc,(Builtin.copy_ #[42,42] ty #[.slice (some ⟨g,(i+1) * 7,none⟩) (l.length - i) dc,.slice (some ⟨g,i * 7,none⟩) (l.length+1 - i) sc]).run Tryz.prog w.drew= .ok (goInt ((l.length - i:Nat):Int)) (w.drew.setCells g ((i+1) * 7) ((l.drop i).flatMap encHV)):=λty dc sc=>by
  obtain⟨h1,h2⟩:=hcell w.drew cur hg.drew hcur ((i+1) * 7) ((l.length - i) * 7) (by omega);refine run_copy_k w.drew _ _ ty 48 7 (l.length - i) g ((i+1) * 7) (l.length - i) dc ⟨g,i * 7,none⟩ (l.length+1 - i) sc _ Tryz.underlying42 hsz (by simp only[Nat.min_def];split<;>omega) hd (λj v hj=>?_) (by rw[hd];exact h1) (by rw[hd];exact h2) (one_flat _);rw[Addr.add_lit,hg.drew.cell (i * 7+j)];rw[<- hflat_drop,<- htk,List.getElem?_drop,List.getElem?_take]at hj
  split at hj
  · exact hj
  · cases hj
 obtain⟨W1,hW1⟩:∃W1,W1=w.drew.setCells g ((i+1) * 7) ((l.drop i).flatMap encHV):=⟨_,rfl⟩;have hg1:Blk W1 g (splice cur ((i+1) * 7) ((l.drop i).flatMap encHV)) 48:=by rw[hW1];exact hg.drew.setCells _ _
 have hv1:Blk W1 vb cv 48:=by
  unfold Blk;rw[hW1,World.heap_setCells_other _ _ _ _ hv.drew.lt hne];exact hv.drew
 have hcp2:∀(W:World),(∀x,W.cell? x=W1.cell? x)->(∀x,W.frozen? x=W1.frozen? x)->∀ty dc,(Builtin.copy_ #[42,42] ty #[.slice (some ⟨g,i * 7,none⟩) (l.length+1 - i) dc,.slice (some ⟨vb,0,none⟩) 1 vc]).run Tryz.prog W= .ok (goInt 1) (W.setCells g (i * 7) (encHV x)):=λW hWc hWf ty dc=>by
  obtain⟨h1,h2⟩:=hcell W1 _ hg1 (by rw[splice_length,hcur]) (i * 7) 7 (by omega);refine run_copy_k W _ _ ty 48 7 1 g (i * 7) (l.length+1 - i) dc ⟨vb,0,none⟩ 1 vc (encHV x) Tryz.underlying42 hsz (by simp only[Nat.min_def];split<;>omega) rfl (λj v hj=>?_) (λj hj=>by rw[hWc];exact h1 j hj) (λj hj=>by rw[hWf];exact h2 j hj) (one_hold x);rw[Addr.add_lit,hWc,hv1.cell (0+j),Nat.zero_add];rw[<- hvt,List.getElem?_take]at hj
  split at hj
  · exact hj
  · cases hj
 rw[<- hW1]at hcp1;clear hcell hd hg1 hv1 htk hvt;have HW1:=qA hW1;clear hW1;go_enter Tryz.func187,Tryz.ntmps187;go_wp2_with (simp only[hov])
 go_region_law (refine step_copy_runI rfl _ _ 42 42 rfl _ _ (by simp[Act.eval,Act.put]) (by simp[Act.eval,Act.put]) (hcp1 _ _ _) ?_)
 go_wp2_with (with_reducible refine wpList_copy_runI _ rfl _ _ 42 42 rfl _ _ rfl rfl (hcp2 _ (λ_=>rfl) (λ_=>rfl) _ _) ?_);go_ret;exact⟨rfl,by rw[HW1.out]⟩
end Go.Proofs.YtmpmggejhnmakaaGreatDoor
/- slices.Insert at holds, one hold, ahead of others, where there is no room; the three roads as one. -/
namespace Go.Proofs.YtmpmggejhnmakaaGreatDoor
open Go.RowKit Go.Lib
theorem zc_size (c:Array Value)(n:Nat):(Builtin.zeroCells c n).size=n * c.size:=by simp[Builtin.zeroCells]
def zeroH:Array Value:= #[.string ⟨#[]⟩,.int .i64 0,.int .i64 0,.slice none 0 0,.slice none 0 0,.bool false,.string ⟨#[]⟩]
def growRow (l:List HoldV)(i G:Nat):List Value:=(l.take i).flatMap encHV++(Builtin.zeroCells zeroH (l.length+1 - i)).toList++(Builtin.zeroCells zeroH (G - (l.length+1))).toList
theorem growRow_len (l:List HoldV)(i G:Nat)(hi:i<=l.length)(hG:l.length+1<=G):(growRow l i G).length=G * 7:=by
 have h7:zeroH.size=7:=rfl;simp only[growRow,qG,hflat_len,List.length_take,Array.length_toList,zc_size,h7];omega
theorem growRow_ins (l:List HoldV)(x:HoldV)(i G:Nat)(hi:i<l.length)(hG:l.length+1<=G):
 (splice (splice (growRow l i G) (i * 7) (encHV x)) ((i+1) * 7) ((l.drop i).flatMap encHV)).take ((l.length+1) * 7)=(l.take i++x::l.drop i).flatMap encHV:=by
 have hL:=growRow_len l i G (by omega) hG;have hd:((l.drop i).flatMap encHV).length=(l.length - i) * 7:=by rw[hflat_len,List.length_drop]
 have hx:(encHV x).length=7:=rfl;have ht:((l.take i).flatMap encHV).length=i * 7:=by rw[hflat_len,List.length_take];omega
 have e1:(growRow l i G).take (i * 7)=(l.take i).flatMap encHV:=by
  unfold growRow;rw[List.append_assoc,<- ht,List.take_left]
 rw[splice_eq ((l.drop i).flatMap encHV) _ _ (by rw[splice_length,hd,hL];omega),splice_eq (encHV x) _ _ (by rw[hx,hL];omega),hx,hd,e1]
 have e2:(((l.take i).flatMap encHV)++encHV x++(growRow l i G).drop (i * 7+7)).take ((i+1) * 7)=(l.take i).flatMap encHV++encHV x:=by
  rw[show (i+1) * 7=((l.take i).flatMap encHV++encHV x).length from by rw[qG,ht,hx];omega,List.take_left]
 rw[e2]
 have hlen:((l.take i).flatMap encHV++encHV x++(l.drop i).flatMap encHV).length=(l.length+1) * 7:=by
  rw[qG,qG,hd,hx,ht];omega
 rw[<- hlen,List.take_left];simp
theorem insGrow_calls (l:List HoldV)(x:HoldV)(i g c vb vc:Nat)(cur cv:List Value)(w:World)(hl:l.length<=1000000)(hi:i<l.length)(hc:l.length<=c)(hroom:c<l.length+1)
 (hg:Blk w g cur 48) (htk:cur.take (l.length * 7)=l.flatMap encHV)
 (hv:Blk w vb cv 48) (hvt:cv.take 7=encHV x):
 Calls Tryz.prog 187 #[.slice (some ⟨g,0,none⟩) l.length c,.int .i64 i,.slice (some ⟨vb,0,none⟩) 1 vc] w λe w'=>
  ∃G,l.length+1<=G/\G<=maxLen/\e= .returned (.slice (some ⟨w.heap.size,0,none⟩) (l.length+1) G)/\
  w'=(((w.alloc (.cells (growRow l i G).toArray 48)).drew.setCells w.heap.size (i * 7) (encHV x)).drew).setCells w.heap.size ((i+1) * 7) ((l.drop i).flatMap encHV):=by
 obtain⟨i0,hi0,hz0,hzs,hzb⟩:=info_parts infoHold;have hz2:¬((i:Int)=(l.length:Int)):=by omega
 have hz3:(c:Int)<(l.length:Int)+1:=by omega
 have hsz:(Tryz.prog.info? 48).map (·.size)=some 7:=by rw[hi0];simp[hzs]
 have hkk:(l.length:Int)+1 - (i:Int)=((l.length+1 - i:Nat):Int):=by omega
 have hik:i+(l.length+1 - i)=l.length+1:=by omega
 have hti:(cur.take (i * 7))=(l.take i).flatMap encHV:=by rw[<- hflat_take,<- htk,List.take_take];congr 1;omega
 have hcl:l.length * 7<=cur.length:=by
  have:=congrArg List.length htk
  rw[hflat_len,List.length_take]at this;omega
 have hold:(Builtin.firstCells i0.size i (.slice (some ⟨g,0,none⟩) i c)).run Tryz.prog w.drew= .ok ((l.take i).flatMap encHV).toArray w.drew:=by
  rw[hzs]
  exact run_firstCells_some w.drew 7 i ⟨g,0,none⟩ i c ((l.take i).flatMap encHV) (by rw[hflat_len,List.length_take];omega) (λj v hj=>by
   rw[Addr.add_lit,Nat.zero_add,hg.drew.cell j];rw[<- hti,List.getElem?_take]at hj
   split at hj
   · exact hj
   · cases hj)
 obtain⟨G,hG⟩:∃G,G=grownCap w (l.length+1) c 48:=⟨_,rfl⟩
 have hrz:∀ty,(Builtin.append_ #[42,3] ty #[.slice (some ⟨g,0,none⟩) i c,.int .i64 ((l.length:Int)+1 - (i:Int))]).run Tryz.prog w=
  .ok (.slice (some ⟨w.heap.size,0,none⟩) (l.length+1) G) (w.drew.alloc (.cells (growRow l i G).toArray 48)):=λty=>by
  have h:=Lib.run_append_grow_zeros w 42 3 ty 48 i0 _ .i64 .i64 Tryz.underlying42 Tryz.underlying3 hi0 hz0 (some ⟨g,0,none⟩) i c _ hold (l.length+1 - i) (by omega) (by omega) (by omega) (by omega) (by rw[hzb];omega) (by rw[hzb,hik];exact growslice_fits hroom (by omega));rw[hik,<- hG]at h;rw[hkk,h]
  have:growRow l i G=((l.take i).flatMap encHV).toArray.toList++(Builtin.zeroCells zeroH (l.length+1 - i)).toList++(Builtin.zeroCells zeroH (G - (l.length+1))).toList:=rfl
  rw[this,<- Array.toList_append,<- Array.toList_append];rfl
 have hGn:l.length+1<=G:=by rw[hG];exact grownCap_ge w _ _ _
 have hG63:G<=maxLen:=by rw[hG];exact grownCap_le_maxLen w _ _ _ (by unfold maxLen;omega)
 have hG64:G<=9223372036854775807:=by unfold maxLen at hG63;omega
 have hRL:=growRow_len l i G (by omega) hGn;obtain⟨ROW,hROW⟩:∃ROW,ROW=growRow l i G:=⟨_,rfl⟩;rw[<- hROW]at hrz hRL;have HROW:=qA hROW;obtain⟨W1,hW1⟩:∃W1,W1=w.drew.alloc (.cells ROW.toArray 48):=⟨_,rfl⟩;obtain⟨N,hN⟩:∃N,N=w.heap.size:=⟨_,rfl⟩;have hb1:Blk W1 N ROW 48:=by rw[hW1,hN];exact Blk.new w.drew ROW 48
 have hgN:g≠N:=by have:=hg.lt;omega
 have hvN:vb≠N:=by have:=hv.lt;omega
 have hg1:Blk W1 g cur 48:=by rw[hW1];exact hg.drew.alloc _
 have hv1:Blk W1 vb cv 48:=by rw[hW1];exact hv.drew.alloc _
 have hd:((l.drop i).flatMap encHV).length=(l.length - i) * 7:=by rw[hflat_len,List.length_drop]
 have hcpA:∀(W:World),(∀x,W.cell? x=W1.cell? x)->(∀x,W.frozen? x=W1.frozen? x)->∀ty dc,(Builtin.copy_ #[42,42] ty #[.slice (some ⟨N,i * 7,none⟩) (l.length+1 - i) dc,.slice (some ⟨vb,0,none⟩) 1 vc]).run Tryz.prog W= .ok (goInt 1) (W.setCells N (i * 7) (encHV x)):=λW hWc hWf ty dc=>by
  refine run_copy_k W _ _ ty 48 7 1 N (i * 7) (l.length+1 - i) dc ⟨vb,0,none⟩ 1 vc (encHV x) Tryz.underlying42 hsz (by simp only[Nat.min_def];split<;>omega) rfl (λj v hj=>?_) (λj hj=>?_) (λj hj=>by rw[hWf];exact hb1.free _) (one_hold x)
  · rw[Addr.add_lit,hWc,hv1.cell (0+j),Nat.zero_add]
    rw[<- hvt,List.getElem?_take]at hj
    split at hj
    · exact hj
    · cases hj
  · have hj7:j<7:=hj
    rw[hWc,hb1.cell,qE (by omega)];rfl
 obtain⟨W2,hW2⟩:∃W2,W2=W1.setCells N (i * 7) (encHV x):=⟨_,rfl⟩;have hb2:Blk W2 N (splice ROW (i * 7) (encHV x)) 48:=by rw[hW2];exact hb1.setCells _ _
 have hg2:Blk W2 g cur 48:=by
  unfold Blk;rw[hW2,World.heap_setCells_other _ _ _ _ hg1.lt hgN];exact hg1
 have hcpB:∀(W:World),(∀x,W.cell? x=W2.cell? x)->(∀x,W.frozen? x=W2.frozen? x)->∀ty dc sc,(Builtin.copy_ #[42,42] ty #[.slice (some ⟨N,(i+1) * 7,none⟩) (l.length - i) dc,.slice (some ⟨g,i * 7,none⟩) (l.length - i) sc]).run Tryz.prog W= .ok (goInt ((l.length - i:Nat):Int)) (W.setCells N ((i+1) * 7) ((l.drop i).flatMap encHV)):=λW hWc hWf ty dc sc=>by
  refine run_copy_k W _ _ ty 48 7 (l.length - i) N ((i+1) * 7) (l.length - i) dc ⟨g,i * 7,none⟩ (l.length - i) sc _ Tryz.underlying42 hsz (by simp only[Nat.min_def];split<;>omega) hd (λj v hj=>?_) (λj hj=>?_) (λj hj=>by rw[hWf];exact hb2.free _) (one_flat _)
  · rw[Addr.add_lit,hWc,hg2.cell (i * 7+j)]
    rw[<- hflat_drop,<- htk,List.getElem?_drop,List.getElem?_take]at hj
    split at hj
    · exact hj
    · cases hj
  · rw[hd]at hj
    rw[hWc,hb2.cell,qE (by rw[splice_length];omega)];rfl
 have hwd:(w.alloc (.cells ROW.toArray 48)).drew=W1:=by rw[hW1];rfl
 have hdc:∀(W:World) a,W.drew.cell? a=W.cell? a:=λ_ _=>rfl;have hdf:∀(W:World) a,W.drew.frozen? a=W.frozen? a:=λ_ _=>rfl;have hE1:∀a,((w.alloc (.cells ROW.toArray 48)).drew).cell? a=W1.cell? a:=λa=>by rw[hwd]
 have hE2:∀a,((w.alloc (.cells ROW.toArray 48)).drew).frozen? a=W1.frozen? a:=λa=>by rw[hwd]
 have hF1:∀a,(((w.alloc (.cells ROW.toArray 48)).drew.setCells N (i * 7) (encHV x)).drew).cell? a=W2.cell? a:=λa=>by rw[hdc,hwd,<- hW2]
 have hF2:∀a,(((w.alloc (.cells ROW.toArray 48)).drew.setCells N (i * 7) (encHV x)).drew).frozen? a=W2.frozen? a:=λa=>by rw[hdf,hwd,<- hW2]
 have hrz2:∀ty,(Builtin.append_ #[42,3] ty #[.slice (some ⟨g,0,none⟩) i c,.int .i64 ((l.length:Int)+1 - (i:Int))]).run Tryz.prog w=
  .ok (.slice (some ⟨N,0,none⟩) (l.length+1) G) (w.alloc (.cells ROW.toArray 48)).drew:=λty=>by rw[hrz ty,hN,hwd,hW1]
 rw[<- hN];have hw1:IntKind.i64.wrap ((i:Int)+1)=(i:Int)+1:=by rw[IntKind.wrap_i64];omega
 have hb1':(0:Int)<=(i:Int)+1:=by omega
 have hin:i<=l.length:=by omega
 have htn:((i:Int)+1).toNat=i+1:=by omega
 have hb3:(i:Int)<=(l.length:Int):=by omega
 have hGi:¬(G=i):=by omega
 have hGim:¬(G=i+1):=by omega
 have hci:¬(c=i):=by omega
 have HA:=qA hcpA;have HB:=qA hcpB;have HRZ:=qA hrz2;have HE1:=qA hE1;have HE2:=qA hE2;have HF1:=qA hF1;have HF2:=qA hF2;clear hwd hdc hdf hkk hik hold hROW hG hRL hrz hrz2 hW1 hW2 hb1 hb2 hg1 hg2 hv1 hd hcpA hcpB hE1 hE2 hF1 hF2 hti hcl htk hvt hN hz0 hzs hzb hi0 hsz hg hv;go_enter Tryz.func187,Tryz.ntmps187
 go_wp2_with (first
  | (at_builtin;refine Lib.wpList_append_run _ rfl _ _ _ _ rfl _ _ rfl rfl _ _ (HRZ.out _) ?_)
  | (with_reducible refine wpList_copy_runI _ rfl _ _ 42 42 rfl _ _ rfl rfl (HA.out _ HE1.out HE2.out _ _) ?_))
 go_region_law (refine step_copy_runI rfl _ _ 42 42 rfl (.slice (some ⟨N,(i+1) * 7,none⟩) (l.length - i) (G - (i+1))) (.slice (some ⟨g,i * 7,none⟩) (l.length - i) (c - i)) (by simp[Act.eval,Act.put]) (by simp[Act.eval,Act.put]) (HB.out _ HF1.out HF2.out 3 (G - (i+1)) (c - i)) ?_)
 go_wp2_with fail;go_ret;exact⟨G,hGn,hG63,rfl,by rw[<- HROW.out]⟩
end Go.Proofs.YtmpmggejhnmakaaGreatDoor
/- slices.Insert at holds, one hold: the three roads as one. -/
namespace Go.Proofs.YtmpmggejhnmakaaGreatDoor
open Go.RowKit Go.Lib
theorem own_of_blk {w:World}{g n cap:Nat}{cs xs:List Value}{t:TypeId}{sz:Nat}(hb:Blk w g cs t)(hl:cs.length=cap * sz)(hn:n<=cap)(hm:cap<=maxLen)(ht:cs.take (n * sz)=xs):w.ownsRow 0 t sz (.slice (some ⟨g,0,none⟩) n cap) n xs:=by
 refine⟨?_,.inr ⟨g,cap,cs.toArray,rfl,Nat.zero_le _,hb,hn,hm,by simpa using hl,by simpa using ht⟩⟩;rw[<- ht,List.length_take,hl,Nat.min_eq_left (Nat.mul_le_mul_right _ hn)]
theorem insert_calls (l:List HoldV)(x:HoldV)(i:Nat)(v:Value)(vb vc:Nat)(cv:List Value)(w:World)(hl:l.length<=1000000)(hi:i<=l.length)(hown:w.ownsRow 0 48 7 v l.length (l.flatMap encHV))
 (hv:Blk w vb cv 48) (hvt:cv.take 7=encHV x) (hne:v.ownBlock≠some vb):
 Calls Tryz.prog 187 #[v,.int .i64 i,.slice (some ⟨vb,0,none⟩) 1 vc] w λe w'=>
  ∃v':Value,e= .returned v'/\w'.ownsRow 0 48 7 v' (l.length+1) ((l.take i++x::l.drop i).flatMap encHV)/\Kept1 w v v'/\But (λj=>v.ownBlock=some j) w w':=by
 rcases Nat.lt_or_ge i l.length with h | h
 · rcases hown.2 with ⟨rfl,h0⟩ | ⟨g,c,cur,rfl,_,hg,hn,hm,hcs,htk⟩
   · omega
   have hgb:=blk_of hg;have hvg:vb≠g:=λe=>hne (by rw[e];rfl);have hcs':cur.toList.length=c * 7:=by simpa using hcs
   rcases Nat.lt_or_ge c (l.length+1) with hr | hr
   · refine (insGrow_calls l x i g c vb vc cur.toList cv w hl h hn hr hgb htk hv hvt).mono ?_
     rintro e w' ⟨G,hG1,hG2,rfl,rfl⟩;refine⟨_,rfl,own_of_blk (cs:=splice (splice (growRow l i G) (i * 7) (encHV x)) ((i+1) * 7) ((l.drop i).flatMap encHV)) ?_ (by rw[splice_length,splice_length,growRow_len l i G hi hG1]) hG1 hG2 (growRow_ins l x i G h hG1),λk hk=>?_,?_⟩
     · exact (((Blk.new w (growRow l i G) 48).drew.setCells (encHV x) (i * 7)).drew).setCells _ _
     · simp[Value.ownBlock]at hk
       right;omega
     · have h0:But (λj=>w.heap.size<=j) w (((w.alloc (.cells (growRow l i G).toArray 48)).drew.setCells w.heap.size (i * 7) (encHV x)).drew.setCells w.heap.size ((i+1) * 7) ((l.drop i).flatMap encHV)):=
        but_setCells (qL _) _ _ ((but_setCells (qL _) _ _ (((But.refl _ w).alloc _).drew)).drew)
       exact (h0.ext (λk hk e=>by omega)).but _
   · refine (insMid_calls l x i g c vb vc cur.toList cv w hl h hr hm hgb hcs' htk hv hvt hvg).mono ?_
     rintro e w' ⟨rfl,rfl⟩;refine⟨_,rfl,own_of_blk (cs:=splice (splice cur.toList ((i+1) * 7) ((l.drop i).flatMap encHV)) (i * 7) (encHV x)) ?_ (by rw[splice_length,splice_length,hcs']) hr hm (insRow l x i c cur.toList h hr hcs' htk),λk hk=> .inl ?_,?_⟩
     · exact (hgb.drew.setCells _ _).setCells _ _
     · exact hk
     · exact but_setCells (by rfl) _ _ (but_setCells (by rfl) _ _ (But.refl _ w).drew)
 · obtain rfl:i=l.length:=by omega
   refine (insEnd_calls l x v vb vc w hl hown (λj u hj=>?_)).mono ?_
   · have hj7:j<7:=(qF.1 hj).1
     rw[Addr.add_lit,Nat.zero_add,hv.cell j];rw[<- hvt,List.getElem?_take,if_pos hj7]at hj;exact hj
   · rintro e w' ⟨v',rfl,h1,h2,h3⟩
     exact⟨v',rfl,by rw[List.take_length,List.drop_length];exact h1,h2,h3⟩
end Go.Proofs.YtmpmggejhnmakaaGreatDoor
/- those: the holds of which a function tells yes, in memory of their own; the function is any one. -/
namespace Go.Proofs.YtmpmggejhnmakaaGreatDoor
open Go.RowKit
def Asks (g:Nat)(lb:Array Value)(p:ByteArray->Int->Int->Bool)(S:Nat->Prop)(w:World):Prop:=
 ∀W,But S w W->∀x:HoldV,x.key.size<=140737488351232->Calls Tryz.prog g (#[.agg (encHV x).toArray]++lb) W λe w'=>e= .returned (.bool (p x.key x.cl x.nm))/\Ext W w'
theorem Asks.but {g:Nat}{lb:Array Value}{p:ByteArray->Int->Int->Bool}{S:Nat->Prop}{w w':World}(h:Asks g lb p S w)(hx:But S w w'):Asks g lb p S w':=
 λW hW=>h W (hx.trans hW (λ_ _ e=>e) (λ_ _ e=>e))
theorem Asks.mono {g:Nat}{lb:Array Value}{p:ByteArray->Int->Int->Bool}{S T:Nat->Prop}{w:World}(h:Asks g lb p S w)(hS:∀i,T i->S i):Asks g lb p T w:=
 λW hW=>h W (hW.mono λi _ e=>hS i e)
theorem Asks.ext {g:Nat}{lb:Array Value}{p:ByteArray->Int->Int->Bool}{S:Nat->Prop}{w w':World}(h:Asks g lb p S w)(hx:Ext w w'):Asks g lb p S w':=h.but (hx.but S)
def HoldV.tells (p:ByteArray->Int->Int->Bool)(x:HoldV):Bool:=p x.key x.cl x.nm
def HoldD.tells (p:ByteArray->Int->Int->Bool)(x:HoldD):Bool:=p x.key x.cl x.nm
theorem HoldsAre.filter {w:World}{no:Nat->Prop}(p:ByteArray->Int->Int->Bool):∀{vs:List HoldV}{ds:List HoldD},HoldsAre w no vs ds->HoldsAre w no (vs.filter (·.tells p)) (ds.filter (·.tells p))
 | [],[],_=>trivial
 | [],_::_,h=>h.elim
 | _::_,[],h=>h.elim
 | v::vs,d::ds,h=>by
   have e:v.tells p=d.tells p:=by unfold HoldV.tells HoldD.tells;rw[h.1.key,h.1.cl,h.1.nm]
   have ih:=HoldsAre.filter p h.2;cases hd:d.tells p
   · rw[List.filter_cons_of_neg (by rw[e,hd];decide),List.filter_cons_of_neg (by rw[hd];decide)];exact ih
   · rw[List.filter_cons_of_pos (by rw[e,hd]),List.filter_cons_of_pos hd];exact⟨h.1,ih⟩
theorem filter_succ {α:Type}(q:α->Bool)(l:List α)(k:Nat)(x:α)(h:l[k]? =some x):(l.take (k+1)).filter q=(l.take k).filter q++(if q x=true then [x] else []):=by
 rw[List.take_add_one,h,List.filter_append];simp[List.filter_cons]
theorem those_calls (g:Nat)(lb:Array Value)(eg:∀args w,(callFunc g args).run Tryz.prog w= .ok (.enter g args) w)(p:ByteArray->Int->Int->Bool)
 (l:List HoldV) (ds:List HoldD) (no:Nat->Prop) (ao:Option Addr) (cap hb:Nat) (w:World) (hl:l.length<=1000000) (hr:Rows 7 encHV w.heap.size w ao l) (hd:HoldsAre w no l ds) (hfit:∀d∈ds,d.fits)
 (hc:w.cell? ⟨hb,0,none⟩=some (.slice ao l.length cap)) (hks:∀x∈l,x.key.size<=140737488351232) (hq:Asks g lb p (λ_=>False) w):
 Calls Tryz.prog 107 #[.pointer (some ⟨hb,0,none⟩),.func (.func g) #[] lb] w λe w'=>∃(v:Value) (l':List HoldV),e= .returned v/\l'.length=(ds.filter (·.tells p)).length/\w'.ownsRow 0 48 7 v l'.length (l'.flatMap encHV)/\(∀j,v.ownBlock=some j->w.heap.size<=j)/\HoldsAre w' (λb=>v.ownBlock=some b\/b<w.heap.size) l' (ds.filter (·.tells p))/\Mine w' w.heap.size l'/\Ext w w':=by
 obtain⟨i0,hi,hz0,hz1,hz2⟩:=info_parts infoHold;have HR:=qA hr;have HD:=qA hd;have HF:=qA hfit;have HQ:=qA hq;have HKS:=qA hks;clear hr hd hfit hq hks;go_enter Tryz.func107,Tryz.ntmps107;go_wp2_with fail;go_loopw [5,13] (λv i wr=>∃(k:Nat),k<=l.length/\i= .int .i64 k/\wr.ownsRow 0 48 7 v ((l.take k).filter (·.tells p)).length (((l.take k).filter (·.tells p)).flatMap encHV)/\(∀j,v.ownBlock=some j->w.heap.size<=j)/\Ext w wr) (λ_ i _=>l.length - (intOf i).toNat)
 case atStart=>exact⟨0,by omega,rfl,World.ownsRow_nil _ _ _ _,by simp[Value.ownBlock],qK _ _⟩
 case round=>
  obtain⟨k,hk,rfl,hown,hnew,hx⟩:=hrel;have K1:=qA hown;have K2:=qA hnew;have K4:=qA hx;clear hown hnew hx;by_cases hlt:k<l.length
  · obtain⟨x,hx⟩:∃x,l[k]? =some x:=⟨_,qE hlt⟩
    obtain⟨b,off,rfl,hb,hcell⟩:=HR.out (by intro e;rw[e]at hlt;simp at hlt);have hcx:=hcell k x hx;have hmove:∀j,wr.cell? ⟨b,j,none⟩=w.cell? ⟨b,j,none⟩:=λj=>K4.out.cell (p:=⟨b,j,none⟩) hb;have hfs:=filter_succ (·.tells p) l k x hx;have hfl:((l.take k).filter (·.tells p)).length<=k:=qM (List.length_filter_le ..) (List.length_take_le ..);have hax:∀W,Ext wr W->Calls Tryz.prog g (#[.agg (encHV x).toArray]++lb) W λe w'=>e= .returned (.bool (x.tells p))/\Ext W w':=λW hW=>HQ.out W ((qJ K4.out hW).but _) x (HKS.out x (qH hx));obtain⟨key,cl,nm,xo,xn,xc,yo,yn,yc,put,value⟩:=x;have d0:=(hmove _).trans (hcx 0 _ rfl);have d1:=(hmove _).trans (hcx 1 _ rfl);have d2:=(hmove _).trans (hcx 2 _ rfl);have d3:=(hmove _).trans (hcx 3 _ rfl);have d4:=(hmove _).trans (hcx 4 _ rfl);have d5:=(hmove _).trans (hcx 5 _ rfl);have d6:=(hmove _).trans (hcx 6 _ rfl);simp only[Nat.add_zero]at d0;have ii0:(0:Int)<=(k:Int):=by omega
    have i1:(k:Int)<(l.length:Int):=by omega
    have HAX:=qA hax;have HFS:=qA hfs;have hbox:=Blk.new wr [.string key,.int .i64 cl,.int .i64 nm,.slice xo xn xc,.slice yo yn yc,.bool put,.string value] 48;have hxb:Ext wr (wr.alloc (.cells #[.string key,.int .i64 cl,.int .i64 nm,.slice xo xn xc,.slice yo yn yc,.bool put,.string value] 48)):=(qK _ wr).alloc (qL _) _;have HB:=qA hbox;have XB:=qA hxb;clear hx hcell hcx hmove hbox hxb hax hfs;go_wp2_with fail;refine (HAX.out _ XB.out).mono ?_;rintro e w2 ⟨rfl,hx2⟩;have hb2:=HB.out.ext' hx2;have K5:=qA (qJ XB.out hx2);have hlt2:=hb2.lt;have c0:=hb2.cell 0;have c1:=hb2.cell 1;have c2:=hb2.cell 2;have c3:=hb2.cell 3;have c4:=hb2.cell 4;have c5:=hb2.cell 5;have c6:=hb2.cell 6;simp only[qB,qC]at c0 c1 c2 c3 c4 c5 c6;clear hb2 hx2 d0 d1 d2 d3 d4 d5 d6;have CN:=qA (cells_new w2 (encHV ⟨key,cl,nm,xo,xn,xc,yo,yn,yc,put,value⟩) 48);have E2:Hid (Ext w2 (w2.alloc (.cells (encHV ⟨key,cl,nm,xo,xn,xc,yo,yn,yc,put,value⟩).toArray 48))):=qA ((qK _ w2).alloc (qL _) _);cases hp:HoldV.tells p ⟨key,cl,nm,xo,xn,xc,yo,yn,yc,put,value⟩
    · have HP:=qA hp;clear hp
      go_wp2_with fail;go_roundw
      case rel=>
       refine⟨k+1,by omega,by go_num,?_,K2.out,qJ K4.out K5.out⟩;rw[HFS.out,HP.out];simpa using own_ext K1.out K5.out
      case measure=>simp[intOf];omega
    · have HP:=qA hp;clear hp
      generalize hF:(l.take k).filter (·.tells p)=F at *;have HFF:=qA hF;clear hF;go_wp2_with (at_builtin;refine wpList_append_at _ rfl _ _ 42 rfl 48 i0 _ 7 104 Tryz.underlying42 hi hz0 hz1 hz2 rfl (by decide) _ F.length (F.flatMap encHV) rfl (own_ext (own_ext K1.out K5.out) E2.out) ⟨w2.heap.size,0,none⟩ 1 1 (encHV ⟨key,cl,nm,xo,xn,xc,yo,yn,yc,put,value⟩) rfl rfl CN.out (one_hold _) (by decide) (by unfold maxLen;omega) (by omega) ?_;intro g cap2 w4 hown' hbut hkept;have Y1:=qA hown';have Y2:=qA hbut;have Y3:=qA hkept;clear hown' hbut hkept);go_roundw
      case rel=>
       refine⟨k+1,by omega,by go_num,?_,?_,?_⟩
       · have:=Y1.out
         rw[HFS.out,HP.out];simpa using this
       · intro j hj
         rcases Y3.out j hj with e | e
         · exact K2.out j e
         · have e':=qM E2.out.size e;have:=K5.out.size;have:=K4.out.size;omega
       · exact Below.trans K4.out (((Ext.but (qJ K5.out E2.out) (λ_=>False)).trans Y2.out (U:=λj=>w.heap.size<=j) (λ_ _ e=>e.elim) (λi _ e=>K2.out i e)).below K4.out.size (λ_ h=>h))
      case measure=>simp[intOf];omega
  · have hall:(l.take k).filter (·.tells p)=l.filter (·.tells p):=by rw[List.take_of_length_le (by omega)]
    rw[hall]at K1;have hfl:(l.filter (·.tells p)).length<=l.length:=List.length_filter_le ..;have hav:=HoldsAre.filter p HD.out;have hff:∀d∈ds.filter (·.tells p),d.fits:=λd hd=>HF.out d (List.mem_filter.1 hd).1;obtain⟨oa,oc,rfl,_,_,hrow⟩:=Rows.own (enc:=encHV) (sz:=7) (λ_=>rfl) K1.out;have hlen:=hav.len;have HO:=qA (own_calls _ _ oa oc wr (by omega) hrow ((hav.ext K4.out).mono (λ_ _ e=>e.elim)) hff);have HLEN:=qA hlen;clear hall hav hff hrow hlen K1;go_wp2_with fail;refine HO.out.mono ?_;rintro e w5 ⟨v,l',rfl,h1,h2,h3,h4,h6,h5⟩;have H1:=qA h1;have H2:=qA h2;have H3:=qA h3;have H4:=qA h4;have H5:=qA h5;have H6:=qA h6;clear h1 h2 h3 h4 h5 h6 HO;go_wp2_with fail;go_ret;have hsz:=K4.out.size;exact⟨v,l',rfl,H1.out.trans HLEN.out,H2.out,λj hj=>qM hsz (H3.out j hj),H4.out.mono (λb _ e=>e.elim .inl (λh=> .inr (qN h hsz))),H6.out.base hsz,qJ K4.out H5.out⟩
def FirstH (p:ByteArray->Int->Int->Bool)(l:List HoldV)(k:Int):Prop:=
 (k= -1/\∀x∈l,x.tells p=false)\/∃n:Nat,k=n/\n<l.length/\(∀(i:Nat) (x:HoldV),i<n->l[i]? =some x->x.tells p=false)/\∀x,l[n]? =some x->x.tells p=true
theorem indexG_calls (g:Nat)(lb:Array Value)(eg:∀args w,(callFunc g args).run Tryz.prog w= .ok (.enter g args) w)(p:ByteArray->Int->Int->Bool)
 (l:List HoldV) (ao:Option Addr) (cap:Nat) (w:World) (hl:l.length<=1000000) (hks:∀x∈l,x.key.size<=140737488351232) (hr:Rows 7 encHV w.heap.size w ao l) (hq:Asks g lb p (λ_=>False) w):
 Calls Tryz.prog 218 #[.slice ao l.length cap,.func (.func g) #[] lb] w λe w'=>∃k:Int,e= .returned (.int .i64 k)/\FirstH p l k/\Ext w w':=by
 have HR:=qA hr;have HF:=qA hq;have HKS:=qA hks;clear hr hq hks;go_enter Tryz.func218,Tryz.ntmps218;go_wp2_with fail;go_loopw [8] (λi wr=>∃(k:Nat),k<=l.length/\i= .int .i64 k/\(∀(i:Nat) (x:HoldV),i<k->l[i]? =some x->x.tells p=false)/\Ext w wr) (λi _=>l.length - (intOf i).toNat)
 case atStart=>exact⟨0,by omega,rfl,λi x h=>by omega,qK _ _⟩
 case round=>
  obtain⟨k,hk,rfl,ha,hx⟩:=hrel;have K1:=qA ha;have K2:=qA hx;clear ha hx;by_cases hlt:k<l.length
  · obtain⟨x,hx⟩:∃x,l[k]? =some x:=⟨_,qE hlt⟩
    obtain⟨b,off,rfl,hb,hcell⟩:=HR.out (by intro e;rw[e]at hlt;simp at hlt);have hcx:=hcell k x hx;have hmove:∀j,wr.cell? ⟨b,j,none⟩=w.cell? ⟨b,j,none⟩:=λj=>K2.out.cell (p:=⟨b,j,none⟩) hb;have HX:=qA hx;have hcc:∀W,Ext wr W->Calls Tryz.prog g (#[.agg (encHV x).toArray]++lb) W λe w'=>e= .returned (.bool (x.tells p))/\Ext W w':=λW hW=>HF.out W ((qJ K2.out hW).but _) x (HKS.out x (qH hx));obtain⟨key,cl,nm,xo,xn,xc,yo,yn,yc,put,value⟩:=x;have d0:=(hmove _).trans (hcx 0 _ rfl);have d1:=(hmove _).trans (hcx 1 _ rfl);have d2:=(hmove _).trans (hcx 2 _ rfl);have d3:=(hmove _).trans (hcx 3 _ rfl);have d4:=(hmove _).trans (hcx 4 _ rfl);have d5:=(hmove _).trans (hcx 5 _ rfl);have d6:=(hmove _).trans (hcx 6 _ rfl);simp only[Nat.add_zero]at d0;have CC:=qA hcc;have i0:(0:Int)<=(k:Int):=by omega
    have i1:(k:Int)<(l.length:Int):=by omega
    clear hcell hcx hmove hx hcc;cases hrb:HoldV.tells p ⟨key,cl,nm,xo,xn,xc,yo,yn,yc,put,value⟩
    · have RB:=qA hrb;clear hrb
      go_wp2_with fail;refine (CC.out _ (qK _ _)).mono ?_;rw[RB.out];rintro e w' ⟨rfl,hx2⟩;have X2:=qA hx2;clear hx2;go_wp2_with fail;go_roundw
      case rel=>
       refine⟨k+1,by omega,by go_num,λi x hi hx=>?_,qJ K2.out X2.out⟩;rcases Nat.lt_or_ge i k with h | h
       · exact K1.out i x h hx
       · obtain rfl:i=k:=by omega
         rw[HX.out]at hx;rw[<- Option.some.inj hx];exact RB.out
      case measure=>simp[intOf];omega
    · have RB:=qA hrb;clear hrb
      go_wp2_with fail;refine (CC.out _ (qK _ _)).mono ?_;rw[RB.out];rintro e w' ⟨rfl,hx2⟩;have X2:=qA hx2;clear hx2;go_wp2_with fail;go_ret;exact⟨k,ret_int (by omega),.inr ⟨k,rfl,hlt,K1.out,λx hx=>by rw[HX.out]at hx;rw[<- Option.some.inj hx];exact RB.out⟩,qJ K2.out X2.out⟩
  · go_wp2_with fail
    go_ret;refine⟨-1,ret_int (by omega),.inl ⟨rfl,λx hx=>?_⟩,K2.out⟩
    obtain⟨i,hi⟩:=List.mem_iff_getElem?.1 hx;exact K1.out i x (by have:=(qF.1 hi).1;omega) hi
theorem run_clear_k {P:Program}(w:World)(t e ty:TypeId)(z:Value)(zc:Array Value)(ht:P.underlying t=some (.slice e))(hv:∀w,(zeroValue e).run P w= .ok z w)(hz:z.cells=zc)(h1:∀n,∀v∈(Builtin.zeroCells zc n).toList,v.oneCell'=true)(b o n c:Nat)(hn:0<n)
 (hc:∀j,j<n * zc.size->(w.cell? ⟨b,o+j,none⟩).isSome=true) (hf:∀j,j<n * zc.size->w.frozen? ⟨b,o+j,none⟩=false):
 (Builtin.clear_ #[t] ty #[.slice (some ⟨b,o,none⟩) n c]).run P w= .ok (.tuple #[]) (w.setCells b o (Builtin.zeroCells zc n).toList):=by
 have hl:(Builtin.zeroCells zc n).toList.length=n * zc.size:=by rw[Array.length_toList,zc_size]
 have hst:=run_storeCells_cells (P:=P) b o (Builtin.zeroCells zc n).toList 0 w (by rw[hl];simpa using hc) (by rw[hl];simpa using hf) (h1 n);have hn0:n≠0:=by omega
 cases n with
 | zero=>omega
 | succ m=>
   simp only[Nat.add_zero]at hst;simp[Builtin.clear_,run_underlying ht,hv,hz,hst,Result.andThen]
theorem zeroH_one:∀n,∀v∈(Builtin.zeroCells zeroH n).toList,v.oneCell'=true:=by
 intro n v hv;simp only[Builtin.zeroCells,Array.toList_map,List.mem_map]at hv;obtain⟨i,_,rfl⟩:=hv;have h:i % zeroH.size<7:=Nat.mod_lt _ (by decide)
 have:∀k,k<7->(zeroH[k]!).oneCell'=true:=by
  intro k hk
  match k,hk with
  | 0,_=>rfl
  | 1,_=>rfl
  | 2,_=>rfl
  | 3,_=>rfl
  | 4,_=>rfl
  | 5,_=>rfl
  | 6,_=>rfl
 exact this _ h
def keepH (p:ByteArray->Int->Int->Bool)(l:List HoldV):List HoldV:=l.filter λx=> !x.tells p
theorem keepH_succ (p:ByteArray->Int->Int->Bool)(l:List HoldV)(k:Nat)(x:HoldV)(h:l[k]? =some x):keepH p (l.take (k+1))=keepH p (l.take k)++(if x.tells p=true then [] else [x]):=by
 unfold keepH;rw[filter_succ _ l k x h];cases x.tells p<;>rfl
theorem splice_get:∀(vs:List Value)(cs:List Value)(o k:Nat),o+vs.length<=k->(splice cs o vs)[k]? =cs[k]?
 | [],_,_,_,_=>rfl
 | v::vs,cs,o,k,h=>by
   rw[List.length_cons]at h;rw[splice,splice_get vs _ (o+1) k (by omega),List.getElem?_set_ne (by omega)]
def TailH (cs:List Value)(j:Nat)(l:List HoldV):Prop:=∀(i:Nat)(x:HoldV),j<=i->l[i]? =some x->∀(t:Nat)(v:Value),(encHV x)[t]? =some v->cs[i * 7+t]? =some v
theorem take_splice (cs vs:List Value)(o:Nat)(h:o+vs.length<=cs.length):(splice cs o vs).take (o+vs.length)=cs.take o++vs:=by
 rw[splice_eq vs cs o h]
 have:(cs.take o++vs).length=o+vs.length:=by rw[qG,List.length_take];omega
 rw[<- this,List.take_left]
theorem take_splice' (cs vs:List Value)(o:Nat)(h:o+vs.length<=cs.length):(splice cs o vs).take o=cs.take o:=by
 rw[splice_eq vs cs o h,List.append_assoc]
 have:(cs.take o).length=o:=by rw[List.length_take];omega
 exact List.take_left' this
theorem del_calls (g:Nat)(lb:Array Value)(eg:∀args w,(callFunc g args).run Tryz.prog w= .ok (.enter g args) w)(p:ByteArray->Int->Int->Bool)
 (l:List HoldV) (v:Value) (w:World) (hl:l.length<=1000000) (hks:∀x∈l,x.key.size<=140737488351232) (hown:w.ownsRow 0 48 7 v l.length (l.flatMap encHV)) (hq:Asks g lb p (λj=>v.ownBlock=some j) w):
 Calls Tryz.prog 190 #[v,.func (.func g) #[] lb] w λe w'=>∃v':Value,e= .returned v'/\w'.ownsRow 0 48 7 v' (keepH p l).length ((keepH p l).flatMap encHV)/\(∀j,v'.ownBlock=some j->v.ownBlock=some j)/\But (λj=>v.ownBlock=some j) w w':=by
 obtain⟨ao,c,rfl,hlc,hcm,hrow⟩:=Rows.own (enc:=encHV) (sz:=7) (λ_=>rfl) hown;have HI:=qA (indexG_calls g lb eg p l ao c w hl hks hrow (hq.mono (λ_ e=>e.elim)));have HOW:=qA hown;have HQ:=qA hq;have HKS:=qA hks;clear hown hq hrow hks;unfold maxLen at hcm;go_enter Tryz.func190,Tryz.ntmps190;go_wp2_with fail;refine HI.out.mono ?_;rintro e w1 ⟨k,rfl,hk,hx1⟩;have X1:=qA hx1;clear hx1 HI;rcases hk with ⟨rfl,hno⟩ | ⟨n,rfl,hnl,hlo,hhi⟩
 · have hkeep:keepH p l=l:=by unfold keepH;rw[List.filter_eq_self];intro x hx;rw[hno x hx];rfl
   have HK:=qA hkeep;clear hkeep hno;go_wp2_with fail;go_ret;exact⟨_,rfl,by rw[HK.out];exact own_ext HOW.out X1.out,λ_ h=>h,X1.out.but _⟩
 · obtain⟨gb,rfl,cs,hblk,hcl,htk⟩:∃gb,ao=some ⟨gb,0,none⟩/\∃cs,Blk w gb cs 48/\cs.length=c * 7/\cs.take (l.length * 7)=l.flatMap encHV:=by
    rcases HOW.out.2 with ⟨h,h0⟩ | ⟨gb,cap,cur,h,_,hg,_,_,hcs,htk⟩
    · omega
    · simp only[Value.slice.injEq,true_and]at h
      obtain⟨rfl,rfl⟩:=h;exact⟨gb,rfl,cur.toList,blk_of hg,by simpa using hcs,htk⟩
   have hS:∀j,(Value.slice (some ⟨gb,0,none⟩) l.length c).ownBlock=some j↔j=gb:=λj=>by simp[Value.ownBlock,eq_comm]
   have htail:TailH cs (n+1) l:=by
    intro i x _ hx t u hu;have ht7:t<7:=(qF.1 hu).1;have hil:=(qF.1 hx).1
    have:=flat_at (enc:=encHV) (sz:=7) (λ_=>rfl) l i x hx t u hu
    rw[<- htk,List.getElem?_take,if_pos (by omega)]at this;exact this
   have hkn:keepH p (l.take (n+1))=l.take n:=by
    obtain⟨y,hy⟩:∃y,l[n]? =some y:=⟨_,qE hnl⟩;rw[keepH_succ p l n y hy,if_pos (hhi y hy),List.append_nil];unfold keepH;rw[List.filter_eq_self];intro x hx;obtain⟨i,hi⟩:=List.mem_iff_getElem?.1 hx;rw[List.getElem?_take]at hi
    split at hi
    · rename_i hin
      rw[hlo i x hin hi];rfl
    · cases hi
   have htn:cs.take (n * 7)=(l.take n).flatMap encHV:=by
    rw[<- hflat_take,<- htk,List.take_take];congr 1;omega
   have hln:(l.take n).length=n:=by rw[List.length_take];omega
   have B1:=qA (hblk.ext' X1.out);have HT:=qA htail;have HKN:=qA hkn;have HTN:=qA htn;have HLN:=qA hln;have HS:=qA hS;have hne:((n:Int)== -1)=false:=by rw[beq_eq_false_iff_ne];omega
   have HCL:=qA hcl;clear hlo hhi hblk htail hkn htn hln hS htk hcl;go_wp2_with fail;go_loopw [5,6] (λvi vj wr=>∃(j K:Nat) (cs:List Value),j<=l.length/\K<j/\vi= .int .i64 K/\vj= .int .i64 j/\K=(keepH p (l.take j)).length/\Blk wr gb cs 48/\cs.length=c * 7/\cs.take (K * 7)=(keepH p (l.take j)).flatMap encHV/\TailH cs j l/\But (λi=>(Value.slice (some ⟨gb,0,none⟩) l.length c).ownBlock=some i) w wr) (λ_ vj _=>l.length - (intOf vj).toNat)
   case atStart=>exact⟨n+1,n,cs,by omega,by omega,rfl,by go_num,by rw[HKN.out,HLN.out],B1.out,HCL.out,by rw[HKN.out];exact HTN.out,HT.out,X1.out.but _⟩
   case round=>
    obtain⟨j,K,cs',hj,hKj,rfl,rfl,hK,hblk,hcl,htk,htl,hbut⟩:=hrel;have K1:=qA hK;have K2:=qA hblk;have K3:=qA hcl;have K4:=qA htk;have K5:=qA htl;have K6:=qA hbut;clear hK hblk hcl htk htl hbut;have h2:Blk wr gb cs' 48:=K2.out;have h3:=K3.out;by_cases hlt:j<l.length
    · obtain⟨x,hx⟩:∃x,l[j]? =some x:=⟨_,qE hlt⟩
      have hcx:=K5.out j x (qL _) hx;have hks:=keepH_succ p l j x hx;have HX:=qA hx;have hcc:∀W,Ext wr W->Calls Tryz.prog g (#[.agg (encHV x).toArray]++lb) W λe w'=>e= .returned (.bool (x.tells p))/\Ext W w':=λW hW=>HQ.out W (K6.out.trans (hW.but (λ_=>False)) (λ_ _ e=>e) (λ_ _ e=>e.elim)) x (HKS.out x (qH hx));obtain⟨key,cl,nm,xo,xn,xc,yo,yn,yc,put,value⟩:=x;have d0:=(h2.cell _).trans (hcx 0 _ rfl);have d1:=(h2.cell _).trans (hcx 1 _ rfl);have d2:=(h2.cell _).trans (hcx 2 _ rfl);have d3:=(h2.cell _).trans (hcx 3 _ rfl);have d4:=(h2.cell _).trans (hcx 4 _ rfl);have d5:=(h2.cell _).trans (hcx 5 _ rfl);have d6:=(h2.cell _).trans (hcx 6 _ rfl);simp only[Nat.add_zero]at d0;have CC:=qA hcc;have HKS:=qA hks;have hbox:=Blk.new wr [.string key,.int .i64 cl,.int .i64 nm,.slice xo xn xc,.slice yo yn yc,.bool put,.string value] 48;have hxb:Ext wr (wr.alloc (.cells #[.string key,.int .i64 cl,.int .i64 nm,.slice xo xn xc,.slice yo yn yc,.bool put,.string value] 48)):=(qK _ wr).alloc (qL _) _;have HB:=qA hbox;have XB:=qA hxb;have i0:(0:Int)<=(j:Int):=by omega
      have i1:(j:Int)<(l.length:Int):=by omega
      have k0:(0:Int)<=(K:Int):=by omega
      have k1:(K:Int)<(l.length:Int):=by omega
      clear hcx hks hx hcc hbox hxb h2;cases hp:HoldV.tells p ⟨key,cl,nm,xo,xn,xc,yo,yn,yc,put,value⟩
      · have HP:=qA hp;clear hp
        go_wp2_with fail;refine (CC.out _ XB.out).mono ?_;rw[HP.out];rintro e w2 ⟨rfl,hx2⟩;have hb2:=HB.out.ext' hx2;have X2:=qA (qJ XB.out hx2);have hg2:Blk w2 gb cs' 48:=K2.out.ext' X2.out;have hlt2:=hb2.lt;have hgl2:=hg2.lt;have hgne:gb≠wr.heap.size:=by have:=K2.out.lt;omega
        have c0:=hb2.cell 0;have c1:=hb2.cell 1;have c2:=hb2.cell 2;have c3:=hb2.cell 3;have c4:=hb2.cell 4;have c5:=hb2.cell 5;have c6:=hb2.cell 6;simp only[qB,qC]at c0 c1 c2 c3 c4 c5 c6;have hat:∀t,t<7->∃u,w2.cell? ⟨gb,K * 7+t,none⟩=some u:=λt ht=>⟨cs'[K * 7+t]'(by omega),by rw[hg2.cell];exact qE (by omega)⟩;obtain⟨u0,g0⟩:=hat 0 (by omega);obtain⟨u1,g1⟩:=hat 1 (by omega);obtain⟨u2,g2⟩:=hat 2 (by omega);obtain⟨u3,g3⟩:=hat 3 (by omega);obtain⟨u4,g4⟩:=hat 4 (by omega);obtain⟨u5,g5⟩:=hat 5 (by omega);obtain⟨u6,g6⟩:=hat 6 (by omega);have f0:=hg2.free (K * 7);have f1:=hg2.free (K * 7+1);have f2:=hg2.free (K * 7+2);have f3:=hg2.free (K * 7+3);have f4:=hg2.free (K * 7+4);have f5:=hg2.free (K * 7+5);have f6:=hg2.free (K * 7+6);simp only[Nat.add_zero]at g0;have G2:=qA hg2;clear hb2 hx2 hg2 hat d0 d1 d2 d3 d4 d5 d6;go_wp2_with fail;go_roundw
        case rel=>
         have hin:K * 7+(encHV ⟨key,cl,nm,xo,xn,xc,yo,yn,yc,put,value⟩).length<=cs'.length:=by show K * 7+7<=_;omega
         refine⟨j+1,K+1,splice cs' (K * 7) (encHV ⟨key,cl,nm,xo,xn,xc,yo,yn,yc,put,value⟩),by omega,by omega,by go_num,by go_num,?_,?_,by rw[splice_length];exact h3,?_,?_,?_⟩
         · rw[HKS.out,HP.out,qG,<- K1.out];rfl
         · exact G2.out.setCells (encHV ⟨key,cl,nm,xo,xn,xc,yo,yn,yc,put,value⟩) (K * 7)
         · rw[show (K+1) * 7=K * 7+(encHV ⟨key,cl,nm,xo,xn,xc,yo,yn,yc,put,value⟩).length from by show _=K * 7+7;omega,take_splice _ _ _ hin,K4.out,HKS.out,HP.out]
           simp
         · intro i y hi hy t u hu
           have ht7:t<7:=(qF.1 hu).1;rw[splice_get _ _ _ _ (by show K * 7+7<=_;omega)];exact K5.out i y (by omega) hy t u hu
         · have hb:But (λi=>(Value.slice (some ⟨gb,0,none⟩) l.length c).ownBlock=some i) w w2:=K6.out.trans (X2.out.but (λ_=>False)) (λ_ _ e=>e) (λ_ _ e=>e.elim)
           exact but_setCells ((HS.out gb).2 rfl) (encHV ⟨key,cl,nm,xo,xn,xc,yo,yn,yc,put,value⟩) (K * 7) hb
        case measure=>simp[intOf];omega
      · have HP:=qA hp;clear hp
        go_wp2_with fail;refine (CC.out _ XB.out).mono ?_;rw[HP.out];rintro e w2 ⟨rfl,hx2⟩;have X2:=qA (qJ XB.out hx2);clear hx2;go_wp2_with fail;go_roundw
        case rel=>
         exact⟨j+1,K,cs',by omega,by omega,rfl,by go_num,by rw[HKS.out,HP.out,K1.out];simp,K2.out.ext' X2.out,h3,by rw[HKS.out,HP.out,K4.out];simp,λi y hi=>K5.out i y (by omega),K6.out.trans (X2.out.but (λ_=>False)) (λ_ _ e=>e) (λ_ _ e=>e.elim)⟩
        case measure=>simp[intOf];omega
    · obtain rfl:j=l.length:=by omega
      have hKc:¬(c=K):=by omega
      have hz:(Builtin.zeroCells zeroH (l.length - K)).toList.length=(l.length - K) * 7:=by rw[Array.length_toList,zc_size];rfl
      have hcr:∀ty,(Builtin.clear_ #[42] ty #[.slice (some ⟨gb,K * 7,none⟩) (l.length - K) (c - K)]).run Tryz.prog wr= .ok (.tuple #[]) (wr.setCells gb (K * 7) (Builtin.zeroCells zeroH (l.length - K)).toList):=λty=>
       run_clear_k wr 42 48 ty (.agg zeroH) zeroH Tryz.underlying42 (λw=>by kernel_rfl) rfl zeroH_one gb (K * 7) (l.length - K) (c - K) (by omega) (λi hi=>by
        have hi':i<(l.length - K) * 7:=hi
        rw[h2.cell,qE (by omega)];rfl) (λi _=>h2.free _)
      have k0:(0:Int)<=(K:Int):=by omega
      have k1:(K:Int)<=(l.length:Int):=by omega
      have k2:(K:Int)<=(c:Int):=by omega
      have HZ:=qA hz;have hall:keepH p (l.take l.length)=keepH p l:=by rw[List.take_length]
      have HAL:=qA hall;clear hz hall h2;go_wp2_with fail;go_ret;have e1:=K1.out;have e4:=K4.out;rw[HAL.out]at e1 e4;refine⟨.slice (some ⟨gb,0,none⟩) K c,rfl,?_,λj hj=>hj,?_⟩
      · rw[<- e1]
        exact own_of_blk (K2.out.setCells _ (K * 7)) (by rw[splice_length,h3]) (by omega) (by unfold maxLen;omega) (by rw[take_splice' _ _ _ (by rw[HZ.out];omega)];exact e4)
      · exact but_setCells ((HS.out gb).2 rfl) _ (K * 7) K6.out
theorem HoldsAre.keep {w:World}{no:Nat->Prop}(p:ByteArray->Int->Int->Bool):∀{vs:List HoldV}{ds:List HoldD},HoldsAre w no vs ds->HoldsAre w no (keepH p vs) (ds.filter λd=> !d.tells p)
 | [],[],_=>trivial
 | [],_::_,h=>h.elim
 | _::_,[],h=>h.elim
 | v::vs,d::ds,h=>by
   have e:v.tells p=d.tells p:=by unfold HoldV.tells HoldD.tells;rw[h.1.key,h.1.cl,h.1.nm]
   have ih:=HoldsAre.keep p h.2;unfold keepH at ih ⊢;cases hd:d.tells p
   · rw[List.filter_cons_of_pos (by rw[e,hd];rfl),List.filter_cons_of_pos (by rw[hd];rfl)];exact⟨h.1,ih⟩
   · rw[List.filter_cons_of_neg (by rw[e,hd];decide),List.filter_cons_of_neg (by rw[hd];decide)];exact ih
end Go.Proofs.YtmpmggejhnmakaaGreatDoor
