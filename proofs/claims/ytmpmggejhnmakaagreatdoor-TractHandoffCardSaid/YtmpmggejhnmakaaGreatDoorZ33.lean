/- tract.replace. -/
import Derived.Test.YtmpmggejhnmakaaGreatDoorZ31
import Derived.Test.YtmpmggejhnmakaaGreatDoorZ32
import Derived.Test.YtmpmggejhnmakaaGreatDoorZ01
set_option maxRecDepth 100000
set_option maxHeartbeats 6400000
namespace Go.Proofs.YtmpmggejhnmakaaGreatDoor
open Go.RowKit
theorem TrIs.turn {w w':World}{k:TrK}{d:TrD}(h:TrIs w k d){pv':Value}{ps':List StrZ}{en:Int}(hb:Blk w' k.tb [.pointer (some ⟨k.rb,0,none⟩),.pointer (some ⟨k.hb,0,none⟩),.pointer (some ⟨k.pb,0,none⟩),pv',.int .i64 en,.pointer none,.bool true] 86)
 (hx:But (λj=>j=k.tb) w w') (hpo:w'.ownsRow 0 92 5 pv' ps'.length (ps'.flatMap encSt)) (hf:pv'=k.pv\/∀j,pv'.ownBlock=some j->w.heap.size<=j) (hs:∀s∈ps',s.small) (hn:ps'.length<=1000):
 TrIs w' { k with pv:=pv' } { d with parts:=ps',ended:=en }:=by
 obtain⟨n,xs,ho⟩:=h.ht.own;have h1:TabN (λb=>k.noH b\/w.heap.size<=b) w k.hb k.hv d.holds:=h.ht.mono' λb hb e=>e.elim id (λe=>by omega);have h2:=h1.but' hx (Ne.symm h.tb_hb) (λj hj e=>own_bk ho h.blk (by decide) (e▸hj)) (λb _ e=> .inl (.inl e));refine⟨hb,h.rt.but hx (Ne.symm h.tb_rb) (λj hj e=>own_bk h.rt.row h.blk (by decide) (e▸hj)),h2.mono' λb _ e=>?_,h.pt.but hx (Ne.symm h.tb_pb),hpo,hs,hn⟩;unfold TrK.noH at e ⊢;rcases e with e | e | e | e | e
 · exact .inl (.inl e)
 · exact .inl (.inr (.inl e))
 · exact .inl (.inr (.inr (.inl e)))
 · exact .inl (.inr (.inr (.inr (.inl e))))
 · rcases hf with rfl | hf
   · exact .inl (.inr (.inr (.inr (.inr e))))
   · exact .inr (hf b e)
theorem TrTo.turn {w w':World}{k:TrK}{d':TrD}{pv':Value}(hi:TrIs w' { k with pv:=pv' } d')(hf:pv'=k.pv\/∀j,pv'.ownBlock=some j->w.heap.size<=j)(hx:But (λj=>j=k.tb) w w'):TrTo k d' w w':=by
 refine⟨_,hi,rfl,rfl,rfl,rfl,λb hb=>?_,hx.mono λb _ e=> .inl e⟩;unfold TrK.owns at hb ⊢;rcases hb with e | e | e | e | e | e | e
 · exact .inl (.inl e)
 · exact .inl (.inr (.inl e))
 · exact .inl (.inr (.inr (.inl e)))
 · exact .inl (.inr (.inr (.inr (.inl e))))
 · exact .inl (.inr (.inr (.inr (.inr (.inl e)))))
 · exact .inl (.inr (.inr (.inr (.inr (.inr (.inl e))))))
 · rcases hf with rfl | hf
   · exact .inl (.inr (.inr (.inr (.inr (.inr (.inr e))))))
   · exact .inr (hf b e)
theorem TrIs.slice {w:World}{k:TrK}{d:TrD}(h:TrIs w k d):∃ao cap,k.pv= .slice ao d.parts.length cap/\Rows 5 encSt w.heap.size w ao d.parts/\w.cell? ⟨k.tb,3,none⟩=some (.slice ao d.parts.length cap):=by
 obtain⟨ao,cap,hv,_,_,hr⟩:=Rows.own (enc:=encSt) (sz:=5) (λ_=>rfl) h.po;refine⟨ao,cap,hv,hr,?_⟩
 have:=h.blk.cell 3
 simp only[qB,qC]at this;rw[this,hv]
theorem repD_mem {l new:List StrZ}{i j:Nat}{s:StrZ}(h:s∈repD l new i j):s∈l\/s∈new:=by
 unfold repD at h;rcases List.mem_append.1 h with h | h
 · rcases List.mem_append.1 h with h | h
   · exact .inl (List.mem_of_mem_take h)
   · exact .inr h
 · exact .inl (List.mem_of_mem_drop h)
theorem trReplace_calls (k:TrK)(d:TrD)(new:List StrZ)(i j vb vc:Nat)(cv:List Value)(w:World)(T:TrIs w k d)(hm:new.length<=100)(hij:i<j)(hj:j<=d.parts.length)(hfew:(repD d.parts new i j).length<=1000)(hsm:∀s∈new,s.small)
 (hv:Blk w vb cv 92) (hvt:cv.take (new.length * 5)=new.flatMap encSt):
 Calls Tryz.prog 50 #[.pointer (some ⟨k.tb,0,none⟩),.int .i64 i,.int .i64 j,.slice (some ⟨vb,0,none⟩) new.length vc] w λe w'=>e= .returned (.tuple #[])/\TrTo k { d with parts:=repD d.parts new i j } w w':=by
 obtain⟨ao,cap,hpv,hrow,c3⟩:=T.slice;have HC:=qA (clone_st_calls d.parts ao cap w (qM T.pn (by omega)) hrow);have HT:=qA T;have HV:=qA hv;have HVT:=qA hvt;have HS:=qA hsm;have htl:=T.blk.lt;have hpn:=T.pn;clear T hrow hv hvt hsm hpv;go_enter Tryz.func50,Tryz.ntmps50;go_wp2_with fail;refine HC.out.mono ?_;rintro e w1 ⟨v1,rfl,ho1,hj1,hx1⟩;obtain⟨o1,cp1,rfl⟩:=own_slice ho1;have hb1:=HV.out.ext' hx1;have HR:=qA (replace_calls d.parts new i j _ vb vc cv w1 hpn (by omega) hij hj ho1 hb1 HVT.out (λe=>by have:=hj1 vb e;have:=HV.out.lt;omega));have X1:=qA hx1;have J1:=qA hj1;have T1:=qA (HT.out.ext hx1);clear hx1 hj1 ho1 hb1 c3;go_wp2_with fail;refine HR.out.mono ?_;rintro e w2 ⟨v2,rfl,ho2,hk2,hb2⟩;obtain⟨o2,cp2,rfl⟩:=own_slice ho2;have hS:∀b,b<w.heap.size->¬(Value.slice o1 d.parts.length cp1).ownBlock=some b:=λb hb e=>by have:=J1.out b e;omega
 have hX2:Ext w w2:=((Ext.but X1.out (λ_=>False)).trans hb2 (U:=λb=>w.heap.size<=b) (λ_ _ e=>e.elim) (λb _ e=>J1.out b e)).ext (λb hb e=>by omega);have T2:=qA (HT.out.ext hX2);have f3:=T2.out.blk.free 3;have c3:=T2.out.blk.cell 3;simp only[qB,qC]at c3
 have hfresh:∀b,(Value.slice o2 (repD d.parts new i j).length cp2).ownBlock=some b->w.heap.size<=b:=λb e=>by
  rcases hk2 b e with e | e
  · exact J1.out b e
  · exact qM X1.out.size e
 have X2:=qA hX2;have O2:=qA ho2;have FR:=qA hfresh;clear hk2 hb2 hX2 ho2 hfresh hS;go_wp2_with fail;refine bodyPost_end (results_none rfl _ _ _) rfl ?_;have hbut:But (λb=>b=k.tb) w2 (w2.setCell ⟨k.tb,3,none⟩ (.slice o2 (repD d.parts new i j).length cp2)):=(But.refl (λb=>b=k.tb) w2).setCell (p:=⟨k.tb,3,none⟩) (λ_=>rfl) _;have hb0:But (λb=>b=k.tb) w (w2.setCell ⟨k.tb,3,none⟩ (.slice o2 (repD d.parts new i j).length cp2)):=(Ext.but X2.out (λ_=>False)).trans hbut (λ_ _ e=>e.elim) (λ_ _ e=>e);refine⟨rfl,?_⟩;have hmem:∀s∈repD d.parts new i j,s.small:=λs hs=>(repD_mem hs).elim (HT.out.ps s) (HS.out s);exact TrTo.turn (HT.out.turn (en:=d.ended) (T2.out.blk.set 3 _) hb0 (own_but O2.out hbut (λb hb e=>by have:=FR.out b hb;omega)) (.inr FR.out) hmem hfew) (.inr FR.out) hb0
end Go.Proofs.YtmpmggejhnmakaaGreatDoor
/- tract.Thaw. -/
namespace Go.Proofs.YtmpmggejhnmakaaGreatDoor
open Go.RowKit
def closedN (ps:List StrZ):Option Nat:=ps.findIdx? λp=>p.st==2
theorem first_idx {α:Type}{p:α->Bool}{l:List α}{k:Int}(h:FirstG p l k):(k= -1/\l.findIdx? p=none)\/∃(n:Nat)(x:α),k=n/\l.findIdx? p=some n/\l[n]? =some x/\p x=true:=by
 rcases h with ⟨rfl,h⟩ | ⟨n,rfl,hn,h1,h2⟩
 · exact .inl ⟨rfl,List.findIdx?_eq_none_iff.2 h⟩
 · have hx:=qE hn
   refine .inr ⟨n,l[n],rfl,?_,hx,h2 _ hx⟩;rw[List.findIdx?_eq_some_iff_getElem];exact⟨hn,h2 _ hx,λj hj=>by rw[h1 j _ hj (qE (by omega))];decide⟩
def thawL (ps:List StrZ)(n:Nat)(p:StrZ):Nat×StrZ:=match n with
 | 0=>(0,p)
 | m+1=>match ps[m]? with
   | some y=>if joinsD y p=true then (m,{ p with lo:=y.lo }) else (m+1,p)
   | none=>(m+1,p)
def thawR (ps:List StrZ)(n:Nat)(p:StrZ):Nat×StrZ:=match ps[n+1]? with
 | some y=>if joinsD p y=true then (n+2,{ p with hi:=y.hi }) else (n+1,p)
 | none=>(n+1,p)
def thawPs (ps:List StrZ)(n:Nat)(x:StrZ):List StrZ:=
 repD ps [(thawR ps n (thawL ps n { x with st:=1,sc:=0 }).2).2] (thawL ps n { x with st:=1,sc:=0 }).1 (thawR ps n (thawL ps n { x with st:=1,sc:=0 }).2).1
def thawAll (scheme:Int)(ps:List StrZ):List StrZ:=match closedN ps with
 | some n=>match ps[n]? with
   | some x=>if x.sc=scheme then thawPs ps n x else ps
   | none=>ps
 | none=>ps
def thawD (scheme:Int)(d:TrD):TrD:=if (beforeD scheme true d.ended).2=true then { d with parts:=thawAll scheme d.parts,ended:=scheme } else d
theorem before_on {scheme ended:Int}{r:Bool}(h:(beforeD scheme r ended).2=true):(beforeD scheme r ended).1=0:=by
 unfold beforeD at h ⊢
 split
 · rename_i h1;rw[if_pos h1]at h;cases h
 · rfl
theorem thawL_spec (ps:List StrZ)(n:Nat)(p:StrZ):(thawL ps n p=(n,p))\/∃m y,n=m+1/\ps[m]? =some y/\joinsD y p=true/\thawL ps n p=(m,{ p with lo:=y.lo }):=by
 unfold thawL;cases n with
 | zero=>exact .inl rfl
 | succ m=>
   cases h:ps[m]? with
   | none=>exact .inl (by simp[h])
   | some y=>
     by_cases hj:joinsD y p=true
     · exact .inr ⟨m,y,rfl,h,hj,by simp[h,hj]⟩
     · exact .inl (by simp[h,hj])
theorem thawR_spec (ps:List StrZ)(n:Nat)(p:StrZ):(thawR ps n p=(n+1,p))\/∃y,ps[n+1]? =some y/\joinsD p y=true/\thawR ps n p=(n+2,{ p with hi:=y.hi }):=by
 unfold thawR;cases h:ps[n+1]? with
 | none=>exact .inl rfl
 | some y=>
   by_cases hj:joinsD p y=true
   · exact .inr ⟨y,rfl,hj,by simp[hj]⟩
   · exact .inl (by simp[hj])
theorem TrIs.ended {w w':World}{k:TrK}{d:TrD}(h:TrIs w k d)(hx:Ext w w')(en:Int):TrTo k { d with ended:=en } w (w'.setCell ⟨k.tb,4,none⟩ (.int .i64 en)):=by
 have h':=h.ext hx;have hb:But (λb=>b=k.tb) w' (w'.setCell ⟨k.tb,4,none⟩ (.int .i64 en)):=(But.refl (λb=>b=k.tb) w').setCell (p:=⟨k.tb,4,none⟩) (λ_=>rfl) _;have hb0:=(Ext.but hx (λ_=>False)).trans hb (U:=λb=>b=k.tb) (λ_ _ e=>e.elim) (λ_ _ e=>e);exact TrTo.turn (h.turn (pv':=k.pv) (en:=en) (h'.blk.set 4 _) hb0 (own_but h'.po hb (λb hb e=>own_bk h'.po h'.blk (by decide) (e▸hb))) (.inl rfl) h.ps h.pn) (.inl rfl) hb0
theorem TrTo.pre {w w1 w2:World}{k:TrK}{d':TrD}(hx:Ext w w1)(h:TrTo k d' w1 w2):TrTo k d' w w2:=by
 obtain⟨k2,a1,a2,a3,a4,a5,a6,a7⟩:=h;exact⟨k2,a1,a2,a3,a4,a5,λb hb=>(a6 b hb).imp id (λh=>qM hx.size h),(Ext.but hx (λ_=>False)).trans a7 (λ_ _ e=>e.elim) (λ_ _ e=>e)⟩
theorem TrTo.endedTo {w w':World}{k:TrK}{d':TrD}(h:TrTo k d' w w')(en:Int):TrTo k { d' with ended:=en } w (w'.setCell ⟨k.tb,4,none⟩ (.int .i64 en)):=
 h.trans (λk1 hi ht _ _ _=>by rw[<- ht];exact hi.ended (qK _ _) en)
def joinL (ps:List StrZ)(n:Nat)(p:StrZ):Bool:=match n with
 | 0=>false
 | m+1=>match ps[m]? with
   | some y=>joinsD y p
   | none=>false
def joinR (ps:List StrZ)(n:Nat)(p:StrZ):Bool:=match ps[n+1]? with
 | some y=>joinsD p y
 | none=>false
theorem joinL_no {ps:List StrZ}{n:Nat}{p:StrZ}(h:joinL ps n p=false):thawL ps n p=(n,p):=by
 unfold joinL at h;unfold thawL;cases n with
 | zero=>rfl
 | succ m=>cases hm:ps[m]? with
   | none=>simp[hm]
   | some y=>simp[hm]at h ⊢;simp[h]
theorem joinL_yes {ps:List StrZ}{n:Nat}{p:StrZ}(h:joinL ps n p=true):∃m y,n=m+1/\ps[m]? =some y/\thawL ps n p=(m,{ p with lo:=y.lo }):=by
 unfold joinL at h;unfold thawL;cases n with
 | zero=>cases h
 | succ m=>cases hm:ps[m]? with
   | none=>simp[hm]at h
   | some y=>simp[hm]at h;exact⟨m,y,rfl,hm,by simp[hm,h]⟩
theorem joinR_no {ps:List StrZ}{n:Nat}{p:StrZ}(h:joinR ps n p=false):thawR ps n p=(n+1,p):=by
 unfold joinR at h;unfold thawR;cases hm:ps[n+1]? with
 | none=>rfl
 | some y=>simp[hm]at h ⊢;simp[h]
theorem joinR_yes {ps:List StrZ}{n:Nat}{p:StrZ}(h:joinR ps n p=true):∃y,ps[n+1]? =some y/\thawR ps n p=(n+2,{ p with hi:=y.hi }):=by
 unfold joinR at h;unfold thawR;cases hm:ps[n+1]? with
 | none=>simp[hm]at h
 | some y=>simp[hm]at h;exact⟨y,rfl,by simp[h]⟩
theorem thaw_calls (k:TrK)(d:TrD)(scheme:Int)(w:World)(T:TrIs w k d):
 Calls Tryz.prog 41 #[.pointer (some ⟨k.tb,0,none⟩),.int .i64 scheme] w λe w'=>e= .returned (.int .i64 (beforeD scheme true d.ended).1)/\TrTo k (thawD scheme d) w w':=by
 obtain⟨ao,cap,hpv,hrow,c3⟩:=T.slice;have c4:=T.blk.cell 4;have c6:=T.blk.cell 6;simp only[qB,qC]at c4 c6;have HB:=qA (before_calls k.tb scheme d.ended true w c4 c6);have hpn:=T.pn;have HC:=qA (λW (hW:Ext w W)=>closed_calls k.tb d.parts ao cap W ((hW.cell (p:=⟨k.tb,3,none⟩) T.blk.lt).trans c3) (by omega) ((hrow.ext hW).mono hW.size));have HT:=qA T;have HR:=qA hrow;have C3:=qA c3;have htl:=T.blk.lt;have HD:Hid (thawD scheme d=if (beforeD scheme true d.ended).2=true then { d with parts:=thawAll scheme d.parts,ended:=scheme } else d):=qA rfl;have HON:=qA (@before_on scheme d.ended true);clear T hrow c3 c4 c6 hpv;generalize thawD scheme d=D at *;generalize beforeD scheme true d.ended=bd at *;obtain⟨E,on⟩:=bd;cases on with
 | false=>
   go_enter Tryz.func41,Tryz.ntmps41;go_wp2_with fail;refine HB.out.mono ?_;rintro e w1 ⟨rfl,hx1⟩;have X1:=qA hx1;clear hx1;go_wp2_with fail;go_ret;exact⟨rfl,by rw[HD.out];exact HT.out.self X1.out⟩
 | true=>
   obtain rfl:E=0:=HON.out rfl;have HD2:Hid (D={ d with parts:=thawAll scheme d.parts,ended:=scheme }):=qA HD.out;go_enter Tryz.func41,Tryz.ntmps41;go_wp2_with fail;refine HB.out.mono ?_;rintro e w1 ⟨rfl,hx1⟩;have X1:=qA hx1;clear hx1;go_wp2_with fail;refine (HC.out _ X1.out).mono ?_;rintro e w2 ⟨kk,rfl,hk,hx2⟩;have X2:=qA (qJ X1.out hx2);clear hx2;rcases first_idx hk with ⟨rfl,hno⟩ | ⟨n,x,rfl,hyes,hnx,hst⟩
   · have hps:thawAll scheme d.parts=d.parts:=by unfold thawAll closedN;rw[hno]
     rw[hps]at HD2;clear hk hno hps;have T2:=qA (HT.out.ext X2.out);have f4:=T2.out.blk.free 4;have c4:=T2.out.blk.cell 4;simp only[qB,qC]at c4;go_wp2_with fail;go_ret;exact⟨rfl,by rw[HD2.out];exact HT.out.ended X2.out scheme⟩
   · have hps:thawAll scheme d.parts=if x.sc=scheme then thawPs d.parts n x else d.parts:=by unfold thawAll closedN;rw[hyes];simp only[hnx]
     have hnl:=(qF.1 hnx).1;obtain⟨b,off,rfl,hb,hcell⟩:=HR.out (by intro e;rw[e]at hnl;simp at hnl);have hcx:=hcell n x hnx;have hmv:∀j,w2.cell? ⟨b,j,none⟩=w.cell? ⟨b,j,none⟩:=λj=>X2.out.cell (p:=⟨b,j,none⟩) hb;obtain⟨lo,hi,ep,st,sc⟩:=x;have d0:=(hmv _).trans (hcx 0 _ rfl);have d1:=(hmv _).trans (hcx 1 _ rfl);have d2:=(hmv _).trans (hcx 2 _ rfl);have d3:=(hmv _).trans (hcx 3 _ rfl);have d4:=(hmv _).trans (hcx 4 _ rfl);simp only[Nat.add_zero]at d0;have e3:=(X2.out.cell (p:=⟨k.tb,3,none⟩) htl).trans C3.out;have i0:(0:Int)<=(n:Int):=by omega
     have i1:(n:Int)<(d.parts.length:Int):=by omega
     have HCELL:=qA hcell;have HNX:=qA hnx;have HPS:=qA hps;clear hk hyes hcell hcx hmv hnx hst hps;by_cases hsc:sc=scheme
     · have hD:D={ d with parts:=thawPs d.parts n ⟨lo,hi,ep,st,sc⟩,ended:=scheme }:=by rw[HD2.out,HPS.out,if_pos hsc]
       have HD3:=qA hD;clear hD;obtain rfl:scheme=sc:=hsc.symm;clear HD HD2 HPS hsc HON;go_upto_region 8 with fail;obtain⟨w4,hw4⟩:∃w4,w4=w2.alloc (.cells #[.string lo,.string hi,.int .i64 ep,.int .u8 1,.int .i64 0] 92):=⟨_,rfl⟩;have hx4:Ext w2 w4:=by rw[hw4];exact (qK _ w2).alloc (qL _) _
       have hb4:Blk w4 w2.heap.size (encSt ⟨lo,hi,ep,1,0⟩) 92:=by rw[hw4];exact Blk.new w2 _ _
       rw[<- hw4];have X4:=qA hx4;have B4:=qA hb4;clear hw4 d0 d1 d2 d3 d4 e3;have HW:Hid (∀(m:Nat) (y:StrZ),d.parts[m]? =some y->∀W,Ext w2 W->∀(j:Nat) (u:Value),(encSt y)[j]? =some u->W.cell? ⟨b,off+m * 5+j,none⟩=some u):=qA (λm y hy W hW j u hj=>((qJ X2.out hW).cell (p:=⟨b,_,none⟩) hb).trans (HCELL.out m y hy j u hj));have H3:Hid (∀W,Ext w2 W->W.cell? ⟨k.tb,3,none⟩=some (.slice (some ⟨b,off,none⟩) d.parts.length cap)):=qA (λW hW=>((qJ X2.out hW).cell (p:=⟨k.tb,3,none⟩) htl).trans C3.out);have hwn:IntKind.i64.wrap (n:Int)=(n:Int):=by rw[IntKind.wrap_i64];omega
       obtain⟨q,hq⟩:∃q,q=n+1:=⟨_,rfl⟩;have hqi:(n:Int)+1=(q:Int):=by omega
       have HQ:=qA hq;clear hq;go_upto_region 9 with fail;go_cut [61] from 48 to 61 (λr W=>r= .bool (joinL d.parts n ⟨lo,hi,ep,1,0⟩)/\Ext w4 W)
       case first=>
        have q3:=ExtBy.cell (H3.out w4 X4.out);have b0:=ExtBy.cell (hb4.cell 0);have b1:=ExtBy.cell (hb4.cell 1);have b2:=ExtBy.cell (hb4.cell 2);have b3:=ExtBy.cell (hb4.cell 3);have b4:=ExtBy.cell (hb4.cell 4);rcases Nat.eq_zero_or_pos n with hn0 | hn0
        · have hjl:joinL d.parts n ⟨lo,hi,ep,1,0⟩=false:=by rw[hn0];rfl
          have HJL:=qA hjl;clear hjl;have g0:decide ((0:Int)<(n:Int))=false:=decide_eq_false (by omega);have g1:decide (0<n)=false:=decide_eq_false (by omega);clear hn0;refine wp_region_ext (by kernel_rfl) (by kernel_rfl) ?_
          repeat (go_big_quiet_step (fail))
          refine wpQuiet_nil ?_;intro wd hw';have hxd:Ext w4 wd:=by obtain⟨p,rfl⟩:=hw';exact p.ext
          go_wp2_with fail;go_meet;exact⟨by rw[HJL.out],hxd⟩
        · obtain⟨m,hm⟩:∃m,n=m+1:=⟨n - 1,by omega⟩
          obtain⟨y,hy⟩:∃y,d.parts[m]? =some y:=⟨_,qE (by omega)⟩;have hjl:joinL d.parts n ⟨lo,hi,ep,1,0⟩=joinsD y ⟨lo,hi,ep,1,0⟩:=by rw[hm];unfold joinL;simp only[hy]
          have g0:decide ((0:Int)<(n:Int))=true:=decide_eq_true (by omega);have g1:decide (0<n)=true:=decide_eq_true (by omega);have hcy:=HW.out m y hy w4 X4.out;have HJ:Hid (∀p:ExtBy w4,Calls Tryz.prog 110 #[.agg (encSt y).toArray,.agg (encSt ⟨lo,hi,ep,1,0⟩).toArray] p.W λe w'=>e= .returned (.bool (joinsD y ⟨lo,hi,ep,1,0⟩))/\Ext p.W w'):=qA (λp=>joins_calls y ⟨lo,hi,ep,1,0⟩ p.W);generalize joinsD y ⟨lo,hi,ep,1,0⟩=jb at *;obtain⟨ylo,yhi,yep,yst,ysc⟩:=y;have y0:=ExtBy.cell (hcy 0 _ rfl);have y1:=ExtBy.cell (hcy 1 _ rfl);have y2:=ExtBy.cell (hcy 2 _ rfl);have y3:=ExtBy.cell (hcy 3 _ rfl);have y4:=ExtBy.cell (hcy 4 _ rfl);simp only[Nat.add_zero]at y0;have hsub:IntKind.i64.wrap ((n:Int) - 1)=(m:Int):=by rw[IntKind.wrap_i64];omega
          have j0:(0:Int)<=(m:Int):=by omega
          have j1:(m:Int)<(d.parts.length:Int):=by omega
          simp only[encSt]at HJ;have HJL:=qA hjl;clear hcy hy hjl hm hn0;refine wp_region_ext (by kernel_rfl) (by kernel_rfl) ?_
          repeat (go_big_quiet_step (with_reducible exact Calls.ext_of _ (HJ.out _)))
          refine wpQuiet_nil ?_;intro wd hw';have hxd:Ext w4 wd:=by obtain⟨p,rfl⟩:=hw';exact p.ext
          go_wp2_with fail;go_meet;exact⟨by rw[HJL.out],hxd⟩
       case rest=>
        obtain⟨rfl,hx5⟩:=hcut;obtain⟨w5,rfl⟩:∃w5,w5=wc:=⟨_,rfl⟩;have X5:=qA (qJ hx4 hx5);have B5:=qA (hb4.ext' hx5);clear hx4 hx5 hb4 X4 B4;obtain⟨jl,hjl⟩:∃jl,jl=joinL d.parts n ⟨lo,hi,ep,1,0⟩:=⟨_,rfl⟩;rw[<- hjl];have HJL:=qA hjl.symm;clear hjl;go_upto_if 61 with fail;go_cut [9] from 62 to 74 (λv W=>∃(f:Nat) (p1:StrZ),v= .int .i64 f/\thawL d.parts n ⟨lo,hi,ep,1,0⟩=(f,p1)/\Blk W w2.heap.size (encSt p1) 92/\Ext w2 W)
        case first=>
         cases jl with
         | false=>
           go_wp2_with fail;go_meet;exact⟨n,_,rfl,joinL_no HJL.out,B5.out,X5.out⟩
         | true=>
           obtain⟨m,y,hm,hy,hth⟩:=joinL_yes HJL.out;have hcy:=HW.out m y hy w5 X5.out;obtain⟨ylo,yhi,yep,yst,ysc⟩:=y;have y0:=hcy 0 _ rfl;simp only[Nat.add_zero]at y0;have hmn:m<d.parts.length:=by omega
           have hsub:(n:Int) - 1=(m:Int):=by omega
           have HTH:=qA hth;have j0:(0:Int)<=(m:Int):=by omega
           have j1:(m:Int)<(d.parts.length:Int):=by omega
           have b0:=B5.out.cell 0;have f0:=B5.out.free 0;simp only[encSt,qB]at b0;have e3:=H3.out w5 X5.out;clear hcy hy hth hm;go_wp2_with fail;go_meet;refine⟨m,_,rfl,HTH.out,B5.out.set 0 _,?_⟩;exact ((Ext.but X5.out (λb=>w2.heap.size<=b)).setCell (p:=⟨w2.heap.size,0,none⟩) (λ_=>qL _) _).ext (λb hb e=>by omega)
        case rest=>
         obtain⟨f,p1,rfl,hth,hb6,hx6⟩:=hcut;obtain⟨w6,rfl⟩:∃w6,w6=wc:=⟨_,rfl⟩;have X6:=qA hx6;have B6:=qA hb6;have TH1:=qA hth
         have hfn:f<=n:=by
          rcases thawL_spec d.parts n ⟨lo,hi,ep,1,0⟩ with e | ⟨m,y,e1,_,_,e⟩
          · rw[e]at hth;injection hth with h1 h2;omega
          · rw[e]at hth;injection hth with h1 h2;omega
         clear hx6 hth X5 B5 HJL;go_upto_region 12 with fail;go_cut [92] from 75 to 92 (λr W=>r= .bool (joinR d.parts n p1)/\Ext w6 W)
         case first=>
          obtain⟨plo,phi,pep,pst,psc⟩:=p1;have q3:=ExtBy.cell (H3.out w6 X6.out);have b0:=ExtBy.cell (hb6.cell 0);have b1:=ExtBy.cell (hb6.cell 1);have b2:=ExtBy.cell (hb6.cell 2);have b3:=ExtBy.cell (hb6.cell 3);have b4:=ExtBy.cell (hb6.cell 4);rcases Nat.lt_or_ge q d.parts.length with hn1 | hn1
          · obtain⟨y,hy⟩:∃y,d.parts[q]? =some y:=⟨_,qE hn1⟩
            have hjl:joinR d.parts n ⟨plo,phi,pep,pst,psc⟩=joinsD ⟨plo,phi,pep,pst,psc⟩ y:=by unfold joinR;rw[<- HQ.out];simp only[hy]
            have g0:decide ((q:Int)<(d.parts.length:Int))=true:=decide_eq_true (by omega);have g1:decide (q<d.parts.length)=true:=decide_eq_true hn1;have hcy:=HW.out q y hy w6 X6.out;have HJ:Hid (∀p:ExtBy w6,Calls Tryz.prog 110 #[.agg (encSt ⟨plo,phi,pep,pst,psc⟩).toArray,.agg (encSt y).toArray] p.W λe w'=>e= .returned (.bool (joinsD ⟨plo,phi,pep,pst,psc⟩ y))/\Ext p.W w'):=qA (λp=>joins_calls ⟨plo,phi,pep,pst,psc⟩ y p.W);generalize joinsD ⟨plo,phi,pep,pst,psc⟩ y=jb at *;obtain⟨ylo,yhi,yep,yst,ysc⟩:=y;have y0:=ExtBy.cell (hcy 0 _ rfl);have y1:=ExtBy.cell (hcy 1 _ rfl);have y2:=ExtBy.cell (hcy 2 _ rfl);have y3:=ExtBy.cell (hcy 3 _ rfl);have y4:=ExtBy.cell (hcy 4 _ rfl);simp only[Nat.add_zero]at y0;have j0:(0:Int)<=(q:Int):=by omega
            have j1:(q:Int)<(d.parts.length:Int):=by omega
            have j2:IntKind.i64.wrap (q:Int)=(q:Int):=by rw[IntKind.wrap_i64];omega
            simp only[encSt]at HJ;have HJL:=qA hjl;clear hcy hy hjl hn1;refine wp_region_ext (by kernel_rfl) (by kernel_rfl) ?_
            repeat (go_big_quiet_step (with_reducible exact Calls.ext_of _ (HJ.out _)))
            refine wpQuiet_nil ?_;intro wd hw';have hxd:Ext w6 wd:=by obtain⟨p,rfl⟩:=hw';exact p.ext
            go_wp2_with fail;go_meet;exact⟨by rw[HJL.out],hxd⟩
          · have hjl:joinR d.parts n ⟨plo,phi,pep,pst,psc⟩=false:=by unfold joinR;rw[<- HQ.out,List.getElem?_eq_none hn1]
            have g0:decide ((q:Int)<(d.parts.length:Int))=false:=decide_eq_false (by omega);have g1:decide (q<d.parts.length)=false:=decide_eq_false (by omega);have HJL:=qA hjl;clear hjl hn1;refine wp_region_ext (by kernel_rfl) (by kernel_rfl) ?_
            repeat (go_big_quiet_step (fail))
            refine wpQuiet_nil ?_;intro wd hw';have hxd:Ext w6 wd:=by obtain⟨p,rfl⟩:=hw';exact p.ext
            go_wp2_with fail;go_meet;exact⟨by rw[HJL.out],hxd⟩
         case rest=>
          obtain⟨rfl,hx7⟩:=hcut;obtain⟨w7,rfl⟩:∃w7,w7=wc:=⟨_,rfl⟩;have X7:=qA (qJ X6.out hx7);have B7:=qA (hb6.ext' hx7);clear hx7 hb6 X6 B6;obtain⟨jr,hjr⟩:∃jr,jr=joinR d.parts n p1:=⟨_,rfl⟩;rw[<- hjr];have HJR:=qA hjr.symm;clear hjr;go_upto_if 92 with fail;go_cut [10] from 93 to 105 (λv W=>∃(t:Nat) (p2:StrZ),v= .int .i64 t/\thawR d.parts n p1=(t,p2)/\Blk W w2.heap.size (encSt p2) 92/\Ext w2 W)
          case first=>
           cases jr with
           | false=>
             go_wp2_with fail;go_meet;exact⟨q,_,rfl,by rw[HQ.out];exact joinR_no HJR.out,B7.out,X7.out⟩
           | true=>
             obtain⟨y,hy,hth⟩:=joinR_yes HJR.out;rw[<- HQ.out]at hy;have hcy:=HW.out q y hy w7 X7.out;have hql:q<d.parts.length:=(qF.1 hy).1;obtain⟨plo,phi,pep,pst,psc⟩:=p1;obtain⟨ylo,yhi,yep,yst,ysc⟩:=y;have y1:=hcy 1 _ rfl;have HTH:=qA hth;have j0:(0:Int)<=(q:Int):=by omega
             have j1:(q:Int)<(d.parts.length:Int):=by omega
             have b1:=B7.out.cell 1;have f1:=B7.out.free 1;simp only[encSt,qB,qC]at b1;have e3:=H3.out w7 X7.out;clear hcy hy hth;go_wp2_with fail;go_meet;refine⟨q+1,_,by go_num,by rw[HQ.out];exact HTH.out,B7.out.set 1 _,?_⟩;exact ((Ext.but X7.out (λb=>w2.heap.size<=b)).setCell (p:=⟨w2.heap.size,1,none⟩) (λ_=>qL _) _).ext (λb hb e=>by omega)
          case rest=>
           obtain⟨t,p2,rfl,hth2,hb8,hx8⟩:=hcut;obtain⟨w8,rfl⟩:∃w8,w8=wc:=⟨_,rfl⟩;have X8:=qA hx8;have TH2:=qA hth2
           have htn:n<t/\t<=d.parts.length:=by
            rcases thawR_spec d.parts n p1 with e | ⟨y,e1,_,e⟩
            · rw[e]at hth2;injection hth2 with h1 h2;omega
            · rw[e]at hth2;injection hth2 with h1 h2
              have:=(qF.1 e1).1
              omega
           have hsx:(⟨lo,hi,ep,st,scheme⟩:StrZ).small:=HT.out.ps _ (qH HNX.out)
           have hs1:p1.small:=by
            have h1:=TH1.out;rcases thawL_spec d.parts n ⟨lo,hi,ep,1,0⟩ with e | ⟨m,y,_,e1,_,e⟩
            · rw[e]at h1;injection h1 with _ h2;rw[<- h2];exact hsx
            · rw[e]at h1;injection h1 with _ h2;rw[<- h2]
              exact⟨(HT.out.ps y (qH e1)).1,hsx.2⟩
           have hs2:p2.small:=by
            rcases thawR_spec d.parts n p1 with e | ⟨y,e1,_,e⟩
            · rw[e]at hth2;injection hth2 with _ h2;rw[<- h2];exact hs1
            · rw[e]at hth2;injection hth2 with _ h2;rw[<- h2]
              exact⟨hs1.1,(HT.out.ps y (qH e1)).2⟩
           have hfew:(repD d.parts [p2] f t).length<=1000:=by
            rw[repD_len _ _ _ _ (by omega)];simp only[List.length_cons,List.length_nil];omega
           have hps:thawPs d.parts n ⟨lo,hi,ep,st,scheme⟩=repD d.parts [p2] f t:=by
            unfold thawPs;rw[TH1.out];simp only;rw[hth2]
           have HPS:=qA hps;have b0:=hb8.cell 0;have b1:=hb8.cell 1;have b2:=hb8.cell 2;have b3:=hb8.cell 3;have b4:=hb8.cell 4;have hx9:Ext w8 (w8.alloc (.cells (encSt p2).toArray 92)):=(qK _ w8).alloc (qL _) _;have RP:=qA (trReplace_calls k d [p2] f t w8.heap.size 1 (encSt p2) (w8.alloc (.cells (encSt p2).toArray 92)) (HT.out.ext (qJ X2.out (qJ hx8 hx9))) (by simp) (by omega) htn.2 hfew (λs hs=>by rw[List.mem_singleton.1 hs];exact hs2) (Blk.new w8 _ _) (by simp[encSt]));have X9:=qA (qJ X2.out (qJ hx8 hx9));obtain⟨plo,phi,pep,pst,psc⟩:=p2;simp only[encSt,qB,qC]at b0 b1 b2 b3 b4;simp only[encSt,List.length_cons,List.length_nil]at RP;clear hth2 hb8 hx8 hx9 hps hs1 hs2 hsx;go_wp2_with fail;refine RP.out.mono ?_;rintro e w9 ⟨rfl,hto⟩;obtain⟨k1,h1,h2,h3⟩:=id hto;have f4:=h1.blk.free 4;have c4:=h1.blk.cell 4;simp only[qB,qC]at c4;rw[h2]at f4 c4;have TO:=qA hto;clear h1 h3 hto;go_wp2_with fail;go_ret;refine⟨rfl,?_⟩;rw[HD3.out,HPS.out];exact (TrTo.pre X9.out TO.out).endedTo scheme
     · have hD:D={ d with parts:=d.parts,ended:=scheme }:=by rw[HD2.out,HPS.out,if_neg hsc]
       have HD3:=qA hD;have g1:(sc==scheme)=false:=by simpa using hsc
       have T2:=qA (HT.out.ext X2.out);have f4:=T2.out.blk.free 4;have c4:=T2.out.blk.cell 4;simp only[qB,qC]at c4;clear hsc hD;go_wp2_with fail;go_ret;exact⟨rfl,by rw[HD3.out];exact HT.out.ended X2.out scheme⟩
end Go.Proofs.YtmpmggejhnmakaaGreatDoor
