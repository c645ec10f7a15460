/- tract: Finish. -/
import Derived.Test.YtmpmggejhnmakaaGreatDoorZ28
import Derived.Deep.CutRange
import Derived.Deep.DeepCutAuto
import Derived.Test.YtmpmggejhnmakaaGreatDoorZ01
set_option maxRecDepth 100000
set_option maxHeartbeats 6400000
namespace Go.Proofs.YtmpmggejhnmakaaGreatDoor
open Go.RowKit
def TrK.owns (k:TrK):Nat->Prop:=λb=>b=k.tb\/b=k.rb\/b=k.hb\/b=k.pb\/k.rv.ownBlock=some b\/k.hv.ownBlock=some b\/k.pv.ownBlock=some b
def TrTo (k:TrK)(d':TrD)(w w':World):Prop:=∃k':TrK,TrIs w' k' d'/\k'.tb=k.tb/\k'.rb=k.rb/\k'.hb=k.hb/\k'.pb=k.pb/\(∀b,k'.owns b->k.owns b\/w.heap.size<=b)/\But k.owns w w'
def finStep (parts:List StrZ)(commit:Bool)(st:List RowD×List HoldD×Int)(h:HoldD):List RowD×List HoldD×Int:=
 if openL parts (dkey h) (λ_=>true)=true then ((if (commit&&h.put)=true then putRT [⟨h.key,h.value⟩] st.1 else st.1),notKeys [h.key] st.2.1,st.2.2) else (st.1,st.2.1,23)
def finSt (c n:Int)(commit:Bool)(d:TrD):List RowD×List HoldD×Int:=(byD c n d.holds).foldl (finStep d.parts commit) (d.rows,d.holds,0)
def finE (c n:Int)(commit:Bool)(d:TrD):Int:=if nameB c n=true then (finSt c n commit d).2.2 else 2
def finD (c n:Int)(commit:Bool)(d:TrD):TrD:=if nameB c n=true then { rows:=(finSt c n commit d).1,holds:=(finSt c n commit d).2.1,ns:=raiseAll [(c,n)] d.ns,parts:=d.parts,ended:=d.ended } else d
theorem TrIs.self {w w':World}{k:TrK}{d:TrD}(h:TrIs w k d)(hx:Ext w w'):TrTo k d w w':=⟨k,h.ext hx,rfl,rfl,rfl,rfl,λ_ h=> .inl h,Ext.but hx _⟩
theorem TrTo.trans {w w1 w2:World}{k:TrK}{d1 d2:TrD}(h1:TrTo k d1 w w1)(h2:∀k1,TrIs w1 k1 d1->k1.tb=k.tb->k1.rb=k.rb->k1.hb=k.hb->k1.pb=k.pb->TrTo k1 d2 w1 w2):TrTo k d2 w w2:=by
 obtain⟨k1,i1,a1,b1,c1,e1,o1,x1⟩:=h1;obtain⟨k2,i2,a2,b2,c2,e2,o2,x2⟩:=h2 k1 i1 a1 b1 c1 e1;have hs:=x1.size;refine⟨k2,i2,a2.trans a1,b2.trans b1,c2.trans c1,e2.trans e1,λb hb=>?_,?_⟩
 · rcases o2 b hb with h | h
   · exact o1 b h
   · exact .inr (by omega)
 · refine x1.trans x2 (λ_ _ e=>e) (λb hb e=>?_)
   rcases o1 b e with h | h
   · exact h
   · omega
theorem finSt_succ (parts:List StrZ)(commit:Bool)(l:List HoldD)(st:List RowD×List HoldD×Int)(k:Nat)(h:HoldD)(hk:l[k]? =some h):(l.take (k+1)).foldl (finStep parts commit) st=finStep parts commit ((l.take k).foldl (finStep parts commit) st) h:=by
 rw[List.take_add_one,hk,List.foldl_append];rfl
structure HList (w:World)(ds:List HoldD)(ro:Option Addr)(rc:Nat)(l':List HoldV)(W:World):Prop where
 len:l'.length=ds.length
 own:W.ownsRow 0 48 7 (.slice ro l'.length rc) l'.length (l'.flatMap encHV)
 new:∀j,(Value.slice ro l'.length rc).ownBlock=some j->w.heap.size<=j
 are:HoldsAre W (λb=>(Value.slice ro l'.length rc).ownBlock=some b\/b<w.heap.size) l' ds
 ext:Ext w W
def finJ (c n:Int)(commit:Bool)(d:TrD)(j:Nat):List RowD×List HoldD×Int:=((byD c n d.holds).take j).foldl (finStep d.parts commit) (d.rows,d.holds,0)
def finAt (c n:Int)(commit:Bool)(d:TrD)(j:Nat):TrD:={ rows:=(finJ c n commit d j).1,holds:=(finJ c n commit d j).2.1,ns:=raiseAll [(c,n)] d.ns,parts:=d.parts,ended:=d.ended }
theorem finJ_succ (c n:Int)(commit:Bool)(d:TrD)(j:Nat)(h:HoldD)(hj:(byD c n d.holds)[j]? =some h):finJ c n commit d (j+1)=finStep d.parts commit (finJ c n commit d j) h:=finSt_succ _ _ _ _ _ _ hj
structure FinI (k:TrK)(d:TrD)(c n:Int)(commit:Bool)(B:Nat)(wl:World)(j:Nat)(k':TrK)(wr:World):Prop where
 is:TrIs wr k' (finAt c n commit d j)
 tb:k'.tb=k.tb
 rb:k'.rb=k.rb
 hb:k'.hb=k.hb
 pb:k'.pb=k.pb
 pv:k'.pv=k.pv
 hv:∀b,k'.hv.ownBlock=some b->k.hv.ownBlock=some b
 rv:∀b,k'.rv.ownBlock=some b->k.rv.ownBlock=some b\/B<=b
 but:But (λb=>b=k.hb\/k.hv.ownBlock=some b\/b=k.rb) wl wr
theorem FinI.to {k:TrK}{d:TrD}{c n:Int}{commit:Bool}{wl wr:World}{j:Nat}{k':TrK}(h:FinI k d c n commit wl.heap.size wl j k' wr):TrTo k (finAt c n commit d j) wl wr:=by
 refine⟨k',h.is,h.tb,h.rb,h.hb,h.pb,λb hb=>?_,h.but.mono λb _ e=>?_⟩
 · unfold TrK.owns at hb ⊢
   rw[h.tb,h.rb,h.hb,h.pb,h.pv]at hb;rcases hb with e | e | e | e | e | e | e
   · exact .inl (.inl e)
   · exact .inl (.inr (.inl e))
   · exact .inl (.inr (.inr (.inl e)))
   · exact .inl (.inr (.inr (.inr (.inl e))))
   · rcases h.rv b e with e | e
     · exact .inl (.inr (.inr (.inr (.inr (.inl e)))))
     · exact .inr e
   · exact .inl (.inr (.inr (.inr (.inr (.inr (.inl (h.hv b e)))))))
   · exact .inl (.inr (.inr (.inr (.inr (.inr (.inr e))))))
 · rcases e with e | e | e
   · exact .inr (.inr (.inl e))
   · exact .inr (.inr (.inr (.inr (.inr (.inl e)))))
   · exact .inr (.inl e)
theorem rows_nm1 {w:World}{b:Nat}{c n:Int}{t:TypeId}(h:Blk w b [.int .i64 c,.int .i64 n] t)(no:Nat->Prop)(hno:¬no b):NRows 2 encNz no w (some ⟨b,0,none⟩) [(c,n)]:=λ_=>
 ⟨b,0,rfl,h.lt,hno,λi x hi j v hj=>by
  match i,hi with
  | 0,hi=>
    simp only[qB,Option.some.injEq]at hi;subst hi;rw[h.cell];simpa [encNz] using hj
  | i+1,hi=>simp at hi⟩
theorem rows_str1 {w:World}{b:Nat}{s:ByteArray}{t:TypeId}(h:Blk w b [.string s] t)(no:Nat->Prop)(hno:¬no b):NRows 1 encStr no w (some ⟨b,0,none⟩) [s]:=λ_=>
 ⟨b,0,rfl,h.lt,hno,λi x hi j v hj=>by
  match i,hi with
  | 0,hi=>
    simp only[qB,Option.some.injEq]at hi;subst hi;rw[h.cell];simpa [encStr] using hj
  | i+1,hi=>simp at hi⟩
theorem rows_row1 {w:World}{b:Nat}{k v:ByteArray}{t:TypeId}(h:Blk w b [.string k,.string v] t):Rows 2 encRw w.heap.size w (some ⟨b,0,none⟩) [⟨k,v⟩]:=λ_=>
 ⟨b,0,rfl,h.lt,λi x hi j u hj=>by
  match i,hi with
  | 0,hi=>
    simp only[qB,Option.some.injEq]at hi;subst hi;rw[h.cell];simpa [encRw] using hj
  | i+1,hi=>simp at hi⟩
theorem finish_calls (k:TrK)(d:TrD)(c n:Int)(commit:Bool)(w:World)(T:TrIs w k d):
 Calls Tryz.prog 30 #[.pointer (some ⟨k.tb,0,none⟩),.agg #[.int .i64 c,.int .i64 n],.bool commit] w λe w'=>e= .returned (.int .i64 (finE c n commit d))/\TrTo k (finD c n commit d) w w':=by
 obtain⟨w1,hw1⟩:∃w1,w1=w.alloc (.cells #[.int .i64 c,.int .i64 n] 35):=⟨_,rfl⟩;have hx1:Ext w w1:=by rw[hw1];exact (qK _ w).alloc (qL _) _
 have hb1:Blk w1 w.heap.size [.int .i64 c,.int .i64 n] 35:=by rw[hw1];exact Blk.new w _ _
 have HN:=qA (λW=>actName_calls c n W);have T1:=qA (T.ext hx1);have X1:=qA hx1;have W1:=qA hw1;have B1:=qA hb1;have T0:=qA T;have c6:=(T.ext hx1).blk.cell 6;have b0:=hb1.cell 0;have b1:=hb1.cell 1;simp only[qB,qC]at c6 b0 b1;clear T hx1 hw1 hb1;cases hn:nameB c n with
 | false=>
   rw[hn]at HN;have hE:finE c n commit d=2:=by unfold finE;rw[hn];rfl
   have hD:finD c n commit d=d:=by unfold finD;rw[hn];rfl
   rw[hE,hD];go_enter Tryz.func30,Tryz.ntmps30;go_upto_region 1 with fail;rw[<- W1.out];clear W1;go_wp2_with (go_at_call 38;refine (trThere_calls k.tb true _ c6).mono ?_;rintro e w' ⟨rfl,rfl⟩);refine (HN.out _).mono ?_;rintro e w2 ⟨rfl,hx⟩;have X2:=qA (qJ X1.out hx);clear hx;go_wp2_with fail;go_ret;exact⟨rfl,T0.out.self X2.out⟩
 | true=>
   rw[hn]at HN;have HE:Hid (finE c n commit d=(finSt c n commit d).2.2):=qA (by unfold finE;rw[hn];rfl);have HD:Hid (finD c n commit d={ rows:=(finSt c n commit d).1,holds:=(finSt c n commit d).2.1,ns:=raiseAll [(c,n)] d.ns,parts:=d.parts,ended:=d.ended }):=qA (by unfold finD;rw[hn];rfl)
   have hraise:raiseT [(c,n)] d.ns=raiseAll [(c,n)] d.ns:=by
    unfold raiseT nmzB;simp[hn]
   have HRA:=qA hraise;clear hraise;go_enter Tryz.func30,Tryz.ntmps30;go_upto_region 1 with fail;rw[<- W1.out];clear W1;go_wp2_with (go_at_call 38;refine (trThere_calls k.tb true _ c6).mono ?_;rintro e w' ⟨rfl,rfl⟩);refine (HN.out _).mono ?_;rintro e w2 ⟨rfl,hx⟩;have X2:=qA (qJ X1.out hx);have T2:=qA (T1.out.ext hx);have B2:=qA (B1.out.ext' hx);have c2:=T2.out.blk.cell 2;have e0:=B2.out.cell 0;have e1:=B2.out.cell 1;simp only[qB,qC]at c2 e0 e1;clear hx c6 b0 b1;have hxa:Ext w2 (w2.alloc (.cells #[.int .i64 c,.int .i64 n] 35)):=(qK _ w2).alloc (qL _) _;have hpl:=T2.out.pt.blk.lt;have htl:=T2.out.blk.lt;have htn:k.tb≠w2.heap.size:=by omega
   have hnl:=B2.out.lt;have hnn:w.heap.size≠w2.heap.size:=by omega
   have RS:Hid (Calls Tryz.prog 93 #[.pointer (some ⟨k.pb,0,none⟩),.slice (some ⟨w2.heap.size,0,none⟩) 1 1] (w2.alloc (.cells #[.int .i64 c,.int .i64 n] 35)).drew λe w'=>(∃u,e= .returned u)/\PTab w' k.pb (raiseAll [(c,n)] d.ns)/\But (λj=>j=k.pb) (w2.alloc (.cells #[.int .i64 c,.int .i64 n] 35)).drew w'):=qA ((raisePast_calls k.pb d.ns [(c,n)] (some ⟨w2.heap.size,0,none⟩) 1 _ (T2.out.pt.ext hxa.drew) (by simp) (rows_nm1 (Blk.new w2 [.int .i64 c,.int .i64 n] 35).drew _ (by omega))).mono (by rintro e w' ⟨rfl,h1,h2⟩;exact⟨⟨_,rfl⟩,HRA.out▸h1,h2⟩));have XA:=qA hxa;clear hxa;go_upto_region 5 with fail;go_cut [] from 18 to 25 (λW=>PTab W k.pb (raiseAll [(c,n)] d.ns)/\But (λj=>j=k.pb) w2 W)
   case first=>
    go_region_with (first
     | (go_at_call 93;refine RS.out.mono ?_;rintro e w3 ⟨⟨u3,rfl⟩,hp3,hb3⟩;have P3:=qA hp3;have K3:=qA hb3;clear hp3 hb3))
    all_goals
     go_wp2_with fail;go_meet;exact⟨P3.out,(Ext.but XA.out.drew (λ_=>False)).trans K3.out (λ_ _ e=>e.elim) (λ_ _ e=>e)⟩
   case rest=>
    obtain⟨wp,rfl⟩:∃wp,wp=wc:=⟨_,rfl⟩;obtain⟨hp3,hb3⟩:=hcut;have T3:=qA (T2.out.past hp3 hb3);have B3:=qA (B2.out.but hb3 (λe=>by have:=T0.out.pt.blk.lt;omega));have K3:=qA hb3;have d1:=T3.out.blk.cell 1;have f0:=B3.out.cell 0;have f1:=B3.out.cell 1;simp only[qB,qC]at d1 f0 f1;clear hp3 hb3 c2 e0 e1 RS XA;have BY:=qA (λW (hW:Ext wp W)=>by_calls (no0:=k.noH) k.hb k.hv d.holds c n W (T3.out.ht.ext hW));go_upto_region 7 with fail;go_cut [32,33,34] from 26 to 34 (λr m i W=>∃(ro:Option Addr) (rc:Nat) (l':List HoldV),r= .slice ro l'.length rc/\m= .int .i64 l'.length/\i= .int .i64 0/\HList wp (byD c n d.holds) ro rc l' W)
    case first=>
     go_region_with (first
      | (go_at_call 94;refine (BY.out _ (by first | exact (qK _ _).drew | exact qK _ _)).mono ?_;rintro e w4 ⟨r,l',rfl,hn',ho,hj,ha,hm,hx⟩;obtain⟨ro,rc,rfl,_,_,_⟩:=Rows.own (enc:=encHV) (sz:=7) (λ_=>rfl) ho;have RP:Hid (HList wp (byD c n d.holds) ro rc l' w4):=qA ⟨hn',ho,hj,ha,qJ (by first | exact (qK _ _).drew | exact qK _ _) hx⟩;clear hn' ho hj ha hm hx))
     all_goals
      go_wp2_with fail;go_meet;exact⟨ro,rc,l',rfl,rfl,rfl,RP.out⟩
    case rest=>
     obtain⟨ro,rc,l',rfl,rfl,rfl,hL⟩:=hcut;obtain⟨wl,rfl⟩:∃wl,wl=wc:=⟨_,rfl⟩;have HL:=qA hL;have T4:=qA (T3.out.ext hL.ext)
     have hl60:l'.length<=60:=by
      rw[hL.len];exact qM (List.length_filter_le _ _) T3.out.ht.few
     obtain⟨_,_,hv5,_,_,hrows⟩:=Rows.own (enc:=encHV) (sz:=7) (λ_=>rfl) hL.own;simp only[Value.slice.injEq,true_and]at hv5;obtain⟨rfl,rfl⟩:=hv5;have HRR:=qA hrows;have XB:Hid (But k.owns w wl):=qA ((Ext.but X2.out (λ_=>False)).trans (K3.out.trans (Ext.but hL.ext (λ_=>False)) (U:=λj=>j=k.pb) (λ_ _ e=>e) (λ_ _ e=>e.elim)) (λ_ _ e=>e.elim) (λb _ e=> .inr (.inr (.inr (.inl e)))));clear hL hrows d1 f0 f1 BY;go_wp2_with fail;go_loopw [7,34] (λv7 vi wr=>∃(j:Nat) (k':TrK),j<=l'.length/\v7= .int .i64 (finJ c n commit d j).2.2/\vi= .int .i64 j/\FinI k d c n commit wl.heap.size wl j k' wr) (λ_ vi _=>l'.length - (intOf vi).toNat)
     case atStart=>exact⟨0,k,Nat.zero_le _,rfl,rfl,⟨T4.out,rfl,rfl,rfl,rfl,rfl,λ_ h=>h,λ_ h=> .inl h,But.refl _ _⟩⟩
     case round=>
      obtain⟨j,k',hj,rfl,rfl,hI⟩:=hrel;have FI:=qA hI;clear hI;by_cases hlt:j<l'.length
      · obtain⟨x,hx⟩:∃x,l'[j]? =some x:=⟨_,qE hlt⟩
        obtain⟨dx,hdx,hxd⟩:=HL.out.are.at j x hx;obtain⟨b,off,hro,hb,hcell⟩:=HRR.out (by intro e;rw[e]at hlt;simp at hlt);subst hro;have hbn:wp.heap.size<=b:=HL.out.new b rfl;have hcx:=hcell j x hx
        have hbS:¬(b=k.hb\/k.hv.ownBlock=some b\/b=k.rb):=λe=>by
         rcases e with e | e | e
         · have:=T3.out.ht.blk.lt;omega
         · have:=T3.out.ht.lt e;omega
         · have:=T3.out.rt.blk.lt;omega
        have hmove:∀i,wr.cell? ⟨b,i,none⟩=wl.cell? ⟨b,i,none⟩:=λi=>FI.out.but.cell (p:=⟨b,i,none⟩) hb hbS;have hdm:dx∈d.holds:=(List.mem_filter.1 (show dx∈List.filter _ d.holds from qH hdx)).1;have hdk:=(T0.out.ht.ok dx hdm).1.ks;have hkey:=hxd.key;have hput:=hxd.put;have hval:=hxd.value;obtain⟨key,cl,nm,xo,xn,xc,yo,yn,yc,put,value⟩:=x;have d0:=(hmove _).trans (hcx 0 _ rfl);have d1:=(hmove _).trans (hcx 1 _ rfl);have d2:=(hmove _).trans (hcx 2 _ rfl);have d3:=(hmove _).trans (hcx 3 _ rfl);have d4:=(hmove _).trans (hcx 4 _ rfl);have d5:=(hmove _).trans (hcx 5 _ rfl);have d6:=(hmove _).trans (hcx 6 _ rfl);simp only[Nat.add_zero]at d0;simp only at hkey hput hval;have i0:(0:Int)<=(j:Int):=by omega
        have i1:(j:Int)<(l'.length:Int):=by omega
        obtain⟨w5,hw5⟩:∃w5,w5=wr.alloc (.cells #[.string key,.int .i64 cl,.int .i64 nm,.slice xo xn xc,.slice yo yn yc,.bool put,.string value] 48):=⟨_,rfl⟩;have hx5:Ext wr w5:=by rw[hw5];exact (qK _ wr).alloc (qL _) _
        have hb5:Blk w5 wr.heap.size [.string key,.int .i64 cl,.int .i64 nm,.slice xo xn xc,.slice yo yn yc,.bool put,.string value] 48:=by rw[hw5];exact Blk.new wr _ _
        have W5:=qA hw5;have X5:=qA hx5;have B5:=qA hb5;have HKEY:=qA hkey;have HPUT:=qA hput;have HVAL:=qA hval;have HDX:=qA hdx;have I5:=qA (FI.out.is.ext hx5);have v0:=hb5.cell 0;simp only[qB]at v0;have hks:key.size<=140737488351232:=by rw[hkey];exact hdk
        have OP:Hid (Calls Tryz.prog 86 #[.pointer (some ⟨k.tb,0,none⟩),.string key,.func (.func 95) #[] #[]] w5 λe w'=>e= .returned (.bool (openL d.parts (dkey dx) (λ_=>true)))/\Ext w5 w'):=qA (by
         obtain⟨pa,pc,hpv,_,_,hpr⟩:=Rows.own (enc:=encSt) (sz:=5) (λ_=>rfl) I5.out.po;have hc3:=I5.out.blk.cell 3;simp only[qB,qC]at hc3;rw[FI.out.tb]at hc3;rw[hpv]at hc3
         have:=open_calls k.tb d.parts pa pc key 95 #[] (enters_of Tryz.func95 (by kernel_rfl) rfl) (λ_=>true) w5 hc3 (qM I5.out.pn (by omega)) hpr I5.out.ps hks (λW _ s _=>anyOne_calls s W)
         rwa [show key.data.toList=dkey dx by unfold dkey;rw[HKEY.out]]at this)
        clear hcell hcx hmove hx hx5 hw5 hb5 hdx hkey hput hval hxd;go_upto_region 10 with fail;rw[<- W5.out];clear W5 d0 d1 d2 d3 d4 d5 d6;go_wp2_with fail;refine OP.out.mono ?_;generalize hop:openL d.parts (dkey dx) (λ_=>true)=op;rintro e w6 ⟨rfl,hx6⟩;have X6:=qA (qJ X5.out hx6);have Y6:=qA hx6;have I6:=qA (I5.out.ext hx6);have HOP:=qA hop;have B6:=qA (B5.out.ext' hx6);clear hx6 hop OP;cases op with
        | false=>
          have hst:finJ c n commit d (j+1)=((finJ c n commit d j).1,(finJ c n commit d j).2.1,23):=by
           rw[finJ_succ c n commit d j dx HDX.out];unfold finStep;rw[HOP.out];rfl
          have hat:finAt c n commit d (j+1)=finAt c n commit d j:=by unfold finAt;rw[hst]
          have HST:=qA hst;have HAT:=qA hat;clear hst hat;go_wp2_with fail;go_roundw
          case rel=>exact⟨j+1,k',by omega,by rw[HST.out],by go_num,⟨by rw[HAT.out];exact I6.out,FI.out.tb,FI.out.rb,FI.out.hb,FI.out.pb,FI.out.pv,FI.out.hv,FI.out.rv,FI.out.but.trans (Ext.but X6.out (λ_=>False)) (λ_ _ e=>e) (λ_ _ e=>e.elim)⟩⟩
          case measure=>simp[intOf];omega
        | true=>
          have hst:finJ c n commit d (j+1)=((if (commit&&dx.put)=true then putRT [⟨dx.key,dx.value⟩] (finJ c n commit d j).1 else (finJ c n commit d j).1),notKeys [dx.key] (finJ c n commit d j).2.1,(finJ c n commit d j).2.2):=by
           rw[finJ_succ c n commit d j dx HDX.out];unfold finStep;rw[HOP.out];rfl
          have HST:=qA hst;clear hst;have hxs:Ext w6 (w6.alloc (.cells #[.string key] 9)):=(qK _ w6).alloc (qL _) _;have s1:=I6.out.blk.cell 1;have t0:=B6.out.cell 0;simp only[qB,qC]at s1 t0;rw[FI.out.tb,FI.out.hb]at s1;have g1:k.tb<w6.heap.size:=by have:=I6.out.blk.lt;rwa [FI.out.tb]at this
          have g2:k.tb≠w6.heap.size:=by omega
          have g3:=B6.out.lt;have g4:wr.heap.size≠w6.heap.size:=by omega
          have g5:k.hb<w6.heap.size:=by have:=I6.out.ht.blk.lt;rwa [FI.out.hb]at this
          have FR:Hid (Calls Tryz.prog 96 #[.pointer (some ⟨k.hb,0,none⟩),.slice (some ⟨w6.heap.size,0,none⟩) 1 1] (w6.alloc (.cells #[.string key] 9)).drew λe w'=>(∃u,e= .returned u)/\∃hv2,TabN k'.noH w' k'.hb hv2 (notKeys [dx.key] (finJ c n commit d j).2.1)/\(∀b,hv2.ownBlock=some b->k'.hv.ownBlock=some b)/\But (λb=>b=k'.hb\/k'.hv.ownBlock=some b) w6 w'):=qA (by
           have hT:=I6.out.ht.ext hxs.drew
           have:=free_calls (no0:=k'.noH) k'.hb k'.hv _ [key] (some ⟨w6.heap.size,0,none⟩) 1 _ hT (by simp) (rows_str1 (Blk.new w6 [.string key] 9).drew _ (λe=>e.elim (λe=>by rw[FI.out.hb]at e;omega) (λe=>by have:=I6.out.ht.lt e;omega)))
           rw[FI.out.hb]at this;refine this.mono ?_;rintro e w' ⟨r,_,v2,rfl,_,_,_,_,_,h1,h2,h3⟩;rw[<- HKEY.out,FI.out.hb]
           exact⟨⟨r,rfl⟩,v2,h1,h2,(Ext.but hxs.drew (λ_=>False)).trans h3 (λ_ _ e=>e.elim) (λ_ _ e=>e)⟩)
          clear hxs v0;go_upto_region 12 with fail;go_cut [] from 43 to 51 (λW=>∃hv2,TabN k'.noH W k'.hb hv2 (notKeys [dx.key] (finJ c n commit d j).2.1)/\(∀b,hv2.ownBlock=some b->k'.hv.ownBlock=some b)/\But (λb=>b=k'.hb\/k'.hv.ownBlock=some b) w6 W)
          case first=>
           go_region_with (first
            | (go_at_call 96;refine FR.out.mono ?_;rintro e w7 ⟨⟨u7,rfl⟩,h7⟩;have F7:=qA h7;clear h7))
           all_goals
            go_wp2_with fail;go_meet;exact F7.out
          case rest=>
           obtain⟨w7,rfl⟩:∃w7,w7=wc:=⟨_,rfl⟩;obtain⟨hv2,ht7,hs7,hb7⟩:=hcut;have I7:Hid (TrIs w7 { k' with hv:=hv2 } { finAt c n commit d j with holds:=notKeys [dx.key] (finJ c n commit d j).2.1 }):=qA (I6.out.holds ht7 hb7);have hbx:=B6.out.but hb7 (λe=>e.elim (λe=>by have:=FI.out.is.ht.blk.lt;omega) (λe=>by have:=FI.out.is.ht.lt e;omega));have B7:=qA hbx;have K7:Hid (But (λb=>b=k.hb\/k.hv.ownBlock=some b\/b=k.rb) wl w7):=qA (FI.out.but.trans ((Ext.but X6.out (λ_=>False)).trans hb7 (U:=λb=>b=k.hb\/k.hv.ownBlock=some b\/b=k.rb) (λ_ _ e=>e.elim) (λb _ e=>e.elim (λe=> .inl (e.trans FI.out.hb)) (λe=> .inr (.inl (FI.out.hv b e))))) (λ_ _ e=>e) (λ_ _ e=>e));have S7:=qA hs7;have x5:=hbx.cell 5;have x0:=hbx.cell 0;have x6:=hbx.cell 6;have y0:=I7.out.blk.cell 0;simp only[qB,qC]at x5 x0 x6 y0;rw[FI.out.tb,FI.out.rb]at y0;clear ht7 hs7 hb7 hbx s1 t0 FR;cases hcp:(commit&&put) with
           | false=>
             have hst2:finAt c n commit d (j+1)={ finAt c n commit d j with holds:=notKeys [dx.key] (finJ c n commit d j).2.1 }/\(finJ c n commit d (j+1)).2.2=(finJ c n commit d j).2.2:=by
              unfold finAt;rw[HST.out,<- HPUT.out,hcp];exact⟨rfl,rfl⟩
             have HS2:=qA hst2;clear hst2;have hrel:FinI k d c n commit wl.heap.size wl (j+1) { k' with hv:=hv2 } w7:=⟨by rw[HS2.out.1];exact I7.out,FI.out.tb,FI.out.rb,FI.out.hb,FI.out.pb,FI.out.pv,λb h=>FI.out.hv b (S7.out b h),FI.out.rv,K7.out⟩;have RL:=qA hrel;clear hrel;cases commit
             · go_wp2_with fail
               go_roundw
               case rel=>exact⟨j+1,_,by omega,by rw[HS2.out.2],by go_num,RL.out⟩
               case measure=>simp[intOf];omega
             · simp only[Bool.true_and]at hcp
               subst hcp;go_wp2_with fail;go_roundw
               case rel=>exact⟨j+1,_,by omega,by rw[HS2.out.2],by go_num,RL.out⟩
               case measure=>simp[intOf];omega
           | true=>
             simp only[Bool.and_eq_true]at hcp;obtain⟨rfl,rfl⟩:=hcp
             have hst2:finAt c n true d (j+1)={ finAt c n true d j with holds:=notKeys [dx.key] (finJ c n true d j).2.1,rows:=putRT [⟨dx.key,dx.value⟩] (finJ c n true d j).1 }/\(finJ c n true d (j+1)).2.2=(finJ c n true d j).2.2:=by
              unfold finAt;rw[HST.out,<- HPUT.out];exact⟨rfl,rfl⟩
             have HS2:=qA hst2;clear hst2;have hxs:Ext w7 (w7.alloc (.cells #[.string key,.string value] 52)):=(qK _ w7).alloc (qL _) _;have g6:k.tb<w7.heap.size:=by have:=I7.out.blk.lt;have h2:=FI.out.tb;simp only at this;omega
             have g7:k.tb≠w7.heap.size:=by omega
             have g8:=B7.out.lt;have g9:wr.heap.size≠w7.heap.size:=by omega
             have PR:Hid (Calls Tryz.prog 58 #[.pointer (some ⟨k.rb,0,none⟩),.slice (some ⟨w7.heap.size,0,none⟩) 1 1] (w7.alloc (.cells #[.string key,.string value] 52)).drew λe w'=>(∃u,e= .returned u)/\∃rv2,RTab w' k.rb rv2 (putRT [⟨dx.key,dx.value⟩] (finJ c n true d j).1)/\(rv2=k'.rv\/∀b,rv2.ownBlock=some b->w7.heap.size<=b)/\But (λb=>b=k.rb) w7 w'):=qA (by
              have hT:=I7.out.rt.ext hxs.drew
              have:=rowsPut_calls k'.rb k'.rv _ [⟨key,value⟩] (some ⟨w7.heap.size,0,none⟩) 1 _ hT (by simp) (rows_row1 (Blk.new w7 [.string key,.string value] 52).drew) (λx hx=>by rw[List.mem_singleton]at hx;rw[hx];exact hks)
              rw[FI.out.rb]at this;refine this.mono ?_;rintro e w' ⟨rfl,⟨v2,h1,h2⟩,h3⟩;rw[<- HKEY.out,<- HVAL.out]
              exact⟨⟨_,rfl⟩,v2,h1,h2.imp id (λh b hb=>qM hxs.size (h b hb)),(Ext.but hxs.drew (λ_=>False)).trans h3 (λ_ _ e=>e.elim) (λ_ _ e=>e)⟩)
             clear hxs;go_upto_region 14 with fail
             go_region_with (first
              | (go_at_call 58;refine PR.out.mono ?_;rintro e w8 ⟨⟨u8,rfl⟩,h8⟩;have F8:=qA h8;clear h8))
             all_goals
              obtain⟨rv2,hr8,hf8,hb8⟩:=F8.out;have I8:=I7.out.rows (rv':=rv2) (by rw[FI.out.rb];exact hr8) hf8 (by rw[FI.out.rb];exact hb8)
              have hrel:FinI k d c n true wl.heap.size wl (j+1) { k' with hv:=hv2,rv:=rv2 } w8:=⟨by rw[HS2.out.1];exact I8,FI.out.tb,FI.out.rb,FI.out.hb,FI.out.pb,FI.out.pv,λb h=>FI.out.hv b (S7.out b h),λb h=>by
               rcases hf8 with rfl | hf8
               · exact FI.out.rv b h
               · exact .inr (qM K7.out.size (hf8 b h)),K7.out.trans hb8 (λ_ _ e=>e) (λ_ _ e=> .inr (.inr e))⟩
              have RL:=qA hrel;clear hrel I8 hr8 hf8 hb8 F8;go_wp2_with fail;go_roundw
              case rel=>exact⟨j+1,_,by omega,by rw[HS2.out.2],by go_num,RL.out⟩
              case measure=>simp[intOf];omega
      · obtain rfl:j=l'.length:=by omega
        have hat:finAt c n commit d l'.length=finD c n commit d:=by
         rw[HD.out];unfold finAt finJ finSt;rw[HL.out.len,List.take_length]
        have hjn:(finJ c n commit d l'.length).2.2=finE c n commit d:=by
         rw[HE.out];unfold finJ finSt;rw[HL.out.len,List.take_length]
        have HAT:=qA hat;have HJN:=qA hjn;clear hat hjn;go_wp2_with fail;go_ret;refine⟨by rw[<- HJN.out];rfl,?_⟩;rw[<- HAT.out];obtain⟨k2,a1,a2,a3,a4,a5,a6,a7⟩:=FI.out.to;exact⟨k2,a1,a2,a3,a4,a5,λb hb=>(a6 b hb).imp id (λh=>qM XB.out.size h),XB.out.trans a7 (λ_ _ e=>e) (λ_ _ e=>e)⟩
end Go.Proofs.YtmpmggejhnmakaaGreatDoor
