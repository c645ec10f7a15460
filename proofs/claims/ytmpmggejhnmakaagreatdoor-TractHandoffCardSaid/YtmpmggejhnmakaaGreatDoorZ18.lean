/- rows: a row is put into a row of rows; rows are put into a table. -/
import Derived.Test.YtmpmggejhnmakaaGreatDoorZ16
import Derived.Test.YtmpmggejhnmakaaGreatDoorZ17
import Derived.Test.YtmpmggejhnmakaaGreatDoorZ01
set_option maxRecDepth 100000
set_option maxHeartbeats 3200000
namespace Go.Proofs.YtmpmggejhnmakaaGreatDoor
open Go.RowKit
theorem putR_there {x:RowD}{l:List RowD}(h:thereR (rkey x) l=true):placeR (rkey x) l<l.length/\putR x l=l.take (placeR (rkey x) l)++x::l.drop (placeR (rkey x) l+1):=by
 have hp:placeR (rkey x) l<l.length:=by
  unfold thereR at h
  split at h
  · rename_i d hd;exact (qF.1 hd).1
  · cases h
 exact⟨hp,by unfold putR;rw[h];rfl⟩
theorem putR_new {x:RowD}{l:List RowD}(h:thereR (rkey x) l=false):putR x l=l.take (placeR (rkey x) l)++x::l.drop (placeR (rkey x) l):=by
 unfold putR;rw[h];rfl
theorem own_setT {w:World}{B:Nat}{e:TypeId}{size n cap g:Nat}{xs:List Value}(h:w.ownsRow B e size (.slice (some ⟨g,0,none⟩) n cap) n xs)(j:Nat)(u:Value):(w.setCell ⟨g,j,none⟩ u).ownsRow B e size (.slice (some ⟨g,0,none⟩) n cap) n (xs.set j u):=by
 obtain⟨h1,h2⟩:=h;refine⟨by simpa using h1,.inr ?_⟩;rcases h2 with ⟨h2,_⟩ | ⟨g',cap',cur,hv,hB,hg,hn,hm,hc,ht⟩
 · cases h2
 · simp only[Value.slice.injEq,Option.some.injEq,Addr.mk.injEq,and_true,true_and]at hv
   obtain⟨rfl,rfl⟩:=hv;have hb:Blk w g cur.toList e:=by unfold Blk;rw[hg]
   have hs:=hb.set j u;unfold Blk at hs;refine⟨g,cap,(cur.toList.set j u).toArray,rfl,hB,hs,hn,hm,by simpa using hc,?_⟩;rw[List.toList_toArray,<- ht,List.take_set]
theorem flat_set (x:RowD):∀(l:List RowD)(P:Nat),P<l.length->((l.flatMap encRw).set (P * 2) (.string x.key)).set (P * 2+1) (.string x.value)=(l.take P++x::l.drop (P+1)).flatMap encRw
 | [],P,h=>by simp at h
 | d::l,0,_=>by simp[encRw]
 | d::l,P+1,h=>by
   have ih:=flat_set x l P (by simpa using h);rw[List.flatMap_cons,show (P+1) * 2=P * 2+2 by omega];show ((Value.string d.key::Value.string d.value::l.flatMap encRw).set (P * 2+2) _).set (P * 2+2+1) _=_;rw[show P * 2+2+1=P * 2+1+1+1 by omega,show P * 2+2=P * 2+1+1 by omega];simp only[List.set_cons_succ];rw[ih,List.take_succ_cons,List.drop_succ_cons,List.cons_append,List.flatMap_cons];rfl
theorem putS_calls (x:RowD)(sb:Nat)(v:Value)(l:List RowD)(w:World)(hb:Blk w sb [v] 172)(hown:w.ownsRow 0 52 2 v l.length (l.flatMap encRw))(hrise:RiseR l)(hl:l.length<=1000000)(hne:v.ownBlock≠some sb):
 Calls Tryz.prog 133 #[.pointer (some ⟨sb,0,none⟩),.agg (encRw x).toArray] w λe w'=>e= .returned (.tuple #[])/\(∃v',Blk w' sb [v'] 172/\w'.ownsRow 0 52 2 v' (putR x l).length ((putR x l).flatMap encRw)/\Kept1 w v v')/\But (λj=>j=sb\/v.ownBlock=some j) w w':=by
 obtain⟨ao,cap,rfl,hlc,hcm,hrows⟩:=Rows.own (enc:=encRw) (sz:=2) (λ_=>rfl) hown;have hc0:=hb.cell 0;simp only[qB]at hc0;have hbl:=hb.lt;obtain⟨key,value⟩:=x;have HA:=qA (λW (hW:Ext w W)=>atR_calls l ao cap sb key W hl ((hrows.ext hW).mono hW.size) hrise ((hW.cell (p:=⟨sb,0,none⟩) hbl).trans hc0));have HB:Hid (Blk (w.alloc (.cells #[.string key,.string value] 52)) w.heap.size [.string key,.string value] 52):=qA (Blk.new w _ _);have XB:Hid (Ext w (w.alloc (.cells #[.string key,.string value] 52))):=qA ((qK _ w).alloc (qL _) _);have HOW:=qA hown;have HSB:=qA hb;have HNE:=qA hne;have HR:=qA hrows;have hpl:=placeR_le (rkey ⟨key,value⟩) l;have hpt:= @putR_there ⟨key,value⟩ l;have hpn:= @putR_new ⟨key,value⟩ l;have HPT:=qA hpt;have HPN:=qA hpn;have hk:rkey ⟨key,value⟩=key.data.toList:=rfl;rw[hk]at hpl;clear hown hb hne hrows hrise hc0 hpt hpn hk;simp only[encRw];obtain⟨P,hP⟩:∃P,P=placeR key.data.toList l:=⟨_,rfl⟩;obtain⟨t,ht⟩:∃t,t=thereR key.data.toList l:=⟨_,rfl⟩;have HP:=qA hP;have HTT:=qA ht;rw[<- hP]at hpl;rw[<- hP,<- ht]at HA;clear hP ht;cases t with
 | true=>
   obtain⟨hlt,hput⟩:=HPT.out HTT.out.symm;rw[show placeR (rkey ⟨key,value⟩) l=P from HP.out.symm]at hlt hput;have hp0:(0:Int)<=(P:Int):=by omega
   have hp1:(P:Int)<(l.length:Int):=by omega
   have HPUT:=qA hput;clear hput;go_enter Tryz.func133,Tryz.ntmps133;go_wp2_with fail;refine (HA.out _ XB.out).mono ?_;rintro e w1 ⟨rfl,hx1⟩;have hb1:=HB.out.ext' hx1;have X1:=qA (qJ XB.out hx1);have c0:=hb1.cell 0;have c1:=hb1.cell 1;simp only[qB,qC]at c0 c1;have s0:=(HSB.out.ext' X1.out).cell 0;simp only[qB]at s0;clear hx1 hb1;obtain⟨d,hd⟩:∃d,l[P]? =some d:=⟨_,qE hlt⟩;obtain⟨g,off,hao,hg,hcell⟩:=HR.out (by intro e;rw[e]at hlt;simp at hlt);rcases HOW.out.2 with ⟨_,h0⟩ | ⟨g',c,cur,hv,_,hg',_,_,_,_⟩
   · omega
   simp only[Value.slice.injEq,true_and]at hv;obtain⟨hv,rfl⟩:=hv;rw[hao]at hv;simp only[Option.some.injEq,Addr.mk.injEq,and_true]at hv;obtain⟨rfl,rfl⟩:=hv;subst hao;have hbk:Blk w g cur.toList 52:=by unfold Blk;rw[hg']
   have hbk1:=hbk.ext' X1.out;have d0:=(X1.out.cell (p:=⟨g,_,none⟩) hg).trans (hcell P d hd 0 _ rfl);have d1:=(X1.out.cell (p:=⟨g,_,none⟩) hg).trans (hcell P d hd 1 _ rfl);have f0:=hbk1.free (0+P * 2+0);have f1:=hbk1.free (0+P * 2+1);simp only[Nat.zero_add,Nat.add_zero]at d0 d1 f0 f1;have B1:=qA hbk1;clear hd hcell hbk hg' hbk1;go_wp2_with fail;go_region
   go_end0
   have hgs:g≠sb:=λe=>HNE.out (by simp[Value.ownBlock,e]);have hB0:But (λj=>j=g) w1 ((w1.setCell ⟨g,P * 2,none⟩ (.string key)).setCell ⟨g,P * 2+1,none⟩ (.string value)).drew:=(((But.refl (λj=>j=g) w1).setCell (λ_=>rfl) _).setCell (λ_=>rfl) _).drew;refine⟨rfl,⟨_,(HSB.out.ext' X1.out).but hB0 (λe=>hgs e.symm),?_,λk hk=> .inl hk⟩,(Ext.but X1.out (λ_=>False)).trans hB0 (λ_ _ e=>e.elim) (λ_ _ e=> .inr (by simp[Value.ownBlock,e]))⟩;have h:=own_setT (own_setT (own_ext HOW.out X1.out) (P * 2) (.string key)) (P * 2+1) (.string value);rw[flat_set ⟨key,value⟩ l P hlt,<- HPUT.out]at h
   have hlen:(putR ⟨key,value⟩ l).length=l.length:=by
    rw[HPUT.out,qG,List.length_take,List.length_cons,List.length_drop];omega
   rw[hlen];exact h
 | false=>
   have hput:=HPN.out HTT.out.symm;rw[show placeR (rkey ⟨key,value⟩) l=P from HP.out.symm]at hput;have hp1:(P:Int)<=(l.length:Int):=by omega
   have HPUT:=qA hput;clear hput;go_enter Tryz.func133,Tryz.ntmps133;go_wp2_with fail;refine (HA.out _ XB.out).mono ?_;rintro e w1 ⟨rfl,hx1⟩;have hb1:=HB.out.ext' hx1;have X1:=qA (qJ XB.out hx1);have c0:=hb1.cell 0;have c1:=hb1.cell 1;simp only[qB,qC]at c0 c1;have s0:=(HSB.out.ext' X1.out).cell 0;simp only[qB]at s0;have hsb1:sb<w1.heap.size:=by have:=X1.out.size;omega
   have hsn1:sb≠w1.heap.size:=by omega
   have hw2:Ext w1 (w1.alloc (.cells #[.string key,.string value] 52)).drew:=((qK _ w1).alloc (qL _) _).drew;have X2:=qA (qJ X1.out hw2);have HI:=qA (insert_callsR l ⟨key,value⟩ P (.slice ao l.length cap) w1.heap.size 1 [.string key,.string value] (w1.alloc (.cells #[.string key,.string value] 52)).drew hl hpl (own_ext HOW.out X2.out) (Blk.new w1 _ _).drew rfl (λe=>by have h:=(HOW.out.lt _ e).2;have h2:=X1.out.size;omega));clear hx1 hb1 hw2;go_wp2_with fail
   go_region_with (first
    | (go_at_call 181;refine HI.out.mono ?_;rintro e wb ⟨v',rfl,hown',hkept,hbut⟩;obtain⟨g2,cp2,rfl⟩:=own_pos hown';have hcc:=((HSB.out.ext' X2.out).but hbut (λe=>HNE.out e)).cell 0;have hcf:=((HSB.out.ext' X2.out).but hbut (λe=>HNE.out e)).free 0;simp only[qB]at hcc;have YO:=qA hown';have YK:=qA hkept;have YB:=qA hbut;clear hown' hkept hbut))
   all_goals
    go_end0
    have hsz2:w.heap.size<=(w1.alloc (.cells #[.string key,.string value] 52)).drew.heap.size:=X2.out.size
    have hvs:(Value.slice (some ⟨g2,0,none⟩) (l.length+1) cp2).ownBlock≠some sb:=λe=>by
     rcases YK.out sb e with h | h
     · exact HNE.out h
     · omega
    have hlen:(putR ⟨key,value⟩ l).length=l.length+1:=by
     rw[HPUT.out,qG,List.length_take,List.length_cons,List.length_drop];omega
    refine⟨rfl,⟨_,((HSB.out.ext' X2.out).but YB.out (λe=>HNE.out e)).set 0 _,?_,λk hk=>(YK.out k hk).imp id (λh=>by omega)⟩,((Ext.but X2.out (λ_=>False)).trans YB.out (U:=λj=>j=sb\/(Value.slice ao l.length cap).ownBlock=some j) (λ_ _ e=>e.elim) (λ_ _ e=> .inr e)).setCell (λ_=> .inl rfl) _⟩;rw[hlen,HPUT.out];exact own_setOther YO.out (a:=⟨sb,0,none⟩) hvs _
theorem rowRight_calls (x:RowD)(w:World)(hk:x.key.size<=140737488351232):Calls Tryz.prog 132 #[.agg (encRw x).toArray] w λe w'=>e= .returned (.bool (rwB x))/\Ext w w':=by
 obtain⟨key,value⟩:=x;have HK:=qA (λW=>key_calls key W hk);have HX:Hid (Ext w (w.alloc (.cells #[.string key,.string value] 52))):=qA ((qK _ w).alloc (qL _) _);have HR:Hid (rwB ⟨key,value⟩=(keyL key.data.toList&&decide ((value.size:Int)<=20))):=qA rfl;clear hk;simp only[encRw];generalize rwB ⟨key,value⟩=res at *;cases hb:keyL key.data.toList with
 | false=>
   have KB:=qA hb;clear hb;go_enter Tryz.func132,Tryz.ntmps132;go_wp2_with (go_at_call 10;refine (HK.out _).mono ?_;rw[KB.out];rintro e w' ⟨rfl,rfl⟩);go_ret;exact⟨by rw[HR.out,KB.out];rfl,HX.out⟩
 | true=>
   have KB:=qA hb;clear hb;cases hv:decide ((value.size:Int)<=20)
   all_goals
    have VB:=qA hv;go_enter Tryz.func132,Tryz.ntmps132;go_wp2_with (go_at_call 10;refine (HK.out _).mono ?_;rw[KB.out];rintro e w' ⟨rfl,rfl⟩);go_ret;exact⟨by rw[HR.out,KB.out,VB.out];rfl,HX.out⟩
theorem notRight_calls (x:RowD)(w:World)(hk:x.key.size<=140737488351232):Calls Tryz.prog 131 #[.agg (encRw x).toArray] w λe w'=>e= .returned (.bool (!rwB x))/\Ext w w':=by
 have HR:=qA (λW=>rowRight_calls x W hk);obtain⟨key,value⟩:=x;have HX:Hid (Ext w (w.alloc (.cells #[.string key,.string value] 52))):=qA ((qK _ w).alloc (qL _) _);clear hk;simp only[encRw]at HR ⊢;go_enter Tryz.func131,Tryz.ntmps131;go_wp2_with fail;refine (HR.out _).mono ?_;rintro e w' ⟨rfl,hx⟩;have X1:=qA (qJ HX.out hx);clear hx;go_wp2_with fail;go_ret;exact⟨rfl,X1.out⟩
def putAllR (l2 l:List RowD):List RowD:=l2.foldl (λa x=>putR x a) l
def putRE (l2 l:List RowD):Int:=if (l2.any λx=> !rwB x)=true then 2 else if 400<(putAllR l2 l).length then 8 else 0
def putRT (l2 l:List RowD):List RowD:=if putRE l2 l=0 then putAllR l2 l else l
theorem putAllR_succ (l2 l:List RowD)(k:Nat)(x:RowD)(h:l2[k]? =some x):putAllR (l2.take (k+1)) l=putR x (putAllR (l2.take k) l):=by
 unfold putAllR;rw[List.take_add_one,h,List.foldl_append];rfl
theorem putAllR_rise (l2:List RowD):∀l,RiseR l->RiseR (putAllR l2 l):=by
 induction l2 with
 | nil=>intro l h;exact h
 | cons x l2 ih=>intro l h;exact ih _ (putR_rise h)
theorem putR_lenT (x:RowD)(l:List RowD):(putR x l).length<=l.length+1:=by
 unfold putR;rw[qG,List.length_take,List.length_cons,List.length_drop]
 have:=placeR_le (rkey x) l
 split<;>omega
theorem putAllR_len (l2:List RowD):∀l,(putAllR l2 l).length<=l.length+l2.length:=by
 induction l2 with
 | nil=>intro l;exact qL _
 | cons x l2 ih=>
   intro l;have h1:=ih (putR x l);have h2:=putR_lenT x l;rw[List.length_cons];show (putAllR l2 (putR x l)).length<=_;omega
theorem putR_memT {x y:RowD}{l:List RowD}(h:y∈putR x l):y=x\/y∈l:=by
 unfold putR at h;rcases List.mem_append.1 h with h | h
 · exact .inr (List.mem_of_mem_take h)
 · rcases List.mem_cons.1 h with h | h
   · exact .inl h
   · exact .inr (List.mem_of_mem_drop h)
theorem putAllR_mem (l2:List RowD):∀{l:List RowD}{y:RowD},y∈putAllR l2 l->y∈l2\/y∈l:=by
 induction l2 with
 | nil=>intro l y h;exact .inr h
 | cons x l2 ih=>
   intro l y h;rcases ih (l:=putR x l) h with h | h
   · exact .inl (List.mem_cons_of_mem _ h)
   · rcases putR_memT h with rfl | h
     · exact .inl (List.mem_cons_self ..)
     · exact .inr h
theorem rowsPut_calls (rb:Nat)(v:Value)(l l2:List RowD)(bo:Option Addr)(bcap:Nat)(w:World)(T:RTab w rb v l)(hl2:l2.length<=100000)(hr2:Rows 2 encRw w.heap.size w bo l2)(hks:∀x∈l2,x.key.size<=140737488351232):
 Calls Tryz.prog 58 #[.pointer (some ⟨rb,0,none⟩),.slice bo l2.length bcap] w λe w'=>e= .returned (.int .i64 (putRE l2 l))/\(∃v',RTab w' rb v' (putRT l2 l)/\(v'=v\/∀j,v'.ownBlock=some j->w.heap.size<=j))/\But (λj=>j=rb) w w':=by
 obtain⟨ao,cap,rfl,hlc,hcm,hrows⟩:=T.rows;have hc0:=T.blk.cell 0;have hc1:=T.blk.cell 1;simp only[qB,qC]at hc0 hc1;have hbl:=T.blk.lt;have hfew:=T.few;have HCF:=qA (containsRow_calls 131 #[] (enters_of Tryz.func131 (by kernel_rfl) rfl) (λx=> !rwB x) l2 bo bcap w (by omega) hr2 (λW _ x hx=>notRight_calls x W (hks x hx)));have HCL:=qA (λW (hW:Ext w W)=>clone_rows_calls l ao cap W (by omega) ((hrows.ext hW).mono hW.size));have HT:=qA T;have HC:=qA hc0;have HC1:=qA hc1;have HR2:=qA hr2;clear hrows hc0 hc1 hr2;cases hany:l2.any (λx=> !rwB x) with
 | true=>
   have hE:putRE l2 l=2:=by unfold putRE;rw[if_pos hany]
   have hTT:putRT l2 l=l:=by unfold putRT;rw[hE];rfl
   have AN:=qA hany;have EE:=qA hE;have TT:=qA hTT;clear hany hE hTT T hks;go_enter Tryz.func58,Tryz.ntmps58;go_wp2_with fail;refine (knownR_calls rb true _ HC1.out).mono ?_;rintro e w' ⟨rfl,rfl⟩;go_wp2_with fail;refine HCF.out.mono ?_;rw[AN.out];rintro e w1 ⟨rfl,hx⟩;have X1:=qA hx;clear hx;go_wp2_with fail;go_ret;rw[EE.out,TT.out];exact⟨rfl,⟨_,HT.out.ext X1.out,.inl rfl⟩,Ext.but X1.out _⟩
 | false=>
   have hE:putRE l2 l=if 400<(putAllR l2 l).length then 8 else 0:=by unfold putRE;rw[hany];rfl
   have hall:∀x∈l2,rwB x=true:=λx hx=>by
    have:=List.any_eq_false.1 hany x hx
    simpa using this
   have AN:=qA hany;have EE:=qA hE;have ALL:=qA hall;clear hany hE hall T hks;go_enter Tryz.func58,Tryz.ntmps58;go_wp2_with fail;refine (knownR_calls rb true _ HC1.out).mono ?_;rintro e w' ⟨rfl,rfl⟩;go_wp2_with fail;refine HCF.out.mono ?_;rw[AN.out];rintro e w1 ⟨rfl,hx⟩;have X1:=qA hx;have c0:=(hx.cell (p:=⟨rb,0,none⟩) hbl).trans HC.out;clear hx;go_wp2_with fail;refine (HCL.out w1 X1.out).mono ?_;rintro e w2 ⟨v0,rfl,hown0,hj0,hx2⟩;have X2:=qA (qJ X1.out hx2);have J0:Hid (∀j,v0.ownBlock=some j->w.heap.size<=j):=qA (λj h=>qM X1.out.size (hj0 j h));obtain⟨a0,p0,hv0,_,_,_⟩:=Rows.own (enc:=encRw) (sz:=2) (λ_=>rfl) hown0;subst hv0;have O0:=qA hown0;clear hown0 hj0 hx2 c0;go_wp2_with fail;obtain⟨w3,hw3⟩:∃w3,w3=w2.alloc (.cells #[.slice a0 l.length p0] 172):=⟨_,rfl⟩;rw[<- hw3];obtain⟨sb,hsb⟩:∃sb,sb=w2.heap.size:=⟨_,rfl⟩;rw[<- hsb];have hX3:Ext w2 w3:=by rw[hw3];exact (qK _ w2).alloc (qL _) _
   have SB3:Hid (Blk w3 sb [.slice a0 l.length p0] 172):=qA (by rw[hw3,hsb];exact Blk.new w2 _ _);have hsbw:w.heap.size<=sb:=by have:=X2.out.size;omega
   have hne0:(Value.slice a0 l.length p0).ownBlock≠some sb:=λe=>by have:=(O0.out.lt _ e).2;omega
   have O3:=qA (own_ext O0.out hX3);have X3:=qA (qJ X2.out hX3);have NE0:=qA hne0;have hrbs:rb≠sb:=by omega
   clear hw3 hsb hX3 O0 hne0;go_loopw [24] (λi wr=>∃(k:Nat) (vk:Value),k<=l2.length/\i= .int .i64 k/\Blk wr sb [vk] 172/\wr.ownsRow 0 52 2 vk (putAllR (l2.take k) l).length ((putAllR (l2.take k) l).flatMap encRw)/\(∀j,vk.ownBlock=some j->w.heap.size<=j)/\vk.ownBlock≠some sb/\Ext w wr) (λi _=>l2.length - (intOf i).toNat)
   case atStart=>exact⟨0,_,Nat.zero_le _,rfl,SB3.out,by rw[List.take_zero];exact O3.out,J0.out,NE0.out,X3.out⟩
   case round=>
    obtain⟨k,vk,hk,rfl,hsb,hown,hj,hne,hx⟩:=hrel;have RI:Hid (RiseR (putAllR (l2.take k) l)):=qA (putAllR_rise _ _ HT.out.rise);have hLL:=putAllR_len (l2.take k) l;have hLK:(l2.take k).length<=k:=by rw[List.length_take];omega
    obtain⟨L,hL⟩:∃L,L=putAllR (l2.take k) l:=⟨_,rfl⟩;rw[<- hL]at RI hown hLL;have HL:=qA hL;have hLmax:L.length<=1000000:=by omega
    obtain⟨ak,pk,rfl,_,_,_⟩:=Rows.own (enc:=encRw) (sz:=2) (λ_=>rfl) hown;have S1:=qA hsb;have O1:=qA hown;have J1:=qA hj;have N1:=qA hne;have K1:=qA hx;clear hsb hown hj hne hx hL hLL hLK SB3 O3 J0 NE0 X3;by_cases hlt:k<l2.length
    · obtain⟨x,hx⟩:∃x,l2[k]? =some x:=⟨_,qE hlt⟩
      obtain⟨b,off,rfl,hb,hcell⟩:=HR2.out (by intro e;rw[e]at hlt;simp at hlt);have hcx:=hcell k x hx;have hmove:∀j,wr.cell? ⟨b,j,none⟩=w.cell? ⟨b,j,none⟩:=λj=>K1.out.cell (p:=⟨b,j,none⟩) hb;have HX:=qA hx;obtain⟨key,value⟩:=x;have d0:=(hmove _).trans (hcx 0 _ rfl);have d1:=(hmove _).trans (hcx 1 _ rfl);simp only[Nat.add_zero]at d0;have i0:(0:Int)<=(k:Int):=by omega
      have i1:(k:Int)<(l2.length:Int):=by omega
      have hxa:Ext wr (wr.alloc (.cells #[.string key,.string value] 52)):=(qK _ wr).alloc (qL _) _;have PS:=qA (putS_calls ⟨key,value⟩ sb (.slice ak L.length pk) L _ (S1.out.ext' hxa) (own_ext O1.out hxa) RI.out hLmax N1.out);have XA:=qA (qJ K1.out hxa);clear hcell hcx hmove hx hxa;go_wp2_with fail;refine PS.out.mono ?_;rintro e w5 ⟨rfl,⟨v5,hb5,ho5,hk5⟩,hbut⟩;have S5:=qA hb5;have O5:=qA ho5;have K5:=qA hk5
      have X5:Hid (Ext w w5):=qA (((Ext.but XA.out (λ_=>False)).trans hbut (U:=λj=>w.heap.size<=j) (λ_ _ e=>e.elim) (λj _ e=>by
       rcases e with rfl | e
       · exact hsbw
       · exact J1.out j e)).ext (λj hj e=>by omega))
      clear hb5 ho5 hk5 hbut PS d0 d1;go_wp2_with fail;go_roundw
      case rel=>
       have hLn:putAllR (l2.take (k+1)) l=putR ⟨key,value⟩ L:=by rw[putAllR_succ l2 l k _ HX.out,HL.out]
       refine⟨k+1,v5,by omega,by go_num,S5.out,by rw[hLn];exact O5.out,λj h=>?_,λe=>?_,X5.out⟩
       · rcases K5.out j h with e | e
         · exact J1.out j e
         · have:=XA.out.size;omega
       · rcases K5.out sb e with e | e
         · exact N1.out e
         · have:=S1.out.lt;have h2:=World.size_alloc wr (.cells #[.string key,.string value] 52);omega
      case measure=>simp[intOf];omega
    · obtain rfl:k=l2.length:=by omega
      have hLe:putAllR l2 l=L:=by rw[HL.out,List.take_length]
      have LE:=qA hLe;clear hLe;have s0:=S1.out.cell 0;simp only[qB]at s0;have r0:=(K1.out.cell (p:=⟨rb,0,none⟩) hbl).trans HC.out;have rf:=(HT.out.blk.ext' K1.out).free 0;cases hbig:decide ((400:Int)<(L.length:Int)) with
      | true=>
        go_wp2_with fail;go_ret;have hE:putRE l2 l=8:=by rw[EE.out,LE.out,if_pos (by have:=of_decide_eq_true hbig;omega)]
        have hTT:putRT l2 l=l:=by unfold putRT;rw[hE];rfl
        rw[hE,hTT];exact⟨rfl,⟨_,HT.out.ext K1.out,.inl rfl⟩,Ext.but K1.out _⟩
      | false=>
        have hnb:¬400<L.length:=by have:=of_decide_eq_false hbig;omega
        go_wp2_with fail;go_ret;have hE:putRE l2 l=0:=by rw[EE.out,LE.out,if_neg hnb]
        have hTT:putRT l2 l=L:=by unfold putRT;rw[hE,if_pos rfl,LE.out]
        rw[hE,hTT];refine⟨rfl,⟨_,⟨(HT.out.blk.ext' K1.out).set 0 _,own_setOther O1.out (a:=⟨rb,0,none⟩) (λe=>by have:=J1.out rb e;omega) _,RI.out,λd hd=>?_,by omega⟩,.inr J1.out⟩,(Ext.but K1.out (λj=>j=rb)).setCell (λ_=>rfl) _⟩;rw[<- LE.out]at hd;rcases putAllR_mem l2 hd with h | h
        · exact ALL.out d h
        · exact HT.out.ok d h
end Go.Proofs.YtmpmggejhnmakaaGreatDoor
