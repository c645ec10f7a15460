/- The place of a key in a rising row of rows: slices.BinarySearchFunc with the package's comparison; get. -/
import Derived.Test.YtmpmggejhnmakaaGreatDoorZ10
import Derived.Test.YtmpmggejhnmakaaGreatDoorZ07
import Derived.Lib.Bytealg
import Derived.Test.YtmpmggejhnmakaaGreatDoorZ15
import Derived.Test.YtmpmggejhnmakaaGreatDoorZ12
import Derived.Test.YtmpmggejhnmakaaGreatDoorZ01
set_option maxRecDepth 100000
set_option maxHeartbeats 800000
namespace Go.Proofs.YtmpmggejhnmakaaGreatDoor
open Go.RowKit
theorem compareB_eq:∀a b:List UInt8,Lib.compareBytes a b=cmpT a b
 | [],[]=>by simp[Lib.compareBytes,cmpT]
 | [],_::_=>by simp[Lib.compareBytes,cmpT]
 | _::_,[]=>by simp[Lib.compareBytes,cmpT]
 | x::a,y::b=>by
   have ih:=compareB_eq a b;unfold cmpT at ih ⊢;rw[Lib.compareBytes,ih];simp only[List.cons_lt_cons_iff];rcases Nat.lt_trichotomy x.toNat y.toNat with h | h | h
   · have h1:x<y:=h
     simp[h1]
   · have h1:x=y:=UInt8.toNat_inj.1 h
     subst h1;have h2:¬x<x:=Nat.lt_irrefl x.toNat;simp[h2]
   · have h1:y<x:=h
     have h2:¬x<y:=λe=>absurd (show x.toNat<y.toNat from e) (by omega);have h3:x≠y:=λe=>by subst e;exact h2 h1
     simp[h1,h2,h3]
theorem bytealgCmp_calls (a b:ByteArray)(w:World):Calls Tryz.prog 243 #[.string a,.string b] w λe w'=>e= .returned (.int .i64 (cmpT a.data.toList b.data.toList))/\w=w':=by
 rw[<- compareB_eq];go_enter Tryz.func243,Tryz.ntmps243
 go_wp2
 rw[run_callFunc_extern Tryz.func261 (by kernel_rfl) (by kernel_rfl) (by kernel_rfl) (e:=Extern.BytealgCompare.compare) (by kernel_rfl),Lib.run_compareString];simp only[Result.andThen];rw[Oper.upon_value]
 go_wp2
 go_ret;exact⟨rfl,rfl⟩
theorem strCompare_calls (a b:ByteArray)(w:World):Calls Tryz.prog 205 #[.string a,.string b] w λe w'=>e= .returned (.int .i64 (cmpT a.data.toList b.data.toList))/\w=w':=by
 go_enter Tryz.func205,Tryz.ntmps205;go_wp2_with (go_at_call 243;refine (bytealgCmp_calls _ _ _).mono ?_;rintro e w' ⟨rfl,rfl⟩);go_ret;exact⟨rfl,rfl⟩
theorem takeWhile_lenR {α:Type}(p:α->Bool):∀(q:List α)(j:Nat),j<=q.length->(∀(i:Nat)(x:α),i<j->q[i]? =some x->p x=true)->(∀x,q[j]? =some x->p x=false)->(q.takeWhile p).length=j
 | [],j,hj,_,_=>by simp at hj;simp[hj]
 | a::q,0,_,_,h=>by
   have:=h a rfl
   simp[this]
 | a::q,j+1,hj,h1,h2=>by
   have ha:=h1 0 a (by omega) rfl;rw[List.takeWhile_cons,if_pos ha,List.length_cons,takeWhile_lenR p q j (by simpa using hj) (λi x hi hx=>h1 (i+1) x (by omega) (by simpa using hx)) (λx hx=>h2 x (by simpa using hx))]
theorem placeR_at {k:List UInt8}{l:List RowD}(j:Nat)(hj:j<=l.length)(h1:∀(i:Nat)(x:RowD),i<j->l[i]? =some x->rkey x<k)(h2:∀(i:Nat)(x:RowD),j<=i->l[i]? =some x->¬rkey x<k):placeR k l=j:=
 takeWhile_lenR _ l j hj (λi x hi hx=>by simpa using h1 i x hi hx) (λx hx=>by simpa using h2 j x (qL _) hx)
theorem riseR_lt {l:List RowD}(h:RiseR l){i j:Nat}{x y:RowD}(hij:i<j)(hx:l[i]? =some x)(hy:l[j]? =some y):rkey x<rkey y:=by
 obtain⟨h1,e1⟩:=qF.1 hx;obtain⟨h2,e2⟩:=qF.1 hy
 have:=List.pairwise_iff_getElem.1 h i j h1 h2 hij
 rwa [e1,e2]at this
theorem there_get (k:List UInt8)(l:List RowD):(thereR k l=false->getR k l=none)/\(thereR k l=true->∃d,l[placeR k l]? =some d/\getR k l=some d.value):=by
 unfold thereR getR;cases hp:l[placeR k l]? with
 | none=>exact⟨λ_=>rfl,λh=>by simp at h⟩
 | some d=>
   by_cases e:rkey d=k
   · exact⟨λh=>by simp[e]at h,λ_=>⟨d,rfl,by simp[e]⟩⟩
   · exact⟨λ_=>by simp[e],λh=>by simp[e]at h⟩
end Go.Proofs.YtmpmggejhnmakaaGreatDoor
/- rows: the table of rows: places, one key's row, a span's rows. -/
namespace Go.Proofs.YtmpmggejhnmakaaGreatDoor
open Go.RowKit
theorem atCmpR_calls (h:RowD)(k:ByteArray)(w:World):Calls Tryz.prog 204 #[.agg (encRw h).toArray,.string k] w λe w'=>e= .returned (.int .i64 (cmpT (rkey h) k.data.toList))/\Ext w w':=by
 obtain⟨key,value⟩:=h;unfold encRw rkey;have HX:=qA (show Ext w (w.alloc (.cells #[.string key,.string value] 52)) from (qK _ w).alloc (qL _) _);go_enter Tryz.func204,Tryz.ntmps204;go_wp2_with (go_at_call 205;refine (strCompare_calls _ _ _).mono ?_;rintro e w' ⟨rfl,rfl⟩);go_ret;exact⟨rfl,HX.out⟩
theorem searchT_calls (l:List RowD)(ao:Option Addr)(cap:Nat)(k:ByteArray)(w:World)(hl:l.length<=1000000)(hr:Rows 2 encRw w.heap.size w ao l)(hrise:RiseR l):
 Calls Tryz.prog 203 #[.slice ao l.length cap,.string k,.func (.func 204) #[] #[]] w λe w'=>e= .returned (.tuple #[.int .i64 (placeR k.data.toList l),.bool (thereR k.data.toList l)])/\Ext w w':=by
 have HR:=qA hr;have RI:=qA hrise;clear hr hrise;go_enter Tryz.func203,Tryz.ntmps203;go_wp2_with fail;go_loopw [9,10] (λvi vj wr=>∃(i j:Nat),i<=j/\j<=l.length/\vi= .int .i64 i/\vj= .int .i64 j/\(∀(t:Nat) (x:RowD),t<i->l[t]? =some x->rkey x<k.data.toList)/\(∀(t:Nat) (x:RowD),j<=t->l[t]? =some x->¬rkey x<k.data.toList)/\Ext w wr) (λvi vj _=>(intOf vj).toNat - (intOf vi).toNat)
 case atStart=>exact⟨0,l.length,by omega,by omega,rfl,rfl,(λt x ht=>by omega),(λt x ht hx=>by rw[List.getElem?_eq_none (by omega)]at hx;cases hx),qK _ _⟩
 case round=>
  obtain⟨i,j,hij,hj,rfl,rfl,hlo,hhi,hx⟩:=hrel;have LO:=qA hlo;have HI:=qA hhi;have K1:=qA hx;clear hlo hhi hx;by_cases hlt:i<j
  · obtain⟨m,hm⟩:∃m:Nat,((i:Int)+(j:Int)) / 2=(m:Int):=⟨(i+j) / 2,by omega⟩
    have hmi:i<=m:=by omega
    have hmj:m<j:=by omega
    obtain⟨x,hx⟩:∃x,l[m]? =some x:=⟨_,qE (by omega)⟩;obtain⟨b,off,rfl,hb,hcell⟩:=HR.out (by intro e;rw[e]at hj;simp at hj;omega);have hcx:=hcell m x hx;have hmove:∀j,wr.cell? ⟨b,j,none⟩=w.cell? ⟨b,j,none⟩:=λj=>K1.out.cell (p:=⟨b,j,none⟩) hb;have HX:=qA hx;have hcc:=λW=>atCmpR_calls x k W;obtain⟨key,value⟩:=x;have d0:=(hmove _).trans (hcx 0 _ rfl);have d1:=(hmove _).trans (hcx 1 _ rfl);simp only[Nat.add_zero]at d0;have CC:=qA hcc;have i0:(0:Int)<=(m:Int):=by omega
    have i1:(m:Int)<(l.length:Int):=by omega
    clear hcell hcx hmove hx hcc;go_wp2_with fail;refine (CC.out _).mono ?_;rintro e w2 ⟨rfl,hx2⟩;have K2:=qA (qJ K1.out hx2);clear hx2 d0 d1;by_cases hck:key.data.toList<k.data.toList
    · have hc1:decide (cmpT (rkey ⟨key,value⟩) k.data.toList<0)=true:=decide_eq_true ((cmpT_neg _ _).2 hck)
      have HK:=qA hck;clear hck;go_wp2_with fail;go_roundw
      case rel=>
       refine⟨m+1,j,by omega,hj,by go_num,rfl,(λt x ht hx=>?_),HI.out,K2.out⟩;rcases Nat.lt_or_ge t m with h | h
       · exact List.lt_trans (riseR_lt RI.out h hx HX.out) HK.out
       · obtain rfl:t=m:=by omega
         rw[HX.out]at hx;rw[<- Option.some.inj hx];exact HK.out
      case measure=>simp[intOf];omega
    · have hc1:decide (cmpT (rkey ⟨key,value⟩) k.data.toList<0)=false:=decide_eq_false (λe=>hck ((cmpT_neg _ _).1 e))
      have HK:=qA hck;clear hck;go_wp2_with fail;go_roundw
      case rel=>
       refine⟨i,m,by omega,by omega,rfl,by go_num,LO.out,(λt x ht hx=>?_),K2.out⟩;rcases Nat.lt_or_ge m t with h | h
       · exact λe=>HK.out (List.lt_trans (riseR_lt RI.out h HX.out hx) e)
       · obtain rfl:t=m:=by omega
         rw[HX.out]at hx;rw[<- Option.some.inj hx];exact HK.out
      case measure=>simp[intOf];omega
  · obtain rfl:i=j:=by omega
    have hpl:placeR k.data.toList l=i:=placeR_at i hj LO.out HI.out;have HP:=qA hpl;clear hpl;by_cases hil:i<l.length
    · obtain⟨x,hx⟩:∃x,l[i]? =some x:=⟨_,qE hil⟩
      obtain⟨b,off,rfl,hb,hcell⟩:=HR.out (by intro e;rw[e]at hil;simp at hil);have hcx:=hcell i x hx;have hmove:∀j,wr.cell? ⟨b,j,none⟩=w.cell? ⟨b,j,none⟩:=λj=>K1.out.cell (p:=⟨b,j,none⟩) hb;have hth:thereR k.data.toList l=decide (rkey x=k.data.toList):=by unfold thereR;rw[HP.out,hx]
      have hcc:=λW=>atCmpR_calls x k W
      have hcb:((cmpT (rkey x) k.data.toList)==0)=decide (rkey x=k.data.toList):=by
       rw[Bool.eq_iff_iff,beq_iff_eq,decide_eq_true_eq];exact cmpT_zero _ _
      generalize rkey x=vk at hth hcc hcb;obtain⟨key,value⟩:=x;have d0:=(hmove _).trans (hcx 0 _ rfl);have d1:=(hmove _).trans (hcx 1 _ rfl);simp only[Nat.add_zero]at d0;have CC:=qA hcc;have HT:=qA hth;have i0:(0:Int)<=(i:Int):=by omega
      have i1:(i:Int)<(l.length:Int):=by omega
      have g1:decide ((i:Int)<(l.length:Int))=true:=decide_eq_true i1;clear hcell hcx hmove hx hcc hth;generalize decide (vk=k.data.toList)=db at *;go_wp2_with fail;refine (CC.out _).mono ?_;rintro e w2 ⟨rfl,hx2⟩;have K2:=qA (qJ K1.out hx2);clear hx2 d0 d1;go_wp2_with fail;go_ret2;exact⟨by rw[HP.out,HT.out];rfl,K2.out⟩
    · have hth:thereR k.data.toList l=false:=by unfold thereR;rw[HP.out,List.getElem?_eq_none (by omega)]
      have HT:=qA hth;clear hth;have g1:decide ((i:Int)<(l.length:Int))=false:=decide_eq_false (by omega);go_wp2_with fail;go_ret2;exact⟨by rw[HP.out,HT.out];rfl,K1.out⟩
theorem atR_calls (l:List RowD)(ao:Option Addr)(cap:Nat)(sb:Nat)(k:ByteArray)(w:World)(hl:l.length<=1000000)(hr:Rows 2 encRw w.heap.size w ao l)(hrise:RiseR l)(hc:w.cell? ⟨sb,0,none⟩=some (.slice ao l.length cap)):
 Calls Tryz.prog 164 #[.pointer (some ⟨sb,0,none⟩),.string k] w λe w'=>e= .returned (.tuple #[.int .i64 (placeR k.data.toList l),.bool (thereR k.data.toList l)])/\Ext w w':=by
 have HS:=qA (λW (hW:Ext w W)=>searchT_calls l ao cap k W hl ((hr.ext hW).mono hW.size) hrise);clear hr hrise;go_enter Tryz.func164,Tryz.ntmps164;go_wp2_with fail;refine (HS.out _ (qK _ _)).mono ?_;rintro e w2 ⟨rfl,hx⟩;have X2:=qA hx;clear hx;go_wp2_with fail;go_ret2;exact⟨rfl,X2.out⟩
def rwB (r:RowD):Bool:=keyL (rkey r)&&decide ((r.value.size:Int)<=20)
structure RTab (w:World)(rb:Nat)(v:Value)(l:List RowD):Prop where
 blk:Blk w rb [v,.bool true] 174
 row:w.ownsRow 0 52 2 v l.length (l.flatMap encRw)
 rise:RiseR l
 ok:∀d∈l,rwB d=true
 few:l.length<=400
theorem RTab.ext {w w':World}{rb:Nat}{v:Value}{l:List RowD}(h:RTab w rb v l)(hx:Ext w w'):RTab w' rb v l:=⟨h.blk.ext' hx,own_ext h.row hx,h.rise,h.ok,h.few⟩
theorem RTab.but {w w':World}{rb:Nat}{v:Value}{l:List RowD}{S:Nat->Prop}(h:RTab w rb v l)(hx:But S w w')(h1:¬S rb)(h2:∀j,v.ownBlock=some j->¬S j):RTab w' rb v l:=
 ⟨h.blk.but hx h1,own_but h.row hx h2,h.rise,h.ok,h.few⟩
theorem RTab.rows {w:World}{rb:Nat}{v:Value}{l:List RowD}(h:RTab w rb v l):∃ao cap,v= .slice ao l.length cap/\l.length<=cap/\cap<=maxLen/\Rows 2 encRw w.heap.size w ao l:=Rows.own (λ_=>rfl) h.row
theorem knownR_calls (rb:Nat)(b:Bool)(w:World)(hc:w.cell? ⟨rb,1,none⟩=some (.bool b)):Calls Tryz.prog 103 #[.pointer (some ⟨rb,0,none⟩)] w λe w'=>e= .returned (.bool b)/\w=w':=by
 go_enter Tryz.func103,Tryz.ntmps103;go_wp2_with fail;go_ret;exact⟨rfl,rfl⟩
theorem manyR_calls (rb:Nat)(v:Value)(l:List RowD)(w:World)(T:RTab w rb v l):Calls Tryz.prog 127 #[.pointer (some ⟨rb,0,none⟩)] w λe w'=>e= .returned (.int .i64 l.length)/\w=w':=by
 obtain⟨ao,cap,rfl,hlc,hcm,hrows⟩:=T.rows;have hc0:=T.blk.cell 0;have hc1:=T.blk.cell 1;simp only[qB,qC]at hc0 hc1;clear T hrows;go_enter Tryz.func127,Tryz.ntmps127;go_wp2_with (go_at_call 103;refine (knownR_calls rb true _ hc1).mono ?_;rintro e w' ⟨rfl,rfl⟩);go_ret;exact⟨rfl,rfl⟩
theorem getT_calls (rb:Nat)(v:Value)(l:List RowD)(k:ByteArray)(w:World)(T:RTab w rb v l):
 Calls Tryz.prog 91 #[.pointer (some ⟨rb,0,none⟩),.string k] w λe w'=>e= .returned (.tuple #[.string ((getR k.data.toList l).getD noBytes),.bool (getR k.data.toList l).isSome])/\Ext w w':=by
 obtain⟨ao,cap,rfl,hlc,hcm,hrows⟩:=T.rows;have hc0:=T.blk.cell 0;have hc1:=T.blk.cell 1;simp only[qB,qC]at hc0 hc1;have hbl:=T.blk.lt;have hfew:=T.few;have HF:=qA (λW (hW:Ext w W)=>atR_calls l ao cap rb k W (by omega) ((hrows.ext hW).mono hW.size) T.rise ((hW.cell (p:=⟨rb,0,none⟩) hbl).trans hc0));have HC0:=qA hc0;have HR:=qA hrows;obtain⟨hno,hyes⟩:=there_get k.data.toList l;have HN:=qA hno;have HY:=qA hyes;clear T hrows hno hyes hc0;generalize getR k.data.toList l=g at *;generalize placeR k.data.toList l=p at *;cases hth:thereR k.data.toList l
 all_goals
  have TH:=qA hth;clear hth;go_enter Tryz.func91,Tryz.ntmps91;go_wp2_with fail;refine (knownR_calls rb true _ hc1).mono ?_;rintro e w' ⟨rfl,rfl⟩;go_wp2_with fail;refine (HF.out _ (qK _ _)).mono ?_;rw[TH.out];rintro e w2 ⟨rfl,hx⟩;have X2:=qA hx;clear hx
 · have G:=qA (HN.out TH.out)
   go_wp2_with fail;go_ret2;exact⟨by rw[G.out];rfl,X2.out⟩
 · obtain⟨d,hd,hg⟩:=HY.out TH.out
   have hp:p<l.length:=(qF.1 hd).1;obtain⟨b,off,rfl,hb,hcell⟩:=HR.out (by intro e;rw[e]at hp;simp at hp);have d1:=(X2.out.cell (p:=⟨b,_,none⟩) hb).trans (hcell p d hd 1 _ rfl);have c0:=(X2.out.cell (p:=⟨rb,0,none⟩) hbl).trans HC0.out;have G:=qA hg;have i0:(0:Int)<=(p:Int):=by omega
   have i1:(p:Int)<(l.length:Int):=by omega
   clear hd hg hcell;go_wp2_with fail;go_ret2;exact⟨by rw[G.out];rfl,X2.out⟩
def boundsR (lo hi:List UInt8)(l:List RowD):Nat×Nat:=if spanB lo hi=true then (placeR lo l,if hi.isEmpty=true then l.length else placeR hi l) else (0,0)
theorem bounds_calls (l:List RowD)(ao:Option Addr)(cap:Nat)(sb:Nat)(lo hi:ByteArray)(w:World)(hl:l.length<=1000000)(hr:Rows 2 encRw w.heap.size w ao l)(hrise:RiseR l)(hc:w.cell? ⟨sb,0,none⟩=some (.slice ao l.length cap))(hls:lo.size<=140737488351232)(hhs:hi.size<=140737488351232):
 Calls Tryz.prog 104 #[.pointer (some ⟨sb,0,none⟩),.agg #[.string lo,.string hi]] w λe w'=>e= .returned (.tuple #[.int .i64 (boundsR lo.data.toList hi.data.toList l).1,.int .i64 (boundsR lo.data.toList hi.data.toList l).2])/\Ext w w':=by
 have hsb:sb<w.heap.size:=block_lt_of_cell hc;have HA:=qA (λ(k:ByteArray) W (hW:Ext w W)=>atR_calls l ao cap sb k W hl ((hr.ext hW).mono hW.size) hrise ((hW.cell (p:=⟨sb,0,none⟩) hsb).trans hc));have HC:=qA hc;have HS:=qA (spanRight_calls lo hi);have HX:Hid (Ext w (w.alloc (.cells #[.string lo,.string hi] 30))):=qA ((qK _ w).alloc (qL _) _);have HB:=qA (Blk.new w [.string lo,.string hi] 30);have hbd:boundsR lo.data.toList hi.data.toList l=if spanB lo.data.toList hi.data.toList=true then (placeR lo.data.toList l,if hi.data.toList.isEmpty=true then l.length else placeR hi.data.toList l) else (0,0):=rfl;have BD:=qA hbd;clear hr hrise hc hbd;generalize boundsR lo.data.toList hi.data.toList l=bd at *;cases hs:spanB lo.data.toList hi.data.toList with
 | false=>
   have SP:=qA hs;clear hs;go_enter Tryz.func104,Tryz.ntmps104;go_wp2_with fail;refine (HS.out _ hls hhs).mono ?_;rw[SP.out];rintro e w2 ⟨rfl,hx⟩;have X2:=qA (qJ HX.out hx);clear hx;go_wp2_with fail;go_ret2;have hb:=BD.out;rw[SP.out]at hb;simp only[Bool.false_eq_true,if_false]at hb;exact⟨by rw[hb];rfl,X2.out⟩
 | true=>
   have SP:=qA hs;clear hs;cases hh:hi.data.toList.isEmpty with
   | true=>
     have HH:=qA hh;have hhe:hi.toList.isEmpty=true:=by rw[Lib.toList_data];exact hh
     clear hh;go_enter Tryz.func104,Tryz.ntmps104;go_wp2_with fail;refine (HS.out _ hls hhs).mono ?_;rw[SP.out];rintro e w2 ⟨rfl,hx⟩;have B2:=HB.out.ext' hx;have c0:=B2.cell 0;have c1:=B2.cell 1;simp only[qB,qC]at c0 c1;have X2:=qA (qJ HX.out hx);have BB:=qA B2;clear hx B2;go_wp2_with fail;refine (HA.out lo _ X2.out).mono ?_;rintro e w3 ⟨rfl,hx⟩;have B3:=BB.out.ext' hx;have d0:=B3.cell 0;have d1:=B3.cell 1;simp only[qB,qC]at d0 d1;have X3:=qA (qJ X2.out hx);have e0:=(X3.out.cell (p:=⟨sb,0,none⟩) hsb).trans HC.out;clear hx c0 c1 B3;go_wp2_with fail;go_ret2;have hb:=BD.out;rw[SP.out,HH.out]at hb;simp only[if_true]at hb;exact⟨by rw[hb];rfl,X3.out⟩
   | false=>
     have HH:=qA hh;have hhe:hi.toList.isEmpty=false:=by rw[Lib.toList_data];exact hh
     clear hh;go_enter Tryz.func104,Tryz.ntmps104;go_wp2_with fail;refine (HS.out _ hls hhs).mono ?_;rw[SP.out];rintro e w2 ⟨rfl,hx⟩;have B2:=HB.out.ext' hx;have c0:=B2.cell 0;have c1:=B2.cell 1;simp only[qB,qC]at c0 c1;have X2:=qA (qJ HX.out hx);have BB:=qA B2;clear hx B2;go_wp2_with fail;refine (HA.out lo _ X2.out).mono ?_;rintro e w3 ⟨rfl,hx⟩;have B3:=BB.out.ext' hx;have d0:=B3.cell 0;have d1:=B3.cell 1;simp only[qB,qC]at d0 d1;have X3:=qA (qJ X2.out hx);have e0:=(X3.out.cell (p:=⟨sb,0,none⟩) hsb).trans HC.out;clear hx c0 c1 B3;go_wp2_with fail;refine (HA.out hi _ X3.out).mono ?_;rintro e w4 ⟨rfl,hx⟩;have X4:=qA (qJ X3.out hx);clear hx;go_wp2_with fail;go_ret2;have hb:=BD.out;rw[SP.out,HH.out]at hb;simp only[if_true,Bool.false_eq_true,if_false]at hb;exact⟨by rw[hb];rfl,X4.out⟩
theorem placeR_le (k:List UInt8)(l:List RowD):placeR k l<=l.length:=(List.takeWhile_prefix (l:=l) _).length_le
theorem placeR_mono {a b:List UInt8}(h:∀x:List UInt8,x<a->x<b):∀l:List RowD,placeR a l<=placeR b l
 | []=>qL _
 | d::l=>by
   unfold placeR;rw[List.takeWhile_cons,List.takeWhile_cons];by_cases h1:rkey d<a
   · have:=placeR_mono h l
     unfold placeR at this;simp only[h1,h _ h1,decide_true,if_true,List.length_cons];omega
   · simp only[h1,decide_false,Bool.false_eq_true,if_false,List.length_nil]
     omega
theorem bounds_ok (lo hi:List UInt8)(l:List RowD):(boundsR lo hi l).1<=(boundsR lo hi l).2/\(boundsR lo hi l).2<=l.length:=by
 unfold boundsR
 split
 · rename_i hs
   split
   · exact⟨placeR_le _ _,qL _⟩
   · rename_i hne
     refine⟨placeR_mono (λx hx=>?_) l,placeR_le _ _⟩;unfold spanB aboveB at hs;simp only[Bool.and_eq_true,Bool.or_eq_true,decide_eq_true_eq]at hs;rcases hs.2 with h | h
     · exact absurd h hne
     · exact List.lt_trans hx h
 · exact⟨qL _,Nat.zero_le _⟩
def inR (lo hi:List UInt8)(l:List RowD):List RowD:=(l.take (boundsR lo hi l).2).drop (boundsR lo hi l).1
theorem inR_len (lo hi:List UInt8)(l:List RowD):(inR lo hi l).length=(boundsR lo hi l).2 - (boundsR lo hi l).1:=by
 have:=bounds_ok lo hi l
 unfold inR;rw[List.length_drop,List.length_take];omega
theorem inT_calls (rb:Nat)(v:Value)(l:List RowD)(lo hi:ByteArray)(w:World)(T:RTab w rb v l)(hls:lo.size<=140737488351232)(hhs:hi.size<=140737488351232):
 Calls Tryz.prog 39 #[.pointer (some ⟨rb,0,none⟩),.agg #[.string lo,.string hi]] w λe w'=>∃r,e= .returned r/\w'.ownsRow 0 52 2 r (inR lo.data.toList hi.data.toList l).length ((inR lo.data.toList hi.data.toList l).flatMap encRw)/\(∀j,r.ownBlock=some j->w.heap.size<=j)/\Ext w w':=by
 obtain⟨ao,cap,rfl,hlc,hcm,hrows⟩:=T.rows;have hc0:=T.blk.cell 0;have hc1:=T.blk.cell 1;simp only[qB,qC]at hc0 hc1;have hbl:=T.blk.lt;have hfew:=T.few;have HX:Hid (Ext w (w.alloc (.cells #[.string lo,.string hi] 30))):=qA ((qK _ w).alloc (qL _) _);have HB:=qA (Blk.new w [.string lo,.string hi] 30);have HBD:=qA (λW (hW:Ext w W)=>bounds_calls l ao cap rb lo hi W (by omega) ((hrows.ext hW).mono hW.size) T.rise ((hW.cell (p:=⟨rb,0,none⟩) hbl).trans hc0) hls hhs);have HC:=qA hc0;have HC1:=qA hc1;have hlen:=inR_len lo.data.toList hi.data.toList l;obtain⟨hb1,hb2⟩:=bounds_ok lo.data.toList hi.data.toList l;have hIn:inR lo.data.toList hi.data.toList l=(l.take (boundsR lo.data.toList hi.data.toList l).2).drop (boundsR lo.data.toList hi.data.toList l).1:=rfl;generalize (boundsR lo.data.toList hi.data.toList l).1=a at *;generalize (boundsR lo.data.toList hi.data.toList l).2=b at *;generalize inR lo.data.toList hi.data.toList l=out at *;have HL:=qA hlen
 have HCL:Hid (∀W (ro:Option Addr) (rc:Nat),Ext w W->Rows 2 encRw W.heap.size W ro out->Calls Tryz.prog 105 #[.slice ro (b - a) rc] W λe w'=>∃v,e= .returned v/\w'.ownsRow 0 52 2 v out.length (out.flatMap encRw)/\(∀j,v.ownBlock=some j->W.heap.size<=j)/\Ext W w'):=qA (λW ro rc hW hr=>by
  have h:=clone_rows_calls out ro rc W (by omega) hr;rw[hlen]at h ⊢
  exact h)
 have HRD:Hid (∀W,Ext w W->Rows 2 encRw W.heap.size W (ao.map λx=>x.add (a * 2)) out):=qA (λW hW=>by
  intro hne
  have hl0:l≠[]:=by
   intro e;rw[hIn,e]at hne;simp at hne
  obtain⟨g,off,rfl,hg,hcell⟩:=hrows hl0;have h1:=Rows.drop (((Rows.take (show Rows 2 encRw w.heap.size w (some ⟨g,off,none⟩) l from λ_=>⟨g,off,rfl,hg,hcell⟩) b).ext hW).mono hW.size) a;rw[<- hIn]at h1;have hadd:(⟨g,off,none⟩:Addr).add (a * 2)=⟨g,off+a * 2,none⟩:=by unfold Addr.add;split<;>simp_all
  rw[Option.map_some,hadd]
  exact h1 hne)
 clear T hrows hc0 hc1 hlen hIn;go_enter Tryz.func39,Tryz.ntmps39;go_wp2_with fail;refine (knownR_calls rb true _ ((HX.out.cell (p:=⟨rb,1,none⟩) hbl).trans HC1.out)).mono ?_;rintro e w' ⟨rfl,rfl⟩;have hB:=HB.out;have b0:=hB.cell 0;have b1:=hB.cell 1;simp only[qB,qC]at b0 b1;go_wp2_with fail
 go_region_with (first | (go_at_call 104;refine (HBD.out _ HX.out.drew).mono ?_;rintro e w2 ⟨rfl,hx2⟩;have X2:=qA (qJ HX.out.drew hx2);clear hx2))
 all_goals
  have d0:=(X2.out.cell (p:=⟨rb,0,none⟩) hbl).trans HC.out;have i0:(0:Int)<=(a:Int):=by omega
  have i1:(a:Int)<=(b:Int):=by omega
  have i2:(b:Int)<=(cap:Int):=by omega
  go_wp2_with fail
 all_goals
  refine (HCL.out w2 _ _ X2.out (by first | exact HRD.out _ X2.out | exact λhne=>absurd (List.eq_nil_of_length_eq_zero (by have:=HL.out;omega)) hne)).mono ?_;rintro e w3 ⟨v,rfl,ho,hj,hx⟩;have O3:=qA ho;have J3:=qA hj;have X3:=qA hx;clear ho hj hx;go_wp2_with fail;go_ret;exact⟨v,rfl,O3.out,λj h=>qM X2.out.size (J3.out j h),qJ X2.out X3.out⟩
end Go.Proofs.YtmpmggejhnmakaaGreatDoor
