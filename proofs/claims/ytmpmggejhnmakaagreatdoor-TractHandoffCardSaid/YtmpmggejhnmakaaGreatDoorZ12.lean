/- The place of a key in a rising row of holds: slices.BinarySearchFunc with the package's comparison. -/
import Derived.Test.YtmpmggejhnmakaaGreatDoorZ10
import Derived.Test.YtmpmggejhnmakaaGreatDoorZ03
import Derived.Test.YtmpmggejhnmakaaGreatDoorZ02
import Derived.Test.YtmpmggejhnmakaaGreatDoorZ09
import Derived.Test.YtmpmggejhnmakaaGreatDoorZ11
import Derived.Test.YtmpmggejhnmakaaGreatDoorZ06
import Derived.Maps.OwnSet
import Derived.Deep.RegionWith
import Derived.Test.YtmpmggejhnmakaaGreatDoorZ08
import Derived.Test.YtmpmggejhnmakaaGreatDoorZ01
set_option maxRecDepth 100000
set_option maxHeartbeats 3200000
namespace Go.Proofs.YtmpmggejhnmakaaGreatDoor
open Go.RowKit
def vkey (v:HoldV):List UInt8:=v.key.data.toList
theorem atCmp_calls (h:HoldV)(k:ByteArray)(w:World):Calls Tryz.prog 183 #[.agg (encHV h).toArray,.string k] w λe w'=>e= .returned (.int .i64 (cmpT (vkey h) k.data.toList))/\Ext w w':=by
 obtain⟨key,cl,nm,ao,an,ac,ro,rn,rc,put,value⟩:=h;unfold encHV vkey;have HX:=qA (show Ext w (w.alloc (.cells #[.string key,.int .i64 cl,.int .i64 nm,.slice ao an ac,.slice ro rn rc,.bool put,.string value] 48)) from (qK _ w).alloc (qL _) _);go_enter Tryz.func183,Tryz.ntmps183;go_wp2_with (go_at_call 65;refine (compareS_calls _ _ _).mono ?_;rintro e w' ⟨rfl,rfl⟩);go_ret;exact⟨rfl,HX.out⟩
def placeH (k:List UInt8)(l:List HoldV):Nat:=(l.takeWhile λv=>decide (vkey v<k)).length
def thereH (k:List UInt8)(l:List HoldV):Bool:=match l[placeH k l]? with | some v=>decide (vkey v=k) | none=>false
def RiseV (l:List HoldV):Prop:=l.Pairwise λa b=>vkey a<vkey b
theorem takeWhile_len' {α:Type}(p:α->Bool):∀(q:List α)(j:Nat),j<=q.length->(∀(i:Nat)(x:α),i<j->q[i]? =some x->p x=true)->(∀x,q[j]? =some x->p x=false)->(q.takeWhile p).length=j
 | [],j,hj,_,_=>by simp at hj;simp[hj]
 | a::q,0,_,_,h=>by
   have:=h a rfl
   simp[this]
 | a::q,j+1,hj,h1,h2=>by
   have ha:=h1 0 a (by omega) rfl;rw[List.takeWhile_cons,if_pos ha,List.length_cons,takeWhile_len' p q j (by simpa using hj) (λi x hi hx=>h1 (i+1) x (by omega) (by simpa using hx)) (λx hx=>h2 x (by simpa using hx))]
theorem placeH_at {k:List UInt8}{l:List HoldV}(j:Nat)(hj:j<=l.length)(h1:∀(i:Nat)(x:HoldV),i<j->l[i]? =some x->vkey x<k)(h2:∀(i:Nat)(x:HoldV),j<=i->l[i]? =some x->¬vkey x<k):placeH k l=j:=
 takeWhile_len' _ l j hj (λi x hi hx=>by simpa using h1 i x hi hx) (λx hx=>by simpa using h2 j x (qL _) hx)
theorem rise_lt {l:List HoldV}(h:RiseV l){i j:Nat}{x y:HoldV}(hij:i<j)(hx:l[i]? =some x)(hy:l[j]? =some y):vkey x<vkey y:=by
 obtain⟨h1,e1⟩:=qF.1 hx;obtain⟨h2,e2⟩:=qF.1 hy
 have:=List.pairwise_iff_getElem.1 h i j h1 h2 hij
 rwa [e1,e2]at this
theorem search_calls (l:List HoldV)(ao:Option Addr)(cap:Nat)(k:ByteArray)(w:World)(hl:l.length<=1000000)(hr:Rows 7 encHV w.heap.size w ao l)(hrise:RiseV l):
 Calls Tryz.prog 182 #[.slice ao l.length cap,.string k,.func (.func 183) #[] #[]] w λe w'=>e= .returned (.tuple #[.int .i64 (placeH k.data.toList l),.bool (thereH k.data.toList l)])/\Ext w w':=by
 have HR:=qA hr;have RI:=qA hrise;clear hr hrise;go_enter Tryz.func182,Tryz.ntmps182;go_wp2_with fail;go_loopw [9,10] (λvi vj wr=>∃(i j:Nat),i<=j/\j<=l.length/\vi= .int .i64 i/\vj= .int .i64 j/\(∀(t:Nat) (x:HoldV),t<i->l[t]? =some x->vkey x<k.data.toList)/\(∀(t:Nat) (x:HoldV),j<=t->l[t]? =some x->¬vkey x<k.data.toList)/\Ext w wr) (λvi vj _=>(intOf vj).toNat - (intOf vi).toNat)
 case atStart=>exact⟨0,l.length,by omega,by omega,rfl,rfl,(λt x ht=>by omega),(λt x ht hx=>by rw[List.getElem?_eq_none (by omega)]at hx;cases hx),qK _ _⟩
 case round=>
  obtain⟨i,j,hij,hj,rfl,rfl,hlo,hhi,hx⟩:=hrel;have LO:=qA hlo;have HI:=qA hhi;have K1:=qA hx;clear hlo hhi hx;by_cases hlt:i<j
  · obtain⟨m,hm⟩:∃m:Nat,((i:Int)+(j:Int)) / 2=(m:Int):=⟨(i+j) / 2,by omega⟩
    have hmi:i<=m:=by omega
    have hmj:m<j:=by omega
    obtain⟨x,hx⟩:∃x,l[m]? =some x:=⟨_,qE (by omega)⟩;obtain⟨b,off,rfl,hb,hcell⟩:=HR.out (by intro e;rw[e]at hj;simp at hj;omega);have hcx:=hcell m x hx;have hmove:∀j,wr.cell? ⟨b,j,none⟩=w.cell? ⟨b,j,none⟩:=λj=>K1.out.cell (p:=⟨b,j,none⟩) hb;have HX:=qA hx;have hcc:=λW=>atCmp_calls x k W;obtain⟨key,cl,nm,xo,xn,xc,yo,yn,yc,put,value⟩:=x;have d0:=(hmove _).trans (hcx 0 _ rfl);have d1:=(hmove _).trans (hcx 1 _ rfl);have d2:=(hmove _).trans (hcx 2 _ rfl);have d3:=(hmove _).trans (hcx 3 _ rfl);have d4:=(hmove _).trans (hcx 4 _ rfl);have d5:=(hmove _).trans (hcx 5 _ rfl);have d6:=(hmove _).trans (hcx 6 _ rfl);simp only[Nat.add_zero]at d0;have CC:=qA hcc;have i0:(0:Int)<=(m:Int):=by omega
    have i1:(m:Int)<(l.length:Int):=by omega
    clear hcell hcx hmove hx hcc;go_wp2_with fail;refine (CC.out _).mono ?_;rintro e w2 ⟨rfl,hx2⟩;have K2:=qA (qJ K1.out hx2);clear hx2 d0 d1 d2 d3 d4 d5 d6;by_cases hck:key.data.toList<k.data.toList
    · have hc1:decide (cmpT (vkey ⟨key,cl,nm,xo,xn,xc,yo,yn,yc,put,value⟩) k.data.toList<0)=true:=decide_eq_true ((cmpT_neg _ _).2 hck)
      have HK:=qA hck;clear hck;go_wp2_with fail;go_roundw
      case rel=>
       refine⟨m+1,j,by omega,hj,by go_num,rfl,(λt x ht hx=>?_),HI.out,K2.out⟩;rcases Nat.lt_or_ge t m with h | h
       · exact List.lt_trans (rise_lt RI.out h hx HX.out) HK.out
       · obtain rfl:t=m:=by omega
         rw[HX.out]at hx;rw[<- Option.some.inj hx];exact HK.out
      case measure=>simp[intOf];omega
    · have hc1:decide (cmpT (vkey ⟨key,cl,nm,xo,xn,xc,yo,yn,yc,put,value⟩) k.data.toList<0)=false:=decide_eq_false (λe=>hck ((cmpT_neg _ _).1 e))
      have HK:=qA hck;clear hck;go_wp2_with fail;go_roundw
      case rel=>
       refine⟨i,m,by omega,by omega,rfl,by go_num,LO.out,(λt x ht hx=>?_),K2.out⟩;rcases Nat.lt_or_ge m t with h | h
       · exact λe=>HK.out (List.lt_trans (rise_lt RI.out h HX.out hx) e)
       · obtain rfl:t=m:=by omega
         rw[HX.out]at hx;rw[<- Option.some.inj hx];exact HK.out
      case measure=>simp[intOf];omega
  · obtain rfl:i=j:=by omega
    have hpl:placeH k.data.toList l=i:=placeH_at i hj LO.out HI.out;have HP:=qA hpl;clear hpl;by_cases hil:i<l.length
    · obtain⟨x,hx⟩:∃x,l[i]? =some x:=⟨_,qE hil⟩
      obtain⟨b,off,rfl,hb,hcell⟩:=HR.out (by intro e;rw[e]at hil;simp at hil);have hcx:=hcell i x hx;have hmove:∀j,wr.cell? ⟨b,j,none⟩=w.cell? ⟨b,j,none⟩:=λj=>K1.out.cell (p:=⟨b,j,none⟩) hb;have hth:thereH k.data.toList l=decide (vkey x=k.data.toList):=by unfold thereH;rw[HP.out,hx]
      have hcc:=λW=>atCmp_calls x k W
      have hcb:((cmpT (vkey x) k.data.toList)==0)=decide (vkey x=k.data.toList):=by
       rw[Bool.eq_iff_iff,beq_iff_eq,decide_eq_true_eq];exact cmpT_zero _ _
      generalize vkey x=vk at hth hcc hcb;obtain⟨key,cl,nm,xo,xn,xc,yo,yn,yc,put,value⟩:=x;have d0:=(hmove _).trans (hcx 0 _ rfl);have d1:=(hmove _).trans (hcx 1 _ rfl);have d2:=(hmove _).trans (hcx 2 _ rfl);have d3:=(hmove _).trans (hcx 3 _ rfl);have d4:=(hmove _).trans (hcx 4 _ rfl);have d5:=(hmove _).trans (hcx 5 _ rfl);have d6:=(hmove _).trans (hcx 6 _ rfl);simp only[Nat.add_zero]at d0;have CC:=qA hcc;have HT:=qA hth;have i0:(0:Int)<=(i:Int):=by omega
      have i1:(i:Int)<(l.length:Int):=by omega
      have g1:decide ((i:Int)<(l.length:Int))=true:=decide_eq_true i1;clear hcell hcx hmove hx hcc hth;generalize decide (vk=k.data.toList)=db at *;go_wp2_with fail;refine (CC.out _).mono ?_;rintro e w2 ⟨rfl,hx2⟩;have K2:=qA (qJ K1.out hx2);clear hx2 d0 d1 d2 d3 d4 d5 d6;go_wp2_with fail;go_ret2;exact⟨by rw[HP.out,HT.out];rfl,K2.out⟩
    · have hth:thereH k.data.toList l=false:=by unfold thereH;rw[HP.out,List.getElem?_eq_none (by omega)]
      have HT:=qA hth;clear hth;have g1:decide ((i:Int)<(l.length:Int))=false:=decide_eq_false (by omega);go_wp2_with fail;go_ret2;exact⟨by rw[HP.out,HT.out];rfl,K1.out⟩
theorem at_calls (l:List HoldV)(ao:Option Addr)(cap:Nat)(hb:Nat)(k:ByteArray)(w:World)(hl:l.length<=1000000)(hr:Rows 7 encHV w.heap.size w ao l)(hrise:RiseV l)(hc:w.cell? ⟨hb,0,none⟩=some (.slice ao l.length cap)):
 Calls Tryz.prog 134 #[.pointer (some ⟨hb,0,none⟩),.string k] w λe w'=>e= .returned (.tuple #[.int .i64 (placeH k.data.toList l),.bool (thereH k.data.toList l)])/\Ext w w':=by
 have HS:=qA (λW (hW:Ext w W)=>search_calls l ao cap k W hl ((hr.ext hW).mono hW.size) hrise);clear hr hrise;go_enter Tryz.func134,Tryz.ntmps134;go_wp2_with fail;refine (HS.out _ (qK _ _)).mono ?_;rintro e w2 ⟨rfl,hx⟩;have X2:=qA hx;clear hx;go_wp2_with fail;go_ret2;exact⟨rfl,X2.out⟩
end Go.Proofs.YtmpmggejhnmakaaGreatDoor
/- A table of holds; own of one hold; lay, less, Of and Many at a table. -/
namespace Go.Proofs.YtmpmggejhnmakaaGreatDoor
open Go.RowKit
def dkey (d:HoldD):List UInt8:=d.key.data.toList
def RiseD (l:List HoldD):Prop:=l.Pairwise λa b=>dkey a<dkey b
structure TabN (no0:Nat->Prop)(w:World)(hb:Nat)(v:Value)(ds:List HoldD):Prop where
 blk:Blk w hb [v,.bool true] 180
 row:∃l:List HoldV,w.ownsRow 0 48 7 v l.length (l.flatMap encHV)/\HoldsAre w (λb=>(b=hb\/v.ownBlock=some b)\/no0 b) l ds
 rise:RiseD ds
 ok:∀d∈ds,d.ok/\holdB d=true
 few:ds.length<=60
abbrev Tab:=TabN (λ_=>False)
variable {no0:Nat->Prop}
theorem TabN.ext {w w':World}{hb:Nat}{v:Value}{ds:List HoldD}(h:TabN no0 w hb v ds)(hx:Ext w w'):TabN no0 w' hb v ds:=by
 obtain⟨l,h1,h2⟩:=h.row;exact⟨h.blk.ext' hx,⟨l,own_ext h1 hx,h2.ext hx⟩,h.rise,h.ok,h.few⟩
theorem TabN.but {w w':World}{hb:Nat}{v:Value}{ds:List HoldD}{S:Nat->Prop}(h:TabN no0 w hb v ds)(hx:But S w w')(h1:¬S hb)(h2:∀j,v.ownBlock=some j->¬S j)(h3:∀b,b<w.heap.size->S b->False):TabN no0 w' hb v ds:=by
 obtain⟨l,r1,r2⟩:=h.row;exact⟨h.blk.but hx h1,⟨l,own_but r1 hx h2,r2.but hx (λb hb e=>(h3 b hb e).elim)⟩,h.rise,h.ok,h.few⟩
theorem TabN.apart {w:World}{hb:Nat}{v:Value}{ds:List HoldD}(h:TabN no0 w hb v ds):v.ownBlock≠some hb:=by
 obtain⟨l,r1,_⟩:=h.row;exact own_ne r1 h.blk (by decide)
theorem TabN.lt {w:World}{hb:Nat}{v:Value}{ds:List HoldD}(h:TabN no0 w hb v ds){b:Nat}(hv:v.ownBlock=some b):b<w.heap.size:=by
 obtain⟨l,r1,_⟩:=h.row;exact (r1.lt b hv).2
theorem HoldD.ok.fits {d:HoldD}(h:d.ok):d.fits:=⟨h.an,h.rn⟩
theorem TabN.fits {w:World}{hb:Nat}{v:Value}{ds:List HoldD}(h:TabN no0 w hb v ds):∀d∈ds,d.fits:=λd hd=>(h.ok d hd).1.fits
theorem rise_of {w:World}{no:Nat->Prop}{vs:List HoldV}{ds:List HoldD}(h:HoldsAre w no vs ds)(hr:RiseD ds):RiseV vs:=by
 have hk:=h.keys;unfold RiseD at hr;unfold RiseV;have h1:(ds.map (·.key)).Pairwise (λa b=>a.data.toList<b.data.toList):=List.pairwise_map.2 hr;rw[<- hk]at h1;exact (List.pairwise_map (f:=λv:HoldV=>v.key) (R:=λa b:ByteArray=>a.data.toList<b.data.toList)).1 h1
theorem TabN.rows {w:World}{hb:Nat}{v:Value}{ds:List HoldD}(h:TabN no0 w hb v ds):∃(l:List HoldV)(ao:Option Addr)(cap:Nat),v= .slice ao l.length cap/\l.length<=cap/\l.length=ds.length/\Rows 7 encHV w.heap.size w ao l/\w.ownsRow 0 48 7 v l.length (l.flatMap encHV)/\HoldsAre w (λb=>b=hb\/v.ownBlock=some b) l ds/\RiseV l:=by
 obtain⟨l,r1,r2⟩:=h.row;obtain⟨ao,c,hv,hlc,_,hr⟩:=Rows.own (enc:=encHV) (sz:=7) (λ_=>rfl) r1;exact⟨l,ao,c,hv,hlc,r2.len,hr,r1,r2.mono (λ_ _ e=> .inl e),rise_of r2 h.rise⟩
theorem TabN.rowsN {w:World}{hb:Nat}{v:Value}{ds:List HoldD}(h:TabN no0 w hb v ds):∃(l:List HoldV)(ao:Option Addr)(cap:Nat),v= .slice ao l.length cap/\l.length<=cap/\l.length=ds.length/\Rows 7 encHV w.heap.size w ao l/\w.ownsRow 0 48 7 v l.length (l.flatMap encHV)/\HoldsAre w (λb=>(b=hb\/v.ownBlock=some b)\/no0 b) l ds/\RiseV l:=by
 obtain⟨l,r1,r2⟩:=h.row;obtain⟨ao,c,hv,hlc,_,hr⟩:=Rows.own (enc:=encHV) (sz:=7) (λ_=>rfl) r1;exact⟨l,ao,c,hv,hlc,r2.len,hr,r1,r2,rise_of r2 h.rise⟩
theorem TabN.keys {w:World}{hb:Nat}{v:Value}{ds:List HoldD}(h:TabN no0 w hb v ds){W:World}{no:Nat->Prop}{l:List HoldV}(ha:HoldsAre W no l ds):∀x∈l,x.key.size<=140737488351232:=by
 intro x hx;obtain⟨i,hi⟩:=List.mem_iff_getElem?.1 hx;obtain⟨d,hd,he⟩:=ha.at i x hi;rw[he.key];exact (h.ok d (qH hd)).1.ks
theorem own1_calls (x:HoldV)(d:HoldD)(ao:Option Addr)(cap:Nat)(w:World)(hr:Rows 7 encHV w.heap.size w ao [x])(hx:x.is w (λ_=>False) d)(hf:d.fits):
 Calls Tryz.prog 173 #[.slice ao 1 cap] w λe w'=>∃(g c:Nat) (cur:List Value) (x':HoldV),e= .returned (.slice (some ⟨g,0,none⟩) 1 c)/\1<=c/\c<=maxLen/\Blk w' g cur 48/\cur.take 7=encHV x'/\w.heap.size<=g/\x'.is w' (λb=>b=g\/b<w.heap.size) d/\Ext w w':=by
 refine (own_calls [x] [d] ao cap w (by simp) hr ⟨hx,trivial⟩ (λd' hd'=>by rw[List.mem_singleton.1 hd'];exact hf)).mono ?_;rintro e w' ⟨v,l',rfl,hl,hown,hnew,hare,-,hxt⟩
 match l',hl with
 | [x'],_=>
   rcases hown.2 with ⟨_,h0⟩ | ⟨g,c,cur,rfl,_,hg,hn,hm,hcs,htk⟩
   · simp at h0
   · refine⟨g,c,cur.toList,x',rfl,hn,hm,blk_of hg,by simpa using htk,hnew g rfl,?_,hxt⟩
     exact hare.1.mono (λb _ e=>e.elim (λe=> .inl (by rw[e];rfl)) .inr)
def placeD (k:List UInt8)(ds:List HoldD):Nat:=(ds.takeWhile λd=>decide (dkey d<k)).length
def insD (d:HoldD)(ds:List HoldD):List HoldD:=ds.take (placeD (dkey d) ds)++d::ds.drop (placeD (dkey d) ds)
theorem takeWhile_map_len {α β:Type}(f:α->β)(q:β->Bool):∀l:List α,(l.takeWhile λx=>q (f x)).length=((l.map f).takeWhile q).length
 | []=>rfl
 | a::l=>by
   rw[List.map_cons,List.takeWhile_cons,List.takeWhile_cons]
   split
   · rw[List.length_cons,List.length_cons,takeWhile_map_len f q l]
   · rfl
theorem HoldsAre.place {w:World}{no:Nat->Prop}{vs:List HoldV}{ds:List HoldD}(h:HoldsAre w no vs ds)(k:List UInt8):placeH k vs=placeD k ds:=by
 have h1:=takeWhile_map_len (λv:HoldV=>v.key) (λs:ByteArray=>decide (s.data.toList<k)) vs;have h2:=takeWhile_map_len (λd:HoldD=>d.key) (λs:ByteArray=>decide (s.data.toList<k)) ds;rw[h.keys,<- h2]at h1;exact h1
def hasD (k:List UInt8)(ds:List HoldD):Bool:=ds.any λd=>decide (dkey d=k)
theorem placeD_le (k:List UInt8)(ds:List HoldD):placeD k ds<=ds.length:=by
 unfold placeD;exact (List.takeWhile_sublist _).length_le
end Go.Proofs.YtmpmggejhnmakaaGreatDoor
/- lay: a hold is laid where it belongs. -/
namespace Go.Proofs.YtmpmggejhnmakaaGreatDoor
open Go.RowKit
variable {no0:Nat->Prop}
theorem nrise_ins {d:HoldD}{ds:List HoldD}(hr:RiseD ds)(hn:hasD (dkey d) ds=false):RiseD (insD d ds):=by
 have hlt:∀(i:Nat) (y:HoldD),i<placeD (dkey d) ds->ds[i]? =some y->dkey y<dkey d:=by
  intro i y hi hy
  have h1:(ds.takeWhile λz=>decide (dkey z<dkey d))[i]? =some y:=by
   rw[<- hy];have hp:=List.takeWhile_prefix (λz=>decide (dkey z<dkey d)) (l:=ds);obtain⟨t,ht⟩:=hp
   conv=>rhs;rw[<- ht]
   rw[List.getElem?_append_left hi]
  have:=List.all_eq_true.1 (List.all_takeWhile (p:=λz=>decide (dkey z<dkey d)) (l:=ds)) y (qH h1)
  simpa using this
 have hge:∀(y:HoldD),y∈ds.drop (placeD (dkey d) ds)->dkey d<dkey y:=by
  intro y hy;obtain⟨i,hi⟩:=List.mem_iff_getElem?.1 hy;rw[List.getElem?_drop]at hi
  have hyn:dkey y≠dkey d:=by
   intro e;unfold hasD at hn
   have:=List.any_eq_false.1 hn y (qH hi)
   simp[e]at this
  have hno:¬dkey y<dkey d:=by
   have hp0:∃z,ds[placeD (dkey d) ds]? =some z/\¬dkey z<dkey d:=by
    have hlen:placeD (dkey d) ds<ds.length:=by have:=(qF.1 hi).1;omega
    refine⟨ds[placeD (dkey d) ds],qE hlen,?_⟩
    have hd:(ds.dropWhile λz=>decide (dkey z<dkey d))=ds.drop (placeD (dkey d) ds):=by
     unfold placeD
     conv=>rhs;rw[<- List.takeWhile_append_dropWhile (p:=λz=>decide (dkey z<dkey d)) (l:=ds),List.drop_append_of_le_length (by rw[List.takeWhile_append_dropWhile];exact qL _)]
     rw[List.takeWhile_append_dropWhile,List.drop_length,List.nil_append]
    have hne:(ds.dropWhile λz=>decide (dkey z<dkey d))≠[]:=by rw[hd];intro e;rw[List.drop_eq_nil_iff]at e;omega
    have h0:=List.head_dropWhile_not (λz=>decide (dkey z<dkey d)) hne
    have hh:(ds.dropWhile λz=>decide (dkey z<dkey d)).head hne=ds[placeD (dkey d) ds]:=by
     have:(ds.dropWhile λz=>decide (dkey z<dkey d))[0]? =some ds[placeD (dkey d) ds]:=by rw[hd,List.getElem?_drop,Nat.add_zero,qE hlen]
     rw[<- List.head?_eq_getElem?,List.head?_eq_some_head hne]at this;exact Option.some.inj this
    rw[hh]at h0;simpa using h0
   obtain⟨z,hz,hzn⟩:=hp0;rcases Nat.eq_zero_or_pos i with h0 | h0
   · subst h0;rw[Nat.add_zero,hz]at hi;rw[<- Option.some.inj hi];exact hzn
   · have:dkey z<dkey y:=by
      obtain⟨h1,e1⟩:=qF.1 hz;obtain⟨h2,e2⟩:=qF.1 hi
      have:=List.pairwise_iff_getElem.1 hr _ _ h1 h2 (by omega)
      rwa [e1,e2]at this
     intro hlt2;exact hzn (List.lt_trans this hlt2)
  rcases List.le_iff_lt_or_eq.1 (List.not_lt.1 hno) with h | h
  · exact h
  · exact absurd h.symm hyn
 unfold RiseD insD;rw[List.pairwise_append];refine⟨hr.sublist (List.take_sublist _ _),List.pairwise_cons.2 ⟨hge,hr.sublist (List.drop_sublist _ _)⟩,λa ha b hb=>?_⟩;obtain⟨i,hi⟩:=List.mem_iff_getElem?.1 ha;rw[List.getElem?_take]at hi
 split at hi
 · rename_i hil
   have hal:=hlt i a hil hi;rcases List.mem_cons.1 hb with rfl | hb
   · exact hal
   · exact List.lt_trans hal (hge b hb)
 · cases hi
theorem insD_len (d:HoldD)(ds:List HoldD):(insD d ds).length=ds.length+1:=by
 unfold insD;rw[qG,List.length_cons,List.length_take,List.length_drop]
 have:=placeD_le (dkey d) ds;omega
theorem insD_mem {d x:HoldD}{ds:List HoldD}:x∈insD d ds↔x=d\/x∈ds:=by
 unfold insD;rw[List.mem_append,List.mem_cons]
 conv=>rhs;rw[<- List.take_append_drop (placeD (dkey d) ds) ds,List.mem_append]
 constructor
 · rintro (h | h | h)
   · exact .inr (.inl h)
   · exact .inl h
   · exact .inr (.inr h)
 · rintro (h | h | h)
   · exact .inr (.inl h)
   · exact .inl h
   · exact .inr (.inr h)
theorem lay_close {w wa wb:World}{hb P M:Nat}{v v':Value}{ds:List HoldD}{d:HoldD}{l:List HoldV}{x':HoldV}(T:TabN no0 w hb v ds)(hare:HoldsAre w (λb=>(b=hb\/v.ownBlock=some b)\/no0 b) l ds)(hn0:∀b,no0 b->b<w.heap.size)(hP:placeD (dkey d) ds=P)
 (hok:d.ok/\holdB d=true) (hnew:hasD (dkey d) ds=false) (hfew:ds.length<60) (hno:v.ownBlock≠some hb) (xa:Ext w wa) (hM:w.heap.size<=M) (xi:x'.is wa (λb=>b<M) d)
 (hown:wb.ownsRow 0 48 7 v' (l.length+1) ((l.take P++x'::l.drop P).flatMap encHV)) (hk:Kept1 wa v v') (hbut:But (λj=>v.ownBlock=some j) wa wb):
 (∃v'',TabN no0 (wb.setCell ⟨hb,0,none⟩ v') hb v'' (insD d ds)/\(∀j,v''.ownBlock=some j->v.ownBlock=some j\/w.heap.size<=j))/\But (λj=>j=hb\/v.ownBlock=some j) w (wb.setCell ⟨hb,0,none⟩ v'):=by
 have hbl:=T.blk.lt;have hsz:=xa.size;have hB:But (λj=>j=hb\/v.ownBlock=some j) wa (wb.setCell ⟨hb,0,none⟩ v'):=(hbut.mono λ_ _ e=> .inr e).setCell (λ_=> .inl rfl) v'
 have hv':v'.ownBlock≠some hb:=by
  intro e;rcases hk hb e with e | e
  · exact hno e
  · omega
 have hblk:Blk (wb.setCell ⟨hb,0,none⟩ v') hb [v',.bool true] 180:=((T.blk.ext' xa).but hbut hno).set 0 v'
 have hlen:(l.take P++x'::l.drop P).length=l.length+1:=by
  have:=placeD_le (dkey d) ds
  rw[hP]at this
  have:=hare.len
  rw[qG,List.length_cons,List.length_take,List.length_drop];omega
 have ha:HoldsAre wa (λb=>((b=hb\/v.ownBlock=some b)\/no0 b)\/v'.ownBlock=some b) (l.take P++x'::l.drop P) (insD d ds):=by
  have h1:HoldsAre wa (λb=>((b=hb\/v.ownBlock=some b)\/no0 b)\/v'.ownBlock=some b) l ds:=(hare.mono (no':=λb=>((b=hb\/v.ownBlock=some b)\/no0 b)\/v'.ownBlock=some b) λb hb' e=>by
   rcases e with e | e
   · exact e
   · rcases hk b e with e | e
     · exact .inl (.inr e)
     · omega).ext xa
  have h2:x'.is wa (λb=>((b=hb\/v.ownBlock=some b)\/no0 b)\/v'.ownBlock=some b) d:=xi.mono λb hb' e=>by
   rcases e with ((e | e) | e) | e
   · omega
   · have:=T.lt e;omega
   · have:=hn0 b e;omega
   · rcases hk b e with e | e
     · have:=T.lt e;omega
     · omega
  unfold insD;rw[hP];exact HoldsAre.append (h1.take P) ⟨h2,h1.drop P⟩
 refine⟨⟨v',⟨hblk,⟨l.take P++x'::l.drop P,by rw[hlen];exact own_setOther hown (a:=⟨hb,0,none⟩) hv' v',(ha.but hB (λb _ e=> .inl (.inl e))).mono λb _ e=>e.elim (λe=>e.elim (λe=> .inl (.inl (.inl e))) .inr) (λe=> .inl (.inr e))⟩,nrise_ins T.rise hnew,λx hx=>?_,by rw[insD_len];omega⟩,λj hj=>?_⟩,?_⟩
 · rcases insD_mem.1 hx with rfl | hx
   · exact hok
   · exact T.ok x hx
 · rcases hk j hj with e | e
   · exact .inl e
   · exact .inr (by omega)
 · exact (Ext.but xa (λ_=>False)).trans hB (λ_ _ e=>e.elim) (λ_ _ e=>e)
theorem own_pos {w:World}{B:Nat}{e:TypeId}{size n:Nat}{v:Value}{xs:List Value}(h:w.ownsRow B e size v (n+1) xs):∃g cap,v= .slice (some ⟨g,0,none⟩) (n+1) cap:=by
 rcases h.2 with ⟨_,h0⟩ | ⟨g,cap,cur,h,_⟩
 · omega
 · exact⟨g,cap,h⟩
theorem lay_calls (x:HoldV)(d:HoldD)(hb:Nat)(v:Value)(ds:List HoldD)(w:World)(T:TabN no0 w hb v ds)(hx:x.is w (λ_=>False) d)(hok:d.ok/\holdB d=true)(hnew:hasD (dkey d) ds=false)(hfew:ds.length<60)(hn0:∀b,no0 b->b<w.heap.size):
 Calls Tryz.prog 136 #[.pointer (some ⟨hb,0,none⟩),.agg (encHV x).toArray] w λe w'=>e= .returned (.tuple #[])/\(∃v',TabN no0 w' hb v' (insD d ds)/\(∀j,v'.ownBlock=some j->v.ownBlock=some j\/w.heap.size<=j))/\But (λj=>j=hb\/v.ownBlock=some j) w w':=by
 obtain⟨l,ao,cap,rfl,hlc,hll,hrows,hown,hare,hrise⟩:=T.rowsN;have HN0:=qA hn0;clear hn0;have hlf:l.length<=1000000:=by omega
 have hpl:placeH (dkey d) l=placeD (dkey d) ds:=hare.place _;have hpl2:placeD (dkey d) ds<=l.length:=by rw[hll];exact placeD_le _ _
 have hkx:x.key=d.key:=hx.key;have HT:=qA T;have HX:=qA hx;have HOW:=qA hown;have HAR:=qA hare;have HOK:=qA hok;have HNEW:=qA hnew;have HLL:=qA hll;have HNO:=qA T.apart;have hcb:=T.blk.cell 0;simp only[qB]at hcb;have hbl:=T.blk.lt;have HAT:=qA (λW (hW:Ext w W)=>at_calls l ao cap hb x.key W hlf ((hrows.ext hW).mono hW.size) hrise ((hW.cell (p:=⟨hb,0,none⟩) hbl).trans hcb));have HPL:=qA (show placeH x.key.data.toList l=placeD (dkey d) ds by rw[hkx];exact hpl);generalize hP:placeD (dkey d) ds=P at *;have HP:=qA hP;have hpi:(P:Int)<=(l.length:Int):=by omega
 obtain⟨key,cl,nm,xo,xn,xc,yo,yn,yc,put,value⟩:=x;have HB:Hid (Blk (w.alloc (.cells #[.string key,.int .i64 cl,.int .i64 nm,.slice xo xn xc,.slice yo yn yc,.bool put,.string value] 48)) w.heap.size [.string key,.int .i64 cl,.int .i64 nm,.slice xo xn xc,.slice yo yn yc,.bool put,.string value] 48):=qA (Blk.new w [.string key,.int .i64 cl,.int .i64 nm,.slice xo xn xc,.slice yo yn yc,.bool put,.string value] 48);have XB:Hid (Ext w (w.alloc (.cells #[.string key,.int .i64 cl,.int .i64 nm,.slice xo xn xc,.slice yo yn yc,.bool put,.string value] 48))):=qA ((qK _ w).alloc (qL _) _);clear T hx hown hare hok hnew hrows hrise hpl hkx hcb hll hP;simp only[encHV];go_enter Tryz.func136,Tryz.ntmps136;go_wp2_with fail;refine (HAT.out _ XB.out).mono ?_;rintro e w1 ⟨rfl,hx1⟩;rw[HPL.out];have hb1:=HB.out.ext' hx1;have X1:=qA (qJ XB.out hx1);have hcb:=(HT.out.ext X1.out).blk.cell 0;simp only[qB]at hcb;have c0:=hb1.cell 0;have c1:=hb1.cell 1;have c2:=hb1.cell 2;have c3:=hb1.cell 3;have c4:=hb1.cell 4;have c5:=hb1.cell 5;have c6:=hb1.cell 6;simp only[qB,qC]at c0 c1 c2 c3 c4 c5 c6;have hw2:Ext w1 (w1.alloc (.cells #[.string key,.int .i64 cl,.int .i64 nm,.slice xo xn xc,.slice yo yn yc,.bool put,.string value] 48)).drew:=((qK _ w1).alloc (qL _) _).drew;have X2:=qA (qJ X1.out hw2)
 have HO:=qA (own1_calls ⟨key,cl,nm,xo,xn,xc,yo,yn,yc,put,value⟩ d (some ⟨w1.heap.size,0,none⟩) 1 (w1.alloc (.cells #[.string key,.int .i64 cl,.int .i64 nm,.slice xo xn xc,.slice yo yn yc,.bool put,.string value] 48)).drew
  (by
    intro _;refine⟨_,0,rfl,by simp,λi y hi j u hj=>?_⟩
    obtain⟨rfl,rfl⟩:i=0/\y=⟨key,cl,nm,xo,xn,xc,yo,yn,yc,put,value⟩:=by
     match i,hi with
     | 0,hi=>simp at hi;exact⟨rfl,hi.symm⟩
     | i+1,hi=>simp at hi
    rw[show 0+0 * 7+j=j from by omega]
    exact ((Blk.new w1 [.string key,.int .i64 cl,.int .i64 nm,.slice xo xn xc,.slice yo yn yc,.bool put,.string value] 48).drew.cell j).trans hj) (HX.out.ext X2.out) HOK.out.1.fits)
 have hbl1:hb<w1.heap.size:=by have:=X1.out.size;omega
 have hbne1:hb≠w1.heap.size:=by omega
 clear hx1 HAT hw2 hb1 HB;go_wp2_with fail
 go_region_with (first
  | (go_at_call 173;refine HO.out.mono ?_;rintro e wa ⟨g,c,cur,x',rfl,hc1,hcm,hgb,hct,hgn,hxi,hxa⟩;have hca:=(HT.out.ext (qJ X2.out hxa)).blk.cell 0;simp only[qB]at hca;have XA:=qA (qJ X2.out hxa);have GB:=qA hgb;have CT:=qA hct;have XI:=qA hxi;have GN:=qA hgn;clear hgb hct hxi hxa hgn)
  | (go_at_call 187;refine (insert_calls l x' P (.slice ao l.length cap) g c cur wa hlf hpl2 (own_ext HOW.out XA.out) GB.out CT.out (λe=>by have h:=GN.out;have h2:=X2.out.size;have h3:=HT.out.lt e;omega)).mono ?_;rintro e wb ⟨v',rfl,hown',hkept,hbut⟩;obtain⟨g2,cp2,rfl⟩:=own_pos hown';have hcc:=((HT.out.ext XA.out).blk.but hbut (λe=>HNO.out e)).cell 0;have hcf:=((HT.out.ext XA.out).blk.but hbut (λe=>HNO.out e)).free 0;simp only[qB]at hcc;have YO:=qA hown';have YK:=qA hkept;have YB:=qA hbut;clear hown' hkept hbut))
 all_goals
  go_end0
  have hfin:=lay_close HT.out HAR.out HN0.out HP.out HOK.out HNEW.out hfew HNO.out XA.out X2.out.size (XI.out.mono (λb _ e=> .inr e)) YO.out YK.out YB.out;exact⟨rfl,hfin⟩
end Go.Proofs.YtmpmggejhnmakaaGreatDoor
/- What Put answers, and what it makes of a table: the plain part. -/
namespace Go.Proofs.YtmpmggejhnmakaaGreatDoor
open Go.RowKit
variable {no0:Nat->Prop}
def keyLits (dl:List HoldD):List Lit:=dl.map λd=>Lit.string (dkey d)
def dupD (dl:List HoldD):Bool:=decide (((keyLits dl).foldl Maps.addKey []).length<dl.length)
theorem sameKey_str (a b:List UInt8):(Lit.string a).sameKey (.string b)=decide (a=b):=by
 rw[Bool.eq_iff_iff];simp[Lit.sameKey]
theorem addKeys_len:∀(xs:List (List UInt8))(L:List (List UInt8)),((xs.map Lit.string).foldl Maps.addKey (L.map Lit.string)).length<=L.length+xs.length/\(((xs.map Lit.string).foldl Maps.addKey (L.map Lit.string)).length=L.length+xs.length↔(xs.Nodup/\∀x∈xs,x∉L))
 | [],L=>by simp
 | x::xs,L=>by
   rw[List.map_cons,List.foldl_cons]
   have hany:((L.map Lit.string).any λy=>y.sameKey (.string x))=decide (x∈L):=by
    rw[Bool.eq_iff_iff,List.any_eq_true,decide_eq_true_eq];constructor
    · rintro ⟨y,hy,h⟩
      obtain⟨z,hz,rfl⟩:=List.mem_map.1 hy;rw[sameKey_str,decide_eq_true_eq]at h;rw[<- h];exact hz
    · intro h
      exact⟨.string x,List.mem_map.2 ⟨x,h,rfl⟩,by rw[sameKey_str];simp⟩
   by_cases hx:x∈L
   · have e:Maps.addKey (L.map Lit.string) (.string x)=L.map Lit.string:=by unfold Maps.addKey;rw[hany,if_pos (by simpa using hx)]
     rw[e];obtain⟨h1,h2⟩:=addKeys_len xs L;refine⟨by rw[List.length_cons];omega,⟨λh=>by rw[List.length_cons]at h;omega,λh=>absurd hx (h.2 x (by simp))⟩⟩
   · have e:Maps.addKey (L.map Lit.string) (.string x)=(L++[x]).map Lit.string:=by unfold Maps.addKey;rw[hany,if_neg (by simpa using hx)];simp
     rw[e];obtain⟨h1,h2⟩:=addKeys_len xs (L++[x]);rw[qG,List.length_singleton]at h1 h2;refine⟨by rw[List.length_cons];omega,?_⟩;rw[List.length_cons,show L.length+(xs.length+1)=L.length+1+xs.length from by omega,h2,List.nodup_cons];constructor
     · rintro ⟨h3,h4⟩
       refine⟨⟨λh=>h4 x h (by simp),h3⟩,λy hy=>?_⟩;rcases List.mem_cons.1 hy with rfl | hy
       · exact hx
       · exact λh=>h4 y hy (by simp[h])
     · rintro ⟨⟨h3,h4⟩,h5⟩
       refine⟨h4,λy hy h=>?_⟩;rcases List.mem_append.1 h with h | h
       · exact h5 y (by simp[hy]) h
       · rw[List.mem_singleton.1 h]at hy;exact h3 hy
theorem keyLits_eq (dl:List HoldD):keyLits dl=(dl.map dkey).map Lit.string:=by unfold keyLits;rw[List.map_map];rfl
theorem dupD_iff (dl:List HoldD):dupD dl=false↔(dl.map dkey).Nodup:=by
 unfold dupD;rw[keyLits_eq,decide_eq_false_iff_not];obtain⟨h1,h2⟩:=addKeys_len (dl.map dkey) [];simp only[List.map_nil,List.length_nil,Nat.zero_add,List.length_map,List.not_mem_nil,not_false_eq_true,implies_true,and_true]at h1 h2;rw[<- h2];omega
theorem isKey_str (s:List UInt8):WideAt.IsKeyLit (.string s):=by trivial
theorem size_keys {H:Type}(u:DataW H)(dl:List HoldD):Maps.size (Maps.setOf u (keyLits dl))=((keyLits dl).foldl Maps.addKey []).length:=
 Maps.size_setOf u _ (λx hx=>by unfold keyLits at hx;obtain⟨d,_,rfl⟩:=List.mem_map.1 hx;exact isKey_str _)
def thereD (dl ds:List HoldD):Bool:=dl.any λd=>hasD (dkey d) ds
def putE (dl ds:List HoldD):Int:=if dupD dl=true\/holdsB dl=false then 2 else if thereD dl ds=true then 7 else if 60<ds.length+dl.length then 8 else 0
def insAll (dl ds:List HoldD):List HoldD:=dl.foldl (λa d=>insD d a) ds
def putT (dl ds:List HoldD):List HoldD:=if putE dl ds=0 then insAll dl ds else ds
theorem insAll_succ (dl ds:List HoldD)(k:Nat)(d:HoldD)(h:dl[k]? =some d):insAll (dl.take (k+1)) ds=insD d (insAll (dl.take k) ds):=by
 unfold insAll;rw[List.take_add_one,h,List.foldl_append];rfl
theorem insAll_len:∀(dl ds:List HoldD),(insAll dl ds).length=ds.length+dl.length
 | [],_=>rfl
 | d::dl,ds=>by
   have:=insAll_len dl (insD d ds)
   rw[insD_len]at this;show (insAll dl (insD d ds)).length=_;rw[this,List.length_cons];omega
theorem hasD_ins (k:List UInt8)(d:HoldD)(ds:List HoldD):hasD k (insD d ds)=(decide (dkey d=k)||hasD k ds):=by
 rw[Bool.eq_iff_iff];unfold hasD;simp only[List.any_eq_true,decide_eq_true_eq,Bool.or_eq_true,insD_mem];constructor
 · rintro ⟨x,rfl | hx,h⟩
   · exact .inl h
   · exact .inr ⟨x,hx,h⟩
 · rintro (h | ⟨x,hx,h⟩)
   · exact⟨d,.inl rfl,h⟩
   · exact⟨x,.inr hx,h⟩
theorem hasD_all (k:List UInt8):∀(dl ds:List HoldD),hasD k (insAll dl ds)=(hasD k dl||hasD k ds)
 | [],_=>rfl
 | d::dl,ds=>by
   show hasD k (insAll dl (insD d ds))=_;rw[hasD_all k dl,hasD_ins];show _=(decide (dkey d=k)||hasD k dl||hasD k ds);cases hasD k dl<;>cases decide (dkey d=k)<;>cases hasD k ds<;>rfl
theorem fresh_at {dl ds:List HoldD}(hd:dupD dl=false)(ht:thereD dl ds=false){k:Nat}{d:HoldD}(h:dl[k]? =some d):hasD (dkey d) (insAll (dl.take k) ds)=false:=by
 rw[hasD_all]
 have h1:hasD (dkey d) ds=false:=by
  unfold thereD at ht
  have:=List.any_eq_false.1 ht d (qH h)
  simpa using this
 have h2:hasD (dkey d) (dl.take k)=false:=by
  unfold hasD;rw[List.any_eq_false];intro x hx hxe;rw[decide_eq_true_eq]at hxe;obtain⟨i,hi⟩:=List.mem_iff_getElem?.1 hx;rw[List.getElem?_take]at hi
  split at hi
  · rename_i hik
    have hn:=(dupD_iff dl).1 hd;obtain⟨a1,e1⟩:=qF.1 hi;obtain⟨a2,e2⟩:=qF.1 h
    have:=List.pairwise_iff_getElem.1 hn i k (by simpa using a1) (by simpa using a2) hik
    simp only[List.getElem_map,e1,e2]at this;exact this hxe
  · cases hi
 rw[h1,h2];rfl
theorem tw_lt {α:Type}(p:α->Bool):∀(l:List α)(i:Nat)(y:α),i<(l.takeWhile p).length->l[i]? =some y->p y=true
 | [],i,y,h,_=>by simp at h
 | a::l,i,y,h,hy=>by
   rw[List.takeWhile_cons]at h
   split at h
   · rename_i ha
     match i,h,hy with
     | 0,_,hy=>simp at hy;rw[<- hy];exact ha
     | i+1,h,hy=>exact tw_lt p l i y (by simpa using h) (by simpa using hy)
   · simp at h
theorem tw_stop {α:Type}(p:α->Bool):∀(l:List α)(z:α),l[(l.takeWhile p).length]? =some z->p z=false
 | [],z,h=>by simp at h
 | a::l,z,h=>by
   rw[List.takeWhile_cons]at h
   split at h
   · rw[List.length_cons,qC]at h;exact tw_stop p l z h
   · rename_i ha
     simp at h;rw[<- h];simpa using ha
theorem there_eq {w:World}{no:Nat->Prop}{l:List HoldV}{ds:List HoldD}(ha:HoldsAre w no l ds)(hr:RiseV l)(k:List UInt8):thereH k l=hasD k ds:=by
 have hk:hasD k ds=l.any λv=>decide (vkey v=k):=by
  unfold hasD;have e1:(ds.any λd=>decide (dkey d=k))=(ds.map (·.key)).any λs=>decide (s.data.toList=k):=by rw[List.any_map];rfl
  have e2:(l.any λv=>decide (vkey v=k))=(l.map (·.key)).any λs=>decide (s.data.toList=k):=by rw[List.any_map];rfl
  rw[e1,e2,ha.keys]
 rw[hk];unfold thereH;cases hz:l[placeH k l]? with
 | none=>
   symm
   rw[List.any_eq_false];intro y hy;obtain⟨i,hi⟩:=List.mem_iff_getElem?.1 hy;have hil:=(qF.1 hi).1;rw[List.getElem?_eq_none_iff]at hz
   have:=tw_lt (λv=>decide (vkey v<k)) l i y (by show i<placeH k l;omega) hi
   simp only[decide_eq_true_eq]at this ⊢;intro e;rw[e]at this;exact List.lt_irrefl _ this
 | some z=>
   have hzn:=tw_stop (λv=>decide (vkey v<k)) l z hz;rw[decide_eq_false_iff_not]at hzn;show decide (vkey z=k)=_;rw[Bool.eq_iff_iff,decide_eq_true_eq,List.any_eq_true];constructor
   · intro h;exact⟨z,qH hz,by simpa using h⟩
   · rintro ⟨y,hy,h⟩
     rw[decide_eq_true_eq]at h;obtain⟨i,hi⟩:=List.mem_iff_getElem?.1 hy;rcases Nat.lt_trichotomy i (placeH k l) with h1 | h1 | h1
     · have:=tw_lt (λv=>decide (vkey v<k)) l i y h1 hi
       rw[decide_eq_true_eq,h]at this;exact absurd this (List.lt_irrefl _)
     · rw[h1,hz]at hi;rw[Option.some.inj hi];exact h
     · have:=rise_lt hr h1 hz hi
       rw[h]at this;exact absurd this hzn
end Go.Proofs.YtmpmggejhnmakaaGreatDoor
/- Put at a table of holds. -/
namespace Go.Proofs.YtmpmggejhnmakaaGreatDoor
open Go.RowKit
variable {no0:Nat->Prop}
theorem Ext.grown {w w':World}(h:Ext w w'):w.grownBy w' none:=⟨h.os,h.tape,h.output,h.size,λk hk _=>h.block k hk⟩
def PutPostN (no0:Nat->Prop)(hb:Nat)(v:Value)(ds dl:List HoldD)(w:World)(e:Ending)(w':World):Prop:=
 e= .returned (.int .i64 (putE dl ds))/\(∃v',TabN no0 w' hb v' (putT dl ds)/\(∀j,v'.ownBlock=some j->v.ownBlock=some j\/w.heap.size<=j))/\But (λj=>j=hb\/v.ownBlock=some j) w w'/\(putE dl ds≠0->Ext w w')
theorem PutPostN.same {hb:Nat}{v:Value}{ds dl:List HoldD}{w w':World}{n:Int}(T:TabN no0 w hb v ds)(hn:putE dl ds=n)(h0:n≠0)(hx:Ext w w'):PutPostN no0 hb v ds dl w (.returned (.int .i64 n)) w':=by
 refine⟨by rw[hn],⟨v,?_,λj hj=> .inl hj⟩,hx.but _,λ_=>hx⟩;unfold putT;rw[if_neg (by rw[hn];exact h0)];exact T.ext hx
theorem thereD_succ (dl ds:List HoldD)(k:Nat)(d:HoldD)(h:dl[k]? =some d):thereD (dl.take (k+1)) ds=(thereD (dl.take k) ds||hasD (dkey d) ds):=by
 unfold thereD;rw[List.take_add_one,h,List.any_append];simp
theorem keyLits_succ (dl:List HoldD)(k:Nat)(d:HoldD)(h:dl[k]? =some d):keyLits (dl.take (k+1))=keyLits (dl.take k)++[Lit.string (dkey d)]:=by
 unfold keyLits;rw[List.take_add_one,h,List.map_append];rfl
def seenD (dl:List HoldD):DataW Unit:=Maps.setOf (.lit (.bool true)) (keyLits dl)
theorem seenD_succ (dl:List HoldD)(k:Nat)(d:HoldD)(h:dl[k]? =some d):seenD (dl.take (k+1))=(seenD (dl.take k)).put (Lit.string (dkey d)) (.lit (.bool true)):=by
 unfold seenD;rw[keyLits_succ dl k d h,Maps.setOf_snoc]
theorem put_calls (hb:Nat)(v:Value)(ds:List HoldD)(ls:List HoldV)(dl:List HoldD)(ao:Option Addr)(cap:Nat)(w:World)(T:TabN no0 w hb v ds)(hl:ls.length<=1000000)
 (hr:NRows 7 encHV (λb=>b=hb\/v.ownBlock=some b) w ao ls) (hd:HoldsAre w (λb=>b=hb\/v.ownBlock=some b) ls dl) (hok:∀d∈dl,d.ok) (hn0:∀b,no0 b->b<w.heap.size):
 Calls Tryz.prog 60 #[.pointer (some ⟨hb,0,none⟩),.slice ao ls.length cap] w (PutPostN no0 hb v ds dl w):=by
 have hmm:= @run_makeMap Tryz.prog;have hc1:=T.blk.cell 1;simp only[qB,qC]at hc1;have HT:=qA T;have HR:=qA hr;have HD:=qA hd;have HOK:=qA hok;have HTH:=qA (λW (hW:Ext w W)=>there_calls (some ⟨hb,0,none⟩) true W ((show ThereIs w (some ⟨hb,0,none⟩) true from .inr ⟨hb,rfl,hc1⟩).ext hW));have HDL:=qA hd.len;have HN0:=qA hn0;clear hn0;clear T hr hd hok hc1;go_enter Tryz.func60,Tryz.ntmps60;go_wp2_with fail;refine (HTH.out _ (qK _ _)).mono ?_;rintro e w' ⟨rfl,rfl⟩;go_wp2_with fail;have hmown:=World.ownsMap_made (H:=Unit) w Tryz.prog 9 (plainElem Tryz.prog 4);have hmx:Ext w (w.alloc (.map #[] 0)):=(qK _ w).alloc (qL _) _;have hge:w.heap.size<=w.heap.size:=qL _;generalize hMB:w.heap.size=mb at hmown ⊢;have hmb:w.heap.size<=mb:=by omega
 generalize w.alloc (.map #[] 0)=w1 at hmown hmx ⊢;have MO:=qA hmown;have MX:=qA hmx;clear hmown hmx hge hMB hmm;go_loopw [6,19] (λvt vi wr=>∃k:Nat,k<=ls.length/\vi= .int .i64 k/\vt= .bool (thereD (dl.take k) ds)/\wr.ownsMap Tryz.prog 9 (plainElem Tryz.prog 4) mb k (seenD (dl.take k))/\Ext w wr) (λ_ vi _=>ls.length - (intOf vi).toNat)
 case atStart=>exact⟨0,by omega,rfl,rfl,MO.out,MX.out⟩
 case round=>
  obtain⟨k,hk,rfl,rfl,hown,hx⟩:=hrel;have K1:=qA hown;have K2:=qA hx;clear hown hx;by_cases hlt:k<ls.length
  · obtain⟨x,hx⟩:∃x,ls[k]? =some x:=⟨_,qE hlt⟩
    obtain⟨d,hdk,hxd⟩:=HD.out.at k x hx;have hdok:=HOK.out d (qH hdk);obtain⟨b,off,rfl,hb',_,hcell⟩:=HR.out (by intro e;rw[e]at hlt;simp at hlt);have hcx:=hcell k x hx;have hmove:∀j,wr.cell? ⟨b,j,none⟩=w.cell? ⟨b,j,none⟩:=λj=>K2.out.cell (p:=⟨b,j,none⟩) hb';have hts:=thereD_succ dl ds k d hdk;have hss:=seenD_succ dl k d hdk;have hkx:x.key=d.key:=hxd.key;obtain⟨l,tao,tcap,hv,hlc,hll,hrows,hown,hare,hrise⟩:=HT.out.rows;have hfew:=HT.out.few;have hbl:=HT.out.blk.lt;have hc0:=HT.out.blk.cell 0;simp only[qB]at hc0;rw[hv]at hc0
    have hat:∀W,Ext w W->Calls Tryz.prog 134 #[.pointer (some ⟨hb,0,none⟩),.string x.key] W λe w'=>e= .returned (.tuple #[.int .i64 (placeD (dkey d) ds),.bool (hasD (dkey d) ds)])/\Ext W w':=λW hW=>by
     have h:=at_calls l tao tcap hb x.key W (by omega) ((hrows.ext hW).mono hW.size) hrise ((hW.cell (p:=⟨hb,0,none⟩) hbl).trans hc0);rw[hkx]at h ⊢;rw[show placeH d.key.data.toList l=placeD (dkey d) ds from hare.place _,show thereH d.key.data.toList l=hasD (dkey d) ds from there_eq hare hrise _]at h;exact h
    have hkey:keyOf Tryz.prog 9 (.string x.key)=some (.string (dkey d)):=by
     rw[hkx];exact WideMaps.keyOf_string_mk Tryz.underlying9 (by have:=hdok.ks;unfold maxLen;omega)
    obtain⟨key,cl,nm,xo,xn,xc,yo,yn,yc,put,value⟩:=x;have d0:=(hmove _).trans (hcx 0 _ rfl);have d1:=(hmove _).trans (hcx 1 _ rfl);have d2:=(hmove _).trans (hcx 2 _ rfl);have d3:=(hmove _).trans (hcx 3 _ rfl);have d4:=(hmove _).trans (hcx 4 _ rfl);have d5:=(hmove _).trans (hcx 5 _ rfl);have d6:=(hmove _).trans (hcx 6 _ rfl);simp only[Nat.add_zero]at d0;have TS:=qA hts;have SS:=qA hss;have HAT:=qA hat;have HKEY:=qA hkey;have i0:(0:Int)<=(k:Int):=by omega
    have i1:(k:Int)<(ls.length:Int):=by omega
    clear hx hdk hxd hdok hcell hcx hmove hts hss hkx hv hlc hll hrows hown hare hrise hfew hc0 hat hkey;have hbk:Blk (wr.alloc (.cells #[.string key,.int .i64 cl,.int .i64 nm,.slice xo xn xc,.slice yo yn yc,.bool put,.string value] 48)) wr.heap.size [.string key,.int .i64 cl,.int .i64 nm,.slice xo xn xc,.slice yo yn yc,.bool put,.string value] 48:=Blk.new wr _ _;have hxb:Ext wr (wr.alloc (.cells #[.string key,.int .i64 cl,.int .i64 nm,.slice xo xn xc,.slice yo yn yc,.bool put,.string value] 48)):=(qK _ wr).alloc (qL _) _;have HB:=qA hbk;have XB:=qA hxb;clear hbk hxb;go_wp2_with fail;have hbk:=HB.out;have hxb:=XB.out;generalize wr.alloc _=w0 at hbk hxb ⊢;generalize wr.heap.size=N at hbk ⊢;have hk0:=hbk.cell 0;simp only[qB]at hk0;have B0:=qA hbk;have X0:=qA hxb;have hcp:∀p:ExtBy w0,p.W.cell? ⟨N,0,none⟩=some (.string key):=ExtBy.cell hk0;have HC:=qA (λp:ExtBy w0=>HAT.out p.W (qJ K2.out (qJ X0.out p.ext)));clear HB XB hbk hxb d0 d1 d2 d3 d4 d5 d6;refine wp_region_ext (by kernel_rfl) (by kernel_rfl) ?_
    repeat (go_big_quiet_step ((first | (with_reducible exact Calls.ext_of _ (HC.out _)))))
    refine wpQuiet_nil ?_;intro wc hw';have hxc:Ext w0 wc:=by obtain⟨p,rfl⟩:=hw';exact p.ext
    have XC:=qA (qJ X0.out hxc);have hkc:=(hxc.cell (p:=⟨N,0,none⟩) B0.out.lt).trans hk0;clear hxc hw' hcp hk0;have hmo:=K1.out.kept XC.out.grown (by simp);have hmk:=hmo.lt;have MO2:=qA hmo;clear hmo;cases hth:thereD (dl.take k) ds
    all_goals
     have HTH2:=qA hth;clear hth;go_wp2_with (at_mapUpdate;refine wpList_mapUpdate_own _ rfl _ _ _ 207 rfl 9 4 strKeyed Tryz.underlying207 _ mb k (seenD (dl.take k)) rfl MO2.out (by unfold maxLen;omega) _ _ _ rfl rfl HKEY.out (.lit (.bool true)) [] (plainElem_bool Tryz.underlying4 true) ?_;intro w4 hown4 hgr4;have O4:=qA hown4;have G4:=qA hgr4;clear hown4 hgr4);go_roundw
     case rel=>
      refine⟨k+1,by omega,by go_num,by rw[TS.out,HTH2.out];rfl,by rw[SS.out];exact O4.out,?_⟩;exact Below.grown (qJ K2.out XC.out) G4.out (qJ K2.out XC.out).size (λj hj=>by cases hj;exact hmb)
     case measure=>simp[intOf];omega
  · obtain rfl:k=ls.length:=by omega
    have hall:dl.take ls.length=dl:=List.take_of_length_le (by have:=HDL.out;omega);have hsz:Maps.size (seenD dl)=((keyLits dl).foldl Maps.addKey []).length:=size_keys _ dl;obtain⟨sz,hsz'⟩:∃sz,((keyLits dl).foldl Maps.addKey []).length=sz:=⟨_,rfl⟩
    have hlen:(Builtin.len_ #[207] 3 #[.map (some mb)]).run Tryz.prog wr= .ok (.int .i64 sz) wr:=by
     have h:=K1.out.len (t:=207) (e:=4) Tryz.underlying207 3;rw[hall,hsz,hsz']at h;exact h
    have hdup:dupD dl=decide (sz<ls.length):=by unfold dupD;rw[hsz',HDL.out]
    have HDUP:=qA hdup;have hth:thereD (dl.take ls.length) ds=thereD dl ds:=by rw[hall]
    have hrr:Rows 7 encHV wr.heap.size wr ao ls:=((HR.out.rows.ext K2.out).mono K2.out.size);have HRG:=qA (λW (hW:Ext wr W)=>holdsRight_calls ls dl (λb=>b=hb\/v.ownBlock=some b) ao cap W hl ((hrr.ext hW).mono hW.size) (HD.out.ext (qJ K2.out hW)) HOK.out);clear hsz hsz' hall hrr K1;obtain⟨l,tao,tcap,hv,hlc,hll,-,-,-,-⟩:=HT.out.rows;have hfew:=HT.out.few;have hc0:=HT.out.blk.cell 0;simp only[qB]at hc0;rw[hv]at hc0;have hbl:=HT.out.blk.lt;have hl60:l.length<=60:=by omega
    have HC0:=qA hc0;have HV:=qA hv;have HLL:=qA hll;clear hc0 hv hll;rw[hth];clear hth;cases hd:dupD dl
    · have hdc:decide (sz<ls.length)=false:=by rw[<- hdup];exact hd
      have HDD:=qA hd;clear hdup hd;go_wp2_with fail;refine (HRG.out _ (qK _ _)).mono ?_;rintro e w5 ⟨rfl,hx5⟩;have X5:=qA (qJ K2.out hx5);have hc0:=(hx5.cell (p:=⟨hb,0,none⟩) (qN hbl K2.out.size)).trans ((K2.out.cell (p:=⟨hb,0,none⟩) hbl).trans HC0.out);clear hx5;cases hrg:holdsB dl
      · have hz:putE dl ds=2:=by unfold putE;rw[if_pos (.inr hrg)]
        have HZ:=qA hz;have HRG2:=qA hrg;clear hz hrg;go_wp2_with fail;go_ret;exact PutPostN.same HT.out HZ.out (by decide) X5.out
      · have hnot:¬(dupD dl=true\/holdsB dl=false):=by rw[HDD.out,hrg];decide
        have HRG2:=qA hrg;clear hrg;cases hte:thereD dl ds
        · have hte':¬(thereD dl ds=true):=by rw[hte];decide
          have HTE:=qA hte;clear hte;by_cases hfull:60<ds.length+dl.length
          · have hz:putE dl ds=8:=by unfold putE;rw[if_neg hnot,if_neg hte',if_pos hfull]
            have HZ:=qA hz;have hq:decide ((60:Int)<(l.length:Int)+(ls.length:Int))=true:=by have:=HLL.out;have:=HDL.out;simp;omega
            clear hz hnot hte' hfull;go_wp2_with fail;go_ret;exact PutPostN.same HT.out HZ.out (by decide) X5.out
          · have hz:putE dl ds=0:=by unfold putE;rw[if_neg hnot,if_neg hte',if_neg hfull]
            have HZ:=qA hz;have hq:decide ((60:Int)<(l.length:Int)+(ls.length:Int))=false:=by have:=HLL.out;have:=HDL.out;simp;omega
            have HFU:=qA (show ds.length+dl.length<=60 by omega);clear hz hnot hte' hfull;go_wp2_with fail;go_loopw [64] (λvi wr=>∃(k:Nat) (v1:Value),k<=ls.length/\vi= .int .i64 k/\TabN no0 wr hb v1 (insAll (dl.take k) ds)/\(∀j,v1.ownBlock=some j->v.ownBlock=some j\/w.heap.size<=j)/\But (λj=>j=hb\/v.ownBlock=some j) w wr) (λvi _=>ls.length - (intOf vi).toNat)
            case atStart=>exact⟨0,v,by omega,rfl,HT.out.ext X5.out,λj h=> .inl h,X5.out.but _⟩
            case round=>
             obtain⟨k,v1,hk,rfl,htab,hv1,hbut⟩:=hrel;have J1:=qA htab;have J2:=qA hv1;have J3:=qA hbut;clear htab hv1 hbut;by_cases hlt:k<ls.length
             · obtain⟨x,hx⟩:∃x,ls[k]? =some x:=⟨_,qE hlt⟩
               obtain⟨d,hdk,hxd⟩:=HD.out.at k x hx;have hdok:=HOK.out d (qH hdk);have hrt:holdB d=true:=List.all_eq_true.1 HRG2.out d (qH hdk);have hfr:=fresh_at HDD.out HTE.out hdk;have hin:=insAll_succ dl ds k d hdk;have hlen:=insAll_len (dl.take k) ds;have hkd:k<dl.length:=by have:=HDL.out;omega
               rw[List.length_take,Nat.min_eq_left (by omega)]at hlen;obtain⟨b,off,hao,hb',hno,hcell⟩:=HR.out (by intro e;rw[e]at hlt;simp at hlt);have hcx:=hcell k x hx;have hmove:∀j,wr.cell? ⟨b,j,none⟩=w.cell? ⟨b,j,none⟩:=λj=>J3.out.cell (p:=⟨b,j,none⟩) hb' hno;have hxw:x.is wr (λ_=>False) d:=(hxd.but J3.out (λ_ _ e=>e)).mono (λ_ _ e=>e.elim)
               have hcl:∀W,Ext wr W->Calls Tryz.prog 136 #[.pointer (some ⟨hb,0,none⟩),.agg (encHV x).toArray] W λe w'=>e= .returned (.tuple #[])/\(∃v',TabN no0 w' hb v' (insD d (insAll (dl.take k) ds))/\(∀j,v'.ownBlock=some j->v1.ownBlock=some j\/W.heap.size<=j))/\But (λj=>j=hb\/v1.ownBlock=some j) W w':=λW hW=>
                lay_calls x d hb v1 (insAll (dl.take k) ds) W (J1.out.ext hW) (hxw.ext hW) ⟨hdok,hrt⟩ hfr (by have:=HFU.out;omega) (λb e=>qN (HN0.out b e) (qM J3.out.size hW.size))
               subst hao;obtain⟨key,cl,nm,xo,xn,xc,yo,yn,yc,put,value⟩:=x;have d0:=(hmove _).trans (hcx 0 _ rfl);have d1:=(hmove _).trans (hcx 1 _ rfl);have d2:=(hmove _).trans (hcx 2 _ rfl);have d3:=(hmove _).trans (hcx 3 _ rfl);have d4:=(hmove _).trans (hcx 4 _ rfl);have d5:=(hmove _).trans (hcx 5 _ rfl);have d6:=(hmove _).trans (hcx 6 _ rfl);simp only[Nat.add_zero]at d0;have HCL:=qA hcl;have HIN:=qA hin;have i0:(0:Int)<=(k:Int):=by omega
               have i1:(k:Int)<(ls.length:Int):=by omega
               have hxb:Ext wr (wr.alloc (.cells #[.string key,.int .i64 cl,.int .i64 nm,.slice xo xn xc,.slice yo yn yc,.bool put,.string value] 48)):=(qK _ wr).alloc (qL _) _;have XB:=qA hxb;clear hx hdk hxd hdok hrt hfr hin hlen hkd hcell hcx hmove hxw hcl hxb;go_wp2_with fail
               go_region_with (go_at_call 136;refine (HCL.out _ (by exact XB.out.drew)).mono ?_;rintro e w6 ⟨rfl,ht6,hb6⟩;have T6:=qA ht6;have B6:=qA hb6;clear ht6 hb6)
               go_wp2_with fail;go_roundw
               case rel=>
                obtain⟨v2,ht2,hv2⟩:=T6.out;refine⟨k+1,v2,by omega,by go_num,by rw[HIN.out];exact ht2,λj hj=>?_,?_⟩
                · rcases hv2 j hj with e | e
                  · exact J2.out j e
                  · have h1:=XB.out.size;have h2:=J3.out.size
                    exact .inr (qM h2 (qM h1 e))
                · refine (J3.out.trans (Ext.but XB.out.drew (λ_=>False)) (λ_ _ e=>e) (λ_ _ e=>e.elim)).trans B6.out (λ_ _ e=>e) (λi hi e=>?_)
                  rcases e with e | e
                  · exact .inl e
                  · rcases J2.out i e with e | e
                    · exact .inr e
                    · omega
               case measure=>simp[intOf];omega
             · obtain rfl:k=ls.length:=by omega
               have hall:dl.take ls.length=dl:=List.take_of_length_le (by have:=HDL.out;omega);rw[hall]at J1;clear hall;go_wp2_with fail;go_ret;exact⟨by rw[HZ.out];rfl,⟨v1,by unfold putT;rw[if_pos HZ.out];exact J1.out,J2.out⟩,J3.out,λh=>absurd HZ.out h⟩
        · have hz:putE dl ds=7:=by unfold putE;rw[if_neg hnot,if_pos hte]
          have HZ:=qA hz;have HTE:=qA hte;clear hz hte hnot;go_wp2_with fail;go_ret;exact PutPostN.same HT.out HZ.out (by decide) X5.out
    · have hdc:decide (sz<ls.length)=true:=by rw[<- hdup];exact hd
      have hz:putE dl ds=2:=by unfold putE;rw[if_pos (.inl hd)]
      have HZ:=qA hz;clear hdup hd hz;go_wp2_with fail;go_ret;exact PutPostN.same HT.out HZ.out (by decide) K2.out
end Go.Proofs.YtmpmggejhnmakaaGreatDoor
