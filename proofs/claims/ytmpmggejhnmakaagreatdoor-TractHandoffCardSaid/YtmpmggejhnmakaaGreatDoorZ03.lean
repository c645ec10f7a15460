/- A slice of acts, opened: from the data that a row reads to the cells that a walk reads. -/
import Derived.Test.YtmpmggejhnmakaaGreatDoorZ02
import Derived.ProofKit
import Derived.Deep.Slices
import Derived.Deep.Strs
import Derived.Lib.SmallJoins
import Derived.SizedLaws
import Derived.IntWalk
import Derived.Test.YtmpmggejhnmakaaGreatDoorZ01
set_option maxRecDepth 100000
set_option maxHeartbeats 1600000
namespace Go.Proofs.YtmpmggejhnmakaaGreatDoor
open Go.ChangeShapes Go.WideShapes Go.ChangeAt Go.RowKit Go.Deep Go.Joins
theorem weightsAll_mem {H:Type}{P:Program}{e:TypeId}:∀{l:List (DataW H)}{d:DataW H},d∈l->∀n∈d.weights P e,n∈DataW.weightsAll P e l
 | x::r,d,hd,n,hn=>by
   unfold DataW.weightsAll;rcases List.mem_cons.1 hd with rfl | h
   · exact List.mem_append_left _ hn
   · exact List.mem_append_right _ (weightsAll_mem h n hn)
def ActD.fits (a:ActD)(ws:List Nat):Prop:=(0<=a.kind/\a.kind<=255)/\(-9223372036854775808<=a.num/\a.num<=9223372036854775807)/\a.key.size∈ws/\a.value.size∈ws
theorem ActD.fits.ok {a:ActD}{ws:List Nat}(h:a.fits ws)(hw:ws.all (· <=reachBytes)=true):a.ok:=by
 obtain⟨⟨k0,k1⟩,⟨n0,n1⟩,h1,h2⟩:=h;have b1:=List.all_eq_true.1 hw _ h1;have b2:=List.all_eq_true.1 hw _ h2;simp only[decide_eq_true_eq]at b1 b2;exact⟨k0,k1,b1,b2,n0,n1⟩
theorem open_acts {H:Type}{enc:TypeId×Value->H}{W:World}{sp:Nat->Bool}{held:Bool}{fuel:Nat}{cs:List Value}{x:DataW H×List MemPlace}(h:DataW.trod enc Tryz.prog W 0 sp held fuel 36 cs=some x):
 ∃(ao:Option Addr) (cap:Nat) (l:List ActD),cs=[.slice ao l.length cap]/\l.length<=cap/\cap<=maxLen/\Rows 4 encAct W.heap.size W ao l/\∀a∈l,a.fits (x.1.weights Tryz.prog 36):=by
 rcases open_slice Tryz.underlying36 h with ⟨rfl,rfl⟩ | ⟨a,len,cap,m,n,D,Pl,rfl,hb,hl,hm,hmm,rfl,hx⟩
 · exact⟨none,0,[],rfl,qL _,by simp[maxLen],Rows.nil _ _ _ _ _,λ_ h=>by cases h⟩
 have hlm:len<=m:=by rw[hmm];split<;>omega
 have each:∀i,i<len->∃q:ActD,(∀(j:Nat) (v:Value),(encAct q)[j]? =some v->W.cell? (a.add (i * 4+j))=some v)/\q.fits ((D i).weights Tryz.prog 74):=by
  intro i hi;obtain⟨cs',h1,h2⟩:=hx i (by omega);have ce:Tryz.prog.cellsOf 74=4:=by kernel_rfl
  have c0:Tryz.prog.cellsOf 72=1:=by kernel_rfl
  have c1:Tryz.prog.cellsOf 9=1:=by kernel_rfl
  have c3:Tryz.prog.cellsOf 3=1:=by kernel_rfl
  rw[ce]at h1;obtain⟨_,hlen,hcell⟩:=World.cells?_some h1;obtain⟨y0,y1,y2,y3,k,hxy,_,g0,g1,g2,g3⟩:=trod_struct4 Tryz.underlying74 h2
  match cs',hlen with
  | [v0,v1,v2,v3],_=>
    simp[c0,c1,c3]at g0 g1 g2 g3;obtain⟨kd,e0,rfl,w0⟩:=DataW.trod_int Tryz.underlying72 g0;obtain⟨key,e1,rfl,_⟩:=DataW.trod_string Tryz.underlying9 g1;obtain⟨val,e2,rfl,_⟩:=DataW.trod_string Tryz.underlying9 g2;obtain⟨num,e3,rfl,w3⟩:=DataW.trod_int Tryz.underlying3 g3;simp only[List.cons.injEq,and_true]at e0 e1 e2 e3;subst e0 e1 e2 e3;refine⟨⟨kd,key,val,num⟩,λj v hj=>?_,?_,?_,?_,?_⟩
    · have hj4:j<4:=(qF.1 hj).1
      have:=hcell j hj4
      rw[add_add]at this;rw[this];exact hj
    · simpa [Lit.wf,IntKind.min,IntKind.max,IntKind.signed,IntKind.bits] using w0
    · simpa [Lit.wf,IntKind.min,IntKind.max,IntKind.signed,IntKind.bits] using w3
    · rw[show D i=_ from (Prod.mk.inj hxy).1,Lib.size_eq]
      simp[DataW.weights,Tryz.underlying74,DataW.weightsEach]
    · rw[show D i=_ from (Prod.mk.inj hxy).1,Lib.size_eq]
      simp[DataW.weights,Tryz.underlying74,DataW.weightsEach]
 obtain⟨q,hq⟩:=choose_lt each;refine⟨some a,cap,(List.range len).map q,by simp,by simpa using hl,hm,?_,?_⟩
 · intro hne
   have hpos:0<len:=by
    rcases Nat.eq_zero_or_pos len with h0 | h0
    · subst h0;exact absurd rfl hne
    · exact h0
   obtain⟨b,off,spot⟩:=a;have h00:=(hq 0 hpos).1 0 _ rfl
   have hs:spot=none/\b<W.heap.size:=by
    unfold Addr.add at h00;simp only[Nat.zero_mul,Nat.add_zero,if_true]at h00;unfold World.cell? at h00;cases hb:W.heap[b]? with
    | none=>simp[hb]at h00
    | some o=>
      refine⟨?_,lt_of_block hb⟩;cases spot with
      | none=>rfl
      | some s=>cases o<;>simp[hb]at h00
   obtain⟨rfl,hbl⟩:=hs;refine⟨b,off,rfl,hbl,λi x hi j v hj=>?_⟩
   obtain⟨hil,hix⟩:i<len/\q i=x:=by
    rw[List.getElem?_map]at hi;by_cases hil:i<len
    · simp[hil]at hi;exact⟨hil,hi⟩
    · rw[List.getElem?_eq_none (by simpa using hil)]at hi;cases hi
   subst hix
   have:=(hq i hil).1 j v hj
   rw[add_plain]at this;rw[Nat.add_assoc];exact this
 · intro y hy
   obtain⟨i,hi,rfl⟩:=List.mem_map.1 hy;have hi':=List.mem_range.1 hi;obtain⟨r1,r2,r3,r4⟩:=(hq i hi').2
   have up:∀z∈(D i).weights Tryz.prog 74,z∈DataW.weights Tryz.prog 36 (.slice ((List.range len).map D) ((List.range (m - len)).map λj=>D (len+j))):=λz hz=>by
    simp only[DataW.weights,Tryz.underlying36];exact List.mem_cons_of_mem _ (List.mem_append_left _ (weightsAll_mem (List.mem_map.2 ⟨i,hi,rfl⟩) z hz))
   exact⟨r1,r2,up _ r3,up _ r4⟩
end Go.Proofs.YtmpmggejhnmakaaGreatDoor
/- Holds: as data, and as they lie in cells. -/
namespace Go.Proofs.YtmpmggejhnmakaaGreatDoor
open Go.RowKit
structure HoldV where
 key:ByteArray
 cl:Int
 nm:Int
 ao:Option Addr
 an:Nat
 ac:Nat
 ro:Option Addr
 rn:Nat
 rc:Nat
 put:Bool
 value:ByteArray
def encHV (h:HoldV):List Value:=[.string h.key,.int .i64 h.cl,.int .i64 h.nm,.slice h.ao h.an h.ac,.slice h.ro h.rn h.rc,.bool h.put,.string h.value]
structure HoldD where
 key:ByteArray
 cl:Int
 nm:Int
 acts:List ActD
 reads:List Rd
 put:Bool
 value:ByteArray
theorem one_hold:∀(x:HoldV),∀u∈encHV x,u.oneCell'=true:=by
 intro x u hu;simp only[encHV,List.mem_cons,List.not_mem_nil,or_false]at hu;rcases hu with rfl | rfl | rfl | rfl | rfl | rfl | rfl<;>rfl
def NRows {α:Type}(sz:Nat)(enc:α->List Value)(no:Nat->Prop)(w:World)(ao:Option Addr)(l:List α):Prop:=
 l≠[]->∃b off,ao=some ⟨b,off,none⟩/\b<w.heap.size/\¬no b/\∀(i:Nat) (x:α),l[i]? =some x->∀(j:Nat) (v:Value),(enc x)[j]? =some v->w.cell? ⟨b,off+i * sz+j,none⟩=some v
theorem NRows.rows {α:Type}{sz:Nat}{enc:α->List Value}{no:Nat->Prop}{w:World}{ao:Option Addr}{l:List α}(h:NRows sz enc no w ao l):Rows sz enc w.heap.size w ao l:=by
 intro hne;obtain⟨b,off,rfl,hb,_,hc⟩:=h hne;exact⟨b,off,rfl,hb,hc⟩
theorem Rows.nrows {α:Type}{sz:Nat}{enc:α->List Value}{no:Nat->Prop}{B:Nat}{w:World}{ao:Option Addr}{l:List α}(h:Rows sz enc B w ao l)(hB:B<=w.heap.size)(hno:∀b,b<B->¬no b):NRows sz enc no w ao l:=by
 intro hne;obtain⟨b,off,rfl,hb,hc⟩:=h hne;exact⟨b,off,rfl,by omega,hno b hb,hc⟩
theorem NRows.but {α:Type}{sz:Nat}{enc:α->List Value}{no S:Nat->Prop}{w w':World}{ao:Option Addr}{l:List α}(h:NRows sz enc no w ao l)(hx:But S w w')(hS:∀b,b<w.heap.size->S b->no b):NRows sz enc no w' ao l:=by
 intro hne;obtain⟨b,off,rfl,hb,hn,hc⟩:=h hne;exact⟨b,off,rfl,by have:=hx.size;omega,hn,λi x hi j v hj=>(hx.cell (p:=⟨b,_,none⟩) hb (λe=>hn (hS b hb e))).trans (hc i x hi j v hj)⟩
theorem NRows.ext {α:Type}{sz:Nat}{enc:α->List Value}{no:Nat->Prop}{w w':World}{ao:Option Addr}{l:List α}(h:NRows sz enc no w ao l)(hx:Ext w w'):NRows sz enc no w' ao l:=
 h.but (Ext.but hx (λ_=>False)) (λ_ _ e=>e.elim)
theorem NRows.mono {α:Type}{sz:Nat}{enc:α->List Value}{no no':Nat->Prop}{w:World}{ao:Option Addr}{l:List α}(h:NRows sz enc no w ao l)(hno:∀b,b<w.heap.size->no' b->no b):NRows sz enc no' w ao l:=by
 intro hne;obtain⟨b,off,rfl,hb,hn,hc⟩:=h hne;exact⟨b,off,rfl,hb,λe=>hn (hno b hb e),hc⟩
theorem nrows_of_own {α:Type}{sz:Nat}{enc:α->List Value}{no:Nat->Prop}{B:Nat}{e:TypeId}{w:World}{ro:Option Addr}{cap:Nat}{l:List α}(hsz:∀x,(enc x).length=sz)(h:w.ownsRow B e sz (.slice ro l.length cap) l.length (l.flatMap enc))(hno:∀k,(Value.slice ro l.length cap).ownBlock=some k->¬no k):NRows sz enc no w ro l:=by
 obtain⟨ao,c,hv,_,_,hr⟩:=Rows.own hsz h;simp only[Value.slice.injEq,true_and]at hv;obtain⟨rfl,rfl⟩:=hv;intro hne;obtain⟨b,off,rfl,hb,hc⟩:=hr hne;exact⟨b,off,rfl,hb,hno b (by simp[Value.ownBlock]),hc⟩
structure HoldV.is (w:World)(no:Nat->Prop)(v:HoldV)(d:HoldD):Prop where
 key:v.key=d.key
 cl:v.cl=d.cl
 nm:v.nm=d.nm
 an:v.an=d.acts.length
 rn:v.rn=d.reads.length
 put:v.put=d.put
 value:v.value=d.value
 acts:NRows 4 encAct no w v.ao d.acts
 reads:NRows 3 encRd no w v.ro d.reads
theorem HoldV.is.but {w w':World}{no S:Nat->Prop}{v:HoldV}{d:HoldD}(h:v.is w no d)(hx:But S w w')(hS:∀b,b<w.heap.size->S b->no b):v.is w' no d:=
 ⟨h.key,h.cl,h.nm,h.an,h.rn,h.put,h.value,h.acts.but hx hS,h.reads.but hx hS⟩
theorem HoldV.is.ext {w w':World}{no:Nat->Prop}{v:HoldV}{d:HoldD}(h:v.is w no d)(hx:Ext w w'):v.is w' no d:=
 ⟨h.key,h.cl,h.nm,h.an,h.rn,h.put,h.value,h.acts.ext hx,h.reads.ext hx⟩
theorem HoldV.is.mono {w:World}{no no':Nat->Prop}{v:HoldV}{d:HoldD}(h:v.is w no d)(hno:∀b,b<w.heap.size->no' b->no b):v.is w no' d:=
 ⟨h.key,h.cl,h.nm,h.an,h.rn,h.put,h.value,h.acts.mono hno,h.reads.mono hno⟩
def HoldsAre (w:World)(no:Nat->Prop):List HoldV->List HoldD->Prop
 | [],[]=>True
 | v::vs,d::ds=>v.is w no d/\HoldsAre w no vs ds
 | _,_=>False
theorem HoldsAre.len {w:World}{no:Nat->Prop}:∀{vs:List HoldV}{ds:List HoldD},HoldsAre w no vs ds->vs.length=ds.length
 | [],[],_=>rfl
 | [],_::_,h=>h.elim
 | _::_,[],h=>h.elim
 | _::_,_::_,h=>by rw[List.length_cons,List.length_cons,HoldsAre.len h.2]
theorem HoldsAre.but {w w':World}{no S:Nat->Prop}(hx:But S w w')(hS:∀b,b<w.heap.size->S b->no b):∀{vs:List HoldV}{ds:List HoldD},HoldsAre w no vs ds->HoldsAre w' no vs ds
 | [],[],_=>trivial
 | [],_::_,h=>h.elim
 | _::_,[],h=>h.elim
 | _::_,_::_,h=>⟨h.1.but hx hS,HoldsAre.but hx hS h.2⟩
theorem HoldsAre.ext {w w':World}{no:Nat->Prop}(hx:Ext w w'):∀{vs:List HoldV}{ds:List HoldD},HoldsAre w no vs ds->HoldsAre w' no vs ds:=
 HoldsAre.but (Ext.but hx (λ_=>False)) (λ_ _ e=>e.elim)
theorem HoldsAre.mono {w:World}{no no':Nat->Prop}(hno:∀b,b<w.heap.size->no' b->no b):∀{vs:List HoldV}{ds:List HoldD},HoldsAre w no vs ds->HoldsAre w no' vs ds
 | [],[],_=>trivial
 | [],_::_,h=>h.elim
 | _::_,[],h=>h.elim
 | _::_,_::_,h=>⟨h.1.mono hno,HoldsAre.mono hno h.2⟩
theorem HoldsAre.at {w:World}{no:Nat->Prop}:∀{vs:List HoldV}{ds:List HoldD},HoldsAre w no vs ds->∀(i:Nat)(v:HoldV),vs[i]? =some v->∃d,ds[i]? =some d/\v.is w no d
 | [],[],_,i,v,h=>by simp at h
 | [],_::_,h,_,_,_=>h.elim
 | _::_,[],h,_,_,_=>h.elim
 | v0::vs,d0::ds,h,0,v,hv=>⟨d0,rfl,by simp at hv;subst hv;exact h.1⟩
 | v0::vs,d0::ds,h,i+1,v,hv=>HoldsAre.at h.2 i v (by simpa using hv)
theorem HoldsAre.append {w:World}{no:Nat->Prop}:∀{vs:List HoldV}{ds:List HoldD}{vs':List HoldV}{ds':List HoldD},HoldsAre w no vs ds->HoldsAre w no vs' ds'->HoldsAre w no (vs++vs') (ds++ds')
 | [],[],_,_,_,h=>h
 | [],_::_,_,_,h,_=>h.elim
 | _::_,[],_,_,h,_=>h.elim
 | _::_,_::_,_,_,h,h'=>⟨h.1,HoldsAre.append h.2 h'⟩
theorem HoldsAre.take {w:World}{no:Nat->Prop}:∀{vs:List HoldV}{ds:List HoldD},HoldsAre w no vs ds->∀k,HoldsAre w no (vs.take k) (ds.take k)
 | [],[],_,k=>by simp[HoldsAre]
 | [],_::_,h,_=>h.elim
 | _::_,[],h,_=>h.elim
 | _::_,_::_,_,0=>trivial
 | _::_,_::_,h,k+1=>⟨h.1,HoldsAre.take h.2 k⟩
theorem HoldsAre.drop {w:World}{no:Nat->Prop}:∀{vs:List HoldV}{ds:List HoldD},HoldsAre w no vs ds->∀k,HoldsAre w no (vs.drop k) (ds.drop k)
 | [],[],_,k=>by simp[HoldsAre]
 | [],_::_,h,_=>h.elim
 | _::_,[],h,_=>h.elim
 | _::_,_::_,h,0=>h
 | _::_,_::_,h,k+1=>HoldsAre.drop h.2 k
theorem HoldsAre.keys {w:World}{no:Nat->Prop}:∀{vs:List HoldV}{ds:List HoldD},HoldsAre w no vs ds->vs.map (·.key)=ds.map (·.key)
 | [],[],_=>rfl
 | [],_::_,h=>h.elim
 | _::_,[],h=>h.elim
 | _::_,_::_,h=>by rw[List.map_cons,List.map_cons,h.1.key,HoldsAre.keys h.2]
def readBad (key:ByteArray)(r:Rd):Bool:= !decide (r.key.toList=key.toList)||decide (20<(r.value.size:Int))||(!r.is&& !r.value.toList.isEmpty)
theorem readBad_calls (r:Rd)(key:ByteArray)(bx:Nat)(w:World)(hb:bx<w.heap.size)(hc:w.cell? ⟨bx,0,none⟩=some (.string key)):Calls Tryz.prog 220 #[.agg (encRd r).toArray,.pointer (some ⟨bx,0,none⟩)] w λe w'=>e= .returned (.bool (readBad key r))/\Ext w w':=by
 obtain⟨rk,is,rv⟩:=r;have HX:=qA (show Ext w (w.alloc (.cells #[.string rk,.bool is,.string rv] 239)) from (qK _ w).alloc (qL _) _);have hn:readBad key ⟨rk,is,rv⟩=(!decide (rk.toList=key.toList)||decide (20<(rv.size:Int))||(!is&& !rv.toList.isEmpty)):=rfl;have HN:=qA hn;clear hn;have hne:bx≠w.heap.size:=by omega
 by_cases g1:rk.toList=key.toList<;>cases g2:decide (20<(rv.size:Int))<;>cases g4:rv.toList.isEmpty<;>cases is
 all_goals
  simp only[g1,g2,g4,decide_true,decide_false]at HN;unfold encRd;go_enter Tryz.func220,Tryz.ntmps220;go_wp2_with fail;go_ret;exact⟨ret_bool (by rw[HN.out];rfl),HX.out⟩
theorem indexR_calls (q:Nat->Rd->Bool)(bx:Nat)(l:List Rd)(ao:Option Addr)(cap:Nat)(w:World)(hl:l.length<=1000000)(hr:Rows 3 encRd w.heap.size w ao l)
 (hq:∀i x,l[i]? =some x->∀W,Ext w W->Calls Tryz.prog 220 #[.agg (encRd x).toArray,.pointer (some ⟨bx,0,none⟩)] W λe w'=>e= .returned (.bool (q i x))/\Ext W w'):
 Calls Tryz.prog 250 #[.slice ao l.length cap,.func (.func 220) #[] #[.pointer (some ⟨bx,0,none⟩)]] w λe w'=>∃k:Int,e= .returned (.int .i64 k)/\(k<0↔ ∀i x,l[i]? =some x->q i x=false)/\Ext w w':=by
 have HR:=qA hr;have HF:=qA hq;clear hr hq;go_enter Tryz.func250,Tryz.ntmps250;go_wp2_with fail;go_loopw [8] (λi wr=>∃(k:Nat),k<=l.length/\i= .int .i64 k/\(∀i x,i<k->l[i]? =some x->q i x=false)/\Ext w wr) (λi _=>l.length - (intOf i).toNat)
 case atStart=>exact⟨0,by omega,rfl,λi x h=>by omega,qK _ _⟩
 case round=>
  obtain⟨k,hk,rfl,ha,hx⟩:=hrel;have K1:=qA ha;have K2:=qA hx;clear ha hx;by_cases hlt:k<l.length
  · obtain⟨x,hx⟩:∃x,l[k]? =some x:=⟨_,qE hlt⟩
    obtain⟨b,off,rfl,hb,hcell⟩:=HR.out (by intro e;rw[e]at hlt;simp at hlt);have hcx:=hcell k x hx;have hmove:∀j,wr.cell? ⟨b,j,none⟩=w.cell? ⟨b,j,none⟩:=λj=>K2.out.cell (p:=⟨b,j,none⟩) hb;have HX:=qA hx;have hcc:=HF.out k x hx;obtain⟨rk,is,rv⟩:=x;have d0:=(hmove _).trans (hcx 0 _ rfl);have d1:=(hmove _).trans (hcx 1 _ rfl);have d2:=(hmove _).trans (hcx 2 _ rfl);simp only[Nat.add_zero]at d0;have CC:=qA hcc;have i0:(0:Int)<=(k:Int):=by omega
    have i1:(k:Int)<(l.length:Int):=by omega
    clear hcell hcx hmove hx hcc;cases hrb:q k ⟨rk,is,rv⟩
    · have RB:=qA hrb;clear hrb
      go_wp2_with fail;refine (CC.out _ K2.out).mono ?_;rw[RB.out];rintro e w' ⟨rfl,hx2⟩;have X2:=qA hx2;clear hx2;go_wp2_with fail;go_roundw
      case rel=>
       refine⟨k+1,by omega,by go_num,λi x hi hx=>?_,qJ K2.out X2.out⟩;rcases Nat.lt_or_ge i k with h | h
       · exact K1.out i x h hx
       · obtain rfl:i=k:=by omega
         rw[HX.out]at hx;rw[<- Option.some.inj hx];exact RB.out
      case measure=>simp[intOf];omega
    · have RB:=qA hrb;clear hrb
      go_wp2_with fail;refine (CC.out _ K2.out).mono ?_;rw[RB.out];rintro e w' ⟨rfl,hx2⟩;have X2:=qA hx2;clear hx2;go_wp2_with fail;go_ret;exact⟨k,ret_int (by omega),⟨λh=>absurd h (by omega),λh=>by have:=h k _ HX.out;rw[RB.out]at this;cases this⟩,qJ K2.out X2.out⟩
  · go_wp2_with fail
    go_ret;exact⟨-1,ret_int (by omega),⟨λ_ i x hx=>K1.out i x (by have:=(qF.1 hx).1;omega) hx,λ_=>by omega⟩,K2.out⟩
theorem containsR_calls (q:Nat->Rd->Bool)(bx:Nat)(l:List Rd)(ao:Option Addr)(cap:Nat)(w:World)(hl:l.length<=1000000)(hr:Rows 3 encRd w.heap.size w ao l)
 (hq:∀i x,l[i]? =some x->∀W,Ext w W->Calls Tryz.prog 220 #[.agg (encRd x).toArray,.pointer (some ⟨bx,0,none⟩)] W λe w'=>e= .returned (.bool (q i x))/\Ext W w'):
 Calls Tryz.prog 219 #[.slice ao l.length cap,.func (.func 220) #[] #[.pointer (some ⟨bx,0,none⟩)]] w λe w'=>∃b:Bool,e= .returned (.bool b)/\(b=false↔ ∀i x,l[i]? =some x->q i x=false)/\Ext w w':=by
 have HR:=qA hr;have HF:=qA hq;clear hr hq;go_enter Tryz.func219,Tryz.ntmps219;go_wp2_with fail;refine (indexR_calls q bx l ao cap _ hl HR.out HF.out).mono ?_;rintro e w' ⟨k,rfl,hk,hx⟩;have X2:=qA hx;have K2:=qA hk;clear hx hk;go_wp2_with fail;go_ret;exact⟨decide (0<=k),ret_bool rfl,by rw[<- K2.out];simp,X2.out⟩
theorem indexH_calls (q:Nat->HoldV->Bool)(l:List HoldV)(ao:Option Addr)(cap:Nat)(w:World)(hl:l.length<=1000000)(hr:Rows 7 encHV w.heap.size w ao l)
 (hq:∀i x,l[i]? =some x->∀W,Ext w W->Calls Tryz.prog 185 #[.agg (encHV x).toArray] W λe w'=>e= .returned (.bool (q i x))/\Ext W w'):
 Calls Tryz.prog 218 #[.slice ao l.length cap,.func (.func 185) #[] #[]] w λe w'=>∃k:Int,e= .returned (.int .i64 k)/\(k<0↔ ∀i x,l[i]? =some x->q i x=false)/\Ext w w':=by
 have HR:=qA hr;have HF:=qA hq;clear hr hq;go_enter Tryz.func218,Tryz.ntmps218;go_wp2_with fail;go_loopw [8] (λi wr=>∃(k:Nat),k<=l.length/\i= .int .i64 k/\(∀i x,i<k->l[i]? =some x->q i x=false)/\Ext w wr) (λi _=>l.length - (intOf i).toNat)
 case atStart=>exact⟨0,by omega,rfl,λi x h=>by omega,qK _ _⟩
 case round=>
  obtain⟨k,hk,rfl,ha,hx⟩:=hrel;have K1:=qA ha;have K2:=qA hx;clear ha hx;by_cases hlt:k<l.length
  · obtain⟨x,hx⟩:∃x,l[k]? =some x:=⟨_,qE hlt⟩
    obtain⟨b,off,rfl,hb,hcell⟩:=HR.out (by intro e;rw[e]at hlt;simp at hlt);have hcx:=hcell k x hx;have hmove:∀j,wr.cell? ⟨b,j,none⟩=w.cell? ⟨b,j,none⟩:=λj=>K2.out.cell (p:=⟨b,j,none⟩) hb;have HX:=qA hx;have hcc:=HF.out k x hx;obtain⟨key,cl,nm,xo,xn,xc,yo,yn,yc,put,value⟩:=x;have d0:=(hmove _).trans (hcx 0 _ rfl);have d1:=(hmove _).trans (hcx 1 _ rfl);have d2:=(hmove _).trans (hcx 2 _ rfl);have d3:=(hmove _).trans (hcx 3 _ rfl);have d4:=(hmove _).trans (hcx 4 _ rfl);have d5:=(hmove _).trans (hcx 5 _ rfl);have d6:=(hmove _).trans (hcx 6 _ rfl);simp only[Nat.add_zero]at d0;have CC:=qA hcc;have i0:(0:Int)<=(k:Int):=by omega
    have i1:(k:Int)<(l.length:Int):=by omega
    clear hcell hcx hmove hx hcc;cases hrb:q k ⟨key,cl,nm,xo,xn,xc,yo,yn,yc,put,value⟩
    · have RB:=qA hrb;clear hrb
      go_wp2_with fail;refine (CC.out _ K2.out).mono ?_;rw[RB.out];rintro e w' ⟨rfl,hx2⟩;have X2:=qA hx2;clear hx2;go_wp2_with fail;go_roundw
      case rel=>
       refine⟨k+1,by omega,by go_num,λi x hi hx=>?_,qJ K2.out X2.out⟩;rcases Nat.lt_or_ge i k with h | h
       · exact K1.out i x h hx
       · obtain rfl:i=k:=by omega
         rw[HX.out]at hx;rw[<- Option.some.inj hx];exact RB.out
      case measure=>simp[intOf];omega
    · have RB:=qA hrb;clear hrb
      go_wp2_with fail;refine (CC.out _ K2.out).mono ?_;rw[RB.out];rintro e w' ⟨rfl,hx2⟩;have X2:=qA hx2;clear hx2;go_wp2_with fail;go_ret;exact⟨k,ret_int (by omega),⟨λh=>absurd h (by omega),λh=>by have:=h k _ HX.out;rw[RB.out]at this;cases this⟩,qJ K2.out X2.out⟩
  · go_wp2_with fail
    go_ret;exact⟨-1,ret_int (by omega),⟨λ_ i x hx=>K1.out i x (by have:=(qF.1 hx).1;omega) hx,λ_=>by omega⟩,K2.out⟩
theorem containsH_calls (q:Nat->HoldV->Bool)(l:List HoldV)(ao:Option Addr)(cap:Nat)(w:World)(hl:l.length<=1000000)(hr:Rows 7 encHV w.heap.size w ao l)
 (hq:∀i x,l[i]? =some x->∀W,Ext w W->Calls Tryz.prog 185 #[.agg (encHV x).toArray] W λe w'=>e= .returned (.bool (q i x))/\Ext W w'):
 Calls Tryz.prog 184 #[.slice ao l.length cap,.func (.func 185) #[] #[]] w λe w'=>∃b:Bool,e= .returned (.bool b)/\(b=false↔ ∀i x,l[i]? =some x->q i x=false)/\Ext w w':=by
 have HR:=qA hr;have HF:=qA hq;clear hr hq;go_enter Tryz.func184,Tryz.ntmps184;go_wp2_with fail;refine (indexH_calls q l ao cap _ hl HR.out HF.out).mono ?_;rintro e w' ⟨k,rfl,hk,hx⟩;have X2:=qA hx;have K2:=qA hk;clear hx hk;go_wp2_with fail;go_ret;exact⟨decide (0<=k),ret_bool rfl,by rw[<- K2.out];simp,X2.out⟩
def ThereIs (w:World)(p:Option Addr)(b:Bool):Prop:=(p=none/\b=false)\/∃hb,p=some ⟨hb,0,none⟩/\w.cell? ⟨hb,1,none⟩=some (.bool b)
theorem ThereIs.ext {w w':World}{p:Option Addr}{b:Bool}(h:ThereIs w p b)(hx:Ext w w'):ThereIs w' p b:=by
 rcases h with h | ⟨hb,rfl,hc⟩
 · exact .inl h
 · exact .inr ⟨hb,rfl,(hx.cell (p:=⟨hb,1,none⟩) (block_lt_of_cell hc)).trans hc⟩
theorem there_calls (p:Option Addr)(b:Bool)(w:World)(h:ThereIs w p b):
 Calls Tryz.prog 106 #[.pointer p] w λe w'=>e= .returned (.bool b)/\w=w':=by
 rcases h with ⟨rfl,rfl⟩ | ⟨hb,rfl,hc⟩
 · go_enter Tryz.func106,Tryz.ntmps106
   go_wp2_with fail;go_ret;exact⟨rfl,rfl⟩
 · go_enter Tryz.func106,Tryz.ntmps106
   go_wp2_with fail;go_ret;exact⟨ret_bool rfl,rfl⟩
theorem new_calls (w:World):Calls Tryz.prog 98 #[] w λe w'=>e= .returned (.pointer (some ⟨w.heap.size,0,none⟩))/\w'=w.alloc (.cells #[.slice none 0 0,.bool true] 180):=by
 go_enter Tryz.func98,Tryz.ntmps98;go_wp2_with fail;go_ret;exact⟨rfl,rfl⟩
theorem many_calls (hb:Nat)(ao:Option Addr)(n c:Nat)(w:World)(hc:w.cell? ⟨hb,0,none⟩=some (.slice ao n c))(hm:w.cell? ⟨hb,1,none⟩=some (.bool true)):
 Calls Tryz.prog 129 #[.pointer (some ⟨hb,0,none⟩)] w λe w'=>e= .returned (.int .i64 n)/\w=w':=by
 have HT:=qA (there_calls (some ⟨hb,0,none⟩) true w (.inr ⟨hb,rfl,hm⟩));clear hm;go_enter Tryz.func129,Tryz.ntmps129;go_wp2_with (go_at_call 106;refine HT.out.mono ?_;rintro e w' ⟨rfl,rfl⟩);go_ret;exact⟨ret_int (by omega),rfl⟩
def ActD.small (a:ActD):Prop:=a.key.size<=140737488351232/\a.value.size<=140737488351232
def Rd.small (a:Rd):Prop:=a.key.size<=140737488351232/\a.value.size<=140737488351232
structure HoldD.small (d:HoldD):Prop where
 ks:d.key.size<=140737488351232
 vs:d.value.size<=140737488351232
 an:d.acts.length<=9223372036854775807
 rn:d.reads.length<=9223372036854775807
 acts:∀a∈d.acts,a.small
 reads:∀r∈d.reads,r.small
def actsN (most:Nat):Nat->List ActD->Nat
 | n,[]=>n
 | n,a::l=>if n<=most then actsN most (n+1+a.key.size / 8+a.value.size / 8) l else n
theorem actsN_over {most n:Nat}(h:¬n<=most)(l:List ActD):actsN most n l=n:=by cases l<;>simp[actsN,h]
theorem actsN_drop {most n:Nat}(h:n<=most)(l:List ActD)(k:Nat)(x:ActD)(hx:l[k]? =some x):actsN most n (l.drop k)=actsN most (n+1+x.key.size / 8+x.value.size / 8) (l.drop (k+1)):=by
 obtain⟨hk,he⟩:=qF.1 hx;rw[List.drop_eq_getElem_cons hk,he,actsN,if_pos h]
theorem actsN_le {most:Nat}:∀(l:List ActD)(n:Nat),actsN most n l<=most->n+l.length<=most
 | [],n,h=>by simpa [actsN] using h
 | a::l,n,h=>by
   rw[actsN]at h
   split at h
   · have:=actsN_le l _ h
     rw[List.length_cons];omega
   · omega
theorem actsOf_calls (l:List ActD)(ao:Option Addr)(cap most:Nat)(w:World)(hm:most<=1000000)(hl:l.length<=9223372036854775807)(hr:Rows 4 encAct w.heap.size w ao l)(hs:∀a∈l,a.small):
 Calls Tryz.prog 31 #[.slice ao l.length cap,.int .i64 most] w λe w'=>e= .returned (.int .i64 (actsN most 0 l))/\Ext w w':=by
 have HR:=qA hr;have HS:=qA hs;clear hr hs;obtain⟨R,hR⟩:∃R,R=actsN most 0 l:=⟨_,rfl⟩;have H0:=qA hR;rw[<- hR];clear hR;go_enter Tryz.func31,Tryz.ntmps31;go_wp2_with fail;go_loopw [5,6] (λvn vi wr=>∃n k:Nat,k<=l.length/\vn= .int .i64 n/\vi= .int .i64 k/\n<=100000000000000/\R=actsN most n (l.drop k)/\Ext w wr) (λ_ vi _=>l.length - (intOf vi).toNat)
 case atStart=>exact⟨0,0,by omega,rfl,rfl,by omega,H0.out,qK _ _⟩
 case round=>
  obtain⟨n,k,hk,rfl,rfl,hn,hR,hx⟩:=hrel;have K1:=qA hx;have K2:=qA hR;clear hx hR;by_cases hlt:k<l.length
  · by_cases hle:n<=most
    · obtain⟨x,hx⟩:∃x,l[k]? =some x:=⟨_,qE hlt⟩
      obtain⟨hk8,hv8⟩:=HS.out x (qH hx);obtain⟨b,off,rfl,hb,hcell⟩:=HR.out (by intro e;rw[e]at hlt;simp at hlt);have hcx:=hcell k x hx;have hmove:∀j,wr.cell? ⟨b,j,none⟩=w.cell? ⟨b,j,none⟩:=λj=>K1.out.cell (p:=⟨b,j,none⟩) hb;have hdr:=actsN_drop hle l k x hx;obtain⟨kd,key,val,num⟩:=x;have d1:=ExtBy.cell ((hmove _).trans (hcx 1 _ rfl));have d2:=ExtBy.cell ((hmove _).trans (hcx 2 _ rfl));have ii0:(0:Int)<=(k:Int):=by omega
      have i1:(k:Int)<(l.length:Int):=by omega
      simp only at hk8 hv8 hdr;have HDR:=qA hdr;clear hcell hcx hmove hx hdr;go_wp2_with fail;refine wp_region_ext (by kernel_rfl) (by kernel_rfl) ?_
      repeat (go_big_quiet_step (fail))
      refine wpQuiet_nil ?_;intro wc hw';have hxc:Ext wr wc:=by obtain⟨p,rfl⟩:=hw';exact p.ext
      have XC:=qA hxc;clear hxc hw' d1 d2;go_wp2_with fail;go_roundw
      case rel=>exact⟨n+1+key.size / 8+val.size / 8,k+1,by omega,by go_num,by go_num,by omega,by rw[K2.out,HDR.out],qJ K1.out XC.out⟩
      case measure=>simp[intOf];omega
    · have hov:=actsN_over hle (l.drop k)
      have HO:=qA hov;clear hov;go_wp2_with fail;go_ret;exact⟨ret_int (by rw[K2.out,HO.out]),K1.out⟩
  · have hov:actsN most n (l.drop k)=n:=by rw[List.drop_of_length_le (by omega)];rfl
    have HO:=qA hov;clear hov;go_wp2_with fail;go_ret;exact⟨ret_int (by rw[K2.out,HO.out]),K1.out⟩
end Go.Proofs.YtmpmggejhnmakaaGreatDoor
