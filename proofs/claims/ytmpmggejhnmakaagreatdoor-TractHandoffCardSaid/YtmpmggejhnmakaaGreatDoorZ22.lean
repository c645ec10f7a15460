/- holds: what is read of bytes, plainly. -/
import Derived.Test.YtmpmggejhnmakaaGreatDoorZ20
import Derived.Test.YtmpmggejhnmakaaGreatDoorZ06
import Derived.Test.YtmpmggejhnmakaaGreatDoorZ02
import Derived.Deep.DeepMust
import Derived.Test.YtmpmggejhnmakaaGreatDoorZ13
import Derived.Test.YtmpmggejhnmakaaGreatDoorZ01
set_option maxRecDepth 100000
set_option maxHeartbeats 3200000
namespace Go.Proofs.YtmpmggejhnmakaaGreatDoor
open Go.RowKit
def actS (key:ByteArray)(s:RSt):ActD×Bool×RSt:=
 (⟨(numS 3 s).1,key,⟨(rowS 20 (numS 3 s).2).1.toArray⟩,if (flagS (rowS 20 (numS 3 s).2).2).1=true then -((numS 1073741824 (flagS (rowS 20 (numS 3 s).2).2).2).1:Int) else (numS 1073741824 (flagS (rowS 20 (numS 3 s).2).2).2).1⟩,
   !(flagS (rowS 20 (numS 3 s).2).2).1||decide (0<(numS 1073741824 (flagS (rowS 20 (numS 3 s).2).2).2).1),(numS 1073741824 (flagS (rowS 20 (numS 3 s).2).2).2).2)
theorem actS_eq {key:ByteArray}{s s1 s2 s3 s4:RSt}{kd n:Nat}{v:List UInt8}{b:Bool}(h1:numS 3 s=(kd,s1))(h2:rowS 20 s1=(v,s2))(h3:flagS s2=(b,s3))(h4:numS 1073741824 s3=(n,s4)):
 actS key s=(⟨kd,key,⟨v.toArray⟩,if b=true then -(n:Int) else n⟩,!b||decide (0<n),s4):=by
 simp only[actS,h1,h2,h3,h4]
def actsK (key:ByteArray)(s:RSt):Nat->List ActD×Bool×RSt
 | 0=>([],true,s)
 | k+1=>((actsK key s k).1++[(actS key (actsK key s k).2.2).1],(actsK key s k).2.1&&(actS key (actsK key s k).2.2).2.1,(actS key (actsK key s k).2.2).2.2)
theorem actsK_len (key:ByteArray)(s:RSt):∀k,(actsK key s k).1.length=k
 | 0=>rfl
 | k+1=>by rw[actsK,qG,actsK_len key s k];rfl
def actsS (key:ByteArray)(s:RSt):List ActD×Bool×RSt:=actsK key (numS 6 s).2 (numS 6 s).1
def readS (key:ByteArray)(s:RSt):Rd×RSt:=(⟨key,(flagS s).1,⟨(rowS 20 (flagS s).2).1.toArray⟩⟩,(rowS 20 (flagS s).2).2)
def readsK (key:ByteArray)(s:RSt):Nat->List Rd×RSt
 | 0=>([],s)
 | k+1=>((readsK key s k).1++[(readS key (readsK key s k).2).1],(readS key (readsK key s k).2).2)
theorem readsK_len (key:ByteArray)(s:RSt):∀k,(readsK key s k).1.length=k
 | 0=>rfl
 | k+1=>by rw[readsK,qG,readsK_len key s k];rfl
def readsS (key:ByteArray)(s:RSt):List Rd×RSt:=readsK key (numS 6 s).2 (numS 6 s).1
def holdS (s:RSt):HoldD×Bool×RSt:=
 let k:=rowS 20 s
 let c:=numS 8 k.2
 let n:=numS 1073741824 c.2
 let a:=actsS ⟨k.1.toArray⟩ n.2
 let r:=readsS ⟨k.1.toArray⟩ a.2.2
 let p:=flagS r.2
 let v:=rowS 20 p.2
 let d:HoldD:=⟨⟨k.1.toArray⟩,c.1,n.1,a.1,r.1,p.1,⟨v.1.toArray⟩⟩
 (d,a.2.1&&holdB d,v.2)
theorem holdS_eq {s s1 s2 s3 s4 s5 s6 s7:RSt}{k v:List UInt8}{c n:Nat}{a:List ActD}{ok p:Bool}{r:List Rd}(h1:rowS 20 s=(k,s1))(h2:numS 8 s1=(c,s2))(h3:numS 1073741824 s2=(n,s3))(h4:actsS ⟨k.toArray⟩ s3=(a,ok,s4))(h5:readsS ⟨k.toArray⟩ s4=(r,s5))(h6:flagS s5=(p,s6))(h7:rowS 20 s6=(v,s7)):
 holdS s=(⟨⟨k.toArray⟩,c,n,a,r,p,⟨v.toArray⟩⟩,ok&&holdB ⟨⟨k.toArray⟩,c,n,a,r,p,⟨v.toArray⟩⟩,s7):=by
 simp only[holdS,h1,h2,h3,h4,h5,h6,h7]
def nextB (l:List HoldD)(d:HoldD):Bool:=match l.getLast? with | none=>true | some x=>decide (x.key.data.toList<d.key.data.toList)
def holdsK (s:RSt):Nat->Option (List HoldD×RSt)
 | 0=>some ([],s)
 | k+1=>match holdsK s k with
   | none=>none
   | some (l,s1)=>if ((holdS s1).2.1&& !(holdS s1).2.2.fl&&nextB l (holdS s1).1)=true then some (l++[(holdS s1).1],(holdS s1).2.2) else none
def holdsS (s:RSt):Option (List HoldD×RSt):=match holdsK (numS 60 s).2 (numS 60 s).1 with
 | none=>none
 | some (l,s1)=>if s1.fl=true then none else some (l,s1)
theorem size_mk (l:List UInt8):(⟨l.toArray⟩:ByteArray).size=l.length:=rfl
theorem actS_ok (key:ByteArray)(s:RSt)(hk:key.size<=1000):(actS key s).1.ok:=by
 have h1:=numS_le 3 s;have h2:=(rowS_len 20 (numS 3 s).2).1;have h3:=numS_le 1073741824 (flagS (rowS 20 (numS 3 s).2).2).2;unfold actS ActD.ok;simp only[size_mk];refine⟨by omega,by omega,by omega,by omega,?_,?_⟩<;>split<;>omega
theorem actsK_ok (key:ByteArray)(s:RSt)(hk:key.size<=1000):∀k,∀a∈(actsK key s k).1,a.ok
 | 0,a,h=>by simp[actsK]at h
 | k+1,a,h=>by
   rw[actsK]at h;rcases List.mem_append.1 h with h | h
   · exact actsK_ok key s hk k a h
   · rw[List.mem_singleton]at h;subst h;exact actS_ok key _ hk
theorem readsK_ok (key:ByteArray)(s:RSt):∀k,∀a∈(readsK key s k).1,a.value.size<=1000
 | 0,a,h=>by simp[readsK]at h
 | k+1,a,h=>by
   rw[readsK]at h;rcases List.mem_append.1 h with h | h
   · exact readsK_ok key s k a h
   · rw[List.mem_singleton]at h;subst h
     have:=(rowS_len 20 (flagS (readsK key s k).2).2).1
     simp only[readS,size_mk];omega
theorem holdS_ok (s:RSt):(holdS s).1.ok:=by
 have h1:=(rowS_len 20 s).1;have hk:(⟨(rowS 20 s).1.toArray⟩:ByteArray).size<=1000:=by rw[size_mk];omega
 refine⟨λa ha=>actsK_ok _ _ hk _ a ha,?_,?_,?_,?_,λr hr=>?_⟩
 · show (actsS _ _).1.length<=_
   rw[actsS,actsK_len];have:=numS_le 6 (numS 1073741824 (numS 8 (rowS 20 s).2).2).2;omega
 · show (readsS _ _).1.length<=_
   rw[readsS,readsK_len];have:=numS_le 6 (actsS ⟨(rowS 20 s).1.toArray⟩ (numS 1073741824 (numS 8 (rowS 20 s).2).2).2).2.2;omega
 · exact qM hk (by omega)
 · show (⟨_⟩:ByteArray).size<=_
   rw[size_mk];exact qM (rowS_len 20 _).1 (by omega)
 · exact qM (readsK_ok _ _ _ r hr) (by omega)
theorem failed_calls (B rb cap:Nat)(ao:Option Addr)(s:RSt)(w:World)(T:Rdr w B rb ao cap s):Calls Tryz.prog 197 #[.pointer (some ⟨rb,0,none⟩)] w λe w'=>e= .returned (.bool s.fl)/\w=w':=by
 obtain⟨fl,l⟩:=s;have HT:=qA T;clear T;cases fl with
 | true=>
   go_enter Tryz.func197,Tryz.ntmps197;go_wp2_with fail;refine (left_read B rb cap ao _ w HT.out).mono ?_;rintro e w1 ⟨rfl,rfl⟩;go_wp2_with fail;refine (end_read B rb cap ao _ w HT.out).mono ?_;rintro e w1 ⟨rfl,rfl⟩;have hE:endE ⟨true,l⟩=4:=by simp[endE]
   go_wp2_with fail;go_ret;exact⟨rfl,rfl⟩
 | false=>
   cases l with
   | nil=>
     go_enter Tryz.func197,Tryz.ntmps197;go_wp2_with fail;refine (left_read B rb cap ao _ w HT.out).mono ?_;rintro e w1 ⟨rfl,rfl⟩;go_wp2_with fail;refine (end_read B rb cap ao _ w HT.out).mono ?_;rintro e w1 ⟨rfl,rfl⟩;have hE:endE ⟨false,[]⟩=0:=by simp[endE]
     go_wp2_with fail;go_ret;exact⟨rfl,rfl⟩
   | cons b l=>
     have h0:((((b::l).length:Nat):Int)==0)=false:=by simp;omega
     have h1:0<(b::l).length:=by simp
     generalize b::l=r at *;go_enter Tryz.func197,Tryz.ntmps197;go_wp2_with fail;refine (left_read B rb cap ao _ w HT.out).mono ?_;rintro e w1 ⟨rfl,rfl⟩;go_wp2_with fail;go_ret;exact⟨rfl,rfl⟩
theorem But.set1 (w:World)(b i:Nat)(v:Value):But (λj=>j=b) w (w.setCell ⟨b,i,none⟩ v):=(But.refl (λj=>j=b) w).here rfl i v
theorem But.set2 (w:World)(b i i':Nat)(v v':Value):But (λj=>j=b) w ((w.setCell ⟨b,i,none⟩ v).setCell ⟨b,i',none⟩ v'):=(But.set1 w b i v).here rfl i' v'
theorem cells_new' (w:World)(cs:List Value)(t:TypeId)(g:Nat)(hg:g=w.heap.size):∀(j:Nat)(u:Value),cs[j]? =some u->(w.alloc (.cells cs.toArray t)).cell? ((⟨g,0,none⟩:Addr).add j)=some u:=by
 subst hg;exact cells_new w cs t
def ActsPost (B rb:Nat)(l:List ActD)(ok:Bool)(s:RSt)(w:World)(e:Ending)(w':World):Prop:=
 (∃v,e= .returned (.tuple #[v,.bool ok])/\w'.ownsRow 0 74 4 v l.length (l.flatMap encAct)/\(∀j,v.ownBlock=some j->w.heap.size<=j))/\RdPost B rb s w w'
theorem acts_read (B rb cap:Nat)(ao:Option Addr)(s:RSt)(key:ByteArray)(w:World)(T:Rdr w B rb ao cap s)(hBw:B<=w.heap.size):
 Calls Tryz.prog 224 #[.pointer (some ⟨rb,0,none⟩),.string key] w (ActsPost B rb (actsS key s).1 (actsS key s).2.1 (actsS key s).2.2 w):=by
 obtain⟨i0,hi,hz0,hz1,hz2⟩:=info_parts infoAct;have HT:=qA T;have hrb:=T.blk.lt;clear T;have hle:=numS_le 6 s;go_enter Tryz.func224,Tryz.ntmps224;go_wp2_with fail;refine (number_read B rb cap ao s 6 w HT.out (by omega)).mono ?_;rintro e w1 ⟨rfl,⟨ao1,cap1,h1⟩,h2⟩;have H1:=qA h1;have H2:=qA h2;clear h1 h2;generalize hns:numS 6 s=ns at *;obtain⟨n,s1⟩:=ns;have HN:=qA hns;clear hns;simp only at hle;go_wp2_with fail;go_loopw [4,5,10] (λvo vk vi wr=>∃(k:Nat) (ao':Option Addr) (cap':Nat),vi= .int .i64 k/\k<=n/\vk= .bool (actsK key s1 k).2.1/\wr.ownsRow 0 74 4 vo (actsK key s1 k).1.length ((actsK key s1 k).1.flatMap encAct)/\(∀j,vo.ownBlock=some j->w.heap.size<=j)/\Rdr wr B rb ao' cap' (actsK key s1 k).2.2/\But (λj=>j=rb) w wr) (λ_ _ vi _=>n - (intOf vi).toNat)
 case atStart=>exact⟨0,ao1,cap1,rfl,by omega,rfl,World.ownsRow_nil _ _ _ _,by simp[Value.ownBlock],H1.out,H2.out⟩
 case round=>
  obtain⟨k,ao',cap',rfl,hk,rfl,hown,hnew,hT,hB⟩:=hrel;have O1:=qA hown;have N1:=qA hnew;have T1:=qA hT;have B1:=qA hB;clear hown hnew hT hB;by_cases hlt:k<n
  · have hlen:=actsK_len key s1 k
    have hsucc:actsK key s1 (k+1)=((actsK key s1 k).1++[(actS key (actsK key s1 k).2.2).1],(actsK key s1 k).2.1&&(actS key (actsK key s1 k).2.2).2.1,(actS key (actsK key s1 k).2.2).2.2):=rfl;generalize hak:actsK key s1 k=ak at *;obtain⟨q,ok,s2⟩:=ak;have hb1:=numS_le 3 s2;obtain⟨kd,s3,e1⟩:∃kd s3,numS 3 s2=(kd,s3):=⟨_,_,rfl⟩;obtain⟨val,s4,e2⟩:∃val s4,rowS 20 s3=(val,s4):=⟨_,_,rfl⟩;obtain⟨bl,s5,e3⟩:∃bl s5,flagS s4=(bl,s5):=⟨_,_,rfl⟩;obtain⟨m,s6,e4⟩:∃m s6,numS 1073741824 s5=(m,s6):=⟨_,_,rfl⟩;have hb2:=numS_le 1073741824 s5;rw[e1]at hb1;rw[e4]at hb2;have hact:=actS_eq (key:=key) e1 e2 e3 e4;simp only at hsucc hlen hb1 hb2 O1 T1;rw[hact]at hsucc;have HS:=qA hsucc;have E1:=qA e1;have E2:=qA e2;have E3:=qA e3;have E4:=qA e4;have HL:=qA hlen;have HAK:=qA hak;clear hsucc e1 e2 e3 e4 hlen hact hak;go_wp2_with fail;refine (number_read B rb cap' ao' s2 3 wr T1.out (by omega)).mono ?_;rw[E1.out];rintro e w2 ⟨rfl,⟨ao2,cap2,h1⟩,h2⟩;have H3:=qA h1;have H4:=qA h2;clear h1 h2;go_wp2_with fail;refine (text_read B rb cap2 ao2 s3 20 w2 H3.out (by omega)).mono ?_;rw[E2.out];rintro e w3 ⟨rfl,⟨ao3,cap3,h1⟩,h2⟩;have H5:=qA h1;have H6:=qA h2;clear h1 h2;go_wp2_with fail;have hN:rb<w3.heap.size:=qN hrb (qM B1.out.size (qM H4.out.size H6.out.size));have hbox:=Blk.new w3 [.int .u8 kd,.string key,.string ⟨val.toArray⟩,.int .i64 0] 74;have hxb:Ext w3 (w3.alloc (.cells #[.int .u8 kd,.string key,.string ⟨val.toArray⟩,.int .i64 0] 74)):=(qK _ w3).alloc (qL _) _;have HB:=qA hbox;have XB:=qA hxb;have HNN:=qA hN;clear hbox hxb hN
    refine (flag_read B rb cap3 ao3 s4 _ (H5.out.ext XB.out)).mono ?_;rw[E3.out];rintro e w4 ⟨rfl,⟨ao4,cap4,h1⟩,h2⟩;have hb4:=HB.out.but h2 (by have:=HNN.out;show ¬w3.heap.size=rb;omega);have hB4:But (λj=>j=rb) w3 w4:=(Ext.but XB.out (λ_=>False)).trans h2 (λ_ _ e=>e.elim) (λ_ _ e=>e);have hn4:=qM XB.out.size h2.size;generalize hNe:w3.heap.size=N at *;have H7:=qA h1;have H8:=qA hB4;have HB4:=qA hb4;have HNE:=qA hNe;clear h1 h2 hb4 hB4 HB XB hn4 hNe;go_wp2_with fail;refine (number_read B rb cap4 ao4 s5 1073741824 w4 H7.out (by omega)).mono ?_;rw[E4.out];rintro e w5 ⟨rfl,⟨ao5,cap5,h1⟩,h2⟩;have hb5:=HB4.out.but h2 (by have:=HNN.out;show ¬N=rb;omega);have c0:=hb5.cell 0;have c1:=hb5.cell 1;have c2:=hb5.cell 2;have c3:=hb5.cell 3;have f3:=hb5.free 3;simp only[qB,qC]at c0 c1 c2 c3;have H9:=qA h1;have H10:=qA h2;have HB5:=qA hb5;clear h1 h2 hb5;have hsz5:w.heap.size<=w5.heap.size:=qM (qM B1.out.size H4.out.size) (qM H6.out.size (qM H8.out.size H10.out.size));have hB5:But (λj=>j=rb) wr w5:=((H4.out.trans H6.out (λ_ _ e=>e) (λ_ _ e=>e)).trans H8.out (λ_ _ e=>e) (λ_ _ e=>e)).trans H10.out (λ_ _ e=>e) (λ_ _ e=>e);have hNge:wr.heap.size<=N:=by have:=HNE.out;have:=H4.out.size;have:=H6.out.size;omega
    have hO5:w5.ownsRow 0 74 4 u4 q.length (q.flatMap encAct):=own_but O1.out hB5 (λj hj e=>by have:=N1.out j hj;omega);have hO6:∀W,But (λj=>j=N) w5 W->W.ownsRow 0 74 4 u4 q.length (q.flatMap encAct):=λW hW=>own_but hO5 hW (λj hj e=>by have:=(O1.out.lt j hj).2;omega);have O6:=qA hO6;have BB:=qA hB5;have HSZ:=qA hsz5;have HNG:=qA hNge;have hql:q.length<=6:=by have:=HL.out;omega
    clear hO5 hO6 hB5 hsz5 hNge;have key:(bl=false)\/(bl=true/\ok=false)\/(bl=true/\ok=true/\0<m)\/(bl=true/\ok=true/\¬0<m):=by cases bl<;>cases ok<;>simp;omega
    rcases key with rfl | ⟨rfl,rfl⟩ | ⟨rfl,rfl,hm0⟩ | ⟨rfl,rfl,hm0⟩
    case' inr.inr.inl=>have t2:decide ((0:Int)<(m:Int))=true:=by simp;omega
    case' inr.inr.inr=>have t2:decide ((0:Int)<(m:Int))=false:=by simp;omega
    all_goals
     go_wp2_with (at_builtin;go_must ((first | refine wpList_append_at _ rfl _ _ 36 rfl 74 i0 _ 4 48 Tryz.underlying36 hi hz0 hz1 hz2 rfl (by decide) u4 q.length (q.flatMap encAct) rfl (own_ext (O6.out _ (But.set2 _ _ _ _ _ _)) ((qK _ _).alloc (qL _) _)) ⟨_,0,none⟩ 1 1 (encAct ⟨kd,key,⟨val.toArray⟩,(-(m:Int))⟩) rfl rfl (cells_new' ((w5.setCell ⟨N,3,none⟩ (.int .i64 (m:Int))).setCell ⟨N,3,none⟩ (.int .i64 (-(m:Int)))) (encAct ⟨kd,key,⟨val.toArray⟩,(-(m:Int))⟩) _ _ (by simp)) (one_act _) (by decide) (by unfold maxLen;omega) (by omega) ?_ | refine wpList_append_at _ rfl _ _ 36 rfl 74 i0 _ 4 48 Tryz.underlying36 hi hz0 hz1 hz2 rfl (by decide) u4 q.length (q.flatMap encAct) rfl (own_ext (O6.out _ (But.set1 _ _ _ _)) ((qK _ _).alloc (qL _) _)) ⟨_,0,none⟩ 1 1 (encAct ⟨kd,key,⟨val.toArray⟩,(m:Int)⟩) rfl rfl (cells_new' (w5.setCell ⟨N,3,none⟩ (.int .i64 (m:Int))) (encAct ⟨kd,key,⟨val.toArray⟩,(m:Int)⟩) _ _ (by simp)) (one_act _) (by decide) (by unfold maxLen;omega) (by omega) ?_);intro g cap2 w6 hown' hbut hkept;have Y1:=qA hown';have Y2:=qA hbut;have Y3:=qA hkept;clear hown' hbut hkept));have hNw:w.heap.size<=N:=qM B1.out.size HNG.out;have hu4:∀j,u4.ownBlock=some j->w.heap.size<=j:=N1.out
     have hb56:But (λj=>w.heap.size<=j) w5 w6:=by
      first
      | exact ((But.set2 w5 N 3 3 (.int .i64 (m:Int)) (.int .i64 (-(m:Int)))).alloc _).trans Y2.out (λ_ _ e=>by subst e;exact hNw) (λi _ e=>hu4 i e)
      | exact ((But.set1 w5 N 3 (.int .i64 (m:Int))).alloc _).trans Y2.out (λ_ _ e=>by subst e;exact hNw) (λi _ e=>hu4 i e)
     have hk3:∀j,(Value.slice (some ⟨g,0,none⟩) (q.length+1) cap2).ownBlock=some j->w.heap.size<=j:=λj hj=>by
      rcases Y3.out j hj with e | e
      · exact hu4 j e
      · have:=HSZ.out
        simp at e;omega
     go_roundw
     case rel=>
      refine⟨k+1,ao5,cap5,by go_num,by omega,?_,?_,hk3,?_,?_⟩
      · rw[HS.out];first | rfl | (simp;done) | (simp;omega)
      · rw[HS.out]
        have:=Y1.out
        simp only[qG,List.flatMap_append,List.flatMap_singleton,List.length_singleton];exact this
      · rw[HS.out]
        exact H9.out.but hb56 (λb hb e=>by omega)
      · exact (B1.out.trans BB.out (λ_ _ e=>e) (λ_ _ e=>e)).trans hb56 (λ_ _ e=>e) (λi hi e=>absurd hi (Nat.not_lt.2 e))
     case measure=>simp[intOf];omega
  · have hkn:k=n:=by omega
    subst hkn;go_wp2_with fail;go_ret2
    have:actsS key s=actsK key s1 k:=by simp[actsS,HN.out]
    rw[this];exact⟨⟨_,rfl,O1.out,N1.out⟩,⟨_,_,T1.out⟩,B1.out⟩
theorem Blk.set7 {w:World}{b:Nat}{t:TypeId}{u0 u1 u2 u3 u4 u5 u6:Value}(h:Blk w b [u0,u1,u2,u3,u4,u5,u6] t)(v0 v1 v2 v3 v4 v5 v6:Value):
 Blk (((((((w.setCell ⟨b,0,none⟩ v0).setCell ⟨b,1,none⟩ v1).setCell ⟨b,2,none⟩ v2).setCell ⟨b,3,none⟩ v3).setCell ⟨b,4,none⟩ v4).setCell ⟨b,5,none⟩ v5).setCell ⟨b,6,none⟩ v6) b [v0,v1,v2,v3,v4,v5,v6] t:=
 ((((((h.set 0 v0).set 1 v1).set 2 v2).set 3 v3).set 4 v4).set 5 v5).set 6 v6
theorem but_set7 (w:World)(b:Nat)(v0 v1 v2 v3 v4 v5 v6:Value):
 But (λj=>j=b) w (((((((w.setCell ⟨b,0,none⟩ v0).setCell ⟨b,1,none⟩ v1).setCell ⟨b,2,none⟩ v2).setCell ⟨b,3,none⟩ v3).setCell ⟨b,4,none⟩ v4).setCell ⟨b,5,none⟩ v5).setCell ⟨b,6,none⟩ v6):=
 (((((But.set2 w b 0 1 v0 v1).here rfl 2 v2).here rfl 3 v3).here rfl 4 v4).here rfl 5 v5).here rfl 6 v6
def HoldPost (B rb:Nat)(d:HoldD)(ok:Bool)(s:RSt)(w:World)(e:Ending)(w':World):Prop:=
 (∃x:HoldV,e= .returned (.tuple #[.agg (encHV x).toArray,.bool ok])/\x.is w' (λb=>b<w.heap.size) d)/\RdPost B rb s w w'
theorem hold_read (rb cap:Nat)(B:Nat)(ao:Option Addr)(s:RSt)(w:World)(T:Rdr w B rb ao cap s)(hBw:B<=w.heap.size):
 Calls Tryz.prog 196 #[.pointer (some ⟨rb,0,none⟩)] w (HoldPost B rb (holdS s).1 (holdS s).2.1 (holdS s).2.2 w):=by
 obtain⟨i0,hi,hz0,hz1,hz2⟩:=info_parts infoRd;have HT:=qA T;have hrb:=T.blk.lt;clear T;have hb1:=numS_le 8 (rowS 20 s).2;obtain⟨kk,s1,e1⟩:∃kk s1,rowS 20 s=(kk,s1):=⟨_,_,rfl⟩;rw[e1]at hb1;simp only at hb1;obtain⟨c,s2,e2⟩:∃c s2,numS 8 s1=(c,s2):=⟨_,_,rfl⟩;have hb2:=numS_le 1073741824 s2;obtain⟨n,s3,e3⟩:∃n s3,numS 1073741824 s2=(n,s3):=⟨_,_,rfl⟩;obtain⟨a,ok,s4,e4⟩:∃a ok s4,actsS ⟨kk.toArray⟩ s3=(a,ok,s4):=⟨_,_,_,rfl⟩;rw[e2]at hb1;rw[e3]at hb2;simp only at hb1 hb2;have hb3:=numS_le 6 s4;obtain⟨m,s5,e5⟩:∃m s5,numS 6 s4=(m,s5):=⟨_,_,rfl⟩;rw[e5]at hb3;simp only at hb3;have E1:=qA e1;have E2:=qA e2;have E3:=qA e3;have E4:=qA e4;have E5:=qA e5;clear e1 e2 e3 e4 e5;have h0:=Blk.new w [.string ⟨#[]⟩,.int .i64 0,.int .i64 0,.slice none 0 0,.slice none 0 0,.bool false,.string ⟨#[]⟩] 48;have x0:Ext w (w.alloc (.cells #[.string ⟨#[]⟩,.int .i64 0,.int .i64 0,.slice none 0 0,.slice none 0 0,.bool false,.string ⟨#[]⟩] 48)):=(qK _ w).alloc (qL _) _;have B0:=qA h0;have X0:=qA x0;clear h0 x0;go_enter Tryz.func196,Tryz.ntmps196;go_wp2_with fail;refine (text_read B rb cap ao s 20 _ (HT.out.ext X0.out) (by omega)).mono ?_;rw[E1.out];rintro e w1 ⟨rfl,⟨ao1,cap1,h1⟩,h2⟩;generalize hNe:w.heap.size=N at *;have hNrb:¬N=rb:=by omega
 have hb:=B0.out.but h2 hNrb;have c0:=hb.cell 0;have f0:=hb.free 0;simp only[qB]at c0;have hS:∀b,b<B->¬b=N:=λb hb e=>by omega
 have hx1:But (λj=>j=rb) w w1:=(Ext.but X0.out (λ_=>False)).trans h2 (λ_ _ e=>e.elim) (λ_ _ e=>e);have H1:=qA h1;have H2:=qA hx1;have HB1:=qA hb;have HS:=qA hS;have HNE:=qA hNe;clear h1 h2 hb hS B0 X0 hx1 hNe;go_wp2_with fail;refine (number_read B rb cap1 ao1 s1 8 _ (H1.out.but (But.set1 _ _ _ _) HS.out) (by omega)).mono ?_;rw[E2.out];rintro e w2 ⟨rfl,⟨ao2,cap2,h1⟩,h2⟩;have hb:=(HB1.out.set 0 (.string ⟨kk.toArray⟩)).but h2 hNrb;have c1:=hb.cell 1;have f1:=hb.free 1;simp only[qB,qC,List.set_cons_zero]at c1 hb;have hx2:But (λj=>j=rb\/j=N) w w2:=(H2.out.trans (But.set1 _ N 0 _) (λ_ _ e=> .inl e) (λ_ _ e=> .inr e)).trans h2 (λ_ _ e=>e) (λ_ _ e=> .inl e);have H3:=qA h1;have H4:=qA hx2;have HB2:=qA hb;clear h1 h2 hb c0 f0 H1 H2 HB1 hx2;go_wp2_with fail;refine (number_read B rb cap2 ao2 s2 1073741824 _ (H3.out.but (But.set1 _ _ _ _) HS.out) (by omega)).mono ?_;rw[E3.out];rintro e w3 ⟨rfl,⟨ao3,cap3,h1⟩,h2⟩;have hb:=(HB2.out.set 1 (.int .i64 (c:Int))).but h2 hNrb;have c2:=hb.cell 2;have f2:=hb.free 2;have c0:=hb.cell 0;simp only[qB,qC,List.set_cons_zero,List.set_cons_succ]at c2 c0 hb;have hx3:But (λj=>j=rb\/j=N) w w3:=(H4.out.trans (But.set1 _ N 1 _) (λ_ _ e=>e) (λ_ _ e=> .inr e)).trans h2 (λ_ _ e=>e) (λ_ _ e=> .inl e);have H5:=qA h1;have H6:=qA hx3;have HB3:=qA hb;clear h1 h2 hb c1 f1 H3 H4 HB2 hx3;have hsz3:=HB3.out.lt;go_wp2_with fail;refine (acts_read B rb cap3 ao3 s3 ⟨kk.toArray⟩ _ (H5.out.but (But.set1 _ _ _ _) HS.out) (by simp;omega)).mono ?_;rw[E4.out];rintro e w4 ⟨⟨va,rfl,ha1,ha2⟩,⟨ao4,cap4,h1⟩,h2⟩
 obtain⟨po,pc,rfl⟩:=own_slice ha1;obtain⟨va,hva⟩:∃va,va=Value.slice po a.length pc:=⟨_,rfl⟩;have HVA:=qA hva;rw[<- hva]at ha1 ha2;clear hva;have hb:=(HB3.out.set 2 (.int .i64 (n:Int))).but h2 hNrb;have c3:=hb.cell 3;have f3:=hb.free 3;simp only[qB,qC,List.set_cons_zero,List.set_cons_succ]at c3 hb;have hx4:But (λj=>j=rb\/j=N) w w4:=(H6.out.trans (But.set1 _ N 2 _) (λ_ _ e=>e) (λ_ _ e=> .inr e)).trans h2 (λ_ _ e=>e) (λ_ _ e=> .inl e);have ha3:∀j,va.ownBlock=some j->N<j:=λj hj=>by have:=ha2 j hj;simp at this;omega
 have H7:=qA h1;have H8:=qA hx4;have HB4:=qA hb;have A1:=qA ha1;have A2:=qA ha3;clear h1 h2 hb c2 f2 c0 H5 H6 HB3 hx4 ha1 ha2 ha3 hsz3;go_wp2_with fail;refine (number_read B rb cap4 ao4 s4 6 _ (H7.out.but (But.set1 _ _ _ _) HS.out) (by omega)).mono ?_;rw[E5.out];rintro e w5 ⟨rfl,⟨ao5,cap5,h1⟩,h2⟩;have hb:=(HB4.out.set 3 (Value.slice po a.length pc)).but h2 hNrb;rw[<- HVA.out]at hb;simp only[List.set_cons_zero,List.set_cons_succ]at hb;have ha1:w5.ownsRow 0 74 4 va a.length (a.flatMap encAct):=own_but (own_setOther A1.out (a:=⟨N,3,none⟩) (λe=>by have:=A2.out N e;omega) (Value.slice po a.length pc)) h2 (λj hj e=>by have:=A2.out j hj;omega);have hx5:But (λj=>j=rb\/j=N) w w5:=(H8.out.trans (But.set1 _ N 3 _) (λ_ _ e=>e) (λ_ _ e=> .inr e)).trans h2 (λ_ _ e=>e) (λ_ _ e=> .inl e);have H9:=qA h1;have H10:=qA hx5;have HB5:=qA hb;have A3:=qA ha1;clear h1 h2 hb c3 f3 H7 H8 HB4 hx5 ha1 A1;go_wp2_with fail;go_loopw [26] (λvi wr=>∃(k:Nat) (vr:Value) (ao':Option Addr) (cap':Nat),vi= .int .i64 k/\k<=m/\wr.ownsRow 0 239 3 vr (readsK ⟨kk.toArray⟩ s5 k).1.length ((readsK ⟨kk.toArray⟩ s5 k).1.flatMap encRd)/\(∀j,vr.ownBlock=some j->N<j)/\(∀j,vr.ownBlock=some j->¬va.ownBlock=some j)/\Rdr wr B rb ao' cap' (readsK ⟨kk.toArray⟩ s5 k).2/\Blk wr N [.string ⟨kk.toArray⟩,.int .i64 c,.int .i64 n,va,vr,.bool false,.string ⟨#[]⟩] 48/\wr.ownsRow 0 74 4 va a.length (a.flatMap encAct)/\But (λj=>j=rb\/j=N) w wr) (λvi _=>m - (intOf vi).toNat)
 case atStart=>exact⟨0,.slice none 0 0,ao5,cap5,rfl,by omega,World.ownsRow_nil _ _ _ _,by simp[Value.ownBlock],by simp[Value.ownBlock],H9.out,HB5.out,A3.out,H10.out⟩
 case round=>
  obtain⟨k,vr,ao',cap',rfl,hk,hown,hnew,hap,hT,hbk,hva,hB⟩:=hrel;obtain⟨ro,rc,rfl⟩:=own_slice hown;have O1:=qA hown;have N1:=qA hnew;have T1:=qA hT;have B1:=qA hB;have P1:=qA hap;have K1:=qA hbk;have V1:=qA hva;clear hown hnew hap hT hbk hva hB H9 H10 HB5 A3;by_cases hlt:k<m
  · have hlen:=readsK_len ⟨kk.toArray⟩ s5 k
    have hsucc:readsK ⟨kk.toArray⟩ s5 (k+1)=((readsK ⟨kk.toArray⟩ s5 k).1++[(readS ⟨kk.toArray⟩ (readsK ⟨kk.toArray⟩ s5 k).2).1],(readS ⟨kk.toArray⟩ (readsK ⟨kk.toArray⟩ s5 k).2).2):=rfl;generalize hak:readsK ⟨kk.toArray⟩ s5 k=ak at *;obtain⟨q,s6⟩:=ak;obtain⟨bl,s7,e6⟩:∃bl s7,flagS s6=(bl,s7):=⟨_,_,rfl⟩;obtain⟨val,s8,e7⟩:∃val s8,rowS 20 s7=(val,s8):=⟨_,_,rfl⟩;simp only[readS,e6,e7]at hsucc hlen O1 T1;have SU:=qA hsucc;have E6:=qA e6;have E7:=qA e7;have HL:=qA hlen;clear hsucc e6 e7 hlen hak;have c0:=K1.out.cell 0;simp only[qB]at c0;have c0':∀W,But (λj=>j=rb) wr W->W.cell? ⟨N,0,none⟩=some (.string ⟨kk.toArray⟩):=λW hW=>(hW.cell (p:=⟨N,0,none⟩) K1.out.lt hNrb).trans c0;have C0:=qA c0';clear c0';have hNlt:=K1.out.lt;go_wp2_with fail
    go_region_with (first
     | (go_at_call 72;refine (flag_read B rb cap' ao' s6 wr.drew (T1.out.ext (qK _ _).drew)).mono ?_;rw[E6.out];rintro e w6 ⟨rfl,⟨ao6,cap6,h1⟩,h2⟩;have h3:But (λj=>j=rb) wr w6:=(But.refl (λj=>j=rb) wr).drew.trans h2 (λ_ _ e=>e) (λ_ _ e=>e);have c6:=C0.out w6 h3;have n6:=qN hNlt h3.size;have X1:=qA h1;have X3:=qA h3;clear h1 h2 h3)
     | (go_at_call 72;go_must (refine (flag_read B rb cap' ao' s6 (wr.alloc (.cells #[.string ⟨#[]⟩,.bool false,.string ⟨#[]⟩] 239)).drew (T1.out.ext ((qK _ _).alloc (qL _) _).drew)).mono ?_;rw[E6.out];rintro e w6 ⟨rfl,⟨ao6,cap6,h1⟩,h2⟩;have h3:But (λj=>j=rb) wr w6:=((But.refl (λj=>j=rb) wr).alloc _).drew.trans h2 (λ_ _ e=>e) (λ_ _ e=>e);have c6:=C0.out w6 h3;have n6:=qN hNlt h3.size;have z:=(Blk.new wr [.string ⟨#[]⟩,.bool false,.string ⟨#[]⟩] 239).drew.but h2 (λe=>by have:=K1.out.lt;have e2:wr.heap.size=rb:=e;omega);have z0:=z.cell 0;have z1:=z.cell 1;have z2:=z.cell 2;have y0:=z.free 0;have y1:=z.free 1;have y2:=z.free 2;simp only[qB,qC]at z0 z1 z2;have X1:=qA h1;have X3:=qA h3;have X4:=qA z;clear h1 h2 h3 z)))
    all_goals
     have fA:Hid (∀W,W=w6.alloc (.cells #[.string ⟨kk.toArray⟩,.bool bl,.string ⟨#[]⟩] 239)->Blk W w6.heap.size [.string ⟨kk.toArray⟩,.bool bl,.string ⟨#[]⟩] 239/\Rdr W B rb ao6 cap6 s7/\But (λj=>j=rb) wr W/\wr.heap.size<=w6.heap.size):=
      qA λW hW=>by subst hW;exact⟨Blk.new w6 [.string ⟨kk.toArray⟩,.bool bl,.string ⟨#[]⟩] _,X1.out.ext ((qK _ _).alloc (qL _) _),X3.out.alloc _,X3.out.size⟩
     have fB:Hid (Blk w6 wr.heap.size [.string ⟨#[]⟩,.bool false,.string ⟨#[]⟩] 239->∀W,W=((w6.setCell ⟨wr.heap.size,0,none⟩ (.string ⟨kk.toArray⟩)).setCell ⟨wr.heap.size,1,none⟩ (.bool bl)).setCell ⟨wr.heap.size,2,none⟩ (.string ⟨#[]⟩)->Blk W wr.heap.size [.string ⟨kk.toArray⟩,.bool bl,.string ⟨#[]⟩] 239/\Rdr W B rb ao6 cap6 s7/\But (λj=>j=rb) wr W/\wr.heap.size<=wr.heap.size):=
      qA λhz W hW=>by
       subst hW;have hb3:But (λj=>j=wr.heap.size) w6 (((w6.setCell ⟨wr.heap.size,0,none⟩ (.string ⟨kk.toArray⟩)).setCell ⟨wr.heap.size,1,none⟩ (.bool bl)).setCell ⟨wr.heap.size,2,none⟩ (.string ⟨#[]⟩)):=(But.set2 w6 wr.heap.size 0 1 _ _).here rfl 2 _;exact⟨((hz.set 0 _).set 1 _).set 2 _,X1.out.but hb3 (λb hb e=>by have:=T1.out;omega),X3.out.trans hb3 (λ_ _ e=>e) (λi hi e=>by omega),qL _⟩
     first
     | (have z:=X4.out
        generalize hW7:((w6.setCell ⟨wr.heap.size,0,none⟩ (.string ⟨kk.toArray⟩)).setCell ⟨wr.heap.size,1,none⟩ (.bool bl)).setCell ⟨wr.heap.size,2,none⟩ (.string ⟨#[]⟩)=W7;obtain⟨hb7,hr7,hx7,hge⟩:=fB.out z W7 hW7.symm;clear z;obtain⟨M,hM⟩:∃M,M=wr.heap.size:=⟨_,rfl⟩;rw[<- hM]at hb7 ⊢;replace hge:wr.heap.size<=M:=by omega
        clear hM)
     | (generalize hW7:w6.alloc (.cells #[.string ⟨kk.toArray⟩,.bool bl,.string ⟨#[]⟩] 239)=W7
        obtain⟨hb7,hr7,hx7,hge⟩:=fA.out W7 hW7.symm
        generalize w6.heap.size=M at hb7 hge ⊢)
     have hM7:=hb7.lt;have hNM:¬N=M:=by omega
     have hMrb:¬M=rb:=by omega
     have HB7:=qA hb7;have HR7:=qA hr7;have HX7:=qA hx7;have HG:=qA hge;clear fA fB hb7 hr7 hx7 hge hW7 X1 X3
     try clear X4
     try clear z0 z1 z2 y0 y1 y2
     try clear c6
     clear c0;go_wp2_with fail;refine (text_read B rb cap6 ao6 s7 20 W7 HR7.out (by omega)).mono ?_;rw[E7.out];rintro e w8 ⟨rfl,⟨ao8,cap8,h1⟩,h2⟩;have hb8:=HB7.out.but h2 hMrb;have hN8:=(K1.out.but HX7.out hNrb).but h2 hNrb;have d0:=hb8.cell 0;have d1:=hb8.cell 1;have d2:=hb8.cell 2;have g2:=hb8.free 2;have k3:=hN8.cell 4;simp only[qB,qC]at d0 d1 d2 k3;have hx8:But (λj=>j=rb) wr w8:=HX7.out.trans h2 (λ_ _ e=>e) (λ_ _ e=>e);have hM8:=hb8.lt;have hN8l:=hN8.lt;have HR8:=qA h1;have HX8:=qA hx8;have HB8:=qA hb8;have HN8:=qA hN8;clear h1 h2 hb8 hN8 hx8 HB7 HR7 HX7;have hO8:w8.ownsRow 0 239 3 (.slice ro q.length rc) q.length (q.flatMap encRd):=own_but O1.out HX8.out (λj hj e=>by have:=N1.out j hj;omega);have hO9:=own_setOther hO8 (a:=⟨M,2,none⟩) (λe=>by have:=(O1.out.lt M e).2;have:=HG.out;omega) (.string ⟨val.toArray⟩);have O9:=qA hO9;clear hO8 hO9;have hql:q.length<=6:=by have:=HL.out;omega
     go_wp2_with (at_builtin;go_must (refine wpList_append_at _ rfl _ _ 46 rfl 239 i0 _ 3 40 Tryz.underlying46 hi hz0 hz1 hz2 rfl (by decide) (.slice ro q.length rc) q.length (q.flatMap encRd) rfl (own_ext O9.out ((qK _ _).alloc (qL _) _)) ⟨_,0,none⟩ 1 1 (encRd ⟨⟨kk.toArray⟩,bl,⟨val.toArray⟩⟩) rfl rfl (cells_new' (w8.setCell ⟨M,2,none⟩ (.string ⟨val.toArray⟩)) (encRd ⟨⟨kk.toArray⟩,bl,⟨val.toArray⟩⟩) _ _ (by simp)) (one_rd _) (by decide) (by unfold maxLen;omega) (by omega) ?_;intro g cap2 w9 hown' hbut hkept;have hn9:=((HN8.out.other (a:=⟨M,2,none⟩) hNM (.string ⟨val.toArray⟩)).alloc (.cells (encRd ⟨⟨kk.toArray⟩,bl,⟨val.toArray⟩⟩).toArray 239)).but hbut (λe=>by have:=N1.out N e;omega);have n3:=hn9.cell 4;have m3:=hn9.free 4;simp only[qB,qC]at n3;have Y1:=qA hown';have Y2:=qA hbut;have Y3:=qA hkept;have Y4:=qA hn9;clear hown' hbut hkept hn9));have hwr:N<wr.heap.size:=hNlt;have hb9:But (λj=>N<j) w8 w9:=((But.set1 w8 M 2 (.string ⟨val.toArray⟩)).alloc _).trans Y2.out (λ_ _ e=>by subst e;have:=HG.out;omega) (λi _ e=>N1.out i e)
     have hk3:∀j,(Value.slice (some ⟨g,0,none⟩) (q.length+1) cap2).ownBlock=some j->(Value.slice ro q.length rc).ownBlock=some j\/wr.heap.size<=j:=λj hj=>by
      rcases Y3.out j hj with e | e
      · exact .inl e
      · have:=HX8.out.size
        simp at e;right;omega
     go_roundw
     case rel=>
      refine⟨k+1,.slice (some ⟨g,0,none⟩) (q.length+1) cap2,ao8,cap8,by go_num,by omega,?_,?_,?_,?_,?_,?_,?_⟩
      · rw[SU.out]
        have:=own_setOther Y1.out (a:=⟨N,4,none⟩) (λe=>by rcases hk3 N e with e | e;· have:=N1.out N e;omega
                                                          · omega) (.slice (some ⟨g,0,none⟩) (q.length+1) cap2)
        simp only[qG,List.flatMap_append,List.flatMap_singleton,List.length_singleton];exact this
      · intro j hj
        rcases hk3 j hj with e | e
        · exact N1.out j e
        · omega
      · intro j hj e2
        rcases hk3 j hj with e | e
        · exact P1.out j e e2
        · have:=(V1.out.lt j e2).2;omega
      · rw[SU.out]
        exact (HR8.out.but hb9 (λb hb e=>by omega)).but (But.set1 w9 N 4 _) HS.out
      · have:=Y4.out.set 4 (.slice (some ⟨g,0,none⟩) (q.length+1) cap2)
        exact this
      · have hv9:w9.ownsRow 0 74 4 va a.length (a.flatMap encAct):=by
         refine own_but ((own_setOther (own_but V1.out HX8.out (λj hj e=>by have:=A2.out j hj;omega)) (a:=⟨M,2,none⟩) (λe=>by have:=(V1.out.lt M e).2;have:=HG.out;omega) (.string ⟨val.toArray⟩))) (?_:But (λj=>(Value.slice ro q.length rc).ownBlock=some j) _ w9) (λj hj e=>P1.out j e hj);exact (Ext.but ((qK _ _).alloc (qL _) _) (λ_=>False)).trans Y2.out (λ_ _ e=>e.elim) (λ_ _ e=>e)
        exact own_setOther hv9 (a:=⟨N,4,none⟩) (λe=>by have:=A2.out N e;omega) _
      · exact ((B1.out.trans HX8.out (λ_ _ e=>e) (λ_ _ e=> .inl e)).trans hb9 (U:=λj=>(j=rb\/j=N)\/w.heap.size<=j) (λ_ _ e=> .inl e) (λi hi e=> .inr (by have:=HNE.out;omega))).trans (But.set1 w9 N 4 _) (λi hi e=>e.elim id (λe=>absurd hi (Nat.not_lt.2 e))) (λ_ _ e=> .inr e)
     case measure=>simp[intOf];omega
  · have hkm:k=m:=by omega
    subst hkm;have hrs:readsS ⟨kk.toArray⟩ s4=readsK ⟨kk.toArray⟩ s5 k:=by simp[readsS,E5.out]
    generalize hak:readsK ⟨kk.toArray⟩ s5 k=ak at *;obtain⟨q,s9⟩:=ak;obtain⟨p,s10,e8⟩:∃p s10,flagS s9=(p,s10):=⟨_,_,rfl⟩;obtain⟨val,s11,e9⟩:∃val s11,rowS 20 s10=(val,s11):=⟨_,_,rfl⟩;have hhold:=holdS_eq E1.out E2.out E3.out E4.out hrs e8 e9;have hdok:=holdS_ok s;rw[hhold]at hdok;simp only at hdok O1 T1;have HH:=qA hhold;have HD:=qA hdok;have E8:=qA e8;have E9:=qA e9;clear hrs hak hhold hdok e8 e9;go_wp2_with fail;refine (flag_read B rb cap' ao' s9 wr T1.out).mono ?_;rw[E8.out];rintro e w6 ⟨rfl,⟨ao6,cap6,h1⟩,h2⟩;have hb6:=K1.out.but h2 hNrb;have k5:=hb6.cell 5;have g5:=hb6.free 5;simp only[qB,qC]at k5;have HR6:=qA h1;have HX6:=qA h2;have HB6:=qA hb6;clear h1 h2 hb6;go_wp2_with fail;refine (text_read B rb cap6 ao6 s10 20 _ (HR6.out.but (But.set1 _ _ _ _) HS.out) (by omega)).mono ?_;rw[E9.out];rintro e w7 ⟨rfl,⟨ao7,cap7,h1⟩,h2⟩;have hb7:=(HB6.out.set 5 (.bool p)).but h2 hNrb;have hx7:But (λj=>j=rb\/j=N) wr w7:=(HX6.out.trans (But.set1 w6 N 5 _) (λ_ _ e=> .inl e) (λ_ _ e=> .inr e)).trans h2 (λ_ _ e=>e) (λ_ _ e=> .inl e);simp only[List.set_cons_zero,List.set_cons_succ]at hb7;have k6:=hb7.cell 6;have g6:=hb7.free 6;simp only[qB,qC]at k6;have HR7:=qA h1;have HX7:=qA hx7;have HB7:=qA hb7;clear h1 h2 hb7 hx7 k5 g5;go_wp2_with fail;have hb8:=HB7.out.set 6 (.string ⟨val.toArray⟩);simp only[List.set_cons_zero,List.set_cons_succ]at hb8;have hx8:But (λj=>j=rb\/j=N) wr (w7.setCell ⟨N,6,none⟩ (.string ⟨val.toArray⟩)):=HX7.out.trans (But.set1 w7 N 6 _) (λ_ _ e=>e) (λ_ _ e=> .inr e);have hr8:=HR7.out.but (But.set1 w7 N 6 (.string ⟨val.toArray⟩)) HS.out
    generalize w7.setCell ⟨N,6,none⟩ (.string ⟨val.toArray⟩)=w8 at hb8 hx8 hr8 ⊢;have hva8:=own_but V1.out hx8 (λj hj e=>by have:=A2.out j hj;omega);have hvr8:=own_but O1.out hx8 (λj hj e=>by have:=N1.out j hj;omega);have hval:va= .slice po a.length pc:=HVA.out
    have hxis:(HoldV.mk ⟨kk.toArray⟩ c n po a.length pc ro q.length rc p ⟨val.toArray⟩).is w8 (λb=>b<=N) ⟨⟨kk.toArray⟩,c,n,a,q,p,⟨val.toArray⟩⟩:=by
     refine⟨rfl,rfl,rfl,rfl,rfl,rfl,rfl,?_,?_⟩
     · rw[hval]at hva8
       exact nrows_of_own (λ_=>rfl) hva8 (λj hj e=>by have:=A2.out j (by rw[hval];exact hj);omega)
     · exact nrows_of_own (λ_=>rfl) hvr8 (λj hj e=>by have:=N1.out j hj;omega)
    rw[hval]at hb8;have c0:=hb8.cell 0;have c1:=hb8.cell 1;have c2:=hb8.cell 2;have c3:=hb8.cell 3;have c4:=hb8.cell 4;have c5:=hb8.cell 5;have c6:=hb8.cell 6;have f0:=hb8.free 0;have f1:=hb8.free 1;have f2:=hb8.free 2;have f3:=hb8.free 3;have f4:=hb8.free 4;have f5:=hb8.free 5;have f6:=hb8.free 6;simp only[qB,qC]at c0 c1 c2 c3 c4 c5 c6;have HB8:=qA hb8;have HX8:=qA hx8;have HR8:=qA hr8;have XI:=qA hxis;clear hb8 hx8 hr8 hva8 hvr8 hval hxis;cases ok with
    | false=>
      go_region_with fail
      all_goals
       go_wp2_with fail;refine bodyPost_ret (res_row_tmp rfl _ _ N 48 (encHV ⟨⟨kk.toArray⟩,c,n,po,a.length,pc,ro,q.length,rc,p,⟨val.toArray⟩⟩) _ rfl (HB8.out.set7 (.string ⟨kk.toArray⟩) (.int .i64 c) (.int .i64 n) (.slice po a.length pc) (.slice ro q.length rc) (.bool p) (.string ⟨val.toArray⟩)).drew Tryz.underlying48 rfl (by kernel_rfl)) rfl ?_;have hb9:=(but_set7 w8 N (.string ⟨kk.toArray⟩) (.int .i64 c) (.int .i64 n) (.slice po a.length pc) (.slice ro q.length rc) (.bool p) (.string ⟨val.toArray⟩)).drew;refine⟨⟨_,by rw[HH.out];rfl,?_⟩,⟨ao7,cap7,?_⟩,?_⟩
       · rw[HH.out]
         exact (XI.out.but hb9 (λb _ e=>by show b<=N;omega)).mono (λb _ e=>by have:=HNE.out;show b<=N;omega)
       · rw[HH.out]
         exact HR8.out.but hb9 HS.out
       · exact ((B1.out.trans HX8.out (λ_ _ e=>e) (λ_ _ e=>e)).trans hb9 (λ_ _ e=>e) (λ_ _ e=> .inr e)).mono (λi hi e=>e.elim id (λe=>by have:=HNE.out;omega))
    | true=>
      go_region_with (first
       | (go_at_call 186;refine (holdRight_calls ⟨⟨kk.toArray⟩,c,n,po,a.length,pc,ro,q.length,rc,p,⟨val.toArray⟩⟩ _ _ w8.drew (XI.out.ext (qK _ _).drew) HD.out).mono ?_;rintro e w9 ⟨rfl,h1⟩;have hx9:Ext w8 w9:=qJ (qK _ _).drew h1;have hb9:=HB8.out.ext' hx9;have c0:=hb9.cell 0;have c1:=hb9.cell 1;have c2:=hb9.cell 2;have c3:=hb9.cell 3;have c4:=hb9.cell 4;have c5:=hb9.cell 5;have c6:=hb9.cell 6;have f0:=hb9.free 0;have f1:=hb9.free 1;have f2:=hb9.free 2;have f3:=hb9.free 3;have f4:=hb9.free 4;have f5:=hb9.free 5;have f6:=hb9.free 6;simp only[qB,qC]at c0 c1 c2 c3 c4 c5 c6;have X9:=qA hx9;have HB9:=qA hb9;clear h1 hx9 hb9))
      all_goals
       go_wp2_with fail;refine bodyPost_ret (res_row_tmp rfl _ _ N 48 (encHV ⟨⟨kk.toArray⟩,c,n,po,a.length,pc,ro,q.length,rc,p,⟨val.toArray⟩⟩) _ rfl (HB9.out.set7 (.string ⟨kk.toArray⟩) (.int .i64 c) (.int .i64 n) (.slice po a.length pc) (.slice ro q.length rc) (.bool p) (.string ⟨val.toArray⟩)) Tryz.underlying48 rfl (by kernel_rfl)) rfl ?_;have hb9:=(Ext.but X9.out (λ_=>False)).trans (but_set7 w9 N (.string ⟨kk.toArray⟩) (.int .i64 c) (.int .i64 n) (.slice po a.length pc) (.slice ro q.length rc) (.bool p) (.string ⟨val.toArray⟩)) (U:=λj=>j=N) (λ_ _ e=>e.elim) (λ_ _ e=>e);refine⟨⟨_,by rw[HH.out];rfl,?_⟩,⟨ao7,cap7,?_⟩,?_⟩
       · rw[HH.out]
         exact (XI.out.but hb9 (λb _ e=>by show b<=N;omega)).mono (λb _ e=>by have:=HNE.out;show b<=N;omega)
       · rw[HH.out]
         exact HR8.out.but hb9 HS.out
       · exact ((B1.out.trans HX8.out (λ_ _ e=>e) (λ_ _ e=>e)).trans hb9 (λ_ _ e=>e) (λ_ _ e=> .inr e)).mono (λi hi e=>e.elim id (λe=>by have:=HNE.out;omega))
def ReadPost (B rb:Nat)(r:Option (List HoldD×RSt))(w:World)(e:Ending)(w':World):Prop:=match r with
 | none=>e= .returned (.tuple #[.slice none 0 0,.bool false])/\But (λj=>j=rb) w w'
 | some (l,s)=>(∃(v:Value) (q:List HoldV),e= .returned (.tuple #[v,.bool true])/\q.length=l.length/\w'.ownsRow 0 48 7 v q.length (q.flatMap encHV)/\(∀j,v.ownBlock=some j->w.heap.size<=j)/\HoldsAre w' (λb=>v.ownBlock=some b\/b<w.heap.size) q l)/\RdPost B rb s w w'
theorem holdsK_some {s s1:RSt}{k:Nat}{l:List HoldD}(h:holdsK s k=some (l,s1)):holdsK s (k+1)=if ((holdS s1).2.1&& !(holdS s1).2.2.fl&&nextB l (holdS s1).1)=true then some (l++[(holdS s1).1],(holdS s1).2.2) else none:=by
 rw[holdsK,h]
theorem holdsK_prev {s:RSt}{k:Nat}{l:List HoldD}{s1:RSt}(h:holdsK s (k+1)=some (l,s1)):∃l0 s0,holdsK s k=some (l0,s0)/\l=l0++[(holdS s0).1]/\s1=(holdS s0).2.2/\s1.fl=false/\(holdS s0).2.1=true/\nextB l0 (holdS s0).1=true:=by
 cases hk:holdsK s k with
 | none=>rw[holdsK,hk]at h;cases h
 | some p=>
   obtain⟨l0,s0⟩:=p;rw[holdsK_some hk]at h
   split at h
   · rename_i hc
     simp only[Option.some.injEq,Prod.mk.injEq]at h;obtain⟨rfl,rfl⟩:=h;simp only[Bool.and_eq_true,Bool.not_eq_true']at hc;exact⟨l0,s0,rfl,rfl,rfl,hc.1.2,hc.1.1,hc.2⟩
   · cases h
theorem holdsK_len {s:RSt}:∀{k:Nat}{l:List HoldD}{s1:RSt},holdsK s k=some (l,s1)->l.length=k
 | 0,l,s1,h=>by
   simp only[holdsK,Option.some.injEq,Prod.mk.injEq]at h;rw[<- h.1];rfl
 | k+1,l,s1,h=>by
   obtain⟨l0,s0,h1,rfl,_⟩:=holdsK_prev h;rw[qG,holdsK_len h1];rfl
theorem holdsK_none {s:RSt}{k:Nat}(h:holdsK s k=none):∀n,k<=n->holdsK s n=none:=by
 intro n hn
 induction n with
 | zero=>have:k=0:=by omega
         subst this;exact h
 | succ n ih=>
   rcases Nat.eq_or_lt_of_le hn with e | e
   · rw[<- e];exact h
   · rw[holdsK,ih (by omega)]
theorem holdsK_live {s:RSt}{k:Nat}{l:List HoldD}{s1:RSt}(h:holdsK s (k+1)=some (l,s1)):s1.fl=false:=by
 obtain⟨_,_,_,_,_,h,_⟩:=holdsK_prev h;exact h
theorem holdsS_stop {s s1 s2:RSt}{n k:Nat}{l:List HoldD}(hn:numS 60 s=(n,s1))(hk:holdsK s1 k=some (l,s2))(hlt:k<n)(hbad:¬((holdS s2).2.1&& !(holdS s2).2.2.fl&&nextB l (holdS s2).1)=true):holdsS s=none:=by
 have h1:holdsK s1 (k+1)=none:=by rw[holdsK_some hk,if_neg hbad]
 simp only[holdsS,hn,holdsK_none h1 n hlt]
theorem holds_read (B rb cap:Nat)(ao:Option Addr)(s:RSt)(w:World)(T:Rdr w B rb ao cap s)(hBw:B<=w.heap.size):
 Calls Tryz.prog 151 #[.pointer (some ⟨rb,0,none⟩)] w (ReadPost B rb (holdsS s) w):=by
 obtain⟨i0,hi,hz0,hz1,hz2⟩:=info_parts infoHold;have HT:=qA T;have hrb:=T.old;clear T;have hle:=numS_le 60 s;go_enter Tryz.func151,Tryz.ntmps151;go_wp2_with fail;refine (number_read B rb cap ao s 60 w HT.out (by omega)).mono ?_;rintro e w1 ⟨rfl,⟨ao1,cap1,h1⟩,h2⟩;have H1:=qA h1;have H2:=qA h2;clear h1 h2;generalize hns:numS 60 s=ns at *;obtain⟨n,s1⟩:=ns;have HN:=qA hns;clear hns;simp only at hle;go_wp2_with fail;go_loopw [4,12] (λvo vi wr=>∃(k:Nat) (q:List HoldV) (ds:List HoldD) (s2:RSt) (ao':Option Addr) (cap':Nat),vi= .int .i64 k/\k<=n/\holdsK s1 k=some (ds,s2)/\q.length=k/\(k=0->vo= .slice none 0 0)/\wr.ownsRow 0 48 7 vo q.length (q.flatMap encHV)/\(∀j,vo.ownBlock=some j->w.heap.size<=j)/\HoldsAre wr (λb=>vo.ownBlock=some b\/b<w.heap.size) q ds/\Rdr wr B rb ao' cap' s2/\But (λj=>j=rb) w wr) (λ_ vi _=>n - (intOf vi).toNat)
 case atStart=>exact⟨0,[],[],s1,ao1,cap1,rfl,by omega,rfl,rfl,λ_=>rfl,World.ownsRow_nil _ _ _ _,by simp[Value.ownBlock],trivial,H1.out,H2.out⟩
 case round=>
  obtain⟨k,q,ds,s2,ao',cap',rfl,hk,hks,hq,hv0,hown,hnew,hare,hT,hB⟩:=hrel;obtain⟨vo,vc,rfl⟩:=own_slice hown;have KS:=qA hks;have HQ:=qA hq;have V0:=qA hv0;have O1:=qA hown;have N1:=qA hnew;have A1:=qA hare;have T1:=qA hT;have B1:=qA hB;clear hks hq hv0 hown hnew hare hT hB;by_cases hlt:k<n
  · obtain⟨d,ok,s3,e1⟩:∃d ok s3,holdS s2=(d,ok,s3):=⟨_,_,_,rfl⟩
    have E1:=qA e1;clear e1;go_wp2_with fail;refine (hold_read rb cap' B ao' s2 wr T1.out (qM hBw B1.out.size)).mono ?_;rw[E1.out];rintro e w2 ⟨⟨x,rfl,hx⟩,⟨ao2,cap2,h1⟩,h2⟩;obtain⟨kx,cl,nm,xo,xn,xc,yo,yn,yc,put,value⟩:=x;have H3:=qA h1;have H4:=qA h2;have HX:=qA hx;clear h1 h2 hx;simp only[encHV];go_wp2_with fail;have hbox:=Blk.new w2 [.string kx,.int .i64 cl,.int .i64 nm,.slice xo xn xc,.slice yo yn yc,.bool put,.string value] 48;have hxb:Ext w2 (w2.alloc (.cells #[.string kx,.int .i64 cl,.int .i64 nm,.slice xo xn xc,.slice yo yn yc,.bool put,.string value] 48)):=(qK _ w2).alloc (qL _) _;have hr3:=H3.out.ext hxb;have hx3:=HX.out.ext hxb;have hB3:But (λj=>j=rb) wr (w2.alloc (.cells #[.string kx,.int .i64 cl,.int .i64 nm,.slice xo xn xc,.slice yo yn yc,.bool put,.string value] 48)):=H4.out.alloc _;have hN2:wr.heap.size<=w2.heap.size:=H4.out.size;generalize w2.alloc (.cells #[.string kx,.int .i64 cl,.int .i64 nm,.slice xo xn xc,.slice yo yn yc,.bool put,.string value] 48)=w3 at hbox hr3 hx3 hB3 ⊢;generalize w2.heap.size=N at hbox hN2 ⊢;have hd0:d.key=kx:=hx3.key.symm;have HB3:=qA hbox;have HR3:=qA hr3;have HX3:=qA hx3;have BB3:=qA hB3;have HN3:=qA hN2;have HD0:=qA hd0;clear hbox hxb hr3 hx3 hB3 hN2 H3 H4 HX hd0;have HF:Hid (∀p:ExtBy w3,Calls Tryz.prog 197 #[.pointer (some ⟨rb,0,none⟩)] p.W λe w'=>e= .returned (.bool s3.fl)/\p.W=w'):=qA λp=>failed_calls B rb cap2 ao2 s3 p.W (HR3.out.ext p.ext);generalize hfl:s3.fl=fl at *;have HFL:=qA hfl;clear hfl;cases ok with
    | false=>
      refine wp_region_ext (by kernel_rfl) (by kernel_rfl) ?_
      repeat (go_big_quiet_step (fail))
      refine wpQuiet_nil ?_;intro w4 hw';have hx4:Ext w3 w4:=by obtain⟨p,rfl⟩:=hw';exact p.ext
      go_wp2_with fail;go_ret2;rw[holdsS_stop HN.out KS.out hlt (by rw[E1.out];simp)];exact⟨rfl,(B1.out.trans BB3.out (λ_ _ e=>e) (λ_ _ e=>e)).trans (Ext.but hx4 (λ_=>False)) (λ_ _ e=>e) (λ_ _ e=>e.elim)⟩
    | true=>
      cases fl with
      | true=>
        refine wp_region_ext (by kernel_rfl) (by kernel_rfl) ?_
        repeat (go_big_quiet_step (with_reducible exact Calls.ext_of_same _ (HF.out _)))
        refine wpQuiet_nil ?_;intro w4 hw';have hx4:Ext w3 w4:=by obtain⟨p,rfl⟩:=hw';exact p.ext
        go_wp2_with fail;go_ret2;rw[holdsS_stop HN.out KS.out hlt (by rw[E1.out];simp[HFL.out])];exact⟨rfl,(B1.out.trans BB3.out (λ_ _ e=>e) (λ_ _ e=>e)).trans (Ext.but hx4 (λ_=>False)) (λ_ _ e=>e) (λ_ _ e=>e.elim)⟩
      | false=>
        have c0:=HB3.out.cell 0;simp only[qB]at c0;have d0:=ExtBy.cell c0;have hds:=HoldsAre.len A1.out
        have key:(k=0/\nextB ds d=true)\/(∃(j:Nat) (y:HoldV),k=j+1/\q[j]? =some y/\nextB ds d=decide (y.key.data.toList<kx.data.toList)):=by
         rcases Nat.eq_zero_or_pos k with h | h
         · left
           refine⟨h,?_⟩
           have:ds=[]:=List.eq_nil_of_length_eq_zero (by have:=HQ.out;omega)
           rw[this];rfl
         · right
           have hj:k - 1<q.length:=by have:=HQ.out;omega
           refine⟨k - 1,q[k - 1],by omega,qE hj,?_⟩;obtain⟨dy,h1,h2⟩:=A1.out.at (k - 1) _ (qE hj)
           have:ds.getLast? =some dy:=by rw[List.getLast?_eq_getElem?,show ds.length - 1=k - 1 from by have:=HQ.out;omega];exact h1
           rw[nextB,this,HD0.out,h2.key]
        have key2:(k=0/\nextB ds d=true)\/(∃(j:Nat) (y:HoldV),k=j+1/\q[j]? =some y/\Op.bytesLess y.key.toList kx.toList=true/\nextB ds d=true)\/(∃(j:Nat) (y:HoldV),k=j+1/\q[j]? =some y/\Op.bytesLess y.key.toList kx.toList=false/\nextB ds d=false):=by
         rcases key with h | ⟨j,y,h1,h2,h3⟩
         · exact .inl h
         · by_cases hlt2:y.key.data.toList<kx.data.toList
           · exact .inr (.inl ⟨j,y,h1,h2,by rw[Lib.toList_data,Lib.toList_data,bytesLess_eq];exact decide_eq_true hlt2,by rw[h3];exact decide_eq_true hlt2⟩)
           · exact .inr (.inr ⟨j,y,h1,h2,by rw[Lib.toList_data,Lib.toList_data,bytesLess_eq];exact decide_eq_false hlt2,by rw[h3];exact decide_eq_false hlt2⟩)
        have hix:∀(j:Nat) (y:HoldV),k=j+1->q[j]? =some y->∃gb go,vo=some ⟨gb,go,none⟩/\(∀p:ExtBy w3,p.W.cell? ⟨gb,go+j * 7,none⟩=some (.string y.key))/\IntKind.i64.wrap ((k:Int) - 1)=(j:Int)/\(0:Int)<=(j:Int)/\(j:Int)<(q.length:Int):=by
         intro j y hkj hy;obtain⟨ao3,c3,hv,_,_,hr⟩:=Rows.own (enc:=encHV) (sz:=7) (λ_=>rfl) O1.out;simp only[Value.slice.injEq,true_and]at hv;obtain⟨rfl,rfl⟩:=hv;obtain⟨gb,go,rfl,hgb,hcell⟩:=hr (by intro e;rw[e]at hy;simp at hy);have hc:=hcell j y hy 0 _ rfl;have hgr:¬gb=rb:=by have:=N1.out gb rfl;omega
         refine⟨gb,go,rfl,ExtBy.cell ((BB3.out.cell (p:=⟨gb,_,none⟩) hgb hgr).trans hc),?_,by omega,by have:=HQ.out;omega⟩;rw[wraps_i64 _ (by omega) (by omega)];omega
        have HIX:=qA hix;clear key hix hds;rcases key2 with ⟨hk0,hnx⟩ | ⟨j,y,hkj,hy,hbl,hnx⟩ | ⟨j,y,hkj,hy,hbl,hnx⟩
        case' inl=>
         have HNX:=qA hnx;have HK0:=qA hk0;have t1:decide (0<k)=false:=by simp;omega
         clear hnx hk0
        case' inr.inl=>
         obtain⟨gb,go,rfl,d1,hw,j0,j1⟩:=HIX.out j y hkj hy;have HNX:=qA hnx;have HKJ:=qA hkj;have t1:decide (0<k)=true:=by simp;omega
         clear hnx hkj hy
        case' inr.inr=>
         obtain⟨gb,go,rfl,d1,hw,j0,j1⟩:=HIX.out j y hkj hy;have HNX:=qA hnx;have HKJ:=qA hkj;have t1:decide (0<k)=true:=by simp;omega
         clear hnx hkj hy
        all_goals
         refine wp_region_ext (by kernel_rfl) (by kernel_rfl) ?_
         repeat (go_big_quiet_step (with_reducible exact Calls.ext_of_same _ (HF.out _)))
         refine wpQuiet_nil ?_;intro w4 hw';have hx4:Ext w3 w4:=by obtain⟨p,rfl⟩:=hw';exact p.ext
         have hb4:=HB3.out.ext' hx4;have X4:=qA hx4;have HB4:=qA hb4;clear hx4 hw' d0 c0 hb4
        · go_wp2_with fail
          go_ret2;rw[holdsS_stop HN.out KS.out hlt (by rw[E1.out];simp[HNX.out])]
          exact⟨rfl,(B1.out.trans BB3.out (λ_ _ e=>e) (λ_ _ e=>e)).trans (Ext.but X4.out (λ_=>False)) (λ_ _ e=>e) (λ_ _ e=>e.elim)⟩
        · have hb5:=HB4.out
          have c0:=hb5.cell 0;have c1:=hb5.cell 1;have c2:=hb5.cell 2;have c3:=hb5.cell 3;have c4:=hb5.cell 4;have c5:=hb5.cell 5;have c6:=hb5.cell 6;simp only[qB,qC]at c0 c1 c2 c3 c4 c5 c6;have hO4:=own_ext (own_but O1.out BB3.out (λj hj e=>by have:=N1.out j hj;omega)) X4.out;have O4:=qA hO4;have hql:q.length<=60:=by have:=HQ.out;omega
          clear hO4 hb5;go_wp2_with (at_builtin;go_must (refine wpList_append_at _ rfl _ _ 42 rfl 48 i0 _ 7 104 Tryz.underlying42 hi hz0 hz1 hz2 rfl (by decide) _ q.length (q.flatMap encHV) rfl (own_ext O4.out ((qK _ _).alloc (qL _) _)) ⟨w4.heap.size,0,none⟩ 1 1 (encHV ⟨kx,cl,nm,xo,xn,xc,yo,yn,yc,put,value⟩) rfl rfl (cells_new w4 (encHV ⟨kx,cl,nm,xo,xn,xc,yo,yn,yc,put,value⟩) _) (one_hold _) (by decide) (by unfold maxLen;omega) (by omega) ?_;intro g cap3 w5 hown' hbut hkept;have Y1:=qA hown';have Y2:=qA hbut;have Y3:=qA hkept;clear hown' hbut hkept));go_roundw
          case rel=>
           have E2:Ext w4 (w4.alloc (.cells (encHV ⟨kx,cl,nm,xo,xn,xc,yo,yn,yc,put,value⟩).toArray 48)):=(qK _ w4).alloc (qL _) _;have hsz:wr.heap.size<=w4.heap.size:=qM BB3.out.size X4.out.size;have hwr:=B1.out.size;have hlt3:∀j,(Value.slice (some ⟨gb,go,none⟩) q.length vc).ownBlock=some j->j<wr.heap.size:=λj hj=>(O1.out.lt j hj).2;have hb45:But (λj=>w.heap.size<=j) w4 w5:=(Ext.but E2 (λ_=>False)).trans Y2.out (λ_ _ e=>e.elim) (λi _ e=>N1.out i e);have hks:holdsK s1 (k+1)=some (ds++[d],s3):=by rw[holdsK_some KS.out,E1.out,if_pos (by simp[HFL.out,HNX.out])]
           refine⟨k+1,q++[⟨kx,cl,nm,xo,xn,xc,yo,yn,yc,put,value⟩],ds++[d],s3,ao2,cap2,by go_num,by omega,hks,by rw[qG,HQ.out];rfl,λh=>absurd h (by omega),?_,?_,?_,(HR3.out.ext X4.out).but hb45 (λb hb e=>by omega),?_⟩
           · have:=Y1.out
             rw[qG,List.flatMap_append];simpa using this
           · intro j hj
             rcases Y3.out j hj with e | e
             · exact N1.out j e
             · have e':=qM E2.size e;omega
           · have hq3:HoldsAre (w4.alloc (.cells (encHV ⟨kx,cl,nm,xo,xn,xc,yo,yn,yc,put,value⟩).toArray 48)) (λb=>(Value.slice (some ⟨gb,go,none⟩) q.length vc).ownBlock=some b\/b<w.heap.size) q ds:=((A1.out.but BB3.out (λb _ e=> .inr (by omega))).ext X4.out).ext E2
             have hv3:HoldsAre (w4.alloc (.cells (encHV ⟨kx,cl,nm,xo,xn,xc,yo,yn,yc,put,value⟩).toArray 48)) (λb=>(Value.slice (some ⟨gb,go,none⟩) q.length vc).ownBlock=some b\/b<w.heap.size) [⟨kx,cl,nm,xo,xn,xc,yo,yn,yc,put,value⟩] [d]:=
              ⟨(((HX3.out.ext X4.out).ext E2).mono (λb _ e=>by
               rcases e with e | e
               · exact hlt3 b e
               · omega)),trivial⟩
             have hall:=HoldsAre.append hq3 hv3
             have h2:=HoldsAre.mono (no':=λb=>((Value.slice (some ⟨gb,go,none⟩) q.length vc).ownBlock=some b\/b<w.heap.size)\/((Value.slice (some ⟨g,0,none⟩) (q.length+1) cap3).ownBlock=some b\/b<w.heap.size)) (λb hb e=>by
              rcases e with e | e
              · exact e
              · rcases e with e | e
                · rcases Y3.out b e with e | e
                  · exact .inl e
                  · exact absurd e (Nat.not_le.2 hb)
                · exact .inr e) hall
             have h3:=HoldsAre.but Y2.out (λb _ e=> .inl (.inl e)) h2;exact h3.mono (λb _ e=> .inr e)
           · exact ((B1.out.trans BB3.out (λ_ _ e=>e) (λ_ _ e=>e)).trans (Ext.but X4.out (λ_=>False)) (U:=λj=>j=rb) (λ_ _ e=>e) (λ_ _ e=>e.elim)).trans hb45 (λ_ _ e=>e) (λi hi e=>absurd hi (Nat.not_lt.2 e))
          case measure=>simp[intOf];omega
        · have hb5:=HB4.out
          have c0:=hb5.cell 0;have c1:=hb5.cell 1;have c2:=hb5.cell 2;have c3:=hb5.cell 3;have c4:=hb5.cell 4;have c5:=hb5.cell 5;have c6:=hb5.cell 6;simp only[qB,qC]at c0 c1 c2 c3 c4 c5 c6;have hO4:=own_ext (own_but O1.out BB3.out (λj hj e=>by have:=N1.out j hj;omega)) X4.out;have O4:=qA hO4;have hql:q.length<=60:=by have:=HQ.out;omega
          clear hO4 hb5;go_wp2_with (at_builtin;go_must (refine wpList_append_at _ rfl _ _ 42 rfl 48 i0 _ 7 104 Tryz.underlying42 hi hz0 hz1 hz2 rfl (by decide) _ q.length (q.flatMap encHV) rfl (own_ext O4.out ((qK _ _).alloc (qL _) _)) ⟨w4.heap.size,0,none⟩ 1 1 (encHV ⟨kx,cl,nm,xo,xn,xc,yo,yn,yc,put,value⟩) rfl rfl (cells_new w4 (encHV ⟨kx,cl,nm,xo,xn,xc,yo,yn,yc,put,value⟩) _) (one_hold _) (by decide) (by unfold maxLen;omega) (by omega) ?_;intro g cap3 w5 hown' hbut hkept;have Y1:=qA hown';have Y2:=qA hbut;have Y3:=qA hkept;clear hown' hbut hkept));go_roundw
          case rel=>
           have E2:Ext w4 (w4.alloc (.cells (encHV ⟨kx,cl,nm,xo,xn,xc,yo,yn,yc,put,value⟩).toArray 48)):=(qK _ w4).alloc (qL _) _;have hsz:wr.heap.size<=w4.heap.size:=qM BB3.out.size X4.out.size;have hwr:=B1.out.size;have hlt3:∀j,(Value.slice vo q.length vc).ownBlock=some j->j<wr.heap.size:=λj hj=>(O1.out.lt j hj).2;have hb45:But (λj=>w.heap.size<=j) w4 w5:=(Ext.but E2 (λ_=>False)).trans Y2.out (λ_ _ e=>e.elim) (λi _ e=>N1.out i e);have hks:holdsK s1 (k+1)=some (ds++[d],s3):=by rw[holdsK_some KS.out,E1.out,if_pos (by simp[HFL.out,HNX.out])]
           refine⟨k+1,q++[⟨kx,cl,nm,xo,xn,xc,yo,yn,yc,put,value⟩],ds++[d],s3,ao2,cap2,by go_num,by omega,hks,by rw[qG,HQ.out];rfl,λh=>absurd h (by omega),?_,?_,?_,(HR3.out.ext X4.out).but hb45 (λb hb e=>by omega),?_⟩
           · have:=Y1.out
             rw[qG,List.flatMap_append];simpa using this
           · intro j hj
             rcases Y3.out j hj with e | e
             · exact N1.out j e
             · have e':=qM E2.size e;omega
           · have hq3:HoldsAre (w4.alloc (.cells (encHV ⟨kx,cl,nm,xo,xn,xc,yo,yn,yc,put,value⟩).toArray 48)) (λb=>(Value.slice vo q.length vc).ownBlock=some b\/b<w.heap.size) q ds:=((A1.out.but BB3.out (λb _ e=> .inr (by omega))).ext X4.out).ext E2
             have hv3:HoldsAre (w4.alloc (.cells (encHV ⟨kx,cl,nm,xo,xn,xc,yo,yn,yc,put,value⟩).toArray 48)) (λb=>(Value.slice vo q.length vc).ownBlock=some b\/b<w.heap.size) [⟨kx,cl,nm,xo,xn,xc,yo,yn,yc,put,value⟩] [d]:=
              ⟨(((HX3.out.ext X4.out).ext E2).mono (λb _ e=>by
               rcases e with e | e
               · exact hlt3 b e
               · omega)),trivial⟩
             have hall:=HoldsAre.append hq3 hv3
             have h2:=HoldsAre.mono (no':=λb=>((Value.slice vo q.length vc).ownBlock=some b\/b<w.heap.size)\/((Value.slice (some ⟨g,0,none⟩) (q.length+1) cap3).ownBlock=some b\/b<w.heap.size)) (λb hb e=>by
              rcases e with e | e
              · exact e
              · rcases e with e | e
                · rcases Y3.out b e with e | e
                  · exact .inl e
                  · exact absurd e (Nat.not_le.2 hb)
                · exact .inr e) hall
             have h3:=HoldsAre.but Y2.out (λb _ e=> .inl (.inl e)) h2;exact h3.mono (λb _ e=> .inr e)
           · exact ((B1.out.trans BB3.out (λ_ _ e=>e) (λ_ _ e=>e)).trans (Ext.but X4.out (λ_=>False)) (U:=λj=>j=rb) (λ_ _ e=>e) (λ_ _ e=>e.elim)).trans hb45 (λ_ _ e=>e) (λi hi e=>absurd hi (Nat.not_lt.2 e))
          case measure=>simp[intOf];omega
  · have hkn:k=n:=by omega
    subst hkn;have hS:holdsS s=if s2.fl=true then none else some (ds,s2):=by simp only[holdsS,HN.out,KS.out]
    have h0:s2.fl=true->q=[]/\k=0:=by
     intro h;rcases Nat.eq_zero_or_pos k with h0 | h0
     · exact⟨List.eq_nil_of_length_eq_zero (by rw[HQ.out];exact h0),h0⟩
     · obtain⟨j,rfl⟩:∃j,k=j+1:=⟨k - 1,by omega⟩
       have:=holdsK_live KS.out
       rw[h]at this;cases this
    have HS:=qA hS;have H0:=qA h0;have HDL:=qA (HoldsAre.len A1.out);clear hS h0;go_wp2_with fail;refine (failed_calls B rb cap' ao' s2 wr T1.out).mono ?_;rintro e w2 ⟨rfl,rfl⟩;generalize hfl:s2.fl=fl at *;have HFL:=qA hfl;clear hfl;cases fl with
    | true=>
      obtain⟨rfl,hk0⟩:=H0.out rfl;have hv:=V0.out hk0;simp only[Value.slice.injEq]at hv;obtain⟨rfl,-,rfl⟩:=hv;clear hk0;go_wp2_with fail;go_ret2;rw[HS.out];exact⟨rfl,B1.out⟩
    | false=>
      go_wp2_with fail;go_ret2;rw[HS.out];exact⟨⟨_,q,rfl,HDL.out,O1.out,N1.out,A1.out⟩,⟨ao',cap',T1.out⟩,B1.out⟩
end Go.Proofs.YtmpmggejhnmakaaGreatDoor
