/- slices.IndexFunc, slices.ContainsFunc over any function, at several types. -/
import Derived.Test.YtmpmggejhnmakaaGreatDoorZ14
import Derived.Test.YtmpmggejhnmakaaGreatDoorZ01
set_option maxRecDepth 100000
set_option maxHeartbeats 800000
namespace Go.Proofs.YtmpmggejhnmakaaGreatDoor
open Go.RowKit
def FirstG {α:Type}(p:α->Bool)(l:List α)(k:Int):Prop:=
 (k= -1/\∀x∈l,p x=false)\/∃n:Nat,k=n/\n<l.length/\(∀(i:Nat) (x:α),i<n->l[i]? =some x->p x=false)/\∀x,l[n]? =some x->p x=true
theorem indexInt_calls (g:Nat)(lb:Array Value)(eg:∀args w,(callFunc g args).run Tryz.prog w= .ok (.enter g args) w)(p:(Int)->Bool)
 (l:List (Int)) (ao:Option Addr) (cap:Nat) (w:World) (hl:l.length<=1000000) (hr:Rows 1 encInt w.heap.size w ao l) (hq:∀W,Ext w W->∀x∈l,Calls Tryz.prog g (#[.int .i64 x]++lb) W λe w'=>e= .returned (.bool (p x))/\Ext W w'):
 Calls Tryz.prog 172 #[.slice ao l.length cap,.func (.func g) #[] lb] w λe w'=>∃k:Int,e= .returned (.int .i64 k)/\FirstG p l k/\Ext w w':=by
 have HR:=qA hr;have HF:=qA hq;clear hr hq;go_enter Tryz.func172,Tryz.ntmps172;go_wp2_with fail;go_loopw [8] (λi wr=>∃(k:Nat),k<=l.length/\i= .int .i64 k/\(∀(i:Nat) (x:Int),i<k->l[i]? =some x->p x=false)/\Ext w wr) (λi _=>l.length - (intOf i).toNat)
 case atStart=>exact⟨0,by omega,rfl,λi x h=>by omega,qK _ _⟩
 case round=>
  obtain⟨k,hk,rfl,ha,hx⟩:=hrel;have K1:=qA ha;have K2:=qA hx;clear ha hx;by_cases hlt:k<l.length
  · obtain⟨x,hx⟩:∃x,l[k]? =some x:=⟨_,qE hlt⟩
    obtain⟨b,off,rfl,hb,hcell⟩:=HR.out (by intro e;rw[e]at hlt;simp at hlt);have hcx:=hcell k x hx;have hmove:∀j,wr.cell? ⟨b,j,none⟩=w.cell? ⟨b,j,none⟩:=λj=>K2.out.cell (p:=⟨b,j,none⟩) hb;have HX:=qA hx;have hcc:∀W,Ext wr W->Calls Tryz.prog g (#[.int .i64 x]++lb) W λe w'=>e= .returned (.bool (p x))/\Ext W w':=λW hW=>HF.out W (qJ K2.out hW) x (qH hx);have d0:=(hmove _).trans (hcx 0 _ rfl);simp only[Nat.add_zero,Nat.mul_one]at d0;have CC:=qA hcc;have i0:(0:Int)<=(k:Int):=by omega
    have i1:(k:Int)<(l.length:Int):=by omega
    clear hcell hcx hmove hx hcc;cases hrb:p x
    · have RB:=qA hrb;clear hrb
      go_wp2_with fail;refine (CC.out _ (qK _ _)).mono ?_;rw[RB.out];rintro e w' ⟨rfl,hx2⟩;have X2:=qA hx2;clear hx2;go_wp2_with fail;go_roundw
      case rel=>
       refine⟨k+1,by omega,by go_num,λi x hi hx=>?_,qJ K2.out X2.out⟩;rcases Nat.lt_or_ge i k with h | h
       · exact K1.out i x h hx
       · obtain rfl:i=k:=by omega
         rw[HX.out]at hx;rw[<- Option.some.inj hx];exact RB.out
      case measure=>simp[intOf];omega
    · have RB:=qA hrb;clear hrb
      go_wp2_with fail;refine (CC.out _ (qK _ _)).mono ?_;rw[RB.out];rintro e w' ⟨rfl,hx2⟩;have X2:=qA hx2;clear hx2;go_wp2_with fail;go_ret;exact⟨k,ret_int (by omega),.inr ⟨k,rfl,hlt,K1.out,λx hx=>by rw[HX.out]at hx;rw[<- Option.some.inj hx];exact RB.out⟩,qJ K2.out X2.out⟩
  · go_wp2_with fail
    go_ret;refine⟨-1,ret_int (by omega),.inl ⟨rfl,λx hx=>?_⟩,K2.out⟩
    obtain⟨i,hi⟩:=List.mem_iff_getElem?.1 hx;exact K1.out i x (by have:=(qF.1 hi).1;omega) hi
theorem containsInt_calls (g:Nat)(lb:Array Value)(eg:∀args w,(callFunc g args).run Tryz.prog w= .ok (.enter g args) w)(p:(Int)->Bool)
 (l:List (Int)) (ao:Option Addr) (cap:Nat) (w:World) (hl:l.length<=1000000) (hr:Rows 1 encInt w.heap.size w ao l) (hq:∀W,Ext w W->∀x∈l,Calls Tryz.prog g (#[.int .i64 x]++lb) W λe w'=>e= .returned (.bool (p x))/\Ext W w'):
 Calls Tryz.prog 100 #[.slice ao l.length cap,.func (.func g) #[] lb] w λe w'=>e= .returned (.bool (l.any p))/\Ext w w':=by
 have HI:=qA (indexInt_calls g lb eg p l ao cap w hl hr hq);clear hr hq;go_enter Tryz.func100,Tryz.ntmps100;go_wp2_with fail;refine HI.out.mono ?_;rintro e w1 ⟨k,rfl,hk,hx⟩;have X:=qA hx;clear hx;rcases hk with ⟨rfl,hno⟩ | ⟨n,rfl,hnl,_,hyes⟩
 · have ha:l.any p=false:=by rw[List.any_eq_false];intro x hx;rw[hno x hx];simp
   have A1:=qA ha;clear ha hno;go_wp2_with fail;go_ret;exact⟨ret_bool (by rw[A1.out]),X.out⟩
 · have ha:l.any p=true:=List.any_eq_true.2 ⟨l[n],List.getElem_mem hnl,hyes _ (qE hnl)⟩
   have A1:=qA ha;clear ha hyes;have i0:(0:Int)<=(n:Int):=by omega
   have g1:decide ((0:Int)<=(n:Int))=true:=decide_eq_true i0;go_wp2_with fail;go_ret;exact⟨ret_bool (by rw[A1.out]),X.out⟩
theorem indexStr_calls (g:Nat)(lb:Array Value)(eg:∀args w,(callFunc g args).run Tryz.prog w= .ok (.enter g args) w)(p:(ByteArray)->Bool)
 (l:List (ByteArray)) (ao:Option Addr) (cap:Nat) (w:World) (hl:l.length<=1000000) (hr:Rows 1 encStr w.heap.size w ao l) (hq:∀W,Ext w W->∀x∈l,Calls Tryz.prog g (#[.string x]++lb) W λe w'=>e= .returned (.bool (p x))/\Ext W w'):
 Calls Tryz.prog 160 #[.slice ao l.length cap,.func (.func g) #[] lb] w λe w'=>∃k:Int,e= .returned (.int .i64 k)/\FirstG p l k/\Ext w w':=by
 have HR:=qA hr;have HF:=qA hq;clear hr hq;go_enter Tryz.func160,Tryz.ntmps160;go_wp2_with fail;go_loopw [8] (λi wr=>∃(k:Nat),k<=l.length/\i= .int .i64 k/\(∀(i:Nat) (x:ByteArray),i<k->l[i]? =some x->p x=false)/\Ext w wr) (λi _=>l.length - (intOf i).toNat)
 case atStart=>exact⟨0,by omega,rfl,λi x h=>by omega,qK _ _⟩
 case round=>
  obtain⟨k,hk,rfl,ha,hx⟩:=hrel;have K1:=qA ha;have K2:=qA hx;clear ha hx;by_cases hlt:k<l.length
  · obtain⟨x,hx⟩:∃x,l[k]? =some x:=⟨_,qE hlt⟩
    obtain⟨b,off,rfl,hb,hcell⟩:=HR.out (by intro e;rw[e]at hlt;simp at hlt);have hcx:=hcell k x hx;have hmove:∀j,wr.cell? ⟨b,j,none⟩=w.cell? ⟨b,j,none⟩:=λj=>K2.out.cell (p:=⟨b,j,none⟩) hb;have HX:=qA hx;have hcc:∀W,Ext wr W->Calls Tryz.prog g (#[.string x]++lb) W λe w'=>e= .returned (.bool (p x))/\Ext W w':=λW hW=>HF.out W (qJ K2.out hW) x (qH hx);have d0:=(hmove _).trans (hcx 0 _ rfl);simp only[Nat.add_zero,Nat.mul_one]at d0;have CC:=qA hcc;have i0:(0:Int)<=(k:Int):=by omega
    have i1:(k:Int)<(l.length:Int):=by omega
    clear hcell hcx hmove hx hcc;cases hrb:p x
    · have RB:=qA hrb;clear hrb
      go_wp2_with fail;refine (CC.out _ (qK _ _)).mono ?_;rw[RB.out];rintro e w' ⟨rfl,hx2⟩;have X2:=qA hx2;clear hx2;go_wp2_with fail;go_roundw
      case rel=>
       refine⟨k+1,by omega,by go_num,λi x hi hx=>?_,qJ K2.out X2.out⟩;rcases Nat.lt_or_ge i k with h | h
       · exact K1.out i x h hx
       · obtain rfl:i=k:=by omega
         rw[HX.out]at hx;rw[<- Option.some.inj hx];exact RB.out
      case measure=>simp[intOf];omega
    · have RB:=qA hrb;clear hrb
      go_wp2_with fail;refine (CC.out _ (qK _ _)).mono ?_;rw[RB.out];rintro e w' ⟨rfl,hx2⟩;have X2:=qA hx2;clear hx2;go_wp2_with fail;go_ret;exact⟨k,ret_int (by omega),.inr ⟨k,rfl,hlt,K1.out,λx hx=>by rw[HX.out]at hx;rw[<- Option.some.inj hx];exact RB.out⟩,qJ K2.out X2.out⟩
  · go_wp2_with fail
    go_ret;refine⟨-1,ret_int (by omega),.inl ⟨rfl,λx hx=>?_⟩,K2.out⟩
    obtain⟨i,hi⟩:=List.mem_iff_getElem?.1 hx;exact K1.out i x (by have:=(qF.1 hi).1;omega) hi
theorem containsStr_calls (g:Nat)(lb:Array Value)(eg:∀args w,(callFunc g args).run Tryz.prog w= .ok (.enter g args) w)(p:(ByteArray)->Bool)
 (l:List (ByteArray)) (ao:Option Addr) (cap:Nat) (w:World) (hl:l.length<=1000000) (hr:Rows 1 encStr w.heap.size w ao l) (hq:∀W,Ext w W->∀x∈l,Calls Tryz.prog g (#[.string x]++lb) W λe w'=>e= .returned (.bool (p x))/\Ext W w'):
 Calls Tryz.prog 84 #[.slice ao l.length cap,.func (.func g) #[] lb] w λe w'=>e= .returned (.bool (l.any p))/\Ext w w':=by
 have HI:=qA (indexStr_calls g lb eg p l ao cap w hl hr hq);clear hr hq;go_enter Tryz.func84,Tryz.ntmps84;go_wp2_with fail;refine HI.out.mono ?_;rintro e w1 ⟨k,rfl,hk,hx⟩;have X:=qA hx;clear hx;rcases hk with ⟨rfl,hno⟩ | ⟨n,rfl,hnl,_,hyes⟩
 · have ha:l.any p=false:=by rw[List.any_eq_false];intro x hx;rw[hno x hx];simp
   have A1:=qA ha;clear ha hno;go_wp2_with fail;go_ret;exact⟨ret_bool (by rw[A1.out]),X.out⟩
 · have ha:l.any p=true:=List.any_eq_true.2 ⟨l[n],List.getElem_mem hnl,hyes _ (qE hnl)⟩
   have A1:=qA ha;clear ha hyes;have i0:(0:Int)<=(n:Int):=by omega
   have g1:decide ((0:Int)<=(n:Int))=true:=decide_eq_true i0;go_wp2_with fail;go_ret;exact⟨ret_bool (by rw[A1.out]),X.out⟩
theorem indexStz_calls (g:Nat)(lb:Array Value)(eg:∀args w,(callFunc g args).run Tryz.prog w= .ok (.enter g args) w)(p:(StrZ)->Bool)
 (l:List (StrZ)) (ao:Option Addr) (cap:Nat) (w:World) (hl:l.length<=1000000) (hr:Rows 5 encSt w.heap.size w ao l) (hq:∀W,Ext w W->∀x∈l,Calls Tryz.prog g (#[.agg (encSt x).toArray]++lb) W λe w'=>e= .returned (.bool (p x))/\Ext W w'):
 Calls Tryz.prog 46 #[.slice ao l.length cap,.func (.func g) #[] lb] w λe w'=>∃k:Int,e= .returned (.int .i64 k)/\FirstG p l k/\Ext w w':=by
 have HR:=qA hr;have HF:=qA hq;clear hr hq;go_enter Tryz.func46,Tryz.ntmps46;go_wp2_with fail;go_loopw [8] (λi wr=>∃(k:Nat),k<=l.length/\i= .int .i64 k/\(∀(i:Nat) (x:StrZ),i<k->l[i]? =some x->p x=false)/\Ext w wr) (λi _=>l.length - (intOf i).toNat)
 case atStart=>exact⟨0,by omega,rfl,λi x h=>by omega,qK _ _⟩
 case round=>
  obtain⟨k,hk,rfl,ha,hx⟩:=hrel;have K1:=qA ha;have K2:=qA hx;clear ha hx;by_cases hlt:k<l.length
  · obtain⟨x,hx⟩:∃x,l[k]? =some x:=⟨_,qE hlt⟩
    obtain⟨b,off,rfl,hb,hcell⟩:=HR.out (by intro e;rw[e]at hlt;simp at hlt);have hcx:=hcell k x hx;have hmove:∀j,wr.cell? ⟨b,j,none⟩=w.cell? ⟨b,j,none⟩:=λj=>K2.out.cell (p:=⟨b,j,none⟩) hb;have HX:=qA hx;have hcc:∀W,Ext wr W->Calls Tryz.prog g (#[.agg (encSt x).toArray]++lb) W λe w'=>e= .returned (.bool (p x))/\Ext W w':=λW hW=>HF.out W (qJ K2.out hW) x (qH hx);obtain⟨lo,hi,ep,st,sc⟩:=x;have d0:=(hmove _).trans (hcx 0 _ rfl);have d1:=(hmove _).trans (hcx 1 _ rfl);have d2:=(hmove _).trans (hcx 2 _ rfl);have d3:=(hmove _).trans (hcx 3 _ rfl);have d4:=(hmove _).trans (hcx 4 _ rfl);simp only[Nat.add_zero]at d0;have CC:=qA hcc;have i0:(0:Int)<=(k:Int):=by omega
    have i1:(k:Int)<(l.length:Int):=by omega
    clear hcell hcx hmove hx hcc;cases hrb:p ⟨lo,hi,ep,st,sc⟩
    · have RB:=qA hrb;clear hrb
      go_wp2_with fail;refine (CC.out _ (qK _ _)).mono ?_;rw[RB.out];rintro e w' ⟨rfl,hx2⟩;have X2:=qA hx2;clear hx2;go_wp2_with fail;go_roundw
      case rel=>
       refine⟨k+1,by omega,by go_num,λi x hi hx=>?_,qJ K2.out X2.out⟩;rcases Nat.lt_or_ge i k with h | h
       · exact K1.out i x h hx
       · obtain rfl:i=k:=by omega
         rw[HX.out]at hx;rw[<- Option.some.inj hx];exact RB.out
      case measure=>simp[intOf];omega
    · have RB:=qA hrb;clear hrb
      go_wp2_with fail;refine (CC.out _ (qK _ _)).mono ?_;rw[RB.out];rintro e w' ⟨rfl,hx2⟩;have X2:=qA hx2;clear hx2;go_wp2_with fail;go_ret;exact⟨k,ret_int (by omega),.inr ⟨k,rfl,hlt,K1.out,λx hx=>by rw[HX.out]at hx;rw[<- Option.some.inj hx];exact RB.out⟩,qJ K2.out X2.out⟩
  · go_wp2_with fail
    go_ret;refine⟨-1,ret_int (by omega),.inl ⟨rfl,λx hx=>?_⟩,K2.out⟩
    obtain⟨i,hi⟩:=List.mem_iff_getElem?.1 hx;exact K1.out i x (by have:=(qF.1 hi).1;omega) hi
theorem containsStz_calls (g:Nat)(lb:Array Value)(eg:∀args w,(callFunc g args).run Tryz.prog w= .ok (.enter g args) w)(p:(StrZ)->Bool)
 (l:List (StrZ)) (ao:Option Addr) (cap:Nat) (w:World) (hl:l.length<=1000000) (hr:Rows 5 encSt w.heap.size w ao l) (hq:∀W,Ext w W->∀x∈l,Calls Tryz.prog g (#[.agg (encSt x).toArray]++lb) W λe w'=>e= .returned (.bool (p x))/\Ext W w'):
 Calls Tryz.prog 124 #[.slice ao l.length cap,.func (.func g) #[] lb] w λe w'=>e= .returned (.bool (l.any p))/\Ext w w':=by
 have HI:=qA (indexStz_calls g lb eg p l ao cap w hl hr hq);clear hr hq;go_enter Tryz.func124,Tryz.ntmps124;go_wp2_with fail;refine HI.out.mono ?_;rintro e w1 ⟨k,rfl,hk,hx⟩;have X:=qA hx;clear hx;rcases hk with ⟨rfl,hno⟩ | ⟨n,rfl,hnl,_,hyes⟩
 · have ha:l.any p=false:=by rw[List.any_eq_false];intro x hx;rw[hno x hx];simp
   have A1:=qA ha;clear ha hno;go_wp2_with fail;go_ret;exact⟨ret_bool (by rw[A1.out]),X.out⟩
 · have ha:l.any p=true:=List.any_eq_true.2 ⟨l[n],List.getElem_mem hnl,hyes _ (qE hnl)⟩
   have A1:=qA ha;clear ha hyes;have i0:(0:Int)<=(n:Int):=by omega
   have g1:decide ((0:Int)<=(n:Int))=true:=decide_eq_true i0;go_wp2_with fail;go_ret;exact⟨ret_bool (by rw[A1.out]),X.out⟩
theorem indexRow_calls (g:Nat)(lb:Array Value)(eg:∀args w,(callFunc g args).run Tryz.prog w= .ok (.enter g args) w)(p:(RowD)->Bool)
 (l:List (RowD)) (ao:Option Addr) (cap:Nat) (w:World) (hl:l.length<=1000000) (hr:Rows 2 encRw w.heap.size w ao l) (hq:∀W,Ext w W->∀x∈l,Calls Tryz.prog g (#[.agg (encRw x).toArray]++lb) W λe w'=>e= .returned (.bool (p x))/\Ext W w'):
 Calls Tryz.prog 180 #[.slice ao l.length cap,.func (.func g) #[] lb] w λe w'=>∃k:Int,e= .returned (.int .i64 k)/\FirstG p l k/\Ext w w':=by
 have HR:=qA hr;have HF:=qA hq;clear hr hq;go_enter Tryz.func180,Tryz.ntmps180;go_wp2_with fail;go_loopw [8] (λi wr=>∃(k:Nat),k<=l.length/\i= .int .i64 k/\(∀(i:Nat) (x:RowD),i<k->l[i]? =some x->p x=false)/\Ext w wr) (λi _=>l.length - (intOf i).toNat)
 case atStart=>exact⟨0,by omega,rfl,λi x h=>by omega,qK _ _⟩
 case round=>
  obtain⟨k,hk,rfl,ha,hx⟩:=hrel;have K1:=qA ha;have K2:=qA hx;clear ha hx;by_cases hlt:k<l.length
  · obtain⟨x,hx⟩:∃x,l[k]? =some x:=⟨_,qE hlt⟩
    obtain⟨b,off,rfl,hb,hcell⟩:=HR.out (by intro e;rw[e]at hlt;simp at hlt);have hcx:=hcell k x hx;have hmove:∀j,wr.cell? ⟨b,j,none⟩=w.cell? ⟨b,j,none⟩:=λj=>K2.out.cell (p:=⟨b,j,none⟩) hb;have HX:=qA hx;have hcc:∀W,Ext wr W->Calls Tryz.prog g (#[.agg (encRw x).toArray]++lb) W λe w'=>e= .returned (.bool (p x))/\Ext W w':=λW hW=>HF.out W (qJ K2.out hW) x (qH hx);obtain⟨key,value⟩:=x;have d0:=(hmove _).trans (hcx 0 _ rfl);have d1:=(hmove _).trans (hcx 1 _ rfl);simp only[Nat.add_zero]at d0;have CC:=qA hcc;have i0:(0:Int)<=(k:Int):=by omega
    have i1:(k:Int)<(l.length:Int):=by omega
    clear hcell hcx hmove hx hcc;cases hrb:p ⟨key,value⟩
    · have RB:=qA hrb;clear hrb
      go_wp2_with fail;refine (CC.out _ (qK _ _)).mono ?_;rw[RB.out];rintro e w' ⟨rfl,hx2⟩;have X2:=qA hx2;clear hx2;go_wp2_with fail;go_roundw
      case rel=>
       refine⟨k+1,by omega,by go_num,λi x hi hx=>?_,qJ K2.out X2.out⟩;rcases Nat.lt_or_ge i k with h | h
       · exact K1.out i x h hx
       · obtain rfl:i=k:=by omega
         rw[HX.out]at hx;rw[<- Option.some.inj hx];exact RB.out
      case measure=>simp[intOf];omega
    · have RB:=qA hrb;clear hrb
      go_wp2_with fail;refine (CC.out _ (qK _ _)).mono ?_;rw[RB.out];rintro e w' ⟨rfl,hx2⟩;have X2:=qA hx2;clear hx2;go_wp2_with fail;go_ret;exact⟨k,ret_int (by omega),.inr ⟨k,rfl,hlt,K1.out,λx hx=>by rw[HX.out]at hx;rw[<- Option.some.inj hx];exact RB.out⟩,qJ K2.out X2.out⟩
  · go_wp2_with fail
    go_ret;refine⟨-1,ret_int (by omega),.inl ⟨rfl,λx hx=>?_⟩,K2.out⟩
    obtain⟨i,hi⟩:=List.mem_iff_getElem?.1 hx;exact K1.out i x (by have:=(qF.1 hi).1;omega) hi
theorem containsRow_calls (g:Nat)(lb:Array Value)(eg:∀args w,(callFunc g args).run Tryz.prog w= .ok (.enter g args) w)(p:(RowD)->Bool)
 (l:List (RowD)) (ao:Option Addr) (cap:Nat) (w:World) (hl:l.length<=1000000) (hr:Rows 2 encRw w.heap.size w ao l) (hq:∀W,Ext w W->∀x∈l,Calls Tryz.prog g (#[.agg (encRw x).toArray]++lb) W λe w'=>e= .returned (.bool (p x))/\Ext W w'):
 Calls Tryz.prog 130 #[.slice ao l.length cap,.func (.func g) #[] lb] w λe w'=>e= .returned (.bool (l.any p))/\Ext w w':=by
 have HI:=qA (indexRow_calls g lb eg p l ao cap w hl hr hq);clear hr hq;go_enter Tryz.func130,Tryz.ntmps130;go_wp2_with fail;refine HI.out.mono ?_;rintro e w1 ⟨k,rfl,hk,hx⟩;have X:=qA hx;clear hx;rcases hk with ⟨rfl,hno⟩ | ⟨n,rfl,hnl,_,hyes⟩
 · have ha:l.any p=false:=by rw[List.any_eq_false];intro x hx;rw[hno x hx];simp
   have A1:=qA ha;clear ha hno;go_wp2_with fail;go_ret;exact⟨ret_bool (by rw[A1.out]),X.out⟩
 · have ha:l.any p=true:=List.any_eq_true.2 ⟨l[n],List.getElem_mem hnl,hyes _ (qE hnl)⟩
   have A1:=qA ha;clear ha hyes;have i0:(0:Int)<=(n:Int):=by omega
   have g1:decide ((0:Int)<=(n:Int))=true:=decide_eq_true i0;go_wp2_with fail;go_ret;exact⟨ret_bool (by rw[A1.out]),X.out⟩
theorem indexNmz_calls (g:Nat)(lb:Array Value)(eg:∀args w,(callFunc g args).run Tryz.prog w= .ok (.enter g args) w)(p:(Int×Int)->Bool)
 (l:List (Int×Int)) (ao:Option Addr) (cap:Nat) (w:World) (hl:l.length<=1000000) (hr:Rows 2 encNz w.heap.size w ao l) (hq:∀W,Ext w W->∀x∈l,Calls Tryz.prog g (#[.agg (encNz x).toArray]++lb) W λe w'=>e= .returned (.bool (p x))/\Ext W w'):
 Calls Tryz.prog 247 #[.slice ao l.length cap,.func (.func g) #[] lb] w λe w'=>∃k:Int,e= .returned (.int .i64 k)/\FirstG p l k/\Ext w w':=by
 have HR:=qA hr;have HF:=qA hq;clear hr hq;go_enter Tryz.func247,Tryz.ntmps247;go_wp2_with fail;go_loopw [8] (λi wr=>∃(k:Nat),k<=l.length/\i= .int .i64 k/\(∀(i:Nat) (x:Int×Int),i<k->l[i]? =some x->p x=false)/\Ext w wr) (λi _=>l.length - (intOf i).toNat)
 case atStart=>exact⟨0,by omega,rfl,λi x h=>by omega,qK _ _⟩
 case round=>
  obtain⟨k,hk,rfl,ha,hx⟩:=hrel;have K1:=qA ha;have K2:=qA hx;clear ha hx;by_cases hlt:k<l.length
  · obtain⟨x,hx⟩:∃x,l[k]? =some x:=⟨_,qE hlt⟩
    obtain⟨b,off,rfl,hb,hcell⟩:=HR.out (by intro e;rw[e]at hlt;simp at hlt);have hcx:=hcell k x hx;have hmove:∀j,wr.cell? ⟨b,j,none⟩=w.cell? ⟨b,j,none⟩:=λj=>K2.out.cell (p:=⟨b,j,none⟩) hb;have HX:=qA hx;have hcc:∀W,Ext wr W->Calls Tryz.prog g (#[.agg (encNz x).toArray]++lb) W λe w'=>e= .returned (.bool (p x))/\Ext W w':=λW hW=>HF.out W (qJ K2.out hW) x (qH hx);obtain⟨cl,nm⟩:=x;have d0:=(hmove _).trans (hcx 0 _ rfl);have d1:=(hmove _).trans (hcx 1 _ rfl);simp only[Nat.add_zero]at d0;have CC:=qA hcc;have i0:(0:Int)<=(k:Int):=by omega
    have i1:(k:Int)<(l.length:Int):=by omega
    clear hcell hcx hmove hx hcc;cases hrb:p ⟨cl,nm⟩
    · have RB:=qA hrb;clear hrb
      go_wp2_with fail;refine (CC.out _ (qK _ _)).mono ?_;rw[RB.out];rintro e w' ⟨rfl,hx2⟩;have X2:=qA hx2;clear hx2;go_wp2_with fail;go_roundw
      case rel=>
       refine⟨k+1,by omega,by go_num,λi x hi hx=>?_,qJ K2.out X2.out⟩;rcases Nat.lt_or_ge i k with h | h
       · exact K1.out i x h hx
       · obtain rfl:i=k:=by omega
         rw[HX.out]at hx;rw[<- Option.some.inj hx];exact RB.out
      case measure=>simp[intOf];omega
    · have RB:=qA hrb;clear hrb
      go_wp2_with fail;refine (CC.out _ (qK _ _)).mono ?_;rw[RB.out];rintro e w' ⟨rfl,hx2⟩;have X2:=qA hx2;clear hx2;go_wp2_with fail;go_ret;exact⟨k,ret_int (by omega),.inr ⟨k,rfl,hlt,K1.out,λx hx=>by rw[HX.out]at hx;rw[<- Option.some.inj hx];exact RB.out⟩,qJ K2.out X2.out⟩
  · go_wp2_with fail
    go_ret;refine⟨-1,ret_int (by omega),.inl ⟨rfl,λx hx=>?_⟩,K2.out⟩
    obtain⟨i,hi⟩:=List.mem_iff_getElem?.1 hx;exact K1.out i x (by have:=(qF.1 hi).1;omega) hi
theorem containsNmz_calls (g:Nat)(lb:Array Value)(eg:∀args w,(callFunc g args).run Tryz.prog w= .ok (.enter g args) w)(p:(Int×Int)->Bool)
 (l:List (Int×Int)) (ao:Option Addr) (cap:Nat) (w:World) (hl:l.length<=1000000) (hr:Rows 2 encNz w.heap.size w ao l) (hq:∀W,Ext w W->∀x∈l,Calls Tryz.prog g (#[.agg (encNz x).toArray]++lb) W λe w'=>e= .returned (.bool (p x))/\Ext W w'):
 Calls Tryz.prog 209 #[.slice ao l.length cap,.func (.func g) #[] lb] w λe w'=>e= .returned (.bool (l.any p))/\Ext w w':=by
 have HI:=qA (indexNmz_calls g lb eg p l ao cap w hl hr hq);clear hr hq;go_enter Tryz.func209,Tryz.ntmps209;go_wp2_with fail;refine HI.out.mono ?_;rintro e w1 ⟨k,rfl,hk,hx⟩;have X:=qA hx;clear hx;rcases hk with ⟨rfl,hno⟩ | ⟨n,rfl,hnl,_,hyes⟩
 · have ha:l.any p=false:=by rw[List.any_eq_false];intro x hx;rw[hno x hx];simp
   have A1:=qA ha;clear ha hno;go_wp2_with fail;go_ret;exact⟨ret_bool (by rw[A1.out]),X.out⟩
 · have ha:l.any p=true:=List.any_eq_true.2 ⟨l[n],List.getElem_mem hnl,hyes _ (qE hnl)⟩
   have A1:=qA ha;clear ha hyes;have i0:(0:Int)<=(n:Int):=by omega
   have g1:decide ((0:Int)<=(n:Int))=true:=decide_eq_true i0;go_wp2_with fail;go_ret;exact⟨ret_bool (by rw[A1.out]),X.out⟩
theorem indexPtr_calls (g:Nat)(lb:Array Value)(eg:∀args w,(callFunc g args).run Tryz.prog w= .ok (.enter g args) w)(p:(Nat)->Bool)
 (l:List (Nat)) (ao:Option Addr) (cap:Nat) (w:World) (hl:l.length<=1000000) (hr:Rows 1 encPtr w.heap.size w ao l) (hq:∀W,Ext w W->∀x∈l,Calls Tryz.prog g (#[.pointer (some ⟨x,0,none⟩)]++lb) W λe w'=>e= .returned (.bool (p x))/\Ext W w'):
 Calls Tryz.prog 223 #[.slice ao l.length cap,.func (.func g) #[] lb] w λe w'=>∃k:Int,e= .returned (.int .i64 k)/\FirstG p l k/\Ext w w':=by
 have HR:=qA hr;have HF:=qA hq;clear hr hq;go_enter Tryz.func223,Tryz.ntmps223;go_wp2_with fail;go_loopw [8] (λi wr=>∃(k:Nat),k<=l.length/\i= .int .i64 k/\(∀(i:Nat) (x:Nat),i<k->l[i]? =some x->p x=false)/\Ext w wr) (λi _=>l.length - (intOf i).toNat)
 case atStart=>exact⟨0,by omega,rfl,λi x h=>by omega,qK _ _⟩
 case round=>
  obtain⟨k,hk,rfl,ha,hx⟩:=hrel;have K1:=qA ha;have K2:=qA hx;clear ha hx;by_cases hlt:k<l.length
  · obtain⟨x,hx⟩:∃x,l[k]? =some x:=⟨_,qE hlt⟩
    obtain⟨b,off,rfl,hb,hcell⟩:=HR.out (by intro e;rw[e]at hlt;simp at hlt);have hcx:=hcell k x hx;have hmove:∀j,wr.cell? ⟨b,j,none⟩=w.cell? ⟨b,j,none⟩:=λj=>K2.out.cell (p:=⟨b,j,none⟩) hb;have HX:=qA hx;have hcc:∀W,Ext wr W->Calls Tryz.prog g (#[.pointer (some ⟨x,0,none⟩)]++lb) W λe w'=>e= .returned (.bool (p x))/\Ext W w':=λW hW=>HF.out W (qJ K2.out hW) x (qH hx);have d0:=(hmove _).trans (hcx 0 _ rfl);simp only[Nat.add_zero,Nat.mul_one]at d0;have CC:=qA hcc;have i0:(0:Int)<=(k:Int):=by omega
    have i1:(k:Int)<(l.length:Int):=by omega
    clear hcell hcx hmove hx hcc;cases hrb:p x
    · have RB:=qA hrb;clear hrb
      go_wp2_with fail;refine (CC.out _ (qK _ _)).mono ?_;rw[RB.out];rintro e w' ⟨rfl,hx2⟩;have X2:=qA hx2;clear hx2;go_wp2_with fail;go_roundw
      case rel=>
       refine⟨k+1,by omega,by go_num,λi x hi hx=>?_,qJ K2.out X2.out⟩;rcases Nat.lt_or_ge i k with h | h
       · exact K1.out i x h hx
       · obtain rfl:i=k:=by omega
         rw[HX.out]at hx;rw[<- Option.some.inj hx];exact RB.out
      case measure=>simp[intOf];omega
    · have RB:=qA hrb;clear hrb
      go_wp2_with fail;refine (CC.out _ (qK _ _)).mono ?_;rw[RB.out];rintro e w' ⟨rfl,hx2⟩;have X2:=qA hx2;clear hx2;go_wp2_with fail;go_ret;exact⟨k,ret_int (by omega),.inr ⟨k,rfl,hlt,K1.out,λx hx=>by rw[HX.out]at hx;rw[<- Option.some.inj hx];exact RB.out⟩,qJ K2.out X2.out⟩
  · go_wp2_with fail
    go_ret;refine⟨-1,ret_int (by omega),.inl ⟨rfl,λx hx=>?_⟩,K2.out⟩
    obtain⟨i,hi⟩:=List.mem_iff_getElem?.1 hx;exact K1.out i x (by have:=(qF.1 hi).1;omega) hi
theorem containsPtr_calls (g:Nat)(lb:Array Value)(eg:∀args w,(callFunc g args).run Tryz.prog w= .ok (.enter g args) w)(p:(Nat)->Bool)
 (l:List (Nat)) (ao:Option Addr) (cap:Nat) (w:World) (hl:l.length<=1000000) (hr:Rows 1 encPtr w.heap.size w ao l) (hq:∀W,Ext w W->∀x∈l,Calls Tryz.prog g (#[.pointer (some ⟨x,0,none⟩)]++lb) W λe w'=>e= .returned (.bool (p x))/\Ext W w'):
 Calls Tryz.prog 188 #[.slice ao l.length cap,.func (.func g) #[] lb] w λe w'=>e= .returned (.bool (l.any p))/\Ext w w':=by
 have HI:=qA (indexPtr_calls g lb eg p l ao cap w hl hr hq);clear hr hq;go_enter Tryz.func188,Tryz.ntmps188;go_wp2_with fail;refine HI.out.mono ?_;rintro e w1 ⟨k,rfl,hk,hx⟩;have X:=qA hx;clear hx;rcases hk with ⟨rfl,hno⟩ | ⟨n,rfl,hnl,_,hyes⟩
 · have ha:l.any p=false:=by rw[List.any_eq_false];intro x hx;rw[hno x hx];simp
   have A1:=qA ha;clear ha hno;go_wp2_with fail;go_ret;exact⟨ret_bool (by rw[A1.out]),X.out⟩
 · have ha:l.any p=true:=List.any_eq_true.2 ⟨l[n],List.getElem_mem hnl,hyes _ (qE hnl)⟩
   have A1:=qA ha;clear ha hyes;have i0:(0:Int)<=(n:Int):=by omega
   have g1:decide ((0:Int)<=(n:Int))=true:=decide_eq_true i0;go_wp2_with fail;go_ret;exact⟨ret_bool (by rw[A1.out]),X.out⟩
end Go.Proofs.YtmpmggejhnmakaaGreatDoor
