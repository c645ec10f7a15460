/- The package act's cut; strings.Trim. -/
import Derived.Test.YtmpmggejhnmakaaGreatDoorZ01
import Derived.Test.YtmpmggejhnmakaaGreatDoorShelf
import Derived.Test.YtmpmggejhnmakaaGreatDoorZ02
import Derived.Shelf.Strings.SlTrimAscii
set_option maxRecDepth 100000
set_option maxHeartbeats 400000
namespace Go.Proofs.YtmpmggejhnmakaaGreatDoor
open Go.RowKit
theorem cutI_bd (n:Int): -1073741824<=cutI n/\cutI n<=1073741824:=by unfold cutI;omega
theorem cut_calls (n:Int)(w:World):Calls Tryz.prog 200 #[.int .i64 n] w λe w'=>e= .returned (.int .i64 (cutI n))/\w=w':=by
 go_enter Tryz.func200,Tryz.ntmps200
 go_wp2
 all_goals (go_ret;exact⟨ret_int (by unfold cutI;omega),rfl⟩)
theorem trim_calls (s:ByteArray)(cs:ByteArray)(w:World)(hs:s.size<=9223372036854775807)(hc:cs.size<4294967281)(ha:cs.data.toList.all (λb=>decide (b.toNat<128))=true):
 Calls Tryz.prog 199 #[.string s,.string cs] w λe w'=>e= .returned (.string ⟨(Lib.trimS s.data.toList cs.data.toList).toArray⟩)/\Ext w w':=
 Any.strings_Trim_laid Tryz.lays160 (by kernel_rfl) s cs w hs hc (ascii_of_all ha)
theorem key_calls (s:ByteArray)(w:World)(hs:s.size<=140737488351232):Calls Tryz.prog 10 #[.string s] w λe w'=>e= .returned (.bool (keyL s.data.toList))/\w=w':=by
 have hsz:=Lib.size_eq s;by_cases h0:s.data.toList=[]
 · have e0:keyL s.data.toList=false:=by rw[h0];rfl
   have hem:s.toList.isEmpty=true:=by rw[Lib.toList_data,h0];rfl
   have E0:=qA e0;clear e0 h0;go_enter Tryz.func10,Tryz.ntmps10
   go_wp2
   go_ret;exact⟨ret_bool (by rw[E0.out]),rfl⟩
 · have hem:s.toList.isEmpty=false:=by rw[Lib.toList_data];cases h:s.data.toList with
    | nil=>exact absurd h h0
    | cons a r=>rfl
   by_cases h20:20<s.size
   · have e0:keyL s.data.toList=false:=by unfold keyL;rw[<- hsz];simp;omega
     have E0:=qA e0;clear e0 h0 hsz;go_enter Tryz.func10,Tryz.ntmps10
     go_wp2
     go_ret;exact⟨ret_bool (by rw[E0.out]),rfl⟩
   · have e0:keyL s.data.toList=s.data.toList.all keyC:=by
      unfold keyL;rw[<- hsz]
      have:s.data.toList.isEmpty=false:=by rw[<- Lib.toList_data];exact hem
      rw[this];simp;omega
     have E0:=qA e0;have HZ:=qA hsz;clear e0 h0 hsz;go_enter Tryz.func10,Tryz.ntmps10
     go_wp2
     go_loop [3,4,14] (λ_ _ i=>∃k:Nat,k<=s.size/\i= .int .i64 k/\(s.data.toList.take k).all keyC=true) (λ_ _ i=>s.size - (intOf i).toNat)
     case atStart=>exact⟨0,by omega,rfl,by simp⟩
     case round=>
      obtain⟨k,hk,rfl,hall⟩:=hrel;have HA:=qA hall;clear hall;by_cases hlt:k<s.size
      · have htk:s.data.toList.take (k+1)=s.data.toList.take k++[s[k]]:=by
         rw[List.take_succ_eq_append_getElem (by rw[<- HZ.out];exact hlt)];rfl
        have hmem:s[k]∈s.data.toList:=by
         have:s.data.toList[k]'(by rw[<- HZ.out];exact hlt)=s[k]:=rfl
         rw[<- this];exact List.getElem_mem _
        have HT:=qA htk;have HM:=qA hmem;clear htk hmem;have hcases:(s[k].toNat<48\/(57<s[k].toNat/\s[k].toNat<97)\/122<s[k].toNat)\/(48<=s[k].toNat/\s[k].toNat<=57)\/(97<=s[k].toNat/\s[k].toNat<=122):=by omega
        rcases hcases with h | h
        · have hno:keyC s[k]=false:=by unfold keyC;simp;omega
          have e1:s.data.toList.all keyC=false:=by
           rw[List.all_eq_false];exact⟨s[k],HM.out,by simp[hno]⟩
          have E1:=qA e1;clear hno e1;rcases h with h | ⟨ha,hb⟩ | h
          all_goals
           go_wp2
           all_goals first | (go_ret;exact⟨ret_bool (by rw[E0.out,E1.out]),rfl⟩) | (exfalso;rename_i h;simp at h;omega)
        · have hyes:keyC s[k]=true:=by unfold keyC;simp;omega
          have e1:(s.data.toList.take (k+1)).all keyC=true:=by rw[HT.out,List.all_append,HA.out];simp[hyes]
          have E1:=qA e1;clear hyes e1;rcases h with ⟨ha,hb⟩ | ⟨ha,hb⟩
          all_goals
           first
            | (have hd:decide ((s[k].toNat:Int)<=57)=true:=by simp;omega)
            | (have hd:decide ((s[k].toNat:Int)<=122)=true:=by simp;omega)
           go_wp2
           go_round
           case rel=>exact⟨k+1,by omega,by go_num,E1.out⟩
           case measure=>simp[intOf];omega
      · have e1:s.data.toList.all keyC=true:=by
         have:=HA.out
         rwa [List.take_of_length_le (by rw[<- HZ.out];omega)]at this
        have E1:=qA e1;clear e1
        go_wp2
        go_ret;exact⟨ret_bool (by rw[E0.out,E1.out]),rfl⟩
def Room (w:World)(g:Nat)(t:TypeId)(n:Nat):Prop:=∃cur:Array Value,w.heap[g]? =some (.cells cur t (0,0))/\cur.size=n
theorem Room.lt {w:World}{g:Nat}{t:TypeId}{n:Nat}(h:Room w g t n):g<w.heap.size:=by
 obtain⟨cur,h,_⟩:=h;exact lt_of_block h
theorem Room.cell {w:World}{g:Nat}{t:TypeId}{n:Nat}(h:Room w g t n)(i:Nat)(hi:i<n):∃u,w.cell? ⟨g,i,none⟩=some u:=by
 obtain⟨cur,h,hs⟩:=h;exact⟨cur[i],by rw[cell_of_row w g i cur t _ h];exact Array.getElem?_eq_getElem (by omega)⟩
theorem Room.free {w:World}{g:Nat}{t:TypeId}{n:Nat}(h:Room w g t n)(i:Nat):w.frozen? ⟨g,i,none⟩=false:=by
 obtain⟨cur,h,_⟩:=h;exact frozen_of_row w g i cur t h
theorem Room.set {w:World}{g:Nat}{t:TypeId}{n:Nat}(h:Room w g t n)(i:Nat)(v:Value):Room (w.setCell ⟨g,i,none⟩ v) g t n:=by
 obtain⟨cur,h,hs⟩:=h;exact⟨_,heap_setCell_same w g i cur t v h,by simpa using hs⟩
theorem Room.ext {w w':World}{g:Nat}{t:TypeId}{n:Nat}(h:Room w g t n)(hx:Ext w w'):Room w' g t n:=by
 obtain⟨cur,h,hs⟩:=h;exact⟨cur,(hx.block g (lt_of_block h)).trans h,hs⟩
theorem own_form {w:World}{B:Nat}{e:TypeId}{size n:Nat}{v:Value}{xs:List Value}(h:w.ownsRow B e size v n xs):(v= .slice none 0 0/\n=0)\/∃g cap,v= .slice (some ⟨g,0,none⟩) n cap:=by
 obtain⟨_,h2⟩:=h;rcases h2 with ⟨rfl,h0⟩ | ⟨g,cap,cur,rfl,_⟩
 · exact .inl ⟨rfl,h0⟩
 · exact .inr ⟨g,cap,rfl⟩
end Go.Proofs.YtmpmggejhnmakaaGreatDoor
/- Operations that yield a value, the check of a pointer among them, may be taken first in a region that draws its order. -/
namespace Go.Proofs.YtmpmggejhnmakaaGreatDoor
open Go.RowKit
def valN2:Op->Bool
 | .nilCheck _=>true
 | o=>valB o
theorem nilDeref_not_ok {P:Program}{α:Type}{w w':World}{n:α}(h:(runtimePanic .nilDeref:Sem α).run P w= .ok n w'):False:=by
 unfold runtimePanic at h;simp[Sem.run_bind,Result.andThen,goPanic]at h
theorem valN2_value {P:Program}{ρ:Operand->Value}{o:Oper}(ho:valN2 o.op=true){w w':World}{n:Next}(h:(execOp ρ o).run P w= .ok n w'):∃v,n= .value v:=by
 by_cases hb:valB o.op=true
 · exact valB_value hb h
 · have hx:∃x,o.op= .nilCheck x:=by
    cases hop:o.op<;>rw[hop]at ho hb<;>first | exact⟨_,rfl⟩ | exact absurd ho hb
   obtain⟨x,hx⟩:=hx;unfold execOp at h;simp only[hx]at h
   split at h
   all_goals first
    | exact (nilDeref_not_ok h).elim
    | skip
   · split at h
     · exact (nilDeref_not_ok h).elim
     · rename_i ty wv _
       simp only[Sem.run_bind,run_program,Result.andThen_ok]at h;generalize (nilAhead _ _ _ _).run P w=r at h;cases r with
       | halt _ _=>simp[Result.andThen]at h
       | ok a w1=>
         simp only[Result.andThen_ok]at h
         split at h
         · simp[unsupported]at h
         · simp at h;exact⟨_,h.1.symm⟩
     · simp at h;exact⟨_,h.1.symm⟩
   · simp at h;exact⟨_,h.1.symm⟩
def takesC (ops:Array Oper):List Nat->Array Bool->Bool
 | [],_=>true
 | i::is,listed=>(Region.ready .any ops listed).contains i&&Region.free .any ops listed i&&((ops[i]?).map λo=>valN2 o.op).getD false&&takesC ops is (listed.setIfInBounds i true)
theorem wpAnyH_takesC {P:Program}{ops:Array Oper}{Q:Exit->Go.Act->World->Prop}{S:World->Prop}{w:World}(hS:S w)(hsel:Region.noSelect ops=true)(hQ:∀(c:_)(a:Go.Act)(t:Array Value)(w:World),Q (.panic c) { a with tmps:=t } w->Q (.panic c) a w)(f:Nat):
 ∀(is:List Nat) (listed:Array Bool) (a:Go.Act),takesC ops is listed=true->wpQuiet P ops S (λa'=>wpAnyH P .any ops Q S f (listedBy is listed) a' w) (opsAt ops is) a->wpAnyH P .any ops Q S (f+is.length) listed a w
 | [],_,_,_,h=>h
 | i::is,listed,a,hB,h=>by
   unfold takesC at hB;simp only[Bool.and_eq_true]at hB;obtain⟨⟨⟨h1,h2⟩,h3⟩,h4⟩:=hB;cases ho:ops[i]? with
   | none=>rw[ho]at h3;cases h3
   | some o=>
     rw[ho]at h3;have hv:valN2 o.op=true:=h3;unfold opsAt at h;rw[ho]at h;simp only at h;unfold wpQuiet at h;rw[show f+(i::is).length=(f+is.length)+1 from by rw[List.length_cons];omega]
     split at h
     · rename_i hw
       obtain⟨v,hq,hK⟩:=h;refine wpAnyH_take (v:=v) ho hsel h2 h1 (λc a w h=>by obtain⟨t,ht⟩:=put_tmps a o.dst _;rw[ht]at h;exact hQ c a t w h) (.inl ⟨hw,λw' hw'=>?_⟩) hS (wpAnyH_takesC hS hsel hQ f is _ _ h4 hK);exact quietUpon_value (hq w' hw') (λn w'' h=>valN2_value hv h)
     · rename_i hw
       exact wpAnyH_take (v:=undef) ho hsel h2 h1 (λc a w h=>by obtain⟨t,ht⟩:=put_tmps a o.dst _;rw[ht]at h;exact hQ c a t w h) (.inr ⟨by simpa using hw,rfl⟩) hS (wpAnyH_takesC hS hsel hQ f is _ _ h4 h)
theorem wp_region_firstC {P:Program}{id:Nat}{Q:Exit->Go.Act->World->Prop}{a:Go.Act}{w:World}{l:List Oper}(S:World->Prop)(is:List Nat)(f:Nat)(hm:P.follows .mixedOrders=true)(hB:(Region.noSelect l.toArray&&takesC l.toArray is (Array.replicate l.toArray.size false)&&decide (l.toArray.size=f+is.length))=true)
 (hQ:∀(c:_) (a:Go.Act) (t:Array Value) (w:World),Q (.panic c) { a with tmps:=t } w->Q (.panic c) a w) (hS:S w.drew)
 (h:wpQuiet P l.toArray S (λa'=>wpAnyH P .any l.toArray Q S f (listedBy is (Array.replicate l.toArray.size false)) a' w.drew) (opsAt l.toArray is) a):(Code.region id l.toArray true).wp P Q a w:=by
 simp only[Bool.and_eq_true,decide_eq_true_eq]at hB;obtain⟨⟨h1,h2⟩,h3⟩:=hB;refine wp_region_held_drew (S:=S) hm hS (λhS=>?_);have h5:=wpAnyH_takesC hS h1 hQ f is _ a h2 h;rw[<- h3]at h5;exact h5
theorem wp_takesC {P:Program}{ops:Array Oper}{Q:Exit->Go.Act->World->Prop}{S:World->Prop}{listed:Array Bool}{a:Go.Act}{w:World}(is:List Nat)(f:Nat)(hB:(Region.noSelect ops&&takesC ops is listed)=true)
 (hQ:∀(c:_) (a:Go.Act) (t:Array Value) (w:World),Q (.panic c) { a with tmps:=t } w->Q (.panic c) a w) (hS:S w)
 (h:wpQuiet P ops S (λa'=>wpAnyH P .any ops Q S f (listedBy is listed) a' w) (opsAt ops is) a):wpAnyH P .any ops Q S (f+is.length) listed a w:=by
 simp only[Bool.and_eq_true]at hB;exact wpAnyH_takesC hS hB.1 hQ f is listed a hB.2 h
end Go.Proofs.YtmpmggejhnmakaaGreatDoor
