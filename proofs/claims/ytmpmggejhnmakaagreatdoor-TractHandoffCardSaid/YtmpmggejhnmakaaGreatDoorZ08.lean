/- SameReads: are two rows of reads the same? -/
import Derived.Test.YtmpmggejhnmakaaGreatDoorZ02
import Derived.Laws.StructEq
import Derived.IntWalk
import Derived.Test.YtmpmggejhnmakaaGreatDoorZ07
import Derived.Maps.Ext
import Derived.Maps.OwnSet
import Derived.Test.YtmpmggejhnmakaaGreatDoorZ01
import Derived.DeepKeys4
set_option maxRecDepth 100000
set_option maxHeartbeats 800000
namespace Go.Proofs.YtmpmggejhnmakaaGreatDoor
open Go.RowKit
deriving instance DecidableEq for Rd
theorem toList_iff (a b:ByteArray):a.toList=b.toList↔a=b:=by
 rw[Lib.toList_data,Lib.toList_data];exact⟨λh=>ByteArray.ext (Array.toList_inj.1 h),λh=>by rw[h]⟩
def sameRd (k1:ByteArray)(i1:Bool)(v1 k2:ByteArray)(i2:Bool)(v2:ByteArray):Bool:=decide ((⟨k1,i1,v1⟩:Rd)=⟨k2,i2,v2⟩)
theorem neq_read (k1:ByteArray)(i1:Bool)(v1 k2:ByteArray)(i2:Bool)(v2:ByteArray)(w:World):
 (binOp .neq 239 (.agg #[.string k1,.bool i1,.string v1]) (.agg #[.string k2,.bool i2,.string v2])).run Tryz.prog w= .ok (.bool (!sameRd k1 i1 v1 k2 i2 v2)) w:=by
 unfold sameRd;have hS:Tryz.prog.underlying 239=some (.struct (Tryz.prog.fieldsOf 239)):=by kernel_rfl
 have hp:Tryz.prog.stoodInHeld 239=false:=by kernel_rfl
 have u9:=Tryz.underlying9;have u4:=Tryz.underlying4;rw[run_neq_struct,show (10000:Nat)=9999+1 from rfl,run_equalIn_agg w 9999 239 _ _ hS hp];simp only[Program.fieldsOf,Tryz.underlying239];go_simp;by_cases h1:k1=k2<;>by_cases h2:i1=i2<;>by_cases h3:v1=v2<;>simp[h1,h2,h3,toList_iff]
theorem sameReads_calls (l m:List Rd)(ao bo:Option Addr)(cap cap':Nat)(w:World)(hl:l.length<=1000000)(hr:Rows 3 encRd w.heap.size w ao l)(hq:Rows 3 encRd w.heap.size w bo m):
 Calls Tryz.prog 112 #[.slice ao l.length cap,.slice bo m.length cap'] w λe w'=>e= .returned (.bool (decide (l=m)))/\Ext w w':=by
 have HR:=qA hr;have HQ:=qA hq;clear hr hq;by_cases hlen:l.length=m.length
 · have HL:=qA hlen
   go_enter Tryz.func112,Tryz.ntmps112;have hd:((l.length:Int) != (m.length:Int))=false:=by simp[hlen]
   have hneq:=neq_read;clear hlen;go_wp2_with fail;go_loopw [5] (λi wr=>∃(k:Nat),k<=l.length/\i= .int .i64 k/\l.take k=m.take k/\Ext w wr) (λi _=>l.length - (intOf i).toNat)
   case atStart=>exact⟨0,by omega,rfl,by simp,qK _ _⟩
   case round=>
    obtain⟨k,hk,rfl,ha,hx⟩:=hrel;have K1:=qA ha;have K2:=qA hx;clear ha hx;by_cases hlt:k<l.length
    · have hlt':k<m.length:=by have:=HL.out;omega
      obtain⟨x,hx⟩:∃x,l[k]? =some x:=⟨_,qE hlt⟩;obtain⟨y,hy⟩:∃y,m[k]? =some y:=⟨_,qE hlt'⟩;obtain⟨b,off,rfl,hb,hcell⟩:=HR.out (by intro e;rw[e]at hlt;simp at hlt);obtain⟨b',off',rfl,hb',hcell'⟩:=HQ.out (by intro e;rw[e]at hlt';simp at hlt');have hcx:=hcell k x hx;have hcy:=hcell' k y hy;have hmove:∀j,wr.cell? ⟨b,j,none⟩=w.cell? ⟨b,j,none⟩:=λj=>K2.out.cell (p:=⟨b,j,none⟩) hb;have hmove':∀j,wr.cell? ⟨b',j,none⟩=w.cell? ⟨b',j,none⟩:=λj=>K2.out.cell (p:=⟨b',j,none⟩) hb';have TK:=qA (show l.take (k+1)=l.take k++[x] by rw[List.take_add_one,hx];rfl);have TM:=qA (show m.take (k+1)=m.take k++[y] by rw[List.take_add_one,hy];rfl);have HX:=qA hx;have HY:=qA hy;obtain⟨k1,i1,v1⟩:=x;obtain⟨k2,i2,v2⟩:=y;have d0:=(hmove _).trans (hcx 0 _ rfl);have d1:=(hmove _).trans (hcx 1 _ rfl);have d2:=(hmove _).trans (hcx 2 _ rfl);have c0:=(hmove' _).trans (hcy 0 _ rfl);have c1:=(hmove' _).trans (hcy 1 _ rfl);have c2:=(hmove' _).trans (hcy 2 _ rfl);simp only[Nat.add_zero]at d0 c0;have hi0:(0:Int)<=(k:Int):=by omega
      have hi1:(k:Int)<(l.length:Int):=by omega
      have hi2:(k:Int)<(m.length:Int):=by omega
      clear hx hy hcell hcell' hcx hcy hmove hmove';by_cases heq:(⟨k1,i1,v1⟩:Rd)=⟨k2,i2,v2⟩
      · have he:sameRd k1 i1 v1 k2 i2 v2=true:=decide_eq_true heq
        have E:=qA heq;clear heq;go_wp2_with fail
        go_quiet (fail)
        go_wp2_with fail;go_roundw
        case rel=>exact⟨k+1,by omega,by go_num,by rw[TK.out,TM.out,K1.out,E.out],(Ext.drewN K2.out _)⟩
        case measure=>simp[intOf];omega
      · have he:sameRd k1 i1 v1 k2 i2 v2=false:=decide_eq_false heq
        have E:=qA heq;clear heq;go_wp2_with fail
        go_quiet (fail)
        go_wp2_with fail;go_ret;refine⟨ret_bool (Eq.symm (decide_eq_false λe=>?_)),(Ext.drewN K2.out _)⟩;have h1:=HX.out;have h2:=HY.out;rw[e,h2]at h1;exact E.out (Option.some.inj h1).symm
    · have hall:l=m:=by
       have:=K1.out
       rwa [List.take_of_length_le (by omega),List.take_of_length_le (by have:=HL.out;omega)]at this
      have HA:=qA hall;clear hall;go_wp2_with fail;go_ret;exact⟨ret_bool (by simp[HA.out]),K2.out⟩
 · go_enter Tryz.func112,Tryz.ntmps112
   have hd:((l.length:Int) != (m.length:Int))=true:=by simp;omega
   go_wp2_with fail;go_ret;exact⟨ret_bool (Eq.symm (decide_eq_false λe=>hlen (by rw[e]))),qK _ _⟩
deriving instance DecidableEq for ActD
theorem toList_iff_acts (a b:ByteArray):a.toList=b.toList↔a=b:=by
 rw[Lib.toList_data,Lib.toList_data];exact⟨λh=>ByteArray.ext (Array.toList_inj.1 h),λh=>by rw[h]⟩
def sameActD (x:ActD)(y:ActD):Bool:=decide (x=y)
theorem neq_ActD (kd1:Int)(ky1:ByteArray)(vl1:ByteArray)(nm1:Int)(kd2:Int)(ky2:ByteArray)(vl2:ByteArray)(nm2:Int)(w:World):
 (binOp .neq 74 (.agg #[.int .u8 kd1,.string ky1,.string vl1,.int .i64 nm1]) (.agg #[.int .u8 kd2,.string ky2,.string vl2,.int .i64 nm2])).run Tryz.prog w= .ok (.bool (!sameActD ⟨kd1,ky1,vl1,nm1⟩ ⟨kd2,ky2,vl2,nm2⟩)) w:=by
 unfold sameActD;have hS:Tryz.prog.underlying 74=some (.struct (Tryz.prog.fieldsOf 74)):=by kernel_rfl
 have hp:Tryz.prog.stoodInHeld 74=false:=by kernel_rfl
 have u0:=Tryz.underlying72;have u1:=Tryz.underlying3;have u2:=Tryz.underlying9;rw[run_neq_struct,show (10000:Nat)=9999+1 from rfl,run_equalIn_agg w 9999 74 _ _ hS hp];simp only[Program.fieldsOf,Tryz.underlying74];go_simp;by_cases h0:kd1=kd2<;>by_cases h1:ky1=ky2<;>by_cases h2:vl1=vl2<;>by_cases h3:nm1=nm2<;>simp[h0,h1,h2,h3,toList_iff_acts]
theorem sameActs_calls (l m:List ActD)(ao bo:Option Addr)(cap cap':Nat)(w:World)(hl:l.length<=1000000)(hr:Rows 4 encAct w.heap.size w ao l)(hq:Rows 4 encAct w.heap.size w bo m):
 Calls Tryz.prog 111 #[.slice ao l.length cap,.slice bo m.length cap'] w λe w'=>e= .returned (.bool (decide (l=m)))/\Ext w w':=by
 have HR:=qA hr;have HQ:=qA hq;clear hr hq;by_cases hlen:l.length=m.length
 · have HL:=qA hlen
   go_enter Tryz.func111,Tryz.ntmps111;have hd:((l.length:Int) != (m.length:Int))=false:=by simp[hlen]
   have hneq:=neq_ActD;clear hlen;go_wp2_with fail;go_loopw [5] (λi wr=>∃(k:Nat),k<=l.length/\i= .int .i64 k/\l.take k=m.take k/\Ext w wr) (λi _=>l.length - (intOf i).toNat)
   case atStart=>exact⟨0,by omega,rfl,by simp,qK _ _⟩
   case round=>
    obtain⟨k,hk,rfl,ha,hx⟩:=hrel;have K1:=qA ha;have K2:=qA hx;clear ha hx;by_cases hlt:k<l.length
    · have hlt':k<m.length:=by have:=HL.out;omega
      obtain⟨x,hx⟩:∃x,l[k]? =some x:=⟨_,qE hlt⟩;obtain⟨y,hy⟩:∃y,m[k]? =some y:=⟨_,qE hlt'⟩;obtain⟨b,off,rfl,hb,hcell⟩:=HR.out (by intro e;rw[e]at hlt;simp at hlt);obtain⟨b',off',rfl,hb',hcell'⟩:=HQ.out (by intro e;rw[e]at hlt';simp at hlt');have hcx:=hcell k x hx;have hcy:=hcell' k y hy;have hmove:∀j,wr.cell? ⟨b,j,none⟩=w.cell? ⟨b,j,none⟩:=λj=>K2.out.cell (p:=⟨b,j,none⟩) hb;have hmove':∀j,wr.cell? ⟨b',j,none⟩=w.cell? ⟨b',j,none⟩:=λj=>K2.out.cell (p:=⟨b',j,none⟩) hb';have TK:=qA (show l.take (k+1)=l.take k++[x] by rw[List.take_add_one,hx];rfl);have TM:=qA (show m.take (k+1)=m.take k++[y] by rw[List.take_add_one,hy];rfl);have HX:=qA hx;have HY:=qA hy;obtain⟨kd1,ky1,vl1,nm1⟩:=x;obtain⟨kd2,ky2,vl2,nm2⟩:=y;have d0:=(hmove _).trans (hcx 0 _ rfl);have d1:=(hmove _).trans (hcx 1 _ rfl);have d2:=(hmove _).trans (hcx 2 _ rfl);have d3:=(hmove _).trans (hcx 3 _ rfl);have c0:=(hmove' _).trans (hcy 0 _ rfl);have c1:=(hmove' _).trans (hcy 1 _ rfl);have c2:=(hmove' _).trans (hcy 2 _ rfl);have c3:=(hmove' _).trans (hcy 3 _ rfl);simp only[Nat.add_zero]at d0 c0;have hi0:(0:Int)<=(k:Int):=by omega
      have hi1:(k:Int)<(l.length:Int):=by omega
      have hi2:(k:Int)<(m.length:Int):=by omega
      clear hx hy hcell hcell' hcx hcy hmove hmove';by_cases heq:(⟨kd1,ky1,vl1,nm1⟩:ActD)=⟨kd2,ky2,vl2,nm2⟩
      · have he:sameActD ⟨kd1,ky1,vl1,nm1⟩ ⟨kd2,ky2,vl2,nm2⟩=true:=decide_eq_true heq
        have E:=qA heq;clear heq;go_wp2_with fail
        go_quiet (fail)
        go_wp2_with fail;go_roundw
        case rel=>exact⟨k+1,by omega,by go_num,by rw[TK.out,TM.out,K1.out,E.out],(Ext.drewN K2.out _)⟩
        case measure=>simp[intOf];omega
      · have he:sameActD ⟨kd1,ky1,vl1,nm1⟩ ⟨kd2,ky2,vl2,nm2⟩=false:=decide_eq_false heq
        have E:=qA heq;clear heq;go_wp2_with fail
        go_quiet (fail)
        go_wp2_with fail;go_ret;refine⟨ret_bool (Eq.symm (decide_eq_false λe=>?_)),(Ext.drewN K2.out _)⟩;have h1:=HX.out;have h2:=HY.out;rw[e,h2]at h1;exact E.out (Option.some.inj h1).symm
    · have hall:l=m:=by
       have:=K1.out
       rwa [List.take_of_length_le (by omega),List.take_of_length_le (by have:=HL.out;omega)]at this
      have HA:=qA hall;clear hall;go_wp2_with fail;go_ret;exact⟨ret_bool (by simp[HA.out]),K2.out⟩
 · go_enter Tryz.func111,Tryz.ntmps111
   have hd:((l.length:Int) != (m.length:Int))=true:=by simp;omega
   go_wp2_with fail;go_ret;exact⟨ret_bool (Eq.symm (decide_eq_false λe=>hlen (by rw[e]))),qK _ _⟩
end Go.Proofs.YtmpmggejhnmakaaGreatDoor
/- Transactions done one behind the other: what the program and the document compute, in plain words. -/
namespace Go.Proofs.YtmpmggejhnmakaaGreatDoor
structure StepD where
 cl:Int
 nm:Int
 acts:List ActD
 reads:List Rd
 ca:Int
 an:Int
abbrev Told:=Txt->List Rd
def keySt (acts:List ActD)(rows:List RowD)(k:Txt):St:=(St.begin (getR k rows).isSome ((getR k rows).getD noBytes)).after (ofL k acts)
def tellAct (p:List Rd×Told)(a:ActD):List Rd×Told:=
 if a.kind=2 then p else (p.1++(p.2 (keyT a)).head?.toList,λx=>if x=keyT a then (p.2 x).tail else p.2 x)
def tellAt (m:Told)(acts:List ActD):List Rd×Told:=acts.foldl tellAct ([],m)
theorem tellAt_snoc (m:Told)(acts:List ActD)(a:ActD):tellAt m (acts++[a])=tellAct (tellAt m acts) a:=by
 unfold tellAt;rw[List.foldl_append];rfl
def cntK (k:Txt)(l:List ActD):Nat:=l.countP λa=>decide (a.kind≠2)&&decide (keyT a=k)
def kinds3 (l:List ActD):Prop:=∀a∈l,a.kind=1\/a.kind=2\/a.kind=3
theorem St.after_reads (l:List ActD):∀s:St,kinds3 l->(s.after l).reads.length=s.reads.length+l.countP λa=>decide (a.kind≠2):=by
 induction l with
 | nil=>intro s _;simp[St.after]
 | cons a l ih=>
   intro s h;have h2:=ih (s.step a) (λx hx=>h x (by simp[hx]));unfold St.after at h2 ⊢;rw[List.foldl_cons,h2,List.countP_cons];rcases h a (by simp) with e | e | e
   · simp[St.step,e,St.get];omega
   · simp[St.step,e,St.puts]
   · simp[St.step,e,St.get,St.puts];omega
theorem cntK_of (k:Txt)(l:List ActD):cntK k l=(ofL k l).countP λa=>decide (a.kind≠2):=by
 unfold cntK ofL;rw[List.countP_filter]
theorem keySt_len {acts:List ActD}(h:kinds3 acts)(rows:List RowD)(k:Txt):(keySt acts rows k).reads.length=cntK k acts:=by
 unfold keySt;have hk:kinds3 (ofL k acts):=λa ha=>h a (List.mem_filter.1 ha).1;rw[St.after_reads _ _ hk,cntK_of];simp[St.begin]
theorem tellAt_len {acts:List ActD}{m:Told}(hm:∀x,(m x).length=cntK x acts):∀(i:Nat),i<=acts.length->∀x,((tellAt m (acts.take i)).2 x).length=cntK x (acts.drop i):=by
 intro i
 induction i with
 | zero=>intro _ x;simpa [tellAt] using hm x
 | succ i ih=>
   intro hi x;have hi':i<acts.length:=by omega
   rw[List.take_add_one,qE hi',Option.toList_some,tellAt_snoc];have h1:=ih (by omega) x;have hd:acts.drop i=acts[i]::acts.drop (i+1):=List.drop_eq_getElem_cons hi';rw[hd]at h1;unfold cntK at h1 ⊢;rw[List.countP_cons]at h1;unfold tellAct;by_cases e:acts[i].kind=2
   · rw[if_pos e,h1];simp[e]
   · rw[if_neg e]
     simp only;by_cases e2:x=keyT acts[i]
     · subst e2
       rw[if_pos rfl,List.length_tail,h1];simp[e]
     · rw[if_neg e2,h1]
       have:¬keyT acts[i]=x:=λh=>e2 h.symm
       simp[this]
theorem tell_some {acts:List ActD}{m:Told}(hm:∀x,(m x).length=cntK x acts){i:Nat}{a:ActD}(hi:acts[i]? =some a)(hk:a.kind≠2):∃r rs,(tellAt m (acts.take i)).2 (keyT a)=r::rs:=by
 obtain⟨hlt,he⟩:=qF.1 hi;have h1:=tellAt_len hm i (by omega) (keyT a);have hd:acts.drop i=acts[i]::acts.drop (i+1):=List.drop_eq_getElem_cons hlt;rw[hd,he]at h1;unfold cntK at h1;rw[List.countP_cons]at h1;cases hc:(tellAt m (acts.take i)).2 (keyT a) with
 | nil=>rw[hc]at h1;simp[hk]at h1
 | cons r rs=>exact⟨r,rs,rfl⟩
theorem tell_len (m:Told):∀(acts:List ActD),(tellAt m acts).1.length<=acts.length:=by
 have key:∀(acts:List ActD) (p:List Rd×Told),(acts.foldl tellAct p).1.length<=p.1.length+acts.length:=by
  intro acts
  induction acts with
  | nil=>intro p;simp
  | cons a l ih=>
    intro p;rw[List.foldl_cons];refine qM (ih _) ?_;unfold tellAct
    split
    · simp only[List.length_cons];omega
    · simp only[qG,List.length_cons]
      have:((p.2 (keyT a)).head?.toList).length<=1:=by cases (p.2 (keyT a)).head? <;>simp
      omega
 intro acts
 have:=key acts ([],m)
 simpa [tellAt] using this
abbrev Hist:=List RowD×List (Int×Int)
def RowD.ok (r:RowD):Prop:=r.key.size<=140737488351232/\r.value.size<=140737488351232
end Go.Proofs.YtmpmggejhnmakaaGreatDoor
/- A map that a call makes, told as a function from keys to values, whatever the values are. -/
namespace Go.Proofs.YtmpmggejhnmakaaGreatDoor
open Go.RowKit
open Go.Maps (Keyed)
deriving instance DecidableEq for Go.Lit
def rawR (v:Value):Option (DataW Value×List MemPlace):=some (.held v,[])
structure MapF (P:Program)(k:TypeId)(w:World)(b n:Nat)(z:Value)(val:Lit->Value)(has:Lit->Bool):Prop where
 own:∃D:DataW Value,w.ownsMap P k rawR b n D/\(∀kl,D.atKey kl (.held z)= .held (val kl))/\∀kl,Maps.has D kl=has kl
variable {P:Program} {k:TypeId} {w w':World} {b n:Nat} {z:Value} {val:Lit->Value} {has:Lit->Bool}
theorem MapF.lt (h:MapF P k w b n z val has):b<w.heap.size:=by obtain⟨D,h,_⟩:=h.own;exact h.lt
theorem MapF.same (h:MapF P k w b n z val has)(hb:w'.heap[b]? =w.heap[b]?):MapF P k w' b n z val has:=by
 obtain⟨D,⟨es,c,h1,h2⟩,h3⟩:=h.own;exact⟨D,⟨es,c,hb.trans h1,h2⟩,h3⟩
theorem MapF.ext (h:MapF P k w b n z val has)(hx:Ext w w'):MapF P k w' b n z val has:=h.same (hx.block b h.lt)
theorem MapF.mono (h:MapF P k w b n z val has){m:Nat}(hm:n<=m):MapF P k w b m z val has:=by
 obtain⟨D,h1,h2⟩:=h.own;exact⟨D,h1.mono hm,h2⟩
theorem MapF.made (P:Program)(k:TypeId)(w:World)(z:Value):MapF P k (w.alloc (.map #[] 0)) w.heap.size 0 z (λ_=>z) (λ_=>false):=
 ⟨_,World.ownsMap_made w P k rawR,λ_=>rfl,λ_=>rfl⟩
theorem MapF.ne (h:MapF P k w b n z val has){g:Nat}{cs:Array Value}{t:TypeId}{x:Nat×Nat}(hg:w.heap[g]? =some (.cells cs t x)):g≠b:=by
 obtain⟨D,⟨es,c,h1,_⟩,_⟩:=h.own;intro e;subst e;rw[h1]at hg;cases hg
theorem MapF.lookup {t e:TypeId}(h:MapF P k w b n z val has)(K:Keyed P k)(ht:P.underlying t=some (.map k e))(hz:(zeroValue e).run P w= .ok z w){key:Value}{kl:Lit}(hkey:keyOf P k key=some kl):
 (Instr.lookup t (.map (some b)) key false).run P w= .ok (val kl) w:=by
 obtain⟨D,h1,h2,_⟩:=h.own;obtain⟨v,ps,hrun,hv⟩:=h1.lookup K ht hz (zd:= .held z) (zp:=[]) rfl hkey;rw[hrun];rw[h2 kl]at hv;simp only[rawR,Option.some.injEq,Prod.mk.injEq,DataW.held.injEq]at hv;rw[hv.1]
theorem MapF.update {t e:TypeId}(h:MapF P k w b n z val has)(K:Keyed P k)(ht:P.underlying t=some (.map k e))(hn:n<maxLen){key v:Value}{kl:Lit}(hkey:keyOf P k key=some kl):
 ∃w',(Instr.mapUpdate t (.map (some b)) key v).run P w= .ok () w'/\MapF P k w' b (n+1) z (λx=>if x=kl then v else val x) (λx=>decide (x=kl)||has x)/\w.grownBy w' (some b):=by
 obtain⟨D,h1,h2,h3⟩:=h.own;obtain⟨w',hrun,hown,hg⟩:=h1.update K ht hn (val:=v) (d:= .held v) (ps:=[]) hkey rfl;have hm:=h1.isMap;have hk:=K.key hkey;refine⟨w',hrun,⟨_,hown,λx=>?_,λx=>?_⟩,hg⟩
 · by_cases e:x=kl
   · subst e;rw[Maps.atKey_put_same hm hk,if_pos rfl]
   · rw[Maps.atKey_put_other e,if_neg e,h2]
 · by_cases e:x=kl
   · subst e;rw[Maps.has_put_same hm hk];simp
   · rw[Maps.has_put_other e,h3];simp[e]
theorem MapF.congr (h:MapF P k w b n z val has){val':Lit->Value}{has':Lit->Bool}(hv:∀x,val x=val' x)(hh:∀x,has x=has' x):MapF P k w b n z val' has':=by
 have:val=val':=funext hv
 have h2:has=has':=funext hh;subst this;subst h2;exact h
theorem MapF.off (h:MapF P k w b n z val has){x:Lit}(hx:has x=false):val x=z:=by
 obtain⟨D,_,h2,h3⟩:=h.own;have e:=h2 x;rw[Maps.atKey_of_not_has (by rw[h3];exact hx)]at e;exact (DataW.held.inj e).symm
structure RangeF (P:Program)(k:TypeId)(w:World)(b r n:Nat)(z:Value)(val:Lit->Value)(has:Lit->Bool)(left:Lit->Bool)(cnt:Nat):Prop where
 own:∃D:DataW Value,w.ranges P k rawR b r n D left cnt/\(∀kl,D.atKey kl (.held z)= .held (val kl))/\∀kl,Maps.has D kl=has kl
variable {r cnt:Nat} {left:Lit->Bool}
theorem RangeF.map (h:RangeF P k w b r n z val has left cnt):MapF P k w b n z val has:=by obtain⟨D,h1,h2⟩:=h.own;exact⟨D,h1.owns,h2⟩
theorem RangeF.lt (h:RangeF P k w b r n z val has left cnt):r<w.heap.size:=by obtain⟨D,h1,_⟩:=h.own;exact h1.lt
theorem RangeF.same (h:RangeF P k w b r n z val has left cnt)(hb:w'.heap[b]? =w.heap[b]?)(hr:w'.heap[r]? =w.heap[r]?):RangeF P k w' b r n z val has left cnt:=by
 obtain⟨D,⟨es,c,s,sn,c0,h1,h2,h3,h4,h5,h6⟩,h7⟩:=h.own;exact⟨D,⟨es,c,s,sn,c0,hb.trans h1,h2,h3,h4,hr.trans h5,h6⟩,h7⟩
theorem RangeF.ext (h:RangeF P k w b r n z val has left cnt)(hx:Ext w w'):RangeF P k w' b r n z val has left cnt:=h.same (hx.block b h.map.lt) (hx.block r h.lt)
end Go.Proofs.YtmpmggejhnmakaaGreatDoor
/- Steps as the program has them; a history in memory. -/
namespace Go.Proofs.YtmpmggejhnmakaaGreatDoor
open Go.RowKit
open Go.Maps (Keyed)
structure StepZ where
 d:StepD
 ao:Option Addr
 ac:Nat
 ro:Option Addr
 rc:Nat
def StepZ.at (B:Nat)(w:World)(z:StepZ):Prop:=Rows 4 encAct B w z.ao z.d.acts/\Rows 3 encRd B w z.ro z.d.reads
theorem StepZ.at.ext {B:Nat}{w w':World}{z:StepZ}(h:z.at B w)(hx:Below B w w'):z.at B w':=⟨h.1.ext hx,h.2.ext hx⟩
theorem StepZ.at.mono {B B':Nat}{w:World}{z:StepZ}(h:z.at B w)(hB:B<=B'):z.at B' w:=⟨h.1.mono hB,h.2.mono hB⟩
def i64B (n:Int):Prop:= -9223372036854775808<=n/\n<=9223372036854775807
structure StepD.ok (d:StepD):Prop where
 acts:∀a∈d.acts,a.ok
 an:d.acts.length<=1000000
 rn:d.reads.length<=1000000
 cl:i64B d.cl
 nm:i64B d.nm
 ca:i64B d.ca
 aw:i64B d.an
theorem strKeyed:Keyed Tryz.prog 9:=Maps.string_keyed Tryz.underlying9
variable {B:Nat} {w w':World} {hb mb n:Nat} {h:Hist} {v:Value}
end Go.Proofs.YtmpmggejhnmakaaGreatDoor
