/- Do: what acts of one key do, as the code goes. -/
import Derived.Test.YtmpmggejhnmakaaGreatDoorZ25
import Derived.Test.YtmpmggejhnmakaaGreatDoorZ02
import Derived.Test.YtmpmggejhnmakaaGreatDoorZ01
import Derived.Deep.LoopGhost
import Derived.Test.YtmpmggejhnmakaaGreatDoorZ08
import Derived.Test.YtmpmggejhnmakaaGreatDoorZ07
set_option maxRecDepth 100000
set_option maxHeartbeats 800000
namespace Go.Proofs.YtmpmggejhnmakaaGreatDoor
open Go.RowKit
def doRes (is:Bool)(value:ByteArray)(l:List ActD):St:=(St.begin is value).after l
def doAfter (is:Bool)(value:ByteArray)(l:List ActD):ByteArray:=if (doRes is value l).put then (doRes is value l).value else noBytes
def DoPost (is:Bool)(value:ByteArray)(l:List ActD)(w:World)(e:Ending)(w':World):Prop:=∃rv,e= .returned (.tuple #[rv,.bool (doRes is value l).put,.string (doAfter is value l)])/\w'.ownsRow 0 239 3 rv (doRes is value l).reads.length ((doRes is value l).reads.flatMap encRd)/\(∀k,rv.ownBlock=some k->w.heap.size<=k)/\Ext w w'
def doesMap (pb:Nat):Array MapEntry:= #[
 { key:= .int .u8 1,val:= .func (.func 165) #[.pointer (some ⟨pb,0,none⟩)] #[],born:=0 },
 { key:= .int .u8 2,val:= .func (.func 166) #[.pointer (some ⟨pb,0,none⟩)] #[],born:=1 },
 { key:= .int .u8 3,val:= .func (.func 167) #[.pointer (some ⟨pb,0,none⟩)] #[],born:=2 }]
theorem does_none {pb:Nat}{kd:Int}(k1:¬kd=1)(k2:¬kd=2)(k3:¬kd=3):Instr.findNow (.int .u8) (.int .u8 kd) (doesMap pb).toList 0=some none:=by
 have e1:(kd==1)=false:=by simpa using k1
 have e2:(kd==2)=false:=by simpa using k2
 have e3:(kd==3)=false:=by simpa using k3
 simp[doesMap,Instr.findNow,Instr.sameNow,e1,e2,e3]
theorem do_calls {B:Nat}(is:Bool)(value:ByteArray)(l:List ActD)(ao:Option Addr)(cap:Nat)(w:World)(hv:LV B w)(hB:B<=w.heap.size)(hl:l.length<=1000000)(hs:value.size<=140737488351232)(hok:∀a∈l,a.ok)(hr:Rows 4 encAct w.heap.size w ao l):
 Calls Tryz.prog 92 #[.bool is,.string value,.slice ao l.length cap] w (DoPost is value l w):=by
 have hmm:= @run_makeMap Tryz.prog;have hm1:=λ(W:World) (n:Nat) (hn:n=W.heap.size) (v:Value)=>run_mapUpdate_add (P:=Tryz.prog) Tryz.underlying246 Tryz.underlying72 rfl W n hn #[] 0 (key:= .int .u8 1) (v:=v) rfl;have hm2:=λ(W:World) (n:Nat) (hn:n=W.heap.size) (v1 v:Value)=>run_mapUpdate_add (P:=Tryz.prog) Tryz.underlying246 Tryz.underlying72 rfl W n hn #[⟨.int .u8 1,v1,0⟩] 1 (key:= .int .u8 2) (v:=v) rfl;have hm3:=λ(W:World) (n:Nat) (hn:n=W.heap.size) (v1 v2 v:Value)=>run_mapUpdate_add (P:=Tryz.prog) Tryz.underlying246 Tryz.underlying72 rfl W n hn #[⟨.int .u8 1,v1,0⟩,⟨.int .u8 2,v2,1⟩] 2 (key:= .int .u8 3) (v:=v) rfl;simp only[List.push_toArray,List.nil_append,List.cons_append,Nat.reduceAdd]at hm1 hm2 hm3;have HR:=qA hr;have HV:=qA hv;clear hr hv;cases is
 all_goals
  go_enter Tryz.func92,Tryz.ntmps92;go_wp2_with fail
 · have hx:Ext w ((w.alloc (.cells #[.slice none 0 0,.bool false,.bool false,.string ⟨#[]⟩] 244)).alloc (.map (doesMap w.heap.size) 3)):=((qK _ w).alloc (qL _) _).alloc (by simp) _
   have hp:PlaceAt ((w.alloc (.cells #[.slice none 0 0,.bool false,.bool false,.string ⟨#[]⟩] 244)).alloc (.map (doesMap w.heap.size) 3)) w.heap.size (St.begin false value) (.slice none 0 0):=⟨(Blk.new w _ _).alloc _,World.ownsRow_nil _ _ _ _⟩
   have hmap:((w.alloc (.cells #[.slice none 0 0,.bool false,.bool false,.string ⟨#[]⟩] 244)).alloc (.map (doesMap w.heap.size) 3)).heap[w.heap.size+1]? =some (.map (doesMap w.heap.size) 3):=by
    have:=heap_alloc_new (w.alloc (.cells #[.slice none 0 0,.bool false,.bool false,.string ⟨#[]⟩] 244)) (.map (doesMap w.heap.size) 3)
    simpa using this
   change Code.wp _ _ _ _ ((w.alloc (.cells #[.slice none 0 0,.bool false,.bool false,.string ⟨#[]⟩] 244)).alloc (.map (doesMap w.heap.size) 3));generalize ((w.alloc (.cells #[.slice none 0 0,.bool false,.bool false,.string ⟨#[]⟩] 244)).alloc _)=W0 at *;have H1:=qA hp;have H2:=qA hmap;have H3:=qA hx;have H0:=qA hok;clear hp hmap hx hok hmm hm1 hm2 hm3;generalize hpb:w.heap.size=pb at *;have HPB:=qA hpb;clear hpb;go_loopw [33] (λi wr=>∃(k:Nat) (rv:Value),k<=l.length/\i= .int .i64 k/\PlaceAt wr pb ((St.begin false value).after (l.take k)) rv/\Moves pb (.slice none 0 0) rv W0 wr) (λi _=>l.length - (intOf i).toNat)
   case atStart=>exact⟨0,_,by omega,rfl,H1.out,Moves.refl _ _ _⟩
   case round=>
    obtain⟨k,rv,hk,rfl,hp,hm⟩:=hrel;have K1:=qA hp;have K2:=qA hm;clear hp hm;by_cases hlt:k<l.length
    · obtain⟨s,hs1⟩:∃s,s=(St.begin false value).after (l.take k):=⟨_,rfl⟩
      obtain⟨x,hx⟩:∃x,l[k]? =some x:=⟨_,qE hlt⟩;have hbd:=St.after_bd (l.take k) (St.begin false value) (by simp[St.begin,noBytes,ByteArray.size]) (λa ha=>H0.out a (List.mem_of_mem_take ha));have hstep:=St.after_succ (St.begin false value) l k x hx;rw[<- hs1]at K1 hbd hstep;have hlen:s.reads.length<=1000000:=by have:=hbd.2;simp[St.begin]at this;omega
      have hval:=hbd.1;have hxok:=H0.out x (qH hx);obtain⟨b,off,rfl,hb,hcell⟩:=HR.out (by intro e;rw[e]at hlt;simp at hlt);have hcx:=hcell k x hx
      have hmove:∀j,wr.cell? ⟨b,j,none⟩=w.cell? ⟨b,j,none⟩:=λj=>by
       have h1:=K2.out.but.cell (p:=⟨b,j,none⟩) (by have:=H3.out.size;have:=HPB.out;simp;omega) (by simp[Value.ownBlock];omega);have h2:=H3.out.cell (p:=⟨b,j,none⟩) (by have:=HPB.out;simp;omega);exact h1.trans h2
      obtain⟨kd,key,val,num⟩:=x;have d0:=(hmove _).trans (hcx 0 _ rfl);have d1:=(hmove _).trans (hcx 1 _ rfl);have d2:=(hmove _).trans (hcx 2 _ rfl);have d3:=(hmove _).trans (hcx 3 _ rfl);simp only[Nat.add_zero]at d0;have hmapr:wr.heap[pb+1]? =some (.map (doesMap pb) 3):=(K2.out.but.block (pb+1) (lt_of_block H2.out) (by simp[Value.ownBlock])).trans H2.out;have hvr:LV B wr:=(HV.out.ext H3.out).below (K2.out.only.below (by have:=H3.out.size;have:=HPB.out;omega) (λi e=>by omega))
      have hlo:∀j,j=pb\/rv.ownBlock=some j->B<=j:=λj e=>by
       rcases e with e | e
       · omega
       · rcases K2.out.kept j e with e | e
         · simp[Value.ownBlock]at e
         · have:=H3.out.size;have:=HPB.out;omega
      have HLO:=qA hlo;clear hlo;have P1:=qA hmapr;have P2:=qA hvr;have P3:=qA hstep;have P4:=qA hxok;clear hmapr hvr hstep hbd hs1 hx hcell hcx hmove hxok;have hal:∀o,Ext wr (wr.alloc o):=λo=>(qK _ wr).alloc (qL _) o;have HAL:=qA hal;clear hal;have hlk:=λ(o:Obj) (v:Value) (i:Nat) (hf:Instr.findNow (.int .u8) (.int .u8 kd) (doesMap pb).toList 0=some (some (i,v)))=>run_lookup_hit (P:=Tryz.prog) Tryz.underlying246 Tryz.underlying72 rfl (w:=wr.alloc o) ((heap_alloc_old wr o (lt_of_block P1.out)).trans P1.out) hf true;by_cases k1:kd=1
      · subst k1
        have hl1:=λo=>hlk o _ 0 rfl;clear hlk;simp only[if_true]at hl1;go_wp2_with fail;refine (get_calls pb ⟨1,key,val,num⟩ s rv _ (K1.out.ext (HAL.out _)) hlen).mono ?_;rintro e w2 ⟨rfl,rv2,hp2,hm2⟩;replace hm2:=Moves.pre (HAL.out _) hm2;have M1:=qA hp2;have M2:=qA hm2;clear hp2 hm2;go_wp2_with fail;go_roundw
        case rel=>exact⟨k+1,_,by omega,by go_num,by rw[P3.out];exact M1.out,K2.out.trans M2.out⟩
        case measure=>simp[intOf];omega
      · by_cases k2:kd=2
        · subst k2
          have hl1:=λo=>hlk o _ 1 rfl;clear hlk;simp only[if_true]at hl1;go_wp2_with fail;refine (puts_calls pb ⟨2,key,val,num⟩ s rv _ (K1.out.ext (HAL.out _))).mono ?_;rintro e w2 ⟨rfl,hp2,hm2⟩;replace hm2:=Moves.pre (HAL.out _) hm2;have M1:=qA hp2;have M2:=qA hm2;clear hp2 hm2;go_wp2_with fail;go_roundw
          case rel=>exact⟨k+1,_,by omega,by go_num,by rw[P3.out];exact M1.out,K2.out.trans M2.out⟩
          case measure=>simp[intOf];omega
        · by_cases k3:kd=3
          · subst k3
            have hl1:=λo=>hlk o _ 2 rfl;clear hlk;simp only[if_true]at hl1;go_wp2_with fail;refine (add_calls pb ⟨3,key,val,num⟩ s rv _ (P2.out.ext (HAL.out _)) (K1.out.ext (HAL.out _)) hlen hval (by have:=K2.out.but.size;have:=H3.out.size;have:=HPB.out;simp;omega) HLO.out).mono ?_;rintro e w2 ⟨rfl,rv2,hp2,hm2⟩;replace hm2:=Moves.pre (HAL.out _) hm2;have M1:=qA hp2;have M2:=qA hm2;clear hp2 hm2;go_wp2_with fail;go_roundw
            case rel=>exact⟨k+1,_,by omega,by go_num,by rw[P3.out];exact M1.out,K2.out.trans M2.out⟩
            case measure=>simp[intOf];omega
          · have hnone:∀o,(Instr.lookup 246 (.map (some (pb+1))) (.int .u8 kd) true).run Tryz.prog (wr.alloc o)= .ok (.tuple #[.nilFunc,.bool false]) (wr.alloc o):=λo=>by
             have h:=run_lookup_miss (P:=Tryz.prog) Tryz.underlying246 Tryz.underlying72 rfl (w:=wr.alloc o) ((heap_alloc_old wr o (lt_of_block P1.out)).trans P1.out) (key:= .int .u8 kd) (z:= .nilFunc) (by kernel_rfl) (does_none k1 k2 k3) true;simpa using h
            have hstep:s.step ⟨kd,key,val,num⟩=s:=by simp[St.step,k1,k2,k3]
            have HST:=qA hstep;clear hlk hstep;go_wp2_with fail;go_roundw
            case rel=>exact⟨k+1,_,by omega,by go_num,by rw[P3.out,HST.out];exact K1.out.ext (HAL.out _),K2.out.post (HAL.out _)⟩
            case measure=>simp[intOf];omega
    · obtain⟨s,hs1⟩:∃s,s=(St.begin false value).after (l.take k):=⟨_,rfl⟩
      have hs2:doRes false value l=s:=by rw[hs1,List.take_of_length_le (by omega)];rfl
      rw[<- hs1]at K1;have c0:=K1.out.blk.cell 0;have c2:=K1.out.blk.cell 2;have c3:=K1.out.blk.cell 3;simp only[qB,qC]at c0 c2 c3;have HS1:=qA hs1;have HS2:=qA hs2;clear hs1 hs2
      have hfin:∀W:World,Ext wr W->W.ownsRow 0 239 3 rv s.reads.length (s.reads.flatMap encRd)/\(∀k,rv.ownBlock=some k->pb<=k)/\Ext w W:=by
       intro W hW;refine⟨own_ext K1.out.own hW,λj hj=>?_,?_⟩
       · rcases K2.out.kept j hj with e | e
         · simp[Value.ownBlock]at e
         · have:=H3.out.size;have:=HPB.out;omega
       · refine qJ ?_ hW
         refine (((Ext.but H3.out (λ_=>False)).trans K2.out.but (U:=λj=>pb<=j) (λ_ _ e=>e.elim) (λi hi e=>?_))).ext (λi hi=>by have:=HPB.out;omega);rcases e with e | e
         · omega
         · simp[Value.ownBlock]at e
      have HF:=qA hfin;clear hfin;cases hput:s.put
      · rw[hput]at c2
        go_wp2_with fail
        go_ret3
        have hf:=HF.out _ (Ext.refl _);refine⟨rv,?_,by rw[HS2.out];exact hf.1,by rw[HPB.out];exact hf.2.1,hf.2.2⟩;unfold doAfter;rw[HS2.out,hput];rfl
      · rw[hput]at c2
        go_wp2_with fail
        go_quiet (fail)
        go_wp2_with fail
        go_ret3
        have hf:=HF.out (wr.drewN nq) ((Ext.refl _).drewN _);refine⟨rv,?_,by rw[HS2.out];exact hf.1,by rw[HPB.out];exact hf.2.1,hf.2.2⟩;unfold doAfter;rw[HS2.out,hput];rfl
 · have hx:Ext w ((w.alloc (.cells #[.slice none 0 0,.bool true,.bool false,.string value] 244)).alloc (.map (doesMap w.heap.size) 3)):=((qK _ w).alloc (qL _) _).alloc (by simp) _
   have hp:PlaceAt ((w.alloc (.cells #[.slice none 0 0,.bool true,.bool false,.string value] 244)).alloc (.map (doesMap w.heap.size) 3)) w.heap.size (St.begin true value) (.slice none 0 0):=⟨(Blk.new w _ _).alloc _,World.ownsRow_nil _ _ _ _⟩
   have hmap:((w.alloc (.cells #[.slice none 0 0,.bool true,.bool false,.string value] 244)).alloc (.map (doesMap w.heap.size) 3)).heap[w.heap.size+1]? =some (.map (doesMap w.heap.size) 3):=by
    have:=heap_alloc_new (w.alloc (.cells #[.slice none 0 0,.bool true,.bool false,.string value] 244)) (.map (doesMap w.heap.size) 3)
    simpa using this
   change Code.wp _ _ _ _ ((w.alloc (.cells #[.slice none 0 0,.bool true,.bool false,.string value] 244)).alloc (.map (doesMap w.heap.size) 3));generalize ((w.alloc (.cells #[.slice none 0 0,.bool true,.bool false,.string value] 244)).alloc _)=W0 at *;have H1:=qA hp;have H2:=qA hmap;have H3:=qA hx;have H0:=qA hok;clear hp hmap hx hok hmm hm1 hm2 hm3;generalize hpb:w.heap.size=pb at *;have HPB:=qA hpb;clear hpb;go_loopw [33] (λi wr=>∃(k:Nat) (rv:Value),k<=l.length/\i= .int .i64 k/\PlaceAt wr pb ((St.begin true value).after (l.take k)) rv/\Moves pb (.slice none 0 0) rv W0 wr) (λi _=>l.length - (intOf i).toNat)
   case atStart=>exact⟨0,_,by omega,rfl,H1.out,Moves.refl _ _ _⟩
   case round=>
    obtain⟨k,rv,hk,rfl,hp,hm⟩:=hrel;have K1:=qA hp;have K2:=qA hm;clear hp hm;by_cases hlt:k<l.length
    · obtain⟨s,hs1⟩:∃s,s=(St.begin true value).after (l.take k):=⟨_,rfl⟩
      obtain⟨x,hx⟩:∃x,l[k]? =some x:=⟨_,qE hlt⟩;have hbd:=St.after_bd (l.take k) (St.begin true value) (by simpa [St.begin] using hs) (λa ha=>H0.out a (List.mem_of_mem_take ha));have hstep:=St.after_succ (St.begin true value) l k x hx;rw[<- hs1]at K1 hbd hstep;have hlen:s.reads.length<=1000000:=by have:=hbd.2;simp[St.begin]at this;omega
      have hval:=hbd.1;have hxok:=H0.out x (qH hx);obtain⟨b,off,rfl,hb,hcell⟩:=HR.out (by intro e;rw[e]at hlt;simp at hlt);have hcx:=hcell k x hx
      have hmove:∀j,wr.cell? ⟨b,j,none⟩=w.cell? ⟨b,j,none⟩:=λj=>by
       have h1:=K2.out.but.cell (p:=⟨b,j,none⟩) (by have:=H3.out.size;have:=HPB.out;simp;omega) (by simp[Value.ownBlock];omega);have h2:=H3.out.cell (p:=⟨b,j,none⟩) (by have:=HPB.out;simp;omega);exact h1.trans h2
      obtain⟨kd,key,val,num⟩:=x;have d0:=(hmove _).trans (hcx 0 _ rfl);have d1:=(hmove _).trans (hcx 1 _ rfl);have d2:=(hmove _).trans (hcx 2 _ rfl);have d3:=(hmove _).trans (hcx 3 _ rfl);simp only[Nat.add_zero]at d0;have hmapr:wr.heap[pb+1]? =some (.map (doesMap pb) 3):=(K2.out.but.block (pb+1) (lt_of_block H2.out) (by simp[Value.ownBlock])).trans H2.out;have hvr:LV B wr:=(HV.out.ext H3.out).below (K2.out.only.below (by have:=H3.out.size;have:=HPB.out;omega) (λi e=>by omega))
      have hlo:∀j,j=pb\/rv.ownBlock=some j->B<=j:=λj e=>by
       rcases e with e | e
       · omega
       · rcases K2.out.kept j e with e | e
         · simp[Value.ownBlock]at e
         · have:=H3.out.size;have:=HPB.out;omega
      have HLO:=qA hlo;clear hlo;have P1:=qA hmapr;have P2:=qA hvr;have P3:=qA hstep;have P4:=qA hxok;clear hmapr hvr hstep hbd hs1 hx hcell hcx hmove hxok;have hal:∀o,Ext wr (wr.alloc o):=λo=>(qK _ wr).alloc (qL _) o;have HAL:=qA hal;clear hal;have hlk:=λ(o:Obj) (v:Value) (i:Nat) (hf:Instr.findNow (.int .u8) (.int .u8 kd) (doesMap pb).toList 0=some (some (i,v)))=>run_lookup_hit (P:=Tryz.prog) Tryz.underlying246 Tryz.underlying72 rfl (w:=wr.alloc o) ((heap_alloc_old wr o (lt_of_block P1.out)).trans P1.out) hf true;by_cases k1:kd=1
      · subst k1
        have hl1:=λo=>hlk o _ 0 rfl;clear hlk;simp only[if_true]at hl1;go_wp2_with fail;refine (get_calls pb ⟨1,key,val,num⟩ s rv _ (K1.out.ext (HAL.out _)) hlen).mono ?_;rintro e w2 ⟨rfl,rv2,hp2,hm2⟩;replace hm2:=Moves.pre (HAL.out _) hm2;have M1:=qA hp2;have M2:=qA hm2;clear hp2 hm2;go_wp2_with fail;go_roundw
        case rel=>exact⟨k+1,_,by omega,by go_num,by rw[P3.out];exact M1.out,K2.out.trans M2.out⟩
        case measure=>simp[intOf];omega
      · by_cases k2:kd=2
        · subst k2
          have hl1:=λo=>hlk o _ 1 rfl;clear hlk;simp only[if_true]at hl1;go_wp2_with fail;refine (puts_calls pb ⟨2,key,val,num⟩ s rv _ (K1.out.ext (HAL.out _))).mono ?_;rintro e w2 ⟨rfl,hp2,hm2⟩;replace hm2:=Moves.pre (HAL.out _) hm2;have M1:=qA hp2;have M2:=qA hm2;clear hp2 hm2;go_wp2_with fail;go_roundw
          case rel=>exact⟨k+1,_,by omega,by go_num,by rw[P3.out];exact M1.out,K2.out.trans M2.out⟩
          case measure=>simp[intOf];omega
        · by_cases k3:kd=3
          · subst k3
            have hl1:=λo=>hlk o _ 2 rfl;clear hlk;simp only[if_true]at hl1;go_wp2_with fail;refine (add_calls pb ⟨3,key,val,num⟩ s rv _ (P2.out.ext (HAL.out _)) (K1.out.ext (HAL.out _)) hlen hval (by have:=K2.out.but.size;have:=H3.out.size;have:=HPB.out;simp;omega) HLO.out).mono ?_;rintro e w2 ⟨rfl,rv2,hp2,hm2⟩;replace hm2:=Moves.pre (HAL.out _) hm2;have M1:=qA hp2;have M2:=qA hm2;clear hp2 hm2;go_wp2_with fail;go_roundw
            case rel=>exact⟨k+1,_,by omega,by go_num,by rw[P3.out];exact M1.out,K2.out.trans M2.out⟩
            case measure=>simp[intOf];omega
          · have hnone:∀o,(Instr.lookup 246 (.map (some (pb+1))) (.int .u8 kd) true).run Tryz.prog (wr.alloc o)= .ok (.tuple #[.nilFunc,.bool false]) (wr.alloc o):=λo=>by
             have h:=run_lookup_miss (P:=Tryz.prog) Tryz.underlying246 Tryz.underlying72 rfl (w:=wr.alloc o) ((heap_alloc_old wr o (lt_of_block P1.out)).trans P1.out) (key:= .int .u8 kd) (z:= .nilFunc) (by kernel_rfl) (does_none k1 k2 k3) true;simpa using h
            have hstep:s.step ⟨kd,key,val,num⟩=s:=by simp[St.step,k1,k2,k3]
            have HST:=qA hstep;clear hlk hstep;go_wp2_with fail;go_roundw
            case rel=>exact⟨k+1,_,by omega,by go_num,by rw[P3.out,HST.out];exact K1.out.ext (HAL.out _),K2.out.post (HAL.out _)⟩
            case measure=>simp[intOf];omega
    · obtain⟨s,hs1⟩:∃s,s=(St.begin true value).after (l.take k):=⟨_,rfl⟩
      have hs2:doRes true value l=s:=by rw[hs1,List.take_of_length_le (by omega)];rfl
      rw[<- hs1]at K1;have c0:=K1.out.blk.cell 0;have c2:=K1.out.blk.cell 2;have c3:=K1.out.blk.cell 3;simp only[qB,qC]at c0 c2 c3;have HS1:=qA hs1;have HS2:=qA hs2;clear hs1 hs2
      have hfin:∀W:World,Ext wr W->W.ownsRow 0 239 3 rv s.reads.length (s.reads.flatMap encRd)/\(∀k,rv.ownBlock=some k->pb<=k)/\Ext w W:=by
       intro W hW;refine⟨own_ext K1.out.own hW,λj hj=>?_,?_⟩
       · rcases K2.out.kept j hj with e | e
         · simp[Value.ownBlock]at e
         · have:=H3.out.size;have:=HPB.out;omega
       · refine qJ ?_ hW
         refine (((Ext.but H3.out (λ_=>False)).trans K2.out.but (U:=λj=>pb<=j) (λ_ _ e=>e.elim) (λi hi e=>?_))).ext (λi hi=>by have:=HPB.out;omega);rcases e with e | e
         · omega
         · simp[Value.ownBlock]at e
      have HF:=qA hfin;clear hfin;cases hput:s.put
      · rw[hput]at c2
        go_wp2_with fail
        go_ret3
        have hf:=HF.out _ (Ext.refl _);refine⟨rv,?_,by rw[HS2.out];exact hf.1,by rw[HPB.out];exact hf.2.1,hf.2.2⟩;unfold doAfter;rw[HS2.out,hput];rfl
      · rw[hput]at c2
        go_wp2_with fail
        go_quiet (fail)
        go_wp2_with fail
        go_ret3
        have hf:=HF.out (wr.drewN nq) ((Ext.refl _).drewN _);refine⟨rv,?_,by rw[HS2.out];exact hf.1,by rw[HPB.out];exact hf.2.1,hf.2.2⟩;unfold doAfter;rw[HS2.out,hput];rfl
end Go.Proofs.YtmpmggejhnmakaaGreatDoor
/- A loop whose rounds are walked one by one (for calls with arguments that are known). -/
namespace Go.Proofs.YtmpmggejhnmakaaGreatDoor
def Rounds (P:Program)(c:Code)(Q:Exit->Act->World->Prop):Nat->Act->World->Prop
 | 0,_,_=>False
 | n+1,a,w=>c.wp P (Exit.then (λa' w'=>Rounds P c Q n a' w') Q) a w
theorem wp_unroll {P:Program}{c:Code}{Q:Exit->Act->World->Prop}{a:Act}{w:World}(n:Nat)(h:Rounds P c Q n a w):(Code.loop c).wp P Q a w:=
 wp_loop_ghost (λn a w=>Rounds P c Q n a w) n h (λn a w hI=>by
  cases n with
  | zero=>exact hI.elim
  | succ m=>exact wp_mono hI (λe a' w' hq=>by
     cases e with
     | normal=>exact⟨m,Nat.lt_succ_self m,hq⟩
     | exit id=>exact hq
     | goto l=>exact hq
     | ret=>exact hq
     | panic ch=>exact hq
     | outgrown=>exact hq))
theorem rounds_step {P:Program}{c:Code}{Q:Exit->Act->World->Prop}{a:Act}{w:World}{n:Nat}(h:∀K:Act->World->Prop,(∀a w,Rounds P c Q n a w->K a w)->c.wp P (Exit.then K Q) a w):Rounds P c Q (n+1) a w:=h _ (λ_ _ h=>h)
end Go.Proofs.YtmpmggejhnmakaaGreatDoor
/- SameLines: are two rows of rows the same? -/
namespace Go.Proofs.YtmpmggejhnmakaaGreatDoor
open Go.RowKit
deriving instance DecidableEq for RowD
def sameRw (k1 v1 k2 v2:ByteArray):Bool:=decide ((⟨k1,v1⟩:RowD)=⟨k2,v2⟩)
theorem neq_line (k1 v1 k2 v2:ByteArray)(w:World):
 (binOp .neq 52 (.agg #[.string k1,.string v1]) (.agg #[.string k2,.string v2])).run Tryz.prog w= .ok (.bool (!sameRw k1 v1 k2 v2)) w:=by
 unfold sameRw;have hS:Tryz.prog.underlying 52=some (.struct (Tryz.prog.fieldsOf 52)):=by kernel_rfl
 have hp:Tryz.prog.stoodInHeld 52=false:=by kernel_rfl
 have u9:=Tryz.underlying9;rw[run_neq_struct,show (10000:Nat)=9999+1 from rfl,run_equalIn_agg w 9999 52 _ _ hS hp];simp only[Program.fieldsOf,Tryz.underlying52];go_simp;by_cases h1:k1=k2<;>by_cases h3:v1=v2<;>simp[h1,h3,toList_iff]
theorem sameLines_calls (l m:List RowD)(ao bo:Option Addr)(cap cap':Nat)(w:World)(hl:l.length<=1000000)(hr:Rows 2 encRw w.heap.size w ao l)(hq:Rows 2 encRw w.heap.size w bo m):
 Calls Tryz.prog 16 #[.slice ao l.length cap,.slice bo m.length cap'] w λe w'=>e= .returned (.bool (decide (l=m)))/\Ext w w':=by
 have HR:=qA hr;have HQ:=qA hq;clear hr hq;by_cases hlen:l.length=m.length
 · have HL:=qA hlen
   go_enter Tryz.func16,Tryz.ntmps16;have hd:((l.length:Int) != (m.length:Int))=false:=by simp[hlen]
   have hneq:=neq_line;clear hlen;go_wp2_with fail;go_loopw [5] (λi wr=>∃(k:Nat),k<=l.length/\i= .int .i64 k/\l.take k=m.take k/\Ext w wr) (λi _=>l.length - (intOf i).toNat)
   case atStart=>exact⟨0,by omega,rfl,by simp,qK _ _⟩
   case round=>
    obtain⟨k,hk,rfl,ha,hx⟩:=hrel;have K1:=qA ha;have K2:=qA hx;clear ha hx;by_cases hlt:k<l.length
    · have hlt':k<m.length:=by have:=HL.out;omega
      obtain⟨x,hx⟩:∃x,l[k]? =some x:=⟨_,qE hlt⟩;obtain⟨y,hy⟩:∃y,m[k]? =some y:=⟨_,qE hlt'⟩;obtain⟨b,off,rfl,hb,hcell⟩:=HR.out (by intro e;rw[e]at hlt;simp at hlt);obtain⟨b',off',rfl,hb',hcell'⟩:=HQ.out (by intro e;rw[e]at hlt';simp at hlt');have hcx:=hcell k x hx;have hcy:=hcell' k y hy;have hmove:∀j,wr.cell? ⟨b,j,none⟩=w.cell? ⟨b,j,none⟩:=λj=>K2.out.cell (p:=⟨b,j,none⟩) hb;have hmove':∀j,wr.cell? ⟨b',j,none⟩=w.cell? ⟨b',j,none⟩:=λj=>K2.out.cell (p:=⟨b',j,none⟩) hb';have TK:=qA (show l.take (k+1)=l.take k++[x] by rw[List.take_add_one,hx];rfl);have TM:=qA (show m.take (k+1)=m.take k++[y] by rw[List.take_add_one,hy];rfl);have HX:=qA hx;have HY:=qA hy;obtain⟨k1,v1⟩:=x;obtain⟨k2,v2⟩:=y;have d0:=(hmove _).trans (hcx 0 _ rfl);have d1:=(hmove _).trans (hcx 1 _ rfl);have c0:=(hmove' _).trans (hcy 0 _ rfl);have c1:=(hmove' _).trans (hcy 1 _ rfl);simp only[Nat.add_zero]at d0 c0;have hi0:(0:Int)<=(k:Int):=by omega
      have hi1:(k:Int)<(l.length:Int):=by omega
      have hi2:(k:Int)<(m.length:Int):=by omega
      clear hx hy hcell hcell' hcx hcy hmove hmove';by_cases heq:(⟨k1,v1⟩:RowD)=⟨k2,v2⟩
      · have he:sameRw k1 v1 k2 v2=true:=decide_eq_true heq
        have E:=qA heq;clear heq;go_wp2_with fail
        go_quiet (fail)
        go_wp2_with fail;go_roundw
        case rel=>exact⟨k+1,by omega,by go_num,by rw[TK.out,TM.out,K1.out,E.out],(Ext.drewN K2.out _)⟩
        case measure=>simp[intOf];omega
      · have he:sameRw k1 v1 k2 v2=false:=decide_eq_false heq
        have E:=qA heq;clear heq;go_wp2_with fail
        go_quiet (fail)
        go_wp2_with fail;go_ret;refine⟨ret_bool (Eq.symm (decide_eq_false λe=>?_)),(Ext.drewN K2.out _)⟩;have h1:=HX.out;have h2:=HY.out;rw[e,h2]at h1;exact E.out (Option.some.inj h1).symm
    · have hall:l=m:=by
       have:=K1.out
       rwa [List.take_of_length_le (by omega),List.take_of_length_le (by have:=HL.out;omega)]at this
      have HA:=qA hall;clear hall;go_wp2_with fail;go_ret;exact⟨ret_bool (by simp[HA.out]),K2.out⟩
 · go_enter Tryz.func16,Tryz.ntmps16
   have hd:((l.length:Int) != (m.length:Int))=true:=by simp;omega
   go_wp2_with fail;go_ret;exact⟨ret_bool (Eq.symm (decide_eq_false λe=>hlen (by rw[e]))),qK _ _⟩
end Go.Proofs.YtmpmggejhnmakaaGreatDoor
/- Five arguments, opened. -/
namespace Go.Proofs.YtmpmggejhnmakaaGreatDoor
open Go.ChangeShapes Go.WideShapes Go.ChangeAt Go.RowKit Go.ChangeMaps Go.Joins Go.Deep
theorem trodAll_five {H:Type}{enc:TypeId×Value->H}{P:Program}{w:World}{base:Nat}{spare:Nat->Bool}{held:Bool}{t0 t1 t2 t3 t4:TypeId}{args:Array Value}{ds:List (DataW H)}{ps:List MemPlace}(h:DataW.TrodAll enc P w base spare held [t0,t1,t2,t3,t4] args.toList ds ps):
 ∃v0 v1 v2 v3 v4 d0 d1 d2 d3 d4 p0 p1 p2 p3 p4,args= #[v0,v1,v2,v3,v4]/\ds=[d0,d1,d2,d3,d4]/\ps=p0++p1++p2++p3++p4/\DataW.Trod enc P w base spare held t0 v0 d0 p0/\DataW.Trod enc P w base spare held t1 v1 d1 p1/\DataW.Trod enc P w base spare held t2 v2 d2 p2/\DataW.Trod enc P w base spare held t3 v3 d3 p3/\DataW.Trod enc P w base spare held t4 v4 d4 p4:=by
 obtain⟨v0,vs0,d0,ds0,p0,q0,hargs,rfl,rfl,h0,r0⟩:=trodAll_cons h;obtain⟨v1,vs1,d1,ds1,p1,q1,rfl,rfl,rfl,h1,r1⟩:=trodAll_cons r0;obtain⟨v2,vs2,d2,ds2,p2,q2,rfl,rfl,rfl,h2,r2⟩:=trodAll_cons r1;obtain⟨v3,vs3,d3,ds3,p3,q3,rfl,rfl,rfl,h3,r3⟩:=trodAll_cons r2;obtain⟨v4,vs4,d4,ds4,p4,q4,rfl,rfl,rfl,h4,r4⟩:=trodAll_cons r3;obtain⟨rfl,rfl,rfl⟩:=trodAll_nil r4;exact⟨v0,v1,v2,v3,v4,d0,d1,d2,d3,d4,p0,p1,p2,p3,p4,by cases args;simp_all,rfl,by simp,h0,h1,h2,h3,h4⟩
end Go.Proofs.YtmpmggejhnmakaaGreatDoor
