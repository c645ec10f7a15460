/- wire: a writer, and what it writes. -/
import Derived.Test.YtmpmggejhnmakaaGreatDoorZ12
import Derived.Test.YtmpmggejhnmakaaGreatDoorZ02
import Derived.Lib.EndianBits
import Derived.Lib.Varint
import Derived.Laws.BytesArg
import Derived.Laws.IdiomStrings
import Derived.Test.YtmpmggejhnmakaaGreatDoorZ01
set_option maxRecDepth 100000
set_option maxHeartbeats 1600000
namespace Go.Proofs.YtmpmggejhnmakaaGreatDoor
open Go.RowKit
def encU8 (x:UInt8):List Value:=[.int .u8 (x.toNat:Int)]
theorem one_u8:∀x,∀u∈encU8 x,u.oneCell'=true:=by
 intro x u hu;rw[encU8,List.mem_singleton]at hu;subst hu;rfl
theorem infoU8:(Tryz.prog.info? 5).map (λi=>(i.zero,i.size,i.bytes))=some (some (.int .u8 0),1,1):=by kernel_rfl
structure Wr (w:World)(wb:Nat)(sp:Bool)(v:Value)(bs:List UInt8):Prop where
 blk:Blk w wb [.bool true,.bool sp,v] 198
 row:w.ownsRow 0 5 1 v bs.length (bs.flatMap encU8)
theorem Wr.ext {w w':World}{wb:Nat}{sp:Bool}{v:Value}{bs:List UInt8}(h:Wr w wb sp v bs)(hx:Ext w w'):Wr w' wb sp v bs:=⟨h.blk.ext' hx,own_ext h.row hx⟩
theorem Wr.apart {w:World}{wb:Nat}{sp:Bool}{v:Value}{bs:List UInt8}(h:Wr w wb sp v bs):v.ownBlock≠some wb:=own_ne h.row h.blk (by decide)
theorem Wr.close {w wa:World}{wb:Nat}{sp:Bool}{v v':Value}{bs bs':List UInt8}(h:Wr w wb sp v bs)(ho:wa.ownsRow 0 5 1 v' bs'.length (bs'.flatMap encU8))(hb:But (λk=>v.ownBlock=some k) w wa)(hk:Kept1 w v v'):
 Wr (wa.setCell ⟨wb,2,none⟩ v') wb sp v' bs'/\But (λj=>j=wb\/v.ownBlock=some j) w (wa.setCell ⟨wb,2,none⟩ v'):=by
 have hv':v'.ownBlock≠some wb:=by
  intro e;rcases hk wb e with e | e
  · exact h.apart e
  · have:=h.blk.lt;omega
 exact⟨⟨(h.blk.but hb h.apart).set 2 v',own_setOther ho (a:=⟨wb,2,none⟩) hv' v'⟩,(hb.mono λ_ _ e=> .inr e).setCell (λ_=> .inl rfl) v'⟩
theorem kept_trans {w w1:World}{v v1 v2:Value}(h:Kept1 w v v1)(hs:w.heap.size<=w1.heap.size)(h2:Kept1 w1 v1 v2):Kept1 w v v2:=by
 intro k hk;rcases h2 k hk with e | e
 · exact h k e
 · exact .inr (by omega)
theorem own_back {w:World}{v v1:Value}{wb j:Nat}(h:Kept1 w v v1)(hj:j<w.heap.size)(e:j=wb\/v1.ownBlock=some j):j=wb\/v.ownBlock=some j:=by
 rcases e with e | e
 · exact .inl e
 · rcases h j e with e | e
   · exact .inr e
   · omega
theorem own_slice {w:World}{B:Nat}{e:TypeId}{size n:Nat}{v:Value}{xs:List Value}(h:w.ownsRow B e size v n xs):∃o cap,v= .slice o n cap:=by
 rcases h.2 with ⟨rfl,rfl⟩ | ⟨g,cap,cur,h,_⟩
 · exact⟨none,0,rfl⟩
 · exact⟨_,cap,h⟩
theorem wput_calls (wb:Nat)(sp:Bool)(v:Value)(bs l:List UInt8)(ao:Option Addr)(cap:Nat)(w:World)(T:Wr w wb sp v bs)(hr:Rows 1 encU8 w.heap.size w ao l)(hm:bs.length+l.length<=140737488355328):
 Calls Tryz.prog 192 #[.pointer (some ⟨wb,0,none⟩),.slice ao l.length cap] w λe w'=>e= .returned (.tuple #[])/\∃v',Wr w' wb sp v' (bs++l)/\But (λj=>j=wb\/v.ownBlock=some j) w w'/\Kept1 w v v':=by
 obtain⟨i0,hi,hz0,hz1,hz2⟩:=info_parts infoU8;have HT:=qA T;have HR:=qA hr;have c0:=T.blk.cell 0;have c2:=T.blk.cell 2;simp only[qB,qC]at c0 c2;clear T hr;go_enter Tryz.func192,Tryz.ntmps192;go_wp2_with (at_builtin;refine wpList_append_rows (enc:=encU8) (size:=1) (λ_=>rfl) one_u8 rfl _ _ 37 rfl 5 i0 _ 1 Tryz.underlying37 hi hz0 hz1 hz2 rfl (by decide) v bs.length (bs.flatMap encU8) rfl HT.out.row ao l cap rfl HR.out (by unfold maxLen;omega) (by omega) ?_;intro v1 w1 hown1 hbut1 hkept1;obtain⟨po,pc,rfl⟩:=own_slice hown1;have O1:=qA hown1;have B1:=qA hbut1;have P1:=qA hkept1;have f2:=(HT.out.blk.but hbut1 HT.out.apart).cell 2;have g2:=(HT.out.blk.but hbut1 HT.out.apart).free 2;simp only[qB,qC]at f2;clear hown1 hbut1 hkept1)
 go_end0
 have h:=HT.out.close (bs':=bs++l) (by simpa using O1.out) B1.out P1.out;exact⟨rfl,_,h.1,h.2,P1.out⟩
def numB (n:Nat):List UInt8:=if h:n<128 then [UInt8.ofNat n] else UInt8.ofNat (n % 128+128)::numB (n / 128)
termination_by n
decreasing_by omega
theorem numB_pos (n:Nat):1<=(numB n).length:=by
 rw[numB];split<;>simp
theorem numB_len:∀(j n:Nat),n<128 ^ (j+1)->(numB n).length<=j+1
 | 0,n,h=>by
   rw[numB,dif_pos (by simpa using h)];simp
 | j+1,n,h=>by
   rw[numB]
   split
   · simp
   · have:=numB_len j (n / 128) (by rw[Nat.pow_succ]at h;exact Nat.div_lt_of_lt_mul (by rw[Nat.mul_comm];exact h))
     rw[List.length_cons];omega
theorem numB_nine {n:Nat}(h:n<=4611686018427387903):(numB n).length<=9:=numB_len 8 n (Nat.lt_of_le_of_lt h (by decide))
theorem numB_last {k:Nat}(h:¬127<k):numB k=[UInt8.ofNat k]:=by rw[numB,dif_pos (by omega)]
theorem numB_more {k:Nat}(h:127<k):numB k=UInt8.ofNat (k % 128+128)::numB (k / 128):=by rw[numB,dif_neg (by omega)]
theorem or128 (k:Nat):bits .or .u8 ((k:Int) % 256) 128=(((UInt8.ofNat (k % 128+128)).toNat:Nat):Int):=by
 have h:∀m:Fin 256,bits .or .u8 ((m.val:Nat):Int) 128=((m.val % 128+128:Nat):Int):=by decide
 have:=h ⟨k % 256,by omega⟩
 simp only at this;rw[show ((k:Int) % 256)=((k % 256:Nat):Int) from by omega,this,UInt8.toNat_ofNat'];omega
theorem u8_small {k:Nat}(h:¬127<k):(k:Int)=(((UInt8.ofNat k).toNat:Nat):Int):=by
 rw[UInt8.toNat_ofNat'];omega
theorem rows_one8 (w:World)(x:UInt8)(t:TypeId):Rows 1 encU8 (w.alloc (.cells #[.int .u8 (x.toNat:Int)] t)).heap.size (w.alloc (.cells #[.int .u8 (x.toNat:Int)] t)) (some ⟨w.heap.size,0,none⟩) [x]:=Rows.fresh' (enc:=encU8) (sz:=1) (λ_=>rfl) [x] w t
theorem put8_calls (x:UInt8)(z:Int)(hz:z=(x.toNat:Int))(wb:Nat)(sp:Bool)(v:Value)(bs:List UInt8)(w:World)(T:Wr w wb sp v bs)(hm:bs.length+1<=140737488355328):
 Calls Tryz.prog 192 #[.pointer (some ⟨wb,0,none⟩),.slice (some ⟨w.heap.size,0,none⟩) 1 1] (w.alloc (.cells #[.int .u8 z] 5)) λe w'=>e= .returned (.tuple #[])/\∃v',Wr w' wb sp v' (bs++[x])/\But (λj=>j=wb\/v.ownBlock=some j) w w'/\Kept1 w v v':=by
 subst hz;have hx:Ext w (w.alloc (.cells #[.int .u8 (x.toNat:Int)] 5)):=(qK _ w).alloc (qL _) _;refine (wput_calls wb sp v bs [x] _ 1 _ (T.ext hx) (rows_one8 w x _) (by simpa using hm)).mono ?_;rintro e w' ⟨rfl,v',h1,h2,h3⟩;refine⟨rfl,v',h1,(Ext.but hx (λ_=>False)).trans h2 (λ_ _ e=>e.elim) (λ_ _ e=>e),λk hk=>?_⟩;rcases h3 k hk with e | e
 · exact .inl e
 · exact .inr (qM hx.size e)
theorem number_calls (wb:Nat)(sp:Bool)(v:Value)(bs:List UInt8)(n:Nat)(w:World)(T:Wr w wb sp v bs)(hn:n<=4611686018427387903)(hm:bs.length<=140737488300000):
 Calls Tryz.prog 191 #[.pointer (some ⟨wb,0,none⟩),.int .i64 n] w λe w'=>e= .returned (.tuple #[])/\∃v',Wr w' wb sp v' (bs++numB n)/\But (λj=>j=wb\/v.ownBlock=some j) w w'/\Kept1 w v v':=by
 have HT:=qA T;have g1:decide ((n:Int)<0)=false:=by simp
 have g2:decide ((4611686018427387903:Int)<(n:Int))=false:=by simp;omega
 clear T;go_enter Tryz.func191,Tryz.ntmps191;go_wp2_with fail;go_loopw [1] (λvi wr=>∃(k:Nat) (v':Value) (cs:List UInt8),vi= .int .i64 k/\k<=n/\cs++numB k=bs++numB n/\Wr wr wb sp v' cs/\But (λj=>j=wb\/v.ownBlock=some j) w wr/\Kept1 w v v') (λvi _=>(intOf vi).toNat)
 case atStart=>exact⟨n,v,bs,rfl,qL _,rfl,HT.out,But.refl _ _,λk hk=> .inl hk⟩
 case round=>
  obtain⟨k,v',cs,rfl,hk,hcs,hT,hB,hK⟩:=hrel;have T1:=qA hT;have B1:=qA hB;have K1:=qA hK;have CS:=qA hcs;clear hT hB hK hcs;by_cases hlt:127<k
  · have t1:decide ((127:Int)<(k:Int))=true:=by simp;omega
    have hl1:cs.length+1<=140737488355328:=by
     have:=congrArg List.length CS.out
     have:=numB_nine hn
     have:=numB_pos k
     simp only[qG]at *;omega
    go_wp2_with fail;refine (put8_calls (UInt8.ofNat (k % 128+128)) _ (or128 k) wb sp v' cs wr T1.out hl1).mono ?_;rintro e w1 ⟨rfl,v1,h1,h2,h3⟩;have T2:=qA h1;have B2:=qA h2;have K2:=qA h3;clear h1 h2 h3;go_wp2_with fail;refine⟨⟨k / 128,v1,cs++[UInt8.ofNat (k % 128+128)],by rw[Int.natCast_ediv];rfl,by omega,?_,T2.out,B1.out.trans B2.out (λ_ _ e=>e) (λj hj e=>?_),kept_trans K1.out B1.out.size K2.out⟩,by simp only[intOf];omega⟩
    · rw[<- CS.out,numB_more hlt,List.append_assoc];rfl
    · exact own_back K1.out hj e
  · have t1:decide ((127:Int)<(k:Int))=false:=by simp;omega
    have hl1:cs.length+1<=140737488355328:=by
     have:=congrArg List.length CS.out
     have:=numB_nine hn
     have:=numB_pos k
     simp only[qG]at *;omega
    go_wp2_with fail;refine (put8_calls (UInt8.ofNat k) _ (u8_small hlt) wb sp v' cs wr T1.out hl1).mono ?_;rintro e w1 ⟨rfl,v1,h1,h2,h3⟩;have T2:=qA h1;have B2:=qA h2;have K2:=qA h3;clear h1 h2 h3;go_wp2_with fail
    go_end0
    refine⟨rfl,v1,?_,B1.out.trans B2.out (λ_ _ e=>e) (λj hj e=>own_back K1.out hj e),kept_trans K1.out B1.out.size K2.out⟩;rw[<- CS.out,numB_last hlt];exact T2.out
theorem newWriter_calls (w:World):Calls Tryz.prog 52 #[] w λe w'=>e= .returned (.pointer (some ⟨w.heap.size,0,none⟩))/\Wr w' w.heap.size false (.slice none 0 0) []/\Ext w w':=by
 have HB:=qA (Blk.new w [.bool true,.bool false,.slice none 0 0] 198);have HX:=qA (show Ext w (w.alloc (.cells #[.bool true,.bool false,.slice none 0 0] 198)) from (qK _ w).alloc (qL _) _);go_enter Tryz.func52,Tryz.ntmps52;go_wp2_with fail;go_ret;exact⟨rfl,⟨HB.out,World.ownsRow_nil _ _ _ _⟩,HX.out⟩
theorem known_calls (wb:Nat)(sp:Bool)(v:Value)(bs:List UInt8)(w:World)(T:Wr w wb sp v bs):Calls Tryz.prog 122 #[.pointer (some ⟨wb,0,none⟩)] w λe w'=>e= .returned (.bool true)/\w=w':=by
 have c0:=T.blk.cell 0;simp only[qB]at c0;clear T;go_enter Tryz.func122,Tryz.ntmps122;go_wp2_with fail;go_ret;exact⟨rfl,rfl⟩
def encBool (b:Bool):List Value:=[.bool b]
def flagB (b:Bool):List UInt8:=[if b then 1 else 0]
theorem flags_len:∀l:List Bool,(l.flatMap flagB).length=l.length
 | []=>rfl
 | b::l=>by rw[List.flatMap_cons,qG,flags_len l,List.length_cons];simp[flagB];omega
theorem flags_calls (wb:Nat)(sp:Bool)(v:Value)(bs:List UInt8)(l:List Bool)(ao:Option Addr)(cap:Nat)(w:World)(T:Wr w wb sp v bs)(hr:NRows 1 encBool (λb=>b=wb\/v.ownBlock=some b) w ao l)(hl:l.length<=100)(hm:bs.length<=140737488200000):
 Calls Tryz.prog 145 #[.pointer (some ⟨wb,0,none⟩),.slice ao l.length cap] w λe w'=>e= .returned (.pointer (some ⟨wb,0,none⟩))/\∃v',Wr w' wb sp v' (bs++l.flatMap flagB)/\But (λj=>j=wb\/v.ownBlock=some j) w w'/\Kept1 w v v':=by
 have HT:=qA T;have HR:=qA hr;clear T hr;go_enter Tryz.func145,Tryz.ntmps145;go_wp2_with fail;refine (known_calls wb sp v bs w HT.out).mono ?_;rintro e w1 ⟨rfl,rfl⟩;go_wp2_with fail;go_loopw [11] (λvi wr=>∃(k:Nat) (v':Value),vi= .int .i64 k/\k<=l.length/\Wr wr wb sp v' (bs++(l.take k).flatMap flagB)/\But (λj=>j=wb\/v.ownBlock=some j) w wr/\Kept1 w v v') (λvi _=>l.length - (intOf vi).toNat)
 case atStart=>exact⟨0,v,rfl,by omega,by simpa using HT.out,But.refl _ _,λk hk=> .inl hk⟩
 case round=>
  obtain⟨k,v',rfl,hk,hT,hB,hK⟩:=hrel;have T1:=qA hT;have B1:=qA hB;have K1:=qA hK;clear hT hB hK;by_cases hlt:k<l.length
  · obtain⟨x,hx⟩:∃x,l[k]? =some x:=⟨_,qE hlt⟩
    obtain⟨b,off,rfl,hb,hno,hcell⟩:=HR.out (by intro e;rw[e]at hlt;simp at hlt);have hcx:=(B1.out.cell (p:=⟨b,off+k * 1+0,none⟩) hb hno).trans (hcell k x hx 0 _ rfl);simp only[Nat.add_zero,Nat.mul_one]at hcx;have i0:(0:Int)<=(k:Int):=by omega
    have i1:(k:Int)<(l.length:Int):=by omega
    have htk:l.take (k+1)=l.take k++[x]:=by rw[List.take_add_one,hx];rfl
    have TK:=qA htk
    have hlen:(bs++(l.take k).flatMap flagB).length+1<=140737488355328:=by
     rw[qG,flags_len,List.length_take];omega
    clear hcell hx htk;cases x
    all_goals
     go_wp2_with fail
     first
     | refine (put8_calls 0 _ rfl wb sp v' _ wr T1.out hlen).mono ?_
     | refine (put8_calls 1 _ rfl wb sp v' _ wr T1.out hlen).mono ?_
     rintro e w2 ⟨rfl,v2,h1,h2,h3⟩;have T2:=qA h1;have B2:=qA h2;have K2:=qA h3;clear h1 h2 h3;go_wp2_with fail;go_roundw
     case rel=>exact⟨k+1,v2,by go_num,by omega,by rw[TK.out,List.flatMap_append,List.flatMap_singleton,<- List.append_assoc];exact T2.out,B1.out.trans B2.out (λ_ _ e=>e) (λj hj e=>own_back K1.out hj e),kept_trans K1.out B1.out.size K2.out⟩
     case measure=>simp[intOf];omega
  · have:k=l.length:=by omega
    subst this;go_wp2_with fail;go_ret;exact⟨rfl,v',by have:=T1.out;rwa [List.take_length]at this,B1.out,K1.out⟩
structure BR where
 o:Option Addr
 b:List UInt8
 c:Nat
def encBR (x:BR):List Value:=[.slice x.o x.b.length x.c]
def rowB (b:List UInt8):List UInt8:=numB b.length++b
theorem rowsB_len:∀l:List BR,(∀x∈l,x.b.length<=1000000000)->(l.flatMap λx=>rowB x.b).length<=1000000009 * l.length
 | [],_=>by simp
 | n::l,h=>by
   have h1:=h n (by simp);have h3:=numB_nine (n:=n.b.length) (by omega);have h2:=rowsB_len l (λm hm=>h m (List.mem_cons_of_mem _ hm));rw[List.flatMap_cons,qG,List.length_cons,rowB,qG];omega
theorem rows_calls (wb:Nat)(sp:Bool)(v:Value)(bs:List UInt8)(l:List BR)(ao:Option Addr)(cap:Nat)(w:World)(T:Wr w wb sp v bs)(hr:NRows 1 encBR (λb=>b=wb\/v.ownBlock=some b) w ao l)(hx:∀x∈l,NRows 1 encU8 (λb=>b=wb\/v.ownBlock=some b) w x.o x.b)(hn:∀x∈l,x.b.length<=1000000000)(hl:l.length<=100)(hm:bs.length<=140000000000000):
 Calls Tryz.prog 146 #[.pointer (some ⟨wb,0,none⟩),.slice ao l.length cap] w λe w'=>e= .returned (.pointer (some ⟨wb,0,none⟩))/\∃v',Wr w' wb sp v' (bs++l.flatMap λx=>rowB x.b)/\But (λj=>j=wb\/v.ownBlock=some j) w w'/\Kept1 w v v':=by
 have HT:=qA T;have HR:=qA hr;have HN:=qA hn;have HX:=qA hx;clear T hr hn hx;go_enter Tryz.func146,Tryz.ntmps146;go_wp2_with fail;refine (known_calls wb sp v bs w HT.out).mono ?_;rintro e w1 ⟨rfl,rfl⟩;go_wp2_with fail;go_loopw [11] (λvi wr=>∃(k:Nat) (v':Value),vi= .int .i64 k/\k<=l.length/\Wr wr wb sp v' (bs++(l.take k).flatMap λx=>rowB x.b)/\But (λj=>j=wb\/v.ownBlock=some j) w wr/\Kept1 w v v') (λvi _=>l.length - (intOf vi).toNat)
 case atStart=>exact⟨0,v,rfl,by omega,by simpa using HT.out,But.refl _ _,λk hk=> .inl hk⟩
 case round=>
  obtain⟨k,v',rfl,hk,hT,hB,hK⟩:=hrel;have T1:=qA hT;have B1:=qA hB;have K1:=qA hK;clear hT hB hK;by_cases hlt:k<l.length
  · obtain⟨x,hx⟩:∃x,l[k]? =some x:=⟨_,qE hlt⟩
    obtain⟨b,off,rfl,hb,hno,hcell⟩:=HR.out (by intro e;rw[e]at hlt;simp at hlt);have hcx:=(B1.out.cell (p:=⟨b,off+k * 1+0,none⟩) hb hno).trans (hcell k x hx 0 _ rfl);simp only[Nat.add_zero,Nat.mul_one]at hcx;have hxn:=HN.out x (qH hx);have hxr:=((HX.out x (qH hx)).mono (no':=λb=>(b=wb\/v.ownBlock=some b)\/v'.ownBlock=some b) (λj hj e=>e.elim id (λe=>own_back K1.out hj (.inr e)))).but B1.out (λ_ _ e=> .inl e);have i0:(0:Int)<=(k:Int):=by omega
    have i1:(k:Int)<(l.length:Int):=by omega
    have htk:l.take (k+1)=l.take k++[x]:=by rw[List.take_add_one,hx];rfl
    have TK:=qA htk;have XR:=qA hxr
    have hlen:(bs++(l.take k).flatMap λx=>rowB x.b).length<=140300000000000:=by
     have:=rowsB_len (l.take k) (λn hn=>HN.out n (List.mem_of_mem_take hn))
     rw[List.length_take]at this;rw[qG];omega
    have h9:=numB_nine (n:=x.b.length) (by omega);have HL:=qA hlen;clear hcell hx htk hxr hlen;obtain⟨xo,xb,xc⟩:=x;simp only at hcx hxn h9 XR;go_wp2_with fail;refine (number_calls wb sp v' _ xb.length wr T1.out (by omega) (by have:=HL.out;omega)).mono ?_;rintro e w2 ⟨rfl,v2,h1,h2,h3⟩;have T2:=qA h1;have B2:=qA h2;have K2:=qA h3
    have hr2:Rows 1 encU8 w2.heap.size w2 xo xb:=
     (XR.out.but h2 (λ_ _ e=>e.elim (λe=> .inl (.inl e)) .inr)).rows
    have R2:=qA hr2;clear h1 h2 h3 hr2;go_wp2_with fail;refine (wput_calls wb sp v2 _ xb xo xc w2 T2.out R2.out (by have:=HL.out;simp only[qG]at *;omega)).mono ?_;rintro e w3 ⟨rfl,v3,h1,h2,h3⟩;have T3:=qA h1;have B3:=qA h2;have K3:=qA h3;clear h1 h2 h3;go_wp2_with fail;go_roundw
    case rel=>
     have B12:=B1.out.trans B2.out (U:=λj=>j=wb\/v.ownBlock=some j) (λ_ _ e=>e) (λj hj e=>own_back K1.out hj e);have K12:=kept_trans K1.out B1.out.size K2.out;exact⟨k+1,v3,by go_num,by omega,by rw[TK.out,List.flatMap_append,List.flatMap_singleton,rowB,<- List.append_assoc,<- List.append_assoc];exact T3.out,B12.trans B3.out (λ_ _ e=>e) (λj hj e=>own_back K12 hj e),kept_trans K12 B12.size K3.out⟩
    case measure=>simp[intOf];omega
  · have:k=l.length:=by omega
    subst this;go_wp2_with fail;go_ret;exact⟨rfl,v',by have:=T1.out;rwa [List.take_length]at this,B1.out,K1.out⟩
theorem rowsT_len:∀l:List ByteArray,(∀x∈l,x.data.toList.length<=1000000000)->(l.flatMap λx=>rowB x.data.toList).length<=1000000009 * l.length
 | [],_=>by simp
 | n::l,h=>by
   have h1:=h n (by simp);have h3:=numB_nine (n:=n.data.toList.length) (by omega);have h2:=rowsT_len l (λm hm=>h m (List.mem_cons_of_mem _ hm));rw[List.flatMap_cons,qG,List.length_cons,rowB,qG];omega
theorem texts_calls (wb:Nat)(sp:Bool)(v:Value)(bs:List UInt8)(l:List ByteArray)(ao:Option Addr)(cap:Nat)(w:World)(T:Wr w wb sp v bs)(hr:NRows 1 (λs:ByteArray=>[Value.string s]) (λb=>b=wb\/v.ownBlock=some b) w ao l)(hn:∀x∈l,x.data.toList.length<=1000000000)(hl:l.length<=100)(hm:bs.length<=130000000000000):
 Calls Tryz.prog 144 #[.pointer (some ⟨wb,0,none⟩),.slice ao l.length cap] w λe w'=>e= .returned (.pointer (some ⟨wb,0,none⟩))/\∃v',Wr w' wb sp v' (bs++l.flatMap λx=>rowB x.data.toList)/\But (λj=>j=wb\/v.ownBlock=some j) w w'/\Kept1 w v v':=by
 have HT:=qA T;have HR:=qA hr;have HN:=qA hn;clear T hr hn;go_enter Tryz.func144,Tryz.ntmps144;go_wp2_with fail;refine (known_calls wb sp v bs w HT.out).mono ?_;rintro e w1 ⟨rfl,rfl⟩;go_wp2_with fail;go_loopw [11] (λvi wr=>∃(k:Nat) (v':Value),vi= .int .i64 k/\k<=l.length/\Wr wr wb sp v' (bs++(l.take k).flatMap λx=>rowB x.data.toList)/\But (λj=>j=wb\/v.ownBlock=some j) w wr/\Kept1 w v v') (λvi _=>l.length - (intOf vi).toNat)
 case atStart=>exact⟨0,v,rfl,by omega,by simpa using HT.out,But.refl _ _,λk hk=> .inl hk⟩
 case round=>
  obtain⟨k,v',rfl,hk,hT,hB,hK⟩:=hrel;have T1:=qA hT;have B1:=qA hB;have K1:=qA hK;clear hT hB hK;by_cases hlt:k<l.length
  · obtain⟨x,hx⟩:∃x,l[k]? =some x:=⟨_,qE hlt⟩
    obtain⟨b,off,rfl,hb,hno,hcell⟩:=HR.out (by intro e;rw[e]at hlt;simp at hlt);have hcx:=(B1.out.cell (p:=⟨b,off+k * 1+0,none⟩) hb hno).trans (hcell k x hx 0 _ rfl);simp only[Nat.add_zero,Nat.mul_one]at hcx;have hxn:=HN.out x (qH hx);have i0:(0:Int)<=(k:Int):=by omega
    have i1:(k:Int)<(l.length:Int):=by omega
    have htk:l.take (k+1)=l.take k++[x]:=by rw[List.take_add_one,hx];rfl
    have TK:=qA htk;clear hcell hx htk
    have hw1:∃W,W=Lib.bytesWorld wr 5 x/\Ext wr W/\Rows 1 encU8 W.heap.size W (some ⟨wr.heap.size,0,none⟩) x.data.toList:=by
     refine⟨_,rfl,ext_bytesWorld,λ_=>⟨_,0,rfl,by rw[Lib.bytesWorld_size];omega,λi y hi j u hj=>?_⟩⟩
     obtain⟨rfl,rfl⟩:j=0/\u= .int .u8 (y.toNat:Int):=by
      match j,hj with
      | 0,hj=>simp[encU8]at hj;exact⟨rfl,hj.symm⟩
      | j+1,hj=>simp[encU8]at hj
     have hil:=(qF.1 hi).1;rw[show 0+i * 1+0=i from by omega,Lib.bytesWorld_cell wr _ x i (by simpa using hil)];rw[List.getD_eq_getElem?_getD,hi];rfl
    obtain⟨W,eW,xW,rW⟩:=hw1;have EW:=qA eW;have XW:=qA xW;have RW:=qA rW;clear eW xW rW;go_wp2_with fail;rw[Lib.run_convert_string_bytes wr _ _ 5 x (u:= .string) Tryz.underlying9 Tryz.underlying37 Tryz.underlying5];simp only[Result.andThen];rw[Oper.upon_value,<- EW.out];go_wp2_with fail
    have hlen:(bs++(l.take k).flatMap λx=>rowB x.data.toList).length<=140000000000000:=by
     have:=rowsT_len (l.take k) (λn hn=>HN.out n (List.mem_of_mem_take hn))
     rw[List.length_take]at this;rw[qG];omega
    have hxa:Ext W (W.alloc (.cells #[.slice (some ⟨wr.heap.size,0,none⟩) x.size (grownCap wr x.size 0 5)] 37)):=(qK _ W).alloc (qL _) _;have hXA:=qJ XW.out hxa;have hwl:=XW.out.size
    have hnob:∀j,wr.heap.size<=j->¬(j=wb\/v'.ownBlock=some j):=by
     rintro j hj (e | e)
     · have:=T1.out.blk.lt;omega
     · have:=(T1.out.row.lt j e).2;omega
    refine (rows_calls wb sp v' _ [⟨some ⟨wr.heap.size,0,none⟩,x.data.toList,grownCap wr x.size 0 5⟩] (some ⟨W.heap.size,0,none⟩) 1 _ (T1.out.ext hXA) ?_ ?_ ?_ (by simp) hlen).mono ?_
    · intro _
      obtain⟨b1,o1,he,hb1,hc1⟩:=Rows.fresh' (enc:=encBR) (sz:=1) (λ_=>rfl) [⟨some ⟨wr.heap.size,0,none⟩,x.data.toList,grownCap wr x.size 0 5⟩] W 37 (by simp);cases he;exact⟨_,_,rfl,hb1,hnob _ hwl,hc1⟩
    · intro y hy
      rw[List.mem_singleton.1 hy];refine NRows.mono (no:=λb=>b<wr.heap.size) ?_ (λj hj e=>Classical.byContradiction λh=>hnob j (by omega) e);intro hne;obtain⟨b1,o1,he,hb1,hc1⟩:=(RW.out.ext hxa) hne;cases he;exact⟨_,_,rfl,by have:=hxa.size;omega,by omega,hc1⟩
    · intro y hy;rw[List.mem_singleton.1 hy];exact hxn
    rintro e w2 ⟨rfl,v2,h1,h2,h3⟩;have B2:=(Ext.but hXA (λ_=>False)).trans h2 (U:=λj=>j=wb\/v'.ownBlock=some j) (λ_ _ e=>e.elim) (λ_ _ e=>e);have K2:Kept1 wr v' v2:=λj hj=>(h3 j hj).elim .inl (λe=> .inr (qM hXA.size e));have T2:=qA h1;have B2:=qA B2;have K2:=qA K2;clear h1 h2 h3;go_wp2_with fail;go_roundw
    case rel=>exact⟨k+1,v2,by go_num,by omega,by rw[TK.out,List.flatMap_append,List.flatMap_singleton,<- List.append_assoc];simpa using T2.out,B1.out.trans B2.out (λ_ _ e=>e) (λj hj e=>own_back K1.out hj e),kept_trans K1.out B1.out.size K2.out⟩
    case measure=>simp[intOf];omega
  · have:k=l.length:=by omega
    subst this;go_wp2_with fail;go_ret;exact⟨rfl,v',by have:=T1.out;rwa [List.take_length]at this,B1.out,K1.out⟩
def okN (n:Int):Bool:=decide (0<=n)&&decide (n<=4611686018427387903)
def numZ (n:Int):List UInt8:=if okN n=true then numB n.toNat else []
def badsZ (l:List Int):Bool:=l.any λn=> !okN n
def encI (n:Int):List Value:=[.int .i64 n]
theorem numZ_len (n:Int):(numZ n).length<=9:=by
 unfold numZ
 split
 · rename_i h
   simp only[okN,Bool.and_eq_true,decide_eq_true_eq]at h;exact numB_nine (by omega)
 · simp
theorem numsZ_len:∀l:List Int,(l.flatMap numZ).length<=9 * l.length
 | []=>by simp
 | n::l=>by
   have h1:=numZ_len n;have h2:=numsZ_len l;rw[List.flatMap_cons,qG,List.length_cons];omega
theorem badsZ_succ (l:List Int)(k:Nat)(x:Int)(h:l[k]? =some x):badsZ (l.take (k+1))=(badsZ (l.take k)|| !okN x):=by
 rw[List.take_add_one,h];simp[badsZ]
theorem number_any (wb:Nat)(sp:Bool)(v:Value)(bs:List UInt8)(n:Int)(w:World)(T:Wr w wb sp v bs)(hm:bs.length<=140737488300000):
 Calls Tryz.prog 191 #[.pointer (some ⟨wb,0,none⟩),.int .i64 n] w λe w'=>e= .returned (.tuple #[])/\∃v',Wr w' wb (sp|| !okN n) v' (bs++numZ n)/\But (λj=>j=wb\/v.ownBlock=some j) w w'/\Kept1 w v v':=by
 cases ho:okN n with
 | true=>
   have h:=ho;simp only[okN,Bool.and_eq_true,decide_eq_true_eq]at h;obtain⟨m,rfl⟩:∃m:Nat,n=(m:Int):=⟨n.toNat,by omega⟩;rw[numZ,if_pos ho,Int.toNat_natCast];simp only[Bool.not_true,Bool.or_false];exact number_calls wb sp v bs m w T (by omega) hm
 | false=>
   have hz:numZ n=[]:=by rw[numZ,if_neg (by rw[ho];simp)]
   rw[hz,List.append_nil];simp only[Bool.not_false,Bool.or_true]
   have h:n<0\/(¬n<0/\4611686018427387903<n):=by
    simp only[okN,Bool.and_eq_false_iff,decide_eq_false_iff_not]at ho;omega
   have c1:=T.blk.cell 1;have f1:=T.blk.free 1;simp only[qB,qC]at c1;have HT:=qA T;clear T ho hz;rcases h with h | ⟨h,h2⟩
   case' inl=>have g1:decide (n<0)=true:=by simp;omega
   case' inr=>
    have g1:decide (n<0)=false:=by simp;omega
    have g2:decide ((4611686018427387903:Int)<n)=true:=by simp;omega
   all_goals
    go_enter Tryz.func191,Tryz.ntmps191;go_wp2_with fail
    (try simp only[Exit.inBlock,Exit.then])
    refine bodyPost_ret (results_none rfl _ _ _) rfl ?_;refine⟨rfl,v,⟨HT.out.blk.set 1 (.bool true),own_setOther HT.out.row (a:=⟨wb,1,none⟩) HT.out.apart _⟩,(But.refl _ w).setCell (λ_=> .inl rfl) _,λk hk=> .inl hk⟩
theorem numbers_any (wb:Nat)(sp:Bool)(v:Value)(bs:List UInt8)(l:List Int)(ao:Option Addr)(cap:Nat)(w:World)(T:Wr w wb sp v bs)(hr:NRows 1 encI (λb=>b=wb\/v.ownBlock=some b) w ao l)(hl:l.length<=100)(hm:bs.length<=140737488200000):
 Calls Tryz.prog 143 #[.pointer (some ⟨wb,0,none⟩),.slice ao l.length cap] w λe w'=>e= .returned (.pointer (some ⟨wb,0,none⟩))/\∃v',Wr w' wb (sp||badsZ l) v' (bs++l.flatMap numZ)/\But (λj=>j=wb\/v.ownBlock=some j) w w'/\Kept1 w v v':=by
 have HT:=qA T;have HR:=qA hr;clear T hr;go_enter Tryz.func143,Tryz.ntmps143;go_wp2_with fail;refine (known_calls wb sp v bs w HT.out).mono ?_;rintro e w1 ⟨rfl,rfl⟩;go_wp2_with fail;go_loopw [11] (λvi wr=>∃(k:Nat) (v':Value),vi= .int .i64 k/\k<=l.length/\Wr wr wb (sp||badsZ (l.take k)) v' (bs++(l.take k).flatMap numZ)/\But (λj=>j=wb\/v.ownBlock=some j) w wr/\Kept1 w v v') (λvi _=>l.length - (intOf vi).toNat)
 case atStart=>exact⟨0,v,rfl,by omega,by simpa [badsZ] using HT.out,But.refl _ _,λk hk=> .inl hk⟩
 case round=>
  obtain⟨k,v',rfl,hk,hT,hB,hK⟩:=hrel;have T1:=qA hT;have B1:=qA hB;have K1:=qA hK;clear hT hB hK;by_cases hlt:k<l.length
  · obtain⟨x,hx⟩:∃x,l[k]? =some x:=⟨_,qE hlt⟩
    obtain⟨b,off,rfl,hb,hno,hcell⟩:=HR.out (by intro e;rw[e]at hlt;simp at hlt);have hcx:=(B1.out.cell (p:=⟨b,off+k * 1+0,none⟩) hb hno).trans (hcell k x hx 0 _ rfl);simp only[Nat.add_zero,Nat.mul_one]at hcx;have i0:(0:Int)<=(k:Int):=by omega
    have i1:(k:Int)<(l.length:Int):=by omega
    have htk:l.take (k+1)=l.take k++[x]:=by rw[List.take_add_one,hx];rfl
    have TK:=qA htk;have BK:=qA (badsZ_succ l k x hx)
    have hlen:(bs++(l.take k).flatMap numZ).length<=140737488300000:=by
     have:=numsZ_len (l.take k)
     rw[List.length_take]at this;rw[qG];omega
    clear hcell hx htk;go_wp2_with fail;refine (number_any wb _ v' _ x wr T1.out hlen).mono ?_;rintro e w2 ⟨rfl,v2,h1,h2,h3⟩;have T2:=qA h1;have B2:=qA h2;have K2:=qA h3;clear h1 h2 h3;go_wp2_with fail;go_roundw
    case rel=>exact⟨k+1,v2,by go_num,by omega,by rw[BK.out,TK.out,List.flatMap_append,List.flatMap_singleton,<- List.append_assoc,<- Bool.or_assoc];exact T2.out,B1.out.trans B2.out (λ_ _ e=>e) (λj hj e=>own_back K1.out hj e),kept_trans K1.out B1.out.size K2.out⟩
    case measure=>simp[intOf];omega
  · have:k=l.length:=by omega
    subst this;go_wp2_with fail;go_ret;exact⟨rfl,v',by have:=T1.out;rwa [List.take_length]at this,B1.out,K1.out⟩
theorem nrow_blk {α:Type}{sz:Nat}{enc:α->List Value}(hsz:∀x,(enc x).length=sz)(l:List α){w:World}{g:Nat}{t:TypeId}(hb:Blk w g (l.flatMap enc) t){no:Nat->Prop}(hno:¬no g):NRows sz enc no w (some ⟨g,0,none⟩) l:=by
 intro _;refine⟨g,0,rfl,hb.lt,hno,λi x hi j v hj=>?_⟩;rw[Nat.zero_add,hb.cell];exact flat_at hsz l i x hi j v hj
structure RSt where
 fl:Bool
 l:List UInt8
def RSt.dead:RSt:=⟨true,[]⟩
def topN:Nat:=4611686018427387903
def numGo (most:Nat):Nat->Nat->Nat->List UInt8->Option (Nat×List UInt8)
 | 0,_,_,_=>none
 | _+1,_,_,[]=>none
 | f+1,k,n,b::l=>
   if b.toNat<128 then
    if (0<k/\b.toNat=0)\/topN<n+b.toNat * 2 ^ (7 * k)\/most<n+b.toNat * 2 ^ (7 * k) then none else some (n+b.toNat * 2 ^ (7 * k),l)
   else numGo most f (k+1) (n+(b.toNat % 128) * 2 ^ (7 * k)) l
def numS (most:Nat)(s:RSt):Nat×RSt:=if s.fl then (0,s) else match numGo most 9 0 0 s.l with | some (n,l)=>(n,⟨false,l⟩) | none=>(0,RSt.dead)
def flagS (s:RSt):Bool×RSt:=if s.fl then (false,s) else match s.l with | []=>(false,RSt.dead) | b::l=>if b.toNat<=1 then (decide (b.toNat=1),⟨false,l⟩) else (false,RSt.dead)
def rowS (most:Nat)(s:RSt):List UInt8×RSt:=
 if (numS most s).2.fl then ([],(numS most s).2)
 else if (numS most s).1<=(numS most s).2.l.length then ((numS most s).2.l.take (numS most s).1,⟨false,(numS most s).2.l.drop (numS most s).1⟩) else ([],RSt.dead)
theorem numGo_le {most:Nat}:∀(f k n:Nat)(l:List UInt8)(x:Nat)(r:List UInt8),numGo most f k n l=some (x,r)->x<=most/\r.length<l.length
 | 0,_,_,_,_,_,h=>by simp[numGo]at h
 | _+1,_,_,[],_,_,h=>by simp[numGo]at h
 | f+1,k,n,b::l,x,r,h=>by
   rw[numGo]at h
   split at h
   · split at h
     · cases h
     · rename_i h1 h2
       simp only[Option.some.injEq,Prod.mk.injEq]at h;obtain⟨rfl,rfl⟩:=h;exact⟨by omega,by simp⟩
   · have:=numGo_le f _ _ l x r h
     exact⟨this.1,by rw[List.length_cons];omega⟩
theorem numS_le (most:Nat)(s:RSt):(numS most s).1<=most:=by
 unfold numS
 split
 · exact Nat.zero_le _
 · split
   · rename_i n l h;exact (numGo_le _ _ _ _ _ _ h).1
   · exact Nat.zero_le _
theorem numS_len (most:Nat)(s:RSt):(numS most s).2.l.length<=s.l.length:=by
 unfold numS
 split
 · exact qL _
 · split
   · rename_i n l h;exact Nat.le_of_lt (numGo_le _ _ _ _ _ _ h).2
   · exact Nat.zero_le _
theorem rowS_len (most:Nat)(s:RSt):(rowS most s).1.length<=most/\(rowS most s).2.l.length<=s.l.length:=by
 have h1:=numS_le most s;have h2:=numS_len most s;unfold rowS
 split
 · exact⟨Nat.zero_le _,h2⟩
 · split
   · simp only[List.length_take,List.length_drop];omega
   · exact⟨Nat.zero_le _,Nat.zero_le _⟩
theorem seven_more (m k:Nat):m % 128 * 2 ^ (7 * k)+m / 128 * 2 ^ (7 * (k+1))=m * 2 ^ (7 * k):=by
 rw[show 7 * (k+1)=7 * k+7 from by omega,Nat.pow_add];have h:m=128 * (m / 128)+m % 128:=(Nat.div_add_mod m 128).symm;generalize 2 ^ (7 * k)=X at *;generalize m / 128=q at *;generalize m % 128=r at *;subst h;have e:q * (X * 2 ^ 7)=128 * q * X:=by rw[Nat.mul_comm X,<- Nat.mul_assoc,Nat.mul_comm q]
 rw[e,Nat.add_mul];omega
theorem numGo_back {most:Nat}(rest:List UInt8):∀(f k m n:Nat),m<128 ^ (f+1)->(0<k->0<m)->n+m * 2 ^ (7 * k)<=topN->n+m * 2 ^ (7 * k)<=most->numGo most (f+1) k n (numB m++rest)=some (n+m * 2 ^ (7 * k),rest):=by
 intro f
 induction f with
 | zero=>
   intro k m n h1 h2 h3 h4;have hm:m<128:=by simpa using h1
   have e:(UInt8.ofNat m).toNat=m:=by rw[UInt8.toNat_ofNat'];omega
   rw[numB,dif_pos hm,List.singleton_append,numGo,e,if_pos hm,if_neg (by
    intro h;rcases h with ⟨a,b⟩ | h | h
    · have:=h2 a;omega
    · omega
    · omega)]
 | succ f ih=>
   intro k m n h1 h2 h3 h4;by_cases hm:m<128
   · have e:(UInt8.ofNat m).toNat=m:=by rw[UInt8.toNat_ofNat'];omega
     rw[numB,dif_pos hm,List.singleton_append,numGo,e,if_pos hm,if_neg (by
      intro h;rcases h with ⟨a,b⟩ | h | h
      · have:=h2 a;omega
      · omega
      · omega)]
   · have e:(UInt8.ofNat (m % 128+128)).toNat=m % 128+128:=by rw[UInt8.toNat_ofNat'];omega
     have hk:=seven_more m k;rw[numB,dif_neg hm,List.cons_append,numGo,e,if_neg (by omega),show (m % 128+128) % 128=m % 128 from by omega];rw[ih (k+1) (m / 128) (n+m % 128 * 2 ^ (7 * k)) (by rw[Nat.pow_succ]at h1;exact Nat.div_lt_of_lt_mul (by rw[Nat.mul_comm];exact h1)) (λ_=>by omega) (by omega) (by omega)];rw[Nat.add_assoc,hk]
theorem numS_back {most m:Nat}(rest:List UInt8)(h1:m<=topN)(h2:m<=most):numS most ⟨false,numB m++rest⟩=(m,⟨false,rest⟩):=by
 have:=numGo_back (most:=most) rest 8 0 m 0 (Nat.lt_of_le_of_lt h1 (by decide)) (λh=>absurd h (by omega)) (by simpa using h1) (by simpa using h2)
 simp only[Nat.mul_zero,Nat.pow_zero,Nat.mul_one,Nat.zero_add]at this;simp[numS,this]
theorem flagS_back (b:Bool)(rest:List UInt8):flagS ⟨false,flagB b++rest⟩=(b,⟨false,rest⟩):=by
 cases b<;>simp[flagS,flagB]
theorem rowS_back {most:Nat}(l rest:List UInt8)(h1:l.length<=topN)(h2:l.length<=most):rowS most ⟨false,(numB l.length++l)++rest⟩=(l,⟨false,rest⟩):=by
 have:=numS_back (most:=most) (m:=l.length) (l++rest) h1 h2
 rw[List.append_assoc];simp[rowS,this]
structure Rdr (w:World)(B rb:Nat)(ao:Option Addr)(cap:Nat)(s:RSt):Prop where
 blk:Blk w rb [.bool true,.bool s.fl,.slice ao s.l.length cap] 142
 old:rb<B
 fit:s.l.length<=cap
 max:cap<=maxLen
 row:NRows 1 encU8 (λb=>b=rb\/B<=b) w ao s.l
theorem Rdr.but {w w':World}{B rb cap:Nat}{ao:Option Addr}{s:RSt}{S:Nat->Prop}(h:Rdr w B rb ao cap s)(hx:But S w w')(hS:∀b,b<B->¬S b):Rdr w' B rb ao cap s:=
 ⟨h.blk.but hx (hS _ h.old),h.old,h.fit,h.max,h.row.but hx (λb _ e=> .inr (Nat.le_of_not_lt λh=>hS b h e))⟩
theorem Rdr.ext {w w':World}{B rb cap:Nat}{ao:Option Addr}{s:RSt}(h:Rdr w B rb ao cap s)(hx:Ext w w'):Rdr w' B rb ao cap s:=h.but (Ext.but hx (λ_=>False)) (λ_ _ e=>e)
theorem Rdr.mono {w:World}{B B' rb cap:Nat}{ao:Option Addr}{s:RSt}(h:Rdr w B rb ao cap s)(hB:B<=B'):Rdr w B' rb ao cap s:=
 ⟨h.blk,qN h.old hB,h.fit,h.max,h.row.mono (λ_ _ e=>e.elim .inl (λe=> .inr (qM hB e)))⟩
def RdPost (B rb:Nat)(s:RSt)(w w':World):Prop:=(∃ao cap,Rdr w' B rb ao cap s)/\But (λj=>j=rb) w w'
theorem RdPost.trans {B rb:Nat}{s s':RSt}{w w1 w2:World}(h:RdPost B rb s w w1)(k:RdPost B rb s' w1 w2):RdPost B rb s' w w2:=⟨k.1,h.2.trans k.2 (λ_ _ e=>e) (λ_ _ e=>e)⟩
theorem But.here {S:Nat->Prop}{w w':World}{b:Nat}(h:But S w w')(hb:S b)(i:Nat)(v:Value):But S w (w'.setCell ⟨b,i,none⟩ v):=h.setCell (λ_=>hb) v
theorem slice_left {P:Program}{t:TypeId}(ht:P.underlying t=some (.slice (P.elem t)))(hz:∀W,(sizeOf (P.elem t)).run P W= .ok 1 W)(ao:Option Addr)(len cap n:Nat)(h:n<=len)(hc:len<=cap):
 ∃ao',(n<len->∀b off,ao=some ⟨b,off,none⟩->ao'=some ⟨b,off+n,none⟩)/\∀W,(Instr.slice t (.slice ao len cap) (some (.int .i64 n)) none none).run P W= .ok (.slice ao' (len - n) (cap - n)) W:=by
 refine⟨if cap=n then ao else ao.map (·.add (n * 1)),λhl b off e=>?_,λW=>?_⟩
 · rw[if_neg (by omega),e,Option.map_some,WideShapes.add_plain,Nat.mul_one]
 · rw[run_slice_l W t _ _ _ ht .i64 n (by omega) (by omega),hz W]
   simp only[Result.andThen_ok,sliced,Int.toNat_natCast]
theorem slice_head {P:Program}{t:TypeId}(ht:P.underlying t=some (.slice (P.elem t)))(hz:∀W,(sizeOf (P.elem t)).run P W= .ok 1 W)(ao:Option Addr)(len cap n:Nat)(h:n<=len)(hc:len<=cap):
 ∃ao',(∀b off,ao=some ⟨b,off,none⟩->ao'=some ⟨b,off,none⟩)/\∀W,(Instr.slice t (.slice ao len cap) none (some (.int .i64 n)) (some (.int .i64 n))).run P W= .ok (.slice ao' n n) W:=by
 refine⟨if n=0 then ao else ao.map (·.add (0 * 1)),λb off e=>?_,λW=>?_⟩
 · rw[e,Option.map_some,WideShapes.add_plain];simp
 · rw[run_slice_hm W t _ _ _ ht .i64 .i64 n n (by omega) (by omega) (by omega),hz W]
   simp only[Result.andThen_ok,sliced,Int.toNat_natCast,Nat.sub_zero]
theorem elemU8:Tryz.prog.underlying 37=some (.slice (Tryz.prog.elem 37)):=by kernel_rfl
theorem sizeU8:∀W,(sizeOf (Tryz.prog.elem 37)).run Tryz.prog W= .ok 1 W:=λW=>by kernel_rfl
theorem and127 (b:UInt8):bits .and .u8 (b.toNat:Int) 127=((b.toNat % 128:Nat):Int):=by
 have h:∀m:Fin 256,bits .and .u8 ((m.val:Nat):Int) 127=((m.val % 128:Nat):Int):=by decide
 exact h ⟨b.toNat,UInt8.toNat_lt b⟩
theorem wraps_i64 (n:Int)(h0:0<=n)(h1:n<2 ^ 63):IntKind.i64.wrap n=n:=by
 have e:n % 2 ^ 64=n:=Int.emod_eq_of_lt h0 (by omega);simp only[IntKind.wrap,IntKind.bits,IntKind.signed,Bool.true_and,e];rw[if_neg (by simp;omega)]
theorem or_byte (n k:Nat)(b:UInt8)(hk:k<=8)(hn:n<2 ^ (7 * k)):bits .or .i64 (n:Int) (wrap64 (wrap64 (bits .and .u8 (b.toNat:Int) 127) * 2 ^ (7 * k)))=((n+b.toNat % 128 * 2 ^ (7 * k):Nat):Int):=by
 have h56:2 ^ (7 * k)<=2 ^ 56:=Nat.pow_le_pow_right (by omega) (by omega);have hb:b.toNat % 128<128:=Nat.mod_lt _ (by omega);rw[and127];generalize b.toNat % 128=x at *;have e1:wrap64 (x:Int)=x:=by unfold wrap64;omega
 have hx:x * 2 ^ (7 * k)<=127 * 2 ^ 56:=Nat.mul_le_mul (by omega) h56;have e2:((x:Int) * 2 ^ (7 * k))=((x * 2 ^ (7 * k):Nat):Int):=by push_cast;rfl
 have e3:wrap64 ((x * 2 ^ (7 * k):Nat):Int)=((x * 2 ^ (7 * k):Nat):Int):=by unfold wrap64;omega
 rw[e1,e2,e3,bits_join_low .i64 63 (by decide) wraps_i64 (7 * k) (n:Int) ((x * 2 ^ (7 * k):Nat):Int) (by omega) (by exact_mod_cast hn) (by omega) (by omega) (by rw[<- e2];exact Int.mul_emod_left _ _) (by omega)];omega
theorem on_calls (B rb cap:Nat)(ao:Option Addr)(s:RSt)(w:World)(T:Rdr w B rb ao cap s):Calls Tryz.prog 147 #[.pointer (some ⟨rb,0,none⟩)] w λe w'=>e= .returned (.bool (!s.fl))/\w=w':=by
 have c0:=T.blk.cell 0;have c1:=T.blk.cell 1;simp only[qB,qC]at c0 c1;clear T;go_enter Tryz.func147,Tryz.ntmps147;go_wp2_with fail;go_ret;exact⟨rfl,rfl⟩
theorem fail_calls (B rb cap:Nat)(ao:Option Addr)(s:RSt)(w:World)(T:Rdr w B rb ao cap s):Calls Tryz.prog 149 #[.pointer (some ⟨rb,0,none⟩)] w λe w'=>e= .returned (.tuple #[])/\RdPost B rb .dead w w':=by
 have HT:=qA T;have f1:=T.blk.free 1;have f2:=T.blk.free 2;have c1:=T.blk.cell 1;have c2:=T.blk.cell 2;simp only[qB,qC]at c1 c2;clear T;go_enter Tryz.func149,Tryz.ntmps149;go_wp2_with fail
 go_end0
 exact⟨rfl,⟨none,0,(HT.out.blk.set 1 (.bool true)).set 2 (.slice none 0 0),HT.out.old,qL _,by simp[maxLen],λh=>absurd rfl h⟩,((But.refl (λj=>j=rb) w).here rfl _ _).here rfl _ _⟩
theorem take_no (B rb cap:Nat)(ao:Option Addr)(s:RSt)(n:Nat)(w:World)(T:Rdr w B rb ao cap s)(h:s.l.length<n):Calls Tryz.prog 148 #[.pointer (some ⟨rb,0,none⟩),.int .i64 n] w λe w'=>e= .returned (.slice none 0 0)/\RdPost B rb .dead w w':=by
 have HT:=qA T;have c2:=T.blk.cell 2;simp only[qB,qC]at c2;clear T;have t1:decide (s.l.length<n)=true:=by simpa using h
 go_enter Tryz.func148,Tryz.ntmps148;go_wp2_with fail;refine (fail_calls B rb cap ao s w HT.out).mono ?_;rintro e w1 ⟨rfl,h1⟩;have H1:=qA h1;clear h1;go_wp2_with fail;go_ret;exact⟨rfl,H1.out⟩
theorem take_ok (B rb cap:Nat)(ao:Option Addr)(s:RSt)(n:Nat)(w:World)(T:Rdr w B rb ao cap s)(h:n<=s.l.length):Calls Tryz.prog 148 #[.pointer (some ⟨rb,0,none⟩),.int .i64 n] w λe w'=>(∃ro,e= .returned (.slice ro n n)/\NRows 1 encU8 (λb=>b=rb\/B<=b) w' ro (s.l.take n))/\(∃ao' cap',Rdr w' B rb ao' cap' ⟨s.fl,s.l.drop n⟩)/\But (λj=>j=rb) w w':=by
 obtain⟨ro,hro,hs1⟩:=slice_head elemU8 sizeU8 ao s.l.length cap n h T.fit;obtain⟨lo,hlo,hs2⟩:=slice_left elemU8 sizeU8 ao s.l.length cap n h T.fit;have HT:=qA T;have HRO:=qA hro;have HLO:=qA hlo;have c2:=T.blk.cell 2;have f2:=T.blk.free 2;simp only[qB,qC]at c2;have hmx:=T.max;have hfit:=T.fit;unfold maxLen at hmx;clear T hro hlo;have t1:decide (s.l.length<n)=false:=by simpa using h
 go_enter Tryz.func148,Tryz.ntmps148;go_wp2_with fail;go_ret;have hbut:But (λj=>j=rb) w (w.setCell ⟨rb,2,none⟩ (.slice lo (s.l.length - n) (cap - n))):=(But.refl (λj=>j=rb) w).here rfl _ _;refine⟨⟨ro,rfl,λhne=>?_⟩,⟨lo,cap - n,?_,HT.out.old,?_,?_,λhne=>?_⟩,hbut⟩
 · obtain⟨b,off,rfl,hb,hno,hc⟩:=HT.out.row (λe=>hne (by rw[e];simp))
   refine⟨b,off,HRO.out b off rfl,qN hb hbut.size,hno,λi x hi j v hj=>?_⟩;rw[List.getElem?_take]at hi
   split at hi
   · exact (hbut.cell (p:=⟨b,_,none⟩) hb (λe=>hno (.inl e))).trans (hc i x hi j v hj)
   · cases hi
 · have:=HT.out.blk.set 2 (.slice lo (s.l.length - n) (cap - n))
   simpa using this
 · simp only[List.length_drop];omega
 · unfold maxLen;omega
 · have hlt:n<s.l.length:=by
    rcases Nat.lt_or_ge n s.l.length with h | h
    · exact h
    · exact absurd (List.drop_eq_nil_of_le h) hne
   obtain⟨b,off,rfl,hb,hno,hc⟩:=HT.out.row (λe=>hne (by rw[e];simp));refine⟨b,off+n,HLO.out hlt b off rfl,qN hb hbut.size,hno,λi x hi j v hj=>?_⟩
   have:=(hbut.cell (p:=⟨b,_,none⟩) hb (λe=>hno (.inl e))).trans (hc (n+i) x (by simpa using hi) j v hj)
   rw[show off+n+i * 1+j=off+(n+i) * 1+j from by omega];exact this
theorem number_dead (B rb cap:Nat)(ao:Option Addr)(s:RSt)(most:Nat)(w:World)(T:Rdr w B rb ao cap s)(h:s.fl=true):Calls Tryz.prog 69 #[.pointer (some ⟨rb,0,none⟩),.int .i64 most] w λe w'=>e= .returned (.int .i64 (numS most s).1)/\RdPost B rb (numS most s).2 w w':=by
 have HT:=qA T;have HF:=qA h;have t1:(!s.fl)=false:=by simp[h]
 clear T h;go_enter Tryz.func69,Tryz.ntmps69;go_wp2_with fail;refine (on_calls B rb cap ao s w HT.out).mono ?_;rintro e w1 ⟨rfl,rfl⟩;go_wp2_with fail;go_ret
 have:numS most s=(0,s):=by simp[numS,HF.out]
 rw[this];exact⟨rfl,⟨_,_,HT.out⟩,But.refl _ _⟩
theorem number_live (B rb cap:Nat)(ao:Option Addr)(l:List UInt8)(most:Nat)(w:World)(T:Rdr w B rb ao cap ⟨false,l⟩)(hm:most<=4611686018427387903):Calls Tryz.prog 69 #[.pointer (some ⟨rb,0,none⟩),.int .i64 most] w λe w'=>e= .returned (.int .i64 (numS most ⟨false,l⟩).1)/\RdPost B rb (numS most ⟨false,l⟩).2 w w':=by
 have HT:=qA T;clear T;go_enter Tryz.func69,Tryz.ntmps69;go_wp2_with fail;refine (on_calls B rb cap ao _ w HT.out).mono ?_;rintro e w1 ⟨rfl,rfl⟩;go_wp2_with fail;go_loopw [5,6,7] (λvn vi _ wr=>∃(k n:Nat) (r:List UInt8) (ao':Option Addr) (cap':Nat),vn= .int .i64 n/\vi= .int .i64 (7 * k:Nat)/\k<=9/\n<2 ^ (7 * k)/\numGo most 9 0 0 l=numGo most (9 - k) k n r/\Rdr wr B rb ao' cap' ⟨false,r⟩/\But (λj=>j=rb) w wr) (λ_ vi _ _=>63 - (intOf vi).toNat)
 case atStart=>exact⟨0,0,l,ao,cap,rfl,rfl,by omega,by simp,rfl,HT.out,But.refl _ _⟩
 case round=>
  obtain⟨k,n,r,ao',cap',rfl,rfl,hk,hn,hg,hT,hB⟩:=hrel;have T1:=qA hT;have B1:=qA hB;have G1:=qA hg;have N1:=qA hn;clear hT hB hg hn;by_cases hlt:k<9
  · have t1:decide (((7 * k:Nat):Int)<63)=true:=by simp;omega
    cases r with
    | nil=>
      go_wp2_with fail;refine (take_no B rb cap' ao' ⟨false,[]⟩ 1 wr T1.out (by simp)).mono ?_;rintro e w2 ⟨rfl,h1⟩;obtain⟨⟨ao2,cap2,h2⟩,h3⟩:=h1;have c1:=h2.blk.cell 1;simp only[qB,qC]at c1;have H2:=qA h2;have H3:=qA h3;clear h2 h3;go_wp2_with fail;go_ret
      have:numS most ⟨false,l⟩=(0,RSt.dead):=by
       obtain⟨f,hf⟩:∃f,9 - k=f+1:=⟨8 - k,by omega⟩
       have:=G1.out
       rw[hf]at this;simp[numS,this,numGo]
      rw[this];exact⟨rfl,⟨_,_,H2.out⟩,B1.out.trans H3.out (λ_ _ e=>e) (λ_ _ e=>e)⟩
    | cons b r=>
      obtain⟨f,hf⟩:∃f,9 - k=f+1:=⟨8 - k,by omega⟩;have hgo:=G1.out;rw[hf,numGo]at hgo;obtain⟨m,hm⟩:∃m,m=n+b.toNat % 128 * 2 ^ (7 * k):=⟨_,rfl⟩;have hor:=or_byte n k b (by omega) N1.out;rw[<- hm]at hor hgo
      have hm2:m<2 ^ (7 * (k+1)):=by
       have hb:b.toNat % 128<=127:=by omega
       have:=Nat.mul_le_mul_right (2 ^ (7 * k)) hb
       have hn:=N1.out;rw[show 7 * (k+1)=7 * k+7 from by omega,Nat.pow_add];omega
      have hm3:m<9223372036854775808:=qN hm2 (qM (Nat.pow_le_pow_right (by omega) (by omega:7 * (k+1)<=63)) (by decide));have GO:=qA hgo;have FF:=qA hf;have M2:=qA hm2;have MM:=qA hm;clear hgo hf hm2 hm G1;have key:(¬b.toNat<128)\/(b.toNat<128/\0<k/\b.toNat=0)\/(b.toNat<128/\¬(0<k/\b.toNat=0)/\4611686018427387903<m)\/(b.toNat<128/\¬(0<k/\b.toNat=0)/\m<=4611686018427387903/\most<m)\/(b.toNat<128/\¬(0<k/\b.toNat=0)/\m<=4611686018427387903/\m<=most):=by omega
      go_wp2_with fail;refine (take_ok B rb cap' ao' ⟨false,b::r⟩ 1 wr T1.out (by simp)).mono ?_;rintro e w2 ⟨⟨ro,rfl,hro⟩,⟨ao2,cap2,h2⟩,h3⟩;obtain⟨bb,off,rfl,hb,hno,hcell⟩:=hro (by simp);have c0:=hcell 0 b (by simp) 0 _ rfl;simp only[Nat.zero_mul,Nat.add_zero]at c0;have c1:=h2.blk.cell 1;simp only[qB,qC]at c1;have H2:=qA h2;have H3:=qA h3;clear h2 h3 hcell hro;rcases key with h | ⟨h,h4,h5⟩ | ⟨h,h4,h5⟩ | ⟨h,h4,h5,h6⟩ | ⟨h,h4,h5,h6⟩
      · have t2:decide ((b.toNat:Int)<128)=false:=by simp;omega
        go_wp2_with fail;go_roundw
        case rel=>
         refine⟨k+1,m,r,ao2,cap2,rfl,by go_num,by omega,M2.out,?_,H2.out,B1.out.trans H3.out (λ_ _ e=>e) (λ_ _ e=>e)⟩
         have:=GO.out
         rw[if_neg h]at this;rw[this]
         congr 1
         have:=FF.out;omega
        case measure=>simp[intOf];omega
      · have t2:decide ((b.toNat:Int)<128)=true:=by simp;omega
        have t3:decide ((0:Int)<7 * (k:Int))=true:=by simp;omega
        have t4:((b.toNat:Int)==0)=true:=by simp;omega
        have H45:=qA (And.intro h4 h5);clear h4 h5;go_wp2_with fail;refine (fail_calls B rb cap2 ao2 _ w2 H2.out).mono ?_;rintro e w3 ⟨rfl,h1⟩;have H4:=qA h1;clear h1;go_wp2_with fail;go_ret
        have hz:numS most ⟨false,l⟩=(0,RSt.dead):=by
         have:=GO.out
         rw[if_pos h,if_pos (.inl H45.out)]at this;simp[numS,this]
        rw[hz];exact⟨rfl,H4.out.1,(B1.out.trans H3.out (λ_ _ e=>e) (λ_ _ e=>e)).trans H4.out.2 (λ_ _ e=>e) (λ_ _ e=>e)⟩
      · have t2:decide ((b.toNat:Int)<128)=true:=by simp;omega
        have t5:decide ((4611686018427387903:Int)<(m:Int))=true:=by simp;omega
        have hbad:topN<n+b.toNat * 2 ^ (7 * k):=by
         have:=MM.out;rw[Nat.mod_eq_of_lt h]at this;unfold topN;omega
        have HB:=qA hbad;clear hbad;have hkb:¬0<k\/(0<k/\b.toNat≠0):=by omega
        clear h4;rcases hkb with hkb | ⟨hkb,hb0⟩
        case' inl=>have t3:decide ((0:Int)<7 * (k:Int))=false:=by simp;omega
        case' inr=>
         have t3:decide ((0:Int)<7 * (k:Int))=true:=by simp;omega
         have t4:((b.toNat:Int)==0)=false:=by simp;omega
        all_goals
         go_wp2_with fail;refine (fail_calls B rb cap2 ao2 _ w2 H2.out).mono ?_;rintro e w3 ⟨rfl,h1⟩;have H4:=qA h1;clear h1;go_wp2_with fail;go_ret
         have hz:numS most ⟨false,l⟩=(0,RSt.dead):=by
          have:=GO.out
          rw[if_pos h,if_pos (.inr (.inl HB.out))]at this;simp[numS,this]
         rw[hz];exact⟨rfl,H4.out.1,(B1.out.trans H3.out (λ_ _ e=>e) (λ_ _ e=>e)).trans H4.out.2 (λ_ _ e=>e) (λ_ _ e=>e)⟩
      · have t2:decide ((b.toNat:Int)<128)=true:=by simp;omega
        have t5:decide ((4611686018427387903:Int)<(m:Int))=false:=by simp;omega
        have t6:decide ((most:Int)<(m:Int))=true:=by simp;omega
        have hbad:most<n+b.toNat * 2 ^ (7 * k):=by
         have:=MM.out;rw[Nat.mod_eq_of_lt h]at this;omega
        have HB:=qA hbad;clear hbad;have hkb:¬0<k\/(0<k/\b.toNat≠0):=by omega
        clear h4;rcases hkb with hkb | ⟨hkb,hb0⟩
        case' inl=>have t3:decide ((0:Int)<7 * (k:Int))=false:=by simp;omega
        case' inr=>
         have t3:decide ((0:Int)<7 * (k:Int))=true:=by simp;omega
         have t4:((b.toNat:Int)==0)=false:=by simp;omega
        all_goals
         go_wp2_with fail;refine (fail_calls B rb cap2 ao2 _ w2 H2.out).mono ?_;rintro e w3 ⟨rfl,h1⟩;have H4:=qA h1;clear h1;go_wp2_with fail;go_ret
         have hz:numS most ⟨false,l⟩=(0,RSt.dead):=by
          have:=GO.out
          rw[if_pos h,if_pos (.inr (.inr HB.out))]at this;simp[numS,this]
         rw[hz];exact⟨rfl,H4.out.1,(B1.out.trans H3.out (λ_ _ e=>e) (λ_ _ e=>e)).trans H4.out.2 (λ_ _ e=>e) (λ_ _ e=>e)⟩
      · have t2:decide ((b.toNat:Int)<128)=true:=by simp;omega
        have t5:decide ((4611686018427387903:Int)<(m:Int))=false:=by simp;omega
        have t6:decide ((most:Int)<(m:Int))=false:=by simp;omega
        have hgood:¬((0<k/\b.toNat=0)\/topN<n+b.toNat * 2 ^ (7 * k)\/most<n+b.toNat * 2 ^ (7 * k))/\n+b.toNat * 2 ^ (7 * k)=m:=by
         have:=MM.out;rw[Nat.mod_eq_of_lt h]at this;unfold topN
         refine⟨?_,this.symm⟩;rw[<- this];omega
        have HG:=qA hgood;clear hgood;have hkb:¬0<k\/(0<k/\b.toNat≠0):=by omega
        clear h4;rcases hkb with hkb | ⟨hkb,hb0⟩
        case' inl=>have t3:decide ((0:Int)<7 * (k:Int))=false:=by simp;omega
        case' inr=>
         have t3:decide ((0:Int)<7 * (k:Int))=true:=by simp;omega
         have t4:((b.toNat:Int)==0)=false:=by simp;omega
        all_goals
         go_wp2_with fail;go_ret
         have hz:numS most ⟨false,l⟩=(m,⟨false,r⟩):=by
          have:=GO.out
          rw[if_pos h,if_neg HG.out.1,HG.out.2]at this;simp[numS,this]
         rw[hz];exact⟨rfl,⟨_,_,H2.out⟩,B1.out.trans H3.out (λ_ _ e=>e) (λ_ _ e=>e)⟩
  · have t1:decide (((7 * k:Nat):Int)<63)=false:=by simp;omega
    have hk9:k=9:=by omega
    subst hk9;go_wp2_with fail;refine (fail_calls B rb cap' ao' _ wr T1.out).mono ?_;rintro e w2 ⟨rfl,h1⟩;have H1:=qA h1;clear h1;go_wp2_with fail;go_ret
    have:numS most ⟨false,l⟩=(0,RSt.dead):=by simp[numS,G1.out,numGo]
    rw[this];exact⟨rfl,H1.out.1,B1.out.trans H1.out.2 (λ_ _ e=>e) (λ_ _ e=>e)⟩
theorem number_read (B rb cap:Nat)(ao:Option Addr)(s:RSt)(most:Nat)(w:World)(T:Rdr w B rb ao cap s)(hm:most<=4611686018427387903):Calls Tryz.prog 69 #[.pointer (some ⟨rb,0,none⟩),.int .i64 most] w λe w'=>e= .returned (.int .i64 (numS most s).1)/\RdPost B rb (numS most s).2 w w':=by
 obtain⟨fl,l⟩:=s;cases fl with
 | true=>exact number_dead B rb cap ao _ most w T rfl
 | false=>exact number_live B rb cap ao l most w T hm
theorem clone_bytes_calls (l:List UInt8)(ao:Option Addr)(cap:Nat)(w:World)(hl:l.length<=140000000000000)(hr:Rows 1 encU8 w.heap.size w ao l):
 Calls Tryz.prog 78 #[.slice ao l.length cap] w λe w'=>∃v,e= .returned v/\w'.ownsRow 0 5 1 v l.length (l.flatMap encU8)/\(∀j,v.ownBlock=some j->w.heap.size<=j)/\Ext w w':=by
 obtain⟨i0,hi,hz0,hz1,hz2⟩:=info_parts infoU8;have heq:=λW=>Lib.run_eql_slice_nil (P:=Tryz.prog) W 37 5 ao l.length cap 0 0 Tryz.underlying37;have E1:Hid (Ext w (w.alloc (.cells #[] 5))):=qA ((qK _ w).alloc (qL _) _);cases ao with
 | none=>
   have hl0:l=[]:=by
    cases l with
    | nil=>rfl
    | cons a l=>obtain⟨b,off,e,-⟩:=hr (by simp);cases e
   have HL0:=qA hl0;clear hr hl0;simp only[Option.isNone_none]at heq;go_enter Tryz.func78,Tryz.ntmps78;go_wp2_with fail;go_ret;exact⟨_,rfl,by rw[HL0.out];exact World.ownsRow_nil _ _ _ _,by simp[Value.ownBlock],qK _ _⟩
 | some a=>
   have HR:=qA hr;clear hr;simp only[Option.isNone_some]at heq;go_enter Tryz.func78,Tryz.ntmps78;go_wp2_with (at_builtin;refine wpList_append_rows (enc:=encU8) (size:=1) (λ_=>rfl) one_u8 rfl (.tmp 5) (.tmp 6) 37 rfl 5 i0 _ 1 Tryz.underlying37 hi hz0 hz1 hz2 rfl (by decide) (.slice (some ⟨w.heap.size,0,none⟩) 0 0) 0 [] rfl (World.ownsRow_made w #[] 0 (Nat.zero_le _) (Nat.zero_le _) rfl) (some a) l cap rfl ((HR.out.ext E1.out).mono E1.out.size) (by unfold maxLen;omega) (by omega) ?_;intro v1 w1 hown1 hbut1 hkept1;have O1:=qA hown1;have B1:=qA hbut1;have P1:=qA hkept1;clear hown1 hbut1 hkept1);go_ret;refine⟨v1,rfl,by have:=O1.out;rwa [Nat.zero_add,List.nil_append]at this,λj hj=>?_,?_⟩
   · rcases P1.out j hj with e | e
     · simp[Value.ownBlock]at e;omega
     · have:=E1.out.size;omega
   · exact ((Ext.but E1.out (λ_=>False)).trans B1.out (U:=λi=>i=w.heap.size) (λ_ _ e=>e.elim) (λi _ e=>by simp[Value.ownBlock]at e;exact e.symm)).ext (λi hi e=>by omega)
def endE (s:RSt):Int:=if (s.fl||decide (0<s.l.length))=true then 4 else 0
def DonePost (sp:Bool)(bs:List UInt8)(w:World)(e:Ending)(w':World):Prop:=
 (∃u,e= .returned (.tuple #[u,.int .i64 (if sp=true then 2 else 0)])/\(sp=true->u= .slice none 0 0)/\(sp=false->w'.ownsRow 0 5 1 u bs.length (bs.flatMap encU8))/\(∀j,u.ownBlock=some j->w.heap.size<=j))/\Ext w w'
theorem done_calls (wb:Nat)(sp:Bool)(v:Value)(bs:List UInt8)(w:World)(T:Wr w wb sp v bs)(hm:bs.length<=140000000000000):
 Calls Tryz.prog 53 #[.pointer (some ⟨wb,0,none⟩)] w (DonePost sp bs w):=by
 have c1:=T.blk.cell 1;have c2:=T.blk.cell 2;simp only[qB,qC]at c1 c2;have HT:=qA T;clear T;cases sp with
 | true=>
   go_enter Tryz.func53,Tryz.ntmps53;go_wp2_with fail;refine (known_calls wb true v bs w HT.out).mono ?_;rintro e w1 ⟨rfl,rfl⟩;go_wp2_with fail;go_ret2;exact⟨⟨_,rfl,λ_=>rfl,λh=>(Bool.noConfusion h),by simp[Value.ownBlock]⟩,qK _ _⟩
 | false=>
   obtain⟨ao,cap,rfl,_,_,hr⟩:=Rows.own (enc:=encU8) (sz:=1) (λ_=>rfl) HT.out.row;have HR:=qA hr;clear hr;go_enter Tryz.func53,Tryz.ntmps53;go_wp2_with fail;refine (known_calls wb false _ bs w HT.out).mono ?_;rintro e w1 ⟨rfl,rfl⟩;go_wp2_with fail;refine (clone_bytes_calls bs ao cap w hm HR.out).mono ?_;rintro e w1 ⟨u,rfl,h1,h2,h3⟩;have H1:=qA h1;have H2:=qA h2;have H3:=qA h3;clear h1 h2 h3;go_wp2_with fail;go_ret2;exact⟨⟨_,rfl,λh=>(Bool.noConfusion h),λ_=>H1.out,H2.out⟩,H3.out⟩
theorem newReader_calls (l:List UInt8)(ao:Option Addr)(cap:Nat)(w:World)(hl:l.length<=140000000000000)(hr:Rows 1 encU8 w.heap.size w ao l):
 Calls Tryz.prog 27 #[.slice ao l.length cap] w λe w'=>∃(rb:Nat) (ro:Option Addr) (c:Nat),e= .returned (.pointer (some ⟨rb,0,none⟩))/\w.heap.size<=rb/\Rdr w' w'.heap.size rb ro c ⟨false,l⟩/\Ext w w':=by
 have HR:=qA hr;clear hr;go_enter Tryz.func27,Tryz.ntmps27;go_wp2_with fail;refine (clone_bytes_calls l ao cap w hl HR.out).mono ?_;rintro e w1 ⟨u,rfl,h1,h2,h3⟩;obtain⟨ro,c,rfl,hc1,hc2,hro⟩:=Rows.own (enc:=encU8) (sz:=1) (λ_=>rfl) h1;have H3:=qA h3;have HRO:=qA hro;have HC:=qA (And.intro hc1 hc2);clear h1 h2 h3 hro hc1 hc2;go_wp2_with fail;go_ret;have hx:Ext w1 (w1.alloc (.cells #[.bool true,.bool false,.slice ro l.length c] 142)):=(qK _ w1).alloc (qL _) _;refine⟨w1.heap.size,ro,c,rfl,H3.out.size,⟨Blk.new w1 [.bool true,.bool false,.slice ro l.length c] _,(Blk.new w1 [.bool true,.bool false,.slice ro l.length c] 142).lt,HC.out.1,HC.out.2,λhne=>?_⟩,qJ H3.out hx⟩;obtain⟨b,off,rfl,hb,hc⟩:=HRO.out hne;exact⟨b,off,rfl,qN hb hx.size,λe=>e.elim (λe=>by omega) (λe=>by have:=hx.size;omega),λi x hi j v hj=>(hx.cell (p:=⟨b,_,none⟩) hb).trans (hc i x hi j v hj)⟩
theorem flag_read (B rb cap:Nat)(ao:Option Addr)(s:RSt)(w:World)(T:Rdr w B rb ao cap s):Calls Tryz.prog 72 #[.pointer (some ⟨rb,0,none⟩)] w λe w'=>e= .returned (.bool (flagS s).1)/\RdPost B rb (flagS s).2 w w':=by
 obtain⟨fl,l⟩:=s;have HT:=qA T;clear T;cases fl with
 | true=>
   go_enter Tryz.func72,Tryz.ntmps72;go_wp2_with fail;refine (on_calls B rb cap ao _ w HT.out).mono ?_;rintro e w1 ⟨rfl,rfl⟩;go_wp2_with fail;go_ret;exact⟨rfl,⟨_,_,HT.out⟩,But.refl _ _⟩
 | false=>
   cases l with
   | nil=>
     go_enter Tryz.func72,Tryz.ntmps72;go_wp2_with fail;refine (on_calls B rb cap ao _ w HT.out).mono ?_;rintro e w1 ⟨rfl,rfl⟩;go_wp2_with fail;refine (take_no B rb cap ao ⟨false,[]⟩ 1 w HT.out (by simp)).mono ?_;rintro e w2 ⟨rfl,⟨ao2,cap2,h2⟩,h3⟩;have c1:=h2.blk.cell 1;simp only[qB,qC]at c1;have H2:=qA h2;have H3:=qA h3;clear h2 h3;go_wp2_with fail;refine (fail_calls B rb cap2 ao2 _ w2 H2.out).mono ?_;rintro e w3 ⟨rfl,h1⟩;have H4:=qA h1;clear h1;go_wp2_with fail;go_ret;exact⟨rfl,H4.out.1,H3.out.trans H4.out.2 (λ_ _ e=>e) (λ_ _ e=>e)⟩
   | cons b r=>
     go_enter Tryz.func72,Tryz.ntmps72;go_wp2_with fail;refine (on_calls B rb cap ao _ w HT.out).mono ?_;rintro e w1 ⟨rfl,rfl⟩;go_wp2_with fail;refine (take_ok B rb cap ao ⟨false,b::r⟩ 1 w HT.out (by simp)).mono ?_;rintro e w2 ⟨⟨ro,rfl,hro⟩,⟨ao2,cap2,h2⟩,h3⟩;obtain⟨bb,off,rfl,hb,hno,hcell⟩:=hro (by simp);have c0:=hcell 0 b (by simp) 0 _ rfl;simp only[Nat.zero_mul,Nat.add_zero]at c0;have c1:=h2.blk.cell 1;simp only[qB,qC]at c1;have H2:=qA h2;have H3:=qA h3;clear h2 h3 hcell hro;by_cases hb1:b.toNat<=1
     · have t2:decide ((1:Int)<(b.toNat:Int))=false:=by simp;omega
       have HB:=qA hb1;clear hb1;go_wp2_with fail;go_ret
       have:flagS ⟨false,b::r⟩=(decide (b.toNat=1),⟨false,r⟩):=by simp[flagS,HB.out]
       rw[this];exact⟨by by_cases h:b.toNat=1<;>simp[h]<;>omega,⟨_,_,H2.out⟩,H3.out⟩
     · have t2:decide ((1:Int)<(b.toNat:Int))=true:=by simp;omega
       have HB:=qA hb1;clear hb1;go_wp2_with fail;refine (fail_calls B rb cap2 ao2 _ w2 H2.out).mono ?_;rintro e w3 ⟨rfl,h1⟩;have H4:=qA h1;clear h1;go_wp2_with fail;go_ret
       have:flagS ⟨false,b::r⟩=(false,RSt.dead):=by simp[flagS,HB.out]
       rw[this];exact⟨rfl,H4.out.1,H3.out.trans H4.out.2 (λ_ _ e=>e) (λ_ _ e=>e)⟩
theorem row_read (B rb cap:Nat)(ao:Option Addr)(s:RSt)(most:Nat)(w:World)(T:Rdr w B rb ao cap s)(hm:most<=1000000):Calls Tryz.prog 74 #[.pointer (some ⟨rb,0,none⟩),.int .i64 most] w λe w'=>(∃u,e= .returned u/\w'.ownsRow 0 5 1 u (rowS most s).1.length ((rowS most s).1.flatMap encU8)/\(∀j,u.ownBlock=some j->w.heap.size<=j))/\RdPost B rb (rowS most s).2 w w':=by
 have HT:=qA T;clear T;have hle:=numS_le most s;go_enter Tryz.func74,Tryz.ntmps74;go_wp2_with fail;refine (number_read B rb cap ao s most w HT.out (by omega)).mono ?_;rintro e w1 ⟨rfl,⟨ao1,cap1,h1⟩,h2⟩;have H1:=qA h1;have H2:=qA h2;clear h1 h2;generalize hns:numS most s=ns at *;obtain⟨n,fl,l⟩:=ns;have HN:=qA hns;clear hns;simp only at hle;go_wp2_with fail;refine (on_calls B rb cap1 ao1 _ w1 H1.out).mono ?_;rintro e w2 ⟨rfl,rfl⟩;cases fl with
 | true=>
   go_wp2_with fail;go_ret
   have:rowS most s=([],⟨true,l⟩):=by simp[rowS,HN.out]
   rw[this];exact⟨⟨_,rfl,World.ownsRow_nil _ _ _ _,by simp[Value.ownBlock]⟩,⟨_,_,H1.out⟩,H2.out⟩
 | false=>
   by_cases hlen:n<=l.length
   · go_wp2_with fail
     refine (take_ok B rb cap1 ao1 _ n w1 H1.out hlen).mono ?_;rintro e w3 ⟨⟨ro,rfl,hro⟩,h3,h4⟩;have H3:=qA h3;have H4:=qA h4;have HRO:=qA hro.rows;clear h3 h4 hro;have hlt:(l.take n).length=n:=by rw[List.length_take];omega
     have HL:=qA hlt;clear hlt;go_wp2_with fail;have hcl:=clone_bytes_calls (l.take n) ro n w3 (by rw[HL.out];omega) HRO.out;rw[HL.out]at hcl;refine hcl.mono ?_;rintro e w4 ⟨u,rfl,h5,h6,h7⟩;have H5:=qA h5;have H6:=qA h6;have H7:=qA h7;clear h5 h6 h7 hcl;go_wp2_with fail;go_ret
     have:rowS most s=(l.take n,⟨false,l.drop n⟩):=by simp[rowS,HN.out,hlen]
     rw[this];obtain⟨ao3,cap3,h3⟩:=H3.out;refine⟨⟨_,rfl,by rw[HL.out];exact H5.out,λj hj=>?_⟩,⟨_,_,h3.ext H7.out⟩,?_⟩
     · have:=H6.out j hj;have:=H4.out.size;have:=H2.out.size;omega
     · exact (H2.out.trans H4.out (λ_ _ e=>e) (λ_ _ e=>e)).trans (Ext.but H7.out (λ_=>False)) (λ_ _ e=>e) (λ_ _ e=>e.elim)
   · go_wp2_with fail
     refine (take_no B rb cap1 ao1 _ n w1 H1.out (Nat.lt_of_not_le hlen)).mono ?_;rintro e w3 ⟨rfl,h3,h4⟩;have H3:=qA h3;have H4:=qA h4;clear h3 h4;go_wp2_with fail;refine (clone_bytes_calls [] none 0 w3 (by simp) (Rows.nil _ _ _ _ _)).mono ?_;rintro e w4 ⟨u,rfl,h5,h6,h7⟩;have H5:=qA h5;have H6:=qA h6;have H7:=qA h7;clear h5 h6 h7;go_wp2_with fail;go_ret
     have:rowS most s=([],RSt.dead):=by simp[rowS,HN.out,hlen]
     rw[this];obtain⟨ao3,cap3,h3⟩:=H3.out;refine⟨⟨_,rfl,H5.out,λj hj=>?_⟩,⟨_,_,h3.ext H7.out⟩,?_⟩
     · have:=H6.out j hj;have:=H4.out.size;have:=H2.out.size;omega
     · exact (H2.out.trans H4.out (λ_ _ e=>e) (λ_ _ e=>e)).trans (Ext.but H7.out (λ_=>False)) (λ_ _ e=>e) (λ_ _ e=>e.elim)
theorem conv_rows (w:World)(ro:Option Addr)(cap:Nat)(l:List UInt8)(h:Rows 1 encU8 w.heap.size w ro l):(convert 37 9 (.slice ro l.length cap)).run Tryz.prog w= .ok (.string ⟨l.toArray⟩) w:=by
 cases ro with
 | none=>
   cases l with
   | nil=>exact run_convert_bytes_nil w _ _ Tryz.underlying37 Tryz.underlying5 0 cap _ Tryz.underlying9
   | cons a l=>obtain⟨b,off,e,-⟩:=h (by simp);cases e
 | some a=>
   refine run_convert_bytes_back w _ _ _ a cap l Tryz.underlying37 Tryz.underlying5 Tryz.underlying9 λj hj=>?_;obtain⟨b,off,e,hb,hc⟩:=h (by intro e;rw[e]at hj;simp at hj);simp only[Option.some.injEq]at e;subst e
   have:=hc j l[j] (qE hj) 0 _ rfl
   rw[WideShapes.add_plain];simpa using this
theorem text_read (B rb cap:Nat)(ao:Option Addr)(s:RSt)(most:Nat)(w:World)(T:Rdr w B rb ao cap s)(hm:most<=1000000):Calls Tryz.prog 73 #[.pointer (some ⟨rb,0,none⟩),.int .i64 most] w λe w'=>e= .returned (.string ⟨(rowS most s).1.toArray⟩)/\RdPost B rb (rowS most s).2 w w':=by
 have HT:=qA T;clear T;go_enter Tryz.func73,Tryz.ntmps73;go_wp2_with fail;refine (row_read B rb cap ao s most w HT.out hm).mono ?_;rintro e w1 ⟨⟨u,rfl,h1,h2⟩,h3⟩;obtain⟨ro,c,rfl,hc1,hc2,hro⟩:=Rows.own (enc:=encU8) (sz:=1) (λ_=>rfl) h1;have H3:=qA h3;have HRO:=qA hro;clear h1 h2 h3 hro;have hcv:=conv_rows w1 ro c _ HRO.out;go_wp2_with fail;go_ret;exact⟨rfl,H3.out⟩
theorem left_read (B rb cap:Nat)(ao:Option Addr)(s:RSt)(w:World)(T:Rdr w B rb ao cap s):Calls Tryz.prog 75 #[.pointer (some ⟨rb,0,none⟩)] w λe w'=>e= .returned (.int .i64 (if s.fl=true then 0 else s.l.length:Nat))/\w=w':=by
 obtain⟨fl,l⟩:=s;have c2:=T.blk.cell 2;simp only[qB,qC]at c2;have HT:=qA T;clear T;cases fl
 all_goals
  go_enter Tryz.func75,Tryz.ntmps75;go_wp2_with fail;refine (on_calls B rb cap ao _ w HT.out).mono ?_;rintro e w1 ⟨rfl,rfl⟩;go_wp2_with fail;go_ret;exact⟨rfl,rfl⟩
theorem end_read (B rb cap:Nat)(ao:Option Addr)(s:RSt)(w:World)(T:Rdr w B rb ao cap s):Calls Tryz.prog 76 #[.pointer (some ⟨rb,0,none⟩)] w λe w'=>e= .returned (.int .i64 (endE s))/\w=w':=by
 obtain⟨fl,l⟩:=s;have c0:=T.blk.cell 0;have c1:=T.blk.cell 1;have c2:=T.blk.cell 2;simp only[qB,qC]at c0 c1 c2;clear T;cases fl
 · cases l with
   | nil=>
     go_enter Tryz.func76,Tryz.ntmps76;go_wp2_with fail;go_ret;exact⟨rfl,rfl⟩
   | cons b l=>
     have t2:decide (0<(b::l).length)=true:=by simp
     have h:endE ⟨false,b::l⟩=4:=by simp[endE]
     have HE:=qA h;clear h;generalize b::l=r at *;go_enter Tryz.func76,Tryz.ntmps76;go_wp2_with fail;go_ret;exact⟨by rw[HE.out];rfl,rfl⟩
 · go_enter Tryz.func76,Tryz.ntmps76
   go_wp2_with fail;go_ret;exact⟨by simp[endE],rfl⟩
end Go.Proofs.YtmpmggejhnmakaaGreatDoor
