/- past: the clients' numbers. -/
import Derived.Test.YtmpmggejhnmakaaGreatDoorZ15
import Derived.Test.YtmpmggejhnmakaaGreatDoorZ06
import Derived.Test.YtmpmggejhnmakaaGreatDoorZ09
import Derived.Test.YtmpmggejhnmakaaGreatDoorZ01
set_option maxRecDepth 100000
set_option maxHeartbeats 1600000
namespace Go.Proofs.YtmpmggejhnmakaaGreatDoor
open Go.RowKit
def nmzB (p:Int×Int):Bool:=nameB p.1 p.2
theorem pOne_calls (c n:Int)(w:World):Calls Tryz.prog 162 #[.agg #[.int .i64 c,.int .i64 n]] w λe w'=>e= .returned (.bool (nmzB (c,n)))/\Ext w w':=by
 have HX:Hid (Ext w (w.alloc (.cells #[.int .i64 c,.int .i64 n] 35))):=qA ((qK _ w).alloc (qL _) _);have HR:Hid (nmzB (c,n)=(decide (1<=c)&&decide (c<=8)&&decide (1<=n)&&decide (n<=1073741824))):=qA rfl;generalize nmzB (c,n)=res at *;cases h1:decide (1<=c)<;>cases h2:decide (c<=8)<;>cases h3:decide (1<=n)<;>cases h4:decide (n<=1073741824)
 all_goals
  rw[h1,h2,h3,h4]at HR;go_enter Tryz.func162,Tryz.ntmps162;go_wp2_with fail;go_ret;exact⟨by rw[HR.out];rfl,HX.out⟩
theorem notOne_calls (p:Int×Int)(w:World):Calls Tryz.prog 210 #[.agg (encNz p).toArray] w λe w'=>e= .returned (.bool (!nmzB p))/\Ext w w':=by
 obtain⟨c,n⟩:=p;have HR:=qA (λW=>pOne_calls c n W);have HX:Hid (Ext w (w.alloc (.cells #[.int .i64 c,.int .i64 n] 35))):=qA ((qK _ w).alloc (qL _) _);simp only[encNz];go_enter Tryz.func210,Tryz.ntmps210;go_wp2_with fail;refine (HR.out _).mono ?_;rintro e w' ⟨rfl,hx⟩;have X1:=qA (qJ HX.out hx);clear hx;go_wp2_with fail;go_ret;exact⟨rfl,X1.out⟩
theorem pRight_calls (l:List (Int×Int))(bo:Option Addr)(bcap:Nat)(w:World)(hl:l.length<=1000000)(hr:Rows 2 encNz w.heap.size w bo l):
 Calls Tryz.prog 168 #[.slice bo l.length bcap] w λe w'=>e= .returned (.bool (!l.any λp=> !nmzB p))/\Ext w w':=by
 have HC:=qA (containsNmz_calls 210 #[] (enters_of Tryz.func210 (by kernel_rfl) rfl) (λp=> !nmzB p) l bo bcap w hl hr (λW _ x _=>notOne_calls x W));clear hr;go_enter Tryz.func168,Tryz.ntmps168;go_wp2_with fail;refine HC.out.mono ?_;rintro e w' ⟨rfl,hx⟩;have X1:=qA hx;clear hx;go_wp2_with fail;go_ret;exact⟨rfl,X1.out⟩
theorem known1_calls (pb:Nat)(w:World)(hm:w.cell? ⟨pb,8,none⟩=some (.bool true)):Calls Tryz.prog 189 (#[.pointer (some ⟨pb,0,none⟩)]++ #[]) w λe w'=>e= .returned (.bool false)/\Ext w w':=by
 go_enter Tryz.func189,Tryz.ntmps189;go_wp2_with fail;go_ret;exact⟨rfl,qK _ _⟩
theorem pknown_calls (pb b cap:Nat)(w:World)(hb:w.cell? ⟨b,0,none⟩=some (.pointer (some ⟨pb,0,none⟩)))(hm:w.cell? ⟨pb,8,none⟩=some (.bool true)):
 Calls Tryz.prog 137 #[.slice (some ⟨b,0,none⟩) 1 cap] w λe w'=>e= .returned (.bool true)/\Ext w w':=by
 have hbl:=block_lt_of_cell hb;have hpl:=block_lt_of_cell hm
 have HC:=qA (containsPtr_calls 189 #[] (enters_of Tryz.func189 (by kernel_rfl) rfl) (λ_=>false) [pb] (some ⟨b,0,none⟩) cap w (by simp) (λ_=>⟨b,0,rfl,hbl,λi x hi j v hj=>by
  match i,hi with
  | 0,hi=>
    simp only[qB,Option.some.injEq]at hi;subst hi
    match j,hj with
    | 0,hj=>
      simp only[encPtr,qB,Option.some.injEq]at hj;subst hj;exact hb
    | j+1,hj=>simp[encPtr]at hj
  | i+1,hi=>simp at hi⟩) (λW hW x hx=>by
  obtain rfl:x=pb:=by simpa using hx
  exact known1_calls x W ((hW.cell (p:=⟨x,8,none⟩) hpl).trans hm)))
 clear hb hm;go_enter Tryz.func137,Tryz.ntmps137;go_wp2_with fail;refine HC.out.mono ?_;rintro e w' ⟨rfl,hx⟩;have X1:=qA hx;clear hx;go_wp2_with fail;go_ret;exact⟨rfl,X1.out⟩
structure PTab (w:World)(pb:Nat)(ns:List Int):Prop where
 blk:Blk w pb (ns.map (Value.int .i64)++[.bool true]) 217
 len:ns.length=8
 ok:∀n∈ns,0<=n/\n<=1073741824
theorem PTab.ext {w w':World}{pb:Nat}{ns:List Int}(h:PTab w pb ns)(hx:Ext w w'):PTab w' pb ns:=⟨h.blk.ext' hx,h.len,h.ok⟩
theorem PTab.but {w w':World}{pb:Nat}{ns:List Int}{S:Nat->Prop}(h:PTab w pb ns)(hx:But S w w')(h1:¬S pb):PTab w' pb ns:=⟨h.blk.but hx h1,h.len,h.ok⟩
theorem PTab.made {w:World}{pb:Nat}{ns:List Int}(h:PTab w pb ns):w.cell? ⟨pb,8,none⟩=some (.bool true):=by
 rw[h.blk.cell 8,List.getElem?_append_right (by simp[h.len])];simp[h.len]
theorem PTab.at {w:World}{pb:Nat}{ns:List Int}(h:PTab w pb ns)(i:Nat)(hi:i<8):∃n,ns[i]? =some n/\w.cell? ⟨pb,i,none⟩=some (.int .i64 n)/\0<=n/\n<=1073741824:=by
 have hl:i<ns.length:=by rw[h.len];exact hi
 refine⟨ns[i],qE hl,?_,h.ok _ (List.getElem_mem hl)⟩;rw[h.blk.cell i,List.getElem?_append_left (by simpa using hl),List.getElem?_map,qE hl];rfl
def ofP (c:Int)(ns:List Int):Int:=if c<1\/8<c then 0 else ns.getD (c - 1).toNat 0
theorem ofPast_calls (pb:Nat)(ns:List Int)(c:Int)(w:World)(T:PTab w pb ns)(hc: -9223372036854775808<=c/\c<=9223372036854775807):
 Calls Tryz.prog 163 #[.pointer (some ⟨pb,0,none⟩),.int .i64 c] w λe w'=>e= .returned (.int .i64 (ofP c ns))/\Ext w w':=by
 have HX:Hid (Ext w (w.alloc (.cells #[.pointer (some ⟨pb,0,none⟩)] 80))):=qA ((qK _ w).alloc (qL _) _);have HB:=qA (Blk.new w [.pointer (some ⟨pb,0,none⟩)] 80);have hpl:=T.blk.lt;have HK:=qA (λW (hW:Ext w W) b cap (hb:W.cell? ⟨b,0,none⟩=some (.pointer (some ⟨pb,0,none⟩)))=>pknown_calls pb b cap W hb ((hW.cell (p:=⟨pb,8,none⟩) hpl).trans T.made));have HT:=qA T;have HO:Hid (ofP c ns=if c<1\/8<c then 0 else ns.getD (c - 1).toNat 0):=qA rfl;clear T;generalize ofP c ns=res at *;cases h1:decide (c<1) with
 | true=>
   have hr:res=0:=by rw[HO.out,if_pos (.inl (of_decide_eq_true h1))]
   have HR:=qA hr;clear hr;go_enter Tryz.func163,Tryz.ntmps163;go_wp2_with fail;refine (HK.out _ HX.out _ _ (HB.out.cell 0)).mono ?_;rintro e w' ⟨rfl,hx⟩;have X1:=qA (qJ HX.out hx);clear hx;go_wp2_with fail;go_ret;exact⟨by rw[HR.out];rfl,X1.out⟩
 | false=>
   have hc1:=of_decide_eq_false h1;cases h2:decide (8<c) with
   | true=>
     have hr:res=0:=by rw[HO.out,if_pos (.inr (of_decide_eq_true h2))]
     have HR:=qA hr;clear hr;go_enter Tryz.func163,Tryz.ntmps163;go_wp2_with fail;refine (HK.out _ HX.out _ _ (HB.out.cell 0)).mono ?_;rintro e w' ⟨rfl,hx⟩;have X1:=qA (qJ HX.out hx);clear hx;go_wp2_with fail;go_ret;exact⟨by rw[HR.out];rfl,X1.out⟩
   | false=>
     have hc2:=of_decide_eq_false h2;obtain⟨i,rfl⟩:∃i:Nat,c=(i:Int)+1:=⟨(c - 1).toNat,by omega⟩;have hi8:i<8:=by omega
     obtain⟨n,hn,hcell,_,_⟩:=HT.out.at i hi8
     have hr:res=n:=by
      rw[HO.out,if_neg (by omega),show ((i:Int)+1 - 1).toNat=i by omega];simp[hn]
     have HR:=qA hr;clear hr HO hn;have i0:(0:Int)<=(i:Int):=by omega
     have i1:(i:Int)<8:=by omega
     have hs:(i:Int)+1 - 1=(i:Int):=by omega
     go_enter Tryz.func163,Tryz.ntmps163;go_wp2_with fail;refine (HK.out _ HX.out _ _ (HB.out.cell 0)).mono ?_;rintro e w' ⟨rfl,hx⟩;have X1:=qA (qJ HX.out hx);clear hx;have d0:=(X1.out.cell (p:=⟨pb,i,none⟩) hpl).trans hcell;go_wp2_with fail;go_ret;exact⟨by rw[HR.out];rfl,X1.out⟩
def isP (c n:Int)(ns:List Int):Bool:=nmzB (c,n)&&decide (n<=ofP c ns)
theorem isPast_calls (pb:Nat)(ns:List Int)(c n:Int)(w:World)(T:PTab w pb ns)(hc: -9223372036854775808<=c/\c<=9223372036854775807):
 Calls Tryz.prog 89 #[.pointer (some ⟨pb,0,none⟩),.agg #[.int .i64 c,.int .i64 n]] w λe w'=>e= .returned (.bool (isP c n ns))/\Ext w w':=by
 obtain⟨w1,hw1⟩:∃w1,w1=w.alloc (.cells #[.int .i64 c,.int .i64 n] 35):=⟨_,rfl⟩;have hx1:Ext w w1:=by rw[hw1];exact (qK _ w).alloc (qL _) _
 have hb1:Blk w1 w.heap.size [.int .i64 c,.int .i64 n] 35:=by rw[hw1];exact Blk.new w _ _
 have HC1:Hid (∀p:ExtBy w1,Calls Tryz.prog 162 #[.agg #[.int .i64 c,.int .i64 n]] p.W λe w'=>e= .returned (.bool (nmzB (c,n)))/\Ext p.W w'):=qA λp=>pOne_calls c n p.W;have HC2:Hid (∀p:ExtBy w1,Calls Tryz.prog 163 #[.pointer (some ⟨pb,0,none⟩),.int .i64 c] p.W λe w'=>e= .returned (.int .i64 (ofP c ns))/\Ext p.W w'):=qA λp=>ofPast_calls pb ns c p.W ((T.ext hx1).ext p.ext) hc;have c0:=hb1.cell 0;have c1:=hb1.cell 1;simp only[qB,qC]at c0 c1;have q0:=ExtBy.cell c0;have q1:=ExtBy.cell c1;have HR:Hid (isP c n ns=(nmzB (c,n)&&decide (n<=ofP c ns))):=qA rfl;have X1:=qA hx1;have W1:=qA hw1;clear T hx1 hb1 c0 c1 hw1;generalize isP c n ns=res at *;generalize ofP c ns=o at *;cases hb:nmzB (c,n)
 all_goals
  rw[hb]at HR HC1;go_enter Tryz.func89,Tryz.ntmps89;go_wp2_with fail;rw[<- W1.out];refine wp_region_ext (by kernel_rfl) (by kernel_rfl) ?_
  repeat (go_big_quiet_step (first | (with_reducible exact Calls.ext_of _ (HC1.out _)) | (with_reducible exact Calls.ext_of _ (HC2.out _))))
  refine wpQuiet_nil ?_;intro wd hw';have hxd:Ext w1 wd:=by obtain⟨p,rfl⟩:=hw';exact p.ext
  have XD:=qA (qJ X1.out hxd);clear hxd hw' q0 q1 HC1 HC2;go_wp2_with fail;go_ret;exact⟨by rw[HR.out];rfl,XD.out⟩
def raiseP (p:Int×Int)(ns:List Int):List Int:=ns.set (p.1 - 1).toNat (max (ns.getD (p.1 - 1).toNat 0) p.2)
theorem raise_calls (pb:Nat)(ns:List Int)(c n:Int)(w:World)(T:PTab w pb ns)(hp:(1<=c/\c<=8)/\0<=n/\n<=1073741824):
 Calls Tryz.prog 138 #[.pointer (some ⟨pb,0,none⟩),.int .i64 c,.int .i64 n] w λe w'=>e= .returned (.tuple #[])/\PTab w' pb (raiseP (c,n) ns)/\But (λj=>j=pb) w w':=by
 obtain⟨⟨h1,h2⟩,h3,h4⟩:=hp;obtain⟨i,rfl⟩:∃i:Nat,c=(i:Int)+1:=⟨(c - 1).toNat,by omega⟩;have hi8:i<8:=by omega
 obtain⟨m,hm,hcell,hm0,hm1⟩:=T.at i hi8;have hf:=T.blk.free i
 have hr:raiseP ((i:Int)+1,n) ns=ns.set i (max m n):=by
  unfold raiseP;simp only;rw[show ((i:Int)+1 - 1).toNat=i by omega];simp[hm]
 have hT:∀u:Int,0<=u/\u<=1073741824->PTab (w.setCell ⟨pb,i,none⟩ (.int .i64 u)).drew pb (ns.set i u):=λu hu=>by
  refine⟨?_,by simpa using T.len,λx hx=>?_⟩
  · have h:=(T.blk.set i (.int .i64 u)).drew
    rw[List.map_set,<- List.set_append_left _ _ (by simp[T.len,hi8])];exact h
  · rcases List.mem_or_eq_of_mem_set hx with h | rfl
    · exact T.ok x h
    · exact hu
 have HTT:=qA hT;have HR:=qA hr;have i0:(0:Int)<=(i:Int):=by omega
 have i1:(i:Int)<8:=by omega
 have hs:(i:Int)+1 - 1=(i:Int):=by omega
 clear T hm hT hr;go_enter Tryz.func138,Tryz.ntmps138;go_wp2_with fail;go_region
 go_end0
 exact⟨rfl,by rw[HR.out];exact HTT.out _ (by omega),((But.refl (λj=>j=pb) w).setCell (λ_=>rfl) _).drew⟩
def raiseAll (l:List (Int×Int))(ns:List Int):List Int:=l.foldl (λa p=>raiseP p a) ns
theorem raiseAll_succ (l:List (Int×Int))(ns:List Int)(k:Nat)(p:Int×Int)(h:l[k]? =some p):raiseAll (l.take (k+1)) ns=raiseP p (raiseAll (l.take k) ns):=by
 unfold raiseAll;rw[List.take_add_one,h,List.foldl_append];rfl
def raiseE (l:List (Int×Int)):Int:=if (l.any λp=> !nmzB p)=true then 2 else 0
def raiseT (l:List (Int×Int))(ns:List Int):List Int:=if (l.any λp=> !nmzB p)=true then ns else raiseAll l ns
theorem raisePast_calls (pb:Nat)(ns:List Int)(l:List (Int×Int))(bo:Option Addr)(bcap:Nat)(w:World)(T:PTab w pb ns)(hl:l.length<=1000000)(hr:NRows 2 encNz (λb=>b=pb) w bo l):
 Calls Tryz.prog 93 #[.pointer (some ⟨pb,0,none⟩),.slice bo l.length bcap] w λe w'=>e= .returned (.int .i64 (raiseE l))/\PTab w' pb (raiseT l ns)/\But (λj=>j=pb) w w':=by
 have HX:Hid (Ext w (w.alloc (.cells #[.pointer (some ⟨pb,0,none⟩)] 80))):=qA ((qK _ w).alloc (qL _) _);have HB:=qA (Blk.new w [.pointer (some ⟨pb,0,none⟩)] 80);have hpl:=T.blk.lt;have HK:=qA (λW (hW:Ext w W) b cap (hb:W.cell? ⟨b,0,none⟩=some (.pointer (some ⟨pb,0,none⟩)))=>pknown_calls pb b cap W hb ((hW.cell (p:=⟨pb,8,none⟩) hpl).trans T.made));have HRT:=qA (λW (hW:Ext w W)=>pRight_calls l bo bcap W hl ((hr.rows.ext hW).mono hW.size));have HT:=qA T;have HN:=qA hr;have HE:Hid (raiseE l=if (l.any λp=> !nmzB p)=true then 2 else 0):=qA rfl;have HTT:Hid (raiseT l ns=if (l.any λp=> !nmzB p)=true then ns else raiseAll l ns):=qA rfl;clear T hr;generalize raiseE l=res at *;generalize raiseT l ns=rt at *;cases hany:l.any (λp=> !nmzB p)
 all_goals
  rw[hany]at HE HTT HRT;go_enter Tryz.func93,Tryz.ntmps93;go_wp2_with fail;refine (HK.out _ HX.out _ _ (HB.out.cell 0)).mono ?_;rintro e w1 ⟨rfl,hx⟩;have X1:=qA (qJ HX.out hx);clear hx;go_wp2_with fail;refine (HRT.out _ X1.out).mono ?_;rintro e w2 ⟨rfl,hx⟩;have X2:=qA (qJ X1.out hx);clear hx;go_wp2_with fail
 · have hall:∀p∈l,nmzB p=true:=λp hp=>by
    have:=List.any_eq_false.1 hany p hp
    simpa using this
   have ALL:=qA hall;clear hany hall HK HRT;go_loopw [18] (λi wr=>∃(k:Nat),k<=l.length/\i= .int .i64 k/\PTab wr pb (raiseAll (l.take k) ns)/\But (λj=>j=pb) w wr) (λi _=>l.length - (intOf i).toNat)
   case atStart=>exact⟨0,Nat.zero_le _,rfl,by rw[List.take_zero];exact HT.out.ext X2.out,Ext.but X2.out _⟩
   case round=>
    obtain⟨k,hk,rfl,hp,hx⟩:=hrel;have P1:=qA hp;have K1:=qA hx;clear hp hx;by_cases hlt:k<l.length
    · obtain⟨x,hx⟩:∃x,l[k]? =some x:=⟨_,qE hlt⟩
      obtain⟨b,off,rfl,hb,hnb,hcell⟩:=HN.out (by intro e;rw[e]at hlt;simp at hlt);have hcx:=hcell k x hx;have hmove:∀j,wr.cell? ⟨b,j,none⟩=w.cell? ⟨b,j,none⟩:=λj=>K1.out.cell (p:=⟨b,j,none⟩) hb hnb;have HX2:=qA hx;have hok:=ALL.out x (qH hx);obtain⟨c,n⟩:=x;have d0:=(hmove _).trans (hcx 0 _ rfl);have d1:=(hmove _).trans (hcx 1 _ rfl);simp only[Nat.add_zero]at d0;have i0:(0:Int)<=(k:Int):=by omega
      have i1:(k:Int)<(l.length:Int):=by omega
      have hxa:Ext wr (wr.alloc (.cells #[.int .i64 c,.int .i64 n] 35)):=(qK _ wr).alloc (qL _) _;have RS:=qA (raise_calls pb (raiseAll (l.take k) ns) c n (wr.alloc (.cells #[.int .i64 c,.int .i64 n] 35)).drew (P1.out.ext hxa.drew) (by unfold nmzB nameB at hok;simp only[Bool.and_eq_true,decide_eq_true_eq]at hok;omega));have XA:=qA (K1.out.trans (Ext.but hxa.drew (λj=>j=pb)) (λ_ _ e=>e) (λ_ _ e=>e));clear hcell hcx hmove hx hxa hok;go_wp2_with fail
      go_region_with (first
       | (go_at_call 138;refine RS.out.mono ?_;rintro e w5 ⟨rfl,hp5,hb5⟩;have P5:=qA hp5;have K5:=qA (XA.out.trans hb5 (λ_ _ e=>e) (λ_ _ e=>e));clear hp5 hb5))
      all_goals
       go_wp2_with fail;go_roundw
       case rel=>exact⟨k+1,by omega,by go_num,by rw[raiseAll_succ l ns k _ HX2.out];exact P5.out,K5.out⟩
       case measure=>simp[intOf];omega
    · obtain rfl:k=l.length:=by omega
      go_wp2_with fail;go_ret;have hp:=P1.out;rw[List.take_length]at hp;exact⟨by rw[HE.out];rfl,by rw[HTT.out];exact hp,K1.out⟩
 · go_ret
   exact⟨by rw[HE.out];rfl,by rw[HTT.out];exact HT.out.ext X2.out,Ext.but X2.out _⟩
end Go.Proofs.YtmpmggejhnmakaaGreatDoor
