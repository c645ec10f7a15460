/- Of: the acts of a key. -/
import Derived.Test.YtmpmggejhnmakaaGreatDoorZ02
import Derived.Test.YtmpmggejhnmakaaGreatDoorZ08
import Derived.Test.YtmpmggejhnmakaaGreatDoorZ07
import Derived.Lib.SlicesS
import Derived.Test.YtmpmggejhnmakaaGreatDoorZ09
import Derived.Test.YtmpmggejhnmakaaGreatDoorZ01
import Derived.Test.YtmpmggejhnmakaaGreatDoorZ04
import Derived.Test.YtmpmggejhnmakaaGreatDoorShelf
import Derived.Deep.RegionHeld3
import Derived.Deep.RegionWith
import Derived.StillTailTactics
set_option maxRecDepth 100000
set_option maxHeartbeats 800000
namespace Go.Proofs.YtmpmggejhnmakaaGreatDoor
open Go.RowKit
theorem keyT_iff (a:ActD)(key:ByteArray):keyT a=key.data.toList↔a.key=key:=by
 unfold keyT;exact⟨λh=>ByteArray.ext (Array.toList_inj.1 h),λh=>by rw[h]⟩
theorem ofL_succ (key:Txt)(l:List ActD)(k:Nat)(x:ActD)(h:l[k]? =some x):ofL key (l.take (k+1))=ofL key (l.take k)++(if keyT x=key then [x] else []):=by
 unfold ofL;rw[List.take_add_one,h,List.filter_append]
 congr 1
 by_cases e:keyT x=key<;>simp[e]
theorem actOf_calls (key:ByteArray)(l:List ActD)(ao:Option Addr)(cap:Nat)(w:World)(hl:l.length<=1000000)(hr:Rows 4 encAct w.heap.size w ao l):
 Calls Tryz.prog 90 #[.string key,.slice ao l.length cap] w λe w'=>∃rv,e= .returned rv/\w'.ownsRow 0 74 4 rv (ofL key.data.toList l).length ((ofL key.data.toList l).flatMap encAct)/\(∀j,rv.ownBlock=some j->w.heap.size<=j)/\Ext w w':=by
 obtain⟨i0,hi,hz0,hz1,hz2⟩:=info_parts infoAct;have HR:=qA hr;clear hr;go_enter Tryz.func90,Tryz.ntmps90;go_wp2_with fail;go_loopw [5,10] (λv i wr=>∃(k:Nat),k<=l.length/\i= .int .i64 k/\wr.ownsRow 0 74 4 v (ofL key.data.toList (l.take k)).length ((ofL key.data.toList (l.take k)).flatMap encAct)/\(∀j,v.ownBlock=some j->w.heap.size<=j)/\Ext w wr) (λ_ i _=>l.length - (intOf i).toNat)
 case atStart=>exact⟨0,by omega,rfl,World.ownsRow_nil _ _ _ _,by simp[Value.ownBlock],qK _ _⟩
 case round=>
  obtain⟨k,hk,rfl,hown,hnew,hx⟩:=hrel;have K1:=qA hown;have K2:=qA hnew;have K3:=qA hx;clear hown hnew hx;by_cases hlt:k<l.length
  · obtain⟨x,hx⟩:∃x,l[k]? =some x:=⟨_,qE hlt⟩
    obtain⟨b,off,rfl,hb,hcell⟩:=HR.out (by intro e;rw[e]at hlt;simp at hlt);have hcx:=hcell k x hx;have hmove:∀j,wr.cell? ⟨b,j,none⟩=w.cell? ⟨b,j,none⟩:=λj=>K3.out.cell (p:=⟨b,j,none⟩) hb;have hof:=ofL_succ key.data.toList l k x hx;have hbd:(ofL key.data.toList (l.take k)).length<=1000000:=qM (ofL_len _ _) (by simp;omega);generalize ofL key.data.toList (l.take k)=q at *;have HO:=qA hof;obtain⟨kd,ky,val,num⟩:=x;have d0:=(hmove _).trans (hcx 0 _ rfl);have d1:=(hmove _).trans (hcx 1 _ rfl);have d2:=(hmove _).trans (hcx 2 _ rfl);have d3:=(hmove _).trans (hcx 3 _ rfl);simp only[Nat.add_zero]at d0;have hi0:(0:Int)<=(k:Int):=by omega
    have hi1:(k:Int)<(l.length:Int):=by omega
    clear hof hx hcell hcx hmove;have E1:Hid (Ext wr (wr.alloc (.cells #[.int .u8 kd,.string ky,.string val,.int .i64 num] 74))):=qA ((qK _ wr).alloc (qL _) _);by_cases hkey:ky=key
    · have g1:(ky.toList==key.toList)=true:=by simp[hkey]
      have HK:=qA hkey;clear hkey;have CN:=qA (cells_new (wr.alloc (.cells #[.int .u8 kd,.string ky,.string val,.int .i64 num] 74)) [.int .u8 kd,.string ky,.string val,.int .i64 num] 74);rw[show (wr.alloc (.cells #[.int .u8 kd,.string ky,.string val,.int .i64 num] 74)).heap.size=wr.heap.size+1 from by simp]at CN;have E2:Hid (Ext wr ((wr.alloc (.cells #[.int .u8 kd,.string ky,.string val,.int .i64 num] 74)).alloc (.cells #[.int .u8 kd,.string ky,.string val,.int .i64 num] 74))):=qA (((qK _ wr).alloc (qL _) _).alloc (by simp) _);go_wp2_with (at_builtin;refine wpList_append_at _ rfl _ _ 36 rfl 74 i0 _ 4 48 Tryz.underlying36 hi hz0 hz1 hz2 rfl (by decide) _ q.length (q.flatMap encAct) rfl (own_ext K1.out E2.out) ⟨wr.heap.size+1,0,none⟩ 1 1 (encAct ⟨kd,ky,val,num⟩) rfl rfl CN.out (by simp[encAct,Value.oneCell']) (by decide) (by unfold maxLen;omega) (by omega) ?_;intro g cap2 w1 hown' hbut hkept;have X1:=qA hown';have X2:=qA hbut;have X3:=qA hkept;clear hown' hbut hkept);go_roundw
      case rel=>
       refine⟨k+1,by omega,by go_num,?_,?_,?_⟩
       · rw[HO.out,if_pos ((keyT_iff _ _).2 HK.out)]
         have:=X1.out
         rw[qG,List.flatMap_append];simpa using this
       · intro j hj
         rcases X3.out j hj with e | e
         · exact K2.out j e
         · have:=K3.out.size;have:=E2.out.size;omega
       · exact Below.trans K3.out (((Ext.but E2.out (λ_=>False)).trans X2.out (U:=λj=>w.heap.size<=j) (λ_ _ e=>e.elim) (λi _ e=>K2.out i e)).below K3.out.size (λ_ h=>h))
      case measure=>simp[intOf];omega
    · have g1:(ky.toList==key.toList)=false:=by rw[Lib.bytes_beq_false_iff];exact hkey
      have HK:=qA hkey;clear hkey;go_wp2_with fail;go_roundw
      case rel=>exact⟨k+1,by omega,by go_num,by rw[HO.out,if_neg (λe=>HK.out ((keyT_iff _ _).1 e)),List.append_nil];exact own_ext K1.out E1.out,K2.out,qJ K3.out E1.out⟩
      case measure=>simp[intOf];omega
  · have hall:l.take k=l:=List.take_of_length_le (by omega)
    have HA:=qA hall;clear hall;go_wp2_with fail;go_ret;exact⟨_,rfl,by have:=K1.out;rwa [HA.out]at this,K2.out,K3.out⟩
end Go.Proofs.YtmpmggejhnmakaaGreatDoor
/- The package act's functions on numbers and their texts: what each returns. -/
namespace Go.Proofs.YtmpmggejhnmakaaGreatDoor
open Go.RowKit
theorem value_calls (n:Int){B:Nat}(w:World)(hv:LV B w):Calls Tryz.prog 207 #[.int .i64 n] w λe w'=>e= .returned (.string ⟨(valueL n).toArray⟩)/\Ext w w':=by
 obtain⟨c0,c1⟩:=cutI_bd n;have ht:=hv.pow10;clear hv;have HT:=qA ht;clear ht;go_enter Tryz.func207,Tryz.ntmps207;go_wp2_with (first | (go_at_call 200;refine (cut_calls _ _).mono ?_;rintro e w' ⟨rfl,rfl⟩) | (go_at_call 244;refine (Tryz.strconv_Itoa _ (by omega) (by omega) _ HT.out).mono ?_;rintro e w' ⟨rfl,k,os,rfl⟩));go_ret;exact⟨rfl,Lib.below_grow _ _ (qL _) _ _⟩
theorem trimPrefix_calls (s p:ByteArray)(w:World):Calls Tryz.prog 245 #[.string s,.string p] w λe w'=>e= .returned (.string ⟨(Lib.trimPrefix s.data.toList p.data.toList).toArray⟩)/\w=w':=
 (Tryz.strings_TrimPrefix s p w).mono λ_ _ ⟨h,k⟩=>⟨h,k.symm⟩
def AtoiEnd (r:Lib.NumEnd Int)(e:Ending):Prop:=
 match r with
 | .ok n=>e= .returned (.tuple #[.int .i64 n,.nilIface])
 | _=>∃n t p,e= .returned (.tuple #[.int .i64 n,.iface t p])
theorem atoi_calls (s:ByteArray){B:Nat}(w:World)(hv:LV B w)(hs:s.size<=140737488351232):Calls Tryz.prog 246 #[.string s] w λe w'=>AtoiEnd (Lib.atoiAll s.data.toList) e/\Ext w w':=by
 rcases h:Lib.atoiAll s.data.toList with n | _ | _
 · refine (Tryz.strconv_Atoi_ok s (by omega) n h w).mono ?_
   rintro e w' ⟨rfl,rfl | ⟨t,rfl⟩⟩
   · exact⟨rfl,Ext.refl _⟩
   · exact⟨rfl,ext_bytesWorld⟩
 · obtain⟨tp,p,hvar⟩:=hv.errSyntax
   refine (Tryz.strconv_Atoi_syntax_var s (by omega) h tp p w hvar).mono ?_;rintro e w' ⟨N,rfl,_,_,hx⟩;exact⟨⟨_,_,_,rfl⟩,hx⟩
 · obtain⟨tp,p,hvar⟩:=hv.errRange
   refine (Tryz.strconv_Atoi_range_var s (by omega) h tp p w hvar).mono ?_;rintro e w' ⟨N,rfl,_,_,hx⟩;exact⟨⟨_,_,_,rfl⟩,hx⟩
theorem actNumber_calls (s:ByteArray){B:Nat}(w:World)(hv:LV B w)(hs:s.size<=140737488351232):Calls Tryz.prog 208 #[.string s] w λe w'=>e= .returned (.int .i64 (numberL s.data.toList))/\Ext w w':=by
 have htl:(Lib.trimPrefix s.data.toList [45]).toArray.size<=9223372036854775807:=by
  have:s.data.toList.length=s.size:=(Lib.size_eq s).symm
  unfold Lib.trimPrefix
  split<;>simp<;>omega
 have HT:=qA htl;clear htl;rcases ha:Lib.atoiAll s.data.toList with n | _ | _
 · have HA:=qA ha;clear ha
   go_enter Tryz.func208,Tryz.ntmps208
   go_wp2_with (first
    | (go_at_call 245;refine (trimPrefix_calls _ _ _).mono ?_;rintro e w' ⟨rfl,rfl⟩)
    | (go_at_call 199;refine (trim_calls _ _ _ HT.out (by decide) (by decide)).mono ?_;rintro e w1 ⟨rfl,hx1⟩)
    | (go_at_call 246;refine (atoi_calls _ _ (hv.ext hx1) hs).mono ?_;rintro e w2 ⟨he,hx2⟩;rw[HA.out]at he;obtain rfl:=he)
    | (go_at_call 200;refine (cut_calls _ _).mono ?_;rintro e w' ⟨rfl,rfl⟩))
   all_goals (go_ret;refine⟨ret_int ?_,by first | exact Ext.refl _ | assumption | exact qJ ‹_› ‹_›⟩;have hA:=HA.out;unfold numberL digitsL;rw[hA];dsimp only;generalize cutI n=c at *;simp_all)
 · have HA:=qA ha;clear ha
   go_enter Tryz.func208,Tryz.ntmps208
   go_wp2_with (first
    | (go_at_call 245;refine (trimPrefix_calls _ _ _).mono ?_;rintro e w' ⟨rfl,rfl⟩)
    | (go_at_call 199;refine (trim_calls _ _ _ HT.out (by decide) (by decide)).mono ?_;rintro e w1 ⟨rfl,hx1⟩)
    | (go_at_call 246;refine (atoi_calls _ _ (hv.ext hx1) hs).mono ?_;rintro e w2 ⟨he,hx2⟩;rw[HA.out]at he;obtain⟨n,tp,p,rfl⟩:=he)
    | (go_at_call 200;refine (cut_calls _ _).mono ?_;rintro e w' ⟨rfl,rfl⟩))
   all_goals (go_ret;refine⟨ret_int ?_,by first | exact Ext.refl _ | assumption | exact qJ ‹_› ‹_›⟩;have hA:=HA.out;simp_all [numberL,digitsL])
 · have HA:=qA ha;clear ha
   go_enter Tryz.func208,Tryz.ntmps208
   go_wp2_with (first
    | (go_at_call 245;refine (trimPrefix_calls _ _ _).mono ?_;rintro e w' ⟨rfl,rfl⟩)
    | (go_at_call 199;refine (trim_calls _ _ _ HT.out (by decide) (by decide)).mono ?_;rintro e w1 ⟨rfl,hx1⟩)
    | (go_at_call 246;refine (atoi_calls _ _ (hv.ext hx1) hs).mono ?_;rintro e w2 ⟨he,hx2⟩;rw[HA.out]at he;obtain⟨n,tp,p,rfl⟩:=he)
    | (go_at_call 200;refine (cut_calls _ _).mono ?_;rintro e w' ⟨rfl,rfl⟩))
   all_goals (go_ret;refine⟨ret_int ?_,by first | exact Ext.refl _ | assumption | exact qJ ‹_› ‹_›⟩;have hA:=HA.out;simp_all [numberL,digitsL])
end Go.Proofs.YtmpmggejhnmakaaGreatDoor
/- The package act's place: what its methods do. -/
namespace Go.Proofs.YtmpmggejhnmakaaGreatDoor
open Go.RowKit
structure PlaceAt (w:World)(pb:Nat)(s:St)(rv:Value):Prop where
 blk:Blk w pb [rv,.bool s.is,.bool s.put,.string s.value] 244
 own:w.ownsRow 0 239 3 rv s.reads.length (s.reads.flatMap encRd)
structure Moves (pb:Nat)(rv rv':Value)(w w':World):Prop where
 but:But (λk=>k=pb\/rv.ownBlock=some k) w w'
 kept:Kept1 w rv rv'
theorem Moves.trans {pb:Nat}{r1 r2 r3:Value}{a b c:World}(h:Moves pb r1 r2 a b)(k:Moves pb r2 r3 b c):Moves pb r1 r3 a c:=
 ⟨h.but.trans k.but (λ_ _ e=>e) (λi hi e=>by
  rcases e with e | e
  · exact .inl e
  · rcases h.kept i e with e | e
    · exact .inr e
    · omega),λi e=>by
  rcases k.kept i e with e | e
  · exact h.kept i e
  · right;have:=h.but.size;omega⟩
theorem Moves.refl (pb:Nat)(rv:Value)(w:World):Moves pb rv rv w w:=⟨But.refl _ _,λ_ e=> .inl e⟩
theorem Moves.pre {pb:Nat}{r1 r2:Value}{a b c:World}(h:Ext a b)(k:Moves pb r1 r2 b c):Moves pb r1 r2 a c:=
 ⟨(Ext.but h (λ_=>False)).trans k.but (λ_ _ e=>e.elim) (λ_ _ e=>e),λi e=>by
  rcases k.kept i e with e | e
  · exact .inl e
  · right;have:=h.size;omega⟩
theorem Moves.post {pb:Nat}{r1 r2:Value}{a b c:World}(h:Moves pb r1 r2 a b)(k:Ext b c):Moves pb r1 r2 a c:=
 ⟨h.but.trans (Ext.but k (λ_=>False)) (λ_ _ e=>e) (λ_ _ e=>e.elim),h.kept⟩
theorem Moves.setNew {pb:Nat}{r1 r2:Value}{a b:World}(h:Moves pb r1 r2 a b){p:Addr}(hp:a.heap.size<=p.block)(u:Value):Moves pb r1 r2 a (b.setCell p u):=
 ⟨h.but.setCell (λhl=>by omega) u,h.kept⟩
theorem Moves.only {pb c:Nat}{r2:Value}{a b:World}(h:Moves pb (.slice none 0 c) r2 a b):But (λk=>k=pb) a b:=
 h.but.mono λi _ e=>by
  rcases e with e | e
  · exact e
  · simp[Value.ownBlock]at e
theorem PlaceAt.ext {w w':World}{pb:Nat}{s:St}{rv:Value}(h:PlaceAt w pb s rv)(hx:Ext w w'):PlaceAt w' pb s rv:=⟨h.blk.ext' hx,own_ext h.own hx⟩
theorem read_calls (pb:Nat)(key value:ByteArray)(is:Bool)(rs:List Rd)(x1 x2 x3 rv:Value)(w:World)
 (hb:Blk w pb [rv,x1,x2,x3] 244) (hown:w.ownsRow 0 239 3 rv rs.length (rs.flatMap encRd)) (hn:rs.length<=1000000):
 Calls Tryz.prog 206 #[.pointer (some ⟨pb,0,none⟩),.string key,.bool is,.string value] w λe w'=>e= .returned (.tuple #[])/\
  ∃rv',Blk w' pb [rv',x1,x2,x3] 244/\w'.ownsRow 0 239 3 rv' (rs.length+1) ((rs++[Rd.mk key is value]).flatMap encRd)/\Moves pb rv rv' w w':=by
 obtain⟨i0,hi,hz0,hz1,hz2⟩:=info_parts infoRd;have c0:=hb.cell 0;have hlt:=hb.lt;simp only[qB]at c0;have H0:=qA hb;have H1:=qA hown;clear hb hown;go_enter Tryz.func206,Tryz.ntmps206
 go_wp2_with (first
  | (at_builtin;refine wpList_append_at _ rfl _ _ 46 rfl 239 i0 (.agg #[.string ⟨#[]⟩,.bool false,.string ⟨#[]⟩]) 3 40 Tryz.underlying46 hi hz0 hz1 hz2 rfl (by decide) rv rs.length (rs.flatMap encRd) rfl (H1.out.alloc _) ⟨w.heap.size,0,none⟩ 1 1 (encRd (Rd.mk key is value)) rfl rfl (cells_new _ _ _) (by simp[encRd,Value.oneCell']) (by decide) (by unfold maxLen;omega) (by omega) ?_;intro g cap w1 hown' hbut hk;have hb1:=(H0.out.alloc _).but hbut (own_ne H1.out H0.out (by decide));have c1:=hb1.cell 0;have f1:=hb1.free 0;simp only[qB]at c1;have X1:=qA hown';have X2:=qA hbut;have X3:=qA hb1;have X4:=qA hk;clear hown' hbut hb1 hk))
 go_end0
 have hne:(Value.slice (some ⟨g,0,none⟩) (rs.length+1) cap).ownBlock≠some pb:=own_ne X1.out X3.out (by decide);refine⟨rfl,_,X3.out.set 0 _,?_,?_⟩
 · have:=own_setOther X1.out (a:=⟨pb,0,none⟩) hne (Value.slice (some ⟨g,0,none⟩) (rs.length+1) cap)
   rw[List.flatMap_append];simpa using this
 · refine⟨((((But.refl _ w).alloc _).trans X2.out (U:=λk=>k=pb\/rv.ownBlock=some k) (λ_ _ e=>e) (λ_ _ e=> .inr e))).setCell (λ_=> .inl rfl) _,λk hk=>?_⟩
   rcases X4.out k hk with e | e
   · exact .inl e
   · right;simp at e;omega
theorem get_calls (pb:Nat)(a:ActD)(s:St)(rv:Value)(w:World)(hp:PlaceAt w pb s rv)(hn:s.reads.length<=1000000):
 Calls Tryz.prog 165 #[.pointer (some ⟨pb,0,none⟩),.agg (encAct a).toArray] w λe w'=>e= .returned (.tuple #[])/\∃rv',PlaceAt w' pb (s.get a.key) rv'/\Moves pb rv rv' w w':=by
 obtain⟨hb,hown⟩:=hp;obtain⟨kd,key,val,num⟩:=a;unfold encAct;go_enter Tryz.func165,Tryz.ntmps165;go_wp2_with fail;have hlt:=hb.lt;have hx:Ext w (w.alloc (.cells #[.int .u8 kd,.string key,.string val,.int .i64 num] 74)):=(qK _ w).alloc (qL _) _;have d1:=(Blk.new w [.int .u8 kd,.string key,.string val,.int .i64 num] 74).cell 1;generalize w.alloc (.cells #[.int .u8 kd,.string key,.string val,.int .i64 num] 74)=w0 at *;have hb':=hb.ext' hx;have ho':=own_ext hown hx;have c0:=hb'.cell 0;have c1:=hb'.cell 1;have c2:=hb'.cell 2;have c3:=hb'.cell 3;simp only[qB,qC]at c0 c1 c2 c3 d1;have H0:=qA hb';have H1:=qA ho';have H2:=qA hx;clear hb hown hb' ho' hx
 go_still_tail 13,(by kernel_rfl)
 change wpList _ _ _ _ _ w0.drew;go_wp2_with (go_at_call 206;refine (read_calls pb _ _ _ s.reads _ _ _ rv _ H0.out.drew H1.out.drew hn).mono ?_;rintro e w1 ⟨rfl,hr⟩;have X1:=qA hr;clear hr)
 go_end0
 obtain⟨rv',hb1,ho1,hm⟩:=X1.out;refine⟨rfl,rv',⟨hb1,?_⟩,Moves.pre (H2.out.drew) hm⟩;simpa [St.get] using ho1
theorem puts_calls (pb:Nat)(a:ActD)(s:St)(rv:Value)(w:World)(hp:PlaceAt w pb s rv):
 Calls Tryz.prog 166 #[.pointer (some ⟨pb,0,none⟩),.agg (encAct a).toArray] w λe w'=>e= .returned (.tuple #[])/\PlaceAt w' pb (s.puts a.value) rv/\Moves pb rv rv w w':=by
 obtain⟨hb,hown⟩:=hp;obtain⟨kd,key,val,num⟩:=a;unfold encAct;go_enter Tryz.func166,Tryz.ntmps166;go_wp2_with fail;have hlt:=hb.lt;have hne:¬w.heap.size=pb:=by omega
 have hx:Ext w (w.alloc (.cells #[.int .u8 kd,.string key,.string val,.int .i64 num] 74)):=(qK _ w).alloc (qL _) _;have d1:=(Blk.new w [.int .u8 kd,.string key,.string val,.int .i64 num] 74).cell 2;generalize w.alloc (.cells #[.int .u8 kd,.string key,.string val,.int .i64 num] 74)=w0 at *;have hb':=hb.ext' hx;have ho':=own_ext hown hx;have c1:=hb'.cell 1;have c2:=hb'.cell 2;have c3:=hb'.cell 3;have f1:=hb'.free 1;have f2:=hb'.free 2;have f3:=hb'.free 3;simp only[qB,qC]at c1 c2 c3 d1;have H0:=qA hb';have H1:=qA ho';have H2:=qA hx;clear hb hown hb' ho' hx;go_region
 go_end0
 refine⟨rfl,⟨?_,?_⟩,⟨((((Ext.but H2.out _).setCell (p:=⟨pb,1,none⟩) (λ_=> .inl rfl) _).setCell (p:=⟨pb,2,none⟩) (λ_=> .inl rfl) _).setCell (p:=⟨pb,3,none⟩) (λ_=> .inl rfl) _).drew,λ_ e=> .inl e⟩⟩
 · exact ((((H0.out.set 1 _).set 2 _).set 3 _).drew)
 · have hne':=own_ne H1.out H0.out (by decide)
   exact (own_setOther (own_setOther (own_setOther H1.out (a:=⟨pb,1,none⟩) hne' _) (a:=⟨pb,2,none⟩) hne' _) (a:=⟨pb,3,none⟩) hne' _).drew
theorem own_lt {w:World}{B:Nat}{e:TypeId}{size n:Nat}{v:Value}{xs:List Value}(hown:w.ownsRow B e size v n xs):∀k,v.ownBlock=some k->k<w.heap.size:=λk hk=>(hown.lt k hk).2
theorem lt_of_cell {w:World}{b i:Nat}{v:Value}(h:w.cell? ⟨b,i,none⟩=some v):b<w.heap.size:=block_lt_of_cell h
theorem cell_set_ne {w:World}{p q:Addr}{u v:Value}(h:w.cell? p=some v)(hne:q≠p):(w.setCell q u).cell? p=some v:=(World.cell?_setCell_other w q p u hne).trans h
theorem clampI_bd (n:Int): -4294967296<=clampI n/\clampI n<=4294967296:=by unfold clampI;omega
theorem numberL_bd (l:List UInt8): -1073741824<=numberL l/\numberL l<=1073741824:=by
 unfold numberL
 split
 · omega
 · split
   · split
     · rename_i n _
       split
       · rename_i h;rw[h];exact cutI_bd n
       · omega
     · omega
   · omega
theorem add_calls (pb:Nat)(a:ActD)(s:St)(rv:Value){B:Nat}(w:World)(hv:LV B w)(hp:PlaceAt w pb s rv)(hn:s.reads.length<=1000000)(hs:s.value.size<=140737488351232)(hB:B<=w.heap.size)(hlo:∀k,k=pb\/rv.ownBlock=some k->B<=k):
 Calls Tryz.prog 167 #[.pointer (some ⟨pb,0,none⟩),.agg (encAct a).toArray] w λe w'=>e= .returned (.tuple #[])/\∃rv',PlaceAt w' pb ((s.get a.key).puts (addV s.value a.num)) rv'/\Moves pb rv rv' w w':=by
 have hlt:=hp.blk.lt;have holt:=own_lt hp.own;obtain⟨kd,key,val,num⟩:=a;have HG:=qA (λw'=>get_calls pb ⟨kd,key,val,num⟩ s rv w');unfold encAct at HG ⊢;go_enter Tryz.func167,Tryz.ntmps167;go_wp2_with fail;have hx:Ext w (w.alloc (.cells #[.int .u8 kd,.string key,.string val,.int .i64 num] 74)):=(qK _ w).alloc (qL _) _;have hbox:=Blk.new w [.int .u8 kd,.string key,.string val,.int .i64 num] 74;have hN:w.heap.size<(w.alloc (.cells #[.int .u8 kd,.string key,.string val,.int .i64 num] 74)).heap.size:=by simp
 generalize w.alloc (.cells #[.int .u8 kd,.string key,.string val,.int .i64 num] 74)=w0 at *;generalize hNw:w.heap.size=N at *;have HNw:=qA hNw;clear hNw;refine (HG.out w0 (hp.ext hx) hn).mono ?_;rintro e w1 ⟨rfl,rv1,hp1,hm1⟩
 have hbox1:=hbox.but hm1.but (by rintro (e | e);· omega
                                  · have:=holt _ e;omega)
 have hv1:LV B w1:=(hv.ext hx).below (hm1.but.below (by have:=hx.size;omega) hlo);have c3:=hp1.blk.cell 3;have d2:=hbox1.cell 2;have d3:=hbox1.cell 3;have f2:=hbox1.free 2;simp only[qB,qC]at c3 d2 d3;have hs':(s.get key).value=s.value:=rfl;rw[hs']at c3;have hlt1:=hp1.blk.lt;have hN1:=hbox1.lt;have H1:=qA hp1;have H2:=qA hm1;have H3:=qA hbox1;have H4:=qA hx;have HV:=qA hv1;have H5:=qA holt;clear hp1 hm1 hbox1 hx hbox hp HG hs' hv1 hv holt;go_wp2_with fail;have hwrap:IntKind.i64.wrap (numberL s.value.data.toList+max (min num 4294967296) (-4294967296))=numberL s.value.data.toList+clampI num:=IntWalk.i64_in _ (by have:=numberL_bd s.value.data.toList;have:=clampI_bd num;unfold clampI at *;omega)
 go_region_held3 (λW=>W.cell? ⟨pb,3,none⟩=some (.string s.value)/\W.cell? ⟨N,3,none⟩=some (.int .i64 num)) (first | exact⟨c3,d3⟩ | exact⟨e4,e3⟩ | exact⟨k4,k3⟩ | exact⟨cell_set_ne k4 (by simp;try omega),cell_set_ne k3 (by simp)⟩)
  (first
  | (go_at_call 208;refine (actNumber_calls _ _ (by exact HV.out.ext ((qK _ w1).drew)) hs).mono ?_;rintro e w2 ⟨rfl,hx2⟩;have e2:=(hx2.cell (p:=⟨N,2,none⟩) hN1).trans d2;have e3:=(hx2.cell (p:=⟨N,3,none⟩) hN1).trans d3;have e4:=(hx2.cell (p:=⟨pb,3,none⟩) hlt1).trans c3;have g2:=(hx2.frozen (p:=⟨N,2,none⟩) hN1).trans f2;have HX2:=qA hx2;clear hx2)
  | (go_at_call 207;refine (value_calls _ _ (by exact (HV.out.ext ((qK _ w1).drew)).ext HX2.out)).mono ?_;rintro e w3 ⟨rfl,hx3⟩;have k2:=(hx3.cell (p:=⟨N,2,none⟩) (lt_of_cell e2)).trans e2;have k3:=(hx3.cell (p:=⟨N,3,none⟩) (lt_of_cell e2)).trans e3;have k4:=(hx3.cell (p:=⟨pb,3,none⟩) (lt_of_cell e4)).trans e4;have l2:=(hx3.frozen (p:=⟨N,2,none⟩) (lt_of_cell e2)).trans g2;have HX3:=qA hx3;clear hx3))
 clear hwrap
 all_goals
  have hx13:Ext w1 w3:=qJ (qJ (b:=w1.drew) ((qK _ w1).drew) HX2.out) HX3.out
  have hrvN:rv1.ownBlock≠some N:=λe=>by
   rcases H2.out.kept N e with e | e
   · have:=H5.out N e;omega
   · omega
  have hb3:=(H3.out.ext' hx13).set 2 (.string (addV s.value num));have hp3:PlaceAt (w3.setCell ⟨N,2,none⟩ (.string (addV s.value num))) pb (s.get key) rv1:=⟨(H1.out.ext hx13).blk.other (by simp;omega) _,own_setOther (H1.out.ext hx13).own (a:=⟨N,2,none⟩) hrvN _⟩
  have hm3:Moves pb rv rv1 w (w3.setCell ⟨N,2,none⟩ (.string (addV s.value num))):=by
   exact ((Moves.pre H4.out H2.out).post hx13).setNew (by have:=HNw.out;simp;omega) _
  unfold addV at hb3 hp3 hm3;simp only[List.set_cons_succ,List.set_cons_zero]at hb3;generalize w3.setCell ⟨N,2,none⟩ (.string ⟨(valueL (numberL s.value.data.toList+clampI num)).toArray⟩)=w4 at *;rename_i hHeld;clear hHeld e2 e3 e4 g2 k2 k3 k4 l2 c3 d2 d3 f2;have c0:=hb3.cell 0;have c1:=hb3.cell 1;have c2:=hb3.cell 2;have c3:=hb3.cell 3;simp only[qB,qC]at c0 c1 c2 c3;have K1:=qA hp3;have K2:=qA hm3;clear hp3 hm3 hb3 hx13 hrvN;go_wp2_with fail;refine (puts_calls pb ⟨kd,key,_,num⟩ (s.get key) rv1 _ K1.out).mono ?_;rintro e w5 ⟨rfl,hp5,hm5⟩;have M1:=qA hp5;have M2:=qA hm5;clear hp5 hm5;go_wp2_with fail
  go_end0
  exact⟨rfl,rv1,M1.out,K2.out.trans M2.out⟩
end Go.Proofs.YtmpmggejhnmakaaGreatDoor
