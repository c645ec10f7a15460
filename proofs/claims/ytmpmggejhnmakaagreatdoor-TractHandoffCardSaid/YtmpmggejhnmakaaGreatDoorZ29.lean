/- tract: span.Cut. -/
import Derived.Test.YtmpmggejhnmakaaGreatDoorZ27
import Derived.Test.YtmpmggejhnmakaaGreatDoorZ11
import Derived.Test.YtmpmggejhnmakaaGreatDoorZ14
import Derived.Test.YtmpmggejhnmakaaGreatDoorZ28
import Derived.Deep.DeepMust
import Derived.Lib.SlicesS
import Derived.Test.YtmpmggejhnmakaaGreatDoorZ01
set_option maxRecDepth 100000
set_option maxHeartbeats 3200000
namespace Go.Proofs.YtmpmggejhnmakaaGreatDoor
open Go.RowKit
open Go.Sort (Holds putRow grow mapBlock heap_grow_old)
abbrev SpZ:=ByteArray×ByteArray
def encSp (s:SpZ):List Value:=[.string s.1,.string s.2]
theorem infoSpan:(Tryz.prog.info? 30).map (λi=>(i.zero,i.size,i.bytes))=some (some (.agg #[.string ⟨#[]⟩,.string ⟨#[]⟩]),2,32):=by kernel_rfl
def cutStep (hi:ByteArray)(st:List SpZ×ByteArray)(k:List UInt8):List SpZ×ByteArray:=
 if (hasB st.2.data.toList hi.data.toList k&& !(k==st.2.data.toList))=true then (st.1++[(st.2,⟨k.toArray⟩)],⟨k.toArray⟩) else st
def cutFold (lo hi:ByteArray)(K:List (List UInt8)):List SpZ×ByteArray:=K.foldl (cutStep hi) ([],lo)
def cutKs (l:List ByteArray):List (List UInt8):=Lib.compact (sortL (bytesL l))
def cutD (lo hi:ByteArray)(l:List ByteArray):List SpZ:=(cutFold lo hi (cutKs l)).1++[((cutFold lo hi (cutKs l)).2,hi)]
theorem cutFold_succ (lo hi:ByteArray)(K:List (List UInt8))(j:Nat)(x:List UInt8)(h:K[j]? =some x):cutFold lo hi (K.take (j+1))=cutStep hi (cutFold lo hi (K.take j)) x:=by
 unfold cutFold;rw[List.take_add_one,h,List.foldl_append];rfl
theorem cutFold_small (hi:ByteArray)(B:Nat):∀(K:List (List UInt8))(st:List SpZ×ByteArray),st.2.size<=B->(∀k∈K,k.length<=B)->(K.foldl (cutStep hi) st).2.size<=B:=by
 intro K
 induction K with
 | nil=>intro st h _;exact h
 | cons k K ih=>
   intro st h hk;rw[List.foldl_cons];refine ih _ ?_ (λx hx=>hk x (List.mem_cons_of_mem _ hx));unfold cutStep
   split
   · have:=hk k (List.mem_cons_self ..)
     show (ByteArray.mk k.toArray).size<=B;simpa [ByteArray.size] using this
   · exact h
theorem cutFold_len (hi:ByteArray):∀(K:List (List UInt8))(st:List SpZ×ByteArray),(K.foldl (cutStep hi) st).1.length<=st.1.length+K.length:=by
 intro K
 induction K with
 | nil=>intro st;exact qL _
 | cons k K ih=>
   intro st;rw[List.foldl_cons];refine qM (ih _) ?_;unfold cutStep
   split
   · rw[qG,List.length_cons,List.length_cons,List.length_nil];omega
   · rw[List.length_cons];omega
theorem cutKs_mem {l:List ByteArray}{k:List UInt8}(h:k∈cutKs l):∃s∈l,s.data.toList=k:=by
 unfold cutKs at h;have hs:(sortL (bytesL l)).Pairwise (λa b=>a<=b):=sortT_pw (bytesL l);rw[(compact_spec _ hs).2]at h;unfold sortL at h;rw[List.mem_mergeSort]at h;unfold bytesL at h;exact List.mem_map.1 h
theorem map_flatT:∀l:List (List UInt8),l.map Go.Proofs.encStr=l.flatMap encT
 | []=>rfl
 | _::l=>by rw[List.map_cons,List.flatMap_cons,map_flatT l];rfl
theorem spanCut_calls (lo hi:ByteArray)(l:List ByteArray)(ao:Option Addr)(cap:Nat)(w:World)(hl:l.length<=1000000)(hne:l≠[])(hr:Rows 1 encStr w.heap.size w ao l)(h1:lo.size<=140737488351232)(h2:hi.size<=140737488351232)(h3:∀s∈l,s.size<=140737488351232)(hs:spanB lo.data.toList hi.data.toList=true):
 Calls Tryz.prog 49 #[.agg #[.string lo,.string hi],.slice ao l.length cap] w λe w'=>∃rv,e= .returned rv/\w'.ownsRow 0 30 2 rv (cutD lo hi l).length ((cutD lo hi l).flatMap encSp)/\(∀j,rv.ownBlock=some j->w.heap.size<=j)/\Ext w w':=by
 obtain⟨i0,hi0,hz0,hz1,hz2⟩:=info_parts infoSpan;have HI:Hid _:=qA hi0;have HRT:Hid (∀W,Calls Tryz.prog 11 #[.agg #[.string lo,.string hi]] W λe w'=>e= .returned (.bool true)/\Ext W w'):=qA (λW=>by rw[<- hs];exact spanRight_calls lo hi W h1 h2);have HV:=qA (λW=>values_calls ao l.length cap W);have HS:=qA (λW (hW:Ext w W)=>sortedOf_calls l ao cap W hl ((hr.ext hW).mono hW.size));have X1:Hid (Ext w (w.alloc (.cells #[.string lo,.string hi] 30))):=qA ((qK _ w).alloc (qL _) _);have B1:Hid (Blk (w.alloc (.cells #[.string lo,.string hi] 30)) w.heap.size [.string lo,.string hi] 30):=qA (Blk.new w _ _);have HNE:Hid (l.length≠0):=qA (by intro e;exact hne (List.eq_nil_of_length_eq_zero e))
 have HK3:Hid (∀k∈cutKs l,k.length<=140737488351232):=qA (by
  intro k hk;obtain⟨s,hs1,rfl⟩:=cutKs_mem hk
  have:=h3 s hs1
  rw[Array.length_toList]
  exact this)
 clear hr hne h3 hs;have c0:=B1.out.cell 0;have c1:=B1.out.cell 1;simp only[qB,qC]at c0 c1;go_enter Tryz.func49,Tryz.ntmps49;go_wp2_with fail;refine (HRT.out _).mono ?_;rintro e w1 ⟨rfl,hx1⟩;have Y1:=qA hx1;clear hx1 c0 c1;go_wp2_with fail;refine (HV.out _).mono ?_;rintro e w2 ⟨rfl,rfl⟩;go_wp2_with fail;refine (HS.out _ (qJ X1.out Y1.out)).mono ?_;rintro e w3 ⟨v,rfl,ho3,hx3⟩;have hx13:Ext w1 w3:=qJ ((qK _ w1).alloc (qL _) _) hx3;have hsl:(sortL (bytesL l)).length=l.length:=by unfold sortL bytesL;rw[List.length_mergeSort,List.length_map]
 rcases ho3.2 with ⟨rfl,hz⟩ | ⟨g,cap3,cur,rfl,hng,hgb,hle,-,-,-⟩
 · exact absurd hz HNE.out
 rw[map_flatT]at ho3;have hHd:=holds_own (sortL (bytesL l)) ho3 hsl.symm;have hcomp:=Tryz.slices_Compact_string g 0 cap3 (sortL (bytesL l)) w3 hHd (by omega) (by omega);rw[hsl]at hcomp;have HC:=qA hcomp;have HH:=qA hHd;have HSL:=qA hsl;have HNG:=qA hng;have X13:=qA hx13;have hg3:g<w3.heap.size:=lt_of_block hgb;have HG3:=qA hg3;clear hcomp hHd hsl hng hx13 hx3 ho3 hgb hle HV HS HRT hg3;go_wp2_with fail;refine HC.out.mono ?_;rintro e w4 ⟨rfl,q,hw4⟩;have hcl:=compact_len (sortL (bytesL l))
 have hh4:Holds Proofs.encStr w4 g 0 (cutKs l++List.replicate ((sortL (bytesL l)).length - (cutKs l).length) []).toArray:=by
  have e:l.length=(sortL (bytesL l)).length:=HSL.out.symm;unfold cutKs;rw[hw4,e];exact Sort.holds_putRow _ _ _ _ _ _ (Sort.holds_ahead _ _ _ _ _ _ HH.out) (by simp;omega)
 have hb4:Ext w1 w4:=by
  refine Below.trans X13.out ?_;rw[hw4];exact below_putRow _ _ _ _ _ _ HNG.out
 have hg4:g<w4.heap.size:=by rw[hw4];simp;exact HG3.out
 have hrows:Rows 1 encT w4.heap.size w4 (some ⟨g,0,none⟩) (cutKs l):=rows_holds hg4 hh4 _ (λi x hx=>by
  rw[qD,List.getElem?_append_left (qF.1 hx).1]
  exact hx)
 have hsb:=B1.out.lt;have hsz1:=Y1.out.size;have hgsb:g≠w.heap.size:=by have:=HNG.out;omega
 have hnr:NRows 1 encT (λj=>j=w.heap.size) w4 (some ⟨g,0,none⟩) (cutKs l):=λhne=>by
  obtain⟨b,off,he,hb,hc⟩:=hrows hne;cases he;exact⟨_,_,rfl,hb,hgsb,hc⟩
 have NR:=qA hnr;have X4:Hid (Ext w w4):=qA (qJ X1.out (qJ Y1.out hb4));have B4:=qA ((B1.out.ext' Y1.out).ext' hb4);have HKL:Hid ((cutKs l).length<=1000000):=qA (by unfold cutKs;have:=HSL.out;omega);have hkl:(Lib.compact (sortL (bytesL l))).length=(cutKs l).length:=rfl;rw[hkl];have hsb4:w.heap.size<w4.heap.size:=B4.out.lt;generalize hK:cutKs l=K at *;have HCD:Hid (cutD lo hi l=(cutFold lo hi K).1++[((cutFold lo hi K).2,hi)]):=qA (by unfold cutD;rw[hK]);clear hh4 hb4 hw4 hrows hnr hkl hcl hK HC HH HNG HSL X13 HG3 hgsb hsz1 hsb hg4 B1 X1 Y1;go_wp2_with fail;go_loopw [5,7,16] (λv kk i wr=>∃(j:Nat),j<=K.length/\i= .int .i64 j/\wr.ownsRow 0 30 2 v (cutFold lo hi (K.take j)).1.length ((cutFold lo hi (K.take j)).1.flatMap encSp)/\(∀b,v.ownBlock=some b->w4.heap.size<=b)/\Blk wr w.heap.size [.string (cutFold lo hi (K.take j)).2,.string hi] 30/\But (λb=>b=w.heap.size) w4 wr) (λ_ _ i _=>K.length - (intOf i).toNat)
 case atStart=>exact⟨0,by omega,rfl,World.ownsRow_nil _ _ _ _,by simp[Value.ownBlock],B4.out,But.refl _ _⟩
 case round=>
  obtain⟨j,hj,rfl,hown,hnew,hblk,hbut⟩:=hrel;have K1:=qA hown;have K2:=qA hnew;have K3:=qA hblk;have K4:=qA hbut;clear hown hnew hblk hbut;have hkl:=HKL.out;have hsm:(cutFold lo hi (K.take j)).2.size<=140737488351232:=cutFold_small hi _ _ _ h1 (λk hk=>HK3.out k (List.mem_of_mem_take hk))
  have hln:(cutFold lo hi (K.take j)).1.length<=1000000:=by
   have:=cutFold_len hi (K.take j) ([],lo)
   have hk:=HKL.out;have e:(K.take j).length<=K.length:=by rw[List.length_take];exact Nat.min_le_right _ _
   unfold cutFold;simp only[List.length_nil,Nat.zero_add]at this;omega
  by_cases hlt:j<K.length
  · obtain⟨x,hx⟩:∃x,K[j]? =some x:=⟨_,qE hlt⟩
    have hstep:=cutFold_succ lo hi K j x hx;have hxs:x.length<=140737488351232:=HK3.out x (qH hx);obtain⟨b,off,he,hb,hcell⟩:=(NR.out.but K4.out (λ_ _ e=>e)).rows (by intro e;rw[e]at hlt;simp at hlt);cases he;have hcx:=hcell j x hx 0 (.string ⟨x.toArray⟩) rfl;simp only[Nat.mul_one,Nat.add_zero,Nat.zero_add]at hcx;generalize cutFold lo hi (K.take j)=st at *;obtain⟨q,lo'⟩:=st;have HST:=qA hstep;have c0:=K3.out.cell 0;have c1:=K3.out.cell 1;simp only[qB,qC]at c0 c1;have HHS:Hid (∀W,Calls Tryz.prog 109 #[.agg #[.string lo',.string hi],.string ⟨x.toArray⟩] W λe w'=>e= .returned (.bool (hasB lo'.data.toList hi.data.toList x))/\Ext W w'):=qA (λW=>has_calls lo' hi ⟨x.toArray⟩ W hsm h2 (by show x.toArray.size<=_;rw[List.size_toArray];exact hxs));have hsbr:=K3.out.lt;have i1:(0:Int)<=(j:Int):=by omega
    have i2:(j:Int)<(K.length:Int):=by omega
    have HLN:Hid (q.length<=1000000):=qA hln;clear hcell hx hstep hxs hln hsm;cases hb1:hasB lo'.data.toList hi.data.toList x
    · rw[hb1]at HHS
      have hst2:cutFold lo hi (K.take (j+1))=(q,lo'):=by rw[HST.out];unfold cutStep;simp only[hb1,Bool.false_and,if_neg Bool.false_ne_true]
      have HST2:=qA hst2;clear hst2 hb1;go_wp2_with fail;refine (HHS.out _).mono ?_;rintro e w5 ⟨rfl,hx5⟩;have X5:=qA hx5;clear hx5 c0 c1;go_wp2_with fail;go_roundw
      case rel=>exact⟨j+1,by omega,by go_num,by rw[HST2.out];exact own_ext K1.out X5.out,K2.out,by rw[HST2.out];exact K3.out.ext' X5.out,K4.out.trans (X5.out.but (λ_=>False)) (λ_ _ e=>e) (λ_ _ e=>e.elim)⟩
      case measure=>simp[intOf];omega
    · rw[hb1]at HHS
      cases hq:(x==lo'.toList)
      · have hst2:cutFold lo hi (K.take (j+1))=(q++[(lo',⟨x.toArray⟩)],⟨x.toArray⟩):=by
         have hq':(x==lo'.data.toList)=false:=by rw[Lib.toList_data]at hq;exact hq
         rw[HST.out];unfold cutStep;simp only[hb1,hq',Bool.not_false,Bool.and_self,if_true]
        have HST2:=qA hst2;clear hst2 hb1;go_wp2_with fail;refine (HHS.out _).mono ?_;rintro e w5 ⟨rfl,hx5⟩;have E6:Hid (Ext wr (w5.alloc (.cells #[.string lo',.string ⟨x.toArray⟩] 30))):=qA (qJ hx5 ((qK _ w5).alloc (qL _) _));have CN:=qA (cells_new w5 [.string lo',.string ⟨x.toArray⟩] 30);have hb5:=K3.out.ext' hx5;have d0:=hb5.cell 0;have d1:=hb5.cell 1;simp only[qB,qC]at d0 d1;have hl5:=hb5.lt;have hsb5:w.heap.size≠w5.heap.size:=by omega
        have hv:Hid (∀b,u5.ownBlock=some b->b≠w.heap.size):=qA (λb h e=>by have:=K2.out b h;omega);clear hx5 c0 c1 hb5;go_wp2_with (at_builtin;go_must (refine wpList_append_at _ rfl _ _ 108 rfl 30 i0 _ 2 32 Tryz.underlying108 HI.out hz0 hz1 hz2 rfl (by decide) _ q.length (q.flatMap encSp) rfl (own_ext K1.out E6.out) ⟨w5.heap.size,0,none⟩ 1 1 (encSp (lo',⟨x.toArray⟩)) rfl rfl CN.out (by simp[encSp,Value.oneCell']) (by decide) (by unfold maxLen;have:=HLN.out;omega) (by have:=HLN.out;omega) ?_;intro g2 cap2 w6 hown' hbut hkept;have b6:=(K3.out.ext' E6.out).but hbut (λe=>hv.out _ e rfl);have f6:=b6.free 0;have f0:=b6.cell 0;have hl6:=b6.lt;simp only[qB]at f0;have B6:=qA b6;have Z1:=qA hown';have Z2:=qA hbut;have Z3:=qA hkept;clear hown' hbut hkept b6));go_roundw
        case rel=>
         have hrow:∀b,(Value.slice (some ⟨g2,0,none⟩) (q.length+1) cap2).ownBlock=some b->u5.ownBlock=some b\/wr.heap.size<=b:=λb h=>by
          rcases Z3.out b h with e | e
          · exact .inl e
          · have:=E6.out.size;right;omega
         refine⟨j+1,by omega,by go_num,?_,?_,?_,?_⟩
         · rw[HST2.out]
           have hz:=own_but Z1.out ((But.refl (λb=>b=w.heap.size) w6).setCell (p:=⟨w.heap.size,0,none⟩) (λ_=>rfl) (.string ⟨x.toArray⟩)) (λb h e=>by
            rcases hrow b h with h | h
            · exact hv.out b h e
            · omega)
           rw[qG,List.flatMap_append];simpa [encSp] using hz
         · intro b h
           rcases hrow b h with h | h
           · exact K2.out b h
           · have:=K4.out.size;omega
         · rw[HST2.out]
           exact B6.out.set 0 (.string ⟨x.toArray⟩)
         · exact (((K4.out.trans (U:=λb=>b=w.heap.size) (E6.out.but (λ_=>False)) (λ_ _ e=>e) (λ_ _ e=>e.elim)).trans (U:=λb=>b=w.heap.size) Z2.out (λ_ _ e=>e) (λb hb e=>absurd (K2.out b e) (by omega)))).setCell (p:=⟨w.heap.size,0,none⟩) (λ_=>rfl) _
        case measure=>simp[intOf];omega
      · have hst2:cutFold lo hi (K.take (j+1))=(q,lo'):=by
         have hq':(x==lo'.data.toList)=true:=by rw[Lib.toList_data]at hq;exact hq
         rw[HST.out];unfold cutStep;simp only[hb1,hq',Bool.not_true,Bool.and_false,if_neg Bool.false_ne_true]
        have HST2:=qA hst2;clear hst2 hb1;go_wp2_with fail;refine (HHS.out _).mono ?_;rintro e w5 ⟨rfl,hx5⟩;have X5:=qA hx5;have hb5:=K3.out.ext' hx5;have d0:=hb5.cell 0;have d1:=hb5.cell 1;simp only[qB,qC]at d0 d1;clear hx5 c0 c1 hb5;go_wp2_with fail;go_roundw
        case rel=>exact⟨j+1,by omega,by go_num,by rw[HST2.out];exact own_ext K1.out X5.out,K2.out,by rw[HST2.out];exact K3.out.ext' X5.out,K4.out.trans (X5.out.but (λ_=>False)) (λ_ _ e=>e) (λ_ _ e=>e.elim)⟩
        case measure=>simp[intOf];omega
  · obtain rfl:j=K.length:=by omega
    have hall:K.take K.length=K:=List.take_length;rw[hall]at K1 K3;have HLN:Hid ((cutFold lo hi K).1.length<=1000000):=qA (by rw[hall]at hln;exact hln);clear hall hln hsm;generalize cutFold lo hi K=st at *;obtain⟨q,lo'⟩:=st;have c0:=K3.out.cell 0;have c1:=K3.out.cell 1;simp only[qB,qC]at c0 c1;have hsbr:=K3.out.lt;have hsz:=K4.out.size;have E6:Hid (Ext wr (wr.alloc (.cells #[.string lo',.string hi] 30))):=qA ((qK _ wr).alloc (qL _) _);have CN:=qA (cells_new wr [.string lo',.string hi] 30);go_wp2_with (at_builtin;go_must (refine wpList_append_at _ rfl _ _ 108 rfl 30 i0 _ 2 32 Tryz.underlying108 HI.out hz0 hz1 hz2 rfl (by decide) _ q.length (q.flatMap encSp) rfl (own_ext K1.out E6.out) ⟨wr.heap.size,0,none⟩ 1 1 (encSp (lo',hi)) rfl rfl CN.out (by simp[encSp,Value.oneCell']) (by decide) (by unfold maxLen;have:=HLN.out;simp only at this;omega) (by have:=HLN.out;simp only at this;omega) ?_;intro g2 cap2 w6 hown' hbut hkept;have Z1:=qA hown';have Z2:=qA hbut;have Z3:=qA hkept;clear hown' hbut hkept));go_ret
    have hrow:∀b,(Value.slice (some ⟨g2,0,none⟩) (q.length+1) cap2).ownBlock=some b->u5.ownBlock=some b\/wr.heap.size<=b:=λb h=>by
     rcases Z3.out b h with e | e
     · exact .inl e
     · have:=E6.out.size;right;omega
    refine⟨_,rfl,?_,?_,?_⟩
    · rw[HCD.out,qG,List.flatMap_append]
      simpa [encSp] using Z1.out
    · intro b h
      rcases hrow b h with h | h
      · have:=K2.out b h;omega
      · omega
    · have hk:But (λb=>w.heap.size<=b) w w6:=(((X4.out.but (λ_=>False)).trans (U:=λb=>w.heap.size<=b) K4.out (λ_ _ e=>e.elim) (λb _ e=>by rw[e];exact qL _)).trans (U:=λb=>w.heap.size<=b) (E6.out.but (λ_=>False)) (λ_ _ e=>e) (λ_ _ e=>e.elim)).trans (U:=λb=>w.heap.size<=b) Z2.out (λ_ _ e=>e) (λb _ e=>by have:=K2.out b e;omega)
      exact hk.ext (λb hb e=>by omega)
end Go.Proofs.YtmpmggejhnmakaaGreatDoor
/- tract: slices.Clone at stretches. -/
namespace Go.Proofs.YtmpmggejhnmakaaGreatDoor
open Go.RowKit
theorem infoSt:(Tryz.prog.info? 92).map (λi=>(i.zero,i.size,i.bytes))=some (some (.agg #[.string ⟨#[]⟩,.string ⟨#[]⟩,.int .i64 0,.int .u8 0,.int .i64 0]),5,56):=by kernel_rfl
theorem one_st:∀(x:StrZ),∀u∈encSt x,u.oneCell'=true:=by
 intro x u hu;simp only[encSt,List.mem_cons,List.not_mem_nil,or_false]at hu;rcases hu with rfl | rfl | rfl | rfl | rfl<;>rfl
theorem clone_st_calls (l:List StrZ)(ao:Option Addr)(cap:Nat)(w:World)(hl:l.length<=1000000)(hr:Rows 5 encSt w.heap.size w ao l):
 Calls Tryz.prog 57 #[.slice ao l.length cap] w λe w'=>∃v,e= .returned v/\w'.ownsRow 0 92 5 v l.length (l.flatMap encSt)/\(∀j,v.ownBlock=some j->w.heap.size<=j)/\Ext w w':=by
 obtain⟨i0,hi,hz0,hz1,hz2⟩:=info_parts infoSt;have heq:=λW=>Lib.run_eql_slice_nil (P:=Tryz.prog) W 57 92 ao l.length cap 0 0 Tryz.underlying57;have E1:Hid (Ext w (w.alloc (.cells #[] 92))):=qA ((qK _ w).alloc (qL _) _);cases ao with
 | none=>
   have hl0:l=[]:=by
    cases l with
    | nil=>rfl
    | cons a l=>obtain⟨b,off,e,-⟩:=hr (by simp);cases e
   have HL0:=qA hl0;clear hr hl0;simp only[Option.isNone_none]at heq;go_enter Tryz.func57,Tryz.ntmps57;go_wp2_with fail;go_ret;exact⟨_,rfl,by rw[HL0.out];exact World.ownsRow_nil _ _ _ _,by simp[Value.ownBlock],qK _ _⟩
 | some a=>
   have HR:=qA hr;clear hr;simp only[Option.isNone_some]at heq;go_enter Tryz.func57,Tryz.ntmps57;go_wp2_with (at_builtin;refine wpList_append_rows (enc:=encSt) (size:=5) (λ_=>rfl) one_st rfl (.tmp 5) (.tmp 6) 57 rfl 92 i0 _ 56 Tryz.underlying57 hi hz0 hz1 hz2 rfl (by decide) (.slice (some ⟨w.heap.size,0,none⟩) 0 0) 0 [] rfl (World.ownsRow_made w #[] 0 (Nat.zero_le _) (Nat.zero_le _) rfl) (some a) l cap rfl ((HR.out.ext E1.out).mono E1.out.size) (by unfold maxLen;omega) (by omega) ?_;intro v1 w1 hown1 hbut1 hkept1;have O1:=qA hown1;have B1:=qA hbut1;have P1:=qA hkept1;clear hown1 hbut1 hkept1);go_ret;refine⟨v1,rfl,by have:=O1.out;rwa [Nat.zero_add,List.nil_append]at this,λj hj=>?_,?_⟩
   · rcases P1.out j hj with e | e
     · simp[Value.ownBlock]at e;omega
     · have:=E1.out.size;omega
   · exact ((Ext.but E1.out (λ_=>False)).trans B1.out (U:=λi=>i=w.heap.size) (λ_ _ e=>e.elim) (λi _ e=>by simp[Value.ownBlock]at e;exact e.symm)).ext (λi hi e=>by omega)
end Go.Proofs.YtmpmggejhnmakaaGreatDoor
/- tract: its rows and holds in a span; joins. -/
namespace Go.Proofs.YtmpmggejhnmakaaGreatDoor
open Go.RowKit
theorem trRows_calls (k:TrK)(d:TrD)(lo hi:ByteArray)(w:World)(T:TrIs w k d)(hl:lo.size<=140737488351232)(hh:hi.size<=140737488351232):
 Calls Tryz.prog 13 #[.pointer (some ⟨k.tb,0,none⟩),.agg #[.string lo,.string hi]] w λe w'=>∃r,e= .returned r/\w'.ownsRow 0 52 2 r (inR lo.data.toList hi.data.toList d.rows).length ((inR lo.data.toList hi.data.toList d.rows).flatMap encRw)/\(∀j,r.ownBlock=some j->w.heap.size<=j)/\Ext w w':=by
 obtain⟨w1,hw1⟩:∃w1,w1=w.alloc (.cells #[.string lo,.string hi] 30):=⟨_,rfl⟩;have hx1:Ext w w1:=by rw[hw1];exact (qK _ w).alloc (qL _) _
 have hb1:Blk w1 w.heap.size [.string lo,.string hi] 30:=by rw[hw1];exact Blk.new w _ _
 have T1:=T.ext hx1;have HI:=qA (λW (hW:Ext w W)=>inT_calls k.rb k.rv d.rows lo hi W (T.ext hW).rt hl hh);have c0:=T1.blk.cell 0;have c6:=T1.blk.cell 6;have s0:=hb1.cell 0;have s1:=hb1.cell 1;simp only[qB,qC]at c0 c6 s0 s1;have X1:=qA hx1;have W1:=qA hw1;have htb:k.tb<w.heap.size:=T.blk.lt;have htn:k.tb≠w.heap.size:=by omega
 clear T T1 hx1 hw1 hb1;go_enter Tryz.func13,Tryz.ntmps13;go_upto_region 1 with fail;rw[<- W1.out];clear W1;go_wp2_with (go_at_call 38;refine (trThere_calls k.tb true _ c6).mono ?_;rintro e w' ⟨rfl,rfl⟩)
 go_region_with (go_at_call 39;refine (HI.out _ X1.out.drew).mono ?_;rintro e w3 ⟨r,rfl,h1,h2,h3⟩;have P1:=qA h1;have P2:=qA h2;have P3:=qA h3;clear h1 h2 h3)
 all_goals
  go_wp2_with fail;go_ret;exact⟨r,rfl,P1.out,λj hj=>qM X1.out.size (P2.out j hj),qJ X1.out.drew P3.out⟩
theorem trHolds_calls (k:TrK)(d:TrD)(lo hi:ByteArray)(w:World)(T:TrIs w k d)(hl:lo.size<=140737488351232)(hh:hi.size<=140737488351232):
 Calls Tryz.prog 14 #[.pointer (some ⟨k.tb,0,none⟩),.agg #[.string lo,.string hi]] w (RowPost (inD lo hi d.holds) w):=by
 obtain⟨w1,hw1⟩:∃w1,w1=w.alloc (.cells #[.string lo,.string hi] 30):=⟨_,rfl⟩;have hx1:Ext w w1:=by rw[hw1];exact (qK _ w).alloc (qL _) _
 have hb1:Blk w1 w.heap.size [.string lo,.string hi] 30:=by rw[hw1];exact Blk.new w _ _
 have T1:=T.ext hx1;have HI:=qA (λW (hW:Ext w W)=>in_calls k.hb k.hv d.holds lo hi W (T.ext hW).ht hl hh);have c1:=T1.blk.cell 1;have c6:=T1.blk.cell 6;have s0:=hb1.cell 0;have s1:=hb1.cell 1;simp only[qB,qC]at c1 c6 s0 s1;have X1:=qA hx1;have W1:=qA hw1;have htb:k.tb<w.heap.size:=T.blk.lt;have htn:k.tb≠w.heap.size:=by omega
 clear T T1 hx1 hw1 hb1;go_enter Tryz.func14,Tryz.ntmps14;go_upto_region 1 with fail;rw[<- W1.out];clear W1;go_wp2_with (go_at_call 38;refine (trThere_calls k.tb true _ c6).mono ?_;rintro e w' ⟨rfl,rfl⟩)
 go_region_with (go_at_call 40;refine (HI.out _ X1.out.drew).mono ?_;rintro e w3 ⟨r,l',rfl,hn,ho,hj,ha,hm,hx⟩;have P3:Hid (RowPost (inD lo hi d.holds) w (.returned r) w3):=qA (RowPost.ext X1.out.drew ⟨r,l',rfl,hn,ho,hj,ha,hm,hx⟩);clear hn ho hj ha hm hx)
 all_goals
  go_wp2_with fail;go_ret;exact P3.out
def joinsD (a b:StrZ):Bool:=a.st==1&&(b.st==1&&(a.ep==b.ep&&(!a.hi.data.toList.isEmpty&&(a.hi.data.toList==b.lo.data.toList))))
theorem joins_calls (a b:StrZ)(w:World):Calls Tryz.prog 110 #[.agg (encSt a).toArray,.agg (encSt b).toArray] w λe w'=>e= .returned (.bool (joinsD a b))/\Ext w w':=by
 obtain⟨alo,ahi,aep,ast,asc⟩:=a;obtain⟨blo,bhi,bep,bst,bsc⟩:=b;have hx1:Ext w ((w.alloc (.cells #[.string alo,.string ahi,.int .i64 aep,.int .u8 ast,.int .i64 asc] 92)).alloc (.cells #[.string blo,.string bhi,.int .i64 bep,.int .u8 bst,.int .i64 bsc] 92)):=((qK _ w).alloc (qL _) _).alloc (by simp) _;have X1:=qA hx1;clear hx1;have HJ:Hid (joinsD ⟨alo,ahi,aep,ast,asc⟩ ⟨blo,bhi,bep,bst,bsc⟩=(ast==1&&(bst==1&&(aep==bep&&(!ahi.data.toList.isEmpty&&(ahi.data.toList==blo.data.toList)))))):=qA rfl;generalize joinsD ⟨alo,ahi,aep,ast,asc⟩ ⟨blo,bhi,bep,bst,bsc⟩=res at HJ ⊢;simp only[encSt];go_enter Tryz.func110,Tryz.ntmps110;cases h1:(ast==1)
 · go_wp2_with fail
   go_ret;exact⟨ret_bool (by rw[HJ.out,h1];rfl),X1.out⟩
 · cases h2:(bst==1)
   · go_wp2_with fail
     go_ret;exact⟨ret_bool (by rw[HJ.out,h1,h2];rfl),X1.out⟩
   · cases h3:(aep==bep)
     · go_wp2_with fail
       go_ret;exact⟨ret_bool (by rw[HJ.out,h1,h2,h3];rfl),X1.out⟩
     · cases h4:ahi.toList.isEmpty
       · cases h5:(ahi.toList==blo.toList)
         · go_wp2_with fail
           go_ret;exact⟨ret_bool (by rw[Lib.toList_data]at h4 h5;rw[Lib.toList_data]at h5;rw[HJ.out,h1,h2,h3,h4,h5];rfl),X1.out⟩
         · go_wp2_with fail
           go_ret;exact⟨ret_bool (by rw[Lib.toList_data]at h4 h5;rw[Lib.toList_data]at h5;rw[HJ.out,h1,h2,h3,h4,h5];rfl),X1.out⟩
       · go_wp2_with fail
         go_ret;exact⟨ret_bool (by rw[Lib.toList_data]at h4;rw[HJ.out,h1,h2,h3,h4];rfl),X1.out⟩
end Go.Proofs.YtmpmggejhnmakaaGreatDoor
/- tract: tables without anything. -/
namespace Go.Proofs.YtmpmggejhnmakaaGreatDoor
open Go.RowKit
theorem rowsNew_calls (w:World):Calls Tryz.prog 97 #[] w λe w'=>e= .returned (.pointer (some ⟨w.heap.size,0,none⟩))/\w'=w.alloc (.cells #[.slice none 0 0,.bool true] 174):=by
 go_enter Tryz.func97,Tryz.ntmps97;go_wp2_with fail;go_ret;exact⟨rfl,rfl⟩
theorem pastNew_calls (w:World):Calls Tryz.prog 99 #[] w λe w'=>e= .returned (.pointer (some ⟨w.heap.size,0,none⟩))/\w'=w.alloc (.cells #[.int .i64 0,.int .i64 0,.int .i64 0,.int .i64 0,.int .i64 0,.int .i64 0,.int .i64 0,.int .i64 0,.bool true] 217):=by
 go_enter Tryz.func99,Tryz.ntmps99;go_wp2_with fail;go_ret;exact⟨rfl,rfl⟩
theorem tabNew {w:World}{hb:Nat}(no:Nat->Prop)(h:Blk w hb [.slice none 0 0,.bool true] 180):TabN no w hb (.slice none 0 0) []:=
 ⟨h,⟨[],World.ownsRow_nil _ _ _ _,trivial⟩,List.Pairwise.nil,by simp,by simp⟩
theorem rtabNew {w:World}{rb:Nat}(h:Blk w rb [.slice none 0 0,.bool true] 174):RTab w rb (.slice none 0 0) []:=
 ⟨h,World.ownsRow_nil _ _ _ _,List.Pairwise.nil,by simp,by simp⟩
theorem ptabNew {w:World}{pb:Nat}(h:Blk w pb [.int .i64 0,.int .i64 0,.int .i64 0,.int .i64 0,.int .i64 0,.int .i64 0,.int .i64 0,.int .i64 0,.bool true] 217):PTab w pb (List.replicate 8 0):=
 ⟨h,rfl,λn hn=>by rw[List.eq_of_mem_replicate hn];omega⟩
theorem empty_calls (w:World):Calls Tryz.prog 32 #[] w λe w'=>∃rb hb pb,e= .returned (.agg #[.pointer (some ⟨rb,0,none⟩),.pointer (some ⟨hb,0,none⟩),.pointer (some ⟨pb,0,none⟩)])/\Blk w' rb [.slice none 0 0,.bool true] 174/\Blk w' hb [.slice none 0 0,.bool true] 180/\Blk w' pb [.int .i64 0,.int .i64 0,.int .i64 0,.int .i64 0,.int .i64 0,.int .i64 0,.int .i64 0,.int .i64 0,.bool true] 217/\w.heap.size<=rb/\w.heap.size<=hb/\w.heap.size<=pb/\Ext w w':=by
 obtain⟨w1,hw1⟩:∃w1,w1=w.alloc (.cells #[.pointer none,.pointer none,.pointer none] 82):=⟨_,rfl⟩;have hx1:Ext w w1:=by rw[hw1];exact (qK _ w).alloc (qL _) _
 have hb1:Blk w1 w.heap.size [.pointer none,.pointer none,.pointer none] 82:=by rw[hw1];exact Blk.new w _ _
 have W1:=qA hw1;obtain⟨w2,hw2⟩:∃w2,w2=w1.alloc (.cells #[.slice none 0 0,.bool true] 174):=⟨_,rfl⟩;obtain⟨w3,hw3⟩:∃w3,w3=w2.alloc (.cells #[.slice none 0 0,.bool true] 180):=⟨_,rfl⟩;obtain⟨w4,hw4⟩:∃w4,w4=w3.alloc (.cells #[.int .i64 0,.int .i64 0,.int .i64 0,.int .i64 0,.int .i64 0,.int .i64 0,.int .i64 0,.int .i64 0,.bool true] 217):=⟨_,rfl⟩;have W2:=qA hw2;have W3:=qA hw3;have W4:=qA hw4;have x2:Ext w1 w2:=by rw[hw2];exact (qK _ w1).alloc (qL _) _
 have x3:Ext w2 w3:=by rw[hw3];exact (qK _ w2).alloc (qL _) _
 have x4:Ext w3 w4:=by rw[hw4];exact (qK _ w3).alloc (qL _) _
 have b2:Blk w2 w1.heap.size [.slice none 0 0,.bool true] 174:=by rw[hw2];exact Blk.new w1 _ _
 have b3:Blk w3 w2.heap.size [.slice none 0 0,.bool true] 180:=by rw[hw3];exact Blk.new w2 _ _
 have b4:Blk w4 w3.heap.size [.int .i64 0,.int .i64 0,.int .i64 0,.int .i64 0,.int .i64 0,.int .i64 0,.int .i64 0,.int .i64 0,.bool true] 217:=by rw[hw4];exact Blk.new w3 _ _
 have hb4:=hb1.ext' (qJ x2 (qJ x3 x4));have f0:=hb4.free 0;have f1:=hb4.free 1;have f2:=hb4.free 2;have c0:=hb4.cell 0;have c1:=hb4.cell 1;have c2:=hb4.cell 2;simp only[qB,qC]at c0 c1 c2;have hl4:=hb4.lt;have HB4:=qA hb4;have B2:=qA (b2.ext' (qJ x3 x4));have B3:=qA (b3.ext' x4);have B4:=qA b4;have X4:=qA (qJ hx1 (qJ x2 (qJ x3 x4)));have S2:=qA (show w.heap.size<w1.heap.size from hb1.lt);have S3:=qA x2.size;have S4:=qA x3.size;clear hx1 hb1 x2 x3 x4 b2 b3 b4 hb4 hw1 hw2 hw3 hw4;go_enter Tryz.func32,Tryz.ntmps32;go_upto_region 1 with fail;rw[<- W1.out]
 go_wp2_with (first
  | (go_at_call 97;refine (rowsNew_calls _).mono ?_;rintro e w' ⟨rfl,rfl⟩;rw[<- W2.out])
  | (go_at_call 98;refine (new_calls _).mono ?_;rintro e w' ⟨rfl,rfl⟩;rw[<- W3.out])
  | (go_at_call 99;refine (pastNew_calls _).mono ?_;rintro e w' ⟨rfl,rfl⟩;rw[<- W4.out]))
 (try simp only[Exit.inBlock,Exit.then])
 refine bodyPost_ret (results_cell_row rfl _ _ w.heap.size 82 #[.pointer (some ⟨w1.heap.size,0,none⟩),.pointer (some ⟨w2.heap.size,0,none⟩),.pointer (some ⟨w3.heap.size,0,none⟩)] _ _ rfl (HB4.out.setCells [.pointer (some ⟨w1.heap.size,0,none⟩),.pointer (some ⟨w2.heap.size,0,none⟩),.pointer (some ⟨w3.heap.size,0,none⟩)] 0) Tryz.underlying82 rfl (by kernel_rfl)) rfl ?_;have hbt:=but_setCells (S:=λj=>j=w.heap.size) rfl [.pointer (some ⟨w1.heap.size,0,none⟩),.pointer (some ⟨w2.heap.size,0,none⟩),.pointer (some ⟨w3.heap.size,0,none⟩)] 0 (But.refl (λj=>j=w.heap.size) w4);have s2:=S2.out;have s3:=S3.out;have s4:=S4.out;refine⟨w1.heap.size,w2.heap.size,w3.heap.size,rfl,B2.out.but hbt (by omega),B3.out.but hbt (by omega),B4.out.but hbt (by omega),by omega,by omega,by omega,?_⟩;exact ((X4.out.but (λ_=>False)).trans hbt (U:=λj=>w.heap.size<=j) (λ_ _ e=>e.elim) (λi _ e=>by rw[e];exact qL _)).ext (λj hj e=>by omega)
end Go.Proofs.YtmpmggejhnmakaaGreatDoor
/- tract: rise at one stretch; the shares of the law. -/
namespace Go.Proofs.YtmpmggejhnmakaaGreatDoor
open Go.RowKit
theorem whole_calls (w:World):Calls Tryz.prog 9 #[] w λe w'=>∃cs,e= .returned (.slice (some ⟨w.heap.size,0,none⟩) 1 1)/\cs=[.string ⟨#[]⟩,.string ⟨#[]⟩,.int .i64 1,.int .i64 1]/\Blk w' w.heap.size cs 88/\Ext w w':=by
 go_enter Tryz.func9,Tryz.ntmps9;go_wp2_with fail;go_ret;exact⟨_,rfl,rfl,Blk.new w _ _,(qK _ w).alloc (qL _) _⟩
end Go.Proofs.YtmpmggejhnmakaaGreatDoor
