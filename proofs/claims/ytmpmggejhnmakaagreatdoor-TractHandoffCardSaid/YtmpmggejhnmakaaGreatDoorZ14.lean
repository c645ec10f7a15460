/- Keys: the acts' keys, each once, rising. -/
import Derived.Test.YtmpmggejhnmakaaGreatDoorZ02
import Derived.Test.YtmpmggejhnmakaaGreatDoorZ07
import Derived.Test.YtmpmggejhnmakaaGreatDoorShelf
import Derived.Test.YtmpmggejhnmakaaGreatDoorZ13
import Derived.Test.YtmpmggejhnmakaaGreatDoorZ10
import Derived.Test.YtmpmggejhnmakaaGreatDoorZ01
set_option maxRecDepth 100000
set_option maxHeartbeats 1600000
namespace Go.Proofs.YtmpmggejhnmakaaGreatDoor
open Go.RowKit
open Go.Sort (Holds putRow grow mapBlock heap_grow_old)
def encT (s:Txt):List Value:=[Proofs.encStr s]
theorem ext_grow (w:World)(os:Array Obj):Ext w (grow w os):=⟨rfl,rfl,rfl,by simp,λk hk=>heap_grow_old w os hk⟩
theorem below_putRow {α:Type} [Inhabited α](enc:α->Value)(w:World)(n blk off:Nat)(d:Array α){B:Nat}(hb:B<=blk):Below B w (putRow enc (Sort.ahead w n) blk off d):=
 ⟨rfl,rfl,rfl,by simp,λk hk=>by
  simp only[putRow,mapBlock,Sort.heap_ahead,Array.getElem?_modify]
  rw[if_neg (by omega)]⟩
theorem holds_own {w:World}{B:Nat}{e:TypeId}{g n cap:Nat}(ss:List Txt)(h:w.ownsRow B e 1 (.slice (some ⟨g,0,none⟩) n cap) n (ss.flatMap encT))(hn:n=ss.length):Holds Proofs.encStr w g 0 ss.toArray:=by
 intro j hj;have hj':j<ss.length:=by simpa using hj
 refine⟨?_,by rw[Nat.zero_add];exact h.frozenAt j⟩;rw[Nat.zero_add,h.cellAt j (by omega)]
 have:=flat_at (enc:=encT) (sz:=1) (λ_=>rfl) ss j ss[j] (qE hj') 0 _ rfl
 rw[show j * 1+0=j from by omega]at this;rw[this];simp[hj']
theorem rows_holds {w:World}{blk off:Nat}{d:Array Txt}(hb:blk<w.heap.size)(h:Holds Proofs.encStr w blk off d)(ks:List Txt)(hk:∀(i:Nat)(x:Txt),ks[i]? =some x->d[i]? =some x):Rows 1 encT w.heap.size w (some ⟨blk,off,none⟩) ks:=by
 intro _;refine⟨blk,off,rfl,hb,λi x hi j v hj=>?_⟩;have hd:=hk i x hi;have hlt:i<d.size:=(Array.getElem?_eq_some_iff.1 hd).1
 obtain rfl:j=0:=by
  have:=(qF.1 hj).1
  simp[encT]at this;omega
 have hv:v=Proofs.encStr x:=by simpa [encT] using hj.symm
 rw[show off+i * 1+0=off+i from by omega,(h i hlt).1,hv];rw[getElem!_pos d i hlt];rw[Array.getElem?_eq_getElem hlt]at hd;rw[Option.some.inj hd]
theorem own_cases {w:World}{B:Nat}{e:TypeId}{size n:Nat}{v:Value}{xs:List Value}(h:w.ownsRow B e size v n xs):(v= .slice none 0 0/\n=0)\/∃g cap,v= .slice (some ⟨g,0,none⟩) n cap/\g<w.heap.size/\n<=cap:=by
 obtain⟨_,h2⟩:=h;rcases h2 with ⟨rfl,h0⟩ | ⟨g,cap,cur,rfl,_,hg,hn,_⟩
 · exact .inl ⟨rfl,h0⟩
 · exact .inr ⟨g,cap,rfl,lt_of_block hg,hn⟩
theorem infoStr:(Tryz.prog.info? 9).map (λi=>(i.zero,i.size,i.bytes))=some (some (.string ⟨#[]⟩),1,16):=by kernel_rfl
theorem keys_callsN (l:List ActD)(ao:Option Addr)(cap:Nat)(w:World)(hl:l.length<=1000000)(hr:Rows 4 encAct w.heap.size w ao l):
 Calls Tryz.prog 81 #[.slice ao l.length cap] w λe w'=>∃ko kcap,e= .returned (.slice ko (keysL l).length kcap)/\Rows 1 encT w'.heap.size w' ko (keysL l)/\Ext w w'/\∀b o,ko=some ⟨b,o,none⟩->w.heap.size<=b:=by
 obtain⟨i0,hi,hz0,hz1,hz2⟩:=info_parts infoStr;have HR:=qA hr;clear hr;go_enter Tryz.func81,Tryz.ntmps81;go_wp2_with fail;go_loopw [3,8] (λv i wr=>∃(k:Nat),k<=l.length/\i= .int .i64 k/\wr.ownsRow 0 9 1 v ((l.map keyT).take k).length (((l.map keyT).take k).flatMap encT)/\(∀j,v.ownBlock=some j->w.heap.size<=j)/\Ext w wr) (λ_ i _=>l.length - (intOf i).toNat)
 case atStart=>exact⟨0,by omega,rfl,World.ownsRow_nil _ _ _ _,by simp[Value.ownBlock],qK _ _⟩
 case round=>
  obtain⟨k,hk,rfl,hown,hnew,hx⟩:=hrel;have K1:=qA hown;have K2:=qA hnew;have K3:=qA hx;clear hown hnew hx;by_cases hlt:k<l.length
  · obtain⟨x,hx⟩:∃x,l[k]? =some x:=⟨_,qE hlt⟩
    obtain⟨b,off,rfl,hb,hcell⟩:=HR.out (by intro e;rw[e]at hlt;simp at hlt);have hcx:=hcell k x hx;have hmove:∀j,wr.cell? ⟨b,j,none⟩=w.cell? ⟨b,j,none⟩:=λj=>K3.out.cell (p:=⟨b,j,none⟩) hb
    have hof:(l.map keyT).take (k+1)=(l.map keyT).take k++[keyT x]:=by
     rw[List.take_add_one,List.getElem?_map,hx];rfl
    have hbd:((l.map keyT).take k).length<=1000000:=by simp;omega
    generalize (l.map keyT).take k=q at *;have HO:=qA hof;obtain⟨kd,ky,val,num⟩:=x;have d0:=(hmove _).trans (hcx 0 _ rfl);have d1:=(hmove _).trans (hcx 1 _ rfl);have d2:=(hmove _).trans (hcx 2 _ rfl);have d3:=(hmove _).trans (hcx 3 _ rfl);simp only[Nat.add_zero]at d0;have hi0:(0:Int)<=(k:Int):=by omega
    have hi1:(k:Int)<(l.length:Int):=by omega
    clear hof hx hcell hcx hmove;have CN:=qA (cells_new (wr.alloc (.cells #[.int .u8 kd,.string ky,.string val,.int .i64 num] 74)) [.string ky] 9);rw[show (wr.alloc (.cells #[.int .u8 kd,.string ky,.string val,.int .i64 num] 74)).heap.size=wr.heap.size+1 from by simp]at CN;have E2:Hid (Ext wr ((wr.alloc (.cells #[.int .u8 kd,.string ky,.string val,.int .i64 num] 74)).alloc (.cells #[.string ky] 9))):=qA (((qK _ wr).alloc (qL _) _).alloc (by simp) _);go_wp2_with (at_builtin;refine wpList_append_at _ rfl _ _ 145 rfl 9 i0 _ 1 16 Tryz.underlying145 hi hz0 hz1 hz2 rfl (by decide) _ q.length (q.flatMap encT) rfl (own_ext K1.out E2.out) ⟨wr.heap.size+1,0,none⟩ 1 1 [.string ky] rfl rfl CN.out (by simp[Value.oneCell']) (by decide) (by unfold maxLen;omega) (by omega) ?_;intro g cap2 w1 hown' hbut hkept;have X1:=qA hown';have X2:=qA hbut;have X3:=qA hkept;clear hown' hbut hkept);go_roundw
    case rel=>
     refine⟨k+1,by omega,by go_num,?_,?_,?_⟩
     · rw[HO.out]
       have:=X1.out
       rw[qG,List.flatMap_append];simpa [encT,keyT,Proofs.encStr] using this
     · intro j hj
       rcases X3.out j hj with e | e
       · exact K2.out j e
       · have:=K3.out.size;have:=E2.out.size;omega
     · exact Below.trans K3.out (((Ext.but E2.out (λ_=>False)).trans X2.out (U:=λj=>w.heap.size<=j) (λ_ _ e=>e.elim) (λi _ e=>K2.out i e)).below K3.out.size (λ_ h=>h))
    case measure=>simp[intOf];omega
  · have hall:(l.map keyT).take k=l.map keyT:=List.take_of_length_le (by simp;omega)
    rw[hall]at K1;have hlen:(l.map keyT).length=l.length:=by simp
    have HL:=qA hlen;clear hall hlen;rcases own_cases K1.out with ⟨rfl,h0⟩ | ⟨g,cap3,rfl,hg,hle⟩
    · have hks:keysL l=[]:=by
       refine List.eq_nil_of_length_eq_zero ?_
       have:=keysL_len l
       simp only[List.length_map]at h0;omega
      have HK:=qA hks;clear hks h0;go_wp2_with fail;refine (Tryz.slices_Sort_string_none _ _ _).mono ?_;rintro e w1 ⟨rfl,rfl⟩;go_wp2_with fail;refine (Tryz.slices_Compact_string_empty _ _ _).mono ?_;rintro e w1 ⟨rfl,rfl⟩;go_wp2_with fail;go_ret;exact⟨none,0,by rw[HK.out];rfl,by rw[HK.out];exact Rows.nil _ _ _ _ _,K3.out,λb o e=>by cases e⟩
    · have hHd:=holds_own (l.map keyT) K1.out rfl
      have hng:=K2.out g rfl;have hlen2:(sortT (l.map keyT)).length=(l.map keyT).length:=by unfold sortT;rw[List.length_mergeSort]
      have h1:=Tryz.slices_Sort_string g 0 cap3 (l.map keyT) wr hHd hg (by have:=HL.out;omega);rw[HL.out]at h1;have H1:=qA h1;have H2:=qA hHd;have H3:=qA hlen2;clear h1 hHd hlen2;go_wp2_with fail;refine H1.out.mono ?_;rintro e w1 ⟨rfl,n,os,hw1⟩;have hsort:((l.map keyT).mergeSort λx y=>decide (x<=y))=sortT (l.map keyT):=rfl;rw[hsort]at hw1
      have hh1:Holds Proofs.encStr w1 g 0 (sortT (l.map keyT)).toArray:=by
       rw[hw1];exact Sort.holds_grow _ _ _ _ _ _ (by simpa using hg) (Sort.holds_putRow _ _ _ _ _ _ (Sort.holds_ahead _ _ _ _ _ _ H2.out) (by have:=H3.out;simpa using this))
      have hb1:Below w.heap.size wr w1:=by
       rw[hw1];exact Below.trans (below_putRow _ _ _ _ _ _ hng) (Below.mono (ext_grow _ _) (by have:=K3.out.size;simp;omega))
      have hg1:g<w1.heap.size:=by rw[hw1];simp;omega
      have hcomp:=Tryz.slices_Compact_string g 0 cap3 (sortT (l.map keyT)) w1 hh1 (by have:=HL.out;have:=H3.out;omega) (by have:=H3.out;omega);rw[H3.out,HL.out]at hcomp;have H4:=qA hcomp;have H5:=qA hb1;have H6:=qA hh1;have H7:=qA hg1;clear hw1 hh1 hb1 hcomp hsort hg1;go_wp2_with fail;refine H4.out.mono ?_;rintro e w2 ⟨rfl,q,hw2⟩;have hcl:=compact_len (sortT (l.map keyT))
      have hh2:Holds Proofs.encStr w2 g 0 (Lib.compact (sortT (l.map keyT))++List.replicate ((sortT (l.map keyT)).length - (Lib.compact (sortT (l.map keyT))).length) []).toArray:=by
       have e:l.length=(sortT (l.map keyT)).length:=by rw[H3.out,HL.out]
       rw[hw2,e];exact Sort.holds_putRow _ _ _ _ _ _ (Sort.holds_ahead _ _ _ _ _ _ H6.out) (by simp;omega)
      have hb2:Below w.heap.size w1 w2:=by
       rw[hw2];exact below_putRow _ _ _ _ _ _ hng
      have hg2:g<w2.heap.size:=by rw[hw2];simp;exact H7.out
      have J1:=qA hh2;have J2:=qA hb2;have J3:=qA hg2;clear hw2 hh2 hb2 hcl hg2;go_wp2_with fail;go_ret;refine⟨some ⟨g,0,none⟩,cap3,rfl,?_,Below.trans K3.out (Below.trans H5.out J2.out),λb o e=>by cases e;exact hng⟩;refine rows_holds J3.out J1.out _ λi x hi=>?_;rw[qD];change (keysL l++_)[i]? =some x;rw[List.getElem?_append_left (qF.1 hi).1];exact hi
theorem keys_calls (l:List ActD)(ao:Option Addr)(cap:Nat)(w:World)(hl:l.length<=1000000)(hr:Rows 4 encAct w.heap.size w ao l):
 Calls Tryz.prog 81 #[.slice ao l.length cap] w λe w'=>∃ko kcap,e= .returned (.slice ko (keysL l).length kcap)/\Rows 1 encT w'.heap.size w' ko (keysL l)/\Ext w w':=
 (keys_callsN l ao cap w hl hr).mono λ_ _ ⟨ko,kc,h1,h2,h3,_⟩=>⟨ko,kc,h1,h2,h3⟩
end Go.Proofs.YtmpmggejhnmakaaGreatDoor
/- holds.Of: the hold's rows are rows of one's own. -/
namespace Go.Proofs.YtmpmggejhnmakaaGreatDoor
open Go.RowKit
variable {no0:Nat->Prop}
theorem row_cap {w:World}{B:Nat}{e:TypeId}{size n c:Nat}{o:Option Addr}{xs:List Value}(h:w.ownsRow B e size (.slice o n c) n xs):n<=c:=by
 rcases own_cases h with ⟨h1,h2⟩ | ⟨g,cap,h1,_,h2⟩
 · rw[h2];exact Nat.zero_le _
 · injection h1 with _ _ h3;omega
theorem mine_cap {w:World}{B:Nat}{x:HoldV}(h:MineV w B x):x.rn<=x.rc:=by obtain⟨_,_,h⟩:=h;exact row_cap h
theorem own1M_calls (x:HoldV)(d:HoldD)(ao:Option Addr)(cap:Nat)(w:World)(hr:Rows 7 encHV w.heap.size w ao [x])(hx:x.is w (λ_=>False) d)(hf:d.fits):
 Calls Tryz.prog 173 #[.slice ao 1 cap] w λe w'=>∃(g c:Nat) (cur:List Value) (x':HoldV),e= .returned (.slice (some ⟨g,0,none⟩) 1 c)/\1<=c/\c<=maxLen/\Blk w' g cur 48/\cur.take 7=encHV x'/\w.heap.size<=g/\x'.is w' (λb=>b=g\/b<w.heap.size) d/\MineV w' w.heap.size x'/\Ext w w':=by
 refine (own_calls [x] [d] ao cap w (by simp) hr ⟨hx,trivial⟩ (λd' hd'=>by rw[List.mem_singleton.1 hd'];exact hf)).mono ?_;rintro e w' ⟨v,l',rfl,hl,hown,hnew,hare,hmine,hxt⟩
 match l',hl with
 | [x'],_=>
   rcases hown.2 with ⟨_,h0⟩ | ⟨g,c,cur,rfl,_,hg,hn,hm,hcs,htk⟩
   · simp at h0
   · refine⟨g,c,cur.toList,x',rfl,hn,hm,blk_of hg,by simpa using htk,hnew g rfl,?_,hmine x' (by simp),hxt⟩
     exact hare.1.mono (λb _ e=>e.elim (λe=> .inl (by rw[e];rfl)) .inr)
def OfPostM (k:List UInt8)(ds:List HoldD)(w:World)(e:Ending)(w':World):Prop:=
 ∃x:HoldV,e= .returned (.tuple #[.agg (encHV x).toArray,.bool (hasD k ds)])/\(match ofD k ds with | some d=>x.is w' (λb=>b<w.heap.size) d | none=>x=HoldV.zero)/\x.rn<=x.rc/\Ext w w'
theorem ofM_calls (hb:Nat)(v:Value)(ds:List HoldD)(k:ByteArray)(w:World)(T:TabN no0 w hb v ds):
 Calls Tryz.prog 158 #[.pointer (some ⟨hb,0,none⟩),.string k] w (OfPostM k.data.toList ds w):=by
 obtain⟨l,ao,cap,rfl,hlc,hll,hrows,hown,hare,hrise⟩:=T.rows;have hc0:=T.blk.cell 0;have hc1:=T.blk.cell 1;simp only[qB,qC]at hc0 hc1;have hbl:=T.blk.lt;have hfew:=T.few
 have hat:∀W,Ext w W->Calls Tryz.prog 134 #[.pointer (some ⟨hb,0,none⟩),.string k] W λe w'=>e= .returned (.tuple #[.int .i64 (placeD k.data.toList ds),.bool (hasD k.data.toList ds)])/\Ext W w':=λW hW=>by
  have h:=at_calls l ao cap hb k W (by omega) ((hrows.ext hW).mono hW.size) hrise ((hW.cell (p:=⟨hb,0,none⟩) hbl).trans hc0);rw[show placeH k.data.toList l=placeD k.data.toList ds from hare.place _,show thereH k.data.toList l=hasD k.data.toList ds from there_eq hare hrise _]at h;exact h
 have HAT:=qA hat;have HTH:=qA (λW (hW:Ext w W)=>there_calls (some ⟨hb,0,none⟩) true W ((show ThereIs w (some ⟨hb,0,none⟩) true from .inr ⟨hb,rfl,hc1⟩).ext hW));have HX:Hid (Ext w (w.alloc (.cells #[.string ⟨#[]⟩,.int .i64 0,.int .i64 0,.slice none 0 0,.slice none 0 0,.bool false,.string ⟨#[]⟩] 48))):=qA ((qK _ w).alloc (qL _) _);have HB:Hid (Blk (w.alloc (.cells #[.string ⟨#[]⟩,.int .i64 0,.int .i64 0,.slice none 0 0,.slice none 0 0,.bool false,.string ⟨#[]⟩] 48)) w.heap.size [.string ⟨#[]⟩,.int .i64 0,.int .i64 0,.slice none 0 0,.slice none 0 0,.bool false,.string ⟨#[]⟩] 48):=qA (Blk.new w _ _);have hte:thereH k.data.toList l=hasD k.data.toList ds:=there_eq hare hrise _;have HC0:=qA hc0;have HRO:=qA hrows;have HLL:=qA hll;cases hh:hasD k.data.toList ds
 · have hz:ofD k.data.toList ds=none:=by
    have:=ofD_has k.data.toList ds
    rw[hh]at this;cases ho:ofD k.data.toList ds with
    | none=>rfl
    | some d=>rw[ho]at this;cases this
   rw[hh]at HAT;have HZ:=qA hz;have HH:=qA hh;clear T hc0 hc1 hrows hown hare hrise hll hat hte hz hh;go_enter Tryz.func158,Tryz.ntmps158;go_wp2_with fail;refine (HTH.out _ HX.out).mono ?_;rintro e w' ⟨rfl,rfl⟩;go_wp2_with fail;refine (HAT.out _ HX.out).mono ?_;rintro e w2 ⟨rfl,hx2⟩;have hb2:=HB.out.ext' hx2;have hg2:=hb2.lt;have c0:=hb2.cell 0;have c1:=hb2.cell 1;have c2:=hb2.cell 2;have c3:=hb2.cell 3;have c4:=hb2.cell 4;have c5:=hb2.cell 5;have c6:=hb2.cell 6;have f0:=hb2.free 0;have f1:=hb2.free 1;have f2:=hb2.free 2;have f3:=hb2.free 3;have f4:=hb2.free 4;have f5:=hb2.free 5;have f6:=hb2.free 6;simp only[qB,qC]at c0 c1 c2 c3 c4 c5 c6;have X2:=qA (qJ HX.out hx2);have B2:=qA hb2;clear hx2 hb2;go_wp2_with fail
   (try simp only[Exit.inBlock,Exit.then])
   refine bodyPost_ret (res_row_tmp rfl _ _ w.heap.size 48 (encHV HoldV.zero) _ rfl (B2.out.setCells (encHV HoldV.zero) 0) Tryz.underlying48 rfl (by kernel_rfl)) rfl ?_;refine⟨HoldV.zero,by rw[HH.out];rfl,by rw[HZ.out],qL _,?_⟩;exact (but_setCells (S:=λj=>w.heap.size<=j) (qL _) (encHV HoldV.zero) 0 (X2.out.but _)).ext (λj hj e=>by omega)
 · obtain⟨x,d,hx,hd,hxd,hdm⟩:=of_at hare k.data.toList (hte.trans hh)
   have hdf:=(T.ok d hdm).1.fits;obtain⟨b,off,rfl,hbb,hcell⟩:=hrows (by intro e;rw[e]at hx;simp at hx);have hcx:=hcell _ x hx;have hpl:=(qF.1 hx).1;generalize hP:placeD k.data.toList ds=P at *;have HXD:=qA (hxd.mono (no':=λ_=>False) (λ_ _ e=>e.elim));have HD:=qA hd;have HDF:=qA hdf;rw[hh]at HAT;have HH:=qA hh;have HCX:=qA hcx;have i0:(0:Int)<=(P:Int):=by omega
   have i1:(P:Int)<(l.length:Int):=by omega
   clear T hc0 hc1 hrows hown hare hrise hll hat hte hh hx hd hxd hdm hdf hcell hcx hP;go_enter Tryz.func158,Tryz.ntmps158;go_wp2_with fail;refine (HTH.out _ HX.out).mono ?_;rintro e w' ⟨rfl,rfl⟩;go_wp2_with fail;refine (HAT.out _ HX.out).mono ?_;rintro e w2 ⟨rfl,hx2⟩;have hx2':=qJ HX.out hx2;have hh0:=(hx2'.cell (p:=⟨hb,0,none⟩) hbl).trans HC0.out;have hmv:∀j,w2.cell? ⟨b,j,none⟩=w.cell? ⟨b,j,none⟩:=λj=>hx2'.cell (p:=⟨b,j,none⟩) hbb;have X2:=qA hx2';have B2:=qA (HB.out.ext' hx2);obtain⟨key,cl,nm,xo,xn,xc,yo,yn,yc,put,value⟩:=x;have d0:=(hmv _).trans (HCX.out 0 _ rfl);have d1:=(hmv _).trans (HCX.out 1 _ rfl);have d2:=(hmv _).trans (HCX.out 2 _ rfl);have d3:=(hmv _).trans (HCX.out 3 _ rfl);have d4:=(hmv _).trans (HCX.out 4 _ rfl);have d5:=(hmv _).trans (HCX.out 5 _ rfl);have d6:=(hmv _).trans (HCX.out 6 _ rfl);simp only[Nat.add_zero]at d0;have X3:Hid (Ext w2 (w2.alloc (.cells #[.string key,.int .i64 cl,.int .i64 nm,.slice xo xn xc,.slice yo yn yc,.bool put,.string value] 48))):=qA ((qK _ w2).alloc (qL _) _)
   have HO:=qA (own1M_calls ⟨key,cl,nm,xo,xn,xc,yo,yn,yc,put,value⟩ d (some ⟨w2.heap.size,0,none⟩) 1 (w2.alloc (.cells #[.string key,.int .i64 cl,.int .i64 nm,.slice xo xn xc,.slice yo yn yc,.bool put,.string value] 48))
    (by
      intro _;refine⟨_,0,rfl,by simp,λi y hi j u hj=>?_⟩
      obtain⟨rfl,rfl⟩:i=0/\y=⟨key,cl,nm,xo,xn,xc,yo,yn,yc,put,value⟩:=by
       match i,hi with
       | 0,hi=>simp at hi;exact⟨rfl,hi.symm⟩
       | i+1,hi=>simp at hi
      rw[show 0+0 * 7+j=j from by omega]
      exact ((Blk.new w2 [.string key,.int .i64 cl,.int .i64 nm,.slice xo xn xc,.slice yo yn yc,.bool put,.string value] 48).cell j).trans hj) (HXD.out.ext (qJ X2.out X3.out)) HDF.out)
   clear hx2 hx2' hmv;go_wp2_with fail;refine HO.out.mono ?_;rintro e w3 ⟨g,c,cur,x',rfl,hc1,hcm,hgb,hct,hgn,hxi,hmi,hx3⟩;have hb3:=(B2.out.ext' (qJ X3.out hx3));have hg3:=hb3.lt;have hgl:=hgb.lt;have hsz3:=X2.out.size;have hsz4:=X3.out.size;have c0:=hb3.cell 0;have c1:=hb3.cell 1;have c2:=hb3.cell 2;have c3:=hb3.cell 3;have c4:=hb3.cell 4;have c5:=hb3.cell 5;have c6:=hb3.cell 6;have f0:=hb3.free 0;have f1:=hb3.free 1;have f2:=hb3.free 2;have f3:=hb3.free 3;have f4:=hb3.free 4;have f5:=hb3.free 5;have f6:=hb3.free 6;simp only[qB,qC]at c0 c1 c2 c3 c4 c5 c6
   have hrd:∀j u,(encHV x')[j]? =some u->w3.cell? ⟨g,j,none⟩=some u:=λj u hj=>by
    have hj7:j<7:=(qF.1 hj).1;rw[hgb.cell j];rw[<- hct,List.getElem?_take,if_pos hj7]at hj;exact hj
   have X4:=qA (qJ X2.out (qJ X3.out hx3));have B3:=qA hb3;have XI:=qA hxi;obtain⟨key',cl',nm',xo',xn',xc',yo',yn',yc',put',value'⟩:=x';have e0:=hrd 0 _ rfl;have e1:=hrd 1 _ rfl;have e2:=hrd 2 _ rfl;have e3:=hrd 3 _ rfl;have e4:=hrd 4 _ rfl;have e5:=hrd 5 _ rfl;have e6:=hrd 6 _ rfl;have GN:=qA hgn;have MI:=qA (mine_cap hmi);clear hmi hb3 hgb hct hxi hx3 hrd d0 d1 d2 d3 d4 d5 d6 HO hgn;go_wp2_with fail
   (try simp only[Exit.inBlock,Exit.then])
   refine bodyPost_ret (res_row_tmp rfl _ _ w.heap.size 48 (encHV ⟨key',cl',nm',xo',xn',xc',yo',yn',yc',put',value'⟩) _ rfl (B3.out.setCells (encHV ⟨key',cl',nm',xo',xn',xc',yo',yn',yc',put',value'⟩) 0) Tryz.underlying48 rfl (by kernel_rfl)) rfl ?_;have hbt:=but_setCells (S:=λj=>j=w.heap.size) rfl (encHV ⟨key',cl',nm',xo',xn',xc',yo',yn',yc',put',value'⟩) 0 (But.refl (λj=>j=w.heap.size) w3);refine⟨⟨key',cl',nm',xo',xn',xc',yo',yn',yc',put',value'⟩,by rw[HH.out];rfl,?_,MI.out,?_⟩
   · rw[HD.out]
     have h1:w.heap.size<(w2.alloc (.cells #[.string key,.int .i64 cl,.int .i64 nm,.slice xo xn xc,.slice yo yn yc,.bool put,.string value] 48)).heap.size:=qN B2.out.lt X3.out.size;exact (XI.out.but hbt (λb _ e=> .inr (by rw[e];exact h1))).mono (λb _ e=> .inr (Nat.lt_trans e h1))
   · exact ((X4.out.but (λ_=>False)).trans hbt (U:=λj=>w.heap.size<=j) (λ_ _ e=>e.elim) (λi _ e=>by rw[e];exact qL _)).ext (λj hj e=>by omega)
end Go.Proofs.YtmpmggejhnmakaaGreatDoor
/- tract: values as they lie in cells. -/
namespace Go.Proofs.YtmpmggejhnmakaaGreatDoor
open Go.RowKit
def encInt (n:Int):List Value:=[.int .i64 n]
def encPtr (b:Nat):List Value:=[.pointer (some ⟨b,0,none⟩)]
def encNz (n:Int×Int):List Value:=[.int .i64 n.1,.int .i64 n.2]
structure StrZ where
 lo:ByteArray
 hi:ByteArray
 ep:Int
 st:Int
 sc:Int
def encSt (s:StrZ):List Value:=[.string s.lo,.string s.hi,.int .i64 s.ep,.int .u8 s.st,.int .i64 s.sc]
end Go.Proofs.YtmpmggejhnmakaaGreatDoor
