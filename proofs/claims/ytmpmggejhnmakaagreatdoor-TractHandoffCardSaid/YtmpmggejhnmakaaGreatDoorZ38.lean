/- tract.Prepare. -/
import Derived.Test.YtmpmggejhnmakaaGreatDoorZ37
import Derived.Test.YtmpmggejhnmakaaGreatDoorZ26
import Derived.Test.YtmpmggejhnmakaaGreatDoorZ01
set_option maxRecDepth 100000
set_option maxHeartbeats 12800000
namespace Go.Proofs.YtmpmggejhnmakaaGreatDoor
open Go.RowKit
theorem res_tmp_row_tmp {P:Program}{fn:Func}{p u v:Tmp}{ty:TypeId}(h:fn.results= #[.tmp v,.cell p ty,.tmp u])(tmps:Array Value)(w:World)(g:Nat)(t:TypeId)(cs:List Value)(d:TypeDesc)
 (hp:tmps.getD p undef= .pointer (some ⟨g,0,none⟩)) (hg:Blk w g cs t) (hu:P.underlying ty=some d) (hd:(match d with | .struct _ | .array _ _=>true | _=>false)=true) (hi:(P.info? ty).map (·.size)=some cs.toArray.size):
 (results fn tmps).run P w= .ok (.tuple #[tmps.getD v undef,.agg cs.toArray,tmps.getD u undef]) w:=by
 have:=run_loadVar_row (P:=P) w g t ty cs.toArray (0,0) d hg hu hd hi
 have hp':=hp;rw[Array.getD_eq_getD_getElem?]at hp';simp only[results,h];simp[Result.andThen,hp',asAddr,this]
theorem toldM_cases (dl:List HoldD)(x:Txt):(toldM dl x=[]/\∀d∈dl,dkey d≠x)\/∃d∈dl,dkey d=x/\toldM dl x=d.reads:=by
 unfold toldM
 have key:∀(dl:List HoldD) (m:Told),((dl.foldl (λm d x=>if x=dkey d then d.reads else m x) m) x=m x/\∀d∈dl,dkey d≠x)\/∃d∈dl,dkey d=x/\(dl.foldl (λm d x=>if x=dkey d then d.reads else m x) m) x=d.reads:=by
  intro dl
  induction dl with
  | nil=>intro m;exact .inl ⟨rfl,by simp⟩
  | cons d dl ih=>
    intro m;rw[List.foldl_cons];rcases ih (λx=>if x=dkey d then d.reads else m x) with ⟨h1,h2⟩ | ⟨e,he,h1,h2⟩
    · by_cases hx:x=dkey d
      · exact .inr ⟨d,by simp,hx.symm,by rw[h1,if_pos hx]⟩
      · refine .inl ⟨by rw[h1,if_neg hx],λe he=>?_⟩
        rcases List.mem_cons.1 he with rfl | he
        · exact λq=>hx q.symm
        · exact h2 e he
    · exact .inr ⟨e,by simp[he],h1,h2⟩
 exact key dl (λ_=>[])
theorem cntK_zero {acts:List ActD}{x:Txt}(h:x∉keysL acts):cntK x acts=0:=by
 unfold cntK;rw[List.countP_eq_zero];intro a ha hc;simp only[Bool.and_eq_true,decide_eq_true_eq]at hc;exact h ((keysL_mem acts x).2 ⟨a,ha,hc.2⟩)
theorem toldM_len {acts:List ActD}{dl:List HoldD}(h1:∀d∈dl,d.reads.length=cntK (dkey d) acts)(h2:∀x∈keysL acts,∃d∈dl,dkey d=x):∀x,(toldM dl x).length=cntK x acts:=λx=>by
 rcases toldM_cases dl x with ⟨e,hn⟩ | ⟨d,hd,hk,e⟩
 · rw[e]
   rw[cntK_zero (λhx=>by obtain⟨d,hd,hk⟩:=h2 x hx;exact hn d hd hk)];rfl
 · rw[e,<- hk];exact h1 d hd
theorem cntR_K {acts:List ActD}(k:Txt):cntR (ofL k acts)=cntK k acts:=by
 rw[cntK_of];unfold cntR;rw[List.countP_eq_length_filter]
 congr 1
 refine List.filter_congr (λa _=>by simp)
theorem had_told {c n:Int}{ds:List HoldD}{acts:List ActD}(hok:∀d∈ds,holdB d=true)(hj:hadJ c n ds acts (keysL acts)=true):∀x,(toldM (hadL c n ds (keysL acts)) x).length=cntK x acts:=by
 unfold hadJ at hj;rw[List.all_eq_true]at hj
 have hall:∀k∈keysL acts,∃h,mineD c n ds k=some h/\h.acts=ofL k acts/\h∈ds/\dkey h=k:=λk hk=>by
  have h1:=hj k hk;unfold hadB at h1;cases hm:mineD c n ds k with
  | none=>rw[hm]at h1;cases h1
  | some h=>
    rw[hm]at h1;refine⟨h,rfl,of_decide_eq_true h1,?_⟩;unfold mineD at hm;cases ho:ofD k ds with
    | none=>rw[ho]at hm;cases hm
    | some g=>
      rw[ho]at hm;simp only at hm
      split at hm
      · injection hm with hm
        subst hm;refine⟨List.mem_of_find?_eq_some ho,?_⟩
        have:=List.find?_some ho
        simpa using this
      · cases hm
 refine toldM_len (λd hd=>?_) (λx hx=>?_)
 · unfold hadL at hd
   rw[List.mem_filterMap]at hd;obtain⟨k,hk,hm⟩:=hd;obtain⟨h,hm2,ha,hmem,hkey⟩:=hall k hk;rw[hm2]at hm;injection hm with hm;subst hm;have hB:=hok h hmem;unfold holdB at hB;simp only[Bool.and_eq_true,decide_eq_true_eq]at hB;have hl:=hB.2.2.2.1;rw[hkey,<- cntR_K,<- ha];omega
 · obtain⟨h,hm2,_,_,hkey⟩:=hall x hx
   exact⟨h,by unfold hadL;rw[List.mem_filterMap];exact⟨x,hx,hm2⟩,hkey⟩
def prepH (c n:Int)(acts:List ActD)(rows:List RowD)(k:Txt):HoldD:=
 ⟨⟨k.toArray⟩,c,n,ofL k acts,(doRes (getR k rows).isSome ((getR k rows).getD noBytes) (ofL k acts)).reads,(doRes (getR k rows).isSome ((getR k rows).getD noBytes) (ofL k acts)).put,doAfter (getR k rows).isSome ((getR k rows).getD noBytes) (ofL k acts)⟩
def prepL (c n:Int)(acts:List ActD)(rows:List RowD)(ks:List Txt):List HoldD:=ks.map (prepH c n acts rows)
theorem prep_told {c n:Int}{acts:List ActD}{rows:List RowD}(h3:kinds3 acts):∀x,(toldM (prepL c n acts rows (keysL acts)) x).length=cntK x acts:=by
 refine toldM_len (λd hd=>?_) (λx hx=>⟨prepH c n acts rows x,List.mem_map.2 ⟨x,hx,rfl⟩,rfl⟩);unfold prepL at hd;obtain⟨k,_,rfl⟩:=List.mem_map.1 hd;exact keySt_len h3 rows k
def prepOk (c n ep:Int)(acts:List ActD):Bool:=nameB c n&&(rightsB acts&& !badN ep)
def prepD (c n ep:Int)(acts:List ActD)(d:TrD):Int×TrD:=
 if prepOk c n ep acts=false then (2,d)
 else if hadJ c n d.holds acts (keysL acts)=true then (0,d)
 else if (0<(hadL c n d.holds (keysL acts)).length)\/isP c n d.ns=true then (22,d)
 else if ((keysL acts).any λk=> !openL d.parts k λp=>p.ep==ep)=true then (20,d)
 else if (busyL (λk=>hasD k d.holds) (nameD d.holds) c n (sortL (keysL acts))).2.2=true then (21,d)
 else if roomD d.rows d.holds (prepL c n acts d.rows (keysL acts))=false then (8,d)
 else (0,{ d with holds:=putT (prepL c n acts d.rows (keysL acts)) d.holds })
def PrepPost (c n ep:Int)(acts:List ActD)(k:TrK)(d:TrD)(w:World)(e:Ending)(w':World):Prop:=
 ∃(rv:Value) (n1 n2:Int),e= .returned (.tuple #[rv,.agg #[.int .i64 n1,.int .i64 n2],.int .i64 (prepD c n ep acts d).1])/\TrTo k (prepD c n ep acts d).2 w w'
theorem prep1_calls (s:StrZ)(ep:Int)(eb:Nat)(w:World)(he:w.cell? ⟨eb,0,none⟩=some (.int .i64 ep)):
 Calls Tryz.prog 87 (#[.agg (encSt s).toArray]++ #[.pointer (some ⟨eb,0,none⟩)]) w λe w'=>e= .returned (.bool (s.ep==ep))/\Ext w w':=by
 obtain⟨lo,hi,sep,st,sc⟩:=s;have hx1:Ext w (w.alloc (.cells #[.string lo,.string hi,.int .i64 sep,.int .u8 st,.int .i64 sc] 92)):=(qK _ w).alloc (qL _) _;have d0:=(hx1.cell (p:=⟨eb,0,none⟩) (block_lt_of_cell he)).trans he;have X1:=qA hx1;clear he hx1;simp only[encSt];go_enter Tryz.func87,Tryz.ntmps87;go_wp2_with fail;go_ret;exact⟨rfl,X1.out⟩
theorem prep2_calls (kk:ByteArray)(k:TrK)(d:TrD)(ep:Int)(b4 b6:Nat)(w:World)(T:TrIs w k d)(h4:w.cell? ⟨b4,0,none⟩=some (.pointer (some ⟨k.tb,0,none⟩)))(h6:w.cell? ⟨b6,0,none⟩=some (.int .i64 ep))(hk:kk.size<=140737488351232):
 Calls Tryz.prog 85 (#[.string kk]++ #[.pointer (some ⟨b4,0,none⟩),.pointer (some ⟨b6,0,none⟩)]) w λe w'=>e= .returned (.bool (!openL d.parts kk.data.toList λp=>p.ep==ep))/\Ext w w':=by
 obtain⟨ao,cap,_,hrow,c3⟩:=T.slice;have HO:=qA (open_calls k.tb d.parts ao cap kk 87 #[.pointer (some ⟨b6,0,none⟩)] (enters_of Tryz.func87 (by kernel_rfl) rfl) (λp=>p.ep==ep) w c3 (qM T.pn (by omega)) hrow T.ps hk (λW hW s _=>prep1_calls s ep b6 W ((hW.cell (p:=⟨b6,0,none⟩) (block_lt_of_cell h6)).trans h6)));clear T hrow c3;go_enter Tryz.func85,Tryz.ntmps85;go_wp2_with fail;refine HO.out.mono ?_;rintro e w2 ⟨rfl,hx⟩;have X2:=qA hx;clear hx;go_wp2_with fail;go_ret;exact⟨rfl,X2.out⟩
theorem box_ext' {w w2:World}(hx:Ext w w2){b:Nat}(hb:w.heap.size<=b)(v0 v1:Value):Ext w ((w2.setCell ⟨b,0,none⟩ v0).setCell ⟨b,1,none⟩ v1):=
 (((Ext.but hx (λj=>w.heap.size<=j)).setCell (p:=⟨b,0,none⟩) (λ_=>hb) v0).setCell (p:=⟨b,1,none⟩) (λ_=>hb) v1).ext (λj hj e=>by omega)
theorem box_put' {w:World}{b:Nat}{u0 u1:Value}{t:TypeId}(h:Blk w b [u0,u1] t)(v0 v1:Value):Blk ((w.setCell ⟨b,0,none⟩ v0).setCell ⟨b,1,none⟩ v1) b [v0,v1] t:=(h.set 0 v0).set 1 v1
theorem mine_mem {c n:Int}{ds:List HoldD}{k:Txt}{h:HoldD}(e:mineD c n ds k=some h):h∈ds:=by
 unfold mineD at e;cases ho:ofD k ds with
 | none=>rw[ho]at e;cases e
 | some g=>
   rw[ho]at e;simp only at e
   split at e
   · injection e with e;subst e;exact List.mem_of_find?_eq_some ho
   · cases e
theorem had_mem {c n:Int}{ds:List HoldD}{ks:List Txt}{h:HoldD}(hm:h∈hadL c n ds ks):h∈ds:=by
 unfold hadL at hm;obtain⟨k,_,e⟩:=List.mem_filterMap.1 hm;exact mine_mem e
theorem St.after_rs:∀(l:List ActD)(s:St),s.value.size<=140737488351232->(∀r∈s.reads,r.value.size<=140737488351232)->(∀a∈l,a.ok)->∀r∈(s.after l).reads,r.value.size<=140737488351232
 | [],_,_,h,_=>h
 | a::l,s,hs,h,ha=>St.after_rs l (s.step a) (St.step_bd s a hs (ha a (by simp))).1 (by
    have hg:∀r∈(s.get a.key).reads,r.value.size<=140737488351232:=by
     intro r hr;unfold St.get at hr;rcases List.mem_append.1 hr with h1 | h1
     · exact h r h1
     · rw[List.mem_singleton.1 h1];exact hs
    unfold St.step
    split
    · exact hg
    · split
      · exact h
      · split
        · exact hg
        · exact h) (λx hx=>ha x (by simp[hx]))
theorem kinds3_of {l:List ActD}(h:rightsB l=true):kinds3 l:=λa ha=>by
 unfold rightsB at h;simp only[Bool.and_eq_true,List.all_eq_true]at h
 have:=h.2 a ha
 unfold rightB kindB at this;simp only[Bool.and_eq_true]at this;have h2:=this.2;by_cases h1:a.kind=1
 · exact .inl h1
 · by_cases h3:a.kind=2
   · exact .inr (.inl h3)
   · by_cases h4:a.kind=3
     · exact .inr (.inr h4)
     · rw[if_neg h1,if_neg h3,if_neg h4]at h2;cases h2
theorem getR_le {k:Txt}{rows:List RowD}(h:∀r∈rows,rwB r=true):((getR k rows).getD noBytes).size<=140737488351232:=by
 unfold getR;cases hp:rows[placeR k rows]? with
 | none=>exact Nat.zero_le _
 | some d=>
   simp only
   split
   · have:=h d (qH hp)
     unfold rwB at this;simp only[Bool.and_eq_true,decide_eq_true_eq]at this
     have:=this.2
     show d.value.size<=_;omega
   · exact Nat.zero_le _
theorem prepH_ok {c n:Int}{acts:List ActD}{rows:List RowD}{k:Txt}(hok:∀a∈acts,a.ok)(hl:acts.length<=1000)(hv:∀r∈rows,rwB r=true)(hk:k.length<=140737488351232):(prepH c n acts rows k).ok:=by
 have ha:∀a∈ofL k acts,a.ok:=λa h=>hok a (List.mem_filter.1 h).1;have hln:=ofL_len k acts
 have hs0:(St.begin (getR k rows).isSome ((getR k rows).getD noBytes)).value.size<=140737488351232:=by
  unfold St.begin;simp only
  split
  · exact getR_le hv
  · exact Nat.zero_le _
 have hb:=St.after_bd (ofL k acts) _ hs0 ha;refine⟨ha,?_,?_,hk,?_,?_⟩
 · show (ofL k acts).length<=_;omega
 · have:=hb.2
   show ((St.begin (getR k rows).isSome ((getR k rows).getD noBytes)).after (ofL k acts)).reads.length<=_;have h0:(St.begin (getR k rows).isSome ((getR k rows).getD noBytes)).reads.length=0:=rfl;omega
 · show (doAfter _ _ _).size<=_
   unfold doAfter
   split
   · exact hb.1
   · exact Nat.zero_le _
 · exact St.after_rs _ _ hs0 (by intro r hr;cases hr) ha
theorem prepL_succ (c n:Int)(acts:List ActD)(rows:List RowD)(ks:List Txt)(j:Nat)(k:Txt)(h:ks[j]? =some k):prepL c n acts rows (ks.take (j+1))=prepL c n acts rows (ks.take j)++[prepH c n acts rows k]:=by
 unfold prepL;rw[List.take_add_one,h,List.map_append];rfl
theorem TrIs.noH_lt {w:World}{k:TrK}{d:TrD}(T:TrIs w k d):∀b,k.noH b->b<w.heap.size:=λb h=>by
 rcases h with e | e | e | e | e
 · rw[e];exact T.blk.lt
 · rw[e];exact T.rt.blk.lt
 · rw[e];exact T.pt.blk.lt
 · exact (T.rt.row.lt b e).2
 · exact (T.po.lt b e).2
theorem rows_bs {B:Nat}{w:World}{ao:Option Addr}{ks:List Txt}(h:Rows 1 encT B w ao ks):Rows 1 encStr B w ao (ks.map λk:Txt=>(⟨k.toArray⟩:ByteArray)):=by
 intro hne;obtain⟨b,off,e,hb,hc⟩:=h (λe=>hne (by rw[e];rfl));refine⟨b,off,e,hb,λi x hi j v hj=>?_⟩;rw[List.getElem?_map]at hi;obtain⟨y,hy,rfl⟩:=Option.map_eq_some_iff.1 hi;exact hc i y hy j v hj
theorem box_ext {w w2:World}(hx:Ext w w2){b:Nat}(hb:w.heap.size<=b)(v0 v1:Value):Ext w ((w2.setCell ⟨b,0,none⟩ v0).setCell ⟨b,1,none⟩ v1).drew:=
 ((((Ext.but hx (λj=>w.heap.size<=j)).setCell (p:=⟨b,0,none⟩) (λ_=>hb) v0).setCell (p:=⟨b,1,none⟩) (λ_=>hb) v1).drew).ext (λj hj e=>by omega)
theorem box_put {w:World}{b:Nat}{u0 u1:Value}{t:TypeId}(h:Blk w b [u0,u1] t)(v0 v1:Value):Blk ((w.setCell ⟨b,0,none⟩ v0).setCell ⟨b,1,none⟩ v1).drew b [v0,v1] t:=((h.set 0 v0).set 1 v1).drew
theorem prepare_calls {B:Nat}(k:TrK)(d:TrD)(c n ep:Int)(acts:List ActD)(ao:Option Addr)(cap:Nat)(w:World)(hv:LV B w)(hB:B<=w.heap.size)(T:TrIs w k d)(hl:acts.length<=1000)(hok:∀a∈acts,a.ok)(hnr:NRows 4 encAct k.owns w ao acts)(hks:∀a∈acts,a.key.size<=140737488351232)
 (hc: -9223372036854775808<=c/\c<=9223372036854775807):
 Calls Tryz.prog 28 #[.pointer (some ⟨k.tb,0,none⟩),.agg #[.int .i64 c,.int .i64 n],.int .i64 ep,.slice ao acts.length cap] w (PrepPost c n ep acts k d w):=by
 have hr:=hnr.rows;have HNR:=qA hnr;clear hnr;obtain⟨w1,hw1⟩:∃w1,w1=((((w.alloc (.cells #[.pointer (some ⟨k.tb,0,none⟩)] 25)).alloc (.cells #[.int .i64 c,.int .i64 n] 35)).alloc (.cells #[.int .i64 ep] 3)).alloc (.cells #[.int .i64 0,.int .i64 0] 35)).alloc (.cells #[.int .i64 0,.int .i64 0] 35):=⟨_,rfl⟩;have hx1:Ext w w1:=by rw[hw1];exact (((((qK _ w).alloc (qL _) _).alloc (by simp only[World.size_alloc];omega) _).alloc (by simp only[World.size_alloc];omega) _).alloc (by simp only[World.size_alloc];omega) _).alloc (by simp only[World.size_alloc];omega) _
 have p4:Blk w1 w.heap.size [.pointer (some ⟨k.tb,0,none⟩)] 25:=by rw[hw1];exact ((((Blk.new w _ _).alloc _).alloc _).alloc _).alloc _
 have p5:Blk w1 (w.heap.size+1) [.int .i64 c,.int .i64 n] 35:=by
  rw[hw1]
  have:=Blk.new (w.alloc (.cells #[.pointer (some ⟨k.tb,0,none⟩)] 25)) [.int .i64 c,.int .i64 n] 35
  rw[World.size_alloc]at this;exact ((this.alloc _).alloc _).alloc _
 have p6:Blk w1 (w.heap.size+1+1) [.int .i64 ep] 3:=by
  rw[hw1]
  have:=Blk.new ((w.alloc (.cells #[.pointer (some ⟨k.tb,0,none⟩)] 25)).alloc (.cells #[.int .i64 c,.int .i64 n] 35)) [.int .i64 ep] 3
  rw[World.size_alloc,World.size_alloc]at this;exact (this.alloc _).alloc _
 have p9:Blk w1 (w.heap.size+1+1+1) [.int .i64 0,.int .i64 0] 35:=by
  rw[hw1]
  have:=Blk.new (((w.alloc (.cells #[.pointer (some ⟨k.tb,0,none⟩)] 25)).alloc (.cells #[.int .i64 c,.int .i64 n] 35)).alloc (.cells #[.int .i64 ep] 3)) [.int .i64 0,.int .i64 0] 35
  rw[World.size_alloc,World.size_alloc,World.size_alloc]at this;exact this.alloc _
 have p11:Blk w1 (w.heap.size+1+1+1+1) [.int .i64 0,.int .i64 0] 35:=by
  rw[hw1]
  have:=Blk.new ((((w.alloc (.cells #[.pointer (some ⟨k.tb,0,none⟩)] 25)).alloc (.cells #[.int .i64 c,.int .i64 n] 35)).alloc (.cells #[.int .i64 ep] 3)).alloc (.cells #[.int .i64 0,.int .i64 0] 35)) [.int .i64 0,.int .i64 0] 35
  rw[World.size_alloc,World.size_alloc,World.size_alloc,World.size_alloc]at this;exact this
 have X1:=qA hx1;have W1:=qA hw1;have HT:=qA T;have HR:=qA hr;have HV:=qA hv;have HOK:=qA hok;have HKS:=qA hks;have T1:=qA (T.ext hx1);have P4:=qA p4;have P5:=qA p5;have P6:=qA p6;have P9:=qA p9;have P11:=qA p11;have htl:=T.blk.lt;clear hx1 hw1 T hr hv hok hks p4 p5 p6 p9 p11;go_enter Tryz.func28,Tryz.ntmps28;go_upto_region 2 with fail;rw[<- W1.out];clear W1;have q4:=P4.out.cell 0;have c6:=T1.out.blk.cell 6;simp only[qB,qC]at q4 c6;go_upto_region 4 with (go_at_call 38;refine (trThere_calls k.tb true _ c6).mono ?_;rintro e w' ⟨rfl,rfl⟩);cases hn:nameB c n with
 | false=>
   have OKF:Hid (prepOk c n ep acts=false):=qA (by unfold prepOk;rw[hn];rfl);have HN:=qA (actName_calls c n w1);rw[hn]at HN;have q5:=P5.out.cell 0;have q6:=P5.out.cell 1;simp only[qB,qC]at q5 q6;clear hn;go_wp2_with fail;refine HN.out.mono ?_;rintro e w2 ⟨rfl,hx2⟩;have X2:=qA hx2;clear hx2 q5 q6 HN;have n0:=(P11.out.ext' X2.out).cell 0;have n1:=(P11.out.ext' X2.out).cell 1;have m0:=(P9.out.ext' X2.out).cell 0;have m1:=(P9.out.ext' X2.out).cell 1;have f0:=(P9.out.ext' X2.out).free 0;have f1:=(P9.out.ext' X2.out).free 1;simp only[qB,qC]at n0 n1 m0 m1;have hd:prepD c n ep acts d=(2,d):=by unfold prepD;rw[if_pos OKF.out]
   have HDD:=qA hd;clear hd;go_wp2_with fail
   go_region_with (fail)
   all_goals
    go_wp2_with fail;refine bodyPost_ret (res_tmp_row_tmp rfl _ _ (w.heap.size+1+1+1) 35 [.int .i64 0,.int .i64 0] _ rfl (box_put (P9.out.ext' X2.out) _ _) Tryz.underlying35 rfl (by kernel_rfl)) rfl ?_;unfold PrepPost;rw[HDD.out];exact⟨_,_,_,rfl,HT.out.self (box_ext (qJ X1.out X2.out) (by omega) _ _)⟩
 | true=>
   have HN:=qA (actName_calls c n w1);rw[hn]at HN;have q5:=P5.out.cell 0;have q6:=P5.out.cell 1;simp only[qB,qC]at q5 q6;have HNM:=qA hn;have HRT:Hid (∀W,Ext w W->Calls Tryz.prog 80 #[.slice ao acts.length cap] W λe w'=>e= .returned (.bool (rightsB acts))/\Ext W w'):=qA (λW hW=>rights_calls right_calls acts ao cap W (by omega) HOK.out ((HR.out.ext hW).mono hW.size));clear hn;go_wp2_with fail;refine HN.out.mono ?_;rintro e w2 ⟨rfl,hx2⟩;have X2:=qA hx2;clear hx2 q5 q6 HN;cases hri:rightsB acts with
   | false=>
     have OKF:Hid (prepOk c n ep acts=false):=qA (by unfold prepOk;rw[hri];simp);rw[hri]at HRT;clear hri;go_wp2_with fail;refine (HRT.out _ (qJ X1.out X2.out)).mono ?_;rintro e w3 ⟨rfl,hx3⟩;replace X2:=qA (qJ X2.out hx3);clear hx3;have n0:=(P11.out.ext' X2.out).cell 0;have n1:=(P11.out.ext' X2.out).cell 1;have m0:=(P9.out.ext' X2.out).cell 0;have m1:=(P9.out.ext' X2.out).cell 1;have f0:=(P9.out.ext' X2.out).free 0;have f1:=(P9.out.ext' X2.out).free 1;simp only[qB,qC]at n0 n1 m0 m1;have hd:prepD c n ep acts d=(2,d):=by unfold prepD;rw[if_pos OKF.out]
     have HDD:=qA hd;clear hd;go_wp2_with fail
     go_region_with (fail)
     all_goals
      go_wp2_with fail;refine bodyPost_ret (res_tmp_row_tmp rfl _ _ (w.heap.size+1+1+1) 35 [.int .i64 0,.int .i64 0] _ rfl (box_put (P9.out.ext' X2.out) _ _) Tryz.underlying35 rfl (by kernel_rfl)) rfl ?_;unfold PrepPost;rw[HDD.out];exact⟨_,_,_,rfl,HT.out.self (box_ext (qJ X1.out X2.out) (by omega) _ _)⟩
   | true=>
     have HRI:=qA hri;rw[hri]at HRT;clear hri;go_wp2_with fail;refine (HRT.out _ (qJ X1.out X2.out)).mono ?_;rintro e w3 ⟨rfl,hx3⟩;replace X2:=qA (qJ X2.out hx3);have e6:=(P6.out.ext' X2.out).cell 0;simp only[qB]at e6;have XA:=qA (qJ X2.out ((qK _ w3).alloc (qL _) (.cells #[.int .i64 ep] 3)));have NB:=qA (number_calls1 ep w3.heap.size 1 (w3.alloc (.cells #[.int .i64 ep] 3)) ((Blk.new w3 [.int .i64 ep] 3).cell 0));clear hx3;cases hbn:badN ep with
     | true=>
       have OKF:Hid (prepOk c n ep acts=false):=qA (by unfold prepOk;rw[hbn];simp);rw[hbn]at NB;clear hbn;go_wp2_with fail;refine NB.out.mono ?_;rintro e w4 ⟨rfl,hx4⟩;replace X2:=qA (qJ XA.out hx4);clear hx4 e6;have n0:=(P11.out.ext' X2.out).cell 0;have n1:=(P11.out.ext' X2.out).cell 1;have m0:=(P9.out.ext' X2.out).cell 0;have m1:=(P9.out.ext' X2.out).cell 1;have f0:=(P9.out.ext' X2.out).free 0;have f1:=(P9.out.ext' X2.out).free 1;simp only[qB,qC]at n0 n1 m0 m1;have hd:prepD c n ep acts d=(2,d):=by unfold prepD;rw[if_pos OKF.out]
       have HDD:=qA hd;clear hd;go_wp2_with fail
       go_region_with (fail)
       all_goals
        go_wp2_with fail;refine bodyPost_ret (res_tmp_row_tmp rfl _ _ (w.heap.size+1+1+1) 35 [.int .i64 0,.int .i64 0] _ rfl (box_put (P9.out.ext' X2.out) _ _) Tryz.underlying35 rfl (by kernel_rfl)) rfl ?_;unfold PrepPost;rw[HDD.out];exact⟨_,_,_,rfl,HT.out.self (box_ext (qJ X1.out X2.out) (by omega) _ _)⟩
     | false=>
       have OKT:Hid (prepOk c n ep acts=true):=qA (by unfold prepOk;rw[HNM.out,HRI.out,hbn];rfl);rw[hbn]at NB;clear hbn;go_wp2_with fail;refine NB.out.mono ?_;rintro e w4 ⟨rfl,hx4⟩;replace X2:=qA (qJ XA.out hx4);clear hx4 e6 XA;have HKY:=qA (keys_calls acts ao cap w4 (by omega) ((HR.out.ext (qJ X1.out X2.out)).mono (qJ X1.out X2.out).size));go_wp2_with fail;refine HKY.out.mono ?_;rintro e w5 ⟨ko,kc,rfl,hk5,hx5⟩;replace X2:=qA (qJ X2.out hx5);have hkl:(keysL acts).length<=1000:=qM (keysL_len acts) hl;have HHAD:=qA (had_calls k d c n acts ao cap w5 (T1.out.ext X2.out) hl ((HR.out.ext (qJ X1.out X2.out)).mono (qJ X1.out X2.out).size));obtain⟨ks,hks⟩:∃ks,ks=keysL acts:=⟨_,rfl⟩;rw[<- hks]at hk5 hkl HHAD ⊢;have KS:=qA hks;have RK:=qA hk5;have s4:=(P4.out.ext' X2.out).cell 0;have s50:=(P5.out.ext' X2.out).cell 0;have s51:=(P5.out.ext' X2.out).cell 1;simp only[qB,qC]at s4 s50 s51;clear hks hk5 hx5 HKY HNM HRT NB q4 c6;go_wp2_with fail;refine HHAD.out.mono ?_;rintro e w6 ⟨gv,L,rfl,hg6,hx6⟩;obtain⟨go,gc,rfl⟩:=own_slice hg6.own;have hx6':Ext w5 w6:=hx6;have Y6:=qA (qJ X2.out hx6);have G6:=qA hg6;have RK6:=qA ((RK.out.ext hx6).mono hx6.size);have S6:=qA hx6.size;obtain⟨bz,hbz⟩:∃r,r=busyL (λk=>hasD k d.holds) (nameD d.holds) c n (sortL ks):=⟨_,rfl⟩;obtain⟨bs,hbs⟩:∃bs,bs=ks.map (λk:Txt=>(⟨k.toArray⟩:ByteArray)):=⟨_,rfl⟩;have hbl:bs.length=ks.length:=by rw[hbs,List.length_map]
       have hbb:bytesL bs=ks:=by rw[hbs];unfold bytesL;rw[List.map_map];exact (List.map_congr_left (λk _=>rfl)).trans (List.map_id _)
       have hbr:Rows 1 encStr w6.heap.size w6 ko bs:=by rw[hbs];exact rows_bs RK6.out
       rw[<- hbb]at hbz;have BZ:=qA hbz;have BS:=qA hbs;have BL:=qA hbl;have BB:=qA hbb;have BR:=qA hbr
       have HBY:Hid (∀W,Ext w6 W->Calls Tryz.prog 83 #[.pointer (some ⟨k.hb,0,none⟩),.agg #[.int .i64 c,.int .i64 n],.slice ko ks.length kc] W λe w'=>e= .returned (.tuple #[.agg #[.int .i64 bz.1,.int .i64 bz.2.1],.bool bz.2.2])/\Ext W w'):=qA (λW hW=>by
        rw[<- BL.out];refine (busyT_calls k.hb k.hv d.holds c n bs ko kc W ((T1.out.ext (qJ Y6.out hW)).ht) (by rw[BL.out];omega) ((BR.out.ext hW).mono hW.size)).mono ?_;rintro e w' ⟨⟨r,hr,rfl⟩,hx⟩;rw[<- BZ.out]at hr
        exact⟨by rw[hr],hx⟩)
       clear hg6 hx6 hbz hbs hbl hbb hbr s4 s50 s51 HHAD;have s4:=(P4.out.ext' Y6.out).cell 0;have s50:=(P5.out.ext' Y6.out).cell 0;have s51:=(P5.out.ext' Y6.out).cell 1;have c1:=(T1.out.ext Y6.out).blk.cell 1;simp only[qB,qC]at s4 s50 s51 c1;replace s4:=ExtBy.cell s4;replace s50:=ExtBy.cell s50;replace s51:=ExtBy.cell s51;replace c1:=ExtBy.cell c1;go_upto_region 10 with fail;go_cut [15,16] from 49 to 59 (λp s W=>∃b,p= .pointer (some ⟨b,0,none⟩)/\s= .bool bz.2.2/\Hid (Blk W b [.int .i64 bz.1,.int .i64 bz.2.1] 35)/\Hid (w6.heap.size<=b)/\Hid (Ext w6 W))
       case first=>
        obtain⟨bc,bn,bb⟩:=bz;refine wp_region_firstC (λW=>∃p:ExtBy w6,W=p.W) [0,1,2,3,4,5,6] 7 (by kernel_rfl) (by kernel_rfl) (λ_ _ _ _ h=>h) ⟨⟨w6.drew,(qK _ w6).drew⟩,rfl⟩ ?_;simp only[opsAt,qD,qC,qB]
        repeat (go_big_quiet_step (fail))
        refine wpQuiet_nil ?_;obtain⟨wq,hwq⟩:∃wq,wq=w6.drew:=⟨_,rfl⟩;have XQ:Hid (Ext w6 wq):=qA (by rw[hwq];exact (qK _ w6).drew);rw[<- hwq];clear hwq s4 s50 s51 c1;refine wpAnyH_ready (rs:=[7,11]) (by kernel_rfl) (by simp) ?_;refine AllReadyH.cons rfl (λK hK=>?_) (AllReadyH.cons rfl (λK hK=>?_) AllReadyH.nil)
        · skip
          go_simp;refine (HBY.out _ XQ.out).mono ?_
          rintro e w7 ⟨rfl,hx⟩;have X7:=qA (qJ XQ.out hx);refine hK.out _ _ ⟨⟨_,X7.out⟩,rfl⟩ (λ_=>?_);clear hK K;clear hx;refine wp_takesC (f:=3) [8,9,10] (by kernel_rfl) (λ_ _ _ _ h=>h) ⟨⟨_,X7.out⟩,rfl⟩ ?_;simp only[opsAt,qD,qC,qB]
          repeat (go_big_quiet_step (fail))
          refine wpQuiet_nil ?_;refine wpAnyH_ready (rs:=[11]) (by kernel_rfl) (by simp) ?_;refine AllReadyH.cons rfl (λK hK=>?_) AllReadyH.nil;go_simp;obtain⟨w8,hwb⟩:∃wb,wb=w7.alloc (.cells #[.int .i64 0,.int .i64 0] 35):=⟨_,rfl⟩;have X8:Hid (Ext w6 w8):=qA (by rw[hwb];exact qJ X7.out ((qK _ _).alloc (qL _) _));have BN:Hid (Blk w8 w7.heap.size [.int .i64 0,.int .i64 0] 35):=qA (by rw[hwb];exact Blk.new _ _ _);have NB:Hid (w6.heap.size<=w7.heap.size):=qA X7.out.size;obtain⟨bk,hbk⟩:∃bk,bk=w7.heap.size:=⟨_,rfl⟩;rw[<- hbk]at BN NB;rw[<- hwb,<- hbk];refine hK.out _ _ ⟨⟨_,X8.out⟩,rfl⟩ (λ_=>?_);clear hK K;clear hwb hbk;have t0:=BN.out.cell 0;have t1:=BN.out.cell 1;have f0:=BN.out.free 0;have f1:=BN.out.free 1;simp only[qB,qC]at t0 t1;refine wpAnyH_ready (rs:=[12]) (by kernel_rfl) (by simp) ?_;refine AllReadyH.cons rfl (λK hK=>?_) AllReadyH.nil;go_simp;have XS:Hid (Ext w6 ((w8.setCell ⟨bk,0,none⟩ (.int .i64 bc)).setCell ⟨bk,1,none⟩ (.int .i64 bn))):=qA ((((Ext.but X8.out (λj=>w6.heap.size<=j)).setCell (p:=⟨bk,0,none⟩) (λ_=>NB.out) _).setCell (p:=⟨bk,1,none⟩) (λ_=>NB.out) _).ext (λj hj e=>by omega));have BS2:Hid (Blk ((w8.setCell ⟨bk,0,none⟩ (.int .i64 bc)).setCell ⟨bk,1,none⟩ (.int .i64 bn)) bk [.int .i64 bc,.int .i64 bn] 35):=qA ((BN.out.set 0 _).set 1 _);clear t0 t1 f0 f1;refine hK.out _ _ ⟨⟨_,XS.out⟩,rfl⟩ (λ_=>?_);clear hK K;refine wp_takesC (f:=0) [13] (by kernel_rfl) (λ_ _ _ _ h=>h) ⟨⟨_,XS.out⟩,rfl⟩ ?_;simp only[opsAt,qD,qC,qB]
          repeat (go_big_quiet_step (fail))
          refine wpQuiet_nil ?_;refine wpAnyH_done (by kernel_rfl) ?_ _;go_wp2_with fail;go_meet;exact⟨_,rfl,rfl,BS2,NB,XS⟩
        · skip
          go_simp;obtain⟨w7,hwb⟩:∃wb,wb=wq.alloc (.cells #[.int .i64 0,.int .i64 0] 35):=⟨_,rfl⟩
          have X7:Hid (Ext w6 w7):=qA (by rw[hwb];exact qJ XQ.out ((qK _ _).alloc (qL _) _));have BN:Hid (Blk w7 wq.heap.size [.int .i64 0,.int .i64 0] 35):=qA (by rw[hwb];exact Blk.new _ _ _);have NB:Hid (w6.heap.size<=wq.heap.size):=qA XQ.out.size;obtain⟨bk,hbk⟩:∃bk,bk=wq.heap.size:=⟨_,rfl⟩;rw[<- hbk]at BN NB;rw[<- hwb,<- hbk];refine hK.out _ _ ⟨⟨_,X7.out⟩,rfl⟩ (λ_=>?_);clear hK K;clear hwb hbk;refine wpAnyH_ready (rs:=[7]) (by kernel_rfl) (by simp) ?_;refine AllReadyH.cons rfl (λK hK=>?_) AllReadyH.nil;go_simp;refine (HBY.out _ X7.out).mono ?_;rintro e w8 ⟨rfl,hx⟩;have X8:=qA (qJ X7.out hx);replace BN:=qA (BN.out.ext' hx);refine hK.out _ _ ⟨⟨_,X8.out⟩,rfl⟩ (λ_=>?_);clear hK K;clear hx;refine wp_takesC (f:=2) [8,9,10] (by kernel_rfl) (λ_ _ _ _ h=>h) ⟨⟨_,X8.out⟩,rfl⟩ ?_;simp only[opsAt,qD,qC,qB]
          repeat (go_big_quiet_step (fail))
          refine wpQuiet_nil ?_;have t0:=BN.out.cell 0;have t1:=BN.out.cell 1;have f0:=BN.out.free 0;have f1:=BN.out.free 1;simp only[qB,qC]at t0 t1;refine wpAnyH_ready (rs:=[12]) (by kernel_rfl) (by simp) ?_;refine AllReadyH.cons rfl (λK hK=>?_) AllReadyH.nil;go_simp;have XS:Hid (Ext w6 ((w8.setCell ⟨bk,0,none⟩ (.int .i64 bc)).setCell ⟨bk,1,none⟩ (.int .i64 bn))):=qA ((((Ext.but X8.out (λj=>w6.heap.size<=j)).setCell (p:=⟨bk,0,none⟩) (λ_=>NB.out) _).setCell (p:=⟨bk,1,none⟩) (λ_=>NB.out) _).ext (λj hj e=>by omega));have BS2:Hid (Blk ((w8.setCell ⟨bk,0,none⟩ (.int .i64 bc)).setCell ⟨bk,1,none⟩ (.int .i64 bn)) bk [.int .i64 bc,.int .i64 bn] 35):=qA ((BN.out.set 0 _).set 1 _);clear t0 t1 f0 f1;refine hK.out _ _ ⟨⟨_,XS.out⟩,rfl⟩ (λ_=>?_);clear hK K;refine wp_takesC (f:=0) [13] (by kernel_rfl) (λ_ _ _ _ h=>h) ⟨⟨_,XS.out⟩,rfl⟩ ?_;simp only[opsAt,qD,qC,qB]
          repeat (go_big_quiet_step (fail))
          refine wpQuiet_nil ?_;refine wpAnyH_done (by kernel_rfl) ?_ _;go_wp2_with fail;go_meet;exact⟨_,rfl,rfl,BS2,NB,XS⟩
       case rest=>
        obtain⟨b15,rfl,rfl,hb7,hn7,hx7⟩:=hcut;obtain⟨w7,rfl⟩:∃w,w=wc:=⟨_,rfl⟩;have X7:=qA (qJ Y6.out hx7.out);replace G6:=qA (G6.out.ext hx7.out);replace BR:=qA ((BR.out.ext hx7.out).mono hx7.out.size);have h4:=(P4.out.ext' X7.out).cell 0;have h6:=(P6.out.ext' X7.out).cell 0;simp only[qB]at h4 h6;obtain⟨aw,haw⟩:∃b,b=ks.any λk=> !openL d.parts k λp=>p.ep==ep:=⟨_,rfl⟩;have HAWV:=qA haw
        have HAW:Hid (Calls Tryz.prog 84 #[.slice ko ks.length kc,.func (.func 85) #[] #[.pointer (some ⟨w.heap.size,0,none⟩),.pointer (some ⟨w.heap.size+1+1,0,none⟩)]] w7 λe w'=>e= .returned (.bool aw)/\Ext w7 w'):=qA (by
         have h:=containsStr_calls 85 #[.pointer (some ⟨w.heap.size,0,none⟩),.pointer (some ⟨w.heap.size+1+1,0,none⟩)] (enters_of Tryz.func85 (by kernel_rfl) rfl) (λkk=> !openL d.parts kk.data.toList λp=>p.ep==ep) bs ko kc w7 (by rw[BL.out];omega) BR.out (λW hW x hx=>prep2_calls x k d ep w.heap.size (w.heap.size+1+1) W (T1.out.ext (qJ X7.out hW)) ((hW.cell (p:=⟨w.heap.size,0,none⟩) (block_lt_of_cell h4)).trans h4) ((hW.cell (p:=⟨w.heap.size+1+1,0,none⟩) (block_lt_of_cell h6)).trans h6) (by
          rw[BS.out]at hx;obtain⟨y,hy,rfl⟩:=List.mem_map.1 hx;rw[KS.out]at hy;obtain⟨a,ha,rfl⟩:=(keysL_mem acts y).1 hy
          have:=HKS.out a ha
          rw[show (⟨(keyT a).toArray⟩:ByteArray)=a.key from by unfold keyT;rw[Array.toArray_toList]]
          exact this))
         rw[BL.out]at h;rw[show bs.any (λkk=> !openL d.parts kk.data.toList λp=>p.ep==ep)=aw from by rw[HAWV.out,BS.out,List.any_map];rfl]at h
         exact h)
        clear haw s4 s50 s51 c1 h4 h6 HBY BR;go_wp2_with fail;refine HAW.out.mono ?_;rintro e w8 ⟨rfl,hx8⟩;have X8:=qA (qJ X7.out hx8);have B8:=qA (hb7.out.ext' hx8);replace G6:=qA (G6.out.ext hx8);have hLl:L.length<=1000:=by rw[G6.out.are.len];exact qM (hadL_len _ _ _ _) hkl
        have X58:=qA (qJ (qJ hx6' hx7.out) hx8);clear HAW hx8 hx7 hb7 hn7;cases hju:hadJ c n d.holds acts ks with
        | true=>
          have HJ:=qA hju;clear hju;obtain⟨_,_,hv,_,_,hrw⟩:=Rows.own (enc:=encHV) (sz:=7) (λ_=>rfl) G6.out.own;simp only[Value.slice.injEq,true_and]at hv;obtain⟨rfl,rfl⟩:=hv;have RH:=qA hrw;clear hrw;have TOLD:Hid (∀W,Ext w8 W->Calls Tryz.prog 88 #[.slice go L.length gc,.slice ao acts.length cap] W λe w'=>∃rv,e= .returned rv/\Ext W w'):=qA (λW hW=>(toldT_calls L (hadL c n d.holds ks) _ go gc acts ao cap W hLl hl HOK.out ((RH.out.ext hW).mono hW.size) (G6.out.are.ext hW) G6.out.cap (λh hh=>(HT.out.ht.ok h (had_mem hh)).1.ks) ((HR.out.ext (qJ X1.out (qJ X8.out hW))).mono (qJ X1.out (qJ X8.out hW)).size) (by rw[KS.out];exact had_told (λh hh=>(HT.out.ht.ok h hh).2) (by rw[<- KS.out];exact HJ.out))).mono (λe w' ⟨rv,h1,_,_,h2⟩=>⟨rv,h1,h2⟩));have HDD:Hid (prepD c n ep acts d=(0,d)):=qA (by unfold prepD;rw[<- KS.out,if_neg (by rw[OKT.out];decide),if_pos HJ.out]);go_upto_region 13 with fail;have n0:=(P11.out.ext' X8.out).cell 0;have n1:=(P11.out.ext' X8.out).cell 1;simp only[qB,qC]at n0 n1;replace n0:=ButBy.cell (S:=λj=>j=w.heap.size+1+1+1) n0 (by omega);replace n1:=ButBy.cell (S:=λj=>j=w.heap.size+1+1+1) n1 (by omega);refine wp_region_firstC (λW=>∃p:ButBy (λj=>j=w.heap.size+1+1+1) w8,W=p.W) [0,1,3] 4 (by kernel_rfl) (by kernel_rfl) (λ_ _ _ _ h=>h) ⟨⟨w8.drew,Ext.but (qK _ w8).drew _⟩,rfl⟩ ?_;simp only[opsAt,qD,qC,qB]
          repeat (go_big_quiet_step (fail))
          refine wpQuiet_nil ?_;obtain⟨wq,hwq⟩:∃wq,wq=w8.drew:=⟨_,rfl⟩;have XQ:Hid (Ext w8 wq):=qA (by rw[hwq];exact (qK _ w8).drew);rw[<- hwq];clear hwq n0 n1;refine wpAnyH_ready (rs:=[2]) (by kernel_rfl) (by simp) ?_;refine AllReadyH.cons rfl (λK hK=>?_) AllReadyH.nil;go_simp;refine (TOLD.out _ XQ.out).mono ?_;rintro e wt ⟨rv,rfl,hxt⟩;have XT:=qA (qJ XQ.out hxt);refine hK.out _ _ ⟨⟨_,Ext.but XT.out _⟩,rfl⟩ (λ_=>?_);clear hK K hxt;refine wp_takesC (f:=2) [4] (by kernel_rfl) (λ_ _ _ _ h=>h) ⟨⟨_,Ext.but XT.out _⟩,rfl⟩ ?_;simp only[opsAt,qD,qC,qB]
          repeat (go_big_quiet_step (fail))
          refine wpQuiet_nil ?_;have PT:=qA ((P9.out.ext' X8.out).ext' XT.out);have t0:=PT.out.cell 0;have t1:=PT.out.cell 1;have f0:=PT.out.free 0;have f1:=PT.out.free 1;simp only[qB,qC]at t0 t1;refine wpAnyH_ready (rs:=[5]) (by kernel_rfl) (by simp) ?_;refine AllReadyH.cons rfl (λK hK=>?_) AllReadyH.nil;go_simp;have BP:Hid (But (λj=>j=w.heap.size+1+1+1) w8 ((wt.setCell ⟨w.heap.size+1+1+1,0,none⟩ (.int .i64 0)).setCell ⟨w.heap.size+1+1+1,1,none⟩ (.int .i64 0))):=qA (((Ext.but XT.out (λj=>j=w.heap.size+1+1+1)).setCell (p:=⟨w.heap.size+1+1+1,0,none⟩) (λ_=>rfl) _).setCell (p:=⟨w.heap.size+1+1+1,1,none⟩) (λ_=>rfl) _);refine hK.out _ _ ⟨⟨_,BP.out⟩,rfl⟩ (λ_=>?_);clear hK K t0 t1 f0 f1;refine wp_takesC (f:=0) [6] (by kernel_rfl) (λ_ _ _ _ h=>h) ⟨⟨_,BP.out⟩,rfl⟩ ?_;simp only[opsAt,qD,qC,qB]
          repeat (go_big_quiet_step (fail))
          refine wpQuiet_nil ?_;refine wpAnyH_done (by kernel_rfl) ?_ _;go_wp2_with fail;refine bodyPost_ret (res_tmp_row_tmp rfl _ _ (w.heap.size+1+1+1) 35 [.int .i64 0,.int .i64 0] _ rfl (box_put' PT.out _ _) Tryz.underlying35 rfl (by kernel_rfl)) rfl ?_;unfold PrepPost;rw[HDD.out];exact⟨_,_,_,rfl,HT.out.self (box_ext' (qJ X1.out (qJ X8.out XT.out)) (by omega) _ _)⟩
        | false=>
          have HJ:=qA hju;clear hju;by_cases hL0:L.length=0
          · have HLZ:Hid (¬0<(hadL c n d.holds ks).length):=qA (by rw[<- G6.out.are.len];omega)
            obtain rfl:L=[]:=List.length_eq_zero_iff.1 hL0;simp only[List.length_nil]at G6 ⊢;clear hL0 hLl;have s4:=(P4.out.ext' X8.out).cell 0;have s50:=(P5.out.ext' X8.out).cell 0;have s51:=(P5.out.ext' X8.out).cell 1;have c2:=(T1.out.ext X8.out).blk.cell 2;simp only[qB,qC]at s4 s50 s51 c2;replace s4:=ExtBy.cell s4;replace s50:=ExtBy.cell s50;replace s51:=ExtBy.cell s51;replace c2:=ExtBy.cell c2;have HIS:=qA (λW (hW:Ext w8 W)=>isPast_calls k.pb d.ns c n W ((T1.out.ext (qJ X8.out hW)).pt) hc);go_upto_region 15 with fail;refine wp_region_firstC (λW=>∃p:ExtBy w8,W=p.W) [0,1,2,3,4,5] 2 (by kernel_rfl) (by kernel_rfl) (λ_ _ _ _ h=>h) ⟨⟨w8.drew,(qK _ w8).drew⟩,rfl⟩ ?_;simp only[opsAt,qD,qC,qB]
            repeat (go_big_quiet_step (fail))
            refine wpQuiet_nil ?_;obtain⟨wq,hwq⟩:∃wq,wq=w8.drew:=⟨_,rfl⟩;have XQ:Hid (Ext w8 wq):=qA (by rw[hwq];exact (qK _ w8).drew);rw[<- hwq];clear hwq s4 s50 s51 c2;refine wpAnyH_ready (rs:=[6]) (by kernel_rfl) (by simp) ?_;refine AllReadyH.cons rfl (λK hK=>?_) AllReadyH.nil;go_simp;refine (HIS.out _ XQ.out).mono ?_;rintro e w9 ⟨rfl,hx9⟩;have Y9:=qA (qJ XQ.out hx9);refine hK.out _ _ ⟨⟨_,Y9.out⟩,rfl⟩ (λ_=>?_);clear hK K hx9;refine wp_takesC (f:=0) [7] (by kernel_rfl) (λ_ _ _ _ h=>h) ⟨⟨_,Y9.out⟩,rfl⟩ ?_;simp only[opsAt,qD,qC,qB]
            repeat (go_big_quiet_step (fail))
            refine wpQuiet_nil ?_;refine wpAnyH_done (by kernel_rfl) ?_ _;have X9:=qA (qJ X8.out Y9.out);have B9:=qA (B8.out.ext' Y9.out);have X59:=qA (qJ X58.out Y9.out);replace G6:=qA (G6.out.ext Y9.out);clear HIS B8 XQ;cases hip:isP c n d.ns with
            | true=>
              have HIP:=qA hip;clear hip;have n0:=(P11.out.ext' X9.out).cell 0;have n1:=(P11.out.ext' X9.out).cell 1;have m0:=(P9.out.ext' X9.out).cell 0;have m1:=(P9.out.ext' X9.out).cell 1;have f0:=(P9.out.ext' X9.out).free 0;have f1:=(P9.out.ext' X9.out).free 1;simp only[qB,qC]at n0 n1 m0 m1
              have HDD:Hid (prepD c n ep acts d=(22,d)):=qA (by
               unfold prepD;rw[<- KS.out,if_neg (by rw[OKT.out];decide),if_neg (by rw[HJ.out];decide),if_pos (Or.inr HIP.out)])
              go_wp2_with fail
              go_region_with (fail)
              all_goals
               go_wp2_with fail;refine bodyPost_ret (res_tmp_row_tmp rfl _ _ (w.heap.size+1+1+1) 35 [.int .i64 0,.int .i64 0] _ rfl (box_put (P9.out.ext' X9.out) _ _) Tryz.underlying35 rfl (by kernel_rfl)) rfl ?_;unfold PrepPost;rw[HDD.out];exact⟨_,_,_,rfl,HT.out.self (box_ext (qJ X1.out X9.out) (by omega) _ _)⟩
            | false=>
              have HIP:Hid (¬(0<(hadL c n d.holds ks).length\/isP c n d.ns=true)):=qA (λh=>h.elim HLZ.out (λh=>by rw[hip]at h;cases h));clear hip;cases haw2:aw with
              | true=>
                have HA2:Hid ((ks.any λk=> !openL d.parts k λp=>p.ep==ep)=true):=qA (by rw[<- HAWV.out];exact haw2);clear haw2;have n0:=(P11.out.ext' X9.out).cell 0;have n1:=(P11.out.ext' X9.out).cell 1;have m0:=(P9.out.ext' X9.out).cell 0;have m1:=(P9.out.ext' X9.out).cell 1;have f0:=(P9.out.ext' X9.out).free 0;have f1:=(P9.out.ext' X9.out).free 1;simp only[qB,qC]at n0 n1 m0 m1
                have HDD:Hid (prepD c n ep acts d=(20,d)):=qA (by
                 unfold prepD;rw[<- KS.out,if_neg (by rw[OKT.out];decide),if_neg (by rw[HJ.out];decide),if_neg HIP.out,if_pos HA2.out])
                go_wp2_with fail
                go_region_with (fail)
                all_goals
                 go_wp2_with fail;refine bodyPost_ret (res_tmp_row_tmp rfl _ _ (w.heap.size+1+1+1) 35 [.int .i64 0,.int .i64 0] _ rfl (box_put (P9.out.ext' X9.out) _ _) Tryz.underlying35 rfl (by kernel_rfl)) rfl ?_;unfold PrepPost;rw[HDD.out];exact⟨_,_,_,rfl,HT.out.self (box_ext (qJ X1.out X9.out) (by omega) _ _)⟩
              | false=>
                have HA2:Hid (¬(ks.any λk=> !openL d.parts k λp=>p.ep==ep)=true):=qA (by rw[<- HAWV.out,haw2];decide);clear haw2;cases hbb:bz.2.2 with
                | true=>
                  have HB2:Hid ((busyL (λk=>hasD k d.holds) (nameD d.holds) c n (sortL ks)).2.2=true):=qA (by rw[<- BB.out,<- BZ.out];exact hbb);clear hbb;have n0:=B9.out.cell 0;have n1:=B9.out.cell 1;have m0:=(P9.out.ext' X9.out).cell 0;have m1:=(P9.out.ext' X9.out).cell 1;have f0:=(P9.out.ext' X9.out).free 0;have f1:=(P9.out.ext' X9.out).free 1;simp only[qB,qC]at n0 n1 m0 m1
                  have HDD:Hid (prepD c n ep acts d=(21,d)):=qA (by
                   unfold prepD;rw[<- KS.out,if_neg (by rw[OKT.out];decide),if_neg (by rw[HJ.out];decide),if_neg HIP.out,if_neg HA2.out,if_pos HB2.out])
                  go_wp2_with fail
                  go_region_with (fail)
                  all_goals
                   go_wp2_with fail;refine bodyPost_ret (res_tmp_row_tmp rfl _ _ (w.heap.size+1+1+1) 35 [.int .i64 bz.1,.int .i64 bz.2.1] _ rfl (box_put (P9.out.ext' X9.out) _ _) Tryz.underlying35 rfl (by kernel_rfl)) rfl ?_;unfold PrepPost;rw[HDD.out];exact⟨_,_,_,rfl,HT.out.self (box_ext (qJ X1.out X9.out) (by omega) _ _)⟩
                | false=>
                  have HB2:Hid (¬(busyL (λk=>hasD k d.holds) (nameD d.holds) c n (sortL ks)).2.2=true):=qA (by rw[<- BB.out,<- BZ.out,hbb];decide);clear hbb
                  have PD:Hid (prepD c n ep acts d=if roomD d.rows d.holds (prepL c n acts d.rows ks)=false then (8,d) else (0,{ d with holds:=putT (prepL c n acts d.rows ks) d.holds })):=qA (by
                   unfold prepD;rw[<- KS.out,if_neg (by rw[OKT.out];decide),if_neg (by rw[HJ.out];decide),if_neg HIP.out,if_neg HA2.out,if_neg HB2.out])
                  clear HB2 HA2 HIP HLZ BZ BB BS BL B9 HAWV HJ OKT;have G:Hid (Grow w5.heap.size w9 (.slice go 0 gc) [] (prepL c n acts d.rows (ks.take 0))):=qA ⟨G6.out.own,G6.out.new,trivial,by simp⟩;clear G6;go_wp2_with fail;go_loopw [13,89] (λv i wr=>∃(j:Nat) (L:List HoldV) (go:Option Addr) (gc:Nat),j<=ks.length/\v= .slice go L.length gc/\i= .int .i64 j/\Grow w5.heap.size wr (.slice go L.length gc) L (prepL c n acts d.rows (ks.take j))/\Ext w5 wr) (λ_ i _=>ks.length - (intOf i).toNat)
                  case atStart=>exact⟨0,[],go,gc,by omega,rfl,rfl,G.out,X59.out⟩
                  case round=>
                   obtain⟨j,L,so,sc,hj,rfl,rfl,hg,hx⟩:=hrel;have GL:=qA hg;have K2:=qA hx;have X1r:=qA (qJ X2.out hx);clear hg hx;by_cases hlt:j<ks.length
                   · obtain⟨q,hq⟩:∃q,ks[j]? =some q:=⟨_,qE hlt⟩
                     obtain⟨kb,koff,hko,hkb,hcell⟩:=RK.out (by intro e;rw[e]at hlt;simp at hlt);subst hko;have d0:=(K2.out.cell (p:=⟨kb,_,none⟩) hkb).trans (hcell j q hq 0 _ rfl);simp only[Nat.mul_one,Nat.add_zero,Proofs.encStr]at d0;have HQ:=qA hq;have ii0:(0:Int)<=(j:Int):=by omega
                     have ii1:(j:Int)<(ks.length:Int):=by omega
                     have s50:=(P5.out.ext' X1r.out).cell 0;have s51:=(P5.out.ext' X1r.out).cell 1;simp only[qB,qC]at s50 s51;replace s50:=ExtBy.cell s50;replace s51:=ExtBy.cell s51;obtain⟨al,hal⟩:∃al,al=ofL q acts:=⟨_,rfl⟩;have HAL:=qA hal
                     have AO:Hid (∀W,Ext wr W->Calls Tryz.prog 90 #[.string ⟨q.toArray⟩,.slice ao acts.length cap] W λe w'=>∃ro rc,e= .returned (.slice ro al.length rc)/\w'.ownsRow 0 74 4 (.slice ro al.length rc) al.length (al.flatMap encAct)/\(∀j,(Value.slice ro al.length rc).ownBlock=some j->W.heap.size<=j)/\Ext W w'):=qA (λW hW=>by
                      refine (actOf_calls ⟨q.toArray⟩ acts ao cap W (by omega) ((HR.out.ext (qJ X1.out (qJ X1r.out hW))).mono (qJ X1.out (qJ X1r.out hW)).size)).mono ?_;rintro e w' ⟨rv,rfl,h1,h2,h3⟩;rw[show ofL (⟨q.toArray⟩:ByteArray).data.toList acts=al from HAL.out.symm]at h1;obtain⟨ro,rc,rfl⟩:=own_slice h1
                      exact⟨ro,rc,rfl,h1,h2,h3⟩)
                     clear hal hq hcell;go_upto_region 24 with fail;go_cut [20] from 93 to 98 (λp W=>∃(b:Nat) (ro:Option Addr) (rc:Nat),p= .pointer (some ⟨b,0,none⟩)/\Hid (Blk W b [.string ⟨q.toArray⟩,.int .i64 c,.int .i64 n,.slice ro al.length rc,.slice none 0 0,.bool false,.string ⟨#[]⟩] 48)/\Hid (W.ownsRow 0 74 4 (.slice ro al.length rc) al.length (al.flatMap encAct))/\Hid (∀j,(Value.slice ro al.length rc).ownBlock=some j->wr.heap.size<=j/\j≠b)/\Hid (wr.heap.size<=b)/\Hid (Ext wr W))
                     case first=>
                      refine wp_region_firstC (λW=>∃p:ExtBy wr,W=p.W) [0,1,2,3] 4 (by kernel_rfl) (by kernel_rfl) (λ_ _ _ _ h=>h) ⟨⟨wr.drew,(qK _ wr).drew⟩,rfl⟩ ?_;simp only[opsAt,qD,qC,qB]
                      repeat (go_big_quiet_step (fail))
                      refine wpQuiet_nil ?_;obtain⟨wq,hwq⟩:∃wq,wq=wr.drew:=⟨_,rfl⟩;have XQ:Hid (Ext wr wq):=qA (by rw[hwq];exact (qK _ wr).drew);rw[<- hwq];clear hwq s50 s51 d0;refine wpAnyH_ready (rs:=[4,6]) (by kernel_rfl) (by simp) ?_;refine AllReadyH.cons rfl (λK hK=>?_) (AllReadyH.cons rfl (λK hK=>?_) AllReadyH.nil)
                      · skip
                        go_simp;refine (AO.out _ XQ.out).mono ?_
                        rintro e w7 ⟨ro,rc,rfl,ho,hnw,hx⟩;have X7:=qA (qJ XQ.out hx);have OW:=qA ho;have NW:Hid (∀j,(Value.slice ro al.length rc).ownBlock=some j->wr.heap.size<=j/\j<w7.heap.size):=qA (λj e=>⟨qM XQ.out.size (hnw j e),(ho.lt j e).2⟩);refine hK.out _ _ ⟨⟨_,X7.out⟩,rfl⟩ (λ_=>?_);clear hK K;clear hx ho hnw;refine wp_takesC (f:=2) [5] (by kernel_rfl) (λ_ _ _ _ h=>h) ⟨⟨_,X7.out⟩,rfl⟩ ?_;simp only[opsAt,qD,qC,qB]
                        repeat (go_big_quiet_step (fail))
                        refine wpQuiet_nil ?_;refine wpAnyH_ready (rs:=[6]) (by kernel_rfl) (by simp) ?_;refine AllReadyH.cons rfl (λK hK=>?_) AllReadyH.nil;go_simp;obtain⟨w8,hwb⟩:∃wb,wb=w7.alloc (.cells #[.string ⟨#[]⟩,.int .i64 0,.int .i64 0,.slice none 0 0,.slice none 0 0,.bool false,.string ⟨#[]⟩] 48):=⟨_,rfl⟩;have YB:Hid (Ext w7 w8):=qA (by rw[hwb];exact (qK _ _).alloc (qL _) _);have X8:Hid (Ext wr w8):=qA (qJ X7.out YB.out);have BN:Hid (Blk w8 w7.heap.size [.string ⟨#[]⟩,.int .i64 0,.int .i64 0,.slice none 0 0,.slice none 0 0,.bool false,.string ⟨#[]⟩] 48):=qA (by rw[hwb];exact Blk.new _ _ _);have NB:Hid (wr.heap.size<=w7.heap.size):=qA X7.out.size;obtain⟨bk,hbk⟩:∃bk,bk=w7.heap.size:=⟨_,rfl⟩;have HBK:=qA hbk;rw[<- hbk]at BN NB;rw[<- hwb,<- hbk];refine hK.out _ _ ⟨⟨_,X8.out⟩,rfl⟩ (λ_=>?_);clear hK K;clear hwb hbk;replace OW:=qA (own_ext OW.out YB.out);have NN:Hid (∀j,(Value.slice ro al.length rc).ownBlock=some j->wr.heap.size<=j/\j≠bk):=qA (λj e=>⟨(NW.out j e).1,λe2=>by have:=(NW.out j e).2;have:=HBK.out;omega⟩);have t0:=BN.out.cell 0;have t1:=BN.out.cell 1;have t2:=BN.out.cell 2;have t3:=BN.out.cell 3;have t4:=BN.out.cell 4;have t5:=BN.out.cell 5;have t6:=BN.out.cell 6;have f0:=BN.out.free 0;have f1:=BN.out.free 1;have f2:=BN.out.free 2;have f3:=BN.out.free 3;have f4:=BN.out.free 4;have f5:=BN.out.free 5;have f6:=BN.out.free 6;simp only[qB,qC]at t0 t1 t2 t3 t4 t5 t6;refine wpAnyH_ready (rs:=[7]) (by kernel_rfl) (by simp) ?_;refine AllReadyH.cons rfl (λK hK=>?_) AllReadyH.nil
                        go_simp;obtain⟨ws,hws⟩:∃ws,ws=(((((((w8.setCell ⟨bk,0,none⟩ (.string ⟨q.toArray⟩)).setCell ⟨bk,1,none⟩ (.int .i64 c)).setCell ⟨bk,2,none⟩ (.int .i64 n)).setCell ⟨bk,3,none⟩ (.slice ro al.length rc)).setCell ⟨bk,4,none⟩ (.slice none 0 0)).setCell ⟨bk,5,none⟩ (.bool false)).setCell ⟨bk,6,none⟩ (.string ⟨#[]⟩)):=⟨_,rfl⟩
                        have XS:Hid (Ext wr ws):=qA (by rw[hws];exact ((((((((Ext.but X8.out (λj=>wr.heap.size<=j)).setCell (p:=⟨bk,0,none⟩) (λ_=>NB.out) (.string ⟨q.toArray⟩)).setCell (p:=⟨bk,1,none⟩) (λ_=>NB.out) (.int .i64 c)).setCell (p:=⟨bk,2,none⟩) (λ_=>NB.out) (.int .i64 n)).setCell (p:=⟨bk,3,none⟩) (λ_=>NB.out) (.slice ro al.length rc)).setCell (p:=⟨bk,4,none⟩) (λ_=>NB.out) (.slice none 0 0)).setCell (p:=⟨bk,5,none⟩) (λ_=>NB.out) (.bool false)).setCell (p:=⟨bk,6,none⟩) (λ_=>NB.out) (.string ⟨#[]⟩)).ext (λj hj e=>by omega));have BS2:Hid (Blk ws bk [.string ⟨q.toArray⟩,.int .i64 c,.int .i64 n,.slice ro al.length rc,.slice none 0 0,.bool false,.string ⟨#[]⟩] 48):=qA (by rw[hws];exact (((((((BN.out.set 0 (.string ⟨q.toArray⟩)).set 1 (.int .i64 c)).set 2 (.int .i64 n)).set 3 (.slice ro al.length rc)).set 4 (.slice none 0 0)).set 5 (.bool false)).set 6 (.string ⟨#[]⟩)));have OS2:Hid (ws.ownsRow 0 74 4 (.slice ro al.length rc) al.length (al.flatMap encAct)):=qA (by rw[hws];exact own_but (S:=λj=>j=bk) OW.out ((((((((But.refl (λj=>j=bk) w8).setCell (p:=⟨bk,0,none⟩) (λ_=>rfl) (.string ⟨q.toArray⟩)).setCell (p:=⟨bk,1,none⟩) (λ_=>rfl) (.int .i64 c)).setCell (p:=⟨bk,2,none⟩) (λ_=>rfl) (.int .i64 n)).setCell (p:=⟨bk,3,none⟩) (λ_=>rfl) (.slice ro al.length rc)).setCell (p:=⟨bk,4,none⟩) (λ_=>rfl) (.slice none 0 0)).setCell (p:=⟨bk,5,none⟩) (λ_=>rfl) (.bool false)).setCell (p:=⟨bk,6,none⟩) (λ_=>rfl) (.string ⟨#[]⟩)) (λj e=>λe2=>(NN.out j e).2 e2));rw[<- hws];clear t0 t1 t2 t3 t4 t5 t6 f0 f1 f2 f3 f4 f5 f6 hws
                        refine hK.out _ _ ⟨⟨_,XS.out⟩,rfl⟩ (λ_=>?_);clear hK K;refine wpAnyH_done (by kernel_rfl) ?_ _;go_wp2_with fail;go_meet;exact⟨bk,ro,rc,rfl,BS2,OS2,NN,NB,XS⟩
                      · skip
                        go_simp;obtain⟨w7,hwb⟩:∃wb,wb=wq.alloc (.cells #[.string ⟨#[]⟩,.int .i64 0,.int .i64 0,.slice none 0 0,.slice none 0 0,.bool false,.string ⟨#[]⟩] 48):=⟨_,rfl⟩
                        have YB:Hid (Ext wq w7):=qA (by rw[hwb];exact (qK _ _).alloc (qL _) _);have X7:Hid (Ext wr w7):=qA (qJ XQ.out YB.out);have BN:Hid (Blk w7 wq.heap.size [.string ⟨#[]⟩,.int .i64 0,.int .i64 0,.slice none 0 0,.slice none 0 0,.bool false,.string ⟨#[]⟩] 48):=qA (by rw[hwb];exact Blk.new _ _ _);have NB:Hid (wr.heap.size<=wq.heap.size):=qA XQ.out.size;obtain⟨bk,hbk⟩:∃bk,bk=wq.heap.size:=⟨_,rfl⟩;have HBK:=qA hbk;rw[<- hbk]at BN NB;rw[<- hwb,<- hbk];refine hK.out _ _ ⟨⟨_,X7.out⟩,rfl⟩ (λ_=>?_);clear hK K;clear hwb hbk;have hbl:=BN.out.lt;refine wpAnyH_ready (rs:=[4]) (by kernel_rfl) (by simp) ?_;refine AllReadyH.cons rfl (λK hK=>?_) AllReadyH.nil;go_simp;refine (AO.out _ X7.out).mono ?_;rintro e w8 ⟨ro,rc,rfl,ho,hnw,hx⟩;have X8:=qA (qJ X7.out hx);have OW:=qA ho;replace BN:=qA (BN.out.ext' hx);have NN:Hid (∀j,(Value.slice ro al.length rc).ownBlock=some j->wr.heap.size<=j/\j≠bk):=qA (λj e=>⟨qM X7.out.size (hnw j e),λe2=>by have:=hnw j e;omega⟩);refine hK.out _ _ ⟨⟨_,X8.out⟩,rfl⟩ (λ_=>?_);clear hK K;clear hx ho hnw;refine wp_takesC (f:=1) [5] (by kernel_rfl) (λ_ _ _ _ h=>h) ⟨⟨_,X8.out⟩,rfl⟩ ?_;simp only[opsAt,qD,qC,qB]
                        repeat (go_big_quiet_step (fail))
                        refine wpQuiet_nil ?_;have t0:=BN.out.cell 0;have t1:=BN.out.cell 1;have t2:=BN.out.cell 2;have t3:=BN.out.cell 3;have t4:=BN.out.cell 4;have t5:=BN.out.cell 5;have t6:=BN.out.cell 6;have f0:=BN.out.free 0;have f1:=BN.out.free 1;have f2:=BN.out.free 2;have f3:=BN.out.free 3;have f4:=BN.out.free 4;have f5:=BN.out.free 5;have f6:=BN.out.free 6;simp only[qB,qC]at t0 t1 t2 t3 t4 t5 t6;refine wpAnyH_ready (rs:=[7]) (by kernel_rfl) (by simp) ?_;refine AllReadyH.cons rfl (λK hK=>?_) AllReadyH.nil;go_simp;obtain⟨ws,hws⟩:∃ws,ws=(((((((w8.setCell ⟨bk,0,none⟩ (.string ⟨q.toArray⟩)).setCell ⟨bk,1,none⟩ (.int .i64 c)).setCell ⟨bk,2,none⟩ (.int .i64 n)).setCell ⟨bk,3,none⟩ (.slice ro al.length rc)).setCell ⟨bk,4,none⟩ (.slice none 0 0)).setCell ⟨bk,5,none⟩ (.bool false)).setCell ⟨bk,6,none⟩ (.string ⟨#[]⟩)):=⟨_,rfl⟩;have XS:Hid (Ext wr ws):=qA (by rw[hws];exact ((((((((Ext.but X8.out (λj=>wr.heap.size<=j)).setCell (p:=⟨bk,0,none⟩) (λ_=>NB.out) (.string ⟨q.toArray⟩)).setCell (p:=⟨bk,1,none⟩) (λ_=>NB.out) (.int .i64 c)).setCell (p:=⟨bk,2,none⟩) (λ_=>NB.out) (.int .i64 n)).setCell (p:=⟨bk,3,none⟩) (λ_=>NB.out) (.slice ro al.length rc)).setCell (p:=⟨bk,4,none⟩) (λ_=>NB.out) (.slice none 0 0)).setCell (p:=⟨bk,5,none⟩) (λ_=>NB.out) (.bool false)).setCell (p:=⟨bk,6,none⟩) (λ_=>NB.out) (.string ⟨#[]⟩)).ext (λj hj e=>by omega));have BS2:Hid (Blk ws bk [.string ⟨q.toArray⟩,.int .i64 c,.int .i64 n,.slice ro al.length rc,.slice none 0 0,.bool false,.string ⟨#[]⟩] 48):=qA (by rw[hws];exact (((((((BN.out.set 0 (.string ⟨q.toArray⟩)).set 1 (.int .i64 c)).set 2 (.int .i64 n)).set 3 (.slice ro al.length rc)).set 4 (.slice none 0 0)).set 5 (.bool false)).set 6 (.string ⟨#[]⟩)))
                        have OS2:Hid (ws.ownsRow 0 74 4 (.slice ro al.length rc) al.length (al.flatMap encAct)):=qA (by rw[hws];exact own_but (S:=λj=>j=bk) OW.out ((((((((But.refl (λj=>j=bk) w8).setCell (p:=⟨bk,0,none⟩) (λ_=>rfl) (.string ⟨q.toArray⟩)).setCell (p:=⟨bk,1,none⟩) (λ_=>rfl) (.int .i64 c)).setCell (p:=⟨bk,2,none⟩) (λ_=>rfl) (.int .i64 n)).setCell (p:=⟨bk,3,none⟩) (λ_=>rfl) (.slice ro al.length rc)).setCell (p:=⟨bk,4,none⟩) (λ_=>rfl) (.slice none 0 0)).setCell (p:=⟨bk,5,none⟩) (λ_=>rfl) (.bool false)).setCell (p:=⟨bk,6,none⟩) (λ_=>rfl) (.string ⟨#[]⟩)) (λj e=>λe2=>(NN.out j e).2 e2));rw[<- hws];clear t0 t1 t2 t3 t4 t5 t6 f0 f1 f2 f3 f4 f5 f6 hws;refine hK.out _ _ ⟨⟨_,XS.out⟩,rfl⟩ (λ_=>?_);clear hK K;refine wpAnyH_done (by kernel_rfl) ?_ _;go_wp2_with fail;go_meet;exact⟨bk,ro,rc,rfl,BS2,OS2,NN,NB,XS⟩
                     case rest=>
                      obtain⟨b20,ro,rc,rfl,hb,ho,hnn,hnb,hxr⟩:=hcut;obtain⟨wa,rfl⟩:∃w,w=wc:=⟨_,rfl⟩;have X1a:=qA (qJ X1r.out hxr.out);have s4:=(P4.out.ext' X1a.out).cell 0;have c0:=(T1.out.ext X1a.out).blk.cell 0;simp only[qB]at s4 c0;obtain⟨gi,hgi⟩:∃b,b=(getR q d.rows).isSome:=⟨_,rfl⟩;obtain⟨gv,hgv⟩:∃v,v=(getR q d.rows).getD noBytes:=⟨_,rfl⟩;have HGI:=qA hgi;have HGV:=qA hgv;have GT:Hid (Calls Tryz.prog 91 #[.pointer (some ⟨k.rb,0,none⟩),.string ⟨q.toArray⟩] wa λe w'=>e= .returned (.tuple #[.string gv,.bool gi])/\Ext wa w'):=qA (by rw[hgi,hgv];exact getT_calls k.rb k.rv d.rows ⟨q.toArray⟩ wa (T1.out.ext X1a.out).rt);clear hgi hgv d0 s50 s51 AO;go_wp2_with fail;refine GT.out.mono ?_;rintro e wb ⟨rfl,hxb⟩;have Xrb:=qA (qJ hxr.out hxb);have X1b:=qA (qJ X1a.out hxb);have BH:=qA (hb.out.ext' hxb);have OA:=qA (own_ext ho.out hxb)
                      have DOC:Hid (Calls Tryz.prog 92 #[.bool gi,.string gv,.slice ro al.length rc] wb (DoPost gi gv al wb)):=qA (by
                       obtain⟨_,_,hv2,_,_,hrw⟩:=Rows.own (enc:=encAct) (sz:=4) (λ_=>rfl) OA.out;simp only[Value.slice.injEq,true_and]at hv2;obtain⟨rfl,rfl⟩:=hv2;have hall:al.length<=1000:=by rw[HAL.out];exact qM (ofL_len _ _) hl
                       exact do_calls gi gv al ro rc wb (HV.out.ext (qJ X1.out X1b.out)) (qM hB (qJ X1.out X1b.out).size) (by omega) (by rw[HGV.out];exact getR_le HT.out.rt.ok) (λa ha=>HOK.out a (by rw[HAL.out]at ha;exact (List.mem_filter.1 ha).1)) hrw)
                      have g3:=BH.out.cell 3;simp only[qB,qC]at g3;clear s4 c0 hxb hb ho GT;go_upto_region 26 with fail;go_wp2_with fail;refine DOC.out.mono ?_;rintro e wd ⟨rv,rfl,hro,hrn,hxd⟩;obtain⟨RL,hRL⟩:∃l,l=(doRes gi gv al).reads:=⟨_,rfl⟩;obtain⟨pu,hpu⟩:∃l,l=(doRes gi gv al).put:=⟨_,rfl⟩;obtain⟨av,hav⟩:∃l,l=doAfter gi gv al:=⟨_,rfl⟩;rw[<- hRL]at hro;rw[<- hpu,<- hav];obtain⟨sro,src,rfl⟩:=own_slice hro;have HRL:=qA hRL;have HPU:=qA hpu;have HAV:=qA hav;have BD:=qA (BH.out.ext' hxd);have OAd:=qA (own_ext OA.out hxd);have ORd:=qA hro;have RN:=qA hrn;have Xrd:=qA (qJ Xrb.out hxd);have XBD:=qA hxd.size;have hbb:=BH.out.lt;have t4:=BD.out.cell 4;have t5:=BD.out.cell 5;have t6:=BD.out.cell 6;have f4:=BD.out.free 4;have f5:=BD.out.free 5;have f6:=BD.out.free 6;simp only[qB,qC]at t4 t5 t6;clear hRL hpu hav hro hrn hxd g3 DOC BH OA;go_upto_region 27 with fail;obtain⟨we,hwe⟩:∃we,we=(((wd.setCell ⟨b20,4,none⟩ (.slice sro RL.length src)).setCell ⟨b20,5,none⟩ (.bool pu)).setCell ⟨b20,6,none⟩ (.string av)):=⟨_,rfl⟩;have BXe:Hid (But (λj=>j=b20) wd we):=qA (by rw[hwe];exact (((But.refl (λj=>j=b20) wd).setCell (p:=⟨b20,4,none⟩) (λ_=>rfl) (.slice sro RL.length src)).setCell (p:=⟨b20,5,none⟩) (λ_=>rfl) (.bool pu)).setCell (p:=⟨b20,6,none⟩) (λ_=>rfl) (.string av));have Xre:Hid (Ext wr we):=qA (((Ext.but Xrd.out (λ_=>False)).trans BXe.out (U:=λj=>wr.heap.size<=j) (λ_ _ e=>e.elim) (λj _ e=>by rw[e];exact hnb.out)).ext (λj hj e=>by omega));have BE:Hid (Blk we b20 [.string ⟨q.toArray⟩,.int .i64 c,.int .i64 n,.slice ro al.length rc,.slice sro RL.length src,.bool pu,.string av] 48):=qA (by rw[hwe];exact ((BD.out.set 4 (.slice sro RL.length src)).set 5 (.bool pu)).set 6 (.string av))
                      have OAe:=qA (own_but OAd.out BXe.out (λj e e2=>(hnn.out j e).2 e2));have ORe:=qA (own_but ORd.out BXe.out (λj e e2=>by have:=RN.out j e;omega));rw[<- hwe];have h0:=BE.out.cell 0;have h1:=BE.out.cell 1;have h2:=BE.out.cell 2;have h3:=BE.out.cell 3;have h4:=BE.out.cell 4;have h5:=BE.out.cell 5;have h6:=BE.out.cell 6;simp only[qB,qC]at h0 h1 h2 h3 h4 h5 h6
                      have XIS:Hid (HoldV.is we (λb=>(Value.slice so L.length sc).ownBlock=some b\/b<w5.heap.size) ⟨⟨q.toArray⟩,c,n,ro,al.length,rc,sro,RL.length,src,pu,av⟩ (prepH c n acts d.rows q)):=qA (by
                       have hp:prepH c n acts d.rows q=⟨⟨q.toArray⟩,c,n,al,RL,pu,av⟩:=by unfold prepH;rw[<- HAL.out,<- HGI.out,<- HGV.out,<- HRL.out,<- HPU.out,<- HAV.out]
                       rw[hp]
                       have hno:∀j,wr.heap.size<=j->¬((Value.slice so L.length sc).ownBlock=some j\/j<w5.heap.size):=λj hj e=>by
                        have:=K2.out.size
                        rcases e with e | e
                        · have:=GL.out.lt e;omega
                        · omega
                       exact⟨rfl,rfl,rfl,rfl,rfl,rfl,rfl,nrows_of_own (λ_=>rfl) OAe.out (λj e=>hno j (hnn.out j e).1),nrows_of_own (λ_=>rfl) ORe.out (λj e=>hno j (qM Xrb.out.size (RN.out j e)))⟩)
                      have hRC:RL.length<=src:=row_cap ORe.out;have hLk:L.length<=1000:=by rw[GL.out.are.len];unfold prepL;rw[List.length_map,List.length_take];omega
                      have X6:Hid (Ext we (we.alloc (.cells #[.string ⟨q.toArray⟩,.int .i64 c,.int .i64 n,.slice ro al.length rc,.slice sro RL.length src,.bool pu,.string av] 48))):=qA ((qK _ we).alloc (qL _) _);have CN:=qA (cells_new we [.string ⟨q.toArray⟩,.int .i64 c,.int .i64 n,.slice ro al.length rc,.slice sro RL.length src,.bool pu,.string av] 48);have GE:=qA (GL.out.ext (qJ Xre.out X6.out));have XIE:=qA (XIS.out.ext X6.out);have HPS:=qA (prepL_succ c n acts d.rows ks j q HQ.out);have HGB:Hid (w5.heap.size<=we.heap.size):=qA (qM K2.out.size Xre.out.size);obtain⟨i0,hi,hz0,hz1,hz2⟩:=info_parts infoHold;clear hwe BD OAd ORd BXe OAe ORe BE t4 t5 t6 f4 f5 f6 hbb XIS hnn hnb hxr;go_wp2_with (at_builtin;refine wpList_append_at _ rfl _ _ 42 rfl 48 i0 _ 7 104 Tryz.underlying42 hi hz0 hz1 hz2 rfl (by decide) _ L.length (L.flatMap encHV) rfl GE.out.own ⟨we.heap.size,0,none⟩ 1 1 (encHV ⟨⟨q.toArray⟩,c,n,ro,al.length,rc,sro,RL.length,src,pu,av⟩) rfl rfl CN.out (one_hold _) (by decide) (by unfold maxLen;omega) (by omega) ?_;intro g2 cap2 wz hown' hbut hkept;have Z1:=qA hown';have Z2:=qA hbut;have Z3:=qA hkept;clear hown' hbut hkept);go_roundw
                      case rel=>
                       refine⟨j+1,L++[⟨⟨q.toArray⟩,c,n,ro,al.length,rc,sro,RL.length,src,pu,av⟩],_,cap2,by omega,by rw[qG];rfl,by go_num,?_,?_⟩
                       · rw[HPS.out,qG]
                         exact GE.out.push XIE.out hRC (qM HGB.out X6.out.size) Z1.out Z2.out Z3.out
                       · exact Ext.butNew (qJ K2.out (qJ Xre.out X6.out)) Z2.out (λb hb=>GL.out.new b hb)
                      case measure=>simp[intOf];omega
                   · obtain rfl:j=ks.length:=by omega
                     have hall:ks.take ks.length=ks:=List.take_of_length_le (qL _);rw[hall]at GL;have hLk:L.length<=1000:=by rw[GL.out.are.len];unfold prepL;rw[List.length_map];omega
                     clear hall hlt hj;obtain⟨_,_,hv,_,_,hrw⟩:=Rows.own (enc:=encHV) (sz:=7) (λ_=>rfl) GL.out.own;simp only[Value.slice.injEq,true_and]at hv;obtain⟨rfl,rfl⟩:=hv;have RH:=qA hrw;obtain⟨dl,hdl⟩:∃dl,dl=prepL c n acts d.rows ks:=⟨_,rfl⟩;rw[<- hdl]at GL PD;have HDL:=qA hdl;have Tr:=qA (T1.out.ext X1r.out);have ROOM:=qA (λW (hW:Ext wr W)=>room0_calls k.tb k.rb k.hb k.pb k.rv k.hv d.rows d.holds dl L so sc W _ _ (Tr.out.ext hW).rt (Tr.out.ext hW).ht ((Tr.out.ext hW).blk.cell 0) ((Tr.out.ext hW).blk.cell 1) ((Tr.out.ext hW).blk.cell 2) hLk ((RH.out.ext hW).mono hW.size) (GL.out.are.ext hW));have s4:=(P4.out.ext' X1r.out).cell 0;have c5:=Tr.out.blk.cell 5;simp only[qB,qC]at s4 c5;replace s4:=ExtBy.cell s4;replace c5:=ExtBy.cell c5;clear hrw hdl;go_upto_region 29 with fail;refine wp_region_firstC (λW=>∃p:ExtBy wr,W=p.W) [0,1,2,3,4,5] 2 (by kernel_rfl) (by kernel_rfl) (λ_ _ _ _ h=>h) ⟨⟨wr.drew,(qK _ wr).drew⟩,rfl⟩ ?_;simp only[opsAt,qD,qC,qB]
                     repeat (go_big_quiet_step (fail))
                     refine wpQuiet_nil ?_;obtain⟨wq,hwq⟩:∃wq,wq=wr.drew:=⟨_,rfl⟩;have XQ:Hid (Ext wr wq):=qA (by rw[hwq];exact (qK _ wr).drew);rw[<- hwq];clear hwq s4 c5;refine wpAnyH_ready (rs:=[6]) (by kernel_rfl) (by simp) ?_;refine AllReadyH.cons rfl (λK hK=>?_) AllReadyH.nil;go_simp;refine (ROOM.out _ XQ.out).mono ?_;rintro e wm ⟨rfl,hxm⟩;have Yrm:=qA (qJ XQ.out hxm);refine hK.out _ _ ⟨⟨_,Yrm.out⟩,rfl⟩ (λ_=>?_);clear hK K hxm;refine wp_takesC (f:=0) [7] (by kernel_rfl) (λ_ _ _ _ h=>h) ⟨⟨_,Yrm.out⟩,rfl⟩ ?_;simp only[opsAt,qD,qC,qB]
                     repeat (go_big_quiet_step (fail))
                     refine wpQuiet_nil ?_;refine wpAnyH_done (by kernel_rfl) ?_ _;have X1m:=qA (qJ X1r.out Yrm.out);have Xwm:=qA (qJ X1.out X1m.out);replace GL:=qA (GL.out.ext Yrm.out);clear ROOM XQ RH;cases hro:roomD d.rows d.holds dl with
                     | false=>
                       have PD2:Hid (prepD c n ep acts d=(8,d)):=qA (by rw[PD.out,if_pos hro]);clear hro;have n0:=(P11.out.ext' X1m.out).cell 0;have n1:=(P11.out.ext' X1m.out).cell 1;have m0:=(P9.out.ext' X1m.out).cell 0;have m1:=(P9.out.ext' X1m.out).cell 1;have f0:=(P9.out.ext' X1m.out).free 0;have f1:=(P9.out.ext' X1m.out).free 1;simp only[qB,qC]at n0 n1 m0 m1;go_wp2_with fail
                       go_region_with (fail)
                       all_goals
                        go_wp2_with fail;refine bodyPost_ret (res_tmp_row_tmp rfl _ _ (w.heap.size+1+1+1) 35 [.int .i64 0,.int .i64 0] _ rfl (box_put (P9.out.ext' X1m.out) _ _) Tryz.underlying35 rfl (by kernel_rfl)) rfl ?_;unfold PrepPost;rw[PD2.out];exact⟨_,_,_,rfl,HT.out.self (box_ext (qJ X1.out X1m.out) (by omega) _ _)⟩
                     | true=>
                       have PD2:Hid (prepD c n ep acts d=(0,{ d with holds:=putT dl d.holds })):=qA (by rw[PD.out,if_neg (by rw[hro];decide)]);clear hro PD;obtain⟨no1,hno1⟩:∃no1:Nat->Prop,no1=λb=>k.noH b\/b=w.heap.size+1+1+1:=⟨_,rfl⟩;have TN:Hid (TabN no1 wm k.hb k.hv d.holds):=qA ((HT.out.ht.mono' (λb hb e=>by rw[hno1]at e;exact e.elim id (λe=>by omega))).ext Xwm.out);have HN1:=qA hno1;have hwb:=P9.out.lt
                       have HPUT:Hid (Calls Tryz.prog 60 #[.pointer (some ⟨k.hb,0,none⟩),.slice so L.length sc] wm (PutPostN no1 k.hb k.hv d.holds dl wm)):=qA (by
                        have hlt:∀b,(b=k.hb\/k.hv.ownBlock=some b)->b<w5.heap.size:=λb e=>qN (m:=w.heap.size) (by rcases e with e | e;exact (e▸HT.out.ht.blk.lt);exact HT.out.ht.lt e) (qJ X1.out X2.out).size;refine put_calls k.hb k.hv d.holds L dl so sc wm TN.out (by omega) (nrows_of_own (λ_=>rfl) GL.out.own (λj e e2=>by have:=hlt j e2;have:=GL.out.new j e;omega)) (GL.out.are.mono (λb _ e=> .inr (hlt b e))) (λx hx=>?_) (λb hb=>?_)
                        · rw[HDL.out]at hx;unfold prepL at hx
                          obtain⟨kk,hkk,rfl⟩:=List.mem_map.1 hx;rw[KS.out]at hkk;obtain⟨a,ha,rfl⟩:=(keysL_mem acts kk).1 hkk;exact prepH_ok HOK.out hl HT.out.rt.ok (by have:=HKS.out a ha;unfold keyT;rw[Array.length_toList];exact this)
                        · rw[HN1.out]at hb
                          have:=X1m.out.size;have h9:=Xwm.out.size
                          rcases hb with e | e
                          · exact qN (HT.out.noH_lt b e) h9
                          · omega)
                       have s4:=(P4.out.ext' X1m.out).cell 0;have c1:=(T1.out.ext X1m.out).blk.cell 1;simp only[qB,qC]at s4 c1;clear hno1 TN;go_wp2_with fail;refine HPUT.out.mono ?_;rintro e wp ⟨rfl,⟨v',htn,hv'⟩,hbp,_⟩;have TP:=qA htn;have VP:=qA hv';have BP0:=qA hbp;have hlt:∀b,(b=k.hb\/k.hv.ownBlock=some b)->b<w.heap.size:=λb e=>by rcases e with e | e;exact (e▸HT.out.ht.blk.lt);exact HT.out.ht.lt e
                       have LT:=qA hlt;have hs5:Hid (w.heap.size<=w5.heap.size):=qA (qJ X1.out X2.out).size;have P9p:=qA ((P9.out.ext' X1m.out).but hbp (λe=>by have:=hlt _ e;omega));have P11p:=qA ((P11.out.ext' X1m.out).but hbp (λe=>by have:=hlt _ e;omega));have OWp:=qA (own_but GL.out.own hbp (λj e e2=>by have:=hlt j e2;have:=GL.out.new j e;have:=hs5.out;omega));have AREp:=qA (GL.out.are.but hbp (λb _ e=> .inr (qN (hlt b e) hs5.out)))
                       skip
                       have TOLD:Hid (∀W,Ext wp W->Calls Tryz.prog 88 #[.slice so L.length sc,.slice ao acts.length cap] W λe w'=>∃rv,e= .returned rv/\Ext W w'):=qA (λW hW=>by
                        obtain⟨_,_,hv3,_,_,hrw3⟩:=Rows.own (enc:=encHV) (sz:=7) (λ_=>rfl) OWp.out;simp only[Value.slice.injEq,true_and]at hv3;obtain⟨rfl,rfl⟩:=hv3;have hrA:=(((HNR.out.ext Xwm.out).but BP0.out (λb _ e=>e.elim (λe=> .inr (.inr (.inl e))) (λe=> .inr (.inr (.inr (.inr (.inr (.inl e)))))))).ext hW).rows;refine (toldT_calls L dl _ so sc acts ao cap W hLk hl HOK.out ((hrw3.ext hW).mono hW.size) (AREp.out.ext hW) GL.out.cap (λh hh=>?_) hrA ?_).mono (λe w' ⟨rv,h1,_,_,h2⟩=>⟨rv,h1,h2⟩)
                        · rw[HDL.out]at hh;unfold prepL at hh
                          obtain⟨kk,hkk,rfl⟩:=List.mem_map.1 hh;rw[KS.out]at hkk;obtain⟨a,ha,rfl⟩:=(keysL_mem acts kk).1 hkk;exact (show (keyT a).length<=_ from by have:=HKS.out a ha;unfold keyT;rw[Array.length_toList];exact this)
                        · rw[HDL.out,KS.out];exact prep_told (kinds3_of HRI.out))
                       clear htn hv' hbp hlt s4 c1 HPUT;go_upto_region 32 with fail;have n0:=P11p.out.cell 0;have n1:=P11p.out.cell 1;simp only[qB,qC]at n0 n1;replace n0:=ButBy.cell (S:=λj=>j=w.heap.size+1+1+1) n0 (by omega);replace n1:=ButBy.cell (S:=λj=>j=w.heap.size+1+1+1) n1 (by omega);refine wp_region_firstC (λW=>∃p:ButBy (λj=>j=w.heap.size+1+1+1) wp,W=p.W) [0,1,3] 4 (by kernel_rfl) (by kernel_rfl) (λ_ _ _ _ h=>h) ⟨⟨wp.drew,Ext.but (qK _ wp).drew _⟩,rfl⟩ ?_;simp only[opsAt,qD,qC,qB]
                       repeat (go_big_quiet_step (fail))
                       refine wpQuiet_nil ?_;obtain⟨wq,hwq⟩:∃wq,wq=wp.drew:=⟨_,rfl⟩;have XQ:Hid (Ext wp wq):=qA (by rw[hwq];exact (qK _ wp).drew);rw[<- hwq];clear hwq n0 n1;refine wpAnyH_ready (rs:=[2]) (by kernel_rfl) (by simp) ?_;refine AllReadyH.cons rfl (λK hK=>?_) AllReadyH.nil;go_simp;refine (TOLD.out _ XQ.out).mono ?_;rintro e wt ⟨rv,rfl,hxt⟩;have XT:=qA (qJ XQ.out hxt);refine hK.out _ _ ⟨⟨_,Ext.but XT.out _⟩,rfl⟩ (λ_=>?_);clear hK K hxt;refine wp_takesC (f:=2) [4] (by kernel_rfl) (λ_ _ _ _ h=>h) ⟨⟨_,Ext.but XT.out _⟩,rfl⟩ ?_;simp only[opsAt,qD,qC,qB]
                       repeat (go_big_quiet_step (fail))
                       refine wpQuiet_nil ?_;have PT:=qA (P9p.out.ext' XT.out);have t0:=PT.out.cell 0;have t1:=PT.out.cell 1;have f0:=PT.out.free 0;have f1:=PT.out.free 1;simp only[qB,qC]at t0 t1;refine wpAnyH_ready (rs:=[5]) (by kernel_rfl) (by simp) ?_;refine AllReadyH.cons rfl (λK hK=>?_) AllReadyH.nil;go_simp;have BP:Hid (But (λj=>j=w.heap.size+1+1+1) wp ((wt.setCell ⟨w.heap.size+1+1+1,0,none⟩ (.int .i64 0)).setCell ⟨w.heap.size+1+1+1,1,none⟩ (.int .i64 0))):=qA (((Ext.but XT.out (λj=>j=w.heap.size+1+1+1)).setCell (p:=⟨w.heap.size+1+1+1,0,none⟩) (λ_=>rfl) _).setCell (p:=⟨w.heap.size+1+1+1,1,none⟩) (λ_=>rfl) _);refine hK.out _ _ ⟨⟨_,BP.out⟩,rfl⟩ (λ_=>?_);clear hK K t0 t1 f0 f1;refine wp_takesC (f:=0) [6] (by kernel_rfl) (λ_ _ _ _ h=>h) ⟨⟨_,BP.out⟩,rfl⟩ ?_;simp only[opsAt,qD,qC,qB]
                       repeat (go_big_quiet_step (fail))
                       refine wpQuiet_nil ?_;refine wpAnyH_done (by kernel_rfl) ?_ _;go_wp2_with fail;refine bodyPost_ret (res_tmp_row_tmp rfl _ _ (w.heap.size+1+1+1) 35 [.int .i64 0,.int .i64 0] _ rfl (box_put' PT.out _ _) Tryz.underlying35 rfl (by kernel_rfl)) rfl ?_;unfold PrepPost;rw[PD2.out];refine⟨_,_,_,rfl,?_⟩;have BW:=((Ext.but Xwm.out (λ_=>False)).trans (BP0.out.trans BP.out (U:=λj=>(j=k.hb\/k.hv.ownBlock=some j)\/j=w.heap.size+1+1+1) (λ_ _ e=> .inl e) (λ_ _ e=> .inr e)) (U:=λj=>j=k.hb\/k.hv.ownBlock=some j) (λ_ _ e=>e.elim) (λi hi e=>e.elim id (λe=>by omega)));have hxs:=X1m.out.size;have TF:=((TP.out.but' BP.out (λe=>by have:=LT.out _ (.inl e.symm);omega) (λj e e2=>by rcases VP.out j e with e3 | e3;have:=LT.out j (.inr e3);omega;omega) (λb _ e=>by rw[HN1.out];exact .inr e)).mono' (no1:=k.noH) (λb _ e=>by rw[HN1.out];exact .inl e));refine⟨{ k with hv:=v' },HT.out.holds TF BW,rfl,rfl,rfl,rfl,λb hb=>?_,BW.mono (λb _ e=>e.elim (λe=> .inr (.inr (.inl e))) (λe=> .inr (.inr (.inr (.inr (.inr (.inl e)))))))⟩;unfold TrK.owns at hb ⊢;rcases hb with e | e | e | e | e | e | e
                       · exact .inl (.inl e)
                       · exact .inl (.inr (.inl e))
                       · exact .inl (.inr (.inr (.inl e)))
                       · exact .inl (.inr (.inr (.inr (.inl e))))
                       · exact .inl (.inr (.inr (.inr (.inr (.inl e)))))
                       · rcases VP.out b e with e | e
                         · exact .inl (.inr (.inr (.inr (.inr (.inr (.inl e))))))
                         · exact .inr (qM Xwm.out.size e)
                       · exact .inl (.inr (.inr (.inr (.inr (.inr (.inr e))))))
          · have hL1:(0:Int)<(L.length:Int):=by omega
            have HLL:Hid (0<(hadL c n d.holds ks).length):=qA (by rw[<- G6.out.are.len];omega);go_upto_region 16 with fail;have n0:=(P11.out.ext' X8.out).cell 0;have n1:=(P11.out.ext' X8.out).cell 1;have m0:=(P9.out.ext' X8.out).cell 0;have m1:=(P9.out.ext' X8.out).cell 1;have f0:=(P9.out.ext' X8.out).free 0;have f1:=(P9.out.ext' X8.out).free 1;simp only[qB,qC]at n0 n1 m0 m1
            have HDD:Hid (prepD c n ep acts d=(22,d)):=qA (by
             unfold prepD;rw[<- KS.out,if_neg (by rw[OKT.out];decide),if_neg (by rw[HJ.out];decide),if_pos (Or.inl HLL.out)])
            go_wp2_with fail
            go_region_with (fail)
            all_goals
             go_wp2_with fail;refine bodyPost_ret (res_tmp_row_tmp rfl _ _ (w.heap.size+1+1+1) 35 [.int .i64 0,.int .i64 0] _ rfl (box_put (P9.out.ext' X8.out) _ _) Tryz.underlying35 rfl (by kernel_rfl)) rfl ?_;unfold PrepPost;rw[HDD.out];exact⟨_,_,_,rfl,HT.out.self (box_ext (qJ X1.out X8.out) (by omega) _ _)⟩
end Go.Proofs.YtmpmggejhnmakaaGreatDoor
