/- tract: what it is in memory; all its holds. -/
import Derived.Test.YtmpmggejhnmakaaGreatDoorZ27
import Derived.Test.YtmpmggejhnmakaaGreatDoorZ21
import Derived.Test.YtmpmggejhnmakaaGreatDoorZ01
set_option maxRecDepth 100000
set_option maxHeartbeats 1600000
namespace Go.Proofs.YtmpmggejhnmakaaGreatDoor
open Go.RowKit
theorem hold_key {d:HoldD}(h:holdB d=true):keyL (dkey d)=true:=by
 unfold holdB at h;simp only[Bool.and_eq_true]at h;obtain⟨h1,_,h2,_⟩:=h;unfold rightsB at h2;simp only[Bool.and_eq_true,decide_eq_true_eq]at h2;obtain⟨⟨h3,_⟩,h4⟩:=h2;cases hl:d.acts with
 | nil=>rw[hl]at h3;simp at h3
 | cons a l=>
   rw[hl]at h4;have h5:=List.all_eq_true.1 h4 a (List.mem_cons_self ..);unfold rightB at h5;simp only[Bool.and_eq_true]at h5;unfold keysR at h1;rw[hl]at h1;have h6:=of_decide_eq_true (List.all_eq_true.1 h1 a (List.mem_cons_self ..));rw[Lib.toList_data,Lib.toList_data]at h6;unfold dkey;rw[<- h6];exact h5.1
theorem has_allT {k:List UInt8}(h:keyL k=true):hasB [] [] k=true:=by
 unfold hasB spanB aboveB;simp[h]
theorem inD_allT {ds:List HoldD}(h:∀d∈ds,d.ok/\holdB d=true):inD noBytes noBytes ds=ds:=by
 unfold inD;rw[List.filter_eq_self];intro d hd;unfold HoldD.tells;exact has_allT (hold_key (h d hd).2)
theorem spanAll_calls (w:World):Calls Tryz.prog 59 #[] w λe w'=>e= .returned (.agg #[.string noBytes,.string noBytes])/\Ext w w':=by
 go_enter Tryz.func59,Tryz.ntmps59;go_wp2_with fail;exact bodyPost_ret (results_cell_row rfl _ _ w.heap.size 30 #[.string ⟨#[]⟩,.string ⟨#[]⟩] (0,0) _ rfl (Blk.new w _ _) Tryz.underlying30 rfl (by kernel_rfl)) rfl ⟨rfl,(qK _ w).alloc (qL _) _⟩
theorem all_calls (rb hb pb:Nat)(v:Value)(ds:List HoldD)(w:World)(no0:Nat->Prop)(T:TabN no0 w hb v ds):
 Calls Tryz.prog 61 #[.agg #[.pointer (some ⟨rb,0,none⟩),.pointer (some ⟨hb,0,none⟩),.pointer (some ⟨pb,0,none⟩)]] w (RowPost ds w):=by
 obtain⟨w1,hw1⟩:∃w1,w1=w.alloc (.cells #[.pointer (some ⟨rb,0,none⟩),.pointer (some ⟨hb,0,none⟩),.pointer (some ⟨pb,0,none⟩)] 82):=⟨_,rfl⟩;have hx1:Ext w w1:=by rw[hw1];exact (qK _ w).alloc (qL _) _
 have hb1:Blk w1 w.heap.size [.pointer (some ⟨rb,0,none⟩),.pointer (some ⟨hb,0,none⟩),.pointer (some ⟨pb,0,none⟩)] 82:=by rw[hw1];exact Blk.new w _ _
 have hin:inD noBytes noBytes ds=ds:=inD_allT T.ok
 have HI:Hid (∀W,Ext w W->Calls Tryz.prog 40 #[.pointer (some ⟨hb,0,none⟩),.agg #[.string noBytes,.string noBytes]] W (RowPost ds W)):=qA λW hW=>by
  have h:=in_calls hb v ds noBytes noBytes W (T.ext hW) (by decide) (by decide)
  rwa [hin]at h
 have HS:=qA spanAll_calls;have X1:=qA hx1;have W1:=qA hw1;have B1:=qA hb1;clear T hx1 hw1 hb1 hin;go_enter Tryz.func61,Tryz.ntmps61;go_upto_region 1 with fail;rw[<- W1.out];clear W1;have c1:=B1.out.cell 1;simp only[qB,qC]at c1
 go_region_with (first
  | (go_at_call 59;refine (HS.out _).mono ?_;rintro e w2 ⟨rfl,hx2⟩;have X2:=qA (qJ X1.out.drew hx2);have d1:=(B1.out.drew.ext' hx2).cell 1;simp only[qB,qC]at d1;clear hx2)
  | (go_at_call 40;refine (HI.out _ X2.out).mono ?_;rintro e w3 ⟨r,l',rfl,hn,ho,hj,ha,hm,hx⟩;have P3:Hid (RowPost ds w (.returned r) w3):=qA (RowPost.ext X2.out ⟨r,l',rfl,hn,ho,hj,ha,hm,hx⟩);clear hn ho hj ha hm hx))
 all_goals
  go_wp2_with fail;go_ret;exact P3.out
def newsD (ds:List HoldD)(rows:List RowD):Nat:=(ds.filter λd=>d.put&& !(getR (dkey d) rows).isSome).length
theorem news_are {w:World}{no:Nat->Prop}(rows:List RowD):∀{ls:List HoldV}{ds:List HoldD},HoldsAre w no ls ds->newsN ls rows=newsD ds rows
 | [],[],_=>rfl
 | [],_::_,h=>h.elim
 | _::_,[],h=>h.elim
 | v::vs,d::ds,h=>by
   have ih:=news_are rows h.2;unfold newsN newsD at ih ⊢;have hk:vkey v=dkey d:=by unfold vkey dkey;rw[h.1.key]
   have hp:v.put=d.put:=h.1.put;rw[List.filter_cons,List.filter_cons,hk,hp]
   split
   · simp only[List.length_cons,ih]
   · exact ih
def roomD (rows:List RowD)(ds dl:List HoldD):Bool:=decide (((rows.length+newsD (ds++dl) rows:Nat):Int)<=400)&&decide (((ds.length+dl.length:Nat):Int)<=60)
theorem room0_calls (tb rb hb pb:Nat)(rv hv:Value)(rows:List RowD)(ds dl:List HoldD)(ls:List HoldV)(ao:Option Addr)(cap:Nat)(w:World)(no0 no:Nat->Prop)(TR:RTab w rb rv rows)(TH:TabN no0 w hb hv ds)
 (h0:w.cell? ⟨tb,0,none⟩=some (.pointer (some ⟨rb,0,none⟩))) (h1:w.cell? ⟨tb,1,none⟩=some (.pointer (some ⟨hb,0,none⟩))) (h2:w.cell? ⟨tb,2,none⟩=some (.pointer (some ⟨pb,0,none⟩)))
 (hl:ls.length<=1000) (hr:Rows 7 encHV w.heap.size w ao ls) (ha:HoldsAre w no ls dl):
 Calls Tryz.prog 56 #[.pointer (some ⟨tb,0,none⟩),.pointer none,.slice ao ls.length cap] w λe w'=>e= .returned (.bool (roomD rows ds dl))/\Ext w w':=by
 have HA:=qA (λW (hW:Ext w W)=>all_calls rb hb pb hv ds W no0 (TH.ext hW));have HM:=qA (λW (hW:Ext w W)=>manyR_calls rb rv rows W (TR.ext hW));have HTR:=qA TR;have HAR:=qA ha;have HR:=qA hr;have hfew:=TH.few;have hrf:=TR.few;have HLL:=qA ha.len;have hbl:=block_lt_of_cell h0;have H0:=qA h0;have H1:=qA h1;have H2:=qA h2;obtain⟨i0,hi,hz0,hz1,hz2⟩:=info_parts infoHold;clear TR TH ha hr;go_enter Tryz.func56,Tryz.ntmps56;go_wp2_with fail;refine (HA.out w (qK _ _)).mono ?_;rintro e w1 ⟨r,l',rfl,hn,ho,hj,hare,_,hx⟩;obtain⟨ra,rc,rfl,_,_,_⟩:=Rows.own (enc:=encHV) (sz:=7) (λ_=>rfl) ho;have X1:=qA hx;have O1:=qA ho;have A1:=qA hare;have J1:=qA hj;have N1:=qA hn;have R1:=qA ((HR.out.ext hx).mono hx.size);have hl60:l'.length<=60:=by omega
 clear hx ho hare hj h0 h1 h2 hn;go_wp2_with (at_builtin;refine wpList_append_rows (enc:=encHV) (size:=7) (λ_=>rfl) one_hold rfl (.tmp 14) (.tmp 15) 42 rfl 48 i0 _ _ Tryz.underlying42 hi hz0 hz1 hz2 rfl (by decide) (.slice ra l'.length rc) l'.length _ rfl O1.out ao ls cap rfl R1.out (by unfold maxLen;omega) (by omega) ?_;intro v1 w2 hown1 hbut1 hkept1;have O2:=qA hown1;have B2:=qA hbut1;clear hown1 hbut1 hkept1);have hx2:Ext w w2:=((Ext.but X1.out (λ_=>False)).trans B2.out (U:=λj=>w.heap.size<=j) (λ_ _ e=>e.elim) (λj _ e=>J1.out j e)).ext (λj hj e=>by omega);obtain⟨L,hL⟩:∃L,L=l'++ls:=⟨_,rfl⟩;have hLn:L.length=l'.length+ls.length:=by rw[hL,qG]
 have hO:w2.ownsRow 0 48 7 v1 L.length (L.flatMap encHV):=by rw[hLn,hL,List.flatMap_append];exact O2.out
 obtain⟨va,vc,rfl,_,_,hrows⟩:=Rows.own (enc:=encHV) (sz:=7) (λ_=>rfl) hO;have hLmax:L.length<=1060:=by omega
 have hnw:newsN L rows=newsD (ds++dl) rows:=by
  have e1:=news_are rows A1.out;have e2:=news_are rows HAR.out;unfold newsN newsD at *;rw[hL,List.filter_append,List.filter_append,qG,qG,e1,e2]
 have hnn:newsN L rows<=L.length:=List.length_filter_le _ _;have HC1:Hid (∀p:ExtBy w2,Calls Tryz.prog 127 #[.pointer (some ⟨rb,0,none⟩)] p.W λe w'=>e= .returned (.int .i64 rows.length)/\Ext p.W w'):=qA λp=>(HM.out p.W (qJ hx2 p.ext)).mono (by rintro e w' ⟨rfl,rfl⟩;exact⟨rfl,qK _ _⟩);have HC2:Hid (∀p:ExtBy w2,Calls Tryz.prog 128 #[.agg #[.pointer (some ⟨rb,0,none⟩),.pointer (some ⟨hb,0,none⟩),.pointer (some ⟨pb,0,none⟩)],.slice va L.length vc] p.W λe w'=>e= .returned (.int .i64 (newsN L rows))/\Ext p.W w'):=qA λp=>news_calls rb hb pb rv rows L va vc p.W ((HTR.out.ext hx2).ext p.ext) (by omega) ((hrows.ext p.ext).mono p.ext.size)
 have HRM:Hid (roomD rows ds dl=(decide (((rows.length:Int)+(newsN L rows:Int))<=400)&&decide ((L.length:Int)<=60))):=qA (by
  unfold roomD;rw[<- hnw,hLn,N1.out,HLL.out]
  push_cast
  rfl)
 have q0:=ExtBy.cell ((hx2.cell (p:=⟨tb,0,none⟩) hbl).trans H0.out);have q1:=ExtBy.cell ((hx2.cell (p:=⟨tb,1,none⟩) hbl).trans H1.out);have q2:=ExtBy.cell ((hx2.cell (p:=⟨tb,2,none⟩) hbl).trans H2.out);have X2:=qA hx2;clear hx2 hL hLn hO hrows hnw;generalize newsN L rows=nn at *;generalize hLq:L.length=Ln at *;generalize hRq:rows.length=Rn at *;clear hLq hRq;refine wp_region_ext (by kernel_rfl) (by kernel_rfl) ?_
 repeat (go_big_quiet_step (first | (with_reducible exact Calls.ext_of _ (HC1.out _)) | (with_reducible exact Calls.ext_of _ (HC2.out _))))
 refine wpQuiet_nil ?_;intro wd hw';have hxd:Ext w2 wd:=by obtain⟨p,rfl⟩:=hw';exact p.ext
 have XD:=qA (qJ X2.out hxd);clear hxd hw' q0 q1 q2 HC1 HC2;cases g1:decide (((Rn:Int)+(nn:Int))<=400)<;>cases g2:decide ((Ln:Int)<=60)
 all_goals
  rw[g1,g2]at HRM;go_wp2_with fail;go_ret;exact⟨by rw[HRM.out];rfl,XD.out⟩
end Go.Proofs.YtmpmggejhnmakaaGreatDoor
/- tract: a tract without a cargo, in memory; what stays when a part of it turns. -/
namespace Go.Proofs.YtmpmggejhnmakaaGreatDoor
open Go.RowKit
theorem blk_ty {w:World}{b:Nat}{cs cs':List Value}{t t':TypeId}(h:Blk w b cs t)(h':Blk w b cs' t'):t=t':=by
 unfold Blk at h h';rw[h]at h';injection h' with h';injection h' with _ h' _
theorem own_bk {w:World}{B:Nat}{e t:TypeId}{size n:Nat}{v:Value}{xs cs:List Value}{b:Nat}(h:w.ownsRow B e size v n xs)(h':Blk w b cs t)(hne:e≠t):v.ownBlock≠some b:=λhe=>by
 rcases h.2 with ⟨rfl,_⟩ | ⟨g,cap,cur,rfl,_,hg,_⟩
 · cases he
 · simp only[Value.ownBlock,Option.some.injEq]at he
   subst he;exact hne (blk_ty (show Blk w g cur.toList e by unfold Blk;rw[hg]) h')
theorem own_own {w:World}{B B':Nat}{e e':TypeId}{size size' n n':Nat}{v v':Value}{xs xs':List Value}(h:w.ownsRow B e size v n xs)(h':w.ownsRow B' e' size' v' n' xs')(hne:e≠e'):∀j,v.ownBlock=some j->v'.ownBlock≠some j:=λj hj=>by
 rcases h.2 with ⟨rfl,_⟩ | ⟨g,cap,cur,rfl,_,hg,_⟩
 · cases hj
 · simp only[Value.ownBlock,Option.some.injEq]at hj
   subst hj;exact own_bk h' (show Blk w g cur.toList e by unfold Blk;rw[hg]) (Ne.symm hne)
structure TrK where
 tb:Nat
 rb:Nat
 hb:Nat
 pb:Nat
 rv:Value
 hv:Value
 pv:Value
structure TrD where
 rows:List RowD
 holds:List HoldD
 ns:List Int
 parts:List StrZ
 ended:Int
def TrK.noH (k:TrK):Nat->Prop:=λb=>b=k.tb\/b=k.rb\/b=k.pb\/k.rv.ownBlock=some b\/k.pv.ownBlock=some b
structure TrIs (w:World)(k:TrK)(d:TrD):Prop where
 blk:Blk w k.tb [.pointer (some ⟨k.rb,0,none⟩),.pointer (some ⟨k.hb,0,none⟩),.pointer (some ⟨k.pb,0,none⟩),k.pv,.int .i64 d.ended,.pointer none,.bool true] 86
 rt:RTab w k.rb k.rv d.rows
 ht:TabN k.noH w k.hb k.hv d.holds
 pt:PTab w k.pb d.ns
 po:w.ownsRow 0 92 5 k.pv d.parts.length (d.parts.flatMap encSt)
 ps:∀s∈d.parts,s.small
 pn:d.parts.length<=1000
theorem TabN.mono' {no0 no1:Nat->Prop}{w:World}{hb:Nat}{v:Value}{ds:List HoldD}(h:TabN no0 w hb v ds)(hm:∀b,b<w.heap.size->no1 b->no0 b):TabN no1 w hb v ds:=by
 obtain⟨l,h1,h2⟩:=h.row;exact⟨h.blk,⟨l,h1,h2.mono λb hb e=>e.elim .inl (λe=> .inr (hm b hb e))⟩,h.rise,h.ok,h.few⟩
theorem TabN.but' {no0:Nat->Prop}{w w':World}{hb:Nat}{v:Value}{ds:List HoldD}{S:Nat->Prop}(h:TabN no0 w hb v ds)(hx:But S w w')(h1:¬S hb)(h2:∀j,v.ownBlock=some j->¬S j)(h3:∀b,b<w.heap.size->S b->no0 b):TabN no0 w' hb v ds:=by
 obtain⟨l,r1,r2⟩:=h.row;exact⟨h.blk.but hx h1,⟨l,own_but r1 hx h2,r2.but hx (λb hb e=> .inr (h3 b hb e))⟩,h.rise,h.ok,h.few⟩
theorem TabN.own {no0:Nat->Prop}{w:World}{hb:Nat}{v:Value}{ds:List HoldD}(h:TabN no0 w hb v ds):∃n xs,w.ownsRow 0 48 7 v n xs:=let ⟨_,h1,_⟩:=h.row;⟨_,_,h1⟩
theorem TrIs.ext {w w':World}{k:TrK}{d:TrD}(h:TrIs w k d)(hx:Ext w w'):TrIs w' k d:=
 ⟨h.blk.ext' hx,h.rt.ext hx,h.ht.ext hx,h.pt.ext hx,own_ext h.po hx,h.ps,h.pn⟩
section
variable {w w':World} {k:TrK} {d:TrD}
theorem TrIs.tb_hb (h:TrIs w k d):k.tb≠k.hb:=λe=>absurd (blk_ty (e▸h.blk) h.ht.blk) (by decide)
theorem TrIs.tb_rb (h:TrIs w k d):k.tb≠k.rb:=λe=>absurd (blk_ty (e▸h.blk) h.rt.blk) (by decide)
theorem TrIs.tb_pb (h:TrIs w k d):k.tb≠k.pb:=λe=>absurd (blk_ty (e▸h.blk) h.pt.blk) (by decide)
theorem TrIs.rb_hb (h:TrIs w k d):k.rb≠k.hb:=λe=>absurd (blk_ty (e▸h.rt.blk) h.ht.blk) (by decide)
theorem TrIs.rb_pb (h:TrIs w k d):k.rb≠k.pb:=λe=>absurd (blk_ty (e▸h.rt.blk) h.pt.blk) (by decide)
theorem TrIs.pb_hb (h:TrIs w k d):k.pb≠k.hb:=λe=>absurd (blk_ty (e▸h.pt.blk) h.ht.blk) (by decide)
theorem TrIs.holds (h:TrIs w k d){hv':Value}{ds':List HoldD}(ht:TabN k.noH w' k.hb hv' ds')(hx:But (λj=>j=k.hb\/k.hv.ownBlock=some j) w w'):TrIs w' { k with hv:=hv' } { d with holds:=ds' }:=by
 obtain⟨n,xs,ho⟩:=h.ht.own;have hne:∀{e:TypeId} {cs:List Value} {b:Nat},Blk w b cs e->b≠k.hb->48≠e->¬(b=k.hb\/k.hv.ownBlock=some b):=λhb h1 h2 e=>e.elim h1 (own_bk ho hb h2)
 have hno:∀{e:TypeId} {s m:Nat} {v:Value} {ys:List Value},w.ownsRow 0 e s v m ys->e≠180->e≠48->∀j,v.ownBlock=some j->¬(j=k.hb\/k.hv.ownBlock=some j):=λhv h1 h2 j hj e=>by
  rcases e with rfl | e
  · exact own_bk hv h.ht.blk h1 hj
  · exact own_own hv ho h2 j hj e
 exact⟨h.blk.but hx (hne h.blk h.tb_hb (by decide)),h.rt.but hx (hne h.rt.blk h.rb_hb (by decide)) (hno h.rt.row (by decide) (by decide)),ht,h.pt.but hx (hne h.pt.blk h.pb_hb (by decide)),
  own_but h.po hx (hno h.po (by decide) (by decide)),h.ps,h.pn⟩
theorem TrIs.past (h:TrIs w k d){ns':List Int}(hp:PTab w' k.pb ns')(hx:But (λj=>j=k.pb) w w'):TrIs w' k { d with ns:=ns' }:=by
 obtain⟨n,xs,ho⟩:=h.ht.own
 exact⟨h.blk.but hx h.tb_pb,h.rt.but hx h.rb_pb (λj hj e=>own_bk h.rt.row h.pt.blk (by decide) (e▸hj)),h.ht.but' hx (Ne.symm h.pb_hb) (λj hj e=>own_bk ho h.pt.blk (by decide) (e▸hj)) (λb _ e=> .inr (.inr (.inl e))),hp,
  own_but h.po hx (λj hj e=>own_bk h.po h.pt.blk (by decide) (e▸hj)),h.ps,h.pn⟩
theorem TrIs.rows (h:TrIs w k d){rv':Value}{rs':List RowD}(hr:RTab w' k.rb rv' rs')(hf:rv'=k.rv\/∀j,rv'.ownBlock=some j->w.heap.size<=j)(hx:But (λj=>j=k.rb) w w'):TrIs w' { k with rv:=rv' } { d with rows:=rs' }:=by
 obtain⟨n,xs,ho⟩:=h.ht.own;have h1:TabN (λb=>k.noH b\/w.heap.size<=b) w k.hb k.hv d.holds:=h.ht.mono' λb hb e=>e.elim id (λe=>by omega);have h2:=h1.but' hx (Ne.symm h.rb_hb) (λj hj e=>own_bk ho h.rt.blk (by decide) (e▸hj)) (λb _ e=> .inl (.inr (.inl e)));refine⟨h.blk.but hx h.tb_rb,hr,h2.mono' λb _ e=>?_,h.pt.but hx (Ne.symm h.rb_pb),own_but h.po hx (λj hj e=>own_bk h.po h.rt.blk (by decide) (e▸hj)),h.ps,h.pn⟩;unfold TrK.noH at e ⊢;rcases e with e | e | e | e | e
 · exact .inl (.inl e)
 · exact .inl (.inr (.inl e))
 · exact .inl (.inr (.inr (.inl e)))
 · rcases hf with rfl | hf
   · exact .inl (.inr (.inr (.inr (.inl e))))
   · exact .inr (hf b e)
 · exact .inl (.inr (.inr (.inr (.inr e))))
end
end Go.Proofs.YtmpmggejhnmakaaGreatDoor
