/- TractHeld: while a key is held, its row does not change but by its holder's Finish, and no other one holds it. -/
import Derived.Test.YtmpmggejhnmakaaGreatDoorZ39
import Derived.Test.YtmpmggejhnmakaaGreatDoorZ40
import Derived.Test.YtmpmggejhnmakaaGreatDoorZ29
import Derived.Test.YtmpmggejhnmakaaGreatDoorZ45
import Derived.Test.YtmpmggejhnmakaaGreatDoorZ24
import Derived.Test.YtmpmggejhnmakaaGreatDoorZ26
import Derived.Test.YtmpmggejhnmakaaGreatDoorZ07
import Derived.Test.YtmpmggejhnmakaaGreatDoorZ03
import Derived.Test.YtmpmggejhnmakaaGreatDoorZ01
import Derived.ProofKit
import Derived.Lay
import Derived.LaidMore
import Derived.Stop.Joined
import Derived.Stop.LaidErr
import Derived.Lib.LaidTab
import Derived.Test.YtmpmggejhnmakaaGreatDoorZ41
import Derived.Test.YtmpmggejhnmakaaGreatDoorZ32
set_option maxRecDepth 100000
set_option maxHeartbeats 3200000
namespace Go.Proofs.YtmpmggejhnmakaaGreatDoor
open Go.RowKit
theorem TrIs.good {w:World}{k:TrK}{d:TrD}(T:TrIs w k d)(h:Roomy d.rows d.holds):GoodR d.rows d.holds:=⟨T.rt.rise,T.ht.rise,T.rt.ok,λx hx=>(T.ht.ok x hx).2,h⟩
structure HeldI (w w9 W:World)(tb b6:Nat)(j:Nat)(k:TrK)(d:TrD):Prop where
 is:TrIs W k d
 tb:k.tb=tb
 room:Roomy d.rows d.holds
 few:d.parts.length<=1+2 * j
 own:∀b,k.owns b->w.heap.size<=b/\b≠b6
 but:But (λb=>w.heap.size<=b/\b≠b6) w9 W
theorem HeldI.ext {w w9 W W':World}{tb b6 j:Nat}{k:TrK}{d:TrD}(h:HeldI w w9 W tb b6 j k d)(hx:Ext W W'):HeldI w w9 W' tb b6 j k d:=
 ⟨h.is.ext hx,h.tb,h.room,h.few,h.own,h.but.trans (Ext.but hx (λ_=>False)) (λ_ _ e=>e) (λ_ _ e=>e.elim)⟩
structure DeedZ.wf (z:DeedZ):Prop where
 fit:z.fit
 ok:∀a∈z.acts,a.ok
 cl: -9223372036854775808<=z.cl/\z.cl<=9223372036854775807
structure Seen (W0 W:World)(rl:List RowD)(hl:List HoldD)(ro:Option Addr)(rc:Nat)(ho:Option Addr)(hc:Nat)(L:List HoldV):Prop where
 rows:W.ownsRow 0 52 2 (.slice ro rl.length rc) rl.length (rl.flatMap encRw)
 rnew:∀j,(Value.slice ro rl.length rc).ownBlock=some j->W0.heap.size<=j
 holds:W.ownsRow 0 48 7 (.slice ho L.length hc) L.length (L.flatMap encHV)
 hnew:∀j,(Value.slice ho L.length hc).ownBlock=some j->W0.heap.size<=j
 are:HoldsAre W (λb=>b<W0.heap.size) L hl
theorem Seen.but {W0 W W':World}{rl:List RowD}{hl:List HoldD}{ro:Option Addr}{rc:Nat}{ho:Option Addr}{hc:Nat}{L:List HoldV}{S:Nat->Prop}(h:Seen W0 W rl hl ro rc ho hc L)(hx:But S W W')(hS:∀b,S b->b<W0.heap.size):Seen W0 W' rl hl ro rc ho hc L:=
 ⟨own_but h.rows hx (λj e e2=>by have:=h.rnew j e;have:=hS j e2;omega),h.rnew,own_but h.holds hx (λj e e2=>by have:=h.hnew j e;have:=hS j e2;omega),h.hnew,h.are.but hx (λb _ e=>hS b e)⟩
theorem Seen.ext {W0 W W':World}{rl:List RowD}{hl:List HoldD}{ro:Option Addr}{rc:Nat}{ho:Option Addr}{hc:Nat}{L:List HoldV}(h:Seen W0 W rl hl ro rc ho hc L)(hx:Ext W W'):Seen W0 W' rl hl ro rc ho hc L:=h.but (Ext.but hx (λ_=>False)) (λ_ e=>e.elim)
theorem Seen.rrows {W0 W:World}{rl:List RowD}{hl:List HoldD}{ro:Option Addr}{rc:Nat}{ho:Option Addr}{hc:Nat}{L:List HoldV}(h:Seen W0 W rl hl ro rc ho hc L):Rows 2 encRw W.heap.size W ro rl:=by
 obtain⟨_,_,hv,_,_,hr⟩:=Rows.own (enc:=encRw) (sz:=2) (λ_=>rfl) h.rows;simp only[Value.slice.injEq,true_and]at hv;obtain⟨rfl,rfl⟩:=hv;exact hr
theorem Seen.hrows {W0 W:World}{rl:List RowD}{hl:List HoldD}{ro:Option Addr}{rc:Nat}{ho:Option Addr}{hc:Nat}{L:List HoldV}(h:Seen W0 W rl hl ro rc ho hc L):Rows 7 encHV W.heap.size W ho L:=by
 obtain⟨_,_,hv,_,_,hr⟩:=Rows.own (enc:=encHV) (sz:=7) (λ_=>rfl) h.holds;simp only[Value.slice.injEq,true_and]at hv;obtain⟨rfl,rfl⟩:=hv;exact hr
theorem nrows_low {α:Type}{sz:Nat}{enc:α->List Value}{no:Nat->Prop}{B:Nat}{w:World}{ao:Option Addr}{l:List α}(h:Rows sz enc B w ao l)(hB:B<=w.heap.size)(hno:∀b,b<B->¬no b):NRows sz enc no w ao l:=λhne=>
 let ⟨b,off,e,hb,hc⟩:=h hne
 ⟨b,off,e,qN hb hB,hno b hb,hc⟩
end Go.Proofs.YtmpmggejhnmakaaGreatDoor
/- A row of layer 18's deeds, opened. -/
namespace Go.Proofs.YtmpmggejhnmakaaGreatDoor
open Go.ChangeShapes Go.WideShapes Go.ChangeAt Go.RowKit Go.ChangeMaps Go.Joins Go.Deep
section
variable {H:Type} {P:Program} {enc:TypeId×Value->H} {w:World} {base:Nat} {spare:Nat->Bool} {held:Bool}
theorem trod_struct8 {t:TypeId}{f0 f1 f2 f3 f4 f5 f6 f7:Field}{fuel:Nat}{cs:List Value}{x:DataW H×List MemPlace}(ht:P.underlying t=some (.struct #[f0,f1,f2,f3,f4,f5,f6,f7]))(h:DataW.trod enc P w base spare held fuel t cs=some x):
 ∃y0 y1 y2 y3 y4 y5 y6 y7 n,x.1= .agg [y0.1,y1.1,y2.1,y3.1,y4.1,y5.1,y6.1,y7.1]/\DataW.trod enc P w base spare held n f0.type ((cs.drop f0.offset).take (P.cellsOf f0.type))=some y0/\
  DataW.trod enc P w base spare held n f1.type ((cs.drop f1.offset).take (P.cellsOf f1.type))=some y1/\
  DataW.trod enc P w base spare held n f2.type ((cs.drop f2.offset).take (P.cellsOf f2.type))=some y2/\
  DataW.trod enc P w base spare held n f3.type ((cs.drop f3.offset).take (P.cellsOf f3.type))=some y3/\
  DataW.trod enc P w base spare held n f4.type ((cs.drop f4.offset).take (P.cellsOf f4.type))=some y4/\
  DataW.trod enc P w base spare held n f5.type ((cs.drop f5.offset).take (P.cellsOf f5.type))=some y5/\
  DataW.trod enc P w base spare held n f6.type ((cs.drop f6.offset).take (P.cellsOf f6.type))=some y6/\
  DataW.trod enc P w base spare held n f7.type ((cs.drop f7.offset).take (P.cellsOf f7.type))=some y7:=by
 obtain⟨xs,n,_,rfl,hl,hlen,hf⟩:=DataW.trod_struct ht h
 match xs,hlen with
 | [y0,y1,y2,y3,y4,y5,y6,y7],_=>exact⟨y0,y1,y2,y3,y4,y5,y6,y7,n,by simp,by simpa using hf 0 f0 rfl,by simpa using hf 1 f1 rfl,by simpa using hf 2 f2 rfl,by simpa using hf 3 f3 rfl,by simpa using hf 4 f4 rfl,by simpa using hf 5 f5 rfl,by simpa using hf 6 f6 rfl,by simpa using hf 7 f7 rfl⟩
theorem slice_wt {t e:TypeId}{fuel:Nat}{cs:List Value}{x:DataW H×List MemPlace}{o:Option Addr}{n c:Nat}(ht:P.underlying t=some (.slice e))(h:DataW.trod enc P w base spare held fuel t cs=some x)(hcs:cs=[.slice o n c])(hb:1<=P.bytesOf e):n=0\/∃k∈x.1.weights P t,n<=k:=by
 rcases DataW.trod_slice ht h with ⟨e1,_⟩ | ⟨a,len,cap,elems,rest,m,_,e1,hx,_,_,_,hl,_⟩
 · rw[hcs]at e1
   simp only[List.cons.injEq,Value.slice.injEq,and_true]at e1;exact .inl e1.2.1
 · rw[hcs]at e1
   simp only[List.cons.injEq,Value.slice.injEq,and_true]at e1;refine .inr ⟨((elems.map (·.1)).length+(rest.map (·.1)).length) * P.bytesOf e,?_,?_⟩
   · rw[hx];simp[DataW.weights,ht]
   · rw[List.length_map,e1.2.1,<- hl]
     calc elems.length=elems.length * 1:=by omega
      _<=(elems.length+(rest.map (·.1)).length) * P.bytesOf e:=Nat.mul_le_mul (by omega) hb
theorem slice_sh {t e:TypeId}{fuel:Nat}{cs:List Value}{x:DataW H×List MemPlace}(ht:P.underlying t=some (.slice e))(h:DataW.trod enc P w base spare held fuel t cs=some x):∃o n c,cs=[.slice o n c]:=by
 rcases DataW.trod_slice ht h with ⟨e,_⟩ | ⟨a,n,c,_,_,_,_,e,_⟩
 · exact⟨none,0,0,e⟩
 · exact⟨some a,n,c,e⟩
end
def GGood (W:World)(z:DeedZ)(ws:List Nat):Prop:=Rows 4 encAct W.heap.size W z.ao z.acts/\(ws.all (· <=reachBytes)=true->z.wf)
theorem open_deedZ {H:Type}{enc:TypeId×Value->H}{W:World}{sp:Nat->Bool}{held:Bool}{fuel:Nat}{cs:List Value}{x:DataW H×List MemPlace}(h:DataW.trod enc Tryz.prog W 0 sp held fuel 22 cs=some x):
 ∃(ao:Option Addr) (cap:Nat) (l:List DeedZ),cs=[.slice ao l.length cap]/\l.length<=cap/\cap<=maxLen/\Rows 10 encDeed W.heap.size W ao l/\∀a∈l,GGood W a (x.1.weights Tryz.prog 22):=by
 refine open_rows encDeed (GGood W) ⟨0,0,0,0,none,0,[],false,0,⟨#[]⟩,⟨#[]⟩,none,0,[]⟩ Tryz.underlying22 (E:=39) (by kernel_rfl) (λq=>⟨_,rfl⟩) (λ_=>rfl) (λn cs' y hlen h2=>?_) (λq ws ws' hw hq=>⟨hq.1,λha=>hq.2 (by rw[List.all_eq_true]at ha ⊢;exact λz hz=>ha z (hw z hz))⟩) h;have c0:Tryz.prog.cellsOf 3=1:=by kernel_rfl
 have c1:Tryz.prog.cellsOf 35=2:=by kernel_rfl
 have c2:Tryz.prog.cellsOf 36=1:=by kernel_rfl
 have c3:Tryz.prog.cellsOf 4=1:=by kernel_rfl
 have c4:Tryz.prog.cellsOf 30=2:=by kernel_rfl
 have c5:Tryz.prog.cellsOf 37=1:=by kernel_rfl
 have c6:Tryz.prog.cellsOf 9=1:=by kernel_rfl
 obtain⟨y0,y1,y2,y3,y4,y5,y6,y7,k,hxy,g0,g1,g2,g3,g4,g5,g6,g7⟩:=trod_struct8 Tryz.underlying39 h2
 match cs',hlen with
 | [v0,v1,v2,v3,v4,v5,v6,v7,v8,v9],_=>
   simp[c0,c1,c2,c3,c4,c5]at g0 g1 g2 g3 g4 g5 g6 g7;obtain⟨kd,e0,_,w0⟩:=DataW.trod_int Tryz.underlying3 g0;obtain⟨z0,z1,k2,hz,_,m0,m1⟩:=trod_struct2 Tryz.underlying35 g1;simp[c0]at m0 m1;obtain⟨cl,e1,_,w1⟩:=DataW.trod_int Tryz.underlying3 m0;obtain⟨nm,e2,_,w2⟩:=DataW.trod_int Tryz.underlying3 m1;obtain⟨ep,e3,_,w3⟩:=DataW.trod_int Tryz.underlying3 g2;obtain⟨xo,xc,acts,e4,a1,a2,ha,hfa⟩:=open_acts g3;obtain⟨cm,e5,_⟩:=DataW.trod_bool Tryz.underlying4 g4;obtain⟨sch,e6,_,w6⟩:=DataW.trod_int Tryz.underlying3 g5;obtain⟨q0,q1,k4,hq,_,o0,o1⟩:=trod_struct2 Tryz.underlying30 g6;simp[c6]at o0 o1;obtain⟨lo,e7,hy7,_⟩:=DataW.trod_string Tryz.underlying9 o0;obtain⟨hi,e8,hy8,_⟩:=DataW.trod_string Tryz.underlying9 o1;obtain⟨bo,bn,bc,e9⟩:=slice_sh Tryz.underlying37 g7;simp only[List.cons.injEq,and_true]at e0 e1 e2 e3 e4 e5 e6 e7 e8 e9;subst e0 e1 e2 e3 e4 e5 e6 e7 e8 e9
   have hwt:y.1.weights Tryz.prog 39=DataW.weightsEach Tryz.prog [3,35,3,36,4,3,30,37] [y0.1,y1.1,y2.1,y3.1,y4.1,y5.1,y6.1,y7.1]:=by
    rw[hxy];simp only[DataW.weights,Tryz.underlying39];rfl
   have hup:∀(j:Nat) (t:TypeId) (d:DataW H),([3,35,3,36,4,3,30,37]:List TypeId)[j]? =some t->[y0.1,y1.1,y2.1,y3.1,y4.1,y5.1,y6.1,y7.1][j]? =some d->∀z∈d.weights Tryz.prog t,z∈y.1.weights Tryz.prog 39:=λj t d ht hd z hz=>by
    rw[hwt];exact DataW.weights_mem_each ht hd z hz
   have wi:∀{n:Int},(Lit.int .i64 n).wf=true-> -9223372036854775808<=n/\n<=9223372036854775807:=λ{n} w=>by
    simpa [Lit.wf,IntKind.min,IntKind.max,IntKind.signed,IntKind.bits] using w
   refine⟨⟨kd,cl,nm,ep,xo,xc,acts,cm,sch,lo,hi,bo,bc,List.replicate bn 0⟩,by simp[encDeed],ha,λhall=>?_⟩;have hb:∀z∈y.1.weights Tryz.prog 39,z<=140737488351232:=λz hz=>of_decide_eq_true (List.all_eq_true.1 hall z hz)
   have hok:∀a∈acts,a.ok:=λa ha'=>(hfa a ha').ok (by
    rw[List.all_eq_true]
    exact λz hz=>List.all_eq_true.1 hall z (hup 3 _ _ rfl rfl z hz))
   refine⟨⟨λa ha'=>⟨(hok a ha').2.2.1,(hok a ha').2.2.2.1⟩,?_,?_,hb _ ?_,hb _ ?_⟩,hok,wi w1⟩
   · show acts.length<=_
     unfold maxLen at a2;omega
   · show (List.replicate bn (0:UInt8)).length<=_
     rw[List.length_replicate];rcases slice_wt Tryz.underlying37 g7 rfl (by rw[show Tryz.prog.bytesOf 5=1 from by kernel_rfl];decide) with h | ⟨k,hk,hl⟩
     · omega
     · have:=hb k (hup 7 _ _ rfl rfl _ hk);omega
   · refine hup 6 _ _ rfl rfl _ ?_
     rw[Lib.size_eq,hq];simp[DataW.weights,Tryz.underlying30,DataW.weightsEach,hy7]
   · refine hup 6 _ _ rfl rfl _ ?_
     rw[Lib.size_eq,hq];simp[DataW.weights,Tryz.underlying30,DataW.weightsEach,hy8]
end Go.Proofs.YtmpmggejhnmakaaGreatDoor
/- What the rows' listed variables give the walks; a world in which they hold. -/
namespace Go.Proofs.YtmpmggejhnmakaaGreatDoor
open Go.RowKit
def laidAllW:List (String×DataW Unit):=[("math/bits.deBruijn32tab",Rows.laid_math_bits_deBruijn32tab),("math/bits.deBruijn64tab",Rows.laid_math_bits_deBruijn64tab),("internal/strconv.uint64pow10",Rows.laid_internal_strconv_uint64pow10),("unicode/utf8.acceptRanges",Rows.laid_unicode_utf8_acceptRanges),("strconv.ErrRange",Rows.laid_strconv_ErrRange),("strconv.ErrSyntax",Rows.laid_strconv_ErrSyntax),("unicode/utf8.first",Rows.laid_unicode_utf8_first)]
theorem door_metW (os:Os)(args:Array Value):laidMetH Tryz.prog laidAllW ((World.laidAll Tryz.prog os laidAllW).forCall (λ_ _=>0) ⟨#[],args,[]⟩).memory:=by
 rw[MakeChecks.laidMetH_plain _ _ _ (by kernel_rfl)];exact laidMet_laidAll _ (by kernel_rfl) (by kernel_rfl)
theorem star: "*" ++ "errors.errorString" = "*errors.errorString" :=by decide
theorem rowErr (u:TypeId)(h:Tryz.prog.typeName? 3 u=some "*errors.errorString"):u=374:=
 typeName_ptr_named (nm:= "errors.errorString") (by rw[star];kernel_rfl) (by kernel_rfl) (by decide) u (by rw[star];exact h)
theorem pow10_eq:(Rows.laid_internal_strconv_uint64pow10:DataW Unit)=Lib.tabData .u64 Lib.pow10Tab:=by kernel_rfl
theorem lv_of_laid {W:World}(h:laidMetH Tryz.prog laidAllW W):LV W.heap.size W:=by
 rw[MakeChecks.laidMetH_plain _ _ _ (by kernel_rfl)]at h;have h2:=h.tail.tail;have h3:=h2.tail.tail;have h4:=h3.tail
 have t1:Lib.TabIs Tryz.prog W "internal/strconv.uint64pow10" .u64 Lib.pow10Tab:=
  Lib.tabIs_of_head (rest:=_) gPow10 (by kernel_rfl) Tryz.underlying370 Tryz.underlying321 (by kernel_rfl) (by kernel_rfl) (by rw[<- pow10_eq];exact h2)
 obtain⟨a3,s3,v3,-,-,-⟩:=laid_sentinel h3 gErrRange (by kernel_rfl) Tryz.underlying324 rowErr Tryz.underlying374 Tryz.underlying376 rfl rfl Tryz.underlying9 (by kernel_rfl) (by kernel_rfl);obtain⟨a4,s4,v4,-,-,-⟩:=laid_sentinel h4 gErrSyntax (by kernel_rfl) Tryz.underlying324 rowErr Tryz.underlying374 Tryz.underlying376 rfl rfl Tryz.underlying9 (by kernel_rfl) (by kernel_rfl);exact⟨t1,⟨_,_,v4⟩,⟨_,_,v3⟩,var_lt gPow10 t1,var_lt gErrSyntax v4,var_lt gErrRange v3⟩
open Go.ChangeShapes Go.WideShapes Go.ChangeAt Go.Deep Go.Joins
end Go.Proofs.YtmpmggejhnmakaaGreatDoor
/- tract.read, where all is right. -/
namespace Go.Proofs.YtmpmggejhnmakaaGreatDoor
open Go.RowKit
theorem blk_neG {w:World}{b b':Nat}{cs cs':List Value}{t t':TypeId}(h:Blk w b cs t)(h':Blk w b' cs' t')(hn:t≠t'):b≠b':=λe=>hn (blk_ty (e▸h) h')
def GoodG (s:RSt)(rs:List RowD)(ds:List HoldD)(ns:List Int)(s':RSt):Prop:=∃n s1 s3,numS 400 s=(n,s1)/\s1.fl=false/\linesG s1 n/\(linesK s1 n).1=rs/\holdsS (linesK s1 n).2=some (ds,s3)/\pnumK s3 8=(ns,s')/\s'.fl=false/\putRE rs []=0/\putE ds []=0
theorem lineS_smallG (s:RSt):(lineS s).1.key.size<=20:=(rowS_len 20 s).1
theorem linesK_smallG (s:RSt):∀k,∀x∈(linesK s k).1,x.key.size<=20
 | 0,x,h=>by simp[linesK]at h
 | k+1,x,h=>by
   rw[linesK]at h;rcases List.mem_append.1 h with h | h
   · exact linesK_smallG s k x h
   · rw[List.mem_singleton]at h;subst h;exact lineS_smallG _
theorem tab0G {no0 no1:Nat->Prop}{w:World}{hb:Nat}{v:Value}(h:TabN no0 w hb v []):TabN no1 w hb v []:=by
 obtain⟨l,h1,h2⟩:=h.row;cases l with
 | nil=>exact⟨h.blk,⟨[],h1,trivial⟩,h.rise,h.ok,h.few⟩
 | cons x l=>exact h2.elim
theorem holdsK_okG {s:RSt}:∀{k:Nat}{l:List HoldD}{s1:RSt},holdsK s k=some (l,s1)->∀d∈l,d.ok
 | 0,l,s1,h=>by
   simp only[holdsK,Option.some.injEq,Prod.mk.injEq]at h;rw[<- h.1];intro d hd;simp at hd
 | k+1,l,s1,h=>by
   obtain⟨l0,s0,h1,rfl,_⟩:=holdsK_prev h;intro d hd;rcases List.mem_append.1 hd with hd | hd
   · exact holdsK_okG h1 d hd
   · rw[List.mem_singleton]at hd
     subst hd;exact holdS_ok s0
theorem holdsS_okG {s s1:RSt}{l:List HoldD}(h:holdsS s=some (l,s1)):(∀d∈l,d.ok)/\l.length<=60:=by
 unfold holdsS at h;have hn:=numS_le 60 s;cases hk:holdsK (numS 60 s).2 (numS 60 s).1 with
 | none=>rw[hk]at h;cases h
 | some p=>
   obtain⟨l0,s0⟩:=p;rw[hk]at h;simp only at h
   split at h
   · cases h
   · simp only[Option.some.injEq,Prod.mk.injEq]at h
     obtain⟨rfl,rfl⟩:=h;exact⟨holdsK_okG hk,by rw[holdsK_len hk];exact hn⟩
structure TabsG (B:Nat)(w:World)(rb hb pb:Nat)(rv hv:Value)(rs:List RowD)(ds:List HoldD)(ns:List Int):Prop where
 rt:RTab w rb rv rs
 ht:TabN (λb=>b<B) w hb hv ds
 pt:PTab w pb ns
 rl:B<=rb
 hl:B<=hb
 pl:B<=pb
 ro:∀j,rv.ownBlock=some j->B<=j
 ho:∀j,hv.ownBlock=some j->B<=j
theorem TabsG.but {B:Nat}{w w':World}{rb hb pb:Nat}{rv hv:Value}{rs:List RowD}{ds:List HoldD}{ns:List Int}{S:Nat->Prop}(h:TabsG B w rb hb pb rv hv rs ds ns)(hx:But S w w')(hS:∀b,S b->b<B):TabsG B w' rb hb pb rv hv rs ds ns:=
 have k:∀b,B<=b->¬S b:=λb hb e=>absurd (hS b e) (Nat.not_lt.2 hb)
 ⟨h.rt.but hx (k _ h.rl) (λj e=>k _ (h.ro j e)),h.ht.but' hx (k _ h.hl) (λj e=>k _ (h.ho j e)) (λ_ _ e=>hS _ e),h.pt.but hx (k _ h.pl),h.rl,h.hl,h.pl,h.ro,h.ho⟩
theorem TabsG.ext {B:Nat}{w w':World}{rb hb pb:Nat}{rv hv:Value}{rs:List RowD}{ds:List HoldD}{ns:List Int}(h:TabsG B w rb hb pb rv hv rs ds ns)(hx:Ext w w'):TabsG B w' rb hb pb rv hv rs ds ns:=h.but (Ext.but hx (λ_=>False)) (λ_ e=>e.elim)
theorem TabsG.base {B B':Nat}{w:World}{rb hb pb:Nat}{rv hv:Value}{rs:List RowD}{ds:List HoldD}{ns:List Int}(h:TabsG B' w rb hb pb rv hv rs ds ns)(hB:B<=B'):TabsG B w rb hb pb rv hv rs ds ns:=
 ⟨h.rt,h.ht.mono' (λ_ _ e=>qN e hB),h.pt,qM hB h.rl,qM hB h.hl,qM hB h.pl,λj hj=>qM hB (h.ro j hj),λj hj=>qM hB (h.ho j hj)⟩
theorem tabReadG_calls (B qb cap:Nat)(ao:Option Addr)(s s':RSt)(rs:List RowD)(ds:List HoldD)(ns:List Int)(w:World)(T:Rdr w B qb ao cap s)(hBw:B<=w.heap.size)(hg:GoodG s rs ds ns s'):
 Calls Tryz.prog 71 #[.pointer (some ⟨qb,0,none⟩)] w λe w'=>(∃rb hb pb rv hv,e= .returned (.tuple #[.agg #[.pointer (some ⟨rb,0,none⟩),.pointer (some ⟨hb,0,none⟩),.pointer (some ⟨pb,0,none⟩)],.bool true])/\TabsG w.heap.size w' rb hb pb rv hv (putAllR rs []) (insAll ds []) ns)/\RdPost B qb s' w w':=by
 obtain⟨n,s1,s3,h1,h2,h3,h4,h5,h7,h8,h9,h10⟩:=hg;have hsm:=linesK_smallG s1 n;have hle:=numS_le 400 s;rw[h1]at hle;simp only at hle;have hll:=linesK_len s1 n;rw[h4]at hsm hll;have hl4:rs.length<=400:=by omega
 clear hll;obtain⟨w0,hw0⟩:∃w0,w0=w.alloc (.cells #[.pointer none,.pointer none,.pointer none] 82):=⟨_,rfl⟩;have hx0:Ext w w0:=by rw[hw0];exact (qK _ w).alloc (qL _) _
 have ha0:Blk w0 w.heap.size [.pointer none,.pointer none,.pointer none] 82:=by rw[hw0];exact Blk.new w _ _
 have hold:=T.old;have HT:=qA T;have HRD:=qA (λW (hW:But (λj=>w.heap.size<=j) w W)=>rowsRead_calls B qb cap n ao s s1 W (T.but hW (λb hb e=>by omega)) (qM hBw hW.size) h1 h2 h3);have HHD:=qA (λW ao' cap' (hT:Rdr W B qb ao' cap' (linesK s1 n).2) (hW:B<=W.heap.size)=>holds_read B qb cap' ao' _ W hT hW);rw[h5]at HHD;unfold ReadPost at HHD;simp only at HHD;have HPD:=qA (λW ao' cap' (hT:Rdr W B qb ao' cap' s3) (hW:B<=W.heap.size)=>pastRead_calls B qb cap' ao' s3 W hT hW (by rw[h7];exact h8));rw[h7]at HPD;rw[h4]at HRD;simp only at HPD;have W0:=qA hw0;have X0:=qA hx0;have A0:=qA ha0;have H9:=qA h9;have SM:=qA hsm;have H10:=qA h10;have HOK:=qA (holdsS_okG h5);clear T hw0 hx0 ha0 h1 h2 h3 h4 h5 h7 h8 h9 h10 hsm;go_enter Tryz.func71,Tryz.ntmps71;go_upto_region 1 with fail;rw[<- W0.out];clear W0;generalize hN:w.heap.size=N at *;have HN:=qA hN;clear hN;have f0:=A0.out.free 0;go_wp2_with fail;refine (empty_calls w0).mono ?_;rintro e w1 ⟨rb,hb,pb,rfl,b1,b2,b3,l1,l2,l3,hx1⟩;have hA1:=A0.out.ext' hx1;have hN0:=A0.out.lt;have c0:=hA1.cell 0;have c1:=hA1.cell 1;have c2:=hA1.cell 2;have f0:=hA1.free 0;have f1:=hA1.free 1;have f2:=hA1.free 2;simp only[qB,qC]at c0 c1 c2;obtain⟨w2,hw2⟩:∃w2,w2=((w1.setCell ⟨N,0,none⟩ (.pointer (some ⟨rb,0,none⟩))).setCell ⟨N,1,none⟩ (.pointer (some ⟨hb,0,none⟩))).setCell ⟨N,2,none⟩ (.pointer (some ⟨pb,0,none⟩)):=⟨_,rfl⟩;have hA2:Blk w2 N [.pointer (some ⟨rb,0,none⟩),.pointer (some ⟨hb,0,none⟩),.pointer (some ⟨pb,0,none⟩)] 82:=by rw[hw2];exact ((hA1.set 0 _).set 1 _).set 2 _
 have hB2:But (λj=>j=N) w1 w2:=by rw[hw2];exact (But.set2 w1 N 0 1 _ _).here rfl 2 _
 have hBw2:But (λj=>N<=j) w w2:=(((Ext.but X0.out (λ_=>False)).trans (Ext.but hx1 (λ_=>False)) (U:=λ_=>False) (λ_ _ e=>e) (λ_ _ e=>e))).trans hB2 (λ_ _ e=>e.elim) (λi _ e=>by omega);have W2:=qA hw2;have A2:=qA hA2;have BW2:=qA hBw2;have R2:=qA (rtabNew (b1.but hB2 (by omega)));have D2:=qA (tabNew (λ_=>True) (b2.but hB2 (by omega)));have L:=qA (And.intro l1 (And.intro l2 l3));have LT:=qA (show N<rb/\N<hb from ⟨by omega,by omega⟩);clear hw2 hA2 hB2 hBw2 b1 b2 b3 l1 l2 l3 hx1 hA1;go_upto_region 2 with fail;rw[<- W2.out];clear W2 c0 c1 c2 f0 f1 f2;have HRD2:=qA (HRD.out w2 BW2.out);clear HRD;go_wp2_with fail;refine HRD2.out.mono ?_;rintro e w3 ⟨⟨v,rfl,ho,hj⟩,⟨ao3,cap3,h1⟩,h2⟩;obtain⟨vo,vc,rfl⟩:=own_slice ho;have hqN:∀b,N<=b->¬b=qb:=λb hb e=>by have:=HN.out;omega
 have QN:=qA hqN;have O3:=qA ho;have J3:=qA hj;have T3:=qA h1;have B3:=qA h2;clear ho hj h1 h2 HRD2 hqN;go_wp2_with fail;refine (HHD.out w3 ao3 cap3 T3.out (by have:=BW2.out.size;have:=B3.out.size;have:=HN.out;omega)).mono ?_;rintro e w4 ⟨⟨vh,q,rfl,hql,hqo,hqn,hqa⟩,⟨ao4,cap4,h1⟩,h2⟩;obtain⟨ho4,hc4,rfl⟩:=own_slice hqo;have QO:=qA hqo;have QN4:=qA hqn;have QA:=qA hqa;have QL:=qA hql;have h30:w.heap.size<=w3.heap.size:=qM BW2.out.size B3.out.size;clear hqo hqn hqa hql;have T4:=qA h1;have B4:=qA (B3.out.trans h2 (λ_ _ e=>e) (λ_ _ e=>e));have O4:=qA (own_but O3.out h2 (λj hj e=>by have:=J3.out j hj;have:=BW2.out.size;have:=HN.out;omega));clear h1 h2;have hB4:B<=w4.heap.size:=by have:=BW2.out.size;have:=B4.out.size;have:=HN.out;omega
 go_wp2_with fail;refine (HPD.out w4 ao4 cap4 T4.out hB4).mono ?_;rintro e w5 ⟨⟨p5,rfl,hp,hpl⟩,⟨ao5,cap5,h1⟩,h2⟩;have hb5:=B4.out.trans h2 (U:=λj=>j=qb) (λ_ _ e=>e) (λ_ _ e=>e);have T5:=qA h1;have B5:=qA hb5;have O5:=qA (own_but O4.out h2 (λj hj e=>by have:=J3.out j hj;have:=BW2.out.size;have:=HN.out;omega));have P5:=qA hp;have hq3:qb<w3.heap.size:=by have:=HN.out;omega
 have QO5:=qA (own_but QO.out h2 (λj hj e=>by have:=QN4.out j hj;omega));have QA5:=qA (HoldsAre.but h2 (λb _ e=> .inr (by omega)) QA.out);have PL:=qA (show N<=p5 by have:=BW2.out.size;have:=B4.out.size;have:=HN.out;omega);have A5:=qA (A2.out.but hb5 (QN.out N (qL _)));have R5:=qA (R2.out.but hb5 (QN.out rb (Nat.le_of_lt LT.out.1)) (by simp[Value.ownBlock]));have D5:=qA (D2.out.but' hb5 (QN.out hb (Nat.le_of_lt LT.out.2)) (by simp[Value.ownBlock]) (λ_ _ _=>trivial));obtain⟨ao6,cap6,hv6,_,_,hr6⟩:=Rows.own (enc:=encRw) (sz:=2) (λ_=>rfl) O5.out;simp only[Value.slice.injEq,true_and]at hv6;obtain⟨rfl,rfl⟩:=hv6;have HPT:=qA (rowsPut_calls rb _ [] rs vo vc w5 R5.out (by omega) hr6 (λx hx=>qM (SM.out x hx) (by omega)));have a0:=A5.out.cell 0;have a1:=A5.out.cell 1;simp only[qB,qC]at a0 a1;have hNr:¬N=rb:=by have:=LT.out.1;omega
 have hNl:=A5.out.lt;clear hp hpl h1 h2 hb5 hr6 HHD HPD;rw[H9.out]at HPT;go_wp2_with fail;refine HPT.out.mono ?_;rintro e w6 ⟨rfl,⟨rv,hrt,hrf⟩,h2⟩;have hputT:putRT rs []=putAllR rs []:=by unfold putRT;rw[if_pos H9.out]
 rw[hputT]at hrt;have R6:=qA hrt
 have hRF:∀j,rv.ownBlock=some j->N<=j:=λj hj=>by
  rcases hrf with rfl | hrf
  · simp[Value.ownBlock]at hj
  · have:=hrf j hj;have:=BW2.out.size;have:=B5.out.size;have:=HN.out;omega
 have RF:=qA hRF;have hb_r:hb≠rb:=blk_neG D5.out.blk R5.out.blk (by decide);have hp_r:p5≠rb:=blk_neG P5.out.blk R5.out.blk (by decide);have A6:=qA (A5.out.but h2 hNr);have P6:=qA (P5.out.but h2 hp_r);have T6:=qA (T5.out.but h2 (λb hb e=>by have:=LT.out.1;have:=HN.out;omega));have D6:=qA (D5.out.but' h2 hb_r (by simp[Value.ownBlock]) (λ_ _ _=>trivial));have B6:=qA (B5.out.trans h2 (U:=λj=>j=qb\/N<=j) (λ_ _ e=> .inl e) (λi _ e=> .inr (by have:=LT.out.1;omega)));have b1:=A6.out.cell 1;simp only[qB,qC]at b1;have hr3:rb<w3.heap.size:=by have:=R2.out.blk.lt;have:=B3.out.size;omega
 have hh3:hb<w3.heap.size:=by have:=D2.out.blk.lt;have:=B3.out.size;omega
 have hQO6:=own_but QO5.out h2 (λj hj e=>by have:=QN4.out j hj;omega);have hQA6:=HoldsAre.but h2 (λb _ e=> .inr (by omega)) QA5.out;have hql:q.length<=60:=by have:=QL.out;have:=HOK.out.2;omega
 have HPP:=qA (put_calls hb _ [] q ds ho4 hc4 w6 (tab0G (no1:=λb=>b<w6.heap.size) D6.out) (by omega) (nrows_of_own (λ_=>rfl) hQO6 (λj hj e=>by have:=QN4.out j hj;exact e.elim (λe=>by omega) (λe=>by simp[Value.ownBlock]at e))) (hQA6.mono (λb _ e=>e.elim (λe=> .inr (by omega)) (λe=>by simp[Value.ownBlock]at e))) HOK.out.1 (λ_ e=>e));clear hQO6 hQA6;clear hrt hrf h2 hRF hputT a0 a1;go_wp2_with fail;refine HPP.out.mono ?_;rintro e w7 ⟨rfl,⟨hv,hht,hhf⟩,h2,_⟩;rw[show putT ds []=insAll ds [] from by unfold putT;rw[if_pos H10.out]]at hht;have h2':But (λj=>j=hb) w6 w7:=h2.mono (λ_ _ e=>e.elim id (λe=>by simp[Value.ownBlock]at e));have A7:=qA (A6.out.but h2' (by have:=LT.out.2;omega));have P7:=qA (P6.out.but h2' (λe=>blk_neG P6.out.blk D6.out.blk (by decide) e));have T7:=qA (T6.out.but h2' (λb hb e=>by have:=LT.out.2;have:=HN.out;omega));have R7:=qA (R6.out.but h2' (λe=>hb_r e.symm) (λj hj e=>own_bk R6.out.row D6.out.blk (by decide) (e▸hj)));have D7:=qA hht
 have HF:=qA (show ∀j,hv.ownBlock=some j->N<=j from λj hj=>by
  rcases hhf j hj with e | e
  · simp[Value.ownBlock]at e
  · have:=BW2.out.size;have:=B6.out.size;have:=HN.out;omega)
 have B7:=qA (B6.out.trans h2' (U:=λj=>j=qb\/N<=j) (λ_ _ e=>e) (λi _ e=> .inr (by have:=LT.out.2;omega)));have a2:=A7.out.cell 2;have g2:=A7.out.free 2;simp only[qB,qC]at a2;rw[H10.out];have hN6:N<w6.heap.size:=A6.out.lt;clear hht hhf h2 h2' b1 HPP HPT;go_upto_region 8 with fail;obtain⟨w8,hw8⟩:∃w8,w8=w7.setCell ⟨N,2,none⟩ (.pointer (some ⟨p5,0,none⟩)):=⟨_,rfl⟩;rw[<- hw8];have hB8:But (λj=>j=N) w7 w8:=by rw[hw8];exact But.set1 _ _ _ _
 have A8:=qA (show Blk w8 N [.pointer (some ⟨rb,0,none⟩),.pointer (some ⟨hb,0,none⟩),.pointer (some ⟨p5,0,none⟩)] 82 by rw[hw8];exact A7.out.set 2 _);have H8:=qA hB8;clear hw8 hB8 a2 g2;have c0:=A8.out.cell 0;have c1:=A8.out.cell 1;have c2:=A8.out.cell 2;have f0:=A8.out.free 0;have f1:=A8.out.free 1;have f2:=A8.out.free 2;simp only[qB,qC]at c0 c1 c2;go_wp2_with fail;refine bodyPost_ret (res_row_tmp rfl _ _ N 82 [.pointer (some ⟨rb,0,none⟩),.pointer (some ⟨hb,0,none⟩),.pointer (some ⟨p5,0,none⟩)] _ rfl (((A8.out.set 0 _).set 1 _).set 2 _) Tryz.underlying82 rfl (by kernel_rfl)) rfl ?_;have hb9:But (λj=>j=N) w7 (((w8.setCell ⟨N,0,none⟩ (.pointer (some ⟨rb,0,none⟩))).setCell ⟨N,1,none⟩ (.pointer (some ⟨hb,0,none⟩))).setCell ⟨N,2,none⟩ (.pointer (some ⟨p5,0,none⟩))):=H8.out.trans ((But.set2 w8 N 0 1 _ _).here rfl 2 _) (λ_ _ e=>e) (λ_ _ e=>e);rw[HN.out];refine⟨⟨rb,hb,p5,rv,hv,rfl,R7.out.but hb9 (λe=>hNr e.symm) (λj hj e=>own_bk R7.out.row A7.out (by decide) (e▸hj)),(D7.out.but' hb9 (by have:=LT.out.2;omega) (λj hj e=>by obtain⟨_,_,h⟩:=D7.out.own;exact own_bk h A7.out (by decide) (e▸hj)) (λb _ e=>by have e':b=N:=e;omega)).mono' (λb _ e=>by omega),P7.out.but hb9 (blk_neG P7.out.blk A7.out (by decide)),Nat.le_of_lt LT.out.1,Nat.le_of_lt LT.out.2,PL.out,RF.out,HF.out⟩,⟨ao5,cap5,T7.out.but hb9 (λb hb e=>by have:=HN.out;omega)⟩,?_⟩;exact ((BW2.out.trans (B7.out.trans hb9 (U:=λj=>j=qb\/N<=j) (λ_ _ e=>e) (λi _ e=> .inr (by omega))) (U:=λj=>j=qb\/N<=j) (λ_ _ e=> .inr e) (λ_ _ e=>e))).mono (λi hi e=>e.elim id (λe=>by have:=HN.out;omega))
end Go.Proofs.YtmpmggejhnmakaaGreatDoor
