/- holds: Write. -/
import Derived.Test.YtmpmggejhnmakaaGreatDoorZ20
import Derived.Test.YtmpmggejhnmakaaGreatDoorZ02
import Derived.Test.YtmpmggejhnmakaaGreatDoorZ06
import Derived.IntWalk
import Derived.Test.YtmpmggejhnmakaaGreatDoorZ01
set_option maxRecDepth 100000
set_option maxHeartbeats 6400000
namespace Go.Proofs.YtmpmggejhnmakaaGreatDoor
open Go.RowKit
theorem wrap64_id (n:Int)(h0:0<=n)(h1:n<2 ^ 63):IntKind.i64.wrap n=n:=by
 have e:n % 2 ^ 64=n:=Int.emod_eq_of_lt h0 (by omega);simp only[IntKind.wrap,IntKind.bits,IntKind.signed,Bool.true_and,e];rw[if_neg (by simp;omega)]
def absZ (n:Int):Int:=max n (wrap64 (-n))
def actW (a:ActD):List UInt8:=numZ a.kind++rowB a.value.data.toList++flagB (decide (a.num<0))++numZ (absZ a.num)
def actBad (a:ActD):Bool:= !okN a.kind|| !okN (absZ a.num)
def readW (r:Rd):List UInt8:=flagB r.is++rowB r.value.data.toList
def headW (d:HoldD):List UInt8:=rowB d.key.data.toList++(numZ d.cl++numZ d.nm++numZ (d.acts.length:Int))
def holdW (d:HoldD):List UInt8:=headW d++d.acts.flatMap actW++numZ (d.reads.length:Int)++d.reads.flatMap readW++(flagB d.put++rowB d.value.data.toList)
def holdBad (d:HoldD):Bool:= !okN d.cl|| !okN d.nm||d.acts.any actBad
def writeW (ds:List HoldD):List UInt8:=numZ (ds.length:Int)++ds.flatMap holdW
structure HoldD.wfit (d:HoldD):Prop where
 ks:d.key.size<=100000
 vs:d.value.size<=100000
 an:d.acts.length<=10000
 rn:d.reads.length<=10000
 acts:∀a∈d.acts,a.value.size<=100000/\0<=a.kind/\a.kind<=255
 reads:∀r∈d.reads,r.value.size<=100000
theorem rowB_len (l:List UInt8)(h:l.length<=100000):(rowB l).length<=100009:=by
 have:=numB_nine (n:=l.length) (by omega)
 rw[rowB,qG];omega
theorem flagB_len (b:Bool):(flagB b).length=1:=rfl
theorem size_data (b:ByteArray):b.data.toList.length=b.size:=by rw[Array.length_toList];rfl
theorem actW_len (a:ActD)(h:a.value.size<=100000):(actW a).length<=100100:=by
 have h1:=numZ_len a.kind;have h2:=numZ_len (absZ a.num);have h3:=rowB_len a.value.data.toList (by rw[size_data];exact h);have h4:=flagB_len (decide (a.num<0));simp only[actW,qG];omega
theorem readW_len (r:Rd)(h:r.value.size<=100000):(readW r).length<=100100:=by
 have h3:=rowB_len r.value.data.toList (by rw[size_data];exact h);have h4:=flagB_len r.is;simp only[readW,qG];omega
theorem headW_len (d:HoldD)(h:d.wfit):(headW d).length<=100100:=by
 have h1:=numZ_len d.cl;have h2:=numZ_len d.nm;have h5:=numZ_len d.acts.length;have h3:=rowB_len d.key.data.toList (by rw[size_data];exact h.ks);simp only[headW,qG];omega
theorem flat_len {α:Type}(f:α->List UInt8)(n:Nat):∀l:List α,(∀x∈l,(f x).length<=n)->(l.flatMap f).length<=n * l.length
 | [],_=>by simp
 | x::l,h=>by
   have h1:=h x (by simp);have h2:=flat_len f n l (λy hy=>h y (List.mem_cons_of_mem _ hy));rw[List.flatMap_cons,qG,List.length_cons,Nat.mul_succ];omega
theorem holdW_len (d:HoldD)(h:d.wfit):(holdW d).length<=2100000000:=by
 have h1:=headW_len d h;have h2:=flat_len actW 100100 d.acts (λa ha=>actW_len a (h.acts a ha).1);have h3:=flat_len readW 100100 d.reads (λr hr=>readW_len r (h.reads r hr));have h4:=numZ_len d.reads.length;have h5:=flagB_len d.put;have h6:=rowB_len d.value.data.toList (by rw[size_data];exact h.vs);have h7:=h.an;have h8:=h.rn;simp only[holdW,qG];omega
def WrPost (wb:Nat)(v:Value)(w:World)(sp:Bool)(bs:List UInt8)(w':World):Prop:=
 ∃v',Wr w' wb sp v' bs/\But (λj=>j=wb\/v.ownBlock=some j) w w'/\Kept1 w v v'
theorem WrPost.start {wb:Nat}{v:Value}{w:World}{sp:Bool}{bs:List UInt8}(T:Wr w wb sp v bs):WrPost wb v w sp bs w:=⟨v,T,But.refl _ _,λ_ h=> .inl h⟩
theorem WrPost.ext {wb:Nat}{v:Value}{w w1 w2:World}{sp:Bool}{bs:List UInt8}(h:WrPost wb v w sp bs w1)(hx:Ext w1 w2):WrPost wb v w sp bs w2:=by
 obtain⟨v',h1,h2,h3⟩:=h;exact⟨v',h1.ext hx,h2.trans (Ext.but hx (λ_=>False)) (λ_ _ e=>e) (λ_ _ e=>e.elim),h3⟩
theorem WrPost.join {wb:Nat}{v v1:Value}{w wr w2 w3:World}{sp:Bool}{bs:List UInt8}(hB:But (λj=>j=wb\/v.ownBlock=some j) w wr)(hK:Kept1 w v v1)(hx:Ext wr w2)(h:WrPost wb v1 w2 sp bs w3):WrPost wb v w sp bs w3:=by
 obtain⟨v3,k1,k2,k3⟩:=h;have k2':But (λj=>j=wb\/v1.ownBlock=some j) wr w3:=(Ext.but hx (λ_=>False)).trans k2 (λ_ _ e=>e.elim) (λ_ _ e=>e);refine⟨v3,k1,hB.trans k2' (λ_ _ e=>e) (λj hj e=>own_back hK hj e),kept_trans hK hB.size (λj hj=>?_)⟩;rcases k3 j hj with e | e
 · exact .inl e
 · exact .inr (qM hx.size e)
def Keeps (w w':World):Prop:=∀g cs t,t≠198->t≠5->Blk w g cs t->Blk w' g cs t
theorem Keeps.ext {w w':World}(h:Ext w w'):Keeps w w':=λ_ _ _ _ _ hb=>hb.ext' h
theorem Keeps.trans {a b c:World}(h:Keeps a b)(k:Keeps b c):Keeps a c:=λg cs t h1 h2 hb=>k g cs t h1 h2 (h g cs t h1 h2 hb)
theorem blk_type {w:World}{g:Nat}{cs cs':List Value}{t t':TypeId}(h:Blk w g cs t)(h':Blk w g cs' t'):t=t':=by
 unfold Blk at h h';rw[h]at h';simp only[Option.some.injEq,Obj.cells.injEq]at h';exact h'.2.1
theorem Wr.keeps {w w':World}{wb:Nat}{sp:Bool}{v:Value}{bs:List UInt8}(T:Wr w wb sp v bs)(hx:But (λj=>j=wb\/v.ownBlock=some j) w w'):Keeps w w':=λg cs t h1 h2 hb=>by
 refine hb.but hx (λe=>?_);rcases e with e | e
 · subst e;exact h1 (blk_type hb T.blk)
 · exact own_ne T.row hb h2 e
theorem WrPost.keeps {wb:Nat}{v:Value}{w w1 w2:World}{sp sp2:Bool}{bs bs2:List UInt8}(h:WrPost wb v w sp bs w1)(k:∀v1,Wr w1 wb sp v1 bs->WrPost wb v1 w1 sp2 bs2 w2):WrPost wb v w sp2 bs2 w2/\Keeps w1 w2:=by
 obtain⟨v1,h1,h2,h3⟩:=h;obtain⟨v2,k1,k2,k3⟩:=k v1 h1;exact⟨⟨v2,k1,h2.trans k2 (λ_ _ e=>e) (λj hj e=>own_back h3 hj e),kept_trans h3 h2.size k3⟩,h1.keeps k2⟩
theorem WrPost.keep {wb:Nat}{v1:Value}{w2 w3:World}{sp sp':Bool}{bs bs':List UInt8}(T:Wr w2 wb sp' v1 bs')(h:WrPost wb v1 w2 sp bs w3):Keeps w2 w3:=by
 obtain⟨_,_,h2,_⟩:=h;exact T.keeps h2
def Made (n:Nat)(cs:List Value)(t:TypeId)(u:Value)(w:World):Prop:=∃g,u= .slice (some ⟨g,0,none⟩) n n/\Blk w g cs t
theorem Made.keep {n:Nat}{cs:List Value}{t:TypeId}{u:Value}{w w':World}(h:Made n cs t u w)(h1:t≠198)(h2:t≠5)(k:Keeps w w'):Made n cs t u w':=by
 obtain⟨g,e,hb⟩:=h;exact⟨g,e,k g cs t h1 h2 hb⟩
theorem chain_numbers (wb:Nat)(l:List Int)(n:Nat)(hn:n=l.length)(hl:l.length<=100){v:Value}{w0 w:World}{sp:Bool}{bs:List UInt8}{u:Value}(hR:WrPost wb v w0 sp bs w)(hlen:bs.length<=130000000000000)(hH:Made n (l.flatMap encI) 3 u w):
 Calls Tryz.prog 143 #[.pointer (some ⟨wb,0,none⟩),u] w λe w'=>e= .returned (.pointer (some ⟨wb,0,none⟩))/\WrPost wb v w0 (sp||badsZ l) (bs++l.flatMap numZ) w'/\Keeps w w':=by
 subst hn;obtain⟨g,rfl,hb⟩:=hH;obtain⟨v1,h1,h2,h3⟩:=hR;refine (numbers_any wb sp v1 bs l _ l.length w h1 (nrow_blk (sz:=1) (enc:=encI) (λ_=>rfl) l hb (λe=>?_)) hl (by omega)).mono ?_
 · rcases e with e | e
   · subst e;exact absurd (blk_type hb h1.blk) (by decide)
   · exact own_ne h1.row hb (by decide) e
 · rintro e w' ⟨rfl,v2,k1,k2,k3⟩
   exact⟨rfl,⟨v2,k1,h2.trans k2 (λ_ _ e=>e) (λj hj e=>own_back h3 hj e),kept_trans h3 h2.size k3⟩,h1.keeps k2⟩
theorem chain_texts (wb:Nat)(l:List ByteArray)(n:Nat)(hn:n=l.length)(hl:l.length<=100)(hs:∀x∈l,x.data.toList.length<=1000000000){v:Value}{w0 w:World}{sp:Bool}{bs:List UInt8}{u:Value}(hR:WrPost wb v w0 sp bs w)(hlen:bs.length<=130000000000000)(hH:Made n (l.flatMap λs=>[Value.string s]) 9 u w):
 Calls Tryz.prog 144 #[.pointer (some ⟨wb,0,none⟩),u] w λe w'=>e= .returned (.pointer (some ⟨wb,0,none⟩))/\WrPost wb v w0 sp (bs++l.flatMap λx=>rowB x.data.toList) w'/\Keeps w w':=by
 subst hn;obtain⟨g,rfl,hb⟩:=hH;obtain⟨v1,h1,h2,h3⟩:=hR;refine (texts_calls wb sp v1 bs l _ l.length w h1 (nrow_blk (sz:=1) (enc:=(λs:ByteArray=>[Value.string s])) (λ_=>rfl) l hb (λe=>?_)) hs hl (by omega)).mono ?_
 · rcases e with e | e
   · subst e;exact absurd (blk_type hb h1.blk) (by decide)
   · exact own_ne h1.row hb (by decide) e
 · rintro e w' ⟨rfl,v2,k1,k2,k3⟩
   exact⟨rfl,⟨v2,k1,h2.trans k2 (λ_ _ e=>e) (λj hj e=>own_back h3 hj e),kept_trans h3 h2.size k3⟩,h1.keeps k2⟩
theorem chain_flags (wb:Nat)(l:List Bool)(n:Nat)(hn:n=l.length)(hl:l.length<=100){v:Value}{w0 w:World}{sp:Bool}{bs:List UInt8}{u:Value}(hR:WrPost wb v w0 sp bs w)(hlen:bs.length<=130000000000000)(hH:Made n (l.flatMap encBool) 4 u w):
 Calls Tryz.prog 145 #[.pointer (some ⟨wb,0,none⟩),u] w λe w'=>e= .returned (.pointer (some ⟨wb,0,none⟩))/\WrPost wb v w0 sp (bs++l.flatMap flagB) w'/\Keeps w w':=by
 subst hn;obtain⟨g,rfl,hb⟩:=hH;obtain⟨v1,h1,h2,h3⟩:=hR;refine (flags_calls wb sp v1 bs l _ l.length w h1 (nrow_blk (sz:=1) (enc:=encBool) (λ_=>rfl) l hb (λe=>?_)) hl (by omega)).mono ?_
 · rcases e with e | e
   · subst e;exact absurd (blk_type hb h1.blk) (by decide)
   · exact own_ne h1.row hb (by decide) e
 · rintro e w' ⟨rfl,v2,k1,k2,k3⟩
   exact⟨rfl,⟨v2,k1,h2.trans k2 (λ_ _ e=>e) (λj hj e=>own_back h3 hj e),kept_trans h3 h2.size k3⟩,h1.keeps k2⟩
inductive WArg where
 | nums (l:List Int)
 | texts (l:List ByteArray)
 | flags (l:List Bool)
def WArg.n:WArg->Nat
 | .nums l=>l.length
 | .texts l=>l.length
 | .flags l=>l.length
def WArg.cells:WArg->List Value
 | .nums l=>l.flatMap encI
 | .texts l=>l.flatMap λs=>[Value.string s]
 | .flags l=>l.flatMap encBool
def WArg.t:WArg->TypeId
 | .nums _=>3
 | .texts _=>9
 | .flags _=>4
def WArg.fn:WArg->FuncId
 | .nums _=>143
 | .texts _=>144
 | .flags _=>145
def WArg.bytes:WArg->List UInt8
 | .nums l=>l.flatMap numZ
 | .texts l=>l.flatMap λx=>rowB x.data.toList
 | .flags l=>l.flatMap flagB
def WArg.bad:WArg->Bool
 | .nums l=>badsZ l
 | _=>false
def WArg.ok:WArg->Prop
 | .nums l=>l.length<=100
 | .texts l=>l.length<=100/\∀x∈l,x.data.toList.length<=1000000000
 | .flags l=>l.length<=100
theorem WArg.t_ne (x:WArg):x.t≠198/\x.t≠5:=by
 cases x<;>simp[WArg.t]
theorem chain_arg (wb:Nat)(x:WArg)(hx:x.ok){v:Value}{w0 w:World}{sp:Bool}{bs:List UInt8}{u:Value}(hR:WrPost wb v w0 sp bs w)(hlen:bs.length<=130000000000000)(hH:Made x.n x.cells x.t u w):
 Calls Tryz.prog x.fn #[.pointer (some ⟨wb,0,none⟩),u] w λe w'=>e= .returned (.pointer (some ⟨wb,0,none⟩))/\WrPost wb v w0 (sp||x.bad) (bs++x.bytes) w'/\Keeps w w':=by
 cases x with
 | nums l=>exact chain_numbers wb l l.length rfl hx hR hlen hH
 | texts l=>
   rw[show (WArg.texts l).bad=false from rfl,Bool.or_false];exact chain_texts wb l l.length rfl hx.1 hx.2 hR hlen hH
 | flags l=>
   rw[show (WArg.flags l).bad=false from rfl,Bool.or_false];exact chain_flags wb l l.length rfl hx hR hlen hH
theorem slotQ {a:Go.Act}{i:Nat}{v:Value}(h:a.tmps.getD i undef=v):a.tmps[i]?.getD undef=v:=by rw[<- Array.getD_eq_getD_getElem?];exact h
structure WItem where
 i:CItem
 x:WArg
def bytesW (l:List WItem):List UInt8:=l.flatMap (·.x.bytes)
def badW (l:List WItem):Bool:=l.any (·.x.bad)
def WAll (ops:Array Oper)(xs0:List CItem)(a:Go.Act)(ptr:Value):Option Tmp->List WItem->Prop
 | _,[]=>True
 | prev,y::ys=>
   (∀o a' w,ops[y.i.b]? =some o->LikeA xs0 a a'->(execOp a'.eval o).run Tryz.prog w= .ok (.value (.slice (some ⟨w.heap.size,0,none⟩) y.x.n y.x.n)) (w.alloc (.cells y.x.cells.toArray y.x.t)))/\
   (∀o a' u w,ops[y.i.c]? =some o->LikeA xs0 a a'->a'.tmps.getD y.i.db undef=u->(∀p,prev=some p->a'.tmps.getD p undef=ptr)->(execOp a'.eval o).run Tryz.prog w= .ok (.enter y.x.fn #[ptr,u]) w)/\
   y.x.ok/\WAll ops xs0 a ptr (some y.i.dc) ys
theorem bytesW_succ (l:List WItem)(j:Nat)(y:WItem)(h:l[j]? =some y):bytesW (l.take (j+1))=bytesW (l.take j)++y.x.bytes/\badW (l.take (j+1))=(badW (l.take j)||y.x.bad):=by
 have:l.take (j+1)=l.take j++[y]:=by rw[List.take_add_one,h];rfl
 rw[this];simp[bytesW,badW]
theorem bytesW_le (l:List WItem)(j:Nat):(bytesW (l.take j)).length<=(bytesW l).length:=by
 have:bytesW l=bytesW (l.take j)++bytesW (l.drop j):=by rw[bytesW,bytesW,bytesW,<- List.flatMap_append,List.take_append_drop]
 rw[this,qG];omega
theorem WAll.chain {ops:Array Oper}{xs0:List CItem}{a:Go.Act}{wb:Nat}{v:Value}{w0:World}{sp:Bool}{bs:List UInt8}(all:List WItem)(hlen:bs.length+(bytesW all).length<=130000000000000):
 ∀(l:List WItem) (j:Nat) (prev:Option Tmp),all.drop j=l->WAll ops xs0 a (.pointer (some ⟨wb,0,none⟩)) prev l->
  ChainAll Tryz.prog ops xs0 a (.pointer (some ⟨wb,0,none⟩)) (λj w=>WrPost wb v w0 (sp||badW (all.take j)) (bs++bytesW (all.take j)) w) (λj u w=>∃y,all[j]? =some y/\Made y.x.n y.x.cells y.x.t u w) j prev (l.map (·.i))
 | [],_,_,_,_=>trivial
 | y::l,j,prev,hd,h=>by
   have hj:all[j]? =some y:=by
    have:=congrArg (λl=>l[0]?) hd
    simpa using this
   refine⟨λo a' w ho hl=>⟨_,_,h.1 o a' w ho hl,(qK _ w).alloc (qL _) _,y,hj,_,rfl,Blk.new w _ _⟩,λo a' w u ho hl hu hp hR hH=>⟨_,_,h.2.1 o a' u w ho hl hu hp,?_⟩,WAll.chain all hlen l (j+1) _ ?_ h.2.2.2⟩
   · obtain⟨y',hy',hm⟩:=hH
     rw[hj]at hy';simp only[Option.some.injEq]at hy';subst hy';refine (chain_arg wb y.x h.2.2.1 hR (by have:=bytesW_le all j;rw[qG];omega) hm).mono ?_;rintro e w' ⟨rfl,h1,h2⟩;obtain⟨hb1,hb2⟩:=bytesW_succ all j y hj;refine⟨rfl,by show WrPost wb v w0 (sp||badW (all.take (j+1))) (bs++bytesW (all.take (j+1))) w';rw[hb1,hb2,<- List.append_assoc,<- Bool.or_assoc];exact h1,λi u ⟨z,hz,hmz⟩=>⟨z,hz,hmz.keep z.x.t_ne.1 z.x.t_ne.2 h2⟩⟩
   · have:=congrArg List.tail hd
     simpa using this
theorem wp_wchain {ops:Array Oper}{md:Region.Mode}{Q:Exit->Go.Act->World->Prop}{f:Nat}{l0:Array Bool}{a0:Go.Act}{w0 w1:World}(xs:List WItem)(wb:Nat)(v:Value)(sp:Bool)(bs:List UInt8)
 (hB:(startB ops l0 (xs.map (·.i))&&chainB md ops l0 (xs.map (·.i)) []&&decide (unl l0.toList<=f))=true) (hs:∀d∈slotC (xs.map (·.i)),d<a0.tmps.size) (hlen:bs.length+(bytesW xs).length<=130000000000000)
 (hall:WAll ops (xs.map (·.i)) a0 (.pointer (some ⟨wb,0,none⟩)) none xs) (h0:WrPost wb v w0 sp bs w1)
 (hend:∀us w,us.length=xs.length->WrPost wb v w0 (sp||badW xs) (bs++bytesW xs) w->Q .normal (putsC (.pointer (some ⟨wb,0,none⟩)) (xs.map (·.i)) us a0) w):
 wpAnyH Tryz.prog md ops Q (λw'=>∃p:ButBy (λj=>j=wb\/v.ownBlock=some j) w0,w'=p.W) f l0 a0 w1:=by
 refine wp_chain (xs.map (·.i)) (.pointer (some ⟨wb,0,none⟩)) (λj w=>WrPost wb v w0 (sp||badW (xs.take j)) (bs++bytesW (xs.take j)) w) (λj u w=>∃y,xs[j]? =some y/\Made y.x.n y.x.cells y.x.t u w) hB hs
  (λj w ⟨_,_,hb,_⟩=>⟨⟨w,hb⟩,rfl⟩) (λj w w' h hx=>h.ext hx) (λj u w w' ⟨y,hy,hm⟩ hx=>⟨y,hy,hm.keep y.x.t_ne.1 y.x.t_ne.2 (Keeps.ext hx)⟩) (WAll.chain xs hlen xs 0 none rfl hall) (by simpa [badW,bytesW] using h0) (λus w hu hR=>hend us w (by simpa using hu) ?_)
 simpa using hR
theorem write_calls (wb:Nat)(sp:Bool)(v:Value)(bs:List UInt8)(ls:List HoldV)(ds:List HoldD)(ao:Option Addr)(cap:Nat)(w:World)(T:Wr w wb sp v bs)(hl:ls.length<=10000)(hb0:bs.length<=1000000)(hr:NRows 7 encHV (λb=>b=wb\/v.ownBlock=some b) w ao ls)(hd:HoldsAre w (λb=>b=wb\/v.ownBlock=some b) ls ds)(hfit:∀d∈ds,d.wfit):
 Calls Tryz.prog 120 #[.pointer (some ⟨wb,0,none⟩),.slice ao ls.length cap] w λe w'=>e= .returned (.pointer (some ⟨wb,0,none⟩))/\WrPost wb v w (sp||ds.any holdBad) (bs++writeW ds) w':=by
 have HT:=qA T;have HR:=qA hr;have HD:=qA hd;have HF:=qA hfit;have HDL:=qA hd.len;clear T hr hd hfit;go_enter Tryz.func120,Tryz.ntmps120;go_wp2_with fail;refine (chain_numbers wb [(ls.length:Int)] 1 rfl (by simp) ((WrPost.start HT.out).ext ((qK _ _).alloc (qL _) _)) (by omega) ⟨_,rfl,Blk.new w [.int .i64 (ls.length:Int)] _⟩).mono ?_;rintro e w1 ⟨rfl,h1,-⟩;have R1:=qA h1;clear h1;go_wp2_with fail;go_loopw [18] (λvi wr=>∃k:Nat,vi= .int .i64 k/\k<=ls.length/\WrPost wb v w (sp||(ds.take k).any holdBad) (bs++numZ (ds.length:Int)++(ds.take k).flatMap holdW) wr) (λvi _=>ls.length - (intOf vi).toNat)
 case atStart=>
  refine⟨0,rfl,by omega,?_⟩
  have:=R1.out
  rw[<- HDL.out];have hok:badsZ [(ls.length:Int)]=false:=by simp[badsZ,okN];omega
  rw[hok]at this;simpa using this
 case round=>
  obtain⟨k,rfl,hk,hW⟩:=hrel;have R2:=qA hW;clear hW R1;by_cases hlt:k<ls.length
  · obtain⟨x,hx⟩:∃x,ls[k]? =some x:=⟨_,qE hlt⟩
    obtain⟨d,hdk,hxd⟩:=HD.out.at k x hx;have hfd:=HF.out d (qH hdk);obtain⟨b,off,rfl,hb,hno,hcell⟩:=HR.out (by intro e;rw[e]at hlt;simp at hlt);have hcx:=hcell k x hx;obtain⟨v1,hT1,hB1,hK1⟩:=R2.out;have hmv:∀j,wr.cell? ⟨b,j,none⟩=w.cell? ⟨b,j,none⟩:=λj=>hB1.cell (p:=⟨b,j,none⟩) hb hno;obtain⟨kx,cl,nm,xo,xn,xc,yo,yn,yc,put,value⟩:=x;have ean:xn=d.acts.length:=hxd.an;have ern:yn=d.reads.length:=hxd.rn;subst ean ern;have d0:=(hmv _).trans (hcx 0 _ rfl);have d1:=(hmv _).trans (hcx 1 _ rfl);have d2:=(hmv _).trans (hcx 2 _ rfl);have d3:=(hmv _).trans (hcx 3 _ rfl);have d4:=(hmv _).trans (hcx 4 _ rfl);have d5:=(hmv _).trans (hcx 5 _ rfl);have d6:=(hmv _).trans (hcx 6 _ rfl);simp only[Nat.add_zero]at d0;have ii0:(0:Int)<=(k:Int):=by omega
    have i1:(k:Int)<(ls.length:Int):=by omega
    have hlk:=flat_len holdW 2100000000 (ds.take k) (λd hd=>holdW_len d (HF.out d (List.mem_of_mem_take hd)));rw[List.length_take]at hlk;have hn9:=numZ_len (ds.length:Int);obtain⟨sk,hske⟩:∃sk,sk=(sp||(ds.take k).any holdBad):=⟨_,rfl⟩;obtain⟨bk,hbke⟩:∃bk,bk=(bs++numZ (ds.length:Int)++(ds.take k).flatMap holdW):=⟨_,rfl⟩
    have hbl:bk.length<=30000000000000:=by
     have hdl:=HDL.out;rw[hbke];simp only[qG];omega
    rw[<- hske,<- hbke]at hT1;have HSK:=qA hske;have HBK:=qA hbke;clear hske hbke hlk hn9;have HXD:=qA hxd;have HFD:=qA hfd;have HDK:=qA hdk;have HT1:=qA hT1;have HB1:=qA hB1;have HK1:=qA hK1;clear hx hdk hxd hfd hcell hcx hmv hT1 hB1 hK1;go_wp2_with fail;have hbox:=Blk.new wr [.string kx,.int .i64 cl,.int .i64 nm,.slice xo d.acts.length xc,.slice yo d.reads.length yc,.bool put,.string value] 48;have hxb:Ext wr (wr.alloc (.cells #[.string kx,.int .i64 cl,.int .i64 nm,.slice xo d.acts.length xc,.slice yo d.reads.length yc,.bool put,.string value] 48)):=(qK _ wr).alloc (qL _) _;generalize wr.alloc (.cells #[.string kx,.int .i64 cl,.int .i64 nm,.slice xo d.acts.length xc,.slice yo d.reads.length yc,.bool put,.string value] 48)=w2 at hbox hxb ⊢;generalize hNe:wr.heap.size=N at hbox ⊢;have hT2:=HT1.out.ext hxb
    have hnS:¬(N=wb\/v1.ownBlock=some N):=λe=>by
     rcases e with e | e
     · subst e;exact absurd (blk_type hbox hT2.blk) (by decide)
     · exact own_ne hT2.row hbox (by decide) e
    have q0:=ButBy.cell (S:=λj=>j=wb\/v1.ownBlock=some j) (hbox.cell 0) hnS;have q1:=ButBy.cell (S:=λj=>j=wb\/v1.ownBlock=some j) (hbox.cell 1) hnS;have q2:=ButBy.cell (S:=λj=>j=wb\/v1.ownBlock=some j) (hbox.cell 2) hnS;have q3:=ButBy.cell (S:=λj=>j=wb\/v1.ownBlock=some j) (hbox.cell 3) hnS;have HBX:=qA hbox;have X2:=qA hxb;have T2:=qA hT2;clear hbox hxb hT2 hnS hNe
    have hks:kx.data.toList.length<=100000:=by
     have e:kx=d.key:=HXD.out.key;rw[size_data,e];exact HFD.out.ks
    refine wp_region_firstS (λw'=>∃p:ButBy (λj=>j=wb\/v1.ownBlock=some j) w2,w'=p.W) [0,1,2,5,6,7,8,9,10,11,12,13] 4 (by kernel_rfl) (by kernel_rfl) (λ_ _ _ _ h=>h) ⟨⟨w2.drew,(But.refl _ w2).drew⟩,rfl⟩ ?_;simp only[opsAt,qD,qC,qB]
    repeat (go_big_quiet_step (fail))
    refine wpQuiet_nil ?_;clear q0 q1 q2 q3
    refine wp_wchain [⟨⟨3,4,25,26⟩,.texts [kx]⟩,⟨⟨14,15,36,37⟩,.nums [cl,nm,(d.acts.length:Int)]⟩] wb v1 (sk) (bk) (by kernel_rfl) (by simp[slotC]) ?_
     ⟨λo a' w' ho hl=>?_,λo a' u w' ho hl hu hp=>?_,⟨by simp,by simpa using (by omega:kx.data.toList.length<=1000000000)⟩,λo a' w' ho hl=>?_,λo a' u w' ho hl hu hp=>?_,by simp[WArg.ok],trivial⟩ ((WrPost.start T2.out).ext (qK _ _).drew) (λus w3 hus hR=>?_)
    · have h1:=rowB_len kx.data.toList hks
      have h2:=numZ_len cl;have h3:=numZ_len nm;have h4:=numZ_len (d.acts.length:Int);simp only[bytesW,WArg.bytes,List.flatMap_cons,List.flatMap_nil,qG,List.length_nil];omega
    · have g0:a'.tmps.getD 24 undef= .string kx:=hl.get 24 (by simp[slotC])
      have q0:=slotQ g0;obtain rfl:=Option.some.inj ho;clear ho hl;simp only[WArg.n,WArg.cells,WArg.t,List.flatMap_cons,List.flatMap_nil];go_simp
      try rfl
    · have g:a'.tmps.getD 22 undef= .pointer (some ⟨wb,0,none⟩):=hl.get 22 (by simp[slotC])
      clear hp;obtain rfl:=Option.some.inj ho;clear ho hl;simp only[WArg.fn];go_simp
    · have g0:a'.tmps.getD 29 undef= .int .i64 cl:=hl.get 29 (by simp[slotC])
      have q0:=slotQ g0;have g1:a'.tmps.getD 32 undef= .int .i64 nm:=hl.get 32 (by simp[slotC]);have q1:=slotQ g1;have g2:a'.tmps.getD 35 undef= .int .i64 (d.acts.length:Int):=hl.get 35 (by simp[slotC]);have q2:=slotQ g2;obtain rfl:=Option.some.inj ho;clear ho hl;simp only[WArg.n,WArg.cells,WArg.t,List.flatMap_cons,List.flatMap_nil];go_simp
      try rfl
    · have hp':=hp _ rfl
      clear hp;obtain rfl:=Option.some.inj ho;clear ho hl;simp only[WArg.fn];go_simp
    obtain⟨x0,x1,rfl⟩:∃x0 x1,us=[x0,x1]:=by
     match us,hus with
     | [x0,x1],_=>exact⟨x0,x1,rfl⟩
    clear hus;simp only[List.map_cons,List.map_nil,putsC];have hR3:=WrPost.join HB1.out HK1.out X2.out hR;have hb3:=(WrPost.keep T2.out hR) N _ _ (by decide) (by decide) HBX.out
    have hhead:bk++bytesW [⟨⟨3,4,25,26⟩,.texts [kx]⟩,⟨⟨14,15,36,37⟩,.nums [cl,nm,(d.acts.length:Int)]⟩]=bk++headW d:=by
     have e1:kx=d.key:=HXD.out.key;have e2:cl=d.cl:=HXD.out.cl;have e3:nm=d.nm:=HXD.out.nm;rw[e1,e2,e3];simp[bytesW,WArg.bytes,headW]
    have hbadh:badW [⟨⟨3,4,25,26⟩,.texts [kx]⟩,⟨⟨14,15,36,37⟩,.nums [cl,nm,(d.acts.length:Int)]⟩]=(!okN d.cl|| !okN d.nm):=by
     have e2:cl=d.cl:=HXD.out.cl;have e3:nm=d.nm:=HXD.out.nm;have h4:okN (d.acts.length:Int)=true:=by have:=HFD.out.an;simp[okN];omega
     rw[e2,e3];simp[badW,WArg.bad,badsZ,h4]
    rw[hhead,hbadh]at hR3;have R3:=qA hR3;have HB3:=qA hb3;clear hR3 hb3 hhead hbadh hR HBX X2 T2 HT1 HB1 HK1;have c3:=HB3.out.cell 3;simp only[qB,qC]at c3;clear d0 d1 d2 d3 d4 d5 d6;go_wp2_with fail;go_loopw [41] (λvi wr=>∃j:Nat,vi= .int .i64 j/\j<=d.acts.length/\WrPost wb v w (sk||(!okN d.cl|| !okN d.nm)||(d.acts.take j).any actBad) (bk++headW d++(d.acts.take j).flatMap actW) wr/\Blk wr N [.string kx,.int .i64 cl,.int .i64 nm,.slice xo d.acts.length xc,.slice yo d.reads.length yc,.bool put,.string value] 48) (λvi _=>d.acts.length - (intOf vi).toNat)
    case atStart=>exact⟨0,rfl,by omega,by simpa using R3.out,HB3.out⟩
    case round=>
     obtain⟨j,rfl,hj,hW,hbk⟩:=hrel;have R4:=qA hW;have B4:=qA hbk;clear hW hbk R3 HB3 c3;have hhl:=headW_len d HFD.out;have hfl:=flat_len actW 100100 (d.acts.take j) (λa ha=>actW_len a (HFD.out.acts a (List.mem_of_mem_take ha)).1);rw[List.length_take]at hfl;have han:=HFD.out.an;by_cases hjl:j<d.acts.length
     · obtain⟨y,hy⟩:∃y,d.acts[j]? =some y:=⟨_,qE hjl⟩
       obtain⟨ab,aoff,rfl,hab,hano,hacell⟩:=HXD.out.acts (by intro e;rw[e]at hjl;simp at hjl);have hac:=hacell j y hy;obtain⟨v3,hT3,hB3,hK3⟩:=R4.out;have hmv:∀i,wr.cell? ⟨ab,i,none⟩=w.cell? ⟨ab,i,none⟩:=λi=>hB3.cell (p:=⟨ab,i,none⟩) hab hano;have hfa:=HFD.out.acts y (qH hy);have hty:d.acts.take (j+1)=d.acts.take j++[y]:=by rw[List.take_add_one,hy];rfl
       obtain⟨kd,key,val,num⟩:=y;have e0:=(hmv _).trans (hac 0 _ rfl);have e1:=(hmv _).trans (hac 1 _ rfl);have e2:=(hmv _).trans (hac 2 _ rfl);have e3:=(hmv _).trans (hac 3 _ rfl);simp only[Nat.add_zero]at e0;obtain⟨hva,hk0,hk255⟩:=hfa;simp only at hva hk0 hk255;have jj0:(0:Int)<=(j:Int):=by omega
       have jj1:(j:Int)<(d.acts.length:Int):=by omega
       have hkw:IntKind.i64.wrap kd=kd:=wrap64_id _ hk0 (by omega);obtain⟨s3,hs3⟩:∃s3,s3=(sk||(!okN d.cl|| !okN d.nm)||(d.acts.take j).any actBad):=⟨_,rfl⟩;obtain⟨b3,hb3⟩:∃b3,b3=bk++headW d++(d.acts.take j).flatMap actW:=⟨_,rfl⟩;have hbl3:b3.length<=40000000000000:=by rw[hb3];simp only[qG];omega
       rw[<- hs3,<- hb3]at hT3;have HS3:=qA hs3;have HB3:=qA hb3;have HTY:=qA hty;have HT3:=qA hT3;have HB3W:=qA hB3;have HK3:=qA hK3;clear hy hacell hac hmv hT3 hB3 hK3 hs3 hb3 hty hfl hhl;go_wp2_with fail;have hbox:=Blk.new wr [.int .u8 kd,.string key,.string val,.int .i64 num] 74;have hxb:Ext wr (wr.alloc (.cells #[.int .u8 kd,.string key,.string val,.int .i64 num] 74)):=(qK _ wr).alloc (qL _) _;generalize wr.alloc (.cells #[.int .u8 kd,.string key,.string val,.int .i64 num] 74)=w4 at hbox hxb ⊢;generalize hMe:wr.heap.size=M at hbox ⊢;have hT4:=HT3.out.ext hxb
       have hnS:¬(M=wb\/v3.ownBlock=some M):=λe=>by
        rcases e with e | e
        · subst e;exact absurd (blk_type hbox hT4.blk) (by decide)
        · exact own_ne hT4.row hbox (by decide) e
       have q0:=ButBy.cell (S:=λj=>j=wb\/v3.ownBlock=some j) (hbox.cell 0) hnS;have q2:=ButBy.cell (S:=λj=>j=wb\/v3.ownBlock=some j) (hbox.cell 2) hnS;have q3:=ButBy.cell (S:=λj=>j=wb\/v3.ownBlock=some j) (hbox.cell 3) hnS;have X4:=qA hxb;have T4:=qA hT4;clear hbox hxb hT4 hnS hMe;refine wp_region_firstS (λw'=>∃p:ButBy (λj=>j=wb\/v3.ownBlock=some j) w4,w'=p.W) [0,1,2,3,6,7,10,11,12,15,16,17,18,19,20] 8 (by kernel_rfl) (by kernel_rfl) (λ_ _ _ _ h=>h) ⟨⟨w4.drew,(But.refl _ w4).drew⟩,rfl⟩ ?_;simp only[opsAt,qD,qC,qB]
       repeat (go_big_quiet_step (fail))
       refine wpQuiet_nil ?_;clear q0 q2 q3
       refine wp_wchain [⟨⟨4,5,49,50⟩,.nums [kd]⟩,⟨⟨8,9,53,54⟩,.texts [val]⟩,⟨⟨13,14,58,59⟩,.flags [decide (num<0)]⟩,⟨⟨21,22,66,67⟩,.nums [absZ num]⟩] wb v3 (s3) (b3) (by kernel_rfl) (by simp[slotC]) ?_
        ⟨λo a' w' ho hl=>?_,λo a' u w' ho hl hu hp=>?_,by simp[WArg.ok],λo a' w' ho hl=>?_,λo a' u w' ho hl hu hp=>?_,⟨by simp,by simpa [size_data] using (by omega:val.size<=1000000000)⟩,λo a' w' ho hl=>?_,λo a' u w' ho hl hu hp=>?_,by simp[WArg.ok],λo a' w' ho hl=>?_,λo a' u w' ho hl hu hp=>?_,by simp[WArg.ok],trivial⟩ ((WrPost.start T4.out).ext (qK _ _).drew) (λus w5 hus hR=>?_)
       · have h1:=rowB_len val.data.toList (by rw[size_data];exact hva)
         have h2:=numZ_len kd;have h3:=numZ_len (absZ num);simp only[bytesW,WArg.bytes,List.flatMap_cons,List.flatMap_nil,qG,List.length_nil,flagB_len];omega
       · have g0:a'.tmps.getD 48 undef= .int .i64 kd:=hl.get 48 (by simp[slotC])
         have q0:=slotQ g0;obtain rfl:=Option.some.inj ho;clear ho hl;simp only[WArg.n,WArg.cells,WArg.t,List.flatMap_cons,List.flatMap_nil];go_simp
         try rfl
       · have g:a'.tmps.getD 45 undef= .pointer (some ⟨wb,0,none⟩):=hl.get 45 (by simp[slotC])
         clear hp;obtain rfl:=Option.some.inj ho;clear ho hl;simp only[WArg.fn];go_simp
       · have g0:a'.tmps.getD 52 undef= .string val:=hl.get 52 (by simp[slotC])
         have q0:=slotQ g0;obtain rfl:=Option.some.inj ho;clear ho hl;simp only[WArg.n,WArg.cells,WArg.t,List.flatMap_cons,List.flatMap_nil];go_simp
         try rfl
       · have hp':=hp _ rfl
         clear hp;obtain rfl:=Option.some.inj ho;clear ho hl;simp only[WArg.fn];go_simp
       · have g0:a'.tmps.getD 57 undef= .bool (decide (num<0)):=hl.get 57 (by simp[slotC])
         have q0:=slotQ g0;obtain rfl:=Option.some.inj ho;clear ho hl;simp only[WArg.n,WArg.cells,WArg.t,List.flatMap_cons,List.flatMap_nil];go_simp
         try rfl
       · have hp':=hp _ rfl
         clear hp;obtain rfl:=Option.some.inj ho;clear ho hl;simp only[WArg.fn];go_simp
       · have g0:a'.tmps.getD 65 undef= .int .i64 (absZ num):=hl.get 65 (by simp[slotC])
         have q0:=slotQ g0;obtain rfl:=Option.some.inj ho;clear ho hl;simp only[WArg.n,WArg.cells,WArg.t,List.flatMap_cons,List.flatMap_nil];go_simp
         try rfl
       · have hp':=hp _ rfl
         clear hp;obtain rfl:=Option.some.inj ho;clear ho hl;simp only[WArg.fn];go_simp
       obtain⟨x0,x1,x2,x3,rfl⟩:∃x0 x1 x2 x3,us=[x0,x1,x2,x3]:=by
        match us,hus with
        | [x0,x1,x2,x3],_=>exact⟨x0,x1,x2,x3,rfl⟩
       clear hus;simp only[List.map_cons,List.map_nil,putsC];have hR5:=WrPost.join HB3W.out HK3.out X4.out hR;have hb5:=(WrPost.keep T4.out hR) N _ _ (by decide) (by decide) (B4.out.ext' X4.out)
       have e1:b3++bytesW [⟨⟨4,5,49,50⟩,.nums [kd]⟩,⟨⟨8,9,53,54⟩,.texts [val]⟩,⟨⟨13,14,58,59⟩,.flags [decide (num<0)]⟩,⟨⟨21,22,66,67⟩,.nums [absZ num]⟩]=bk++headW d++(d.acts.take (j+1)).flatMap actW:=by
        rw[HB3.out,HTY.out];simp[bytesW,WArg.bytes,actW]
       have e2:(s3||badW [⟨⟨4,5,49,50⟩,.nums [kd]⟩,⟨⟨8,9,53,54⟩,.texts [val]⟩,⟨⟨13,14,58,59⟩,.flags [decide (num<0)]⟩,⟨⟨21,22,66,67⟩,.nums [absZ num]⟩])=(sk||(!okN d.cl|| !okN d.nm)||(d.acts.take (j+1)).any actBad):=by
        rw[HS3.out,HTY.out];simp[badW,WArg.bad,badsZ,actBad,Bool.or_assoc]
       rw[e1,e2]at hR5;have R5:=qA hR5;have B5:=qA hb5;clear hR5 hb5 e1 e2 hR hkw;go_wp2_with fail;go_roundw
       case rel=>exact⟨j+1,by go_num,by omega,R5.out,B5.out⟩
       case measure=>simp[intOf];omega
     · have hja:j=d.acts.length:=by omega
       have hall:=R4.out;rw[List.take_of_length_le (show d.acts.length<=j by omega)]at hall hfl;have c4:=B4.out.cell 4;simp only[qB,qC]at c4;have RA:=qA hall;clear hall R4;have hrn:=HFD.out.rn;go_wp2_with fail;have hl9:(bk++headW d++d.acts.flatMap actW).length<=130000000000000:=by simp only[qG];omega
       refine (chain_numbers wb [(d.reads.length:Int)] 1 rfl (by simp) (RA.out.ext ((qK _ _).alloc (qL _) _)) hl9 ⟨_,rfl,Blk.new wr [.int .i64 (d.reads.length:Int)] _⟩).mono ?_;rintro e w6 ⟨rfl,h1,h2⟩;have hok:badsZ [(d.reads.length:Int)]=false:=by simp[badsZ,okN];omega
       rw[hok,Bool.or_false]at h1;have hb6:=h2 N _ _ (by decide) (by decide) (B4.out.ext' ((qK _ wr).alloc (qL _) (.cells #[.int .i64 (d.reads.length:Int)] 3)));have c5:=hb6.cell 4;simp only[qB,qC]at c5;have R6:=qA h1;have B6:=qA hb6;clear h1 h2 hb6 hok c4 hl9 RA B4;have hn4:=numZ_len (d.reads.length:Int);obtain⟨s6,hs6⟩:∃s6,s6=(sk||(!okN d.cl|| !okN d.nm)||d.acts.any actBad):=⟨_,rfl⟩;obtain⟨b6,hb6⟩:∃b6,b6=bk++headW d++d.acts.flatMap actW++[(d.reads.length:Int)].flatMap numZ:=⟨_,rfl⟩
       have hbl6:b6.length<=40000000000000:=by
        have e:[(d.reads.length:Int)].flatMap numZ=numZ (d.reads.length:Int):=by simp
        rw[hb6,e];simp only[qG];omega
       have HS6:=qA hs6;have HB6:=qA hb6;have hR6:=R6.out;rw[<- hs6,<- hb6]at hR6;have RB:=qA hR6;clear hs6 hb6 hR6 R6 hn4 hfl hhl;go_wp2_with fail;go_loopw [78] (λvi wr=>∃j:Nat,vi= .int .i64 j/\j<=d.reads.length/\WrPost wb v w s6 (b6++(d.reads.take j).flatMap readW) wr/\Blk wr N [.string kx,.int .i64 cl,.int .i64 nm,.slice xo d.acts.length xc,.slice yo d.reads.length yc,.bool put,.string value] 48) (λvi _=>d.reads.length - (intOf vi).toNat)
       case atStart=>exact⟨0,rfl,by omega,by simpa using RB.out,B6.out⟩
       case round=>
        obtain⟨i,rfl,hi,hW,hbk⟩:=hrel;have R4:=qA hW;have B4:=qA hbk;clear hW hbk RB B6 c5;have hfl:=flat_len readW 100100 (d.reads.take i) (λa ha=>readW_len a (HFD.out.reads a (List.mem_of_mem_take ha)));rw[List.length_take]at hfl;by_cases hil:i<d.reads.length
        · obtain⟨y,hy⟩:∃y,d.reads[i]? =some y:=⟨_,qE hil⟩
          obtain⟨ab,aoff,rfl,hab,hano,hacell⟩:=HXD.out.reads (by intro e;rw[e]at hil;simp at hil);have hac:=hacell i y hy;obtain⟨v3,hT3,hB3,hK3⟩:=R4.out;have hmv:∀i,wr.cell? ⟨ab,i,none⟩=w.cell? ⟨ab,i,none⟩:=λi=>hB3.cell (p:=⟨ab,i,none⟩) hab hano;have hva:=HFD.out.reads y (qH hy);have hty:d.reads.take (i+1)=d.reads.take i++[y]:=by rw[List.take_add_one,hy];rfl
          obtain⟨key,is,val⟩:=y;have e0:=(hmv _).trans (hac 0 _ rfl);have e1:=(hmv _).trans (hac 1 _ rfl);have e2:=(hmv _).trans (hac 2 _ rfl);simp only[Nat.add_zero]at e0;simp only at hva;have jj0:(0:Int)<=(i:Int):=by omega
          have jj1:(i:Int)<(d.reads.length:Int):=by omega
          obtain⟨b3,hb3⟩:∃b3,b3=b6++(d.reads.take i).flatMap readW:=⟨_,rfl⟩;have hbl3:b3.length<=50000000000000:=by rw[hb3];simp only[qG];omega
          rw[<- hb3]at hT3;have HB3:=qA hb3;have HTY:=qA hty;have HT3:=qA hT3;have HB3W:=qA hB3;have HK3:=qA hK3;clear hy hacell hac hmv hT3 hB3 hK3 hb3 hty hfl;go_wp2_with fail;have hbox:=Blk.new wr [.string key,.bool is,.string val] 239;have hxb:Ext wr (wr.alloc (.cells #[.string key,.bool is,.string val] 239)):=(qK _ wr).alloc (qL _) _;generalize wr.alloc (.cells #[.string key,.bool is,.string val] 239)=w4 at hbox hxb ⊢;generalize hMe:wr.heap.size=M at hbox ⊢;have hT4:=HT3.out.ext hxb
          have hnS:¬(M=wb\/v3.ownBlock=some M):=λe=>by
           rcases e with e | e
           · subst e;exact absurd (blk_type hbox hT4.blk) (by decide)
           · exact own_ne hT4.row hbox (by decide) e
          have q1:=ButBy.cell (S:=λj=>j=wb\/v3.ownBlock=some j) (hbox.cell 1) hnS;have q2:=ButBy.cell (S:=λj=>j=wb\/v3.ownBlock=some j) (hbox.cell 2) hnS;have X4:=qA hxb;have T4:=qA hT4;clear hbox hxb hT4 hnS hMe;refine wp_region_firstS (λw'=>∃p:ButBy (λj=>j=wb\/v3.ownBlock=some j) w4,w'=p.W) [0,1,2,5,6] 4 (by kernel_rfl) (by kernel_rfl) (λ_ _ _ _ h=>h) ⟨⟨w4.drew,(But.refl _ w4).drew⟩,rfl⟩ ?_;simp only[opsAt,qD,qC,qB]
          repeat (go_big_quiet_step (fail))
          refine wpQuiet_nil ?_;clear q1 q2
          refine wp_wchain [⟨⟨3,4,85,86⟩,.flags [is]⟩,⟨⟨7,8,89,90⟩,.texts [val]⟩] wb v3 (s6) (b3) (by kernel_rfl) (by simp[slotC]) ?_
           ⟨λo a' w' ho hl=>?_,λo a' u w' ho hl hu hp=>?_,by simp[WArg.ok],λo a' w' ho hl=>?_,λo a' u w' ho hl hu hp=>?_,⟨by simp,by simpa [size_data] using (by omega:val.size<=1000000000)⟩,trivial⟩ ((WrPost.start T4.out).ext (qK _ _).drew) (λus w5 hus hR=>?_)
          · have h1:=rowB_len val.data.toList (by rw[size_data];exact hva)
            simp only[bytesW,WArg.bytes,List.flatMap_cons,List.flatMap_nil,qG,List.length_nil,flagB_len];omega
          · have g0:a'.tmps.getD 84 undef= .bool is:=hl.get 84 (by simp[slotC])
            have q0:=slotQ g0;obtain rfl:=Option.some.inj ho;clear ho hl;simp only[WArg.n,WArg.cells,WArg.t,List.flatMap_cons,List.flatMap_nil];go_simp
            try rfl
          · have g:a'.tmps.getD 82 undef= .pointer (some ⟨wb,0,none⟩):=hl.get 82 (by simp[slotC])
            clear hp;obtain rfl:=Option.some.inj ho;clear ho hl;simp only[WArg.fn];go_simp
          · have g0:a'.tmps.getD 88 undef= .string val:=hl.get 88 (by simp[slotC])
            have q0:=slotQ g0;obtain rfl:=Option.some.inj ho;clear ho hl;simp only[WArg.n,WArg.cells,WArg.t,List.flatMap_cons,List.flatMap_nil];go_simp
            try rfl
          · have hp':=hp _ rfl
            clear hp;obtain rfl:=Option.some.inj ho;clear ho hl;simp only[WArg.fn];go_simp
          obtain⟨x0,x1,rfl⟩:∃x0 x1,us=[x0,x1]:=by
           match us,hus with
           | [x0,x1],_=>exact⟨x0,x1,rfl⟩
          clear hus;simp only[List.map_cons,List.map_nil,putsC];have hR5:=WrPost.join HB3W.out HK3.out X4.out hR;have hb5:=(WrPost.keep T4.out hR) N _ _ (by decide) (by decide) (B4.out.ext' X4.out)
          have e1:b3++bytesW [⟨⟨3,4,85,86⟩,.flags [is]⟩,⟨⟨7,8,89,90⟩,.texts [val]⟩]=b6++(d.reads.take (i+1)).flatMap readW:=by
           rw[HB3.out,HTY.out];simp[bytesW,WArg.bytes,readW]
          have e2:(s6||badW [⟨⟨3,4,85,86⟩,.flags [is]⟩,⟨⟨7,8,89,90⟩,.texts [val]⟩])=s6:=by simp[badW,WArg.bad]
          rw[e1,e2]at hR5;have R5:=qA hR5;have B5:=qA hb5;clear hR5 hb5 e1 e2 hR;go_wp2_with fail;go_roundw
          case rel=>exact⟨i+1,by go_num,by omega,R5.out,B5.out⟩
          case measure=>simp[intOf];omega
        · have hall:=R4.out
          rw[List.take_of_length_le (show d.reads.length<=i by omega)]at hall hfl;obtain⟨v3,hT3,hB3,hK3⟩:=hall;obtain⟨b3,hb3⟩:∃b3,b3=b6++d.reads.flatMap readW:=⟨_,rfl⟩;have hbl3:b3.length<=50000000000000:=by rw[hb3];simp only[qG];omega
          rw[<- hb3]at hT3;have hbox:=B4.out
          have hvs:value.data.toList.length<=100000:=by
           have e:value=d.value:=HXD.out.value;rw[size_data,e];exact HFD.out.vs
          have hnS:¬(N=wb\/v3.ownBlock=some N):=λe=>by
           rcases e with e | e
           · subst e;exact absurd (blk_type hbox hT3.blk) (by decide)
           · exact own_ne hT3.row hbox (by decide) e
          have q5:=ButBy.cell (S:=λj=>j=wb\/v3.ownBlock=some j) (hbox.cell 5) hnS;have q6:=ButBy.cell (S:=λj=>j=wb\/v3.ownBlock=some j) (hbox.cell 6) hnS;have HB3:=qA hb3;have HT3:=qA hT3;have HB3W:=qA hB3;have HK3:=qA hK3;clear hbox hnS hb3 hT3 hB3 hK3 hfl R4 B4;go_wp2_with fail;refine wp_region_firstS (λw'=>∃p:ButBy (λj=>j=wb\/v3.ownBlock=some j) wr,w'=p.W) [0,1,2,5,6] 4 (by kernel_rfl) (by kernel_rfl) (λ_ _ _ _ h=>h) ⟨⟨wr.drew,(But.refl _ wr).drew⟩,rfl⟩ ?_;simp only[opsAt,qD,qC,qB]
          repeat (go_big_quiet_step (fail))
          refine wpQuiet_nil ?_;clear q5 q6
          refine wp_wchain [⟨⟨3,4,95,96⟩,.flags [put]⟩,⟨⟨7,8,99,100⟩,.texts [value]⟩] wb v3 (s6) (b3) (by kernel_rfl) (by simp[slotC]) ?_
           ⟨λo a' w' ho hl=>?_,λo a' u w' ho hl hu hp=>?_,by simp[WArg.ok],λo a' w' ho hl=>?_,λo a' u w' ho hl hu hp=>?_,⟨by simp,by simpa using (by omega:value.data.toList.length<=1000000000)⟩,trivial⟩ ((WrPost.start HT3.out).ext (qK _ _).drew) (λus w5 hus hR=>?_)
          · have h1:=rowB_len value.data.toList hvs
            simp only[bytesW,WArg.bytes,List.flatMap_cons,List.flatMap_nil,qG,List.length_nil,flagB_len];omega
          · have g0:a'.tmps.getD 94 undef= .bool put:=hl.get 94 (by simp[slotC])
            have q0:=slotQ g0;obtain rfl:=Option.some.inj ho;clear ho hl;simp only[WArg.n,WArg.cells,WArg.t,List.flatMap_cons,List.flatMap_nil];go_simp
            try rfl
          · have g:a'.tmps.getD 92 undef= .pointer (some ⟨wb,0,none⟩):=hl.get 92 (by simp[slotC])
            clear hp;obtain rfl:=Option.some.inj ho;clear ho hl;simp only[WArg.fn];go_simp
          · have g0:a'.tmps.getD 98 undef= .string value:=hl.get 98 (by simp[slotC])
            have q0:=slotQ g0;obtain rfl:=Option.some.inj ho;clear ho hl;simp only[WArg.n,WArg.cells,WArg.t,List.flatMap_cons,List.flatMap_nil];go_simp
            try rfl
          · have hp':=hp _ rfl
            clear hp;obtain rfl:=Option.some.inj ho;clear ho hl;simp only[WArg.fn];go_simp
          obtain⟨x0,x1,rfl⟩:∃x0 x1,us=[x0,x1]:=by
           match us,hus with
           | [x0,x1],_=>exact⟨x0,x1,rfl⟩
          clear hus;simp only[List.map_cons,List.map_nil,putsC];have hR5:=WrPost.join HB3W.out HK3.out (qK _ _) hR;have hpe:put=d.put:=HXD.out.put;have hve:value=d.value:=HXD.out.value;have htk:ds.take (k+1)=ds.take k++[d]:=by rw[List.take_add_one,HDK.out];rfl
          have e1:b3++bytesW [⟨⟨3,4,95,96⟩,.flags [put]⟩,⟨⟨7,8,99,100⟩,.texts [value]⟩]=bs++numZ (ds.length:Int)++(ds.take (k+1)).flatMap holdW:=by
           rw[HB3.out,HB6.out,HBK.out,htk,hpe,hve];simp[bytesW,WArg.bytes,holdW]
          have e2:(s6||badW [⟨⟨3,4,95,96⟩,.flags [put]⟩,⟨⟨7,8,99,100⟩,.texts [value]⟩])=(sp||(ds.take (k+1)).any holdBad):=by
           rw[HS6.out,HSK.out,htk];simp[badW,WArg.bad,holdBad,Bool.or_assoc]
          rw[e1,e2]at hR5;have R5:=qA hR5;clear hR5 e1 e2 hR htk hpe hve;go_wp2_with fail;go_roundw
          case rel=>exact⟨k+1,by go_num,by omega,R5.out⟩
          case measure=>simp[intOf];omega
  · have hall:=R2.out
    have hdl:=HDL.out;rw[List.take_of_length_le (show ds.length<=k by omega),List.append_assoc]at hall;have RA:=qA hall;clear hall hdl;go_wp2_with fail;go_ret;exact⟨rfl,RA.out⟩
end Go.Proofs.YtmpmggejhnmakaaGreatDoor
