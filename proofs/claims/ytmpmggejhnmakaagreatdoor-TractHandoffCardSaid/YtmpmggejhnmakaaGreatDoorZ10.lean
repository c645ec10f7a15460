/- slices.Clone at rows and steps; IndexFunc, ContainsFunc at steps; Equal at reads. -/
import Derived.Test.YtmpmggejhnmakaaGreatDoorZ09
import Derived.Test.YtmpmggejhnmakaaGreatDoorZ08
import Derived.Test.YtmpmggejhnmakaaGreatDoorZ01
import Derived.Sort.Walk0
import Derived.Test.YtmpmggejhnmakaaGreatDoorZ04
import Derived.Test.YtmpmggejhnmakaaGreatDoorZ02
import Derived.RegionTactic
import Derived.ChangeAlike
set_option maxRecDepth 100000
set_option maxHeartbeats 1600000
namespace Go.Proofs.YtmpmggejhnmakaaGreatDoor
open Go.RowKit
theorem infoRow:(Tryz.prog.info? 52).map (λi=>(i.zero,i.size,i.bytes))=some (some (.agg #[.string ⟨#[]⟩,.string ⟨#[]⟩]),2,32):=by kernel_rfl
theorem one_row:∀(x:RowD),∀u∈encRw x,u.oneCell'=true:=by
 intro x u hu;simp only[encRw,List.mem_cons,List.not_mem_nil,or_false]at hu;rcases hu with rfl | rfl<;>rfl
theorem clone_rows_calls (l:List RowD)(ao:Option Addr)(cap:Nat)(w:World)(hl:l.length<=1000000)(hr:Rows 2 encRw w.heap.size w ao l):
 Calls Tryz.prog 105 #[.slice ao l.length cap] w λe w'=>∃v,e= .returned v/\w'.ownsRow 0 52 2 v l.length (l.flatMap encRw)/\(∀j,v.ownBlock=some j->w.heap.size<=j)/\Ext w w':=by
 obtain⟨i0,hi,hz0,hz1,hz2⟩:=info_parts infoRow;have heq:=λW=>Lib.run_eql_slice_nil (P:=Tryz.prog) W 40 52 ao l.length cap 0 0 Tryz.underlying40;have E1:Hid (Ext w (w.alloc (.cells #[] 52))):=qA ((qK _ w).alloc (qL _) _);cases ao with
 | none=>
   have hl0:l=[]:=by
    cases l with
    | nil=>rfl
    | cons a l=>obtain⟨b,off,e,-⟩:=hr (by simp);cases e
   have HL0:=qA hl0;clear hr hl0;simp only[Option.isNone_none]at heq;go_enter Tryz.func105,Tryz.ntmps105;go_wp2_with fail;go_ret;exact⟨_,rfl,by rw[HL0.out];exact World.ownsRow_nil _ _ _ _,by simp[Value.ownBlock],qK _ _⟩
 | some a=>
   have HR:=qA hr;clear hr;simp only[Option.isNone_some]at heq;go_enter Tryz.func105,Tryz.ntmps105;go_wp2_with (at_builtin;refine wpList_append_rows (enc:=encRw) (size:=2) (λ_=>rfl) one_row rfl (.tmp 5) (.tmp 6) 40 rfl 52 i0 _ 32 Tryz.underlying40 hi hz0 hz1 hz2 rfl (by decide) (.slice (some ⟨w.heap.size,0,none⟩) 0 0) 0 [] rfl (World.ownsRow_made w #[] 0 (Nat.zero_le _) (Nat.zero_le _) rfl) (some a) l cap rfl ((HR.out.ext E1.out).mono E1.out.size) (by unfold maxLen;omega) (by omega) ?_;intro v1 w1 hown1 hbut1 hkept1;have O1:=qA hown1;have B1:=qA hbut1;have P1:=qA hkept1;clear hown1 hbut1 hkept1);go_ret;refine⟨v1,rfl,by have:=O1.out;rwa [Nat.zero_add,List.nil_append]at this,λj hj=>?_,?_⟩
   · rcases P1.out j hj with e | e
     · simp[Value.ownBlock]at e;omega
     · have:=E1.out.size;omega
   · exact ((Ext.but E1.out (λ_=>False)).trans B1.out (U:=λi=>i=w.heap.size) (λ_ _ e=>e.elim) (λi _ e=>by simp[Value.ownBlock]at e;exact e.symm)).ext (λi hi e=>by omega)
end Go.Proofs.YtmpmggejhnmakaaGreatDoor
/- What acts tell, taken out of a map of rows: witness.told. -/
namespace Go.Proofs.YtmpmggejhnmakaaGreatDoor
open Go.RowKit
open Go.Maps (Keyed)
def NoCells (w:World)(b:Nat):Prop:=∀cs t x,w.heap[b]? ≠some (.cells cs t x)
theorem NoCells.ne {w:World}{b g:Nat}(h:NoCells w b){i:Nat}{v:Value}(hc:w.cell? ⟨g,i,none⟩=some v):g≠b:=by
 intro e;subst e;unfold World.cell? at hc
 split at hc
 · rename_i c t x hg;exact h _ _ _ hg
 · cases hc
theorem NRows.step {α:Type}{sz:Nat}{enc:α->List Value}{no no' S:Nat->Prop}{w w':World}{ao:Option Addr}{l:List α}(h:NRows sz enc no w ao l)(hx:But S w w')(hS:∀b,b<w.heap.size->S b->no b\/NoCells w b)
 (hn:∀b,b<w.heap.size->no' b->no b):NRows sz enc no' w' ao l:=by
 intro hl;obtain⟨g,off,rfl,hg,hno,hc⟩:=h hl;refine⟨g,off,rfl,by have:=hx.size;omega,λe=>hno (hn g hg e),λi x hi j v hj=>(hx.cell (p:=⟨g,_,none⟩) hg λhs=>?_).trans (hc i x hi j v hj)⟩;rcases hS g hg hs with e | e
 · exact hno e
 · exact e.ne (hc i x hi j v hj) rfl
theorem MapF.noCells {P:Program}{k:TypeId}{w:World}{b n:Nat}{z:Value}{val:Lit->Value}{has:Lit->Bool}(h:MapF P k w b n z val has):NoCells w b:=λ_ _ _ e=>h.ne e rfl
theorem NRows.drop3 {no:Nat->Prop}{w:World}{ao ao':Option Addr}{r:Rd}{rs:List Rd}(h:NRows 3 encRd no w ao (r::rs))(ha:rs≠[]->∀b off,ao=some ⟨b,off,none⟩->ao'=some ⟨b,off+3,none⟩):NRows 3 encRd no w ao' rs:=by
 intro hl;obtain⟨g,off,rfl,hg,hno,hc⟩:=h (by simp);refine⟨g,off+3,ha hl g off rfl,hg,hno,λi x hi j v hj=>?_⟩
 have:=hc (i+1) x (by simpa using hi) j v hj
 rw[show off+(i+1) * 3+j=off+3+i * 3+j from by omega]at this;exact this
structure ToldAt (no:Nat->Prop)(w:World)(mb n:Nat)(m:Told):Prop where
 own:∃val has,MapF Tryz.prog 9 w mb n (.slice none 0 0) val has/\∀x:Txt,∃ao cap,val (.string x)= .slice ao (m x).length cap/\(m x).length<=cap/\NRows 3 encRd no w ao (m x)
variable {no no' S:Nat->Prop} {w w':World} {mb n:Nat} {m:Told}
theorem ToldAt.lt (T:ToldAt no w mb n m):mb<w.heap.size:=by obtain⟨_,_,h,_⟩:=T.own;exact h.lt
theorem ToldAt.noCells (T:ToldAt no w mb n m):NoCells w mb:=by obtain⟨_,_,h,_⟩:=T.own;exact h.noCells
theorem ToldAt.step (T:ToldAt no w mb n m)(hx:But S w w')(hm:¬S mb)(hS:∀b,b<w.heap.size->S b->no b)(hn:∀b,b<w.heap.size->no' b->no b):ToldAt no' w' mb n m:=by
 obtain⟨val,has,h1,h2⟩:=T.own;refine⟨val,has,h1.same (hx.block _ h1.lt hm),λx=>?_⟩;obtain⟨ao,cap,e1,e2,e3⟩:=h2 x;exact⟨ao,cap,e1,e2,e3.step hx (λb hb e=> .inl (hS b hb e)) hn⟩
theorem ToldAt.ext (T:ToldAt no w mb n m)(hx:Ext w w'):ToldAt no w' mb n m:=T.step (Ext.but hx λ_=>False) id (λ_ _ e=>e.elim) (λ_ _ e=>e)
theorem ToldAt.moreN (T:ToldAt no w mb n m){n':Nat}(hn:n<=n'):ToldAt no w mb n' m:=by
 obtain⟨val,has,h1,h2⟩:=T.own;exact⟨val,has,h1.mono hn,h2⟩
theorem ToldAt.congr (T:ToldAt no w mb n m){m':Told}(h:∀x,m x=m' x):ToldAt no w mb n m':=by
 have:m=m':=funext h
 subst this;exact T
theorem ToldAt.made (no:Nat->Prop)(w:World):ToldAt no (w.alloc (.map #[] 0)) w.heap.size 0 (λ_=>[]):=
 ⟨_,_,MapF.made _ _ _ _,λ_=>⟨none,0,rfl,qL _,λh=>absurd rfl h⟩⟩
theorem ToldAt.look (T:ToldAt no w mb n m)(k:ByteArray)(hk:k.size<=140737488351232):∃ao cap,(m k.data.toList).length<=cap/\NRows 3 encRd no w ao (m k.data.toList)/\
 ∀W,Ext w W->(Instr.lookup 237 (.map (some mb)) (.string k) false).run Tryz.prog W= .ok (.slice ao (m k.data.toList).length cap) W:=by
 obtain⟨val,has,h1,h2⟩:=T.own;obtain⟨ao,cap,e1,e2,e3⟩:=h2 k.data.toList;refine⟨ao,cap,e2,e3,λW hW=>?_⟩;rw[<- e1];exact (h1.ext hW).lookup strKeyed Tryz.underlying237 (by kernel_rfl) (WideMaps.keyOf_string_mk Tryz.underlying9 (by unfold maxLen;omega))
theorem ToldAt.put (T:ToldAt no w mb n m)(hn:n<1000000)(k:ByteArray)(hk:k.size<=140737488351232)(rs:List Rd)(ao:Option Addr)(cap:Nat)(hc:rs.length<=cap)(hr:NRows 3 encRd no w ao rs):
 ∃w',(Instr.mapUpdate 237 (.map (some mb)) (.string k) (.slice ao rs.length cap)).run Tryz.prog w= .ok () w'/\ToldAt no w' mb (n+1) (λx=>if x=k.data.toList then rs else m x)/\But (λj=>j=mb) w w':=by
 obtain⟨val,has,h1,h2⟩:=T.own;obtain⟨w',hrun,hmap,hg⟩:=h1.update strKeyed Tryz.underlying237 (by unfold maxLen;omega) (key:= .string k) (v:= .slice ao rs.length cap) (WideMaps.keyOf_string_mk Tryz.underlying9 (by unfold maxLen;omega));have hb:But (λj=>j=mb) w w':=(But.of_grown hg).mono λi _ e=>(Option.some.inj e).symm
 have hrow:∀{ao:Option Addr} {l:List Rd},NRows 3 encRd no w ao l->NRows 3 encRd no w' ao l:=λh=>
  h.step hb (λb _ e=>by subst e;exact .inr h1.noCells) (λ_ _ e=>e)
 refine⟨w',hrun,⟨_,_,hmap,λx=>?_⟩,hb⟩;by_cases e:x=k.data.toList
 · subst e
   exact⟨ao,cap,by simp,by simpa using hc,by simpa using hrow hr⟩
 · obtain⟨bo,c2,e1,e2,e3⟩:=h2 x
   refine⟨bo,c2,?_,?_,?_⟩
   · simp only[Lit.string.injEq,e,if_false];exact e1
   · simpa [e] using e2
   · simpa [e] using hrow e3
theorem slice_one3 {t:TypeId}(ht:Tryz.prog.underlying t=some (.slice (Tryz.prog.elem t)))(hz:∀W,(sizeOf (Tryz.prog.elem t)).run Tryz.prog W= .ok 3 W)(ao:Option Addr)(len cap:Nat)(h:1<=len)(hc:len<=cap):
 ∃ao',(2<=len->∀b off,ao=some ⟨b,off,none⟩->ao'=some ⟨b,off+3,none⟩)/\∀W,(Instr.slice t (.slice ao len cap) (some (.int .i64 1)) none none).run Tryz.prog W= .ok (.slice ao' (len - 1) (cap - 1)) W:=by
 refine⟨if cap=1 then ao else ao.map (·.add (1 * 3)),λhl b off e=>?_,λW=>?_⟩
 · rw[if_neg (by omega),e,Option.map_some,WideShapes.add_plain]
 · rw[run_slice_l W t _ _ _ ht .i64 1 (by omega) (by omega),hz W]
   simp only[Result.andThen_ok,sliced,show (1:Int).toNat=1 from rfl]
theorem elemRds:Tryz.prog.underlying 46=some (.slice (Tryz.prog.elem 46)):=by kernel_rfl
theorem sizeRds:∀W,(sizeOf (Tryz.prog.elem 46)).run Tryz.prog W= .ok 3 W:=λW=>by kernel_rfl
theorem tellAct_skip {p:List Rd×Told}{a:ActD}(h:a.kind=2):tellAct p a=p:=by unfold tellAct;rw[if_pos h]
theorem tellAct_take {p:List Rd×Told}{a:ActD}{r:Rd}{rs:List Rd}(h:a.kind≠2)(hp:p.2 (keyT a)=r::rs):tellAct p a=(p.1++[r],λx=>if x=keyT a then rs else p.2 x):=by
 unfold tellAct;rw[if_neg h,hp];simp only[List.head?_cons,Option.toList_some]
 congr 1
 funext x
 split
 · rename_i e;rw[e,hp];rfl
 · rfl
end Go.Proofs.YtmpmggejhnmakaaGreatDoor
/- cmp.Compare at texts. -/
namespace Go.Proofs.YtmpmggejhnmakaaGreatDoor
open Go.RowKit
def cmpT (x y:List UInt8):Int:=if x<y then -1 else if y<x then 1 else 0
theorem cmpT_neg (x y:List UInt8):cmpT x y<0↔x<y:=by
 unfold cmpT
 split
 · simp_all
 · split<;>simp_all
theorem cmpT_zero (x y:List UInt8):cmpT x y=0↔x=y:=by
 unfold cmpT
 split
 · rename_i h
   constructor
   · intro e;omega
   · rintro rfl;exact absurd h (List.lt_irrefl _)
 · rename_i h
   split
   · rename_i h2
     constructor
     · intro e;omega
     · rintro rfl;exact absurd h2 (List.lt_irrefl _)
   · rename_i h2
     exact⟨λ_=>List.le_antisymm (List.not_lt.1 h2) (List.not_lt.1 h),λ_=>rfl⟩
theorem isNaNS_calls (x:ByteArray)(w:World):Calls Tryz.prog 139 #[.string x] w λe w'=>e= .returned (.bool false)/\w=w':=by
 have h1:(x.toList==x.toList)=true:=by simp
 go_enter Tryz.func139,Tryz.ntmps139
 go_wp2
 go_ret;exact⟨rfl,rfl⟩
theorem compareS_calls (x y:ByteArray)(w:World):Calls Tryz.prog 65 #[.string x,.string y] w λe w'=>e= .returned (.int .i64 (cmpT x.data.toList y.data.toList))/\w=w':=by
 have hx:x.toList=x.data.toList:=Lib.toList_data x;have hy:y.toList=y.data.toList:=Lib.toList_data y;have HX:=qA hx;have HY:=qA hy;clear hx hy;by_cases h1:x.data.toList<y.data.toList
 · have E:Hid (cmpT x.data.toList y.data.toList= -1):=qA (by unfold cmpT;rw[if_pos h1])
   have b1:Op.bytesLess x.toList y.toList=true:=by rw[HX.out,HY.out,bytesLess_eq];simpa using h1
   clear h1;go_enter Tryz.func65,Tryz.ntmps65;go_wp2_with (go_at_call 139;refine (isNaNS_calls _ _).mono ?_;rintro e w' ⟨rfl,rfl⟩);go_ret;exact⟨ret_int (by rw[E.out]),rfl⟩
 · have b1:Op.bytesLess x.toList y.toList=false:=by rw[HX.out,HY.out,bytesLess_eq];simpa using h1
   by_cases h2:y.data.toList<x.data.toList
   · have E:Hid (cmpT x.data.toList y.data.toList=1):=qA (by unfold cmpT;rw[if_neg h1,if_pos h2])
     have e1:(x.toList==y.toList)=false:=by
      rw[HX.out,HY.out,beq_eq_false_iff_ne];intro e;rw[e]at h2;exact absurd h2 (List.lt_irrefl _)
     clear h1 h2;go_enter Tryz.func65,Tryz.ntmps65;go_wp2_with (go_at_call 139;refine (isNaNS_calls _ _).mono ?_;rintro e w' ⟨rfl,rfl⟩);go_ret;exact⟨ret_int (by rw[E.out]),rfl⟩
   · have E:Hid (cmpT x.data.toList y.data.toList=0):=qA (by unfold cmpT;rw[if_neg h1,if_neg h2])
     have e1:(x.toList==y.toList)=true:=by
      rw[HX.out,HY.out,beq_iff_eq];exact List.le_antisymm (List.not_lt.1 h2) (List.not_lt.1 h1)
     clear h1 h2;go_enter Tryz.func65,Tryz.ntmps65;go_wp2_with (go_at_call 139;refine (isNaNS_calls _ _).mono ?_;rintro e w' ⟨rfl,rfl⟩);go_ret;exact⟨ret_int (by rw[E.out]),rfl⟩
def aboveB (h t:List UInt8):Bool:=h.isEmpty||decide (t<h)
def spanB (lo hi:List UInt8):Bool:=(lo.isEmpty||keyL lo)&&(hi.isEmpty||keyL hi)&&aboveB hi lo
def hasB (lo hi k:List UInt8):Bool:=spanB lo hi&&keyL k&&decide (¬k<lo)&&aboveB hi k
theorem none_calls (s:ByteArray)(w:World):Calls Tryz.prog 36 #[.agg #[.string s]] w λe w'=>e= .returned (.bool s.data.toList.isEmpty)/\Ext w w':=by
 have HX:=qA (show Ext w (w.alloc (.cells #[.string s] 95)) from (qK _ w).alloc (qL _) _);have hs:s.toList=s.data.toList:=Lib.toList_data s;have HS:=qA hs;clear hs;go_enter Tryz.func36,Tryz.ntmps36;go_wp2_with fail;go_ret;exact⟨ret_bool (by rw[<- HS.out]),HX.out⟩
theorem compareT_calls (x y:ByteArray)(w:World):Calls Tryz.prog 102 #[.agg #[.string x],.agg #[.string y]] w λe w'=>e= .returned (.int .i64 (cmpT x.data.toList y.data.toList))/\Ext w w':=by
 have HX:Hid (Ext w ((w.alloc (.cells #[.string x] 95)).alloc (.cells #[.string y] 95))):=qA (((qK _ w).alloc (qL _) _).alloc (by simp) _);go_enter Tryz.func102,Tryz.ntmps102;go_wp2_with fail;refine (compareS_calls x y _).mono ?_;rintro e w' ⟨rfl,rfl⟩;go_wp2_with fail;go_ret;exact⟨rfl,HX.out⟩
theorem cmpT_pos (x y:List UInt8):decide (0<cmpT x y)=decide (y<x):=by
 unfold cmpT
 split
 · rename_i h
   have:¬y<x:=λe=>List.lt_irrefl _ (List.lt_trans h e)
   simp[this]
 · split<;>simp_all
theorem cmpT_le (x y:List UInt8):decide (cmpT x y<=0)=decide (¬y<x):=by
 unfold cmpT
 split
 · rename_i h
   have:¬y<x:=λe=>List.lt_irrefl _ (List.lt_trans h e)
   simp[this]
 · split<;>simp_all
theorem above_calls (h t:ByteArray)(w:World):Calls Tryz.prog 37 #[.agg #[.string h],.agg #[.string t]] w λe w'=>e= .returned (.bool (aboveB h.data.toList t.data.toList))/\Ext w w':=by
 have hw:∃w2,w2=(w.alloc (.cells #[.string h] 98)).alloc (.cells #[.string t] 95)/\Ext w w2/\Blk w2 w.heap.size [.string h] 98/\Blk w2 (w.heap.size+1) [.string t] 95:=by
  refine⟨_,rfl,((qK _ w).alloc (qL _) _).alloc (by simp) _,(Blk.new w _ _).alloc _,?_⟩
  have:=Blk.new (w.alloc (.cells #[.string h] 98)) [.string t] 95
  rwa [World.size_alloc]at this
 obtain⟨w2,e2,x2,b1,b2⟩:=hw;obtain⟨A,hA⟩:∃A,A=h.data.toList.isEmpty:=⟨_,rfl⟩;have hn:∀W,Calls Tryz.prog 36 #[.agg #[.string h]] W λe w'=>e= .returned (.bool A)/\Ext W w':=λW=>by rw[hA];exact none_calls h W
 have HN:=qA hn;have X2:=qA x2;have B1:=qA b1;have B2:=qA b2;have HR:Hid (aboveB h.data.toList t.data.toList=(A||decide (0<cmpT h.data.toList t.data.toList))):=qA (by rw[hA,cmpT_pos];rfl);have HC:=qA (compareT_calls h t);clear hn x2 b1 b2 hA;generalize aboveB h.data.toList t.data.toList=res at HR ⊢;generalize cmpT h.data.toList t.data.toList=c at HR HC;go_enter Tryz.func37,Tryz.ntmps37;go_wp2_with fail;rw[<- e2];clear e2;refine (HN.out _).mono ?_;rintro e w3 ⟨rfl,hx3⟩;have c1:=(B1.out.ext' hx3).cell 0;have c2:=(B2.out.ext' hx3).cell 0;simp only[qB]at c1 c2;have X3:=qA (qJ X2.out hx3);clear hx3;cases A
 · go_wp2_with fail
   refine (HC.out _).mono ?_;rintro e w4 ⟨rfl,hx4⟩;have X4:=qA (qJ X3.out hx4);clear hx4;go_wp2_with fail;go_ret;exact⟨ret_bool (by rw[HR.out];rfl),X4.out⟩
 · go_wp2_with fail
   go_ret;exact⟨ret_bool (by rw[HR.out];rfl),X3.out⟩
theorem ends_calls (lo hi:ByteArray)(w:World):Calls Tryz.prog 35 #[.agg #[.string lo,.string hi]] w λe w'=>e= .returned (.tuple #[.agg #[.string lo],.agg #[.string hi]])/\Ext w w':=by
 go_enter Tryz.func35,Tryz.ntmps35;go_wp2_with fail;go_region;go_wp2_with fail;refine bodyPost_ret (v:= .tuple #[.agg #[.string lo],.agg #[.string hi]]) (by simp[results,Tryz.results35,go_sem]) rfl ⟨rfl,?_⟩;exact ((((qK _ w).alloc (qL _) _).alloc (by simp) _).alloc (by simp;omega) _).drew
theorem spanRight_calls (lo hi:ByteArray)(w:World)(hl:lo.size<=140737488351232)(hh:hi.size<=140737488351232):Calls Tryz.prog 11 #[.agg #[.string lo,.string hi]] w λe w'=>e= .returned (.bool (spanB lo.data.toList hi.data.toList))/\Ext w w':=by
 obtain⟨A,hA⟩:∃A,A=lo.data.toList.isEmpty:=⟨_,rfl⟩;obtain⟨B,hB⟩:∃B,B=keyL lo.data.toList:=⟨_,rfl⟩;obtain⟨C,hC⟩:∃C,C=hi.data.toList.isEmpty:=⟨_,rfl⟩;obtain⟨D,hD⟩:∃D,D=keyL hi.data.toList:=⟨_,rfl⟩;obtain⟨E,hE⟩:∃E,E=aboveB hi.data.toList lo.data.toList:=⟨_,rfl⟩;have HR:Hid (spanB lo.data.toList hi.data.toList=((A||B)&&(C||D)&&E)):=qA (by rw[hA,hB,hC,hD,hE];rfl);have HN1:Hid (∀W,Calls Tryz.prog 36 #[.agg #[.string lo]] W λe w'=>e= .returned (.bool A)/\Ext W w'):=qA (λW=>by rw[hA];exact none_calls lo W);have HN2:Hid (∀W,Calls Tryz.prog 36 #[.agg #[.string hi]] W λe w'=>e= .returned (.bool C)/\Ext W w'):=qA (λW=>by rw[hC];exact none_calls hi W);have HK1:Hid (∀W,Calls Tryz.prog 10 #[.string lo] W λe w'=>e= .returned (.bool B)/\W=w'):=qA (λW=>by rw[hB];exact key_calls lo W hl);have HK2:Hid (∀W,Calls Tryz.prog 10 #[.string hi] W λe w'=>e= .returned (.bool D)/\W=w'):=qA (λW=>by rw[hD];exact key_calls hi W hh);have HA:Hid (∀W,Calls Tryz.prog 37 #[.agg #[.string hi],.agg #[.string lo]] W λe w'=>e= .returned (.bool E)/\Ext W w'):=qA (λW=>by rw[hE];exact above_calls hi lo W);have HEN:=qA (ends_calls lo hi);generalize spanB lo.data.toList hi.data.toList=res at HR ⊢;clear hA hB hC hD hE;have HB1:Hid (Blk (w.alloc (.cells #[.string lo,.string hi] 30)) w.heap.size [.string lo,.string hi] 30):=qA (Blk.new w _ _);have HX1:Hid (Ext w (w.alloc (.cells #[.string lo,.string hi] 30))):=qA ((qK _ w).alloc (qL _) _);go_enter Tryz.func11,Tryz.ntmps11;go_wp2_with fail;refine (HEN.out _).mono ?_;rintro e w2 ⟨rfl,hx2⟩
 have hw:∃w3,w3=(w2.alloc (.cells #[.string lo] 97)).alloc (.cells #[.string hi] 98)/\Ext w2 w3/\Blk w3 w2.heap.size [.string lo] 97/\Blk w3 (w2.heap.size+1) [.string hi] 98:=by
  refine⟨_,rfl,((qK _ w2).alloc (qL _) _).alloc (by simp) _,(Blk.new w2 _ _).alloc _,?_⟩
  have:=Blk.new (w2.alloc (.cells #[.string lo] 97)) [.string hi] 98
  rwa [World.size_alloc]at this
 obtain⟨w3,e3,x3,b1,b2⟩:=hw;have b0:=(HB1.out.ext' hx2);have c0:=b0.cell 0;have c1:=b0.cell 1;simp only[qB,qC]at c0 c1;have X2:=qA (qJ HX1.out (qJ hx2 x3));have B0:=qA (b0.ext' x3);have B1:=qA b1;have B2:=qA b2;clear b0 x3 b1 b2 hx2 c0 c1
 have hall:∀W,Ext w3 W->W.cell? ⟨w.heap.size,0,none⟩=some (.string lo)/\W.cell? ⟨w.heap.size,1,none⟩=some (.string hi)/\W.cell? ⟨w2.heap.size,0,none⟩=some (.string lo)/\W.cell? ⟨w2.heap.size+1,0,none⟩=some (.string hi):=λW hW=>
  ⟨(B0.out.ext' hW).cell 0,(B0.out.ext' hW).cell 1,(B1.out.ext' hW).cell 0,(B2.out.ext' hW).cell 0⟩
 have HALL:=qA hall;clear hall;obtain⟨q0,q1,q2,q3⟩:=HALL.out w3 (qK _ _);go_wp2_with fail;rw[<- e3];clear e3;refine (HN1.out _).mono ?_;rintro e w4 ⟨rfl,hx4⟩;have Y4:=qA hx4;obtain⟨r0,r1,r2,r3⟩:=HALL.out w4 hx4;clear hx4 q0 q1 q2 q3;cases A
 case' false=>
  go_wp2_with fail;refine (HK1.out _).mono ?_;rintro e w' ⟨rfl,rfl⟩;cases B
  case false=>
   go_wp2_with fail;go_ret;exact⟨ret_bool (by rw[HR.out];rfl),qJ X2.out Y4.out⟩
 all_goals
  go_wp2_with fail;refine (HN2.out _).mono ?_;rintro e w5 ⟨rfl,hx5⟩;have Y5:=qA (qJ Y4.out hx5);obtain⟨s0,s1,s2,s3⟩:=HALL.out w5 (qJ Y4.out hx5);clear hx5 r0 r1 r2 r3;cases C
  case' false=>
   go_wp2_with fail;refine (HK2.out _).mono ?_;rintro e w' ⟨rfl,rfl⟩;cases D
   case false=>
    go_wp2_with fail;go_ret;exact⟨ret_bool (by rw[HR.out];first | rfl | simp),qJ X2.out Y5.out⟩
  all_goals
   go_wp2_with fail;refine (HA.out _).mono ?_;rintro e w6 ⟨rfl,hx6⟩;have Y6:=qA (qJ Y5.out hx6);clear hx6;go_wp2_with fail;go_ret;exact⟨ret_bool (by rw[HR.out];first | rfl | simp),qJ X2.out Y6.out⟩
theorem has_calls (lo hi k:ByteArray)(w:World)(hl:lo.size<=140737488351232)(hh:hi.size<=140737488351232)(hk:k.size<=140737488351232):Calls Tryz.prog 109 #[.agg #[.string lo,.string hi],.string k] w λe w'=>e= .returned (.bool (hasB lo.data.toList hi.data.toList k.data.toList))/\Ext w w':=by
 obtain⟨A,hA⟩:∃A,A=spanB lo.data.toList hi.data.toList:=⟨_,rfl⟩;obtain⟨B,hB⟩:∃B,B=keyL k.data.toList:=⟨_,rfl⟩;obtain⟨c,hc⟩:∃c,c=cmpT lo.data.toList k.data.toList:=⟨_,rfl⟩;obtain⟨D,hD⟩:∃D,D=aboveB hi.data.toList k.data.toList:=⟨_,rfl⟩;have HR:Hid (hasB lo.data.toList hi.data.toList k.data.toList=(A&&B&&decide (c<=0)&&D)):=qA (by rw[hA,hB,hc,hD,cmpT_le];rfl);have HN1:Hid (∀W,Calls Tryz.prog 11 #[.agg #[.string lo,.string hi]] W λe w'=>e= .returned (.bool A)/\Ext W w'):=qA (λW=>by rw[hA];exact spanRight_calls lo hi W hl hh);have HK1:Hid (∀W,Calls Tryz.prog 10 #[.string k] W λe w'=>e= .returned (.bool B)/\W=w'):=qA (λW=>by rw[hB];exact key_calls k W hk);have HC1:Hid (∀W,Calls Tryz.prog 102 #[.agg #[.string lo],.agg #[.string k]] W λe w'=>e= .returned (.int .i64 c)/\Ext W w'):=qA (λW=>by rw[hc];exact compareT_calls lo k W);have HA:Hid (∀W,Calls Tryz.prog 37 #[.agg #[.string hi],.agg #[.string k]] W λe w'=>e= .returned (.bool D)/\Ext W w'):=qA (λW=>by rw[hD];exact above_calls hi k W);have HEN:=qA (ends_calls lo hi);generalize hasB lo.data.toList hi.data.toList k.data.toList=res at HR ⊢;clear hA hB hc hD;have HB1:Hid (Blk (w.alloc (.cells #[.string lo,.string hi] 30)) w.heap.size [.string lo,.string hi] 30):=qA (Blk.new w _ _);have HX1:Hid (Ext w (w.alloc (.cells #[.string lo,.string hi] 30))):=qA ((qK _ w).alloc (qL _) _);go_enter Tryz.func109,Tryz.ntmps109;go_wp2_with fail;refine (HEN.out _).mono ?_;rintro e w2 ⟨rfl,hx2⟩
 have hw:∃w3,w3=(w2.alloc (.cells #[.string lo] 97)).alloc (.cells #[.string hi] 98)/\Ext w2 w3/\Blk w3 w2.heap.size [.string lo] 97/\Blk w3 (w2.heap.size+1) [.string hi] 98:=by
  refine⟨_,rfl,((qK _ w2).alloc (qL _) _).alloc (by simp) _,(Blk.new w2 _ _).alloc _,?_⟩
  have:=Blk.new (w2.alloc (.cells #[.string lo] 97)) [.string hi] 98
  rwa [World.size_alloc]at this
 obtain⟨w3,e3,x3,b1,b2⟩:=hw;have b0:=(HB1.out.ext' hx2);have c0:=b0.cell 0;have c1:=b0.cell 1;simp only[qB,qC]at c0 c1;have hN2:w.heap.size<w2.heap.size:=b0.lt;have hN3:w.heap.size≠w2.heap.size:=by omega
 have hN4:w.heap.size≠w2.heap.size+1:=by omega
 have X2:=qA (qJ HX1.out (qJ hx2 x3));have B0:=qA (b0.ext' x3);have B1:=qA b1;have B2:=qA b2;clear b0 x3 b1 b2 hx2
 have hall:∀W,Ext w3 W->W.cell? ⟨w.heap.size,0,none⟩=some (.string lo)/\W.cell? ⟨w.heap.size,1,none⟩=some (.string hi)/\W.cell? ⟨w2.heap.size,0,none⟩=some (.string lo)/\W.cell? ⟨w2.heap.size+1,0,none⟩=some (.string hi):=λW hW=>
  ⟨(B0.out.ext' hW).cell 0,(B0.out.ext' hW).cell 1,(B1.out.ext' hW).cell 0,(B2.out.ext' hW).cell 0⟩
 have HALL:=qA hall;clear hall;go_wp2_with fail;rw[<- e3];clear e3 c0 c1;refine (HN1.out _).mono ?_;rintro e w4 ⟨rfl,hx4⟩;have Y4:=qA hx4;obtain⟨r0,r1,r2,r3⟩:=HALL.out w4 hx4;clear hx4;cases A
 · go_wp2_with fail
   go_ret;exact⟨ret_bool (by rw[HR.out];first | rfl | simp),qJ X2.out Y4.out⟩
 · go_wp2_with fail
   refine (HK1.out _).mono ?_;rintro e w' ⟨rfl,rfl⟩;cases B
   · go_wp2_with fail
     go_ret;exact⟨ret_bool (by rw[HR.out];first | rfl | simp),qJ X2.out Y4.out⟩
   · go_wp2_with fail
     refine (HC1.out _).mono ?_;rintro e w5 ⟨rfl,hx5⟩;have Y5:=qA (qJ Y4.out hx5);obtain⟨s0,s1,s2,s3⟩:=HALL.out w5 (qJ Y4.out hx5);clear hx5 r0 r1 r2 r3;cases hcz:decide (c<=0)
     · rw[hcz]at HR
       go_wp2_with fail;go_ret;exact⟨ret_bool (by rw[HR.out];first | rfl | simp),qJ X2.out Y5.out⟩
     · rw[hcz]at HR
       go_wp2_with fail;refine (HA.out _).mono ?_;rintro e w6 ⟨rfl,hx6⟩;have Y6:=qA (qJ Y5.out hx6);clear hx6;go_wp2_with fail;go_ret;exact⟨ret_bool (by rw[HR.out];first | rfl | simp),qJ X2.out Y6.out⟩
end Go.Proofs.YtmpmggejhnmakaaGreatDoor
