/- rows.Write, past.Write, the tables' write. -/
import Derived.Test.YtmpmggejhnmakaaGreatDoorZ33
import Derived.Test.YtmpmggejhnmakaaGreatDoorZ24
import Derived.Test.YtmpmggejhnmakaaGreatDoorZ04
import Derived.Test.YtmpmggejhnmakaaGreatDoorZ01
set_option maxRecDepth 100000
set_option maxHeartbeats 6400000
namespace Go.Proofs.YtmpmggejhnmakaaGreatDoor
open Go.RowKit
def rowW (r:RowD):List UInt8:=rowB r.key.data.toList++rowB r.value.data.toList
def rowsW (l:List RowD):List UInt8:=numZ (l.length:Int)++l.flatMap rowW
theorem rowW_len (r:RowD)(h:r.key.size<=1000/\r.value.size<=1000):(rowW r).length<=200018:=by
 unfold rowW;have h1:=rowB_len r.key.data.toList (by rw[size_data];omega);have h2:=rowB_len r.value.data.toList (by rw[size_data];omega);rw[qG];omega
theorem wrap_okn (n:Nat)(h:n<=1000000):okN (n:Int)=true:=by simp[okN];omega
theorem rowsWrite_calls (wb:Nat)(sp:Bool)(v:Value)(bs:List UInt8)(l:List RowD)(ao:Option Addr)(cap:Nat)(w:World)(T:Wr w wb sp v bs)(hl:l.length<=10000)(hb0:bs.length<=1000000)(hr:NRows 2 encRw (λb=>b=wb\/v.ownBlock=some b) w ao l)(hs:∀r∈l,r.key.size<=1000/\r.value.size<=1000):
 Calls Tryz.prog 121 #[.pointer (some ⟨wb,0,none⟩),.slice ao l.length cap] w λe w'=>e= .returned (.pointer (some ⟨wb,0,none⟩))/\WrPost wb v w sp (bs++rowsW l) w':=by
 have HT:=qA T;have HR:=qA hr;have HS:=qA hs;clear T hr hs;go_enter Tryz.func121,Tryz.ntmps121;go_wp2_with fail;refine (chain_numbers wb [(l.length:Int)] 1 rfl (by simp) ((WrPost.start HT.out).ext ((qK _ _).alloc (qL _) _)) (by omega) ⟨_,rfl,Blk.new w [.int .i64 (l.length:Int)] _⟩).mono ?_;rintro e w1 ⟨rfl,h1,-⟩;have R1:=qA h1;clear h1;go_wp2_with fail;go_loopw [14] (λvi wr=>∃k:Nat,vi= .int .i64 k/\k<=l.length/\WrPost wb v w sp (bs++numZ (l.length:Int)++(l.take k).flatMap rowW) wr) (λvi _=>l.length - (intOf vi).toNat)
 case atStart=>
  refine⟨0,rfl,by omega,?_⟩
  have:=R1.out
  have hok:badsZ [(l.length:Int)]=false:=by simp[badsZ,wrap_okn _ (show l.length<=1000000 by omega)]
  rw[hok]at this;simpa using this
 case round=>
  obtain⟨k,rfl,hk,hW⟩:=hrel;have R2:=qA hW;clear hW R1;by_cases hlt:k<l.length
  · obtain⟨x,hx⟩:∃x,l[k]? =some x:=⟨_,qE hlt⟩
    have hfx:=HS.out x (qH hx);obtain⟨b,off,rfl,hb,hno,hcell⟩:=HR.out (by intro e;rw[e]at hlt;simp at hlt);have hcx:=hcell k x hx;obtain⟨v1,hT1,hB1,hK1⟩:=id R2.out;have hmv:∀j,wr.cell? ⟨b,j,none⟩=w.cell? ⟨b,j,none⟩:=λj=>hB1.cell (p:=⟨b,j,none⟩) hb hno;have hty:l.take (k+1)=l.take k++[x]:=by rw[List.take_add_one,hx];rfl
    have hlk:=flat_len rowW 200018 (l.take k) (λd hd=>rowW_len d (HS.out d (List.mem_of_mem_take hd)));rw[List.length_take]at hlk;have hn9:=numZ_len (l.length:Int);obtain⟨kx,vx⟩:=x;have d0:=(hmv _).trans (hcx 0 _ rfl);have d1:=(hmv _).trans (hcx 1 _ rfl);simp only[Nat.add_zero]at d0;have ii0:(0:Int)<=(k:Int):=by omega
    have i1:(k:Int)<(l.length:Int):=by omega
    obtain⟨bk,hbke⟩:∃bk,bk=(bs++numZ (l.length:Int)++(l.take k).flatMap rowW):=⟨_,rfl⟩;have hbl:bk.length<=30000000000000:=by rw[hbke];simp only[qG];omega
    rw[<- hbke]at R2;have HBK:=qA hbke;have HTY:=qA hty;have hx2:Ext wr ((wr.alloc (.cells #[.string kx,.string vx] 52)).alloc (.cells #[.string kx,.string vx] 9)):=((qK _ wr).alloc (qL _) _).alloc (by simp) _
    have TX:=qA (chain_texts wb [kx,vx] 2 rfl (by simp) (λx hx=>by
     simp only[List.mem_cons,List.not_mem_nil,or_false]at hx;rcases hx with rfl | rfl
     · rw[size_data];have:=hfx.1;simp only at this;omega
     · rw[size_data];have:=hfx.2;simp only at this;omega) (R2.out.ext hx2) (by omega) ⟨wr.heap.size+1,rfl,by
       have:=Blk.new (wr.alloc (.cells #[.string kx,.string vx] 52)) [.string kx,.string vx] 9
       rwa [World.size_alloc]at this⟩)
    clear hx hfx hcell hcx hmv hT1 hB1 hK1 hbke hty hlk hn9 hx2;go_wp2_with fail;refine TX.out.mono ?_;rintro e w3 ⟨rfl,h3,-⟩;have R3:=qA h3;clear h3;go_wp2_with fail;go_roundw
    case rel=>
     refine⟨k+1,by go_num,by omega,?_⟩
     have:=R3.out
     rw[HTY.out,List.flatMap_append,<- List.append_assoc,<- HBK.out];simpa [rowW] using this
    case measure=>simp[intOf];omega
  · have hall:l.take k=l:=List.take_of_length_le (by omega)
    rw[hall]at R2;clear hall;go_wp2_with fail;go_ret;exact⟨rfl,by have:=R2.out;rwa [List.append_assoc]at this⟩
def pastW (ns:List Int):List UInt8:=ns.flatMap numZ
theorem pastWrite_calls (pb wb:Nat)(sp:Bool)(v:Value)(bs:List UInt8)(ns:List Int)(w:World)(P:PTab w pb ns)(T:Wr w wb sp v bs)(hb0:bs.length<=30000000000000):
 Calls Tryz.prog 119 #[.pointer (some ⟨pb,0,none⟩),.pointer (some ⟨wb,0,none⟩)] w λe w'=>e= .returned (.pointer (some ⟨wb,0,none⟩))/\WrPost wb v w sp (bs++pastW ns) w':=by
 have HT:=qA T;have HP:=qA P;have hx1:Ext w (w.alloc (.cells #[.pointer (some ⟨pb,0,none⟩)] 80)):=(qK _ w).alloc (qL _) _;have KN:=qA (pknown_calls pb w.heap.size 1 _ ((Blk.new w [.pointer (some ⟨pb,0,none⟩)] 80).cell 0) ((P.ext hx1).made));have X1:=qA hx1;clear T P hx1;go_enter Tryz.func119,Tryz.ntmps119;go_wp2_with fail;refine KN.out.mono ?_;rintro e w2 ⟨rfl,hx⟩;have X2:=qA (qJ X1.out hx);have T2:=HT.out.ext X2.out;have P2:=HP.out.ext X2.out
 have hbad:badsZ ns=false:=by
  unfold badsZ;rw[List.any_eq_false];intro n hn;obtain⟨h0,h1⟩:=HP.out.ok n hn
  have:okN n=true:=by simp[okN];omega
  rw[this];simp
 have hno:¬(pb=wb\/v.ownBlock=some pb):=λe=>by
  rcases e with e | e
  · subst e;exact absurd (blk_type P2.blk T2.blk) (by decide)
  · exact own_ne T2.row P2.blk (by decide) e
 have hl8:=HP.out.len
 have NB:=qA (numbers_any wb sp v bs ns (some ⟨pb,0,none⟩) 8 w2 T2 (λ_=>⟨pb,0,rfl,P2.blk.lt,hno,λi x hi j u hj=>by
  have hi8:i<8:=by have:=(qF.1 hi).1;omega
  match j,hj with
  | 0,hj=>
    simp only[encI,qB,Option.some.injEq]at hj;subst hj;rw[P2.blk.cell,Nat.zero_add,Nat.mul_one,Nat.add_zero,List.getElem?_append_left (by rw[List.length_map];omega),List.getElem?_map,hi];rfl
  | j+1,hj=>simp[encI]at hj⟩) (by omega) (by omega))
 have c0:=P2.blk.cell 0;have HB:=qA hbad;rw[hl8]at NB;clear hx T2 P2 hbad hno hl8;go_wp2_with fail;refine NB.out.mono ?_;rintro e w3 ⟨rfl,v3,k1,k2,k3⟩
 have W3:Hid (WrPost wb v w sp (bs++pastW ns) w3):=qA (by
  rw[HB.out,Bool.or_false]at k1
  exact⟨v3,k1,(Ext.but X2.out (λ_=>False)).trans k2 (λ_ _ e=>e.elim) (λ_ _ e=>e),λj hj=>(k3 j hj).imp id (λh=>qM X2.out.size h)⟩)
 clear k1 k2 k3;go_wp2_with fail;go_ret;exact⟨rfl,W3.out⟩
end Go.Proofs.YtmpmggejhnmakaaGreatDoor
/- The tables' write, to a writer that is new. -/
namespace Go.Proofs.YtmpmggejhnmakaaGreatDoor
open Go.RowKit
structure WrNew (w0 w:World)(wb:Nat)(sp:Bool)(v:Value)(bs:List UInt8):Prop where
 wr:Wr w wb sp v bs
 new:w0.heap.size<=wb
 own:∀j,v.ownBlock=some j->w0.heap.size<=j
 ext:Ext w0 w
theorem WrNew.to {w0 w w':World}{wb:Nat}{sp:Bool}{v:Value}{bs:List UInt8}(h:WrNew w0 w wb sp v bs)(hx:Ext w w'):WrNew w0 w' wb sp v bs:=⟨h.wr.ext hx,h.new,h.own,qJ h.ext hx⟩
theorem WrNew.step {w0 w w':World}{wb:Nat}{sp sp':Bool}{v:Value}{bs bs':List UInt8}(h:WrNew w0 w wb sp v bs)(hp:WrPost wb v w sp' bs' w'):∃v',WrNew w0 w' wb sp' v' bs'/\But (λj=>j=wb\/v.ownBlock=some j) w w'/\Kept1 w v v':=by
 obtain⟨v',h1,h2,h3⟩:=hp;refine⟨v',⟨h1,h.new,λj hj=>?_,?_⟩,h2,h3⟩
 · rcases h3 j hj with e | e
   · exact h.own j e
   · exact qM h.ext.size e
 · exact Ext.butNew h.ext h2 (λj e=>e.elim (λe=>by rw[e];exact h.new) (h.own j))
structure RowBy (w:World)(ro:Option Addr)(rc:Nat)(l:List RowD):Prop where
 own:w.ownsRow 0 52 2 (.slice ro l.length rc) l.length (l.flatMap encRw)
theorem RowBy.ext {w w':World}{ro:Option Addr}{rc:Nat}{l:List RowD}(h:RowBy w ro rc l)(hx:Ext w w'):RowBy w' ro rc l:=⟨own_ext h.own hx⟩
theorem RowBy.nrows {w:World}{ro:Option Addr}{rc:Nat}{l:List RowD}(h:RowBy w ro rc l){wb:Nat}{sp:Bool}{v:Value}{bs:List UInt8}(T:Wr w wb sp v bs):NRows 2 encRw (λb=>b=wb\/v.ownBlock=some b) w ro l:=
 nrows_of_own (λ_=>rfl) h.own (λk hk e=>e.elim (λe=>own_bk h.own T.blk (by decide) (e▸hk)) (own_own h.own T.row (by decide) k hk))
structure HoldBy (w:World)(wb:Nat)(v:Value)(ro:Option Addr)(rc:Nat)(l:List HoldV)(ds:List HoldD):Prop where
 len:l.length=ds.length
 own:w.ownsRow 0 48 7 (.slice ro l.length rc) l.length (l.flatMap encHV)
 are:HoldsAre w (λb=>b=wb\/v.ownBlock=some b) l ds
theorem HoldBy.ext {w w':World}{wb:Nat}{v:Value}{ro:Option Addr}{rc:Nat}{l:List HoldV}{ds:List HoldD}(h:HoldBy w wb v ro rc l ds)(hx:Ext w w'):HoldBy w' wb v ro rc l ds:=⟨h.len,own_ext h.own hx,h.are.ext hx⟩
theorem HoldBy.step {w w':World}{wb:Nat}{sp:Bool}{v v':Value}{bs:List UInt8}{ro:Option Addr}{rc:Nat}{l:List HoldV}{ds:List HoldD}(h:HoldBy w wb v ro rc l ds)(T:Wr w wb sp v bs)(hx:But (λj=>j=wb\/v.ownBlock=some j) w w')(hk:Kept1 w v v'):HoldBy w' wb v' ro rc l ds:=by
 refine⟨h.len,own_but h.own hx (λk hk e=>e.elim (λe=>own_bk h.own T.blk (by decide) (e▸hk)) (own_own h.own T.row (by decide) k hk)),?_⟩;have h1:HoldsAre w (λb=>(b=wb\/v.ownBlock=some b)\/w.heap.size<=b) l ds:=h.are.mono (λb hb e=>e.elim id (λe=>by omega));refine (h1.but hx (λb _ e=> .inl e)).mono (λb _ e=>?_);rcases e with e | e
 · exact .inl (.inl e)
 · rcases hk b e with e | e
   · exact .inl (.inr e)
   · exact .inr e
theorem HoldBy.nrows {w:World}{wb:Nat}{sp:Bool}{v:Value}{bs:List UInt8}{ro:Option Addr}{rc:Nat}{l:List HoldV}{ds:List HoldD}(h:HoldBy w wb v ro rc l ds)(T:Wr w wb sp v bs):NRows 7 encHV (λb=>b=wb\/v.ownBlock=some b) w ro l:=
 nrows_of_own (λ_=>rfl) h.own (λk hk e=>e.elim (λe=>own_bk h.own T.blk (by decide) (e▸hk)) (own_own h.own T.row (by decide) k hk))
theorem holdBy_of {w w':World}{wb:Nat}{sp:Bool}{v:Value}{bs:List UInt8}{ds:List HoldD}{r:Value}(T:Wr w wb sp v bs)(h:RowPost ds w (.returned r) w'):∃ro rc l,r= .slice ro l.length rc/\HoldBy w' wb v ro rc l ds/\Ext w w':=by
 obtain⟨r',l,hr,hn,ho,_,ha,_,hx⟩:=h;injection hr with hr;subst hr;obtain⟨ro,rc,rfl⟩:=own_slice ho;refine⟨ro,rc,l,rfl,⟨hn,ho,ha.mono (λb _ e=> .inr ?_)⟩,hx⟩;rcases e with rfl | e
 · exact T.blk.lt
 · obtain⟨cs,hb⟩:=own_blk T.row e
   exact hb.lt
theorem rw_small {l:List RowD}(h:∀r∈l,rwB r=true):∀r∈l,r.key.size<=1000/\r.value.size<=1000:=λr hr=>by
 have h1:=h r hr;unfold rwB keyL at h1;simp only[Bool.and_eq_true,decide_eq_true_eq]at h1;have h2:=h1.1.1.2;unfold rkey at h2;rw[size_data]at h2;omega
theorem inR_mem {lo hi:List UInt8}{l:List RowD}{r:RowD}(h:r∈inR lo hi l):r∈l:=List.mem_of_mem_take (List.mem_of_mem_drop h)
theorem inD_mem {lo hi:ByteArray}{l:List HoldD}{r:HoldD}(h:r∈inD lo hi l):r∈l:=(List.mem_filter.1 h).1
def tabW (lo hi:ByteArray)(d:TrD):List UInt8:=rowsW (inR lo.data.toList hi.data.toList d.rows)++writeW (inD lo hi d.holds)++pastW d.ns
theorem rowW_short {r:RowD}(h:rwB r=true):(rowW r).length<=58:=by
 unfold rwB keyL at h;simp only[Bool.and_eq_true,decide_eq_true_eq]at h;have h2:=h.1.1.2;have h3:=h.2;unfold rkey at h2;have h4:r.value.data.toList.length<=20:=by rw[size_data];omega
 have n1:=numB_nine (n:=r.key.data.toList.length) (by omega);have n2:=numB_nine (n:=r.value.data.toList.length) (by omega);unfold rowW rowB;simp only[qG];omega
theorem rowsW_len {l:List RowD}(h:∀r∈l,rwB r=true)(hl:l.length<=400):(rowsW l).length<=30000:=by
 have h1:=flat_len rowW 58 l (λr hr=>rowW_short (h r hr));have h2:=numZ_len (l.length:Int);rw[rowsW,qG];omega
structure WSt (w0 w1:World)(wb:Nat)(v:Value)(bs:List UInt8)(W:World)(v':Value):Prop where
 new:WrNew w0 W wb false v' bs
 but:But (λj=>j=wb\/v.ownBlock=some j) w1 W
 kept:Kept1 w1 v v'
theorem WSt.ext {w0 w1:World}{wb:Nat}{v:Value}{bs:List UInt8}{W W':World}{v':Value}(h:WSt w0 w1 wb v bs W v')(hx:Ext W W'):WSt w0 w1 wb v bs W' v':=
 ⟨h.new.to hx,h.but.trans (Ext.but hx (λ_=>False)) (λ_ _ e=>e) (λ_ _ e=>e.elim),h.kept⟩
theorem WSt.step {w0 w1:World}{wb:Nat}{v:Value}{bs bs':List UInt8}{W W':World}{v' v2:Value}(h:WSt w0 w1 wb v bs W v')(hn:WrNew w0 W' wb false v2 bs')(hb:But (λj=>j=wb\/v'.ownBlock=some j) W W')(hk:Kept1 W v' v2):WSt w0 w1 wb v bs' W' v2:=
 ⟨hn,h.but.trans hb (λ_ _ e=>e) (λ_ hj e=>own_back h.kept hj e),kept_trans h.kept h.but.size hk⟩
def Wrote (w0:World)(wb:Nat)(v:Value)(bs:List UInt8)(W:World)(e:Ending)(w':World):Prop:=
 e= .returned (.pointer (some ⟨wb,0,none⟩))/\∃v',WrNew w0 w' wb false v' bs/\But (λj=>j=wb\/v.ownBlock=some j) W w'/\Kept1 W v v'
theorem tabWrite_calls (k:TrK)(d:TrD)(lo hi:ByteArray)(wb:Nat)(v:Value)(bs:List UInt8)(w0 w:World)(T:TrIs w0 k d)(N:WrNew w0 w wb false v bs)(hb0:bs.length<=900000)(hl:lo.size<=140737488351232)(hh:hi.size<=140737488351232):
 Calls Tryz.prog 51 #[.agg #[.pointer (some ⟨k.rb,0,none⟩),.pointer (some ⟨k.hb,0,none⟩),.pointer (some ⟨k.pb,0,none⟩)],.pointer (some ⟨wb,0,none⟩),.agg #[.string lo,.string hi]] w λe w'=>e= .returned (.pointer (some ⟨wb,0,none⟩))/\∃v',WrNew w0 w' wb false v' (bs++tabW lo hi d):=by
 obtain⟨RL,hRL⟩:∃RL,RL=inR lo.data.toList hi.data.toList d.rows:=⟨_,rfl⟩;obtain⟨DL,hDL⟩:∃DL,DL=inD lo hi d.holds:=⟨_,rfl⟩;have hrok:∀r∈RL,rwB r=true:=λr hr=>T.rt.ok r (inR_mem (by rw[hRL]at hr;exact hr));have hdok:∀r∈DL,holdB r=true:=λr hr=>(T.ht.ok r (inD_mem (by rw[hDL]at hr;exact hr))).2
 have hrl:RL.length<=400:=by
  rw[hRL,inR]
  have:=T.rt.few
  rw[List.length_drop,List.length_take];omega
 have hdl:DL.length<=60:=by rw[hDL];exact qM (List.length_filter_le _ _) T.ht.few
 have hlen1:=rowsW_len hrok hrl;have hlen2:=writeW_len (λd hd=>right_wfit (hdok d hd)) (show DL.length<=10000 by omega);have hTW:tabW lo hi d=rowsW RL++writeW DL++pastW d.ns:=by rw[hRL,hDL];rfl
 obtain⟨w1,hw1⟩:∃w1,w1=(w.alloc (.cells #[.pointer (some ⟨k.rb,0,none⟩),.pointer (some ⟨k.hb,0,none⟩),.pointer (some ⟨k.pb,0,none⟩)] 82)).alloc (.cells #[.string lo,.string hi] 30):=⟨_,rfl⟩;have hx1:Ext w w1:=by rw[hw1];exact ((qK _ w).alloc (qL _) _).alloc (by simp) _
 have hb1:Blk w1 w.heap.size [.pointer (some ⟨k.rb,0,none⟩),.pointer (some ⟨k.hb,0,none⟩),.pointer (some ⟨k.pb,0,none⟩)] 82:=by rw[hw1];exact (Blk.new w _ _).alloc _
 have hb2:Blk w1 (w.heap.size+1) [.string lo,.string hi] 30:=by
  rw[hw1]
  have:=Blk.new (w.alloc (.cells #[.pointer (some ⟨k.rb,0,none⟩),.pointer (some ⟨k.hb,0,none⟩),.pointer (some ⟨k.pb,0,none⟩)] 82)) [.string lo,.string hi] 30
  rwa [World.size_alloc]at this
 have HRI:Hid (∀W v' bs',WSt w0 w1 wb v bs' W v'->Calls Tryz.prog 39 #[.pointer (some ⟨k.rb,0,none⟩),.agg #[.string lo,.string hi]] W λe w'=>∃ro rc,e= .returned (.slice ro RL.length rc)/\RowBy w' ro rc RL/\Ext W w'):=qA (λW _ _ hW=>(inT_calls k.rb k.rv d.rows lo hi W (T.rt.ext hW.new.ext) hl hh).mono (by
  rintro e w' ⟨r,rfl,ho,_,hx⟩;rw[<- hRL]at ho;obtain⟨ro,rc,rfl⟩:=own_slice ho
  exact⟨ro,rc,rfl,⟨ho⟩,hx⟩))
 have HHI:Hid (∀W v' bs',WSt w0 w1 wb v bs' W v'->Calls Tryz.prog 40 #[.pointer (some ⟨k.hb,0,none⟩),.agg #[.string lo,.string hi]] W λe w'=>∃ro rc l,e= .returned (.slice ro l.length rc)/\HoldBy w' wb v' ro rc l DL/\Ext W w'):=qA (λW v' bs' hW=>(in_calls k.hb k.hv d.holds lo hi W (T.ht.ext hW.new.ext) hl hh).mono (by
  rintro e w' ⟨r,l',rfl,hrest⟩;obtain⟨ro,rc,l,h1,h2,h3⟩:=holdBy_of hW.new.wr (show RowPost DL W (.returned r) w' from by rw[hDL];exact⟨r,l',rfl,hrest⟩)
  exact⟨ro,rc,l,by rw[h1],h2,h3⟩))
 have HRW:Hid (∀W v' ro rc,WSt w0 w1 wb v bs W v'->RowBy W ro rc RL->Calls Tryz.prog 121 #[.pointer (some ⟨wb,0,none⟩),.slice ro RL.length rc] W (Wrote w0 wb v' (bs++rowsW RL) W)):=qA (λW v' ro rc hW hR=>(rowsWrite_calls wb false v' bs RL ro rc W hW.new.wr (by omega) (by omega) (hR.nrows hW.new.wr) (rw_small hrok)).mono (by
  rintro e w' ⟨rfl,hp⟩
  exact⟨rfl,hW.new.step hp⟩))
 have HHW:Hid (∀W v' ro rc l,WSt w0 w1 wb v (bs++rowsW RL) W v'->HoldBy W wb v' ro rc l DL->Calls Tryz.prog 120 #[.pointer (some ⟨wb,0,none⟩),.slice ro l.length rc] W (Wrote w0 wb v' (bs++rowsW RL++writeW DL) W)):=qA (λW v' ro rc l hW hR=>(write_calls wb false v' (bs++rowsW RL) l DL ro rc W hW.new.wr (by rw[hR.len];omega) (by rw[qG];omega) (hR.nrows hW.new.wr) hR.are (λd hd=>right_wfit (hdok d hd))).mono (by
  rintro e w' ⟨rfl,hp⟩;rw[rights_bad hdok]at hp
  exact⟨rfl,hW.new.step hp⟩))
 have HPW:Hid (∀W v',WSt w0 w1 wb v (bs++rowsW RL++writeW DL) W v'->Calls Tryz.prog 119 #[.pointer (some ⟨k.pb,0,none⟩),.pointer (some ⟨wb,0,none⟩)] W (Wrote w0 wb v' (bs++rowsW RL++writeW DL++pastW d.ns) W)):=qA (λW v' hW=>(pastWrite_calls k.pb wb false v' _ d.ns W (T.pt.ext hW.new.ext) hW.new.wr (by simp only[qG];omega)).mono (by
  rintro e w' ⟨rfl,hp⟩
  exact⟨rfl,hW.new.step hp⟩))
 have HTW:Hid (bs++tabW lo hi d=bs++rowsW RL++writeW DL++pastW d.ns):=qA (by rw[hTW];simp only[List.append_assoc]);have NS:Hid (WSt w0 w1 wb v bs w1.drew v):=qA ⟨N.to hx1.drew,(But.refl _ w1).drew,λ_ h=> .inl h⟩;have hnb:∀{g:Nat} {cs:List Value} {t:TypeId},Blk w1 g cs t->t≠198->t≠5->¬(g=wb\/v.ownBlock=some g):=λh h1 h2 e=>e.elim (λe=>by subst e;exact absurd (blk_type h (N.wr.ext hx1).blk) h1) (own_ne (N.wr.ext hx1).row h h2);have b0:=ButBy.cell (S:=λj=>j=wb\/v.ownBlock=some j) (hb1.cell 0) (hnb hb1 (by decide) (by decide));have b1:=ButBy.cell (S:=λj=>j=wb\/v.ownBlock=some j) (hb1.cell 1) (hnb hb1 (by decide) (by decide));have b2:=ButBy.cell (S:=λj=>j=wb\/v.ownBlock=some j) (hb1.cell 2) (hnb hb1 (by decide) (by decide));have s0:=ButBy.cell (S:=λj=>j=wb\/v.ownBlock=some j) (hb2.cell 0) (hnb hb2 (by decide) (by decide));have s1:=ButBy.cell (S:=λj=>j=wb\/v.ownBlock=some j) (hb2.cell 1) (hnb hb2 (by decide) (by decide));have W1:=qA hw1;clear T N hb0 hRL hDL hrok hdok hrl hdl hlen1 hlen2 hTW hw1 hx1 hb1 hb2 hnb;go_enter Tryz.func51,Tryz.ntmps51;go_upto_region 1 with fail;rw[<- W1.out];clear W1;refine wp_region_firstC (λW=>∃p:ButBy (λj=>j=wb\/v.ownBlock=some j) w1,W=p.W) [0,1,2,3,4,5,8,9,10] 6 (by kernel_rfl) (by kernel_rfl) (λ_ _ _ _ h=>h) ⟨⟨w1.drew,(But.refl _ w1).drew⟩,rfl⟩ ?_;simp only[opsAt,qD,qC,qB]
 repeat (go_big_quiet_step (fail))
 refine wpQuiet_nil ?_;clear b0 b1 b2 s0 s1;refine wpAnyH_ready (rs:=[6]) (by kernel_rfl) (by simp) ?_;refine AllReadyH.cons rfl (λK hK=>?_) AllReadyH.nil;go_simp;refine (HRI.out _ _ _ NS.out).mono ?_;rintro e wn ⟨ro,rc,rfl,hr,hx⟩;have RR:=qA hr;replace NS:=qA (NS.out.ext hx);clear hr hx;refine hK.out _ _ ⟨⟨_,NS.out.but⟩,rfl⟩ (λ_=>?_);clear hK K;refine wpAnyH_ready (rs:=[7]) (by kernel_rfl) (by simp) ?_;refine AllReadyH.cons rfl (λK hK=>?_) AllReadyH.nil;go_simp;refine (HRW.out _ _ _ _ NS.out RR.out).mono ?_;rintro e wn ⟨rfl,vn,hn,hb,hk⟩;replace NS:=qA (NS.out.step hn hb hk);clear hn hb hk;refine hK.out _ _ ⟨⟨_,NS.out.but⟩,rfl⟩ (λ_=>?_);clear hK K;refine wpAnyH_ready (rs:=[11]) (by kernel_rfl) (by simp) ?_;refine AllReadyH.cons rfl (λK hK=>?_) AllReadyH.nil;go_simp;refine (HHI.out _ _ _ NS.out).mono ?_;rintro e wn ⟨ho,hc,hv,rfl,hr,hx⟩;have HH:=qA hr;replace NS:=qA (NS.out.ext hx);clear hr hx;refine hK.out _ _ ⟨⟨_,NS.out.but⟩,rfl⟩ (λ_=>?_);clear hK K;refine wpAnyH_ready (rs:=[12]) (by kernel_rfl) (by simp) ?_;refine AllReadyH.cons rfl (λK hK=>?_) AllReadyH.nil;go_simp;refine (HHW.out _ _ _ _ _ NS.out HH.out).mono ?_;rintro e wn ⟨rfl,vn,hn,hb,hk⟩;replace NS:=qA (NS.out.step hn hb hk);clear hn hb hk;refine hK.out _ _ ⟨⟨_,NS.out.but⟩,rfl⟩ (λ_=>?_);clear hK K;refine wpAnyH_ready (rs:=[13]) (by kernel_rfl) (by simp) ?_;refine AllReadyH.cons rfl (λK hK=>?_) AllReadyH.nil;go_simp;refine (HPW.out _ _ NS.out).mono ?_;rintro e wn ⟨rfl,vn,hn,hb,hk⟩;replace NS:=qA (NS.out.step hn hb hk);clear hn hb hk
 refine hK.out _ _ ⟨⟨_,NS.out.but⟩,rfl⟩ (λ_=>?_);clear hK K;refine wp_takesC (f:=0) [14] (by kernel_rfl) (λ_ _ _ _ h=>h) ⟨⟨_,NS.out.but⟩,rfl⟩ ?_;simp only[opsAt,qD,qC,qB]
 repeat (go_big_quiet_step (fail))
 refine wpQuiet_nil ?_;refine wpAnyH_done (by kernel_rfl) ?_ _;go_wp2_with fail;go_ret;exact⟨rfl,_,by rw[HTW.out];exact NS.out.new⟩
end Go.Proofs.YtmpmggejhnmakaaGreatDoor
/- tract.Freeze: the pieces of a stretch; plain. -/
namespace Go.Proofs.YtmpmggejhnmakaaGreatDoor
open Go.RowKit
theorem two_sorted {a b:List UInt8}:∀{K:List (List UInt8)},K.Pairwise (λx y=>x<y)->(∀x,x∈K↔x=a\/x=b)->a<b->K=[a,b]
 | [],_,hm,_=>by have:=(hm a).2 (.inl rfl);simp at this
 | [x],_,hm,hab=>by
   have h1:=(hm a).2 (.inl rfl);have h2:=(hm b).2 (.inr rfl);simp only[List.mem_singleton]at h1 h2;rw[h1,h2]at hab;exact absurd hab (lt_irr _)
 | x::y::K,hs,hm,hab=>by
   have hp:=List.pairwise_cons.1 hs;have hxy:=hp.1 y (by simp)
   have hx:x=a:=by
    rcases (hm x).1 (by simp) with h | h
    · exact h
    · rcases (hm y).1 (by simp) with h2 | h2
      · rw[h,h2]at hxy;exact absurd (lt_tr hxy hab) (lt_irr _)
      · rw[h,h2]at hxy;exact absurd hxy (lt_irr _)
   have hy:y=b:=by
    rcases (hm y).1 (by simp) with h | h
    · rw[hx,h]at hxy;exact absurd hxy (lt_irr _)
    · exact h
   have hK:K=[]:=by
    cases K with
    | nil=>rfl
    | cons z K=>
      have h1:=hp.1 z (by simp);have h2:=(List.pairwise_cons.1 hp.2).1 z (by simp);rcases (hm z).1 (by simp) with h | h
      · rw[hx,h]at h1;exact absurd h1 (lt_irr _)
      · rw[hy,h]at h2;exact absurd h2 (lt_irr _)
   rw[hx,hy,hK]
theorem one_sorted {a:List UInt8}:∀{K:List (List UInt8)},K.Pairwise (λx y=>x<y)->(∀x,x∈K↔x=a)->K=[a]
 | [],_,hm=>by have:=(hm a).2 rfl;simp at this
 | [x],_,hm=>by rw[(hm x).1 (by simp)]
 | x::y::K,hs,hm=>by
   have hxy:=(List.pairwise_cons.1 hs).1 y (by simp);rw[(hm x).1 (by simp),(hm y).1 (by simp)]at hxy;exact absurd hxy (lt_irr _)
theorem cutKs_pw (l:List ByteArray):(cutKs l).Pairwise (λa b=>a<b):=(compact_spec _ (sortT_pw (bytesL l))).1
theorem cutKs_iff (l:List ByteArray)(k:List UInt8):k∈cutKs l↔ ∃s∈l,s.data.toList=k:=by
 unfold cutKs;have hs:(sortL (bytesL l)).Pairwise (λa b=>a<=b):=sortT_pw (bytesL l);rw[(compact_spec _ hs).2];unfold sortL bytesL;rw[List.mem_mergeSort,List.mem_map]
theorem bytes_ext {a b:ByteArray}(h:a.data.toList=b.data.toList):a=b:=ByteArray.ext (Array.toList_inj.1 h)
theorem toArray_back (a:ByteArray):(⟨a.data.toList.toArray⟩:ByteArray)=a:=by cases a;simp
theorem nil_lt_of {a:List UInt8}(h:a≠[]):[]<a:=by
 cases a with
 | nil=>exact absurd rfl h
 | cons x a=>exact List.nil_lt_cons _ _
theorem cut_has {xlo xhi lo hi:ByteArray}(h:withinB lo.data.toList hi.data.toList xlo.data.toList xhi.data.toList=true):(lo,hi)∈cutD xlo xhi [lo,hi]:=by
 unfold withinB at h;simp only[Bool.and_eq_true,decide_eq_true_eq]at h;obtain⟨⟨⟨h1,h2⟩,h3⟩,h4⟩:=h
 have h3':¬lo.data.toList<xlo.data.toList:=by
  have:=cmpT_le xlo.data.toList lo.data.toList
  rw[decide_eq_true h3]at this;exact of_decide_eq_true this.symm
 unfold spanB at h1 h2;simp only[Bool.and_eq_true,Bool.or_eq_true]at h1 h2;obtain⟨⟨l1,l2⟩,l3⟩:=h1;obtain⟨⟨x1,x2⟩,x3⟩:=h2
 have stepLo:∀(P:List SpZ),(cutStep xhi (P,xlo) lo.data.toList).2=lo:=by
  intro P;unfold cutStep
  split
  · exact toArray_back lo
  · rename_i hn
    by_cases he:lo.data.toList=xlo.data.toList
    · exact (bytes_ext he).symm
    · exfalso
      apply hn
      have hlo:xlo.data.toList<lo.data.toList:=by
       rcases lt_tri xlo.data.toList lo.data.toList with e | e | e
       · exact e
       · exact absurd e.symm he
       · exact absurd e h3'
      have hne:lo.data.toList≠[]:=λe=>by rw[e]at hlo;simp at hlo
      have hk:keyL lo.data.toList=true:=by
       rcases l1 with e | e
       · exact absurd (List.isEmpty_iff.1 e) hne
       · exact e
      have hab:aboveB xhi.data.toList lo.data.toList=true:=by
       unfold overB at h4;unfold aboveB at l3 ⊢;simp only[Bool.or_eq_true,Bool.and_eq_true,decide_eq_true_eq,Bool.not_eq_true']at h4 l3 ⊢;rcases h4 with e | ⟨e1,e2⟩
       · exact .inl e
       · right
         rcases l3 with e | e
         · rw[e]at e1;cases e1
         · have:¬xhi.data.toList<hi.data.toList:=λe=>by have:=(cmpT_neg _ _).2 e;omega
           rcases lt_tri hi.data.toList xhi.data.toList with q | q | q
           · exact lt_tr e q
           · rw[<- q];exact e
           · exact absurd q this
      unfold hasB spanB;simp only[Bool.and_eq_true,Bool.or_eq_true,decide_eq_true_eq,Bool.not_eq_true',beq_eq_false_iff_ne];exact⟨⟨⟨⟨⟨⟨x1,x2⟩,x3⟩,hk⟩,h3'⟩,hab⟩,he⟩
 unfold cutD cutFold;by_cases hhe:hi.data.toList=[]
 · -- the end is open
   have hxe:xhi.data.toList=[]:=by
    unfold overB at h4;simp only[Bool.or_eq_true,Bool.and_eq_true,Bool.not_eq_true',hhe,List.isEmpty_nil]at h4;rcases h4 with e | ⟨e,_⟩
    · exact List.isEmpty_iff.1 e
    · cases e
   have hxh:xhi=hi:=bytes_ext (hxe.trans hhe.symm)
   have hskip:∀st,cutStep xhi st []=st:=λst=>by
    unfold cutStep;rw[if_neg (by simp[hasB,keyL])]
   by_cases hle:lo.data.toList=[]
   · have hK:cutKs [lo,hi]=[[]]:=one_sorted (cutKs_pw _) (λx=>by
      rw[cutKs_iff];simp only[List.mem_cons,List.not_mem_nil,or_false,exists_eq_or_imp,exists_eq_left,hle,hhe,or_self]
      exact eq_comm)
     have hx:xlo=lo:=by
      apply bytes_ext;rcases lt_tri xlo.data.toList lo.data.toList with e | e | e
      · rw[hle]at e;simp at e
      · exact e
      · exact absurd e h3'
     rw[hK,List.foldl_cons,List.foldl_nil,hskip,hxh,hx];simp
   · have hK:cutKs [lo,hi]=[[],lo.data.toList]:=two_sorted (cutKs_pw _) (λx=>by
      rw[cutKs_iff];simp only[List.mem_cons,List.not_mem_nil,or_false,exists_eq_or_imp,exists_eq_left,hhe];constructor
      · rintro (e | e)
        · exact .inr e.symm
        · exact .inl e.symm
      · rintro (e | e)
        · exact .inr e.symm
        · exact .inl e.symm) (nil_lt_of hle)
     rw[hK,List.foldl_cons,hskip,List.foldl_cons,List.foldl_nil,stepLo,hxh];simp
 · have hlt:lo.data.toList<hi.data.toList:=by
    unfold aboveB at l3;simp only[Bool.or_eq_true,decide_eq_true_eq]at l3;rcases l3 with e | e
    · exact absurd (List.isEmpty_iff.1 e) hhe
    · exact e
   have hkh:keyL hi.data.toList=true:=by
    rcases l2 with e | e
    · exact absurd (List.isEmpty_iff.1 e) hhe
    · exact e
   have hK:cutKs [lo,hi]=[lo.data.toList,hi.data.toList]:=two_sorted (cutKs_pw _) (λx=>by
    rw[cutKs_iff];simp only[List.mem_cons,List.not_mem_nil,or_false,exists_eq_or_imp,exists_eq_left];constructor
    · rintro (e | e)
      · exact .inl e.symm
      · exact .inr e.symm
    · rintro (e | e)
      · exact .inl e.symm
      · exact .inr e.symm) hlt
   rw[hK,List.foldl_cons,List.foldl_cons,List.foldl_nil];have h2:=stepLo [];generalize cutStep xhi ([],xlo) lo.data.toList=st at h2 ⊢;obtain⟨P,q⟩:=st;simp only at h2;subst h2
   have hab:aboveB xhi.data.toList q.data.toList=true:=by
    unfold overB at h4;unfold aboveB;simp only[Bool.or_eq_true,Bool.and_eq_true,decide_eq_true_eq,Bool.not_eq_true']at h4 ⊢;rcases h4 with e | ⟨e1,e2⟩
    · exact .inl e
    · right
      have:¬xhi.data.toList<hi.data.toList:=λe=>by have:=(cmpT_neg _ _).2 e;omega
      rcases lt_tri hi.data.toList xhi.data.toList with q | q | q
      · exact lt_tr hlt q
      · rw[<- q];exact hlt
      · exact absurd q this
   unfold cutStep;by_cases hh:(hasB q.data.toList xhi.data.toList hi.data.toList&& !(hi.data.toList==q.data.toList))=true
   · rw[if_pos hh,toArray_back]
     simp
   · rw[if_neg hh]
     have hx:xhi=hi:=by
      apply bytes_ext;rcases lt_tri hi.data.toList xhi.data.toList with e | e | e
      · exfalso
        apply hh;unfold hasB spanB;have hne:¬hi.data.toList=q.data.toList:=λe=>by rw[e]at hlt;exact lt_irr _ hlt
        simp only[Bool.and_eq_true,Bool.or_eq_true,decide_eq_true_eq,Bool.not_eq_true',beq_eq_false_iff_ne];refine⟨⟨⟨⟨⟨⟨l1,x2⟩,hab⟩,hkh⟩,λe=>lt_irr _ (lt_tr hlt e)⟩,?_⟩,hne⟩;unfold aboveB;simp[e]
      · exact e.symm
      · unfold overB at h4
        simp only[Bool.or_eq_true,Bool.and_eq_true,decide_eq_true_eq,Bool.not_eq_true']at h4;rcases h4 with e1 | ⟨_,e2⟩
        · exfalso
          apply hh;unfold hasB spanB;have hne:¬hi.data.toList=q.data.toList:=λe=>by rw[e]at hlt;exact lt_irr _ hlt
          simp only[Bool.and_eq_true,Bool.or_eq_true,decide_eq_true_eq,Bool.not_eq_true',beq_eq_false_iff_ne];refine⟨⟨⟨⟨⟨⟨l1,x2⟩,hab⟩,hkh⟩,λe=>lt_irr _ (lt_tr hlt e)⟩,?_⟩,hne⟩;unfold aboveB;simp[e1]
        · exact absurd ((cmpT_neg _ _).2 e) (by omega)
     rw[hx];simp
def frzP (scheme ep:Int)(lo hi:ByteArray)(q:SpZ):StrZ:=if q.1=lo/\q.2=hi then ⟨q.1,q.2,ep,2,scheme⟩ else ⟨q.1,q.2,ep,1,0⟩
def frzNew (scheme ep:Int)(lo hi:ByteArray)(x:StrZ):List StrZ:=(cutD x.lo x.hi [lo,hi]).map (frzP scheme ep lo hi)
theorem frz_closed {scheme ep:Int}{lo hi:ByteArray}{ps:List StrZ}{n:Nat}{x:StrZ}(hn:closedN ps=none)(hw:withinB lo.data.toList hi.data.toList x.lo.data.toList x.hi.data.toList=true):
 ∃m y,closedN (repD ps (frzNew scheme ep lo hi x) n (n+1))=some m/\(repD ps (frzNew scheme ep lo hi x) n (n+1))[m]? =some y/\y.lo=lo/\y.hi=hi:=by
 have hno:=List.findIdx?_eq_none_iff.1 hn
 have hmem:(⟨lo,hi,ep,2,scheme⟩:StrZ)∈repD ps (frzNew scheme ep lo hi x) n (n+1):=by
  unfold repD;refine List.mem_append_left _ (List.mem_append_right _ ?_);unfold frzNew;rw[List.mem_map];exact⟨(lo,hi),cut_has hw,by unfold frzP;simp⟩
 cases hc:closedN (repD ps (frzNew scheme ep lo hi x) n (n+1)) with
 | none=>
   have:=List.findIdx?_eq_none_iff.1 hc _ hmem
   simp at this
 | some m=>
   obtain⟨hml,hp,_⟩:=List.findIdx?_eq_some_iff_getElem.1 hc;refine⟨m,_,rfl,qE hml,?_⟩;have hym:(repD ps (frzNew scheme ep lo hi x) n (n+1))[m]∈repD ps (frzNew scheme ep lo hi x) n (n+1):=List.getElem_mem _;generalize (repD ps (frzNew scheme ep lo hi x) n (n+1))[m]=y at hp hym ⊢;rcases repD_mem hym with h | h
   · have:=hno y h;rw[hp]at this;cases this
   · unfold frzNew at h
     rw[List.mem_map]at h;obtain⟨q,_,rfl⟩:=h;unfold frzP at hp ⊢
     split
     · rename_i hq;exact hq
     · rename_i hq;rw[if_neg hq]at hp;simp at hp
theorem cutD_len (xlo xhi lo hi:ByteArray):(cutD xlo xhi [lo,hi]).length<=3:=by
 have h1:=cutFold_len xhi (cutKs [lo,hi]) ([],xlo)
 have h2:(cutKs [lo,hi]).length<=2:=by
  unfold cutKs;refine qM (compact_len _) ?_;unfold sortL;rw[List.length_mergeSort];simp[bytesL]
 unfold cutD;rw[qG];simp only[List.length_cons,List.length_nil]at h1 ⊢;unfold cutFold;omega
end Go.Proofs.YtmpmggejhnmakaaGreatDoor
