/- Copy and By at a table of holds. -/
import Derived.Test.YtmpmggejhnmakaaGreatDoorZ13
import Derived.Test.YtmpmggejhnmakaaGreatDoorZ20
import Derived.Laws.StructEq
import Derived.IntWalk
import Derived.Test.YtmpmggejhnmakaaGreatDoorZ01
set_option maxRecDepth 100000
namespace Go.Proofs.YtmpmggejhnmakaaGreatDoor
open Go.RowKit
theorem eql_Nm (c1 n1 c2 n2:Int)(w:World):
 (binOp .eql 35 (.agg #[.int .i64 c1,.int .i64 n1]) (.agg #[.int .i64 c2,.int .i64 n2])).run Tryz.prog w= .ok (.bool (c1==c2&&n1==n2)) w:=by
 have hS:Tryz.prog.underlying 35=some (.struct (Tryz.prog.fieldsOf 35)):=by kernel_rfl
 have hp:Tryz.prog.stoodInHeld 35=false:=by kernel_rfl
 have u9:=Tryz.underlying3;rw[run_eql_struct,show (10000:Nat)=9999+1 from rfl,run_equalIn_agg w 9999 35 _ _ hS hp];simp only[Program.fieldsOf,Tryz.underlying35];go_simp;by_cases h1:c1=c2<;>by_cases h2:n1=n2<;>simp[h1,h2]
def byD (c n:Int)(ds:List HoldD):List HoldD:=ds.filter (·.tells λ_ cl nm=>(cl==c&&nm==n))
variable {no0:Nat->Prop}
theorem by_asks (bx:Nat)(c n:Int)(S:Nat->Prop)(w:World)(hb:bx<w.heap.size)(h0:w.cell? ⟨bx,0,none⟩=some (.int .i64 c))(h1:w.cell? ⟨bx,1,none⟩=some (.int .i64 n))(hS:¬S bx):
 Asks 169 #[.pointer (some ⟨bx,0,none⟩)] (λ_ cl nm=>(cl==c&&nm==n)) S w:=by
 intro W hW x hk;have hcW:=(hW.cell (p:=⟨bx,0,none⟩) hb hS).trans h0;have hdW:=(hW.cell (p:=⟨bx,1,none⟩) hb hS).trans h1;have hbW:bx<W.heap.size:=qN hb hW.size;have hbx:bx≠W.heap.size:=by omega
 obtain⟨key,cl,nm,xo,xn,xc,yo,yn,yc,put,value⟩:=x;have HX:Hid (Ext W (W.alloc (.cells #[.string key,.int .i64 cl,.int .i64 nm,.slice xo xn xc,.slice yo yn yc,.bool put,.string value] 48))):=qA ((qK _ W).alloc (qL _) _);have heq:=eql_Nm;clear h0 h1 hW;simp only[encHV];go_enter Tryz.func169,Tryz.ntmps169;go_wp2_with fail;go_ret;exact⟨rfl,HX.out⟩
theorem by_calls (hb:Nat)(v:Value)(ds:List HoldD)(c n:Int)(w:World)(T:TabN no0 w hb v ds):
 Calls Tryz.prog 94 #[.pointer (some ⟨hb,0,none⟩),.agg #[.int .i64 c,.int .i64 n]] w (RowPost (byD c n ds) w):=by
 have hc1:=T.blk.cell 1;simp only[qB,qC]at hc1;have HX:Hid (Ext w (w.alloc (.cells #[.int .i64 c,.int .i64 n] 35))):=qA ((qK _ w).alloc (qL _) _);have hbk:Blk (w.alloc (.cells #[.int .i64 c,.int .i64 n] 35)) w.heap.size [.int .i64 c,.int .i64 n] 35:=Blk.new w _ _;have hlt:=hbk.lt;have HTH:=qA (there_calls (some ⟨hb,0,none⟩) true _ ((show ThereIs w (some ⟨hb,0,none⟩) true from .inr ⟨hb,rfl,hc1⟩).ext HX.out));have T0:=T.ext HX.out;obtain⟨l,ao,cap,rfl,hlc,hll,hrows,hown,hare,hrise⟩:=T0.rows;have hfew:=T.few;have hc0:=T0.blk.cell 0;simp only[qB]at hc0
 have HTS:=qA (those_calls _ _ (enters_of Tryz.func169 (by kernel_rfl) rfl) _ l ds _ ao cap hb _ (by omega) hrows hare T0.fits hc0 (T0.keys hare)
  (by_asks w.heap.size c n (λ_=>False) _ hlt (hbk.cell 0) (hbk.cell 1) (λe=>e)))
 clear hrows hown hare hrise hll hc0 hc1 T T0 hbk;go_enter Tryz.func94,Tryz.ntmps94;go_wp2_with fail;refine HTH.out.mono ?_;rintro e w' ⟨rfl,rfl⟩;go_wp2_with fail;refine HTS.out.mono ?_;rintro e w2 ⟨r,l',rfl,h1,h2,h3,h4,h6,h5⟩;have HP:Hid (RowPost (byD c n ds) w (.returned r) w2):=qA (RowPost.ext HX.out ⟨r,l',rfl,h1,h2,h3,h4,h6,h5⟩);clear h1 h2 h3 h4 h5 h6 HTS HTH;go_wp2_with fail;go_ret;exact HP.out
end Go.Proofs.YtmpmggejhnmakaaGreatDoor
