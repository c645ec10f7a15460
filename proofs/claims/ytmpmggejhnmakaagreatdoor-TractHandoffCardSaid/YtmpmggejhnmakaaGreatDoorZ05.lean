/- The package act's right, Right. -/
import Derived.Test.YtmpmggejhnmakaaGreatDoorZ02
import Derived.Test.YtmpmggejhnmakaaGreatDoorZ04
import Derived.Deep.RegionHeld3
import Derived.Test.YtmpmggejhnmakaaGreatDoorZ01
set_option maxRecDepth 100000
set_option maxHeartbeats 4000000
namespace Go.Proofs.YtmpmggejhnmakaaGreatDoor
open Go.RowKit
attribute [local go_sem] Instr.findNow Instr.sameNow
def pick3 (kd:Int)(v1 v2 v3:Bool):Bool:=if kd=1 then v1 else if kd=2 then v2 else if kd=3 then v3 else false
theorem zeroB (w:World):(zeroValue 4).run Tryz.prog w= .ok (.bool false) w:=by kernel_rfl
theorem look_of (W:World)(es:List MapEntry)(c:Nat)(kd:Int)(v1 v2 v3:Bool)(h:∀kd,Instr.findNow (.int .u8) (.int .u8 kd) es 0=some none/\pick3 kd v1 v2 v3=false\/∃i,Instr.findNow (.int .u8) (.int .u8 kd) es 0=some (some (i,.bool (pick3 kd v1 v2 v3)))):
 (Instr.lookup 280 (.map (some W.heap.size)) (.int .u8 kd) false).run Tryz.prog (W.alloc (.map es.toArray c)).drew= .ok (.bool (pick3 kd v1 v2 v3)) (W.alloc (.map es.toArray c)).drew:=by
 have hb:(W.alloc (.map es.toArray c)).drew.heap[W.heap.size]? =some (.map es.toArray c):=heap_alloc_new W _;rcases h kd with ⟨h1,h2⟩ | ⟨i,h1⟩
 · have:=run_lookup_miss (P:=Tryz.prog) Tryz.underlying280 Tryz.underlying72 rfl hb (key:= .int .u8 kd) (zeroB _) (by simpa using h1) false
   rw[h2];simpa using this
 · have:=run_lookup_hit (P:=Tryz.prog) Tryz.underlying280 Tryz.underlying72 rfl hb (key:= .int .u8 kd) (i:=i) (v:= .bool (pick3 kd v1 v2 v3)) (by simpa using h1) false
   simpa using this
theorem look123 (W:World)(kd:Int)(v1 v2 v3:Bool):(Instr.lookup 280 (.map (some W.heap.size)) (.int .u8 kd) false).run Tryz.prog (W.alloc (.map #[⟨.int .u8 1,.bool v1,0⟩,⟨.int .u8 2,.bool v2,1⟩,⟨.int .u8 3,.bool v3,2⟩] 3)).drew= .ok (.bool (pick3 kd v1 v2 v3)) (W.alloc (.map #[⟨.int .u8 1,.bool v1,0⟩,⟨.int .u8 2,.bool v2,1⟩,⟨.int .u8 3,.bool v3,2⟩] 3)).drew:=
 look_of W [⟨.int .u8 1,.bool v1,0⟩,⟨.int .u8 2,.bool v2,1⟩,⟨.int .u8 3,.bool v3,2⟩] 3 kd v1 v2 v3 λkd=>by
  unfold pick3;by_cases k1:kd=1
  · subst k1;exact .inr ⟨_,rfl⟩
  · by_cases k2:kd=2
    · subst k2;exact .inr ⟨_,rfl⟩
    · by_cases k3:kd=3
      · subst k3;exact .inr ⟨_,rfl⟩
      · have e1:(kd==1)=false:=by simpa using k1
        have e2:(kd==2)=false:=by simpa using k2
        have e3:(kd==3)=false:=by simpa using k3
        exact .inl ⟨by simp[Instr.findNow,Instr.sameNow,e1,e2,e3],by simp[k1,k2,k3]⟩
theorem look132 (W:World)(kd:Int)(v1 v2 v3:Bool):(Instr.lookup 280 (.map (some W.heap.size)) (.int .u8 kd) false).run Tryz.prog (W.alloc (.map #[⟨.int .u8 1,.bool v1,0⟩,⟨.int .u8 3,.bool v3,1⟩,⟨.int .u8 2,.bool v2,2⟩] 3)).drew= .ok (.bool (pick3 kd v1 v2 v3)) (W.alloc (.map #[⟨.int .u8 1,.bool v1,0⟩,⟨.int .u8 3,.bool v3,1⟩,⟨.int .u8 2,.bool v2,2⟩] 3)).drew:=
 look_of W [⟨.int .u8 1,.bool v1,0⟩,⟨.int .u8 3,.bool v3,1⟩,⟨.int .u8 2,.bool v2,2⟩] 3 kd v1 v2 v3 λkd=>by
  unfold pick3;by_cases k1:kd=1
  · subst k1;exact .inr ⟨_,rfl⟩
  · by_cases k2:kd=2
    · subst k2;exact .inr ⟨_,rfl⟩
    · by_cases k3:kd=3
      · subst k3;exact .inr ⟨_,rfl⟩
      · have e1:(kd==1)=false:=by simpa using k1
        have e2:(kd==2)=false:=by simpa using k2
        have e3:(kd==3)=false:=by simpa using k3
        exact .inl ⟨by simp[Instr.findNow,Instr.sameNow,e1,e2,e3],by simp[k1,k2,k3]⟩
theorem look213 (W:World)(kd:Int)(v1 v2 v3:Bool):(Instr.lookup 280 (.map (some W.heap.size)) (.int .u8 kd) false).run Tryz.prog (W.alloc (.map #[⟨.int .u8 2,.bool v2,0⟩,⟨.int .u8 1,.bool v1,1⟩,⟨.int .u8 3,.bool v3,2⟩] 3)).drew= .ok (.bool (pick3 kd v1 v2 v3)) (W.alloc (.map #[⟨.int .u8 2,.bool v2,0⟩,⟨.int .u8 1,.bool v1,1⟩,⟨.int .u8 3,.bool v3,2⟩] 3)).drew:=
 look_of W [⟨.int .u8 2,.bool v2,0⟩,⟨.int .u8 1,.bool v1,1⟩,⟨.int .u8 3,.bool v3,2⟩] 3 kd v1 v2 v3 λkd=>by
  unfold pick3;by_cases k1:kd=1
  · subst k1;exact .inr ⟨_,rfl⟩
  · by_cases k2:kd=2
    · subst k2;exact .inr ⟨_,rfl⟩
    · by_cases k3:kd=3
      · subst k3;exact .inr ⟨_,rfl⟩
      · have e1:(kd==1)=false:=by simpa using k1
        have e2:(kd==2)=false:=by simpa using k2
        have e3:(kd==3)=false:=by simpa using k3
        exact .inl ⟨by simp[Instr.findNow,Instr.sameNow,e1,e2,e3],by simp[k1,k2,k3]⟩
theorem look231 (W:World)(kd:Int)(v1 v2 v3:Bool):(Instr.lookup 280 (.map (some W.heap.size)) (.int .u8 kd) false).run Tryz.prog (W.alloc (.map #[⟨.int .u8 2,.bool v2,0⟩,⟨.int .u8 3,.bool v3,1⟩,⟨.int .u8 1,.bool v1,2⟩] 3)).drew= .ok (.bool (pick3 kd v1 v2 v3)) (W.alloc (.map #[⟨.int .u8 2,.bool v2,0⟩,⟨.int .u8 3,.bool v3,1⟩,⟨.int .u8 1,.bool v1,2⟩] 3)).drew:=
 look_of W [⟨.int .u8 2,.bool v2,0⟩,⟨.int .u8 3,.bool v3,1⟩,⟨.int .u8 1,.bool v1,2⟩] 3 kd v1 v2 v3 λkd=>by
  unfold pick3;by_cases k1:kd=1
  · subst k1;exact .inr ⟨_,rfl⟩
  · by_cases k2:kd=2
    · subst k2;exact .inr ⟨_,rfl⟩
    · by_cases k3:kd=3
      · subst k3;exact .inr ⟨_,rfl⟩
      · have e1:(kd==1)=false:=by simpa using k1
        have e2:(kd==2)=false:=by simpa using k2
        have e3:(kd==3)=false:=by simpa using k3
        exact .inl ⟨by simp[Instr.findNow,Instr.sameNow,e1,e2,e3],by simp[k1,k2,k3]⟩
theorem look312 (W:World)(kd:Int)(v1 v2 v3:Bool):(Instr.lookup 280 (.map (some W.heap.size)) (.int .u8 kd) false).run Tryz.prog (W.alloc (.map #[⟨.int .u8 3,.bool v3,0⟩,⟨.int .u8 1,.bool v1,1⟩,⟨.int .u8 2,.bool v2,2⟩] 3)).drew= .ok (.bool (pick3 kd v1 v2 v3)) (W.alloc (.map #[⟨.int .u8 3,.bool v3,0⟩,⟨.int .u8 1,.bool v1,1⟩,⟨.int .u8 2,.bool v2,2⟩] 3)).drew:=
 look_of W [⟨.int .u8 3,.bool v3,0⟩,⟨.int .u8 1,.bool v1,1⟩,⟨.int .u8 2,.bool v2,2⟩] 3 kd v1 v2 v3 λkd=>by
  unfold pick3;by_cases k1:kd=1
  · subst k1;exact .inr ⟨_,rfl⟩
  · by_cases k2:kd=2
    · subst k2;exact .inr ⟨_,rfl⟩
    · by_cases k3:kd=3
      · subst k3;exact .inr ⟨_,rfl⟩
      · have e1:(kd==1)=false:=by simpa using k1
        have e2:(kd==2)=false:=by simpa using k2
        have e3:(kd==3)=false:=by simpa using k3
        exact .inl ⟨by simp[Instr.findNow,Instr.sameNow,e1,e2,e3],by simp[k1,k2,k3]⟩
theorem look321 (W:World)(kd:Int)(v1 v2 v3:Bool):(Instr.lookup 280 (.map (some W.heap.size)) (.int .u8 kd) false).run Tryz.prog (W.alloc (.map #[⟨.int .u8 3,.bool v3,0⟩,⟨.int .u8 2,.bool v2,1⟩,⟨.int .u8 1,.bool v1,2⟩] 3)).drew= .ok (.bool (pick3 kd v1 v2 v3)) (W.alloc (.map #[⟨.int .u8 3,.bool v3,0⟩,⟨.int .u8 2,.bool v2,1⟩,⟨.int .u8 1,.bool v1,2⟩] 3)).drew:=
 look_of W [⟨.int .u8 3,.bool v3,0⟩,⟨.int .u8 2,.bool v2,1⟩,⟨.int .u8 1,.bool v1,2⟩] 3 kd v1 v2 v3 λkd=>by
  unfold pick3;by_cases k1:kd=1
  · subst k1;exact .inr ⟨_,rfl⟩
  · by_cases k2:kd=2
    · subst k2;exact .inr ⟨_,rfl⟩
    · by_cases k3:kd=3
      · subst k3;exact .inr ⟨_,rfl⟩
      · have e1:(kd==1)=false:=by simpa using k1
        have e2:(kd==2)=false:=by simpa using k2
        have e3:(kd==3)=false:=by simpa using k3
        exact .inl ⟨by simp[Instr.findNow,Instr.sameNow,e1,e2,e3],by simp[k1,k2,k3]⟩
theorem rightB_eq (kd:Int)(key val:ByteArray)(num:Int):rightB ⟨kd,key,val,num⟩=(keyL key.data.toList&&pick3 kd (decide (val.data.toList=[])&&(num==0)) (decide (val.data.toList.length<=20)&&textL val.data.toList&&(num==0)) (decide (val.data.toList=[])&&(num==cutI num))):=by
 unfold rightB kindB pick3
 congr 1
end Go.Proofs.YtmpmggejhnmakaaGreatDoor
/- act.right, one of four cases. -/
namespace Go.Proofs.YtmpmggejhnmakaaGreatDoor
open Go.RowKit
theorem right_A (a:ActD)(w:World)(hok:a.ok)(hE:a.value.data.toList=[]):
 Calls Tryz.prog 156 #[.agg (encAct a).toArray] w λe w'=>e= .returned (.bool (rightB a))/\Ext w w':=by
 obtain⟨kd,key,val,num⟩:=a;simp only at hE;unfold encAct;have hem:val.toList.isEmpty=true:=by rw[Lib.toList_data,hE];rfl
 have hz:val.size=0:=by rw[Lib.size_eq,hE];rfl
 have hT:(Lib.trimS val.data.toList [97,98,99,100,101,102,103,104,105,106,107,108,109,110,111,112,113,114,115,116,117,118,119,120,121,122,48,49,50,51,52,53,54,55,56,57,45]).isEmpty=true:=by rw[hE];decide
 have F1:Hid (decide (val.data.toList=[])=true):=qA (by simp[hE]);have F2:Hid (decide (val.data.toList.length<=20)=true):=qA (by simp[hE]);have F3:Hid (textL val.data.toList=true):=qA (by rw[hE];decide);have HOK:=qA hok;clear hE hok;have hmm:= @run_makeMap Tryz.prog;go_enter Tryz.func156,Tryz.ntmps156
 go_wp2_with (first
  | (go_at_call 199;refine (trim_calls _ _ _ (by omega) (by decide) (by decide)).mono ?_;rintro e w1 ⟨rfl,hx1⟩;have X1:=qA hx1;clear hx1))
 have hbox:=(Blk.new w [.int .u8 kd,.string key,.string val,.int .i64 num] 74).ext' X1.out;have hx:Ext w w1:=qJ (b:=w.alloc (.cells #[.int .u8 kd,.string key,.string val,.int .i64 num] 74)) ((qK _ w).alloc (qL _) _) X1.out;have hN:=hbox.lt;generalize w.heap.size=N at *;have c2:=hbox.cell 2;have c3:=hbox.cell 3;simp only[qB,qC]at c2 c3;have hk2:∀o,((w1.alloc o).drew).cell? ⟨N,2,none⟩=some (.string val):=λo=>(World.cell?_alloc_past o N 2 hN).trans c2;have hk3:∀o,((w1.alloc o).drew).cell? ⟨N,3,none⟩=some (.int .i64 num):=λo=>(World.cell?_alloc_past o N 3 hN).trans c3;have c1:=hbox.cell 1;have c0:=hbox.cell 0;simp only[qB,qC]at c1 c0;have hk0:∀o,((w1.alloc o).drew).cell? ⟨N,0,none⟩=some (.int .u8 kd):=λo=>(World.cell?_alloc_past o N 0 hN).trans c0;have hk1:∀o,((w1.alloc o).drew).cell? ⟨N,1,none⟩=some (.string key):=λo=>(World.cell?_alloc_past o N 1 hN).trans c1;have HK0:=qA hk0;have HK1:=qA hk1;clear hk0 hk1 c0 c1;have HK2:=qA hk2;have HK3:=qA hk3;clear hk2 hk3;have H1:=qA hbox;have H2:=qA hx;clear hbox hx X1;have hins:=λ(es:List MapEntry) (c:Nat) (k:Int) (v:Value) (hf:Instr.findNow (.int .u8) (.int .u8 k) es 0=some none)=>run_mapUpdate_drew (P:=Tryz.prog) Tryz.underlying280 Tryz.underlying72 rfl w1 _ rfl es c (.int .u8 k) v hf;have i1:=λ(v:Value)=>hins [] 0 1 v rfl;have i21:=λ(a v:Value)=>hins [⟨.int .u8 2,a,0⟩] 1 1 v rfl;have i231:=λ(a b v:Value)=>hins [⟨.int .u8 2,a,0⟩,⟨.int .u8 3,b,1⟩] 2 1 v rfl;have i31:=λ(a v:Value)=>hins [⟨.int .u8 3,a,0⟩] 1 1 v rfl;have i321:=λ(a b v:Value)=>hins [⟨.int .u8 3,a,0⟩,⟨.int .u8 2,b,1⟩] 2 1 v rfl
 have i2:=λ(v:Value)=>hins [] 0 2 v rfl;have i12:=λ(a v:Value)=>hins [⟨.int .u8 1,a,0⟩] 1 2 v rfl;have i132:=λ(a b v:Value)=>hins [⟨.int .u8 1,a,0⟩,⟨.int .u8 3,b,1⟩] 2 2 v rfl;have i32:=λ(a v:Value)=>hins [⟨.int .u8 3,a,0⟩] 1 2 v rfl;have i312:=λ(a b v:Value)=>hins [⟨.int .u8 3,a,0⟩,⟨.int .u8 1,b,1⟩] 2 2 v rfl;have i3:=λ(v:Value)=>hins [] 0 3 v rfl;have i13:=λ(a v:Value)=>hins [⟨.int .u8 1,a,0⟩] 1 3 v rfl;have i123:=λ(a b v:Value)=>hins [⟨.int .u8 1,a,0⟩,⟨.int .u8 2,b,1⟩] 2 3 v rfl;have i23:=λ(a v:Value)=>hins [⟨.int .u8 2,a,0⟩] 1 3 v rfl;have i213:=λ(a b v:Value)=>hins [⟨.int .u8 2,a,0⟩,⟨.int .u8 1,b,1⟩] 2 3 v rfl;clear hins;simp only[List.cons_append,List.nil_append,Nat.reduceAdd]at i1 i21 i231 i31 i321 i2 i12 i132 i32 i312 i3 i13 i123 i23 i213
 go_region_held3 (λW=>W.cell? ⟨N,2,none⟩=some (.string val)/\W.cell? ⟨N,3,none⟩=some (.int .i64 num)) (first | exact⟨c2,c3⟩ | exact⟨HK2.out _,HK3.out _⟩)
  (first
  | (go_at_call 200;refine (cut_calls _ _).mono ?_;rintro e w' ⟨rfl,rfl⟩))
 all_goals
  clear i1 i21 i231 i31 i321 i2 i12 i132 i32 i312 i3 i13 i123 i23 i213;have q1:=look123 w1;have q2:=look132 w1;have q3:=look213 w1;have q4:=look231 w1;have q5:=look312 w1;have q6:=look321 w1;have k0:=HK0.out;have k1:=HK1.out;rename_i hHeld;clear hHeld
 all_goals
  cases hk:keyL key.data.toList
  · have HK:=qA hk;clear hk
    go_wp2_with (go_at_call 10;refine (key_calls _ _ HOK.out.2.2.1).mono ?_;rw[HK.out];rintro e w' ⟨rfl,rfl⟩);go_ret;exact⟨ret_bool (by rw[rightB_eq,HK.out];rfl),(H2.out.trans ((qK _ w1).alloc (qL _) _)).drew⟩
  · have HK:=qA hk;clear hk
    go_wp2_with (go_at_call 10;refine (key_calls _ _ HOK.out.2.2.1).mono ?_;rw[HK.out];rintro e w' ⟨rfl,rfl⟩);go_ret;exact⟨ret_bool (by rw[rightB_eq,HK.out,F1.out,F2.out,F3.out];rfl),(H2.out.trans ((qK _ w1).alloc (qL _) _)).drew⟩
theorem right_B (a:ActD)(w:World)(hok:a.ok)(hE:¬a.value.data.toList=[])(hA:20<a.value.size):
 Calls Tryz.prog 156 #[.agg (encAct a).toArray] w λe w'=>e= .returned (.bool (rightB a))/\Ext w w':=by
 obtain⟨kd,key,val,num⟩:=a;simp only at hE hA;unfold encAct
 have hem:val.toList.isEmpty=false:=by
  rw[Lib.toList_data];cases h:val.data.toList with
  | nil=>exact absurd h hE
  | cons a r=>rfl
 have hvs:val.size<=140737488351232:=hok.2.2.2.1;have F1:Hid (decide (val.data.toList=[])=false):=qA (by simpa using hE);have hz:20<val.size:=hA;have hg:decide ((val.size:Int)<=20)=false:=by simp;omega
 have F2:Hid (decide (val.data.toList.length<=20)=false):=qA (by have:=Lib.size_eq val;simp;omega);have HOK:=qA hok;clear hE hok hA;have hmm:= @run_makeMap Tryz.prog;go_enter Tryz.func156,Tryz.ntmps156
 go_wp2_with (first
  | (go_at_call 199;refine (trim_calls _ _ _ (by omega) (by decide) (by decide)).mono ?_;rintro e w1 ⟨rfl,hx1⟩;have X1:=qA hx1;clear hx1))
 have hbox:=(Blk.new w [.int .u8 kd,.string key,.string val,.int .i64 num] 74).ext' X1.out;have hx:Ext w w1:=qJ (b:=w.alloc (.cells #[.int .u8 kd,.string key,.string val,.int .i64 num] 74)) ((qK _ w).alloc (qL _) _) X1.out;have hN:=hbox.lt;generalize w.heap.size=N at *;have c2:=hbox.cell 2;have c3:=hbox.cell 3;simp only[qB,qC]at c2 c3;have hk2:∀o,((w1.alloc o).drew).cell? ⟨N,2,none⟩=some (.string val):=λo=>(World.cell?_alloc_past o N 2 hN).trans c2;have hk3:∀o,((w1.alloc o).drew).cell? ⟨N,3,none⟩=some (.int .i64 num):=λo=>(World.cell?_alloc_past o N 3 hN).trans c3;have c1:=hbox.cell 1;have c0:=hbox.cell 0;simp only[qB,qC]at c1 c0;have hk0:∀o,((w1.alloc o).drew).cell? ⟨N,0,none⟩=some (.int .u8 kd):=λo=>(World.cell?_alloc_past o N 0 hN).trans c0;have hk1:∀o,((w1.alloc o).drew).cell? ⟨N,1,none⟩=some (.string key):=λo=>(World.cell?_alloc_past o N 1 hN).trans c1;have HK0:=qA hk0;have HK1:=qA hk1;clear hk0 hk1 c0 c1;have HK2:=qA hk2;have HK3:=qA hk3;clear hk2 hk3;have H1:=qA hbox;have H2:=qA hx;clear hbox hx X1;have hins:=λ(es:List MapEntry) (c:Nat) (k:Int) (v:Value) (hf:Instr.findNow (.int .u8) (.int .u8 k) es 0=some none)=>run_mapUpdate_drew (P:=Tryz.prog) Tryz.underlying280 Tryz.underlying72 rfl w1 _ rfl es c (.int .u8 k) v hf;have i1:=λ(v:Value)=>hins [] 0 1 v rfl;have i21:=λ(a v:Value)=>hins [⟨.int .u8 2,a,0⟩] 1 1 v rfl;have i231:=λ(a b v:Value)=>hins [⟨.int .u8 2,a,0⟩,⟨.int .u8 3,b,1⟩] 2 1 v rfl;have i31:=λ(a v:Value)=>hins [⟨.int .u8 3,a,0⟩] 1 1 v rfl;have i321:=λ(a b v:Value)=>hins [⟨.int .u8 3,a,0⟩,⟨.int .u8 2,b,1⟩] 2 1 v rfl
 have i2:=λ(v:Value)=>hins [] 0 2 v rfl;have i12:=λ(a v:Value)=>hins [⟨.int .u8 1,a,0⟩] 1 2 v rfl;have i132:=λ(a b v:Value)=>hins [⟨.int .u8 1,a,0⟩,⟨.int .u8 3,b,1⟩] 2 2 v rfl;have i32:=λ(a v:Value)=>hins [⟨.int .u8 3,a,0⟩] 1 2 v rfl;have i312:=λ(a b v:Value)=>hins [⟨.int .u8 3,a,0⟩,⟨.int .u8 1,b,1⟩] 2 2 v rfl;have i3:=λ(v:Value)=>hins [] 0 3 v rfl;have i13:=λ(a v:Value)=>hins [⟨.int .u8 1,a,0⟩] 1 3 v rfl;have i123:=λ(a b v:Value)=>hins [⟨.int .u8 1,a,0⟩,⟨.int .u8 2,b,1⟩] 2 3 v rfl;have i23:=λ(a v:Value)=>hins [⟨.int .u8 2,a,0⟩] 1 3 v rfl;have i213:=λ(a b v:Value)=>hins [⟨.int .u8 2,a,0⟩,⟨.int .u8 1,b,1⟩] 2 3 v rfl;clear hins;simp only[List.cons_append,List.nil_append,Nat.reduceAdd]at i1 i21 i231 i31 i321 i2 i12 i132 i32 i312 i3 i13 i123 i23 i213;have EX:Hid (∀o,Ext w1 ((w1.alloc o).drew)):=qA λo=>((qK _ w1).alloc (qL _) o).drew;have XX:Hid (Ext w1 w1.drew):=qA (qK _ w1).drew;have d2:=ExtBy.cell c2;have d3:=ExtBy.cell c3;refine wp_region_firstC (λW=>∃p:ExtBy w1,W=p.W) [1,3,4,5,6,7,8,9,10,11,12,13,14,16,17,18,19,20,21,22,23] 9 (by kernel_rfl) (by kernel_rfl) (λ_ _ _ _ h=>h) ⟨⟨w1.drew,XX.out⟩,rfl⟩ ?_;simp only[opsAt,qD,qC,qB]
 repeat (go_big_quiet_step (fail))
 refine wpQuiet_nil ?_;refine wpAnyH_take (i:=24) (oi:= ?oi) (v:=undef) ?hi ?hs ?hf ?hr ?hQ ?hy ?hS ?rest
 case hi=>(simp only[qD,qC,qB];rfl)
 case hs=>kernel_rfl
 case hf=>kernel_rfl
 case hr=>kernel_rfl
 case hQ=>exact (λ_ _ _ h=>h)
 case hS=>exact⟨⟨w1.drew,XX.out⟩,rfl⟩
 case hy=>exact Or.inr ⟨by rfl,rfl⟩
 (try simp only[Act.put,List.setIfInBounds_toArray,List.set_cons_zero,List.set_cons_succ])
 refine wp_takesC (f:=6) [25,26] (by kernel_rfl) (λ_ _ _ _ h=>h) ⟨⟨w1.drew,XX.out⟩,rfl⟩ ?_;simp only[opsAt,qD,qC,qB]
 repeat (go_big_quiet_step (fail))
 refine wpQuiet_nil ?_;clear d2 d3;refine wpAnyH_ready (rs:=[0]) (by kernel_rfl) (by simp) ?_;refine AllReadyH.cons rfl (λK hK=>?_) AllReadyH.nil
 all_goals
  go_simp;refine hK.out _ _ ⟨⟨_,EX.out _⟩,rfl⟩ (λ_=>?_)
  clear hK K
  (try simp only[Act.put,List.setIfInBounds_toArray,List.set_cons_zero,List.set_cons_succ])
 refine wpAnyH_ready (rs:=[2,15,27]) (by kernel_rfl) (by simp) ?_;refine AllReadyH.cons rfl (λK hK=>?_) (AllReadyH.cons rfl (λK hK=>?_) (AllReadyH.cons rfl (λK hK=>?_) AllReadyH.nil))
 all_goals
  go_simp;refine hK.out _ _ ⟨⟨_,EX.out _⟩,rfl⟩ (λ_=>?_)
  clear hK K
  (try simp only[Act.put,List.setIfInBounds_toArray,List.set_cons_zero,List.set_cons_succ])
 · refine wpAnyH_ready (rs:=[15,27]) (by kernel_rfl) (by simp) ?_
   refine AllReadyH.cons rfl (λK hK=>?_) (AllReadyH.cons rfl (λK hK=>?_) AllReadyH.nil)
   all_goals
    go_simp;refine hK.out _ _ ⟨⟨_,EX.out _⟩,rfl⟩ (λ_=>?_)
    clear hK K
    (try simp only[Act.put,List.setIfInBounds_toArray,List.set_cons_zero,List.set_cons_succ])
   · refine wpAnyH_ready (rs:=[27]) (by kernel_rfl) (by simp) ?_
     refine AllReadyH.cons rfl (λK hK=>?_) AllReadyH.nil
     all_goals
      go_simp;refine hK.out _ _ ⟨⟨_,EX.out _⟩,rfl⟩ (λ_=>?_)
      clear hK K
      (try simp only[Act.put,List.setIfInBounds_toArray,List.set_cons_zero,List.set_cons_succ])
     refine wp_takesC (f:=0) [28,29] (by kernel_rfl) (λ_ _ _ _ h=>h) ⟨⟨_,EX.out _⟩,rfl⟩ ?_;simp only[opsAt,qD,qC,qB]
     repeat (go_big_quiet_step (fail))
     refine wpQuiet_nil ?_;refine wpAnyH_done (by kernel_rfl) ?_ _;clear i1 i21 i231 i31 i321 i2 i12 i132 i32 i312 i3 i13 i123 i23 i213;have q1:=look123 w1;have q2:=look132 w1;have q3:=look213 w1;have q4:=look231 w1;have q5:=look312 w1;have q6:=look321 w1;have k0:=HK0.out;have k1:=HK1.out;cases hk:keyL key.data.toList
     · have HK:=qA hk;clear hk
       go_wp2_with (go_at_call 10;refine (key_calls _ _ HOK.out.2.2.1).mono ?_;rw[HK.out];rintro e w' ⟨rfl,rfl⟩);go_ret;exact⟨ret_bool (by rw[rightB_eq,HK.out];rfl),(H2.out.trans ((qK _ w1).alloc (qL _) _)).drew⟩
     · have HK:=qA hk;clear hk
       go_wp2_with (go_at_call 10;refine (key_calls _ _ HOK.out.2.2.1).mono ?_;rw[HK.out];rintro e w' ⟨rfl,rfl⟩);go_ret;exact⟨ret_bool (by rw[rightB_eq,HK.out,F1.out,F2.out];rfl),(H2.out.trans ((qK _ w1).alloc (qL _) _)).drew⟩
   · refine wpAnyH_ready (rs:=[15]) (by kernel_rfl) (by simp) ?_
     refine AllReadyH.cons rfl (λK hK=>?_) AllReadyH.nil
     all_goals
      go_simp;refine hK.out _ _ ⟨⟨_,EX.out _⟩,rfl⟩ (λ_=>?_)
      clear hK K
      (try simp only[Act.put,List.setIfInBounds_toArray,List.set_cons_zero,List.set_cons_succ])
     refine wp_takesC (f:=0) [28,29] (by kernel_rfl) (λ_ _ _ _ h=>h) ⟨⟨_,EX.out _⟩,rfl⟩ ?_;simp only[opsAt,qD,qC,qB]
     repeat (go_big_quiet_step (fail))
     refine wpQuiet_nil ?_;refine wpAnyH_done (by kernel_rfl) ?_ _;clear i1 i21 i231 i31 i321 i2 i12 i132 i32 i312 i3 i13 i123 i23 i213;have q1:=look123 w1;have q2:=look132 w1;have q3:=look213 w1;have q4:=look231 w1;have q5:=look312 w1;have q6:=look321 w1;have k0:=HK0.out;have k1:=HK1.out;cases hk:keyL key.data.toList
     · have HK:=qA hk;clear hk
       go_wp2_with (go_at_call 10;refine (key_calls _ _ HOK.out.2.2.1).mono ?_;rw[HK.out];rintro e w' ⟨rfl,rfl⟩);go_ret;exact⟨ret_bool (by rw[rightB_eq,HK.out];rfl),(H2.out.trans ((qK _ w1).alloc (qL _) _)).drew⟩
     · have HK:=qA hk;clear hk
       go_wp2_with (go_at_call 10;refine (key_calls _ _ HOK.out.2.2.1).mono ?_;rw[HK.out];rintro e w' ⟨rfl,rfl⟩);go_ret;exact⟨ret_bool (by rw[rightB_eq,HK.out,F1.out,F2.out];rfl),(H2.out.trans ((qK _ w1).alloc (qL _) _)).drew⟩
 · refine wpAnyH_ready (rs:=[2,27]) (by kernel_rfl) (by simp) ?_
   refine AllReadyH.cons rfl (λK hK=>?_) (AllReadyH.cons rfl (λK hK=>?_) AllReadyH.nil)
   all_goals
    go_simp;refine hK.out _ _ ⟨⟨_,EX.out _⟩,rfl⟩ (λ_=>?_)
    clear hK K
    (try simp only[Act.put,List.setIfInBounds_toArray,List.set_cons_zero,List.set_cons_succ])
   · refine wpAnyH_ready (rs:=[27]) (by kernel_rfl) (by simp) ?_
     refine AllReadyH.cons rfl (λK hK=>?_) AllReadyH.nil
     all_goals
      go_simp;refine hK.out _ _ ⟨⟨_,EX.out _⟩,rfl⟩ (λ_=>?_)
      clear hK K
      (try simp only[Act.put,List.setIfInBounds_toArray,List.set_cons_zero,List.set_cons_succ])
     refine wp_takesC (f:=0) [28,29] (by kernel_rfl) (λ_ _ _ _ h=>h) ⟨⟨_,EX.out _⟩,rfl⟩ ?_;simp only[opsAt,qD,qC,qB]
     repeat (go_big_quiet_step (fail))
     refine wpQuiet_nil ?_;refine wpAnyH_done (by kernel_rfl) ?_ _;clear i1 i21 i231 i31 i321 i2 i12 i132 i32 i312 i3 i13 i123 i23 i213;have q1:=look123 w1;have q2:=look132 w1;have q3:=look213 w1;have q4:=look231 w1;have q5:=look312 w1;have q6:=look321 w1;have k0:=HK0.out;have k1:=HK1.out;cases hk:keyL key.data.toList
     · have HK:=qA hk;clear hk
       go_wp2_with (go_at_call 10;refine (key_calls _ _ HOK.out.2.2.1).mono ?_;rw[HK.out];rintro e w' ⟨rfl,rfl⟩);go_ret;exact⟨ret_bool (by rw[rightB_eq,HK.out];rfl),(H2.out.trans ((qK _ w1).alloc (qL _) _)).drew⟩
     · have HK:=qA hk;clear hk
       go_wp2_with (go_at_call 10;refine (key_calls _ _ HOK.out.2.2.1).mono ?_;rw[HK.out];rintro e w' ⟨rfl,rfl⟩);go_ret;exact⟨ret_bool (by rw[rightB_eq,HK.out,F1.out,F2.out];rfl),(H2.out.trans ((qK _ w1).alloc (qL _) _)).drew⟩
   · refine wpAnyH_ready (rs:=[2]) (by kernel_rfl) (by simp) ?_
     refine AllReadyH.cons rfl (λK hK=>?_) AllReadyH.nil
     all_goals
      go_simp;refine hK.out _ _ ⟨⟨_,EX.out _⟩,rfl⟩ (λ_=>?_)
      clear hK K
      (try simp only[Act.put,List.setIfInBounds_toArray,List.set_cons_zero,List.set_cons_succ])
     refine wp_takesC (f:=0) [28,29] (by kernel_rfl) (λ_ _ _ _ h=>h) ⟨⟨_,EX.out _⟩,rfl⟩ ?_;simp only[opsAt,qD,qC,qB]
     repeat (go_big_quiet_step (fail))
     refine wpQuiet_nil ?_;refine wpAnyH_done (by kernel_rfl) ?_ _;clear i1 i21 i231 i31 i321 i2 i12 i132 i32 i312 i3 i13 i123 i23 i213;have q1:=look123 w1;have q2:=look132 w1;have q3:=look213 w1;have q4:=look231 w1;have q5:=look312 w1;have q6:=look321 w1;have k0:=HK0.out;have k1:=HK1.out;cases hk:keyL key.data.toList
     · have HK:=qA hk;clear hk
       go_wp2_with (go_at_call 10;refine (key_calls _ _ HOK.out.2.2.1).mono ?_;rw[HK.out];rintro e w' ⟨rfl,rfl⟩);go_ret;exact⟨ret_bool (by rw[rightB_eq,HK.out];rfl),(H2.out.trans ((qK _ w1).alloc (qL _) _)).drew⟩
     · have HK:=qA hk;clear hk
       go_wp2_with (go_at_call 10;refine (key_calls _ _ HOK.out.2.2.1).mono ?_;rw[HK.out];rintro e w' ⟨rfl,rfl⟩);go_ret;exact⟨ret_bool (by rw[rightB_eq,HK.out,F1.out,F2.out];rfl),(H2.out.trans ((qK _ w1).alloc (qL _) _)).drew⟩
 · refine wpAnyH_ready (rs:=[2,15]) (by kernel_rfl) (by simp) ?_
   refine AllReadyH.cons rfl (λK hK=>?_) (AllReadyH.cons rfl (λK hK=>?_) AllReadyH.nil)
   all_goals
    go_simp;refine hK.out _ _ ⟨⟨_,EX.out _⟩,rfl⟩ (λ_=>?_)
    clear hK K
    (try simp only[Act.put,List.setIfInBounds_toArray,List.set_cons_zero,List.set_cons_succ])
   · refine wpAnyH_ready (rs:=[15]) (by kernel_rfl) (by simp) ?_
     refine AllReadyH.cons rfl (λK hK=>?_) AllReadyH.nil
     all_goals
      go_simp;refine hK.out _ _ ⟨⟨_,EX.out _⟩,rfl⟩ (λ_=>?_)
      clear hK K
      (try simp only[Act.put,List.setIfInBounds_toArray,List.set_cons_zero,List.set_cons_succ])
     refine wp_takesC (f:=0) [28,29] (by kernel_rfl) (λ_ _ _ _ h=>h) ⟨⟨_,EX.out _⟩,rfl⟩ ?_;simp only[opsAt,qD,qC,qB]
     repeat (go_big_quiet_step (fail))
     refine wpQuiet_nil ?_;refine wpAnyH_done (by kernel_rfl) ?_ _;clear i1 i21 i231 i31 i321 i2 i12 i132 i32 i312 i3 i13 i123 i23 i213;have q1:=look123 w1;have q2:=look132 w1;have q3:=look213 w1;have q4:=look231 w1;have q5:=look312 w1;have q6:=look321 w1;have k0:=HK0.out;have k1:=HK1.out;cases hk:keyL key.data.toList
     · have HK:=qA hk;clear hk
       go_wp2_with (go_at_call 10;refine (key_calls _ _ HOK.out.2.2.1).mono ?_;rw[HK.out];rintro e w' ⟨rfl,rfl⟩);go_ret;exact⟨ret_bool (by rw[rightB_eq,HK.out];rfl),(H2.out.trans ((qK _ w1).alloc (qL _) _)).drew⟩
     · have HK:=qA hk;clear hk
       go_wp2_with (go_at_call 10;refine (key_calls _ _ HOK.out.2.2.1).mono ?_;rw[HK.out];rintro e w' ⟨rfl,rfl⟩);go_ret;exact⟨ret_bool (by rw[rightB_eq,HK.out,F1.out,F2.out];rfl),(H2.out.trans ((qK _ w1).alloc (qL _) _)).drew⟩
   · refine wpAnyH_ready (rs:=[2]) (by kernel_rfl) (by simp) ?_
     refine AllReadyH.cons rfl (λK hK=>?_) AllReadyH.nil
     all_goals
      go_simp;refine hK.out _ _ ⟨⟨_,EX.out _⟩,rfl⟩ (λ_=>?_)
      clear hK K
      (try simp only[Act.put,List.setIfInBounds_toArray,List.set_cons_zero,List.set_cons_succ])
     refine wp_takesC (f:=0) [28,29] (by kernel_rfl) (λ_ _ _ _ h=>h) ⟨⟨_,EX.out _⟩,rfl⟩ ?_;simp only[opsAt,qD,qC,qB]
     repeat (go_big_quiet_step (fail))
     refine wpQuiet_nil ?_;refine wpAnyH_done (by kernel_rfl) ?_ _;clear i1 i21 i231 i31 i321 i2 i12 i132 i32 i312 i3 i13 i123 i23 i213;have q1:=look123 w1;have q2:=look132 w1;have q3:=look213 w1;have q4:=look231 w1;have q5:=look312 w1;have q6:=look321 w1;have k0:=HK0.out;have k1:=HK1.out;cases hk:keyL key.data.toList
     · have HK:=qA hk;clear hk
       go_wp2_with (go_at_call 10;refine (key_calls _ _ HOK.out.2.2.1).mono ?_;rw[HK.out];rintro e w' ⟨rfl,rfl⟩);go_ret;exact⟨ret_bool (by rw[rightB_eq,HK.out];rfl),(H2.out.trans ((qK _ w1).alloc (qL _) _)).drew⟩
     · have HK:=qA hk;clear hk
       go_wp2_with (go_at_call 10;refine (key_calls _ _ HOK.out.2.2.1).mono ?_;rw[HK.out];rintro e w' ⟨rfl,rfl⟩);go_ret;exact⟨ret_bool (by rw[rightB_eq,HK.out,F1.out,F2.out];rfl),(H2.out.trans ((qK _ w1).alloc (qL _) _)).drew⟩
theorem right_C (a:ActD)(w:World)(hok:a.ok)(hE:¬a.value.data.toList=[])(hA:a.value.size<=20)(hX:textL a.value.data.toList=true):
 Calls Tryz.prog 156 #[.agg (encAct a).toArray] w λe w'=>e= .returned (.bool (rightB a))/\Ext w w':=by
 obtain⟨kd,key,val,num⟩:=a;simp only at hE hA hX;unfold encAct
 have hem:val.toList.isEmpty=false:=by
  rw[Lib.toList_data];cases h:val.data.toList with
  | nil=>exact absurd h hE
  | cons a r=>rfl
 have hvs:val.size<=140737488351232:=hok.2.2.2.1;have F1:Hid (decide (val.data.toList=[])=false):=qA (by simpa using hE);have hz:val.size<=20:=hA;have hg:decide ((val.size:Int)<=20)=true:=by simp;omega
 have hT:(Lib.trimS val.data.toList [97,98,99,100,101,102,103,104,105,106,107,108,109,110,111,112,113,114,115,116,117,118,119,120,121,122,48,49,50,51,52,53,54,55,56,57,45]).isEmpty=true:=by
  have h:=hX;unfold textL alnumL at h;simp only[decide_eq_true_eq]at h;cases hh:Lib.trimS val.data.toList [97,98,99,100,101,102,103,104,105,106,107,108,109,110,111,112,113,114,115,116,117,118,119,120,121,122,48,49,50,51,52,53,54,55,56,57,45] with
  | nil=>rfl
  | cons a r=>rw[hh]at h;cases h
 have F2:Hid (decide (val.data.toList.length<=20)=true):=qA (by have:=Lib.size_eq val;simp;omega);have F3:Hid (textL val.data.toList=true):=qA hX;have HOK:=qA hok;clear hE hok hA hX;have hmm:= @run_makeMap Tryz.prog;go_enter Tryz.func156,Tryz.ntmps156
 go_wp2_with (first
  | (go_at_call 199;refine (trim_calls _ _ _ (by omega) (by decide) (by decide)).mono ?_;rintro e w1 ⟨rfl,hx1⟩;have X1:=qA hx1;clear hx1))
 have hbox:=(Blk.new w [.int .u8 kd,.string key,.string val,.int .i64 num] 74).ext' X1.out;have hx:Ext w w1:=qJ (b:=w.alloc (.cells #[.int .u8 kd,.string key,.string val,.int .i64 num] 74)) ((qK _ w).alloc (qL _) _) X1.out;have hN:=hbox.lt;generalize w.heap.size=N at *;have c2:=hbox.cell 2;have c3:=hbox.cell 3;simp only[qB,qC]at c2 c3;have hk2:∀o,((w1.alloc o).drew).cell? ⟨N,2,none⟩=some (.string val):=λo=>(World.cell?_alloc_past o N 2 hN).trans c2;have hk3:∀o,((w1.alloc o).drew).cell? ⟨N,3,none⟩=some (.int .i64 num):=λo=>(World.cell?_alloc_past o N 3 hN).trans c3;have c1:=hbox.cell 1;have c0:=hbox.cell 0;simp only[qB,qC]at c1 c0;have hk0:∀o,((w1.alloc o).drew).cell? ⟨N,0,none⟩=some (.int .u8 kd):=λo=>(World.cell?_alloc_past o N 0 hN).trans c0;have hk1:∀o,((w1.alloc o).drew).cell? ⟨N,1,none⟩=some (.string key):=λo=>(World.cell?_alloc_past o N 1 hN).trans c1;have HK0:=qA hk0;have HK1:=qA hk1;clear hk0 hk1 c0 c1;have HK2:=qA hk2;have HK3:=qA hk3;clear hk2 hk3;have H1:=qA hbox;have H2:=qA hx;clear hbox hx X1;have hins:=λ(es:List MapEntry) (c:Nat) (k:Int) (v:Value) (hf:Instr.findNow (.int .u8) (.int .u8 k) es 0=some none)=>run_mapUpdate_drew (P:=Tryz.prog) Tryz.underlying280 Tryz.underlying72 rfl w1 _ rfl es c (.int .u8 k) v hf;have i1:=λ(v:Value)=>hins [] 0 1 v rfl;have i21:=λ(a v:Value)=>hins [⟨.int .u8 2,a,0⟩] 1 1 v rfl;have i231:=λ(a b v:Value)=>hins [⟨.int .u8 2,a,0⟩,⟨.int .u8 3,b,1⟩] 2 1 v rfl;have i31:=λ(a v:Value)=>hins [⟨.int .u8 3,a,0⟩] 1 1 v rfl;have i321:=λ(a b v:Value)=>hins [⟨.int .u8 3,a,0⟩,⟨.int .u8 2,b,1⟩] 2 1 v rfl
 have i2:=λ(v:Value)=>hins [] 0 2 v rfl;have i12:=λ(a v:Value)=>hins [⟨.int .u8 1,a,0⟩] 1 2 v rfl;have i132:=λ(a b v:Value)=>hins [⟨.int .u8 1,a,0⟩,⟨.int .u8 3,b,1⟩] 2 2 v rfl;have i32:=λ(a v:Value)=>hins [⟨.int .u8 3,a,0⟩] 1 2 v rfl;have i312:=λ(a b v:Value)=>hins [⟨.int .u8 3,a,0⟩,⟨.int .u8 1,b,1⟩] 2 2 v rfl;have i3:=λ(v:Value)=>hins [] 0 3 v rfl;have i13:=λ(a v:Value)=>hins [⟨.int .u8 1,a,0⟩] 1 3 v rfl;have i123:=λ(a b v:Value)=>hins [⟨.int .u8 1,a,0⟩,⟨.int .u8 2,b,1⟩] 2 3 v rfl;have i23:=λ(a v:Value)=>hins [⟨.int .u8 2,a,0⟩] 1 3 v rfl;have i213:=λ(a b v:Value)=>hins [⟨.int .u8 2,a,0⟩,⟨.int .u8 1,b,1⟩] 2 3 v rfl;clear hins;simp only[List.cons_append,List.nil_append,Nat.reduceAdd]at i1 i21 i231 i31 i321 i2 i12 i132 i32 i312 i3 i13 i123 i23 i213;have EX:Hid (∀o,Ext w1 ((w1.alloc o).drew)):=qA λo=>((qK _ w1).alloc (qL _) o).drew;have XX:Hid (Ext w1 w1.drew):=qA (qK _ w1).drew;have d2:=ExtBy.cell c2;have d3:=ExtBy.cell c3;refine wp_region_firstC (λW=>∃p:ExtBy w1,W=p.W) [1,3,4,5,6,7,8,9,10,11,12,13,14,16,17,18,19,20,21,22,23] 9 (by kernel_rfl) (by kernel_rfl) (λ_ _ _ _ h=>h) ⟨⟨w1.drew,XX.out⟩,rfl⟩ ?_;simp only[opsAt,qD,qC,qB]
 repeat (go_big_quiet_step (fail))
 refine wpQuiet_nil ?_;refine wpAnyH_take (i:=24) (oi:= ?oi) (v:=undef) ?hi ?hs ?hf ?hr ?hQ ?hy ?hS ?rest
 case hi=>(simp only[qD,qC,qB];rfl)
 case hs=>kernel_rfl
 case hf=>kernel_rfl
 case hr=>kernel_rfl
 case hQ=>exact (λ_ _ _ h=>h)
 case hS=>exact⟨⟨w1.drew,XX.out⟩,rfl⟩
 case hy=>exact Or.inr ⟨by rfl,rfl⟩
 (try simp only[Act.put,List.setIfInBounds_toArray,List.set_cons_zero,List.set_cons_succ])
 refine wp_takesC (f:=6) [25,26] (by kernel_rfl) (λ_ _ _ _ h=>h) ⟨⟨w1.drew,XX.out⟩,rfl⟩ ?_;simp only[opsAt,qD,qC,qB]
 repeat (go_big_quiet_step (fail))
 refine wpQuiet_nil ?_;clear d2 d3;refine wpAnyH_ready (rs:=[0]) (by kernel_rfl) (by simp) ?_;refine AllReadyH.cons rfl (λK hK=>?_) AllReadyH.nil
 all_goals
  go_simp;refine hK.out _ _ ⟨⟨_,EX.out _⟩,rfl⟩ (λ_=>?_)
  clear hK K
  (try simp only[Act.put,List.setIfInBounds_toArray,List.set_cons_zero,List.set_cons_succ])
 refine wpAnyH_ready (rs:=[2,15,27]) (by kernel_rfl) (by simp) ?_;refine AllReadyH.cons rfl (λK hK=>?_) (AllReadyH.cons rfl (λK hK=>?_) (AllReadyH.cons rfl (λK hK=>?_) AllReadyH.nil))
 all_goals
  go_simp;refine hK.out _ _ ⟨⟨_,EX.out _⟩,rfl⟩ (λ_=>?_)
  clear hK K
  (try simp only[Act.put,List.setIfInBounds_toArray,List.set_cons_zero,List.set_cons_succ])
 · refine wpAnyH_ready (rs:=[15,27]) (by kernel_rfl) (by simp) ?_
   refine AllReadyH.cons rfl (λK hK=>?_) (AllReadyH.cons rfl (λK hK=>?_) AllReadyH.nil)
   all_goals
    go_simp;refine hK.out _ _ ⟨⟨_,EX.out _⟩,rfl⟩ (λ_=>?_)
    clear hK K
    (try simp only[Act.put,List.setIfInBounds_toArray,List.set_cons_zero,List.set_cons_succ])
   · refine wpAnyH_ready (rs:=[27]) (by kernel_rfl) (by simp) ?_
     refine AllReadyH.cons rfl (λK hK=>?_) AllReadyH.nil
     all_goals
      go_simp;refine hK.out _ _ ⟨⟨_,EX.out _⟩,rfl⟩ (λ_=>?_)
      clear hK K
      (try simp only[Act.put,List.setIfInBounds_toArray,List.set_cons_zero,List.set_cons_succ])
     refine wp_takesC (f:=0) [28,29] (by kernel_rfl) (λ_ _ _ _ h=>h) ⟨⟨_,EX.out _⟩,rfl⟩ ?_;simp only[opsAt,qD,qC,qB]
     repeat (go_big_quiet_step (fail))
     refine wpQuiet_nil ?_;refine wpAnyH_done (by kernel_rfl) ?_ _;clear i1 i21 i231 i31 i321 i2 i12 i132 i32 i312 i3 i13 i123 i23 i213;have q1:=look123 w1;have q2:=look132 w1;have q3:=look213 w1;have q4:=look231 w1;have q5:=look312 w1;have q6:=look321 w1;have k0:=HK0.out;have k1:=HK1.out;cases hk:keyL key.data.toList
     · have HK:=qA hk;clear hk
       go_wp2_with (go_at_call 10;refine (key_calls _ _ HOK.out.2.2.1).mono ?_;rw[HK.out];rintro e w' ⟨rfl,rfl⟩);go_ret;exact⟨ret_bool (by rw[rightB_eq,HK.out];rfl),(H2.out.trans ((qK _ w1).alloc (qL _) _)).drew⟩
     · have HK:=qA hk;clear hk
       go_wp2_with (go_at_call 10;refine (key_calls _ _ HOK.out.2.2.1).mono ?_;rw[HK.out];rintro e w' ⟨rfl,rfl⟩);go_ret;exact⟨ret_bool (by rw[rightB_eq,HK.out,F1.out,F2.out,F3.out];rfl),(H2.out.trans ((qK _ w1).alloc (qL _) _)).drew⟩
   · refine wpAnyH_ready (rs:=[15]) (by kernel_rfl) (by simp) ?_
     refine AllReadyH.cons rfl (λK hK=>?_) AllReadyH.nil
     all_goals
      go_simp;refine hK.out _ _ ⟨⟨_,EX.out _⟩,rfl⟩ (λ_=>?_)
      clear hK K
      (try simp only[Act.put,List.setIfInBounds_toArray,List.set_cons_zero,List.set_cons_succ])
     refine wp_takesC (f:=0) [28,29] (by kernel_rfl) (λ_ _ _ _ h=>h) ⟨⟨_,EX.out _⟩,rfl⟩ ?_;simp only[opsAt,qD,qC,qB]
     repeat (go_big_quiet_step (fail))
     refine wpQuiet_nil ?_;refine wpAnyH_done (by kernel_rfl) ?_ _;clear i1 i21 i231 i31 i321 i2 i12 i132 i32 i312 i3 i13 i123 i23 i213;have q1:=look123 w1;have q2:=look132 w1;have q3:=look213 w1;have q4:=look231 w1;have q5:=look312 w1;have q6:=look321 w1;have k0:=HK0.out;have k1:=HK1.out;cases hk:keyL key.data.toList
     · have HK:=qA hk;clear hk
       go_wp2_with (go_at_call 10;refine (key_calls _ _ HOK.out.2.2.1).mono ?_;rw[HK.out];rintro e w' ⟨rfl,rfl⟩);go_ret;exact⟨ret_bool (by rw[rightB_eq,HK.out];rfl),(H2.out.trans ((qK _ w1).alloc (qL _) _)).drew⟩
     · have HK:=qA hk;clear hk
       go_wp2_with (go_at_call 10;refine (key_calls _ _ HOK.out.2.2.1).mono ?_;rw[HK.out];rintro e w' ⟨rfl,rfl⟩);go_ret;exact⟨ret_bool (by rw[rightB_eq,HK.out,F1.out,F2.out,F3.out];rfl),(H2.out.trans ((qK _ w1).alloc (qL _) _)).drew⟩
 · refine wpAnyH_ready (rs:=[2,27]) (by kernel_rfl) (by simp) ?_
   refine AllReadyH.cons rfl (λK hK=>?_) (AllReadyH.cons rfl (λK hK=>?_) AllReadyH.nil)
   all_goals
    go_simp;refine hK.out _ _ ⟨⟨_,EX.out _⟩,rfl⟩ (λ_=>?_)
    clear hK K
    (try simp only[Act.put,List.setIfInBounds_toArray,List.set_cons_zero,List.set_cons_succ])
   · refine wpAnyH_ready (rs:=[27]) (by kernel_rfl) (by simp) ?_
     refine AllReadyH.cons rfl (λK hK=>?_) AllReadyH.nil
     all_goals
      go_simp;refine hK.out _ _ ⟨⟨_,EX.out _⟩,rfl⟩ (λ_=>?_)
      clear hK K
      (try simp only[Act.put,List.setIfInBounds_toArray,List.set_cons_zero,List.set_cons_succ])
     refine wp_takesC (f:=0) [28,29] (by kernel_rfl) (λ_ _ _ _ h=>h) ⟨⟨_,EX.out _⟩,rfl⟩ ?_;simp only[opsAt,qD,qC,qB]
     repeat (go_big_quiet_step (fail))
     refine wpQuiet_nil ?_;refine wpAnyH_done (by kernel_rfl) ?_ _;clear i1 i21 i231 i31 i321 i2 i12 i132 i32 i312 i3 i13 i123 i23 i213;have q1:=look123 w1;have q2:=look132 w1;have q3:=look213 w1;have q4:=look231 w1;have q5:=look312 w1;have q6:=look321 w1;have k0:=HK0.out;have k1:=HK1.out;cases hk:keyL key.data.toList
     · have HK:=qA hk;clear hk
       go_wp2_with (go_at_call 10;refine (key_calls _ _ HOK.out.2.2.1).mono ?_;rw[HK.out];rintro e w' ⟨rfl,rfl⟩);go_ret;exact⟨ret_bool (by rw[rightB_eq,HK.out];rfl),(H2.out.trans ((qK _ w1).alloc (qL _) _)).drew⟩
     · have HK:=qA hk;clear hk
       go_wp2_with (go_at_call 10;refine (key_calls _ _ HOK.out.2.2.1).mono ?_;rw[HK.out];rintro e w' ⟨rfl,rfl⟩);go_ret;exact⟨ret_bool (by rw[rightB_eq,HK.out,F1.out,F2.out,F3.out];rfl),(H2.out.trans ((qK _ w1).alloc (qL _) _)).drew⟩
   · refine wpAnyH_ready (rs:=[2]) (by kernel_rfl) (by simp) ?_
     refine AllReadyH.cons rfl (λK hK=>?_) AllReadyH.nil
     all_goals
      go_simp;refine hK.out _ _ ⟨⟨_,EX.out _⟩,rfl⟩ (λ_=>?_)
      clear hK K
      (try simp only[Act.put,List.setIfInBounds_toArray,List.set_cons_zero,List.set_cons_succ])
     refine wp_takesC (f:=0) [28,29] (by kernel_rfl) (λ_ _ _ _ h=>h) ⟨⟨_,EX.out _⟩,rfl⟩ ?_;simp only[opsAt,qD,qC,qB]
     repeat (go_big_quiet_step (fail))
     refine wpQuiet_nil ?_;refine wpAnyH_done (by kernel_rfl) ?_ _;clear i1 i21 i231 i31 i321 i2 i12 i132 i32 i312 i3 i13 i123 i23 i213;have q1:=look123 w1;have q2:=look132 w1;have q3:=look213 w1;have q4:=look231 w1;have q5:=look312 w1;have q6:=look321 w1;have k0:=HK0.out;have k1:=HK1.out;cases hk:keyL key.data.toList
     · have HK:=qA hk;clear hk
       go_wp2_with (go_at_call 10;refine (key_calls _ _ HOK.out.2.2.1).mono ?_;rw[HK.out];rintro e w' ⟨rfl,rfl⟩);go_ret;exact⟨ret_bool (by rw[rightB_eq,HK.out];rfl),(H2.out.trans ((qK _ w1).alloc (qL _) _)).drew⟩
     · have HK:=qA hk;clear hk
       go_wp2_with (go_at_call 10;refine (key_calls _ _ HOK.out.2.2.1).mono ?_;rw[HK.out];rintro e w' ⟨rfl,rfl⟩);go_ret;exact⟨ret_bool (by rw[rightB_eq,HK.out,F1.out,F2.out,F3.out];rfl),(H2.out.trans ((qK _ w1).alloc (qL _) _)).drew⟩
 · refine wpAnyH_ready (rs:=[2,15]) (by kernel_rfl) (by simp) ?_
   refine AllReadyH.cons rfl (λK hK=>?_) (AllReadyH.cons rfl (λK hK=>?_) AllReadyH.nil)
   all_goals
    go_simp;refine hK.out _ _ ⟨⟨_,EX.out _⟩,rfl⟩ (λ_=>?_)
    clear hK K
    (try simp only[Act.put,List.setIfInBounds_toArray,List.set_cons_zero,List.set_cons_succ])
   · refine wpAnyH_ready (rs:=[15]) (by kernel_rfl) (by simp) ?_
     refine AllReadyH.cons rfl (λK hK=>?_) AllReadyH.nil
     all_goals
      go_simp;refine hK.out _ _ ⟨⟨_,EX.out _⟩,rfl⟩ (λ_=>?_)
      clear hK K
      (try simp only[Act.put,List.setIfInBounds_toArray,List.set_cons_zero,List.set_cons_succ])
     refine wp_takesC (f:=0) [28,29] (by kernel_rfl) (λ_ _ _ _ h=>h) ⟨⟨_,EX.out _⟩,rfl⟩ ?_;simp only[opsAt,qD,qC,qB]
     repeat (go_big_quiet_step (fail))
     refine wpQuiet_nil ?_;refine wpAnyH_done (by kernel_rfl) ?_ _;clear i1 i21 i231 i31 i321 i2 i12 i132 i32 i312 i3 i13 i123 i23 i213;have q1:=look123 w1;have q2:=look132 w1;have q3:=look213 w1;have q4:=look231 w1;have q5:=look312 w1;have q6:=look321 w1;have k0:=HK0.out;have k1:=HK1.out;cases hk:keyL key.data.toList
     · have HK:=qA hk;clear hk
       go_wp2_with (go_at_call 10;refine (key_calls _ _ HOK.out.2.2.1).mono ?_;rw[HK.out];rintro e w' ⟨rfl,rfl⟩);go_ret;exact⟨ret_bool (by rw[rightB_eq,HK.out];rfl),(H2.out.trans ((qK _ w1).alloc (qL _) _)).drew⟩
     · have HK:=qA hk;clear hk
       go_wp2_with (go_at_call 10;refine (key_calls _ _ HOK.out.2.2.1).mono ?_;rw[HK.out];rintro e w' ⟨rfl,rfl⟩);go_ret;exact⟨ret_bool (by rw[rightB_eq,HK.out,F1.out,F2.out,F3.out];rfl),(H2.out.trans ((qK _ w1).alloc (qL _) _)).drew⟩
   · refine wpAnyH_ready (rs:=[2]) (by kernel_rfl) (by simp) ?_
     refine AllReadyH.cons rfl (λK hK=>?_) AllReadyH.nil
     all_goals
      go_simp;refine hK.out _ _ ⟨⟨_,EX.out _⟩,rfl⟩ (λ_=>?_)
      clear hK K
      (try simp only[Act.put,List.setIfInBounds_toArray,List.set_cons_zero,List.set_cons_succ])
     refine wp_takesC (f:=0) [28,29] (by kernel_rfl) (λ_ _ _ _ h=>h) ⟨⟨_,EX.out _⟩,rfl⟩ ?_;simp only[opsAt,qD,qC,qB]
     repeat (go_big_quiet_step (fail))
     refine wpQuiet_nil ?_;refine wpAnyH_done (by kernel_rfl) ?_ _;clear i1 i21 i231 i31 i321 i2 i12 i132 i32 i312 i3 i13 i123 i23 i213;have q1:=look123 w1;have q2:=look132 w1;have q3:=look213 w1;have q4:=look231 w1;have q5:=look312 w1;have q6:=look321 w1;have k0:=HK0.out;have k1:=HK1.out;cases hk:keyL key.data.toList
     · have HK:=qA hk;clear hk
       go_wp2_with (go_at_call 10;refine (key_calls _ _ HOK.out.2.2.1).mono ?_;rw[HK.out];rintro e w' ⟨rfl,rfl⟩);go_ret;exact⟨ret_bool (by rw[rightB_eq,HK.out];rfl),(H2.out.trans ((qK _ w1).alloc (qL _) _)).drew⟩
     · have HK:=qA hk;clear hk
       go_wp2_with (go_at_call 10;refine (key_calls _ _ HOK.out.2.2.1).mono ?_;rw[HK.out];rintro e w' ⟨rfl,rfl⟩);go_ret;exact⟨ret_bool (by rw[rightB_eq,HK.out,F1.out,F2.out,F3.out];rfl),(H2.out.trans ((qK _ w1).alloc (qL _) _)).drew⟩
theorem right_D (a:ActD)(w:World)(hok:a.ok)(hE:¬a.value.data.toList=[])(hA:a.value.size<=20)(hX:textL a.value.data.toList=false):
 Calls Tryz.prog 156 #[.agg (encAct a).toArray] w λe w'=>e= .returned (.bool (rightB a))/\Ext w w':=by
 obtain⟨kd,key,val,num⟩:=a;simp only at hE hA hX;unfold encAct
 have hem:val.toList.isEmpty=false:=by
  rw[Lib.toList_data];cases h:val.data.toList with
  | nil=>exact absurd h hE
  | cons a r=>rfl
 have hvs:val.size<=140737488351232:=hok.2.2.2.1;have F1:Hid (decide (val.data.toList=[])=false):=qA (by simpa using hE);have hz:val.size<=20:=hA;have hg:decide ((val.size:Int)<=20)=true:=by simp;omega
 have hT:(Lib.trimS val.data.toList [97,98,99,100,101,102,103,104,105,106,107,108,109,110,111,112,113,114,115,116,117,118,119,120,121,122,48,49,50,51,52,53,54,55,56,57,45]).isEmpty=false:=by
  have h:=hX;unfold textL alnumL at h;simp only[decide_eq_false_iff_not]at h;cases hh:Lib.trimS val.data.toList [97,98,99,100,101,102,103,104,105,106,107,108,109,110,111,112,113,114,115,116,117,118,119,120,121,122,48,49,50,51,52,53,54,55,56,57,45] with
  | nil=>exact absurd hh h
  | cons a r=>rfl
 have F2:Hid (decide (val.data.toList.length<=20)=true):=qA (by have:=Lib.size_eq val;simp;omega);have F3:Hid (textL val.data.toList=false):=qA hX;have HOK:=qA hok;clear hE hok hA hX;have hmm:= @run_makeMap Tryz.prog;go_enter Tryz.func156,Tryz.ntmps156
 go_wp2_with (first
  | (go_at_call 199;refine (trim_calls _ _ _ (by omega) (by decide) (by decide)).mono ?_;rintro e w1 ⟨rfl,hx1⟩;have X1:=qA hx1;clear hx1))
 have hbox:=(Blk.new w [.int .u8 kd,.string key,.string val,.int .i64 num] 74).ext' X1.out;have hx:Ext w w1:=qJ (b:=w.alloc (.cells #[.int .u8 kd,.string key,.string val,.int .i64 num] 74)) ((qK _ w).alloc (qL _) _) X1.out;have hN:=hbox.lt;generalize w.heap.size=N at *;have c2:=hbox.cell 2;have c3:=hbox.cell 3;simp only[qB,qC]at c2 c3;have hk2:∀o,((w1.alloc o).drew).cell? ⟨N,2,none⟩=some (.string val):=λo=>(World.cell?_alloc_past o N 2 hN).trans c2;have hk3:∀o,((w1.alloc o).drew).cell? ⟨N,3,none⟩=some (.int .i64 num):=λo=>(World.cell?_alloc_past o N 3 hN).trans c3;have c1:=hbox.cell 1;have c0:=hbox.cell 0;simp only[qB,qC]at c1 c0;have hk0:∀o,((w1.alloc o).drew).cell? ⟨N,0,none⟩=some (.int .u8 kd):=λo=>(World.cell?_alloc_past o N 0 hN).trans c0;have hk1:∀o,((w1.alloc o).drew).cell? ⟨N,1,none⟩=some (.string key):=λo=>(World.cell?_alloc_past o N 1 hN).trans c1;have HK0:=qA hk0;have HK1:=qA hk1;clear hk0 hk1 c0 c1;have HK2:=qA hk2;have HK3:=qA hk3;clear hk2 hk3;have H1:=qA hbox;have H2:=qA hx;clear hbox hx X1;have hins:=λ(es:List MapEntry) (c:Nat) (k:Int) (v:Value) (hf:Instr.findNow (.int .u8) (.int .u8 k) es 0=some none)=>run_mapUpdate_drew (P:=Tryz.prog) Tryz.underlying280 Tryz.underlying72 rfl w1 _ rfl es c (.int .u8 k) v hf;have i1:=λ(v:Value)=>hins [] 0 1 v rfl;have i21:=λ(a v:Value)=>hins [⟨.int .u8 2,a,0⟩] 1 1 v rfl;have i231:=λ(a b v:Value)=>hins [⟨.int .u8 2,a,0⟩,⟨.int .u8 3,b,1⟩] 2 1 v rfl;have i31:=λ(a v:Value)=>hins [⟨.int .u8 3,a,0⟩] 1 1 v rfl;have i321:=λ(a b v:Value)=>hins [⟨.int .u8 3,a,0⟩,⟨.int .u8 2,b,1⟩] 2 1 v rfl
 have i2:=λ(v:Value)=>hins [] 0 2 v rfl;have i12:=λ(a v:Value)=>hins [⟨.int .u8 1,a,0⟩] 1 2 v rfl;have i132:=λ(a b v:Value)=>hins [⟨.int .u8 1,a,0⟩,⟨.int .u8 3,b,1⟩] 2 2 v rfl;have i32:=λ(a v:Value)=>hins [⟨.int .u8 3,a,0⟩] 1 2 v rfl;have i312:=λ(a b v:Value)=>hins [⟨.int .u8 3,a,0⟩,⟨.int .u8 1,b,1⟩] 2 2 v rfl;have i3:=λ(v:Value)=>hins [] 0 3 v rfl;have i13:=λ(a v:Value)=>hins [⟨.int .u8 1,a,0⟩] 1 3 v rfl;have i123:=λ(a b v:Value)=>hins [⟨.int .u8 1,a,0⟩,⟨.int .u8 2,b,1⟩] 2 3 v rfl;have i23:=λ(a v:Value)=>hins [⟨.int .u8 2,a,0⟩] 1 3 v rfl;have i213:=λ(a b v:Value)=>hins [⟨.int .u8 2,a,0⟩,⟨.int .u8 1,b,1⟩] 2 3 v rfl;clear hins;simp only[List.cons_append,List.nil_append,Nat.reduceAdd]at i1 i21 i231 i31 i321 i2 i12 i132 i32 i312 i3 i13 i123 i23 i213;have EX:Hid (∀o,Ext w1 ((w1.alloc o).drew)):=qA λo=>((qK _ w1).alloc (qL _) o).drew;have XX:Hid (Ext w1 w1.drew):=qA (qK _ w1).drew;have d2:=ExtBy.cell c2;have d3:=ExtBy.cell c3;refine wp_region_firstC (λW=>∃p:ExtBy w1,W=p.W) [1,3,4,5,6,7,8,9,10,11,12,13,14,16,17,18,19,20,21,22,23] 9 (by kernel_rfl) (by kernel_rfl) (λ_ _ _ _ h=>h) ⟨⟨w1.drew,XX.out⟩,rfl⟩ ?_;simp only[opsAt,qD,qC,qB]
 repeat (go_big_quiet_step (fail))
 refine wpQuiet_nil ?_;refine wpAnyH_take (i:=24) (oi:= ?oi) (v:=undef) ?hi ?hs ?hf ?hr ?hQ ?hy ?hS ?rest
 case hi=>(simp only[qD,qC,qB];rfl)
 case hs=>kernel_rfl
 case hf=>kernel_rfl
 case hr=>kernel_rfl
 case hQ=>exact (λ_ _ _ h=>h)
 case hS=>exact⟨⟨w1.drew,XX.out⟩,rfl⟩
 case hy=>exact Or.inr ⟨by rfl,rfl⟩
 (try simp only[Act.put,List.setIfInBounds_toArray,List.set_cons_zero,List.set_cons_succ])
 refine wp_takesC (f:=6) [25,26] (by kernel_rfl) (λ_ _ _ _ h=>h) ⟨⟨w1.drew,XX.out⟩,rfl⟩ ?_;simp only[opsAt,qD,qC,qB]
 repeat (go_big_quiet_step (fail))
 refine wpQuiet_nil ?_;clear d2 d3;refine wpAnyH_ready (rs:=[0]) (by kernel_rfl) (by simp) ?_;refine AllReadyH.cons rfl (λK hK=>?_) AllReadyH.nil
 all_goals
  go_simp;refine hK.out _ _ ⟨⟨_,EX.out _⟩,rfl⟩ (λ_=>?_)
  clear hK K
  (try simp only[Act.put,List.setIfInBounds_toArray,List.set_cons_zero,List.set_cons_succ])
 refine wpAnyH_ready (rs:=[2,15,27]) (by kernel_rfl) (by simp) ?_;refine AllReadyH.cons rfl (λK hK=>?_) (AllReadyH.cons rfl (λK hK=>?_) (AllReadyH.cons rfl (λK hK=>?_) AllReadyH.nil))
 all_goals
  go_simp;refine hK.out _ _ ⟨⟨_,EX.out _⟩,rfl⟩ (λ_=>?_)
  clear hK K
  (try simp only[Act.put,List.setIfInBounds_toArray,List.set_cons_zero,List.set_cons_succ])
 · refine wpAnyH_ready (rs:=[15,27]) (by kernel_rfl) (by simp) ?_
   refine AllReadyH.cons rfl (λK hK=>?_) (AllReadyH.cons rfl (λK hK=>?_) AllReadyH.nil)
   all_goals
    go_simp;refine hK.out _ _ ⟨⟨_,EX.out _⟩,rfl⟩ (λ_=>?_)
    clear hK K
    (try simp only[Act.put,List.setIfInBounds_toArray,List.set_cons_zero,List.set_cons_succ])
   · refine wpAnyH_ready (rs:=[27]) (by kernel_rfl) (by simp) ?_
     refine AllReadyH.cons rfl (λK hK=>?_) AllReadyH.nil
     all_goals
      go_simp;refine hK.out _ _ ⟨⟨_,EX.out _⟩,rfl⟩ (λ_=>?_)
      clear hK K
      (try simp only[Act.put,List.setIfInBounds_toArray,List.set_cons_zero,List.set_cons_succ])
     refine wp_takesC (f:=0) [28,29] (by kernel_rfl) (λ_ _ _ _ h=>h) ⟨⟨_,EX.out _⟩,rfl⟩ ?_;simp only[opsAt,qD,qC,qB]
     repeat (go_big_quiet_step (fail))
     refine wpQuiet_nil ?_;refine wpAnyH_done (by kernel_rfl) ?_ _;clear i1 i21 i231 i31 i321 i2 i12 i132 i32 i312 i3 i13 i123 i23 i213;have q1:=look123 w1;have q2:=look132 w1;have q3:=look213 w1;have q4:=look231 w1;have q5:=look312 w1;have q6:=look321 w1;have k0:=HK0.out;have k1:=HK1.out;cases hk:keyL key.data.toList
     · have HK:=qA hk;clear hk
       go_wp2_with (go_at_call 10;refine (key_calls _ _ HOK.out.2.2.1).mono ?_;rw[HK.out];rintro e w' ⟨rfl,rfl⟩);go_ret;exact⟨ret_bool (by rw[rightB_eq,HK.out];rfl),(H2.out.trans ((qK _ w1).alloc (qL _) _)).drew⟩
     · have HK:=qA hk;clear hk
       go_wp2_with (go_at_call 10;refine (key_calls _ _ HOK.out.2.2.1).mono ?_;rw[HK.out];rintro e w' ⟨rfl,rfl⟩);go_ret;exact⟨ret_bool (by rw[rightB_eq,HK.out,F1.out,F2.out,F3.out];rfl),(H2.out.trans ((qK _ w1).alloc (qL _) _)).drew⟩
   · refine wpAnyH_ready (rs:=[15]) (by kernel_rfl) (by simp) ?_
     refine AllReadyH.cons rfl (λK hK=>?_) AllReadyH.nil
     all_goals
      go_simp;refine hK.out _ _ ⟨⟨_,EX.out _⟩,rfl⟩ (λ_=>?_)
      clear hK K
      (try simp only[Act.put,List.setIfInBounds_toArray,List.set_cons_zero,List.set_cons_succ])
     refine wp_takesC (f:=0) [28,29] (by kernel_rfl) (λ_ _ _ _ h=>h) ⟨⟨_,EX.out _⟩,rfl⟩ ?_;simp only[opsAt,qD,qC,qB]
     repeat (go_big_quiet_step (fail))
     refine wpQuiet_nil ?_;refine wpAnyH_done (by kernel_rfl) ?_ _;clear i1 i21 i231 i31 i321 i2 i12 i132 i32 i312 i3 i13 i123 i23 i213;have q1:=look123 w1;have q2:=look132 w1;have q3:=look213 w1;have q4:=look231 w1;have q5:=look312 w1;have q6:=look321 w1;have k0:=HK0.out;have k1:=HK1.out;cases hk:keyL key.data.toList
     · have HK:=qA hk;clear hk
       go_wp2_with (go_at_call 10;refine (key_calls _ _ HOK.out.2.2.1).mono ?_;rw[HK.out];rintro e w' ⟨rfl,rfl⟩);go_ret;exact⟨ret_bool (by rw[rightB_eq,HK.out];rfl),(H2.out.trans ((qK _ w1).alloc (qL _) _)).drew⟩
     · have HK:=qA hk;clear hk
       go_wp2_with (go_at_call 10;refine (key_calls _ _ HOK.out.2.2.1).mono ?_;rw[HK.out];rintro e w' ⟨rfl,rfl⟩);go_ret;exact⟨ret_bool (by rw[rightB_eq,HK.out,F1.out,F2.out,F3.out];rfl),(H2.out.trans ((qK _ w1).alloc (qL _) _)).drew⟩
 · refine wpAnyH_ready (rs:=[2,27]) (by kernel_rfl) (by simp) ?_
   refine AllReadyH.cons rfl (λK hK=>?_) (AllReadyH.cons rfl (λK hK=>?_) AllReadyH.nil)
   all_goals
    go_simp;refine hK.out _ _ ⟨⟨_,EX.out _⟩,rfl⟩ (λ_=>?_)
    clear hK K
    (try simp only[Act.put,List.setIfInBounds_toArray,List.set_cons_zero,List.set_cons_succ])
   · refine wpAnyH_ready (rs:=[27]) (by kernel_rfl) (by simp) ?_
     refine AllReadyH.cons rfl (λK hK=>?_) AllReadyH.nil
     all_goals
      go_simp;refine hK.out _ _ ⟨⟨_,EX.out _⟩,rfl⟩ (λ_=>?_)
      clear hK K
      (try simp only[Act.put,List.setIfInBounds_toArray,List.set_cons_zero,List.set_cons_succ])
     refine wp_takesC (f:=0) [28,29] (by kernel_rfl) (λ_ _ _ _ h=>h) ⟨⟨_,EX.out _⟩,rfl⟩ ?_;simp only[opsAt,qD,qC,qB]
     repeat (go_big_quiet_step (fail))
     refine wpQuiet_nil ?_;refine wpAnyH_done (by kernel_rfl) ?_ _;clear i1 i21 i231 i31 i321 i2 i12 i132 i32 i312 i3 i13 i123 i23 i213;have q1:=look123 w1;have q2:=look132 w1;have q3:=look213 w1;have q4:=look231 w1;have q5:=look312 w1;have q6:=look321 w1;have k0:=HK0.out;have k1:=HK1.out;cases hk:keyL key.data.toList
     · have HK:=qA hk;clear hk
       go_wp2_with (go_at_call 10;refine (key_calls _ _ HOK.out.2.2.1).mono ?_;rw[HK.out];rintro e w' ⟨rfl,rfl⟩);go_ret;exact⟨ret_bool (by rw[rightB_eq,HK.out];rfl),(H2.out.trans ((qK _ w1).alloc (qL _) _)).drew⟩
     · have HK:=qA hk;clear hk
       go_wp2_with (go_at_call 10;refine (key_calls _ _ HOK.out.2.2.1).mono ?_;rw[HK.out];rintro e w' ⟨rfl,rfl⟩);go_ret;exact⟨ret_bool (by rw[rightB_eq,HK.out,F1.out,F2.out,F3.out];rfl),(H2.out.trans ((qK _ w1).alloc (qL _) _)).drew⟩
   · refine wpAnyH_ready (rs:=[2]) (by kernel_rfl) (by simp) ?_
     refine AllReadyH.cons rfl (λK hK=>?_) AllReadyH.nil
     all_goals
      go_simp;refine hK.out _ _ ⟨⟨_,EX.out _⟩,rfl⟩ (λ_=>?_)
      clear hK K
      (try simp only[Act.put,List.setIfInBounds_toArray,List.set_cons_zero,List.set_cons_succ])
     refine wp_takesC (f:=0) [28,29] (by kernel_rfl) (λ_ _ _ _ h=>h) ⟨⟨_,EX.out _⟩,rfl⟩ ?_;simp only[opsAt,qD,qC,qB]
     repeat (go_big_quiet_step (fail))
     refine wpQuiet_nil ?_;refine wpAnyH_done (by kernel_rfl) ?_ _;clear i1 i21 i231 i31 i321 i2 i12 i132 i32 i312 i3 i13 i123 i23 i213;have q1:=look123 w1;have q2:=look132 w1;have q3:=look213 w1;have q4:=look231 w1;have q5:=look312 w1;have q6:=look321 w1;have k0:=HK0.out;have k1:=HK1.out;cases hk:keyL key.data.toList
     · have HK:=qA hk;clear hk
       go_wp2_with (go_at_call 10;refine (key_calls _ _ HOK.out.2.2.1).mono ?_;rw[HK.out];rintro e w' ⟨rfl,rfl⟩);go_ret;exact⟨ret_bool (by rw[rightB_eq,HK.out];rfl),(H2.out.trans ((qK _ w1).alloc (qL _) _)).drew⟩
     · have HK:=qA hk;clear hk
       go_wp2_with (go_at_call 10;refine (key_calls _ _ HOK.out.2.2.1).mono ?_;rw[HK.out];rintro e w' ⟨rfl,rfl⟩);go_ret;exact⟨ret_bool (by rw[rightB_eq,HK.out,F1.out,F2.out,F3.out];rfl),(H2.out.trans ((qK _ w1).alloc (qL _) _)).drew⟩
 · refine wpAnyH_ready (rs:=[2,15]) (by kernel_rfl) (by simp) ?_
   refine AllReadyH.cons rfl (λK hK=>?_) (AllReadyH.cons rfl (λK hK=>?_) AllReadyH.nil)
   all_goals
    go_simp;refine hK.out _ _ ⟨⟨_,EX.out _⟩,rfl⟩ (λ_=>?_)
    clear hK K
    (try simp only[Act.put,List.setIfInBounds_toArray,List.set_cons_zero,List.set_cons_succ])
   · refine wpAnyH_ready (rs:=[15]) (by kernel_rfl) (by simp) ?_
     refine AllReadyH.cons rfl (λK hK=>?_) AllReadyH.nil
     all_goals
      go_simp;refine hK.out _ _ ⟨⟨_,EX.out _⟩,rfl⟩ (λ_=>?_)
      clear hK K
      (try simp only[Act.put,List.setIfInBounds_toArray,List.set_cons_zero,List.set_cons_succ])
     refine wp_takesC (f:=0) [28,29] (by kernel_rfl) (λ_ _ _ _ h=>h) ⟨⟨_,EX.out _⟩,rfl⟩ ?_;simp only[opsAt,qD,qC,qB]
     repeat (go_big_quiet_step (fail))
     refine wpQuiet_nil ?_;refine wpAnyH_done (by kernel_rfl) ?_ _;clear i1 i21 i231 i31 i321 i2 i12 i132 i32 i312 i3 i13 i123 i23 i213;have q1:=look123 w1;have q2:=look132 w1;have q3:=look213 w1;have q4:=look231 w1;have q5:=look312 w1;have q6:=look321 w1;have k0:=HK0.out;have k1:=HK1.out;cases hk:keyL key.data.toList
     · have HK:=qA hk;clear hk
       go_wp2_with (go_at_call 10;refine (key_calls _ _ HOK.out.2.2.1).mono ?_;rw[HK.out];rintro e w' ⟨rfl,rfl⟩);go_ret;exact⟨ret_bool (by rw[rightB_eq,HK.out];rfl),(H2.out.trans ((qK _ w1).alloc (qL _) _)).drew⟩
     · have HK:=qA hk;clear hk
       go_wp2_with (go_at_call 10;refine (key_calls _ _ HOK.out.2.2.1).mono ?_;rw[HK.out];rintro e w' ⟨rfl,rfl⟩);go_ret;exact⟨ret_bool (by rw[rightB_eq,HK.out,F1.out,F2.out,F3.out];rfl),(H2.out.trans ((qK _ w1).alloc (qL _) _)).drew⟩
   · refine wpAnyH_ready (rs:=[2]) (by kernel_rfl) (by simp) ?_
     refine AllReadyH.cons rfl (λK hK=>?_) AllReadyH.nil
     all_goals
      go_simp;refine hK.out _ _ ⟨⟨_,EX.out _⟩,rfl⟩ (λ_=>?_)
      clear hK K
      (try simp only[Act.put,List.setIfInBounds_toArray,List.set_cons_zero,List.set_cons_succ])
     refine wp_takesC (f:=0) [28,29] (by kernel_rfl) (λ_ _ _ _ h=>h) ⟨⟨_,EX.out _⟩,rfl⟩ ?_;simp only[opsAt,qD,qC,qB]
     repeat (go_big_quiet_step (fail))
     refine wpQuiet_nil ?_;refine wpAnyH_done (by kernel_rfl) ?_ _;clear i1 i21 i231 i31 i321 i2 i12 i132 i32 i312 i3 i13 i123 i23 i213;have q1:=look123 w1;have q2:=look132 w1;have q3:=look213 w1;have q4:=look231 w1;have q5:=look312 w1;have q6:=look321 w1;have k0:=HK0.out;have k1:=HK1.out;cases hk:keyL key.data.toList
     · have HK:=qA hk;clear hk
       go_wp2_with (go_at_call 10;refine (key_calls _ _ HOK.out.2.2.1).mono ?_;rw[HK.out];rintro e w' ⟨rfl,rfl⟩);go_ret;exact⟨ret_bool (by rw[rightB_eq,HK.out];rfl),(H2.out.trans ((qK _ w1).alloc (qL _) _)).drew⟩
     · have HK:=qA hk;clear hk
       go_wp2_with (go_at_call 10;refine (key_calls _ _ HOK.out.2.2.1).mono ?_;rw[HK.out];rintro e w' ⟨rfl,rfl⟩);go_ret;exact⟨ret_bool (by rw[rightB_eq,HK.out,F1.out,F2.out,F3.out];rfl),(H2.out.trans ((qK _ w1).alloc (qL _) _)).drew⟩
theorem right_calls (a:ActD)(w:World)(hok:a.ok):Calls Tryz.prog 156 #[.agg (encAct a).toArray] w λe w'=>e= .returned (.bool (rightB a))/\Ext w w':=by
 by_cases hE:a.value.data.toList=[]
 · exact right_A a w hok hE
 · by_cases hA:a.value.size<=20
   · cases hX:textL a.value.data.toList
     · exact right_D a w hok hE hA hX
     · exact right_C a w hok hE hA hX
   · exact right_B a w hok hE (by omega)
def RightOne:Prop:=∀(a:ActD)(w:World),a.ok->Calls Tryz.prog 156 #[.agg (encAct a).toArray] w λe w'=>e= .returned (.bool (rightB a))/\Ext w w'
theorem right1_calls (hR:RightOne)(a:ActD)(w:World)(hok:a.ok):Calls Tryz.prog 155 #[.agg (encAct a).toArray] w λe w'=>e= .returned (.bool (!rightB a))/\Ext w w':=by
 obtain⟨kd,key,val,num⟩:=a;have HK:=qA hok;clear hok;unfold encAct;go_enter Tryz.func155,Tryz.ntmps155;go_wp2_with fail;refine (hR ⟨kd,key,val,num⟩ _ HK.out).mono ?_;rintro e w' ⟨rfl,hx⟩;have H1:=qA hx;clear hx;go_wp2_with fail;go_ret;exact⟨ret_bool rfl,qJ ((qK _ w).alloc (qL _) _) H1.out⟩
theorem indexFunc_calls (hR:RightOne)(l:List ActD)(ao:Option Addr)(cap:Nat)(w:World)(hl:l.length<=1000000)(hok:∀a∈l,a.ok)(hr:Rows 4 encAct w.heap.size w ao l):
 Calls Tryz.prog 198 #[.slice ao l.length cap,.func (.func 155) #[] #[]] w λe w'=>∃k:Int,e= .returned (.int .i64 k)/\decide (0<=k)= !(l.all rightB)/\Ext w w':=by
 have HR:=qA hr;have H0:=qA hok;have HF:=qA hR;clear hr hok hR;go_enter Tryz.func198,Tryz.ntmps198;go_wp2_with fail;go_loopw [8] (λi wr=>∃(k:Nat),k<=l.length/\i= .int .i64 k/\(l.take k).all rightB=true/\Ext w wr) (λi _=>l.length - (intOf i).toNat)
 case atStart=>exact⟨0,by omega,rfl,by simp,qK _ _⟩
 case round=>
  obtain⟨k,hk,rfl,ha,hx⟩:=hrel;have K1:=qA ha;have K2:=qA hx;clear ha hx;by_cases hlt:k<l.length
  · obtain⟨x,hx⟩:∃x,l[k]? =some x:=⟨_,qE hlt⟩
    have hxok:=H0.out x (qH hx);have htk:(l.take (k+1)).all rightB=((l.take k).all rightB&&rightB x):=by rw[List.take_add_one,hx];simp
    obtain⟨b,off,rfl,hb,hcell⟩:=HR.out (by intro e;rw[e]at hlt;simp at hlt);have hcx:=hcell k x hx;have hmove:∀j,wr.cell? ⟨b,j,none⟩=w.cell? ⟨b,j,none⟩:=λj=>K2.out.cell (p:=⟨b,j,none⟩) hb;have hmem:x∈l:=qH hx;have M:=qA hmem;have TK:=qA htk;have XK:=qA hxok;clear hmem htk hxok hx hcell;obtain⟨kd,key,val,num⟩:=x;have d0:=(hmove _).trans (hcx 0 _ rfl);have d1:=(hmove _).trans (hcx 1 _ rfl);have d2:=(hmove _).trans (hcx 2 _ rfl);have d3:=(hmove _).trans (hcx 3 _ rfl);simp only[Nat.add_zero]at d0;clear hcx hmove;go_wp2_with fail;refine (right1_calls HF.out ⟨kd,key,val,num⟩ _ XK.out).mono ?_;rintro e w' ⟨rfl,hx2⟩;have X2:=qA hx2;clear hx2;cases hrb:rightB ⟨kd,key,val,num⟩
    · have RB:=qA hrb;clear hrb
      go_wp2_with fail;go_ret
      exact⟨k,ret_int (by omega),by
       have:l.all rightB=false:=by rw[List.all_eq_false];exact⟨_,M.out,by simp[RB.out]⟩
       rw[this];simp,qJ K2.out X2.out⟩
    · have RB:=qA hrb;clear hrb
      go_wp2_with fail;go_roundw
      case rel=>exact⟨k+1,by omega,by go_num,by rw[TK.out,K1.out,RB.out];rfl,qJ K2.out X2.out⟩
      case measure=>simp[intOf];omega
  · go_wp2_with fail
    go_ret;exact⟨-1,ret_int (by omega),by have h:=K1.out;rw[List.take_of_length_le (by omega)]at h;rw[h];simp,K2.out⟩
theorem containsFunc_calls (hR:RightOne)(l:List ActD)(ao:Option Addr)(cap:Nat)(w:World)(hl:l.length<=1000000)(hok:∀a∈l,a.ok)(hr:Rows 4 encAct w.heap.size w ao l):
 Calls Tryz.prog 154 #[.slice ao l.length cap,.func (.func 155) #[] #[]] w λe w'=>e= .returned (.bool (!(l.all rightB)))/\Ext w w':=by
 have HR:=qA hr;have H0:=qA hok;have HF:=qA hR;clear hr hok hR;go_enter Tryz.func154,Tryz.ntmps154;go_wp2_with fail;refine (indexFunc_calls HF.out l ao cap _ hl H0.out HR.out).mono ?_;rintro e w' ⟨k,rfl,hk,hx⟩;have X2:=qA hx;have K2:=qA hk;clear hx hk;go_wp2_with fail;go_ret;exact⟨ret_bool (by rw[<- K2.out]),X2.out⟩
theorem rights_calls (hR:RightOne)(l:List ActD)(ao:Option Addr)(cap:Nat)(w:World)(hl:l.length<=1000000)(hok:∀a∈l,a.ok)(hr:Rows 4 encAct w.heap.size w ao l):
 Calls Tryz.prog 80 #[.slice ao l.length cap] w λe w'=>e= .returned (.bool (rightsB l))/\Ext w w':=by
 have HR:=qA hr;have H0:=qA hok;have HF:=qA hR;clear hr hok hR;by_cases h1:1<=l.length
 · by_cases h6:l.length<=6
   · have g1:decide ((1:Int)<=l.length)=true:=by simp;omega
     have g6:decide ((l.length:Int)<=6)=true:=by simp;omega
     go_enter Tryz.func80,Tryz.ntmps80;go_wp2_with fail;refine (containsFunc_calls HF.out l ao cap _ hl H0.out HR.out).mono ?_;rintro e w' ⟨rfl,hx⟩;have X2:=qA hx;clear hx;go_wp2_with fail;go_ret;exact⟨ret_bool (by simp[rightsB,h1,h6]),X2.out⟩
   · have g1:decide ((1:Int)<=l.length)=true:=by simp;omega
     have g6:decide ((l.length:Int)<=6)=false:=by simp;omega
     go_enter Tryz.func80,Tryz.ntmps80;go_wp2_with fail;go_ret;exact⟨ret_bool (by simp[rightsB,h6]),qK _ _⟩
 · have g1:decide ((1:Int)<=l.length)=false:=by simp;omega
   go_enter Tryz.func80,Tryz.ntmps80;go_wp2_with fail;go_ret;exact⟨ret_bool (by simp[rightsB,h1]),qK _ _⟩
end Go.Proofs.YtmpmggejhnmakaaGreatDoor
