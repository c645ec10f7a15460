/- For every two rows of deeds, every span, scheme and epoch: watershedlaw18.TractHandoff answers true, without a panic, and leaves what it was given as it was. The condition: the listed package-level variables of the library hold what their initialisers lay (the card ties this to the program's text). -/
import Derived.Test.YtmpmggejhnmakaaGreatDoorZ46
import Derived.Test.YtmpmggejhnmakaaGreatDoorZ26
import Derived.Test.YtmpmggejhnmakaaGreatDoorZ52
import Derived.Test.YtmpmggejhnmakaaGreatDoorZ01
set_option maxRecDepth 100000
namespace Go.Proofs.YtmpmggejhnmakaaGreatDoor
open Go.ChangeShapes Go.WideShapes Go.ChangeAt Go.RowKit Go.ChangeMaps Go.Joins
theorem tractHandoff_lifted (os:Os)(started:os.Started)(H:Type)(enc:TypeId×Value->H):
 ReturnsInHanded {} Tryz.checked os 4 .any (λw args=>(Rows.tractHandoffSpec.pre enc Tryz.prog Tryz.f4 [] false w args/\laidMetH Tryz.prog laidAllW w)/\sizedMet enc Tryz.prog Tryz.f4 (OpenSpec.ofChange Rows.tractHandoffSpec) false w args)
  (Rows.tractHandoffSpec.post enc Tryz.prog Tryz.f4 false true false false):=by
 refine returnsInHanded_of_change_and (C:=Tryz.checked) (X:=λw _=>laidMetH Tryz.prog laidAllW w) (λ_ _ _ hh h=>h.of_heap hh) own started (by kernel_rfl) Tryz.func4
  (ChangeSpec.witness_shaped (enc:=enc) (C:=Tryz.checked) (os:=os) (X:=λw _=>laidMetH Tryz.prog laidAllW w) false (World.laidAll Tryz.prog os laidAllW) #[.slice none 0 0,.agg #[.string ⟨#[]⟩,.string ⟨#[]⟩],.int .i64 0,.int .i64 0,.slice none 0 0] 8 (World.laidAll_os _ _ _)
    (World.shaped_of_ZipB (by kernel_rfl) (by kernel_rfl)) (by kernel_rfl) (by kernel_rfl) (by kernel_rfl) (door_metW os _)) ?_
 intro W base args ds gs before hval0 hW _ hsz hL _;have hval:∀(j:Nat) t v,Tryz.f4.params[j]? =some t->args[j]? =some v->Value.okWide Tryz.prog W .any base t v:=hval0;have hW':=hW;obtain⟨p,q,hA0,hV,rfl,_,_⟩:=hW;have hA:DataW.TrodAll enc Tryz.prog W 0 (λ_=>true) true Tryz.f4.params.toList args.toList ds p:=hA0;rw[Tryz.params4]at hA hval;have hA':=hA;obtain⟨v0,v1,v2,v3,v4,d0,d1,d2,d3,d4,p0,p1,p2,p3,p4,rfl,rfl,rfl,h0,h1,h2,h3,h4⟩:=trodAll_five hA;obtain⟨rfl,rfl⟩:=trodVars_none hV
 have hz0:(DataW.weights Tryz.prog 22 d0).all (· <=reachBytes)=true:=by
  rw[List.all_eq_true]at hsz ⊢;exact λz hz=>hsz z (DataW.weights_mem_each (j:=0) (t:=22) (by kernel_rfl) rfl z hz)
 obtain⟨fuel0,hf0⟩:=h0;obtain⟨ao0,cap0,x0,hcs0,hl0,hc0,hr0,ha0⟩:=open_deedZ hf0;obtain⟨aq0,nq0,cq0,rfl⟩:=okWide_slice Tryz.underlying22 (hval 0 22 v0 rfl rfl);simp only[Value.cells,List.cons.injEq,and_true]at hcs0;rw[hcs0]at hW' hval hA';rw[hcs0];have hz1:∀z∈DataW.weights Tryz.prog 30 d1,z<=140737488351232:=λz hz=>of_decide_eq_true (List.all_eq_true.1 hsz z (DataW.weights_mem_each (j:=1) (t:=30) (by kernel_rfl) rfl z hz));obtain⟨x1,y1,rfl,mx1,my1⟩:=open_span (hval 1 30 v1 rfl rfl) h1;obtain⟨x2,rfl,rfl,rfl,w2⟩:=open_int Tryz.underlying3 (hval 2 3 v2 rfl rfl) h2;obtain⟨x3,rfl,rfl,rfl,w3⟩:=open_int Tryz.underlying3 (hval 3 3 v3 rfl rfl) h3
 have hz4:(DataW.weights Tryz.prog 22 d4).all (· <=reachBytes)=true:=by
  rw[List.all_eq_true]at hsz ⊢;exact λz hz=>hsz z (DataW.weights_mem_each (j:=4) (t:=22) (by kernel_rfl) rfl z hz)
 obtain⟨fuel4,hf4⟩:=h4;obtain⟨ao4,cap4,x4,hcs4,hl4,hc4,hr4,ha4⟩:=open_deedZ hf4;obtain⟨aq4,nq4,cq4,rfl⟩:=okWide_slice Tryz.underlying22 (hval 4 22 v4 rfl rfl);simp only[Value.cells,List.cons.injEq,and_true]at hcs4;rw[hcs4]at hW' hval hA';rw[hcs4];clear hA0 hval0;simp only[List.append_nil]at hW';have hlv:=lv_of_laid hL;refine (tractHandoff_calls x0 x4 ao0 ao4 cap0 cap4 x1 y1 x2 x3 W hlv (qL _) (by unfold maxLen at hc0;omega) (by unfold maxLen at hc4;omega) hr0 (λz hz=>(ha0 z hz).1) (λz hz=>(ha0 z hz).2 hz0) hr4 (λz hz=>(ha4 z hz).1) (λz hz=>(ha4 z hz).2 hz4) (hz1 _ mx1) (hz1 _ my1)).mono λe W' ⟨he,hb⟩=>?_;subst he;exact⟨_,rfl,_,_,_,[],_,[],hW',trodAll_mk1 (shut_bool Tryz.underlying4 _),below_trodAll laidOut hb (by kernel_rfl) hA' (λx hx=>hW'.lt x (by first | exact hx | simpa using hx)),rfl,hb.frame _,λh=>by cases h⟩
theorem tractHandoff_mayEnter:Tryz.prog.mayEnter=true:=by kernel_rfl
theorem tractHandoff_lifts:(Rows.tractHandoffRow.lifted==Tryz.prog.liftsFinal)=true:=by kernel_rfl
theorem tractHandoff_make:(Tryz.prog.make==some Rows.tractHandoffRow.make)=true:=by kernel_rfl
theorem tractHandoff_heard:Tryz.prog.stopsHeard=true:=by kernel_rfl
theorem tractHandoff_inPlace:(Rows.tractHandoffRow.inPlace==Tryz.prog.inPlace 4)=true:=by kernel_rfl
theorem tractHandoff_unf:(Rows.tractHandoffRow.unfollowed==Tryz.prog.unfollowed 4)=true:=by kernel_rfl
theorem tractHandoff_rec:(Rows.tractHandoffRow.recurses==Tryz.prog.recurses 4)=true:=by kernel_rfl
theorem tractHandoff_named:(Rows.tractHandoffRow.named==Tryz.prog.varsNamed 4)=true:=by kernel_rfl
theorem tractHandoff_plain:(Rows.tractHandoffRow.plainKeys==Tryz.prog.plainKeys)=true:=by kernel_rfl
theorem tractHandoff_closed:joinedFacts Tryz.prog 4 Tryz.f4 Rows.tractHandoffSpec Rows.tractHandoffRow=true:=by
 unfold joinedFacts;simp only[tractHandoff_mayEnter,tractHandoff_lifts,tractHandoff_make,tractHandoff_heard,tractHandoff_inPlace,tractHandoff_unf,tractHandoff_rec,tractHandoff_named,tractHandoff_plain];kernel_rfl
theorem tractHandoff_holds:Rows.TractHandoffSaid:=
 OpenClaim.holds_of_wide 4 Tryz.f4 rfl rfl rfl rfl rfl rfl rfl ⟨rfl,rfl,rfl,rfl,rfl⟩ rfl rfl rfl rfl rfl (by kernel_rfl) Tryz.func4 tractHandoff_closed
  (of_decide_eq_true (by kernel_rfl)) (by unfold Func.isWrapper;first | (rw[if_pos (by decide +kernel)];kernel_rfl) | (rw[if_neg (by decide +kernel)];exact⟨rfl,rfl⟩))
  (λos started H enc _=>tractHandoff_lifted os started H enc)
theorem tractHandoff_main:Tryz.prog.mainIs=some (true, "715d638f859c5fab88b55bdbbcd8c5bc518480dfcc2a6b1699ac170f154e4eae".toList):=by kernel_rfl
theorem tractHandoff_looks:true=Tryz.prog.looks []:=by kernel_rfl
theorem tractHandoff_goes:false=Rows.tractHandoffRow.goesBy Tryz.prog:=by kernel_rfl
theorem tractHandoff_id:Tryz.prog.funcNamed "watershed/watershedlaw18.TractHandoff" =some 4:=by kernel_rfl
theorem tractHandoff_card:Rows.TractHandoffCardSaid:=
 Claim7.holds_tied_plain_at .later [] [.data,.data,.data,.data,.sentinel,.sentinel,.pinned] true (true, "715d638f859c5fab88b55bdbbcd8c5bc518480dfcc2a6b1699ac170f154e4eae") true
  tractHandoff_holds (λ_ h=>by cases h) (by kernel_rfl) (λ_ h=>by cases h) tractHandoff_row_tie rfl ⟨rfl,rfl⟩ tractHandoff_main rfl
  (λf fn hf hfn=>by
    obtain rfl:f=4:=Option.some.inj (tractHandoff_id.symm.trans hf) |>.symm;obtain rfl:fn=Tryz.f4:=(Option.some.inj (Tryz.func4.symm.trans hfn)).symm
    exact⟨tractHandoff_looks,λj t ht=>by
     rw[Tryz.params4]at ht;have hm:t∈[22,30,3,3,22]:=by simpa using Array.mem_of_getElem? ht
     have hall:([22,30,3,3,22].all λu=> !Tryz.prog.wantsStandIn u)=true:=by kernel_rfl
     exact (show Tryz.prog.wantsStandIn t=false by simpa using List.all_eq_true.1 hall t hm)⟩)
  tractHandoff_goes
#print axioms tractHandoff_card
end Go.Proofs.YtmpmggejhnmakaaGreatDoor
