/-
  StreamJoins holds: the law returns true at every input, and leaves what it was handed as it was.
  Its conditions: the second form's bound on the arguments' bulk.
-/
import Derived.Test.YtdbgldieilgnmaaGreatDoorCards
import Derived.Test.YtdbgldieilgnmaaGreatDoorTie
import Derived.Test.YtdbgldieilgnmaaGreatDoorK08
namespace Go.Proofs.YtdbgldieilgnmaaGreatDoor.lawStreamJoins
set_option linter.all false
set_option linter.unusedSimpArgs false
open Go.Conc
open Go.ChangeShapes Go.WideShapes Go.ChangeAt Go.RowKit
set_option linter.all false
theorem own:ownKnob Tryz.prog.godebug=none:=by kernel_rfl
theorem x3:laidOutB Tryz.prog=true:=by kernel_rfl
theorem YR(os:Os):laidMet Tryz.prog Rows.streamJoinsRow.laid ((yX os).forCall (fun _ _=>0) ⟨#[],#[.slice none 0 0,.slice none 0 0,.agg #[.int .i64 0,.int .i64 0]],[]⟩).memory :=
 laidMet_of_run' 8 (by kernel_rfl) (by kernel_rfl)
theorem x7(os:Os){H:Type}(enc:TypeId×Value->H):∃ places,DataW.whole enc Tryz.prog ((yX os).forCall (fun _ _=>0) ⟨#[],#[.slice none 0 0,.slice none 0 0,.agg #[.int .i64 0,.int .i64 0]],[]⟩).memory Tryz.f6.params.toList Rows.streamJoinsSpec.vars false (#[.slice none 0 0,.slice none 0 0,.agg #[.int .i64 0,.int .i64 0]]:Array Value).toList 8=some ([.nil,.nil,.agg [.lit (.int .i64 0),.lit (.int .i64 0)]],[],places) :=
 ⟨[],by kernel_rfl⟩
set_option maxRecDepth 100000 in
theorem x1(os:Os)(started:os.Started)(H:Type)(enc:TypeId×Value->H)(F:Stop.Interp):
  ReturnsInLeavingWide {} Tryz.checked os 6 .any ((Rows.OpenSpec.upto Rows.streamJoinsSpec).preRow enc Tryz.prog Tryz.f6 Rows.streamJoinsUptoRow.domain false Rows.streamJoinsUptoRow.laid) (((Rows.OpenSpec.upto Rows.streamJoinsSpec).at F).post enc Tryz.prog Tryz.f6 false true false false):=by
 obtain⟨places,hx⟩:=x7 os enc;refine EL (C:=Tryz.checked) (s:=(Rows.OpenSpec.upto Rows.streamJoinsSpec)) own started Tryz.func6
  (witness_row_at (enc:=enc) (C:=Tryz.checked) false (yX os) #[.slice none 0 0,.slice none 0 0,.agg #[.int .i64 0,.int .i64 0]] rfl (by kernel_rfl) (by kernel_rfl) (by kernel_rfl)
   (OpenSpec.preRow_of_cond 8 hx (by kernel_rfl) (fun k hk=>by cases hk;kernel_rfl) (by kernel_rfl) (YR os))) ?_
 intro W base args ds gs before hval0 hW _ hcnd hsz0 hL ahy _;have hsz:(DataW.weightsEach Tryz.prog (Tryz.f6.params.toList++Rows.streamJoinsSpec.plain.varTypes Tryz.prog) (ds++gs)).all (·<=reachBytes)=true:=hsz0;clear hsz0;have ahg:Rows.uptoSmall H (ds++gs)=true:=hcnd _ rfl;have ag6:lV W:=YH hL (by kernel_rfl);have agQ:EZ W:=acU hL (by kernel_rfl);obtain⟨⟨ε,hst⟩,hmax,ev,hev⟩:=St.aeI ahy hL (by kernel_rfl) (by kernel_rfl);have hval:∀ (j:Nat) t v,Tryz.f6.params[j]? = some t->args[j]? = some v->Value.okWide Tryz.prog W .any base t v:=hval0
 have hW':=hW;obtain⟨p,q,hA0,hV,rfl,hfz,hnd⟩:=hW;have hA:DataW.TrodAll enc Tryz.prog W 0 (fun _=>true) true Tryz.f6.params.toList args.toList ds p:=hA0;rw[Tryz.params6] at hA hval hsz;obtain⟨v0,vs0,d0,ds0,p0,q0,hargs,rfl,rfl,h0,r0⟩:=trodAll_cons hA;obtain⟨v1,vs1,d1,ds1,p1,q1,rfl,rfl,rfl,h1,r1⟩:=trodAll_cons r0;obtain⟨v2,vs2,d2,ds2,p2,q2,rfl,rfl,rfl,h2,r2⟩:=trodAll_cons r1;obtain⟨rfl,rfl,rfl⟩:=trodAll_nil r2;obtain rfl:args=#[v0,v1,v2]:=by cases args;simp_all
 obtain⟨rfl,rfl⟩:=trodVars_none hV;have hsm:Rows.uptoSmall H [d0,d1,d2]=true:=by simpa using ahg
 have k0:=h0;have lt0:∀ x∈p0,x.block<W.heap.size:=by obtain⟨m,hm⟩:=k0;exact DataW.trod_lt m _ _ _ hm
 have k1:=h1;have lt1:∀ x∈p1,x.block<W.heap.size:=by obtain⟨m,hm⟩:=k1;exact DataW.trod_lt m _ _ _ hm
 have k2:=h2;have lt2:∀ x∈p2,x.block<W.heap.size:=by obtain⟨m,hm⟩:=k2;exact DataW.trod_lt m _ _ _ hm
 obtain⟨a0,n0,c0,l0,rfl,x0,y0⟩:=AJ Tryz.underlying22 Tryz.underlying5 (by kernel_rfl) (hval 0 22 v0 rfl rfl) k0 (R6 hsm (by simp));obtain⟨a1,n1,c1,l1,rfl,x1,y1⟩:=AJ Tryz.underlying22 Tryz.underlying5 (by kernel_rfl) (hval 1 22 v1 rfl rfl) k1 (R6 hsm (by simp));obtain⟨m2,rfl,x2,y2⟩:=VI (hval 2 24 v2 rfl rfl) k2;clear hA0 hval0;obtain⟨M,last,o,w',t',g1,g2,g3,g4⟩:=Cc.BW.finish (St.alF (ε:=ε) a0 n0 c0 l0 a1 n1 c1 l1 m2 W ev x0 y0 x1 y1  hmax hev ag6 agQ hst);refine⟨M,last,o,w',t',g1,g2,g3,g4.mono fun v hv=>?_⟩;obtain⟨rfl,bJ⟩:=hv;exact⟨_,_,_,[],_,[],hW',trodAll_mk1 (shut_bool Tryz.underlying4 _),(trodAll_cons_mk (Cc.fI.trod x3 (by kernel_rfl) (of_decide_eq_true (by kernel_rfl)) k0 bJ lt0) (trodAll_cons_mk (Cc.fI.trod x3 (by kernel_rfl) (of_decide_eq_true (by kernel_rfl)) k1 bJ lt1) (trodAll_cons_mk (Cc.fI.trod x3 (by kernel_rfl) (of_decide_eq_true (by kernel_rfl)) k2 bJ lt2) trodAll_mk0))),rfl,Cc.fI.frame bJ _,fun h=>by cases h⟩
theorem x5:joinedFacts Tryz.pinned.checked.prog 6 Tryz.f6 (Rows.OpenSpec.upto Rows.streamJoinsSpec).bare Rows.streamJoinsUptoRow=true:=by kernel_rfl
theorem x6:Tryz.pinned.checked.prog.funcNamed Rows.streamJoinsUptoRow.func=some 6:=by kernel_rfl
theorem inst:Tryz.f6.isInstance Tryz.pinned.checked.prog Rows.streamJoinsUptoRow.origin Rows.streamJoinsUptoRow.targs:=of_decide_eq_true (by kernel_rfl)
theorem wrap:Tryz.f6.isWrapper Tryz.pinned.checked.prog Rows.streamJoinsUptoRow.wrapper Rows.streamJoinsUptoRow.mainSum:=by unfold Func.isWrapper;first|(rw[if_pos (by decide +kernel)];kernel_rfl)|(rw[if_neg (by decide +kernel)];exact⟨rfl,rfl⟩)
theorem aa1(os:Os)(started:os.Started)(H:Type)(enc:TypeId×Value->H)(F:Stop.Interp):ReturnsInLeavingWide Rows.streamJoinsUptoRow.assume Tryz.pinned.checked os 6 .any (Rows.streamJoinsUptoRow.pre enc Tryz.pinned.checked.prog Tryz.f6 (Rows.OpenSpec.upto Rows.streamJoinsSpec)) (((Rows.OpenSpec.upto Rows.streamJoinsSpec).at F).post enc Tryz.pinned.checked.prog Tryz.f6 Rows.streamJoinsUptoRow.apart Rows.streamJoinsUptoRow.fresh Rows.streamJoinsUptoRow.handsOn Rows.streamJoinsUptoRow.again):=by
 rw[OpenClaim.pre_eq_preRow];exact x1 os started H enc F
theorem said:Rows.StreamJoinsUptoSaid :=
 zN 6 Tryz.f6 rfl rfl rfl rfl rfl rfl rfl ⟨rfl,rfl,rfl,rfl,rfl⟩ rfl rfl rfl rfl rfl x6 Tryz.func6 x5 inst wrap
  (fun os started H enc _ F=>aa1 os started H enc F)
theorem goes:true=Rows.streamJoinsUptoRow.goesBy Tryz.pinned.checked.prog:=by kernel_rfl
theorem adu:Rows.streamJoinsUptoRow.wfByText (Rows.OpenSpec.upto Rows.streamJoinsSpec)=true:=by kernel_rfl
theorem plain(f:FuncId)(fn:Func)(hf:Tryz.pinned.checked.prog.funcNamed "valise/valiselaw07.StreamJoins"=some f)(hfn:Tryz.pinned.checked.prog.funcs[f]? = some fn):
  true=Tryz.pinned.checked.prog.looks []/\∀ (j:Nat) t,fn.params[j]? = some t->Tryz.pinned.checked.prog.wantsStandIn t=false:=by
 obtain rfl:f=6:=Option.some.inj ((show Tryz.prog.funcNamed "valise/valiselaw07.StreamJoins"=some 6 by kernel_rfl).symm.trans hf) |>.symm
 obtain rfl:fn=Tryz.f6:=(Option.some.inj (Tryz.func6.symm.trans hfn)).symm;refine⟨by kernel_rfl,fun j t ht=>?_⟩;rw[Tryz.params6] at ht;have hm:=Array.mem_of_getElem? ht;simp only[List.mem_toArray,List.mem_cons,List.not_mem_nil,or_false] at hm;rcases hm with rfl|rfl|rfl
 .exact(show Tryz.prog.wantsStandIn 22=false by kernel_rfl)
 .exact(show Tryz.prog.wantsStandIn 22=false by kernel_rfl)
 .exact(show Tryz.prog.wantsStandIn 24=false by kernel_rfl)
theorem proved:Rows.StreamJoinsUptoCardSaid :=
 vI .later _ _ _ _ _ said adu streamJoinsUpto_row_tie rfl ⟨rfl,rfl⟩ (by kernel_rfl) rfl plain goes
#print axioms proved
end Go.Proofs.YtdbgldieilgnmaaGreatDoor.lawStreamJoins
