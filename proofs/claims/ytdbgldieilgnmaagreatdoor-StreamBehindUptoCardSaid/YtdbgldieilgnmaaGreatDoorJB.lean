/- JB -/
import Derived.Test.YtdbgldieilgnmaaGreatDoorRows
import Derived.Deep.DeepHandedRow
import Derived.LaidSub
import Derived.Stop.LaidErr
import Derived.Conc.LeavingOf
import Derived.SevenTiedAt
import Derived.Test.YtdbgldieilgnmaaGreatDoorJ21
set_option linter.all false
set_option maxHeartbeats 8000000
set_option maxRecDepth 100000
namespace Go.Proofs.YtdbgldieilgnmaaGreatDoor
open Go.Proofs.Tryz
open Go.Proofs.Tryz renaming prog → qp0
open Go.ChangeShapes Go.WideShapes Go.ChangeAt Go.RowKit
open Go renaming undef → au
section
open Go.ChangeMaps (open_string shut_string)
section
variable {H:Type}{enc:TypeId×Value->H}{P:Program}{w:World}{base:Nat}
theorem wf_u8{z:Int}(h:(Lit.int .u8 z).wf=true):0<=z/\z<256:=by
 have:=bounds_u8 h;omega
theorem wf_i64{z:Int}(h:(Lit.int .i64 z).wf=true):-9223372036854775808<=z/\z<9223372036854775808:=by
 have:=bounds_i64 h;omega
def toU8(z:Int):UInt8:=UInt8.ofNat z.toNat
theorem U7{z:Int}(h0:0<=z)(h1:z<256):jJ (toU8 z)=.int .u8 z:=by
 have:((UInt8.ofNat z.toNat).toNat:Int)=z:=by rw[qbR];omega
 simp only[jJ,toU8,this]
end
end
theorem YH{laid:List (String×DataW Unit)}{W:World}(h:laidMetH qp0 laid W)(hl:(laid.filter fun x=>x.1 == "internal/strconv.uint64pow10")=[("internal/strconv.uint64pow10",Rows.laid_internal_strconv_uint64pow10)]):lV W:=by
 have h1:=h.filter (fun x=>x.1 == "internal/strconv.uint64pow10");rw[hl] at h1;exact Lib.tabIs_of_head (rest:=[]) (n:=20) Za (by kernel_rfl) underlying290 underlying257 (by kernel_rfl) (by kernel_rfl) h1
theorem QG:"*" ++ "errors.errorString" = "*errors.errorString":=by decide
theorem aeb(u:TypeId)(h:qp0.typeName? 3 u=some "*errors.errorString"):u=311 :=typeName_ptr_named (nm := "errors.errorString") (by rw[QG];kernel_rfl) (by kernel_rfl) (by decide) u (by rw[QG];exact h)
def zB:Nat->DataW Unit->List Value
 | 0,_=>[]
 | _+1,.lit (.int k z)=>[.int k z]
 | k+1,.agg ps=>ps.flatMap (zB k)
 | _,_=>[]
def CP(h:Array Obj)(g:Nat)(vs:List Value):Array Obj:=h.modify g fun
 | .cells _ t frozen=>.cells vs.toArray t frozen
 | o=>o
noncomputable def low:Nat:=(World.holding qp0 default ⟨#[],#[],[]⟩).heap.size
noncomputable def yX(os:Os):World :=
 let w0:=World.holding qp0 os ⟨#[.cells #[.string ⟨#[118,97,108,117,101,32,111,117,116,32,111,102,32,114,97,110,103,101]⟩] 313,.cells #[.string ⟨#[105,110,118,97,108,105,100,32,115,121,110,116,97,120]⟩] 313],#[],[]⟩
 let h:=CP w0.heap 6 (zB 3 Rows.laid_math_bits_deBruijn32tab)
 let h:=CP h 7 (zB 3 Rows.laid_math_bits_deBruijn64tab)
 let h:=CP h 1 (zB 3 Rows.laid_internal_strconv_uint64pow10)
 let h:=CP h 3 [.iface 311 (.pointer (some ⟨low,0,none⟩))]
 let h:=CP h 2 [.iface 311 (.pointer (some ⟨low+1,0,none⟩))]
 let h:=CP h 4 (zB 4 Rows.laid_unicode_utf8_first)
 let h:=CP h 5 (zB 4 Rows.laid_unicode_utf8_acceptRanges)
 {w0 with heap:=h}
section
section
variable {H:Type}{enc:TypeId×Value->H}{P:Program}{w:World}{base:Nat}
theorem VN(d:DataW H):1<=Rows.uptoBulk d:=by
 cases d with
 | lit l=>cases l <;> simp[Rows.uptoBulk]
 | nil=>simp[Rows.uptoBulk]
 | ptr d=>simp[Rows.uptoBulk]
 | slice elems spare=>simp[Rows.uptoBulk]
 | agg parts=>simp[Rows.uptoBulk]
 | iface t d=>simp[Rows.uptoBulk]
 | map entries=>simp[Rows.uptoBulk]
 | held h=>simp[Rows.uptoBulk]
theorem Ca:∀ (l:List (DataW H)),l.length<=Rows.uptoBulkAll l
 | []=>by simp[Rows.uptoBulkAll]
 | x::r=>by
  have h1:=VN x;have h2:=Ca r;simp only[Rows.uptoBulkAll,oH];omega
theorem U6{l:List (DataW H)}(h:Rows.uptoSmall H l=true):Rows.uptoBulkAll l<=1048576:=by simpa[Rows.uptoSmall] using h
theorem R6{l:List (DataW H)}(h:Rows.uptoSmall H l=true){d:DataW H}(hd:d∈l):Rows.uptoBulk d<=1048576:=by
 have h0:=U6 h;have hx:∀ (l:List (DataW H)),d∈l->Rows.uptoBulk d<=Rows.uptoBulkAll l:=by
  intro l
  induction l with
  | nil=>intro h;cases h
  | cons x r ih =>
   intro h;simp only[Rows.uptoBulkAll];rcases rD.1 h with rfl|h
   .omega
   .have:=ih h;omega
 have:=hx l hd;omega
theorem AJ{t e:TypeId}{v:Value}{d:DataW H}{p:List MemPlace}{r:Reach}{b0:Nat}(ht:P.underlying t=some (.slice e))(he:P.underlying e=some (.int .u8))(hc:P.cellsOf e=1)(hv:Value.okWide P w r b0 t v)(h:DataW.Trod enc P w 0 (fun _=>true) true t v d p)(hs:Rows.uptoBulk d<=1048576):∃ a n c l,v=.slice a n c/\Bs w a n c l/\c<=1048576:=by
 obtain⟨a,n,c,rfl⟩:=okWide_slice ht hv;obtain⟨fuel,hf⟩:=h;rcases open_ints ht he hc hf with⟨hcs,_⟩|⟨x,l,c',zs,hcs,_,hl,hm,hz,hx,hcell,hwz⟩
 .simp[Value.cells] at hcs;obtain⟨rfl,rfl,rfl⟩:=hcs;exact⟨none,0,0,[],rfl,⟨rfl,aY _,by decide,fun j v hj=>by simp at hj,fun _=>⟨rfl,rfl⟩⟩,by omega⟩
 .simp[Value.cells] at hcs;obtain⟨rfl,rfl,rfl⟩:=hcs;simp only[if_true] at hz;simp only[MV] at hx;obtain⟨rfl,rfl⟩:=hx;have acf:c<=1048576:=by
   simp only[Rows.uptoBulk] at hs;have h1:=Ca (lits (H:=H) IntKind.u8 (zs.take n));have h2:=Ca (lits (H:=H) IntKind.u8 (zs.drop n));simp only[lits,V7,zQ,zW] at h1 h2;simp only[lits] at hs;omega
  refine⟨some x,n,c,(zs.take n).map toU8,rfl,⟨by simp;omega,hl,hm,fun j v hj=>⟨x,rfl,?_⟩,fun h=>by cases h⟩,acf⟩;simp only[List.map_map,qcw,zA,VX] at hj;obtain⟨z,hzj,rfl⟩:=hj;split at hzj
  .have hjl:j<zs.length:=(qbl.1 hzj).1;have hmem:z∈zs:=qbb hzj;obtain⟨w0,w1⟩:=wf_u8 (hwz z hmem);have:=hcell j hjl;simp only[List.getD,hzj,Option.getD_some] at this;simp only[Function.comp,U7 w0 w1];exact this
  .cases hzj
end
end
section
open Go.Conc
section
variable {H:Type}{enc:TypeId×Value->H}
theorem EL{a:Assume}{C:Checked}{os:Os}{f:FuncId}{fn:Func}{s:OpenSpec}{F:Stop.Interp}{conds:List PathCond}{apart fresh handsOn again:Bool}{laid:List (String×DataW Unit)}(own:ownKnob C.prog.godebug=none)(started:os.Started)(hfn:C.prog.funcs[f]? = some fn)(witness:∃ (w:World)(tape:Tape)(i:Input),w.os=os/\(w.forCall tape i).Shaped C.prog/\i.vars=[]/\Input.okWide C.prog (w.forCall tape i) .any w.heap.size f i /\
   s.preRow enc C.prog fn conds apart laid (w.forCall tape i).memory i.args/\a.holds C.prog (lone (Frame.enter C.prog f i.args .normal) [] (w.forCall tape i)))
  (runs:∀ (W:World)(base:Nat)(args:Array Value)(ds gs:List (DataW H))(before:List MemPlace),
   (∀ (j:Nat) t v,fn.params[j]? = some t->args[j]? = some v->Value.okWide C.prog W .any base t v) ->
   DataW.Whole enc C.prog fn.params.toList s.vars apart W args.toList ds gs before ->
   conds.all (PathCond.test C.prog ⟨fn.params.toList,ds,s.bare.plain.varTypes C.prog,gs⟩)=true ->
   (∀ k,s.cond=some k->k H (ds++gs)=true) ->
   (DataW.weightsEach C.prog (fn.params.toList++s.bare.plain.varTypes C.prog) (ds++gs)).all (·<=reachBytes)=true ->
   laidMetH C.prog laid W ->
   W.ShapedOpen C.prog ->
   a.holds C.prog (lone (Frame.enter C.prog f args .normal) [] W) ->
   ∃ M last o w' t',runNT C.prog (M+1) (solo (G (Frame.enter C.prog f args .normal) []) W) #[]=(.ended o w',t')/\runN C.prog M (solo (G (Frame.enter C.prog f args .normal) []) W)=.next last /\
    step C.prog last=.ended o w'/\Conc.Good C.prog (fun v W'=>(s.at F).post enc C.prog fn apart fresh handsOn again W args v W') last o w' t'):ReturnsInLeavingWide a C os f .any (s.preRow enc C.prog fn conds apart laid) ((s.at F).post enc C.prog fn apart fresh handsOn again):=by
 refine returnsInLeavingWide_of_good own started witness ?_;intro w tape i _ hsh _ hok hpre hholds;obtain⟨_,_,_,fn',hfn',_,_,_,_,hval⟩:=hok;have e:fn'=fn:=pQ (hfn'.symm.trans hfn);subst e;obtain⟨⟨hp,hl⟩,hz⟩:=hpre;obtain⟨ds,gs,before,hw,hc,hk⟩:=OpenSpec.pre_parts hp;have hw':=DataW.Whole.of_heap (w':=w.forCall tape i) (by rfl) hw;obtain⟨M,last,o,w',t',h1,h2,h3,h4⟩:=runs (w.forCall tape i) w.heap.size i.args ds gs before hval hw' hc hk (hz.weights hw) (hl.of_heap (by rfl)) hsh hholds;exact⟨M,last,o,w',t',h1,h2,h3,h4.mono fun v hp=>ChangeSpec.post_blind hp⟩
end
theorem zN{p:Pinned}{s:OpenSpec}{c:OpenClaim}(f:FuncId)(fn:Func)(hn:c.program=p.name)(hs:c.sum=p.sum)(hsp:c.spec=s.name)(hstart:c.start=.entering)(hout:c.outside=[])(hin:c.inits=[])(hun:c.under=none)(hi4:c.initsInPlace=[]/\c.initsUnfollowed=false/\c.initsRecurse=false/\c.initsNamed=[]/\c.initsPassed=[])(hnb:c.noBlocks=false)(hlv:c.leaving=true)(hfo:c.followed=none)(hnar:c.narrowed=s.cond.isSome)(hstill:c.still=false)(hfn:p.checked.prog.funcNamed c.func=some f)(hf:p.checked.prog.funcs[f]? = some fn)(closed:joinedFacts p.checked.prog f fn s.bare c=true)(hinst:fn.isInstance p.checked.prog c.origin c.targs)(hwrap:fn.isWrapper p.checked.prog c.wrapper c.mainSum)(h:∀ os:Os,os.Started->∀ (H:Type)(enc:TypeId×Value->H),(∀ a b,enc a=enc b->a=b)->∀ F:Stop.Interp,
   ReturnsInLeavingWide c.assume p.checked os f .any (c.pre enc p.checked.prog fn s) ((s.at F).post enc p.checked.prog fn c.apart c.fresh c.handsOn c.again)):c.holds p s:=by
 simp only[joinedFacts,fE,beq_iff_eq,qbO,Ej,decide_eq_true_eq] at closed;obtain⟨⟨⟨⟨⟨⟨⟨⟨⟨⟨⟨⟨⟨⟨⟨⟨⟨⟨⟨⟨⟨⟨⟨⟨⟨⟨⟨⟨⟨⟨⟨k1,k2⟩,k3⟩,k4⟩,k5⟩,k6⟩,k7⟩,k8⟩,k9⟩,k10⟩,k11⟩,k12⟩,k13⟩,k14⟩,k15⟩,k16⟩,k17⟩,k17b⟩,k18⟩,k19⟩,k20⟩,k21⟩,k22⟩,k23⟩,k23b⟩,k24⟩,k24b⟩,k24c⟩,k25⟩,k26⟩,k27⟩,k28⟩:=closed;have hq:∀ os:Os,Stop.quiet p.checked.prog os:=fun os k hk=>by rw[k9] at hk;cases hk
 refine⟨k1,hn,hs,hsp,k2,k3,by unfold OpenClaim.startFits;rw[hstart];exact k24,by unfold OpenClaim.startTold;rw[hstart];exact⟨hin,hun,hi4⟩,f,fn,hfn,hf,⟨k4,k19⟩,(fun hb=>by rw[hnb] at hb;cases hb),by unfold OpenClaim.namedList;rw[hfo];exact k5,hinst,hwrap,
  k6.trans k7.symm,⟨k8.trans k9.symm,by unfold Program.envWorded;rw[k9];rfl,k23b⟩,k10,k11,k12,k13,k14,⟨k15,k27,k28⟩,⟨k16,k20⟩,⟨k17,k21,k25,k26⟩,⟨k22,k24b,k24c,k17b⟩,(by rw[hout,hnar];cases hsh:c.shortTexts with|none=>simp|some _=>rw[hsh] at k23;cases k23),fun n hn'=>varReadable_some (k18 n hn'),
  ⟨_,by unfold OpenClaim.world;rw[hout,hstart];exact WideRow.started_initial,hq _⟩,[],by unfold OpenClaim.lists;rw[hfo],fun os st _ H enc inj=>?_⟩
 have st':os.Started:=by unfold OpenClaim.world at st;rw[hout,hstart] at st;exact st
 rw[OpenClaim.post_not_still hstill];unfold OpenClaim.form;rw[hstart,k6];intro F;have e1:c.okInput=Input.okWide:=by unfold OpenClaim.okInput;rw[hnb]
 have e2:c.atReturn p.checked.prog=leavingAtReturn p.checked.prog:=by unfold OpenClaim.atReturn;rw[hlv]
 have e3:c.always p.checked.prog []=nothingAlways:=by unfold OpenClaim.always;rw[hfo]
 have e4:s.post enc p.checked.prog fn F c.outside c.apart c.fresh c.handsOn c.again=(s.at F).post enc p.checked.prog fn c.apart c.fresh c.handsOn c.again:=by rw[hout];rfl
 rw[e1,e2,e3];show ReturnsInOpen _ _ _ _ _ _ _ _ (s.post enc p.checked.prog fn F c.outside c.apart c.fresh c.handsOn c.again) _ _;rw[e4];exact h os st' H enc inj F k24
theorem vI(Lk:Looks){p:Pinned}{s:OpenSpec}{c:OpenClaim}(kinds:List LaidKind)(tests:Bool)(har:Bool×String)(lk g:Bool)(hc:c.holds p s)(hw:c.wfByText s=true)(htie:c.laidByTextAt Lk p kinds tests)(hst:c.start=.entering)(hnb:c.noBlocks=false/\c.again=false)(hm:p.checked.prog.mainIs=some (har.1,har.2.toList))(hn:(!har.1&&har.2.isEmpty&&!lk)=false)(hl:∀ f fn,p.checked.prog.funcNamed c.func=some f->p.checked.prog.funcs[f]? = some fn->lk=p.checked.prog.looks []/\∀ (j:Nat) t,fn.params[j]? = some t->p.checked.prog.wantsStandIn t=false)(hg:g=c.goesBy p.checked.prog):Claim7.holds p (.plain s) {stood:={row:=c,standIns:=[],harness:=har,looks:=lk},kinds:=[],alts:=[],goes:=g,laidByText:=true,laidKinds:=kinds,laidTests:=tests,laidLooks:=Lk}:=by
 have h6:∀ r:OpenClaim,Claim7.isSixth {stood:={row:=r,standIns:=[],harness:=har,looks:=lk},kinds:=[]}=false:=fun r=>by simpa[Claim7.isSixth] using hn
 exact⟨Claim7.tied_new_at Lk kinds tests (Claim7.new_of_sixth hc har lk hst hnb hm (h6 c) hl) hw,fun D hD=>(by cases hD),htie,(fun h=>by cases h),hg⟩
end
def QL:DataW Unit->List Int
 | .agg ps=>ps.map fun|.lit (.int _ z)=>z|_=>0
 | _=>[]
theorem afA:qp0.globalNamed "math/bits.deBruijn64tab"=some 7:=by kernel_rfl
theorem acU{laid:List (String×DataW Unit)}{W:World}(h:laidMetH qp0 laid W)(hl:(laid.filter fun x=>x.1 == "math/bits.deBruijn64tab")=[("math/bits.deBruijn64tab",Lib.tabData .u8 (QL Rows.laid_math_bits_deBruijn64tab))]):EZ W:=by
 have h1:=h.filter (fun x=>x.1 == "math/bits.deBruijn64tab");rw[hl] at h1;have ht:=Lib.tabIs_of_head (rest:=[]) (n:=64) afA (by kernel_rfl) underlying316 underlying5 (by kernel_rfl) (by kernel_rfl) h1;have hc:=ht.cell afA 7 (of_decide_eq_true (by kernel_rfl));have e:(QL Rows.laid_math_bits_deBruijn64tab).getD 7 0=3:=by kernel_rfl
 rw[e] at hc;exact hc
section
open Go.Conc
namespace St
open Cc (BW fI)
open Sr (dW iM bU)
noncomputable def Yp(t:TypeId):Bool:=match qp0.cellTypes qp0.depth t with
 | some ts=>ts.all fun u=>match qp0.underlying u with|some (.int _)=>true|_=>false
 | none=>false
theorem WB{W:World}{r:Reach}{b:Nat}{u:TypeId}{v:Value}(hu:(match qp0.underlying u with|some (.int _)=>true|_=>false)=true)(h:Cell.ok qp0 W r b u v):∃ k z,v=.int k z:=by
 unfold Cell.ok at h
 cases hx:qp0.underlying u with
 | none=>rw[hx] at hu;cases hu
 | some x =>
  rw[hx] at hu h
  cases x <;> simp at hu
  cases v <;> simp at h
  exact⟨_,_,rfl⟩
theorem YU{W:World}{r:Reach}{b:Nat}{t:TypeId}{cs:Array Value}(ht:Yp t=true)(h:Row.ok qp0 W r b t cs):∀ (i:Nat) v,cs[i]? = some v->∃ k z,v=.int k z:=by
 obtain⟨ts,h1,_,h3⟩:=h;unfold Yp at ht;rw[h1] at ht;simp only[Ej] at ht;intro i v hv;obtain⟨u,hu,hc⟩:=h3 i v hv;exact WB (ht u (qbb hu)) hc
theorem Ml{W:World}(hs:W.ShapedOpen qp0)(g:Nat)(t:TypeId)(n:Nat)(hg:g<qp0.globals.size)(h0:(((begin qp0 (fun _ _=>0) default).world.heap[g]?).bind Obj.row?).map (fun x=>(x.1.size,x.2))=some (n,t)):∃ cs,W.heap[g]? = some (.cells cs t)/\cs.size=n/\(qp0.buildable t=true->Row.ok qp0 W .any 0 t cs):=by
 cases hx:((begin qp0 (fun _ _=>0) default).world.heap[g]?).bind Obj.row? with
 | none=>rw[hx] at h0;cases h0
 | some p =>
  obtain⟨zero,t'⟩:=p;rw[hx] at h0;simp only[MK,Ba,MV] at h0;obtain⟨e1,rfl⟩:=h0;obtain⟨cs,h1,h2,h3⟩:=hs.1 g zero t' hg hx;exact⟨cs,h1,h2.trans e1,h3⟩
theorem ni{W:World}(hs:W.ShapedOpen qp0)(g:Nat)(t:TypeId)(n:Nat)(hg:g<qp0.globals.size)(h0:(((begin qp0 (fun _ _=>0) default).world.heap[g]?).bind Obj.row?).map (fun x=>(x.1.size,x.2))=some (n,t))(hb:qp0.buildable t=true)(hi:Yp t=true):∃ cs,W.heap[g]? = some (.cells cs t)/\cs.size=n/\∀ (i:Nat) v,cs[i]? = some v->∃ k z,v=.int k z:=by
 obtain⟨cs,h1,h2,h3⟩:=Ml hs g t n hg h0;exact⟨cs,h1,h2,YU hi (h3 hb)⟩
theorem aaX{W:World}{r:Reach}{b:Nat}{cs:Array Value}(h:Row.ok qp0 W r b 3 cs):∀ (i:Nat) v,cs[i]? = some v->∃ z,v=.int .i64 z:=by
 obtain⟨ts,h1,_,h3⟩:=h;rw[show qp0.cellTypes qp0.depth 3=some [3] by kernel_rfl] at h1;obtain rfl:=pQ h1;intro i v hv;obtain⟨u,hu,hc⟩:=h3 i v hv;rw[qcn,Nat.mod_one] at hu;obtain rfl:=pQ hu;unfold Cell.ok at hc;rw[underlying3] at hc
 cases v <;> simp at hc
 obtain⟨rfl,_⟩:=hc;exact⟨_,rfl⟩
theorem Qv{laid:List (String×DataW Unit)}{W:World}{n:String}{g:Nat}{text:List UInt8}(h:laidMetH qp0 laid W)(hl:(laid.filter fun x=>x.1==n)=[(n,.iface "*errors.errorString" (.ptr (.agg [.lit (.string text)])))])(hg:qp0.globalNamed n=some g)(ht:(qp0.globals[g]?).map (·.type)=some 205):∃ a:Addr,W.var? qp0 n=some #[.iface 311 (.pointer (some a))]/\(∃ s,W.cell? a=some (.string s))/\∃ c t,W.heap[a.block]? = some (.cells c t (0,0)):=by
 have h1:=h.filter (fun x=>x.1==n);rw[hl] at h1;have h1:laidMet qp0 _ W:=h1;obtain⟨ps,⟨g0,t0,cs0,f0,p0,q0,hg0,ht0,hv0,hd0,_,e0⟩,_,hrows⟩:=h1;obtain rfl:=pQ (hg.symm.trans hg0);obtain rfl:=pQ (ht.symm.trans ht0);subst e0;obtain⟨l0⟩:=cs0;have ok0:∀ u v,l0=[.iface u v]->Value.okWide qp0 W .any 0 u v:=fun u v e=>by
  subst e;exact(hrows g 0 (by simp[MemPlace.row])).2 u v (by simpa using World.var?_cell hg0 hv0 0)
 obtain⟨a0,s0,rfl,hc0,hs0,hz0,rfl⟩:=errorString_of_trod underlying205 aeb underlying311 underlying313 rfl rfl underlying9 (by kernel_rfl) (by kernel_rfl) hd0 ok0;exact⟨a0,hv0,⟨s0,hc0⟩,(hrows a0.block (a0.off+0) (by simp[MemPlace.row])).1⟩
theorem LD{W:World}{n:String}{g:Nat}{cs:Array Value}(hg:qp0.globalNamed n=some g)(h:W.var? qp0 n=some cs):∃ t f,W.heap[g]? = some (.cells cs t f):=by
 unfold World.var? at h;rw[hg] at h;simp only[Option.bind_some] at h;split at h
 .rename_i c t f hc
  cases h
  exact⟨t,f,hc⟩
 .cases h
theorem Xt:(Sr.LW.all fun f=>decide (f<1000000000)||decide (f%2=0))=true:=by kernel_rfl
theorem acj(b:Nat):Sr.LW.contains (2*b+1000000001)=false:=by
 cases hx:Sr.LW.contains (2*b+1000000001) with
 | false=>rfl
 | true =>
  exfalso;have h:=Xt;rw[Ej] at h;have hm:(2*b+1000000001)∈Sr.LW:=by simpa using hx
  have:=h _ hm;simp only[Yb,decide_eq_true_eq] at this;have this:(2*b+1000000001:Nat)<1000000000\/(2*b+1000000001:Nat)%2=0:=this;omega
theorem Ae:qp0.globals.size=8:=by kernel_rfl
theorem iC{W:World}{a:Addr}{s:ByteArray}{g:Nat}{cs:Array Value}{t:TypeId}{f:Nat×Nat}(hg:W.heap[g]? = some (.cells cs t f))(hn:∀ (i:Nat) s,cs[i]?≠some (.string s))(h:W.cell? a=some (.string s)):a.block≠g:=by
 rintro rfl;unfold World.cell? at h;rw[hg] at h;simp only at h;split at h
 .cases h
 .exact hn _ _ h
theorem aeI{laid:List (String×DataW Unit)}{W:World}(hs:W.ShapedOpen qp0)(hl:laidMetH qp0 laid W)(e1:(laid.filter fun x=>x.1 == "strconv.ErrRange")=[("strconv.ErrRange",Rows.laid_strconv_ErrRange)])(e2:(laid.filter fun x=>x.1 == "strconv.ErrSyntax")=[("strconv.ErrSyntax",Rows.laid_strconv_ErrSyntax)]):(∃ ε,bU qp0 (dW ε) (fun _=>False) (fun b=>b<8) #[] W)/\uF W/\∃ ev,eO W ev:=by
 obtain⟨a,va,⟨sa,ca⟩,oa⟩:=Qv (n := "strconv.ErrRange") (g:=3) hl e1 (by kernel_rfl) (by kernel_rfl);obtain⟨b,vb,⟨sb,cb⟩,ob⟩:=Qv (n := "strconv.ErrSyntax") (g:=2) hl e2 (by kernel_rfl) (by kernel_rfl);obtain⟨ta,fa,ha⟩:=LD (g:=3) (by kernel_rfl) va;obtain⟨tb,fb,hb⟩:=LD (g:=2) (by kernel_rfl) vb;obtain⟨c0,h0,n0,i0⟩:=ni hs 0 3 1 (by rw[Ae];decide) (by kernel_rfl) (by kernel_rfl) (by kernel_rfl);obtain⟨c1,h1,n1,i1⟩:=ni hs 1 290 20 (by rw[Ae];decide) (by kernel_rfl) (by kernel_rfl) (by kernel_rfl);obtain⟨c4,h4,n4,i4⟩:=ni hs 4 307 256 (by rw[Ae];decide) (by kernel_rfl) (by kernel_rfl) (by kernel_rfl);obtain⟨c5,h5,n5,i5⟩:=ni hs 5 310 32 (by rw[Ae];decide) (by kernel_rfl) (by kernel_rfl) (by kernel_rfl);obtain⟨c6,h6,n6,i6⟩:=ni hs 6 315 32 (by rw[Ae];decide) (by kernel_rfl) (by kernel_rfl) (by kernel_rfl);obtain⟨c7,h7,n7,i7⟩:=ni hs 7 316 64 (by rw[Ae];decide) (by kernel_rfl) (by kernel_rfl) (by kernel_rfl);have l8:∀ g,g<8->g<W.heap.size:=by
  intro g hg;have lt:∀ {g:Nat}{o:Obj},W.heap[g]? = some o->g<W.heap.size:=fun h=>(fT.1 h).1
  rcases (by omega:g=0\/g=1\/g=2\/g=3\/g=4\/g=5\/g=6\/g=7) with rfl|rfl|rfl|rfl|rfl|rfl|rfl|rfl
  .exact lt h0
  .exact lt h1
  .exact lt hb
  .exact lt ha
  .exact lt h4
  .exact lt h5
  .exact lt h6
  .exact lt h7
 have Ut:∀ {cs:Array Value},(∀ (i:Nat) v,cs[i]? = some v->∃ k z,v=.int k z)->∀ (i:Nat) s,cs[i]?≠some (.string s):=by
  intro cs h i s e;obtain⟨k,z,e2⟩:=h i _ e
  cases e2
 have aeP:∀ {t:TypeId} {p:Value} (i:Nat) s,(#[Value.iface t p]:Array Value)[i]?≠some (.string s):=by
  intro t p i s e;rcases i with _|i
  .simp at e
  .simp at e
 have far:∀ {x:Addr}{s:ByteArray},W.cell? x=some (.string s)->8<=x.block:=by
  intro x s hx;have q0:=iC h0 (Ut i0) hx;have q1:=iC h1 (Ut i1) hx;have q2:=iC hb aeP hx;have q3:=iC ha aeP hx;have q4:=iC h4 (Ut i4) hx;have q5:=iC h5 (Ut i5) hx;have q6:=iC h6 (Ut i6) hx;have q7:=iC h7 (Ut i7) hx;have q2:x.block≠2:=q2;have q3:x.block≠3:=q3;have q0:x.block≠0:=q0;have q1:x.block≠1:=q1;have q4:x.block≠4:=q4;have q5:x.block≠5:=q5;have q6:x.block≠6:=q6;have q7:x.block≠7:=q7;omega
 have fa:=far ca;have fb:=far cb;have lx:∀ g:Nat,dW (a.block,b.block) (2*g+1000000001)=true↔g=a.block\/g=b.block:=by
  intro g;unfold dW;rw[acj];simp only[Bool.false_or,Yb,beq_iff_eq];constructor
  .rintro (h|h)
   .have h:(2*g+1000000001:Nat)=2*a.block+1000000001:=h;omega
   .have h:(2*g+1000000001:Nat)=2*b.block+1000000001:=h;omega
  .rintro (rfl|rfl)
   .exact .inl rfl
   .exact .inr rfl
 have ints:∀ {cs:Array Value},(∀ (i:Nat) v,cs[i]? = some v->∃ k z,v=.int k z)->Sr.AV (Sr.mQ fun b=>b<8) (dW (a.block,b.block)) cs cs:=by
  intro cs h;refine dz fun u hu=>?_
  obtain⟨i,hi,rfl⟩:=qbz hu;obtain⟨k,z,e⟩:=h i _ (by rw[<-qaV];exact kM hi);rw[e];exact .int _ _
 have afZ:dW (a.block,b.block) (2*311+1000000000)=true:=by
  unfold dW;rw[show Sr.LW.contains (2*311+1000000000)=true by kernel_rfl];rfl
 refine⟨⟨(a.block,b.block),⟨fun b hb=>hb.elim,⟨⟨fun a a' b h h'=>h.1.trans h'.1.symm,fun a b b' h h'=>h.1.symm.trans h'.1⟩,fun g hg b h=>h.1.symm,fun g hg a h=>h.1,fun g hg=>⟨rfl,by rw[Ae] at hg;exact hg⟩⟩,fun g hg=>l8 g hg,⟨fun x y hxy=>?_,fun g hg=>?_,fun x y hxy=>?_⟩,.nil⟩⟩,?_,?_⟩
 .obtain⟨rfl,hx⟩:=hxy;rcases (by omega:x=0\/x=1\/x=2\/x=3\/x=4\/x=5\/x=6\/x=7) with rfl|rfl|rfl|rfl|rfl|rfl|rfl|rfl
  .rw[show W.heap[0]? = _ from h0];exact .some (.cells _ _ _ _ (ints i0))
  .rw[show W.heap[1]? = _ from h1];exact .some (.cells _ _ _ _ (ints i1))
  .rw[show W.heap[2]? = _ from hb];exact .some (.cells _ _ _ _ (dz (by intro u hu;simp at hu;subst hu;exact .tJ _ _ afZ ((lx _).2 (.inr rfl)))))
  .rw[show W.heap[3]? = _ from ha];exact .some (.cells _ _ _ _ (dz (by intro u hu;simp at hu;subst hu;exact .tJ _ _ afZ ((lx _).2 (.inl rfl)))))
  .rw[show W.heap[4]? = _ from h4];exact .some (.cells _ _ _ _ (ints i4))
  .rw[show W.heap[5]? = _ from h5];exact .some (.cells _ _ _ _ (ints i5))
  .rw[show W.heap[6]? = _ from h6];exact .some (.cells _ _ _ _ (ints i6))
  .rw[show W.heap[7]? = _ from h7];exact .some (.cells _ _ _ _ (ints i7))
 .rcases (lx g).1 hg with rfl|rfl
  .obtain⟨c,t,h⟩:=oa;exact⟨c,t,h,h⟩
  .obtain⟨c,t,h⟩:=ob;exact⟨c,t,h,h⟩
 .obtain⟨rfl,hx⟩:=hxy;have:dW (a.block,b.block) (2*x+1000000001)=false:=by
   cases hq:dW (a.block,b.block) (2*x+1000000001) with
   | false=>rfl
   | true=>rcases (lx x).1 hq with rfl|rfl <;> omega
  exact⟨this,this⟩
 .obtain⟨cs,g0,g1,g2⟩:=Ml hs 0 3 1 (by rw[Ae];decide) (by kernel_rfl);obtain⟨z,e⟩:=aaX (g2 (by kernel_rfl)) 0 _ (mJ (by omega));refine⟨z,?_⟩;rw[cell_of_row _ _ _ _ _ _ (show W.heap[0]? = _ from g0),mJ (by omega),e]
 .refine⟨_,World.var?_cell (by kernel_rfl) va 0 |>.trans rfl,_,_,rfl⟩
end St
end
section
variable {H:Type}{enc:TypeId×Value->H}{w:World}
theorem He{P:Program}{t:TypeId}{fuel:Nat}{cs:List Value}{d:DataW H}{p:List MemPlace}(ht:P.underlying t=some (.int .i64))(h:DataW.trod enc P w 0 (fun _=>true) true fuel t cs=some (d,p)):∃ z,cs=[.int .i64 z]/\iF z=true:=by
 obtain⟨z,rfl,_,hz⟩:=DataW.trod_int ht h;have:=wf_i64 hz;exact⟨z,rfl,(gM z).2 ⟨this.1,by omega⟩⟩
end
section
variable {H:Type}{enc:TypeId×Value->H}{w:World}
theorem YD{fuel:Nat}{cs:List Value}{d:DataW H}{p:List MemPlace}(h:DataW.trod enc qp0 w 0 (fun _=>true) true fuel 24 cs=some (d,p)):∃ l:kG,cs=[.int .i64 l.name,.int .i64 l.iP]/\iF l.name=true/\iF l.iP=true:=by
 obtain⟨ys,n,_,hx,hlen,hyl,hf⟩:=DataW.trod_struct underlying24 h;simp only[MV] at hx;obtain⟨rfl,rfl⟩:=hx;have hc:qp0.cellsOf 24=2:=by kernel_rfl
 have hci:qp0.cellsOf 3=1:=by kernel_rfl
 rw[hc] at hlen
 match cs,hlen,ys,hyl,hf with
 | [c0,c1],_,[y0,y1],_,hf =>
  have h0:DataW.trod enc qp0 w 0 (fun _=>true) true n 3 [c0]=some y0:=by have:=hf 0 _ rfl;simpa[hci] using this
  have h1:DataW.trod enc qp0 w 0 (fun _=>true) true n 3 [c1]=some y1:=by have:=hf 1 _ rfl;simpa[hci] using this
  obtain⟨x,e0,l0⟩:=He underlying3 h0;obtain⟨y,e1,l1⟩:=He underlying3 h1;simp only[qbo,and_true] at e0 e1;subst e0 e1;exact⟨⟨x,y⟩,rfl,l0,l1⟩
theorem VI{v:Value}{d:DataW H}{p:List MemPlace}{r:Reach}{b0:Nat}(hv:Value.okWide qp0 w r b0 24 v)(h:DataW.Trod enc qp0 w 0 (fun _=>true) true 24 v d p):∃ l:kG,v=St.nV l/\iF l.name=true/\iF l.iP=true:=by
 obtain⟨cs,rfl,_⟩:=okWide_struct underlying24 hv;obtain⟨fuel,hf⟩:=h;obtain⟨l,e,r⟩:=YD hf;exact⟨l,congrArg Value.agg (qcy e),r⟩
end
theorem aix(s n:Int)(w:World):(binOp .eql 40 (.agg #[.int .i64 s,.int .i64 n]) (.agg #[.int .i64 s,.int .i64 n])).run qp0 w=.ok (.bool true) w:=by
 rw[run_eql_struct,run_equalIn_agg w 9999 40 _ _ (by kernel_rfl) (by kernel_rfl)];have hs:∀ (d:Nat)(a b:Int),(Op.equalIn (d+1) 3 (.int .i64 a) (.int .i64 b)).run qp0 w=.ok (a==b) w:=fun d a b=>run_equalIn_int w d 3 .i64 .i64 a b underlying3
 have hp0:∀ (u v:Value),(part 3 #[u,v] 0).run qp0 w=.ok u w:=fun u v=>by simp[part,isAgg,run_underlying underlying3]
 have hp1:∀ (u v:Value),(part 3 #[u,v] 1).run qp0 w=.ok v w:=fun u v=>by simp[part,isAgg,run_underlying underlying3]
 simp[Program.fieldsOf,underlying40,Op.eqFields,hs,hp0,hp1,hs 9998]
theorem ah8(e:En)(s t:Option Addr×Nat×Nat)(w:World)(h:Bs w s.1 s.2.1 s.2.2 e.data)(k:Bs w t.1 t.2.1 t.2.2 e.data):Calls qp0 49 #[.agg (sS (e,s)),.agg (sS (e,t))] w fun r w'=>r=.returned (.bool true)/\Below w.heap.size w w':=by
 obtain⟨k0,name,link,mode,uid,gid,user,group,sec,nano,data⟩:=e;obtain⟨a,n,c⟩:=s;obtain⟨b,m,d⟩:=t;simp only at h k;have hq:=aix sec nano;have hb2:=(((Below.refl w.heap.size w).alloc (aY _) (.cells (sS (⟨k0,name,link,mode,uid,gid,user,group,sec,nano,data⟩,(a,n,c))) 42)).alloc (by simp) (.cells (sS (⟨k0,name,link,mode,uid,gid,user,group,sec,nano,data⟩,(b,m,d))) 42));simp only[sS,ru] at hb2 ⊢;have HB:=ah hb2;have HH:=ah h;have HK:=ah k;have HSB:Hid (∀ w,Bs w a n c data->Bs w b m d data->Calls qp0 19 #[.slice a n c,.slice b m d] w fun e w'=>e=.returned (.bool true)/\Below w.heap.size w w'):=ah (fun w h1 h2=>by have:=ah9 a b n m c d data data w h1 h2;rw[uQ (rfl:data=data)] at this;exact this);clear hb2 h k;go_enter func49,ntmps49;go_wp2_with (go_at_call 19;(refine(HSB.out _ (by exact Below.bs HB.out HH.out) (by exact Below.bs HB.out HK.out)).mono ?_);rintro r w1 ⟨rfl,hb1⟩)
 go_ret;exact⟨rfl,Below.seq HB.out hb1⟩
theorem Ah{w:World}{b o:Nat}{x:EU}(h:w.rangeAt b o (fG x))(j:Nat)(hj:j<11):w.cell? ⟨b,o+j,none⟩=(sS x)[j]?:=by
 have hs:(sS x).size=11:=rfl;have e:(fG x)[j]? = (sS x)[j]?:=by simp[fG]
 have e2:(sS x)[j]? = some ((sS x)[j]'(by rw[hs];exact hj)):=mJ _;rw[h j _ (e.trans e2),e2]
theorem ah3(a b:Option Addr)(n m c d:Nat)(S T:List EU)(w:World)(ha:Qg w a n c S)(hb:Qg w b m d T)(he:S.map (·.1)=T.map (·.1)):Calls qp0 23 #[.slice a n c,.slice b m d] w fun r w'=>r=.returned (.bool true)/\Below w.heap.size w w':=by
 have hx:=ha.len;have hy:=hb.len;have c1:=ha.cap;have c2:=hb.cap;have m1:=ha.max;have m2:=hb.max;obtain rfl:n=m:=by rw[<-hx,<-hy];have:=congrArg List.length he;simpa using this
 have hn:((n:Int) != n)=false:=by simp
 have HX:=ah hx;have HY:=ah hy;have HA:=ah ha;have HB:=ah hb;have HE:=ah he;clear hx hy ha hb he;go_enter func23,ntmps23;go_wp2
 go_loopw [5] (fun i wr=>∃ k:Nat,k<=n/\i=.int .i64 k/\Hid (Below w.heap.size w wr)) (fun i _=>n-(intOf i).toNat)
 case atStart=>exact⟨0,M8 _,rfl,ah (Below.refl _ _)⟩
 case round =>
  obtain⟨k,hk,rfl,hbel⟩:=hrel;by_cases hlt:k<n
  .obtain⟨b1,o1,rfl,h1⟩:=(HA.out.below hbel.out).at k hlt;obtain⟨b2,o2,rfl,h2⟩:=(HB.out.below hbel.out).at k hlt;have hd1:=(HA.out.below hbel.out).acD k hlt;have hd2:=(HB.out.below hbel.out).acD k hlt;have hee:(S.getD k Zk).1=(T.getD k Zk).1:=by
    have l1:k<S.length:=by have:=HX.out;omega
    have l2:k<T.length:=by have:=HY.out;omega
    have:=congrArg (fun l=>l[k]?) HE.out;simpa[List.getD,kM l1,kM l2] using this
   generalize S.getD k Zk=x at *
   generalize T.getD k Zk=y at *
   obtain⟨e,s⟩:=x;obtain⟨e',t⟩:=y;simp only at hee hd1 hd2;subst hee;have HS:=ah (ah8 e s t (wr.drew) hd1 hd2);have HC:=ah (fun w' (hb:Below wr.heap.size wr w')=>ah8 e s t w' (Below.bs hb hd1) (Below.bs hb hd2));clear hd1 hd2;have g0:=Ah h1 0 (by decide);have f0:=Ah h2 0 (by decide);have g1:=Ah h1 1 (by decide);have f1:=Ah h2 1 (by decide);have g2:=Ah h1 2 (by decide);have f2:=Ah h2 2 (by decide);have g3:=Ah h1 3 (by decide);have f3:=Ah h2 3 (by decide);have g4:=Ah h1 4 (by decide);have f4:=Ah h2 4 (by decide);have g5:=Ah h1 5 (by decide);have f5:=Ah h2 5 (by decide);have g6:=Ah h1 6 (by decide);have f6:=Ah h2 6 (by decide);have g7:=Ah h1 7 (by decide);have f7:=Ah h2 7 (by decide);have g8:=Ah h1 8 (by decide);have f8:=Ah h2 8 (by decide);have g9:=Ah h1 9 (by decide);have f9:=Ah h2 9 (by decide);have g10:=Ah h1 10 (by decide);have f10:=Ah h2 10 (by decide);clear h1 h2;obtain⟨k0,name,link,mode,uid,gid,user,group,sec,nano,data⟩:=e;obtain⟨sa,sn,sc⟩:=s;obtain⟨ta,tn,tc⟩:=t
   simp only[sS,ru,List.getElem?_toArray,List.getElem?_cons_zero,List.getElem?_cons_succ,R4] at g0 f0 g1 f1 g2 f2 g3 f3 g4 f4 g5 f5 g6 f6 g7 f7 g8 f8 g9 f9 g10 f10 HS HC;go_wp2
   go_still_tail 8,(by kernel_rfl)
   change wpList _ _ _ _ _ wr.drew
   go_wp2_with (go_at_call 49;(refine HS.out.mono ?_);rintro r w3 ⟨rfl,hb3⟩)
   exact⟨⟨k+1,by omega,by go_num,ah (Below.seq (hbel.out.trans ((Below.refl _ _).drew)) hb3)⟩,by simp[intOf];omega⟩
  .obtain rfl:k=n:=by omega
   go_wp2
   go_ret;exact⟨rfl,hbel.out⟩
theorem aip(a b:Option Addr)(n m c d:Nat)(S T:List EU)(code off held:Int)(w:World)(ha:Qg w a n c S)(hb:Qg w b m d T)(he:S.map (·.1)=T.map (·.1)):Calls qp0 17 #[.agg #[.slice a n c,.int .i64 code,.int .i64 off,.int .i64 held],.agg #[.slice b m d,.int .i64 code,.int .i64 off,.int .i64 held]] w fun r w'=>r=.returned (.bool true)/\Below w.heap.size w w':=by
 have HS:=ah (fun w' (hb':Below w.heap.size w w')=>ah3 a b n m c d S T w' (ha.below hb') (hb.below hb') he);have hb2:=(((Below.refl w.heap.size w).alloc (aY _) (.cells #[.slice a n c,.int .i64 code,.int .i64 off,.int .i64 held] 30)).alloc (by simp) (.cells #[.slice b m d,.int .i64 code,.int .i64 off,.int .i64 held] 30));have HB:=ah hb2;clear ha hb he hb2;go_enter func17,ntmps17;go_wp2_with (go_at_call 23;(refine(HS.out _ (by exact HB.out)).mono ?_);rintro r w1 ⟨rfl,hb1⟩)
 go_ret;exact⟨rfl,Below.seq HB.out hb1⟩
section
open Go.Conc
open Cc (tp)
namespace St
open Cc (BW fI okA gW)
open Sr (dW iM bU)
theorem Qj{w w':World}{B sz n:Nat}{e:TypeId}{v:Value}{xs:List Value}(h:w.ownsRow B e sz v n xs)(hb:fI w w'):w'.ownsRow B e sz v n xs:=Gr.gJ h fun b hbl=>hb.block b (h.lt b hbl).2
theorem kF.bJ{w w':World}{B n:Nat}{v:Value}{l:List UInt8}(h:kF w B v n l)(hb:fI w w'):kF w' B v n l:=h.kept fun b hbl=>hb.block b (h.own.lt b hbl).2
theorem Vf.keep{w y y':World}{R:Plain.Pz}{v:Value}(h:Vf w R v y)(hb:fI y y'):Vf w R v y':=by
 obtain⟨⟨x,n,cp,Q,h1,h2,h3,h4⟩,h5⟩:=h;exact⟨⟨x,n,cp,Q,h1,h2,Qj h3 hb,fun e he=>Qj (h4 e he) hb⟩,h5.seq hb⟩
theorem Vf.base{w w1 y:World}{R:Plain.Pz}{v:Value}(h:Vf w1 R v y)(hb:fI w w1):Vf w R v y:=by
 obtain⟨⟨x,n,cp,Q,h1,h2,h3,h4⟩,h5⟩:=h;exact⟨⟨x,n,cp,Q,h1,h2,World.ownsRow.mono h3 hb.size,fun e he=>World.ownsRow.mono (h4 e he) hb.size⟩,hb.seq h5⟩
def zPs:Array Value:=#[.slice none 0 0,.int .i64 0,.int .i64 0,.int .i64 0]
theorem rT{A:Act}{t:Nat}{v:Value}(h:t<A.tmps.size):(A.put (some t) v).tmps.getD t au=v:=gq h
theorem nk{A:Act}{t j:Nat}{v:Value}(h:j≠t):(A.put (some t) v).tmps.getD j au=A.tmps.getD j au:=getD_set_ne (Ao h)
theorem sH{o:Oper}(h:o.guard=none)(f:Nat->Option Bool):Region.wanted o f=true:=by unfold Region.wanted;rw[h]
end St
end
namespace Plain
theorem RH{d:List UInt8}{lim:kG}(h:eT lim=true):jA d lim=sgo d lim 0 bW.zero:=by unfold jA sgo;rw[if_pos h]
theorem Yw{d:List UInt8}{lim:kG}(h:eT lim=false):jA d lim=Qy:=by unfold jA;rw[h];rfl
theorem ajk(d more:List UInt8)(lim:kG)(h0:(jA d lim).code=0):1024<=(jA d lim).off/\(jA d lim).off<=d.length/\(∀ i,(jA d lim).off - 1024<=i->i<(jA d lim).off->d[i]? = some 0)/\jA (d.take (jA d lim).off++more) lim=jA d lim:=by
 have h:eT lim=true:=by
  cases h:eT lim with
  | false=>rw[Yw h] at h0;cases h0
  | true=>rfl
 have hoff:=ZT d lim 0 bW.zero (M8 _);rw[RH h] at h0 ⊢;obtain⟨x,hx,z1,z2⟩:=hoff.2.2.2 h0;have hle:=hoff.2.1;refine⟨by omega,hle,fun i hi1 hi2=>?_,?_⟩
 .have key:∀ o j,eH d o (o+512)=cZ->j<512->d[o+j]? = some 0:=by
   intro o j hz hj;have:(eH d o (o+512))[j]? = cZ[j]?:=by rw[hz]
   unfold eH at this;rw[qbE,List.getElem?_take_of_lt (by omega)] at this;rw[this];unfold cZ;rw[List.getElem?_replicate,if_pos hj]
  rw[hx] at hi1 hi2;by_cases hi:i<x+512
  .have:=key x (i-x) z1 (by omega)
   rwa [show x+(i-x)=i by omega] at this
  .have:=key (x+512) (i-(x+512)) z2 (by omega)
   rwa [show x+512+(i-(x+512))=i by omega] at this
 .rw[RH h];generalize hO:(sgo d lim 0 bW.zero).off=O at *
  have hl:(d.take O).length=O:=by rw[zQ];omega
  have ha:=ajr (d.take O) (d.drop O) lim 0 bW.zero (M8 _);rw[qbh,hl] at ha;have h1:=ha.2.2.1 h0 (by omega);have hb:=ajr (d.take O) more lim 0 bW.zero (M8 _);rw[h1];exact hb.2.2.2 (by rw[<-h1];exact h0)
end Plain
section
open Go.Conc
namespace Cc
def aiz:Nat->List (List Bool)
 | 0=>[[]]
 | n+1=>(aiz n).flatMap fun l=>[true::l,false::l]
theorem aib:∀ l:List Bool,l∈aiz l.length
 | []=>by simp[aiz]
 | b::l=>by
  simp only[oH,aiz,List.mem_flatMap];refine⟨l,aib l,?_⟩
  cases b <;> simp
def aiJ(ops:Array Oper)(deps:List (List Nat)):Bool :=(aiz ops.size).all fun l=>(Region.ready .any ops l.toArray).all (fun i=>decide (i<ops.size)&&!(l.getD i true)&&(deps.getD i []).all fun j=>l.getD j false)&&(!(Region.ready .any ops l.toArray).isEmpty||l.all id)
theorem count_set:∀ (l:List Bool)(i:Nat),l.getD i true=false->(l.set i true).count false+1=l.count false
 | [],i,h=>by simp at h
 | b::l,0,h=>by
  simp at h;subst h;simp
 | b::l,i+1,h=>by
  have:=count_set l i (by simpa using h)
  cases b <;> simp <;> omega
section
variable {P:Program}{ops:Array Oper}{b:Frame}{k:List Item}{cs:List Frame}{Φ:Goroutine->World->Prop}
theorem aiu(deps:List (List Nat))(hc:aiJ ops deps=true)(I:List Bool->Act->World->Prop)(hs:∀ l i A y rest,l.length=ops.size->I l A y->i<ops.size->l.getD i true=false->(∀ j∈deps.getD i [],l.getD j false=true)->(∀ A' y',I (l.set i true) A' y'->BW P (G (b.at A' (.inRegion ops rest::k)) cs) y' Φ)->BW P (G (b.at A (.inRegion ops (i::rest)::k)) cs) y Φ)(he:∀ l A y,l.length=ops.size->I l A y->l.all id=true->BW P (G (b.at A (.inRegion ops []::k)) cs) y Φ):∀ (fuel:Nat)(l:List Bool)(A:Act)(y:World),l.length=ops.size->l.count false<=fuel->I l A y->gW P .any ops b k cs Φ fuel l.toArray A y:=by
 have key:∀ l:List Bool,l.length=ops.size->(∀ i∈Region.ready .any ops l.toArray,i<ops.size/\l.getD i true=false/\∀ j∈deps.getD i [],l.getD j false=true)/\(Region.ready .any ops l.toArray=[]->l.all id=true):=by
  intro l hl;unfold aiJ at hc;rw[Ej] at hc;have h:=hc l (by rw[<-hl];exact aib l);rw[fE,Ej] at h;refine⟨fun i hi=>?_,fun hr=>?_⟩
  .have:=h.1 i hi;rw[fE,fE,Ej,decide_eq_true_eq] at this;exact⟨this.1.1,by simpa using this.1.2,this.2⟩
  .have:=h.2;rw[hr] at this;simpa using this
 intro fuel
 induction fuel with
 | zero =>
  intro l A y hl hn hI;unfold gW;refine he l A y hl hI ?_;have h0:l.count false=0:=by omega
  rw[List.count_eq_zero] at h0;rw[Ej];intro x hx
  cases x with
  | true=>rfl
  | false=>exact absurd hx h0
 | succ fuel ih =>
  intro l A y hl hn hI;obtain⟨k1,k2⟩:=key l hl;unfold gW;refine⟨fun hr=>he l A y hl hI (k2 hr),fun i hi rest K=>?_⟩;obtain⟨i1,i2,i3⟩:=k1 i hi;refine hs l i A y rest hl hI i1 i2 i3 fun A' y' hI'=>K A' y' ?_
  rw[eu];have:=count_set l i i2;exact ih (l.set i true) A' y' (by simpa using hl) (by omega) hI'
structure Bas(w:World)(T:Array Value)(n:Nat)(dst:Nat->Nat)(A:Act)(y:World):Prop where
 df:A.defers=[]
 size:A.tmps.size=T.size
 old:∀ j,(∀ i,i<n->j≠dst i)->A.tmps.getD j au=T.getD j au
 bJ:fI w y
theorem aiY{rid:Nat}{w:World}{T:Array Value}{n:Nat}(hm:P.follows .mixedOrders=true)(hn:ops.size=n+1)(deps:List (List Nat))(hc:aiJ ops deps=true)(hlast:∀ j,j<n->j∈deps.getD n [])(hsm:∀ i,i<n->∀ j∈deps.getD i [],j<n)(dst:Nat->Nat)(hd:∀ i,i<n->dst i<T.size)(hinj:∀ i,i<n->∀ j,j<n->i≠j->dst i≠dst j)(F:Nat->Value->World->Prop)(hF:∀ i v y y',F i v y->fI y y'->F i v y')(Fin:Act->World->Prop)(hs:∀ i,i<n->∀ A y rest,Bas w T n dst A y->(∀ j∈deps.getD i [],F j (A.tmps.getD (dst j) au) y)->(∀ v y',fI y y'->F i v y'->BW P (G (b.at (A.put (some (dst i)) v) (.inRegion ops rest::k)) cs) y' Φ)->BW P (G (b.at A (.inRegion ops (i::rest)::k)) cs) y Φ)(hl:∀ A y rest,Bas w T n dst A y->(∀ j,j<n->F j (A.tmps.getD (dst j) au) y)->(∀ A' y',Fin A' y'->BW P (G (b.at A' (.inRegion ops rest::k)) cs) y' Φ)->BW P (G (b.at A (.inRegion ops (n::rest)::k)) cs) y Φ)(he:∀ A y,Fin A y->BW P (G (b.at A (.inRegion ops []::k)) cs) y Φ):BW P (G (b.at ⟨T,[]⟩ (.code (.region rid ops true)::k)) cs) w Φ:=by
 refine BW.draw hm ?_;have hrep:Array.replicate ops.size false=(List.replicate ops.size false).toArray:=by simp
 rw[hrep];refine aiu deps hc (fun l A y=>if l.getD n false=true then Fin A y/\l.all id=true else Bas w T n dst A y/\∀ i,i<n->l.getD i false=true->F i (A.tmps.getD (dst i) au) y) ?_ ?_ ops.size (List.replicate ops.size false) ⟨T,[]⟩ w (by simp) (by simp) ?_
 .intro l i A y rest hll hI hi hfi aij K;by_cases hin:i=n
  .subst hin;have hnf:l.getD i false=false:=by
    rw[List.getD_eq_getElem?_getD] at hfi ⊢;have:i<l.length:=by omega
    rw[kM this] at hfi ⊢;exact hfi
   simp only[hnf,jI,if_false] at hI;refine hl A y rest hI.1 (fun j hj=>hI.2 j hj (aij j (hlast j hj))) fun A' y' hf=>K A' y' ?_
   have:(l.set i true).getD i false=true:=by simp[List.getD,List.getElem?_set,show i<l.length by omega]
   simp only[this,if_true];refine⟨hf,?_⟩;rw[Ej];intro x hx;obtain⟨j,hj,rfl⟩:=qbz hx;rw[List.getElem_set];split
   .rfl
   .rename_i hne
    have hjl:j<l.length:=by simpa using hj
    have:=aij j (hlast j (by omega));rw[List.getD_eq_getElem?_getD,kM hjl] at this;exact this
  .have hi':i<n:=by omega
   by_cases hfull:l.getD n false=true
   .
    exfalso;simp only[hfull,if_true] at hI;have hall:=hI.2;rw[Ej] at hall;have hlt:i<l.length:=by omega
    rw[List.getD_eq_getElem?_getD,kM hlt] at hfi;have:=hall _ (VE hlt);simp only[Option.getD_some] at hfi;rw[hfi] at this
    cases this
   .simp only[hfull,if_false] at hI;obtain⟨hB,hfs⟩:=hI;refine hs i hi' A y rest hB (fun j hj=>hfs j (hsm i hi' j hj) (aij j hj)) fun v y' hb hFv=>K _ y' ?_
    have hgn:(l.set i true).getD n false=l.getD n false:=by
     simp[List.getD,List.getElem?_set,hin]
    simp only[hgn,hfull,if_false];have hlt:dst i<A.tmps.size:=by rw[hB.size];exact hd i hi'
    refine⟨⟨hB.df,by show(A.tmps.setIfInBounds (dst i) v).size=_;rw[qb5,hB.size],fun j hj=>?_,hB.bJ.seq hb⟩,fun j hj hlj=>?_⟩
    .rw[St.nk (hj i hi')];exact hB.old j hj
    .by_cases hji:j=i
     .subst hji;rw[St.rT hlt];exact hFv
     .rw[St.nk (hinj j hj i hi' hji)];refine hF j _ y y' (hfs j hj ?_) hb;rw[List.getD_eq_getElem?_getD,List.getElem?_set_ne (Ao hji),<-List.getD_eq_getElem?_getD] at hlj;exact hlj
 .intro l A y hll hI hall;have:l.getD n false=true:=by
   rw[Ej] at hall;have hlt:n<l.length:=by omega
   rw[List.getD_eq_getElem?_getD,kM hlt];exact hall _ (VE hlt)
  simp only[this,if_true] at hI;exact he A y hI.1
 .have hr:∀ i,(List.replicate ops.size false).getD i false=false:=fun i=>by
   simp only[List.getD,List.getElem?_replicate];split <;> rfl
  have:(List.replicate ops.size false).getD n false=false:=hr n;simp only[this,jI,if_false];refine⟨⟨rfl,rfl,fun _ _=>rfl,.refl w⟩,fun i hi h=>?_⟩;rw[hr i] at h
  cases h
end
end Cc
end
section
open Go.Conc
theorem adN{w:World}{B n c:Nat}{a:Option Addr}{S:List EU}(h:w.ownsRow B 42 11 (.slice a n c) n (S.flatMap fG))(hd:∀ e∈S,iw w B e):Qg w a n c S:=⟨rP h,fun e he=>rP (hd e he)⟩
theorem ajF(a:Option Addr)(n c k:Nat)(hk:k<=c)(ha:a=none->c=0):sliced a 0 k c 1=.slice a k c:=by
 unfold sliced
 cases a with
 | none=>obtain rfl:=ha rfl;simp
 | some x =>
  by_cases h:c=0
  .subst h;simp
  .simp[h,Addr.add]
section
variable {P:Program}{o:Oper}{a:Act}{ops:Array Oper}{rest:List Oper}{w:World}{Q:Exit->Act->World->Prop}
theorem ajh(hgd:o.guard=none){t e:TypeId}{x h:Operand}(hop:o.op=.slice t x none (some h) none){p:Option Addr}{n c:Nat}{k:Int}(hx:a.eval x=.slice p n c)(hh:a.eval h=.int .i64 k)(ht:P.underlying t=some (.slice e))(hsz:(P.info? e).map (·.size)=some 1)(h0:0<=k)(h1:k<=c)(hp:p=none->c=0)(hk:wpList P ops Q rest (a.put o.dst (.slice p k.toNat c)) w):wpList P ops Q (o::rest) a w:=by
 refine bI hgd _ _ ?_ hk;have hs:=ajF p n c k.toNat (by omega) hp;have hel:P.elem t=e:=by simp[Program.elem,ht]
 obtain⟨i,hi,hi1⟩:=zA.1 hsz;have hr:(Instr.sliceAt t (.slice p n c) none (some (.int .i64 k)) none).run P w=.ok (.slice p k.toNat c) w:=by
  have ht':P.underlying t=some (.slice (P.elem t)):=by rw[hel];exact ht
  rw[run_sliceAt_slice w t _ _ _ _ ht',run_slice_h w t p n c ht' .i64 k h0 h1,hel];have hz:(sizeOf e).run P w=.ok 1 w:=by simp[sizeOf,typeInfo,hi,hi1,Result.andThen]
  rw[hz];simp only[Result.andThen,hs]
 unfold execOp;simp[hop,hx,hh,hr,Result.andThen]
end
end
section
open Go.Conc
open Cc (tp)
namespace St
open Cc (BW fI okA)
open Sr (dW iM bU)
structure Slots where
 t1:Nat
 t2:Nat
 t4:Nat
 t5:Nat
 t6:Nat
def Slots.d(s:Slots):Nat->Nat:=fun i=>[s.t1,s.t2,s.t4,s.t5,s.t6].getD i 0
def cpF(w:World)(src:Value)(data:List UInt8)(lim:kG):Nat->Value->World->Prop
 | 0,v,_=>v=src
 | 1,v,y=>∃ da n dc,v=.slice da n dc/\kF y w.heap.size (.slice da n dc) n data
 | 2,v,_=>v=nV lim
 | 3,v,y=>Vf w (Plain.jA data lim) v y
 | 4,v,y=>∃ q,v=pv q/\y.heap[q]? = some (.cells zPs 30)/\w.heap.size<=q
 | _,_,_=>True
theorem aiD{w:World}{src:Value}{data:List UInt8}{lim:kG}(i:Nat)(v:Value)(y y':World)(h:cpF w src data lim i v y)(hb:fI y y'):cpF w src data lim i v y':=by
 rcases i with _|_|_|_|_|i
 .exact h
 .obtain⟨da,m,dc,h1,h2⟩:=h;exact⟨da,m,dc,h1,kF.bJ h2 hb⟩
 .exact h
 .exact Vf.keep h hb
 .obtain⟨q,h1,h2,h3⟩:=h;exact⟨q,h1,(hb.block q (fT.1 h2).1).trans h2,h3⟩
 .trivial
def cpN:List (List Nat):=[[],[0],[],[1,2],[],[0,1,2,3,4]]
structure ae5(ops:Array Oper)(s:Slots)(xs lp:Nat):Prop where
 o0:∃ o,ops[0]? = some o/\o.guard=none/\o.dst=some s.t1/\o.op=.move (.tmp xs)
 o1:∃ o ats,ops[1]? = some o/\o.guard=none/\o.dst=some s.t2/\o.op=.call {callee:=.value (.func 20),args:=#[.tmp s.t1],argTypes:=ats}
 o2:∃ o,ops[2]? = some o/\o.guard=none/\o.dst=some s.t4/\o.op=.load 24 (.tmp lp)
 o3:∃ o ats,ops[3]? = some o/\o.guard=none/\o.dst=some s.t5/\o.op=.call {callee:=.value (.func 16),args:=#[.tmp s.t2,.tmp s.t4],argTypes:=ats}
 o4:∃ o,ops[4]? = some o/\o.guard=none/\o.dst=some s.t6/\o.op=.alloc 30
 o5:∃ o,ops[5]? = some o/\o.guard=none/\o.dst=none/\o.op=.store 30 (.tmp s.t6) (.tmp s.t5)
 size:ops.size=6
 rdy:Cc.aiJ ops cpN=true
structure CpF(d:Nat->Nat)(m t6:Nat)(w:World)(T:Array Value)(R:Plain.Pz)(A:Act)(y:World):Prop where
 df:A.defers=[]
 size:A.tmps.size=T.size
 old:∀ j,(∀ i,i<m->j≠d i)->A.tmps.getD j au=T.getD j au
 bJ:fI w y
 ex:∃ (q:Nat)(x:Option Addr)(n cp:Nat)(Q:List EU),A.tmps.getD t6 au=pv q/\y.heap[q]? = some (.cells #[.slice x n cp,.int .i64 R.code,.int .i64 R.off,.int .i64 R.held] 30)/\w.heap.size<=q/\Q.map (·.1)=R.ents/\y.ownsRow w.heap.size 42 11 (.slice x n cp) n (Q.flatMap fG)/\∀ e∈Q,iw y w.heap.size e
section
variable {ε:Nat×Nat}{Φ:Goroutine->World->Prop}{b:Frame}{k:List Item}{cs:List Frame}{w:World}{ops:Array Oper}{s:Slots}{xs lp:Nat}{T:Array Value}{data:List UInt8}{lim:kG}
theorem aik{w y:World}{R:Plain.Pz}{A:Act}{rest:List Nat}{o:Oper}{i t5 t6 q:Nat}{v:Value}(h0:ops[i]? = some o)(hg:o.guard=none)(hd:o.dst=none)(hop:o.op=.store 30 (.tmp t6) (.tmp t5))(hk:b.kind≠.early)(hb:fI w y)(hq1:A.eval (.tmp t6)=pv q)(hq2:y.heap[q]? = some (.cells zPs 30))(hq3:w.heap.size<=q)(hv:A.eval (.tmp t5)=v)(hp:Vf w R v y)(K:∀ y',fI w y'->(∃ (x:Option Addr)(n cp:Nat)(Q:List EU),y'.heap[q]? = some (.cells #[.slice x n cp,.int .i64 R.code,.int .i64 R.off,.int .i64 R.held] 30)/\w.heap.size<=q/\Q.map (·.1)=R.ents/\y'.ownsRow w.heap.size 42 11 (.slice x n cp) n (Q.flatMap fG)/\∀ e∈Q,iw y' w.heap.size e)->BW qp0 (G (b.at A (.inRegion ops rest::k)) cs) y' Φ):BW qp0 (G (b.at A (.inRegion ops (i::rest)::k)) cs) y Φ:=by
 obtain⟨⟨x,n,cp,Q,rfl,hQ,hown,hdt⟩,_⟩:=hp;have hqv:A.eval (.tmp t6)=.pointer (some ⟨q,0,none⟩):=hq1;refine Cc.BW.TV au (Rw:=fun z=>RL q y z/\z.heap[q]? = some (.cells #[.slice x n cp,.int .i64 R.code,.int .i64 R.off,.int .i64 R.held] 30)) LG h0 hk (by rw[hop];rfl) (fun τ d=>wpList_store_row hg _ _ _ hop q hqv _ hv _ 30 hq2 rfl (by kernel_rfl) (by intro u hu;simp at hu;rcases hu with rfl|rfl|rfl|rfl <;> rfl) ⟨rfl,rfl,⟨rfl,rfl,by rw[size_setRow];exact aY _,fun b hb hne=>setRow_other _ _ _ _ hne⟩,setRow_heap _ _ _ _ _ _ hq2⟩) (fun w' τ d hr=>⟨hr.1.tp τ d,hr.2⟩) fun z hz=>?_
 obtain⟨hb2,hrow⟩:=hz;have keep:∀ {B sz m:Nat}{e:TypeId}{u:Value}{xs:List Value},y.ownsRow B e sz u m xs->e≠30->z.ownsRow B e sz u m xs:=fun ho hne=>Gr.gJ ho fun b hb3=>hb2.block b (ho.lt b hb3).2 fun e1=>Gr.aN ho hq2 hne (by rw[hb3];exact congrArg some e1)
 rw[hd];refine K z ⟨hb2.os.trans hb.os,rfl,hb2.out.trans hb.output,tT hb.size hb2.size,fun g hg2=>?_⟩ ⟨x,n,cp,Q,hrow,hq3,hQ,keep hown (by decide),fun e he=>keep (hdt e he) (by decide)⟩;have hg2:g<w.heap.size:=hg2;have hyw:w.heap.size<=y.heap.size:=hb.size;exact(hb2.block g (by omega) (by omega)).trans (hb.block g hg2)
theorem aiv{A:Act}{y:World}{rest:List Nat}{o:Oper}{i lp lb:Nat}(h0:ops[i]? = some o)(hg:o.guard=none)(hop:o.op=.load 24 (.tmp lp))(hk:b.kind≠.early)(hv:A.eval (.tmp lp)=pv lb)(hrow:y.heap[lb]? = some (.cells #[.int .i64 lim.name,.int .i64 lim.iP] 24))(K:∀ y',fI y y'->BW qp0 (G (b.at (A.put o.dst (nV lim)) (.inRegion ops rest::k)) cs) y' Φ):BW qp0 (G (b.at A (.inRegion ops (i::rest)::k)) cs) y Φ:=by
 have hv:A.eval (.tmp lp)=.pointer (some ⟨lb,0,none⟩):=hv;refine Cc.BW.TV (nV lim) (Rw:=fun z=>∃ τ d,z=tp y τ d) LG h0 hk (by rw[hop];rfl) (fun τ d=>?_) (fun w' τ d hr=>⟨τ,d,by obtain⟨_,_,rfl⟩:=hr;rfl⟩) fun y2 hr=>?_
 .refine cK hg _ _ hop lb 0 hv #[.int .i64 lim.name,.int .i64 lim.iP] _ (fun j v hj=>?_) underlying24 rfl (by kernel_rfl) ⟨rfl,rfl,τ,d,rfl⟩;rw[lU,cell_of_row _ _ _ _ _ _ (show(tp y τ d).heap[lb]? = _ from hrow),<-qaV];exact hj
 obtain⟨τ,d,rfl⟩:=hr;exact K _ ((fI.refl y).tp τ d)
theorem aiT{A:Act}{w y:World}{rest:List Nat}{o:Oper}{i t:Nat}{ats:Array TypeId}{a0:Option Addr}{n0 c0:Nat}(h0:ops[i]? = some o)(hg:o.guard=none)(hop:o.op=.call {callee:=.value (.func 20),args:=#[.tmp t],argTypes:=ats})(hk:b.kind≠.early)(hv:A.eval (.tmp t)=.slice a0 n0 c0)(hby:fI w y)(hdat:Bs w a0 n0 c0 data)(hn0:n0<=140737488351232)(K:∀ y' da n dc,kF y' y.heap.size (.slice da n dc) n data->fI y y'->BW qp0 (G (b.at (A.put o.dst (.slice da n dc)) (.inRegion ops rest::k)) cs) y' Φ):BW qp0 (G (b.at A (.inRegion ops (i::rest)::k)) cs) y Φ:=by
 refine BW.call (Rr:=fun v w'=>∃ da n dc,v=.slice da n dc/\kF w' y.heap.size (.slice da n dc) n data/\fI y w') h0 (sH hg _) hk hop okA (by kernel_rfl) func20 rfl (vs:=#[.slice a0 n0 c0]) (by simp[hv]) (fun τ d=>(Ku a0 n0 c0 data (tp y τ d) ((hby.tp τ d).keeps.bs hdat) (by omega)).mono fun e w' hq=>by
  obtain⟨x,n,c,rfl,h1,h2⟩:=hq;exact⟨_,rfl,x,n,c,rfl,h1,.pR h2⟩) (fun v w' τ d hq=>by
  obtain⟨x,n,c,rfl,h1,h2⟩:=hq;exact⟨x,n,c,rfl,h1.kept fun _ _=>rfl,h2.tp τ d⟩) fun v y2 hv2=>?_
 obtain⟨da,n,dc,rfl,ho,hb⟩:=hv2;exact K y2 da n dc ho hb
theorem ajM{A:Act}{y:World}{rest:List Nat}{o:Oper}{i t u K:Nat}{a0:Option Addr}{n0 c0:Nat}(h0:ops[i]? = some o)(hg:o.guard=none)(hop:o.op=.slice 22 (.tmp t) none (some (.tmp u)) none)(hk:b.kind≠.early)(ht:A.eval (.tmp t)=.slice a0 n0 c0)(hu:A.eval (.tmp u)=.int .i64 K)(hK:K<=c0)(ha:a0=none->c0=0)(K2:∀ y',fI y y'->BW qp0 (G (b.at (A.put o.dst (.slice a0 K c0)) (.inRegion ops rest::k)) cs) y' Φ):BW qp0 (G (b.at A (.inRegion ops (i::rest)::k)) cs) y Φ:=by
 refine Cc.BW.TV (.slice a0 K c0) (Rw:=fun u=>∃ τ d,u=tp y τ d) LG h0 hk (by rw[hop];rfl) (fun τ d=>?_) (fun w' τ d hr=>⟨τ,d,by obtain⟨_,_,rfl⟩:=hr;rfl⟩) fun y2 hr=>?_
 .refine ajh hg hop ht hu underlying22 (by kernel_rfl) (by omega) (by omega) ha ?_;exact⟨rfl,by rw[Int.toNat_natCast],τ,d,rfl⟩
 obtain⟨τ,d,rfl⟩:=hr;exact K2 _ ((fI.refl y).tp τ d)
theorem aiP{A:Act}{y:World}{rest:List Nat}{o:Oper}{i:Nat}(h0:ops[i]? = some o)(hg:o.guard=none)(hop:o.op=.alloc 30)(hk:b.kind≠.early)(K:∀ y',fI y y'->y'.heap[y.heap.size]? = some (.cells zPs 30)->BW qp0 (G (b.at (A.put o.dst (pv y.heap.size)) (.inRegion ops rest::k)) cs) y' Φ):BW qp0 (G (b.at A (.inRegion ops (i::rest)::k)) cs) y Φ :=Cc.BW.TV (pv y.heap.size) (Rw:=fun z=>fI y z/\z.heap[y.heap.size]? = some (.cells zPs 30)) LG h0 hk (by rw[hop];rfl) (fun τ d=>bV hg _ hop _ Ee ⟨rfl,rfl,.pR (τ:=τ) (d:=d) ((Below.refl _ (tp y τ d)).alloc (aY _) _),heap_alloc_new _ _⟩) (fun w' τ d hr=>⟨hr.1.tp τ d,hr.2⟩) fun y2 hr=>K y2 hr.1 hr.2
theorem Tw{id:Nat}(hO:ae5 ops s xs lp)(hs:∀ i,i<5->s.d i<T.size)(hj:∀ i,i<5->∀ j,j<5->i≠j->s.d i≠s.d j)(hx:∀ i,i<5->xs≠s.d i)(hlp:∀ i,i<5->lp≠s.d i)(hk:b.kind≠.early){a0:Option Addr}{n0 c0 lb:Nat}{ev:Value}{w0:World}(hsrc:T.getD xs au=.slice a0 n0 c0)(hdat:Bs w0 a0 n0 c0 data)(hn0:n0<=140737488351232)(hlim:T.getD lp au=pv lb)(hlb:w.heap[lb]? = some (.cells #[.int .i64 lim.name,.int .i64 lim.iP] 24))(hml:uF w0)(her:eO w0 ev)(hpw:lV w0){D:Nat->Prop}(hcl:bU qp0 (dW ε) (fun _=>False) D #[] w0)(hbw:fI w0 w)(hn:∀ A y,CpF s.d 5 s.t6 w T (Plain.jA data lim) A y->BW qp0 (G (b.at A k) cs) y Φ):BW qp0 (G (b.at ⟨T,[]⟩ (.code (.region id ops true)::k)) cs) w Φ:=by
 refine Cc.aiY (n:=5) (by kernel_rfl) hO.size cpN hO.rdy (by decide) (by decide) s.d hs hj (cpF w (.slice a0 n0 c0) data lim) aiD (CpF s.d 5 s.t6 w T (Plain.jA data lim)) ?_ ?_ fun A z hF=>BW.rend (hn A z hF)
 .intro i hi A y rest hB aij K;have hby:fI w0 y:=hbw.seq hB.bJ;rcases (by omega:i=0\/i=1\/i=2\/i=3\/i=4) with rfl|rfl|rfl|rfl|rfl
  .obtain⟨o,h0,hg,hd,hop⟩:=hO.o0;refine BW.move h0 (sH hg _) hk (.inl hop) ?_;rw[hd];exact K _ _ (.refl y) ((hB.old xs hx).trans hsrc)
  .obtain⟨o,ats,h0,hg,hd,hop⟩:=hO.o1;refine aiT h0 hg hop hk (aij 0 (by decide)) hby hdat hn0 fun y2 da n dc ho hb=>?_
   rw[hd];exact K _ _ hb ⟨da,n,dc,rfl,World.ownsRow.mono ho.own hB.bJ.size,ho.cl⟩
  .obtain⟨o,h0,hg,hd,hop⟩:=hO.o2;refine aiv h0 hg hop hk ((hB.old lp hlp).trans hlim) ((hB.bJ.block lb (fT.1 hlb).1).trans hlb) fun y2 hb=>?_
   rw[hd];exact K _ _ hb rfl
  .obtain⟨o,ats,h0,hg,hd,hop⟩:=hO.o3;obtain⟨da,n,dc,hv,ho⟩:=aij 1 (by decide);have hln:=Bh ho.own;have hl0:=hdat.len;obtain⟨D',hst,_⟩:=CQ hcl hby ho.cl (fun g hg=>tT hbw.size (ho.own.lt g hg).1);refine JX (ε:=ε) (lim:=lim) (data:=data) h0 (sH hg _) hk hop hv (aij 2 (by decide)) (OY ho.own) (by omega) (xP hby hml) (tH hby her) (xW hby hpw) hst fun v y2 hp=>?_
   rw[hd];exact K _ _ hp.bJ (Vf.base hp hB.bJ)
  .obtain⟨o,h0,hg,hd,hop⟩:=hO.o4;refine aiP h0 hg hop hk fun y2 hb hr=>?_
   rw[hd];exact K _ _ hb ⟨_,rfl,hr,hB.bJ.size⟩
 .intro A y rest hB hall K;obtain⟨o,h0,hg,hd,hop⟩:=hO.o5;obtain⟨q,hq1,hq2,hq3⟩:=hall 4 (by decide);refine aik h0 hg hd hop hk hB.bJ hq1 hq2 hq3 rfl (hall 3 (by decide)) fun y2 hb hex=>?_
  exact K _ _ ⟨hB.df,hB.size,hB.old,hb,q,by obtain⟨x,n,cp,Q,hex⟩:=hex;exact⟨x,n,cp,Q,hq1,hex⟩⟩
end
end St
end
section
open Go.Conc
open Cc (tp)
namespace St
open Cc (BW fI)
theorem ait{f:FuncId}{fn:Func}(hf:qp0.funcs[f]? = some fn)(hi:qp0.inits.idxOf? f=none)(hres:fn.results=#[.tmp 6]){c:Code}{id:Nat}{o:Oper}(hc:c=.seq (.region id #[o] false) .ret)(hg:o.guard=none)(hop:o.op=.assign (.const (.bool true)))(hd:o.dst=some 6){A:Act}(hA:A.defers=[])(hs:6<A.tmps.size){k:List Item}{w y:World}(hb:fI w y):BW qp0 (G ((base f).at A (.code c::k)) []) y (Cc.Ends qp0 fun v w'=>v=.bool true/\fI w w'):=by
 obtain⟨T,D⟩:=A;obtain rfl:D=[]:=hA;subst hc;refine BW.seq ?_;refine BW.region ?_;refine BW.move (o:=o) (i:=0) (rest:=[]) rfl (sH hg _) (fun h=>by cases h) (.inr hop) ?_;refine BW.rend ?_;refine BW.ret ?_;rw[hd];exact BW.ends hf hi (fun w=>results_tmp hres _ _ w) fun d=>⟨rT (A:=⟨T,[]⟩) hs,hb.tp _ _⟩
end St
end
section
open Go.Conc
open Cc (tp)
namespace St
open Cc (BW fI okA u7)
open Sr (dW iM bU)
noncomputable def ai6:Code:=Tryz.f5.body.getD .skip
def akH(v0 v1 v2 v5 v6 v10 v11:Value):Array Value:=#[v0,v1,v2,au,au,v5,v6,au,au,au,v10,v11,au,au,au,au,au,au,au,au,au,au,au,au,au,au,au,au,au,au,au,au,au,au,au,au,au,au,au,au,au,au,au,au,au,au,au,au,au,au,au,au,au,au,au,au]
theorem ajQ(a:Option Addr)(n c:Nat)(a2:Option Addr)(n2 c2:Nat)(lim:kG):Frame.enter qp0 5 #[.slice a n c,.slice a2 n2 c2,nV lim] .normal=(base 5).at ⟨#[.slice a n c,.slice a2 n2 c2,nV lim]++Array.replicate 53 au,[]⟩ [.code ai6]:=by
 have hbody:Tryz.f5.body=some ai6:=by simp only[ai6,Tryz.f5,Option.getD_some]
 have hnt:Tryz.f5.ntmps=56:=by kernel_rfl
 simp[Frame.enter,Frame.at,base,func5,hbody,hnt]
theorem aj2(a:Option Addr)(n c:Nat)(a2:Option Addr)(n2 c2:Nat)(lim:kG):(#[.slice a n c,.slice a2 n2 c2,nV lim]:Array Value)++Array.replicate 53 au=akH (.slice a n c) (.slice a2 n2 c2) (nV lim) au au au au:=by kernel_rfl
theorem aj1{t:Array Value}(h:t.size=56):t=#[t.getD 0 au,t.getD 1 au,t.getD 2 au,t.getD 3 au,t.getD 4 au,t.getD 5 au,t.getD 6 au,t.getD 7 au,t.getD 8 au,t.getD 9 au,t.getD 10 au,t.getD 11 au,t.getD 12 au,t.getD 13 au,t.getD 14 au,t.getD 15 au,t.getD 16 au,t.getD 17 au,t.getD 18 au,t.getD 19 au,t.getD 20 au,t.getD 21 au,t.getD 22 au,t.getD 23 au,t.getD 24 au,t.getD 25 au,t.getD 26 au,t.getD 27 au,t.getD 28 au,t.getD 29 au,t.getD 30 au,t.getD 31 au,t.getD 32 au,t.getD 33 au,t.getD 34 au,t.getD 35 au,t.getD 36 au,t.getD 37 au,t.getD 38 au,t.getD 39 au,t.getD 40 au,t.getD 41 au,t.getD 42 au,t.getD 43 au,t.getD 44 au,t.getD 45 au,t.getD 46 au,t.getD 47 au,t.getD 48 au,t.getD 49 au,t.getD 50 au,t.getD 51 au,t.getD 52 au,t.getD 53 au,t.getD 54 au,t.getD 55 au]:=by
 have e:t=((List.range 56).map (fun i=>t.getD i au)).toArray:=by
  apply TS
  .simp[h]
  .intro i hi1 hi2;simp[hi1]
 exact e
def ajO(a:Option Addr)(n c:Nat)(a2:Option Addr)(n2 c2:Nat)(lim:kG)(N:Nat):Array Value:=akH (.slice a n c) (.slice a2 n2 c2) (nV lim) (pv N) (.bool false) au au
def aj0(a:Option Addr)(n c:Nat)(a2:Option Addr)(n2 c2:Nat)(lim:kG)(N:Nat):Array Value:=akH (.slice a n c) (.slice a2 n2 c2) (nV lim) (pv N) (.bool false) (.bool true) (.bool false)
noncomputable def ai5:Code:=match ai6 with|.seq _ (.seq _ c)=>c|_=>.skip
section
variable {ε:Nat×Nat}
theorem ajN(a:Option Addr)(n c:Nat)(a2:Option Addr)(n2 c2:Nat)(lim:kG)(w:World)(ev:Value)(hml:uF w)(her:eO w ev)(hpw:lV w)(hbr:EZ w){D:Nat->Prop}(hcl:bU qp0 (dW ε) (fun _=>False) D #[] w)(K:∀ w2,fI w w2->w2.heap[w.heap.size]? = some (.cells #[.int .i64 lim.name,.int .i64 lim.iP] 24)->BW qp0 (G ((base 5).at ⟨aj0 a n c a2 n2 c2 lim w.heap.size,[]⟩ [.code ai5]) []) w2 (Cc.Ends qp0 fun v w'=>v=.bool true/\fI w w')):BW qp0 (G (Frame.enter qp0 5 #[.slice a n c,.slice a2 n2 c2,nV lim] .normal) []) w (Cc.Ends qp0 fun v w'=>v=.bool true/\fI w w'):=by
 rw[ajQ,aj2];simp only[ai6,Tryz.f5,Option.getD_some];refine BW.seq ?_;apply Cc.BW.Jj (hP:=LG) (hk:=by decide) (hok:=by kernel_rfl) (Rr:=fun x y=>x=⟨ajO a n c a2 n2 c2 lim w.heap.size,[]⟩/\∃ τ d,y=tp (w.alloc (.cells #[.int .i64 lim.name,.int .i64 lim.iP] 24)) τ d)
 .intro τ d;unfold nV akH;go_wp2
  exact⟨by unfold ajO nV pv;rfl,τ,d,rfl⟩
 .rintro x y τ d ⟨h1,jH,d',rfl⟩;exact⟨h1,τ,d,rfl⟩
 rintro a1 w1 ⟨rfl,τ,d,rfl⟩;have hb1:fI w (tp (w.alloc (.cells #[.int .i64 lim.name,.int .i64 lim.iP] 24)) τ d):=fI.tp (.of ((Below.refl _ _).alloc (aY _) _)) τ d;have hr1:(tp (w.alloc (.cells #[.int .i64 lim.name,.int .i64 lim.iP] 24)) τ d).heap[w.heap.size]? = some (.cells #[.int .i64 lim.name,.int .i64 lim.iP] 24):=heap_alloc_new w _;generalize tp (w.alloc (.cells #[.int .i64 lim.name,.int .i64 lim.iP] 24)) τ d=w1 at hb1 hr1;unfold ajO akH;refine BW.seq ?_;refine BW.seq ?_;refine BW.region ?_;simp only[rJ,oH,List.length_nil,Nat.reduceAdd,lU,List.range'];refine Vb (ε:=ε) rfl rfl (by decide) rfl (xP hb1 hml) (tH hb1 her) (xW hb1 hpw) (QA hb1 hbr) (o7 hcl hb1 fun b hb=>hb.elim) fun w2 hb2=>?_
 walk_nrm;refine BW.jU rfl rfl (by decide) (.bool false) (fun ω=>by constructor <;> kernel_rfl) ?_;walk_nrm;refine BW.rend ?_;refine BW.cond (t:=false) rfl ?_;simp only[jI,if_false];refine BW.skip ?_;have TH:fI w w2:=hb1.seq hb2;have l1:w.heap.size<w1.heap.size:=(fT.1 hr1).1;have:=K w2 TH ((hb2.block _ l1).trans hr1);simp only[ai5,ai6,Tryz.f5,Option.getD_some] at this;exact this
end
def LBk(a:Option Addr)(n c:Nat)(a2:Option Addr)(n2 c2 N p:Nat)(v8:Value)(f:Nat->Value):Array Value:=#[.slice a n c,.slice a2 n2 c2,f 2,f 3,f 4,pv N,f 6,pv p,v8,f 9,f 10,f 11,f 12,f 13,f 14,f 15,f 16,f 17,f 18,f 19,f 20,f 21,f 22,f 23,f 24,f 25,f 26,f 27,f 28,f 29,f 30,f 31,f 32,f 33,f 34,f 35,f 36,f 37,f 38,f 39,f 40,f 41,f 42,f 43,f 44,f 45,f 46,f 47,f 48,f 49,f 50,f 51,f 52,f 53,f 54,f 55]
structure KBk(a:Option Addr)(n c:Nat)(a2:Option Addr)(n2 c2 N p:Nat)(v8:Value)(A:Act):Prop where
 df:A.defers=[]
 size:A.tmps.size=56
 g0:A.tmps.getD 0 au=.slice a n c
 g1:A.tmps.getD 1 au=.slice a2 n2 c2
 g5:A.tmps.getD 5 au=pv N
 g7:A.tmps.getD 7 au=pv p
 g8:A.tmps.getD 8 au=v8
theorem KBk.lit{a:Option Addr}{n c:Nat}{a2:Option Addr}{n2 c2 N p:Nat}{v8:Value}{A:Act}(h:KBk a n c a2 n2 c2 N p v8 A):∃ f,A=⟨LBk a n c a2 n2 c2 N p v8 f,[]⟩:=by
 obtain⟨tm,df⟩:=A;obtain rfl:df=[]:=h.df;refine⟨fun j=>tm.getD j au,?_⟩;have e:=aj1 (show tm.size=56 from h.size);have g0:tm.getD 0 au=.slice a n c:=h.g0;have g1:tm.getD 1 au=.slice a2 n2 c2:=h.g1;have g5:tm.getD 5 au=pv N:=h.g5;have g7:tm.getD 7 au=pv p:=h.g7;have g8:tm.getD 8 au=v8:=h.g8;rw[g0,g1,g5,g7,g8] at e;unfold LBk;exact congrArg (fun t=>(⟨t,[]⟩:Act)) e
theorem KBk.put{a:Option Addr}{n c:Nat}{a2:Option Addr}{n2 c2 N p:Nat}{v8:Value}{A:Act}(h:KBk a n c a2 n2 c2 N p v8 A)(t:Nat)(v:Value)(ht:t≠0/\t≠1/\t≠5/\t≠7/\t≠8):KBk a n c a2 n2 c2 N p v8 (A.put (some t) v) :=⟨h.df,by show(A.tmps.setIfInBounds t v).size=_;rw[qb5];exact h.size,(nk ht.1.symm).trans h.g0,(nk ht.2.1.symm).trans h.g1,(nk ht.2.2.1.symm).trans h.g5,(nk ht.2.2.2.1.symm).trans h.g7,(nk ht.2.2.2.2.symm).trans h.g8⟩
theorem KBk.lt{a:Option Addr}{n c:Nat}{a2:Option Addr}{n2 c2 N p:Nat}{v8:Value}{A:Act}(h:KBk a n c a2 n2 c2 N p v8 A)(t:Nat)(ht:t<56):t<A.tmps.size:=by rw[h.size];exact ht
noncomputable def aj5:Array Oper:=match ai5 with|.seq (.region _ o _) _=>o|_=>#[]
noncomputable def ai7:Code:=match ai5 with|.seq _ c=>c|_=>.skip
noncomputable def ajs:List Oper:=match ai7 with|.seq (.seq (.region _ o _) _) _=>o.toList|_=>[]
noncomputable def ajR:Code:=match ai7 with|.seq (.seq _ (.cond _ c _)) _=>c|_=>.skip
noncomputable def ai8:Code:=match ai7 with|.seq _ c=>c|_=>.skip
noncomputable def ajv:List Oper:=match ai8 with|.seq (.seq (.region _ o _) _) _=>o.toList|_=>[]
noncomputable def ajZ:Code:=match ai8 with|.seq (.seq _ (.cond _ c _)) _=>c|_=>.skip
noncomputable def ai9:Code:=match ai8 with|.seq _ c=>c|_=>.skip
noncomputable def ajt:List Oper:=match ai9 with|.seq (.seq (.region _ o _) _) _=>o.toList|_=>[]
noncomputable def aja:Code:=match ai9 with|.seq (.seq _ (.block _ (.loop c))) _=>c|_=>.skip
noncomputable def ajb:Code:=match ai9 with|.seq _ c=>c|_=>.skip
noncomputable def ajg:List Oper:=match aja with|.seq (.seq (.region _ o _) _) _=>o.toList|_=>[]
noncomputable def aji:List Oper:=match aja with|.seq _ (.seq (.block _ (.seq (.region _ o _) _)) _)=>o.toList|_=>[]
noncomputable def ajI:Code:=match aja with|.seq _ (.seq (.block _ (.seq _ (.cond _ c _))) _)=>c|_=>.skip
noncomputable def ajj:List Oper:=match aja with|.seq _ (.seq _ (.region _ o _))=>o.toList|_=>[]
noncomputable def ajc:List Oper:=match ajb with|.seq (.region _ o _) _=>o.toList|_=>[]
noncomputable def ajE:Array Oper:=match ajb with|.seq _ (.seq (.region _ o _) _)=>o|_=>#[]
noncomputable def ajo:Array Oper:=match ajb with|.seq _ (.seq _ (.seq (.region _ o _) _))=>o|_=>#[]
theorem ajq:ai5=.seq (.region 3 aj5 true) ai7:=by kernel_rfl
theorem ajy:ai7=.seq (.seq (.region 4 ajs.toArray false) (.cond (.tmp 18) ajR .skip)) ai8:=by kernel_rfl
theorem ajw:ai8=.seq (.seq (.region 6 ajv.toArray false) (.cond (.tmp 28) ajZ .skip)) ai9:=by kernel_rfl
theorem ajx:ai9=.seq (.seq (.region 8 ajt.toArray false) (.block 0 (.loop aja))) ajb:=by kernel_rfl
theorem ajl:aja=.seq (.seq (.region 9 ajg.toArray false) (.cond (.tmp 35) .skip (.exit 0))) (.seq (.block 1 (.seq (.region 11 aji.toArray false) (.cond (.tmp 42) ajI .skip))) (.region 10 ajj.toArray false)):=by kernel_rfl
theorem ajA:ajb=.seq (.region 13 ajc.toArray false) (.seq (.region 14 ajE false) (.seq (.region 15 ajo true) .ret)):=by kernel_rfl
theorem ajY(a:Option Addr)(n c:Nat)(a2:Option Addr)(n2 c2 N p:Nat)(v8:Value)(code:Int)(d1:Bool)(w:World)(p1:w.cell? ⟨p,1,none⟩=some (.int .i64 code))(n1:(code != 0)=d1){A0:Act}(h:KBk a n c a2 n2 c2 N p v8 A0):∃ A,(∀ τ d,wpList qp0 ajs.toArray (fun e x y=>e=.normal/\x=A/\y=tp w τ d) ajs A0 (tp w τ d))/\KBk a n c a2 n2 c2 N p v8 A/\A.eval (.tmp 18)=.bool d1:=by
 obtain⟨f,rfl⟩:=h.lit;clear h;unfold LBk pv
 cases d1 <;> (
  apply Exists.intro;apply And.intro
  .intro τ d;simp only[ajs,ai7,ai5,ai6,Tryz.f5,Option.getD_some,qzl];have p1':(tp w τ d).cell? ⟨p,1,none⟩=some (.int .i64 code):=p1;go_wp2
   exact rfl
  .exact⟨⟨rfl,rfl,rfl,rfl,rfl,rfl,rfl⟩,rfl⟩)
theorem ajG:∃ o,ajR=.seq (.region 5 #[o] false) .ret/\o.guard=none/\o.op=.assign (.const (.bool true))/\o.dst=some 6:=⟨_,rfl,rfl,rfl,rfl⟩
theorem aj4(a:Option Addr)(n c:Nat)(a2:Option Addr)(n2 c2 N p:Nat)(v8:Value)(off:Nat)(w:World)(p2:w.cell? ⟨p,2,none⟩=some (.int .i64 (off:Nat)))(h1:decide ((off:Int)<1024)=false)(h2:decide (n<off)=false){A0:Act}(h:KBk a n c a2 n2 c2 N p v8 A0):∃ A,(∀ τ d,wpList qp0 ajv.toArray (fun e x y=>e=.normal/\x=A/\y=tp w τ d) ajv A0 (tp w τ d))/\KBk a n c a2 n2 c2 N p v8 A/\A.eval (.tmp 28)=.bool false:=by
 obtain⟨f,rfl⟩:=h.lit;clear h;unfold LBk pv;apply Exists.intro;apply And.intro
 .intro τ d;simp only[ajv,ai8,ai7,ai5,ai6,Tryz.f5,Option.getD_some,qzl];have p2':(tp w τ d).cell? ⟨p,2,none⟩=some (.int .i64 (off:Nat)):=p2;go_wp2
  exact rfl
 .exact⟨⟨rfl,rfl,rfl,rfl,rfl,rfl,rfl⟩,rfl⟩
theorem aj6(a:Option Addr)(n c:Nat)(a2:Option Addr)(n2 c2 N p:Nat)(v8:Value)(off:Nat)(w:World)(p2:w.cell? ⟨p,2,none⟩=some (.int .i64 (off:Nat)))(e8:IntKind.i64.wrap ((off:Int) - 1024)=(off:Int) - 1024){A0:Act}(h:KBk a n c a2 n2 c2 N p v8 A0):∃ A,(∀ τ d,wpList qp0 ajt.toArray (fun e x y=>e=.normal/\x=A/\y=tp w τ d) ajt A0 (tp w τ d))/\KBk a n c a2 n2 c2 N p (.int .i64 ((off:Int) - 1024)) A:=by
 obtain⟨f,rfl⟩:=h.lit;clear h;unfold LBk pv;apply Exists.intro;apply And.intro
 .intro τ d;simp only[ajt,ai9,ai8,ai7,ai5,ai6,Tryz.f5,Option.getD_some,qzl];have p2':(tp w τ d).cell? ⟨p,2,none⟩=some (.int .i64 (off:Nat)):=p2;go_wp2
  exact rfl
 .exact⟨rfl,rfl,rfl,rfl,rfl,rfl,rfl⟩
theorem ajW(a:Option Addr)(n c:Nat)(a2:Option Addr)(n2 c2 N p:Nat)(off i:Nat)(w:World)(p2:w.cell? ⟨p,2,none⟩=some (.int .i64 (off:Nat)))(h1:decide (i<off)=true){A0:Act}(h:KBk a n c a2 n2 c2 N p (.int .i64 (i:Nat)) A0):∃ A,(∀ τ d,wpList qp0 ajg.toArray (fun e x y=>e=.normal/\x=A/\y=tp w τ d) ajg A0 (tp w τ d))/\KBk a n c a2 n2 c2 N p (.int .i64 (i:Nat)) A/\A.eval (.tmp 35)=.bool true:=by
 obtain⟨f,rfl⟩:=h.lit;clear h;unfold LBk pv;apply Exists.intro;apply And.intro
 .intro τ d;simp only[ajg,aja,ai9,ai8,ai7,ai5,ai6,Tryz.f5,Option.getD_some,qzl];have p2':(tp w τ d).cell? ⟨p,2,none⟩=some (.int .i64 (off:Nat)):=p2;go_wp2
  exact rfl
 .exact⟨⟨rfl,rfl,rfl,rfl,rfl,rfl,rfl⟩,rfl⟩
theorem ajS(a:Option Addr)(n c:Nat)(a2:Option Addr)(n2 c2 N p:Nat)(off i:Nat)(w:World)(p2:w.cell? ⟨p,2,none⟩=some (.int .i64 (off:Nat)))(h1:decide (i<off)=false){A0:Act}(h:KBk a n c a2 n2 c2 N p (.int .i64 (i:Nat)) A0):∃ A,(∀ τ d,wpList qp0 ajg.toArray (fun e x y=>e=.normal/\x=A/\y=tp w τ d) ajg A0 (tp w τ d))/\KBk a n c a2 n2 c2 N p (.int .i64 (i:Nat)) A/\A.eval (.tmp 35)=.bool false:=by
 obtain⟨f,rfl⟩:=h.lit;clear h;unfold LBk pv;apply Exists.intro;apply And.intro
 .intro τ d;simp only[ajg,aja,ai9,ai8,ai7,ai5,ai6,Tryz.f5,Option.getD_some,qzl];have p2':(tp w τ d).cell? ⟨p,2,none⟩=some (.int .i64 (off:Nat)):=p2;go_wp2
  exact rfl
 .exact⟨⟨rfl,rfl,rfl,rfl,rfl,rfl,rfl⟩,rfl⟩
theorem ajX(a:Option Addr)(n c:Nat)(a2:Option Addr)(n2 c2 N p:Nat)(i:Nat)(l:List UInt8)(w:World)(hbs:Bs w a n c l)(hi:i<n)(hz:l.getD i 0=0){A0:Act}(h:KBk a n c a2 n2 c2 N p (.int .i64 (i:Nat)) A0):∃ A,(∀ τ d,wpList qp0 aji.toArray (fun e x y=>e=.normal/\x=A/\y=tp w τ d) aji A0 (tp w τ d))/\KBk a n c a2 n2 c2 N p (.int .i64 (i:Nat)) A/\A.eval (.tmp 42)=.bool false:=by
 obtain⟨f,rfl⟩:=h.lit;clear h;unfold LBk pv;have hlen:=hbs.len;have hcap:=hbs.cap;have hmax:=hbs.max;obtain⟨b1,o1,rfl,h1⟩:=hbs.at i hi;have h1:w.cell? ⟨b1,o1+i,none⟩=some (.int .u8 0):=by rw[h1,hz];rfl
 clear hbs hz;apply Exists.intro;apply And.intro
 .intro τ d;simp only[aji,aja,ai9,ai8,ai7,ai5,ai6,Tryz.f5,Option.getD_some,qzl];have h1':(tp w τ d).cell? ⟨b1,o1+i,none⟩=some (.int .u8 0):=h1;go_wp2
  exact rfl
 .exact⟨⟨rfl,rfl,rfl,rfl,rfl,rfl,rfl⟩,rfl⟩
theorem ajU(a:Option Addr)(n c:Nat)(a2:Option Addr)(n2 c2 N p:Nat)(i:Nat)(w:World)(e8:IntKind.i64.wrap ((i:Int)+1)=(i:Int)+1){A0:Act}(h:KBk a n c a2 n2 c2 N p (.int .i64 (i:Nat)) A0):∃ A,(∀ τ d,wpList qp0 ajj.toArray (fun e x y=>e=.normal/\x=A/\y=tp w τ d) ajj A0 (tp w τ d))/\KBk a n c a2 n2 c2 N p (.int .i64 ((i:Int)+1)) A:=by
 obtain⟨f,rfl⟩:=h.lit;clear h;unfold LBk pv;apply Exists.intro;apply And.intro
 .intro τ d;simp only[ajj,aja,ai9,ai8,ai7,ai5,ai6,Tryz.f5,Option.getD_some,qzl];go_wp2
  exact rfl
 .exact⟨rfl,rfl,rfl,rfl,rfl,rfl,rfl⟩
theorem ajT(a:Option Addr)(n c:Nat)(a2:Option Addr)(n2 c2 N p:Nat)(v8:Value)(off:Nat)(w:World)(p2:w.cell? ⟨p,2,none⟩=some (.int .i64 (off:Nat))){A0:Act}(h:KBk a n c a2 n2 c2 N p v8 A0):∃ A,(∀ τ d,wpList qp0 ajc.toArray (fun e x y=>e=.normal/\x=A/\y=tp w τ d) (ajc.take 3) A0 (tp w τ d))/\KBk a n c a2 n2 c2 N p v8 A/\A.eval (.tmp 43)=.slice a n c/\A.eval (.tmp 45)=.int .i64 (off:Nat):=by
 obtain⟨f,rfl⟩:=h.lit;clear h;unfold LBk pv;apply Exists.intro;apply And.intro
 .intro τ d;simp only[ajc,ajb,ai9,ai8,ai7,ai5,ai6,Tryz.f5,Option.getD_some,qzl,List.take_succ_cons,qct];have p2':(tp w τ d).cell? ⟨p,2,none⟩=some (.int .i64 (off:Nat)):=p2;go_wp2
  exact rfl
 .exact⟨⟨rfl,rfl,rfl,rfl,rfl,rfl,rfl⟩,rfl,rfl⟩
def slH:Slots:=⟨12,13,14,15,7⟩
section
variable {ε:Nat×Nat}{Φ:Goroutine->World->Prop}
theorem ajL(a:Option Addr)(n c:Nat)(a2:Option Addr)(n2 c2 N p:Nat)(l:List UInt8)(off:Nat)(w:World)(hbs:Bs w a n c l)(p2:w.cell? ⟨p,2,none⟩=some (.int .i64 (off:Nat)))(ho:off<=n)(hz:∀ i,off - 1024<=i->i<off->l.getD i 0=0){k:List Item}(K:∀ A v8,KBk a n c a2 n2 c2 N p v8 A->BW qp0 (G ((base 5).at A k) []) w Φ):∀ (m i:Nat),i+m=off->off - 1024<=i->∀ A,KBk a n c a2 n2 c2 N p (.int .i64 (i:Nat)) A->BW qp0 (G ((base 5).at A (.code aja::.inLoop aja::.inBlock 0::k)) []) w Φ:=by
 have hmax:=hbs.max;intro m
 induction m with
 | zero =>
  intro i him hi A hA;obtain⟨A9,hw9,hK9,h35⟩:=ajS a n c a2 n2 c2 N p off i w p2 (decide_eq_false (by omega)) hA;rw[ajl];refine BW.seq ?_;refine BW.seq ?_;refine BW.aie _ LG (by decide) (by kernel_rfl) hw9 ?_;refine BW.cond (t:=false) h35 ?_;simp only[jI,if_false];refine BW.ctl rfl (fun _=>stepG_exit rfl) ?_;exact K A9 _ hK9
 | succ m ih =>
  intro i him hi A hA;obtain⟨A9,hw9,hK9,h35⟩:=ajW a n c a2 n2 c2 N p off i w p2 (decide_eq_true (by omega)) hA;obtain⟨A11,akb,akd,h42⟩:=ajX a n c a2 n2 c2 N p i l w hbs (by omega) (hz i hi (by omega)) hK9;obtain⟨A10,ake,aj7⟩:=ajU a n c a2 n2 c2 N p i w (by rw[IntKind.wrap_i64];have:=hbs.cap;omega) akd;have e:aja=.seq (.seq (.region 9 ajg.toArray false) (.cond (.tmp 35) .skip (.exit 0))) (.seq (.block 1 (.seq (.region 11 aji.toArray false) (.cond (.tmp 42) ajI .skip))) (.region 10 ajj.toArray false)):=ajl
  conv=>arg 2;arg 1;arg 3;arg 1;rw[e]
  refine BW.seq ?_;refine BW.seq ?_;refine BW.aie _ LG (by decide) (by kernel_rfl) hw9 ?_;refine BW.cond (t:=true) h35 ?_;simp only[if_true];refine BW.skip ?_;refine BW.seq ?_;refine BW.ctl rfl (fun _=>stepG_block) ?_;refine BW.seq ?_;refine BW.aie _ LG (by decide) (by kernel_rfl) akb ?_;refine BW.cond (t:=false) h42 ?_;simp only[jI,if_false];refine BW.skip ?_;refine BW.ctl rfl (fun _=>stepG_inBlock) ?_;refine BW.aie _ LG (by decide) (by kernel_rfl) ake ?_;refine BW.ctl rfl (fun _=>stepG_inLoop) ?_;exact ih (i+1) (by omega) (by omega) A10 (by rw[show((i+1:Nat):Int)=(i:Int)+1 from rfl];exact aj7)
theorem KBk.stp{a:Option Addr}{n c:Nat}{a2:Option Addr}{n2 c2 N p:Nat}{v8:Value}{A:Act}(h:KBk a n c a2 n2 c2 N p v8 A)(t:Nat)(v:Value)(ht:t≠0/\t≠1/\t≠5/\t≠7/\t≠8)(h8:t<56){k:List Item}{y:World}(K:∀ A',KBk a n c a2 n2 c2 N p v8 A'->A'.eval (.tmp t)=v->(∀ j,j≠t->A'.eval (.tmp j)=A.eval (.tmp j))->BW qp0 (G ((base 5).at A' k) []) y Φ):BW qp0 (G ((base 5).at (A.put (some t) v) k) []) y Φ :=K _ (h.put t v ht) (rT (h.lt t h8)) fun j hj=>nk hj
theorem ajP(a:Option Addr)(n c:Nat)(a2:Option Addr)(n2 c2 N p:Nat)(v8:Value)(l l2:List UInt8)(off:Nat)(w y:World)(hbs:Bs w a n c l)(aj8:Bs w a2 n2 c2 l2)(hby:fI w y)(p2:y.cell? ⟨p,2,none⟩=some (.int .i64 (off:Nat)))(ho:off<=n)(hsm:n+n2<=140737488351232){A:Act}(hA:KBk a n c a2 n2 c2 N p v8 A)(K:∀ A y',KBk a n c a2 n2 c2 N p v8 A->fI y y'->(∃ a' c',A.tmps.getD 9 au=.slice a' (off+n2) c'/\kF y' y.heap.size (.slice a' (off+n2) c') (off+n2) (l.take off++l2))->BW qp0 (G ((base 5).at A [.code (.seq (.region 15 ajo true) .ret)]) []) y' Φ):BW qp0 (G ((base 5).at A [.code ajb]) []) y Φ:=by
 have hcap:=hbs.cap;have hlen:=hbs.len;have hbt:Bs w a off c (l.take off):=Qk hbs off ho;obtain⟨A3,hw3,hK3,h43,h45⟩:=ajT a n c a2 n2 c2 N p v8 off y p2 hA;rw[ajA];refine BW.seq ?_;refine BW.region ?_;have e:List.range' 0 ajc.toArray.size=List.range' 0 (ajc.take 3).length++[3,4,5]:=by kernel_rfl
 rw[e];refine BW.still A3 (ajc.take 3) 0 (by decide) LG (fun j hj=>?_) (by kernel_rfl) hw3 ?_
 .have hj3:j<3:=by rw[zQ] at hj;omega
  rw[lU,List.getElem?_take_of_lt hj3];simp
 refine ajM rfl rfl rfl (by decide) h43 h45 (by omega) (fun h=>(hbs.2.2.2.2 h).2) fun y2 hb2=>?_
 refine hK3.stp 46 _ (by decide) (by decide) fun A4 hK4 h46 _=>?_
 refine aiT rfl rfl rfl (by decide) h46 (hby.seq hb2) hbt (by omega) fun y3 da m dc hoz hb3=>?_
 have hm:m=off:=by have:=Bh hoz.own;rw[zQ] at this;omega
 subst hm;refine hK4.stp 47 _ (by decide) (by decide) fun A5 hK5 h47 _=>?_
 refine BW.move rfl rfl (by decide) (.inr rfl) ?_;refine hK5.stp 9 _ (by decide) (by decide) fun A6 hK6 h9 _=>?_
 refine BW.rend ?_;have aaf:fI y y3:=hb2.seq hb3;have aj9:=World.ownsRow.mono hoz.own hb2.size;refine BW.seq ?_;refine BW.region ?_;have e:List.range' 0 ajE.size=[0,1,2,3]:=by kernel_rfl
 rw[e];refine BW.move rfl rfl (by decide) (.inl rfl) ?_;refine hK6.stp 48 _ (by decide) (by decide) fun A7 hK7 h48 _=>?_
 refine BW.move rfl rfl (by decide) (.inl rfl) ?_;refine hK7.stp 49 _ (by decide) (by decide) fun A8 hK8 h49 o8=>?_
 have h48':A8.eval (.tmp 48)=.slice da m dc:=(o8 48 (by decide)).trans (h48.trans (h9.trans h47));have akI:A8.eval (.tmp 49)=.slice a2 n2 c2:=h49.trans hK7.g1;refine Cc.BW.op1 (Rr:=fun x u=>∃ a' c',x=A8.put (some 50) (.slice a' (m+n2) c')/\kF u y.heap.size (.slice a' (m+n2) c') (m+n2) (l.take m++l2)/\fI y u) LG rfl (by decide) rfl (fun τ d=>?_) (fun x u τ d hq=>?_) fun x y4 hq=>?_
 .have ho2:kF (tp y3 τ d) y.heap.size (.slice da m dc) m (l.take m):=kF.kept (w:=y3) ⟨aj9,hoz.cl⟩ fun _ _=>rfl
  refine sO rfl _ _ rfl y.heap.size h48' ho2 akI (((hby.seq aaf).tp τ d).keeps.bs aj8) (by omega) aaf.size fun a' c' w' ho3 hg=>?_
  refine⟨rfl,a',c',rfl,ho3,?_⟩;have:=below_app (B:=y.heap.size) (w0:=tp y τ d) (w:=tp y3 τ d) ⟨aaf.os,rfl,aaf.output,aaf.size,aaf.block⟩ ho2.own hg (aY _) aaf.size;exact .pR (τ:=τ) (d:=d) this
 .obtain⟨a',c',h1,h2,h3⟩:=hq;exact⟨a',c',h1,h2.kept fun _ _=>rfl,h3.tp τ d⟩
 obtain⟨a',c',rfl,Rs,hb4⟩:=hq;refine hK8.stp 50 _ (by decide) (by decide) fun A9 hK9 h50 _=>?_
 refine BW.move rfl rfl (by decide) (.inr rfl) ?_;refine hK9.stp 9 _ (by decide) (by decide) fun A10 aj7 h9 _=>?_
 refine BW.rend ?_;exact K _ y4 aj7 hb4 ⟨a',c',h9.trans h50,Rs⟩
def ajV(w:World)(x:Option Addr)(m cp:Nat)(P:Plain.Pz)(va:Value)(lim:kG):Nat->Value->World->Prop
 | 0,v,_=>v=.agg #[.slice x m cp,.int .i64 P.code,.int .i64 P.off,.int .i64 P.held]
 | 1,v,_=>v=va
 | 2,v,_=>v=nV lim
 | 3,v,y=>Vf w P v y
 | 4,v,_=>v=.bool true
 | _,_,_=>True
theorem ajH{w:World}{x:Option Addr}{m cp:Nat}{P:Plain.Pz}{va:Value}{lim:kG}(i:Nat)(v:Value)(y y':World)(h:ajV w x m cp P va lim i v y)(hb:fI y y'):ajV w x m cp P va lim i v y':=by
 rcases i with _|_|_|_|_|i
 .exact h
 .exact h
 .exact h
 .exact Vf.keep h hb
 .exact h
 .trivial
def akf:Nat->Nat:=fun i=>[51,52,53,54,55].getD i 0
def akc:List (List Nat):=[[],[],[],[1,2],[0,3],[0,1,2,3,4]]
theorem ajK(a:Option Addr)(n c:Nat)(a2:Option Addr)(n2 c2 N p:Nat)(v8:Value)(l3:List UInt8)(lim:kG)(w y:World)(ev:Value)(hml:uF w)(her:eO w ev)(hpw:lV w)(hbr:EZ w){D:Nat->Prop}(hcl:bU qp0 (dW ε) (fun _=>False) D #[] w)(hby:fI w y){A0:Act}(hA:KBk a n c a2 n2 c2 N p v8 A0)(hry:y.heap[N]? = some (.cells #[.int .i64 lim.name,.int .i64 lim.iP] 24))(P:Plain.Pz)(hP:Plain.jA l3 lim=P)(x:Option Addr)(m cp:Nat)(S:List EU)(aiO:y.heap[p]? = some (.cells #[.slice x m cp,.int .i64 P.code,.int .i64 P.off,.int .i64 P.held] 30))(hS:S.map (·.1)=P.ents)(hE:Qg y x m cp S)(a3:Option Addr)(n3 c3 B:Nat)(h9:A0.tmps.getD 9 au=.slice a3 n3 c3)(ho:kF y B (.slice a3 n3 c3) n3 l3)(hB:w.heap.size<=B)(hn3:n3<=140737488351232):BW qp0 (G ((base 5).at A0 [.code (.seq (.region 15 ajo true) .ret)]) []) y (Cc.Ends qp0 fun v w'=>v=.bool true/\fI w w'):=by
 obtain⟨T,D0⟩:=A0;obtain rfl:D0=[]:=hA.df;have hTs:T.size=56:=hA.size;refine BW.seq ?_;refine Cc.aiY (n:=5) (by kernel_rfl) (by kernel_rfl) akc (by kernel_rfl) (by decide) (by decide) akf (by rw[hTs];decide) (by decide) (ajV y x m cp P (.slice a3 n3 c3) lim) ajH (fun A z=>A.defers=[]/\A.tmps.getD 6 au=.bool true/\fI y z) ?_ ?_ ?_
 .intro i hi A z rest hBs aij K2;have v7:A.tmps.getD 7 au=pv p:=(hBs.old 7 (by decide)).trans hA.g7;have v9:A.tmps.getD 9 au=.slice a3 n3 c3:=(hBs.old 9 (by decide)).trans h9;have hbz:fI w z:=hby.seq hBs.bJ;rcases (by omega:i=0\/i=1\/i=2\/i=3\/i=4) with rfl|rfl|rfl|rfl|rfl
  .have hrow:z.heap[p]? = _:=(hBs.bJ.block _ (fT.1 aiO).1).trans aiO;refine Cc.BW.TV (.agg #[.slice x m cp,.int .i64 P.code,.int .i64 P.off,.int .i64 P.held]) (Rw:=fun u=>∃ τ d,u=tp z τ d) LG rfl (by decide) rfl (fun τ d=>?_) (fun w' τ d hr=>⟨τ,d,by obtain⟨_,_,rfl⟩:=hr;rfl⟩) fun z2 hr=>?_
   .refine cK rfl _ _ rfl p 0 v7 #[.slice x m cp,.int .i64 P.code,.int .i64 P.off,.int .i64 P.held] _ (fun j v hj=>?_) underlying30 rfl (by kernel_rfl) ⟨rfl,rfl,τ,d,rfl⟩;rw[lU,cell_of_row _ _ _ _ _ _ (show(tp z τ d).heap[p]? = _ from hrow),<-qaV];exact hj
   .obtain⟨τ,d,rfl⟩:=hr;exact K2 _ _ ((fI.refl z).tp τ d) rfl
  .refine BW.move rfl rfl (by decide) (.inl rfl) ?_;exact K2 _ _ (.refl z) v9
  .exact aiv rfl rfl rfl (by decide) ((hBs.old 5 (by decide)).trans hA.g5) ((hBs.bJ.block _ (fT.1 hry).1).trans hry) fun z2 hb3=>K2 _ _ hb3 rfl
  .have d1:A.eval (.tmp 52)=.slice a3 n3 c3:=aij 1 (by decide);have d2:A.eval (.tmp 53)=nV lim:=aij 2 (by decide);have hoz:=kF.bJ ho hBs.bJ;obtain⟨D',hst,_⟩:=CQ hcl hbz hoz.cl (fun g hg=>tT hB (hoz.own.lt g hg).1);refine JX (ε:=ε) (lim:=lim) (data:=l3) rfl rfl (by decide) rfl d1 d2 (OY hoz.own) hn3 (xP hbz hml) (tH hbz her) (xW hbz hpw) hst fun v z2 hp=>?_
   rw[hP] at hp;exact K2 _ _ hp.bJ (Vf.base hp hBs.bJ)
  .have d0:A.eval (.tmp 51)=_:=aij 0 (by decide);obtain⟨⟨xx,nn,cc,Q,hv,hQ,hown,hdt⟩,_⟩:=aij 3 (by decide);have hv:A.eval (.tmp 54)=_:=hv;refine BW.call (Rr:=fun v w'=>v=.bool true/\fI z w') rfl rfl (by decide) rfl okA (by kernel_rfl) func17 rfl (vs:=#[.agg #[.slice x m cp,.int .i64 P.code,.int .i64 P.off,.int .i64 P.held],.agg #[.slice xx nn cc,.int .i64 P.code,.int .i64 P.off,.int .i64 P.held]]) (by simp only[List.map_toArray,qcf,List.map_nil,d0,hv]) (fun τ d=>(aip x xx m nn cp cc S Q P.code P.off P.held (tp z τ d) ((hE.keep hBs.bJ.keeps).keep ((fI.refl z).tp τ d).keeps) ((adN hown hdt).keep ((fI.refl z).tp τ d).keeps) (by rw[hS,hQ])).mono fun e w' hq=>⟨_,hq.1,rfl,.pR hq.2⟩) (fun v w' τ d hq=>⟨hq.1,hq.2.tp τ d⟩) fun v z2 hv2=>?_
   obtain⟨rfl,hb3⟩:=hv2;exact K2 _ _ hb3 rfl
 .intro A z rest hBs hall K2;have d4:A.eval (.tmp 55)=.bool true:=hall 4 (by decide);refine BW.move rfl rfl (by decide) (.inr rfl) ?_;exact K2 _ _ ⟨hBs.df,(rT (by rw[hBs.size,hTs];decide)).trans d4,hBs.bJ⟩
 .intro A z hF;obtain⟨tm,df⟩:=A;obtain⟨rfl,h6,hb⟩:=hF;refine BW.rend ?_;refine BW.ret ?_;exact BW.ends func5 (by kernel_rfl) (fun w=>results_tmp rfl _ _ w) fun d=>⟨h6,(hby.seq hb).tp _ _⟩
theorem aj3(a:Option Addr)(n c:Nat)(l:List UInt8)(a2:Option Addr)(n2 c2:Nat)(l2:List UInt8)(lim:kG)(w:World)(ev:Value)(hb:Bs w a n c l)(hc0:c<=1048576)(hb2:Bs w a2 n2 c2 l2)(hc2:c2<=1048576)(hml:uF w)(her:eO w ev)(hpw:lV w)(hbr:EZ w){D:Nat->Prop}(hcl:bU qp0 (dW ε) (fun _=>False) D #[] w):BW qp0 (G (Frame.enter qp0 5 #[.slice a n c,.slice a2 n2 c2,nV lim] .normal) []) w (Cc.Ends qp0 fun v w'=>v=.bool true/\fI w w'):=by
 have hcap:=hb.cap;have hcap2:=hb2.cap;have hsm:n+n2<=140737488351232:=by omega
 have hn:n<=140737488351232:=by omega
 have hlen:=hb.len;refine ajN a n c a2 n2 c2 lim w ev hml her hpw hbr hcl fun w2 TH hl2=>?_
 rw[ajq];refine BW.seq ?_;have hTs:(aj0 a n c a2 n2 c2 lim w.heap.size).size=56:=rfl;refine Tw (ε:=ε) (s:=slH) (xs:=0) (lp:=5) (lb:=w.heap.size) ⟨⟨_,rfl,rfl,rfl,rfl⟩,⟨_,_,rfl,rfl,rfl,rfl⟩,⟨_,rfl,rfl,rfl,rfl⟩,⟨_,_,rfl,rfl,rfl,rfl⟩,⟨_,rfl,rfl,rfl,rfl⟩,⟨_,rfl,rfl,rfl,rfl⟩,rfl,by kernel_rfl⟩ (by rw[hTs];decide) (by decide) (by decide) (by decide) (by decide) rfl hb hn rfl hl2 hml her hpw hcl TH fun A y hF=>?_
 obtain⟨tm,df⟩:=A;obtain rfl:df=[]:=hF.df;obtain⟨p,x,m,cp,S,hp1,aiO,hp3,hS,aiW,ai3⟩:=hF.ex;have hK:KBk a n c a2 n2 c2 w.heap.size p (tm.getD 8 au) ⟨tm,[]⟩:=⟨rfl,hF.size,hF.old 0 (by decide),hF.old 1 (by decide),hF.old 5 (by decide),hp1,rfl⟩;have hby:fI w y:=TH.seq hF.bJ;have hry:y.heap[w.heap.size]? = some (.cells #[.int .i64 lim.name,.int .i64 lim.iP] 24):=(hF.bJ.block _ (fT.1 hl2).1).trans hl2;have p1:y.cell? ⟨p,1,none⟩=some (.int .i64 (Plain.jA l lim).code):=cell_of_row _ _ _ _ _ _ aiO;have p2:y.cell? ⟨p,2,none⟩=some (.int .i64 ((Plain.jA l lim).off:Nat)):=cell_of_row _ _ _ _ _ _ aiO;obtain⟨A4,hw4,hK4,h18⟩:=ajY a n c a2 n2 c2 w.heap.size p _ _ _ y p1 rfl hK;rw[ajy];refine BW.seq ?_;refine BW.seq ?_;refine BW.aie _ LG (by decide) (by kernel_rfl) hw4 ?_;refine BW.cond h18 ?_
 cases hd:((Plain.jA l lim).code != 0) with
 | true =>
  simp only[if_true];obtain⟨o,e1,e2,e3,e4⟩:=ajG;exact ait func5 (by kernel_rfl) (by simp only[Tryz.f5]) e1 e2 e3 e4 hK4.df (by rw[hK4.size];decide) hby
 | false =>
  have hc:(Plain.jA l lim).code=0:=by simpa using hd
  obtain⟨b1,b2,b3,b4⟩:=Plain.ajk l l2 lim hc;rw[hlen] at b2;have hbs:=hby.keeps.bs hb;obtain⟨A6,hw6,hK6,h28⟩:=aj4 a n c a2 n2 c2 w.heap.size p _ _ y p2 (decide_eq_false (by omega)) (decide_eq_false (by omega)) hK4;obtain⟨A8,hw8,hK8⟩:=aj6 a n c a2 n2 c2 w.heap.size p _ _ y p2 (by rw[IntKind.wrap_i64];omega) hK6;simp only[jI,if_false];refine BW.skip ?_;rw[ajw];refine BW.seq ?_;refine BW.seq ?_;refine BW.aie _ LG (by decide) (by kernel_rfl) hw6 ?_;refine BW.cond (t:=false) h28 ?_;simp only[jI,if_false];refine BW.skip ?_;rw[ajx];refine BW.seq ?_;refine BW.seq ?_;refine BW.aie _ LG (by decide) (by kernel_rfl) hw8 ?_;refine BW.ctl rfl (fun _=>stepG_block) ?_;refine BW.ctl rfl (fun _=>stepG_loop) ?_;refine ajL a n c a2 n2 c2 w.heap.size p l _ y hbs p2 b2 (fun i h1 h2=>by rw[List.getD_eq_getElem?_getD,b3 i h1 h2];rfl) (fun A v8 hA=>?_) 1024 ((Plain.jA l lim).off - 1024) (by omega) (aY _) A8 (by rw[show(((Plain.jA l lim).off - 1024:Nat):Int)=((Plain.jA l lim).off:Int) - 1024 from by omega];exact hK8);refine ajP a n c a2 n2 c2 w.heap.size p v8 l l2 _ w y hb hb2 hby p2 b2 hsm hA fun A' y' hA' hb3 hex=>?_
  obtain⟨a3,c3,h9,ho⟩:=hex;exact ajK a n c a2 n2 c2 w.heap.size p v8 _ lim w y' ev hml her hpw hbr hcl (hby.seq hb3) hA' ((hb3.block _ (fT.1 hry).1).trans hry) _ b4 x m cp S ((hb3.block _ (fT.1 aiO).1).trans aiO) hS ((adN aiW ai3).keep hb3.keeps) a3 _ c3 y.heap.size h9 ho hby.size (by omega)
end
end St
end
end Go.Proofs.YtdbgldieilgnmaaGreatDoor
